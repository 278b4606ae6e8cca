/- Logs that lie whole on a disk, without a program: groups of entries, a file each; what an opening reads of them. -/
import Derived.Test.YtdolbeonpkanpaaGreatDoorMSgR
set_option linter.unusedVariables false
set_option linter.unusedSimpArgs false
namespace Go.Proofs.YtdolbeonpkanpaaGreatDoor
/-! ## names in order -/
theorem numD_cons (c : UInt8) (l : List UInt8) : numD (c :: l) = (c.toNat - 48) * 10 ^ l.length + numD l := by
  have key : ∀ (l : List UInt8) (a : Nat), l.foldl (fun n c => n * 10 + (c.toNat - 48)) a = a * 10 ^ l.length + numD l := by
    intro l
    induction l with
    | nil => intro a; simp [numD]
    | cons x l ih =>
      intro a
      rw [List.foldl_cons, ih]
      have h2 : numD (x :: l) = (0 * 10 + (x.toNat - 48)) * 10 ^ l.length + numD l := by
        unfold numD
        rw [List.foldl_cons]
        exact ih _
      rw [h2, List.length_cons, Nat.pow_succ, Nat.add_mul, Nat.zero_mul, Nat.zero_add, Nat.mul_assoc, Nat.mul_comm 10 (10 ^ l.length)]
      omega
  have := key l (0 * 10 + (c.toNat - 48))
  rw [Nat.zero_mul, Nat.zero_add] at this
  unfold numD
  rw [List.foldl_cons, Nat.zero_mul, Nat.zero_add]
  exact this
theorem dec_lt : ∀ {a b : List UInt8}, a.length = b.length → (∀ c ∈ a, isDig c = true) → (∀ c ∈ b, isDig c = true) → numD a < numD b → a < b
  | [], [], _, _, _, h => absurd h (Nat.lt_irrefl _)
  | x :: a, y :: b, hl, ha, hb, h => by
    simp only [List.length_cons, Nat.add_right_cancel_iff] at hl
    have hx := ha x (List.mem_cons_self ..)
    have hy := hb y (List.mem_cons_self ..)
    unfold isDig at hx hy
    simp only [Bool.and_eq_true, decide_eq_true_eq] at hx hy
    have ha' := fun c hc => ha c (List.mem_cons_of_mem _ hc)
    have hb' := fun c hc => hb c (List.mem_cons_of_mem _ hc)
    have h1 := numD_lt ha'
    have h2 := numD_lt hb'
    rw [numD_cons, numD_cons, hl] at h
    rw [hl] at h1
    rcases Nat.lt_trichotomy x.toNat y.toNat with hc | hc | hc
    · exact List.Lex.rel (UInt8.lt_iff_toNat_lt.2 hc)
    · have e : x = y := UInt8.toNat_inj.1 hc
      subst e
      exact List.Lex.cons (dec_lt hl ha' hb' (by omega))
    · exfalso
      have : (y.toNat - 48 + 1) * 10 ^ b.length ≤ (x.toNat - 48) * 10 ^ b.length := Nat.mul_le_mul_right _ (by omega)
      rw [Nat.add_mul, Nat.one_mul] at this
      omega
theorem app_lt (p : Nm) {a b : Nm} (h : a < b) : p ++ a < p ++ b := by
  induction p with
  | nil => exact h
  | cons x p ih => exact List.Lex.cons ih
theorem nameN_lt (p : Nm) {n m : Nat} (h : n < m) (hm : m < 100000000) : nameN p n < nameN p m :=
  app_lt p (dec_lt (by rw [dig8_len (by omega), dig8_len hm]) (dig8_all n) (dig8_all m) (by rw [numD_dig8, numD_dig8]; exact h))
/-- Two rows in order with the same names are the same. -/
theorem sorted_eq : ∀ {a b : List Nm}, a.Pairwise (· < ·) → b.Pairwise (· < ·) → (∀ x, x ∈ a ↔ x ∈ b) → a = b
  | [], [], _, _, _ => rfl
  | [], y :: b, _, _, h => absurd ((h y).2 (List.mem_cons_self ..)) (by simp)
  | x :: a, [], _, _, h => absurd ((h x).1 (List.mem_cons_self ..)) (by simp)
  | x :: a, y :: b, ha, hb, h => by
    rw [List.pairwise_cons] at ha hb
    have e : x = y := by
      rcases List.mem_cons.1 ((h x).1 (List.mem_cons_self ..)) with h1 | h1
      · exact h1
      · rcases List.mem_cons.1 ((h y).2 (List.mem_cons_self ..)) with h2 | h2
        · exact h2.symm
        · exact absurd (nm_tr (ha.1 y h2) (hb.1 x h1)) (nm_irr _)
    subst e
    congr 1
    refine sorted_eq ha.2 hb.2 fun z => ?_
    constructor
    · intro hz
      rcases List.mem_cons.1 ((h z).1 (List.mem_cons_of_mem _ hz)) with h1 | h1
      · subst h1; exact absurd (ha.1 z hz) (nm_irr _)
      · exact h1
    · intro hz
      rcases List.mem_cons.1 ((h z).2 (List.mem_cons_of_mem _ hz)) with h1 | h1
      · subst h1; exact absurd (hb.1 z hz) (nm_irr _)
      · exact h1
/-! ## groups of entries -/
abbrev Gr := List (List UInt8)
def segsG : Nat → List Gr → List (Nat × Nat)
  | _, [] => []
  | n, g :: gs => (n, (recsN n g).length) :: segsG (n + g.length) gs
def filesG (p : Nm) : Nat → List Gr → List (Nm × List UInt8)
  | _, [] => []
  | n, g :: gs => (nameN p n, recsN n g) :: filesG p (n + g.length) gs
/-- How many entries. -/
def cntG (gs : List Gr) : Nat := gs.flatten.length
theorem cntG_cons (g : Gr) (gs : List Gr) : cntG (g :: gs) = g.length + cntG gs := by simp [cntG]
theorem segsG_app (n : Nat) (gs : List Gr) (g : Gr) : segsG n (gs ++ [g]) = segsG n gs ++ [(n + cntG gs, (recsN (n + cntG gs) g).length)] := by
  induction gs generalizing n with
  | nil => simp [segsG, cntG]
  | cons x gs ih => rw [List.cons_append, segsG, ih, segsG, cntG_cons, Nat.add_assoc]; rfl
theorem filesG_app (p : Nm) (n : Nat) (gs : List Gr) (g : Gr) : filesG p n (gs ++ [g]) = filesG p n gs ++ [(nameN p (n + cntG gs), recsN (n + cntG gs) g)] := by
  induction gs generalizing n with
  | nil => simp [filesG, cntG]
  | cons x gs ih => rw [List.cons_append, filesG, ih, filesG, cntG_cons, Nat.add_assoc]; rfl
theorem recsN_app (n : Nat) (g : Gr) (e : List UInt8) : recsN n (g ++ [e]) = recsN n g ++ recN (n + g.length) e := by
  induction g generalizing n with
  | nil => simp [recsN]
  | cons x g ih =>
    rw [List.cons_append, recsN, ih, recsN, List.append_assoc]
    have : n + 1 + g.length = n + (x :: g).length := by simp; omega
    rw [this]
theorem filesG_name {p : Nm} : ∀ {gs : List Gr} {n : Nat} {x : Nm × List UInt8}, x ∈ filesG p n gs → ∃ m, n ≤ m ∧ m ≤ n + cntG gs ∧ x.1 = nameN p m
  | [], _, _, h => by simp [filesG] at h
  | g :: gs, n, x, h => by
    rw [filesG] at h
    rcases List.mem_cons.1 h with rfl | h
    · exact ⟨n, Nat.le_refl _, by omega, rfl⟩
    · obtain ⟨m, h1, h2, h3⟩ := filesG_name h
      exact ⟨m, by omega, by rw [cntG_cons]; omega, h3⟩
theorem filesG_sorted (p : Nm) : ∀ (gs : List Gr) (n : Nat), (∀ g ∈ gs, g ≠ []) → n + cntG gs < 100000000 → ((filesG p n gs).map Prod.fst).Pairwise (· < ·)
  | [], _, _, _ => List.Pairwise.nil
  | g :: gs, n, hne, hc => by
    rw [filesG, List.map_cons, List.pairwise_cons]
    rw [cntG_cons] at hc
    have hg : 0 < g.length := List.length_pos_iff.2 (hne g (List.mem_cons_self ..))
    refine ⟨fun y hy => ?_, filesG_sorted p gs _ (fun x hx => hne x (List.mem_cons_of_mem _ hx)) (by omega)⟩
    obtain ⟨x, hx, rfl⟩ := List.mem_map.1 hy
    obtain ⟨m, h1, h2, h3⟩ := filesG_name hx
    rw [h3]
    exact nameN_lt p (by omega) (by omega)
theorem walk_files {p : Nm} {k : Dk} : ∀ (gs : List Gr) (n : Nat) (lg : Lg) (rest : List Nm), lg.L.length + 1 = n → n + cntG gs ≤ 4398046511104 → (∀ g ∈ gs, ∀ e ∈ g, e.length ≤ 65526) → (∀ x ∈ filesG p n gs, (rdN x.1 k).1 = x.2) →
    walkN k p ((filesG p n gs).map Prod.fst ++ rest) lg = walkN k p rest { lg with L := lg.L ++ gs.flatten, segs := lg.segs ++ segsG n gs }
  | [], n, lg, rest, _, _, _, _ => by simp [filesG, segsG]
  | g :: gs, n, lg, rest, hn, hc, hs, hf => by
    rw [cntG_cons] at hc
    have h0 := hf (nameN p n, recsN n g) (by rw [filesG]; exact List.mem_cons_self ..)
    simp only at h0
    have hr : rdSeg (recsN n g) n = (g, (recsN n g).length) := by
      have := rdSeg_recs g n [] (by omega) (hs g (List.mem_cons_self ..))
      rw [List.append_nil] at this
      rw [this, rdSeg_stop (decN_short (by simp)), List.append_nil]
      simp
    have hre : readN p k lg (nameN p n) = (((recsN n g).length : Int), true, { lg with L := lg.L ++ g, segs := lg.segs ++ [(n, (recsN n g).length)] }) := by
      unfold readN
      rw [hn, if_neg (by simp), h0, hr]
      simp
    rw [filesG, List.map_cons, List.cons_append, walkN, hre]
    simp only [if_true]
    rw [walk_files gs (n + g.length) _ rest (by simp; omega) (by omega) (fun x hx => hs x (List.mem_cons_of_mem _ hx)) (fun x hx => hf x (by rw [filesG]; exact List.mem_cons_of_mem _ hx))]
    rw [segsG]
    simp
/-- A disk on which the groups lie, a file each, and no other file of that prefix. -/
structure LayD (p : Nm) (k : Dk) (gs : List Gr) : Prop where
  dk : k.Ok
  ne : ∀ g ∈ gs, g ≠ []
  small : ∀ g ∈ gs, ∀ e ∈ g, e.length ≤ 65526
  cnt : cntG gs < 99999999
  has : ∀ x ∈ filesG p 1 gs, isF k.L x.1 = true ∧ (rdN x.1 k).1 = x.2
  only : ∀ s, segN p s = true → isF k.L s = true → s ∈ (filesG p 1 gs).map Prod.fst
theorem LayD.names {p : Nm} {k : Dk} {gs : List Gr} (h : LayD p k gs) : segNames p k = (filesG p 1 gs).map Prod.fst := by
  refine sorted_eq ?_ (filesG_sorted p gs 1 h.ne (by have := h.cnt; omega)) fun s => ?_
  · have h1 : (k.L.map Prod.fst).Pairwise (· < ·) := by
      rw [List.pairwise_map]
      exact h.dk.sorted
    exact h1.sublist (segNames_sub p k)
  · rw [segNames_mem h.dk]
    constructor
    · rintro ⟨h1, h2⟩
      exact h.only s h1 h2
    · intro hs
      obtain ⟨x, hx, rfl⟩ := List.mem_map.1 hs
      obtain ⟨m, h1, h2, h3⟩ := filesG_name hx
      refine ⟨?_, (h.has x hx).1⟩
      rw [h3]
      exact segN_of p (by have := h.cnt; omega)
/-- What an opening makes of them. -/
theorem LayD.open {p : Nm} {k : Dk} {gs : List Gr} (h : LayD p k gs) (hl : k.left = none) :
    ∃ k2, openN p k = (0, ⟨gs.flatten, segsG 1 gs, gs.flatten.length, false⟩, k2) ∧ k2.Ok ∧ k2.left = none ∧ ∀ nm, rdN nm k2 = rdN nm k := by
  have hw : walkN k p (segNames p k) lg0 = (⟨gs.flatten, segsG 1 gs, 0, false⟩, none) := by
    rw [h.names]
    have := walk_files (p := p) (k := k) gs 1 lg0 [] rfl (by have := h.cnt; omega) h.small (fun x hx => (h.has x hx).2)
    rw [List.append_nil] at this
    rw [this, walkN]
    simp [lg0]
  have hsy : ∀ g ∈ segsG 1 gs, badN (nameN p g.1) = false ∧ isF k.L (nameN p g.1) = true := by
    have key : ∀ (gs : List Gr) (n : Nat) (g : Nat × Nat), g ∈ segsG n gs → ∃ x ∈ filesG p n gs, x.1 = nameN p g.1 := by
      intro gs
      induction gs with
      | nil => intro n g hg; simp [segsG] at hg
      | cons y gs ih =>
        intro n g hg
        rw [segsG] at hg
        rcases List.mem_cons.1 hg with rfl | hg
        · exact ⟨_, by rw [filesG]; exact List.mem_cons_self .., rfl⟩
        · obtain ⟨x, hx, e⟩ := ih _ g hg
          exact ⟨x, by rw [filesG]; exact List.mem_cons_of_mem _ hx, e⟩
    intro g hg
    obtain ⟨x, hx, e⟩ := key gs 1 g hg
    have hf := (h.has x hx).1
    rw [e] at hf
    obtain ⟨y, hy, hyn⟩ := (isF_iff h.dk.sorted).1 hf
    have hlen := h.dk.names y hy
    rw [hyn] at hlen
    refine ⟨badN_no ?_ hlen, hf⟩
    unfold nameN dig8
    simp only [List.length_append]
    have := dd_pos g.1
    omega
  obtain ⟨k2, f2, hk2, hl2, hr2⟩ := syncAll_free p (segsG 1 gs) h.dk hl hsy
  refine ⟨k2, ?_, hk2, hl2, hr2⟩
  unfold openN
  rw [hw]
  show (if (0 : Nat) ≠ 0 then ((0 : Nat), lg0, k) else if (syncAll p (segsG 1 gs) k).1 ≠ 0 then ((syncAll p (segsG 1 gs) k).1, lg0, (syncAll p (segsG 1 gs) k).2) else (0, (⟨gs.flatten, segsG 1 gs, gs.flatten.length, false⟩ : Lg), (syncAll p (segsG 1 gs) k).2)) = _
  rw [f2]
  rfl
end Go.Proofs.YtdolbeonpkanpaaGreatDoor
