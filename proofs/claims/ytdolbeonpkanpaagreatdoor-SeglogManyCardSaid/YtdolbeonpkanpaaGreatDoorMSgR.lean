/- Open, without a program: what it leaves. Logs, without a program: what is read of records that were laid; what is known. -/
import Derived.Test.YtdolbeonpkanpaaGreatDoorMSgO
set_option linter.unusedVariables false
set_option linter.unusedSimpArgs false
namespace Go.Proofs.YtdolbeonpkanpaaGreatDoor
theorem rdRows_nil : ∀ (qs : List (List UInt8)) (n : Nat), (rdRows qs n).1 = [] → (rdRows qs n).2 = 0
  | [], _, _ => rfl
  | q :: qs, n, h => by
    rw [rdRows] at h ⊢
    split at h
    · cases h
    · rename_i hc; rw [if_neg hc]
theorem rdSeg_nil {l : List UInt8} {n : Nat} (h : (rdSeg l n).2 ≠ 0) : (rdSeg l n).1 ≠ [] := fun e => h (rdRows_nil _ _ e)
theorem rdSeg_zero {l : List UInt8} {n : Nat} (h : (rdSeg l n).2 = 0) : (rdSeg l n).1 = [] := by
  have := (rdRows_len (scanN l).1 n).1
  exact List.eq_nil_of_length_eq_zero (by unfold rdSeg at h ⊢; omega)
def lenS (k : Dk) (l : List Nm) : Nat := (l.map fun s => (rdN s k).1.length).sum
theorem lenS_snoc (k : Dk) (l : List Nm) (s : Nm) : lenS k (l ++ [s]) = lenS k l + (rdN s k).1.length := by simp [lenS]
/-- Half-way through the names: what the log has. -/
structure WInv (p : Nm) (k : Dk) (done : List Nm) (lg : Lg) : Prop where
  ofS : ∀ g ∈ lg.segs, nameN p g.1 ∈ done ∧ (rdN (nameN p g.1) k).1.length = g.2
  all : ∀ s ∈ done, ∃ g ∈ lg.segs, s = nameN p g.1
  top : ∀ g ∈ lg.segs, g.1 ≤ lg.L.length + 1
  last : ∀ g ∈ lg.segs, g.1 = lg.L.length + 1 → lastSeg lg = g ∧ g.2 = 0
  many : lg.L.length * 12 ≤ lenS k done
  msegs : lg.segs.length ≤ done.length
  ents : ∀ e ∈ lg.L, e.length ≤ 1073741824
  synced : lg.synced = 0
  dead : lg.dead = false
  segs : lg.segs = [] → lg.L = []
theorem winv_start (p : Nm) (k : Dk) : WInv p k [] lg0 := ⟨by simp [lg0], by simp, by simp [lg0], by simp [lg0], Nat.zero_le _, Nat.le_refl _, by simp [lg0], rfl, rfl, fun _ => rfl⟩
/-- A segment's entries are added. -/
theorem winv_add {p : Nm} {k : Dk} (hk : k.Ok) {done : List Nm} {lg : Lg} (h : WInv p k done lg) {b : List UInt8} (hb : b.length ≤ 1073741824) (hne : nameN p (lg.L.length + 1) ∉ done) (hg : (rdSeg b (lg.L.length + 1)).2 = (rdN (nameN p (lg.L.length + 1)) k).1.length) (hle : (rdSeg b (lg.L.length + 1)).1.length * 12 ≤ (rdN (nameN p (lg.L.length + 1)) k).1.length) :
    WInv p k (done ++ [nameN p (lg.L.length + 1)]) { lg with L := lg.L ++ (rdSeg b (lg.L.length + 1)).1, segs := lg.segs ++ [(lg.L.length + 1, (rdSeg b (lg.L.length + 1)).2)] } := by
  have hno : ∀ g ∈ lg.segs, g.1 ≠ lg.L.length + 1 := fun g hg e => hne (by rw [← e]; exact (h.ofS g hg).1)
  refine ⟨?_, ?_, ?_, ?_, ?_, ?_, ?_, h.synced, h.dead, fun e => by simp at e⟩
  · intro g hg'
    rcases List.mem_append.1 hg' with hg' | hg'
    · exact ⟨List.mem_append_left _ (h.ofS g hg').1, (h.ofS g hg').2⟩
    · rw [List.mem_singleton.1 hg']; exact ⟨by simp, hg.symm⟩
  · intro s hs
    rcases List.mem_append.1 hs with hs | hs
    · obtain ⟨g, hg', e⟩ := h.all s hs
      exact ⟨g, List.mem_append_left _ hg', e⟩
    · exact ⟨_, List.mem_append_right _ (List.mem_singleton.2 rfl), List.mem_singleton.1 hs⟩
  · intro g hg'
    simp only [List.length_append]
    rcases List.mem_append.1 hg' with hg' | hg'
    · have := h.top g hg'; omega
    · rw [List.mem_singleton.1 hg']; simp only; omega
  · intro g hg' e
    simp only [List.length_append] at e
    rcases List.mem_append.1 hg' with hg' | hg'
    · have := h.top g hg'
      have := hno g hg'
      omega
    · rw [List.mem_singleton.1 hg'] at e ⊢
      simp only at e ⊢
      have h0 : (rdSeg b (lg.L.length + 1)).1 = [] := List.eq_nil_of_length_eq_zero (by omega)
      exact ⟨by simp [lastSeg], rdRows_nil _ _ h0⟩
  · rw [lenS_snoc]
    simp only [List.length_append]
    have := h.many
    omega
  · simp only [List.length_append, List.length_singleton]; have := h.msegs; omega
  · intro e he
    rcases List.mem_append.1 he with he | he
    · exact h.ents e he
    · exact Nat.le_trans ((rdSeg_le b (lg.L.length + 1)).2.2 e he) hb
theorem readN_at (p : Nm) (k : Dk) (lg : Lg) : readN p k lg (nameN p (lg.L.length + 1)) = (((rdSeg (rdN (nameN p (lg.L.length + 1)) k).1 (lg.L.length + 1)).2 : Int), decide ((rdSeg (rdN (nameN p (lg.L.length + 1)) k).1 (lg.L.length + 1)).2 = (rdN (nameN p (lg.L.length + 1)) k).1.length),
    { lg with L := lg.L ++ (rdSeg (rdN (nameN p (lg.L.length + 1)) k).1 (lg.L.length + 1)).1, segs := if (rdSeg (rdN (nameN p (lg.L.length + 1)) k).1 (lg.L.length + 1)).2 = (rdN (nameN p (lg.L.length + 1)) k).1.length ∨ 0 < (rdSeg (rdN (nameN p (lg.L.length + 1)) k).1 (lg.L.length + 1)).2 then lg.segs ++ [(lg.L.length + 1, (rdSeg (rdN (nameN p (lg.L.length + 1)) k).1 (lg.L.length + 1)).2)] else lg.segs }) := by
  unfold readN
  rw [if_neg (by simp)]
theorem walk_spec {p : Nm} {k : Dk} (hk : k.Ok) : ∀ (names done : List Nm) (lg : Lg), WInv p k done lg → (done ++ names).Nodup →
    (∃ lg', walkN k p names lg = (lg', none) ∧ WInv p k (done ++ names) lg') ∨
    (∃ pre s r lg1, names = pre ++ s :: r ∧ WInv p k (done ++ pre) lg1 ∧ (readN p k lg1 s).2.1 = false ∧ walkN k p names lg = ((readN p k lg1 s).2.2, some (s :: r, (readN p k lg1 s).1))) := by
  intro names
  induction names with
  | nil => intro done lg h _; exact .inl ⟨lg, rfl, by simpa using h⟩
  | cons s names ih =>
    intro done lg h hnd
    rw [walkN]
    by_cases hw : (readN p k lg s).2.1 = true
    · rw [if_pos hw]
      have hsn : s = nameN p (lg.L.length + 1) := by
        refine Classical.byContradiction fun e => ?_
        unfold readN at hw
        rw [if_pos e] at hw
        cases hw
      have hnot : s ∉ done := fun hm => by
        rw [List.nodup_append] at hnd
        exact hnd.2.2 s hm s (List.mem_cons_self ..) rfl
      rw [hsn, readN_at] at hw
      simp only [decide_eq_true_eq] at hw
      have hstep := winv_add hk h (b := (rdN (nameN p (lg.L.length + 1)) k).1) (rdN_le hk) (hsn ▸ hnot) hw (by have := (rdSeg_le (rdN (nameN p (lg.L.length + 1)) k).1 (lg.L.length + 1)).2.1; exact this)
      have he : (readN p k lg s).2.2 = { lg with L := lg.L ++ (rdSeg (rdN (nameN p (lg.L.length + 1)) k).1 (lg.L.length + 1)).1, segs := lg.segs ++ [(lg.L.length + 1, (rdSeg (rdN (nameN p (lg.L.length + 1)) k).1 (lg.L.length + 1)).2)] } := by
        rw [hsn, readN_at, if_pos (.inl hw)]
      rw [← he, ← hsn] at hstep
      have hnd2 : ((done ++ [s]) ++ names).Nodup := by simpa using hnd
      rcases ih (done ++ [s]) _ hstep hnd2 with ⟨lg', e1, e2⟩ | ⟨pre, s', r, lg1, e1, e2, e3, e4⟩
      · exact .inl ⟨lg', e1, by simpa using e2⟩
      · exact .inr ⟨s :: pre, s', r, lg1, by rw [e1]; rfl, by simpa using e2, e3, e4⟩
    · rw [if_neg hw]
      exact .inr ⟨[], s, names, lg, rfl, by simpa using h, by simpa using hw, rfl⟩
/-! ## with no fuse, nothing fails -/
theorem gate_free {k : Dk} (hl : k.left = none) {nm : Nm} (hn : badN nm = false) {op : Dk → Nat × Dk} {k2 : Dk} (h0 : op k = (0, k2)) (h2 : k2.left = none) : gateN [nm] op k = (0, k2) := by
  unfold gateN
  have hm : mayN k [nm] = 0 := by unfold mayN; rw [hl]; simp [hn]
  rw [hm, h0]
  simp only [ne_eq, not_true_eq_false, if_false, if_true, Prod.mk.injEq, true_and]
  unfold didN
  cases k2
  simp only at h2
  subst h2
  rfl
theorem badN_no {nm : Nm} (h1 : 1 ≤ nm.length) (h2 : nm.length ≤ 64) : badN nm = false := by
  unfold badN
  rw [decide_eq_false (by omega), decide_eq_false (by omega)]
  rfl
theorem rm_free {k : Dk} (hk : k.Ok) (hl : k.left = none) {s : Nm} (hb : badN s = false) (hf : isF k.L s = true) :
    ∃ k2, gateN [s] (rmI s) k = (0, k2) ∧ k2.Ok ∧ k2.left = none ∧ ∀ nm, fget k2.L nm = if nm = s then none else fget k.L nm := by
  refine ⟨{ k with L := delF k.L s }, gate_free hl hb (by unfold rmI; rw [if_pos hf]) hl, ?_, hl, fun nm => fget_del hk.sorted s nm⟩
  exact sub_ok hk (del_sub k.L s)
theorem rmAll_free : ∀ (l : List Nm) {k : Dk}, k.Ok → k.left = none → l.Nodup → (∀ s ∈ l, badN s = false ∧ isF k.L s = true) →
    ∃ k2, rmAll l k = (0, k2) ∧ k2.Ok ∧ k2.left = none ∧ ∀ nm, fget k2.L nm = if nm ∈ l then none else fget k.L nm
  | [], k, hk, hl, _, _ => ⟨k, rfl, hk, hl, fun nm => by simp⟩
  | s :: l, k, hk, hl, hnd, hf => by
    obtain ⟨k1, e1, hk1, hl1, hg1⟩ := rm_free hk hl (hf s (List.mem_cons_self ..)).1 (hf s (List.mem_cons_self ..)).2
    obtain ⟨hns, hnd⟩ := List.nodup_cons.1 hnd
    obtain ⟨k2, e2, hk2, hl2, hg2⟩ := rmAll_free l hk1 hl1 hnd (fun x hx => by
      obtain ⟨h1, h2⟩ := hf x (List.mem_cons_of_mem _ hx)
      refine ⟨h1, ?_⟩
      have hne : x ≠ s := fun e => by rw [e] at hx; exact hns hx
      rw [isF_fget, hg1, if_neg hne, ← isF_fget]; exact h2)
    refine ⟨k2, ?_, hk2, hl2, fun nm => ?_⟩
    · rw [rmAll, e1]
      simp only [ne_eq, not_true_eq_false, if_false]
      exact e2
    · rw [hg2, hg1]
      by_cases h1 : nm ∈ l
      · simp [h1]
      · by_cases h2 : nm = s <;> simp [h1, h2]
theorem cut_free {k : Dk} (hk : k.Ok) (hl : k.left = none) {s : Nm} (hb : badN s = false) (hf : isF k.L s = true) {n : Nat} (hn : n ≤ (rdN s k).1.length) :
    ∃ k2, gateN [s] (cuI s n) k = (0, k2) ∧ k2.Ok ∧ k2.left = none ∧ (∀ nm, nm ≠ s → fget k2.L nm = fget k.L nm) ∧ (∀ nm, isF k2.L nm = isF k.L nm) ∧ (rdN s k2).1 = (rdN s k).1.take n := by
  have hn' : n ≤ (getF k.L s).1.length := by unfold rdN at hn; rw [if_pos hf] at hn; exact hn
  have he : cuI s n k = (0, { k with L := setF k.L s ((getF k.L s).1.take n, min (getF k.L s).2 n) }) := by
    unfold cuI
    rw [if_pos hf, if_neg (by omega)]
    simp
  have hgo := gate_free hl hb he hl
  have hok : ({ k with L := setF k.L s ((getF k.L s).1.take n, min (getF k.L s).2 n) } : Dk).Ok := by
    have := cu_ok hk s n
    rw [he] at this
    exact this
  have hg : ∀ nm, fget (setF k.L s ((getF k.L s).1.take n, min (getF k.L s).2 n)) nm = if nm = s then some ((getF k.L s).1.take n, min (getF k.L s).2 n) else fget k.L nm := fun nm => fget_set hk.sorted hf _ nm
  refine ⟨_, hgo, hok, hl, fun nm hne => ?_, fun nm => ?_, ?_⟩
  · show fget (setF k.L s _) nm = _
    rw [hg, if_neg hne]
  · show isF (setF k.L s _) nm = _
    rw [isF_fget, hg]
    split
    · rename_i e; rw [e, hf]; rfl
    · rw [← isF_fget]
  · rw [rdN_fget]
    show (match fget (setF k.L s _) s with | some v => (v.1, 0) | none => ([], 7)).1 = _
    rw [hg, if_pos rfl]
    unfold rdN
    rw [if_pos hf]
theorem sy_free {k : Dk} (hk : k.Ok) (hl : k.left = none) {s : Nm} (hb : badN s = false) (hf : isF k.L s = true) :
    ∃ k2, gateN [s] (syI s) k = (0, k2) ∧ k2.Ok ∧ k2.left = none ∧ ∀ nm, rdN nm k2 = rdN nm k := by
  have he : syI s k = (0, { k with L := setF k.L s ((getF k.L s).1, (getF k.L s).1.length) }) := by unfold syI; rw [if_pos hf]
  have hgo := gate_free hl hb he hl
  have hok := gsy_ok hk s
  have hrd := fun nm => sy_rd hk s nm
  rw [hgo] at hok hrd
  exact ⟨_, hgo, hok, hl, hrd⟩
theorem syncAll_free (p : Nm) : ∀ (l : List (Nat × Nat)) {k : Dk}, k.Ok → k.left = none → (∀ g ∈ l, badN (nameN p g.1) = false ∧ isF k.L (nameN p g.1) = true) →
    ∃ k2, syncAll p l k = (0, k2) ∧ k2.Ok ∧ k2.left = none ∧ ∀ nm, rdN nm k2 = rdN nm k
  | [], k, hk, hl, _ => ⟨k, rfl, hk, hl, fun _ => rfl⟩
  | g :: l, k, hk, hl, h => by
    obtain ⟨k1, e1, hk1, hl1, hg1⟩ := sy_free hk hl (h g (List.mem_cons_self ..)).1 (h g (List.mem_cons_self ..)).2
    obtain ⟨k2, e2, hk2, hl2, hg2⟩ := syncAll_free p l hk1 hl1 (fun x hx => by
      obtain ⟨h1, h2⟩ := h x (List.mem_cons_of_mem _ hx)
      refine ⟨h1, ?_⟩
      rw [isF_rd, hg1, ← isF_rd]; exact h2)
    refine ⟨k2, ?_, hk2, hl2, fun nm => by rw [hg2, hg1]⟩
    rw [syncAll, e1]
    simp only [ne_eq, not_true_eq_false, if_false]
    exact e2
/-! ## the names -/
theorem nodup_rev {l : List Nm} (h : l.Nodup) : l.reverse.Nodup := by
  unfold List.Nodup at *
  rw [List.pairwise_reverse]
  exact h.imp fun h e => h e.symm
theorem lenS_le {k : Dk} (hk : k.Ok) {l : List Nm} (h : l.Sublist (k.L.map Prod.fst)) : lenS k l ≤ usedF k.L := by
  obtain ⟨m, hm, rfl⟩ : ∃ m : List Fl, m.Sublist k.L ∧ l = m.map Prod.fst := by
    obtain ⟨m, h1, h2⟩ := List.sublist_map_iff.1 h
    exact ⟨m, h1, h2⟩
  have : lenS k (m.map Prod.fst) = usedF m := by
    unfold lenS usedF
    rw [List.map_map]
    congr 1
    refine List.map_congr_left fun e he => ?_
    have h1 := (fget_iff hk.sorted (nm := e.1) (v := e.2)).2 (hm.subset he)
    show (rdN e.1 k).1.length = _
    rw [rdN_fget, h1]
  rw [this]
  exact used_sub hm
theorem names_nodup {k : Dk} (hk : k.Ok) : (k.L.map Prod.fst).Nodup := by
  have := hk.sorted
  unfold SortedF at this
  unfold List.Nodup
  rw [List.pairwise_map]
  refine this.imp ?_
  intro a b h e
  rw [e] at h
  exact nm_irr _ h
theorem segNames_sub (p : Nm) (k : Dk) : (segNames p k).Sublist (k.L.map Prod.fst) := List.filter_sublist
theorem segNames_mem {p : Nm} {k : Dk} (hk : k.Ok) {s : Nm} : s ∈ segNames p k ↔ segN p s = true ∧ isF k.L s = true := by
  unfold segNames
  rw [List.mem_filter, List.mem_map, isF_iff hk.sorted]
  exact ⟨fun ⟨⟨e, h1, h2⟩, h3⟩ => ⟨h3, e, h1, h2⟩, fun ⟨h3, e, h1, h2⟩ => ⟨⟨e, h1, h2⟩, h3⟩⟩
/-- With no fuse, an opening is done; what it leaves. -/
theorem open_free {p : Nm} {k : Dk} (hk : k.Ok) (hl : k.left = none) :
    ∃ lg k2, openN p k = (0, lg, k2) ∧ LInv 89478485 p lg k2 ∧ k2.left = none ∧ lg.synced = lg.L.length ∧ lg.dead = false := by
  have hnd : ([] ++ segNames p k).Nodup := by
    rw [List.nil_append]
    exact (names_nodup hk).sublist (segNames_sub p k)
  have hlen : ∀ l, l.Sublist (segNames p k) → lenS k l ≤ 1073741824 := fun l h => Nat.le_trans (lenS_le hk (h.trans (segNames_sub p k))) (Nat.le_trans hk.used hk.room)
  have hcnt : ∀ l : List Nm, l.Sublist (segNames p k) → l.length ≤ 4096 := fun l h => by
    have := (h.trans (segNames_sub p k)).length_le
    rw [List.length_map] at this
    exact Nat.le_trans this hk.many
  have hbad : ∀ s ∈ segNames p k, badN s = false := fun s hs => by
    obtain ⟨h1, h2⟩ := (segNames_mem hk).1 hs
    obtain ⟨e, h3, rfl⟩ := (isF_iff hk.sorted).1 h2
    have h4 := (segN_parts h1).2.1
    rw [List.length_drop] at h4
    exact badN_no (by omega) (hk.names e h3)
  have key : ∃ lg k1, (walkN k p (segNames p k) lg0).1 = lg ∧ endN' (walkN k p (segNames p k) lg0).2 k = (0, k1) ∧ k1.Ok ∧ k1.left = none ∧
      (∀ g ∈ lg.segs, nameN p g.1 ∈ segNames p k ∧ isF k1.L (nameN p g.1) = true ∧ (rdN (nameN p g.1) k1).1.length = g.2) ∧ (∀ s, segN p s = true → isF k1.L s = true → ∃ g ∈ lg.segs, s = nameN p g.1) ∧
      (∀ g ∈ lg.segs, g.1 ≤ lg.L.length + 1) ∧ (∀ g ∈ lg.segs, g.1 = lg.L.length + 1 → lastSeg lg = g ∧ g.2 = 0) ∧ lg.L.length * 12 ≤ 1073741824 ∧ lg.segs.length ≤ 4096 ∧ (∀ e ∈ lg.L, e.length ≤ 1073741824) ∧ lg.dead = false ∧ (lg.segs = [] → lg.L = []) := by
    rcases walk_spec hk (segNames p k) [] lg0 (winv_start p k) hnd with ⟨lg, e1, hI⟩ | ⟨pre, s, r, lg1, e1, hI, hw, e2⟩
    · rw [List.nil_append] at hI
      rw [e1]
      refine ⟨lg, k, rfl, rfl, hk, hl, fun g hg => ?_, fun s h1 h2 => hI.all s ((segNames_mem hk).2 ⟨h1, h2⟩), hI.top, hI.last, Nat.le_trans hI.many (hlen _ (List.Sublist.refl _)), Nat.le_trans hI.msegs (hcnt _ (List.Sublist.refl _)), hI.ents, hI.dead, hI.segs⟩
      obtain ⟨h1, h2⟩ := hI.ofS g hg
      exact ⟨h1, ((segNames_mem hk).1 h1).2, h2⟩
    · rw [List.nil_append] at hI hnd
      rw [e2]
      have hsub : (pre ++ [s]).Sublist (segNames p k) := by
        rw [e1]
        refine List.Sublist.append (List.Sublist.refl _) ?_
        simp
      rw [e1] at hnd
      have hsr : (s :: r).Nodup := (List.nodup_append.1 hnd).2.1
      obtain ⟨hsr1, hsr2⟩ := List.nodup_cons.1 hsr
      have hdis : ∀ x ∈ pre, x ∉ s :: r := fun x hx hy => (List.nodup_append.1 hnd).2.2 x hx x hy rfl
      have hrm : ∀ x ∈ s :: r, x ∈ segNames p k := fun x hx => by rw [e1]; exact List.mem_append_right _ hx
      have hprem : ∀ x ∈ pre, x ∈ segNames p k := fun x hx => by rw [e1]; exact List.mem_append_left _ hx
      obtain ⟨k1, f1, hk1, hl1, hg1⟩ := rmAll_free r.reverse hk hl (nodup_rev hsr2) (fun x hx => by
        have hx := List.mem_reverse.1 hx
        have := hrm x (List.mem_cons_of_mem _ hx)
        exact ⟨hbad x this, ((segNames_mem hk).1 this).2⟩)
      have hse : ∀ g, endN' (some (s :: r, g)) k = lastN s g k1 := fun g => by
        show endsN (s :: r) g k = _
        rw [endsN, f1]
        simp
      have hs1 : fget k1.L s = fget k.L s := by rw [hg1, if_neg (fun h => hsr1 (List.mem_reverse.1 h))]
      have hs1f : isF k1.L s = true := by rw [isF_fget, hs1, ← isF_fget]; exact ((segNames_mem hk).1 (hrm s (List.mem_cons_self ..))).2
      have hpre1 : ∀ x ∈ pre, fget k1.L x = fget k.L x := fun x hx => by rw [hg1, if_neg (fun h => hdis x hx (List.mem_cons_of_mem _ (List.mem_reverse.1 h)))]
      by_cases hgood : (readN p k lg1 s).1 ≤ 0
      · -- removed
        obtain ⟨k2, f2, hk2, hl2, hg2⟩ := rm_free hk1 hl1 (hbad s (hrm s (List.mem_cons_self ..))) hs1f
        have hlg : (readN p k lg1 s).2.2 = lg1 := by
          by_cases hsn : s = nameN p (lg1.L.length + 1)
          · rw [hsn, readN_at] at hgood hw ⊢
            simp only [decide_eq_false_iff_not] at hw
            simp only at hgood
            have h0 : (rdSeg (rdN (nameN p (lg1.L.length + 1)) k).1 (lg1.L.length + 1)).2 = 0 := by omega
            simp only
            rw [rdSeg_zero h0, List.append_nil, if_neg (by omega)]
          · unfold readN; rw [if_pos hsn]
        refine ⟨lg1, k2, hlg, by rw [hse, lastN, if_pos hgood, f2], hk2, hl2, fun g hg => ?_, fun x h1 h2 => ?_, hI.top, hI.last, Nat.le_trans hI.many (hlen _ (by rw [e1]; exact List.sublist_append_left _ _)), Nat.le_trans hI.msegs (hcnt _ (by rw [e1]; exact List.sublist_append_left _ _)), hI.ents, hI.dead, hI.segs⟩
        · obtain ⟨h1, h2⟩ := hI.ofS g hg
          have hne : nameN p g.1 ≠ s := fun e => hdis _ h1 (by rw [e]; exact List.mem_cons_self ..)
          have hfk : fget k2.L (nameN p g.1) = fget k.L (nameN p g.1) := by rw [hg2, if_neg hne, hpre1 _ h1]
          refine ⟨hprem _ h1, by rw [isF_fget, hfk, ← isF_fget]; exact ((segNames_mem hk).1 (hprem _ h1)).2, by rw [rdN_congr hfk]; exact h2⟩
        · have hxs : x ≠ s := fun e => by rw [isF_fget, hg2, if_pos e] at h2; cases h2
          rw [isF_fget, hg2, if_neg hxs, hg1] at h2
          by_cases hxr : x ∈ r.reverse
          · rw [if_pos hxr] at h2; cases h2
          · rw [if_neg hxr, ← isF_fget] at h2
            have := (segNames_mem hk).2 ⟨h1, h2⟩
            rw [e1] at this
            rcases List.mem_append.1 this with h | h
            · exact hI.all x h
            · rcases List.mem_cons.1 h with h | h
              · exact absurd h hxs
              · exact absurd (List.mem_reverse.2 h) hxr
      · -- cut
        have hsn : s = nameN p (lg1.L.length + 1) := by
          refine Classical.byContradiction fun e => hgood ?_
          unfold readN
          rw [if_pos e]
          show (-1 : Int) ≤ 0
          decide
        obtain ⟨b, hb⟩ : ∃ b, b = (rdN s k).1 := ⟨_, rfl⟩
        have hra := readN_at p k lg1
        rw [← hsn, ← hb] at hra
        rw [hra] at hgood hw ⊢
        simp only at hgood hw ⊢
        obtain ⟨gd, hgd⟩ : ∃ gd, gd = (rdSeg b (lg1.L.length + 1)).2 := ⟨_, rfl⟩
        have hgle := rdSeg_le b (lg1.L.length + 1)
        rw [← hgd] at hgood hgle ⊢
        have hbl : b.length ≤ 1073741824 := by rw [hb]; exact rdN_le hk
        have hs1r : (rdN s k1).1 = b := by rw [rdN_congr hs1, hb]
        obtain ⟨k2, f2, hk2, hl2, hg2, hf2, hr2⟩ := cut_free hk1 hl1 (hbad s (hrm s (List.mem_cons_self ..))) hs1f (n := gd) (by rw [hs1r]; exact hgle.1)
        rw [hs1r] at hr2
        rw [if_pos (.inr (by omega))]
        have hr2l : (rdN s k2).1.length = gd := by rw [hr2, List.length_take]; omega
        have hrows : (rdSeg b (lg1.L.length + 1)).1 ≠ [] := rdSeg_nil (by omega)
        have hrows' : 1 ≤ (rdSeg b (lg1.L.length + 1)).1.length := List.length_pos_iff.2 hrows
        refine ⟨_, k2, rfl, by rw [hse, lastN, if_neg (by omega), f2], hk2, hl2, fun g hg => ?_, fun x h1 h2 => ?_, fun g hg => ?_, fun g hg he => ?_, ?_, ?_, fun e he => ?_, hI.dead, fun e => by simp at e⟩
        · rcases List.mem_append.1 hg with hg | hg
          · obtain ⟨h1, h2⟩ := hI.ofS g hg
            have hne : nameN p g.1 ≠ s := fun e => hdis _ h1 (by rw [e]; exact List.mem_cons_self ..)
            have hfk : fget k2.L (nameN p g.1) = fget k.L (nameN p g.1) := by rw [hg2 _ hne, hpre1 _ h1]
            refine ⟨hprem _ h1, by rw [isF_fget, hfk, ← isF_fget]; exact ((segNames_mem hk).1 (hprem _ h1)).2, by rw [rdN_congr hfk]; exact h2⟩
          · rw [List.mem_singleton.1 hg]
            show nameN p (lg1.L.length + 1) ∈ _ ∧ isF k2.L (nameN p (lg1.L.length + 1)) = true ∧ (rdN (nameN p (lg1.L.length + 1)) k2).1.length = gd
            rw [← hsn]
            exact ⟨hrm s (List.mem_cons_self ..), by rw [hf2]; exact hs1f, hr2l⟩
        · rw [hf2, isF_fget, hg1] at h2
          by_cases hxr : x ∈ r.reverse
          · rw [if_pos hxr] at h2; cases h2
          · rw [if_neg hxr, ← isF_fget] at h2
            have := (segNames_mem hk).2 ⟨h1, h2⟩
            rw [e1] at this
            rcases List.mem_append.1 this with h | h
            · obtain ⟨g, hg, hx⟩ := hI.all x h
              exact ⟨g, List.mem_append_left _ hg, hx⟩
            · rcases List.mem_cons.1 h with h | h
              · exact ⟨_, List.mem_append_right _ (List.mem_singleton.2 rfl), by rw [h]; exact hsn⟩
              · exact absurd (List.mem_reverse.2 h) hxr
        · simp only [List.length_append]
          rcases List.mem_append.1 hg with hg | hg
          · have := hI.top g hg; omega
          · rw [List.mem_singleton.1 hg]; simp only; omega
        · exfalso
          simp only [List.length_append] at he
          rcases List.mem_append.1 hg with hg | hg
          · have := hI.top g hg; omega
          · rw [List.mem_singleton.1 hg] at he; simp only at he; omega
        · simp only [List.length_append]
          have h1 := hlen _ hsub
          rw [lenS_snoc, ← hb] at h1
          have h2 := hI.many
          omega
        · simp only [List.length_append, List.length_singleton]
          have h1 := hcnt _ hsub
          rw [List.length_append, List.length_singleton] at h1
          have h2 := hI.msegs
          omega
        · rcases List.mem_append.1 he with he | he
          · exact hI.ents e he
          · exact Nat.le_trans (hgle.2.2 e he) hbl
  obtain ⟨lg, k1, e1, e2, hk1, hl1, h1, h2, h3, h4, h5, h6, h7, h8, h9⟩ := key
  obtain ⟨k2, f2, hk2, hl2, hr2⟩ := syncAll_free p lg.segs hk1 hl1 (fun g hg => ⟨hbad _ (h1 g hg).1, (h1 g hg).2.1⟩)
  refine ⟨{ lg with synced := lg.L.length }, k2, ?_, ⟨hk2, h9, Nat.le_refl _, show lg.L.length ≤ _ by omega, show lg.segs.length ≤ _ by omega, fun g hg => ⟨?_, h3 g hg⟩, h7, ?_, h4, fun s g1 g2 => h2 s g1 (by rw [isF_rd, ← hr2, ← isF_rd]; exact g2)⟩, hl2, rfl, h8⟩
  · unfold openN
    rw [e1, e2]
    simp only [ne_eq, not_true_eq_false, if_false]
    rw [f2]
    simp
  · rw [← (h1 g hg).2.2]; exact rdN_le hk1
  · intro hne
    show (rdN (nameN p (lastSeg lg).1) k2).1.length = (lastSeg lg).2
    rw [hr2]
    exact (h1 _ (List.mem_of_getElem? (last_at hne))).2.2
end Go.Proofs.YtdolbeonpkanpaaGreatDoor
namespace Go.Proofs.YtdolbeonpkanpaaGreatDoor
/-- The records of entries, from a number on. -/
def recsN : Nat → List (List UInt8) → List UInt8
  | _, [] => []
  | n, e :: es => recN n e ++ recsN (n + 1) es
theorem recN_len {n : Nat} (e : List UInt8) : (recN n e).length = 12 + ((numB (n : Int)).length + e.length) := by unfold recN; rw [frN_len, List.length_append]
theorem scan_frN {q : List UInt8} (hq : q.length ≤ 65536) (r : List UInt8) : scanN (frN q ++ r) = (q :: (scanN r).1, (frN q).length + (scanN r).2) := by
  have h := decN_frN q r hq
  have h0 : (decN (frN q ++ r)).1 = 0 := by rw [h]
  rw [scanN_go h0, h]
  simp only
  rw [frN_len, List.drop_append_of_le_length (by rw [frN_len]; omega), List.drop_of_length_le (by rw [frN_len]; omega), List.nil_append]
theorem rdSeg_rec {n : Nat} {e : List UInt8} (hn : n ≤ 4398046511104) (he : e.length ≤ 65526) (r : List UInt8) : rdSeg (recN n e ++ r) n = (e :: (rdSeg r (n + 1)).1, (recN n e).length + (rdSeg r (n + 1)).2) := by
  have hz : (numB (n : Int)).length ≤ 10 := zig_len (by omega) (by omega)
  unfold rdSeg recN
  rw [scan_frN (by rw [List.length_append]; omega)]
  simp only
  rw [rdRows, rdNum_numB (by omega) (by omega), if_pos ⟨rfl, rfl⟩, frN_len]
  simp only [Prod.mk.injEq, true_and]
  omega
theorem rdSeg_recs : ∀ (es : List (List UInt8)) (n : Nat) (r : List UInt8), n + es.length ≤ 4398046511104 → (∀ e ∈ es, e.length ≤ 65526) → rdSeg (recsN n es ++ r) n = (es ++ (rdSeg r (n + es.length)).1, (recsN n es).length + (rdSeg r (n + es.length)).2)
  | [], n, r, _, _ => by simp [recsN]
  | e :: es, n, r, hn, he => by
    rw [recsN, List.append_assoc, rdSeg_rec (by simp at hn; omega) (he e (List.mem_cons_self ..)), rdSeg_recs es (n + 1) r (by simp at hn; omega) (fun x hx => he x (List.mem_cons_of_mem _ hx))]
    have h1 : n + 1 + es.length = n + (e :: es).length := by simp; omega
    rw [h1, List.length_append]
    simp only [List.cons_append, Prod.mk.injEq, true_and]
    omega
theorem decN_short {r : List UInt8} (h : r.length < 12) : (decN r).1 ≠ 0 := fun h0 => by
  have := (decN_ok h0).1
  omega
theorem rdSeg_stop {r : List UInt8} (h : (decN r).1 ≠ 0) (n : Nat) : rdSeg r n = ([], 0) := by unfold rdSeg; rw [scanN_stop h]; rfl
/-! ## one file -/
theorem one_w0 {nm : Nm} (hb : badN nm = false) (p : List UInt8) {R : Nat} (h : p.length ≤ R) : gateN [nm] (wrI nm p) ⟨R, [], none⟩ = (0, ⟨R, [(nm, p, 0)], none⟩) := by
  refine gate_free rfl hb ?_ rfl
  unfold wrI
  rw [if_neg (by simp [usedF]; omega), if_neg (by simp [isF, spotN])]
  simp [insF]
theorem one_w1 {nm : Nm} (hb : badN nm = false) (a p : List UInt8) (n : Nat) {R : Nat} (h : a.length + p.length ≤ R) : gateN [nm] (wrI nm p) ⟨R, [(nm, a, n)], none⟩ = (0, ⟨R, [(nm, a ++ p, n)], none⟩) := by
  refine gate_free rfl hb ?_ rfl
  unfold wrI
  rw [if_neg (by simp [usedF, is_one]; omega), if_pos (is_one nm _)]
  simp only [get_one, set_one]
theorem one_sy {nm : Nm} (hb : badN nm = false) (a : List UInt8) (n : Nat) {R : Nat} : gateN [nm] (syI nm) ⟨R, [(nm, a, n)], none⟩ = (0, ⟨R, [(nm, a, a.length)], none⟩) := by
  refine gate_free rfl hb ?_ rfl
  unfold syI
  rw [if_pos (is_one nm _)]
  simp only [get_one, set_one]
theorem one_cu {nm : Nm} (hb : badN nm = false) (a : List UInt8) (n m : Nat) (hm : m ≤ a.length) {R : Nat} : gateN [nm] (cuI nm m) ⟨R, [(nm, a, n)], none⟩ = (0, ⟨R, [(nm, a.take m, min n m)], none⟩) := by
  refine gate_free rfl hb ?_ rfl
  unfold cuI
  rw [if_pos (is_one nm _)]
  simp only [get_one, set_one]
  rw [if_neg (by omega)]
  simp
theorem rd_one (nm : Nm) (a : List UInt8) (n R : Nat) (l : Option Nat) : rdN nm ⟨R, [(nm, a, n)], l⟩ = (a, 0) := by unfold rdN; rw [if_pos (is_one nm _)]; simp only [get_one]
/-! ## what is known -/
def nmA : Nm := nameN [97] 1
theorem nmA_len : nmA.length = 9 := by unfold nmA nameN; rw [List.length_append, dig8_len (by omega)]; rfl
theorem nmA_ok : badN nmA = false := badN_no (by rw [nmA_len]; omega) (by rw [nmA_len]; omega)
theorem rec1_len (n : Nat) (c : UInt8) (h : n < 64) : (recN n [c]).length = 14 := by
  rw [recN_len]
  have : (numB (n : Int)).length = 1 := by unfold numB; rw [var_small (by unfold zig; rw [if_pos (by omega)]; omega)]; rfl
  rw [this]; rfl
def kn1 : List UInt8 := recN 1 [97]
def kn2 : List UInt8 := recN 1 [97] ++ recN 2 [98]
def kn3 : List UInt8 := kn2 ++ recN 3 [99]
theorem kn2_len : kn2.length = 28 := by unfold kn2; rw [List.length_append, rec1_len 1 97 (by omega), rec1_len 2 98 (by omega)]
theorem kn3_len : kn3.length = 42 := by unfold kn3; rw [List.length_append, kn2_len, rec1_len 3 99 (by omega)]
theorem known1 : lappN [97] [97] lg0 ⟨10000, [], none⟩ = (1, 0, ⟨[[97]], [(1, 14)], 0, false⟩, ⟨10000, [(nmA, kn1, 0)], none⟩) := by
  unfold lappN
  rw [if_neg (by simp [lg0]), if_neg (by simp), if_pos (by rfl)]
  unfold putEN
  simp only [if_true, lg0, List.length_nil, Nat.zero_add]
  rw [show nameN [97] 1 = nmA from rfl, one_w0 nmA_ok _ (by rw [rec1_len 1 97 (by omega)]; omega)]
  simp [rec1_len 1 97 (by omega), kn1]
theorem known2 : lappN [97] [98] ⟨[[97]], [(1, 14)], 0, false⟩ ⟨10000, [(nmA, kn1, 0)], none⟩ = (2, 0, ⟨[[97], [98]], [(1, 28)], 0, false⟩, ⟨10000, [(nmA, kn2, 0)], none⟩) := by
  unfold lappN
  rw [if_neg (by simp), if_neg (by simp), if_neg (by simp), if_neg (by simp [lastSeg])]
  unfold putEN
  simp only [lastSeg, Bool.false_eq_true, if_false, List.getLastD_cons, List.getLastD_nil, List.length_singleton]
  rw [show nameN [97] 1 = nmA from rfl, one_w1 nmA_ok _ _ _ (by unfold kn1; rw [rec1_len 1 97 (by omega), rec1_len 2 98 (by omega)]; omega)]
  simp [rec1_len 2 98 (by omega), kn1, kn2]
theorem known3 : lsyncN [97] ⟨[[97], [98]], [(1, 28)], 0, false⟩ ⟨10000, [(nmA, kn2, 0)], none⟩ = (0, ⟨[[97], [98]], [(1, 28)], 2, false⟩, ⟨10000, [(nmA, kn2, 28)], none⟩) := by
  unfold lsyncN
  rw [if_neg (by simp), if_neg (by simp)]
  simp only [lastSeg, List.getLastD_cons, List.getLastD_nil]
  rw [show nameN [97] 1 = nmA from rfl, one_sy nmA_ok, kn2_len]
  simp
theorem known4 : lappN [97] [99] ⟨[[97], [98]], [(1, 28)], 2, false⟩ ⟨10000, [(nmA, kn2, 28)], none⟩ = (3, 0, ⟨[[97], [98], [99]], [(1, 42)], 2, false⟩, ⟨10000, [(nmA, kn3, 28)], none⟩) := by
  unfold lappN
  rw [if_neg (by simp), if_neg (by simp), if_neg (by simp), if_neg (by simp [lastSeg])]
  unfold putEN
  simp only [lastSeg, Bool.false_eq_true, if_false, List.getLastD_cons, List.getLastD_nil, List.length_cons, List.length_nil, Nat.zero_add]
  rw [show nameN [97] 1 = nmA from rfl, one_w1 nmA_ok _ _ _ (by rw [kn2_len, rec1_len 3 99 (by omega)]; omega)]
  simp [rec1_len 3 99 (by omega), kn3]
theorem known5 : crN 3 0 ⟨10000, [(nmA, kn3, 28)], none⟩ = ⟨10000, [(nmA, kn3.take 31, 31)], none⟩ := by
  unfold crN crF
  simp only [List.map_cons, List.map_nil, kn3_len]
  rw [xor0]
  rfl
theorem known6 : openN [97] ⟨10000, [(nmA, kn3.take 31, 31)], none⟩ = (0, ⟨[[97], [98]], [(1, 28)], 2, false⟩, ⟨10000, [(nmA, kn2, 28)], none⟩) := by
  have hs : segNames [97] ⟨10000, [(nmA, kn3.take 31, 31)], none⟩ = [nmA] := by
    unfold segNames
    simp only [List.map_cons, List.map_nil]
    rw [List.filter_cons, if_pos (show segN [97] nmA = true from segN_of [97] (by omega)), List.filter_nil]
  have ht : kn3.take 31 = recsN 1 [[97], [98]] ++ (recN 3 [99]).take 3 := by
    have h1 : kn3 = kn2 ++ recN 3 [99] := rfl
    rw [h1, List.take_append, kn2_len, List.take_of_length_le (by rw [kn2_len]; omega)]
    simp [recsN, kn2]
  have h31 : (kn3.take 31).length = 31 := by rw [List.length_take, kn3_len]; omega
  have hrd : rdSeg (kn3.take 31) 1 = ([[97], [98]], 28) := by
    rw [ht, rdSeg_recs _ _ _ (by simp) (by simp)]
    rw [rdSeg_stop (decN_short (by rw [List.length_take, rec1_len 3 99 (by omega)]; omega))]
    simp [recsN, rec1_len 1 97 (by omega), rec1_len 2 98 (by omega)]
  have hre : readN [97] ⟨10000, [(nmA, kn3.take 31, 31)], none⟩ lg0 nmA = (28, false, ⟨[[97], [98]], [(1, 28)], 0, false⟩) := by
    unfold readN
    rw [if_neg (by simp [lg0, nmA]), rd_one]
    simp only [lg0, List.length_nil, Nat.zero_add, hrd, h31]
    rfl
  have hw : walkN ⟨10000, [(nmA, kn3.take 31, 31)], none⟩ [97] [nmA] lg0 = (⟨[[97], [98]], [(1, 28)], 0, false⟩, some ([nmA], 28)) := by
    rw [walkN, hre]; rfl
  have hk2 : (kn3.take 31).take 28 = kn2 := by
    rw [List.take_take, show min 28 31 = 28 from rfl]
    unfold kn3
    rw [List.take_append, kn2_len, List.take_of_length_le (by rw [kn2_len]; omega)]
    simp
  have he : endN' (some ([nmA], (28 : Int))) ⟨10000, [(nmA, kn3.take 31, 31)], none⟩ = (0, ⟨10000, [(nmA, kn2, 28)], none⟩) := by
    show endsN [nmA] 28 _ = _
    unfold endsN
    simp only [List.reverse_nil, rmAll, ne_eq, not_true_eq_false, if_false]
    unfold lastN
    rw [if_neg (by omega)]
    have := one_cu nmA_ok (kn3.take 31) 31 28 (by rw [h31]; omega) (R := 10000)
    rw [hk2] at this
    exact this
  unfold openN
  rw [hs, hw]
  simp only
  rw [he]
  have hsy : syncAll [97] [(1, 28)] ⟨10000, [(nmA, kn2, 28)], none⟩ = (0, ⟨10000, [(nmA, kn2, 28)], none⟩) := by
    show (if (gateN [nmA] (syI nmA) _).1 ≠ 0 then _ else syncAll [97] [] (gateN [nmA] (syI nmA) _).2) = _
    rw [one_sy nmA_ok, kn2_len]
    rfl
  rw [if_neg (by simp), hsy]
  simp
end Go.Proofs.YtdolbeonpkanpaaGreatDoor
