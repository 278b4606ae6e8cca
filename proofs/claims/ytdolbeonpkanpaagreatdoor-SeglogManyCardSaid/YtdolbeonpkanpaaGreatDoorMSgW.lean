/- Logs that lie whole on a disk, without a program: Append; other names; a crash. SeglogMany, without a program. -/
import Derived.Test.YtdolbeonpkanpaaGreatDoorSgU
set_option linter.unusedVariables false
set_option linter.unusedSimpArgs false
namespace Go.Proofs.YtdolbeonpkanpaaGreatDoor
/-- How the groups grow. -/
def GrowG (gs gs2 : List Gr) (e : List UInt8) : Prop :=
  (gs2 = gs ++ [[e]] ∧ ∀ gs0 g, gs = gs0 ++ [g] → 512 ≤ (recsN (1 + cntG gs0) g).length) ∨ ∃ gs0 g, gs = gs0 ++ [g] ∧ gs2 = gs0 ++ [g ++ [e]] ∧ (recsN (1 + cntG gs0) g).length < 512
theorem GrowG.flat {gs gs2 : List Gr} {e : List UInt8} (h : GrowG gs gs2 e) : gs2.flatten = gs.flatten ++ [e] := by
  rcases h with ⟨rfl, _⟩ | ⟨gs0, g, rfl, rfl, _⟩ <;> simp
theorem lay_app {p : Nm} {lg : Lg} {k : Dk} {gs : List Gr} (h : LayS p lg k gs) (e : List UInt8) (he : e.length ≤ 65526) (hc : cntG gs + 1 < 99999999) (hr : usedF k.L + e.length + 22 ≤ k.room) (hn : k.L.length < 4096) (hp : p.length ≤ 50) :
    (∃ lg2 k2 gs2, lappN p e lg k = (lg.L.length + 1, 0, lg2, k2) ∧ LayS p lg2 k2 gs2 ∧ GrowG gs gs2 e ∧ lg.synced ≤ lg2.synced ∧ k2.room = k.room ∧ usedF k2.L ≤ usedF k.L + e.length + 22 ∧ k2.L.length ≤ k.L.length + 1 ∧ (k.left = none → k2.left = none) ∧ (∀ s, segN p s = false → fget k2.L s = fget k.L s)) ∨
    (∃ lg2 k2 m, k.left = some m ∧ lappN p e lg k = (0, 9, { lg2 with dead := true }, k2) ∧ LayS p lg2 k2 gs ∧ lg.synced ≤ lg2.synced ∧ lg2.L = lg.L) := by
  unfold lappN
  rw [h.live]
  simp only [Bool.false_eq_true, if_false]
  rw [if_neg (by omega)]
  by_cases hsg : lg.segs = []
  · have hg0 : gs = [] := segsG_nil.1 (by rw [← h.segs]; exact hsg)
    subst hg0
    have hs : lg.synced = lg.L.length := by
      rcases h.last with ⟨_, h0⟩ | ⟨gs0, g, s, h0, _⟩
      · rw [h0, h.L]; rfl
      · simp at h0
    rw [if_pos hsg]
    rcases lay_fresh h hs e he hc hr hn hp with ⟨lg2, k2, e1, h1, h2, h3, h4, h5, h6, h7⟩ | ⟨m, hl, e1⟩
    · exact .inl ⟨lg2, k2, _, by rw [e1], h1, .inl ⟨rfl, fun gs0 g h0 => by simp at h0⟩, by omega, h3, h4, h5, h6, h7⟩
    · exact .inr ⟨lg, k, m, hl, by rw [e1], h, Nat.le_refl _, rfl⟩
  · rw [if_neg hsg]
    obtain ⟨gs0, g, rfl⟩ : ∃ gs0 g, gs = gs0 ++ [g] := by
      rcases List.eq_nil_or_concat gs with h0 | ⟨a, b, h0⟩
      · exact absurd (by rw [h.segs, h0]; rfl) hsg
      · exact ⟨a, b, by rw [h0, List.concat_eq_append]⟩
    have hls := lastSeg_of h.segs
    rw [hls]
    simp only
    by_cases h5 : 512 ≤ (recsN (1 + cntG gs0) g).length
    · rw [if_pos h5]
      rcases lay_sync h with ⟨lg1, k1, e1, h1, h2, h3, h4, hro, hu, hn1, hl1, ho1⟩ | ⟨m, hl, e1⟩
      · rw [e1]
        simp only [ne_eq, not_true_eq_false, if_false]
        have hle : lg.synced ≤ lg1.synced := by
          rcases h.last with ⟨h0, _⟩ | ⟨gs1, g1, s, h0, hsg1, hsy, _⟩
          · simp at h0
          · rw [h2, h.L, hsy, h0]; show _ ≤ cntG (gs1 ++ [g1]); rw [cntG_app]; omega
        rcases lay_fresh h1 (by rw [h2, h3]) e he hc (by rw [hu, hro]; exact hr) (by rw [hn1]; exact hn) hp with ⟨lg2, k2, e2, g1, g2, g3, g4, g5, g6, g7⟩ | ⟨m, hl, e2⟩
        · refine .inl ⟨lg2, k2, _, by rw [e2, h3], g1, .inl ⟨rfl, fun gs1 g' h0 => ?_⟩, by omega, by rw [g3, hro], by omega, by omega, fun hl => g6 (hl1 hl), fun s hs => by rw [g7 s hs, ho1 s hs]⟩
          obtain ⟨rfl, h8⟩ := List.append_inj' h0 rfl
          obtain rfl : g = g' := by simpa using h8
          exact h5
        · have hl0 : ∃ m, k.left = some m := by
            cases hkl : k.left with
            | none => rw [hl1 hkl] at hl; cases hl
            | some m => exact ⟨m, rfl⟩
          obtain ⟨m0, hm0⟩ := hl0
          exact .inr ⟨lg1, k1, m0, hm0, by rw [e2], h1, hle, h3⟩
      · rw [e1]
        simp only [ne_eq]
        exact .inr ⟨lg, k, m, hl, by simp [h.live], h, Nat.le_refl _, rfl⟩
    · rw [if_neg h5]
      rcases lay_more h e he hc hr with ⟨lg2, k2, e1, h1, h2, h3, h4, h5', h6, h7⟩ | ⟨m, hl, e1⟩
      · exact .inl ⟨lg2, k2, _, by rw [e1], h1, .inr ⟨gs0, g, rfl, rfl, by omega⟩, by omega, h3, h4, h5', h6, h7⟩
      · exact .inr ⟨lg, k, m, hl, by rw [e1], h, Nat.le_refl _, rfl⟩
theorem lay_start (p : Nm) {n : Nat} (hn : n ≤ 1073741824) : LayS p lg0 ⟨n, [], none⟩ [] :=
  ⟨⟨new_ok hn, by simp, by simp, by decide, by simp [filesG], fun s _ h => by simp [isF, spotN] at h⟩, rfl, rfl, rfl, .inl ⟨rfl, rfl⟩⟩
theorem filesG_seg {p : Nm} {gs : List Gr} {n : Nat} (hc : n + cntG gs < 100000000) : ∀ x ∈ filesG p n gs, segN p x.1 = true := fun x hx => by
  obtain ⟨m, h1, h2, h3⟩ := filesG_name hx
  rw [h3]
  exact segN_of p (by omega)
/-- What is done to other names does not touch it. -/
theorem LayS.other {p : Nm} {lg : Lg} {k k2 : Dk} {gs : List Gr} (h : LayS p lg k gs) (hk : k2.Ok) (ho : ∀ s, segN p s = true → fget k2.L s = fget k.L s) : LayS p lg k2 gs := by
  have hc := h.d.cnt
  refine ⟨⟨hk, h.d.ne, h.d.small, h.d.cnt, fun x hx => ?_, fun s h1 h2 => h.d.only s h1 (by rw [isF_fget, ← ho s h1, ← isF_fget]; exact h2)⟩, h.L, h.segs, h.live, ?_⟩
  · have h1 := ho x.1 (filesG_seg (by omega) x hx)
    rw [isF_fget, h1, ← isF_fget, rdN_congr h1]
    exact h.d.has x hx
  · rcases h.last with h0 | ⟨gs0, g, s, rfl, hsg, hsy, hf, hfs⟩
    · exact .inl h0
    · have hca := cntG_app gs0 g
      refine .inr ⟨gs0, g, s, rfl, hsg, hsy, ?_, fun x hx => ?_⟩
      · rw [ho _ (segN_of p (by omega))]; exact hf
      · rw [ho _ (filesG_seg (by omega) x hx)]; exact hfs x hx
/-! ## a crash -/
theorem fget_cr {k : Dk} (hk : k.Ok) (keep : Int) (tear : UInt8) (nm : Nm) : fget (crN keep tear k).L nm = (fget k.L nm).map fun v => (crF keep tear (nm, v)).2 := by
  have hs2 := (cr_ok hk keep tear).sorted
  apply Option.ext
  intro u
  rw [fget_iff hs2]
  unfold crN
  simp only
  rw [List.mem_map]
  constructor
  · rintro ⟨e, he, h⟩
    have h1 : e.1 = nm := congrArg Prod.fst h
    have h2 : fget k.L nm = some e.2 := (fget_iff hk.sorted).2 (by rw [← h1]; exact he)
    rw [h2, Option.map_some]
    subst h1
    rw [show ((e.1, e.2) : Fl) = e from rfl, h]
  · intro h
    obtain ⟨v, hv, rfl⟩ := Option.map_eq_some_iff.1 h
    exact ⟨(nm, v), (fget_iff hk.sorted).1 hv, rfl⟩
theorem crF_whole (keep : Int) (tear : UInt8) (nm : Nm) (b : List UInt8) : crF keep tear (nm, b, b.length) = (nm, b, b.length) := by
  have hst : stays b.length b.length keep = b.length := by
    unfold stays
    have : b.length - b.length + 1 = 1 := by omega
    rw [this, Nat.mod_one]
    rfl
  unfold crF
  simp only
  rw [hst, List.take_length]
  have : xorFrom (max b.length ((b.length - 1) / 32 * 32)) tear b = b := by
    unfold xorFrom
    rw [List.take_of_length_le (by omega), List.drop_eq_nil_of_le (by omega)]
    simp
  rw [this]
theorem isF_cr {k : Dk} (hk : k.Ok) (keep : Int) (tear : UInt8) (nm : Nm) : isF (crN keep tear k).L nm = isF k.L nm := by
  rw [isF_fget, fget_cr hk, isF_fget]
  cases fget k.L nm <;> rfl
/-- Where all is synced a crash leaves all. -/
theorem LayS.crash {p : Nm} {lg : Lg} {k : Dk} {gs : List Gr} (h : LayS p lg k gs) (hs : lg.synced = lg.L.length) (keep : Int) (tear : UInt8) : LayD p (crN keep tear k) gs := by
  have hw := h.whole hs
  refine ⟨cr_ok h.d.dk keep tear, h.d.ne, h.d.small, h.d.cnt, fun x hx => ?_, fun s h1 h2 => h.d.only s h1 (by rw [← isF_cr h.d.dk keep tear]; exact h2)⟩
  have h1 := hw x hx
  have h2 : fget (crN keep tear k).L x.1 = some (x.2, x.2.length) := by
    rw [fget_cr h.d.dk, h1, Option.map_some]
    rw [crF_whole keep tear x.1 x.2]
  exact ⟨fget_isF h2, by rw [fget_rd h2]⟩
end Go.Proofs.YtdolbeonpkanpaaGreatDoor
namespace Go.Proofs.YtdolbeonpkanpaaGreatDoor
def entM (size i : Nat) : List UInt8 := (List.replicate size 0).set (i % size) (UInt8.ofNat i)
theorem entM_len (size i : Nat) : (entM size i).length = size := by simp [entM]
structure MInv (size i : Nat) (lg : Lg) (k : Dk) (gs : List Gr) : Prop where
  lay : LayS [97] lg k gs
  inv : LInv (89478485 + i) [97] lg k
  ents : gs.flatten = (List.range i).map (entM size)
  left : k.left = none
  room : k.room = 1048576
  used : usedF k.L ≤ i * (size + 22)
  files : k.L.length ≤ i
  most : ∀ x ∈ filesG [97] 1 gs, x.2.length ≤ 533 + size
  least : ∀ gs0 g, gs = gs0 ++ [g] → ∀ x ∈ filesG [97] 1 gs0, 512 ≤ x.2.length
theorem minv_start (size : Nat) : MInv size 0 lg0 ⟨1048576, [], none⟩ [] := by
  have hI : LInv 89478485 [97] lg0 ⟨1048576, [], none⟩ := by
    obtain ⟨lg, k2, e, hI, _⟩ := open_free (p := [97]) (k := ⟨1048576, [], none⟩) (new_ok (by decide)) rfl
    have : openN [97] ⟨1048576, [], none⟩ = (0, lg0, ⟨1048576, [], none⟩) := rfl
    rw [this] at e
    cases e
    exact hI
  exact ⟨lay_start [97] (by decide), hI, rfl, rfl, rfl, by simp [usedF], Nat.zero_le _, by simp [filesG], fun gs0 g h => by simp at h⟩
theorem minv_step {size i : Nat} {lg : Lg} {k : Dk} {gs : List Gr} (h : MInv size i lg k gs) (hi : i < 300) (hs : size ≤ 200) :
    ∃ lg2 k2 gs2, lappN [97] (entM size i) lg k = (i + 1, 0, lg2, k2) ∧ MInv size (i + 1) lg2 k2 gs2 := by
  have hc : cntG gs = i := by unfold cntG; rw [h.ents]; simp
  have hmul : i * (size + 22) ≤ 299 * 222 := Nat.mul_le_mul (by omega) (by omega)
  have hel := entM_len size i
  have hLl : lg.L.length = i := by rw [h.lay.L]; exact hc
  have hinv := linv_app h.inv (by omega) (entM size i)
  rcases lay_app h.lay (entM size i) (by rw [hel]; omega) (by omega) (by rw [hel, h.room]; have := h.used; omega) (by have := h.files; omega) (by decide) with ⟨lg2, k2, gs2, e, h1, hg, _, hro, hu, hn, hl, _⟩ | ⟨lg2, k2, m, hl, _⟩
  · rw [e] at hinv
    simp only at hinv
    have hrl := recN_le (n := 1 + cntG gs) (by omega) (entM size i)
    rw [hel] at hrl
    refine ⟨lg2, k2, gs2, by rw [e, hLl], h1, hinv.mono (by omega), ?_, hl h.left, by rw [hro, h.room], ?_, by have := h.files; omega, ?_, ?_⟩
    · rw [hg.flat, h.ents, List.range_succ, List.map_append]; rfl
    · rw [hel] at hu
      have := h.used
      rw [Nat.add_mul, Nat.one_mul]
      omega
    · rcases hg with ⟨rfl, _⟩ | ⟨gs0, g, rfl, rfl, h5⟩
      · intro x hx
        rw [filesG_app] at hx
        rcases List.mem_append.1 hx with hx | hx
        · exact h.most x hx
        · rw [List.mem_singleton.1 hx]
          simp only [recsN, List.append_nil]
          omega
      · intro x hx
        rw [filesG_app] at hx
        rcases List.mem_append.1 hx with hx | hx
        · exact h.most x (by rw [filesG_app]; exact List.mem_append_left _ hx)
        · rw [List.mem_singleton.1 hx]
          simp only
          have hca := cntG_app gs0 g
          have hrl2 := recN_le (n := 1 + cntG gs0 + g.length) (by omega) (entM size i)
          rw [hel] at hrl2
          rw [recsN_app, List.length_append]
          omega
    · rcases hg with ⟨rfl, h5⟩ | ⟨gs0, g, rfl, rfl, h5⟩
      · intro gs0 g h0 x hx
        obtain ⟨rfl, _⟩ := List.append_inj' h0 rfl
        rcases List.eq_nil_or_concat gs with h6 | ⟨a, b, h6⟩
        · rw [h6] at hx; simp [filesG] at hx
        · rw [List.concat_eq_append] at h6
          rw [h6, filesG_app] at hx
          rcases List.mem_append.1 hx with hx | hx
          · exact h.least a b h6 x hx
          · rw [List.mem_singleton.1 hx]; exact h5 a b h6
      · intro gs1 g1 h0 x hx
        obtain ⟨rfl, _⟩ := List.append_inj' h0 rfl
        exact h.least _ g rfl x hx
  · rw [h.left] at hl; cases hl
theorem lnames_lay {lg : Lg} {gs : List Gr} (h : lg.segs = segsG 1 gs) : lnames [97] lg = (filesG [97] 1 gs).map Prod.fst := by
  have key : ∀ (gs : List Gr) (n : Nat), (segsG n gs).map (fun g => nameN [97] g.1) = (filesG [97] n gs).map Prod.fst := by
    intro gs
    induction gs with
    | nil => intro n; rfl
    | cons g gs ih => intro n; rw [segsG, filesG, List.map_cons, List.map_cons, ih]
  unfold lnames
  rw [h]
  exact key gs 1
/-- What the law reads of a segment that is not the last. -/
theorem minv_read {size n : Nat} {lg : Lg} {k : Dk} {gs : List Gr} (h : MInv size n lg k gs) {i : Nat} (hi : i + 1 < (lnames [97] lg).length) :
    ∃ nm b, (lnames [97] lg)[i]? = some nm ∧ rdN nm k = (b, 0) ∧ 512 ≤ b.length ∧ b.length ≤ 533 + size := by
  rw [lnames_lay h.lay.segs] at hi ⊢
  rw [List.length_map] at hi
  rcases List.eq_nil_or_concat gs with h6 | ⟨a, g, h6⟩
  · rw [h6] at hi; simp [filesG] at hi
  · rw [List.concat_eq_append] at h6
    have hfa : filesG [97] 1 gs = filesG [97] 1 a ++ [(nameN [97] (1 + cntG a), recsN (1 + cntG a) g)] := by rw [h6, filesG_app]
    have hi2 : i < (filesG [97] 1 a).length := by rw [hfa, List.length_append, List.length_singleton] at hi; omega
    obtain ⟨x, hx⟩ : ∃ x, (filesG [97] 1 a)[i]? = some x := ⟨_, List.getElem?_eq_getElem hi2⟩
    have hx2 : (filesG [97] 1 gs)[i]? = some x := by rw [hfa, List.getElem?_append_left hi2]; exact hx
    have hm := List.mem_of_getElem? hx2
    obtain ⟨h1, h2⟩ := h.lay.d.has x hm
    refine ⟨x.1, x.2, by rw [List.getElem?_map, hx2]; rfl, ?_, h.least a g h6 x (List.mem_of_getElem? hx), h.most x hm⟩
    have h3 : (rdN x.1 k).2 = 0 := by rw [isF_rd] at h1; simpa using h1
    exact Prod.ext h2 h3
/-- Synced, crashed, opened: all is there. -/
theorem minv_end {size n : Nat} {lg : Lg} {k : Dk} {gs : List Gr} (h : MInv size n lg k gs) (hn : 1 ≤ n) (hn2 : n ≤ 300) :
    ∃ lg1 k1, lsyncN [97] lg k = (0, lg1, k1) ∧ k1.Ok ∧ ∃ lg2 k2, openN [97] (crN 0 1 k1) = (0, lg2, k2) ∧ lg2.Ok ∧ lg2.L = (List.range n).map (entM size) ∧ lnames [97] lg2 = lnames [97] lg ∧ (lnames [97] lg)[0]? = some (nameN [97] 1) := by
  rcases lay_sync h.lay with ⟨lg1, k1, e, h1, h2, h3, h4, _⟩ | ⟨m, hl, _⟩
  · refine ⟨lg1, k1, e, h1.d.dk, ?_⟩
    have hD := h1.crash (by rw [h2, h3]) 0 1
    obtain ⟨k2, eo, hk2, hl2, _⟩ := hD.open rfl
    obtain ⟨lg3, k3, e3, hI3, _⟩ := open_free (p := [97]) (cr_ok h1.d.dk 0 1) rfl
    rw [eo] at e3
    cases e3
    refine ⟨_, k2, eo, hI3.ok (by decide), h.ents, ?_, ?_⟩
    · rw [lnames_lay (gs := gs) rfl, lnames_lay h.lay.segs]
    · rw [lnames_lay h.lay.segs]
      cases gs with
      | nil =>
        have := congrArg List.length h.ents
        simp at this
        omega
      | cons g gs => rfl
  · rw [h.left] at hl; cases hl
theorem entN_many {lg : Lg} {size n : Nat} (h : lg.L = (List.range n).map (entM size)) (hn : 1 ≤ n) : entN lg (n : Int) = (entM size (n - 1), 0) := by
  unfold entN
  rw [if_neg (by rw [h]; simp; omega)]
  have e : ((n : Int)).toNat - 1 = n - 1 := by omega
  rw [e, h, List.getD_eq_getElem?_getD, List.getElem?_map, List.getElem?_range (by omega)]
  rfl
theorem entM_at {size i : Nat} (hs : 0 < size) : (entM size i)[i % size]? = some (UInt8.ofNat i) := by
  unfold entM
  rw [List.getElem?_set_self (by simpa using Nat.mod_lt i hs)]
end Go.Proofs.YtdolbeonpkanpaaGreatDoor
