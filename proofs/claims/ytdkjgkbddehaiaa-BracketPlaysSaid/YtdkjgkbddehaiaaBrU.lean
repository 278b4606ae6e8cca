/- The first round stays; the favourites. -/
import Derived.Test.YtdkjgkbddehaiaaBrT
namespace Go.Proofs.Ytdkjgkbddehaiaa

/-- The first round's seats are the row's. -/
def Br.First (B : Br) (l : List Nat) : Prop := ∀ (j : Nat) (m : Mt), B.ms[j]? = some m → j < B.z / 2 → m.s0 = l.getD (2 * j) 0 ∧ m.s1 = l.getD (2 * j + 1) 0
theorem told_first {B : Br} (h : B.Inv) {l : List Nat} (hf : B.First l) {i k : Nat} {m : Mt} (hm : B.ms[i]? = some m) : (B.told i k m).First l := by
  intro j m' hj hjz
  have hz := h.ok.half
  have hjz' : j < B.z / 2 := hjz
  rw [told_get h hm] at hj
  obtain ⟨y, hy, rfl⟩ := Option.map_eq_some_iff.1 hj
  by_cases hij : i = j
  · subst hij
    rw [if_pos rfl]
    exact hf i y hy hjz'
  · rw [if_neg hij, if_neg (by omega)]
    exact hf j y hy hjz'
def firstB (B : Br) (l : List Nat) : Bool := (List.range (B.z / 2)).all fun j => match B.ms[j]? with | some m => m.s0 == l.getD (2 * j) 0 && m.s1 == l.getD (2 * j + 1) 0 | none => true
theorem newB_first0 : ((List.range 65).all fun n => n < 2 || firstB (newB n) (ordL n)) = true := by decide +kernel
theorem newB_first {n : Nat} (h1 : 2 ≤ n) (h2 : n ≤ 64) : (newB n).First (ordL n) := by
  have h := List.all_eq_true.1 newB_first0 n (List.mem_range.2 (by omega))
  have h3 : ¬ n < 2 := by omega
  simp only [h3, decide_false, Bool.false_or] at h
  intro j m hm hj
  have := List.all_eq_true.1 h j (List.mem_range.2 hj)
  simp only [hm, Bool.and_eq_true, beq_iff_eq] at this
  exact this

theorem newB_nz {n : Nat} : (newB n).n = n ∧ (newB n).z = (ordL n).length := ⟨(newTo_keep n _).1, (newTo_keep n _).2.1⟩
/-- One round: the first that is ready, won by the better one. -/
def favStep (x : Br × Nat) : Br × Nat :=
  match x.1.ready x.1.ms.length with
  | [] => x
  | i :: _ => match x.1.ms[i]? with
    | none => x
    | some m => if m.s1 < m.s0 then (x.1.told i 1 m, m.s0) else (x.1.told i 0 m, m.s1)
def favs (n : Nat) : Nat → Br × Nat
  | 0 => (newB n, 0)
  | k + 1 => favStep (favs n k)
/-- Who wins a match in the end, if the better one wins each. -/
def topV (l : List Nat) (h : Nat) : Nat → Nat → Nat
  | 0, _ => 0
  | f + 1, j =>
    if j < h then (if l.getD (2 * j) 0 = 0 ∨ l.getD (2 * j + 1) 0 = 0 then l.getD (2 * j) 0 + l.getD (2 * j + 1) 0 else min (l.getD (2 * j) 0) (l.getD (2 * j + 1) 0))
    else min (topV l h f (2 * (j - h))) (topV l h f (2 * (j - h) + 1))
theorem top_end0 : ((List.range 65).all fun n => n < 2 || (let l := ordL n; let z := l.length; let h := z / 2; topV l h 64 (z - 2) == 1 &&
    (if z - 2 < h then max (l.getD (2 * (z - 2)) 0) (l.getD (2 * (z - 2) + 1) 0) == 2 else max (topV l h 64 (2 * (z - 2 - h))) (topV l h 64 (2 * (z - 2 - h) + 1)) == 2))) = true := by decide +kernel
structure FavInv (n : Nat) (x : Br × Nat) : Prop where
  inv : x.1.Inv
  num : x.1.n = n
  size : x.1.z = (ordL n).length
  first : x.1.First (ordL n)
  min : ∀ m ∈ x.1.ms, m.w ≠ 0 → m.s0 ≠ 0 → m.s1 ≠ 0 → m.w = min m.s0 m.s1
  last : ∀ L, x.1.ms[x.1.z - 2]? = some L → L.w ≠ 0 → x.2 = max L.s0 L.s1
def startB (B : Br) : Bool := (B.ms.all fun m => m.w == 0 || m.s0 == 0 || m.s1 == 0) && match B.ms[B.z - 2]? with | some L => L.w == 0 | none => true
theorem start_ok0 : ((List.range 65).all fun n => n < 2 || startB (newB n)) = true := by decide +kernel
theorem fav_told {n : Nat} {B : Br} {last : Nat} (h : FavInv n (B, last)) {i k : Nat} {m : Mt} (hm : B.ms[i]? = some m) (hk : k < 2) (hr : m.rdy = true) (ha : m.seat k ≤ m.seat (1 - k)) :
    FavInv n (B.told i k m, m.seat (1 - k)) := by
  have hr' := hr
  simp [Mt.rdy] at hr
  have hz := h.inv.ok.half
  have hl := h.inv.ok.len
  simp only at hz hl
  have hmn : m.seat k = min m.s0 m.s1 ∧ m.seat (1 - k) = max m.s0 m.s1 := by rcases seat_cases m hk with ⟨e1, e2⟩ | ⟨e1, e2⟩ <;> rw [e1, e2] at ha ⊢ <;> omega
  refine ⟨told_inv h.inv hm hk hr', h.num, h.size, told_first h.inv h.first hm, fun m' hm' hw => ?_, fun L hL hw => ?_⟩
  · obtain ⟨j, hj, e⟩ := List.mem_iff_getElem.1 hm'
    have hx' : (B.told i k m).ms[j]? = some m' := by rw [List.getElem?_eq_getElem hj, e]
    rw [told_get h.inv hm] at hx'
    obtain ⟨y, hy, rfl⟩ := Option.map_eq_some_iff.1 hx'
    by_cases hij : i = j
    · subst hij
      rw [hm] at hy; cases hy
      rw [if_pos rfl]
      intro _ _; exact hmn.1
    · rw [if_neg hij] at hw ⊢
      by_cases hp : i + 2 < B.z ∧ B.z / 2 + i / 2 = j
      · rw [if_pos hp] at hw
        obtain ⟨y', hy', w0, _⟩ := h.inv.parent hm hr.1 hp.1
        simp only at hy'
        rw [hp.2, hy] at hy'; cases hy'
        rw [(put_s _ _ _).1] at hw
        exact absurd w0 hw
      · rw [if_neg hp] at hw ⊢
        exact h.min y (List.mem_of_getElem? hy) hw
  · have hzz : (B.told i k m).z = B.z := rfl
    simp only [hzz] at hL
    rw [told_get h.inv hm] at hL
    obtain ⟨y, hy, rfl⟩ := Option.map_eq_some_iff.1 hL
    by_cases hij : i = B.z - 2
    · rw [if_pos hij] at hw ⊢
      rw [hij, hy] at hm; cases hm
      exact hmn.2
    · exfalso
      have hy0 : y.w = 0 := by
        have := champ_zero h.inv hm hr.1
        simp only at this
        rw [champ_at (by omega) (m := y) (by rw [show B.ms.length - 1 = B.z - 2 by omega]; exact hy)] at this
        exact this
      rw [if_neg hij] at hw
      split at hw
      · rw [(put_s _ _ _).1] at hw; exact hw hy0
      · exact hw hy0
theorem fav_inv {n : Nat} (h1 : 2 ≤ n) (h2 : n ≤ 64) : ∀ k, FavInv n (favs n k)
  | 0 => by
    have h := List.all_eq_true.1 start_ok0 n (List.mem_range.2 (by omega))
    have h3 : ¬ n < 2 := by omega
    simp only [h3, decide_false, Bool.false_or, startB, Bool.and_eq_true, List.all_eq_true, Bool.or_eq_true, beq_iff_eq] at h
    refine ⟨newB_inv h1 h2, newB_nz.1, newB_nz.2, newB_first h1 h2, fun m hm hw a b => ?_, fun L hL hw => ?_⟩
    · rcases h.1 m hm with (x | x) | x
      · exact absurd x hw
      · exact absurd x a
      · exact absurd x b
    · have hL' : (newB n).ms[(newB n).z - 2]? = some L := hL
      have := h.2
      rw [hL'] at this
      simp at this
      exact absurd this hw
  | k + 1 => by
    have ih := fav_inv h1 h2 k
    show FavInv n (favStep _)
    generalize favs n k = X at ih ⊢
    obtain ⟨B, last⟩ := X
    unfold favStep
    split
    · exact ih
    · rename_i i l he
      simp only at he
      obtain ⟨m, hm, hr⟩ := ready_mem.1 (by rw [he]; exact List.mem_cons_self .. : i ∈ B.ready B.ms.length)
      simp only [hm]
      split
      · rename_i hlt
        exact fav_told ih hm (k := 1) (by omega) hr (by show m.s1 ≤ m.s0; omega)
      · rename_i hlt
        exact fav_told ih hm (k := 0) (by omega) hr (by show m.s0 ≤ m.s1; omega)
theorem fav_top {n : Nat} {x : Br × Nat} (h : FavInv n x) (he : x.1.ready x.1.ms.length = []) : ∀ (f j : Nat) (m : Mt), j < f → x.1.ms[j]? = some m → m.w = topV (ordL n) (x.1.z / 2) f j := by
  have haw := all_won h.inv he
  have hz := h.inv.ok.half
  have hl := h.inv.ok.len
  intro f
  induction f with
  | zero => intro j m hj; omega
  | succ f ih =>
    intro j m hj hm
    have hjl := (List.getElem?_eq_some_iff.1 hm).1
    have hw := haw j m hm
    have hmin := h.min m (List.mem_of_getElem? hm) hw
    unfold topV
    by_cases hjz : j < x.1.z / 2
    · rw [if_pos hjz]
      obtain ⟨e1, e2⟩ := h.first j m hm hjz
      rw [← e1, ← e2]
      split
      · rename_i h0
        exact (h.inv.leaf j m hm hjz).2 h0
      · rename_i h0
        exact hmin (by omega) (by omega)
    · rw [if_neg hjz]
      obtain ⟨⟨a, b, ha, hb, e1, e2⟩, hne⟩ := h.inv.tree j m hm (by omega)
      rw [← ih _ a (by omega) ha, ← ih _ b (by omega) hb, ← e1, ← e2]
      exact hmin (hne hw).1 (hne hw).2
theorem fav_end {n : Nat} {x : Br × Nat} (h1 : 2 ≤ n) (h2 : n ≤ 64) (h : FavInv n x) (he : x.1.ready x.1.ms.length = []) : x.1.champ = 1 ∧ x.2 = 2 := by
  have hz := h.inv.ok.half
  have hl := h.inv.ok.len
  have hz64 := h.inv.ok.z64
  have haw := all_won h.inv he
  have ht := fav_top h he
  have hx := List.all_eq_true.1 top_end0 n (List.mem_range.2 (by omega))
  have h3 : ¬ n < 2 := by omega
  simp only [h3, decide_false, Bool.false_or, Bool.and_eq_true, beq_iff_eq] at hx
  obtain ⟨e1, e2⟩ := hx
  rw [← h.size] at e1 e2
  obtain ⟨L, hL⟩ : ∃ L, x.1.ms[x.1.z - 2]? = some L := ⟨_, List.getElem?_eq_getElem (by omega)⟩
  have hLw := ht 64 (x.1.z - 2) L (by omega) hL
  refine ⟨?_, ?_⟩
  · rw [champ_at (by omega) (m := L) (by rw [show x.1.ms.length - 1 = x.1.z - 2 by omega]; exact hL), hLw]; exact e1
  · rw [h.last L hL (haw _ L hL)]
    by_cases hjz : x.1.z - 2 < x.1.z / 2
    · rw [if_pos hjz] at e2
      obtain ⟨f1, f2⟩ := h.first _ L hL hjz
      rw [f1, f2]; simpa using e2
    · rw [if_neg hjz] at e2
      obtain ⟨⟨a, b, ha, hb, g1, g2⟩, _⟩ := h.inv.tree _ L hL (by omega)
      rw [g1, g2, ht 64 _ a (by omega) ha, ht 64 _ b (by omega) hb]; simpa using e2
theorem fav_outs {n : Nat} (h1 : 2 ≤ n) (h2 : n ≤ 64) : ∀ k, (favs n k).1.ready (favs n k).1.ms.length ≠ [] → (favs n k).1.outs n = k
  | 0, _ => by
    have := newB_outs (n := n)
    rw [newB_nz.1] at this; exact this
  | k + 1, hne => by
    have ih := fav_inv h1 h2 k
    have h4 := fav_outs h1 h2 k
    change (favStep (favs n k)).1.ready (favStep (favs n k)).1.ms.length ≠ [] at hne
    show (favStep _).1.outs n = _
    generalize favs n k = X at ih h4 hne ⊢
    obtain ⟨B, last⟩ := X
    have hn : B.n = n := ih.num
    unfold favStep at hne ⊢
    split at hne
    · rename_i he; exact absurd he hne
    · rename_i i l he
      simp only at he h4
      simp only [he]
      obtain ⟨m, hm, hr⟩ := ready_mem.1 (by rw [he]; exact List.mem_cons_self .. : i ∈ B.ready B.ms.length)
      have h5 := h4 (by rw [he]; simp)
      simp only [hm]
      rw [← hn] at h5 ⊢
      split
      · rw [outs_told ih.inv hm (by omega) hr, h5]
      · rw [outs_told ih.inv hm (by omega) hr, h5]
end Go.Proofs.Ytdkjgkbddehaiaa
