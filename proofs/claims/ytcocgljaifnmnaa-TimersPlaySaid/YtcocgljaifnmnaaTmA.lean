/- Things in a heap: the order, swaps, what holds while one climbs or sinks. -/
import Derived.Test.YtcocgljaifnmnaaMore
namespace Go.Proofs.Ytcocgljaifnmnaa

/-- A thing: its block, its number, its time. -/
structure Th where
  p : Nat
  id : Int
  at' : Int
def d0 : Th := ⟨0, 0, 0⟩
def Th.lt (a b : Th) : Prop := a.at' < b.at' ∨ (a.at' = b.at' ∧ a.id < b.id)
def Th.le (a b : Th) : Prop := ¬ b.lt a
theorem Th.le_trans {a b c : Th} (h : a.le b) (k : b.le c) : a.le c := by unfold Th.le Th.lt at *; omega
theorem Th.lt_le {a b : Th} (h : a.lt b) : a.le b := by unfold Th.le Th.lt at *; omega
theorem Th.le_refl (a : Th) : a.le a := by unfold Th.le Th.lt; omega
def gt (L : List Th) (i : Nat) : Th := L.getD i d0
def swp (L : List Th) (i j : Nat) : List Th := (L.set i (gt L j)).set j (gt L i)
theorem swp_len (L : List Th) (i j : Nat) : (swp L i j).length = L.length := by simp [swp]
theorem gt_eq {L : List Th} {i : Nat} (h : i < L.length) : gt L i = L[i] := by simp [gt, h]
theorem gt_get {L : List Th} {i : Nat} (h : i < L.length) : L[i]? = some (gt L i) := by rw [gt_eq h]; exact List.getElem?_eq_getElem h
theorem swp_get {L : List Th} {i j : Nat} (hi : i < L.length) (hj : j < L.length) (k : Nat) : gt (swp L i j) k = if k = j then gt L i else if k = i then gt L j else gt L k := by
  unfold gt swp
  simp only [List.getD_eq_getElem?_getD, List.getElem?_set, List.length_set]
  by_cases h1 : k = j
  · subst h1; simp [hj]; rfl
  · rw [if_neg (Ne.symm h1), if_neg h1]
    by_cases h2 : k = i
    · subst h2; simp [hi]; rfl
    · rw [if_neg (Ne.symm h2), if_neg h2]
theorem swp_perm {L : List Th} {i j : Nat} (hi : i < L.length) (hj : j < L.length) : (swp L i j).Perm L := by
  unfold swp
  rw [gt_eq hi, gt_eq hj]
  exact List.set_set_perm hi hj
/-- A heap of the first n. -/
def HOk (L : List Th) (n : Nat) : Prop := ∀ k, 0 < k → k < n → (gt L ((k - 1) / 2)).le (gt L k)
/-- .. but for the one at j, which may have to climb. -/
def HUp (L : List Th) (n j : Nat) : Prop := (∀ k, 0 < k → k < n → k ≠ j → (gt L ((k - 1) / 2)).le (gt L k)) ∧ (∀ k, 0 < k → k < n → (k - 1) / 2 = j → 0 < j → (gt L ((j - 1) / 2)).le (gt L k))
/-- .. but for the one at i, which may have to sink. -/
def HDown (L : List Th) (n i : Nat) : Prop := (∀ k, 0 < k → k < n → (k - 1) / 2 ≠ i → (gt L ((k - 1) / 2)).le (gt L k)) ∧ (∀ k, 0 < k → k < n → (k - 1) / 2 = i → 0 < i → (gt L ((i - 1) / 2)).le (gt L k))
/-- .. but for the one at i, which may have to climb or to sink. -/
def HFix (L : List Th) (n i : Nat) : Prop := (∀ k, 0 < k → k < n → k ≠ i → (k - 1) / 2 ≠ i → (gt L ((k - 1) / 2)).le (gt L k)) ∧ (∀ k, 0 < k → k < n → (k - 1) / 2 = i → 0 < i → (gt L ((i - 1) / 2)).le (gt L k))
theorem up_swap {L : List Th} {n j : Nat} (h : HUp L n j) (hn : n ≤ L.length) (hj0 : 0 < j) (hj : j < n) (hlt : (gt L j).lt (gt L ((j - 1) / 2))) : HUp (swp L ((j - 1) / 2) j) n ((j - 1) / 2) := by
  obtain ⟨i, hi⟩ : ∃ i, i = (j - 1) / 2 := ⟨_, rfl⟩
  rw [← hi] at hlt ⊢
  have hij : i < j := by omega
  have g := swp_get (L := L) (i := i) (j := j) (by omega) (by omega)
  refine ⟨fun k h0 hk hki => ?_, fun k h0 hk hki hi0 => ?_⟩
  · rw [g, g]
    by_cases hkj : k = j
    · subst hkj
      rw [if_pos rfl, if_neg (by omega), if_pos hi.symm]
      exact Th.lt_le hlt
    · rw [if_neg hkj, if_neg hki]
      by_cases hq : (k - 1) / 2 = i
      · rw [if_neg (by omega), if_pos hq]
        have := h.1 k h0 hk hkj
        rw [hq] at this
        exact Th.le_trans (Th.lt_le hlt) this
      · by_cases hq2 : (k - 1) / 2 = j
        · rw [if_pos hq2]
          have := h.2 k h0 hk hq2 hj0
          rwa [← hi] at this
        · rw [if_neg hq2, if_neg hq]
          exact h.1 k h0 hk hkj
  · rw [g, g]
    rw [if_neg (by omega), if_neg (by omega)]
    have hpi := h.1 i hi0 (by omega) (by omega)
    by_cases hkj : k = j
    · rw [if_pos hkj]; exact hpi
    · rw [if_neg hkj, if_neg (by omega)]
      have := h.1 k h0 hk hkj
      rw [hki] at this
      exact Th.le_trans hpi this
theorem up_done {L : List Th} {n j : Nat} (h : HUp L n j) (hd : j = 0 ∨ (gt L ((j - 1) / 2)).le (gt L j)) : HOk L n := by
  intro k h0 hk
  by_cases hkj : k = j
  · subst hkj
    rcases hd with rfl | hd
    · omega
    · exact hd
  · exact h.1 k h0 hk hkj
/-- j is the least child of i among the first n. -/
def Least (L : List Th) (n i j : Nat) : Prop := 0 < j ∧ j < n ∧ (j - 1) / 2 = i ∧ ∀ k, 0 < k → k < n → (k - 1) / 2 = i → (gt L j).le (gt L k)
theorem fix_swap {L : List Th} {n i j : Nat} (h : HFix L n i) (hn : n ≤ L.length) (hl : Least L n i j) (hlt : (gt L j).lt (gt L i)) : HDown (swp L i j) n j := by
  obtain ⟨j0, hjn, hji, hmin⟩ := hl
  have hij : i < j := by omega
  have g := swp_get (L := L) (i := i) (j := j) (by omega) (by omega)
  refine ⟨fun k h0 hk hkj => ?_, fun k h0 hk hkj _ => ?_⟩
  · rw [g, g]
    rw [if_neg hkj]
    by_cases hq : (k - 1) / 2 = i
    · rw [if_pos hq]
      by_cases hk1 : k = j
      · rw [if_pos hk1]; exact Th.lt_le hlt
      · rw [if_neg hk1, if_neg (by omega)]; exact hmin k h0 hk hq
    · rw [if_neg hq]
      by_cases hk1 : k = j
      · omega
      · rw [if_neg hk1]
        by_cases hk2 : k = i
        · subst hk2
          rw [if_pos rfl]
          exact h.2 j j0 hjn hji h0
        · rw [if_neg hk2]; exact h.1 k h0 hk hk2 hq
  · rw [g, g]
    rw [hji, if_neg (by omega), if_pos rfl, if_neg (by omega), if_neg (by omega)]
    have := h.1 k h0 hk (by omega) (by omega)
    rwa [hkj] at this
theorem down_fix {L : List Th} {n i : Nat} (h : HDown L n i) : HFix L n i := ⟨fun k a b _ d => h.1 k a b d, h.2⟩
theorem down_done {L : List Th} {n i : Nat} (h : HDown L n i) (hd : ∀ k, 0 < k → k < n → (k - 1) / 2 = i → (gt L i).le (gt L k)) : HOk L n := by
  intro k h0 hk
  by_cases hq : (k - 1) / 2 = i
  · rw [hq]; exact hd k h0 hk hq
  · exact h.1 k h0 hk hq
theorem fix_stay {L : List Th} {n i : Nat} (h : HFix L n i) (hd : ∀ k, 0 < k → k < n → (k - 1) / 2 = i → (gt L i).le (gt L k)) : HUp L n i := by
  refine ⟨fun k h0 hk hki => ?_, h.2⟩
  by_cases hq : (k - 1) / 2 = i
  · rw [hq]; exact hd k h0 hk hq
  · exact h.1 k h0 hk hki hq
theorem ok_min {L : List Th} {n : Nat} (h : HOk L n) : ∀ k, k < n → (gt L 0).le (gt L k) := by
  intro k
  induction k using Nat.strongRecOn with
  | _ k ih =>
    intro hk
    rcases Nat.eq_zero_or_pos k with rfl | h0
    · exact Th.le_refl _
    · exact Th.le_trans (ih ((k - 1) / 2) (by omega) (by omega)) (h k h0 hk)
end Go.Proofs.Ytcocgljaifnmnaa
