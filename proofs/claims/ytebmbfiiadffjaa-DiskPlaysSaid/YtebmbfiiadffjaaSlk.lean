/- Slices of records of one's own, k cells each. -/
import Derived.Test.YtebmbfiiadffjaaBase
namespace Go.Proofs.Ytebmbfiiadffjaa
open Go.RowKit

section
variable {α : Type} {f : α → List Value} {k : Nat}
theorem flat_len (hf : ∀ x, (f x).length = k) (l : List α) : (l.flatMap f).length = l.length * k := by
  induction l with
  | nil => simp
  | cons x l ih => rw [List.flatMap_cons, List.length_append, ih, hf, List.length_cons, Nat.succ_mul]; omega
theorem flat_get (hf : ∀ x, (f x).length = k) (l : List α) {i j : Nat} {x : α} (hi : l[i]? = some x) (hj : j < k) : (l.flatMap f)[i * k + j]? = (f x)[j]? := by
  induction l generalizing i with
  | nil => simp at hi
  | cons y l ih =>
    rw [List.flatMap_cons]
    cases i with
    | zero =>
      simp at hi; subst hi
      rw [Nat.zero_mul, Nat.zero_add, List.getElem?_append_left (by rw [hf]; exact hj)]
    | succ i =>
      rw [List.getElem?_append_right (by rw [hf, Nat.succ_mul]; omega), hf, show (i + 1) * k + j - k = i * k + j by rw [Nat.succ_mul]; omega]
      exact ih (by simpa using hi)
theorem flat_take (hf : ∀ x, (f x).length = k) (l : List α) (i : Nat) : (l.flatMap f).take (i * k) = (l.take i).flatMap f := by
  induction l generalizing i with
  | nil => simp
  | cons y l ih =>
    cases i with
    | zero => simp
    | succ i =>
      rw [List.flatMap_cons, List.take_succ_cons, List.flatMap_cons, List.take_append, hf, List.take_of_length_le (by rw [hf, Nat.succ_mul]; omega), show (i + 1) * k - k = i * k by rw [Nat.succ_mul]; omega, ih]
theorem flat_drop (hf : ∀ x, (f x).length = k) (l : List α) (i : Nat) : (l.flatMap f).drop (i * k) = (l.drop i).flatMap f := by
  induction l generalizing i with
  | nil => simp
  | cons y l ih =>
    cases i with
    | zero => simp
    | succ i =>
      rw [List.flatMap_cons, List.drop_succ_cons, List.drop_append, hf, List.drop_eq_nil_of_le (by rw [hf, Nat.succ_mul]; omega), show (i + 1) * k - k = i * k by rw [Nat.succ_mul]; omega, ih, List.nil_append]
theorem flat_set (hf : ∀ x, (f x).length = k) (l : List α) {i j : Nat} {x x' : α} {v : Value} (hi : l[i]? = some x) (hj : j < k) (hx : f x' = (f x).set j v) : (l.flatMap f).set (i * k + j) v = (l.set i x').flatMap f := by
  induction l generalizing i with
  | nil => simp at hi
  | cons y l ih =>
    cases i with
    | zero =>
      simp at hi; subst hi
      rw [Nat.zero_mul, Nat.zero_add, List.flatMap_cons, List.set_cons_zero, List.flatMap_cons, hx, List.set_append_left _ _ (by rw [hf]; exact hj)]
    | succ i =>
      rw [List.flatMap_cons, List.set_cons_succ, List.flatMap_cons, List.set_append_right _ _ (by rw [hf, Nat.succ_mul]; omega), hf, show (i + 1) * k + j - k = i * k + j by rw [Nat.succ_mul]; omega, ih (by simpa using hi)]
variable {E : Nat}
theorem slk_at (hf : ∀ x, (f x).length = k) {a : Option Addr} {n c : Nat} {l : List α} {H : Heaplet} (h : SlRep E k a n c (l.flatMap f) H) (hl : n = l.length) {w : World} (hw : Own w H) {i : Nat} {x : α} (hi : l[i]? = some x) (hk : 0 < k) :
    ∃ g, a = some ⟨g, 0, none⟩ ∧ n ≤ c ∧ c ≤ maxLen ∧ (∀ j, w.frozen? ⟨g, j, none⟩ = false) ∧ ∀ j v, (f x)[j]? = some v → w.cell? ⟨g, i * k + j, none⟩ = some v := by
  obtain ⟨_, ⟨_, h, _⟩ | ⟨g, cur, rfl, rfl, h2, h3, h4, h5⟩⟩ := h
  · subst h
    have : l = [] := List.eq_nil_of_length_eq_zero hl.symm
    subst this; simp at hi
  · refine ⟨g, rfl, h2, h3, fun j => frz_of hw.h0, fun j v hv => ?_⟩
    have hjk : j < k := by have := (List.getElem?_eq_some_iff.1 hv).1; rw [hf] at this; exact this
    have hin : i < n := by rw [hl]; exact (List.getElem?_eq_some_iff.1 hi).1
    have hlt : i * k + j < n * k := by
      have : (i + 1) * k ≤ n * k := Nat.mul_le_mul_right _ hin
      rw [Nat.succ_mul] at this; omega
    have := flat_get hf l hi hjk
    rw [← h5, List.getElem?_take, if_pos hlt, hv] at this
    exact cell_of hw.h0 (by simpa using this)
theorem slk_put (hf : ∀ x, (f x).length = k) {w w' : World} {K A B Hs : Heaplet} {g n c : Nat} {l : List α} (s : Step w K w' (A ++ (Hs ++ B))) (h : SlRep E k (some ⟨g, 0, none⟩) n c (l.flatMap f) Hs) {i j : Nat} {x x' : α} {v : Value} (hi : l[i]? = some x) (hj : j < k) (hx : f x' = (f x).set j v) :
    ∃ H', SlRep E k (some ⟨g, 0, none⟩) n c ((l.set i x').flatMap f) H' ∧ Step w K (w'.setCell ⟨g, i * k + j, none⟩ v) (A ++ (H' ++ B)) := by
  obtain ⟨hl, ⟨h1, _⟩ | ⟨g', cur, e, rfl, h2, h3, h4, h5⟩⟩ := h
  · cases h1
  · cases e
    refine ⟨[(g, .cells (cur.setIfInBounds (i * k + j) v) E (0, 0))], ⟨?_, .inr ⟨g, _, rfl, rfl, h2, h3, by simpa using h4, ?_⟩⟩, Step.store (A := A) (B := B) v s⟩
    · rw [← flat_set hf l hi hj hx, List.length_set]; exact hl
    · rw [Array.toList_setIfInBounds, List.take_set, h5, flat_set hf l hi hj hx]
/-- A piece of the row, as what is read. -/
theorem slk_rd (hf : ∀ x, (f x).length = k) (h1 : ∀ x, ∀ u ∈ f x, u.oneCell' = true) {g n c : Nat} {l : List α} {H : Heaplet} (h : SlRep E k (some ⟨g, 0, none⟩) n c (l.flatMap f) H) (hl : n = l.length) {w : World} (hw : Own w H) (i m c' : Nat) (him : i + m ≤ n) :
    RdCells w (.slice (some ⟨g, i * k, none⟩) m c') m k (((l.drop i).take m).flatMap f) := by
  refine ⟨?_, fun u hu => ?_, .inr ⟨_, c', rfl, fun j u hu => ?_⟩⟩
  · rw [flat_len hf, List.length_take, List.length_drop, Nat.min_eq_left (by omega)]
  · obtain ⟨x, _, hx⟩ := List.mem_flatMap.1 hu
    exact h1 x u hx
  · obtain ⟨_, ⟨h1, _⟩ | ⟨g', cur, e, rfl, h2, h3, h4, h5⟩⟩ := h
    · cases h1
    · cases e
      rw [Addr.add_lit]
      have hj : j < m * k := by
        have := (List.getElem?_eq_some_iff.1 hu).1
        rwa [flat_len hf, List.length_take, List.length_drop, Nat.min_eq_left (by omega)] at this
      rw [← flat_take hf, ← flat_drop hf, List.getElem?_take, if_pos hj, List.getElem?_drop, ← h5, List.getElem?_take, if_pos (by
        have : (i + m) * k ≤ n * k := Nat.mul_le_mul_right _ him
        rw [Nat.add_mul] at this; omega)] at hu
      exact cell_of hw.h0 (by simpa using hu)
end
end Go.Proofs.Ytebmbfiiadffjaa
