import Derived.Test.YtliapfdbagcklaaNetA
import Derived.Test.YtliapfdbagcklaaSl
namespace Go.Proofs.Ytliapfdbagcklaa
open Go.RowKit
attribute [local go_sem ↓] Go.wp_at_zero Go.wp_at_succ

/-- A row read from its middle on. -/
theorem SlRep.from {E k : Nat} {g n c : Nat} {xs : List Value} {H : Heaplet} (h : SlRep E k (some ⟨g, 0, none⟩) n c xs H) (h1 : ∀ u ∈ xs, u.oneCell' = true) {w : World} (hw : Own w H) {j : Nat} (hj : j ≤ n) {ad : Addr} (c' : Nat) (had : j < n → ad = ⟨g, j * k, none⟩) :
    RdCells w (.slice (some ad) (n - j) c') (n - j) k (xs.drop (j * k)) := by
  obtain ⟨hl, ⟨h, _⟩ | ⟨g', cur, h, rfl, h2, h3, h4, h5⟩⟩ := h
  · cases h
  · cases h
    refine ⟨by rw [List.length_drop, hl, Nat.sub_mul], fun u hu => h1 u (List.mem_of_mem_drop hu), .inr ⟨ad, c', rfl, fun i u hi => ?_⟩⟩
    rw [List.getElem?_drop] at hi
    have hlt := (List.getElem?_eq_some_iff.1 hi).1
    have hjn : j < n := by
      rcases Nat.lt_or_ge j n with x | x
      · exact x
      · have : j = n := by omega
        subst this; omega
    rw [had hjn, Addr.add_lit]
    refine cell_of hw.head ?_
    rw [← h5, List.getElem?_take] at hi
    split at hi
    · simpa using hi
    · cases hi
theorem SlRep.upto {E k : Nat} {a : Option Addr} {n c : Nat} {xs : List Value} {H : Heaplet} (h : SlRep E k a n c xs H) {i : Nat} (hi : i ≤ n) : SlRep E k a i c (xs.take (i * k)) H := by
  obtain ⟨hl, ⟨rfl, rfl, rfl, rfl⟩ | ⟨g, cur, rfl, rfl, h2, h3, h4, h5⟩⟩ := h
  · have : i = 0 := by omega
    subst this
    exact ⟨by simp, .inl ⟨rfl, rfl, rfl, rfl⟩⟩
  · have hm : i * k ≤ n * k := Nat.mul_le_mul_right _ hi
    refine ⟨by rw [List.length_take]; omega, .inr ⟨g, cur, rfl, rfl, by omega, h3, h4, ?_⟩⟩
    rw [← h5, List.take_take, Nat.min_eq_left hm]

def DelPost (T k g n c i j : Nat) (xs : List Value) (w : World) (H : Heaplet) (e : Ending) (w' : World) : Prop :=
  ∃ m H', Hid (m + (j - i) = n) ∧ e = .returned (.slice (some ⟨g, 0, none⟩) m c) ∧ SlRep T k (some ⟨g, 0, none⟩) m c (xs.take (i * k) ++ xs.drop (j * k)) H' ∧ Step w H w' H'

set_option maxRecDepth 100000 in
theorem delete_msg (g n c i j : Nat) (xs : List Value) (H : Heaplet) (w : World) (hv : SlRep 28 3 (some ⟨g, 0, none⟩) n c xs H) (hw : Own w H) (h1 : ∀ u ∈ xs, u.oneCell' = true) (hij : i < j) (hjn : j ≤ n) :
    Calls Try.prog 30 #[.slice (some ⟨g, 0, none⟩) n c, .int .i64 i, .int .i64 j] w (DelPost 28 3 g n c i j xs w H) := by
  have hnc : n ≤ c := by
    obtain ⟨_, ⟨h, _⟩ | ⟨_, _, _, _, h, _⟩⟩ := hv
    · cases h
    · exact h
  have hcm : c ≤ 9223372036854775807 := by
    obtain ⟨_, ⟨h, _⟩ | ⟨_, _, _, _, _, h, _⟩⟩ := hv
    · cases h
    · unfold maxLen at h; omega
  have b1 : (0 : Int) ≤ (i : Int) := by omega
  have b2 : (i : Int) ≤ (j : Int) := by omega
  have b3 : (j : Int) ≤ (n : Int) := by omega
  have b4 : (n : Int) ≤ (c : Int) := by omega
  have b5 : ((i : Int) == (j : Int)) = false := by simp; omega
  have b6 : (i : Int) ≤ (c : Int) := by omega
  have b7 : (j : Int) ≤ (c : Int) := by omega
  obtain ⟨A, hA, hA'⟩ : ∃ A : Addr, (if c = j then some (⟨g, 0, none⟩ : Addr) else some ⟨g, j * 3, none⟩) = some A ∧ Hid (j < n → A = ⟨g, j * 3, none⟩) := by
    by_cases h : c = j
    · exact ⟨_, by rw [if_pos h], fun hj => by omega⟩
    · exact ⟨_, by rw [if_neg h], fun _ => rfl⟩
  replace h1 := Lib.hid h1
  replace hv := Lib.hid hv
  go_enter Try.func30, Try.ntmps30
  go_wp2_with fail
  go_region_law (refine step_app_room (w := w.drew) rfl st_msg _ _ (by rfl) (b := some ⟨g, 0, none⟩) (n := i) (cp := c) (m := n - j) (xv := .slice (some A) (n - j) (c - j)) (by simp [Act.eval, Act.put]; done) (by simp [Act.eval, Act.put]; done) (hv.out.upto (i := i) (by omega)) hw.drew (hv.out.from h1.out hw.drew (j := j) (by omega) _ hA'.out) (by omega) ?_; intro w1 H1 hv1 hst1)
  have d1 : (0 : Int) ≤ ((i + (n - j) : Nat) : Int) := by omega
  have d2 : ((i + (n - j) : Nat) : Int) ≤ (n : Int) := by omega
  have d3 : ¬ c = i + (n - j) := by omega
  generalize hq : i + (n - j) = q at *
  replace hq := Lib.hid hq
  obtain ⟨w2, H2, hrun, hv2, hst2⟩ := run_clear_tail (P := Try.prog) w1 st_msg (by simp [Value.cells, Value.oneCell']) 0 (m := n - q) (c' := c - q) (ad := ⟨g, q * 3, none⟩) hv1 hst1.own (by have := hq.out; omega) (fun _ => rfl)
  go_wp2
  go_ret
  exact ⟨q, H2, by have := hq.out; show _ = _; omega, rfl, hv2, (Step.refl hw).drew.trans (hst1.trans hst2)⟩
theorem delete_msg_at (g n c i j : Nat) (I J : Int) (xs : List Value) (H : Heaplet) (w : World) (hv : SlRep 28 3 (some ⟨g, 0, none⟩) n c xs H) (hw : Own w H) (h1 : ∀ u ∈ xs, u.oneCell' = true) (hij : i < j) (hjn : j ≤ n) (hI : I = i) (hJ : J = j) :
    Calls Try.prog 30 #[.slice (some ⟨g, 0, none⟩) n c, .int .i64 I, .int .i64 J] w (DelPost 28 3 g n c i j xs w H) := by
  subst hI hJ; exact delete_msg g n c i j xs H w hv hw h1 hij hjn
end Go.Proofs.Ytliapfdbagcklaa
