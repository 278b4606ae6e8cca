import Derived.Test.YtliapfdbagcklaaNetB
import Derived.Test.YtliapfdbagcklaaNetD
namespace Go.Proofs.Ytliapfdbagcklaa
open Go.RowKit
attribute [local go_sem ↓] Go.wp_at_zero Go.wp_at_succ

def pickOf (n : Nat) (pick : Int) : Nat := (max 0 pick).toNat % n
theorem pickOf_lt {n : Nat} (h : 0 < n) (pick : Int) : pickOf n pick < n := Nat.mod_lt _ h
theorem pickOf_rem {n : Nat} (h : 0 < n) (pick : Int) : (max 0 pick).tmod (n : Int) = (pickOf n pick : Int) := by
  unfold pickOf
  obtain ⟨m, hm⟩ := Int.eq_ofNat_of_zero_le (show 0 ≤ max 0 pick by omega)
  rw [hm]
  simp only [Int.toNat_natCast]
  exact (Int.ofNat_tmod m n).symm

set_option maxRecDepth 100000 in
theorem picked_none (b : Nat) (l : List It) (H : Heaplet) (pick : Int) (fn : FuncId) (cap : Array Value) (w : World) (hn : NetRep 55 b l H) (hw : Own w H) (h0 : l.length = 0) :
    Calls Try.prog 28 #[.pointer (some ⟨b, 0, none⟩), .int .i64 pick, .func (.func fn) #[] cap] w fun e w' => e = .returned (.bool false) ∧ w = w' := by
  obtain ⟨a, c, R, hr, rfl, hok⟩ := hn
  clear hok
  have c0 := cells1 hw.h0
  have hl : ((l.length : Int) == 0) = true := by simp [h0]
  clear h0
  go_enter Try.func28, Try.ntmps28
  go_wp2
  go_ret
  exact ⟨rfl, rfl⟩
set_option maxRecDepth 100000 in
theorem picked_some (b : Nat) (l : List It) (H : Heaplet) (pick : Int) (fn : FuncId) (cap : Array Value) (w : World) (R : Bool → World → Prop) (hn : NetRep 55 b l H) (hw : Own w H) (h0 : 0 < l.length) (hl1 : l.length ≤ 1024)
    (hp : pick ≤ 9223372036854775807) (hf : ∀ (args : Array Value) (w : World), (callFunc fn args).run Try.prog w = .ok (.enter fn args) w)
    (h1 : Calls Try.prog fn (#[.int .i64 (pickOf l.length pick)] ++ cap) w fun e w' => ∃ x, e = .returned (.bool x) ∧ R x w') :
    Calls Try.prog 28 #[.pointer (some ⟨b, 0, none⟩), .int .i64 pick, .func (.func fn) #[] cap] w fun e w' => ∃ x, e = .returned (.bool x) ∧ R x w' := by
  obtain ⟨a, c, R, hr, rfl, hok⟩ := hn
  clear hok
  have c0 := cells1 hw.h0
  have hl : ((l.length : Int) == 0) = false := beq_eq_false_iff_ne.2 (by omega)
  have hl2 : (l.length : Int) ≤ 1024 := by omega
  have hl3 : (0 : Int) < (l.length : Int) := by omega
  replace h1 := Lib.hid h1
  have hrem := Lib.hid (pickOf_rem h0 pick)
  clear h0 hl1
  by_cases hpk : pick ≤ 0
  · have hm : max 0 pick = 0 := by omega
    go_enter Try.func28, Try.ntmps28
    go_wp2_with fail
    have e : (pickOf l.length pick : Int) = 0 := by rw [← hrem.out, hm]; simp
    have h1' := h1.out; rw [e] at h1'
    refine h1'.mono ?_
    rintro e w1 ⟨x, rfl, hx⟩
    go_wp2
    go_ret
    exact ⟨x, rfl, hx⟩
  · have hm : max 0 pick = pick := by omega
    have hp0 : 0 ≤ pick := by omega
    have e : pick % (l.length : Int) = (pickOf l.length pick : Int) := by rw [← hrem.out, hm, Int.tmod_eq_emod_of_nonneg hp0]
    replace e := Lib.hid e
    clear hm
    go_enter Try.func28, Try.ntmps28
    go_wp2_with fail
    rw [e.out]
    refine h1.out.mono ?_
    rintro e w1 ⟨x, rfl, hx⟩
    go_wp2
    go_ret
    exact ⟨x, rfl, hx⟩

theorem flatMap_cells_len (l : List It) : (l.flatMap It.cells).length = l.length * 3 := by
  induction l with
  | nil => rfl
  | cons x l ih => simp [List.flatMap_cons, ih, It.cells]; omega
theorem flatMap_cells_get (l : List It) (i j : Nat) (h : i < l.length) (hj : j < 3) : (l.flatMap It.cells)[i * 3 + j]? = (l[i]).cells[j]? := by
  induction l generalizing i with
  | nil => simp at h
  | cons x l ih =>
    rw [List.flatMap_cons]
    cases i with
    | zero => rw [List.getElem?_append_left (by simp [It.cells]; omega)]; simp
    | succ i =>
      rw [List.getElem?_append_right (by simp [It.cells]; omega)]
      have : (i + 1) * 3 + j - x.cells.length = i * 3 + j := by simp [It.cells]; omega
      rw [this, ih i (by simpa using h)]
      simp
theorem flatMap_cells_erase (l : List It) (i : Nat) (h : i < l.length) : (l.flatMap It.cells).take (i * 3) ++ (l.flatMap It.cells).drop ((i + 1) * 3) = (l.eraseIdx i).flatMap It.cells := by
  have ht : ∀ (l : List It) (i : Nat), i ≤ l.length → (l.flatMap It.cells).take (i * 3) = (l.take i).flatMap It.cells := by
    intro l i h
    conv => lhs; rw [← List.take_append_drop i l, List.flatMap_append]
    have e : ((l.take i).flatMap It.cells).length = i * 3 := by rw [flatMap_cells_len, List.length_take, Nat.min_eq_left h]
    rw [← e, List.take_left]
  have hd : ∀ (l : List It) (i : Nat), i ≤ l.length → (l.flatMap It.cells).drop (i * 3) = (l.drop i).flatMap It.cells := by
    intro l i h
    conv => lhs; rw [← List.take_append_drop i l, List.flatMap_append]
    have e : ((l.take i).flatMap It.cells).length = i * 3 := by rw [flatMap_cells_len, List.length_take, Nat.min_eq_left h]
    rw [← e, List.drop_left]
  rw [ht l i (by omega), hd l (i + 1) (by omega), List.eraseIdx_eq_take_drop_succ, List.flatMap_append]
theorem one_cells (l : List It) : ∀ u ∈ l.flatMap It.cells, u.oneCell' = true := by
  intro u hu
  obtain ⟨x, _, hx⟩ := List.mem_flatMap.1 hu
  simp [It.cells] at hx
  rcases hx with rfl | rfl | rfl <;> rfl
theorem give_perm (l : List It) (i : Nat) (h : i < l.length) : (l.flatMap It.H).Perm ((l.eraseIdx i).flatMap It.H ++ (l[i]).H) := by
  induction l generalizing i with
  | nil => simp at h
  | cons x l ih =>
    cases i with
    | zero => simpa [List.flatMap_cons] using List.perm_append_comm
    | succ i =>
      have := (ih i (by simpa using h)).append_left x.H
      simpa [List.flatMap_cons] using this
/-- A message in its row. -/
theorem SlRep.msg {a : Option Addr} {c : Nat} {l : List It} {R : Heaplet} (h : SlRep 28 3 a l.length c (l.flatMap It.cells) R) {i : Nat} (hi : i < l.length) :
    ∃ g cur, a = some ⟨g, 0, none⟩ ∧ R = [(g, .cells cur 28 (0, 0))] ∧ cur[i * 3]? = some (.int .i64 l[i].f) ∧ cur[i * 3 + 1]? = some (.int .i64 l[i].t) ∧ cur[i * 3 + 2]? = some (.slice l[i].a l[i].d.length l[i].c) := by
  obtain ⟨hl, ⟨_, h, _⟩ | ⟨g, cur, rfl, rfl, h2, h3, h4, h5⟩⟩ := h
  · omega
  · refine ⟨g, cur, rfl, rfl, ?_, ?_, ?_⟩
    all_goals
      have hg := fun j (hj : j < 3) => flatMap_cells_get l i j hi hj
      rw [← h5] at hg
    · have := hg 0 (by omega)
      rw [List.getElem?_take, if_pos (by omega)] at this
      simpa [It.cells] using this
    · have := hg 1 (by omega)
      rw [List.getElem?_take, if_pos (by omega)] at this
      simpa [It.cells] using this
    · have := hg 2 (by omega)
      rw [List.getElem?_take, if_pos (by omega)] at this
      simpa [It.cells] using this
end Go.Proofs.Ytliapfdbagcklaa
