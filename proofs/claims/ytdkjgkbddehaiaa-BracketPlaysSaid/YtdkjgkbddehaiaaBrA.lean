/- The bracket in memory, and what its small methods answer. -/
import Derived.Test.YtdkjgkbddehaiaaBrPure
import Derived.Test.YtdkjgkbddehaiaaSeedB
import Derived.Test.YtdkjgkbddehaiaaMk
namespace Go.Proofs.Ytdkjgkbddehaiaa
open Go.RowKit
attribute [local go_sem ↓] Go.wp_at_zero Go.wp_at_succ

def Mt.cells (m : Mt) : List Value := [iv m.s0, iv m.s1, iv m.w, .bool m.bye]
/-- A Bracket of the program's: its block b, its matches' g, its row of who is out h. -/
def brH (b g h : Nat) (B : Br) : Heaplet :=
  [(b, .cells #[iv B.n, iv B.z, .slice (some ⟨g, 0, none⟩) B.ms.length B.ms.length, .slice (some ⟨h, 0, none⟩) B.out.length B.out.length] 55 (0, 0)),
   (g, .cells (B.ms.flatMap Mt.cells).toArray 57 (0, 0)), (h, .cells (B.out.map Value.bool).toArray 4 (0, 0))]
abbrev pt (b : Nat) : Value := .pointer (some ⟨b, 0, none⟩)
theorem flat4 : ∀ (l : List Mt) (i j : Nat), j < 4 → (l.flatMap Mt.cells)[i * 4 + j]? = (l[i]?).bind fun m => m.cells[j]?
  | [], i, j, hj => by simp
  | m :: l, 0, j, hj => by
    rw [List.flatMap_cons, Nat.zero_mul, Nat.zero_add, List.getElem?_append_left (by simp [Mt.cells]; exact hj)]; rfl
  | m :: l, i + 1, j, hj => by
    rw [List.flatMap_cons, List.getElem?_append_right (by simp [Mt.cells]; omega)]
    rw [show (i + 1) * 4 + j - m.cells.length = i * 4 + j by simp [Mt.cells]; omega]
    rw [flat4 l i j hj]; simp
theorem flat4_len (l : List Mt) : (l.flatMap Mt.cells).length = l.length * 4 := by
  induction l with
  | nil => rfl
  | cons m l ih => simp [Mt.cells, ih]; omega
theorem ms_cell {b g h : Nat} {B : Br} {w : World} (hw : Own w (brH b g h B)) {i : Nat} {m : Mt} (hm : B.ms[i]? = some m) :
    w.cell? ⟨g, i * 4, none⟩ = some (iv m.s0) ∧ w.cell? ⟨g, i * 4 + 1, none⟩ = some (iv m.s1) ∧ w.cell? ⟨g, i * 4 + 2, none⟩ = some (iv m.w) ∧ w.cell? ⟨g, i * 4 + 3, none⟩ = some (.bool m.bye) := by
  have hg : w.heap[g]? = some (.cells (B.ms.flatMap Mt.cells).toArray 57 (0, 0)) := Own.h1 hw
  have h4 : ∀ j, j < 4 → (B.ms.flatMap Mt.cells).toArray[i * 4 + j]? = m.cells[j]? := fun j hj => by
    rw [List.getElem?_toArray, flat4 _ _ _ hj, hm]; rfl
  exact ⟨cell_of hg (h4 0 (by omega)), cell_of hg (h4 1 (by omega)), cell_of hg (h4 2 (by omega)), cell_of hg (h4 3 (by omega))⟩
theorem out_cell {b g h : Nat} {B : Br} {w : World} (hw : Own w (brH b g h B)) {s : Nat} {x : Bool} (hx : B.out[s]? = some x) : w.cell? ⟨h, s, none⟩ = some (.bool x) := by
  have hh : w.heap[h]? = some (.cells (B.out.map Value.bool).toArray 4 (0, 0)) := Own.h2 hw
  exact cell_of hh (by rw [List.getElem?_toArray, List.getElem?_map, hx]; rfl)
/-- Is there such a match? -/
def Br.has (B : Br) (i : Int) : Bool := decide (0 ≤ i) && decide (i < B.ms.length)

theorem matches_any (b g h : Nat) (B : Br) (w : World) (hw : Own w (brH b g h B)) :
    Calls Try.prog 14 #[pt b] w fun e w' => e = .returned (iv B.ms.length) ∧ w = w' := by
  obtain ⟨c0, c1, c2, c3⟩ := cells4 hw.h0
  go_enter Try.func14, Try.ntmps14
  go_wp2
  go_ret
  exact ⟨rfl, rfl⟩
theorem has_yes (b g h : Nat) (B : Br) (k : Nat) (w : World) (hw : Own w (brH b g h B)) (hk : k < B.ms.length) :
    Calls Try.prog 27 #[pt b, .int .i64 k] w fun e w' => e = .returned (.bool true) ∧ w = w' := by
  obtain ⟨c0, c1, c2, c3⟩ := cells4 hw.h0
  have b1 : (0 : Int) ≤ (k : Int) := by omega
  have b2 : (k : Int) < (B.ms.length : Int) := by omega
  go_enter Try.func27, Try.ntmps27
  go_wp2
  go_ret
  exact ⟨rfl, rfl⟩
theorem has_no (b g h : Nat) (B : Br) (i : Int) (w : World) (hw : Own w (brH b g h B)) (hi : B.has i = false) :
    Calls Try.prog 27 #[pt b, .int .i64 i] w fun e w' => e = .returned (.bool false) ∧ w = w' := by
  obtain ⟨c0, c1, c2, c3⟩ := cells4 hw.h0
  by_cases h0 : 0 ≤ i
  · have b2 : (B.ms.length : Int) ≤ i := by simp [Br.has, h0] at hi; omega
    have b3 : decide (i < (B.ms.length : Int)) = false := decide_eq_false (by omega)
    clear hi
    go_enter Try.func27, Try.ntmps27
    go_wp2
    go_ret
    exact ⟨rfl, rfl⟩
  · clear hi
    go_enter Try.func27, Try.ntmps27
    go_wp2
    go_ret
    exact ⟨rfl, rfl⟩
theorem has_nil (i : Int) (w : World) : Calls Try.prog 27 #[.pointer none, .int .i64 i] w fun e w' => e = .returned (.bool false) ∧ w = w' := by
  go_enter Try.func27, Try.ntmps27
  go_wp2
  go_ret
  exact ⟨rfl, rfl⟩
theorem has_of {B : Br} {i : Int} (h : B.has i = true) : ∃ (k : Nat) (m : Mt), i = k ∧ k < B.ms.length ∧ B.ms[k]? = some m := by
  simp [Br.has] at h
  obtain ⟨k, rfl⟩ := Int.eq_ofNat_of_zero_le h.1
  have hk : k < B.ms.length := by omega
  exact ⟨k, _, rfl, hk, List.getElem?_eq_getElem hk⟩
theorem winner_of {B : Br} {i : Int} (h : B.has i = false) : B.winner i = 0 := by
  unfold Br.winner
  by_cases h0 : 0 ≤ i
  · rw [if_pos h0]
    simp [Br.has, h0] at h
    rw [List.getElem?_eq_none (by omega)]
  · rw [if_neg h0]
theorem winner_at {B : Br} {k : Nat} {m : Mt} (hm : B.ms[k]? = some m) : B.winner (k : Int) = m.w := by
  unfold Br.winner; rw [if_pos (by omega), Int.toNat_natCast, hm]
theorem winner_any (b g h : Nat) (B : Br) (i : Int) (w : World) (hw : Own w (brH b g h B)) (hl : B.ms.length ≤ 64) :
    Calls Try.prog 16 #[pt b, .int .i64 i] w fun e w' => e = .returned (iv (B.winner i)) ∧ w = w' := by
  cases hi : B.has i
  · rw [winner_of hi]
    replace hi := Lib.hid hi
    go_enter Try.func16, Try.ntmps16
    go_wp2_with (go_at_call 27; refine (has_no b g h B i _ hw hi.out).mono ?_; rintro e w' ⟨rfl, rfl⟩)
    go_ret
    exact ⟨rfl, rfl⟩
  · obtain ⟨k, m, rfl, hk, hm⟩ := has_of hi
    rw [winner_at hm]
    obtain ⟨c0, c1, c2, c3⟩ := cells4 hw.h0
    obtain ⟨m0, m1, m2, m3⟩ := ms_cell hw hm
    have b1 : (0 : Int) ≤ (k : Int) := by omega
    have b2 : (k : Int) < (B.ms.length : Int) := by omega
    clear hi hm
    go_enter Try.func16, Try.ntmps16
    go_wp2_with (go_at_call 27; refine (has_yes b g h B k _ hw hk).mono ?_; rintro e w' ⟨rfl, rfl⟩)
    go_ret
    exact ⟨rfl, rfl⟩
theorem champion_any (b g h : Nat) (B : Br) (w : World) (hw : Own w (brH b g h B)) (hl : B.ms.length ≤ 64) :
    Calls Try.prog 17 #[pt b] w fun e w' => e = .returned (iv (B.winner ((B.ms.length : Int) - 1))) ∧ w = w' := by
  have b1 : (B.ms.length : Int) ≤ 64 := by omega
  go_enter Try.func17, Try.ntmps17
  go_wp2_with fail
  refine (matches_any b g h B _ hw).mono ?_
  rintro e w' ⟨rfl, rfl⟩
  go_wp2_with fail
  refine (winner_any b g h B _ _ hw hl).mono ?_
  rintro e w' ⟨rfl, rfl⟩
  go_wp2
  go_ret
  exact ⟨rfl, rfl⟩
theorem isOut_at {B : Br} {k : Nat} {x : Bool} (h1 : 1 ≤ k) (h2 : k ≤ B.n) (hx : B.out[k]? = some x) : B.isOut (k : Int) = x := by
  unfold Br.isOut; rw [if_pos (by omega), Int.toNat_natCast, List.getD_eq_getElem?_getD, hx]; rfl
theorem out_any (b g h : Nat) (B : Br) (s : Int) (w : World) (hw : Own w (brH b g h B)) (hl : B.out.length = B.n + 1) (hn : B.n ≤ 64) :
    Calls Try.prog 18 #[pt b, .int .i64 s] w fun e w' => e = .returned (.bool (B.isOut s)) ∧ w = w' := by
  obtain ⟨c0, c1, c2, c3⟩ := cells4 hw.h0
  have b0 : (B.n : Int) ≤ 64 := by omega
  by_cases h1 : s < 1
  · have e1 : B.isOut s = false := by unfold Br.isOut; rw [if_neg (by omega)]
    rw [e1]
    clear e1 hl
    go_enter Try.func18, Try.ntmps18
    go_wp2
    go_ret
    exact ⟨rfl, rfl⟩
  by_cases h2 : (B.n : Int) < s
  · have e1 : B.isOut s = false := by unfold Br.isOut; rw [if_neg (by omega)]
    rw [e1]
    clear e1 hl
    go_enter Try.func18, Try.ntmps18
    go_wp2
    go_ret
    exact ⟨rfl, rfl⟩
  obtain ⟨k, rfl⟩ := Int.eq_ofNat_of_zero_le (show 0 ≤ s by omega)
  obtain ⟨x, hx⟩ : ∃ x, B.out[k]? = some x := ⟨_, List.getElem?_eq_getElem (by omega)⟩
  rw [isOut_at (by omega) (by omega) hx]
  have hc := out_cell hw hx
  have b1 : (1 : Int) ≤ (k : Int) := by omega
  have b2 : (k : Int) ≤ (B.n : Int) := by omega
  have b3 : (k : Int) < (B.out.length : Int) := by omega
  clear hx hl
  go_enter Try.func18, Try.ntmps18
  go_wp2
  go_ret
  exact ⟨rfl, rfl⟩
/-- What Seats answers. -/
def Br.seats (B : Br) (i : Int) : Nat × Nat × Nat := if 0 ≤ i then (match B.ms[i.toNat]? with | some m => (m.s0, m.s1, 0) | none => (0, 0, 7)) else (0, 0, 7)
theorem seats_of {B : Br} {i : Int} (h : B.has i = false) : B.seats i = (0, 0, 7) := by
  unfold Br.seats
  by_cases h0 : 0 ≤ i
  · rw [if_pos h0]
    simp [Br.has, h0] at h
    rw [List.getElem?_eq_none (by omega)]
  · rw [if_neg h0]
theorem seats_at {B : Br} {k : Nat} {m : Mt} (hm : B.ms[k]? = some m) : B.seats (k : Int) = (m.s0, m.s1, 0) := by
  unfold Br.seats; rw [if_pos (by omega), Int.toNat_natCast, hm]
def SeatsPost (x : Nat × Nat × Nat) (w : World) (e : Ending) (w' : World) : Prop := e = .returned (.tuple #[.agg #[iv x.1, iv x.2.1], iv x.2.2]) ∧ Step w [] w' []
theorem seats_any (b g h : Nat) (B : Br) (i : Int) (w : World) (hw : Own w (brH b g h B)) (hl : B.ms.length ≤ 64) :
    Calls Try.prog 15 #[pt b, .int .i64 i] w (SeatsPost (B.seats i) w) := by
  have s0 := (Step.refl (Own.nil w)).alloc (.cells #[.int .i64 0, .int .i64 0] 32)
  have o1 := ((Step.refl hw).alloc (.cells #[.int .i64 0, .int .i64 0] 32)).own
  obtain ⟨d0, d1⟩ := cells2 s0.own.h0
  have f := fun i => frz_of (i := i) s0.own.h0
  cases hi : B.has i
  · rw [seats_of hi]
    replace hi := Lib.hid hi
    go_enter Try.func15, Try.ntmps15
    go_wp2_with fail
    refine (has_no b g h B i _ o1.tail hi.out).mono ?_
    rintro e w' ⟨rfl, rfl⟩
    go_wp2
    exact bodyPost_ret (v := .tuple #[.agg #[iv 0, iv 0], iv 7]) (by simp [results, Try.results15, go_sem]) rfl ⟨rfl, (Step.refl (Own.nil w)).junk _⟩
  · obtain ⟨k, m, rfl, hk, hm⟩ := has_of hi
    rw [seats_at hm]
    obtain ⟨c0, c1, c2, c3⟩ := cells4 o1.h1
    obtain ⟨m0, m1, m2, m3⟩ := ms_cell o1.tail hm
    have b1 : (0 : Int) ≤ (k : Int) := by omega
    have b2 : (k : Int) < (B.ms.length : Int) := by omega
    clear hi hm
    go_enter Try.func15, Try.ntmps15
    go_wp2_with fail
    refine (has_yes b g h B k _ o1.tail hk).mono ?_
    rintro e w' ⟨rfl, rfl⟩
    go_wp2
    exact bodyPost_ret (v := .tuple #[.agg #[iv m.s0, iv m.s1], iv 0]) (by simp [results, Try.results15, go_sem]) rfl ⟨rfl, (Step.refl (Own.nil w)).junk _⟩
end Go.Proofs.Ytdkjgkbddehaiaa
