/- goes and wins: where a winner goes, and what is then. -/
import Derived.Test.YtdkjgkbddehaiaaBrA
namespace Go.Proofs.Ytdkjgkbddehaiaa
open Go.RowKit
attribute [local go_sem ↓] Go.wp_at_zero Go.wp_at_succ

theorem half_pow {z q : Nat} (hz : z = 2 ^ (q + 1)) : z / 2 = 2 ^ q := by rw [hz, Nat.pow_succ]; omega
/-- The loop of goes: round is 2^j, from is z - 2^(j+1). -/
def GoRel (z i : Nat) (v7 v8 : Value) : Prop := ∃ j r : Nat, r = 2 ^ j ∧ 2 * r ≤ z ∧ (z - 2 * r) % 2 = 0 ∧ z - 2 * r ≤ i ∧ v7 = .int .i64 ((z - 2 * r : Nat) : Int) ∧ v8 = .int .i64 (r : Nat)
def GoesPost (z i : Nat) (w : World) (e : Ending) (w' : World) : Prop := e = .returned (.tuple #[.int .i64 ((z / 2 + i / 2 : Nat) : Int), .int .i64 ((i % 2 : Nat) : Int), .bool (decide (i + 2 < z))]) ∧ w = w'
set_option maxRecDepth 100000 in
theorem goes_any (b g h : Nat) (B : Br) (i : Nat) (w : World) (hw : Own w (brH b g h B)) (hz : ∃ q, q ≤ 5 ∧ B.z = 2 ^ (q + 1)) (hi : i + 1 < B.z) :
    Calls Try.prog 25 #[pt b, .int .i64 i] w (GoesPost B.z i w) := by
  obtain ⟨c0, c1, c2, c3⟩ := cells4 hw.h0
  obtain ⟨q, hq, hz⟩ := hz
  obtain ⟨z, hzz⟩ : ∃ z, z = B.z := ⟨_, rfl⟩
  rw [← hzz] at c1 hz hi ⊢
  have h64 : z ≤ 64 := by rw [hz]; exact Nat.pow_le_pow_right (n := 2) (j := 6) (by omega) (by omega)
  have b1 : (z : Int) ≤ 64 := by omega
  have b2 : (i : Int) < (z : Int) := by omega
  have b3 : (0 : Int) ≤ (z : Int) := by omega
  have hzq := half_pow hz
  have hz2 : 2 * (z / 2) = z := by rw [hzq, hz, Nat.pow_succ]; omega
  replace hz := Lib.hid hz
  replace hzq := Lib.hid hzq
  clear hzz
  replace hz2 := Lib.hid hz2
  go_enter Try.func25, Try.ntmps25
  go_wp2_with fail
  go_loop [7, 8] (fun v7 v8 => GoRel z i v7 v8) (fun _ v8 => (intOf v8).toNat)
  case atStart =>
    have := hz2.out
    exact ⟨q, z / 2, hzq.out, by omega, by omega, by omega, by rw [show z - 2 * (z / 2) = 0 by omega]; rfl, by go_num⟩
  case round =>
    obtain ⟨j, r, hr, h1, h2, h3, rfl, rfl⟩ := hrel
    have hr1 : 1 ≤ r := by rw [hr]; exact Nat.one_le_two_pow
    obtain ⟨F, hF⟩ : ∃ F, F = z - 2 * r := ⟨_, rfl⟩
    rw [← hF] at h2 h3 ⊢
    have d1 : (1 : Int) ≤ (r : Int) := by omega
    have d2 : (F : Int) ≤ (i : Int) := by omega
    have d3 : (r : Int) ≤ 64 := by omega
    have d4 : (F : Int) ≤ 64 := by omega
    by_cases hlt : i < F + r
    · have d5 : (i : Int) < (F : Int) + (r : Int) := by omega
      have e1 : Hid (F + r + (i - F) / 2 = z / 2 + i / 2) := by show _ = _; omega
      have e2 : Hid ((i - F) % 2 = i % 2) := by show _ = _; omega
      have e3 : Hid (decide (1 < (r : Int)) = decide (i + 2 < z)) := by
        show _ = _
        rw [decide_eq_decide]
        have hj : j = 0 ∨ 2 ≤ r := by
          cases j with
          | zero => exact .inl rfl
          | succ j => refine .inr ?_; rw [hr, Nat.pow_succ]; have := Nat.one_le_two_pow (n := j); omega
        rcases hj with rfl | hj
        · simp at hr; omega
        · omega
      replace hF := Lib.hid hF
      replace hr := Lib.hid hr
      go_wp2_with fail
      go_ret3
      refine ⟨?_, rfl⟩
      show Ending.returned (.tuple #[.int .i64 ((F : Int) + r + ((i : Int) - F) / 2), .int .i64 (((i : Int) - F) % 2), .bool (decide (1 < (r : Int)))]) = _
      rw [e3.out, show (F : Int) + r + ((i : Int) - F) / 2 = ((z / 2 + i / 2 : Nat) : Int) by have := e1.out; omega, show ((i : Int) - F) % 2 = ((i % 2 : Nat) : Int) by have := e2.out; omega]
    · have d5 : (F : Int) + (r : Int) ≤ (i : Int) := by omega
      replace hF := Lib.hid hF
      replace hr := Lib.hid hr
      have hj : ∃ k, j = k + 1 := by
        cases j with
        | zero => have := hr.out; have := hF.out; simp at *; omega
        | succ k => exact ⟨k, rfl⟩
      obtain ⟨k, rfl⟩ := hj
      have hr2 : Hid (r / 2 = 2 ^ k ∧ 2 * (r / 2) = r) := by
        have := hr.out; rw [Nat.pow_succ] at this
        exact ⟨by omega, by omega⟩
      go_wp2_with fail
      refine ⟨⟨k, r / 2, hr2.out.1, ?_, ?_, ?_, ?_, ?_⟩, by simp [intOf]; omega⟩
      all_goals obtain ⟨-, h5⟩ := hr2.out
      all_goals have h6 := hF.out
      · omega
      · omega
      · omega
      · rw [show (F : Int) + r = ((z - 2 * (r / 2) : Nat) : Int) by omega]
      · go_num
end Go.Proofs.Ytdkjgkbddehaiaa
