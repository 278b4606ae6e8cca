import Derived.Test.YtdikaeggildpnaaSeedC
namespace Go.Proofs.Ytdikaeggildpnaa
open Go.RowKit
attribute [local go_sem ↓] Go.wp_at_zero Go.wp_at_succ

theorem i64_xor_nat (a b : Nat) (ha : a < 9223372036854775808) (hb : b < 9223372036854775808) : bits .xor .i64 (a : Int) (b : Int) = ((a ^^^ b : Nat) : Int) := by
  have hx : a ^^^ b < 2 ^ 63 := Nat.xor_lt_two_pow (by omega) (by omega)
  show IntKind.i64.wrap ((BitVec.ofInt 64 (a : Int) ^^^ BitVec.ofInt 64 (b : Int)).toNat : Int) = _
  rw [BitVec.toNat_xor, BitVec.ofInt_natCast, BitVec.ofInt_natCast, BitVec.toNat_ofNat, BitVec.toNat_ofNat, Nat.mod_eq_of_lt (by omega), Nat.mod_eq_of_lt (by omega), IntKind.wrap_i64]
  omega
/-- Where a seed stands. -/
def posN (q a : Nat) : Nat := (full q).findIdx (fun x => x == a)
theorem pos_ok : ∀ n, n ≤ 64 → ∀ a, a ≤ n → 2 ≤ n → 1 ≤ a → idxI (ordL n) (a : Int) = (posN (lg n) a : Int) ∧ posN (lg n) a < 64 := by decide +kernel
/-- The round in which two meet. -/
def meetN (n a b : Nat) : Nat := Lib.bitLen (posN (lg n) a ^^^ posN (lg n) b) - 1
theorem meet_pos : ∀ q, q ≤ 6 → ∀ a, a ≤ 2 ^ q → ∀ b, b ≤ 2 ^ q → 1 ≤ a → 1 ≤ b → a ≠ b → 1 ≤ Lib.bitLen (posN q a ^^^ posN q b) ∧ Lib.bitLen (posN q a ^^^ posN q b) ≤ q := by
  intro q hq a ha b hb a1 b1 hab
  have h : ((List.range 7).all fun q => (List.range (2 ^ q + 1)).all fun a => (List.range (2 ^ q + 1)).all fun b => a == 0 || b == 0 || a == b || (decide (1 ≤ Lib.bitLen (posN q a ^^^ posN q b)) && decide (Lib.bitLen (posN q a ^^^ posN q b) ≤ q))) = true := by decide +kernel
  have h1 := List.all_eq_true.1 (List.all_eq_true.1 (List.all_eq_true.1 h q (List.mem_range.2 (by omega))) a (List.mem_range.2 (by omega))) b (List.mem_range.2 (by omega))
  simp only [Bool.or_eq_true, beq_iff_eq, Bool.and_eq_true, decide_eq_true_eq] at h1
  rcases h1 with ((h1 | h1) | h1) | h1
  · omega
  · omega
  · exact absurd h1 hab
  · exact h1
theorem lg_pow : ∀ n, n ≤ 64 → n ≤ 2 ^ lg n := by decide +kernel
def MeetPost (r e : Int) (w : World) (en : Ending) (w' : World) : Prop := en = .returned (.tuple #[.int .i64 r, .int .i64 e]) ∧ Step w [] w' []
set_option maxHeartbeats 1000000 in
theorem meet_no (n a b : Int) (w : World) (h : many n = false ∨ a < 1 ∨ n < a ∨ b < 1 ∨ n < b ∨ a = b) :
    Calls Try.prog 9 #[.int .i64 n, .int .i64 a, .int .i64 b] w (MeetPost 0 1 w) := by
  cases hm : many n
  · replace hm := Lib.hid hm
    clear h
    go_enter Try.func9, Try.ntmps9
    go_wp2_with (go_at_call 8; refine (order_no n _ hm.out).mono ?_; rintro e w' ⟨rfl, rfl⟩)
    go_ret2
    exact ⟨rfl, Step.refl (Own.nil _)⟩
  · obtain ⟨k, rfl⟩ := Int.eq_ofNat_of_zero_le (show 0 ≤ n by simp [many] at hm; omega)
    have hk : 2 ≤ k ∧ k ≤ 64 := by simp [many] at hm; omega
    obtain ⟨hk1, hk2⟩ := hk
    have ho := Lib.hid (order_yes k w hk1 hk2)
    rw [hm] at h
    clear hm
    have b1 : (k : Int) ≤ 64 := by omega
    by_cases c1 : a < 1
    · clear h
      go_enter Try.func9, Try.ntmps9
      go_wp2_with (go_at_call 8; refine ho.out.mono ?_; rintro e w' ⟨ao, co, Ho, rfl, hr, hs⟩)
      go_ret2
      exact ⟨rfl, hs.forget (A := [])⟩
    by_cases c2 : (k : Int) < a
    · clear h
      go_enter Try.func9, Try.ntmps9
      go_wp2_with (go_at_call 8; refine ho.out.mono ?_; rintro e w' ⟨ao, co, Ho, rfl, hr, hs⟩)
      go_ret2
      exact ⟨rfl, hs.forget (A := [])⟩
    by_cases c3 : b < 1
    · clear h
      go_enter Try.func9, Try.ntmps9
      go_wp2_with (go_at_call 8; refine ho.out.mono ?_; rintro e w' ⟨ao, co, Ho, rfl, hr, hs⟩)
      go_ret2
      exact ⟨rfl, hs.forget (A := [])⟩
    by_cases c4 : (k : Int) < b
    · clear h
      go_enter Try.func9, Try.ntmps9
      go_wp2_with (go_at_call 8; refine ho.out.mono ?_; rintro e w' ⟨ao, co, Ho, rfl, hr, hs⟩)
      go_ret2
      exact ⟨rfl, hs.forget (A := [])⟩
    · obtain rfl : a = b := by rcases h with h | h | h | h | h | h <;> first | omega | simp at h
      clear h
      have e1 : (a == a) = true := by simp
      go_enter Try.func9, Try.ntmps9
      go_wp2_with (go_at_call 8; refine ho.out.mono ?_; rintro e w' ⟨ao, co, Ho, rfl, hr, hs⟩)
      go_ret2
      exact ⟨rfl, hs.forget (A := [])⟩
set_option maxHeartbeats 1000000 in
theorem meet_yes (n a b : Nat) (w : World) (h1 : 2 ≤ n) (h2 : n ≤ 64) (a1 : 1 ≤ a) (a2 : a ≤ n) (b1 : 1 ≤ b) (b2 : b ≤ n) (hab : a ≠ b) :
    Calls Try.prog 9 #[.int .i64 n, .int .i64 a, .int .i64 b] w (MeetPost (meetN n a b) 0 w) := by
  have ho := Lib.hid (order_yes n w h1 h2)
  have hpa := pos_ok n h2 a a2 h1 a1
  have hpb := pos_ok n h2 b b2 h1 b1
  have hmp := meet_pos (lg n) (lg_le n h2) a (Nat.le_trans a2 (lg_pow n h2)) b (Nat.le_trans b2 (lg_pow n h2)) a1 b1 hab
  have hme : meetN n a b = Lib.bitLen (posN (lg n) a ^^^ posN (lg n) b) - 1 := rfl
  generalize posN (lg n) a = p at *
  generalize posN (lg n) b = q at *
  have hix := Lib.hid hpa.1
  have hiy := Lib.hid hpb.1
  have hxor := i64_xor_nat p q (by omega) (by omega)
  have hxl : p ^^^ q < 2 ^ 6 := Nat.xor_lt_two_pow (by omega) (by omega)
  generalize p ^^^ q = x at *
  have c0 : (x : Int) < 64 := by omega
  have c0' : (0 : Int) ≤ (x : Int) := by omega
  have c1 : (n : Int) ≤ 64 := by omega
  have c2 : (1 : Int) ≤ (a : Int) := by omega
  have c3 : (a : Int) ≤ (n : Int) := by omega
  have c4 : (1 : Int) ≤ (b : Int) := by omega
  have c5 : (b : Int) ≤ (n : Int) := by omega
  have c6 : ((a : Int) == (b : Int)) = false := beq_eq_false_iff_ne.2 (by omega)
  have hln := Lib.hid (ordL_len n)
  have hl6 : (ordL n).length ≤ 64 := by rw [ordL_len]; exact Nat.pow_le_pow_right (by omega) (lg_le n h2)
  have hw6 : IntKind.u64.wrap (x : Int) = (x : Int) := IntWalk.u64_in _ (by omega)
  obtain ⟨L, hL⟩ : ∃ L, Lib.bitLen x = L := ⟨_, rfl⟩
  have hL2 : 1 ≤ L ∧ L ≤ 6 := by rw [← hL]; have := lg_le n h2; omega
  obtain ⟨c7, c8⟩ := hL2
  have c9 : (1 : Int) ≤ (L : Int) := by omega
  have c10 : (L : Int) ≤ 6 := by omega
  rw [hL] at hme hmp
  replace hL := Lib.hid hL
  replace hme := Lib.hid hme
  clear hpa hpb hmp hab
  go_enter Try.func9, Try.ntmps9
  go_wp2_with (go_at_call 8; refine ho.out.mono ?_; rintro e w' ⟨ao, co, Ho, rfl, hr, hs⟩)
  refine (index_any (ordL n) _ _ _ _ _ _ rfl hl6 hr hs.own).mono ?_
  rintro e w' ⟨rfl, rfl⟩
  rw [hix.out]
  go_wp2_with fail
  refine (index_any (ordL n) _ _ _ _ _ _ rfl hl6 hr hs.own).mono ?_
  rintro e w' ⟨rfl, rfl⟩
  rw [hiy.out]
  go_wp2_with fail
  refine (Try.bits_Len _ _ (by omega) (by omega)).mono ?_
  rw [Int.toNat_natCast, hL.out]
  rintro e w' ⟨rfl, rfl⟩
  go_wp2_with fail
  go_ret2
  refine ⟨?_, hs.forget (A := [])⟩
  rw [hme.out]
  have : ((L : Int) - 1) = ((L - 1 : Nat) : Int) := by omega
  rw [← this]; rfl
end Go.Proofs.Ytdikaeggildpnaa
