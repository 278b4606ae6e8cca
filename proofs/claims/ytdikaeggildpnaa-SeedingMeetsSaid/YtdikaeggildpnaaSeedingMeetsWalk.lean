import Derived.Test.YtdikaeggildpnaaSeedE
namespace Go.Proofs.Ytdikaeggildpnaa
open Go.RowKit
attribute [local go_sem ↓] Go.wp_at_zero Go.wp_at_succ

theorem ultra : ((List.range 64).all fun x => (List.range 64).all fun y => x == 0 || y == 0 || x == y ||
    (let p := Lib.bitLen x - 1; let q := Lib.bitLen y - 1; let r := Lib.bitLen (x ^^^ y) - 1; decide (2 ≤ [p, q, r].count (max (max p q) r)))) = true := by decide +kernel
theorem posN_ne : ((List.range 7).all fun q => (List.range (2 ^ q + 1)).all fun a => (List.range (2 ^ q + 1)).all fun b => a == 0 || b == 0 || a == b || (posN q a != posN q b && decide (posN q a < 64))) = true := by decide +kernel
theorem pos_ne {n a b : Nat} (h : n ≤ 64) (a1 : 1 ≤ a) (a2 : a ≤ n) (b1 : 1 ≤ b) (b2 : b ≤ n) (hab : a ≠ b) : posN (lg n) a ≠ posN (lg n) b ∧ posN (lg n) a < 64 := by
  have l1 := lg_le n h
  have l2 := lg_pow n h
  have h1 := List.all_eq_true.1 (List.all_eq_true.1 (List.all_eq_true.1 posN_ne (lg n) (List.mem_range.2 (by omega))) a (List.mem_range.2 (by omega))) b (List.mem_range.2 (by omega))
  simp only [Bool.or_eq_true, beq_iff_eq, Bool.and_eq_true, decide_eq_true_eq, bne_iff_ne] at h1
  rcases h1 with ((h1 | h1) | h1) | h1
  · omega
  · omega
  · exact absurd h1 hab
  · exact h1
theorem meet_sym (n a b : Nat) : meetN n a b = meetN n b a := by unfold meetN; rw [Nat.xor_comm]
theorem xor_zero {p q : Nat} (h : p ^^^ q = 0) : p = q := by
  have := congrArg (· ^^^ q) h
  simpa [Nat.xor_assoc, Nat.xor_self] using this
theorem max3 (ts : Array TypeId) (t : TypeId) (X Y Z : Nat) (w : World) (P : Program) : (Builtin.max_ ts t #[.int .i64 X, .int .i64 Y, .int .i64 Z]).run P w = .ok (.int .i64 (((max (max X Y) Z : Nat)) : Int)) w := by
  have h : ∀ x y z : Int, (Builtin.max_ ts t #[.int .i64 x, .int .i64 y, .int .i64 z]).run P w = .ok (.int .i64 (if z > (if y > x then y else x) then z else (if y > x then y else x))) w := fun x y z => by simp [Builtin.max_, Builtin.max2]
  rw [h]
  congr 2
  split <;> split <;> omega
theorem meet_ultra {n a b c : Nat} (h : n ≤ 64) (a1 : 1 ≤ a) (a2 : a ≤ n) (b1 : 1 ≤ b) (b2 : b ≤ n) (c1 : 1 ≤ c) (c2 : c ≤ n) (hab : a ≠ b) (hbc : b ≠ c) (hac : a ≠ c) :
    2 ≤ [meetN n a b, meetN n b c, meetN n a c].count (max (max (meetN n a b) (meetN n b c)) (meetN n a c)) := by
  obtain ⟨p1, q1⟩ := pos_ne h a1 a2 b1 b2 hab
  obtain ⟨p2, q2⟩ := pos_ne h b1 b2 c1 c2 hbc
  obtain ⟨p3, q3⟩ := pos_ne h c1 c2 a1 a2 (Ne.symm hac)
  unfold meetN
  generalize posN (lg n) a = p at *
  generalize posN (lg n) b = q at *
  generalize posN (lg n) c = r at *
  have e : p ^^^ r = (p ^^^ q) ^^^ (q ^^^ r) := by rw [Nat.xor_assoc, ← Nat.xor_assoc q q r, Nat.xor_self, Nat.zero_xor]
  have n1 : p ^^^ q ≠ 0 := fun h => p1 (xor_zero h)
  have n2 : q ^^^ r ≠ 0 := fun h => p2 (xor_zero h)
  have n3 : p ^^^ q ≠ q ^^^ r := by
    intro h
    have : p ^^^ r = 0 := by rw [e, h, Nat.xor_self]
    exact p3 (xor_zero this).symm
  have h1 := List.all_eq_true.1 (List.all_eq_true.1 ultra (p ^^^ q) (List.mem_range.2 (Nat.xor_lt_two_pow (n := 6) (by omega) (by omega)))) (q ^^^ r) (List.mem_range.2 (Nat.xor_lt_two_pow (n := 6) (by omega) (by omega)))
  simp only [Bool.or_eq_true, beq_iff_eq, decide_eq_true_eq] at h1
  rcases h1 with ((h1 | h1) | h1) | h1
  · exact absurd h1 n1
  · exact absurd h1 n2
  · exact absurd h1 n3
  · rw [e]; exact h1

set_option maxHeartbeats 4000000 in
set_option maxRecDepth 100000 in
theorem seedingMeets_walk (n a b c : Int) (w : World) (_ : (Lit.int .i64 n).wf = true) (_ : (Lit.int .i64 a).wf = true) (_ : (Lit.int .i64 b).wf = true) (_ : (Lit.int .i64 c).wf = true) :
    Calls Try.prog 4 #[.int .i64 n, .int .i64 a, .int .i64 b, .int .i64 c] w fun e w' => e = .returned (.bool true) ∧ Below w.heap.size w w' := by
  suffices hs : Calls Try.prog 4 #[.int .i64 n, .int .i64 a, .int .i64 b, .int .i64 c] w (LawPost w) from hs.mono fun e w' hp => ⟨hp.1, hp.2.nil_below⟩
  by_cases h1 : n < 3
  · go_enter Try.func4, Try.ntmps4
    go_wp2_with (go_at_call 7; refine (known_any _).mono ?_; rintro e w3 ⟨rfl, hs3⟩)
    go_ret
    exact ⟨rfl, hs3⟩
  by_cases h2 : 64 < n
  · go_enter Try.func4, Try.ntmps4
    go_wp2_with (go_at_call 7; refine (known_any _).mono ?_; rintro e w3 ⟨rfl, hs3⟩)
    go_ret
    exact ⟨rfl, hs3⟩
  by_cases h3 : a < 1
  · go_enter Try.func4, Try.ntmps4
    go_wp2_with (go_at_call 7; refine (known_any _).mono ?_; rintro e w3 ⟨rfl, hs3⟩)
    go_ret
    exact ⟨rfl, hs3⟩
  by_cases h4 : n < a
  · go_enter Try.func4, Try.ntmps4
    go_wp2_with (go_at_call 7; refine (known_any _).mono ?_; rintro e w3 ⟨rfl, hs3⟩)
    go_ret
    exact ⟨rfl, hs3⟩
  by_cases h5 : b < 1
  · go_enter Try.func4, Try.ntmps4
    go_wp2_with (go_at_call 7; refine (known_any _).mono ?_; rintro e w3 ⟨rfl, hs3⟩)
    go_ret
    exact ⟨rfl, hs3⟩
  by_cases h6 : n < b
  · go_enter Try.func4, Try.ntmps4
    go_wp2_with (go_at_call 7; refine (known_any _).mono ?_; rintro e w3 ⟨rfl, hs3⟩)
    go_ret
    exact ⟨rfl, hs3⟩
  by_cases h7 : c < 1
  · go_enter Try.func4, Try.ntmps4
    go_wp2_with (go_at_call 7; refine (known_any _).mono ?_; rintro e w3 ⟨rfl, hs3⟩)
    go_ret
    exact ⟨rfl, hs3⟩
  by_cases h8 : n < c
  · go_enter Try.func4, Try.ntmps4
    go_wp2_with (go_at_call 7; refine (known_any _).mono ?_; rintro e w3 ⟨rfl, hs3⟩)
    go_ret
    exact ⟨rfl, hs3⟩
  cases h9 : (a == b)
  case true =>
    go_enter Try.func4, Try.ntmps4
    go_wp2_with (go_at_call 7; refine (known_any _).mono ?_; rintro e w3 ⟨rfl, hs3⟩)
    go_ret
    exact ⟨rfl, hs3⟩
  cases h10 : (b == c)
  case true =>
    go_enter Try.func4, Try.ntmps4
    go_wp2_with (go_at_call 7; refine (known_any _).mono ?_; rintro e w3 ⟨rfl, hs3⟩)
    go_ret
    exact ⟨rfl, hs3⟩
  cases h11 : (a == c)
  case true =>
    go_enter Try.func4, Try.ntmps4
    go_wp2_with (go_at_call 7; refine (known_any _).mono ?_; rintro e w3 ⟨rfl, hs3⟩)
    go_ret
    exact ⟨rfl, hs3⟩
  obtain ⟨n, rfl⟩ := Int.eq_ofNat_of_zero_le (show 0 ≤ n by omega)
  obtain ⟨a, rfl⟩ := Int.eq_ofNat_of_zero_le (show 0 ≤ a by omega)
  obtain ⟨b, rfl⟩ := Int.eq_ofNat_of_zero_le (show 0 ≤ b by omega)
  obtain ⟨c, rfl⟩ := Int.eq_ofNat_of_zero_le (show 0 ≤ c by omega)
  have hab : a ≠ b := by intro e; subst e; simp at h9
  have hbc : b ≠ c := by intro e; subst e; simp at h10
  have hac : a ≠ c := by intro e; subst e; simp at h11
  have hu := meet_ultra (n := n) (a := a) (b := b) (c := c) (by omega) (by omega) (by omega) (by omega) (by omega) (by omega) (by omega) hab hbc hac
  have m1 := Lib.hid (fun W => meet_yes n a b W (by omega) (by omega) (by omega) (by omega) (by omega) (by omega) hab)
  have m2 := Lib.hid (fun W => meet_yes n b c W (by omega) (by omega) (by omega) (by omega) (by omega) (by omega) hbc)
  have m3 := Lib.hid (fun W => meet_yes n a c W (by omega) (by omega) (by omega) (by omega) (by omega) (by omega) hac)
  have m4 : Hid (∀ W, Calls Try.prog 9 #[.int .i64 n, .int .i64 b, .int .i64 a] W (MeetPost (meetN n a b) 0 W)) := fun W => by
    rw [meet_sym n a b]; exact meet_yes n b a W (by omega) (by omega) (by omega) (by omega) (by omega) (by omega) (Ne.symm hab)
  replace hu := Lib.hid hu
  generalize meetN n a b = X at *
  generalize meetN n b c = Y at *
  generalize meetN n a c = Z at *
  clear hab hbc hac
  go_enter Try.func4, Try.ntmps4
  go_wp2_with fail
  refine (m1.out _).mono ?_
  rintro e w1 ⟨rfl, s1⟩
  go_wp2_with fail
  refine (m2.out _).mono ?_
  rintro e w2 ⟨rfl, s2⟩
  go_wp2_with fail
  refine (m3.out _).mono ?_
  rintro e w3 ⟨rfl, s3⟩
  go_wp2_with fail
  refine (m4.out _).mono ?_
  rintro e w4 ⟨rfl, s4⟩
  have s := ((s1.call0 s2).call0 s3).call0 s4
  simp only [List.append_nil] at s
  clear s1 s2 s3 s4
  have hmx := Lib.hid (fun ts t W P => max3 ts t X Y Z W P)
  generalize max (max X Y) Z = M at *
  go_wp2_with fail
  rw [hmx.out]
  go_wp2_with fail
  have s := s.alloc (.cells #[.int .i64 X, .int .i64 Y, .int .i64 Z] 3)
  go_loopw [18, 126] (fun v u wr => ∃ i : Nat, i ≤ 3 ∧ u = .int .i64 i ∧ v = .int .i64 (([X, Y, Z].take i).count M : Nat) ∧ Step w [] wr [(w4.heap.size, .cells #[.int .i64 X, .int .i64 Y, .int .i64 Z] 3 (0, 0))]) (fun _ v _ => 3 - (intOf v).toNat)
  case atStart => exact ⟨0, by omega, rfl, by simp, s⟩
  case round =>
    clear s
    obtain ⟨i, hi, rfl, rfl, s⟩ := hrel
    by_cases hlt : i < 3
    · obtain ⟨x, hx⟩ : ∃ x, [X, Y, Z][i]? = some x := ⟨_, List.getElem?_eq_getElem hlt⟩
      have hcount : Hid (([X, Y, Z].take (i + 1)).count M = ([X, Y, Z].take i).count M + if x == M then 1 else 0) := by
        show _ = _
        have hi3 : i = 0 ∨ i = 1 ∨ i = 2 := by omega
        rcases hi3 with rfl | rfl | rfl <;> (simp at hx; subst hx; simp [List.count_cons] <;> omega)
      have hc : w4.heap.size = w4.heap.size → wr.cell? ⟨w4.heap.size, i, none⟩ = some (.int .i64 x) := fun _ => by
        obtain ⟨r0, r1, r2⟩ := cells3 s.own.h0
        have hi3 : i = 0 ∨ i = 1 ∨ i = 2 := by omega
        rcases hi3 with rfl | rfl | rfl <;> (simp at hx; subst hx; assumption)
      replace hc := hc rfl
      have hcl : ([X, Y, Z].take i).count M ≤ 3 := Nat.le_trans List.count_le_length (by simp; omega)
      replace hx := Lib.hid hx
      have b1 : (0 : Int) ≤ (i : Int) := by omega
      have b2 : (i : Int) < 3 := by omega
      generalize ([X, Y, Z].take i).count M = C at *
      by_cases hxm : x = M
      · have q : ((x : Int) == (M : Int)) = true := by rw [hxm]; simp
        rw [if_pos (by rw [hxm]; simp)] at hcount
        clear hxm
        go_wp2
        exact ⟨⟨i + 1, by omega, by go_num, by rw [hcount.out]; go_num, s⟩, by simp [intOf]; omega⟩
      · have q : ((x : Int) == (M : Int)) = false := beq_eq_false_iff_ne.2 (by omega)
        rw [if_neg (by simpa using hxm)] at hcount
        clear hxm
        go_wp2
        exact ⟨⟨i + 1, by omega, by go_num, by rw [hcount.out]; go_num, s⟩, by simp [intOf]; omega⟩
    · obtain rfl : i = 3 := by omega
      have hC : ([X, Y, Z].take 3).count M = [X, Y, Z].count M := rfl
      rw [hC]
      have hC2 := hu.out
      have hC3 : [X, Y, Z].count M ≤ 3 := List.count_le_length
      generalize [X, Y, Z].count M = C at *
      clear hC hu
      have b1 : (2 : Int) ≤ (C : Int) := by omega
      go_wp2_with (go_at_call 7; refine (known_any _).mono ?_; rintro e w3 ⟨rfl, hs3⟩)
      go_ret
      exact ⟨rfl, (s.call0 hs3).forget (A := [])⟩
end Go.Proofs.Ytdikaeggildpnaa
