import Derived.Test.YtdikaeggildpnaaSeedG
namespace Go.Proofs.Ytdikaeggildpnaa
open Go.RowKit
attribute [local go_sem ↓] Go.wp_at_zero Go.wp_at_succ

def OP (L : List Int) (er : Int) (W : World) (e : Ending) (w' : World) : Prop :=
  ∃ a m c H, e = .returned (.tuple #[.slice a m c, .int .i64 er]) ∧ (∀ w2, Own w2 H → RdNums w2 a m L) ∧ Step W [] w' H
def RP (r k g : Int) (W : World) (e : Ending) (w' : World) : Prop := e = .returned (.tuple #[.int .i64 r, .int .i64 k, .int .i64 g]) ∧ W = w'
theorem rdNums_none (w : World) : RdNums w none 0 [] := ⟨rfl, fun i hi => by simp at hi⟩
theorem ordPost_OP {l : List Nat} {W : World} {e : Ending} {w' : World} (h : OrdPost l W e w') : OP (l.map fun (x : Nat) => (x : Int)) 0 W e w' := by
  obtain ⟨a, c, H, rfl, hr, hs⟩ := h
  exact ⟨a, _, c, H, rfl, fun w2 hw => hr.nums hw, hs⟩
theorem none_OP {W : World} {e : Ending} {w' : World} (h : e = .returned (.tuple #[.slice none 0 0, .int .i64 1]) ∧ W = w') : OP [] 1 W e w' := by
  obtain ⟨rfl, rfl⟩ := h
  exact ⟨none, 0, 0, [], rfl, fun w2 _ => rdNums_none w2, Step.refl (Own.nil _)⟩
theorem orders_both (n : Int) : ∃ (L : List Int) (er : Int), L.length ≤ 64 ∧ (∀ W, Calls Try.prog 8 #[.int .i64 n] W (OP L er W)) ∧ (∀ W, Calls Try.prog 10 #[.int .i64 n] W (OP L er W)) := by
  cases hm : many n
  · exact ⟨[], 1, by simp, fun W => (order_no n W hm).mono fun _ _ h => none_OP h, fun W => (rorder_no n W hm).mono fun _ _ h => none_OP h⟩
  · obtain ⟨k, rfl⟩ := Int.eq_ofNat_of_zero_le (show 0 ≤ n by simp [many] at hm; omega)
    have hk : 2 ≤ k ∧ k ≤ 64 := by simp [many] at hm; omega
    refine ⟨_, 0, ?_, fun W => (order_yes k W hk.1 hk.2).mono fun _ _ h => ordPost_OP h, fun W => (rorder_yes k W hk.1 hk.2).mono fun _ _ h => ordPost_OP h⟩
    rw [List.length_map, ordL_len]; exact Nat.pow_le_pow_right (by omega) (lg_le k hk.2)
theorem rounds_both (n : Int) : ∃ r k g : Int, (∀ W, Calls Try.prog 11 #[.int .i64 n] W (RP r k g W)) ∧ (∀ W, Calls Try.prog 12 #[.int .i64 n] W (RP r k g W)) := by
  cases hm : many n
  · exact ⟨0, 0, 1, fun W => rounds_no n W hm, fun W => rrounds_no n W hm⟩
  · obtain ⟨k, rfl⟩ := Int.eq_ofNat_of_zero_le (show 0 ≤ n by simp [many] at hm; omega)
    have hk : 2 ≤ k ∧ k ≤ 64 := by simp [many] at hm; omega
    have hS : (2 ^ lg k - 1) + 1 = 2 ^ lg k := by have := Nat.one_le_two_pow (n := lg k); omega
    exact ⟨_, _, 0, fun W => rounds_yes k _ _ W hk.1 hk.2 rfl hS, fun W => rrounds_yes k _ _ W hk.1 hk.2 rfl hS⟩
theorem meets_both (n a b : Int) : ∃ r e : Int, (∀ W, Calls Try.prog 9 #[.int .i64 n, .int .i64 a, .int .i64 b] W (MeetPost r e W)) ∧ (∀ W, Calls Try.prog 13 #[.int .i64 n, .int .i64 a, .int .i64 b] W (MeetPost r e W)) := by
  by_cases h : many n = false ∨ a < 1 ∨ n < a ∨ b < 1 ∨ n < b ∨ a = b
  · exact ⟨0, 1, fun W => meet_no n a b W h, fun W => rmeet_no n a b W h⟩
  · simp only [not_or, Bool.not_eq_false] at h
    obtain ⟨hm, h1, h2, h3, h4, h5⟩ := h
    obtain ⟨n, rfl⟩ := Int.eq_ofNat_of_zero_le (show 0 ≤ n by simp [many] at hm; omega)
    obtain ⟨a, rfl⟩ := Int.eq_ofNat_of_zero_le (show 0 ≤ a by omega)
    obtain ⟨b, rfl⟩ := Int.eq_ofNat_of_zero_le (show 0 ≤ b by omega)
    have hk : 2 ≤ n ∧ n ≤ 64 := by simp [many] at hm; omega
    exact ⟨_, 0, fun W => meet_yes n a b W hk.1 hk.2 (by omega) (by omega) (by omega) (by omega) (by omega), fun W => rmeet_yes n a b W hk.1 hk.2 (by omega) (by omega) (by omega) (by omega) (by omega)⟩
set_option maxHeartbeats 2000000 in
set_option maxRecDepth 100000 in
theorem seedingOrders_walk (n a b : Int) (w : World) (_ : (Lit.int .i64 n).wf = true) (_ : (Lit.int .i64 a).wf = true) (_ : (Lit.int .i64 b).wf = true) :
    Calls Try.prog 5 #[.int .i64 n, .int .i64 a, .int .i64 b] w fun e w' => e = .returned (.bool true) ∧ Below w.heap.size w w' := by
  suffices hs : Calls Try.prog 5 #[.int .i64 n, .int .i64 a, .int .i64 b] w (LawPost w) from hs.mono fun e w' hp => ⟨hp.1, hp.2.nil_below⟩
  obtain ⟨L, er, hL, o1, o2⟩ := orders_both n
  obtain ⟨r, k, g, r1, r2⟩ := rounds_both n
  obtain ⟨x, i, m1, m2⟩ := meets_both n a b
  replace o1 := Lib.hid o1
  replace o2 := Lib.hid o2
  replace r1 := Lib.hid r1
  replace r2 := Lib.hid r2
  replace m1 := Lib.hid m1
  replace m2 := Lib.hid m2
  go_enter Try.func5, Try.ntmps5
  go_wp2_with fail
  refine (o1.out _).mono ?_
  rintro e w1 ⟨p1, n1, c1, H1, rfl, hn1, s1⟩
  replace hn1 := Lib.hid hn1
  go_wp2_with fail
  refine (o2.out _).mono ?_
  rintro e w2 ⟨p2, n2, c2, H2, rfl, hn2, s2⟩
  replace hn2 := Lib.hid hn2
  go_wp2_with fail
  refine (r1.out _).mono ?_
  rintro e w3 ⟨rfl, rfl⟩
  go_wp2_with fail
  refine (r2.out _).mono ?_
  rintro e w3 ⟨rfl, rfl⟩
  go_wp2_with fail
  refine (m1.out _).mono ?_
  rintro e w3 ⟨rfl, s3⟩
  go_wp2_with fail
  refine (m2.out _).mono ?_
  rintro e w4 ⟨rfl, s4⟩
  have s := ((s1.call0 s2).call0 s3).call0 s4
  simp only [List.append_nil] at s
  clear s1 s2 s3 s4
  go_wp2_with fail
  refine (ints_any _ _ _ _ _ _ L L _ (hn1.out _ s.own.left) (hn2.out _ s.own.right) (by omega) (by omega)).mono ?_
  rintro e w5 ⟨rfl, s5⟩
  rw [decide_eq_true (rfl : L = L)]
  go_wp2_with (go_at_call 7; refine (known_any _).mono ?_; rintro e w6 ⟨rfl, s6⟩)
  go_ret
  exact ⟨rfl, ((s.call0 s5).call0 s6).forget (A := [])⟩
end Go.Proofs.Ytdikaeggildpnaa
