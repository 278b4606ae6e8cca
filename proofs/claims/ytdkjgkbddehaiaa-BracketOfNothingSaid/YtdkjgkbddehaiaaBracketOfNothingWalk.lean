/- BracketOfNothing. -/
import Derived.Test.YtdkjgkbddehaiaaBrG
import Derived.Test.YtdkjgkbddehaiaaArrEq
namespace Go.Proofs.Ytdkjgkbddehaiaa
open Go.RowKit
attribute [local go_sem ↓] Go.wp_at_zero Go.wp_at_succ

theorem seats_nil (i : Int) (w : World) : Calls Try.prog 15 #[.pointer none, .int .i64 i] w (SeatsPost (0, 0, 7) w) := by
  have s0 := (Step.refl (Own.nil w)).alloc (.cells #[.int .i64 0, .int .i64 0] 32)
  obtain ⟨d0, d1⟩ := cells2 s0.own.h0
  have f := fun i => frz_of (i := i) s0.own.h0
  go_enter Try.func15, Try.ntmps15
  go_wp2_with fail
  refine (has_nil i _).mono ?_
  rintro e w' ⟨rfl, rfl⟩
  go_wp2
  exact bodyPost_ret (v := .tuple #[.agg #[iv 0, iv 0], iv 7]) (by simp [results, Try.results15, go_sem]) rfl ⟨rfl, (Step.refl (Own.nil w)).junk _⟩
theorem report_nil (i k : Int) (w : World) : Calls Try.prog 13 #[.pointer none, .int .i64 i, .int .i64 k] w fun e w' => e = .returned (.int .i64 7) ∧ w = w' := by
  go_enter Try.func13, Try.ntmps13
  go_wp2_with (go_at_call 27; refine (has_nil i _).mono ?_; rintro e w' ⟨rfl, rfl⟩)
  go_ret
  exact ⟨rfl, rfl⟩
theorem winner_nil (i : Int) (w : World) : Calls Try.prog 16 #[.pointer none, .int .i64 i] w fun e w' => e = .returned (.int .i64 0) ∧ w = w' := by
  go_enter Try.func16, Try.ntmps16
  go_wp2_with (go_at_call 27; refine (has_nil i _).mono ?_; rintro e w' ⟨rfl, rfl⟩)
  go_ret
  exact ⟨rfl, rfl⟩
theorem matches_nil (w : World) : Calls Try.prog 14 #[.pointer none] w fun e w' => e = .returned (.int .i64 0) ∧ w = w' := by
  go_enter Try.func14, Try.ntmps14
  go_wp2
  go_ret
  exact ⟨rfl, rfl⟩
theorem ready_nil (w : World) : Calls Try.prog 12 #[.pointer none] w fun e w' => e = .returned (.slice none 0 0) ∧ w = w' := by
  go_enter Try.func12, Try.ntmps12
  go_wp2
  go_ret
  exact ⟨rfl, rfl⟩
theorem champion_nil (w : World) : Calls Try.prog 17 #[.pointer none] w fun e w' => e = .returned (.int .i64 0) ∧ w = w' := by
  go_enter Try.func17, Try.ntmps17
  go_wp2_with fail
  refine (matches_nil _).mono ?_
  rintro e w' ⟨rfl, rfl⟩
  go_wp2_with fail
  refine (winner_nil _ _).mono ?_
  rintro e w' ⟨rfl, rfl⟩
  go_wp2
  go_ret
  exact ⟨rfl, rfl⟩
theorem out_nil (s : Int) (w : World) : Calls Try.prog 18 #[.pointer none, .int .i64 s] w fun e w' => e = .returned (.bool false) ∧ w = w' := by
  go_enter Try.func18, Try.ntmps18
  go_wp2
  go_ret
  exact ⟨rfl, rfl⟩
set_option maxHeartbeats 8000000 in
set_option maxRecDepth 100000 in
theorem bracketOfNothing_walk (m s : Int) (w : World) (_ : (Lit.int .i64 m).wf = true) (_ : (Lit.int .i64 s).wf = true) :
    Calls Try.prog 8 #[.int .i64 m, .int .i64 s] w fun e w' => e = .returned (.bool true) ∧ Below w.heap.size w w' := by
  suffices hs : Calls Try.prog 8 #[.int .i64 m, .int .i64 s] w (LawPost w) from hs.mono fun e w' hp => ⟨hp.1, hp.2.nil_below⟩
  go_enter Try.func8, Try.ntmps8
  go_wp2_with fail
  refine (seats_nil _ _).mono ?_
  rintro e w1 ⟨rfl, hs⟩
  have sL := hs.alloc (.cells #[iv 0, iv 0] 32)
  obtain ⟨x0, x1⟩ := cells2 sL.own.h0
  have heq := fun W => run_eq2 W 0 0 0 0
  go_wp2_with fail
  refine (report_nil _ _ _).mono ?_
  rintro e w' ⟨rfl, rfl⟩
  go_wp2_with fail
  refine (winner_nil _ _).mono ?_
  rintro e w' ⟨rfl, rfl⟩
  go_wp2_with fail
  refine (ready_nil _).mono ?_
  rintro e w' ⟨rfl, rfl⟩
  go_wp2_with fail
  refine (champion_nil _).mono ?_
  rintro e w' ⟨rfl, rfl⟩
  go_wp2_with fail
  refine (matches_nil _).mono ?_
  rintro e w' ⟨rfl, rfl⟩
  go_wp2_with fail
  refine (out_nil _ _).mono ?_
  rintro e w' ⟨rfl, rfl⟩
  go_wp2_with fail
  refine (known_any _).mono ?_
  rintro e w3 ⟨rfl, hs3⟩
  have hs4 := sL.call0 hs3
  go_wp2
  go_ret
  exact ⟨rfl, hs4.forget (A := [])⟩
end Go.Proofs.Ytdkjgkbddehaiaa
