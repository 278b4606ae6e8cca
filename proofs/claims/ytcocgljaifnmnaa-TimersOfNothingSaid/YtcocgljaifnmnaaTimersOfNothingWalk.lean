/- TimersOfNothing. -/
import Derived.Test.YtcocgljaifnmnaaTmH
namespace Go.Proofs.Ytcocgljaifnmnaa
open Go.RowKit
attribute [local go_sem ↓] Go.wp_at_zero Go.wp_at_succ

set_option maxHeartbeats 2000000 in
set_option maxRecDepth 100000 in
theorem timersOfNothing_walk (id at' : Int) (w : World) (_ : (Lit.int .i64 id).wf = true) (_ : (Lit.int .i64 at').wf = true) :
    Calls Try.prog 7 #[.int .i64 id, .int .i64 at'] w fun e w' => e = .returned (.bool true) ∧ Below w.heap.size w w' := by
  suffices hs : Calls Try.prog 7 #[.int .i64 id, .int .i64 at'] w (LawPost w) from hs.mono fun e w' hp => ⟨hp.1, hp.2.nil_below⟩
  go_enter Try.func7, Try.ntmps7
  go_wp2_with fail
  refine (cancel_nil _ _).mono ?_
  rintro e w' ⟨rfl, rfl⟩
  go_wp2_with fail
  refine (next_nil _).mono ?_
  rintro e w' ⟨rfl, rfl⟩
  go_wp2_with fail
  refine (set_nil _ _ _).mono ?_
  rintro e w' ⟨rfl, rfl⟩
  go_wp2_with fail
  refine (due_nil _ _).mono ?_
  rintro e w' ⟨rfl, rfl⟩
  go_wp2_with fail
  refine (len_nil _).mono ?_
  rintro e w' ⟨rfl, rfl⟩
  go_wp2_with fail
  refine (known_any _).mono ?_
  rintro e w3 ⟨rfl, hs3⟩
  go_wp2
  go_ret
  exact ⟨rfl, hs3⟩
end Go.Proofs.Ytcocgljaifnmnaa
