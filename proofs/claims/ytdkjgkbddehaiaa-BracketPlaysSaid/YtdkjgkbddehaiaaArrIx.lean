/- An element of an array of two numbers that is no variable. -/
import Derived.Test.YtdkjgkbddehaiaaArrEq
namespace Go.Proofs.Ytdkjgkbddehaiaa
open Go.RowKit

theorem run_ix2 (w : World) (a b : Int) : (Instr.index 32 (.agg #[.int .i64 a, .int .i64 b]) (.int .i64 0)).run Try.prog w = .ok (.int .i64 a) w ∧
    (Instr.index 32 (.agg #[.int .i64 a, .int .i64 b]) (.int .i64 1)).run Try.prog w = .ok (.int .i64 b) w := by
  obtain ⟨i, hi⟩ : ∃ i, Try.prog.info? 3 = some i := by
    have h : (Try.prog.info? 3).isSome = true := by kernel_rfl
    exact Option.isSome_iff_exists.1 h
  have hz : ∀ w, (sizeOf 3).run Try.prog w = .ok 1 w := fun w => by kernel_rfl
  have hp : ∀ (xs : Array Value) (k : Nat) (v : Value), xs[k]? = some v → (∀ (w : World), (part 3 xs k).run Try.prog w = .ok v w) := by
    intro xs k v hv w
    have h0 : ∀ w, (isAgg 3).run Try.prog w = .ok false w := fun w => by kernel_rfl
    simp [part, Sem.run_bind, h0, hv]
  have p0 : ∀ w, (part 3 #[.int .i64 a, .int .i64 b] 0).run Try.prog w = .ok (.int .i64 a) w := hp _ 0 _ rfl
  have p1 : ∀ w, (part 3 #[.int .i64 a, .int .i64 b] 1).run Try.prog w = .ok (.int .i64 b) w := hp _ 1 _ rfl
  constructor
  · simp [Instr.index, asIntOf, run_underlying Try.underlying32, hz, p0]
  · simp [Instr.index, asIntOf, run_underlying Try.underlying32, hz, p1]
end Go.Proofs.Ytdkjgkbddehaiaa
