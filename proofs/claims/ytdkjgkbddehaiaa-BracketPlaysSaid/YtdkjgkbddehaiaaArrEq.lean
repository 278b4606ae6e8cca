/- The comparison of two arrays of two numbers. -/
import Derived.Test.YtdkjgkbddehaiaaBase
import Derived.ChangeKeysEq
import Derived.Laws.StructEq
namespace Go.Proofs.Ytdkjgkbddehaiaa
open Go.RowKit

theorem run_eq2 (w : World) (a b c d : Int) : (Op.equalIn 10000 32 (.agg #[.int .i64 a, .int .i64 b]) (.agg #[.int .i64 c, .int .i64 d])).run Try.prog w = .ok (a == c && b == d) w := by
  obtain ⟨i, hi⟩ : ∃ i, Try.prog.info? 3 = some i := by
    have h : (Try.prog.info? 3).isSome = true := by kernel_rfl
    exact Option.isSome_iff_exists.1 h
  have hz : Try.prog.cellsOf 3 = 1 := by kernel_rfl
  rw [run_equalIn_array w 9999 _ _ Try.underlying32 hi, hz]
  have hp : ∀ (xs : Array Value) (k : Nat) (v : Value), xs[k]? = some v → (∀ (w : World), (part 3 xs k).run Try.prog w = .ok v w) := by
    intro xs k v hv w
    have h0 : ∀ w, (isAgg 3).run Try.prog w = .ok false w := fun w => by kernel_rfl
    simp [part, Sem.run_bind, h0, hv]
  have p0 : ∀ w, (part 3 #[.int .i64 a, .int .i64 b] 0).run Try.prog w = .ok (.int .i64 a) w := hp _ 0 _ rfl
  have p1 : ∀ w, (part 3 #[.int .i64 a, .int .i64 b] 1).run Try.prog w = .ok (.int .i64 b) w := hp _ 1 _ rfl
  have q0 : ∀ w, (part 3 #[.int .i64 c, .int .i64 d] 0).run Try.prog w = .ok (.int .i64 c) w := hp _ 0 _ rfl
  have q1 : ∀ w, (part 3 #[.int .i64 c, .int .i64 d] 1).run Try.prog w = .ok (.int .i64 d) w := hp _ 1 _ rfl
  have r0 : ∀ w, (Op.equalIn 9999 3 (.int .i64 a) (.int .i64 c)).run Try.prog w = .ok (a == c) w := fun w => run_equalIn_int w 9998 3 .i64 .i64 a c Try.underlying3
  have r1 : ∀ w, (Op.equalIn 9999 3 (.int .i64 b) (.int .i64 d)).run Try.prog w = .ok (b == d) w := fun w => run_equalIn_int w 9998 3 .i64 .i64 b d Try.underlying3
  simp only [show List.range 2 = [0, 1] from rfl, Op.eqItems, Nat.mul_one, Sem.run_bind, p0, p1, q0, q1, Result.andThen_ok, r0]
  cases h1 : (a == c)
  · simp
  · simp only [Bool.not_true, Bool.false_eq_true, if_false, Sem.run_bind, p1, q1, Result.andThen_ok, r1]
    cases h2 : (b == d) <;> simp
end Go.Proofs.Ytdkjgkbddehaiaa
