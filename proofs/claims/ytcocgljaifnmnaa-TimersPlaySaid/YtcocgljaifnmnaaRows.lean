/-
  No cell of these rows narrows 'for every input' (looked for: loops, veiled, ifaces, maps, wideKeys, modest, calm, conditions, laid).
  DERIVED. THE GIVEN ROWS OF THIS SEAT. 5 by the template 'for every input the law returns true; each argument reads behind the call as it read before'; 0 by the template 'total and deterministic' (their statements: YtcocgljaifnmnaaTotals.lean).
  GIVEN WITH THE SEED: the statements are not yours to turn. If you find one false, say at which input.
  Laid BY PROGRAM, IN A SANDBOX (cutbox-rows.mjs): the forced cells as the released guide's own fill.sh prints them over the translation f19cb0c35a6e244d… (all of the seat's roots in one cut). By AI agents, Wed Nov 11 2026. No macro, syntax, notation, axiom, sorry.
-/
import Derived.Test.YtcocgljaifnmnaaChecked
import GoSem.Claim
import GoSem.ClaimJoined
import GoSem.ClaimMapViews
import Derived.JoinedTies
import Derived.KernelRfl
namespace Go.Proofs.Ytcocgljaifnmnaa
/- THE CELL 'sum', in the pinned program and in every row, IS THE sha256 OF THE DUMP (.gsa) THAT YtcocgljaifnmnaaProg.lean LOADS. Nothing in Lean hashes anything: it is a label: what it is worth is what the hold of that sum in a sandbox is worth. -/
noncomputable def Try.pinned : Pinned := { name := "ytcocgljaifnmnaa", sum := "f19cb0c35a6e244d54cfc858ee131b85b2d6f44c9ac14363fc6402de2d9d07e2", checked := Try.checked }
namespace Rows
def none {H : Type} : Left H := { results := [], args := [] }

/-- 'gauntletlaw6.TimersMany': WHATEVER THE INPUT: true; the input reads as it did. -/
def timersManySpec : ChangeSpec := { name := "timersMany", fn := fun _ => fun
  | [d1, d2, d3] => { results := [.lit (.bool true)], args := [d1, d2, d3] }
  | _ => none }
def timersManyRow : OpenClaim := { program := "ytcocgljaifnmnaa", sum := "f19cb0c35a6e244d54cfc858ee131b85b2d6f44c9ac14363fc6402de2d9d07e2", func := "gauntlet/gauntletlaw6.TimersMany", spec := "timersMany", unfollowed := true, recurses := true, apart := false }
def TimersManySaid : Prop := timersManyRow.holds Try.pinned (OpenSpec.ofChange timersManySpec)

/-- ITS FALSE NEIGHBOUR: 'it returns false'. Refute it at one input. -/
def timersManyWrong : ChangeSpec := { name := "timersMany", fn := fun _ => fun
  | [d1, d2, d3] => { results := [.lit (.bool false)], args := [d1, d2, d3] }
  | _ => none }
def TimersManyWrongFalsely : Prop := timersManyRow.holds Try.pinned (OpenSpec.ofChange timersManyWrong)

/-- 'gauntletlaw6.TimersRound': WHATEVER THE INPUT: true; the input reads as it did. -/
def timersRoundSpec : ChangeSpec := { name := "timersRound", fn := fun _ => fun
  | [d1, d2] => { results := [.lit (.bool true)], args := [d1, d2] }
  | _ => none }
def timersRoundRow : OpenClaim := { program := "ytcocgljaifnmnaa", sum := "f19cb0c35a6e244d54cfc858ee131b85b2d6f44c9ac14363fc6402de2d9d07e2", func := "gauntlet/gauntletlaw6.TimersRound", spec := "timersRound", unfollowed := true, recurses := true, apart := false }
def TimersRoundSaid : Prop := timersRoundRow.holds Try.pinned (OpenSpec.ofChange timersRoundSpec)

/-- ITS FALSE NEIGHBOUR: 'it returns false'. Refute it at one input. -/
def timersRoundWrong : ChangeSpec := { name := "timersRound", fn := fun _ => fun
  | [d1, d2] => { results := [.lit (.bool false)], args := [d1, d2] }
  | _ => none }
def TimersRoundWrongFalsely : Prop := timersRoundRow.holds Try.pinned (OpenSpec.ofChange timersRoundWrong)

/-- 'gauntletlaw6.TimersPlay': WHATEVER THE INPUT: true; the input reads as it did. -/
def timersPlaySpec : ChangeSpec := { name := "timersPlay", fn := fun _ => fun
  | [d] => { results := [.lit (.bool true)], args := [d] }
  | _ => none }
def timersPlayRow : OpenClaim := { program := "ytcocgljaifnmnaa", sum := "f19cb0c35a6e244d54cfc858ee131b85b2d6f44c9ac14363fc6402de2d9d07e2", func := "gauntlet/gauntletlaw6.TimersPlay", spec := "timersPlay", unfollowed := true, recurses := true, apart := false }
def TimersPlaySaid : Prop := timersPlayRow.holds Try.pinned (OpenSpec.ofChange timersPlaySpec)

/-- ITS FALSE NEIGHBOUR: 'it returns false'. Refute it at one input. -/
def timersPlayWrong : ChangeSpec := { name := "timersPlay", fn := fun _ => fun
  | [d] => { results := [.lit (.bool false)], args := [d] }
  | _ => none }
def TimersPlayWrongFalsely : Prop := timersPlayRow.holds Try.pinned (OpenSpec.ofChange timersPlayWrong)

/-- 'gauntletlaw6.TimersFull': WHATEVER THE INPUT: true; the input reads as it did. -/
def timersFullSpec : ChangeSpec := { name := "timersFull", fn := fun _ => fun
  | [d1, d2] => { results := [.lit (.bool true)], args := [d1, d2] }
  | _ => none }
def timersFullRow : OpenClaim := { program := "ytcocgljaifnmnaa", sum := "f19cb0c35a6e244d54cfc858ee131b85b2d6f44c9ac14363fc6402de2d9d07e2", func := "gauntlet/gauntletlaw6.TimersFull", spec := "timersFull", unfollowed := true, recurses := true, apart := false }
def TimersFullSaid : Prop := timersFullRow.holds Try.pinned (OpenSpec.ofChange timersFullSpec)

/-- ITS FALSE NEIGHBOUR: 'it returns false'. Refute it at one input. -/
def timersFullWrong : ChangeSpec := { name := "timersFull", fn := fun _ => fun
  | [d1, d2] => { results := [.lit (.bool false)], args := [d1, d2] }
  | _ => none }
def TimersFullWrongFalsely : Prop := timersFullRow.holds Try.pinned (OpenSpec.ofChange timersFullWrong)

/-- 'gauntletlaw6.TimersOfNothing': WHATEVER THE INPUT: true; the input reads as it did. -/
def timersOfNothingSpec : ChangeSpec := { name := "timersOfNothing", fn := fun _ => fun
  | [d1, d2] => { results := [.lit (.bool true)], args := [d1, d2] }
  | _ => none }
def timersOfNothingRow : OpenClaim := { program := "ytcocgljaifnmnaa", sum := "f19cb0c35a6e244d54cfc858ee131b85b2d6f44c9ac14363fc6402de2d9d07e2", func := "gauntlet/gauntletlaw6.TimersOfNothing", spec := "timersOfNothing", unfollowed := true, recurses := true, apart := false }
def TimersOfNothingSaid : Prop := timersOfNothingRow.holds Try.pinned (OpenSpec.ofChange timersOfNothingSpec)

/-- ITS FALSE NEIGHBOUR: 'it returns false'. Refute it at one input. -/
def timersOfNothingWrong : ChangeSpec := { name := "timersOfNothing", fn := fun _ => fun
  | [d1, d2] => { results := [.lit (.bool false)], args := [d1, d2] }
  | _ => none }
def TimersOfNothingWrongFalsely : Prop := timersOfNothingRow.holds Try.pinned (OpenSpec.ofChange timersOfNothingWrong)

/- THE SECOND FORM. 'bulk': how many values and letters a reading holds, each counted each time it is reached (what is shared counts as often as it is met; a slice's spare places count too). A statement '..UptoSaid' is the law's where the arguments, and the package variables that the reading takes, are together of bulk at most 1048576: NARROWER than '..Said'. Prove '..Said' where nothing that the law and all that it calls make is longer than what came in: it says more and counts as full. Else prove '..UptoSaid'. A law counts once. -/
mutual
def uptoBulk {H : Type} : DataW H → Nat
  | .lit (.string bytes) => bytes.length + 1
  | .lit _ => 1
  | .nil => 1
  | .ptr d => uptoBulk d + 1
  | .slice elems spare => uptoBulkAll elems + uptoBulkAll spare + 1
  | .agg parts => uptoBulkAll parts + 1
  | .iface _ d => uptoBulk d + 1
  | .map entries => uptoBulkEntries entries + 1
  | .held _ => 1
def uptoBulkAll {H : Type} : List (DataW H) → Nat
  | [] => 0
  | d :: r => uptoBulk d + uptoBulkAll r
def uptoBulkEntries {H : Type} : List (Lit × DataW H) → Nat
  | [] => 0
  | x :: r => uptoBulkEntry x + uptoBulkEntries r
def uptoBulkEntry {H : Type} : Lit × DataW H → Nat
  | (.string bytes, d) => bytes.length + uptoBulk d + 1
  | (_, d) => uptoBulk d + 1
 end
def uptoSmall : (H : Type) → List (DataW H) → Bool := fun _ ds => decide (uptoBulkAll ds ≤ 1048576)
def OpenSpec.upto (s : _root_.Go.ChangeSpec) : _root_.Go.OpenSpec := { _root_.Go.OpenSpec.ofChange s with cond := some uptoSmall }

/-- 'gauntletlaw6.TimersMany', WHERE WHAT IT READS IS OF BULK AT MOST 1048576: true; the input reads as it did. -/
def timersManyUptoRow : OpenClaim := { program := "ytcocgljaifnmnaa", sum := "f19cb0c35a6e244d54cfc858ee131b85b2d6f44c9ac14363fc6402de2d9d07e2", func := "gauntlet/gauntletlaw6.TimersMany", spec := "timersMany", unfollowed := true, recurses := true, apart := false, narrowed := true }
def TimersManyUptoSaid : Prop := timersManyUptoRow.holds Try.pinned (OpenSpec.upto timersManySpec)

/-- 'gauntletlaw6.TimersRound', WHERE WHAT IT READS IS OF BULK AT MOST 1048576: true; the input reads as it did. -/
def timersRoundUptoRow : OpenClaim := { program := "ytcocgljaifnmnaa", sum := "f19cb0c35a6e244d54cfc858ee131b85b2d6f44c9ac14363fc6402de2d9d07e2", func := "gauntlet/gauntletlaw6.TimersRound", spec := "timersRound", unfollowed := true, recurses := true, apart := false, narrowed := true }
def TimersRoundUptoSaid : Prop := timersRoundUptoRow.holds Try.pinned (OpenSpec.upto timersRoundSpec)

/-- 'gauntletlaw6.TimersPlay', WHERE WHAT IT READS IS OF BULK AT MOST 1048576: true; the input reads as it did. -/
def timersPlayUptoRow : OpenClaim := { program := "ytcocgljaifnmnaa", sum := "f19cb0c35a6e244d54cfc858ee131b85b2d6f44c9ac14363fc6402de2d9d07e2", func := "gauntlet/gauntletlaw6.TimersPlay", spec := "timersPlay", unfollowed := true, recurses := true, apart := false, narrowed := true }
def TimersPlayUptoSaid : Prop := timersPlayUptoRow.holds Try.pinned (OpenSpec.upto timersPlaySpec)

/-- 'gauntletlaw6.TimersFull', WHERE WHAT IT READS IS OF BULK AT MOST 1048576: true; the input reads as it did. -/
def timersFullUptoRow : OpenClaim := { program := "ytcocgljaifnmnaa", sum := "f19cb0c35a6e244d54cfc858ee131b85b2d6f44c9ac14363fc6402de2d9d07e2", func := "gauntlet/gauntletlaw6.TimersFull", spec := "timersFull", unfollowed := true, recurses := true, apart := false, narrowed := true }
def TimersFullUptoSaid : Prop := timersFullUptoRow.holds Try.pinned (OpenSpec.upto timersFullSpec)

/-- 'gauntletlaw6.TimersOfNothing', WHERE WHAT IT READS IS OF BULK AT MOST 1048576: true; the input reads as it did. -/
def timersOfNothingUptoRow : OpenClaim := { program := "ytcocgljaifnmnaa", sum := "f19cb0c35a6e244d54cfc858ee131b85b2d6f44c9ac14363fc6402de2d9d07e2", func := "gauntlet/gauntletlaw6.TimersOfNothing", spec := "timersOfNothing", unfollowed := true, recurses := true, apart := false, narrowed := true }
def TimersOfNothingUptoSaid : Prop := timersOfNothingUptoRow.holds Try.pinned (OpenSpec.upto timersOfNothingSpec)

end Rows
end Go.Proofs.Ytcocgljaifnmnaa
