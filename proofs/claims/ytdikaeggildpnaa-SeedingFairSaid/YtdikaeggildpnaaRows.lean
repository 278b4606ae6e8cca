/-
  No cell of these rows narrows 'for every input' (looked for: loops, veiled, ifaces, maps, wideKeys, modest, calm, conditions, laid).
  DERIVED. THE GIVEN ROWS OF THIS SEAT. 4 by the template 'for every input the law returns true; each argument reads behind the call as it read before'; 0 by the template 'total and deterministic' (their statements: YtdikaeggildpnaaTotals.lean).
  GIVEN WITH THE SEED: the statements are not yours to turn. If you find one false, say at which input.
  Laid BY PROGRAM, IN A SANDBOX (cutbox-rows.mjs): the forced cells as the released guide's own fill.sh prints them over the translation 34686c69ffa915e2… (all of the seat's roots in one cut). By AI agents, Wed Nov 11 2026. No macro, syntax, notation, axiom, sorry.
-/
import Derived.Test.YtdikaeggildpnaaChecked
import GoSem.Claim
import GoSem.ClaimJoined
import GoSem.ClaimMapViews
import Derived.JoinedTies
import Derived.KernelRfl
namespace Go.Proofs.Ytdikaeggildpnaa
/- THE CELL 'sum', in the pinned program and in every row, IS THE sha256 OF THE DUMP (.gsa) THAT YtdikaeggildpnaaProg.lean LOADS. Nothing in Lean hashes anything: it is a label: what it is worth is what the hold of that sum in a sandbox is worth. -/
noncomputable def Try.pinned : Pinned := { name := "ytdikaeggildpnaa", sum := "34686c69ffa915e2c8dee3f2b76afc61eda2baf9fcfe4f6eb11453f1cd06bcaf", checked := Try.checked }
namespace Rows
def none {H : Type} : Left H := { results := [], args := [] }

/-- 'gauntletlaw19.SeedingPairs': WHATEVER THE INPUT: true; the input reads as it did. -/
def seedingPairsSpec : ChangeSpec := { name := "seedingPairs", fn := fun _ => fun
  | [d] => { results := [.lit (.bool true)], args := [d] }
  | _ => none }
def seedingPairsRow : OpenClaim := { program := "ytdikaeggildpnaa", sum := "34686c69ffa915e2c8dee3f2b76afc61eda2baf9fcfe4f6eb11453f1cd06bcaf", func := "gauntlet/gauntletlaw19.SeedingPairs", spec := "seedingPairs", unfollowed := true, recurses := true, apart := false }
def SeedingPairsSaid : Prop := seedingPairsRow.holds Try.pinned (OpenSpec.ofChange seedingPairsSpec)

/-- ITS FALSE NEIGHBOUR: 'it returns false'. Refute it at one input. -/
def seedingPairsWrong : ChangeSpec := { name := "seedingPairs", fn := fun _ => fun
  | [d] => { results := [.lit (.bool false)], args := [d] }
  | _ => none }
def SeedingPairsWrongFalsely : Prop := seedingPairsRow.holds Try.pinned (OpenSpec.ofChange seedingPairsWrong)

/-- 'gauntletlaw19.SeedingMeets': WHATEVER THE INPUT: true; the input reads as it did. -/
def seedingMeetsSpec : ChangeSpec := { name := "seedingMeets", fn := fun _ => fun
  | [d1, d2, d3, d4] => { results := [.lit (.bool true)], args := [d1, d2, d3, d4] }
  | _ => none }
def seedingMeetsRow : OpenClaim := { program := "ytdikaeggildpnaa", sum := "34686c69ffa915e2c8dee3f2b76afc61eda2baf9fcfe4f6eb11453f1cd06bcaf", func := "gauntlet/gauntletlaw19.SeedingMeets", spec := "seedingMeets", unfollowed := true, recurses := true, apart := false }
def SeedingMeetsSaid : Prop := seedingMeetsRow.holds Try.pinned (OpenSpec.ofChange seedingMeetsSpec)

/-- ITS FALSE NEIGHBOUR: 'it returns false'. Refute it at one input. -/
def seedingMeetsWrong : ChangeSpec := { name := "seedingMeets", fn := fun _ => fun
  | [d1, d2, d3, d4] => { results := [.lit (.bool false)], args := [d1, d2, d3, d4] }
  | _ => none }
def SeedingMeetsWrongFalsely : Prop := seedingMeetsRow.holds Try.pinned (OpenSpec.ofChange seedingMeetsWrong)

/-- 'gauntletlaw19.SeedingOrders': WHATEVER THE INPUT: true; the input reads as it did. -/
def seedingOrdersSpec : ChangeSpec := { name := "seedingOrders", fn := fun _ => fun
  | [d1, d2, d3] => { results := [.lit (.bool true)], args := [d1, d2, d3] }
  | _ => none }
def seedingOrdersRow : OpenClaim := { program := "ytdikaeggildpnaa", sum := "34686c69ffa915e2c8dee3f2b76afc61eda2baf9fcfe4f6eb11453f1cd06bcaf", func := "gauntlet/gauntletlaw19.SeedingOrders", spec := "seedingOrders", unfollowed := true, recurses := true, apart := false }
def SeedingOrdersSaid : Prop := seedingOrdersRow.holds Try.pinned (OpenSpec.ofChange seedingOrdersSpec)

/-- ITS FALSE NEIGHBOUR: 'it returns false'. Refute it at one input. -/
def seedingOrdersWrong : ChangeSpec := { name := "seedingOrders", fn := fun _ => fun
  | [d1, d2, d3] => { results := [.lit (.bool false)], args := [d1, d2, d3] }
  | _ => none }
def SeedingOrdersWrongFalsely : Prop := seedingOrdersRow.holds Try.pinned (OpenSpec.ofChange seedingOrdersWrong)

/-- 'gauntletlaw19.SeedingFair': WHATEVER THE INPUT: true; the input reads as it did. -/
def seedingFairSpec : ChangeSpec := { name := "seedingFair", fn := fun _ => fun
  | [d1, d2] => { results := [.lit (.bool true)], args := [d1, d2] }
  | _ => none }
def seedingFairRow : OpenClaim := { program := "ytdikaeggildpnaa", sum := "34686c69ffa915e2c8dee3f2b76afc61eda2baf9fcfe4f6eb11453f1cd06bcaf", func := "gauntlet/gauntletlaw19.SeedingFair", spec := "seedingFair", unfollowed := true, recurses := true, apart := false }
def SeedingFairSaid : Prop := seedingFairRow.holds Try.pinned (OpenSpec.ofChange seedingFairSpec)

/-- ITS FALSE NEIGHBOUR: 'it returns false'. Refute it at one input. -/
def seedingFairWrong : ChangeSpec := { name := "seedingFair", fn := fun _ => fun
  | [d1, d2] => { results := [.lit (.bool false)], args := [d1, d2] }
  | _ => none }
def SeedingFairWrongFalsely : Prop := seedingFairRow.holds Try.pinned (OpenSpec.ofChange seedingFairWrong)

/- THE SECOND FORM. 'bulk': how many values and letters a reading holds, each counted each time it is reached (what is shared counts as often as it is met; a slice's spare places count too). A statement '..UptoSaid' is the law's where the arguments, and the package variables that the reading takes, are together of bulk at most 1048576: NARROWER than '..Said'. Prove '..Said' where nothing that the law and all that it calls make is longer than what came in: it says more and counts as full. Else prove '..UptoSaid'. A law counts once. -/
mutual
def uptoBulk {H : Type} : DataW H → Nat
  | .lit (.string bytes) => bytes.length + 1
  | .lit _ => 1
  | .nil => 1
  | .ptr d => uptoBulk d + 1
  | .slice elems spare => uptoBulkAll elems + uptoBulkAll spare + 1
  | .agg parts => uptoBulkAll parts + 1
  | .iface _ d => uptoBulk d + 1
  | .map entries => uptoBulkEntries entries + 1
  | .held _ => 1
def uptoBulkAll {H : Type} : List (DataW H) → Nat
  | [] => 0
  | d :: r => uptoBulk d + uptoBulkAll r
def uptoBulkEntries {H : Type} : List (Lit × DataW H) → Nat
  | [] => 0
  | x :: r => uptoBulkEntry x + uptoBulkEntries r
def uptoBulkEntry {H : Type} : Lit × DataW H → Nat
  | (.string bytes, d) => bytes.length + uptoBulk d + 1
  | (_, d) => uptoBulk d + 1
 end
def uptoSmall : (H : Type) → List (DataW H) → Bool := fun _ ds => decide (uptoBulkAll ds ≤ 1048576)
def OpenSpec.upto (s : _root_.Go.ChangeSpec) : _root_.Go.OpenSpec := { _root_.Go.OpenSpec.ofChange s with cond := some uptoSmall }

/-- 'gauntletlaw19.SeedingPairs', WHERE WHAT IT READS IS OF BULK AT MOST 1048576: true; the input reads as it did. -/
def seedingPairsUptoRow : OpenClaim := { program := "ytdikaeggildpnaa", sum := "34686c69ffa915e2c8dee3f2b76afc61eda2baf9fcfe4f6eb11453f1cd06bcaf", func := "gauntlet/gauntletlaw19.SeedingPairs", spec := "seedingPairs", unfollowed := true, recurses := true, apart := false, narrowed := true }
def SeedingPairsUptoSaid : Prop := seedingPairsUptoRow.holds Try.pinned (OpenSpec.upto seedingPairsSpec)

/-- 'gauntletlaw19.SeedingMeets', WHERE WHAT IT READS IS OF BULK AT MOST 1048576: true; the input reads as it did. -/
def seedingMeetsUptoRow : OpenClaim := { program := "ytdikaeggildpnaa", sum := "34686c69ffa915e2c8dee3f2b76afc61eda2baf9fcfe4f6eb11453f1cd06bcaf", func := "gauntlet/gauntletlaw19.SeedingMeets", spec := "seedingMeets", unfollowed := true, recurses := true, apart := false, narrowed := true }
def SeedingMeetsUptoSaid : Prop := seedingMeetsUptoRow.holds Try.pinned (OpenSpec.upto seedingMeetsSpec)

/-- 'gauntletlaw19.SeedingOrders', WHERE WHAT IT READS IS OF BULK AT MOST 1048576: true; the input reads as it did. -/
def seedingOrdersUptoRow : OpenClaim := { program := "ytdikaeggildpnaa", sum := "34686c69ffa915e2c8dee3f2b76afc61eda2baf9fcfe4f6eb11453f1cd06bcaf", func := "gauntlet/gauntletlaw19.SeedingOrders", spec := "seedingOrders", unfollowed := true, recurses := true, apart := false, narrowed := true }
def SeedingOrdersUptoSaid : Prop := seedingOrdersUptoRow.holds Try.pinned (OpenSpec.upto seedingOrdersSpec)

/-- 'gauntletlaw19.SeedingFair', WHERE WHAT IT READS IS OF BULK AT MOST 1048576: true; the input reads as it did. -/
def seedingFairUptoRow : OpenClaim := { program := "ytdikaeggildpnaa", sum := "34686c69ffa915e2c8dee3f2b76afc61eda2baf9fcfe4f6eb11453f1cd06bcaf", func := "gauntlet/gauntletlaw19.SeedingFair", spec := "seedingFair", unfollowed := true, recurses := true, apart := false, narrowed := true }
def SeedingFairUptoSaid : Prop := seedingFairUptoRow.holds Try.pinned (OpenSpec.upto seedingFairSpec)

end Rows
end Go.Proofs.Ytdikaeggildpnaa
