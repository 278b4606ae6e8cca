/-
  No cell of these rows narrows 'for every input' (looked for: loops, veiled, ifaces, maps, wideKeys, modest, calm, conditions, laid).
  DERIVED. THE GIVEN ROWS OF THIS SEAT. 6 by the template 'for every input the law returns true; each argument reads behind the call as it read before'; 0 by the template 'total and deterministic' (their statements: YtdkjgkbddehaiaaTotals.lean).
  GIVEN WITH THE SEED: the statements are not yours to turn. If you find one false, say at which input.
  Laid BY PROGRAM, IN A SANDBOX (cutbox-rows.mjs): the forced cells as the released guide's own fill.sh prints them over the translation 9ecc4df27d5b1c27… (all of the seat's roots in one cut). By AI agents, Wed Nov 11 2026. No macro, syntax, notation, axiom, sorry.
-/
import Derived.Test.YtdkjgkbddehaiaaChecked
import GoSem.Claim
import GoSem.ClaimJoined
import GoSem.ClaimMapViews
import Derived.JoinedTies
import Derived.KernelRfl
namespace Go.Proofs.Ytdkjgkbddehaiaa
/- THE CELL 'sum', in the pinned program and in every row, IS THE sha256 OF THE DUMP (.gsa) THAT YtdkjgkbddehaiaaProg.lean LOADS. Nothing in Lean hashes anything: it is a label: what it is worth is what the hold of that sum in a sandbox is worth. -/
noncomputable def Try.pinned : Pinned := { name := "ytdkjgkbddehaiaa", sum := "9ecc4df27d5b1c2701f7b0ee9e78982238951da7253fd044e15c44adc3c8d4f5", checked := Try.checked }
namespace Rows
def none {H : Type} : Left H := { results := [], args := [] }

/-- 'gauntletlaw20.BracketSame': WHATEVER THE INPUT: true; the input reads as it did. -/
def bracketSameSpec : ChangeSpec := { name := "bracketSame", fn := fun _ => fun
  | [d1, d2, d3] => { results := [.lit (.bool true)], args := [d1, d2, d3] }
  | _ => none }
def bracketSameRow : OpenClaim := { program := "ytdkjgkbddehaiaa", sum := "9ecc4df27d5b1c2701f7b0ee9e78982238951da7253fd044e15c44adc3c8d4f5", func := "gauntlet/gauntletlaw20.BracketSame", spec := "bracketSame", unfollowed := true, recurses := true, apart := false }
def BracketSameSaid : Prop := bracketSameRow.holds Try.pinned (OpenSpec.ofChange bracketSameSpec)

/-- ITS FALSE NEIGHBOUR: 'it returns false'. Refute it at one input. -/
def bracketSameWrong : ChangeSpec := { name := "bracketSame", fn := fun _ => fun
  | [d1, d2, d3] => { results := [.lit (.bool false)], args := [d1, d2, d3] }
  | _ => none }
def BracketSameWrongFalsely : Prop := bracketSameRow.holds Try.pinned (OpenSpec.ofChange bracketSameWrong)

/-- 'gauntletlaw20.BracketByes': WHATEVER THE INPUT: true; the input reads as it did. -/
def bracketByesSpec : ChangeSpec := { name := "bracketByes", fn := fun _ => fun
  | [d] => { results := [.lit (.bool true)], args := [d] }
  | _ => none }
def bracketByesRow : OpenClaim := { program := "ytdkjgkbddehaiaa", sum := "9ecc4df27d5b1c2701f7b0ee9e78982238951da7253fd044e15c44adc3c8d4f5", func := "gauntlet/gauntletlaw20.BracketByes", spec := "bracketByes", unfollowed := true, recurses := true, apart := false }
def BracketByesSaid : Prop := bracketByesRow.holds Try.pinned (OpenSpec.ofChange bracketByesSpec)

/-- ITS FALSE NEIGHBOUR: 'it returns false'. Refute it at one input. -/
def bracketByesWrong : ChangeSpec := { name := "bracketByes", fn := fun _ => fun
  | [d] => { results := [.lit (.bool false)], args := [d] }
  | _ => none }
def BracketByesWrongFalsely : Prop := bracketByesRow.holds Try.pinned (OpenSpec.ofChange bracketByesWrong)

/-- 'gauntletlaw20.BracketFavourites': WHATEVER THE INPUT: true; the input reads as it did. -/
def bracketFavouritesSpec : ChangeSpec := { name := "bracketFavourites", fn := fun _ => fun
  | [d] => { results := [.lit (.bool true)], args := [d] }
  | _ => none }
def bracketFavouritesRow : OpenClaim := { program := "ytdkjgkbddehaiaa", sum := "9ecc4df27d5b1c2701f7b0ee9e78982238951da7253fd044e15c44adc3c8d4f5", func := "gauntlet/gauntletlaw20.BracketFavourites", spec := "bracketFavourites", unfollowed := true, recurses := true, apart := false }
def BracketFavouritesSaid : Prop := bracketFavouritesRow.holds Try.pinned (OpenSpec.ofChange bracketFavouritesSpec)

/-- ITS FALSE NEIGHBOUR: 'it returns false'. Refute it at one input. -/
def bracketFavouritesWrong : ChangeSpec := { name := "bracketFavourites", fn := fun _ => fun
  | [d] => { results := [.lit (.bool false)], args := [d] }
  | _ => none }
def BracketFavouritesWrongFalsely : Prop := bracketFavouritesRow.holds Try.pinned (OpenSpec.ofChange bracketFavouritesWrong)

/-- 'gauntletlaw20.BracketPlays': WHATEVER THE INPUT: true; the input reads as it did. -/
def bracketPlaysSpec : ChangeSpec := { name := "bracketPlays", fn := fun _ => fun
  | [d1, d2] => { results := [.lit (.bool true)], args := [d1, d2] }
  | _ => none }
def bracketPlaysRow : OpenClaim := { program := "ytdkjgkbddehaiaa", sum := "9ecc4df27d5b1c2701f7b0ee9e78982238951da7253fd044e15c44adc3c8d4f5", func := "gauntlet/gauntletlaw20.BracketPlays", spec := "bracketPlays", unfollowed := true, recurses := true, apart := false }
def BracketPlaysSaid : Prop := bracketPlaysRow.holds Try.pinned (OpenSpec.ofChange bracketPlaysSpec)

/-- ITS FALSE NEIGHBOUR: 'it returns false'. Refute it at one input. -/
def bracketPlaysWrong : ChangeSpec := { name := "bracketPlays", fn := fun _ => fun
  | [d1, d2] => { results := [.lit (.bool false)], args := [d1, d2] }
  | _ => none }
def BracketPlaysWrongFalsely : Prop := bracketPlaysRow.holds Try.pinned (OpenSpec.ofChange bracketPlaysWrong)

/-- 'gauntletlaw20.BracketEnds': WHATEVER THE INPUT: true; the input reads as it did. -/
def bracketEndsSpec : ChangeSpec := { name := "bracketEnds", fn := fun _ => fun
  | [d1, d2] => { results := [.lit (.bool true)], args := [d1, d2] }
  | _ => none }
def bracketEndsRow : OpenClaim := { program := "ytdkjgkbddehaiaa", sum := "9ecc4df27d5b1c2701f7b0ee9e78982238951da7253fd044e15c44adc3c8d4f5", func := "gauntlet/gauntletlaw20.BracketEnds", spec := "bracketEnds", unfollowed := true, recurses := true, apart := false }
def BracketEndsSaid : Prop := bracketEndsRow.holds Try.pinned (OpenSpec.ofChange bracketEndsSpec)

/-- ITS FALSE NEIGHBOUR: 'it returns false'. Refute it at one input. -/
def bracketEndsWrong : ChangeSpec := { name := "bracketEnds", fn := fun _ => fun
  | [d1, d2] => { results := [.lit (.bool false)], args := [d1, d2] }
  | _ => none }
def BracketEndsWrongFalsely : Prop := bracketEndsRow.holds Try.pinned (OpenSpec.ofChange bracketEndsWrong)

/-- 'gauntletlaw20.BracketOfNothing': WHATEVER THE INPUT: true; the input reads as it did. -/
def bracketOfNothingSpec : ChangeSpec := { name := "bracketOfNothing", fn := fun _ => fun
  | [d1, d2] => { results := [.lit (.bool true)], args := [d1, d2] }
  | _ => none }
def bracketOfNothingRow : OpenClaim := { program := "ytdkjgkbddehaiaa", sum := "9ecc4df27d5b1c2701f7b0ee9e78982238951da7253fd044e15c44adc3c8d4f5", func := "gauntlet/gauntletlaw20.BracketOfNothing", spec := "bracketOfNothing", unfollowed := true, recurses := true, apart := false }
def BracketOfNothingSaid : Prop := bracketOfNothingRow.holds Try.pinned (OpenSpec.ofChange bracketOfNothingSpec)

/-- ITS FALSE NEIGHBOUR: 'it returns false'. Refute it at one input. -/
def bracketOfNothingWrong : ChangeSpec := { name := "bracketOfNothing", fn := fun _ => fun
  | [d1, d2] => { results := [.lit (.bool false)], args := [d1, d2] }
  | _ => none }
def BracketOfNothingWrongFalsely : Prop := bracketOfNothingRow.holds Try.pinned (OpenSpec.ofChange bracketOfNothingWrong)

/- THE SECOND FORM. 'bulk': how many values and letters a reading holds, each counted each time it is reached (what is shared counts as often as it is met; a slice's spare places count too). A statement '..UptoSaid' is the law's where the arguments, and the package variables that the reading takes, are together of bulk at most 1048576: NARROWER than '..Said'. Prove '..Said' where nothing that the law and all that it calls make is longer than what came in: it says more and counts as full. Else prove '..UptoSaid'. A law counts once. -/
mutual
def uptoBulk {H : Type} : DataW H → Nat
  | .lit (.string bytes) => bytes.length + 1
  | .lit _ => 1
  | .nil => 1
  | .ptr d => uptoBulk d + 1
  | .slice elems spare => uptoBulkAll elems + uptoBulkAll spare + 1
  | .agg parts => uptoBulkAll parts + 1
  | .iface _ d => uptoBulk d + 1
  | .map entries => uptoBulkEntries entries + 1
  | .held _ => 1
def uptoBulkAll {H : Type} : List (DataW H) → Nat
  | [] => 0
  | d :: r => uptoBulk d + uptoBulkAll r
def uptoBulkEntries {H : Type} : List (Lit × DataW H) → Nat
  | [] => 0
  | x :: r => uptoBulkEntry x + uptoBulkEntries r
def uptoBulkEntry {H : Type} : Lit × DataW H → Nat
  | (.string bytes, d) => bytes.length + uptoBulk d + 1
  | (_, d) => uptoBulk d + 1
 end
def uptoSmall : (H : Type) → List (DataW H) → Bool := fun _ ds => decide (uptoBulkAll ds ≤ 1048576)
def OpenSpec.upto (s : _root_.Go.ChangeSpec) : _root_.Go.OpenSpec := { _root_.Go.OpenSpec.ofChange s with cond := some uptoSmall }

/-- 'gauntletlaw20.BracketSame', WHERE WHAT IT READS IS OF BULK AT MOST 1048576: true; the input reads as it did. -/
def bracketSameUptoRow : OpenClaim := { program := "ytdkjgkbddehaiaa", sum := "9ecc4df27d5b1c2701f7b0ee9e78982238951da7253fd044e15c44adc3c8d4f5", func := "gauntlet/gauntletlaw20.BracketSame", spec := "bracketSame", unfollowed := true, recurses := true, apart := false, narrowed := true }
def BracketSameUptoSaid : Prop := bracketSameUptoRow.holds Try.pinned (OpenSpec.upto bracketSameSpec)

/-- 'gauntletlaw20.BracketByes', WHERE WHAT IT READS IS OF BULK AT MOST 1048576: true; the input reads as it did. -/
def bracketByesUptoRow : OpenClaim := { program := "ytdkjgkbddehaiaa", sum := "9ecc4df27d5b1c2701f7b0ee9e78982238951da7253fd044e15c44adc3c8d4f5", func := "gauntlet/gauntletlaw20.BracketByes", spec := "bracketByes", unfollowed := true, recurses := true, apart := false, narrowed := true }
def BracketByesUptoSaid : Prop := bracketByesUptoRow.holds Try.pinned (OpenSpec.upto bracketByesSpec)

/-- 'gauntletlaw20.BracketFavourites', WHERE WHAT IT READS IS OF BULK AT MOST 1048576: true; the input reads as it did. -/
def bracketFavouritesUptoRow : OpenClaim := { program := "ytdkjgkbddehaiaa", sum := "9ecc4df27d5b1c2701f7b0ee9e78982238951da7253fd044e15c44adc3c8d4f5", func := "gauntlet/gauntletlaw20.BracketFavourites", spec := "bracketFavourites", unfollowed := true, recurses := true, apart := false, narrowed := true }
def BracketFavouritesUptoSaid : Prop := bracketFavouritesUptoRow.holds Try.pinned (OpenSpec.upto bracketFavouritesSpec)

/-- 'gauntletlaw20.BracketPlays', WHERE WHAT IT READS IS OF BULK AT MOST 1048576: true; the input reads as it did. -/
def bracketPlaysUptoRow : OpenClaim := { program := "ytdkjgkbddehaiaa", sum := "9ecc4df27d5b1c2701f7b0ee9e78982238951da7253fd044e15c44adc3c8d4f5", func := "gauntlet/gauntletlaw20.BracketPlays", spec := "bracketPlays", unfollowed := true, recurses := true, apart := false, narrowed := true }
def BracketPlaysUptoSaid : Prop := bracketPlaysUptoRow.holds Try.pinned (OpenSpec.upto bracketPlaysSpec)

/-- 'gauntletlaw20.BracketEnds', WHERE WHAT IT READS IS OF BULK AT MOST 1048576: true; the input reads as it did. -/
def bracketEndsUptoRow : OpenClaim := { program := "ytdkjgkbddehaiaa", sum := "9ecc4df27d5b1c2701f7b0ee9e78982238951da7253fd044e15c44adc3c8d4f5", func := "gauntlet/gauntletlaw20.BracketEnds", spec := "bracketEnds", unfollowed := true, recurses := true, apart := false, narrowed := true }
def BracketEndsUptoSaid : Prop := bracketEndsUptoRow.holds Try.pinned (OpenSpec.upto bracketEndsSpec)

/-- 'gauntletlaw20.BracketOfNothing', WHERE WHAT IT READS IS OF BULK AT MOST 1048576: true; the input reads as it did. -/
def bracketOfNothingUptoRow : OpenClaim := { program := "ytdkjgkbddehaiaa", sum := "9ecc4df27d5b1c2701f7b0ee9e78982238951da7253fd044e15c44adc3c8d4f5", func := "gauntlet/gauntletlaw20.BracketOfNothing", spec := "bracketOfNothing", unfollowed := true, recurses := true, apart := false, narrowed := true }
def BracketOfNothingUptoSaid : Prop := bracketOfNothingUptoRow.holds Try.pinned (OpenSpec.upto bracketOfNothingSpec)

end Rows
end Go.Proofs.Ytdkjgkbddehaiaa
