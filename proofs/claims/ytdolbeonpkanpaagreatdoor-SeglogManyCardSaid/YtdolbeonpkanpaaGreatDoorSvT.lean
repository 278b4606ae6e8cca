/- The tables that the rows list: what the list gives a walk, and a world that meets it. -/
import Derived.Test.YtdolbeonpkanpaaGreatDoorCards
import Derived.Test.YtdolbeonpkanpaaGreatDoorMSgA
import Derived.Lib.LaidTab
import Derived.Deep.DeepHandedRow
import Derived.Stop.LaidErr
set_option linter.unusedVariables false
set_option linter.unusedSimpArgs false
namespace Go.Proofs.YtdolbeonpkanpaaGreatDoor
open Go.ChangeShapes Go.WideShapes Go.ChangeAt Go.RowKit
theorem gTab : Tryz.prog.globalNamed "internal/strconv.uint64pow10" = some 0 := by kernel_rfl
theorem gTabType : (Tryz.prog.globals[0]?).map (·.type) = some 198 := by kernel_rfl
theorem cellsTab : Tryz.prog.cellsOf 198 = 20 := by kernel_rfl
theorem cellsU64 : Tryz.prog.cellsOf 121 = 1 := by kernel_rfl
theorem tab_of_laid {W : World} (h : laidMetH Tryz.prog Rows.seglogPlaysRow.laid W) : Tab W := by
  have h1 : laidMet Tryz.prog Rows.seglogPlaysRow.laid W := h
  have h2 := h1.tail.tail
  exact Lib.tabIs_of_head (rest := []) gTab gTabType Tryz.underlying198 Tryz.underlying121 cellsU64 cellsTab h2
/-- The cells that a table of integers holds. -/
def tabCells {H : Type} : DataW H → Array Value
  | .agg l => (l.map fun x => match x with | .lit (.int k z) => Value.int k z | _ => Value.bool false).toArray
  | _ => #[]
def layAt (l : DataW Unit) : Obj → Obj
  | .cells _ t frozen => .cells (tabCells l) t frozen
  | o => o
noncomputable def laidWorld (os : Os) : World :=
  { World.holding Tryz.prog os ⟨#[], #[], []⟩ with heap := ((((World.holding Tryz.prog os ⟨#[], #[], []⟩).heap.modify 0 (layAt Rows.laid_internal_strconv_uint64pow10)).modify 2 (layAt Rows.laid_math_bits_deBruijn32tab)).modify 3 (layAt Rows.laid_math_bits_deBruijn64tab)) }
end Go.Proofs.YtdolbeonpkanpaaGreatDoor
