/- A struct of one-cell fields that is read, field by field. -/
import Derived.Test.YtebmbfiiadffjaaRecs
namespace Go.Proofs.Ytebmbfiiadffjaa
open Go.RowKit
section
variable {H : Type} {enc : TypeId × Value → H} {P : Program} {w : World} {base : Nat} {held : Bool}
theorem open_struct {T : TypeId} {fs : Array Field} {fuel : Nat} {cs : List Value} {d : DataW H} {pl : List MemPlace} (hs : P.underlying T = some (.struct fs)) (hC : P.cellsOf T = fs.size) (ho : Deep.oneCellFields P fs = true)
    (h : DataW.trod enc P w base (fun _ => true) held fuel T cs = some (d, pl)) (hr : Reached P T d) :
    cs.length = fs.size ∧ ∀ (i : Nat) (f : Field) (v : Value), fs[i]? = some f → cs[i]? = some v → ∃ n d pl, DataW.trod enc P w base (fun _ => true) held n f.type [v] = some (d, pl) ∧ Reached P f.type d := by
  obtain ⟨xs, n, _, hx, hl, hxl, hf⟩ := DataW.trod_struct hs h
  rw [hC] at hl
  refine ⟨hl, fun i f v hi hv => ?_⟩
  have hlt : i < fs.size := (Array.getElem?_eq_some_iff.1 hi).1
  obtain ⟨h1, h2⟩ := Deep.hone_of ho i f hi
  have g := hf i f hi
  rw [h1, h2, Deep.take1_drop cs i undef (by omega), List.getElem?_eq_getElem (by omega)] at g
  obtain ⟨hl', hv'⟩ := List.getElem?_eq_some_iff.1 hv
  have e1 : cs.getD i undef = v := by simp [List.getD, hl', hv']
  rw [e1] at g
  obtain ⟨rfl, _⟩ := Prod.mk.inj hx
  refine ⟨n, (xs[i]'(by omega)).1, (xs[i]'(by omega)).2, g, reached_part hs hr (j := i) hi (by simp [List.getElem?_eq_getElem (show i < xs.length by omega)])⟩
end
end Go.Proofs.Ytebmbfiiadffjaa
