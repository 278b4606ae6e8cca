/- Numbers that are read. -/
import Derived.Test.YtdkjgkbddehaiaaSeedA
namespace Go.Proofs.Ytdkjgkbddehaiaa
open Go.RowKit

/-- '.slice a n _' reads in w as the numbers l. -/
def RdNums (w : World) (a : Option Addr) (n : Nat) (l : List Int) : Prop := n = l.length ∧ ∀ i (hi : i < l.length), ∃ b off, a = some ⟨b, off, none⟩ ∧ w.cell? ⟨b, off + i, none⟩ = some (.int .i64 l[i])
theorem SlRep.nums {E : Nat} {a : Option Addr} {n c : Nat} {l : List Nat} {H : Heaplet} (h : SlRep E 1 a n c (l.map iv) H) {w : World} (hw : Own w H) : RdNums w a n (l.map fun (x : Nat) => (x : Int)) := by
  refine ⟨by have := h.1; simp at this ⊢; omega, fun i hi => ?_⟩
  have hi' : i < l.length := by simpa using hi
  obtain ⟨g, ha, hc, _⟩ := slRep_at h hw (i := i) (v := iv l[i]) (by rw [List.getElem?_map, List.getElem?_eq_getElem hi']; rfl)
  exact ⟨g, 0, ha, by rw [hc]; simp⟩
theorem RdNums.later {w w' : World} {a : Option Addr} {n : Nat} {l : List Int} (h : RdNums w a n l) {H : Heaplet} (s : Step w [] w' H) : RdNums w' a n l :=
  ⟨h.1, fun i hi => by
    obtain ⟨b, off, ha, hc⟩ := h.2 i hi
    exact ⟨b, off, ha, by rw [World.cell?_of_block (w := w) (s.frame b (World.block_lt_of_cell? w _ hc) (by simp [dom]))]; exact hc⟩⟩
theorem Step.drewN {w w' : World} {H H' : Heaplet} (h : Step w H w' H') (n : Nat) : Step w H (w'.drewN n) H' :=
  ⟨h.os, h.tape, h.output, h.size, h.frame, h.own.eq fun _ _ => rfl, h.keys⟩
def LawPost (w : World) (e : Ending) (w' : World) : Prop := e = .returned (.bool true) ∧ Step w [] w' []
theorem Step.nil_below {w w' : World} {H : Heaplet} (s : Step w [] w' H) : Below w.heap.size w w' := s.below (by simp [dom]) (Nat.le_refl _)
end Go.Proofs.Ytdkjgkbddehaiaa
