/- Rows that are read, beside what is owned. -/
import Derived.Test.YtdolbeonpkanpaaGreatDoorMPure
import Derived.Test.YtdolbeonpkanpaaGreatDoorMSp
set_option linter.unusedVariables false
set_option linter.unusedSimpArgs false
namespace Go.Proofs.YtdolbeonpkanpaaGreatDoor
open Go.RowKit

theorem RdRows.at' {w : World} {a : Option Addr} {n c : Nat} {l : List (List UInt8)} {A : Nat → Option Addr} {C : Nat → Nat} (h : RdRows w a n c l A C) {i : Nat} (hi : i < l.length) :
    ∃ b off, a = some ⟨b, off, none⟩ ∧ w.cell? ⟨b, off + i, none⟩ = some (.slice (A i) l[i].length (C i)) ∧ RdBytes w (A i) l[i].length (C i) l[i] := by
  obtain ⟨b, off, h1, h2⟩ := h.2.2.2 (by intro e; subst e; simp at hi)
  exact ⟨b, off, h1, (h2 i hi).1, (h2 i hi).2⟩
theorem RdRows.step {w w' : World} {a : Option Addr} {n c : Nat} {l : List (List UInt8)} {A : Nat → Option Addr} {C : Nat → Nat} (h : RdRows w a n c l A C) {G : Heaplet} (s : Step w [] w' G) : RdRows w' a n c l A C :=
  h.later fun b hb => s.frame b hb (by simp [dom])
/-- What is owned is news. -/
theorem Sp.news {w W : World} {Hs : List Heaplet} (s : Sp w [] W Hs) {q : Nat} {G : Heaplet} (hq : Hs[q]? = some G) : ∀ b ∈ dom G, w.heap.size ≤ b := by
  intro b hb
  have hm : b ∈ dom Hs.flatten := by
    have := List.mem_of_getElem? hq
    obtain ⟨o, ho⟩ := mem_dom.1 hb
    exact mem_dom.2 ⟨o, List.mem_flatten.2 ⟨G, this, ho⟩⟩
  exact (Step.keys s b hm).elim (by simp [dom]) id
theorem RdBytes.old {w W : World} {Hs : List Heaplet} (s : Sp w [] W Hs) {q : Nat} {G : Heaplet} (hq : Hs[q]? = some G) {a : Option Addr} {n c : Nat} {l : List UInt8} (h : RdBytes w a n c l) (hl : l ≠ []) : ∀ x, a = some x → x.block ∉ dom G := by
  intro x hx hd
  obtain ⟨b, off, ha, _, _, hc⟩ := h.place hl
  rw [ha] at hx
  cases hx
  have h1 := World.block_lt_of_cell? w _ (hc 0 (List.length_pos_iff.2 hl))
  have h2 := s.news hq _ hd
  simp only at h1 h2
  omega
end Go.Proofs.YtdolbeonpkanpaaGreatDoor
