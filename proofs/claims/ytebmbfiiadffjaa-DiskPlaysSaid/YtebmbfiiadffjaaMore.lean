/- More laws on heaplets: what stays, a world told anew, a cell of a slice written. -/
import Derived.Test.YtebmbfiiadffjaaMk
namespace Go.Proofs.Ytebmbfiiadffjaa
open Go.RowKit

theorem size_setCell (w : World) (a : Addr) (v : Value) : (w.setCell a v).heap.size = w.heap.size := by simp [World.setCell]
abbrev ii (x : Int) : Value := .int .i64 x
abbrev iv (x : Nat) : Value := .int .i64 (x : Int)
abbrev pt (b : Nat) : Value := .pointer (some ⟨b, 0, none⟩)
def LawPost (w : World) (e : Ending) (w' : World) : Prop := e = .returned (.bool true) ∧ Step w [] w' []
theorem Step.nil_below {w w' : World} {H : Heaplet} (s : Step w [] w' H) : Below w.heap.size w w' := s.below (by simp [dom]) (Nat.le_refl _)
theorem Step.drewN {w w' : World} {H H' : Heaplet} (h : Step w H w' H') (n : Nat) : Step w H (w'.drewN n) H' :=
  ⟨h.os, h.tape, h.output, h.size, h.frame, h.own.eq fun _ _ => rfl, h.keys⟩
theorem Own.after {w w' : World} {H G : Heaplet} (o : Own w H) (s : Step w [] w' G) : Own w' H := o.eq fun b hb => s.frame b (o.lt b hb) (by simp [dom])
theorem Step.stay {w w' : World} {H : Heaplet} (s : Step w [] w' []) (o : Own w H) : Step w H w' H := Step.beside (H := []) (H' := []) (G := H) s o
theorem Step.keepCell {w w' : World} {G : Heaplet} (s : Step w [] w' G) {a : Addr} {v : Value} (h : w.cell? a = some v) : w'.cell? a = some v := by
  rw [World.cell?_of_block (w := w) (s.frame a.block (World.block_lt_of_cell? w _ h) (by simp [dom]))]; exact h
/-- A block laid behind another one. -/
theorem rdCells_new2 {w : World} {o : Obj} {c k m : Nat} {cs : Array Value} {T : TypeId} {f : Nat × Nat} (hl : cs.toList.length = m * k) (h1 : ∀ u ∈ cs.toList, u.oneCell' = true) :
    RdCells ((w.alloc o).alloc (.cells cs T f)) (.slice (some ⟨w.heap.size + 1, 0, none⟩) m c) m k cs.toList :=
  rdCells_block (by have := heap_alloc_new (w.alloc o) (.cells cs T f); simpa using this) hl h1
theorem step_put {w w' : World} {K A Hs : Heaplet} {E g n c : Nat} {xs : List Value} (s : Step w K w' (A ++ Hs)) (h : SlRep E 1 (some ⟨g, 0, none⟩) n c xs Hs) (i : Nat) (v : Value) :
    ∃ H', SlRep E 1 (some ⟨g, 0, none⟩) n c (xs.set i v) H' ∧ Step w K (w'.setCell ⟨g, i, none⟩ v) (A ++ H') := by
  obtain ⟨hl, ⟨h1, _⟩ | ⟨g', cur, e, rfl, h2, h3, h4, h5⟩⟩ := h
  · cases h1
  · cases e
    refine ⟨[(g, .cells (cur.setIfInBounds i v) E (0, 0))], ⟨by simpa using hl, .inr ⟨g, _, rfl, rfl, h2, h3, by simpa using h4, ?_⟩⟩, Step.store v s⟩
    rw [Array.toList_setIfInBounds, List.take_set, h5]
theorem step_putm {w w' : World} {K A Hs B : Heaplet} {E g n c : Nat} {xs : List Value} (s : Step w K w' (A ++ (Hs ++ B))) (h : SlRep E 1 (some ⟨g, 0, none⟩) n c xs Hs) (i : Nat) (v : Value) :
    ∃ H', SlRep E 1 (some ⟨g, 0, none⟩) n c (xs.set i v) H' ∧ Step w K (w'.setCell ⟨g, i, none⟩ v) (A ++ (H' ++ B)) := by
  obtain ⟨H', h1, h2⟩ := step_put (A := A ++ B) (s.perm (List.Perm.refl _) (by rw [List.append_assoc]; exact List.Perm.append_left _ List.perm_append_comm)) h i v
  exact ⟨H', h1, h2.perm (List.Perm.refl _) (by rw [List.append_assoc]; exact List.Perm.append_left _ List.perm_append_comm)⟩
theorem step_put1 {w w' : World} {K Hs B : Heaplet} {e : Nat × Obj} {E g n c : Nat} {xs : List Value} (s : Step w K w' (e :: (Hs ++ B))) (h : SlRep E 1 (some ⟨g, 0, none⟩) n c xs Hs) (i : Nat) (v : Value) :
    ∃ H', SlRep E 1 (some ⟨g, 0, none⟩) n c (xs.set i v) H' ∧ Step w K (w'.setCell ⟨g, i, none⟩ v) (e :: (H' ++ B)) := step_putm (A := [e]) s h i v
theorem SlRep.upto {E k : Nat} {a : Option Addr} {n c : Nat} {xs : List Value} {H : Heaplet} (h : SlRep E k a n c xs H) {i : Nat} (hi : i ≤ n) : SlRep E k a i c (xs.take (i * k)) H := by
  obtain ⟨hl, h⟩ := h
  refine ⟨by rw [List.length_take, hl, Nat.min_eq_left (Nat.mul_le_mul_right _ hi)], ?_⟩
  rcases h with ⟨rfl, rfl, rfl, rfl⟩ | ⟨g, cur, rfl, rfl, h2, h3, h4, h5⟩
  · exact .inl ⟨rfl, by omega, rfl, rfl⟩
  · refine .inr ⟨g, cur, rfl, rfl, by omega, h3, h4, ?_⟩
    rw [← h5, List.take_take, Nat.min_eq_left (Nat.mul_le_mul_right _ hi)]
theorem rdCells_newset {w : World} {a : Addr} {v : Value} {c k m : Nat} {cs : Array Value} {T : TypeId} {f : Nat × Nat} (hl : cs.toList.length = m * k) (h1 : ∀ u ∈ cs.toList, u.oneCell' = true) :
    RdCells ((w.setCell a v).alloc (.cells cs T f)) (.slice (some ⟨w.heap.size, 0, none⟩) m c) m k cs.toList :=
  rdCells_block (by have := heap_alloc_new (w.setCell a v) (.cells cs T f); rwa [size_setCell] at this) hl h1
theorem sl_some {E g n c : Nat} {xs : List Value} {Hs : Heaplet} (h : SlRep E 1 (some ⟨g, 0, none⟩) n c xs Hs) {w : World} (o : Own w Hs) {i : Nat} (hi : i < n) : ∃ v, w.cell? ⟨g, i, none⟩ = some v := by
  have hl := h.1
  obtain ⟨g', e, h1, _⟩ := slRep_at h o (i := i) (v := xs[i]'(by omega)) (List.getElem?_eq_getElem _)
  cases e
  exact ⟨_, by simpa using h1⟩
theorem frz_sl {E g n c : Nat} {xs : List Value} {Hs : Heaplet} (h : SlRep E 1 (some ⟨g, 0, none⟩) n c xs Hs) {w : World} (o : Own w Hs) (i : Nat) : w.frozen? ⟨g, i, none⟩ = false := by
  obtain ⟨hl, ⟨h1, _⟩ | ⟨g', cur, e, rfl, h2, h3, h4, h5⟩⟩ := h
  · cases h1
  · cases e; exact frz_of o.h0
/-- The same blocks hold something else. -/
theorem Step.recast {w w1 w2 : World} {K H H' : Heaplet} (s : Step w K w1 H) (hos : w2.os = w1.os) (ht : w2.tape = w1.tape) (hou : w2.output = w1.output) (hs : w2.heap.size = w1.heap.size)
    (hn : ∀ x, x ∉ dom H → w2.heap[x]? = w1.heap[x]?) (ho : Own w2 H') (hd : ∀ x ∈ dom H', x ∈ dom H) : Step w K w2 H' :=
  ⟨hos.trans s.os, ht.trans s.tape, hou.trans s.output, by rw [hs]; exact s.size, fun b hb hk => by
    rw [hn b (fun hx => (s.keys b hx).elim hk (by omega))]; exact s.frame b hb hk, ho, fun b hb => s.keys b (hd b hb)⟩
theorem heap_set_other {w : World} {b i x : Nat} (v : Value) (h : x ≠ b) : (w.setCell ⟨b, i, none⟩ v).heap[x]? = w.heap[x]? := Below.heap_setCell _ _ _ _ h
end Go.Proofs.Ytebmbfiiadffjaa
