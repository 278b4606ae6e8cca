/- What is owned, told as heaplets by their places. -/
import Derived.Test.YtebmbfiiadffjaaMore
import Derived.Test.YtebmbfiiadffjaaMap
import Derived.Deep.CutBlock
namespace Go.Proofs.Ytebmbfiiadffjaa
open Go.RowKit
/-- From w to W: what was K is the heaplets Hs now. -/
def Sp (w : World) (K : Heaplet) (W : World) (Hs : List Heaplet) : Prop := Step w K W Hs.flatten
theorem sp_split {α : Type} {Hs : List α} {i : Nat} {G : α} (h : Hs[i]? = some G) : Hs = Hs.take i ++ G :: Hs.drop (i + 1) := by
  obtain ⟨hi, rfl⟩ := List.getElem?_eq_some_iff.1 h
  rw [← List.drop_eq_getElem_cons hi, List.take_append_drop]
theorem sp_set {α : Type} {Hs : List α} {i : Nat} {G : α} (h : Hs[i]? = some G) (G' : α) : Hs.set i G' = Hs.take i ++ G' :: Hs.drop (i + 1) := by
  obtain ⟨hi, rfl⟩ := List.getElem?_eq_some_iff.1 h
  rw [List.set_eq_take_append_cons_drop, if_pos hi]
section
variable {w W w1 : World} {K G G' A B : Heaplet} {Hs Gs : List Heaplet}
theorem Sp.start (h : Own w K) : Sp w K w [K] := by unfold Sp; simpa using Step.refl h
theorem Sp.nil (w : World) : Sp w [] w [] := Step.refl (Own.nil w)
theorem Sp.nilk (k : Nat) (w : World) : Sp w [] w (List.replicate k []) := by unfold Sp; simpa using Step.refl (Own.nil w)
theorem Sp.of (s : Step w K W G) : Sp w K W [G] := by unfold Sp; simpa using s
theorem Sp.out (s : Sp w K W Hs) (h : Hs.flatten = G) : Step w K W G := h ▸ s
theorem Sp.perm (s : Sp w K W Hs) (h : Hs.flatten.Perm Gs.flatten) : Sp w K W Gs := Step.perm s (List.Perm.refl _) h
theorem Sp.mid (i : Nat) (s : Sp w K W Hs) (h : Hs[i]? = some G) : Step w K W ((Hs.take i).flatten ++ (G ++ (Hs.drop (i + 1)).flatten)) := by
  have := s
  unfold Sp at this
  rwa [sp_split h, List.flatten_append, List.flatten_cons] at this
theorem Sp.own (i : Nat) (s : Sp w K W Hs) (h : Hs[i]? = some G) : Own W G := (s.mid i h).own.right.left
theorem Sp.put (i : Nat) (s : Sp w K W Hs) (h : Hs[i]? = some G) (k : Step W G w1 G') : Sp w K w1 (Hs.set i G') := by
  have := Step.mid (s.mid i h) k
  unfold Sp
  rwa [sp_set h, List.flatten_append, List.flatten_cons]
theorem Sp.alloc (s : Sp w K W Hs) (o : Obj) : Sp w K (W.alloc o) (Hs ++ [[(W.heap.size, o)]]) := by
  unfold Sp
  refine (Step.alloc s o).perm (List.Perm.refl _) ?_
  rw [List.flatten_append]
  exact List.perm_append_comm (l₁ := [_])
theorem Sp.fresh (s : Sp w K W Hs) (k : Step W [] w1 G) : Sp w K w1 (Hs ++ [G]) := by
  unfold Sp
  rw [List.flatten_append]
  simpa using Step.call0 s k
theorem Sp.still (s : Sp w K W Hs) (k : Step W [] w1 []) : Sp w K w1 Hs := by
  unfold Sp
  simpa using Step.call0 s k
theorem Sp.junk (s : Sp w K W Hs) (k : Step W [] w1 G) : Sp w K w1 Hs := by
  unfold Sp
  exact (Step.call0 s k).forget
theorem Sp.drew (s : Sp w K W Hs) : Sp w K W.drew Hs := Step.drew s
theorem Sp.drewN (s : Sp w K W Hs) (n : Nat) : Sp w K (W.drewN n) Hs := Step.drewN s n
theorem Sp.forget (i : Nat) (s : Sp w K W Hs) (h : Hs[i]? = some G) : Sp w K W (Hs.set i []) := by
  unfold Sp
  rw [sp_set h, List.flatten_append, List.flatten_cons, List.nil_append]
  exact Step.forget (B := G) ((s.mid i h).perm (List.Perm.refl _) (by rw [List.append_assoc]; exact List.Perm.append_left _ List.perm_append_comm))
theorem Sp.store (i : Nat) {b j : Nat} {c : Array Value} {T : TypeId} {f : Nat × Nat} (s : Sp w K W Hs) (h : Hs[i]? = some [(b, .cells c T f)]) (v : Value) : Sp w K (W.setCell ⟨b, j, none⟩ v) (Hs.set i [(b, .cells (c.setIfInBounds j v) T f)]) := by
  unfold Sp
  rw [sp_set h, List.flatten_append, List.flatten_cons]
  exact Step.store v (s.mid i h)
/-- A store into the head of a heaplet. -/
theorem Sp.storeH (i : Nat) {b j : Nat} {c : Array Value} {T : TypeId} {f : Nat × Nat} (s : Sp w K W Hs) (h : Hs[i]? = some ((b, .cells c T f) :: B)) (v : Value) : Sp w K (W.setCell ⟨b, j, none⟩ v) (Hs.set i ((b, .cells (c.setIfInBounds j v) T f) :: B)) := by
  unfold Sp
  rw [sp_set h, List.flatten_append, List.flatten_cons]
  exact Step.store v (s.mid i h)
theorem Sp.split (i : Nat) (s : Sp w K W Hs) (h : Hs[i]? = some (A ++ B)) : Sp w K W (Hs.set i A ++ [B]) := by
  unfold Sp
  rw [List.flatten_append, sp_set h, List.flatten_append, List.flatten_cons]
  refine (s.mid i h).perm (List.Perm.refl _) ?_
  simp only [List.append_assoc, List.flatten_cons, List.flatten_nil, List.append_nil]
  exact List.Perm.append_left _ (List.Perm.append_left _ List.perm_append_comm)
theorem Sp.splitH (i : Nat) {e : Nat × Obj} (s : Sp w K W Hs) (h : Hs[i]? = some (e :: B)) : Sp w K W (Hs.set i [e] ++ [B]) := s.split i h
theorem Sp.one (i : Nat) {b : Nat} {o : Obj} (s : Sp w K W Hs) (h : Hs[i]? = some ((b, o) :: B)) : W.heap[b]? = some o := (s.own i h).head
theorem Sp.room (i : Nat) (s : Sp w K W Hs) (h : Hs[i]? = some (A ++ B)) (k : Step W A w1 G) : Sp w K w1 (Hs.set i (G ++ B)) := s.put i h (k.beside (s.own i h))
theorem Sp.roomR (i : Nat) (s : Sp w K W Hs) (h : Hs[i]? = some (A ++ B)) (k : Step W B w1 G) : Sp w K w1 (Hs.set i (A ++ G)) :=
  s.put i h (Step.callR (Step.refl (s.own i h)) k)
theorem Sp.gen {P : Program} {C : Code} {Q : Exit → Act → World → Prop} {a : Act} (s : Sp w K W Hs) (h : ∀ W', Sp w K W' Hs → C.wp P Q a W') : C.wp P Q a W := h W s
theorem Sp.genC {P : Program} {f : FuncId} {args : Array Value} {R : Ending → World → Prop} (s : Sp w K W Hs) (h : ∀ W', Sp w K W' Hs → Calls P f args W' R) : Calls P f args W R := h W s
theorem Sp.map (i : Nat) {r : Nat} {o : Obj} (o' : Obj) (s : Sp w K W Hs) (h : Hs[i]? = some [(r, o)]) : Sp w K (World.putObj W r o') (Hs.set i [(r, o')]) := by
  unfold Sp
  rw [sp_set h, List.flatten_append, List.flatten_cons]
  exact Step.putObj o' (s.mid i h)
theorem Sp.first (s : Sp w K W (G :: Hs)) : Step w K W G := by
  unfold Sp at s
  rw [List.flatten_cons] at s
  exact Step.forget s
theorem Sp.trans {Fs : List Heaplet} (s : Sp w K W [G]) (k : Sp W G w1 Fs) : Sp w K w1 Fs := by
  unfold Sp at s k ⊢
  exact Step.trans (by simpa using s) k
end
/-- What was not owned stays, whatever else is done. -/
theorem Step.keepOut {w w' : World} {H G : Heaplet} (s : Step w H w' G) {a : Addr} {v : Value} (h : w.cell? a = some v) (hn : a.block ∉ dom H) : w'.cell? a = some v := by
  rw [World.cell?_of_block (w := w) (s.frame a.block (World.block_lt_of_cell? w _ h) hn)]; exact h
theorem Step.of_alloc (w : World) (o : Obj) : Step w [] (w.alloc o) [(w.heap.size, o)] := (Step.refl (Own.nil w)).alloc o
end Go.Proofs.Ytebmbfiiadffjaa
