/- Heaplets: lists of blocks that belong together, and what a call does to them. Slices of records of one's own, k cells each. -/
import Derived.Test.YtdolbeonpkanpaaGreatDoorProg
import Derived.WalkKit
import Derived.Handy
import Derived.KernelRfl
import Derived.Deep.RegionHeld3
import Derived.Deep.AppendLies
import Derived.Deep.DeepCutAuto
import Derived.Deep.DrawnRows
import Derived.Deep.QuietTactic
import Derived.BigQuiet
import Derived.Deep.DeepFit
import Derived.Lib.Hide
import Derived.WalkSpells
import Derived.Maps.AppendAt
import Derived.Lib.SliceRun
import Derived.Deep.RegionLaw
set_option linter.unusedVariables false
set_option linter.unusedSimpArgs false
namespace Go.Proofs.YtdolbeonpkanpaaGreatDoor
open Go.RowKit

/-! ## Heaplets -/
abbrev Heaplet := List (Nat × Obj)
def dom (H : Heaplet) : List Nat := H.map Prod.fst
/-- The blocks of H lie in w as H says, each named once. -/
structure Own (w : World) (H : Heaplet) : Prop where
  has : ∀ e ∈ H, w.heap[e.1]? = some e.2
  nodup : (dom H).Nodup
/-- From w to w': what was H is H' now; other old blocks are as they were. -/
structure Step (w : World) (H : Heaplet) (w' : World) (H' : Heaplet) : Prop where
  os : w'.os = w.os
  tape : w'.tape = w.tape
  output : w'.output = w.output
  size : w.heap.size ≤ w'.heap.size
  frame : ∀ b, b < w.heap.size → b ∉ dom H → w'.heap[b]? = w.heap[b]?
  own : Own w' H'
  keys : ∀ b ∈ dom H', b ∈ dom H ∨ w.heap.size ≤ b

theorem dom_append (A B : Heaplet) : dom (A ++ B) = dom A ++ dom B := List.map_append
theorem mem_dom {H : Heaplet} {b : Nat} : b ∈ dom H ↔ ∃ o, (b, o) ∈ H := by simp [dom]
theorem heap_lt {w : World} {b : Nat} {o : Obj} (h : w.heap[b]? = some o) : b < w.heap.size := by
  rcases Nat.lt_or_ge b w.heap.size with h1 | h1
  · exact h1
  · rw [Array.getElem?_eq_none h1] at h; cases h
theorem Own.lt {w : World} {H : Heaplet} (h : Own w H) : ∀ b ∈ dom H, b < w.heap.size := by
  intro b hb; obtain ⟨o, ho⟩ := mem_dom.1 hb; exact heap_lt (h.has _ ho)
theorem Own.nil (w : World) : Own w [] := ⟨by simp, by simp [dom]⟩
theorem Own.perm {w : World} {A B : Heaplet} (h : Own w A) (p : A.Perm B) : Own w B :=
  ⟨fun e he => h.has e (p.mem_iff.2 he), (p.map Prod.fst).nodup_iff.1 h.nodup⟩
theorem Own.left {w : World} {A B : Heaplet} (h : Own w (A ++ B)) : Own w A :=
  ⟨fun e he => h.has e (List.mem_append_left _ he), by have := h.nodup; rw [dom_append] at this; exact (List.nodup_append.1 this).1⟩
theorem Own.right {w : World} {A B : Heaplet} (h : Own w (A ++ B)) : Own w B :=
  ⟨fun e he => h.has e (List.mem_append_right _ he), by have := h.nodup; rw [dom_append] at this; exact (List.nodup_append.1 this).2.1⟩
theorem Own.apart {w : World} {A B : Heaplet} (h : Own w (A ++ B)) : ∀ b ∈ dom A, b ∉ dom B := by
  have := h.nodup; rw [dom_append] at this
  intro b ha hb; exact (List.nodup_append.1 this).2.2 b ha b hb rfl
theorem Own.append {w : World} {A B : Heaplet} (hA : Own w A) (hB : Own w B) (d : ∀ b ∈ dom A, b ∉ dom B) : Own w (A ++ B) :=
  ⟨fun e he => (List.mem_append.1 he).elim (hA.has e) (hB.has e), by
    rw [dom_append]; exact List.nodup_append.2 ⟨hA.nodup, hB.nodup, fun a ha b hb e => d a ha (e ▸ hb)⟩⟩
theorem Own.cons {w : World} {b : Nat} {o : Obj} {H : Heaplet} (hb : w.heap[b]? = some o) (hH : Own w H) (d : b ∉ dom H) : Own w ((b, o) :: H) :=
  Own.append (A := [(b, o)]) ⟨by simpa using hb, by simp [dom]⟩ hH (by simpa [dom] using d)
theorem Own.one {w : World} {b : Nat} {o : Obj} (hb : w.heap[b]? = some o) : Own w [(b, o)] := Own.cons hb (Own.nil w) (by simp [dom])
theorem Own.head {w : World} {b : Nat} {o : Obj} {H : Heaplet} (h : Own w ((b, o) :: H)) : w.heap[b]? = some o := h.has (b, o) (List.mem_cons_self ..)
theorem Own.tail {w : World} {e : Nat × Obj} {H : Heaplet} (h : Own w (e :: H)) : Own w H := Own.right (A := [e]) h
theorem Own.eq {w w' : World} {H : Heaplet} (h : Own w H) (e : ∀ b ∈ dom H, w'.heap[b]? = w.heap[b]?) : Own w' H :=
  ⟨fun x hx => by rw [e x.1 (List.mem_map.2 ⟨x, hx, rfl⟩)]; exact h.has x hx, h.nodup⟩

theorem Own.drew {w : World} {H : Heaplet} (h : Own w H) : Own w.drew H := h.eq fun _ _ => rfl
theorem Step.refl {w : World} {H : Heaplet} (h : Own w H) : Step w H w H := ⟨rfl, rfl, rfl, Nat.le_refl _, fun _ _ _ => rfl, h, fun _ hb => .inl hb⟩
theorem Step.trans {a b c : World} {A B C : Heaplet} (h : Step a A b B) (k : Step b B c C) : Step a A c C :=
  ⟨k.os.trans h.os, k.tape.trans h.tape, k.output.trans h.output, Nat.le_trans h.size k.size,
   fun x hx hA => by
     have hB : x ∉ dom B := fun hB => (h.keys x hB).elim hA (by omega)
     rw [k.frame x (Nat.lt_of_lt_of_le hx h.size) hB, h.frame x hx hA],
   k.own, fun x hx => (k.keys x hx).elim (h.keys x) (fun g => .inr (Nat.le_trans h.size g))⟩
/-- What lies beside H stays. -/
theorem Step.beside {w w' : World} {H H' G : Heaplet} (h : Step w H w' H') (o : Own w (H ++ G)) : Step w (H ++ G) w' (H' ++ G) :=
  ⟨h.os, h.tape, h.output, h.size, fun b hb hn => h.frame b hb (fun x => hn (by rw [dom_append]; exact List.mem_append_left _ x)),
   Own.append h.own (o.right.eq fun b hb => h.frame b (o.right.lt b hb) (fun x => o.apart b x hb))
     (fun b hb hG => (h.keys b hb).elim (fun x => o.apart b x hG) (fun g => by have := o.right.lt b hG; omega)),
   fun b hb => by
     rw [dom_append] at hb ⊢
     exact (List.mem_append.1 hb).elim (fun x => (h.keys b x).elim (fun y => .inl (List.mem_append_left _ y)) .inr) (fun x => .inl (List.mem_append_right _ x))⟩
theorem Step.perm {w w' : World} {A B A' B' : Heaplet} (h : Step w A w' A') (p : A.Perm B) (q : A'.Perm B') : Step w B w' B' :=
  ⟨h.os, h.tape, h.output, h.size, fun b hb hn => h.frame b hb (fun x => hn ((p.map Prod.fst).mem_iff.1 x)), h.own.perm q,
   fun b hb => (h.keys b ((q.map Prod.fst).mem_iff.2 hb)).elim (fun x => .inl ((p.map Prod.fst).mem_iff.1 x)) .inr⟩
/-- A part of what is owned is given up. -/
theorem Step.forget {w w' : World} {H A B : Heaplet} (h : Step w H w' (A ++ B)) : Step w H w' A :=
  ⟨h.os, h.tape, h.output, h.size, h.frame, h.own.left, fun b hb => h.keys b (by rw [dom_append]; exact List.mem_append_left _ hb)⟩
theorem Step.below {w w' : World} {H H' : Heaplet} (h : Step w H w' H') {B : Nat} (hB : ∀ b ∈ dom H, B ≤ b) (hs : B ≤ w.heap.size) : Below B w w' :=
  ⟨h.os, h.tape, h.output, h.size, fun b hb => h.frame b (by omega) (fun x => by have := hB b x; omega)⟩
theorem Step.from {w w' : World} {H H' : Heaplet} (h : Step w H w' H') {B : Nat} (hB : ∀ b ∈ dom H, B ≤ b) (hs : B ≤ w.heap.size) : ∀ b ∈ dom H', B ≤ b :=
  fun b hb => (h.keys b hb).elim (hB b) (by omega)
theorem Step.of_below {w w' : World} (h : Below w.heap.size w w') : Step w [] w' [] :=
  ⟨h.os, h.tape, h.output, h.size, fun b hb _ => h.block b hb, Own.nil _, by simp [dom]⟩
theorem Step.drew {w w' : World} {H H' : Heaplet} (h : Step w H w' H') : Step w H w'.drew H' :=
  ⟨h.os, h.tape, h.output, h.size, h.frame, h.own.eq fun _ _ => rfl, h.keys⟩
theorem Step.alloc {w w' : World} {H H' : Heaplet} (h : Step w H w' H') (o : Obj) : Step w H (w'.alloc o) ((w'.heap.size, o) :: H') :=
  ⟨h.os, h.tape, h.output, Nat.le_trans h.size (by simp), fun b hb hn => by rw [Below.heap_alloc _ _ _ (Nat.lt_of_lt_of_le hb h.size)]; exact h.frame b hb hn,
   Own.cons (heap_alloc_new w' o) (h.own.eq fun b hb => Below.heap_alloc _ _ _ (h.own.lt b hb)) (fun hb => Nat.lt_irrefl _ (h.own.lt _ hb)),
   fun b hb => by
     rcases List.mem_cons.1 (show b ∈ w'.heap.size :: dom H' from hb) with rfl | x
     · exact .inr h.size
     · exact h.keys b x⟩
theorem Step.tail {w w' : World} {H H' : Heaplet} {e : Nat × Obj} (h : Step w H w' (e :: H')) : Step w H w' H' :=
  ⟨h.os, h.tape, h.output, h.size, h.frame, h.own.tail, fun b hb => h.keys b (List.mem_cons_of_mem _ hb)⟩
/-- A call in the midst, which has G beside what is owned. -/
theorem Step.call {w W w1 : World} {H G G' R : Heaplet} (s : Step w H W (G ++ R)) (k : Step W G w1 G') : Step w H w1 (G' ++ R) := s.trans (k.beside s.own)
theorem Step.mid {w W w1 : World} {H A G G' B : Heaplet} (s : Step w H W (A ++ (G ++ B))) (k : Step W G w1 G') : Step w H w1 (A ++ (G' ++ B)) :=
  have p : ∀ X : Heaplet, (X ++ (A ++ B)).Perm (A ++ (X ++ B)) := fun X => by rw [← List.append_assoc, ← List.append_assoc]; exact List.perm_append_comm.append_right _
  (Step.call (G := G) (s.perm (List.Perm.refl _) (p G).symm) k).perm (List.Perm.refl _) (p G')
theorem Step.call0 {w W w1 : World} {H G' R : Heaplet} (s : Step w H W R) (k : Step W [] w1 G') : Step w H w1 (R ++ G') := (Step.call (G := []) s k).perm (List.Perm.refl _) List.perm_append_comm
theorem Step.callR {w W w1 : World} {H G G' R : Heaplet} (s : Step w H W (R ++ G)) (k : Step W G w1 G') : Step w H w1 (R ++ G') :=
  (Step.call (s.perm (List.Perm.refl _) List.perm_append_comm) k).perm (List.Perm.refl _) List.perm_append_comm
/-- A block that is made and forgotten. -/
theorem Step.junk {w w' : World} {H H' : Heaplet} (h : Step w H w' H') (o : Obj) : Step w H (w'.alloc o) H' := (h.alloc o).tail

/-! ## Slices of one's own -/
/-- '.slice a n c' is a slice of n elements of type E (k cells each) with the cells xs; H is its array. -/
def SlRep (E k : Nat) (a : Option Addr) (n c : Nat) (xs : List Value) (H : Heaplet) : Prop :=
  xs.length = n * k ∧ ((a = none ∧ n = 0 ∧ c = 0 ∧ H = []) ∨
    ∃ g cur, a = some ⟨g, 0, none⟩ ∧ H = [(g, .cells cur E (0, 0))] ∧ n ≤ c ∧ c ≤ maxLen ∧ cur.size = c * k ∧ cur.toList.take (n * k) = xs)
theorem SlRep.owns {E k : Nat} {a : Option Addr} {n c : Nat} {xs : List Value} {H : Heaplet} (h : SlRep E k a n c xs H) {w : World} (o : Own w H) {B : Nat} (hB : ∀ b ∈ dom H, B ≤ b) : w.ownsRow B E k (.slice a n c) n xs := by
  obtain ⟨hl, h⟩ := h
  refine ⟨hl, ?_⟩
  rcases h with ⟨rfl, rfl, rfl, _⟩ | ⟨g, cur, rfl, rfl, h3, h4, h5, h6⟩
  · exact .inl ⟨rfl, rfl⟩
  · exact .inr ⟨g, c, cur, rfl, hB g (by simp [dom]), o.head, h3, h4, h5, h6⟩
/-- The slice's block, out of the row. -/
theorem slRep_of_owns {E k : Nat} {v : Value} {n : Nat} {xs : List Value} {w : World} {B : Nat} (h : w.ownsRow B E k v n xs) :
    ∃ a c H, v = .slice a n c ∧ SlRep E k a n c xs H ∧ Own w H ∧ (∀ b ∈ dom H, v.ownBlock = some b ∧ B ≤ b) := by
  obtain ⟨hl, h⟩ := h
  rcases h with ⟨rfl, rfl⟩ | ⟨g, cap, cur, rfl, hg, hb, h3, h4, h5, h6⟩
  · exact ⟨none, 0, [], rfl, ⟨hl, .inl ⟨rfl, rfl, rfl, rfl⟩⟩, Own.nil _, by simp [dom]⟩
  · refine ⟨_, cap, [(g, .cells cur E (0, 0))], rfl, ⟨hl, .inr ⟨g, cur, rfl, rfl, h3, h4, h5, h6⟩⟩, Own.one hb, ?_⟩
    intro b hb'; simp [dom] at hb'; subst hb'; exact ⟨rfl, hg⟩
theorem SlRep.nil (E k : Nat) : SlRep E k none 0 0 [] [] := ⟨by simp, .inl ⟨rfl, rfl, rfl, rfl⟩⟩
theorem SlRep.made (E k g : Nat) : SlRep E k (some ⟨g, 0, none⟩) 0 0 [] [(g, .cells #[] E (0, 0))] := ⟨by simp, .inr ⟨g, #[], rfl, rfl, Nat.le_refl _, Nat.zero_le _, by simp, by simp⟩⟩

/-! ## Bytes that are read -/
abbrev u8 (c : UInt8) : Value := .int .u8 c.toNat
/-- '.slice a n c' reads as the bytes l in w. -/
def RdBytes (w : World) (a : Option Addr) (n c : Nat) (l : List UInt8) : Prop :=
  n = l.length ∧ ((a = none ∧ c = 0 ∧ l = []) ∨ ∃ ad, a = some ad ∧ n ≤ c ∧ c ≤ maxLen ∧ ∀ i x, l[i]? = some x → w.cell? (ad.add i) = some (u8 x))
theorem add_block (a : Addr) (i : Nat) : (a.add i).block = a.block := by cases i <;> simp [Addr.add]
theorem RdBytes.eq {w w' : World} {a : Option Addr} {n c : Nat} {l : List UInt8} (h : RdBytes w a n c l) (he : ∀ x, a = some x → x.block < w.heap.size → w'.heap[x.block]? = w.heap[x.block]?) : RdBytes w' a n c l := by
  obtain ⟨rfl, h⟩ := h
  refine ⟨rfl, ?_⟩
  rcases h with h | ⟨ad, rfl, hlc, hcm, hc⟩
  · exact .inl h
  · refine .inr ⟨ad, rfl, hlc, hcm, fun i x hi => ?_⟩
    have h1 := hc i x hi
    have h2 := World.block_lt_of_cell? w _ h1
    rw [add_block] at h2
    rw [World.cell?_of_block (w := w) (by rw [add_block]; exact he ad rfl h2)]; exact h1
theorem RdBytes.alloc {w : World} {a : Option Addr} {n c : Nat} {l : List UInt8} (h : RdBytes w a n c l) (o : Obj) : RdBytes (w.alloc o) a n c l :=
  h.eq fun x _ hx => Below.heap_alloc _ _ _ hx
theorem RdBytes.drew {w : World} {a : Option Addr} {n c : Nat} {l : List UInt8} (h : RdBytes w a n c l) : RdBytes w.drew a n c l := h.eq fun _ _ _ => rfl
theorem RdBytes.later {w w' : World} {a : Option Addr} {n c : Nat} {l : List UInt8} (h : RdBytes w a n c l) {H H' : Heaplet} (s : Step w H w' H') (hn : ∀ x, a = some x → x.block ∉ dom H) : RdBytes w' a n c l :=
  h.eq fun x hx hlt => s.frame _ hlt (hn x hx)
/-- Of bytes of which there are some, the place. -/
theorem RdBytes.place {w : World} {a : Option Addr} {n c : Nat} {l : List UInt8} (h : RdBytes w a n c l) (hl : l ≠ []) : ∃ b off, a = some ⟨b, off, none⟩ ∧ n ≤ c ∧ c ≤ maxLen ∧ ∀ i (hi : i < l.length), w.cell? ⟨b, off + i, none⟩ = some (u8 l[i]) := by
  obtain ⟨rfl, ⟨_, _, h⟩ | ⟨⟨b, off, spot⟩, rfl, hlc, hcm, hc⟩⟩ := h
  · exact absurd h hl
  · cases l with
    | nil => exact absurd rfl hl
    | cons x l =>
      have h0 := hc 0 x rfl
      cases spot with
      | none =>
        refine ⟨b, off, rfl, hlc, hcm, fun i hi => ?_⟩
        have := hc i _ (List.getElem?_eq_getElem hi)
        rwa [Addr.add_lit] at this
      | some s => rw [Addr.add_zero'] at h0; simp [World.cell?] at h0; split at h0 <;> simp_all

/-! ## Cells of blocks -/
theorem cell_of {w : World} {b i : Nat} {c : Array Value} {T : TypeId} {f : Nat × Nat} {v : Value} (h : w.heap[b]? = some (.cells c T f)) (hi : c[i]? = some v) : w.cell? ⟨b, i, none⟩ = some v := by
  simp [World.cell?, h, hi]
theorem frz_of {w : World} {b i : Nat} {c : Array Value} {T : TypeId} (h : w.heap[b]? = some (.cells c T (0, 0))) : w.frozen? ⟨b, i, none⟩ = false := by
  simp [World.frozen?, h]
theorem cells1 {w : World} {b : Nat} {T : TypeId} {f : Nat × Nat} {v0 : Value} (h : w.heap[b]? = some (.cells #[v0] T f)) : w.cell? ⟨b, 0, none⟩ = some v0 := cell_of h rfl
theorem cells2 {w : World} {b : Nat} {T : TypeId} {f : Nat × Nat} {v0 v1 : Value} (h : w.heap[b]? = some (.cells #[v0, v1] T f)) : w.cell? ⟨b, 0, none⟩ = some v0 ∧ w.cell? ⟨b, 1, none⟩ = some v1 := ⟨cell_of h rfl, cell_of h rfl⟩
theorem cells3 {w : World} {b : Nat} {T : TypeId} {f : Nat × Nat} {v0 v1 v2 : Value} (h : w.heap[b]? = some (.cells #[v0, v1, v2] T f)) : w.cell? ⟨b, 0, none⟩ = some v0 ∧ w.cell? ⟨b, 1, none⟩ = some v1 ∧ w.cell? ⟨b, 2, none⟩ = some v2 := ⟨cell_of h rfl, cell_of h rfl, cell_of h rfl⟩
theorem cells4 {w : World} {b : Nat} {T : TypeId} {f : Nat × Nat} {v0 v1 v2 v3 : Value} (h : w.heap[b]? = some (.cells #[v0, v1, v2, v3] T f)) : w.cell? ⟨b, 0, none⟩ = some v0 ∧ w.cell? ⟨b, 1, none⟩ = some v1 ∧ w.cell? ⟨b, 2, none⟩ = some v2 ∧ w.cell? ⟨b, 3, none⟩ = some v3 := ⟨cell_of h rfl, cell_of h rfl, cell_of h rfl, cell_of h rfl⟩
theorem heap_set {w : World} {b i : Nat} {c : Array Value} {T : TypeId} {f : Nat × Nat} (v : Value) (h : w.heap[b]? = some (.cells c T f)) :
    (w.setCell ⟨b, i, none⟩ v).heap[b]? = some (.cells (c.setIfInBounds i v) T f) := by
  simp [World.setCell, Array.getElem?_modify, h]
theorem Step.store {w w' : World} {H A B : Heaplet} {b i : Nat} {c : Array Value} {T : TypeId} {f : Nat × Nat} (v : Value) (h : Step w H w' (A ++ (b, .cells c T f) :: B)) :
    Step w H (w'.setCell ⟨b, i, none⟩ v) (A ++ (b, .cells (c.setIfInBounds i v) T f) :: B) := by
  have hk : dom (A ++ (b, Obj.cells (c.setIfInBounds i v) T f) :: B) = dom (A ++ (b, Obj.cells c T f) :: B) := by simp [dom]
  have hnd := h.own.nodup
  have hb : w'.heap[b]? = some (.cells c T f) := h.own.has (b, .cells c T f) (by simp)
  refine ⟨h.os, h.tape, h.output, Nat.le_trans h.size (by simp [World.setCell]), fun x hx hn => ?_, ⟨fun e he => ?_, hk ▸ hnd⟩, fun x hx => h.keys x (hk ▸ hx)⟩
  · by_cases e : x = b
    · subst e
      rcases h.keys x (by simp [dom]) with g | g
      · exact absurd g hn
      · omega
    · rw [Below.heap_setCell _ _ _ _ e]; exact h.frame x hx hn
  · rcases List.mem_append.1 he with g | g
    · have : e.1 ≠ b := fun x => by
        have hd := (List.nodup_append.1 (by rw [dom_append] at hnd; exact hnd)).2.2
        exact hd e.1 (List.mem_map.2 ⟨e, g, rfl⟩) b (by simp [dom]) x
      rw [Below.heap_setCell _ _ _ _ this]; exact h.own.has e (List.mem_append_left _ g)
    · rcases List.mem_cons.1 g with rfl | g
      · exact heap_set v hb
      · have : e.1 ≠ b := fun x => by
          rw [dom_append] at hnd
          have hd := (List.nodup_append.1 hnd).2.1
          simp only [dom, List.map_cons, List.nodup_cons] at hd
          exact hd.1 (x ▸ List.mem_map.2 ⟨e, g, rfl⟩)
        rw [Below.heap_setCell _ _ _ _ this]; exact h.own.has e (List.mem_append_right _ (List.mem_cons_of_mem _ g))
theorem Step.store0 {w w' : World} {H B : Heaplet} {b i : Nat} {c : Array Value} {T : TypeId} {f : Nat × Nat} (v : Value) (h : Step w H w' ((b, .cells c T f) :: B)) :
    Step w H (w'.setCell ⟨b, i, none⟩ v) ((b, .cells (c.setIfInBounds i v) T f) :: B) := Step.store (A := []) v h

theorem Own.h0 {w : World} {b : Nat} {o : Obj} {B : Heaplet} (h : Own w ((b, o) :: B)) : w.heap[b]? = some o := h.head
theorem Own.h1 {w : World} {b : Nat} {o : Obj} {e : Nat × Obj} {B : Heaplet} (h : Own w (e :: (b, o) :: B)) : w.heap[b]? = some o := h.tail.head
theorem Own.h2 {w : World} {b : Nat} {o : Obj} {e e' : Nat × Obj} {B : Heaplet} (h : Own w (e :: e' :: (b, o) :: B)) : w.heap[b]? = some o := h.tail.tail.head
theorem Own.h3 {w : World} {b : Nat} {o : Obj} {e e' e'' : Nat × Obj} {B : Heaplet} (h : Own w (e :: e' :: e'' :: (b, o) :: B)) : w.heap[b]? = some o := h.tail.tail.tail.head

/-- The world at hand under one name. -/
theorem Step.gen {P : Program} {C : Code} {Q : Exit → Act → World → Prop} {a : Act} {w W : World} {H H' : Heaplet} (s : Step w H W H') (h : ∀ W', Step w H W' H' → C.wp P Q a W') : C.wp P Q a W := h W s
theorem Step.genC {P : Program} {f : FuncId} {args : Array Value} {R : Ending → World → Prop} {w W : World} {H H' : Heaplet} (s : Step w H W H') (h : ∀ W', Step w H W' H' → Calls P f args W' R) : Calls P f args W R := h W s

/-! ## append -/
/-- What is to be known of a slice type: its elements' type, their cells, bytes and zero. -/
structure SlTy (P : Program) (t e k bytes : Nat) (z : Value) : Prop where
  under : P.underlying t = some (.slice e)
  info : (P.info? e).map (fun i => (i.zero, i.size, i.bytes)) = some (some z, k, bytes)
  cells : z.cells.size = k
  pos : 0 < k
/-- v reads as m elements of k cells each, all of them news. -/
def RdCells (w : World) (v : Value) (m k : Nat) (news : List Value) : Prop :=
  news.length = m * k ∧ (∀ u ∈ news, u.oneCell' = true) ∧ ((v = .slice none 0 0 ∧ m = 0) ∨ ∃ ad c, v = .slice (some ad) m c ∧ ∀ j u, news[j]? = some u → w.cell? (ad.add j) = some u)
theorem rdCells_block {w : World} {b c k m : Nat} {cs : Array Value} {T : TypeId} {f : Nat × Nat} (h : w.heap[b]? = some (.cells cs T f)) (hl : cs.toList.length = m * k) (h1 : ∀ u ∈ cs.toList, u.oneCell' = true) :
    RdCells w (.slice (some ⟨b, 0, none⟩) m c) m k cs.toList :=
  ⟨hl, h1, .inr ⟨_, c, rfl, World.news_of_block h⟩⟩

section
variable {P : Program}
theorem run_app_none (w : World) {t e k bytes : Nat} {z : Value} (S : SlTy P t e k bytes z) (ty : TypeId) {b : Option Addr} {n cp : Nat} {xs : List Value} {H : Heaplet} (hv : SlRep e k b n cp xs H) (hw : Own w H) :
    (Builtin.append_ #[t, t] ty #[.slice b n cp, .slice none 0 0]).run P w = .ok (.slice b n cp) w := by
  obtain ⟨i0, hi, hz0, hz1, hz2⟩ := info_parts S.info
  have hinfo := run_sizeOf (w := w) hi
  obtain ⟨hl, hv⟩ := hv
  rcases hv with ⟨rfl, rfl, rfl, rfl⟩ | ⟨g, cur, rfl, rfl, h1, h2, h3, h4⟩
  · simp [Builtin.append_, run_underlying S.under, hinfo, Builtin.lenOf, Builtin.firstCells]
  · simp [Builtin.append_, run_underlying S.under, hinfo, Builtin.lenOf, Builtin.firstCells, h1, storeCells]
theorem run_app (w : World) {t e k bytes : Nat} {z : Value} (S : SlTy P t e k bytes z) (ty : TypeId)
    {b : Option Addr} {n cp : Nat} {xv : Value} {m : Nat} {xs news : List Value} {H : Heaplet} (hv : SlRep e k b n cp xs H) (hw : Own w H) (hn : RdCells w xv m k news)
    (h63 : n + m ≤ maxLen) (hbytes : (n + m) * bytes ≤ 140737488355328) :
    ∃ b' cp' w' H', (Builtin.append_ #[t, t] ty #[.slice b n cp, xv]).run P w = .ok (.slice b' (n + m) cp') w' ∧ SlRep e k b' (n + m) cp' (xs ++ news) H' ∧ Step w H w' H' := by
  obtain ⟨hl, h1, ⟨rfl, rfl⟩ | ⟨ad, c, rfl, hc⟩⟩ := hn
  · have : news = [] := by simpa using hl
    subst this
    exact ⟨b, cp, w, H, run_app_none w S ty hv hw, by simpa using hv, Step.refl hw⟩
  obtain ⟨i0, hi, hz0, hz1, hz2⟩ := info_parts S.info
  obtain ⟨v', w', hr, hown, hg, hnil, hat⟩ := run_append_own_at (P := P) w 0 t ty e i0 z k bytes S.under hi hz0 hz1 hz2 S.cells S.pos (.slice b n cp) n xs (hv.owns hw (fun _ _ => Nat.zero_le _)) ad m c news hl hc h1 h63 hbytes (Nat.zero_le _)
  obtain ⟨b', cp', H', rfl, hr', ho', hk⟩ := slRep_of_owns hown
  have hvH : ∀ x, (Value.slice b n cp).ownBlock = some x → x ∈ dom H := by
    obtain ⟨_, h2⟩ := hv
    rcases h2 with ⟨rfl, _, _⟩ | ⟨g, cur, rfl, rfl, _⟩
    · intro b e; cases e
    · intro b e; cases e; simp [dom]
  refine ⟨b', cp', w', H', hr, hr', ⟨hg.os, hg.tape, hg.output, hg.size, fun b hb hn => hg.block b hb (fun e => hn (hvH b e.symm)), ho', fun b hb => ?_⟩⟩
  have hb' := (hk b hb).1
  rcases hat with e | e
  · exact .inl (hvH b (e ▸ hb'))
  · rw [e] at hb'; cases hb'; exact .inr (Nat.le_refl _)
theorem wp_app {o : Oper} {a : Act} {K : Act → World → Prop} {Q : Exit → Act → World → Prop} {w : World} {t e k bytes : Nat} {z : Value} (S : SlTy P t e k bytes z) (s x : Operand)
    (ho : o.op = .call { callee := .builtin .append, args := #[s, x], argTypes := #[t, t] })
    {b : Option Addr} {n cp : Nat} {xv : Value} {m : Nat} {xs news : List Value} {H : Heaplet} (hs : a.eval s = .slice b n cp) (hx : a.eval x = xv) (hv : SlRep e k b n cp xs H) (hw : Own w H) (hn : RdCells w xv m k news)
    (h63 : n + m ≤ maxLen) (hbytes : (n + m) * bytes ≤ 140737488355328)
    (h : ∀ b' cp' w' H', SlRep e k b' (n + m) cp' (xs ++ news) H' → Step w H w' H' → K (a.put o.dst (.slice b' (n + m) cp')) w') : o.wp P a w K Q := by
  obtain ⟨b', cp', w', H', hr, h1, h2⟩ := run_app w S o.type hv hw hn h63 hbytes
  unfold Oper.wp execOp
  simp only [ho, resolve, invoke, builtin, Sem.run_bind, Sem.run_pure, Result.andThen_ok, List.map_toArray, List.map_cons, List.map_nil, hs, hx, hr]
  exact h b' cp' w' H' h1 h2
theorem wpList_app {ops : Array Oper} {rest : List Oper} {o : Oper} {a : Act} {Q : Exit → Act → World → Prop} {w : World} (hgd : o.guard = none) {t e k bytes : Nat} {z : Value} (S : SlTy P t e k bytes z) (s x : Operand)
    (ho : o.op = .call { callee := .builtin .append, args := #[s, x], argTypes := #[t, t] })
    {b : Option Addr} {n cp : Nat} {xv : Value} {m : Nat} {xs news : List Value} {H : Heaplet} (hs : a.eval s = .slice b n cp) (hx : a.eval x = xv) (hv : SlRep e k b n cp xs H) (hw : Own w H) (hn : RdCells w xv m k news)
    (h63 : n + m ≤ maxLen) (hbytes : (n + m) * bytes ≤ 140737488355328)
    (h : ∀ b' cp' w' H', SlRep e k b' (n + m) cp' (xs ++ news) H' → Step w H w' H' → wpList P ops Q rest (a.put o.dst (.slice b' (n + m) cp')) w') : wpList P ops Q (o :: rest) a w :=
  wpList_plain hgd fun _ hK => wp_app S s x ho hs hx hv hw hn h63 hbytes fun b' cp' w' H' h2 h3 => hK _ _ (h b' cp' w' H' h2 h3)
theorem step_app {ops : Array Oper} {o : Oper} {a : Act} {K : Act → World → Prop} {Q : Exit → Act → World → Prop} {E : Prop} {w : World} (hgd : o.guard = none) {t e k bytes : Nat} {z : Value} (S : SlTy P t e k bytes z) (s x : Operand)
    (ho : o.op = .call { callee := .builtin .append, args := #[s, x], argTypes := #[t, t] })
    {b : Option Addr} {n cp : Nat} {xv : Value} {m : Nat} {xs news : List Value} {H : Heaplet} (hs : a.eval s = .slice b n cp) (hx : a.eval x = xv) (hv : SlRep e k b n cp xs H) (hw : Own w H) (hn : RdCells w xv m k news)
    (h63 : n + m ≤ maxLen) (hbytes : (n + m) * bytes ≤ 140737488355328)
    (h : ∀ b' cp' w' H', SlRep e k b' (n + m) cp' (xs ++ news) H' → Step w H w' H' → K (a.put o.dst (.slice b' (n + m) cp')) w') :
    if Region.wanted o (yielded ops a.tmps) = true then Oper.wp P o a w K Q else E := by
  have hw' : Region.wanted o (yielded ops a.tmps) = true := by simp [Region.wanted, hgd]
  rw [if_pos hw']
  exact wp_app S s x ho hs hx hv hw hn h63 hbytes h
end
theorem rdBytes_cells {w : World} {a : Option Addr} {n c : Nat} {l : List UInt8} (h : RdBytes w a n c l) : RdCells w (.slice a n c) n 1 (l.map u8) := by
  obtain ⟨rfl, h⟩ := h
  refine ⟨by simp, fun u hu => by obtain ⟨c, _, rfl⟩ := List.mem_map.1 hu; rfl, ?_⟩
  rcases h with ⟨rfl, rfl, rfl⟩ | ⟨ad, rfl, hlc, hcm, hc⟩
  · exact .inl ⟨rfl, rfl⟩
  · refine .inr ⟨_, c, rfl, fun j u hu => ?_⟩
    rw [List.getElem?_map] at hu
    obtain ⟨x, hc', rfl⟩ := Option.map_eq_some_iff.1 hu
    exact hc j x hc'
theorem SlRep.rdBytes {a : Option Addr} {n c E : Nat} {l : List UInt8} {H : Heaplet} (h : SlRep E 1 a n c (l.map u8) H) {w : World} (hw : Own w H) : RdBytes w a n c l := by
  obtain ⟨hl, h⟩ := h
  refine ⟨by simpa using hl.symm, ?_⟩
  rcases h with ⟨rfl, rfl, rfl, rfl⟩ | ⟨g, cur, rfl, rfl, h3, h4, h5, h6⟩
  · exact .inl ⟨rfl, rfl, by simpa using hl⟩
  · refine .inr ⟨_, rfl, h3, h4, fun i x hi => ?_⟩
    rw [Addr.add_lit]
    refine cell_of hw.head ?_
    have : (cur.toList.take (n * 1))[i]? = some (u8 x) := by rw [h6]; simp [hi]
    rw [List.getElem?_take] at this
    split at this
    · simpa using this
    · cases this
end Go.Proofs.YtdolbeonpkanpaaGreatDoor
namespace Go.Proofs.YtdolbeonpkanpaaGreatDoor
open Go.RowKit

section
variable {α : Type} {f : α → List Value} {k : Nat}
theorem flat_len (hf : ∀ x, (f x).length = k) (l : List α) : (l.flatMap f).length = l.length * k := by
  induction l with
  | nil => simp
  | cons x l ih => rw [List.flatMap_cons, List.length_append, ih, hf, List.length_cons, Nat.succ_mul]; omega
theorem flat_get (hf : ∀ x, (f x).length = k) (l : List α) {i j : Nat} {x : α} (hi : l[i]? = some x) (hj : j < k) : (l.flatMap f)[i * k + j]? = (f x)[j]? := by
  induction l generalizing i with
  | nil => simp at hi
  | cons y l ih =>
    rw [List.flatMap_cons]
    cases i with
    | zero =>
      simp at hi; subst hi
      rw [Nat.zero_mul, Nat.zero_add, List.getElem?_append_left (by rw [hf]; exact hj)]
    | succ i =>
      rw [List.getElem?_append_right (by rw [hf, Nat.succ_mul]; omega), hf, show (i + 1) * k + j - k = i * k + j by rw [Nat.succ_mul]; omega]
      exact ih (by simpa using hi)
theorem flat_take (hf : ∀ x, (f x).length = k) (l : List α) (i : Nat) : (l.flatMap f).take (i * k) = (l.take i).flatMap f := by
  induction l generalizing i with
  | nil => simp
  | cons y l ih =>
    cases i with
    | zero => simp
    | succ i =>
      rw [List.flatMap_cons, List.take_succ_cons, List.flatMap_cons, List.take_append, hf, List.take_of_length_le (by rw [hf, Nat.succ_mul]; omega), show (i + 1) * k - k = i * k by rw [Nat.succ_mul]; omega, ih]
theorem flat_drop (hf : ∀ x, (f x).length = k) (l : List α) (i : Nat) : (l.flatMap f).drop (i * k) = (l.drop i).flatMap f := by
  induction l generalizing i with
  | nil => simp
  | cons y l ih =>
    cases i with
    | zero => simp
    | succ i =>
      rw [List.flatMap_cons, List.drop_succ_cons, List.drop_append, hf, List.drop_eq_nil_of_le (by rw [hf, Nat.succ_mul]; omega), show (i + 1) * k - k = i * k by rw [Nat.succ_mul]; omega, ih, List.nil_append]
theorem flat_set (hf : ∀ x, (f x).length = k) (l : List α) {i j : Nat} {x x' : α} {v : Value} (hi : l[i]? = some x) (hj : j < k) (hx : f x' = (f x).set j v) : (l.flatMap f).set (i * k + j) v = (l.set i x').flatMap f := by
  induction l generalizing i with
  | nil => simp at hi
  | cons y l ih =>
    cases i with
    | zero =>
      simp at hi; subst hi
      rw [Nat.zero_mul, Nat.zero_add, List.flatMap_cons, List.set_cons_zero, List.flatMap_cons, hx, List.set_append_left _ _ (by rw [hf]; exact hj)]
    | succ i =>
      rw [List.flatMap_cons, List.set_cons_succ, List.flatMap_cons, List.set_append_right _ _ (by rw [hf, Nat.succ_mul]; omega), hf, show (i + 1) * k + j - k = i * k + j by rw [Nat.succ_mul]; omega, ih (by simpa using hi)]
variable {E : Nat}
theorem slk_at (hf : ∀ x, (f x).length = k) {a : Option Addr} {n c : Nat} {l : List α} {H : Heaplet} (h : SlRep E k a n c (l.flatMap f) H) (hl : n = l.length) {w : World} (hw : Own w H) {i : Nat} {x : α} (hi : l[i]? = some x) (hk : 0 < k) :
    ∃ g, a = some ⟨g, 0, none⟩ ∧ n ≤ c ∧ c ≤ maxLen ∧ (∀ j, w.frozen? ⟨g, j, none⟩ = false) ∧ ∀ j v, (f x)[j]? = some v → w.cell? ⟨g, i * k + j, none⟩ = some v := by
  obtain ⟨_, ⟨_, h, _⟩ | ⟨g, cur, rfl, rfl, h2, h3, h4, h5⟩⟩ := h
  · subst h
    have : l = [] := List.eq_nil_of_length_eq_zero hl.symm
    subst this; simp at hi
  · refine ⟨g, rfl, h2, h3, fun j => frz_of hw.h0, fun j v hv => ?_⟩
    have hjk : j < k := by have := (List.getElem?_eq_some_iff.1 hv).1; rw [hf] at this; exact this
    have hin : i < n := by rw [hl]; exact (List.getElem?_eq_some_iff.1 hi).1
    have hlt : i * k + j < n * k := by
      have : (i + 1) * k ≤ n * k := Nat.mul_le_mul_right _ hin
      rw [Nat.succ_mul] at this; omega
    have := flat_get hf l hi hjk
    rw [← h5, List.getElem?_take, if_pos hlt, hv] at this
    exact cell_of hw.h0 (by simpa using this)
theorem slk_put (hf : ∀ x, (f x).length = k) {w w' : World} {K A B Hs : Heaplet} {g n c : Nat} {l : List α} (s : Step w K w' (A ++ (Hs ++ B))) (h : SlRep E k (some ⟨g, 0, none⟩) n c (l.flatMap f) Hs) {i j : Nat} {x x' : α} {v : Value} (hi : l[i]? = some x) (hj : j < k) (hx : f x' = (f x).set j v) :
    ∃ H', SlRep E k (some ⟨g, 0, none⟩) n c ((l.set i x').flatMap f) H' ∧ Step w K (w'.setCell ⟨g, i * k + j, none⟩ v) (A ++ (H' ++ B)) := by
  obtain ⟨hl, ⟨h1, _⟩ | ⟨g', cur, e, rfl, h2, h3, h4, h5⟩⟩ := h
  · cases h1
  · cases e
    refine ⟨[(g, .cells (cur.setIfInBounds (i * k + j) v) E (0, 0))], ⟨?_, .inr ⟨g, _, rfl, rfl, h2, h3, by simpa using h4, ?_⟩⟩, Step.store (A := A) (B := B) v s⟩
    · rw [← flat_set hf l hi hj hx, List.length_set]; exact hl
    · rw [Array.toList_setIfInBounds, List.take_set, h5, flat_set hf l hi hj hx]
/-- A piece of the row, as what is read. -/
theorem slk_rd (hf : ∀ x, (f x).length = k) (h1 : ∀ x, ∀ u ∈ f x, u.oneCell' = true) {g n c : Nat} {l : List α} {H : Heaplet} (h : SlRep E k (some ⟨g, 0, none⟩) n c (l.flatMap f) H) (hl : n = l.length) {w : World} (hw : Own w H) (i m c' : Nat) (him : i + m ≤ n) :
    RdCells w (.slice (some ⟨g, i * k, none⟩) m c') m k (((l.drop i).take m).flatMap f) := by
  refine ⟨?_, fun u hu => ?_, .inr ⟨_, c', rfl, fun j u hu => ?_⟩⟩
  · rw [flat_len hf, List.length_take, List.length_drop, Nat.min_eq_left (by omega)]
  · obtain ⟨x, _, hx⟩ := List.mem_flatMap.1 hu
    exact h1 x u hx
  · obtain ⟨_, ⟨h1, _⟩ | ⟨g', cur, e, rfl, h2, h3, h4, h5⟩⟩ := h
    · cases h1
    · cases e
      rw [Addr.add_lit]
      have hj : j < m * k := by
        have := (List.getElem?_eq_some_iff.1 hu).1
        rwa [flat_len hf, List.length_take, List.length_drop, Nat.min_eq_left (by omega)] at this
      rw [← flat_take hf, ← flat_drop hf, List.getElem?_take, if_pos hj, List.getElem?_drop, ← h5, List.getElem?_take, if_pos (by
        have : (i + m) * k ≤ n * k := Nat.mul_le_mul_right _ him
        rw [Nat.add_mul] at this; omega)] at hu
      exact cell_of hw.h0 (by simpa using hu)
end
end Go.Proofs.YtdolbeonpkanpaaGreatDoor
