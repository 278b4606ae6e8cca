/- More laws on slices of one's own: append with room, clear, slicing, elements. make of a slice: the run, and the same as a law in a region. More laws on heaplets: what stays, a world told anew, a cell of a slice written. Maps of one's own: the object, look-up, store, delete, len; keys that are bools, integers or strings. -/
import Derived.Test.YtdolbeonpkanpaaGreatDoorMBase
import Derived.Laws.MakeOwn
import Derived.MapKept
import Derived.Maps.OwnSet
import Derived.Maps.OwnOps
set_option linter.unusedVariables false
set_option linter.unusedSimpArgs false
namespace Go.Proofs.YtdolbeonpkanpaaGreatDoor
open Go.RowKit

/-- One block of what is owned is turned. -/
theorem Step.change {w w' w2 : World} {H A B : Heaplet} {b : Nat} {o o' : Obj} (h : Step w H w' (A ++ (b, o) :: B)) (hos : w2.os = w'.os) (ht : w2.tape = w'.tape) (hou : w2.output = w'.output) (hs : w2.heap.size = w'.heap.size)
    (hb : w2.heap[b]? = some o') (hn : ∀ x, x ≠ b → w2.heap[x]? = w'.heap[x]?) : Step w H w2 (A ++ (b, o') :: B) := by
  have hk : dom (A ++ (b, o') :: B) = dom (A ++ (b, o) :: B) := by simp [dom]
  have hnd := h.own.nodup
  refine ⟨hos.trans h.os, ht.trans h.tape, hou.trans h.output, by rw [hs]; exact h.size, fun x hx hnx => ?_, ⟨fun e he => ?_, hk ▸ hnd⟩, fun x hx => h.keys x (hk ▸ hx)⟩
  · by_cases e : x = b
    · subst e
      rcases h.keys x (by simp [dom]) with g | g
      · exact absurd g hnx
      · omega
    · rw [hn _ e]; exact h.frame x hx hnx
  · rcases List.mem_append.1 he with g | g
    · have : e.1 ≠ b := fun x => by
        have hd := (List.nodup_append.1 (by rw [dom_append] at hnd; exact hnd)).2.2
        exact hd e.1 (List.mem_map.2 ⟨e, g, rfl⟩) b (by simp [dom]) x
      rw [hn _ this]; exact h.own.has e (List.mem_append_left _ g)
    · rcases List.mem_cons.1 g with rfl | g
      · exact hb
      · have : e.1 ≠ b := fun x => by
          rw [dom_append] at hnd
          have hd := (List.nodup_append.1 hnd).2.1
          simp only [dom, List.map_cons, List.nodup_cons] at hd
          exact hd.1 (x ▸ List.mem_map.2 ⟨e, g, rfl⟩)
        rw [hn _ this]; exact h.own.has e (List.mem_append_right _ (List.mem_cons_of_mem _ g))
theorem Step.setRow {w w' : World} {H B : Heaplet} {b : Nat} {c : Array Value} {T : TypeId} {f : Nat × Nat} (cs : Array Value) (h : Step w H w' ((b, .cells c T f) :: B)) :
    Step w H (w'.setRow b cs) ((b, .cells cs T f) :: B) :=
  Step.change (A := []) h rfl rfl rfl (by simp) (setRow_heap _ _ _ _ _ _ h.own.head) (fun x hx => setRow_other _ _ _ _ hx)

section
variable {P : Program}
end
theorem slRep_at {E : Nat} {a : Option Addr} {n c : Nat} {xs : List Value} {H : Heaplet} (h : SlRep E 1 a n c xs H) {w : World} (hw : Own w H) {i : Nat} {v : Value} (hi : xs[i]? = some v) : ∃ g, a = some ⟨g, 0, none⟩ ∧ w.cell? ⟨g, 0 + i, none⟩ = some v ∧ n ≤ c := by
  obtain ⟨hl, ⟨rfl, rfl, rfl, rfl⟩ | ⟨g, cur, rfl, rfl, h2, h3, h4, h5⟩⟩ := h
  · simp at hl; subst hl; simp at hi
  · refine ⟨g, rfl, cell_of hw.head ?_, h2⟩
    rw [← h5, List.getElem?_take] at hi
    split at hi
    · simpa using hi
    · cases hi
end Go.Proofs.YtdolbeonpkanpaaGreatDoor
namespace Go.Proofs.YtdolbeonpkanpaaGreatDoor
open Go.RowKit

section
variable {P : Program}
theorem madeCells_one (z : Value) (n : Nat) : madeCells #[z] n = (List.replicate n z).toArray := by
  apply Array.ext
  · simp [madeCells]
  · intro i h1 h2
    simp [madeCells, Nat.mod_one]
theorem run_mk (w : World) {t e k bytes : Nat} {z : Value} (S : SlTy P t e k bytes z) (n c : Nat) (h : n ≤ c) (hb : bytes * c ≤ 281474976710656) (hm : c ≤ maxLen) :
    (Instr.makeSlice t (.int .i64 n) (.int .i64 c)).run P w = .ok (.slice (some ⟨w.heap.size, 0, none⟩) n c) (w.alloc (.cells (madeCells z.cells (c * k)) e)) := by
  obtain ⟨i, hi, hzz⟩ := Option.map_eq_some_iff.1 S.info
  simp only [Prod.mk.injEq] at hzz
  obtain ⟨hz, hs, hbb⟩ := hzz
  have h63 : (c : Int) ≤ 9223372036854775807 := by simp [maxLen] at hm; omega
  have hb' : (i.bytes : Int) * (c : Int) ≤ 281474976710656 := by
    have h : ((i.bytes * c : Nat) : Int) ≤ 281474976710656 := by rw [hbb]; omega
    rwa [Int.natCast_mul] at h
  have hr := run_make (P := P) w t e i z S.under hi hz .i64 .i64 n c (by omega) (by omega) hb' h63
  rwa [Int.toNat_natCast, Int.toNat_natCast, hs] at hr
theorem wp_mk {o : Oper} {a : Act} {K : Act → World → Prop} {Q : Exit → Act → World → Prop} {w : World} {t e k bytes : Nat} {z : Value} (S : SlTy P t e k bytes z) (l c : Operand)
    (ho : o.op = .makeSlice t l c) {N C : Int} (n m : Nat) (hl : a.eval l = .int .i64 N) (hc : a.eval c = .int .i64 C) (hN : N = n) (hC : C = m) (hnm : n ≤ m) (hb : bytes * m ≤ 281474976710656) (hm : m ≤ maxLen)
    (h : K (a.put o.dst (.slice (some ⟨w.heap.size, 0, none⟩) n m)) (w.alloc (.cells (madeCells z.cells (m * k)) e))) : o.wp P a w K Q := by
  subst hN hC
  unfold Oper.wp execOp
  simp only [ho, hl, hc, Sem.run_bind, Sem.run_pure, Result.andThen_ok, run_mk w S n m hnm hb hm]
  exact h
theorem wpList_mk {ops : Array Oper} {rest : List Oper} {o : Oper} {a : Act} {Q : Exit → Act → World → Prop} {w : World} (hgd : o.guard = none) {t e k bytes : Nat} {z : Value} (S : SlTy P t e k bytes z) (l c : Operand)
    (ho : o.op = .makeSlice t l c) {N C : Int} (n m : Nat) (hl : a.eval l = .int .i64 N) (hc : a.eval c = .int .i64 C) (hN : N = n) (hC : C = m) (hnm : n ≤ m) (hb : bytes * m ≤ 281474976710656) (hm : m ≤ maxLen)
    (h : wpList P ops Q rest (a.put o.dst (.slice (some ⟨w.heap.size, 0, none⟩) n m)) (w.alloc (.cells (madeCells z.cells (m * k)) e))) : wpList P ops Q (o :: rest) a w :=
  wpList_plain hgd fun _ hK => wp_mk S l c ho n m hl hc hN hC hnm hb hm (hK _ _ h)
end
end Go.Proofs.YtdolbeonpkanpaaGreatDoor
namespace Go.Proofs.YtdolbeonpkanpaaGreatDoor
open Go.RowKit

theorem size_setCell (w : World) (a : Addr) (v : Value) : (w.setCell a v).heap.size = w.heap.size := by simp [World.setCell]
abbrev ii (x : Int) : Value := .int .i64 x
abbrev iv (x : Nat) : Value := .int .i64 (x : Int)
abbrev pt (b : Nat) : Value := .pointer (some ⟨b, 0, none⟩)
theorem Step.nil_below {w w' : World} {H : Heaplet} (s : Step w [] w' H) : Below w.heap.size w w' := s.below (by simp [dom]) (Nat.le_refl _)
theorem Step.drewN {w w' : World} {H H' : Heaplet} (h : Step w H w' H') (n : Nat) : Step w H (w'.drewN n) H' :=
  ⟨h.os, h.tape, h.output, h.size, h.frame, h.own.eq fun _ _ => rfl, h.keys⟩
theorem Own.after {w w' : World} {H G : Heaplet} (o : Own w H) (s : Step w [] w' G) : Own w' H := o.eq fun b hb => s.frame b (o.lt b hb) (by simp [dom])
theorem Step.stay {w w' : World} {H : Heaplet} (s : Step w [] w' []) (o : Own w H) : Step w H w' H := Step.beside (H := []) (H' := []) (G := H) s o
theorem Step.keepCell {w w' : World} {G : Heaplet} (s : Step w [] w' G) {a : Addr} {v : Value} (h : w.cell? a = some v) : w'.cell? a = some v := by
  rw [World.cell?_of_block (w := w) (s.frame a.block (World.block_lt_of_cell? w _ h) (by simp [dom]))]; exact h
/-- A block laid behind another one. -/
theorem rdCells_new2 {w : World} {o : Obj} {c k m : Nat} {cs : Array Value} {T : TypeId} {f : Nat × Nat} (hl : cs.toList.length = m * k) (h1 : ∀ u ∈ cs.toList, u.oneCell' = true) :
    RdCells ((w.alloc o).alloc (.cells cs T f)) (.slice (some ⟨w.heap.size + 1, 0, none⟩) m c) m k cs.toList :=
  rdCells_block (by have := heap_alloc_new (w.alloc o) (.cells cs T f); simpa using this) hl h1
theorem SlRep.upto {E k : Nat} {a : Option Addr} {n c : Nat} {xs : List Value} {H : Heaplet} (h : SlRep E k a n c xs H) {i : Nat} (hi : i ≤ n) : SlRep E k a i c (xs.take (i * k)) H := by
  obtain ⟨hl, h⟩ := h
  refine ⟨by rw [List.length_take, hl, Nat.min_eq_left (Nat.mul_le_mul_right _ hi)], ?_⟩
  rcases h with ⟨rfl, rfl, rfl, rfl⟩ | ⟨g, cur, rfl, rfl, h2, h3, h4, h5⟩
  · exact .inl ⟨rfl, by omega, rfl, rfl⟩
  · refine .inr ⟨g, cur, rfl, rfl, by omega, h3, h4, ?_⟩
    rw [← h5, List.take_take, Nat.min_eq_left (Nat.mul_le_mul_right _ hi)]
end Go.Proofs.YtdolbeonpkanpaaGreatDoor
namespace Go.Proofs.YtdolbeonpkanpaaGreatDoor
open Go.RowKit Go.MapKept

/-- o is a map whose entries are D, in this order. -/
structure MapObj (d : TypeDesc) (o : Obj) (D : List (Value × Value)) : Prop where
  is : ∃ es clock, o = .map es clock ∧ es.toList.map (fun e => (e.key, e.val)) = D ∧ Stamped es clock
  keys : ∀ x ∈ D, IsKey d x.1
  nodup : (D.map Prod.fst).Nodup
theorem mapObj_new (d : TypeDesc) : MapObj d (.map #[] 0) [] := ⟨⟨#[], 0, rfl, rfl, stamped_empty 0⟩, by simp, by simp⟩
theorem kv_one {D : List (Value × Value)} (h : (D.map Prod.fst).Nodup) {k v v' : Value} (h1 : (k, v) ∈ D) (h2 : (k, v') ∈ D) : v = v' := by
  induction D with
  | nil => cases h1
  | cons x D ih =>
    simp only [List.map_cons, List.nodup_cons] at h
    rcases List.mem_cons.1 h1 with e1 | h1
    · rcases List.mem_cons.1 h2 with e2 | h2
      · rw [← e1] at e2; cases e2; rfl
      · exact absurd (List.mem_map.2 ⟨_, h2, by rw [← e1]⟩) h.1
    · rcases List.mem_cons.1 h2 with e2 | h2
      · exact absurd (List.mem_map.2 ⟨_, h1, by rw [← e2]⟩) h.1
      · exact ih h.2 h1 h2
/-- The world with another object at r. -/
def World.putObj (w : World) (r : Nat) (o : Obj) : World := { w with heap := w.heap.setIfInBounds r o }
theorem Step.putObj {w w' : World} {H A B : Heaplet} {r : Nat} {o : Obj} (o' : Obj) (h : Step w H w' (A ++ (r, o) :: B)) : Step w H (World.putObj w' r o') (A ++ (r, o') :: B) := by
  have hb : w'.heap[r]? = some o := h.own.has (r, o) (by simp)
  have hs := MapKept.heap_set (o' := o') hb
  exact Step.change h rfl rfl rfl (by simp [World.putObj]) hs.1 hs.2
section
variable {P : Program} {w : World} {t kt et : TypeId} {d : TypeDesc} {r : Nat} {o : Obj} {D : List (Value × Value)} {k : Value}
theorem MapObj.find (h : MapObj d o D) (hk : IsKey d k) : ∃ es clock, o = .map es clock ∧ es.toList.map (fun e => (e.key, e.val)) = D ∧ Stamped es clock ∧
    ((Instr.findNow d k es.toList 0 = some none ∧ ∀ p ∈ D, p.1 ≠ k) ∨ ∃ j e, Instr.findNow d k es.toList 0 = some (some (j, e.val)) ∧ es.toList[j]? = some e ∧ e.key = k) := by
  obtain ⟨⟨es, clock, rfl, hD, hst⟩, h2, h3⟩ := h
  have hks : ∀ x ∈ es.toList, IsKey d x.key := fun x hx => h2 (x.key, x.val) (by rw [← hD]; exact List.mem_map.2 ⟨x, hx, rfl⟩)
  refine ⟨es, clock, rfl, hD, hst, ?_⟩
  rcases findNow_spec hk es.toList 0 hks with ⟨a, b⟩ | ⟨j, e, a, b, c⟩
  · refine .inl ⟨a, fun p hp => ?_⟩
    rw [← hD] at hp
    obtain ⟨x, hx, rfl⟩ := List.mem_map.1 hp
    exact b x hx
  · exact .inr ⟨j, e, by simpa using a, b, c⟩
theorem run_mlookup (hm : P.underlying t = some (.map kt et)) (hd : P.underlying kt = some d) (h : MapObj d o D) (hk : IsKey d k) (hb : w.heap[r]? = some o) {v : Value} (hv : (k, v) ∈ D) (ok : Bool) :
    (Instr.lookup t (.map (some r)) k ok).run P w = .ok (if ok then .tuple #[v, .bool true] else v) w := by
  obtain ⟨es, clock, rfl, hD, hst, hf⟩ := h.find hk
  rcases hf with ⟨_, hno⟩ | ⟨j, e, hf, he, hke⟩
  · exact absurd rfl (hno _ hv)
  · have : e.val = v := kv_one h.nodup (k := k) (by rw [← hD]; exact List.mem_map.2 ⟨e, List.mem_of_getElem? he, by rw [hke]⟩) hv
    subst this
    simp [Instr.lookup, run_underlying hm, MapKept.run_getObj_map hb, run_checkKey hd hk, run_findKey hd hf, Result.andThen]
theorem run_mlookup_no (hm : P.underlying t = some (.map kt et)) (hd : P.underlying kt = some d) (h : MapObj d o D) (hk : IsKey d k) (hb : w.heap[r]? = some o) {z : Value} (hz : (zeroValue et).run P w = .ok z w) (hno : ∀ p ∈ D, p.1 ≠ k) (ok : Bool) :
    (Instr.lookup t (.map (some r)) k ok).run P w = .ok (if ok then .tuple #[z, .bool false] else z) w := by
  obtain ⟨es, clock, rfl, hD, hst, hf⟩ := h.find hk
  rcases hf with ⟨hf, _⟩ | ⟨j, e, hf, he, hke⟩
  · simp [Instr.lookup, run_underlying hm, MapKept.run_getObj_map hb, run_checkKey hd hk, run_findKey hd hf, hz, Result.andThen]
  · exact absurd hke (hno (e.key, e.val) (by rw [← hD]; exact List.mem_map.2 ⟨e, List.mem_of_getElem? he, rfl⟩))
theorem run_mupdate_no (hm : P.underlying t = some (.map kt et)) (hd : P.underlying kt = some d) (h : MapObj d o D) (hk : IsKey d k) (hb : w.heap[r]? = some o) (hno : ∀ p ∈ D, p.1 ≠ k) (v : Value) :
    ∃ o', (Instr.mapUpdate t (.map (some r)) k v).run P w = .ok () (World.putObj w r o') ∧ MapObj d o' (D ++ [(k, v)]) := by
  obtain ⟨es, clock, rfl, hD, hst, hf⟩ := h.find hk
  rcases hf with ⟨hf, _⟩ | ⟨j, e, hf, he, hke⟩
  · refine ⟨.map (es.push { key := k, val := v, born := clock }) (clock + 1), ?_, ⟨⟨_, _, rfl, by simp [hD], stamped_push hst (fun x hx => hno (x.key, x.val) (by rw [← hD]; exact List.mem_map.2 ⟨x, hx, rfl⟩))⟩, ?_, ?_⟩⟩
    · simp [Instr.mapUpdate, run_underlying hm, MapKept.run_getObj_map hb, run_checkKey hd hk, run_findKey hd hf, MapKept.run_setObj_map _ hb, Result.andThen, World.putObj]
    · intro x hx
      rcases List.mem_append.1 hx with hx | hx
      · exact h.keys x hx
      · rw [List.mem_singleton] at hx; subst hx; exact hk
    · rw [List.map_append]
      refine List.nodup_append.2 ⟨h.nodup, by simp, ?_⟩
      intro a ha b hb' e
      obtain ⟨p, hp, rfl⟩ := List.mem_map.1 ha
      simp at hb'; subst hb'
      exact hno p hp e
  · exact absurd hke (hno (e.key, e.val) (by rw [← hD]; exact List.mem_map.2 ⟨e, List.mem_of_getElem? he, rfl⟩))
theorem split_at {D : List (Value × Value)} {es : List MapEntry} (hD : es.map (fun e => (e.key, e.val)) = D) {j : Nat} {e : MapEntry} (he : es[j]? = some e) :
    ∃ A B, D = A ++ (e.key, e.val) :: B ∧ A = (es.take j).map (fun e => (e.key, e.val)) ∧ B = (es.drop (j + 1)).map (fun e => (e.key, e.val)) := by
  refine ⟨_, _, ?_, rfl, rfl⟩
  obtain ⟨hj, rfl⟩ := List.getElem?_eq_some_iff.1 he
  rw [← hD]
  conv => lhs; rw [← List.take_append_drop j es, List.drop_eq_getElem_cons hj]
  rw [List.map_append, List.map_cons]
theorem nodup_split {A A' B B' : List (Value × Value)} {k v v' : Value} (h : ((A ++ (k, v) :: B).map Prod.fst).Nodup) (e : A ++ (k, v) :: B = A' ++ (k, v') :: B') : A = A' ∧ v = v' ∧ B = B' := by
  induction A generalizing A' with
  | nil =>
    cases A' with
    | nil => simp at e; exact ⟨rfl, e.1, e.2⟩
    | cons a A' =>
      simp at e h
      exact absurd (by rw [e.2]; simp) (fun hx => h.1 v' hx : ¬ (k, v') ∈ B)
  | cons a A ih =>
    cases A' with
    | nil =>
      simp at e h
      obtain ⟨rfl, e⟩ := e
      exact absurd rfl (h.1.2.1)
    | cons a' A' =>
      simp only [List.cons_append, List.cons.injEq] at e
      obtain ⟨rfl, e⟩ := e
      simp only [List.cons_append, List.map_cons, List.nodup_cons] at h
      obtain ⟨x, y, z⟩ := ih h.2 e
      exact ⟨by rw [x], y, z⟩
theorem run_mdelete (hm : P.underlying t = some (.map kt et)) (hd : P.underlying kt = some d) {A B : List (Value × Value)} {v0 : Value} (h : MapObj d o (A ++ (k, v0) :: B)) (hk : IsKey d k) (hb : w.heap[r]? = some o) (ty : TypeId) :
    ∃ o', (Builtin.delete_ #[t, kt] ty #[.map (some r), k]).run P w = .ok (.tuple #[]) (World.putObj w r o') ∧ MapObj d o' (A ++ B) := by
  obtain ⟨es, clock, rfl, hD, hst, hf⟩ := h.find hk
  rcases hf with ⟨hf, hno⟩ | ⟨j, e, hf, he, hke⟩
  · exact absurd rfl (hno (k, v0) (by simp))
  · have hj := (List.getElem?_eq_some_iff.1 he).1
    obtain ⟨A', B', e1, eA, eB⟩ := split_at hD he
    rw [hke] at e1
    obtain ⟨rfl, rfl, rfl⟩ := nodup_split h.nodup e1
    refine ⟨.map (es.eraseIdxIfInBounds j) clock, ?_, ⟨⟨_, _, rfl, ?_, stamped_erase hst j⟩, ?_, ?_⟩⟩
    · simp [Builtin.delete_, run_underlying hm, MapKept.run_getObj_map hb, run_checkKey hd hk, run_findKey hd hf, MapKept.run_setObj_map _ hb, Result.andThen, World.putObj]
    · have hj' : j < es.size := by simpa using hj
      rw [Array.eraseIdxIfInBounds, dif_pos hj', Array.toList_eraseIdx, List.eraseIdx_eq_take_drop_succ, List.map_append, eA, eB]
    · intro x hx
      rcases List.mem_append.1 hx with hx | hx
      · exact h.keys x (List.mem_append_left _ hx)
      · exact h.keys x (List.mem_append_right _ (List.mem_cons_of_mem _ hx))
    · have := h.nodup
      rw [List.map_append, List.map_cons] at this
      rw [List.map_append]
      exact this.sublist (List.Sublist.append_left (List.sublist_cons_self _ _) _)
theorem run_mlen (hm : P.underlying t = some (.map kt et)) (h : MapObj d o D) (hb : w.heap[r]? = some o) (ty : TypeId) :
    (Builtin.len_ #[t] ty #[.map (some r)]).run P w = .ok (.int .i64 D.length) w := by
  obtain ⟨⟨es, clock, rfl, hD, hst⟩, _, _⟩ := h
  rw [← hD]
  simp [Builtin.len_, run_underlying hm, MapKept.run_getObj_map hb, goInt, Result.andThen]
end
section
variable {P : Program} {w : World} {ops : Array Oper} {rest : List Oper} {o : Oper} {a : Act} {Q : Exit → Act → World → Prop}
end
end Go.Proofs.YtdolbeonpkanpaaGreatDoor
