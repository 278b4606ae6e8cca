/- A range over a map of one's own. -/
import Derived.Test.YtdolbeonpkanpaaGreatDoorMSp
import Derived.Maps.RangeRun
import Derived.Maps.RangeWalk
set_option linter.unusedVariables false
set_option linter.unusedSimpArgs false
namespace Go.Proofs.YtdolbeonpkanpaaGreatDoor
open Go.RowKit Go.MapKept

/-- oi goes over the map om (in block bm); L is left. -/
def IterSt (om oi : Obj) (bm : Nat) (L : List (Value × Value)) : Prop :=
  ∃ es clock since seen c0, om = .map es clock ∧ oi = .mapIter (some bm) since seen c0 ∧ (∀ x ∈ es.toList, x.born < since) ∧ since ≤ c0 ∧ since ≤ clock ∧ L = (leftOf es seen).toList.map fun e => (e.key, e.val)
def iterLeft (w : World) (r bm : Nat) : Nat := match w.heap[r]?, w.heap[bm]? with | some (.mapIter _ _ seen _), some (.map es _) => (leftOf es seen).size | _, _ => 0
theorem IterSt.left {om oi : Obj} {bm r : Nat} {L : List (Value × Value)} (h : IterSt om oi bm L) {w : World} (hr : w.heap[r]? = some oi) (hb : w.heap[bm]? = some om) : iterLeft w r bm = L.length := by
  obtain ⟨es, clock, since, seen, c0, rfl, rfl, _, _, _, rfl⟩ := h
  unfold iterLeft
  rw [hr, hb]
  simp
theorem iter_new {d : TypeDesc} {om : Obj} {D : List (Value × Value)} (h : MapObj d om D) (bm : Nat) {P : Program} {t k e : TypeId} (ht : P.underlying t = some (.map k e)) {w : World} (hb : w.heap[bm]? = some om) :
    ∃ oi, IterSt om oi bm D ∧ (Instr.range t (.map (some bm))).run P w = .ok (.pointer (some ⟨w.heap.size, 0, none⟩)) (w.alloc oi) := by
  obtain ⟨⟨es, clock, rfl, hD, hst⟩, _, _⟩ := h
  refine ⟨_, ⟨es, clock, clock, #[], clock, rfl, rfl, hst.1, Nat.le_refl _, Nat.le_refl _, ?_⟩, run_range_map w t k e bm es clock ht hb⟩
  rw [← hD, show (leftOf es #[]).toList = es.toList by unfold leftOf; rw [Array.toList_filter]; exact List.filter_eq_self.2 (by simp)]
theorem iter_next {d : TypeDesc} {om oi : Obj} {bm r : Nat} {D L : List (Value × Value)} (hm : MapObj d om D) (h : IterSt om oi bm L) {P : Program} {w : World} (hr : w.heap[r]? = some oi) (hb : w.heap[bm]? = some om) (hne : r ≠ bm) :
    (L = [] ∧ ∀ ty, (Instr.next (.pointer (some ⟨r, 0, none⟩)) false ty).run P w = .ok (.tuple #[.bool false]) w) ∨
    ∃ A B k v oi' w1, L = A ++ (k, v) :: B ∧ (w1 = w ∨ w1 = w.drew) ∧ (∀ ty, (Instr.next (.pointer (some ⟨r, 0, none⟩)) false ty).run P w = .ok (.tuple #[.bool true, k, v]) (World.putObj w1 r oi')) ∧ IterSt om oi' bm (A ++ B) ∧
      (∀ W, W.heap[r]? = some oi' → W.heap[bm]? = some om → (Instr.entry (.pointer (some ⟨r, 0, none⟩))).run P W = .ok (.tuple #[k, v]) W) := by
  obtain ⟨es, clock, since, seen, c0, rfl, rfl, hold, hsc, hsk, rfl⟩ := h
  obtain ⟨⟨es', clock', e1, _, hst⟩, _, _⟩ := hm
  cases e1
  rcases run_next_at (P := P) w 0 r bm since c0 seen es clock hr hb hold hsc with ⟨h0, hrun⟩ | ⟨e, he, w1, hal, hrun⟩
  · exact .inl ⟨by rw [Array.eq_empty_of_size_eq_zero h0]; rfl, fun ty => hrun⟩
  · obtain ⟨hem, hes⟩ := mem_left he
    obtain ⟨A, B, hAB⟩ := List.append_of_mem he
    refine .inr ⟨A.map fun e => (e.key, e.val), B.map fun e => (e.key, e.val), e.key, e.val, .mapIter (some bm) since (seen.push e.born) clock, w1, by rw [hAB]; simp, hal, fun ty => hrun, ⟨es, clock, since, seen.push e.born, clock, rfl, rfl, hold, hsk, hsk, ?_⟩,
      fun W h1 h2 => run_entry_at W r bm since seen es clock e h1 h2 hem hst.2.1⟩
    have hnd : ((leftOf es seen).toList.map (·.born)).Nodup := hst.2.1.sublist (by
      unfold leftOf; rw [Array.toList_filter]; exact List.filter_sublist.map _)
    have e2 : (leftOf es (seen.push e.born)).toList = (leftOf es seen).toList.filter (fun x => !(x.born == e.born)) := by
      unfold leftOf
      rw [Array.toList_filter, Array.toList_filter, List.filter_filter]
      congr 1
      funext x
      rw [contains_push]
      cases seen.contains x.born <;> cases (x.born == e.born) <;> rfl
    rw [e2, hAB, List.filter_append, List.filter_cons]
    rw [hAB, List.map_append, List.map_cons] at hnd
    have hn2 := List.nodup_append.1 hnd
    have hA : A.filter (fun x => !(x.born == e.born)) = A := List.filter_eq_self.2 (fun x hx => by
      have := hn2.2.2 x.born (List.mem_map.2 ⟨x, hx, rfl⟩) e.born (List.mem_cons_self ..)
      simpa using this)
    have hB : B.filter (fun x => !(x.born == e.born)) = B := List.filter_eq_self.2 (fun x hx => by
      have := (List.nodup_cons.1 hn2.2.1).1
      have hne : x.born ≠ e.born := fun e1 => this (List.mem_map.2 ⟨x, hx, e1⟩)
      simpa using hne)
    simp [hA, hB]
theorem map_split {α β : Type} {f : α → β} : ∀ {l : List α} {A B : List β} {e : β}, l.map f = A ++ e :: B → ∃ A' x B', l = A' ++ x :: B' ∧ A'.map f = A ∧ f x = e ∧ B'.map f = B
  | l, [], B, e, h => by
    cases l with
    | nil => cases h
    | cons x l => simp at h; exact ⟨[], x, l, rfl, rfl, h.1, h.2⟩
  | l, a :: A, B, e, h => by
    cases l with
    | nil => cases h
    | cons x l =>
      simp at h
      obtain ⟨A', y, B', h1, h2, h3, h4⟩ := map_split h.2
      exact ⟨x :: A', y, B', by rw [h1]; rfl, by rw [List.map_cons, h.1, h2], h3, h4⟩
/-- A step of the walk over the things Lf (each with its entry f). -/
theorem iter_step {α : Type} {f : α → Value × Value} {d : TypeDesc} {om oi : Obj} {bm r : Nat} {D : List (Value × Value)} {Lf : List α} (hm : MapObj d om D) (h : IterSt om oi bm (Lf.map f)) {P : Program} {w : World} (hr : w.heap[r]? = some oi) (hb : w.heap[bm]? = some om) (hne : r ≠ bm) :
    (Lf = [] ∧ ∀ ty, (Instr.next (.pointer (some ⟨r, 0, none⟩)) false ty).run P w = .ok (.tuple #[.bool false]) w) ∨
    ∃ A x B oi' w1, Lf = A ++ x :: B ∧ (w1 = w ∨ w1 = w.drew) ∧ (∀ ty, (Instr.next (.pointer (some ⟨r, 0, none⟩)) false ty).run P w = .ok (.tuple #[.bool true, (f x).1, (f x).2]) (World.putObj w1 r oi')) ∧ IterSt om oi' bm ((A ++ B).map f) ∧
      (∀ W, W.heap[r]? = some oi' → W.heap[bm]? = some om → (Instr.entry (.pointer (some ⟨r, 0, none⟩))).run P W = .ok (.tuple #[(f x).1, (f x).2]) W) := by
  rcases iter_next hm h hr hb hne (P := P) with ⟨h1, h2⟩ | ⟨A, B, k, v, oi', w1, h1, h2, h3, h4, h5⟩
  · exact .inl ⟨by simpa using h1, h2⟩
  · obtain ⟨A', x, B', rfl, rfl, e, rfl⟩ := map_split h1
    have ek : k = (f x).1 := by rw [e]
    have ev : v = (f x).2 := by rw [e]
    subst ek ev
    exact .inr ⟨A', x, B', oi', w1, rfl, h2, h3, by rw [List.map_append]; exact h4, h5⟩
section
variable {P : Program} {w : World} {ops : Array Oper} {rest : List Oper} {o : Oper} {a : Act} {Q : Exit → Act → World → Prop}
theorem wpList_mrange (hg : o.guard = none) (m : Operand) (t : TypeId) (hop : o.op = Op.range t m) {mv v : Value} {w' : World} (hm : a.eval m = mv) (hrun : (Instr.range t mv).run P w = .ok v w')
    (hK : wpList P ops Q rest (a.put o.dst v) w') : wpList P ops Q (o :: rest) a w := by
  refine wpList_plain hg fun K' hK' => ?_
  unfold Oper.wp
  simp [execOp, hop, hm, hrun, Result.andThen]
  exact hK' _ _ hK
theorem wpList_mnext (hg : o.guard = none) (it : Operand) (hop : o.op = Op.next it false) {iv v : Value} {w' : World} (hm : a.eval it = iv) (hrun : (Instr.next iv false o.type).run P w = .ok v w')
    (hK : wpList P ops Q rest (a.put o.dst v) w') : wpList P ops Q (o :: rest) a w := by
  refine wpList_plain hg fun K' hK' => ?_
  unfold Oper.wp
  simp [execOp, hop, hm, hrun, Result.andThen]
  exact hK' _ _ hK
theorem step_mdelete {K : Act → World → Prop} {E : Prop} (hgd : o.guard = none) (m x : Operand) (t k : TypeId) (hop : o.op = Op.call { callee := Callee.builtin Builtin.delete, args := #[m, x], argTypes := #[t, k] }) {mv key : Value} {w' : World} (hm : a.eval m = mv) (hx : a.eval x = key)
    (hrun : (Builtin.delete_ #[t, k] o.type #[mv, key]).run P w = .ok (.tuple #[]) w') (hK : K (a.put o.dst (.tuple #[])) w') : if Region.wanted o (yielded ops a.tmps) = true then Oper.wp P o a w K Q else E := by
  have hw' : Region.wanted o (yielded ops a.tmps) = true := by simp [Region.wanted, hgd]
  rw [if_pos hw']
  unfold Oper.wp
  simp [execOp, hop, resolve, invoke, builtin, hm, hx, hrun, Result.andThen]
  exact hK
theorem step_mupdate {K : Act → World → Prop} {E : Prop} (hgd : o.guard = none) (m x v : Operand) (t : TypeId) (hop : o.op = Op.mapUpdate t m x v) {mv key val : Value} {w' : World} (hm : a.eval m = mv) (hx : a.eval x = key) (hv : a.eval v = val) (hrun : (Instr.mapUpdate t mv key val).run P w = .ok () w')
    (hK : K (a.put o.dst undef) w') : if Region.wanted o (yielded ops a.tmps) = true then Oper.wp P o a w K Q else E := by
  have hw' : Region.wanted o (yielded ops a.tmps) = true := by simp [Region.wanted, hgd]
  rw [if_pos hw']
  unfold Oper.wp
  simp [execOp, hop, hm, hx, hv, hrun, Result.andThen]
  exact hK
end
end Go.Proofs.YtdolbeonpkanpaaGreatDoor
