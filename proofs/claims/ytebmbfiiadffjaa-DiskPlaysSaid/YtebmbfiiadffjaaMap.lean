/- Maps of one's own: the object, look-up, store, delete, len; keys that are bools, integers or strings. -/
import Derived.Test.YtebmbfiiadffjaaSl
import Derived.MapKept
import Derived.Maps.OwnSet
import Derived.Maps.OwnOps
namespace Go.Proofs.Ytebmbfiiadffjaa
open Go.RowKit Go.MapKept

/-- o is a map whose entries are D, in this order. -/
structure MapObj (d : TypeDesc) (o : Obj) (D : List (Value × Value)) : Prop where
  is : ∃ es clock, o = .map es clock ∧ es.toList.map (fun e => (e.key, e.val)) = D ∧ Stamped es clock
  keys : ∀ x ∈ D, IsKey d x.1
  nodup : (D.map Prod.fst).Nodup
theorem mapObj_new (d : TypeDesc) : MapObj d (.map #[] 0) [] := ⟨⟨#[], 0, rfl, rfl, stamped_empty 0⟩, by simp, by simp⟩
theorem kv_one {D : List (Value × Value)} (h : (D.map Prod.fst).Nodup) {k v v' : Value} (h1 : (k, v) ∈ D) (h2 : (k, v') ∈ D) : v = v' := by
  induction D with
  | nil => cases h1
  | cons x D ih =>
    simp only [List.map_cons, List.nodup_cons] at h
    rcases List.mem_cons.1 h1 with e1 | h1
    · rcases List.mem_cons.1 h2 with e2 | h2
      · rw [← e1] at e2; cases e2; rfl
      · exact absurd (List.mem_map.2 ⟨_, h2, by rw [← e1]⟩) h.1
    · rcases List.mem_cons.1 h2 with e2 | h2
      · exact absurd (List.mem_map.2 ⟨_, h1, by rw [← e2]⟩) h.1
      · exact ih h.2 h1 h2
/-- The world with another object at r. -/
def World.putObj (w : World) (r : Nat) (o : Obj) : World := { w with heap := w.heap.setIfInBounds r o }
theorem Step.putObj {w w' : World} {H A B : Heaplet} {r : Nat} {o : Obj} (o' : Obj) (h : Step w H w' (A ++ (r, o) :: B)) : Step w H (World.putObj w' r o') (A ++ (r, o') :: B) := by
  have hb : w'.heap[r]? = some o := h.own.has (r, o) (by simp)
  have hs := MapKept.heap_set (o' := o') hb
  exact Step.change h rfl rfl rfl (by simp [World.putObj]) hs.1 hs.2
section
variable {P : Program} {w : World} {t kt et : TypeId} {d : TypeDesc} {r : Nat} {o : Obj} {D : List (Value × Value)} {k : Value}
theorem MapObj.find (h : MapObj d o D) (hk : IsKey d k) : ∃ es clock, o = .map es clock ∧ es.toList.map (fun e => (e.key, e.val)) = D ∧ Stamped es clock ∧
    ((Instr.findNow d k es.toList 0 = some none ∧ ∀ p ∈ D, p.1 ≠ k) ∨ ∃ j e, Instr.findNow d k es.toList 0 = some (some (j, e.val)) ∧ es.toList[j]? = some e ∧ e.key = k) := by
  obtain ⟨⟨es, clock, rfl, hD, hst⟩, h2, h3⟩ := h
  have hks : ∀ x ∈ es.toList, IsKey d x.key := fun x hx => h2 (x.key, x.val) (by rw [← hD]; exact List.mem_map.2 ⟨x, hx, rfl⟩)
  refine ⟨es, clock, rfl, hD, hst, ?_⟩
  rcases findNow_spec hk es.toList 0 hks with ⟨a, b⟩ | ⟨j, e, a, b, c⟩
  · refine .inl ⟨a, fun p hp => ?_⟩
    rw [← hD] at hp
    obtain ⟨x, hx, rfl⟩ := List.mem_map.1 hp
    exact b x hx
  · exact .inr ⟨j, e, by simpa using a, b, c⟩
theorem run_mlookup (hm : P.underlying t = some (.map kt et)) (hd : P.underlying kt = some d) (h : MapObj d o D) (hk : IsKey d k) (hb : w.heap[r]? = some o) {v : Value} (hv : (k, v) ∈ D) (ok : Bool) :
    (Instr.lookup t (.map (some r)) k ok).run P w = .ok (if ok then .tuple #[v, .bool true] else v) w := by
  obtain ⟨es, clock, rfl, hD, hst, hf⟩ := h.find hk
  rcases hf with ⟨_, hno⟩ | ⟨j, e, hf, he, hke⟩
  · exact absurd rfl (hno _ hv)
  · have : e.val = v := kv_one h.nodup (k := k) (by rw [← hD]; exact List.mem_map.2 ⟨e, List.mem_of_getElem? he, by rw [hke]⟩) hv
    subst this
    simp [Instr.lookup, run_underlying hm, MapKept.run_getObj_map hb, run_checkKey hd hk, run_findKey hd hf, Result.andThen]
theorem run_mlookup_no (hm : P.underlying t = some (.map kt et)) (hd : P.underlying kt = some d) (h : MapObj d o D) (hk : IsKey d k) (hb : w.heap[r]? = some o) {z : Value} (hz : (zeroValue et).run P w = .ok z w) (hno : ∀ p ∈ D, p.1 ≠ k) (ok : Bool) :
    (Instr.lookup t (.map (some r)) k ok).run P w = .ok (if ok then .tuple #[z, .bool false] else z) w := by
  obtain ⟨es, clock, rfl, hD, hst, hf⟩ := h.find hk
  rcases hf with ⟨hf, _⟩ | ⟨j, e, hf, he, hke⟩
  · simp [Instr.lookup, run_underlying hm, MapKept.run_getObj_map hb, run_checkKey hd hk, run_findKey hd hf, hz, Result.andThen]
  · exact absurd hke (hno (e.key, e.val) (by rw [← hD]; exact List.mem_map.2 ⟨e, List.mem_of_getElem? he, rfl⟩))
theorem run_mupdate_no (hm : P.underlying t = some (.map kt et)) (hd : P.underlying kt = some d) (h : MapObj d o D) (hk : IsKey d k) (hb : w.heap[r]? = some o) (hno : ∀ p ∈ D, p.1 ≠ k) (v : Value) :
    ∃ o', (Instr.mapUpdate t (.map (some r)) k v).run P w = .ok () (World.putObj w r o') ∧ MapObj d o' (D ++ [(k, v)]) := by
  obtain ⟨es, clock, rfl, hD, hst, hf⟩ := h.find hk
  rcases hf with ⟨hf, _⟩ | ⟨j, e, hf, he, hke⟩
  · refine ⟨.map (es.push { key := k, val := v, born := clock }) (clock + 1), ?_, ⟨⟨_, _, rfl, by simp [hD], stamped_push hst (fun x hx => hno (x.key, x.val) (by rw [← hD]; exact List.mem_map.2 ⟨x, hx, rfl⟩))⟩, ?_, ?_⟩⟩
    · simp [Instr.mapUpdate, run_underlying hm, MapKept.run_getObj_map hb, run_checkKey hd hk, run_findKey hd hf, MapKept.run_setObj_map _ hb, Result.andThen, World.putObj]
    · intro x hx
      rcases List.mem_append.1 hx with hx | hx
      · exact h.keys x hx
      · rw [List.mem_singleton] at hx; subst hx; exact hk
    · rw [List.map_append]
      refine List.nodup_append.2 ⟨h.nodup, by simp, ?_⟩
      intro a ha b hb' e
      obtain ⟨p, hp, rfl⟩ := List.mem_map.1 ha
      simp at hb'; subst hb'
      exact hno p hp e
  · exact absurd hke (hno (e.key, e.val) (by rw [← hD]; exact List.mem_map.2 ⟨e, List.mem_of_getElem? he, rfl⟩))
theorem split_at {D : List (Value × Value)} {es : List MapEntry} (hD : es.map (fun e => (e.key, e.val)) = D) {j : Nat} {e : MapEntry} (he : es[j]? = some e) :
    ∃ A B, D = A ++ (e.key, e.val) :: B ∧ A = (es.take j).map (fun e => (e.key, e.val)) ∧ B = (es.drop (j + 1)).map (fun e => (e.key, e.val)) := by
  refine ⟨_, _, ?_, rfl, rfl⟩
  obtain ⟨hj, rfl⟩ := List.getElem?_eq_some_iff.1 he
  rw [← hD]
  conv => lhs; rw [← List.take_append_drop j es, List.drop_eq_getElem_cons hj]
  rw [List.map_append, List.map_cons]
theorem nodup_split {A A' B B' : List (Value × Value)} {k v v' : Value} (h : ((A ++ (k, v) :: B).map Prod.fst).Nodup) (e : A ++ (k, v) :: B = A' ++ (k, v') :: B') : A = A' ∧ v = v' ∧ B = B' := by
  induction A generalizing A' with
  | nil =>
    cases A' with
    | nil => simp at e; exact ⟨rfl, e.1, e.2⟩
    | cons a A' =>
      simp at e h
      exact absurd (by rw [e.2]; simp) (fun hx => h.1 v' hx : ¬ (k, v') ∈ B)
  | cons a A ih =>
    cases A' with
    | nil =>
      simp at e h
      obtain ⟨rfl, e⟩ := e
      exact absurd rfl (h.1.2.1)
    | cons a' A' =>
      simp only [List.cons_append, List.cons.injEq] at e
      obtain ⟨rfl, e⟩ := e
      simp only [List.cons_append, List.map_cons, List.nodup_cons] at h
      obtain ⟨x, y, z⟩ := ih h.2 e
      exact ⟨by rw [x], y, z⟩
theorem run_mupdate (hm : P.underlying t = some (.map kt et)) (hd : P.underlying kt = some d) {A B : List (Value × Value)} {v0 : Value} (h : MapObj d o (A ++ (k, v0) :: B)) (hk : IsKey d k) (hb : w.heap[r]? = some o) (v : Value) :
    ∃ o', (Instr.mapUpdate t (.map (some r)) k v).run P w = .ok () (World.putObj w r o') ∧ MapObj d o' (A ++ (k, v) :: B) := by
  obtain ⟨es, clock, rfl, hD, hst, hf⟩ := h.find hk
  rcases hf with ⟨hf, hno⟩ | ⟨j, e, hf, he, hke⟩
  · exact absurd rfl (hno (k, v0) (by simp))
  · have hj := (List.getElem?_eq_some_iff.1 he).1
    obtain ⟨A', B', e1, eA, eB⟩ := split_at hD he
    rw [hke] at e1
    obtain ⟨rfl, rfl, rfl⟩ := nodup_split h.nodup e1
    refine ⟨.map (es.modify j fun e => { e with key := k, val := v }) clock, ?_, ⟨⟨_, _, rfl, ?_, ?_⟩, ?_, ?_⟩⟩
    · have hge : es[j]? = some e := by rw [← Array.getElem?_toList]; exact he
      simp [Instr.mapUpdate, run_underlying hm, MapKept.run_getObj_map hb, run_checkKey hd hk, run_findKey hd hf, MapKept.run_setObj_map _ hb, Result.andThen, World.putObj, hge, hke, run_keyThatStays hk]
    · rw [Array.toList_modify, eA, eB]
      apply List.ext_getElem?
      intro i
      rw [List.getElem?_map, List.getElem?_modify]
      simp only [Option.map_eq_map]
      rcases Nat.lt_trichotomy i j with h1 | h1 | h1
      · have hne : j ≠ i := by omega
        have hl : i < ((es.toList.take j).map fun e => (e.key, e.val)).length := by rw [List.length_map, List.length_take]; omega
        rw [List.getElem?_append_left hl, List.getElem?_map, List.getElem?_take, if_pos h1]
        simp only [if_neg hne]
        cases es.toList[i]? <;> rfl
      · subst h1
        have hl : ((es.toList.take i).map fun e => (e.key, e.val)).length = i := by rw [List.length_map, List.length_take]; omega
        rw [List.getElem?_append_right (by omega), he, hl]
        simp
      · have hne : j ≠ i := by omega
        have hl : ((es.toList.take j).map fun e => (e.key, e.val)).length = j := by rw [List.length_map, List.length_take]; omega
        rw [List.getElem?_append_right (by omega), hl]
        simp only [if_neg hne]
        obtain ⟨q, hq⟩ : ∃ q, i - j = q + 1 := ⟨i - j - 1, by omega⟩
        rw [hq, List.getElem?_cons_succ, List.getElem?_map, List.getElem?_drop, show j + 1 + q = i by omega]
        cases es.toList[i]? <;> rfl
    · obtain ⟨s1, s2, s3⟩ := hst
      have hek : es.toList[j] = e := (List.getElem?_eq_some_iff.1 he).2
      have hmk : (es.toList.modify j fun e => { e with key := k, val := v }).map (·.key) = es.toList.map (·.key) := by
        apply List.ext_getElem?
        intro i
        rw [List.getElem?_map, List.getElem?_map, List.getElem?_modify]
        by_cases hij : j = i
        · subst hij; rw [he]; simp [hke]
        · simp [hij]
      have hmb : (es.toList.modify j fun e => { e with key := k, val := v }).map (·.born) = es.toList.map (·.born) := by
        apply List.ext_getElem?
        intro i
        rw [List.getElem?_map, List.getElem?_map, List.getElem?_modify]
        by_cases hij : j = i
        · subst hij; rw [he]; simp
        · simp [hij]
      refine ⟨fun x hx => ?_, by rw [Array.toList_modify, hmb]; exact s2, by rw [Array.toList_modify, hmk]; exact s3⟩
      have : x.born ∈ es.toList.map (·.born) := by rw [← hmb, ← Array.toList_modify]; exact List.mem_map.2 ⟨x, hx, rfl⟩
      obtain ⟨y, hy, e⟩ := List.mem_map.1 this
      rw [← e]; exact s1 y hy
    · intro x hx
      rcases List.mem_append.1 hx with hx | hx
      · exact h.keys x (List.mem_append_left _ hx)
      · rcases List.mem_cons.1 hx with rfl | hx
        · exact hk
        · exact h.keys x (List.mem_append_right _ (List.mem_cons_of_mem _ hx))
    · have := h.nodup
      simpa using this
theorem run_mdelete (hm : P.underlying t = some (.map kt et)) (hd : P.underlying kt = some d) {A B : List (Value × Value)} {v0 : Value} (h : MapObj d o (A ++ (k, v0) :: B)) (hk : IsKey d k) (hb : w.heap[r]? = some o) (ty : TypeId) :
    ∃ o', (Builtin.delete_ #[t, kt] ty #[.map (some r), k]).run P w = .ok (.tuple #[]) (World.putObj w r o') ∧ MapObj d o' (A ++ B) := by
  obtain ⟨es, clock, rfl, hD, hst, hf⟩ := h.find hk
  rcases hf with ⟨hf, hno⟩ | ⟨j, e, hf, he, hke⟩
  · exact absurd rfl (hno (k, v0) (by simp))
  · have hj := (List.getElem?_eq_some_iff.1 he).1
    obtain ⟨A', B', e1, eA, eB⟩ := split_at hD he
    rw [hke] at e1
    obtain ⟨rfl, rfl, rfl⟩ := nodup_split h.nodup e1
    refine ⟨.map (es.eraseIdxIfInBounds j) clock, ?_, ⟨⟨_, _, rfl, ?_, stamped_erase hst j⟩, ?_, ?_⟩⟩
    · simp [Builtin.delete_, run_underlying hm, MapKept.run_getObj_map hb, run_checkKey hd hk, run_findKey hd hf, MapKept.run_setObj_map _ hb, Result.andThen, World.putObj]
    · have hj' : j < es.size := by simpa using hj
      rw [Array.eraseIdxIfInBounds, dif_pos hj', Array.toList_eraseIdx, List.eraseIdx_eq_take_drop_succ, List.map_append, eA, eB]
    · intro x hx
      rcases List.mem_append.1 hx with hx | hx
      · exact h.keys x (List.mem_append_left _ hx)
      · exact h.keys x (List.mem_append_right _ (List.mem_cons_of_mem _ hx))
    · have := h.nodup
      rw [List.map_append, List.map_cons] at this
      rw [List.map_append]
      exact this.sublist (List.Sublist.append_left (List.sublist_cons_self _ _) _)
theorem run_mdelete_no (hm : P.underlying t = some (.map kt et)) (hd : P.underlying kt = some d) (h : MapObj d o D) (hk : IsKey d k) (hb : w.heap[r]? = some o) (hno : ∀ p ∈ D, p.1 ≠ k) (ty : TypeId) :
    ∃ o', (Builtin.delete_ #[t, kt] ty #[.map (some r), k]).run P w = .ok (.tuple #[]) (World.putObj w r o') ∧ MapObj d o' D := by
  obtain ⟨es, clock, rfl, hD, hst, hf⟩ := h.find hk
  rcases hf with ⟨hf, _⟩ | ⟨j, e, hf, he, hke⟩
  · exact ⟨.map es clock, by simp [Builtin.delete_, run_underlying hm, MapKept.run_getObj_map hb, run_checkKey hd hk, run_findKey hd hf, MapKept.run_setObj_map _ hb, Result.andThen, World.putObj], h⟩
  · exact absurd hke (hno (e.key, e.val) (by rw [← hD]; exact List.mem_map.2 ⟨e, List.mem_of_getElem? he, rfl⟩))
theorem run_mlen (hm : P.underlying t = some (.map kt et)) (h : MapObj d o D) (hb : w.heap[r]? = some o) (ty : TypeId) :
    (Builtin.len_ #[t] ty #[.map (some r)]).run P w = .ok (.int .i64 D.length) w := by
  obtain ⟨⟨es, clock, rfl, hD, hst⟩, _, _⟩ := h
  rw [← hD]
  simp [Builtin.len_, run_underlying hm, MapKept.run_getObj_map hb, goInt, Result.andThen]
end
section
variable {P : Program} {w : World} {ops : Array Oper} {rest : List Oper} {o : Oper} {a : Act} {Q : Exit → Act → World → Prop}
theorem exec_mlookup {ev : Operand → Value} (m x : Operand) (t : TypeId) (ok : Bool) (hop : o.op = Op.lookup t m x ok) {mv key v : Value} (hm : ev m = mv) (hx : ev x = key) (hrun : (Instr.lookup t mv key ok).run P w = .ok v w) :
    (execOp ev o).run P w = .ok (.value v) w := by
  simp [execOp, hop, hm, hx, hrun, Result.andThen]
theorem wpList_mlookup (hg : o.guard = none) (m x : Operand) (t : TypeId) (ok : Bool) (hop : o.op = Op.lookup t m x ok) {mv key v : Value} (hm : a.eval m = mv) (hx : a.eval x = key) (hrun : (Instr.lookup t mv key ok).run P w = .ok v w)
    (hK : wpList P ops Q rest (a.put o.dst v) w) : wpList P ops Q (o :: rest) a w := by
  refine wpList_plain hg fun K' hK' => ?_
  unfold Oper.wp
  simp [execOp, hop, hm, hx, hrun, Result.andThen]
  exact hK' _ _ hK
theorem wpList_mlen (hg : o.guard = none) (m : Operand) (t : TypeId) (hop : o.op = Op.call { callee := Callee.builtin Builtin.len, args := #[m], argTypes := #[t] }) {mv v : Value} (hm : a.eval m = mv)
    (hrun : (Builtin.len_ #[t] o.type #[mv]).run P w = .ok v w) (hK : wpList P ops Q rest (a.put o.dst v) w) : wpList P ops Q (o :: rest) a w := by
  refine wpList_plain hg fun K' hK' => ?_
  unfold Oper.wp
  simp [execOp, hop, resolve, invoke, builtin, hm, hrun, Result.andThen]
  exact hK' _ _ hK
theorem wpList_mupdate (hg : o.guard = none) (m x v : Operand) (t : TypeId) (hop : o.op = Op.mapUpdate t m x v) {mv key val : Value} {w' : World} (hm : a.eval m = mv) (hx : a.eval x = key) (hv : a.eval v = val) (hrun : (Instr.mapUpdate t mv key val).run P w = .ok () w')
    (hK : wpList P ops Q rest (a.put o.dst undef) w') : wpList P ops Q (o :: rest) a w := by
  refine wpList_plain hg fun K' hK' => ?_
  unfold Oper.wp
  simp [execOp, hop, hm, hx, hv, hrun, Result.andThen]
  exact hK' _ _ hK
theorem wpList_mdelete (hg : o.guard = none) (m x : Operand) (t k : TypeId) (hop : o.op = Op.call { callee := Callee.builtin Builtin.delete, args := #[m, x], argTypes := #[t, k] }) {mv key : Value} {w' : World} (hm : a.eval m = mv) (hx : a.eval x = key)
    (hrun : (Builtin.delete_ #[t, k] o.type #[mv, key]).run P w = .ok (.tuple #[]) w') (hK : wpList P ops Q rest (a.put o.dst (.tuple #[])) w') : wpList P ops Q (o :: rest) a w := by
  refine wpList_plain hg fun K' hK' => ?_
  unfold Oper.wp
  simp [execOp, hop, resolve, invoke, builtin, hm, hx, hrun, Result.andThen]
  exact hK' _ _ hK
end
end Go.Proofs.Ytebmbfiiadffjaa
