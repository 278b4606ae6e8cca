/- More laws on slices of one's own: append with room, clear, slicing, elements. -/
import Derived.Test.YtebmbfiiadffjaaBase
namespace Go.Proofs.Ytebmbfiiadffjaa
open Go.RowKit

/-- One block of what is owned is turned. -/
theorem Step.change {w w' w2 : World} {H A B : Heaplet} {b : Nat} {o o' : Obj} (h : Step w H w' (A ++ (b, o) :: B)) (hos : w2.os = w'.os) (ht : w2.tape = w'.tape) (hou : w2.output = w'.output) (hs : w2.heap.size = w'.heap.size)
    (hb : w2.heap[b]? = some o') (hn : ∀ x, x ≠ b → w2.heap[x]? = w'.heap[x]?) : Step w H w2 (A ++ (b, o') :: B) := by
  have hk : dom (A ++ (b, o') :: B) = dom (A ++ (b, o) :: B) := by simp [dom]
  have hnd := h.own.nodup
  refine ⟨hos.trans h.os, ht.trans h.tape, hou.trans h.output, by rw [hs]; exact h.size, fun x hx hnx => ?_, ⟨fun e he => ?_, hk ▸ hnd⟩, fun x hx => h.keys x (hk ▸ hx)⟩
  · by_cases e : x = b
    · subst e
      rcases h.keys x (by simp [dom]) with g | g
      · exact absurd g hnx
      · omega
    · rw [hn _ e]; exact h.frame x hx hnx
  · rcases List.mem_append.1 he with g | g
    · have : e.1 ≠ b := fun x => by
        have hd := (List.nodup_append.1 (by rw [dom_append] at hnd; exact hnd)).2.2
        exact hd e.1 (List.mem_map.2 ⟨e, g, rfl⟩) b (by simp [dom]) x
      rw [hn _ this]; exact h.own.has e (List.mem_append_left _ g)
    · rcases List.mem_cons.1 g with rfl | g
      · exact hb
      · have : e.1 ≠ b := fun x => by
          rw [dom_append] at hnd
          have hd := (List.nodup_append.1 hnd).2.1
          simp only [dom, List.map_cons, List.nodup_cons] at hd
          exact hd.1 (x ▸ List.mem_map.2 ⟨e, g, rfl⟩)
        rw [hn _ this]; exact h.own.has e (List.mem_append_right _ (List.mem_cons_of_mem _ g))
theorem Step.setRow {w w' : World} {H B : Heaplet} {b : Nat} {c : Array Value} {T : TypeId} {f : Nat × Nat} (cs : Array Value) (h : Step w H w' ((b, .cells c T f) :: B)) :
    Step w H (w'.setRow b cs) ((b, .cells cs T f) :: B) :=
  Step.change (A := []) h rfl rfl rfl (by simp) (setRow_heap _ _ _ _ _ _ h.own.head) (fun x hx => setRow_other _ _ _ _ hx)

section
variable {P : Program}
/-- An append that finds room: the array stays. -/
theorem run_app_room (w : World) {t e k bytes : Nat} {z : Value} (S : SlTy P t e k bytes z) (ty : TypeId)
    {b : Option Addr} {n cp : Nat} {xv : Value} {m : Nat} {xs news : List Value} {H : Heaplet} (hv : SlRep e k b n cp xs H) (hw : Own w H) (hn : RdCells w xv m k news) (hroom : n + m ≤ cp) :
    ∃ w' H', (Builtin.append_ #[t, t] ty #[.slice b n cp, xv]).run P w = .ok (.slice b (n + m) cp) w' ∧ SlRep e k b (n + m) cp (xs ++ news) H' ∧ Step w H w' H' := by
  obtain ⟨hl, h1, ⟨rfl, rfl⟩ | ⟨ad, c, rfl, hc⟩⟩ := hn
  · have : news = [] := by simpa using hl
    subst this
    exact ⟨w, H, run_app_none w S ty hv hw, by simpa using hv, Step.refl hw⟩
  obtain ⟨i0, hi, hz0, hz1, hz2⟩ := info_parts S.info
  obtain ⟨hxl, hv⟩ := hv
  rcases hv with ⟨rfl, rfl, rfl, rfl⟩ | ⟨g, cur, rfl, rfl, h2, h3, h4, h5⟩
  · have : m = 0 := by omega
    subst this
    have : news = [] := by simpa using hl
    subst this
    refine ⟨w, [], ?_, ⟨by simpa using hxl, .inl ⟨rfl, rfl, rfl, rfl⟩⟩, Step.refl hw⟩
    simp [Builtin.append_, run_underlying S.under, run_sizeOf (w := w) hi, Builtin.lenOf, Builtin.firstCells, loadCells, loadCellsFrom]
  · subst hz1
    have hfit : n * i0.size + news.length ≤ cur.size := by rw [h4, hl, ← Nat.add_mul]; exact Nat.mul_le_mul_right _ hroom
    refine ⟨_, _, run_append_room (P := P) w t ty e i0 S.under hi g n cp cur hw.head ad m c news hl hc h1 hroom hfit, ⟨?_, .inr ⟨g, _, rfl, rfl, hroom, h3, ?_, ?_⟩⟩, Step.setRow _ (Step.refl hw)⟩
    · rw [List.length_append, hxl, hl, Nat.add_mul]
    · simp only [List.size_toArray, List.length_append, List.length_take, List.length_drop, Array.length_toList]; omega
    · have e1 : (cur.toList.take (n * i0.size) ++ news).length = (n + m) * i0.size := by
        rw [List.length_append, List.length_take, hl, Array.length_toList, Nat.add_mul]; omega
      show List.take ((n + m) * i0.size) (cur.toList.take (n * i0.size) ++ news ++ _) = _
      rw [← e1, List.take_left, h5]
theorem wp_app_room {o : Oper} {a : Act} {K : Act → World → Prop} {Q : Exit → Act → World → Prop} {w : World} {t e k bytes : Nat} {z : Value} (S : SlTy P t e k bytes z) (s x : Operand)
    (ho : o.op = .call { callee := .builtin .append, args := #[s, x], argTypes := #[t, t] })
    {b : Option Addr} {n cp : Nat} {xv : Value} {m : Nat} {xs news : List Value} {H : Heaplet} (hs : a.eval s = .slice b n cp) (hx : a.eval x = xv) (hv : SlRep e k b n cp xs H) (hw : Own w H) (hn : RdCells w xv m k news)
    (hroom : n + m ≤ cp) (h : ∀ w' H', SlRep e k b (n + m) cp (xs ++ news) H' → Step w H w' H' → K (a.put o.dst (.slice b (n + m) cp)) w') : o.wp P a w K Q := by
  obtain ⟨w', H', hr, h1, h2⟩ := run_app_room w S o.type hv hw hn hroom
  unfold Oper.wp execOp
  simp only [ho, resolve, invoke, builtin, Sem.run_bind, Sem.run_pure, Result.andThen_ok, List.map_toArray, List.map_cons, List.map_nil, hs, hx, hr]
  exact h w' H' h1 h2
theorem wpList_app_room {ops : Array Oper} {rest : List Oper} {o : Oper} {a : Act} {Q : Exit → Act → World → Prop} {w : World} (hgd : o.guard = none) {t e k bytes : Nat} {z : Value} (S : SlTy P t e k bytes z) (s x : Operand)
    (ho : o.op = .call { callee := .builtin .append, args := #[s, x], argTypes := #[t, t] })
    {b : Option Addr} {n cp : Nat} {xv : Value} {m : Nat} {xs news : List Value} {H : Heaplet} (hs : a.eval s = .slice b n cp) (hx : a.eval x = xv) (hv : SlRep e k b n cp xs H) (hw : Own w H) (hn : RdCells w xv m k news)
    (hroom : n + m ≤ cp) (h : ∀ w' H', SlRep e k b (n + m) cp (xs ++ news) H' → Step w H w' H' → wpList P ops Q rest (a.put o.dst (.slice b (n + m) cp)) w') : wpList P ops Q (o :: rest) a w :=
  wpList_plain hgd fun _ hK => wp_app_room S s x ho hs hx hv hw hn hroom fun w' H' h2 h3 => hK _ _ (h w' H' h2 h3)
theorem step_app_room {ops : Array Oper} {o : Oper} {a : Act} {K : Act → World → Prop} {Q : Exit → Act → World → Prop} {E : Prop} {w : World} (hgd : o.guard = none) {t e k bytes : Nat} {z : Value} (S : SlTy P t e k bytes z) (s x : Operand)
    (ho : o.op = .call { callee := .builtin .append, args := #[s, x], argTypes := #[t, t] })
    {b : Option Addr} {n cp : Nat} {xv : Value} {m : Nat} {xs news : List Value} {H : Heaplet} (hs : a.eval s = .slice b n cp) (hx : a.eval x = xv) (hv : SlRep e k b n cp xs H) (hw : Own w H) (hn : RdCells w xv m k news)
    (hroom : n + m ≤ cp) (h : ∀ w' H', SlRep e k b (n + m) cp (xs ++ news) H' → Step w H w' H' → K (a.put o.dst (.slice b (n + m) cp)) w') :
    if Region.wanted o (yielded ops a.tmps) = true then Oper.wp P o a w K Q else E := by
  have hw' : Region.wanted o (yielded ops a.tmps) = true := by simp [Region.wanted, hgd]
  rw [if_pos hw']
  exact wp_app_room S s x ho hs hx hv hw hn hroom h

/-- clear of what lies behind the first n elements. -/
theorem run_clear_tail (w : World) {t e k bytes : Nat} {z : Value} (S : SlTy P t e k bytes z) (hz : ∀ u ∈ z.cells.toList, u.oneCell' = true) (ty : TypeId)
    {g n m cp c' : Nat} {xs : List Value} {H : Heaplet} {ad : Addr} (hv : SlRep e k (some ⟨g, 0, none⟩) n cp xs H) (hw : Own w H) (hfit : n + m ≤ cp) (had : m ≠ 0 → ad = ⟨g, n * k, none⟩) :
    ∃ w' H', (Builtin.clear_ #[t] ty #[.slice (some ad) m c']).run P w = .ok (.tuple #[]) w' ∧ SlRep e k (some ⟨g, 0, none⟩) n cp xs H' ∧ Step w H w' H' := by
  obtain ⟨i0, hi, hz0, hz1, hz2⟩ := info_parts S.info
  by_cases hm : m = 0
  · subst hm
    exact ⟨w, H, by simp [Builtin.clear_, run_underlying S.under], hv, Step.refl hw⟩
  · rw [had hm]
    obtain ⟨hxl, ⟨h, _⟩ | ⟨g', cur, h, rfl, h2, h3, h4, h5⟩⟩ := hv
    · cases h
    · cases h
      obtain ⟨m, rfl⟩ : ∃ m', m = m' + 1 := ⟨m - 1, by omega⟩
      have hzl : (Builtin.zeroCells z.cells (m + 1)).toList.length = (m + 1) * k := by rw [Array.length_toList, size_zeroCells, S.cells]
      have h1 : ∀ u ∈ (Builtin.zeroCells z.cells (m + 1)).toList, u.oneCell' = true := by
        intro u hu
        simp only [Builtin.zeroCells, Array.toList_map, List.mem_map] at hu
        obtain ⟨i, hi', rfl⟩ := hu
        have hlt : i % z.cells.size < z.cells.size := Nat.mod_lt _ (by rw [S.cells]; exact S.pos)
        rw [getElem!_pos z.cells _ hlt]
        exact hz _ (by simp)
      have hfit' : n * k + (m + 1) * k ≤ cur.size := by rw [h4, ← Nat.add_mul]; exact Nat.mul_le_mul_right _ hfit
      have hst := run_storeCells_at P g (n * k) e (Builtin.zeroCells z.cells (m + 1)).toList 0 cur w hw.head (by rw [hzl]; omega) h1
      refine ⟨_, _, ?_, ⟨hxl, .inr ⟨g, _, rfl, rfl, h2, h3, ?_, ?_⟩⟩, Step.setRow ((cur.toList.take (n * k + 0) ++ (Builtin.zeroCells z.cells (m + 1)).toList ++ cur.toList.drop (n * k + 0 + (Builtin.zeroCells z.cells (m + 1)).toList.length)).toArray) (Step.refl hw)⟩
      · simp [Builtin.clear_, run_underlying S.under, zeroValue, typeInfo, hi, hz0]
        simp at hst
        rw [hst]
        simp
      · simp only [List.size_toArray, List.length_append, List.length_take, List.length_drop, hzl, Array.length_toList]; omega
      · have e1 : (cur.toList.take (n * k + 0)).length = n * k := by rw [List.length_take, Array.length_toList]; omega
        show List.take (n * k) (cur.toList.take (n * k + 0) ++ _ ++ _) = _
        rw [List.append_assoc, List.take_append_of_le_length (by omega), Nat.add_zero, List.take_take, Nat.min_self, h5]
theorem wpList_clear_tail {ops : Array Oper} {rest : List Oper} {o : Oper} {a : Act} {Q : Exit → Act → World → Prop} {w : World} (hgd : o.guard = none) {t e k bytes : Nat} {z : Value} (S : SlTy P t e k bytes z) (hz : ∀ u ∈ z.cells.toList, u.oneCell' = true) (x : Operand)
    (ho : o.op = .call { callee := .builtin .clear, args := #[x], argTypes := #[t] })
    {g n m cp c' : Nat} {xs : List Value} {H : Heaplet} {ad : Addr} (hx : a.eval x = .slice (some ad) m c') (hv : SlRep e k (some ⟨g, 0, none⟩) n cp xs H) (hw : Own w H) (hfit : n + m ≤ cp) (had : m ≠ 0 → ad = ⟨g, n * k, none⟩)
    (h : ∀ w' H', SlRep e k (some ⟨g, 0, none⟩) n cp xs H' → Step w H w' H' → wpList P ops Q rest (a.put o.dst (.tuple #[])) w') : wpList P ops Q (o :: rest) a w :=
  wpList_plain hgd fun _ hK => by
    obtain ⟨w', H', hr, h1, h2⟩ := run_clear_tail w S hz o.type hv hw hfit had (c' := c')
    unfold Oper.wp execOp
    simp only [ho, resolve, invoke, builtin, Sem.run_bind, Sem.run_pure, Result.andThen_ok, List.map_toArray, List.map_cons, List.map_nil, hx, hr]
    exact hK _ _ (h w' H' h1 h2)
end
theorem slRep_at {E : Nat} {a : Option Addr} {n c : Nat} {xs : List Value} {H : Heaplet} (h : SlRep E 1 a n c xs H) {w : World} (hw : Own w H) {i : Nat} {v : Value} (hi : xs[i]? = some v) : ∃ g, a = some ⟨g, 0, none⟩ ∧ w.cell? ⟨g, 0 + i, none⟩ = some v ∧ n ≤ c := by
  obtain ⟨hl, ⟨rfl, rfl, rfl, rfl⟩ | ⟨g, cur, rfl, rfl, h2, h3, h4, h5⟩⟩ := h
  · simp at hl; subst hl; simp at hi
  · refine ⟨g, rfl, cell_of hw.head ?_, h2⟩
    rw [← h5, List.getElem?_take] at hi
    split at hi
    · simpa using hi
    · cases hi
end Go.Proofs.Ytebmbfiiadffjaa
