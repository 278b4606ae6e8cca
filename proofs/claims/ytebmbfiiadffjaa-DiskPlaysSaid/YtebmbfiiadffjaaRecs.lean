/- Slices of structs that are read. -/
import Derived.Test.YtebmbfiiadffjaaPure
import Derived.Deep.Slices
import Derived.Deep.Fields
import Derived.Deep.Strs
import Derived.ChangeSame
namespace Go.Proofs.Ytebmbfiiadffjaa
open Go.RowKit

/-- '.slice a n c' reads in w as the records l, k cells each. -/
def RdRecs {α : Type} (w : World) (a : Option Addr) (n c k : Nat) (f : α → List Value) (l : List α) : Prop :=
  n = l.length ∧ n ≤ c ∧ c ≤ maxLen ∧ (l ≠ [] → ∃ b off, a = some ⟨b, off, none⟩ ∧ ∀ i x, l[i]? = some x → ∀ j v, (f x)[j]? = some v → w.cell? ⟨b, off + i * k + j, none⟩ = some v)
theorem RdRecs.eq {α : Type} {w w' : World} {a : Option Addr} {n c k : Nat} {f : α → List Value} {l : List α} (h : RdRecs w a n c k f l) (he : ∀ b, b < w.heap.size → w'.heap[b]? = w.heap[b]?) : RdRecs w' a n c k f l := by
  obtain ⟨h1, h2, h3, h4⟩ := h
  refine ⟨h1, h2, h3, fun hne => ?_⟩
  obtain ⟨b, off, ha, hx⟩ := h4 hne
  exact ⟨b, off, ha, fun i x hi j v hj => by rw [World.cell?_of_block (w := w) (he b (World.block_lt_of_cell? w _ (hx i x hi j v hj)))]; exact hx i x hi j v hj⟩
theorem RdRecs.later {α : Type} {w w' : World} {a : Option Addr} {n c k : Nat} {f : α → List Value} {l : List α} (h : RdRecs w a n c k f l) {G : Heaplet} (s : Step w [] w' G) : RdRecs w' a n c k f l :=
  h.eq fun b hb => s.frame b hb (by simp [dom])
theorem RdRecs.at' {α : Type} {w : World} {a : Option Addr} {n c k : Nat} {f : α → List Value} {l : List α} (h : RdRecs w a n c k f l) {i : Nat} {x : α} (hi : l[i]? = some x) :
    ∃ b off, a = some ⟨b, off, none⟩ ∧ ∀ j v, (f x)[j]? = some v → w.cell? ⟨b, off + i * k + j, none⟩ = some v := by
  obtain ⟨b, off, ha, hx⟩ := h.2.2.2 (by intro e; subst e; simp at hi)
  exact ⟨b, off, ha, hx i x hi⟩
section
variable {H : Type} {enc : TypeId × Value → H} {P : Program} {w : World} {base : Nat} {held : Bool}
theorem open_recs {α : Type} [Inhabited α] {t e k : TypeId} {fuel : Nat} {a : Option Addr} {n c : Nat} {d : DataW H} {pl : List MemPlace} (f : α → List Value) (Q : α → Prop) (ht : P.underlying t = some (.slice e)) (ck : P.cellsOf e = k)
    (hk : 0 < k) (hopen : ∀ (fuel : Nat) (cs : List Value) (d : DataW H) (pl : List MemPlace), DataW.trod enc P w base (fun _ => true) held fuel e cs = some (d, pl) → Reached P e d → ∃ x, cs = f x ∧ Q x)
    (h : DataW.trod enc P w base (fun _ => true) held fuel t (Value.slice a n c).cells.toList = some (d, pl)) (hr : Reached P t d) :
    ∃ l : List α, RdRecs w a n c k f l ∧ (∀ x ∈ l, Q x) ∧ l.length * P.bytesOf e ≤ reachBytes := by
  rcases Deep.open_slice ht h with ⟨hcs, _⟩ | ⟨ad, l, cp, m, q, D, Pl, hcs, _, hl, hm, hmm, hd, hx⟩
  · simp [Value.cells] at hcs
    obtain ⟨rfl, rfl, rfl⟩ := hcs
    exact ⟨[], ⟨rfl, Nat.le_refl _, Nat.zero_le _, fun h => absurd rfl h⟩, by simp, by simp⟩
  · simp [Value.cells] at hcs
    obtain ⟨rfl, rfl, rfl⟩ := hcs
    simp only [if_true] at hmm
    subst hmm
    obtain ⟨rfl, _⟩ := Prod.mk.inj hd
    rw [ck] at hx
    have hel : ∀ i, i < n → ∃ x, w.cells? base (ad.add (i * k)) k = some (f x) ∧ Q x := fun i hi => by
      obtain ⟨cs, h1, h2⟩ := hx i (by omega)
      have hre : Reached P e (D i) := fun z hz => hr z (by
        rw [DataW.weights, ht]
        exact List.mem_cons_of_mem _ (List.mem_append_left _ (weights_all_mem (List.mem_map.2 ⟨i, List.mem_range.2 hi, rfl⟩) z hz)))
      obtain ⟨x, rfl, hq⟩ := hopen q cs (D i) (Pl i) h2 hre
      exact ⟨x, h1, hq⟩
    obtain ⟨X, hX⟩ := Deep.choose_lt hel
    have hw := hr _ (by rw [DataW.weights, ht]; exact List.mem_cons_self ..)
    refine ⟨(List.range n).map X, ⟨by simp, hl, hm, fun hne => ?_⟩, fun x hx' => ?_, ?_⟩
    · have hn : 0 < n := by
        rcases Nat.eq_zero_or_pos n with e | e
        · subst e; simp at hne
        · exact e
      obtain ⟨b, off, spot⟩ := ad
      have h0 := (World.cells?_some (hX 0 hn).1)
      cases spot with
      | some s =>
        exfalso
        have h1 := h0.2.2 0 hk
        rw [Nat.zero_mul, Addr.add_zero', Addr.add_zero', List.getElem?_eq_getElem (by rw [h0.2.1]; exact hk)] at h1
        simp [World.cell?] at h1; split at h1 <;> simp_all
      | none =>
        refine ⟨b, off, rfl, fun i x hi j v hj => ?_⟩
        have hin : i < n := by have := (List.getElem?_eq_some_iff.1 hi).1; simpa using this
        have hxe : x = X i := by
          rw [List.getElem?_map, List.getElem?_range hin] at hi
          exact (Option.some.inj hi).symm
        subst hxe
        obtain ⟨_, h2, h3⟩ := World.cells?_some (hX i hin).1
        have hjk : j < k := by have := (List.getElem?_eq_some_iff.1 hj).1; omega
        have := h3 j hjk
        rw [hj, Addr.add_lit, Addr.add_lit] at this
        exact this
    · obtain ⟨i, hi, rfl⟩ := List.mem_map.1 hx'
      exact (hX i (List.mem_range.1 hi)).2
    · simp only [List.length_map, List.length_range] at hw ⊢
      refine Nat.le_trans ?_ hw
      exact Nat.mul_le_mul_right _ (by omega)
theorem list2 {cs : List Value} (h : cs.length = 2) : ∃ x y, cs = [x, y] := by
  match cs, h with
  | [x, y], _ => exact ⟨x, y, rfl⟩
/-- A struct of two ints. -/
theorem open_int2 {T ti : TypeId} {f0 f1 : Field} {fuel : Nat} {cs : List Value} {d : DataW H} {pl : List MemPlace} (hs : P.underlying T = some (.struct #[f0, f1])) (e0 : f0.type = ti) (e1 : f1.type = ti) (hi : P.underlying ti = some (.int .i64))
    (hC : P.cellsOf T = 2) (ho : Deep.oneCellFields P #[f0, f1] = true) (h : DataW.trod enc P w base (fun _ => true) held fuel T cs = some (d, pl)) :
    ∃ x : Int × Int, cs = [.int .i64 x.1, .int .i64 x.2] ∧ (Lit.int .i64 x.1).wf = true ∧ (Lit.int .i64 x.2).wf = true := by
  obtain ⟨y0, y1, n, hx, hl, h0, h1⟩ := ChangeShapes.trod_struct2 hs h
  obtain ⟨x, y, rfl⟩ := list2 (hl.trans hC)
  obtain ⟨o0, k0⟩ := Deep.hone_of ho 0 f0 rfl
  obtain ⟨o1, k1⟩ := Deep.hone_of ho 1 f1 rfl
  rw [o0, k0] at h0
  rw [o1, k1] at h1
  simp only [List.drop_zero, List.drop_succ_cons, List.take_succ_cons, List.take_zero] at h0 h1
  subst e0
  rw [e1] at h1
  obtain ⟨f, g0, _, wf⟩ := DataW.trod_int hi h0
  obtain ⟨t, g1, _, wt⟩ := DataW.trod_int hi h1
  cases g0; cases g1
  exact ⟨(f, t), rfl, wf, wt⟩
/-- A struct of three ints. -/
theorem open_int3 {T ti : TypeId} {f0 f1 f2 : Field} {fuel : Nat} {cs : List Value} {d : DataW H} {pl : List MemPlace} (hs : P.underlying T = some (.struct #[f0, f1, f2])) (e0 : f0.type = ti) (e1 : f1.type = ti) (e2 : f2.type = ti) (hi : P.underlying ti = some (.int .i64))
    (hC : P.cellsOf T = 3) (ho : Deep.oneCellFields P #[f0, f1, f2] = true) (h : DataW.trod enc P w base (fun _ => true) held fuel T cs = some (d, pl)) :
    ∃ x : Int × Int × Int, cs = [.int .i64 x.1, .int .i64 x.2.1, .int .i64 x.2.2] ∧ (Lit.int .i64 x.1).wf = true ∧ (Lit.int .i64 x.2.1).wf = true ∧ (Lit.int .i64 x.2.2).wf = true := by
  obtain ⟨y0, y1, y2, n, hx, hl, h0, h1, h2⟩ := Deep.trod_struct3 hs h
  obtain ⟨x, y, z, rfl⟩ := list3 (hl.trans hC)
  obtain ⟨o0, k0⟩ := Deep.hone_of ho 0 f0 rfl
  obtain ⟨o1, k1⟩ := Deep.hone_of ho 1 f1 rfl
  obtain ⟨o2, k2⟩ := Deep.hone_of ho 2 f2 rfl
  rw [o0, k0] at h0
  rw [o1, k1] at h1
  rw [o2, k2] at h2
  simp only [List.drop_zero, List.drop_succ_cons, List.take_succ_cons, List.take_zero] at h0 h1 h2
  subst e0
  rw [e1] at h1
  rw [e2] at h2
  obtain ⟨f, g0, _, wf⟩ := DataW.trod_int hi h0
  obtain ⟨t, g1, _, wt⟩ := DataW.trod_int hi h1
  obtain ⟨u, g2, _, wu⟩ := DataW.trod_int hi h2
  cases g0; cases g1; cases g2
  exact ⟨(f, t, u), rfl, wf, wt, wu⟩
end
end Go.Proofs.Ytebmbfiiadffjaa
