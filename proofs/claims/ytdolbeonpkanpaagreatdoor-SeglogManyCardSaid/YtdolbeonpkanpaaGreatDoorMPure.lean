/- Arguments that came in, as lists. Slices of structs that are read. A struct of one-cell fields that is read, field by field. -/
import Derived.Test.YtdolbeonpkanpaaGreatDoorReg
import Derived.Test.YtdolbeonpkanpaaGreatDoorMSl
import Derived.Deep.Matrix
import Derived.ProofKit
import Derived.OpenShut
import Derived.ShutString
import Derived.ChangeOld
import Derived.SizedLaws
import Derived.Deep.Strs
import Derived.Deep.Fields
import Derived.Deep.Slices
import Derived.ChangeSame
set_option linter.unusedVariables false
set_option linter.unusedSimpArgs false
namespace Go.Proofs.YtdolbeonpkanpaaGreatDoor
open Go.RowKit Go.ChangeShapes Go.WideShapes Go.ChangeAt
/-- '.slice a n c' reads in w as the rows l: row i is '.slice (A i) l[i].length (C i)'. -/
def RdRows (w : World) (a : Option Addr) (n c : Nat) (l : List (List UInt8)) (A : Nat → Option Addr) (C : Nat → Nat) : Prop :=
  n = l.length ∧ n ≤ c ∧ c ≤ maxLen ∧ (l ≠ [] → ∃ b off, a = some ⟨b, off, none⟩ ∧ ∀ i (hi : i < l.length), w.cell? ⟨b, off + i, none⟩ = some (.slice (A i) l[i].length (C i)) ∧ RdBytes w (A i) l[i].length (C i) l[i])
theorem u8_of_wf {x : Int} (h : (Lit.int .u8 x).wf = true) : u8 (UInt8.ofNat x.toNat) = .int .u8 x := by
  simp [Lit.wf, IntKind.min, IntKind.max, IntKind.bits, IntKind.signed] at h
  have h1 : x.toNat < 256 := by omega
  have : (UInt8.ofNat x.toNat).toNat = x.toNat := by rw [UInt8.toNat_ofNat']; exact Nat.mod_eq_of_lt h1
  unfold u8; rw [this]; congr 1; omega
def toBytes (zs : List Int) : List UInt8 := zs.map fun z => UInt8.ofNat z.toNat
theorem rdBytes_of_ints {w : World} {ad : Addr} {n c : Nat} {zs : List Int} (hl : n ≤ c) (hm : c ≤ maxLen) (hz : zs.length = c) (hw : ∀ z ∈ zs, (Lit.int .u8 z).wf = true) (hc : ∀ i, i < c → w.cell? (ad.add i) = some (.int .u8 (zs.getD i 0))) :
    RdBytes w (some ad) n c (toBytes (zs.take n)) := by
  refine ⟨by simp [toBytes]; omega, .inr ⟨ad, rfl, hl, hm, fun i x hi => ?_⟩⟩
  simp only [toBytes, List.getElem?_map, List.getElem?_take] at hi
  split at hi
  · obtain ⟨z, hz', rfl⟩ := Option.map_eq_some_iff.1 hi
    rw [hc i (by omega), u8_of_wf (hw z (List.mem_of_getElem? hz'))]
    simp [hz']
  · cases hi
theorem weights_all_mem {H : Type} {P : Program} {e : TypeId} : ∀ {ds : List (DataW H)} {d : DataW H}, d ∈ ds → ∀ n ∈ d.weights P e, n ∈ DataW.weightsAll P e ds
  | d :: r, x, h, n, hn => by
    rw [DataW.weightsAll]
    rcases List.mem_cons.1 h with rfl | h
    · exact List.mem_append_left _ hn
    · exact List.mem_append_right _ (weights_all_mem h n hn)
/-- Every slice that is met in reading d lies within the form's reach. -/
def Reached {H : Type} (P : Program) (t : TypeId) (d : DataW H) : Prop := ∀ n ∈ d.weights P t, n ≤ reachBytes
theorem reached_of {H : Type} {P : Program} {ts : List TypeId} {ds : List (DataW H)} (h : (DataW.weightsEach P ts ds).all (· ≤ reachBytes) = true) {j : Nat} {t : TypeId} {d : DataW H} (ht : ts[j]? = some t) (hd : ds[j]? = some d) : Reached P t d :=
  fun n hn => by simpa using List.all_eq_true.1 h _ (DataW.weights_mem_each ht hd n hn)
section
variable {H : Type} {enc : TypeId × Value → H} {P : Program} {w : World} {base : Nat} {held : Bool}
theorem open_bytes0 {t e : TypeId} {fuel : Nat} {cs : List Value} {d : DataW H} {pl : List MemPlace} (ht : P.underlying t = some (.slice e)) (he : P.underlying e = some (.int .u8)) (ce : P.cellsOf e = 1) (be : P.bytesOf e = 1)
    (h : DataW.trod enc P w base (fun _ => true) held fuel t cs = some (d, pl)) (hr : Reached P t d) : ∃ a n c l, cs = [.slice a n c] ∧ RdBytes w a n c l ∧ l.length ≤ 140737488351232 := by
  rcases open_ints ht he ce h with ⟨rfl, _⟩ | ⟨ad, l, cp, zs, rfl, _, hl, hm, hz, hd, hcell, hwz⟩
  · exact ⟨_, _, _, [], rfl, ⟨rfl, .inl ⟨rfl, rfl, rfl⟩⟩, by simp⟩
  · simp only [if_true] at hz
    obtain ⟨rfl, _⟩ := Prod.mk.inj hd
    have := hr _ (by rw [DataW.weights, ht]; exact List.mem_cons_self ..)
    rw [be] at this
    simp only [lits, List.length_map, List.length_take, List.length_drop, reachBytes] at this
    refine ⟨_, _, _, _, rfl, rdBytes_of_ints hl hm hz hwz (fun i hi => hcell i (by omega)), ?_⟩
    simp [toBytes]; omega
theorem open_bytes {t e : TypeId} {fuel : Nat} {a : Option Addr} {n c : Nat} {d : DataW H} {pl : List MemPlace} (ht : P.underlying t = some (.slice e)) (he : P.underlying e = some (.int .u8)) (ce : P.cellsOf e = 1) (be : P.bytesOf e = 1)
    (h : DataW.trod enc P w base (fun _ => true) held fuel t (Value.slice a n c).cells.toList = some (d, pl)) (hr : Reached P t d) : ∃ l, RdBytes w a n c l ∧ l.length ≤ 140737488351232 := by
  obtain ⟨a', n', c', l, hcs, h1, h2⟩ := open_bytes0 ht he ce be h hr
  simp [Value.cells] at hcs
  obtain ⟨rfl, rfl, rfl⟩ := hcs
  exact ⟨l, h1, h2⟩
theorem reached_part {T : TypeId} {fs : Array Field} {parts : List (DataW H)} (hs : P.underlying T = some (.struct fs)) (hr : Reached P T (.agg parts)) {j : Nat} {f : Field} {d : DataW H} (hf : fs[j]? = some f) (hd : parts[j]? = some d) : Reached P f.type d := by
  intro n hn
  refine hr n ?_
  rw [DataW.weights, hs]
  exact DataW.weights_mem_each (j := j) (t := f.type) (by simp [hf]) hd n hn
theorem list3 {cs : List Value} (h : cs.length = 3) : ∃ x y z, cs = [x, y, z] := by
  match cs, h with
  | [x, y, z], _ => exact ⟨x, y, z, rfl⟩
/-- A struct of two ints and bytes. -/
theorem open_msg0 {T tb e ti : TypeId} {f0 f1 f2 : Field} {fuel : Nat} {cs : List Value} {d : DataW H} {pl : List MemPlace} (hs : P.underlying T = some (.struct #[f0, f1, f2])) (e0 : f0.type = ti) (e1 : f1.type = ti) (e2 : f2.type = tb) (hi : P.underlying ti = some (.int .i64))
    (hC : P.cellsOf T = 3) (ht : P.underlying tb = some (.slice e)) (he : P.underlying e = some (.int .u8)) (ce : P.cellsOf e = 1) (be : P.bytesOf e = 1)
    (h : DataW.trod enc P w base (fun _ => true) held fuel T cs = some (d, pl)) (ho : Deep.oneCellFields P #[f0, f1, f2] = true) (hr : Reached P T d) :
    ∃ f t a n c l, cs = [.int .i64 f, .int .i64 t, .slice a n c] ∧ (Lit.int .i64 f).wf = true ∧ (Lit.int .i64 t).wf = true ∧ RdBytes w a n c l ∧ l.length ≤ 140737488351232 := by
  obtain ⟨y0, y1, y2, n, hx, hl, h0, h1, h2⟩ := Deep.trod_struct3 hs h
  obtain ⟨x, y, z, rfl⟩ := list3 (hl.trans hC)
  obtain ⟨o0, k0⟩ := Deep.hone_of ho 0 f0 rfl
  obtain ⟨o1, k1⟩ := Deep.hone_of ho 1 f1 rfl
  obtain ⟨o2, k2⟩ := Deep.hone_of ho 2 f2 rfl
  rw [o0, k0] at h0
  rw [o1, k1] at h1
  rw [o2, k2] at h2
  simp only [List.drop_zero, List.drop_succ_cons, List.take_succ_cons, List.take_zero] at h0 h1 h2
  simp only [Prod.mk.injEq] at hx
  obtain ⟨rfl, _⟩ := hx
  have hr2 : Reached P f2.type y2.1 := reached_part hs hr (j := 2) rfl rfl
  subst e0
  rw [e1] at h1
  rw [e2] at h2 hr2
  obtain ⟨f, g0, _, wf⟩ := DataW.trod_int hi h0
  obtain ⟨t, g1, _, wt⟩ := DataW.trod_int hi h1
  obtain ⟨a, n, c, l, g2, g3, g4⟩ := open_bytes0 ht he ce be h2 hr2
  cases g0; cases g1; cases g2
  exact ⟨f, t, a, n, c, l, rfl, wf, wt, g3, g4⟩
theorem open_rows {t e q : TypeId} {fuel : Nat} {a : Option Addr} {n c : Nat} {d : DataW H} {pl : List MemPlace} (ht : P.underlying t = some (.slice e)) (he : P.underlying e = some (.slice q)) (hq : P.underlying q = some (.int .u8))
    (ce : P.cellsOf e = 1) (cq : P.cellsOf q = 1) (bq : P.bytesOf q = 1) (h : DataW.trod enc P w base (fun _ => true) held fuel t (Value.slice a n c).cells.toList = some (d, pl)) (hr : Reached P t d) :
    ∃ l A C, RdRows w a n c l A C ∧ ∀ x ∈ l, x.length ≤ 140737488351232 := by
  rcases Deep.open_int_rows ht he hq ce cq h with ⟨hcs, _⟩ | ⟨ad, len, cap, A, L, C, Z, hcs, _, hl, hm, hd, hx⟩
  · simp [Value.cells] at hcs
    obtain ⟨rfl, rfl, rfl⟩ := hcs
    exact ⟨[], fun _ => none, fun _ => 0, ⟨rfl, Nat.le_refl _, Nat.zero_le _, fun h => absurd rfl h⟩, by simp⟩
  · simp [Value.cells] at hcs
    obtain ⟨rfl, rfl, rfl⟩ := hcs
    obtain ⟨rfl, _⟩ := Prod.mk.inj hd
    have hrow : ∀ r, r < n → RdBytes w (A r) (L r) (C r) (toBytes ((Z r).take (L r))) := by
      intro r hr
      obtain ⟨_, h1, h2, h3, h4, h5, h6⟩ := hx r (by omega)
      cases hA : A r with
      | none =>
        have h0 := h5 hA
        have hL : L r = 0 := by omega
        rw [hL, h0]
        exact ⟨by simp [toBytes], .inl ⟨rfl, rfl, by simp [toBytes]⟩⟩
      | some a' => exact rdBytes_of_ints h1 h2 h3 h4 (h6 a' hA).2
    refine ⟨(List.range n).map fun r => toBytes ((Z r).take (L r)), A, C, ⟨by simp, hl, hm, fun hne => ?_⟩, fun x hx' => ?_⟩
    · have hn : 0 < n := by
        rcases Nat.eq_zero_or_pos n with e | e
        · subst e; simp at hne
        · exact e
      have h0 := (hx 0 (by omega)).1
      obtain ⟨b, off, spot⟩ := ad
      cases spot with
      | some s => rw [Addr.add_zero'] at h0; simp [World.cell?] at h0; split at h0 <;> simp_all
      | none =>
        refine ⟨b, off, rfl, fun i hi => ?_⟩
        have hi' : i < n := by simpa using hi
        have hr := hrow i hi'
        have hlen := hr.1
        simp only [List.getElem_map, List.getElem_range]
        rw [← hlen]
        refine ⟨?_, hr⟩
        have := (hx i (by omega)).1
        rwa [Addr.add_lit] at this
    · obtain ⟨r, hr', rfl⟩ := List.mem_map.1 hx'
      have hrn : r < n := List.mem_range.1 hr'
      obtain ⟨_, h1, h2, h3, h4, h5, h6⟩ := hx r (by omega)
      cases hA : A r with
      | none => have h0 := h5 hA; simp [toBytes]; omega
      | some a' =>
        have hm : Deep.intRow (H := H) .u8 (A r) (L r) (Z r) ∈ (List.range n).map fun r => Deep.intRow (H := H) .u8 (A r) (L r) (Z r) := List.mem_map.2 ⟨r, hr', rfl⟩
        have := hr (L r + (C r - L r)) (by
          rw [DataW.weights, ht]
          refine List.mem_cons_of_mem _ (List.mem_append_left _ (weights_all_mem hm _ ?_))
          rw [hA, Deep.intRow, DataW.weights, he]
          refine List.mem_cons.2 (.inl ?_)
          rw [bq]
          simp [lits, h3, Nat.min_eq_left h1])
        simp only [reachBytes] at this
        simp [toBytes]; omega
end
theorem RdRows.later {w w' : World} {a : Option Addr} {n c : Nat} {l : List (List UInt8)} {A : Nat → Option Addr} {C : Nat → Nat} (h : RdRows w a n c l A C) (he : ∀ b, b < w.heap.size → w'.heap[b]? = w.heap[b]?) : RdRows w' a n c l A C := by
  obtain ⟨h1, h2, h3, h4⟩ := h
  refine ⟨h1, h2, h3, fun hne => ?_⟩
  obtain ⟨b, off, ha, hx⟩ := h4 hne
  exact ⟨b, off, ha, fun i hi => ⟨by rw [World.cell?_of_block (w := w) (he b (World.block_lt_of_cell? w _ (hx i hi).1))]; exact (hx i hi).1, (hx i hi).2.eq fun x _ hlt => he _ hlt⟩⟩
/-- '.slice a n c' reads in w as the numbers l. -/
def RdInts (w : World) (a : Option Addr) (n c : Nat) (l : List Int) : Prop :=
  n = l.length ∧ n ≤ c ∧ c ≤ maxLen ∧ (∀ x ∈ l, (Lit.int .i64 x).wf = true) ∧ (l ≠ [] → ∃ b off, a = some ⟨b, off, none⟩ ∧ ∀ i (hi : i < l.length), w.cell? ⟨b, off + i, none⟩ = some (.int .i64 l[i]))
theorem RdInts.at {w : World} {a : Option Addr} {n c : Nat} {l : List Int} (h : RdInts w a n c l) {w' : World} {H : Heaplet} (s : Step w [] w' H) {k : Nat} (hk : k < l.length) :
    ∃ b off, a = some ⟨b, off, none⟩ ∧ w'.cell? ⟨b, off + k, none⟩ = some (.int .i64 l[k]) ∧ b < w.heap.size := by
  obtain ⟨_, _, _, _, h4⟩ := h
  obtain ⟨b, off, ha, hx⟩ := h4 (by intro e; subst e; simp at hk)
  have h1 := hx k hk
  have hb := World.block_lt_of_cell? w _ h1
  exact ⟨b, off, ha, by rw [World.cell?_of_block (w := w) (s.frame b hb (by simp [dom]))]; exact h1, hb⟩
section
variable {H : Type} {enc : TypeId × Value → H} {P : Program} {w : World} {base : Nat} {held : Bool}
theorem open_intl {t e : TypeId} {fuel : Nat} {a : Option Addr} {n c : Nat} {d : DataW H} {pl : List MemPlace} (ht : P.underlying t = some (.slice e)) (he : P.underlying e = some (.int .i64)) (ce : P.cellsOf e = 1) (be : P.bytesOf e = 8)
    (h : DataW.trod enc P w base (fun _ => true) held fuel t (Value.slice a n c).cells.toList = some (d, pl)) (hr : Reached P t d) : ∃ l, RdInts w a n c l ∧ l.length * 8 ≤ 140737488351232 := by
  rcases open_ints ht he ce h with ⟨hcs, _⟩ | ⟨ad, l, cp, zs, hcs, _, hl, hm, hz, hd, hcell, hwz⟩
  · simp [Value.cells] at hcs
    obtain ⟨rfl, rfl, rfl⟩ := hcs
    exact ⟨[], ⟨rfl, Nat.le_refl _, Nat.zero_le _, by simp, fun h => absurd rfl h⟩, by simp⟩
  · simp [Value.cells] at hcs
    obtain ⟨rfl, rfl, rfl⟩ := hcs
    simp only [if_true] at hz
    obtain ⟨rfl, _⟩ := Prod.mk.inj hd
    have := hr _ (by rw [DataW.weights, ht]; exact List.mem_cons_self ..)
    rw [be] at this
    simp only [lits, List.length_map, List.length_take, List.length_drop, reachBytes] at this
    have hlen : (zs.take n).length = n := by rw [List.length_take]; omega
    refine ⟨zs.take n, ⟨hlen.symm, hl, hm, fun x hx => hwz x (List.mem_of_mem_take hx), fun hne => ?_⟩, by omega⟩
    have hn : 0 < n := by
      rcases Nat.eq_zero_or_pos n with e | e
      · subst e; simp at hne
      · exact e
    have h0 := hcell 0 (by omega)
    obtain ⟨b, off, spot⟩ := ad
    cases spot with
    | some s => rw [Addr.add_zero'] at h0; simp [World.cell?] at h0; split at h0 <;> simp_all
    | none =>
      refine ⟨b, off, rfl, fun i hi => ?_⟩
      have := hcell i (by omega)
      rw [Addr.add_lit] at this
      rw [this, List.getElem_take]
      simp [List.getD_eq_getElem?_getD, List.getElem?_eq_getElem (show i < zs.length by omega)]
end
end Go.Proofs.YtdolbeonpkanpaaGreatDoor
namespace Go.Proofs.YtdolbeonpkanpaaGreatDoor
open Go.RowKit

/-- '.slice a n c' reads in w as the records l, k cells each. -/
def RdRecs {α : Type} (w : World) (a : Option Addr) (n c k : Nat) (f : α → List Value) (l : List α) : Prop :=
  n = l.length ∧ n ≤ c ∧ c ≤ maxLen ∧ (l ≠ [] → ∃ b off, a = some ⟨b, off, none⟩ ∧ ∀ i x, l[i]? = some x → ∀ j v, (f x)[j]? = some v → w.cell? ⟨b, off + i * k + j, none⟩ = some v)
theorem RdRecs.eq {α : Type} {w w' : World} {a : Option Addr} {n c k : Nat} {f : α → List Value} {l : List α} (h : RdRecs w a n c k f l) (he : ∀ b, b < w.heap.size → w'.heap[b]? = w.heap[b]?) : RdRecs w' a n c k f l := by
  obtain ⟨h1, h2, h3, h4⟩ := h
  refine ⟨h1, h2, h3, fun hne => ?_⟩
  obtain ⟨b, off, ha, hx⟩ := h4 hne
  exact ⟨b, off, ha, fun i x hi j v hj => by rw [World.cell?_of_block (w := w) (he b (World.block_lt_of_cell? w _ (hx i x hi j v hj)))]; exact hx i x hi j v hj⟩
theorem RdRecs.later {α : Type} {w w' : World} {a : Option Addr} {n c k : Nat} {f : α → List Value} {l : List α} (h : RdRecs w a n c k f l) {G : Heaplet} (s : Step w [] w' G) : RdRecs w' a n c k f l :=
  h.eq fun b hb => s.frame b hb (by simp [dom])
theorem RdRecs.at' {α : Type} {w : World} {a : Option Addr} {n c k : Nat} {f : α → List Value} {l : List α} (h : RdRecs w a n c k f l) {i : Nat} {x : α} (hi : l[i]? = some x) :
    ∃ b off, a = some ⟨b, off, none⟩ ∧ ∀ j v, (f x)[j]? = some v → w.cell? ⟨b, off + i * k + j, none⟩ = some v := by
  obtain ⟨b, off, ha, hx⟩ := h.2.2.2 (by intro e; subst e; simp at hi)
  exact ⟨b, off, ha, hx i x hi⟩
section
variable {H : Type} {enc : TypeId × Value → H} {P : Program} {w : World} {base : Nat} {held : Bool}
theorem open_recs {α : Type} [Inhabited α] {t e k : TypeId} {fuel : Nat} {a : Option Addr} {n c : Nat} {d : DataW H} {pl : List MemPlace} (f : α → List Value) (Q : α → Prop) (ht : P.underlying t = some (.slice e)) (ck : P.cellsOf e = k)
    (hk : 0 < k) (hopen : ∀ (fuel : Nat) (cs : List Value) (d : DataW H) (pl : List MemPlace), DataW.trod enc P w base (fun _ => true) held fuel e cs = some (d, pl) → Reached P e d → ∃ x, cs = f x ∧ Q x)
    (h : DataW.trod enc P w base (fun _ => true) held fuel t (Value.slice a n c).cells.toList = some (d, pl)) (hr : Reached P t d) :
    ∃ l : List α, RdRecs w a n c k f l ∧ (∀ x ∈ l, Q x) ∧ l.length * P.bytesOf e ≤ reachBytes := by
  rcases Deep.open_slice ht h with ⟨hcs, _⟩ | ⟨ad, l, cp, m, q, D, Pl, hcs, _, hl, hm, hmm, hd, hx⟩
  · simp [Value.cells] at hcs
    obtain ⟨rfl, rfl, rfl⟩ := hcs
    exact ⟨[], ⟨rfl, Nat.le_refl _, Nat.zero_le _, fun h => absurd rfl h⟩, by simp, by simp⟩
  · simp [Value.cells] at hcs
    obtain ⟨rfl, rfl, rfl⟩ := hcs
    simp only [if_true] at hmm
    subst hmm
    obtain ⟨rfl, _⟩ := Prod.mk.inj hd
    rw [ck] at hx
    have hel : ∀ i, i < n → ∃ x, w.cells? base (ad.add (i * k)) k = some (f x) ∧ Q x := fun i hi => by
      obtain ⟨cs, h1, h2⟩ := hx i (by omega)
      have hre : Reached P e (D i) := fun z hz => hr z (by
        rw [DataW.weights, ht]
        exact List.mem_cons_of_mem _ (List.mem_append_left _ (weights_all_mem (List.mem_map.2 ⟨i, List.mem_range.2 hi, rfl⟩) z hz)))
      obtain ⟨x, rfl, hq⟩ := hopen q cs (D i) (Pl i) h2 hre
      exact ⟨x, h1, hq⟩
    obtain ⟨X, hX⟩ := Deep.choose_lt hel
    have hw := hr _ (by rw [DataW.weights, ht]; exact List.mem_cons_self ..)
    refine ⟨(List.range n).map X, ⟨by simp, hl, hm, fun hne => ?_⟩, fun x hx' => ?_, ?_⟩
    · have hn : 0 < n := by
        rcases Nat.eq_zero_or_pos n with e | e
        · subst e; simp at hne
        · exact e
      obtain ⟨b, off, spot⟩ := ad
      have h0 := (World.cells?_some (hX 0 hn).1)
      cases spot with
      | some s =>
        exfalso
        have h1 := h0.2.2 0 hk
        rw [Nat.zero_mul, Addr.add_zero', Addr.add_zero', List.getElem?_eq_getElem (by rw [h0.2.1]; exact hk)] at h1
        simp [World.cell?] at h1; split at h1 <;> simp_all
      | none =>
        refine ⟨b, off, rfl, fun i x hi j v hj => ?_⟩
        have hin : i < n := by have := (List.getElem?_eq_some_iff.1 hi).1; simpa using this
        have hxe : x = X i := by
          rw [List.getElem?_map, List.getElem?_range hin] at hi
          exact (Option.some.inj hi).symm
        subst hxe
        obtain ⟨_, h2, h3⟩ := World.cells?_some (hX i hin).1
        have hjk : j < k := by have := (List.getElem?_eq_some_iff.1 hj).1; omega
        have := h3 j hjk
        rw [hj, Addr.add_lit, Addr.add_lit] at this
        exact this
    · obtain ⟨i, hi, rfl⟩ := List.mem_map.1 hx'
      exact (hX i (List.mem_range.1 hi)).2
    · simp only [List.length_map, List.length_range] at hw ⊢
      refine Nat.le_trans ?_ hw
      exact Nat.mul_le_mul_right _ (by omega)
theorem list2 {cs : List Value} (h : cs.length = 2) : ∃ x y, cs = [x, y] := by
  match cs, h with
  | [x, y], _ => exact ⟨x, y, rfl⟩
/-- A struct of two ints. -/
theorem open_int2 {T ti : TypeId} {f0 f1 : Field} {fuel : Nat} {cs : List Value} {d : DataW H} {pl : List MemPlace} (hs : P.underlying T = some (.struct #[f0, f1])) (e0 : f0.type = ti) (e1 : f1.type = ti) (hi : P.underlying ti = some (.int .i64))
    (hC : P.cellsOf T = 2) (ho : Deep.oneCellFields P #[f0, f1] = true) (h : DataW.trod enc P w base (fun _ => true) held fuel T cs = some (d, pl)) :
    ∃ x : Int × Int, cs = [.int .i64 x.1, .int .i64 x.2] ∧ (Lit.int .i64 x.1).wf = true ∧ (Lit.int .i64 x.2).wf = true := by
  obtain ⟨y0, y1, n, hx, hl, h0, h1⟩ := ChangeShapes.trod_struct2 hs h
  obtain ⟨x, y, rfl⟩ := list2 (hl.trans hC)
  obtain ⟨o0, k0⟩ := Deep.hone_of ho 0 f0 rfl
  obtain ⟨o1, k1⟩ := Deep.hone_of ho 1 f1 rfl
  rw [o0, k0] at h0
  rw [o1, k1] at h1
  simp only [List.drop_zero, List.drop_succ_cons, List.take_succ_cons, List.take_zero] at h0 h1
  subst e0
  rw [e1] at h1
  obtain ⟨f, g0, _, wf⟩ := DataW.trod_int hi h0
  obtain ⟨t, g1, _, wt⟩ := DataW.trod_int hi h1
  cases g0; cases g1
  exact ⟨(f, t), rfl, wf, wt⟩
/-- A struct of three ints. -/
theorem open_int3 {T ti : TypeId} {f0 f1 f2 : Field} {fuel : Nat} {cs : List Value} {d : DataW H} {pl : List MemPlace} (hs : P.underlying T = some (.struct #[f0, f1, f2])) (e0 : f0.type = ti) (e1 : f1.type = ti) (e2 : f2.type = ti) (hi : P.underlying ti = some (.int .i64))
    (hC : P.cellsOf T = 3) (ho : Deep.oneCellFields P #[f0, f1, f2] = true) (h : DataW.trod enc P w base (fun _ => true) held fuel T cs = some (d, pl)) :
    ∃ x : Int × Int × Int, cs = [.int .i64 x.1, .int .i64 x.2.1, .int .i64 x.2.2] ∧ (Lit.int .i64 x.1).wf = true ∧ (Lit.int .i64 x.2.1).wf = true ∧ (Lit.int .i64 x.2.2).wf = true := by
  obtain ⟨y0, y1, y2, n, hx, hl, h0, h1, h2⟩ := Deep.trod_struct3 hs h
  obtain ⟨x, y, z, rfl⟩ := list3 (hl.trans hC)
  obtain ⟨o0, k0⟩ := Deep.hone_of ho 0 f0 rfl
  obtain ⟨o1, k1⟩ := Deep.hone_of ho 1 f1 rfl
  obtain ⟨o2, k2⟩ := Deep.hone_of ho 2 f2 rfl
  rw [o0, k0] at h0
  rw [o1, k1] at h1
  rw [o2, k2] at h2
  simp only [List.drop_zero, List.drop_succ_cons, List.take_succ_cons, List.take_zero] at h0 h1 h2
  subst e0
  rw [e1] at h1
  rw [e2] at h2
  obtain ⟨f, g0, _, wf⟩ := DataW.trod_int hi h0
  obtain ⟨t, g1, _, wt⟩ := DataW.trod_int hi h1
  obtain ⟨u, g2, _, wu⟩ := DataW.trod_int hi h2
  cases g0; cases g1; cases g2
  exact ⟨(f, t, u), rfl, wf, wt, wu⟩
end
end Go.Proofs.YtdolbeonpkanpaaGreatDoor
namespace Go.Proofs.YtdolbeonpkanpaaGreatDoor
open Go.RowKit
section
variable {H : Type} {enc : TypeId × Value → H} {P : Program} {w : World} {base : Nat} {held : Bool}
theorem open_struct {T : TypeId} {fs : Array Field} {fuel : Nat} {cs : List Value} {d : DataW H} {pl : List MemPlace} (hs : P.underlying T = some (.struct fs)) (hC : P.cellsOf T = fs.size) (ho : Deep.oneCellFields P fs = true)
    (h : DataW.trod enc P w base (fun _ => true) held fuel T cs = some (d, pl)) (hr : Reached P T d) :
    cs.length = fs.size ∧ ∀ (i : Nat) (f : Field) (v : Value), fs[i]? = some f → cs[i]? = some v → ∃ n d pl, DataW.trod enc P w base (fun _ => true) held n f.type [v] = some (d, pl) ∧ Reached P f.type d := by
  obtain ⟨xs, n, _, hx, hl, hxl, hf⟩ := DataW.trod_struct hs h
  rw [hC] at hl
  refine ⟨hl, fun i f v hi hv => ?_⟩
  have hlt : i < fs.size := (Array.getElem?_eq_some_iff.1 hi).1
  obtain ⟨h1, h2⟩ := Deep.hone_of ho i f hi
  have g := hf i f hi
  rw [h1, h2, Deep.take1_drop cs i undef (by omega), List.getElem?_eq_getElem (by omega)] at g
  obtain ⟨hl', hv'⟩ := List.getElem?_eq_some_iff.1 hv
  have e1 : cs.getD i undef = v := by simp [List.getD, hl', hv']
  rw [e1] at g
  obtain ⟨rfl, _⟩ := Prod.mk.inj hx
  refine ⟨n, (xs[i]'(by omega)).1, (xs[i]'(by omega)).2, g, reached_part hs hr (j := i) hi (by simp [List.getElem?_eq_getElem (show i < xs.length by omega)])⟩
end
end Go.Proofs.YtdolbeonpkanpaaGreatDoor
