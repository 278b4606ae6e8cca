/- NetPlays: the steps that are read; what each call does, told by keys. -/
import Derived.Test.YtliapfdbagcklaaNfC
import Derived.Test.YtliapfdbagcklaaRecs
namespace Go.Proofs.Ytliapfdbagcklaa
open Go.RowKit
attribute [local go_sem ↓] Go.wp_at_zero Go.wp_at_succ

structure Stp where
  K : Int
  N : Int
  F : Int
  T : Int
  a : Option Addr
  n : Nat
  c : Nat
  d : List UInt8
instance : Inhabited Stp := ⟨⟨0, 0, 0, 0, none, 0, 0, []⟩⟩
def stpCells (x : Stp) : List Value := [.int .i64 x.K, .int .i64 x.N, .int .i64 x.F, .int .i64 x.T, .slice x.a x.n x.c]
def Stp.ok (w : World) (x : Stp) : Prop := (Lit.int .i64 x.N).wf = true ∧ RdBytes w x.a x.n x.c x.d ∧ x.d.length ≤ 140737488351232
theorem list5 {cs : List Value} (h : cs.length = 5) : ∃ x y z u v, cs = [x, y, z, u, v] := by
  match cs, h with
  | [x, y, z, u, v], _ => exact ⟨x, y, z, u, v, rfl⟩
section
variable {H : Type} {enc : TypeId × Value → H} {P : Program} {w : World} {base : Nat} {held : Bool}
theorem open_step15 {T tm tb e ti : TypeId} {f0 f1 f2 g0 g1 g2 : Field} {fuel : Nat} {cs : List Value} {d : DataW H} {pl : List MemPlace} (hs : P.underlying T = some (.struct #[f0, f1, f2])) (e0 : f0.type = ti) (e1 : f1.type = ti) (e2 : f2.type = tm)
    (hi : P.underlying ti = some (.int .i64)) (hC : P.cellsOf T = 5) (c0 : P.cellsOf ti = 1) (cm : P.cellsOf tm = 3) (o0 : f0.offset = 0) (o1 : f1.offset = 1) (o2 : f2.offset = 2)
    (hm : P.underlying tm = some (.struct #[g0, g1, g2])) (m0 : g0.type = ti) (m1 : g1.type = ti) (m2 : g2.type = tb) (ht : P.underlying tb = some (.slice e)) (he : P.underlying e = some (.int .u8)) (ce : P.cellsOf e = 1) (be : P.bytesOf e = 1) (ho : Deep.oneCellFields P #[g0, g1, g2] = true)
    (h : DataW.trod enc P w base (fun _ => true) held fuel T cs = some (d, pl)) (hr : Reached P T d) : ∃ x : Stp, cs = stpCells x ∧ Stp.ok w x := by
  obtain ⟨y0, y1, y2, n, hx, hl, h0, h1, h2⟩ := Deep.trod_struct3 hs h
  obtain ⟨v0, v1, v2, v3, v4, rfl⟩ := list5 (hl.trans hC)
  simp only [Prod.mk.injEq] at hx
  obtain ⟨rfl, _⟩ := hx
  have hr2 : Reached P f2.type y2.1 := reached_part hs hr (j := 2) rfl rfl
  rw [o0, e0, c0] at h0
  rw [o1, e1, c0] at h1
  rw [o2, e2, cm] at h2
  rw [e2] at hr2
  simp only [List.drop_zero, List.drop_succ_cons, List.take_succ_cons, List.take_zero] at h0 h1 h2
  obtain ⟨K, g0', _, _⟩ := DataW.trod_int hi h0
  obtain ⟨N, g1', _, wN⟩ := DataW.trod_int hi h1
  obtain ⟨f, t, a, m, c, l, g2', _, _, g3, g4⟩ := open_msg0 hm m0 m1 m2 hi cm ht he ce be h2 ho hr2
  cases g0'; cases g1'; cases g2'
  exact ⟨⟨K, N, f, t, a, m, c, l⟩, rfl, wN, g3, g4⟩
end
abbrev Key := Int × Int × List UInt8
def It.key (x : It) : Key := (x.f, x.t, x.d)
def sentK (ks : List Key) (k : Key) : List Key := if ks.length < 1024 then ks ++ [k] else ks
def OneB (T b : Nat) (r : Bool) (ks : List Key) (H : Heaplet) (w : World) (e : Ending) (w' : World) : Prop :=
  e = .returned (.bool r) ∧ ∃ (l' : List It) (H' : Heaplet), NetRep T b l' H' ∧ l'.map It.key = ks ∧ Step w H w' H'
theorem send_one {T b : Nat} {l : List It} {f t : Int} {d : List UInt8} {w w' : World} {H : Heaplet} {e : Ending} (h : SendPost T b l f t d w H e w') {ks : List Key} (hk : l.map It.key = ks) : OneB T b (decide (ks.length < 1024)) (sentK ks (f, t, d)) H w e w' := by
  subst hk
  rcases h with ⟨h1, he, H', h2, h3⟩ | ⟨h1, he, x, H', rfl, rfl, rfl, h2, h3⟩
  · refine ⟨by rw [he, decide_eq_false (by rw [List.length_map]; omega)], l, H', h2, ?_, h3⟩
    unfold sentK; rw [if_neg (by rw [List.length_map]; omega)]
  · refine ⟨by rw [he, decide_eq_true (by rw [List.length_map]; exact h1)], l ++ [x], H', h2, ?_, h3⟩
    unfold sentK; rw [if_pos (by rw [List.length_map]; exact h1), List.map_append]; rfl
def giveV (ks : List Key) (i : Nat) : Key × Bool := match ks[i]? with | some k => (k, true) | none => ((0, 0, []), false)
def GiveOne (T b : Nat) (v : Key × Bool) (ks : List Key) (H : Heaplet) (w : World) (e : Ending) (w' : World) : Prop :=
  ∃ (a : Option Addr) (c : Nat) (l' : List It) (H' HX : Heaplet), e = .returned (.tuple #[.agg #[.int .i64 v.1.1, .int .i64 v.1.2.1, .slice a v.1.2.2.length c], .bool v.2]) ∧ SlRep 5 1 a v.1.2.2.length c (v.1.2.2.map u8) HX ∧ NetRep T b l' H' ∧ l'.map It.key = ks ∧ Step w H w' (H' ++ HX)
theorem key_erase (l : List It) (i : Nat) : (l.eraseIdx i).map It.key = (l.map It.key).eraseIdx i := by
  simp only [List.eraseIdx_eq_take_drop_succ, List.map_append, List.map_take, List.map_drop]
theorem give_one (b : Nat) (l : List It) (H : Heaplet) (pick : Int) (w : World) (hn : NetRep 55 b l H) (hw : Own w H) {ks : List Key} (hk : l.map It.key = ks) (hl : ks.length ≤ 1024) (hp : pick ≤ 9223372036854775807) :
    Calls Try.prog 11 #[.pointer (some ⟨b, 0, none⟩), .int .i64 pick] w (GiveOne 55 b (giveV ks (pickOf ks.length pick)) (ks.eraseIdx (pickOf ks.length pick)) H w) := by
  subst hk
  rw [List.length_map] at hl ⊢
  have hok : ∀ x ∈ l, x.ok := hn.elim fun _ h => h.elim fun _ h => h.elim fun _ h => h.2.2
  refine (give_any b l H pick w hn hw hl hp).mono fun e w' hq => ?_
  rcases hq with ⟨h0, he, h2⟩ | ⟨i, hi, H', h1, he, h2, h3⟩
  · subst h0
    exact ⟨none, 0, [], H, [], he, SlRep.nil _ _, hn, rfl, by rw [List.append_nil]; exact h2⟩
  · rw [← h1]
    have e1 : giveV (l.map It.key) i = (l[i].key, true) := by unfold giveV; rw [List.getElem?_map, List.getElem?_eq_getElem hi]; rfl
    rw [e1]
    exact ⟨l[i].a, l[i].c, l.eraseIdx i, H', l[i].H, he, hok _ (List.getElem_mem hi), h2, key_erase l i, h3⟩
theorem rgive_one (b : Nat) (l : List It) (H : Heaplet) (pick : Int) (w : World) (hn : NetRep 47 b l H) (hw : Own w H) {ks : List Key} (hk : l.map It.key = ks) (hl : ks.length ≤ 1024) (hp : pick ≤ 9223372036854775807) :
    Calls Try.prog 22 #[.pointer (some ⟨b, 0, none⟩), .int .i64 pick] w (GiveOne 47 b (giveV ks (pickOf ks.length pick)) (ks.eraseIdx (pickOf ks.length pick)) H w) := by
  subst hk
  rw [List.length_map] at hl ⊢
  refine (rgive_any b l H pick w hn hw hl hp).mono fun e w' hq => ?_
  rcases hq with ⟨h0, he, h2⟩ | ⟨i, x, H', h1, hx, he, hxo, h2, h3⟩
  · subst h0
    exact ⟨none, 0, [], H, [], he, SlRep.nil _ _, hn, rfl, by rw [List.append_nil]; exact h2⟩
  · rw [← h1]
    have e1 : giveV (l.map It.key) i = (x.key, true) := by unfold giveV; rw [List.getElem?_map, hx]; rfl
    rw [e1]
    exact ⟨x.a, x.c, l.eraseIdx i, H', x.H, he, hxo, h2, key_erase l i, h3⟩
def twV (ks : List Key) (i : Nat) : Bool × List Key := match ks[i]? with | some k => (decide (ks.length < 1024), sentK ks k) | none => (false, ks)
def laV (ks : List Key) (i : Nat) : Bool × List Key := match ks[i]? with | some k => (true, ks.eraseIdx i ++ [k]) | none => (false, ks)
def drK (node : Int) (ks : List Key) : List Key := ks.filter fun k => !(k.1 == node || k.2.1 == node)
theorem twice_one (b : Nat) (l : List It) (H : Heaplet) (pick : Int) (w : World) (hn : NetRep 55 b l H) (hw : Own w H) {ks : List Key} (hk : l.map It.key = ks) (hl : ks.length ≤ 1024) (hp : pick ≤ 9223372036854775807) (hd : ∀ k ∈ ks, k.2.2.length ≤ 140737488351232) :
    Calls Try.prog 15 #[.pointer (some ⟨b, 0, none⟩), .int .i64 pick] w (OneB 55 b (twV ks (pickOf ks.length pick)).1 (twV ks (pickOf ks.length pick)).2 H w) := by
  subst hk
  rw [List.length_map] at hl ⊢
  refine (twice_any b l H pick w hn hw hl hp (fun x hx => Nat.le_trans (hd _ (List.mem_map.2 ⟨x, hx, rfl⟩)) (by omega))).mono fun e w' hq => ?_
  rcases hq with ⟨h0, he, H', h2, h3⟩ | ⟨i, hi, h1, h2⟩
  · subst h0
    exact ⟨he, [], H', h2, rfl, h3⟩
  · rw [← h1]
    have e1 : twV (l.map It.key) i = (decide ((l.map It.key).length < 1024), sentK (l.map It.key) l[i].key) := by unfold twV; rw [List.getElem?_map, List.getElem?_eq_getElem hi]; rfl
    rw [e1]
    exact send_one h2 rfl
theorem rtwice_one (b : Nat) (l : List It) (H : Heaplet) (pick : Int) (w : World) (hn : NetRep 47 b l H) (hw : Own w H) {ks : List Key} (hk : l.map It.key = ks) (hl : ks.length ≤ 1024) (hp : pick ≤ 9223372036854775807) (hd : ∀ k ∈ ks, k.2.2.length ≤ 140737488351232) :
    Calls Try.prog 24 #[.pointer (some ⟨b, 0, none⟩), .int .i64 pick] w (OneB 47 b (twV ks (pickOf ks.length pick)).1 (twV ks (pickOf ks.length pick)).2 H w) := by
  subst hk
  rw [List.length_map] at hl ⊢
  refine (rtwice_any b l H pick w hn hw hl hp (fun x hx => Nat.le_trans (hd _ (List.mem_map.2 ⟨x, hx, rfl⟩)) (by omega))).mono fun e w' hq => ?_
  rcases hq with ⟨h0, he, h3⟩ | ⟨i, x, h1, hx, h2⟩
  · subst h0
    exact ⟨he, [], H, hn, rfl, h3⟩
  · rw [← h1]
    have e1 : twV (l.map It.key) i = (decide ((l.map It.key).length < 1024), sentK (l.map It.key) x.key) := by unfold twV; rw [List.getElem?_map, hx]; rfl
    rw [e1]
    exact send_one h2 rfl
theorem late_one (b : Nat) (l : List It) (H : Heaplet) (pick : Int) (w : World) (hn : NetRep 55 b l H) (hw : Own w H) {ks : List Key} (hk : l.map It.key = ks) (hl : ks.length ≤ 1024) (hp : pick ≤ 9223372036854775807) :
    Calls Try.prog 16 #[.pointer (some ⟨b, 0, none⟩), .int .i64 pick] w (OneB 55 b (laV ks (pickOf ks.length pick)).1 (laV ks (pickOf ks.length pick)).2 H w) := by
  subst hk
  rw [List.length_map] at hl ⊢
  refine (late_any b l H pick w hn hw hl hp).mono fun e w' hq => ?_
  rcases hq with ⟨h0, he, h3⟩ | ⟨i, hi, H', h1, he, h2, h3⟩
  · subst h0
    exact ⟨he, [], H, hn, rfl, h3⟩
  · rw [← h1]
    have e1 : laV (l.map It.key) i = (true, (l.map It.key).eraseIdx i ++ [l[i].key]) := by unfold laV; rw [List.getElem?_map, List.getElem?_eq_getElem hi]; rfl
    rw [e1]
    exact ⟨he, _, H', h2, by rw [List.map_append, key_erase]; rfl, h3⟩
theorem rlate_one (b : Nat) (l : List It) (H : Heaplet) (pick : Int) (w : World) (hn : NetRep 47 b l H) (hw : Own w H) {ks : List Key} (hk : l.map It.key = ks) (hl : ks.length ≤ 1024) (hp : pick ≤ 9223372036854775807) :
    Calls Try.prog 25 #[.pointer (some ⟨b, 0, none⟩), .int .i64 pick] w (OneB 47 b (laV ks (pickOf ks.length pick)).1 (laV ks (pickOf ks.length pick)).2 H w) := by
  subst hk
  rw [List.length_map] at hl ⊢
  refine (rlate_any b l H pick w hn hw hl hp).mono fun e w' hq => ?_
  rcases hq with ⟨h0, he, h3⟩ | ⟨i, x, H', h1, hx, he, h2, h3⟩
  · subst h0
    exact ⟨he, [], H, hn, rfl, h3⟩
  · rw [← h1]
    have e1 : laV (l.map It.key) i = (true, (l.map It.key).eraseIdx i ++ [x.key]) := by unfold laV; rw [List.getElem?_map, hx]; rfl
    rw [e1]
    exact ⟨he, _, H', h2, by rw [List.map_append, key_erase]; rfl, h3⟩
theorem kept_key (node : Int) (l : List It) : (kept node l).map It.key = drK node (l.map It.key) := by
  unfold kept drK; rw [List.filter_map]; rfl
def DropOne (T b : Nat) (r : Int) (ks : List Key) (H : Heaplet) (w : World) (e : Ending) (w' : World) : Prop :=
  e = .returned (.int .i64 r) ∧ ∃ (l' : List It) (H' : Heaplet), NetRep T b l' H' ∧ l'.map It.key = ks ∧ Step w H w' H'
theorem drop_one (b : Nat) (l : List It) (H : Heaplet) (node : Int) (w : World) (hn : NetRep 55 b l H) (hw : Own w H) {ks : List Key} (hk : l.map It.key = ks) (hl : ks.length ≤ 1024) :
    Calls Try.prog 17 #[.pointer (some ⟨b, 0, none⟩), .int .i64 node] w (DropOne 55 b ((ks.length : Int) - (drK node ks).length) (drK node ks) H w) := by
  subst hk
  rw [List.length_map] at hl
  refine (drop_any b l H node w hn hw hl).mono fun e w' ⟨H', he, h2, h3⟩ => ?_
  exact ⟨by rw [he, ← kept_key, List.length_map, List.length_map], _, H', h2, kept_key node l, h3⟩
theorem rdrop_one (b : Nat) (l : List It) (H : Heaplet) (node : Int) (w : World) (hn : NetRep 47 b l H) (hw : Own w H) {ks : List Key} (hk : l.map It.key = ks) (hl : ks.length ≤ 1024) :
    Calls Try.prog 26 #[.pointer (some ⟨b, 0, none⟩), .int .i64 node] w (DropOne 47 b ((ks.length : Int) - (drK node ks).length) (drK node ks) H w) := by
  subst hk
  rw [List.length_map] at hl
  refine (rdrop_any b l H node w hn hw hl).mono fun e w' ⟨H', he, h2, h3⟩ => ?_
  exact ⟨by rw [he, ← kept_key, List.length_map, List.length_map], _, H', h2, kept_key node l, h3⟩
/-- Keys that may be. -/
def KOk (ks : List Key) : Prop := ks.length ≤ 1024 ∧ ∀ k ∈ ks, k.2.2.length ≤ 140737488351232
theorem kok_sent {ks : List Key} (h : KOk ks) {k : Key} (hk : k.2.2.length ≤ 140737488351232) : KOk (sentK ks k) := by
  unfold sentK
  split
  · refine ⟨by simp; omega, fun y hy => ?_⟩
    rcases List.mem_append.1 hy with hy | hy
    · exact h.2 y hy
    · rw [List.mem_singleton] at hy; subst hy; exact hk
  · exact h
theorem kok_erase {ks : List Key} (h : KOk ks) (i : Nat) : KOk (ks.eraseIdx i) := ⟨Nat.le_trans (List.length_eraseIdx_le ..) h.1, fun y hy => h.2 y (List.mem_of_mem_eraseIdx hy)⟩
theorem kok_tw {ks : List Key} (h : KOk ks) (i : Nat) : KOk (twV ks i).2 := by
  unfold twV
  split
  · rename_i k hk; exact kok_sent h (h.2 k (List.mem_of_getElem? hk))
  · exact h
theorem kok_la {ks : List Key} (h : KOk ks) (i : Nat) : KOk (laV ks i).2 := by
  unfold laV
  split
  · rename_i k hk
    obtain ⟨hi, _⟩ := List.getElem?_eq_some_iff.1 hk
    have := h.1
    refine ⟨by rw [List.length_append, List.length_eraseIdx]; simp [hi]; omega, fun y hy => ?_⟩
    rcases List.mem_append.1 hy with hy | hy
    · exact h.2 y (List.mem_of_mem_eraseIdx hy)
    · rw [List.mem_singleton] at hy; subst hy; exact h.2 _ (List.mem_of_getElem? hk)
  · exact h
theorem kok_dr {ks : List Key} (h : KOk ks) (node : Int) : KOk (drK node ks) := ⟨Nat.le_trans (List.length_filter_le ..) h.1, fun y hy => h.2 y (List.mem_filter.1 hy).1⟩
theorem give_ok_d {ks : List Key} (h : KOk ks) (i : Nat) : (giveV ks i).1.2.2.length ≤ 140737488351232 := by
  unfold giveV
  split
  · rename_i k hk; exact h.2 k (List.mem_of_getElem? hk)
  · simp
theorem room_rd {g c : Nat} {d : List UInt8} {H : Heaplet} {w : World} (hr : SlRep 5 1 (some ⟨g, 0, none⟩) (d.length + 2) c (d.map u8 ++ [.int .u8 171, .int .u8 171]) H) (hw : Own w H) : RdBytes w (some ⟨g, 0, none⟩) d.length c d :=
  SlRep.rdBytes (H := H) (by
    have q := SlRep.upto hr (i := d.length) (by omega)
    rw [Nat.mul_one, List.take_append_of_le_length (by simp), List.take_of_length_le (by simp)] at q
    exact q) hw
end Go.Proofs.Ytliapfdbagcklaa
