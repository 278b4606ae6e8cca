import Derived.Test.YtliapfdbagcklaaNetI
namespace Go.Proofs.Ytliapfdbagcklaa
open Go.RowKit
attribute [local go_sem ↓] Go.wp_at_zero Go.wp_at_succ

def It.hits (node : Int) (x : It) : Bool := x.f == node || x.t == node

def HitPost (f t node : Int) (w : World) (o : Obj) (e : Ending) (w' : World) : Prop := e = .returned (.bool (f == node || t == node)) ∧ w' = w.alloc o
theorem hit_any (f t node : Int) (a : Option Addr) (n c bn : Nat) (w : World) (hn : w.cell? ⟨bn, 0, none⟩ = some (.int .i64 node)) :
    Calls Try.prog 34 #[.agg #[.int .i64 f, .int .i64 t, .slice a n c], .pointer (some ⟨bn, 0, none⟩)] w (HitPost f t node w (.cells #[.int .i64 f, .int .i64 t, .slice a n c] 28)) := by
  have hb : bn < w.heap.size := World.block_lt_of_cell? w _ hn
  cases hfn : (f == node)
  · cases htn : (t == node)
    all_goals
      go_enter Try.func34, Try.ntmps34
      go_wp2
      go_ret
      exact ⟨by rw [hfn, htn]; rfl, rfl⟩
  · go_enter Try.func34, Try.ntmps34
    go_wp2
    go_ret
    exact ⟨by rw [hfn]; rfl, rfl⟩
theorem call_hit (args : Array Value) (w : World) : (callFunc 34 args).run Try.prog w = .ok (.enter 34 args) w := by kernel_rfl

def IdxPost (node : Int) (l : List It) (w : World) (e : Ending) (w' : World) : Prop :=
  Step w [] w' [] ∧ ((e = .returned (.int .i64 (-1)) ∧ ∀ x ∈ l, x.hits node = false) ∨ ∃ (i : Nat) (hi : i < l.length), e = .returned (.int .i64 i) ∧ l[i].hits node = true ∧ ∀ x ∈ l.take i, x.hits node = false)
def IdxRel (node : Int) (l : List It) (w : World) (v : Value) (wr : World) : Prop := ∃ k : Nat, k ≤ l.length ∧ v = .int .i64 k ∧ (∀ x ∈ l.take k, x.hits node = false) ∧ Step w [] wr []
theorem cell_later' {w w' : World} (s : Step w [] w' []) {a : Addr} {v : Value} (h : w.cell? a = some v) : w'.cell? a = some v := by
  rw [World.cell?_of_block (w := w) (s.frame _ (World.block_lt_of_cell? w a h) (by simp [dom]))]; exact h
theorem take_succ_all {l : List It} {k : Nat} {p : It → Bool} (hk : k < l.length) (h : ∀ x ∈ l.take k, p x = false) (h1 : p l[k] = false) : ∀ x ∈ l.take (k + 1), p x = false := by
  intro x hx
  rw [List.take_succ_eq_append_getElem hk] at hx
  rcases List.mem_append.1 hx with h' | h'
  · exact h x h'
  · simp at h'; subst h'; exact h1
set_option maxRecDepth 100000 in
theorem index_any (node : Int) (l : List It) (g n c bn : Nat) (cur : Array Value) (w : World) (hl : l.length ≤ 1024) (hr : SlRep 28 3 (some ⟨g, 0, none⟩) l.length c (l.flatMap It.cells) [(g, .cells cur 28 (0, 0))])
    (hg : w.heap[g]? = some (.cells cur 28 (0, 0))) (hn : w.cell? ⟨bn, 0, none⟩ = some (.int .i64 node)) :
    Calls Try.prog 37 #[.slice (some ⟨g, 0, none⟩) l.length c, .func (.func 34) #[] #[.pointer (some ⟨bn, 0, none⟩)]] w (IdxPost node l w) := by
  replace hr := Lib.hid hr
  replace hg := Lib.hid hg
  replace hn := Lib.hid hn
  have hb3 : (l.length : Int) ≤ 1024 := by omega
  go_enter Try.func37, Try.ntmps37
  go_wp2_with fail
  go_loopw [8] (fun v wr => IdxRel node l w v wr) (fun v _ => l.length - (intOf v).toNat)
  case atStart => exact ⟨0, Nat.zero_le _, rfl, by simp, Step.refl (Own.nil _)⟩
  case round =>
    obtain ⟨k, hk, rfl, hall, hs⟩ := hrel
    replace hall := Lib.hid hall
    have b1 : (0 : Int) ≤ (k : Int) := by omega
    by_cases hlt : k < l.length
    · obtain ⟨g', cur', e1, e2, m0, m1, m2⟩ := hr.out.msg hlt
      cases e1; cases e2
      have hg' := (hs.frame g (heap_lt hg.out) (by simp [dom])).trans hg.out
      have r0 := cell_of hg' m0
      have r1 := cell_of hg' m1
      have r2 := cell_of hg' m2
      have b2 : (k : Int) < (l.length : Int) := by omega
      clear m0 m1 m2
      have hcall := Lib.hid (hit_any l[k].f l[k].t node l[k].a l[k].d.length l[k].c bn wr (cell_later' hs hn.out))
      cases hh : l[k].hits node
      · have hh' : (l[k].f == node || l[k].t == node) = false := hh
        replace hg' := Lib.hid hg'
        go_wp2_with (go_at_call 34; refine hcall.out.mono ?_; rintro e w1 ⟨rfl, rfl⟩)
        exact ⟨⟨k + 1, by omega, by go_num, take_succ_all hlt hall.out hh, hs.junk _⟩, by simp [intOf]; omega⟩
      · have hh' : (l[k].f == node || l[k].t == node) = true := hh
        replace hg' := Lib.hid hg'
        go_wp2_with (go_at_call 34; refine hcall.out.mono ?_; rintro e w1 ⟨rfl, rfl⟩)
        go_ret
        exact ⟨hs.junk _, .inr ⟨k, hlt, rfl, hh, hall.out⟩⟩
    · go_wp2
      go_ret
      exact ⟨hs, .inl ⟨rfl, by have := hall.out; rwa [List.take_of_length_le (by omega)] at this⟩⟩

theorem set3 (c : Array Value) (o : Nat) (x y z : Value) (h : o + 3 ≤ c.size) :
    (((c.setIfInBounds o x).setIfInBounds (o + 1) y).setIfInBounds (o + 2) z).toList = c.toList.take o ++ [x, y, z] ++ c.toList.drop (o + 3) := by
  apply List.ext_getElem?
  intro j
  simp only [Array.toList_setIfInBounds, List.getElem?_set, List.length_set, Array.length_toList]
  have hl : (c.toList.take o).length = o := by rw [List.length_take, Array.length_toList]; omega
  rcases Nat.lt_or_ge j o with h1 | h1
  · rw [List.append_assoc, List.getElem?_append_left (by omega), List.getElem?_take, if_pos h1, if_neg (by omega), if_neg (by omega), if_neg (by omega)]
  · rw [List.append_assoc, List.getElem?_append_right (by omega), hl]
    rcases Nat.lt_or_ge j (o + 3) with h2 | h2
    · have : j = o ∨ j = o + 1 ∨ j = o + 2 := by omega
      rcases this with rfl | rfl | rfl
      · rw [if_neg (by omega), if_neg (by omega), if_pos rfl, if_pos (by omega)]; simp
      · rw [if_neg (by omega), if_pos rfl, if_pos (by omega)]; simp
      · rw [if_pos rfl, if_pos (by omega)]; simp
    · rw [if_neg (by omega), if_neg (by omega), if_neg (by omega), List.getElem?_append_right (by simp; omega), List.getElem?_drop]
      congr 1
      simp; omega

def kept (node : Int) (l : List It) : List It := l.filter fun x => !x.hits node
theorem kept_all {node : Int} {l : List It} (h : ∀ x ∈ l, x.hits node = false) : kept node l = l := by
  unfold kept; rw [List.filter_eq_self]; intro x hx; rw [h x hx]; rfl
theorem kept_snoc_no {node : Int} {l : List It} {j : Nat} (hj : j < l.length) (h : l[j].hits node = false) : kept node (l.take (j + 1)) = kept node (l.take j) ++ [l[j]] := by
  unfold kept; rw [List.take_succ_eq_append_getElem hj, List.filter_append]; simp [h]
theorem kept_snoc_yes {node : Int} {l : List It} {j : Nat} (hj : j < l.length) (h : l[j].hits node = true) : kept node (l.take (j + 1)) = kept node (l.take j) := by
  unfold kept; rw [List.take_succ_eq_append_getElem hj, List.filter_append]; simp [h]

theorem flatMap_cells_take (l : List It) (i : Nat) (h : i ≤ l.length) : (l.flatMap It.cells).take (i * 3) = (l.take i).flatMap It.cells := by
  conv => lhs; rw [← List.take_append_drop i l, List.flatMap_append]
  have e : ((l.take i).flatMap It.cells).length = i * 3 := by rw [flatMap_cells_len, List.length_take, Nat.min_eq_left h]
  rw [← e, List.take_left]
/-- The row while DeleteFunc goes over it: k kept of the first j. -/
structure Row (node : Int) (l : List It) (j : Nat) (cur cur' : Array Value) : Prop where
  size : cur'.size = cur.size
  kept : cur'.toList.take ((kept node (l.take j)).length * 3) = (kept node (l.take j)).flatMap It.cells
  rest : ∀ m, j * 3 ≤ m → cur'[m]? = cur[m]?
theorem Row.no {node : Int} {l : List It} {j : Nat} {cur cur' : Array Value} (h : Row node l j cur cur') (hj : j < l.length) (hh : l[j].hits node = false) (hk : (Go.Proofs.Ytliapfdbagcklaa.kept node (l.take j)).length < j) (hs : l.length * 3 ≤ cur.size) :
    Row node l (j + 1) cur (((cur'.setIfInBounds ((Go.Proofs.Ytliapfdbagcklaa.kept node (l.take j)).length * 3) (.int .i64 l[j].f)).setIfInBounds ((Go.Proofs.Ytliapfdbagcklaa.kept node (l.take j)).length * 3 + 1) (.int .i64 l[j].t)).setIfInBounds ((Go.Proofs.Ytliapfdbagcklaa.kept node (l.take j)).length * 3 + 2) (.slice l[j].a l[j].d.length l[j].c)) := by
  have h1 := h.kept
  refine ⟨by simp [h.size], ?_, fun m hm => ?_⟩
  · rw [kept_snoc_no hj hh]
    generalize hq : Go.Proofs.Ytliapfdbagcklaa.kept node (l.take j) = q at *
    rw [set3 _ _ _ _ _ (by rw [h.size]; omega), h1, List.length_append, List.flatMap_append]
    have e : (q.flatMap It.cells ++ [Value.int .i64 l[j].f, .int .i64 l[j].t, .slice l[j].a l[j].d.length l[j].c]).length = (q.length + 1) * 3 := by rw [List.length_append, flatMap_cells_len]; simp; omega
    simp only [List.length_cons, List.length_nil, Nat.zero_add]
    rw [← e, List.take_left]
    simp [It.cells]
  · rw [← h.rest m (by omega)]
    rw [Array.getElem?_setIfInBounds_ne (by omega), Array.getElem?_setIfInBounds_ne (by omega), Array.getElem?_setIfInBounds_ne (by omega)]
theorem Row.yes {node : Int} {l : List It} {j : Nat} {cur cur' : Array Value} (h : Row node l j cur cur') (hj : j < l.length) (hh : l[j].hits node = true) : Row node l (j + 1) cur cur' := by
  refine ⟨h.size, ?_, fun m hm => h.rest m (by omega)⟩
  rw [kept_snoc_yes hj hh]; exact h.kept
def DfRel (node : Int) (l : List It) (g : Nat) (cur : Array Value) (w : World) (v5 v6 : Value) (wr : World) : Prop :=
  ∃ j k cur', k = (kept node (l.take j)).length ∧ v5 = .int .i64 (k : Nat) ∧ v6 = .int .i64 (j : Nat) ∧ k < j ∧ j ≤ l.length ∧ Row node l j cur cur' ∧ Step w [(g, .cells cur 28 (0, 0))] wr [(g, .cells cur' 28 (0, 0))]
def DfPost (node : Int) (l : List It) (g c : Nat) (cur : Array Value) (w : World) (e : Ending) (w' : World) : Prop :=
  ∃ R, e = .returned (.slice (some ⟨g, 0, none⟩) (kept node l).length c) ∧ SlRep 28 3 (some ⟨g, 0, none⟩) (kept node l).length c ((kept node l).flatMap It.cells) R ∧ Step w [(g, .cells cur 28 (0, 0))] w' R
theorem cell_beside {w w' : World} {H H' : Heaplet} (s : Step w H w' H') {a : Addr} {v : Value} (h : w.cell? a = some v) (hn : a.block ∉ dom H) : w'.cell? a = some v := by
  rw [World.cell?_of_block (w := w) (s.frame _ (World.block_lt_of_cell? w a h) hn)]; exact h
theorem msg_cells {l : List It} {g c : Nat} {cur : Array Value} (hr : SlRep 28 3 (some ⟨g, 0, none⟩) l.length c (l.flatMap It.cells) [(g, .cells cur 28 (0, 0))]) {k : Nat} (hlt : k < l.length) :
    cur[k * 3]? = some (.int .i64 l[k].f) ∧ cur[k * 3 + 1]? = some (.int .i64 l[k].t) ∧ cur[k * 3 + 2]? = some (.slice l[k].a l[k].d.length l[k].c) ∧ l.length * 3 ≤ cur.size := by
  obtain ⟨g', cur', e1, e2, m0, m1, m2⟩ := hr.msg hlt
  cases e1; cases e2
  refine ⟨m0, m1, m2, ?_⟩
  obtain ⟨_, ⟨h, _⟩ | ⟨_, _, h, h', h2, _, h4, _⟩⟩ := hr
  · cases h
  · cases h'; rw [h4]; exact Nat.mul_le_mul_right _ h2

set_option maxRecDepth 100000 in
theorem deletefunc_any (node : Int) (l : List It) (g c bn : Nat) (cur : Array Value) (w : World) (hl : l.length ≤ 1024) (hr : SlRep 28 3 (some ⟨g, 0, none⟩) l.length c (l.flatMap It.cells) [(g, .cells cur 28 (0, 0))])
    (hg : w.heap[g]? = some (.cells cur 28 (0, 0))) (hn : w.cell? ⟨bn, 0, none⟩ = some (.int .i64 node)) (hbg : bn ≠ g) :
    Calls Try.prog 33 #[.slice (some ⟨g, 0, none⟩) l.length c, .func (.func 34) #[] #[.pointer (some ⟨bn, 0, none⟩)]] w (DfPost node l g c cur w) := by
  have hidx := Lib.hid (index_any node l g l.length c bn cur w hl hr hg hn)
  replace hr := Lib.hid hr
  replace hg := Lib.hid hg
  replace hn := Lib.hid hn
  replace hbg := Lib.hid hbg
  have hb3 : (l.length : Int) ≤ 1024 := by omega
  go_enter Try.func33, Try.ntmps33
  go_wp2_with fail
  refine hidx.out.mono ?_
  rintro e w1 ⟨s1, ⟨rfl, hno⟩ | ⟨i, hi, rfl, hyes, hno⟩⟩
  · replace hno := Lib.hid hno
    go_wp2
    go_ret
    refine ⟨[(g, .cells cur 28 (0, 0))], ?_⟩
    rw [kept_all hno.out]
    exact ⟨rfl, hr.out, Step.beside (G := [(g, _)]) s1 (Own.one hg.out)⟩
  · replace hno := Lib.hid hno
    have b1 : (0 : Int) ≤ (i : Int) := by omega
    have b2 : (i : Int) < (l.length : Int) := by omega
    have b4 : ((i : Int) == -1) = false := beq_eq_false_iff_ne.2 (by omega)
    go_wp2_with fail
    have hsz := (msg_cells hr.out hi).2.2.2
    go_loopw [5, 6] (fun v5 v6 wr => DfRel node l g cur w v5 v6 wr) (fun _ v6 _ => l.length - (intOf v6).toNat)
    case atStart =>
      have hki : kept node (l.take i) = l.take i := kept_all hno.out
      refine ⟨i + 1, i, cur, ?_, rfl, by go_num, by omega, by omega, ⟨rfl, ?_, fun _ _ => rfl⟩, Step.beside (G := [(g, _)]) s1 (Own.one hg.out)⟩
      · rw [kept_snoc_yes hi hyes, hki, List.length_take]; omega
      · rw [kept_snoc_yes hi hyes, hki, List.length_take, Nat.min_eq_left (by omega)]
        obtain ⟨hrl, ⟨h, _⟩ | ⟨_, _, h, h', h2, _, h4, h5⟩⟩ := hr.out
        · cases h
        · cases h; cases h'
          have := flatMap_cells_take l i (by omega)
          rw [← this, ← h5, List.take_take, Nat.min_eq_left (by omega)]
    case round =>
      obtain ⟨j, k, cur', hk, rfl, rfl, hkj, hjl, hrow, hs⟩ := hrel
      replace hk := Lib.hid hk
      replace hrow := Lib.hid hrow
      have b5 : (0 : Int) ≤ (j : Int) := by omega
      have b6 : (0 : Int) ≤ (k : Int) := by omega
      have hn' := cell_beside hs hn.out (by simp [dom]; exact hbg.out)
      have hgg := hs.own.h0
      by_cases hlt : j < l.length
      · obtain ⟨m0, m1, m2, _⟩ := msg_cells hr.out hlt
        have r0 := cell_of hgg ((hrow.out.rest _ (by omega)).trans m0)
        have r1 := cell_of hgg ((hrow.out.rest _ (by omega)).trans m1)
        have r2 := cell_of hgg ((hrow.out.rest _ (by omega)).trans m2)
        have b7 : (j : Int) < (l.length : Int) := by omega
        have b8 : (k : Int) < (l.length : Int) := by omega
        have fg := fun i => frz_of (i := i) hgg
        have hgl := heap_lt hgg
        have hbl := World.block_lt_of_cell? _ _ hn'
        have hc' : cur'.size = cur.size := hrow.out.size
        obtain ⟨q0, e0⟩ : ∃ q, wr.cell? ⟨g, k * 3, none⟩ = some q := ⟨_, cell_of hgg (Array.getElem?_eq_getElem (by omega))⟩
        obtain ⟨q1, e1⟩ : ∃ q, wr.cell? ⟨g, k * 3 + 1, none⟩ = some q := ⟨_, cell_of hgg (Array.getElem?_eq_getElem (by omega))⟩
        obtain ⟨q2, e2⟩ : ∃ q, wr.cell? ⟨g, k * 3 + 2, none⟩ = some q := ⟨_, cell_of hgg (Array.getElem?_eq_getElem (by omega))⟩
        clear m0 m1 m2
        replace hgg := Lib.hid hgg
        replace hc' := Lib.hid hc'
        have hcall := Lib.hid (fun W hW => hit_any l[j].f l[j].t node l[j].a l[j].d.length l[j].c bn W hW)
        cases hh : l[j].hits node
        · have hh' : (l[j].f == node || l[j].t == node) = false := hh
          replace hh := Lib.hid hh
          go_wp2_with (go_at_call 34; refine (hcall.out _ (by simp [World.cell?_alloc_some, hn'])).mono ?_; rintro e w1 ⟨rfl, rfl⟩)
          have hk2 := hk.out
          subst hk2
          exact ⟨⟨j + 1, (kept node (l.take j)).length + 1, _, by rw [kept_snoc_no hlt hh.out, List.length_append]; rfl, by go_num, by go_num, by omega, by omega, hrow.out.no hlt hh.out hkj hsz, (((((hs.store0 _).store0 _).store0 _).junk _).junk _)⟩, by simp [intOf]; omega⟩
        · have hh' : (l[j].f == node || l[j].t == node) = true := hh
          replace hh := Lib.hid hh
          go_wp2_with (go_at_call 34; refine (hcall.out _ (by simp [World.cell?_alloc_some, hn'])).mono ?_; rintro e w1 ⟨rfl, rfl⟩)
          exact ⟨⟨j + 1, k, cur', by rw [kept_snoc_yes hlt hh.out]; exact hk.out, rfl, by go_num, by omega, by omega, hrow.out.yes hlt hh.out, ((hs.junk _).junk _)⟩, by simp [intOf]; omega⟩
      · have hjn : l.length = j := by omega
        have hkl : kept node (l.take j) = kept node l := by rw [List.take_of_length_le (by omega)]
        have hk2 : k = (kept node l).length := by rw [← hkl]; exact hk.out
        obtain ⟨hnc, hcm, hsz'⟩ : l.length ≤ c ∧ c ≤ maxLen ∧ cur.size = c * 3 := by
          obtain ⟨hrl, ⟨h, _⟩ | ⟨_, _, h, h', h2, h3, h4, h5⟩⟩ := hr.out
          · cases h
          · cases h'; exact ⟨h2, h3, h4⟩
        have hcm' : c ≤ 9223372036854775807 := by unfold maxLen at hcm; omega
        have hrep : SlRep 28 3 (some ⟨g, 0, none⟩) k c ((kept node l).flatMap It.cells) [(g, .cells cur' 28 (0, 0))] := by
          refine ⟨by rw [flatMap_cells_len, hk2], .inr ⟨g, cur', rfl, rfl, by omega, hcm, by rw [hrow.out.size, hsz'], ?_⟩⟩
          rw [hk2, ← hkl]; exact hrow.out.kept
        obtain ⟨w2, R2, hrun, hr2, hst2⟩ := run_clear_tail (P := Try.prog) wr st_msg (by simp [Value.cells, Value.oneCell']) 0 (m := l.length - k) (c' := c - k) (ad := ⟨g, k * 3, none⟩) hrep hs.own (by omega) (fun _ => rfl)
        replace hjn := Lib.hid hjn
        replace hkl := Lib.hid hkl
        replace hk2 := Lib.hid hk2
        replace hsz' := Lib.hid hsz'
        have d1 : (k : Int) ≤ (l.length : Int) := by omega
        have d2 : (l.length : Int) ≤ (c : Int) := by omega
        have d3 : ¬ c = k := by omega
        have d4 : (k : Int) ≤ (c : Int) := by omega
        go_wp2
        go_ret
        have hk3 := hk2.out
        subst hk3
        exact ⟨R2, rfl, hr2, hs.trans hst2⟩
end Go.Proofs.Ytliapfdbagcklaa
