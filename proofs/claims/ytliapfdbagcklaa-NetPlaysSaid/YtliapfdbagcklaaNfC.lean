/- The reference of net: Drop. Bytes with room: roomy, stands, spoil. Messages held against each other. -/
import Derived.Test.YtliapfdbagcklaaNfB
namespace Go.Proofs.Ytliapfdbagcklaa
open Go.RowKit
attribute [local go_sem ↓] Go.wp_at_zero Go.wp_at_succ

def RDropPost (b : Nat) (node : Int) (l : List It) (w : World) (H : Heaplet) (e : Ending) (w' : World) : Prop :=
  ∃ H', e = .returned (.int .i64 ((l.length : Int) - (kept node l).length)) ∧ NetRep 47 b (kept node l) H' ∧ Step w H w' H'
theorem rdrop_done {T b c : Nat} {a : Option Addr} {node : Int} {l : List It} {w w' : World} {H0 R Ro : Heaplet} (hok : ∀ x ∈ l, x.ok) (hr : SlRep 28 3 a (kept node l).length c ((kept node l).flatMap It.cells) R)
    (s : Step w H0 w' ((b, .cells #[.slice a (kept node l).length c] T (0, 0)) :: ((Ro ++ l.flatMap It.H) ++ R))) :
    ∃ H', NetRep T b (kept node l) H' ∧ Step w H0 w' H' := by
  refine ⟨_, ⟨a, c, R, hr, rfl, fun x hx => hok x (List.mem_filter.1 hx).1⟩, ?_⟩
  refine Step.forget (B := (l.filter (It.hits node)).flatMap It.H ++ Ro) (s.perm (List.Perm.refl _) ?_)
  rw [List.cons_append]
  refine .cons _ ?_
  have q := ((drop_perm node l).append_left R).append_right Ro
  refine (List.perm_append_comm (l₂ := R)).trans ?_
  refine (List.Perm.append_left R (List.perm_append_comm (l₁ := Ro))).trans ?_
  simpa only [List.append_assoc] using q
def RdRel (node : Int) (l : List It) (H : Heaplet) (w : World) (v5 v6 : Value) (wr : World) : Prop :=
  ∃ (k : Nat) (a : Option Addr) (c : Nat) (R : Heaplet), k ≤ l.length ∧ v5 = .slice a (kept node (l.take k)).length c ∧ v6 = .int .i64 (k : Nat) ∧ SlRep 28 3 a (kept node (l.take k)).length c ((kept node (l.take k)).flatMap It.cells) R ∧ Step w H wr (H ++ R)
set_option maxRecDepth 100000 in
set_option maxHeartbeats 1000000 in
theorem rdrop_any (b : Nat) (l : List It) (H : Heaplet) (node : Int) (w : World) (hnr : NetRep 47 b l H) (hw : Own w H) (hl : l.length ≤ 1024) :
    Calls Try.prog 26 #[.pointer (some ⟨b, 0, none⟩), .int .i64 node] w (RDropPost b node l w H) := by
  obtain ⟨a, c, R, hr, rfl, hok⟩ := hnr
  obtain ⟨n, hn⟩ : ∃ n, n = l.length := ⟨_, rfl⟩
  have b1 : (n : Int) ≤ 1024 := by omega
  have c0 : w.cell? ⟨b, 0, none⟩ = some (.slice a n c) := by rw [hn]; exact cells1 hw.h0
  have s0 := Lib.hid (Step.refl hw)
  replace hok := Lib.hid hok
  replace hr := Lib.hid hr
  replace hn := Lib.hid hn
  clear hw
  go_enter Try.func26, Try.ntmps26
  go_wp2_with fail
  go_loopw [5, 6] (fun v5 v6 wr => RdRel node l ((b, .cells #[.slice a l.length c] 47 (0, 0)) :: (R ++ l.flatMap It.H)) w v5 v6 wr) (fun _ v6 _ => n - (intOf v6).toNat)
  case atStart => exact ⟨0, none, 0, [], Nat.zero_le _, rfl, rfl, SlRep.nil _ _, by rw [List.append_nil]; exact s0.out⟩
  case round =>
    clear s0 c0
    obtain ⟨k, a2, c2, R2, hk, rfl, rfl, hr2, hs⟩ := hrel
    have c0 : wr.cell? ⟨b, 0, none⟩ = some (.slice a n c) := by rw [hn.out]; exact cells1 hs.own.h0
    have f0 := frz_of (i := 0) hs.own.h0
    have d0 : (0 : Int) ≤ (k : Int) := by omega
    have hql : (kept node (l.take k)).length ≤ 1024 := Nat.le_trans (List.length_filter_le _ _) (by rw [List.length_take]; omega)
    by_cases hlt : k < n
    · have d1 : (k : Int) < (n : Int) := by omega
      have hkl : k < l.length := by rw [← hn.out]; exact hlt
      obtain ⟨x, hx⟩ : ∃ x, l[k]? = some x := ⟨_, List.getElem?_eq_getElem hkl⟩
      have hxe : Hid (l[k] = x) := (List.getElem?_eq_some_iff.1 hx).2
      obtain ⟨g, rfl, k0, k1, x0, x1, x2⟩ := nf_at hr.out hs.own.left.tail.left hx
      have k0' : (n : Int) ≤ (c : Int) := by rw [hn.out]; omega
      have hno := Lib.hid (fun hh => kept_snoc_no (node := node) (l := l) hkl hh)
      have hyes := Lib.hid (fun hh => kept_snoc_yes (node := node) (l := l) hkl hh)
      replace hx := Lib.hid hx
      generalize hK : kept node (l.take k) = K at hr2 hql hno hyes ⊢
      replace hK := Lib.hid hK
      cases hf : (x.f == node)
      · have qf : (x.f != node) = true := by simp [bne, hf]
        cases ht : (x.t == node)
        · have qt : (x.t != node) = true := by simp [bne, ht]
          have hh : l[k].hits node = false := by rw [hxe.out]; simp [It.hits, hf, ht]
          have e := Lib.hid (hno.out hh)
          have hfin := Lib.hid hxe.out
          clear hno hyes hh
          replace hf := Lib.hid hf
          replace ht := Lib.hid ht
          go_wp2_with (at_builtin; refine wpList_app rfl st_msg _ _ rfl (by rfl) (by rfl) hr2 (Own.right (A := _ :: (R ++ l.flatMap It.H)) (hs.alloc _).own.tail) (rdCells_block (heap_alloc_new _ _) rfl (by simp [Value.oneCell'])) (by unfold maxLen; omega) (by omega) ?_; intro a6 c6 w6 H6 hr6 hst6)
          have sA : Step w _ w6 (((b, .cells #[.slice (some ⟨g, 0, none⟩) l.length c] 47 (0, 0)) :: (R ++ l.flatMap It.H)) ++ H6) := (Step.callR (R := _ :: _ :: (R ++ l.flatMap It.H)) (hs.alloc _) hst6).tail
          refine ⟨⟨k + 1, a6, c6, H6, hkl, ?_, by go_num, ?_, sA⟩, by simp [intOf]; omega⟩
          · rw [e.out, List.length_append]; rfl
          · rw [e.out, hxe.out, List.flatMap_append, List.length_append]; simpa [It.cells] using hr6
        · have qt : (x.t != node) = false := by simp [bne, ht]
          have hh : l[k].hits node = true := by rw [hxe.out]; simp [It.hits, hf, ht]
          have e := Lib.hid (hyes.out hh)
          clear hno hyes hh
          replace hf := Lib.hid hf
          replace ht := Lib.hid ht
          go_wp2_with fail
          exact ⟨⟨k + 1, a2, c2, R2, hkl, by rw [e.out], by go_num, by rw [e.out]; exact hr2, hs⟩, by simp [intOf]; omega⟩
      · have qf : (x.f != node) = false := by simp [bne, hf]
        have hh : l[k].hits node = true := by rw [hxe.out]; simp [It.hits, hf]
        have e := Lib.hid (hyes.out hh)
        clear hno hyes hh
        replace hf := Lib.hid hf
        go_wp2_with fail
        exact ⟨⟨k + 1, a2, c2, R2, hkl, by rw [e.out], by go_num, by rw [e.out]; exact hr2, hs⟩, by simp [intOf]; omega⟩
    · have d1 : (n : Int) ≤ (k : Int) := by omega
      have hkn : l.take k = l := List.take_of_length_le (by rw [← hn.out]; omega)
      rw [hkn] at hr2 hql ⊢
      have hle : (kept node l).length ≤ n := by rw [hn.out]; exact List.length_filter_le _ _
      have hw1 : IntKind.i64.wrap ((n : Int) - ((kept node l).length : Int)) = (n : Int) - ((kept node l).length : Int) := IntWalk.i64_in _ (by omega)
      obtain ⟨H', q1, q2⟩ := rdrop_done (T := 47) (b := b) (Ro := R) hok.out hr2 (by exact hs.store0 (.slice a2 (kept node l).length c2) (i := 0))
      replace hkn := Lib.hid hkn
      replace q2 := Lib.hid q2
      replace q1 := Lib.hid q1
      obtain ⟨q, hq⟩ : ∃ q, q = (kept node l).length := ⟨_, rfl⟩
      rw [← hq] at q2 hw1 hle hql ⊢
      replace hq := Lib.hid hq
      clear hr2
      go_wp2_with fail
      go_ret
      exact ⟨H', by rw [← hn.out, ← hq.out]; rfl, q1.out, q2.out⟩
/-- Held against one alike. -/
theorem messages_same (f t : Int) (a a' : Option Addr) (n c n' c' : Nat) (d : List UInt8) (w : World) (ha : RdBytes w a n c d) (hb : RdBytes w a' n' c' d) (hl : d.length ≤ 140737488355328) :
    Calls Try.prog 23 #[.agg #[.int .i64 f, .int .i64 t, .slice a n c], .agg #[.int .i64 f, .int .i64 t, .slice a' n' c']] w fun e w' => e = .returned (.bool true) ∧ Step w [] w' [] := by
  have hsm : Hid (∀ o o', Calls Try.prog 12 #[.slice a n c, .slice a' n' c'] ((w.alloc o).alloc o') fun e w' => e = .returned (.bool true) ∧ Step ((w.alloc o).alloc o') [] w' []) := fun o o' =>
    (same_any a a' n c n' c' d d _ ((ha.alloc _).alloc _) ((hb.alloc _).alloc _) hl hl).mono fun e w' hq => ⟨by rw [hq.1]; simp, hq.2⟩
  clear ha hb
  go_enter Try.func23, Try.ntmps23
  go_wp2_with fail
  refine (hsm.out _ _).mono ?_
  rintro e w1 ⟨rfl, hs⟩
  go_wp2_with fail
  go_ret
  exact ⟨rfl, ((((Step.refl (Own.nil w)).alloc _).alloc _).call0 hs).forget (A := [])⟩
theorem sl_pos {E n c : Nat} {a : Option Addr} {xs : List Value} {H : Heaplet} (h : SlRep E 1 a n c xs H) (hn : 0 < n) : ∃ g, a = some ⟨g, 0, none⟩ ∧ n ≤ c := by
  obtain ⟨_, ⟨_, h, _⟩ | ⟨g, cur, rfl, _, h2, _⟩⟩ := h
  · omega
  · exact ⟨g, rfl, h2⟩
def RoomyPost (d : List UInt8) (w : World) (e : Ending) (w' : World) : Prop :=
  ∃ g c H, e = .returned (.slice (some ⟨g, 0, none⟩) (d.length + 1) c) ∧ d.length + 2 ≤ c ∧ SlRep 5 1 (some ⟨g, 0, none⟩) (d.length + 2) c (d.map u8 ++ [.int .u8 171, .int .u8 171]) H ∧ Step w [] w' H
set_option maxRecDepth 100000 in
theorem roomy_any (a : Option Addr) (n c : Nat) (d : List UInt8) (w : World) (h : RdBytes w a n c d) (hl : d.length ≤ 140737488351232) :
    Calls Try.prog 18 #[.slice a n c] w (RoomyPost d w) := by
  have hn := h.1
  have b1 : (n : Int) ≤ 140737488351232 := by omega
  replace h := Lib.hid h
  replace hn := Lib.hid hn
  have s1 := (Step.refl (Own.nil w)).alloc (.cells #[] 5)
  have hn2 : n ≤ 140737488351232 := by omega
  go_enter Try.func18, Try.ntmps18
  go_wp2_with (at_builtin; first
    | (refine wpList_app rfl st_u8 _ _ rfl (by rfl) (by rfl) hr3 (s3.alloc _).own.tail (rdCells_block (heap_alloc_new _ _) rfl (by simp [Value.oneCell'])) (by unfold maxLen; omega) (by omega) ?_; intro a4 c4 w4 H4 hr4 hst4; have s4 := (Step.callR (R := [_]) (s3.alloc _) hst4).tail; obtain ⟨g4, rfl, hc4⟩ := sl_pos hr4 (by omega); have hc5 : (n : Int) + 2 ≤ (c4 : Int) := by omega)
    | (refine wpList_app rfl st_u8 _ _ rfl (by rfl) (by rfl) hr2 (s2.alloc _).own.tail (rdCells_block (heap_alloc_new _ _) rfl (by simp [Value.oneCell'])) (by unfold maxLen; omega) (by omega) ?_; intro a3 c3 w3 H3 hr3 hst3; have s3 := (Step.callR (R := [_]) (s2.alloc _) hst3).tail)
    | (refine wpList_app rfl st_u8 _ _ rfl (by rfl) (by rfl) (SlRep.made _ _ _) s1.own (rdBytes_cells (h.out.alloc _)) (by unfold maxLen; omega) (by omega) ?_; intro a2 c2 w2 H2 hr2 hst2; have s2 := s1.trans hst2; rw [Nat.zero_add, List.nil_append] at hr2))
  go_ret
  have hn := hn.out
  subst hn
  exact ⟨g4, c4, H4, rfl, hc4, by simpa using hr4, s4⟩
set_option maxRecDepth 100000 in
theorem stands_any (g c : Nat) (a : Option Addr) (n c' : Nat) (d : List UInt8) (H : Heaplet) (w : World) (hr : SlRep 5 1 (some ⟨g, 0, none⟩) (d.length + 2) c (d.map u8 ++ [.int .u8 171, .int .u8 171]) H) (hw : Own w H) (h : RdBytes w a n c' d) (hl : d.length ≤ 140737488351232) :
    Calls Try.prog 20 #[.slice (some ⟨g, 0, none⟩) (d.length + 1) c, .slice a n c'] w fun e w' => e = .returned (.bool true) ∧ Step w [] w' [] := by
  have hn := h.1
  obtain ⟨g', e', hc⟩ := sl_pos hr (by omega)
  cases e'
  have h1 : RdBytes w (some ⟨g, 0, none⟩) d.length c d := SlRep.rdBytes (H := H) (by
    have q := SlRep.upto hr (i := d.length) (by omega)
    rw [Nat.mul_one, List.take_append_of_le_length (by simp), List.take_of_length_le (by simp)] at q
    exact q) hw
  obtain ⟨g', e', x0, _⟩ := slRep_at hr hw (i := d.length) (v := .int .u8 171) (by rw [List.getElem?_append_right (by simp)]; simp)
  cases e'
  rw [Nat.zero_add] at x0
  have hsm : Hid (Calls Try.prog 12 #[.slice (some ⟨g, 0, none⟩) d.length c, .slice a n c'] w fun e w' => e = .returned (.bool true) ∧ Step w [] w' []) :=
    (same_any _ _ _ _ _ _ d d _ h1 h (by omega) (by omega)).mono fun e w' hq => ⟨by rw [hq.1]; simp, hq.2⟩
  rw [hn] at hsm ⊢
  obtain ⟨m, hm⟩ : ∃ m, m = d.length := ⟨_, rfl⟩
  rw [← hm] at hsm x0 ⊢
  have b1 : (m : Int) ≤ 140737488351232 := by omega
  have b2 : (m : Int) + 2 ≤ (c : Int) := by omega
  clear hr hw h h1 hn hm hc
  go_enter Try.func20, Try.ntmps20
  go_wp2_with fail
  refine hsm.out.mono ?_
  rintro e w1 ⟨rfl, hs⟩
  have x0 := cell_later' hs x0
  go_wp2_with fail
  go_ret
  exact ⟨rfl, hs⟩
theorem nf_put {w w' : World} {K Hs : Heaplet} {E g n c : Nat} {xs : List Value} (s : Step w K w' Hs) (h : SlRep E 1 (some ⟨g, 0, none⟩) n c xs Hs) (i : Nat) (v : Value) :
    ∃ H', SlRep E 1 (some ⟨g, 0, none⟩) n c (xs.set i v) H' ∧ Step w K (w'.setCell ⟨g, i, none⟩ v) H' := by
  obtain ⟨hl, ⟨h1, _⟩ | ⟨g', cur, e, rfl, h2, h3, h4, h5⟩⟩ := h
  · cases h1
  · cases e
    refine ⟨[(g, .cells (cur.setIfInBounds i v) E (0, 0))], ⟨by simpa using hl, .inr ⟨g, _, rfl, rfl, h2, h3, by simpa using h4, ?_⟩⟩, Step.store (A := []) (B := []) v s⟩
    rw [Array.toList_setIfInBounds, List.take_set, h5]
theorem nf_some {E g n c : Nat} {xs : List Value} {Hs : Heaplet} (h : SlRep E 1 (some ⟨g, 0, none⟩) n c xs Hs) {w : World} (o : Own w Hs) {i : Nat} (hi : i < n) : (∃ v, w.cell? ⟨g, i, none⟩ = some v) ∧ w.frozen? ⟨g, i, none⟩ = false := by
  have hl := h.1
  obtain ⟨g', e, h1, _⟩ := slRep_at h o (i := i) (v := xs[i]'(by omega)) (List.getElem?_eq_getElem _)
  cases e
  refine ⟨⟨_, by simpa using h1⟩, ?_⟩
  obtain ⟨hl, ⟨h1, _⟩ | ⟨g', cur, e, rfl, h2, h3, h4, h5⟩⟩ := h
  · cases h1
  · cases e; exact frz_of o.h0
def SpRel (g n c : Nat) (H : Heaplet) (w : World) (v : Value) (wr : World) : Prop :=
  ∃ (k : Nat) (xs : List Value) (H' : Heaplet), k ≤ n ∧ v = .int .i64 (k : Nat) ∧ SlRep 5 1 (some ⟨g, 0, none⟩) n c xs H' ∧ Step w H wr H'
set_option maxRecDepth 100000 in
theorem spoil_any (a : Option Addr) (n c : Nat) (xs : List Value) (H : Heaplet) (w : World) (hr : SlRep 5 1 a n c xs H) (hw : Own w H) (hl : n ≤ 140737488351300) :
    Calls Try.prog 21 #[.slice a n c] w fun e w' => e = .returned (.tuple #[]) ∧ ∃ H', Step w H w' H' := by
  have s0 := Step.refl hw
  replace hr := Lib.hid hr
  go_enter Try.func21, Try.ntmps21
  go_wp2_with (at_builtin; refine wpList_app rfl st_u8 _ _ rfl (by rfl) (by rfl) hr.out (s0.alloc _).own.tail (rdCells_block (heap_alloc_new _ _) rfl (by simp [Value.oneCell'])) (by unfold maxLen; omega) (by omega) ?_; intro a2 c2 w2 H2 hr2 hst2; obtain ⟨g, rfl, hc2⟩ := sl_pos hr2 (by omega))
  have s2 := (Step.callR (R := [_]) (s0.alloc _) hst2).tail
  obtain ⟨m, hm⟩ : ∃ m, m = n + 1 := ⟨_, rfl⟩
  rw [← hm] at hr2 hc2 ⊢
  have b1 : (m : Int) ≤ 140737488351301 := by omega
  have b2 : (m : Int) ≤ (c2 : Int) := by omega
  clear hm hst2 s0 hr hw
  replace hr2 := Lib.hid hr2
  replace s2 := Lib.hid s2
  go_loopw [3] (fun v wr => SpRel g m c2 H w v wr) (fun v _ => m - (intOf v).toNat)
  case atStart => exact ⟨0, _, H2, Nat.zero_le _, rfl, hr2.out, s2.out⟩
  case round =>
    clear hr2 s2
    obtain ⟨k, xs', H', hk, rfl, hr, hs⟩ := hrel
    have d0 : (0 : Int) ≤ (k : Int) := by omega
    by_cases hlt : k < m
    · have d1 : (k : Int) < (m : Int) := by omega
      obtain ⟨⟨v, hv⟩, fz⟩ := nf_some hr hs.own hlt
      obtain ⟨H3, hr3, s3⟩ := nf_put hs hr k (.int .u8 98)
      replace hr := Lib.hid hr
      replace hr3 := Lib.hid hr3
      go_wp2_with fail
      exact ⟨⟨k + 1, _, H3, hlt, by go_num, hr3.out, s3⟩, by simp [intOf]; omega⟩
    · have d1 : (m : Int) ≤ (k : Int) := by omega
      go_wp2_with fail
      go_end0
      exact ⟨rfl, H', hs⟩
end Go.Proofs.Ytliapfdbagcklaa
