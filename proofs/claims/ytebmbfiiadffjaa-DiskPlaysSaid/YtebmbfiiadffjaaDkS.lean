/- Bytes held against each other; bytes with room: same, roomy, stands, spoil. -/
import Derived.Test.YtebmbfiiadffjaaDkI
namespace Go.Proofs.Ytebmbfiiadffjaa
open Go.RowKit
attribute [local go_sem ↓] Go.wp_at_zero Go.wp_at_succ

def SameRel (la lb : List UInt8) (w : World) (v : Value) (wr : World) : Prop := ∃ k : Nat, k ≤ la.length ∧ v = .int .i64 k ∧ la.take k = lb.take k ∧ Step w [] wr []
def SamePost (la lb : List UInt8) (w : World) (e : Ending) (w' : World) : Prop := e = .returned (.bool (decide (la = lb))) ∧ Step w [] w' []
theorem take_eq_snoc {la lb : List UInt8} {k : Nat} (ha : k < la.length) (hb : k < lb.length) (h : la.take k = lb.take k) (he : la[k] = lb[k]) : la.take (k + 1) = lb.take (k + 1) := by
  rw [List.take_succ_eq_append_getElem ha, List.take_succ_eq_append_getElem hb, h, he]
theorem u8_ne {x y : UInt8} (h : x ≠ y) : ((x.toNat : Int) != (y.toNat : Int)) = true := by
  rw [bne_iff_ne]; intro e; exact h (UInt8.toNat_inj.1 (by omega))
theorem u8_eq {x y : UInt8} (h : x = y) : ((x.toNat : Int) != (y.toNat : Int)) = false := by subst h; simp
set_option maxRecDepth 100000 in
theorem same_any (a b : Option Addr) (n c m d : Nat) (la lb : List UInt8) (w : World) (ha : RdBytes w a n c la) (hb : RdBytes w b m d lb) (hl : la.length ≤ 140737488355328) (hl' : lb.length ≤ 140737488355328) :
    Calls Try.prog 16 #[.slice a n c, .slice b m d] w (SamePost la lb w) := by
  have hn := ha.1
  have hm := hb.1
  subst hn hm
  by_cases hlen : la.length = lb.length
  · have q1 : ((la.length : Int) != (lb.length : Int)) = false := by rw [hlen]; simp
    have q2 : (la.length : Int) ≤ 140737488355328 := by omega
    have q3 : (la.length : Int) ≤ (lb.length : Int) := by omega
    replace ha := Lib.hid ha
    replace hb := Lib.hid hb
    replace hlen := Lib.hid hlen
    go_enter Try.func16, Try.ntmps16
    go_wp2
    go_loopw [5] (fun v wr => SameRel la lb w v wr) (fun v _ => la.length - (intOf v).toNat)
    case atStart => exact ⟨0, Nat.zero_le _, rfl, rfl, Step.refl (Own.nil _)⟩
    case round =>
      obtain ⟨k, hk, rfl, htk, hs⟩ := hrel
      replace htk := Lib.hid htk
      have b1 : (0 : Int) ≤ (k : Int) := by omega
      by_cases hlt : k < la.length
      · have b2 : (k : Int) < (la.length : Int) := by omega
        have b3 : (k : Int) < (lb.length : Int) := by omega
        have hkb : k < lb.length := by omega
        obtain ⟨ba, oa, ea, _, _, hca⟩ := (ha.out.later hs (by simp [dom])).place (by intro e; subst e; simp at hlt)
        obtain ⟨bb, ob, eb, _, _, hcb⟩ := (hb.out.later hs (by simp [dom])).place (by intro e; subst e; simp at hkb)
        subst ea eb
        have r1 := hca k hlt
        have r2 := hcb k hkb
        clear hca hcb
        by_cases he : la[k] = lb[k]
        · have q4 := u8_eq he
          replace he := Lib.hid he
          go_wp2
          go_quiet (fail)
          go_wp2
          exact ⟨⟨k + 1, by omega, by go_num, take_eq_snoc hlt hkb htk.out he.out, hs.drewN _⟩, by simp [intOf]; omega⟩
        · have q4 := u8_ne he
          replace he := Lib.hid he
          go_wp2
          go_quiet (fail)
          go_wp2
          go_ret
          refine ⟨?_, hs.drewN _⟩
          rw [decide_eq_false]
          · rfl
          · intro e; subst e; exact he.out rfl
      · go_wp2
        go_ret
        refine ⟨?_, hs⟩
        rw [decide_eq_true]
        · rfl
        · have := htk.out
          rwa [List.take_of_length_le (by omega), List.take_of_length_le (by have := hlen.out; omega)] at this
  · have q1 : ((la.length : Int) != (lb.length : Int)) = true := by rw [bne_iff_ne]; omega
    replace hlen := Lib.hid hlen
    clear ha hb
    go_enter Try.func16, Try.ntmps16
    go_wp2
    go_ret
    refine ⟨?_, Step.refl (Own.nil _)⟩
    rw [decide_eq_false]
    · rfl
    · intro e; subst e; exact hlen.out rfl
theorem sl_pos {E n c : Nat} {a : Option Addr} {xs : List Value} {H : Heaplet} (h : SlRep E 1 a n c xs H) (hn : 0 < n) : ∃ g, a = some ⟨g, 0, none⟩ ∧ n ≤ c := by
  obtain ⟨_, ⟨_, h, _⟩ | ⟨g, cur, rfl, _, h2, _⟩⟩ := h
  · omega
  · exact ⟨g, rfl, h2⟩
def RoomyPost (d : List UInt8) (w : World) (e : Ending) (w' : World) : Prop :=
  ∃ g c H, e = .returned (.slice (some ⟨g, 0, none⟩) (d.length + 1) c) ∧ d.length + 2 ≤ c ∧ SlRep 5 1 (some ⟨g, 0, none⟩) (d.length + 2) c (d.map u8 ++ [.int .u8 171, .int .u8 171]) H ∧ Step w [] w' H
set_option maxRecDepth 100000 in
theorem roomy_any (a : Option Addr) (n c : Nat) (d : List UInt8) (w : World) (h : RdBytes w a n c d) (hl : d.length ≤ 140737488351232) :
    Calls Try.prog 37 #[.slice a n c] w (RoomyPost d w) := by
  have hn := h.1
  have b1 : (n : Int) ≤ 140737488351232 := by omega
  replace h := Lib.hid h
  replace hn := Lib.hid hn
  have s1 := (Step.refl (Own.nil w)).alloc (.cells #[] 5)
  have hn2 : n ≤ 140737488351232 := by omega
  go_enter Try.func37, Try.ntmps37
  go_wp2_with (at_builtin; first
    | (refine wpList_app rfl st_u8 _ _ rfl (by rfl) (by rfl) hr3 (s3.alloc _).own.tail (rdCells_block (heap_alloc_new _ _) rfl (by simp [Value.oneCell'])) (by unfold maxLen; omega) (by omega) ?_; intro a4 c4 w4 H4 hr4 hst4; have s4 := (Step.callR (R := [_]) (s3.alloc _) hst4).tail; obtain ⟨g4, rfl, hc4⟩ := sl_pos hr4 (by omega); have hc5 : (n : Int) + 2 ≤ (c4 : Int) := by omega)
    | (refine wpList_app rfl st_u8 _ _ rfl (by rfl) (by rfl) hr2 (s2.alloc _).own.tail (rdCells_block (heap_alloc_new _ _) rfl (by simp [Value.oneCell'])) (by unfold maxLen; omega) (by omega) ?_; intro a3 c3 w3 H3 hr3 hst3; have s3 := (Step.callR (R := [_]) (s2.alloc _) hst3).tail)
    | (refine wpList_app rfl st_u8 _ _ rfl (by rfl) (by rfl) (SlRep.made _ _ _) s1.own (rdBytes_cells (h.out.alloc _)) (by unfold maxLen; omega) (by omega) ?_; intro a2 c2 w2 H2 hr2 hst2; have s2 := s1.trans hst2; rw [Nat.zero_add, List.nil_append] at hr2))
  go_ret
  have hn := hn.out
  subst hn
  exact ⟨g4, c4, H4, rfl, hc4, by simpa using hr4, s4⟩
set_option maxRecDepth 100000 in
theorem stands_any (g c : Nat) (a : Option Addr) (n c' : Nat) (d : List UInt8) (H : Heaplet) (w : World) (hr : SlRep 5 1 (some ⟨g, 0, none⟩) (d.length + 2) c (d.map u8 ++ [.int .u8 171, .int .u8 171]) H) (hw : Own w H) (h : RdBytes w a n c' d) (hl : d.length ≤ 140737488351232) :
    Calls Try.prog 39 #[.slice (some ⟨g, 0, none⟩) (d.length + 1) c, .slice a n c'] w fun e w' => e = .returned (.bool true) ∧ Step w [] w' [] := by
  have hn := h.1
  obtain ⟨g', e', hc⟩ := sl_pos hr (by omega)
  cases e'
  have h1 : RdBytes w (some ⟨g, 0, none⟩) d.length c d := SlRep.rdBytes (H := H) (by
    have q := SlRep.upto hr (i := d.length) (by omega)
    rw [Nat.mul_one, List.take_append_of_le_length (by simp), List.take_of_length_le (by simp)] at q
    exact q) hw
  obtain ⟨g', e', x0, _⟩ := slRep_at hr hw (i := d.length) (v := .int .u8 171) (by rw [List.getElem?_append_right (by simp)]; simp)
  cases e'
  rw [Nat.zero_add] at x0
  have hsm : Hid (Calls Try.prog 16 #[.slice (some ⟨g, 0, none⟩) d.length c, .slice a n c'] w fun e w' => e = .returned (.bool true) ∧ Step w [] w' []) :=
    (same_any _ _ _ _ _ _ d d _ h1 h (by omega) (by omega)).mono fun e w' hq => ⟨by rw [hq.1]; simp, hq.2⟩
  rw [hn] at hsm ⊢
  obtain ⟨m, hm⟩ : ∃ m, m = d.length := ⟨_, rfl⟩
  rw [← hm] at hsm x0 ⊢
  have b1 : (m : Int) ≤ 140737488351232 := by omega
  have b2 : (m : Int) + 2 ≤ (c : Int) := by omega
  clear hr hw h h1 hn hm hc
  go_enter Try.func39, Try.ntmps39
  go_wp2_with fail
  refine hsm.out.mono ?_
  rintro e w1 ⟨rfl, hs⟩
  have x0 := hs.keepCell x0
  go_wp2_with fail
  go_ret
  exact ⟨rfl, hs⟩
theorem nf_put {w w' : World} {K Hs : Heaplet} {E g n c : Nat} {xs : List Value} (s : Step w K w' Hs) (h : SlRep E 1 (some ⟨g, 0, none⟩) n c xs Hs) (i : Nat) (v : Value) :
    ∃ H', SlRep E 1 (some ⟨g, 0, none⟩) n c (xs.set i v) H' ∧ Step w K (w'.setCell ⟨g, i, none⟩ v) H' := by
  obtain ⟨hl, ⟨h1, _⟩ | ⟨g', cur, e, rfl, h2, h3, h4, h5⟩⟩ := h
  · cases h1
  · cases e
    refine ⟨[(g, .cells (cur.setIfInBounds i v) E (0, 0))], ⟨by simpa using hl, .inr ⟨g, _, rfl, rfl, h2, h3, by simpa using h4, ?_⟩⟩, Step.store (A := []) (B := []) v s⟩
    rw [Array.toList_setIfInBounds, List.take_set, h5]
theorem nf_some {E g n c : Nat} {xs : List Value} {Hs : Heaplet} (h : SlRep E 1 (some ⟨g, 0, none⟩) n c xs Hs) {w : World} (o : Own w Hs) {i : Nat} (hi : i < n) : (∃ v, w.cell? ⟨g, i, none⟩ = some v) ∧ w.frozen? ⟨g, i, none⟩ = false := by
  have hl := h.1
  obtain ⟨g', e, h1, _⟩ := slRep_at h o (i := i) (v := xs[i]'(by omega)) (List.getElem?_eq_getElem _)
  cases e
  refine ⟨⟨_, by simpa using h1⟩, ?_⟩
  obtain ⟨hl, ⟨h1, _⟩ | ⟨g', cur, e, rfl, h2, h3, h4, h5⟩⟩ := h
  · cases h1
  · cases e; exact frz_of o.h0
def SpRel (g n c : Nat) (H : Heaplet) (w : World) (v : Value) (wr : World) : Prop :=
  ∃ (k : Nat) (xs : List Value) (H' : Heaplet), k ≤ n ∧ v = .int .i64 (k : Nat) ∧ SlRep 5 1 (some ⟨g, 0, none⟩) n c xs H' ∧ Step w H wr H'
set_option maxRecDepth 100000 in
theorem spoil_any (a : Option Addr) (n c : Nat) (xs : List Value) (H : Heaplet) (w : World) (hr : SlRep 5 1 a n c xs H) (hw : Own w H) (hl : n ≤ 140737488351300) :
    Calls Try.prog 40 #[.slice a n c] w fun e w' => e = .returned (.tuple #[]) ∧ ∃ H', Step w H w' H' := by
  have s0 := Step.refl hw
  replace hr := Lib.hid hr
  go_enter Try.func40, Try.ntmps40
  go_wp2_with (at_builtin; refine wpList_app rfl st_u8 _ _ rfl (by rfl) (by rfl) hr.out (s0.alloc _).own.tail (rdCells_block (heap_alloc_new _ _) rfl (by simp [Value.oneCell'])) (by unfold maxLen; omega) (by omega) ?_; intro a2 c2 w2 H2 hr2 hst2; obtain ⟨g, rfl, hc2⟩ := sl_pos hr2 (by omega))
  have s2 := (Step.callR (R := [_]) (s0.alloc _) hst2).tail
  obtain ⟨m, hm⟩ : ∃ m, m = n + 1 := ⟨_, rfl⟩
  rw [← hm] at hr2 hc2 ⊢
  have b1 : (m : Int) ≤ 140737488351301 := by omega
  have b2 : (m : Int) ≤ (c2 : Int) := by omega
  clear hm hst2 s0 hr hw
  replace hr2 := Lib.hid hr2
  replace s2 := Lib.hid s2
  go_loopw [3] (fun v wr => SpRel g m c2 H w v wr) (fun v _ => m - (intOf v).toNat)
  case atStart => exact ⟨0, _, H2, Nat.zero_le _, rfl, hr2.out, s2.out⟩
  case round =>
    clear hr2 s2
    obtain ⟨k, xs', H', hk, rfl, hr, hs⟩ := hrel
    have d0 : (0 : Int) ≤ (k : Int) := by omega
    by_cases hlt : k < m
    · have d1 : (k : Int) < (m : Int) := by omega
      obtain ⟨⟨v, hv⟩, fz⟩ := nf_some hr hs.own hlt
      obtain ⟨H3, hr3, s3⟩ := nf_put hs hr k (.int .u8 98)
      replace hr := Lib.hid hr
      replace hr3 := Lib.hid hr3
      go_wp2_with fail
      exact ⟨⟨k + 1, _, H3, hlt, by go_num, hr3.out, s3⟩, by simp [intOf]; omega⟩
    · have d1 : (m : Int) ≤ (k : Int) := by omega
      go_wp2_with fail
      go_end0
      exact ⟨rfl, H', hs⟩
end Go.Proofs.Ytebmbfiiadffjaa
