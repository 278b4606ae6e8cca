/- DiskNames. -/
import Derived.Test.YtebmbfiiadffjaaDkT
import Derived.Test.YtebmbfiiadffjaaDkN
import Derived.Test.YtebmbfiiadffjaaDkNm
import Derived.Test.YtebmbfiiadffjaaDkRows
import Derived.Test.YtebmbfiiadffjaaPure
namespace Go.Proofs.Ytebmbfiiadffjaa
open Go.RowKit
attribute [local go_sem ↓] Go.wp_at_zero Go.wp_at_succ

theorem one_text (w : World) (nm : Nm) : RdNs (w.alloc (.cells #[strV nm] 9)) (some ⟨w.heap.size, 0, none⟩) 1 1 [nm] := by
  refine ⟨rfl, Nat.le_refl _, by decide, fun _ => ⟨w.heap.size, 0, rfl, fun i x hx j v hj => ?_⟩⟩
  match i, hx with
  | 0, hx =>
    cases hx
    match j, hj with
    | 0, hj => cases hj; exact cell_of (heap_alloc_new _ _) rfl
def outOf (a : Option Addr) (l : List UInt8) (B : Nat) : Prop := l ≠ [] → ∀ x, a = some x → x.block < B
theorem rd_out {w : World} {a : Option Addr} {n c : Nat} {l : List UInt8} (h : RdBytes w a n c l) : outOf a l w.heap.size := fun hne x hx => by
  obtain ⟨b, off, ha, _, _, hc⟩ := h.place hne
  rw [ha] at hx
  cases hx
  exact World.block_lt_of_cell? w _ (hc 0 (List.length_pos_iff.2 hne))
/-- A write of bytes that were there: its pure outcome laid. -/
theorem dwrite_old (b : Nat) (k k' : Dk) (H : Heaplet) (nm : Nm) (hnm : nm.length ≤ 64) (pa : Option Addr) (pc : Nat) (p : List UInt8) (w0 w : World) (Hs : List Heaplet) (h : DkRep b k H) (hk : k.Ok) (s : Sp w0 [] w Hs) (hq : Hs[0]? = some H) (hb : RdBytes w0 pa p.length pc p) (hpl : p.length ≤ 140737488355328) (eg : gateN [nm] (wrI nm p) k = (0, k')) :
    Calls Try.prog 11 #[pt b, strV nm, .slice pa p.length pc] w fun e w' => e = .returned (.int .i64 0) ∧ ∃ H', DkRep b k' H' ∧ Step w H w' H' := by
  have hb' := hb.later' (s.out rfl) (fun _ _ _ => by simp [dom])
  refine (dwrite b k H nm pa p.length pc p w h hk (s.own 0 hq) hb' (fun hne x hx hd => ?_) hpl).mono fun e w' hp => ?_
  · have h1 := rd_out hb hne x hx
    have h2 := s.news hq _ hd
    omega
  · rw [eg] at hp
    exact hp
set_option maxHeartbeats 8000000 in
set_option maxRecDepth 100000 in
theorem diskNames_walk (aa : Option Addr) (na ca : Nat) (a : List UInt8) (ab : Option Addr) (nb cb : Nat) (b : List UInt8) (ac : Option Addr) (nc cc : Nat) (c : List UInt8) (sy : Bool) (w : World) (ha : RdBytes w aa na ca a) (_ : a.length ≤ 140737488351232) (hb : RdBytes w ab nb cb b) (_ : b.length ≤ 140737488351232) (hc : RdBytes w ac nc cc c) (_ : c.length ≤ 140737488351232) :
    Calls Try.prog 6 #[.slice aa na ca, .slice ab nb cb, .slice ac nc cc, .bool sy] w fun e w' => e = .returned (.bool true) ∧ Below w.heap.size w w' := by
  suffices hs : Calls Try.prog 6 #[.slice aa na ca, .slice ab nb cb, .slice ac nc cc, .bool sy] w (KnownPost w) from hs.mono fun e w' hp => ⟨hp.1, hp.2.nil_below⟩
  obtain rfl := ha.1
  obtain rfl := hb.1
  obtain rfl := hc.1
  have b1 : (a.length : Int) ≤ 140737488351232 := by omega
  have b2 : (b.length : Int) ≤ 140737488351232 := by omega
  have b3 : (c.length : Int) ≤ 140737488351232 := by omega
  by_cases hbig : 8000 < (a.length : Int) + (b.length : Int) + (c.length : Int)
  · clear ha hb hc
    go_enter Try.func6, Try.ntmps6
    go_wp2_with fail
    go_ret
    exact ⟨rfl, Step.refl (Own.nil _)⟩
  · have h8 : a.length + b.length + c.length ≤ 8000 := by omega
    have h8' : (a.length : Int) + (b.length : Int) + (c.length : Int) ≤ 8000 := by omega
    clear hbig
    have ok0 : (nk []).Ok := new_ok (by decide)
    have ok1 : (nk [([120], a, 0)]).Ok := by have := gate_ok ok0 [[120]] (wrI [120] a) (fun _ => wr_ok ok0 _ (by decide) _); rwa [nm1 a (by omega)] at this
    have ok2 : (nk [([120], a, a.length)]).Ok := by have := gate_ok ok1 [[120]] (syI [120]) (fun _ => sy_ok ok1 _); rwa [nm2] at this
    have ok3 : (nk [([120], a ++ b, a.length)]).Ok := by have := gate_ok ok2 [[120]] (wrI [120] b) (fun _ => wr_ok ok2 _ (by decide) _); rwa [nm3 a b _ (by omega)] at this
    have ok4 : (nk [([120], a ++ b, a.length), ([121], c, 0)]).Ok := by have := gate_ok ok3 [[121]] (wrI [121] c) (fun _ => wr_ok ok3 _ (by decide) _); rwa [nm4 (a ++ b) c _ (by rw [List.length_append]; omega)] at this
    have ok5 : (nk [([120], a ++ b, (a ++ b).length), ([121], c, 0)]).Ok := by have := gate_ok ok4 [[120]] (syI [120]) (fun _ => sy_ok ok4 _); rwa [nm5] at this
    have g1 := Lib.hid (fun b' H W Hs hr (s : Sp w [] W Hs) hq => dwrite_old b' _ _ H [120] (by decide) aa ca a w W Hs hr ok0 s hq ha (by omega) (nm1 a (by omega)))
    have g2 := Lib.hid (fun b' H W hr hW => (dsync b' _ H [120] W hr ok1 hW).mono fun e w' hq => by rw [nm2] at hq; exact hq)
    have g3 := Lib.hid (fun b' H W Hs hr (s : Sp w [] W Hs) hq => dwrite_old b' _ _ H [120] (by decide) ab cb b w W Hs hr ok2 s hq hb (by omega) (nm3 a b _ (by omega)))
    have g4 := Lib.hid (fun b' H W Hs hr (s : Sp w [] W Hs) hq => dwrite_old b' _ _ H [121] (by decide) ac cc c w W Hs hr ok3 s hq hc (by omega) (nm4 (a ++ b) c _ (by rw [List.length_append]; omega)))
    have g5 := Lib.hid (fun b' H W hr hW => (dsync b' _ H [120] W hr ok4 hW).mono fun e w' hq => by rw [nm5] at hq; exact hq)
    have ha0 : Hid (∀ W Hs, Sp w [] W Hs → RdBytes W aa a.length ca a) := fun W Hs s => ha.later' (s.out rfl) (fun _ _ _ => by simp [dom])
    have hb0 : Hid (∀ W Hs, Sp w [] W Hs → RdBytes W ab b.length cb b) := fun W Hs s => hb.later' (s.out rfl) (fun _ _ _ => by simp [dom])
    have hsy : Hid (∀ n, n = (if sy then (a ++ b).length else a.length) → (nk [([120], a ++ b, n), ([121], c, 0)]).Ok) := fun n hn => by
      subst hn
      cases sy
      · exact ok4
      · exact ok5
    clear ha hb hc
    go_enter Try.func6, Try.ntmps6
    go_wp2_with fail
    refine (dnew_ok 1048576 1048576 rfl (by decide) w).mono ?_
    rintro e w1 ⟨d, H1, rfl, hr1, hst⟩
    have s1 := Sp.of hst
    clear hst
    go_wp2_with fail
    refine (g1.out d H1 w1 _ hr1 s1 rfl).mono ?_
    rintro e w2 ⟨rfl, H2, hr2, hst⟩
    have s2 : Sp w [] w2 [H2] := s1.put 0 rfl hst
    clear hst s1 hr1
    go_wp2_with fail
    refine (g2.out d H2 w2 hr2 (s2.own 0 rfl)).mono ?_
    rintro e w3 ⟨rfl, H3, hr3, hst⟩
    have s3 : Sp w [] w3 [H3] := s2.put 0 rfl hst
    clear hst s2 hr2
    go_wp2_with fail
    refine (g3.out d H3 w3 _ hr3 s3 rfl).mono ?_
    rintro e w4 ⟨rfl, H4, hr4, hst⟩
    have s4 : Sp w [] w4 [H4] := s3.put 0 rfl hst
    clear hst s3 hr3
    go_wp2_with fail
    refine (g4.out d H4 w4 _ hr4 s4 rfl).mono ?_
    rintro e w5 ⟨rfl, H5, hr5, hst⟩
    have s5 : Sp w [] w5 [H5] := s4.put 0 rfl hst
    clear hst s4 hr4
    cases sy
    · have okA := ok4
      have okB : (nk [([121], a ++ b, a.length)]).Ok := by have := gate_ok okA [[120], [121]] (rnI [120] [121]) (fun _ => rn_ok okA _ _ (by decide)); rwa [nm6] at this
      have okC : (nk [([121], (a ++ b).take a.length, a.length)]).Ok := by have := cr_ok okB 0 0; rwa [nm8] at this
      have g6 := Lib.hid (fun b' H W hr hW => (drename b' _ H [120] [121] W hr okA hW).mono fun e w' hq => by rw [nm6] at hq; exact hq)
      have g7 : Hid (∀ b' H W, DkRep b' (nk [([121], a ++ b, a.length)]) H → Own W H → Calls Try.prog 21 #[pt b'] W (NamesPost [[121]] W)) := fun b' H W hr hW => dnames b' _ H W hr okB hW
      have g8 := Lib.hid (fun b' H W hr hW => (drename b' _ H [120] [122] W hr okB hW).mono fun e w' hq => by rw [nm7] at hq; exact hq)
      have g9 := Lib.hid (fun b' H W hr hW => (dcrash b' _ 0 0 H W hr okB hW (by decide)).mono fun e w' hq => by rw [nm8] at hq; exact hq)
      have g10 : Hid (∀ b' H W, DkRep b' (nk [([121], (a ++ b).take a.length, a.length)]) H → Own W H → Calls Try.prog 14 #[pt b', strV [121]] W (RdPost a 0 W)) := fun b' H W hr hW => (dread b' _ H [121] W hr okC hW).mono fun e w' hq => by
        rw [nm9] at hq
        have e1 : (a ++ b).take a.length = a := by simp
        rw [e1] at hq
        exact hq
      clear okA okB okC
      clear ok0 ok1 ok2 ok3 ok4 ok5
      go_wp2_with fail
      refine (g6.out d H5 w5 hr5 (s5.own 0 rfl)).mono ?_
      rintro e w6 ⟨rfl, H6, hr6, hst⟩
      have s6 : Sp w [] w6 [H6] := s5.put 0 rfl hst
      clear hst s5 hr5
      go_wp2_with fail
      refine (g7.out d H6 w6 hr6 (s6.own 0 rfl)).mono ?_
      rintro e w7 ⟨an, cn, Hn, rfl, hrn, hst⟩
      have s7 : Sp w [] w7 [H6, Hn] := s6.fresh hst
      clear hst s6
      have s8 : Sp w [] _ [H6, Hn, [(w7.heap.size, .cells #[strV [121]] 9 (0, 0))]] := s7.alloc (.cells #[strV [121]] 9)
      go_wp2_with fail
      refine (texts_any an _ 1 cn 1 1 [[121]] [[121]] _ (hrn.rdNs (s8.own 1 rfl)) (one_text w7 [121])).mono ?_
      rintro e w8 ⟨rfl, hst⟩
      rw [decide_eq_true (rfl : ([[121]] : List Nm) = [[121]])]
      have s9 := (s8.still hst).first
      clear hst s8 s7
      go_wp2_with fail
      refine (g8.out d H6 w8 hr6 s9.own).mono ?_
      rintro e w9 ⟨rfl, H9, hr9, hst⟩
      replace s9 := s9.trans hst
      clear hst hr6
      go_wp2_with fail
      refine (g9.out d H9 w9 hr9 s9.own).mono ?_
      rintro e w10 ⟨rfl, H10, hr10, hst⟩
      replace s9 := s9.trans hst
      clear hst hr9
      go_wp2_with fail
      refine (g10.out d H10 w10 hr10 s9.own).mono ?_
      rintro e w11 ⟨ar, cr, Hr, rfl, hrr, hst⟩
      have s12 : Sp w [] w11 [H10, Hr] := (Sp.of s9).fresh hst
      clear hst s9 hr10
      have s13 : Sp w [] _ [H10, Hr, [(w11.heap.size, .cells #[] 5 (0, 0))]] := s12.alloc (.cells #[] 5 (0, 0))
      have hl := Lib.hid (@List.length_append _ a b)
      go_wp2_with (first
        | (at_builtin; refine wpList_app rfl st_u8 _ _ rfl (by rfl) (by rfl) (SlRep.made _ _ w11.heap.size) (s13.own 2 rfl) (rdBytes_cells (ha0.out _ _ s13)) (by unfold maxLen; omega) (by omega) ?_; intro a14 c14 w14 H14 hv14 hst14; have s14 : Sp w [] w14 [H10, Hr, H14] := s13.put 2 rfl hst14; simp only [Nat.zero_add, List.nil_append] at hv14))
      have r1 := hrr.rdBytes (s14.own 1 rfl)
      have r2 := hv14.rdBytes (s14.own 2 rfl)
      refine (same_any _ _ _ _ _ _ a a _ r1 r2 (by omega) (by omega)).mono ?_
      rintro e w17 ⟨rfl, hst17⟩
      rw [decide_eq_true (rfl : a = a)]
      have s17 := (s14.still hst17).first
      go_wp2_with fail
      refine (known_any _).mono ?_
      rintro e w18 ⟨rfl, hst18⟩
      go_wp2_with fail
      go_ret
      exact ⟨rfl, (s17.call0 hst18).forget (A := [])⟩
    · have okA := ok5
      have okB : (nk [([121], a ++ b, (a ++ b).length)]).Ok := by have := gate_ok okA [[120], [121]] (rnI [120] [121]) (fun _ => rn_ok okA _ _ (by decide)); rwa [nm6] at this
      have okC : (nk [([121], (a ++ b).take (a ++ b).length, (a ++ b).length)]).Ok := by have := cr_ok okB 0 0; rwa [nm8] at this
      have g6 := Lib.hid (fun b' H W hr hW => (drename b' _ H [120] [121] W hr okA hW).mono fun e w' hq => by rw [nm6] at hq; exact hq)
      have g7 : Hid (∀ b' H W, DkRep b' (nk [([121], a ++ b, (a ++ b).length)]) H → Own W H → Calls Try.prog 21 #[pt b'] W (NamesPost [[121]] W)) := fun b' H W hr hW => dnames b' _ H W hr okB hW
      have g8 := Lib.hid (fun b' H W hr hW => (drename b' _ H [120] [122] W hr okB hW).mono fun e w' hq => by rw [nm7] at hq; exact hq)
      have g9 := Lib.hid (fun b' H W hr hW => (dcrash b' _ 0 0 H W hr okB hW (by decide)).mono fun e w' hq => by rw [nm8] at hq; exact hq)
      have g10 : Hid (∀ b' H W, DkRep b' (nk [([121], (a ++ b).take (a ++ b).length, (a ++ b).length)]) H → Own W H → Calls Try.prog 14 #[pt b', strV [121]] W (RdPost (a ++ b) 0 W)) := fun b' H W hr hW => (dread b' _ H [121] W hr okC hW).mono fun e w' hq => by
        rw [nm9] at hq
        have e1 : (a ++ b).take (a ++ b).length = (a ++ b) := List.take_of_length_le (Nat.le_refl _)
        rw [e1] at hq
        exact hq
      clear okA okB okC
      clear ok0 ok1 ok2 ok3 ok4 ok5
      go_wp2_with fail
      refine (g5.out d H5 w5 hr5 (s5.own 0 rfl)).mono ?_
      rintro e w5b ⟨rfl, H5b, hr5b, hst⟩
      have s5b : Sp w [] w5b [H5b] := s5.put 0 rfl hst
      clear hst s5 hr5
      go_wp2_with fail
      refine (g6.out d H5b w5b hr5b (s5b.own 0 rfl)).mono ?_
      rintro e w6 ⟨rfl, H6, hr6, hst⟩
      have s6 : Sp w [] w6 [H6] := s5b.put 0 rfl hst
      clear hst s5b hr5b
      go_wp2_with fail
      refine (g7.out d H6 w6 hr6 (s6.own 0 rfl)).mono ?_
      rintro e w7 ⟨an, cn, Hn, rfl, hrn, hst⟩
      have s7 : Sp w [] w7 [H6, Hn] := s6.fresh hst
      clear hst s6
      have s8 : Sp w [] _ [H6, Hn, [(w7.heap.size, .cells #[strV [121]] 9 (0, 0))]] := s7.alloc (.cells #[strV [121]] 9)
      go_wp2_with fail
      refine (texts_any an _ 1 cn 1 1 [[121]] [[121]] _ (hrn.rdNs (s8.own 1 rfl)) (one_text w7 [121])).mono ?_
      rintro e w8 ⟨rfl, hst⟩
      rw [decide_eq_true (rfl : ([[121]] : List Nm) = [[121]])]
      have s9 := (s8.still hst).first
      clear hst s8 s7
      go_wp2_with fail
      refine (g8.out d H6 w8 hr6 s9.own).mono ?_
      rintro e w9 ⟨rfl, H9, hr9, hst⟩
      replace s9 := s9.trans hst
      clear hst hr6
      go_wp2_with fail
      refine (g9.out d H9 w9 hr9 s9.own).mono ?_
      rintro e w10 ⟨rfl, H10, hr10, hst⟩
      replace s9 := s9.trans hst
      clear hst hr9
      go_wp2_with fail
      refine (g10.out d H10 w10 hr10 s9.own).mono ?_
      rintro e w11 ⟨ar, cr, Hr, rfl, hrr, hst⟩
      rw [List.length_append] at hrr
      have s12 : Sp w [] w11 [H10, Hr] := (Sp.of s9).fresh hst
      clear hst s9 hr10
      have s13 : Sp w [] _ [H10, Hr, [(w11.heap.size, .cells #[] 5 (0, 0))]] := s12.alloc (.cells #[] 5 (0, 0))
      have hl := Lib.hid (@List.length_append _ a b)
      go_upto_region 14 with (at_builtin; refine wpList_app rfl st_u8 _ _ rfl (by rfl) (by rfl) (SlRep.made _ _ w11.heap.size) (s13.own 2 rfl) (rdBytes_cells (ha0.out _ _ s13)) (by unfold maxLen; omega) (by omega) ?_; intro a14 c14 w14 H14 hv14 hst14; have s14 : Sp w [] w14 [H10, Hr, H14] := s13.put 2 rfl hst14; simp only [Nat.zero_add, List.nil_append] at hv14)
      go_wp2_with (at_builtin; refine wpList_app rfl st_u8 _ _ rfl (by rfl) (by rfl) hv14 (s14.own 2 rfl) (rdBytes_cells (hb0.out _ _ s14)) (by unfold maxLen; omega) (by omega) ?_; intro a15 c15 w15 H15 hv15 hst15; have s15 : Sp w [] w15 [H10, Hr, H15] := s14.put 2 rfl hst15)
      have hv16 : SlRep 5 1 a15 (a.length + b.length) c15 ((a ++ b).map u8) H15 := by rw [List.map_append]; exact hv15
      have r1 := hrr.rdBytes (s15.own 1 rfl)
      have r2 := hv16.rdBytes (s15.own 2 rfl)
      refine (same_any _ _ _ _ _ _ (a ++ b) (a ++ b) _ r1 r2 (by rw [List.length_append]; omega) (by rw [List.length_append]; omega)).mono ?_
      rintro e w17 ⟨rfl, hst17⟩
      rw [decide_eq_true (rfl : (a ++ b) = (a ++ b))]
      have s17 := (s15.still hst17).first
      go_wp2_with fail
      refine (known_any _).mono ?_
      rintro e w18 ⟨rfl, hst18⟩
      go_wp2_with fail
      go_ret
      exact ⟨rfl, (s17.call0 hst18).forget (A := [])⟩
end Go.Proofs.Ytebmbfiiadffjaa
