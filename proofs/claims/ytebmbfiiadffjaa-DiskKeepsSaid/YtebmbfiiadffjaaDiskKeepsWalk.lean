/- DiskKeeps. -/
import Derived.Test.YtebmbfiiadffjaaDkRows
import Derived.Test.YtebmbfiiadffjaaDkKp
namespace Go.Proofs.Ytebmbfiiadffjaa
open Go.RowKit
attribute [local go_sem ↓] Go.wp_at_zero Go.wp_at_succ

def KpRel (l : List (List UInt8)) (s b : Nat) (w : World) (v13 v14 v15 : Value) (wr : World) : Prop :=
  ∃ (i : Nat) (k : Dk) (H Ha Hs : Heaplet) (aa sa : Option Addr) (ca cs : Nat), i ≤ l.length ∧ v15 = iv i ∧ v13 = .slice aa (allK l i).length ca ∧ v14 = .slice sa (allK l (min i s)).length cs ∧
    SlRep 5 1 aa (allK l i).length ca ((allK l i).map u8) Ha ∧ SlRep 5 1 sa (allK l (min i s)).length cs ((allK l (min i s)).map u8) Hs ∧ KpInv l s i k ∧ DkRep b k H ∧ Sp w [] wr [H, Ha, Hs]
set_option maxHeartbeats 8000000 in
set_option maxRecDepth 100000 in
theorem diskKeeps_walk (a : Option Addr) (ln c : Nat) (l : List (List UInt8)) (A : Nat → Option Addr) (C : Nat → Nat) (synced draw tr : Int) (w : World) (h : RdRows w a ln c l A C) (hl : ∀ x ∈ l, x.length ≤ 140737488351232) (wn : (Lit.int .i64 synced).wf = true) (wd : (Lit.int .i64 draw).wf = true) (wt' : (Lit.int .u8 tr).wf = true) :
    Calls Try.prog 3 #[.slice a ln c, .int .i64 synced, .int .i64 draw, .int .u8 tr] w fun e w' => e = .returned (.bool true) ∧ Below w.heap.size w w' := by
  obtain ⟨tear, ht⟩ : ∃ t : UInt8, .int .u8 tr = u8 t := ⟨_, (u8_of_wf wt').symm⟩
  rw [ht]
  clear ht wt'
  suffices hs : Calls Try.prog 3 #[.slice a ln c, .int .i64 synced, .int .i64 draw, u8 tear] w (KnownPost w) from hs.mono fun e w' hp => ⟨hp.1, hp.2.nil_below⟩
  have hln := h.1
  subst hln
  have b0 : (l.length : Int) ≤ (c : Int) := by have := h.2.1; omega
  have b1 : (c : Int) ≤ 9223372036854775807 := by have := h.2.2.1; unfold maxLen at this; omega
  have hdr : Hid (draw ≤ 9223372036854775807) := by
    simp [Lit.wf, IntKind.min, IntKind.max, IntKind.bits, IntKind.signed] at wd
    show _ ≤ _
    omega
  replace h := Lib.hid h
  replace hl := Lib.hid hl
  clear wn wd
  go_enter Try.func3, Try.ntmps3
  go_upto_block 0 with fail
  go_cut [9] (fun v wc => wc = w ∧ ∃ q, v = iv q ∧ q ≤ 140737488360000 ∧ (8000 < q ∨ q = wt l))
  case first =>
    go_wp2_with fail
    go_loop [9, 10] (fun v5 v6 => WtRel l v5 v6) (fun _ v6 => l.length - (intOf v6).toNat)
    case atStart => exact ⟨0, Nat.zero_le _, rfl, rfl, by simp [wt]⟩
    case round =>
      obtain ⟨i, hi, rfl, rfl, hq⟩ := hrel
      have d0 : (0 : Int) ≤ (i : Int) := by omega
      by_cases hlt : i < l.length
      · have d1 : (i : Int) < (l.length : Int) := by omega
        obtain ⟨q, hqe⟩ : ∃ q, q = wt (l.take i) := ⟨_, rfl⟩
        rw [← hqe] at hq ⊢
        by_cases h8 : q ≤ 8000
        · have d2 : (q : Int) ≤ 8000 := by omega
          obtain ⟨ab, ao, rfl, hc, _⟩ := h.out.at' hlt
          have hlx := hl.out _ (List.getElem_mem hlt)
          have hs := wt_snoc l hlt
          rw [← hqe] at hs
          generalize l[i].length = m at hc hlx hs
          have d3 : (m : Int) ≤ 140737488351232 := by omega
          replace hs := Lib.hid hs
          replace hqe := Lib.hid hqe
          go_wp2_with fail
          exact ⟨⟨i + 1, hlt, by go_num, by rw [hs.out]; go_num, by rw [hs.out]; omega⟩, by simp [intOf]; omega⟩
        · have d2 : (8000 : Int) < (q : Int) := by omega
          replace hqe := Lib.hid hqe
          go_wp2_with fail
          go_meet
          exact ⟨rfl, q, rfl, hq, .inl (by omega)⟩
      · have d1 : (l.length : Int) ≤ (i : Int) := by omega
        have hw := Lib.hid (wt_all l (i := i) (by omega))
        go_wp2_with fail
        go_meet
        exact ⟨rfl, _, rfl, hq, .inr hw.out⟩
  case rest =>
    obtain ⟨rfl, q, rfl, hq0, hq⟩ := hcut
    by_cases h8 : 8000 < q
    · have d1 : (8000 : Int) < (q : Int) := by omega
      have hk := Lib.hid (known_any wc)
      clear hq
      go_wp2_with fail
      refine hk.out.mono ?_
      rintro e w1 ⟨rfl, h1⟩
      go_wp2_with fail
      go_ret
      exact ⟨rfl, h1⟩
    · have d1 : (q : Int) ≤ 8000 := by omega
      have hqw : Hid (wt l ≤ 8000) := by show _ ≤ _; omega
      have hll : l.length ≤ 8000 := Nat.le_trans (wt_len l) hqw.out
      have hll' : (l.length : Int) ≤ 8000 := by omega
      obtain ⟨s, hsy⟩ : ∃ s, s = synced.toNat := ⟨_, rfl⟩
      have hsi : Hid (∀ i : Nat, (i : Int) < synced ↔ i < s) := fun i => by rw [hsy]; omega
      replace hsy := Lib.hid hsy
      clear hq h8 hq0
      go_wp2_with fail
      refine (dnew_ok 1048576 1048576 rfl (by decide) wc).mono ?_
      rintro e w1 ⟨b, H, rfl, hr, hs⟩
      have hin : Hid (KpRel l s b wc (.slice none 0 0) (.slice none 0 0) (iv 0) w1) := ⟨0, ⟨1048576, [], none⟩, H, [], [], none, none, 0, 0, Nat.zero_le _, rfl, rfl, by rw [Nat.zero_min]; rfl, SlRep.nil _ _, by rw [Nat.zero_min]; exact SlRep.nil _ _, kp_start l s, hr, (Sp.of hs).perm (by simp)⟩
      clear hr hs
      go_upto_block 2 with fail
      go_cut [13, 14, 15] (fun v13 v14 v15 wr => v15 = iv l.length ∧ KpRel l s b wc v13 v14 (iv l.length) wr)
      case first =>
        go_wp2_with fail
        go_loopw [13, 14, 15] (fun v13 v14 v15 wr => KpRel l s b wc v13 v14 v15 wr) (fun _ _ v _ => l.length - (intOf v).toNat)
        case atStart => exact hin.out
        case round =>
          clear hin
          obtain ⟨i, k, H, Ha, Hs, aa, sa, ca, cs, hi, rfl, rfl, rfl, hra, hrs, hiv, hr, hs⟩ := hrel
          have e0 : (0 : Int) ≤ (i : Int) := by omega
          by_cases hlt : i < l.length
          · have e1 : (i : Int) < (l.length : Int) := by omega
            obtain ⟨ab, ao, rfl, hc, hrd⟩ := (h.out.step hs).at' hlt
            have p1 := kp_write hiv hlt hqw.out
            have hok := gate_ok hiv.ok [[102]] (wrI [102] l[i]) (fun _ => wr_ok hiv.ok _ (by decide) _)
            rw [p1] at hok
            have hsn := allK_snoc hlt
            have hal := Nat.le_trans (allK_len l (i + 1)) (Nat.le_trans (wt_le l (i + 1)) hqw.out)
            have hlx := hl.out _ (List.getElem_mem hlt)
            obtain ⟨x, hx⟩ : ∃ x, x = l[i] := ⟨_, rfl⟩
            rw [← hx] at hc hrd p1 hlx hsn
            have hxl : (allK l (i + 1)).length = (allK l i).length + x.length := by rw [hsn, List.length_append]
            have hold : x ≠ [] → ∀ q (G : Heaplet) (W : World) Fs, Sp wc [] W Fs → Fs[q]? = some G → ∀ y, A i = some y → y.block ∉ dom G := fun hne q G W Fs hS hq => by
              obtain ⟨_, _, _, _, hrd0⟩ := h.out.at' hlt
              rw [← hx] at hrd0
              exact hrd0.old hS hq hne
            have hrow : Hid (∀ W Fs, Sp wc [] W Fs → RdBytes W (A i) x.length (C i) x ∧ W.cell? ⟨ab, ao + i, none⟩ = some (.slice (A i) x.length (C i))) := fun W Fs hS => by
              obtain ⟨ab', ao', e, hc', hrd'⟩ := (h.out.step hS).at' hlt
              cases e
              rw [← hx] at hc' hrd'
              exact ⟨hrd', hc'⟩
            have hwr := Lib.hid (dwrite b k H [102] (A i) x.length (C i) x wr hr hiv.ok (hs.own 0 rfl) hrd (fun hne => hold hne 0 H wr _ hs rfl) (by omega))
            rw [p1] at hwr
            replace hx := Lib.hid hx
            replace hs := Lib.hid hs
            replace hsn := Lib.hid hsn
            replace hiv := Lib.hid hiv
            replace hra := Lib.hid hra
            replace hrs := Lib.hid hrs
            replace hok := Lib.hid hok
            clear hr hrd p1 hold
            go_wp2_with fail
            refine hwr.out.mono ?_
            rintro e w3 ⟨rfl, H3, hr3, hst⟩
            have s3 := hs.out.put 0 rfl hst
            simp only [List.set_cons_zero] at s3
            obtain ⟨hrd3, hc3⟩ := hrow.out _ _ s3
            clear hst hwr
            by_cases his : i < s
            · have e2 : (i : Int) < synced := (hsi.out i).2 his
              have hok2 := sy_ok hok.out [102]
              have p2 := kp_sync (l := l) (n := (allK l (min i s)).length) (i := i + 1)
              have hsync := Lib.hid (fun W hW => dsync b _ H3 [102] W hr3 hok.out hW)
              rw [p2] at hsync
              have hok3 := gate_ok hok.out [[102]] (syI [102]) (fun _ => hok2)
              rw [p2] at hok3
              replace hok3 := Lib.hid hok3
              clear hok2 p2 hr3
              go_wp2_with (at_builtin; refine wpList_app rfl st_u8 _ _ rfl (by rfl) (by rfl) hra.out (s3.own 1 rfl) (rdBytes_cells hrd3) (by unfold maxLen; omega) (by omega) ?_; intro a4 c4 w4 H4 hv4 hst4)
              have s4 := s3.put 1 rfl hst4
              simp only [List.set_cons_succ, List.set_cons_zero] at s4
              have hv5 : SlRep 5 1 a4 (allK l (i + 1)).length c4 ((allK l (i + 1)).map Ytebmbfiiadffjaa.u8) H4 := by rw [hxl, hsn.out, List.map_append]; exact hv4
              clear hst4 hv4
              refine (hsync.out w4 (s4.own 0 rfl)).mono ?_
              rintro e w5 ⟨rfl, H5, hr5, hst5⟩
              have s5 := s4.put 0 rfl hst5
              simp only [List.set_cons_zero] at s5
              have s6 := s5.alloc (.cells #[] 5 (0, 0))
              have hv6 := hv5.rdBytes (s6.own 1 rfl)
              have hmin : Hid (min (i + 1) s = i + 1) := by show _ = _; omega
              have hlen6 : (allK l i).length + x.length ≤ 8000 := by omega
              rw [hxl] at hv6
              go_wp2_with (at_builtin; refine wpList_app rfl st_u8 _ _ rfl (by rfl) (by rfl) (SlRep.made _ _ w5.heap.size) (s6.own 3 rfl) (rdBytes_cells hv6) (by unfold maxLen; omega) (by omega) ?_; intro a7 c7 w7 H7 hv7 hst7)
              have s7 := s6.put 3 rfl hst7
              simp only [List.cons_append, List.nil_append, List.set_cons_succ, List.set_cons_zero] at s7
              have s8 : Sp wc [] w7 [H5, H4, H7] := (s7.forget 2 rfl).perm (by simp)
              refine ⟨⟨i + 1, _, H5, H4, H7, a4, a7, c4, c7, hlt, by go_num, by rw [hxl], by rw [hmin.out, hxl], hv5, ?_, kp_yes his hok3.out, hr5, s8⟩, by simp [intOf]; omega⟩
              rw [hmin.out, hxl]
              rw [Nat.zero_add, List.nil_append] at hv7
              exact hv7
            · have e2 : synced ≤ (i : Int) := by
                have := (hsi.out i).1
                omega
              have hiv2 := Lib.hid (kp_no hiv.out hlt hqw.out (by omega) hok.out)
              have hmin : Hid (min (i + 1) s = min i s) := by show _ = _; omega
              replace hr3 := Lib.hid hr3
              go_wp2_with (at_builtin; refine wpList_app rfl st_u8 _ _ rfl (by rfl) (by rfl) hra.out (s3.own 1 rfl) (rdBytes_cells hrd3) (by unfold maxLen; omega) (by omega) ?_; intro a4 c4 w4 H4 hv4 hst4)
              have s4 := s3.put 1 rfl hst4
              simp only [List.set_cons_succ, List.set_cons_zero] at s4
              refine ⟨⟨i + 1, _, H3, H4, Hs, a4, sa, c4, cs, hlt, by go_num, by rw [hxl], by rw [hmin.out], ?_, by rw [hmin.out]; exact hrs.out, hiv2.out, hr3.out, s4⟩, by simp [intOf]; omega⟩
              rw [hxl, hsn.out, List.map_append]; exact hv4
          · obtain rfl : i = l.length := by omega
            have hfin : Hid (KpRel l s b wc (.slice aa (allK l l.length).length ca) (.slice sa (allK l (min l.length s)).length cs) (iv l.length) wr) := ⟨l.length, k, H, Ha, Hs, aa, sa, ca, cs, hi, rfl, rfl, rfl, hra, hrs, hiv, hr, hs⟩
            clear hlt hra hrs hiv hr hs
            go_wp2_with fail
            go_meet
            exact ⟨rfl, hfin.out⟩
      case rest =>
        clear hin
        obtain ⟨rfl, i, k, H, Ha, Hs, aa, sa, ca, cs, hi, hie, rfl, rfl, hra, hrs, hiv, hr, hs⟩ := hcut
        have hil : i = l.length := by
          have := hie
          simp only [Value.int.injEq, true_and] at this
          omega
        subst hil
        clear hie
        have hcr := Lib.hid (fun W hW => dcrash b k draw tear H W hr hiv.ok hW hdr.out)
        have hrd := Lib.hid (fun H W hr hW => dread b (crN draw tear k) H [102] W hr (cr_ok hiv.ok draw tear) hW)
        have hal := Nat.le_trans (allK_len l l.length) (Nat.le_trans (wt_le l l.length) hqw.out)
        replace hra := Lib.hid hra
        replace hrs := Lib.hid hrs
        replace hs := Lib.hid hs
        clear hr
        by_cases hl0 : l = []
        · have hrr := kp_read0 hiv hl0 draw tear
          rw [hrr] at hrd
          have e0 : l.length = 0 := by rw [hl0]; rfl
          have e1 : ((l.length : Int) == 0) = true := by rw [e0]; rfl
          replace hl0 := Lib.hid hl0
          replace e0 := Lib.hid e0
          clear hrr hiv
          go_wp2_with fail
          refine (hcr.out _ (hs.out.own 0 rfl)).mono ?_
          rintro e w3 ⟨rfl, H3, hr3, hst⟩
          have s3 := hs.out.put 0 rfl hst
          go_wp2_with fail
          refine (hrd.out H3 w3 hr3 (s3.own 0 rfl)).mono ?_
          rintro e w4 ⟨ab, cb, Hb, rfl, hrb, hst4⟩
          have s4 := s3.fresh hst4
          go_wp2_with fail
          refine (known_any _).mono ?_
          rintro e w6 ⟨rfl, h6⟩
          go_wp2_with fail
          go_ret
          exact ⟨rfl, (s4.still h6).first.forget (A := [])⟩
        · obtain ⟨st, f, hrr, hf, hst1, hst2⟩ := kp_read hiv hl0 draw tear
          rw [hrr] at hrd
          have hbl : (xorFrom f tear ((allK l l.length).take st)).length = st := by rw [xor_len, List.length_take]; omega
          have e0 : ((l.length : Int) == 0) = false := beq_eq_false_iff_ne.2 (by have := List.length_pos_iff.2 hl0; omega)
          obtain ⟨n, hn⟩ : ∃ n, n = (allK l (min l.length s)).length := ⟨_, rfl⟩
          obtain ⟨m, hm⟩ : ∃ m, m = (allK l l.length).length := ⟨_, rfl⟩
          rw [← hn] at hf hst1 hrs ⊢
          rw [← hm] at hst2 hal hra ⊢
          have i1 : (n : Int) ≤ (st : Int) := by omega
          have i2 : (st : Int) ≤ (m : Int) := by omega
          have i3 : (m : Int) ≤ 8000 := by omega
          replace hl0 := Lib.hid hl0
          replace hn := Lib.hid hn
          replace hm := Lib.hid hm
          have hbytes : Hid (∀ i, i < st → ∃ y : UInt8, (allK l l.length)[i]? = some y ∧ (xorFrom f tear ((allK l l.length).take st))[i]? = some (if f ≤ i then y ^^^ tear else y)) := fun i hi => by
            have h1 : i < (allK l l.length).length := by rw [← hm.out]; omega
            have h2 : ((allK l l.length).take st).length = st := by rw [List.length_take, ← hm.out]; omega
            refine ⟨(allK l l.length)[i], List.getElem?_eq_getElem h1, ?_⟩
            rw [kp_byte (by omega) (by rw [h2, hf]; omega), List.getElem_take]
          generalize xorFrom f tear ((allK l l.length).take st) = bb at hrd hbl hbytes
          clear hrr hiv
          go_wp2_with fail
          refine (hcr.out _ (hs.out.own 0 rfl)).mono ?_
          rintro e w3 ⟨rfl, H3, hr3, hst⟩
          have s3 := hs.out.put 0 rfl hst
          simp only [List.set_cons_zero] at s3
          go_wp2_with fail
          refine (hrd.out H3 w3 hr3 (s3.own 0 rfl)).mono ?_
          rintro e w4 ⟨ab, cb, Hb, rfl, hrb, hst4⟩
          have s4 := s3.fresh hst4
          simp only [List.cons_append, List.nil_append] at s4
          simp only [hbl] at hrb ⊢
          obtain ⟨fr, hfr⟩ : ∃ fr, fr = (st - 1) / 32 * 32 := ⟨_, rfl⟩
          rw [← hfr] at hf
          clear hst hst4 hr3
          replace s4 := Lib.hid s4
          by_cases h0 : 0 < st
          · have i4 : (0 : Int) < (st : Int) := by omega
            have i5 : ((st : Int) - 1) / 32 * 32 = (fr : Int) := by omega
            have hnb := hrb
            replace hfr := Lib.hid hfr
            replace hf := Lib.hid hf
            replace hnb := Lib.hid hnb
            replace hrb := Lib.hid hrb
            clear h0
            go_wp2_with fail
            go_loopw [19] (fun v wr => ∃ i : Nat, v = iv i ∧ i ≤ st ∧ wr = w4) (fun v _ => st - (intOf v).toNat)
            case atStart => exact ⟨0, rfl, Nat.zero_le _, rfl⟩
            case round =>
              obtain ⟨i, rfl, hi, rfl⟩ := hrel
              have e0 : (0 : Int) ≤ (i : Int) := by omega
              by_cases hlt : i < st
              · have e1 : (i : Int) < (st : Int) := by omega
                have e2 : (i : Int) < (m : Int) := by omega
                obtain ⟨y, y1, y2⟩ := hbytes.out i hlt
                obtain ⟨g1, rfl, k1, _⟩ := slRep_at hra.out (s4.out.own 1 rfl) (i := i) (v := Ytebmbfiiadffjaa.u8 y) (by rw [List.getElem?_map, y1]; rfl)
                obtain ⟨g2, rfl, k2, _⟩ := slRep_at hrb.out (s4.out.own 3 rfl) (i := i) (v := Ytebmbfiiadffjaa.u8 (if f ≤ i then y ^^^ tear else y)) (by rw [List.getElem?_map, y2]; rfl)
                rw [Nat.zero_add] at k1 k2
                have hbx := bx8 y tear
                have hff := hf.out
                clear y1 y2
                by_cases hn1 : n ≤ i
                · have e3 : (n : Int) ≤ (i : Int) := by omega
                  by_cases hf1 : fr ≤ i
                  · have e4 : (fr : Int) ≤ (i : Int) := by omega
                    rw [if_pos (by omega)] at k2
                    clear hff
                    go_wp2_with fail
                    exact ⟨⟨i + 1, by go_num, hlt, by first | rfl | trivial⟩, by simp [intOf]; omega⟩
                  · have e4 : (i : Int) < (fr : Int) := by omega
                    rw [if_neg (by omega)] at k2
                    clear hff
                    go_wp2_with fail
                    exact ⟨⟨i + 1, by go_num, hlt, by first | rfl | trivial⟩, by simp [intOf]; omega⟩
                · have e3 : (i : Int) < (n : Int) := by omega
                  rw [if_neg (by omega)] at k2
                  clear hff
                  go_wp2_with fail
                  exact ⟨⟨i + 1, by go_num, hlt, by first | rfl | trivial⟩, by simp [intOf]; omega⟩
              · have e1 : (st : Int) ≤ (i : Int) := by omega
                go_wp2_with fail
                refine (known_any _).mono ?_
                rintro e w6 ⟨rfl, h6⟩
                go_wp2_with fail
                go_ret
                exact ⟨rfl, (s4.out.still h6).first.forget (A := [])⟩
          · obtain rfl : st = 0 := by omega
            clear h0
            replace hrb := Lib.hid hrb
            go_wp2_with fail
            go_loopw [19] (fun v wr => v = iv 0 ∧ wr = w4) (fun _ _ => 0)
            case atStart => exact ⟨rfl, rfl⟩
            case round =>
              obtain ⟨rfl, rfl⟩ := hrel
              go_wp2_with fail
              refine (known_any _).mono ?_
              rintro e w6 ⟨rfl, h6⟩
              go_wp2_with fail
              go_ret
              exact ⟨rfl, (s4.out.still h6).first.forget (A := [])⟩
end Go.Proofs.Ytebmbfiiadffjaa
