/- The program's log: Append. -/
import Derived.Test.YtdolbeonpkanpaaGreatDoorMSgG
set_option linter.unusedVariables false
set_option linter.unusedSimpArgs false
namespace Go.Proofs.YtdolbeonpkanpaaGreatDoor
open Go.RowKit
attribute [local go_sem ↓] Go.wp_at_zero Go.wp_at_succ

set_option maxHeartbeats 1000000 in
set_option maxRecDepth 100000 in
theorem lapp_any (b d : Nat) (p : Nm) (lg : Lg) (k : Dk) (DH B S E XH : Heaplet) (w0 w : World) (K : Heaplet) (hd : DkRep d k DH) (hk : k.Ok) (h : LgIs b d p lg B S E XH) (s : Sp w0 K w [DH, B, S, E, XH]) (hl : lg.Ok) (hT : TabK w0 K) (hp : p.length ≤ 1000)
    (pa : Option Addr) (pc : Nat) (e : List UInt8) (hb : ∀ V H, Step w0 K V H → RdBytes V pa e.length pc e) (hel : e.length ≤ 140737488300000) :
    Calls Tryz.prog 14 #[pt b, .slice pa e.length pc] w (ApPost b d p (lappN p e lg k) w0 K) := by
  have hh := Lib.hid h
  have hm := hl.many
  obtain ⟨sa, ea, sc, ec, X, hs, hr, hdX, rfl, rfl⟩ := h
  obtain ⟨c0, c1, c2, c3, c4, c5⟩ := lobj_cells (s.own 1 rfl)
  have xlt := heap_lt (s.own 1 rfl).h0
  have hmi : (lg.L.length : Int) ≤ 4398046511104 := by omega
  have heli : (e.length : Int) ≤ 140737488300000 := by omega
  by_cases hdead : lg.dead = true
  · have e1 : Hid (lappN p e lg k = (0, 9, lg, k)) := by show _ = _; unfold lappN; rw [if_pos hdead]
    rw [hdead] at c5
    replace hdead := Lib.hid hdead
    go_enter Tryz.func14, Tryz.ntmps14
    go_wp2_with fail
    go_ret2
    rw [e1.out]
    exact ⟨rfl, DH, _, S, E, _, hd, hh.out, s⟩
  · have hdf : lg.dead = false := by simpa using hdead
    have hdff := Lib.hid hdf
    rw [hdf] at c5
    by_cases hlong : 65526 < e.length
    · have e1 : Hid (lappN p e lg k = (0, 5, lg, k)) := by show _ = _; unfold lappN; rw [if_neg hdead, if_pos hlong]
      have hli : (65526 : Int) < (e.length : Int) := by omega
      clear hdead hdf
      go_enter Tryz.func14, Tryz.ntmps14
      go_wp2_with fail
      go_ret2
      rw [e1.out]
      exact ⟨rfl, DH, _, S, E, _, hd, hh.out, s⟩
    · have e1 : Hid (lappN p e lg k = if lg.segs = [] then putEN p true e lg k
          else if 512 ≤ (lastSeg lg).2 then
            let z := lsyncN p lg k
            if z.1 ≠ 0 then (0, z.1, z.2.1, z.2.2) else putEN p true e z.2.1 z.2.2
          else putEN p false e lg k) := by show _ = _; unfold lappN; rw [if_neg hdead, if_neg hlong]
      have hli : (e.length : Int) ≤ 65526 := by omega
      clear hdead hdf hlong
      obtain ⟨n, hn⟩ : ∃ n, n = lg.L.length + 1 := ⟨_, rfl⟩
      have q1 : IntKind.i64.wrap ((lg.L.length : Int) + 1) = (n : Int) := by rw [IntWalk.i64_in _ (by omega), hn]; omega
      have hnn : n ≤ 4398046511105 := by omega
      replace hn := Lib.hid hn
      go_enter Tryz.func14, Tryz.ntmps14
      have hWr := Lib.hid (fun V b' (hV : Own V [(b', .cells #[.slice none 0 0] 88 (0, 0))]) => wnum_any b' [] _ (n : Int) V (wrRep_new b') hV (Nat.zero_le _) (by omega) (by omega))
      have hnl : (numB (n : Int)).length ≤ 10 := zig_len (by omega) (by omega)
      go_wp2_with fail
      obtain ⟨rb, hrb⟩ : ∃ r, r = w.heap.size := ⟨_, rfl⟩
      have s2 : Sp w0 K _ [DH, [(b, lobj d p sa lg.segs.length sc ea lg.L.length ec lg.synced lg.dead)], S, E, rwH X, [(w.heap.size, .cells #[.slice none 0 0] 88 (0, 0))]] := s.alloc _
      rw [← hrb] at s2 ⊢
      replace hrb := Lib.hid hrb
      refine (hWr.out _ _ (s2.own 5 rfl)).mono ?_
      rintro e' w1 ⟨rfl, H1, hw1, hst⟩
      rw [List.nil_append] at hw1
      have s3 : Sp w0 K w1 [DH, [(b, lobj d p sa lg.segs.length sc ea lg.L.length ec lg.synced lg.dead)], S, E, rwH X, H1] := s2.put 5 rfl hst
      clear hst s2 hWr s c0 c1 c2 c3 c4 c5 xlt
      obtain ⟨nb, hnb⟩ : ∃ nb, nb = numB (n : Int) := ⟨_, rfl⟩
      rw [← hnb] at hw1 hnl
      have hO := Lib.hid (wout_any rb nb H1 w1 hw1 (s3.own 5 rfl) (by omega))
      clear hw1
      replace hnb := Lib.hid hnb
      go_wp2_with fail
      refine hO.out.mono ?_
      rintro e' w2 ⟨a2, k2, G2, rfl, r2, hst⟩
      have s4 : Sp w0 K w2 [DH, [(b, lobj d p sa lg.segs.length sc ea lg.L.length ec lg.synced lg.dead)], S, E, rwH X, H1, G2] := s3.fresh hst
      clear hst hO s3
      replace s4 := s4.forget 5 rfl
      have s4 : Sp w0 K w2 [DH, [(b, lobj d p sa lg.segs.length sc ea lg.L.length ec lg.synced lg.dead)], S, E, rwH X, G2] := s4.perm (by simp)
      have hb2 := Lib.hid (hb _ _ s4)
      go_wp2_with (at_builtin; refine wpList_app rfl st_u8 _ _ rfl (by rfl) (by rfl) r2 (s4.own 5 rfl) (rdBytes_cells hb2.out) (by unfold maxLen; omega) (by omega) ?_; intro a3 k3 w3 H3 hv3 hst3; have s5 : Sp w0 K w3 [DH, [(b, lobj d p sa lg.segs.length sc ea lg.L.length ec lg.synced lg.dead)], S, E, rwH X, H3] := s4.put 5 rfl hst3; clear hst3 s4 hb2 r2; have hv3 := Lib.hid hv3)
      have hv3 := hv3.out
      rw [← List.map_append, ← List.length_append] at hv3
      rw [← List.length_append]
      obtain ⟨rec, hrec⟩ : ∃ r, r = recN n e := ⟨_, rfl⟩
      have hrl : rec.length ≤ 65548 := by rw [hrec, recN, frN_len, ← hnb.out, List.length_append]; omega
      have hE := Lib.hid (encode_any a3 (nb ++ e).length k3 (nb ++ e) w3 (hv3.rdBytes (s5.own 5 rfl)) (by rw [List.length_append]; omega))
      have hrec2 : frN (nb ++ e) = rec := by rw [hrec, hnb.out]; rfl
      rw [hrec2] at hE
      clear hv3
      replace hrec := Lib.hid hrec
      replace hrec2 := Lib.hid hrec2
      refine hE.out.mono ?_
      rintro e' w4 ⟨a4, k4, G4, rfl, r4, hst⟩
      have s6 : Sp w0 K w4 [DH, [(b, lobj d p sa lg.segs.length sc ea lg.L.length ec lg.synced lg.dead)], S, E, rwH X, H3, G4] := s5.fresh hst
      clear hst hE s5
      replace s6 := s6.forget 5 rfl
      have s6 : Sp w0 K w4 [DH, [(b, lobj d p sa lg.segs.length sc ea lg.L.length ec lg.synced lg.dead)], S, E, rwH X, G4] := s6.perm (by simp)
      have s7 := s6.alloc (.cells #[.slice a4 rec.length k4] 23 (0, 0))
      replace r4 := Lib.hid r4
      obtain ⟨ns, hns⟩ : ∃ ns, ns = lg.segs.length := ⟨_, rfl⟩
      rw [← hns] at s7
      have hnsm : ns ≤ 4398046511104 := by rw [hns]; exact hl.msegs
      have q2 : IntKind.i64.wrap ((ns : Int) - 1) = (ns : Int) - 1 := IntWalk.i64_in _ (by omega)
      have hnsi : (ns : Int) ≤ 4398046511104 := by omega
      replace hns := Lib.hid hns
      go_upto_region 11 with fail
      refine Sp.gen s7 ?_
      obtain ⟨g, hg⟩ : ∃ g, g = w4.heap.size := ⟨_, rfl⟩
      rw [← hg]
      clear s7 s6 hg
      intro W s
      have s : Sp w0 K W [DH, [(b, lobj d p sa ns sc ea lg.L.length ec lg.synced lg.dead)], S, E, rwH X, G4, [(g, .cells #[.slice a4 rec.length k4] 23 (0, 0))]] := s
      obtain ⟨c0, c1, c2, c3, c4, c5⟩ := lobj_cells (s.own 1 rfl)
      have xlt := heap_lt (s.own 1 rfl).h0
      go_upto_region 12 with fail
      obtain ⟨fr, hfr⟩ : ∃ fr, fr = decide (lg.segs = [] ∨ 512 ≤ (lastSeg lg).2) := ⟨_, rfl⟩
      replace hfr := Lib.hid hfr
      replace hs := Lib.hid hs
      replace hr := Lib.hid hr
      replace hdX := Lib.hid hdX
      go_cut [10, 11] (fun v10 v11 wr => v10 = .int .i64 ((ns : Int) - 1) ∧ v11 = .bool fr ∧ wr = W)
      case first =>
        by_cases hsg : lg.segs = []
        · have hz : Hid (fr = true) := by show _ = _; rw [hfr.out]; simp [hsg]
          have hzn : ns = 0 := by rw [hns.out, hsg]; rfl
          have hneg : (ns : Int) - 1 < 0 := by omega
          replace hsg := Lib.hid hsg
          replace hzn := Lib.hid hzn
          go_wp2_with fail
          go_meet
          exact ⟨rfl, by rw [hz.out], rfl⟩
        · obtain ⟨q, rfl, hsc1, hsc2, s0, s1, sf⟩ := sg_at hs.out (s.own 2 rfl) (last_at hsg)
          obtain ⟨m, hm1⟩ : ∃ m, ns = m + 1 := ⟨ns - 1, by have := List.length_pos_iff.2 hsg; have := hns.out; omega⟩
          subst hm1
          rw [← hns.out] at s0 s1 hsc1
          simp only [Nat.add_sub_cancel] at s0 s1
          have hz : fr = decide (512 ≤ (lastSeg lg).2) := by rw [hfr.out]; simp [hsg]
          obtain ⟨z, hz2⟩ : ∃ z, z = (lastSeg lg).2 := ⟨_, rfl⟩
          rw [← hz2] at s1 hz
          replace hz2 := Lib.hid hz2
          replace hsg := Lib.hid hsg
          have hci : ((m : Int) + 1) ≤ (sc : Int) := by omega
          have m0 : (0 : Int) ≤ (m : Int) := by omega
          have m1 : (m : Int) ≤ 4398046511104 := by omega
          have m2 : (m : Int) < (m : Int) + 1 := by omega
          clear q2 hnsi hsc1
          by_cases h5 : 512 ≤ z
          · have h5i : (512 : Int) ≤ (z : Int) := by omega
            have hz3 : Hid (fr = true) := by show _ = _; rw [hz]; exact decide_eq_true h5
            clear hz
            go_wp2_with fail
            go_meet
            exact ⟨congrArg _ (show (m : Int) = ((m + 1 : Nat) : Int) - 1 by omega), by rw [hz3.out], rfl⟩
          · have h5i : (z : Int) < 512 := by omega
            have hz3 : Hid (fr = false) := by show _ = _; rw [hz]; exact decide_eq_false h5
            clear hz
            go_wp2_with fail
            go_meet
            exact ⟨congrArg _ (show (m : Int) = ((m + 1 : Nat) : Int) - 1 by omega), by rw [hz3.out]; exact congrArg Value.bool (decide_eq_false (by omega)), rfl⟩
      case rest =>
        obtain ⟨rfl, rfl, rfl⟩ := hcut
        obtain ⟨rec', hrec'⟩ : ∃ r : Value, r = .slice a4 rec.length k4 := ⟨_, rfl⟩
        rw [← hrec'] at s
        replace hrec' := Lib.hid hrec'
        go_upto_region 13 with fail
        go_cut [66] (fun v66 wr => v66 = .bool (fr && decide (lg.segs ≠ [])) ∧ wr = wc)
        case first =>
          cases fr with
          | false =>
            go_wp2_with fail
            go_meet
            exact ⟨rfl, rfl⟩
          | true =>
            by_cases hsg : lg.segs = []
            · have hzn : ns = 0 := by rw [hns.out, hsg]; rfl
              have hneg : (ns : Int) - 1 < 0 := by omega
              have hz : Hid ((true && decide (lg.segs ≠ [])) = false) := by show _ = _; simp [hsg]
              replace hsg := Lib.hid hsg
              replace hzn := Lib.hid hzn
              go_wp2_with fail
              go_meet
              exact ⟨by rw [hz.out]; first | done | exact congrArg Value.bool (decide_eq_false (by omega)), rfl⟩
            · have hpos : (0 : Int) ≤ (ns : Int) - 1 := by have := List.length_pos_iff.2 hsg; have := hns.out; omega
              have hpos1 : (1 : Int) ≤ (ns : Int) := by omega
              have hpos2 : 0 < ns := by omega
              have hz : Hid ((true && decide (lg.segs ≠ [])) = true) := by show _ = _; simp [hsg]
              replace hsg := Lib.hid hsg
              go_wp2_with fail
              go_meet
              exact ⟨by rw [hz.out], rfl⟩
        case rest =>
          obtain ⟨rfl, rfl⟩ := hcut
          obtain ⟨q, hq⟩ : ∃ q, q = (fr && decide (lg.segs ≠ [])) := ⟨_, rfl⟩
          rw [← hq]
          replace hq := Lib.hid hq
          go_upto_if 66 with fail
          go_cut [12] (fun _ wr => ApCut b d g p fr e lg k G4 rec' w0 K wr)
          case first =>
            cases q with
            | false =>
              have hee : Hid (lappN p e lg k = putEN p fr e lg k ∧ (fr = false → lg.segs ≠ [])) := by
                show _ ∧ _
                rw [e1.out]
                have h1 := hfr.out
                have h2 := hq.out
                by_cases hsg : lg.segs = []
                · simp [hsg] at h1; subst h1; simp [hsg]
                · simp [hsg] at h1 h2
                  subst h2
                  have h5 : ¬ 512 ≤ (lastSeg lg).2 := by simpa using h1
                  simp [hsg, h5]
              go_wp2_with fail
              go_meet
              exact ⟨lg, k, DH, _, S, E, _, hee.out.1, hl, hk, hdff.out, hee.out.2, rfl, rfl, hd, hh.out, hns.out ▸ s⟩
            | true =>
              have hq2 := hq.out.symm
              simp at hq2
              obtain ⟨hft, hsg⟩ := hq2
              subst hft
              have h5 : 512 ≤ (lastSeg lg).2 := Classical.byContradiction fun h => by have := hfr.out; simp [h, hsg] at this
              have hz := lsync_ok p k hl
              have hzk := lsync_dk p lg hk
              have hze := lsync_err p lg k
              have hzl := lsync_live p lg k
              obtain ⟨hz1, hz2, hz3⟩ := lsync_same p lg k
              have hst8 : Step w0 K wc ([DH, [(b, lobj d p sa ns sc ea lg.L.length ec lg.synced lg.dead)], S, E, rwH X].flatten ++ [G4, [(g, .cells #[rec'] 23 (0, 0))]].flatten) := s.out (by simp)
              have hsy := Lib.hid (lsync_any b d p lg k DH _ S E (rwH X) wc wc ([DH, [(b, lobj d p sa ns sc ea lg.L.length ec lg.synced lg.dead)], S, E, rwH X].flatten) hd hk hh.out (by rw [hns.out] at hst8 ⊢; exact (show Sp wc _ wc _ from Step.refl hst8.own.left)) hl)
              obtain ⟨⟨z1, lg1, k1⟩, hzz⟩ : ∃ z, z = lsyncN p lg k := ⟨_, rfl⟩
              have hee : lappN p e lg k = if z1 ≠ 0 then (0, z1, lg1, k1) else putEN p true e lg1 k1 := by rw [e1.out, if_neg hsg, if_pos h5, ← hzz]
              rw [← hzz] at hz hzk hze hz1 hz2 hz3 hsy hzl
              simp only at hz hzk hze hz1 hz2 hz3 hzl
              replace hzl := Lib.hid hzl
              replace hzz := Lib.hid hzz
              replace hsg := Lib.hid hsg
              replace hz1 := Lib.hid hz1
              replace hz2 := Lib.hid hz2
              replace hee := Lib.hid hee
              clear h5 hz3 c0 c1 c2 c3 c4 c5
              go_wp2_with fail
              refine hsy.out.mono ?_
              rintro e' w5 ⟨rfl, DH1, B1, S1, E1, XH1, hd1, hlg1, hst⟩
              simp only at hd1 hlg1 ⊢
              have s8 : Sp w0 K w5 [DH1, B1, S1, E1, XH1, G4, [(g, .cells #[rec'] 23 (0, 0))]] := by
                have := hst8.trans (Step.beside hst hst8.own)
                simpa [Sp] using this
              clear hst hst8 hsy s
              by_cases hx0 : z1 = 0
              · subst hx0
                go_wp2_with fail
                go_meet
                exact ⟨lg1, k1, DH1, B1, S1, E1, XH1, by rw [hee.out]; rfl, hz, hzk, by rw [hzl.out (by first | trivial | rfl)]; exact hdff.out, fun h => by simp at h, by rw [hz1.out], by rw [hz2.out], hd1, hlg1, s8⟩
              · have q5 : ((z1 : Int) != 0) = true := by rw [bne_iff_ne]; omega
                have hfin : Hid (lappN p e lg k = (0, z1, lg1, k1)) := by show _ = _; rw [hee.out]; exact if_pos hx0
                replace hx0 := Lib.hid hx0
                go_wp2_with fail
                go_ret2
                rw [hfin.out]
                have s9 : Sp w0 K w5 [DH1, B1, S1, E1, XH1] := ((s8.forget 5 rfl).forget 6 rfl).perm (by simp)
                exact ⟨rfl, DH1, B1, S1, E1, XH1, hd1, hlg1, s9⟩
          case rest =>
            clear hh e1 hl hk hd s s4 s6 c0 c1 c2 c3 c4 c5 xlt q1 hnb hrec2 hdff hm hmi
            obtain ⟨lg1, k1, DH1, B1, S1, E1, XH1, hee, hl1, hk1, hdead1, hne, hLl, hSl, hd1, hlg1, s⟩ := hcut
            obtain ⟨sa1, ea1, sc1, ec1, X1, hs1, hr1, hdX1, rfl, rfl⟩ := hlg1
            have hmm := hl1.msegs
            have hsn : ns = lg1.segs.length := by rw [hSl]; exact hns.out
            have hnL : n = lg1.L.length + 1 := by rw [hLl]; exact hn.out
            clear hLl hSl hn hns hfr hq
            rw [← hsn] at s
            obtain ⟨nl, hnl3⟩ : ∃ nl, nl = lg1.L.length := ⟨_, rfl⟩
            rw [← hnl3] at s hnL
            have hnl4 : nl ≤ 4398046511104 := by omega
            obtain ⟨nm, hnm⟩ : ∃ nm, nm = nameN p n := ⟨_, rfl⟩
            have hN := Lib.hid (name_any p n hp (by omega) wc (hT _ _ s))
            rw [← hnm] at hN
            obtain ⟨c0, c1, c2, c3, c4, c5⟩ := lobj_cells (s.own 1 rfl)
            have xlt := heap_lt (s.own 1 rfl).h0
            replace hee := Lib.hid hee
            replace hnm := Lib.hid hnm
            replace hne := Lib.hid hne
            replace hsn := Lib.hid hsn
            replace hnL := Lib.hid hnL
            replace hnl3 := Lib.hid hnl3
            replace hdead1 := Lib.hid hdead1
            replace hs1 := Lib.hid hs1
            replace hr1 := Lib.hid hr1
            replace hdX1 := Lib.hid hdX1
            go_wp2_with fail
            refine hN.out.mono ?_
            rintro e' w5 ⟨rfl, hst⟩
            have s5 : Sp w0 K w5 [DH1, [(b, lobj d p sa1 ns sc1 ea1 nl ec1 lg1.synced lg1.dead)], S1, E1, rwH X1, G4, [(g, .cells #[rec'] 23 (0, 0))]] := s.still hst
            clear hst s hN c0 c1 c2 c3 c4 c5 xlt
            have s6 := s5.alloc (.cells #[strV nm, iv 0] 92 (0, 0))
            go_upto_if 80 with fail
            obtain ⟨sb, hsb⟩ : ∃ z, z = w5.heap.size := ⟨_, rfl⟩
            refine Sp.gen s6 ?_
            rw [← hsb]
            clear s6 s5 hsb
            intro W s
            have s : Sp w0 K W [DH1, [(b, lobj d p sa1 ns sc1 ea1 nl ec1 lg1.synced lg1.dead)], S1, E1, rwH X1, G4, [(g, .cells #[rec'] 23 (0, 0))], [(sb, .cells #[strV nm, iv 0] 92 (0, 0))]] := s
            obtain ⟨nm', hnm'⟩ : ∃ z, z = nameN p (if fr then n else (lastSeg lg1).1) := ⟨_, rfl⟩
            obtain ⟨sz, hsz⟩ : ∃ z, z = if fr then 0 else (lastSeg lg1).2 := ⟨_, rfl⟩
            replace hnm' := Lib.hid hnm'
            replace hsz := Lib.hid hsz
            go_cut [10] (fun v10 wr => v10 = .int .i64 ((ns : Int) - 1) ∧ Sp w0 K wr [DH1, [(b, lobj d p sa1 ns sc1 ea1 nl ec1 lg1.synced lg1.dead)], S1, E1, rwH X1, G4, [(g, .cells #[rec'] 23 (0, 0))], [(sb, .cells #[strV nm', iv sz] 92 (0, 0))]])
            case first =>
              cases fr with
              | true =>
                have e2 : Hid (nm' = nm ∧ sz = 0) := ⟨by rw [hnm'.out, hnm.out]; rfl, hsz.out⟩
                go_wp2_with fail
                go_meet
                refine ⟨rfl, ?_⟩
                rw [e2.out.1, e2.out.2]
                exact s
              | false =>
                have hsg := hne.out rfl
                obtain ⟨q, rfl, hsc1, hsc2, s0, s1, sf⟩ := sg_at hs1.out (s.own 2 rfl) (last_at hsg)
                obtain ⟨m, hm1⟩ : ∃ m, ns = m + 1 := ⟨ns - 1, by have := List.length_pos_iff.2 hsg; have := hsn.out; omega⟩
                subst hm1
                rw [← hsn.out] at s0 s1 hsc1
                simp only [Nat.add_sub_cancel] at s0 s1
                have e2 : nm' = nameN p (lastSeg lg1).1 ∧ sz = (lastSeg lg1).2 := ⟨by rw [hnm'.out]; rfl, hsz.out⟩
                rw [← e2.1] at s0
                rw [← e2.2] at s1
                replace e2 := Lib.hid e2
                replace hsg := Lib.hid hsg
                have hci : ((m : Int) + 1) ≤ (sc1 : Int) := by omega
                have m0 : (0 : Int) ≤ (m : Int) := by omega
                have m1 : (m : Int) ≤ 4398046511104 := by omega
                have m2 : (m : Int) < (m : Int) + 1 := by omega
                clear q2 hnsi hsc1
                obtain ⟨c0, c1, c2, c3, c4, c5⟩ := lobj_cells (s.own 1 rfl)
                have xlt := heap_lt (s.own 1 rfl).h0
                have ylt := heap_lt (s.own 7 rfl).h0
                have fz := fun i => frz_of (i := i) (s.own 7 rfl).h0
                have y0 : W.cell? ⟨sb, 0, none⟩ = some (strV nm) := cell_of (s.own 7 rfl).h0 rfl
                have y1 : W.cell? ⟨sb, 1, none⟩ = some (iv 0) := cell_of (s.own 7 rfl).h0 rfl
                go_wp2_with fail
                go_meet
                refine ⟨congrArg _ (show (m : Int) = ((m + 1 : Nat) : Int) - 1 by omega), ?_⟩
                exact (s.store 7 rfl (j := 0) (strV nm')).store 7 rfl (j := 1) (iv sz)
            case rest =>
              obtain ⟨rfl, s⟩ := hcut
              have herr := gwr_err nm' rec k1
              have hdcl := Lib.hid (fun W s => does_cl 42 call_acl (pt g) b d p sa1 ea1 ns sc1 nl ec1 lg1.synced lg1.dead nm' (gateN [nm'] (wrI nm' rec) k1) DH1 [S1, E1, rwH X1, G4, [(g, .cells #[rec'] 23 (0, 0))], [(sb, .cells #[strV nm', iv sz] 92 (0, 0))]] w0 W K s (by omega)
                (acl_any d g k1 DH1 nm' a4 k4 rec W hd1 hk1 (s.own 0 rfl) (by rw [cell_of (s.own 6 rfl).h0 rfl]; exact congrArg some hrec'.out) (r4.out.rdBytes (s.own 5 rfl)) (fun hne x hx => by
                  obtain ⟨_, ⟨e0, e1, _⟩ | ⟨gg, cur, e2, e3, _⟩⟩ := r4.out
                  · rw [e0] at hx; cases hx
                  · rw [e2] at hx; cases hx
                    exact own_apart s gg (by rw [e3]; simp [dom])) (by omega)))
              have hput : putEN p fr e lg1 k1 = if (gateN [nm'] (wrI nm' rec) k1).1 ≠ 0 then (0, (gateN [nm'] (wrI nm' rec) k1).1, { lg1 with dead := decide ((gateN [nm'] (wrI nm' rec) k1).1 ≠ 6) }, (gateN [nm'] (wrI nm' rec) k1).2)
                  else (n, 0, { lg1 with L := lg1.L ++ [e], segs := if fr then lg1.segs ++ [(n, rec.length)] else lg1.segs.dropLast ++ [((lastSeg lg1).1, (lastSeg lg1).2 + rec.length)] }, (gateN [nm'] (wrI nm' rec) k1).2) := by
                unfold putEN
                have h1 := hnL.out
                rw [hnl3.out] at h1
                rw [hnm'.out, hrec.out, ← h1]
              obtain ⟨⟨x1, k2⟩, hr2⟩ : ∃ r, r = gateN [nm'] (wrI nm' rec) k1 := ⟨_, rfl⟩
              rw [← hr2] at hdcl hput herr
              simp only at hput herr
              replace hput := Lib.hid hput
              replace hr2 := Lib.hid hr2
              have y0 : wc.cell? ⟨sb, 0, none⟩ = some (strV nm') := cell_of (s.own 7 rfl).h0 rfl
              go_wp2_with fail
              refine (hdcl.out _ s).mono ?_
              rintro e' w6 ⟨rfl, DH2, hd2, s6⟩
              simp only at hd2 s6 ⊢
              clear y0 s hdcl
              by_cases hx0 : x1 = 0
              · subst hx0
                have s6 : Sp w0 K w6 [DH2, [(b, lobj d p sa1 ns sc1 ea1 nl ec1 lg1.synced false)], S1, E1, rwH X1, G4, [(g, .cells #[rec'] 23 (0, 0))], [(sb, .cells #[strV nm', iv sz] 92 (0, 0))]] := s6
                obtain ⟨segs2, hsegs2⟩ : ∃ z, z = if fr then lg1.segs ++ [(n, rec.length)] else lg1.segs.dropLast ++ [((lastSeg lg1).1, (lastSeg lg1).2 + rec.length)] := ⟨_, rfl⟩
                have hfin : Hid (lappN p e lg k = (n, 0, { lg1 with L := lg1.L ++ [e], segs := segs2 }, k2)) := by show _ = _; rw [hee.out, hput.out, hsegs2]; rfl
                have hszb : sz ≤ 1073741824 := by
                  rw [hsz.out]
                  cases fr with
                  | true => exact Nat.zero_le _
                  | false => exact (hl1.bytes _ (List.mem_of_getElem? (last_at (hne.out rfl)))).1
                have yg : w6.cell? ⟨g, 0, none⟩ = some (.slice a4 rec.length k4) := by rw [cell_of (s6.own 6 rfl).h0 rfl]; exact congrArg some hrec'.out
                have y0 : w6.cell? ⟨sb, 0, none⟩ = some (strV nm') := cell_of (s6.own 7 rfl).h0 rfl
                have y1 : w6.cell? ⟨sb, 1, none⟩ = some (iv sz) := cell_of (s6.own 7 rfl).h0 rfl
                have ylt := heap_lt (s6.own 7 rfl).h0
                have fz := fun i => frz_of (i := i) (s6.own 7 rfl).h0
                obtain ⟨tot, htot⟩ : ∃ z, z = sz + rec.length := ⟨_, rfl⟩
                have q7 : IntKind.i64.wrap ((sz : Int) + (rec.length : Int)) = (tot : Int) := by rw [IntWalk.i64_in _ (by omega), htot]; omega
                replace htot := Lib.hid htot
                replace hsegs2 := Lib.hid hsegs2
                have s7 := s6.store 7 rfl (j := 1) (iv tot)
                go_upto_if 103 with fail
                refine Sp.gen s7 ?_
                clear s7 s6 yg y0 y1 ylt fz
                intro W7 s7
                have s7 : Sp w0 K W7 [DH2, [(b, lobj d p sa1 ns sc1 ea1 nl ec1 lg1.synced false)], S1, E1, rwH X1, G4, [(g, .cells #[rec'] 23 (0, 0))], [(sb, .cells #[strV nm', iv tot] 92 (0, 0))]] := s7
                go_cut [10] (fun _ wr => ∃ sa2 sc2 S2, SlRep 92 2 sa2 segs2.length sc2 (segs2.flatMap (sgC p)) S2 ∧ Sp w0 K wr [DH2, [(b, lobj d p sa2 segs2.length sc2 ea1 nl ec1 lg1.synced false)], S2, E1, rwH X1])
                case first =>
                  cases fr with
                  | true =>
                    have e2 : Hid (nm' = nameN p n ∧ tot = rec.length) := ⟨hnm'.out, by rw [htot.out, hsz.out]; exact Nat.zero_add _⟩
                    have hs1n : Hid (SlRep 92 2 sa1 ns sc1 (lg1.segs.flatMap (sgC p)) S1) := by rw [hsn.out]; exact hs1.out
                    have hnsm2 : ns ≤ 4398046511104 := by rw [hsn.out]; exact hl1.msegs
                    go_upto_region 26 with fail
                    replace s7 := s7.drew
                    refine wp_region_J 10 (fun w' => w'.cell? ⟨b, 2, none⟩ = some (.slice sa1 ns sc1) ∧ w'.cell? ⟨sb, 0, none⟩ = some (strV nm') ∧ w'.cell? ⟨sb, 1, none⟩ = some (iv tot)) (by kernel_rfl) ?_ (fun hF => ?_)
                    · (try dsimp only)
                      all_goals (exact ⟨(lobj_cells (s7.own 1 rfl)).2.2.1, cell_of (s7.own 7 rfl).h0 rfl, cell_of (s7.own 7 rfl).h0 rfl⟩)
                    refine tk0 (i := 0) (oi := ⟨some 104, .move (.tmp 0), 30, "seglog.go:163", #[], none⟩) (v := ?_) rfl (by kernel_rfl) (fun _ _ _ h => h) (fun _ => hF) (fun w => ?_) (by rfl) ?_
                    rotate_left
                    · first | (go_simp; done) | (go_simp; with_reducible rfl) | (go_split_ands; go_simp; done)
                    try simp only [Act.put, nrmA, nrmB, nrmC]
                    refine tk0 (i := 1) (oi := ⟨some 105, .move (.tmp 0), 30, "seglog.go:163", #[], none⟩) (v := ?_) rfl (by kernel_rfl) (fun _ _ _ h => h) (fun _ => hF) (fun w => ?_) (by rfl) ?_
                    rotate_left
                    · first | (go_simp; done) | (go_simp; with_reducible rfl) | (go_split_ands; go_simp; done)
                    try simp only [Act.put, nrmA, nrmB, nrmC]
                    refine tk0 (i := 2) (oi := ⟨some 106, .nilCheck (.tmp 105), 0, "seglog.go:163", #[⟨1, .data⟩], none⟩) (v := ?_) rfl (by kernel_rfl) (fun _ _ _ h => h) (fun _ => hF) (fun w => ?_) (by rfl) ?_
                    rotate_left
                    · first | (go_simp; done) | (go_simp; with_reducible rfl) | (go_split_ands; go_simp; done)
                    try simp only [Act.put, nrmA, nrmB, nrmC]
                    refine tk0 (i := 3) (oi := ⟨some 107, .fieldAddr 86 (.tmp 106) 2, 0, "seglog.go:163", #[⟨2, .data⟩], none⟩) (v := ?_) rfl (by kernel_rfl) (fun _ _ _ h => h) (fun _ => hF) (fun w => ?_) (by rfl) ?_
                    rotate_left
                    · first | (go_simp; done) | (go_simp; with_reducible rfl) | (go_split_ands; go_simp; done)
                    try simp only [Act.put, nrmA, nrmB, nrmC]
                    refine tk1 (i := 4) (oi := ⟨some 108, .load 84 (.tmp 107), 84, "seglog.go:163", #[⟨3, .data⟩], none⟩) (v := ?_) [10] rfl (by kernel_rfl) (fun _ _ _ h => h) hF (fun w hFw => ?_) (by rfl) ?_
                    rotate_left
                    · ((try dsimp only at hFw); first | (go_simp; done) | (go_simp; with_reducible rfl) | (go_split_ands; go_simp; done))
                    try simp only [Act.put, nrmA, nrmB, nrmC]
                    refine tk1 (i := 5) (oi := ⟨some 109, .load 92 (.tmp 13), 92, "seglog.go:163", #[], none⟩) (v := ?_) [10] rfl (by kernel_rfl) (fun _ _ _ h => h) hF (fun w hFw => ?_) (by rfl) ?_
                    rotate_left
                    · ((try dsimp only at hFw); first | (go_simp; done) | (go_simp; with_reducible rfl) | (go_split_ands; go_simp; done))
                    try simp only [Act.put, nrmA, nrmB, nrmC]
                    refine wpAnyJ_ready (rs := [6]) (by kernel_rfl) (by simp) ?_
                    refine AllJ.cons1 (o := ⟨some 110, .buildSlice 84 1 #[(0, .tmp 109)], 84, "seglog.go:163", #[⟨5, .data⟩], none⟩) rfl (fun Kr hKr => ?_)
                    go_simp
                    have s7 : Sp w0 K _ [DH2, [(b, lobj d p sa1 ns sc1 ea1 nl ec1 lg1.synced false)], S1, E1, rwH X1, G4, [(g, .cells #[rec'] 23 (0, 0))], [(sb, .cells #[strV nm', iv tot] 92 (0, 0))], [(_, .cells #[strV nm', iv tot] 92 (0, 0))]] := s7.alloc _
                    refine hKr.out _ _ (fun hJ => ?_) (fun hF => ?_)
                    · first
                      | exact absurd hJ (by decide)
                      | (clear hJ; (try dsimp only); all_goals (exact ⟨(lobj_cells (s7.own 1 rfl)).2.2.1, cell_of (s7.own 7 rfl).h0 rfl, cell_of (s7.own 7 rfl).h0 rfl⟩))
                    clear hKr
                    try simp only [Act.put, nrmA, nrmB, nrmC]
                    refine wpAnyJ_ready (rs := [7]) (by kernel_rfl) (by simp) ?_
                    refine AllJ.cons1 (o := ⟨some 111, .call { callee := .builtin .append, args := #[.tmp 108, .tmp 110], argTypes := #[84, 84] }, 84, "seglog.go:163", #[⟨4, .data⟩, ⟨6, .data⟩], none⟩) rfl (fun Kr hKr => ?_)
                    refine step_app rfl st_seg _ _ (by rfl) (by rfl) (by rfl) hs1n.out (s7.own 2 rfl) (rdCells_block (s7.own 8 rfl).h0 rfl (by simp [Value.oneCell'])) (by unfold maxLen; omega) (by omega) ?_
                    intro a9 c9 w10 H9 hv9 hst9
                    have s7 : Sp w0 K w10 [DH2, [(b, lobj d p sa1 ns sc1 ea1 nl ec1 lg1.synced false)], H9, E1, rwH X1, G4, [(g, .cells #[rec'] 23 (0, 0))], [(sb, .cells #[strV nm', iv tot] 92 (0, 0))], _] := s7.put 2 rfl hst9
                    clear hst9
                    have b0 := heap_lt (s7.own 1 rfl).h0
                    have fz := fun i => frz_of (i := i) (s7.own 1 rfl).h0
                    have c2 := (lobj_cells (s7.own 1 rfl)).2.2.1
                    refine hKr.out _ _ (fun hJ => ?_) (fun hF => ?_)
                    · first
                      | exact absurd hJ (by decide)
                      | (clear hJ; (try dsimp only); all_goals (exact ⟨(lobj_cells (s7.own 1 rfl)).2.2.1, cell_of (s7.own 7 rfl).h0 rfl, cell_of (s7.own 7 rfl).h0 rfl⟩))
                    clear hKr
                    try simp only [Act.put, nrmA, nrmB, nrmC]
                    refine tk0 (i := 8) (oi := ⟨some 112, .nilCheck (.tmp 104), 0, "seglog.go:163", #[⟨0, .data⟩, ⟨0, .phase⟩, ⟨1, .phase⟩, ⟨2, .phase⟩, ⟨3, .phase⟩, ⟨4, .phase⟩, ⟨5, .phase⟩, ⟨6, .phase⟩, ⟨7, .phase⟩], none⟩) (v := ?_) rfl (by kernel_rfl) (fun _ _ _ h => h) (fun _ => hF (by kernel_rfl)) (fun w => ?_) (by rfl) ?_
                    rotate_left
                    · first | (go_simp; done) | (go_simp; with_reducible rfl) | (go_split_ands; go_simp; done)
                    try simp only [Act.put, nrmA, nrmB, nrmC]
                    refine tk0 (i := 9) (oi := ⟨some 113, .fieldAddr 86 (.tmp 112) 2, 0, "seglog.go:163", #[⟨8, .data⟩, ⟨0, .phase⟩, ⟨1, .phase⟩, ⟨2, .phase⟩, ⟨3, .phase⟩, ⟨4, .phase⟩, ⟨5, .phase⟩, ⟨6, .phase⟩, ⟨7, .phase⟩], none⟩) (v := ?_) rfl (by kernel_rfl) (fun _ _ _ h => h) (fun _ => hF (by kernel_rfl)) (fun w => ?_) (by rfl) ?_
                    rotate_left
                    · first | (go_simp; done) | (go_simp; with_reducible rfl) | (go_split_ands; go_simp; done)
                    try simp only [Act.put, nrmA, nrmB, nrmC]
                    refine wpAnyJ_ready (rs := [10]) (by kernel_rfl) (by simp) ?_
                    refine AllJ.cons1 (o := ⟨none, .store 84 (.tmp 113) (.tmp 111), 0, "seglog.go:163", #[⟨9, .data⟩, ⟨7, .data⟩, ⟨7, .chain⟩, ⟨0, .phase⟩, ⟨1, .phase⟩, ⟨2, .phase⟩, ⟨3, .phase⟩, ⟨4, .phase⟩, ⟨5, .phase⟩, ⟨6, .phase⟩, ⟨7, .phase⟩], none⟩) rfl (fun Kr hKr => ?_)
                    go_simp
                    have s9 := s7.store 1 rfl (j := 2) (.slice a9 (ns + 1) c9)
                    refine hKr.out _ _ (fun hJ => ?_) (fun hF => ?_)
                    · first
                      | exact absurd hJ (by decide)
                      | (clear hJ; (try dsimp only); all_goals (exact ⟨(lobj_cells (s7.own 1 rfl)).2.2.1, cell_of (s7.own 7 rfl).h0 rfl, cell_of (s7.own 7 rfl).h0 rfl⟩))
                    clear hKr
                    try simp only [Act.put, nrmA, nrmB, nrmC]
                    refine wpAnyJ_done (by kernel_rfl) ?_ _
                    replace hv9 := Lib.hid hv9
                    clear c2 fz b0 s7
                    go_wp2_with fail
                    go_meet
                    have e3 : segs2 = lg1.segs ++ [(n, rec.length)] := hsegs2.out
                    have e4 : segs2.length = ns + 1 := by rw [e3, List.length_append, ← hsn.out]; rfl
                    rw [e4, e3]
                    refine ⟨a9, c9, H9, ?_, ?_⟩
                    · rw [List.flatMap_append]
                      have := hv9.out
                      rw [e2.out.1, e2.out.2] at this
                      simpa [sgC] using this
                    · exact ((((s9.forget 5 rfl).forget 6 rfl).forget 7 rfl).forget 8 rfl).perm (by simp)
                  | false =>
                    have hsg := hne.out rfl
                    have hlast := last_at hsg
                    obtain ⟨q, rfl, hsc1, hsc2, z0, z1, zf⟩ := sg_at hs1.out (s7.own 2 rfl) hlast
                    obtain ⟨m, hm1⟩ : ∃ m, ns = m + 1 := ⟨ns - 1, by have := List.length_pos_iff.2 hsg; have := hsn.out; omega⟩
                    have e3 : segs2 = lg1.segs.set m ((lastSeg lg1).1, (lastSeg lg1).2 + rec.length) := by
                      rw [hsegs2.out]
                      have := set_last lg1.segs hsg ((lastSeg lg1).1, (lastSeg lg1).2 + rec.length)
                      rw [← hsn.out, hm1] at this
                      exact this.symm
                    have e4 : segs2.length = m + 1 := by rw [e3, List.length_set, ← hsn.out, hm1]
                    subst hm1
                    rw [← hsn.out] at z0 z1 hsc1 hlast
                    simp only [Nat.add_sub_cancel] at z0 z1 hlast
                    have e2 : Hid (nm' = nameN p (lastSeg lg1).1 ∧ tot = (lastSeg lg1).2 + rec.length) := ⟨hnm'.out, by rw [htot.out, hsz.out]; rfl⟩
                    have hs1n : Hid (SlRep 92 2 (some ⟨q, 0, none⟩) (m + 1) sc1 (lg1.segs.flatMap (sgC p)) S1) := by rw [hsn.out]; exact hs1.out
                    replace hsg := Lib.hid hsg
                    replace hlast := Lib.hid hlast
                    replace e3 := Lib.hid e3
                    replace e4 := Lib.hid e4
                    have hci : ((m : Int) + 1) ≤ (sc1 : Int) := by omega
                    have m0 : (0 : Int) ≤ (m : Int) := by omega
                    have m1 : (m : Int) ≤ 4398046511104 := by omega
                    have m2 : (m : Int) < (m : Int) + 1 := by omega
                    clear q2 hnsi hsc1
                    obtain ⟨c0, c1, c2, c3, c4, c5⟩ := lobj_cells (s7.own 1 rfl)
                    have xlt := heap_lt (s7.own 1 rfl).h0
                    have y0 : W7.cell? ⟨sb, 0, none⟩ = some (strV nm') := cell_of (s7.own 7 rfl).h0 rfl
                    have y1 : W7.cell? ⟨sb, 1, none⟩ = some (iv tot) := cell_of (s7.own 7 rfl).h0 rfl
                    go_upto_region 27 with fail
                    refine wp_region_J 7 (fun w' => w' = W7.drew) (by kernel_rfl) ?_ (fun hF => ?_)
                    · (try dsimp only)
                      all_goals (rfl)
                    refine tk0 (i := 0) (oi := ⟨some 114, .move (.tmp 0), 30, "seglog.go:165", #[], none⟩) (v := ?_) rfl (by kernel_rfl) (fun _ _ _ h => h) (fun _ => hF) (fun w => ?_) (by rfl) ?_
                    rotate_left
                    · first | (go_simp; done) | (go_simp; with_reducible rfl) | (go_split_ands; go_simp; done)
                    try simp only [Act.put, nrmA, nrmB, nrmC]
                    refine tk0 (i := 1) (oi := ⟨some 115, .nilCheck (.tmp 114), 0, "seglog.go:165", #[⟨0, .data⟩], none⟩) (v := ?_) rfl (by kernel_rfl) (fun _ _ _ h => h) (fun _ => hF) (fun w => ?_) (by rfl) ?_
                    rotate_left
                    · first | (go_simp; done) | (go_simp; with_reducible rfl) | (go_split_ands; go_simp; done)
                    try simp only [Act.put, nrmA, nrmB, nrmC]
                    refine tk0 (i := 2) (oi := ⟨some 116, .fieldAddr 86 (.tmp 115) 2, 0, "seglog.go:165", #[⟨1, .data⟩], none⟩) (v := ?_) rfl (by kernel_rfl) (fun _ _ _ h => h) (fun _ => hF) (fun w => ?_) (by rfl) ?_
                    rotate_left
                    · first | (go_simp; done) | (go_simp; with_reducible rfl) | (go_split_ands; go_simp; done)
                    try simp only [Act.put, nrmA, nrmB, nrmC]
                    refine tk1 (i := 3) (oi := ⟨some 117, .load 84 (.tmp 116), 84, "seglog.go:165", #[⟨2, .data⟩], none⟩) (v := ?_) [7] rfl (by kernel_rfl) (fun _ _ _ h => h) hF (fun w hFw => ?_) (by rfl) ?_
                    rotate_left
                    · ((try dsimp only at hFw); first | (go_simp; done) | (go_simp; with_reducible rfl) | (go_split_ands; go_simp; done))
                    try simp only [Act.put, nrmA, nrmB, nrmC]
                    refine tk0 (i := 4) (oi := ⟨some 118, .move (.tmp 10), 3, "seglog.go:165", #[], none⟩) (v := ?_) rfl (by kernel_rfl) (fun _ _ _ h => h) (fun _ => hF) (fun w => ?_) (by rfl) ?_
                    rotate_left
                    · first | (go_simp; done) | (go_simp; with_reducible rfl) | (go_split_ands; go_simp; done)
                    try simp only [Act.put, nrmA, nrmB, nrmC]
                    refine tk1 (i := 5) (oi := ⟨some 119, .load 92 (.tmp 13), 92, "seglog.go:165", #[], none⟩) (v := ?_) [7] rfl (by kernel_rfl) (fun _ _ _ h => h) hF (fun w hFw => ?_) (by rfl) ?_
                    rotate_left
                    · ((try dsimp only at hFw); first | (go_simp; done) | (go_simp; with_reducible rfl) | (go_split_ands; go_simp; done))
                    try simp only [Act.put, nrmA, nrmB, nrmC]
                    refine tk0 (i := 6) (oi := ⟨some 120, .indexAddr 84 (.tmp 117) (.tmp 118), 0, "seglog.go:165", #[⟨3, .data⟩, ⟨4, .data⟩, ⟨0, .phase⟩, ⟨1, .phase⟩, ⟨2, .phase⟩, ⟨3, .phase⟩, ⟨4, .phase⟩, ⟨5, .phase⟩], none⟩) (v := ?_) rfl (by kernel_rfl) (fun _ _ _ h => h) (fun _ => hF) (fun w => ?_) (by rfl) ?_
                    rotate_left
                    · first | (go_simp; done) | (go_simp; with_reducible rfl) | (go_split_ands; go_simp; done)
                    try simp only [Act.put, nrmA, nrmB, nrmC]
                    refine wpAnyJ_ready (rs := [7]) (by kernel_rfl) (by simp) ?_
                    refine AllJ.cons1 (o := ⟨none, .store 92 (.tmp 120) (.tmp 119), 0, "seglog.go:165", #[⟨6, .data⟩, ⟨5, .data⟩, ⟨0, .phase⟩, ⟨1, .phase⟩, ⟨2, .phase⟩, ⟨3, .phase⟩, ⟨4, .phase⟩, ⟨5, .phase⟩], none⟩) rfl (fun Kr hKr => ?_)
                    go_simp
                    refine hKr.out _ _ (fun hJ => ?_) (fun hF => ?_)
                    · first
                      | exact absurd hJ (by decide)
                      | (clear hJ; (try dsimp only); all_goals (rfl))
                    clear hKr
                    try simp only [Act.put, nrmA, nrmB, nrmC]
                    refine wpAnyJ_done (by kernel_rfl) ?_ _
                    go_wp2_with fail
                    go_meet
                    obtain ⟨H1, r1, t1⟩ := Sp.putSlk (sgC_len p) 2 s7.drew rfl hs1n.out (i := m) (j := 0) (x' := lastSeg lg1) (v := strV nm') hlast.out (by decide) (by rw [e2.out.1]; rfl)
                    obtain ⟨H2, r2, t2⟩ := Sp.putSlk (sgC_len p) 2 t1 rfl r1 (i := m) (j := 1) (x := lastSeg lg1) (x' := ((lastSeg lg1).1, (lastSeg lg1).2 + rec.length)) (v := iv tot) (by rw [List.getElem?_set_self (List.getElem?_eq_some_iff.1 hlast.out).1]) (by decide) (by rw [e2.out.2]; rfl)
                    rw [List.set_set] at r2
                    rw [e4.out, e3.out]
                    exact ⟨_, _, H2, r2, (((t2.forget 5 rfl).forget 6 rfl).forget 7 rfl).perm (by simp)⟩
                case rest =>
                  obtain ⟨sa2, sc2, S2, hs2, s8⟩ := hcut
                  have hX1n : X1.length = nl := by rw [← rwD_len, hdX1.out, hnl3.out]
                  have hr1n : Hid (SlRep 23 1 ea1 nl ec1 (X1.map Rw.val) E1) := by rw [← hX1n]; exact hr1.out.1
                  replace hs2 := Lib.hid hs2
                  replace hX1n := Lib.hid hX1n
                  go_upto_region 28 with fail
                  replace s8 := s8.drew
                  refine wp_region_J 11 (fun w' => w'.cell? ⟨b, 3, none⟩ = some (.slice ea1 nl ec1)) (by kernel_rfl) ?_ (fun hF => ?_)
                  · (try dsimp only)
                    all_goals (exact (lobj_cells (s8.own 1 rfl)).2.2.2.1)
                  refine tk0 (i := 0) (oi := ⟨some 121, .move (.tmp 0), 30, "seglog.go:167", #[], none⟩) (v := ?_) rfl (by kernel_rfl) (fun _ _ _ h => h) (fun _ => hF) (fun w => ?_) (by rfl) ?_
                  rotate_left
                  · first | (go_simp; done) | (go_simp; with_reducible rfl) | (go_split_ands; go_simp; done)
                  try simp only [Act.put, nrmA, nrmB, nrmC]
                  refine tk0 (i := 1) (oi := ⟨some 122, .move (.tmp 0), 30, "seglog.go:167", #[], none⟩) (v := ?_) rfl (by kernel_rfl) (fun _ _ _ h => h) (fun _ => hF) (fun w => ?_) (by rfl) ?_
                  rotate_left
                  · first | (go_simp; done) | (go_simp; with_reducible rfl) | (go_split_ands; go_simp; done)
                  try simp only [Act.put, nrmA, nrmB, nrmC]
                  refine tk0 (i := 2) (oi := ⟨some 123, .nilCheck (.tmp 122), 0, "seglog.go:167", #[⟨1, .data⟩], none⟩) (v := ?_) rfl (by kernel_rfl) (fun _ _ _ h => h) (fun _ => hF) (fun w => ?_) (by rfl) ?_
                  rotate_left
                  · first | (go_simp; done) | (go_simp; with_reducible rfl) | (go_split_ands; go_simp; done)
                  try simp only [Act.put, nrmA, nrmB, nrmC]
                  refine tk0 (i := 3) (oi := ⟨some 124, .fieldAddr 86 (.tmp 123) 3, 0, "seglog.go:167", #[⟨2, .data⟩], none⟩) (v := ?_) rfl (by kernel_rfl) (fun _ _ _ h => h) (fun _ => hF) (fun w => ?_) (by rfl) ?_
                  rotate_left
                  · first | (go_simp; done) | (go_simp; with_reducible rfl) | (go_split_ands; go_simp; done)
                  try simp only [Act.put, nrmA, nrmB, nrmC]
                  refine tk1 (i := 4) (oi := ⟨some 125, .load 22 (.tmp 124), 22, "seglog.go:167", #[⟨3, .data⟩], none⟩) (v := ?_) [11] rfl (by kernel_rfl) (fun _ _ _ h => h) hF (fun w hFw => ?_) (by rfl) ?_
                  rotate_left
                  · ((try dsimp only at hFw); first | (go_simp; done) | (go_simp; with_reducible rfl) | (go_split_ands; go_simp; done))
                  try simp only [Act.put, nrmA, nrmB, nrmC]
                  refine tk0 (i := 5) (oi := ⟨some 126, .move (.tmp 1), 23, "seglog.go:167", #[], none⟩) (v := ?_) rfl (by kernel_rfl) (fun _ _ _ h => h) (fun _ => hF) (fun w => ?_) (by rfl) ?_
                  rotate_left
                  · first | (go_simp; done) | (go_simp; with_reducible rfl) | (go_split_ands; go_simp; done)
                  try simp only [Act.put, nrmA, nrmB, nrmC]
                  refine wpAnyJ_ready (rs := [6]) (by kernel_rfl) (by simp) ?_
                  refine AllJ.cons1 (o := ⟨some 127, .call { callee := .value (.func 44), args := #[.tmp 126], argTypes := #[23] }, 23, "seglog.go:167", #[⟨5, .data⟩], none⟩) rfl (fun Kr hKr => ?_)
                  go_simp; go_at_call 44; refine (clone_any _ _ _ e _ (hb _ _ s8) (by omega)).mono ?_; rintro e' w9 ⟨ar, cr, Gr, rfl, rrr, hst⟩
                  have s8 : Sp w0 K w9 [DH2, [(b, lobj d p sa2 segs2.length sc2 ea1 nl ec1 lg1.synced false)], S2, E1, rwH X1, Gr] := s8.fresh hst
                  clear hst
                  refine hKr.out _ _ (fun hJ => ?_) (fun hF => ?_)
                  · first
                    | exact absurd hJ (by decide)
                    | (clear hJ; (try dsimp only); all_goals (exact (lobj_cells (s8.own 1 rfl)).2.2.2.1))
                  clear hKr
                  try simp only [Act.put, nrmA, nrmB, nrmC]
                  refine wpAnyJ_ready (rs := [7]) (by kernel_rfl) (by simp) ?_
                  refine AllJ.cons1 (o := ⟨some 128, .buildSlice 22 1 #[(0, .tmp 127)], 22, "seglog.go:167", #[⟨6, .data⟩], none⟩) rfl (fun Kr hKr => ?_)
                  go_simp
                  have s8 : Sp w0 K _ [DH2, [(b, lobj d p sa2 segs2.length sc2 ea1 nl ec1 lg1.synced false)], S2, E1, rwH X1, Gr, [(w9.heap.size, .cells #[.slice ar e.length cr] 23 (0, 0))]] := s8.alloc _
                  refine hKr.out _ _ (fun hJ => ?_) (fun hF => ?_)
                  · first
                    | exact absurd hJ (by decide)
                    | (clear hJ; (try dsimp only); all_goals (exact (lobj_cells (s8.own 1 rfl)).2.2.2.1))
                  clear hKr
                  try simp only [Act.put, nrmA, nrmB, nrmC]
                  refine wpAnyJ_ready (rs := [8]) (by kernel_rfl) (by simp) ?_
                  refine AllJ.cons1 (o := ⟨some 129, .call { callee := .builtin .append, args := #[.tmp 125, .tmp 128], argTypes := #[22, 22] }, 22, "seglog.go:167", #[⟨4, .data⟩, ⟨7, .data⟩, ⟨6, .chain⟩], none⟩) rfl (fun Kr hKr => ?_)
                  refine step_app rfl st_rows _ _ (by rfl) (by rfl) (by rfl) hr1n.out (s8.own 3 rfl) (rdCells_block (s8.own 6 rfl).h0 rfl (by simp [Value.oneCell'])) (by unfold maxLen; omega) (by omega) ?_
                  intro a9 c9 w10 H9 hv9 hst9
                  have s8 : Sp w0 K w10 [DH2, [(b, lobj d p sa2 segs2.length sc2 ea1 nl ec1 lg1.synced false)], S2, H9, rwH X1, Gr, _] := s8.put 3 rfl hst9
                  clear hst9
                  have b0 := heap_lt (s8.own 1 rfl).h0
                  have fz := fun i => frz_of (i := i) (s8.own 1 rfl).h0
                  have c3 := (lobj_cells (s8.own 1 rfl)).2.2.2.1
                  refine hKr.out _ _ (fun hJ => ?_) (fun hF => ?_)
                  · first
                    | exact absurd hJ (by decide)
                    | (clear hJ; (try dsimp only); all_goals (exact (lobj_cells (s8.own 1 rfl)).2.2.2.1))
                  clear hKr
                  try simp only [Act.put, nrmA, nrmB, nrmC]
                  refine tk0 (i := 9) (oi := ⟨some 130, .nilCheck (.tmp 121), 0, "seglog.go:167", #[⟨0, .data⟩, ⟨0, .phase⟩, ⟨1, .phase⟩, ⟨2, .phase⟩, ⟨3, .phase⟩, ⟨4, .phase⟩, ⟨5, .phase⟩, ⟨6, .phase⟩, ⟨7, .phase⟩, ⟨8, .phase⟩], none⟩) (v := ?_) rfl (by kernel_rfl) (fun _ _ _ h => h) (fun _ => hF (by kernel_rfl)) (fun w => ?_) (by rfl) ?_
                  rotate_left
                  · first | (go_simp; done) | (go_simp; with_reducible rfl) | (go_split_ands; go_simp; done)
                  try simp only [Act.put, nrmA, nrmB, nrmC]
                  refine tk0 (i := 10) (oi := ⟨some 131, .fieldAddr 86 (.tmp 130) 3, 0, "seglog.go:167", #[⟨9, .data⟩, ⟨0, .phase⟩, ⟨1, .phase⟩, ⟨2, .phase⟩, ⟨3, .phase⟩, ⟨4, .phase⟩, ⟨5, .phase⟩, ⟨6, .phase⟩, ⟨7, .phase⟩, ⟨8, .phase⟩], none⟩) (v := ?_) rfl (by kernel_rfl) (fun _ _ _ h => h) (fun _ => hF (by kernel_rfl)) (fun w => ?_) (by rfl) ?_
                  rotate_left
                  · first | (go_simp; done) | (go_simp; with_reducible rfl) | (go_split_ands; go_simp; done)
                  try simp only [Act.put, nrmA, nrmB, nrmC]
                  refine wpAnyJ_ready (rs := [11]) (by kernel_rfl) (by simp) ?_
                  refine AllJ.cons1 (o := ⟨none, .store 22 (.tmp 131) (.tmp 129), 0, "seglog.go:167", #[⟨10, .data⟩, ⟨8, .data⟩, ⟨8, .chain⟩, ⟨0, .phase⟩, ⟨1, .phase⟩, ⟨2, .phase⟩, ⟨3, .phase⟩, ⟨4, .phase⟩, ⟨5, .phase⟩, ⟨6, .phase⟩, ⟨7, .phase⟩, ⟨8, .phase⟩], none⟩) rfl (fun Kr hKr => ?_)
                  go_simp
                  have s9 := s8.store 1 rfl (j := 3) (.slice a9 (nl + 1) c9)
                  refine hKr.out _ _ (fun hJ => ?_) (fun hF => ?_)
                  · first
                    | exact absurd hJ (by decide)
                    | (clear hJ; (try dsimp only); all_goals (exact (lobj_cells (s8.own 1 rfl)).2.2.2.1))
                  clear hKr
                  try simp only [Act.put, nrmA, nrmB, nrmC]
                  refine wpAnyJ_done (by kernel_rfl) ?_ _
                  replace hv9 := Lib.hid hv9
                  replace rrr := Lib.hid rrr
                  clear c3 fz b0 s8
                  go_wp2_with fail
                  go_ret2
                  rw [hfin.out]
                  refine ⟨rfl, DH2, _, S2, H9, rwH (X1 ++ [⟨ar, cr, e, Gr⟩]), hd2, ⟨sa2, a9, sc2, c9, X1 ++ [⟨ar, cr, e, Gr⟩], hs2.out, rowsRep_snoc (x := ⟨ar, cr, e, Gr⟩) hv9.out (by rw [hX1n.out]) hr1.out.2 rrr.out, ?_, rfl, rfl⟩, ?_⟩
                  · rw [rwD_snoc, hdX1.out]
                  · have e7 : (lg1.L ++ [e]).length = nl + 1 := by rw [List.length_append, hnl3.out]; rfl
                    simp only [e7, rwH_snoc, hdead1.out]
                    have s10 : Sp w0 K _ [DH2, [(b, lobj d p sa2 segs2.length sc2 a9 (nl + 1) c9 lg1.synced false)], S2, H9, rwH X1, Gr] := (s9.forget 6 rfl).perm (by simp)
                    exact s10.perm (Gs := [DH2, [(b, lobj d p sa2 segs2.length sc2 a9 (nl + 1) c9 lg1.synced false)], S2, H9, rwH X1 ++ Gr]) (by simp)
              · have q5 : ((x1 : Int) != 0) = true := by rw [bne_iff_ne]; omega
                have hfin : Hid (lappN p e lg k = (0, x1, { lg1 with dead := decide (x1 ≠ 6) }, k2)) := by show _ = _; rw [hee.out, hput.out]; exact if_pos hx0
                have hdd : Hid (decide (x1 ≠ 0 ∧ x1 ≠ 6) = decide (x1 ≠ 6)) := by show _ = _; simp [hx0]
                replace hx0 := Lib.hid hx0
                go_wp2_with fail
                go_ret2
                rw [hfin.out]
                rw [hdd.out] at s6
                have s9 : Sp w0 K w6 [DH2, [(b, lobj d p sa1 ns sc1 ea1 nl ec1 lg1.synced (decide (x1 ≠ 6)))], S1, E1, rwH X1] := (((s6.forget 5 rfl).forget 6 rfl).forget 7 rfl).perm (by simp)
                refine ⟨rfl, DH2, _, S1, E1, _, hd2, ⟨sa1, ea1, sc1, ec1, X1, hs1.out, hr1.out, hdX1.out, rfl, ?_⟩, s9⟩
                have h1 := hsn.out
                have h2 := hnl3.out
                simp only [← h1, ← h2]
end Go.Proofs.YtdolbeonpkanpaaGreatDoor
