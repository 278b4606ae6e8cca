/- The reference's log: Append. -/
import Derived.Test.YtdolbeonpkanpaaGreatDoorMFrC
import Derived.Test.YtdolbeonpkanpaaGreatDoorMOcD
import Derived.Test.YtdolbeonpkanpaaGreatDoorSrC
set_option linter.unusedVariables false
set_option linter.unusedSimpArgs false
namespace Go.Proofs.YtdolbeonpkanpaaGreatDoor
open Go.RowKit
attribute [local go_sem ↓] Go.wp_at_zero Go.wp_at_succ

def RApPost (b d : Nat) (p : Nm) (r : Nat × Nat × Lg × Dk) (w0 : World) (K : Heaplet) (e : Ending) (w' : World) : Prop :=
  e = .returned (.tuple #[iv r.1, iv r.2.1]) ∧ ∃ DH B S E XH, RkRep d r.2.2.2 DH ∧ RlIs b d p r.2.2.1 B S E XH ∧ Sp w0 K w' [DH, B, S, E, XH]
def RApCut (b d : Nat) (p : Nm) (fresh : Bool) (e : List UInt8) (lg : Lg) (k : Dk) (w0 : World) (K : Heaplet) (wr : World) : Prop :=
  ∃ (lg1 : Lg) (k1 : Dk) (DH B S E XH : Heaplet), lappN p e lg k = putEN p fresh e lg1 k1 ∧ lg1.Ok ∧ k1.Ok ∧ lg1.dead = false ∧ (fresh = false → lg1.segs ≠ []) ∧ lg1.L.length = lg.L.length ∧ lg1.segs.length = lg.segs.length ∧ RkRep d k1 DH ∧ RlIs b d p lg1 B S E XH ∧
    Sp w0 K wr [DH, B, S, E, XH]
set_option maxHeartbeats 1000000 in
set_option maxRecDepth 100000 in
theorem rlapp_any (b d : Nat) (p : Nm) (lg : Lg) (k : Dk) (DH B S E XH : Heaplet) (w0 w : World) (K : Heaplet) (hd : RkRep d k DH) (hk : k.Ok) (h : RlIs b d p lg B S E XH) (s : Sp w0 K w [DH, B, S, E, XH]) (hl : lg.Ok) (hon : lg.On p k) (hp : p.length ≤ 1000)
    (pa : Option Addr) (pc : Nat) (e : List UInt8) (hb : ∀ V H, Step w0 K V H → RdBytes V pa e.length pc e) (hel : e.length ≤ 140737488300000) :
    Calls Tryz.prog 15 #[pt b, .slice pa e.length pc] w (RApPost b d p (lappN p e lg k) w0 K) := by
  have hh := Lib.hid h
  have hm := hl.many
  obtain ⟨sa, ea, sc, ec, X, hs, hr, hdX, rfl, rfl⟩ := h
  obtain ⟨c0, c1, c2, c3, c4, c5⟩ := rlobj_cells (s.own 1 rfl)
  have xlt := heap_lt (s.own 1 rfl).h0
  have hmi : (lg.L.length : Int) ≤ 4398046511104 := by omega
  have heli : (e.length : Int) ≤ 140737488300000 := by omega
  by_cases hdead : lg.dead = true
  · have e1 : Hid (lappN p e lg k = (0, 9, lg, k)) := by show _ = _; unfold lappN; rw [if_pos hdead]
    rw [hdead] at c5
    replace hdead := Lib.hid hdead
    go_enter Tryz.func15, Tryz.ntmps15
    go_wp2_with fail
    go_ret2
    rw [e1.out]
    exact ⟨rfl, DH, _, S, E, _, hd, hh.out, s⟩
  · have hdf : lg.dead = false := by simpa using hdead
    have hdff := Lib.hid hdf
    rw [hdf] at c5
    by_cases hlong : 65526 < e.length
    · have e1 : Hid (lappN p e lg k = (0, 5, lg, k)) := by show _ = _; unfold lappN; rw [if_neg hdead, if_pos hlong]
      have hli : (65526 : Int) < (e.length : Int) := by omega
      clear hdead hdf
      go_enter Tryz.func15, Tryz.ntmps15
      go_wp2_with fail
      go_ret2
      rw [e1.out]
      exact ⟨rfl, DH, _, S, E, _, hd, hh.out, s⟩
    · have e1 : Hid (lappN p e lg k = if lg.segs = [] then putEN p true e lg k
          else if 512 ≤ (lastSeg lg).2 then
            let z := lsyncN p lg k
            if z.1 ≠ 0 then (0, z.1, z.2.1, z.2.2) else putEN p true e z.2.1 z.2.2
          else putEN p false e lg k) := by show _ = _; unfold lappN; rw [if_neg hdead, if_neg hlong]
      have hli : (e.length : Int) ≤ 65526 := by omega
      clear hdead hdf hlong
      obtain ⟨n, hn⟩ : ∃ n, n = lg.L.length + 1 := ⟨_, rfl⟩
      have q1 : IntKind.i64.wrap ((lg.L.length : Int) + 1) = (n : Int) := by rw [IntWalk.i64_in _ (by omega), hn]; omega
      have hnn : n ≤ 4398046511105 := by omega
      replace hn := Lib.hid hn
      obtain ⟨ns, hns⟩ : ∃ ns, ns = lg.segs.length := ⟨_, rfl⟩
      rw [← hns] at s c3
      have hnsm : ns ≤ 4398046511104 := by rw [hns]; exact hl.msegs
      replace hns := Lib.hid hns
      obtain ⟨f0, hf0⟩ : ∃ f0, f0 = decide (lg.segs = []) := ⟨_, rfl⟩
      replace hf0 := Lib.hid hf0
      replace hs := Lib.hid hs
      replace hr := Lib.hid hr
      replace hdX := Lib.hid hdX
      go_enter Tryz.func15, Tryz.ntmps15
      go_upto_region 6 with fail
      go_cut [7] (fun v7 wr => v7 = .bool f0 ∧ wr = w)
      case first =>
        by_cases hsg : lg.segs = []
        · have hz : Hid (f0 = true) := by show _ = _; rw [hf0.out]; simp [hsg]
          have hzn : ns = 0 := by rw [hns.out, hsg]; rfl
          have q5 : ((ns : Int) == 0) = true := by rw [hzn]; rfl
          replace hsg := Lib.hid hsg
          replace hzn := Lib.hid hzn
          go_wp2_with fail
          go_meet
          exact ⟨by rw [hz.out], rfl⟩
        · have hz : Hid (f0 = false) := by show _ = _; rw [hf0.out]; simp [hsg]
          have q5 : ((ns : Int) == 0) = false := beq_eq_false_iff_ne.2 (by have := List.length_pos_iff.2 hsg; have := hns.out; omega)
          replace hsg := Lib.hid hsg
          go_wp2_with fail
          go_meet
          exact ⟨by rw [hz.out], rfl⟩
      case rest =>
        obtain ⟨rfl, rfl⟩ := hcut
        go_upto_region 7 with fail
        go_cut [38] (fun v38 wr => v38 = .bool (!f0 && decide (512 ≤ (lastSeg lg).2)) ∧ Sp w0 K wr [DH, [(b, rlobj d p ea lg.L.length ec sa ns sc (lg.synced + 1) lg.dead)], S, E, rwH X])
        case first =>
          cases f0 with
          | true =>
            go_wp2_with fail
            go_meet
            exact ⟨rfl, s⟩
          | false =>
            have hsg : lg.segs ≠ [] := by have := hf0.out; simpa using this.symm
            have hsz := Lib.hid (rsize_any b d p lg k DH _ S E (rwH X) [E, rwH X] w0 wc K hd hk hh.out (by rw [← hns.out]; exact s) hl hp hsg)
            rw [hon hsg] at hsz
            obtain ⟨z, hz⟩ : ∃ z, z = (lastSeg lg).2 := ⟨_, rfl⟩
            rw [← hz] at hsz
            replace hz := Lib.hid hz
            replace hsg := Lib.hid hsg
            clear hon
            go_wp2_with fail
            refine hsz.out.mono ?_
            rintro e' w1 ⟨rfl, s1⟩
            rw [← hns.out] at s1
            by_cases h5 : 512 ≤ z
            · have h5i : (512 : Int) ≤ (z : Int) := by omega
              have hz3 : Hid ((!false && decide (512 ≤ z)) = true) := by show _ = _; rw [decide_eq_true h5]; rfl
              go_wp2_with fail
              go_meet
              exact ⟨by rw [← hz.out, hz3.out], s1⟩
            · have h5i : (z : Int) < 512 := by omega
              have hz3 : Hid ((!false && decide (512 ≤ z)) = false) := by show _ = _; rw [decide_eq_false h5]; rfl
              go_wp2_with fail
              go_meet
              exact ⟨by rw [← hz.out, hz3.out]; exact congrArg Value.bool (decide_eq_false (by omega)), s1⟩
        case rest =>
          obtain ⟨rfl, s2⟩ := hcut
          clear s c0 c1 c2 c3 c4 c5 xlt
          obtain ⟨q, hq⟩ : ∃ q, q = (!f0 && decide (512 ≤ (lastSeg lg).2)) := ⟨_, rfl⟩
          rw [← hq]
          replace hq := Lib.hid hq
          go_upto_if 38 with fail
          go_cut [7] (fun v7 wr => v7 = .bool (f0 || q) ∧ RApCut b d p (f0 || q) e lg k w0 K wr)
          case first =>
            cases q with
            | false =>
              have hee : Hid (lappN p e lg k = putEN p (f0 || false) e lg k ∧ ((f0 || false) = false → lg.segs ≠ [])) := by
                show _ ∧ _
                rw [e1.out, Bool.or_false]
                have h1 := hf0.out
                have h2 := hq.out
                by_cases hsg : lg.segs = []
                · simp [hsg] at h1; subst h1; simp [hsg]
                · simp [hsg] at h1
                  subst h1
                  have h5 : ¬ 512 ≤ (lastSeg lg).2 := by simpa using h2
                  simp [hsg, h5]
              go_wp2_with fail
              go_meet
              refine ⟨by first | rfl | rw [Bool.or_false], lg, k, DH, _, S, E, _, hee.out.1, hl, hk, hdff.out, hee.out.2, rfl, rfl, hd, hh.out, ?_⟩
              rw [← hns.out]
              exact s2
            | true =>
              have hq2 := hq.out.symm
              simp at hq2
              obtain ⟨hft, h5⟩ := hq2
              subst hft
              have hsg : lg.segs ≠ [] := by have := hf0.out; simpa using this.symm
              have hz := lsync_ok p k hl
              have hzk := lsync_dk p lg hk
              have hze := lsync_err p lg k
              have hzl := lsync_live p lg k
              obtain ⟨hz1, hz2, hz3⟩ := lsync_same p lg k
              have hsy := Lib.hid (rlsync_any b d p lg k DH _ S E (rwH X) w0 wc K hd hk hh.out (by rw [← hns.out]; exact s2) hl hp)
              obtain ⟨⟨z1, lg1, k1⟩, hzz⟩ : ∃ z, z = lsyncN p lg k := ⟨_, rfl⟩
              have hee : lappN p e lg k = if z1 ≠ 0 then (0, z1, lg1, k1) else putEN p true e lg1 k1 := by rw [e1.out, if_neg hsg, if_pos h5, ← hzz]
              rw [← hzz] at hz hzk hze hz1 hz2 hz3 hsy hzl
              simp only at hz hzk hze hz1 hz2 hz3 hzl
              replace hzl := Lib.hid hzl
              replace hzz := Lib.hid hzz
              replace hsg := Lib.hid hsg
              replace hz1 := Lib.hid hz1
              replace hz2 := Lib.hid hz2
              replace hee := Lib.hid hee
              clear h5 hz3
              go_wp2_with fail
              refine hsy.out.mono ?_
              rintro e' w5 ⟨rfl, DH1, B1, S1, E1, XH1, hd1, hlg1, hst⟩
              simp only at hd1 hlg1 ⊢
              by_cases hx0 : z1 = 0
              · subst hx0
                go_wp2_with fail
                go_meet
                exact ⟨rfl, lg1, k1, DH1, B1, S1, E1, XH1, by rw [hee.out]; rfl, hz, hzk, by rw [hzl.out (by first | trivial | rfl)]; exact hdff.out, fun h => by simp at h, by rw [hz1.out], by rw [hz2.out], hd1, hlg1, hst⟩
              · have q5 : ((z1 : Int) != 0) = true := by rw [bne_iff_ne]; omega
                have hfin : Hid (lappN p e lg k = (0, z1, lg1, k1)) := by show _ = _; rw [hee.out]; exact if_pos hx0
                replace hx0 := Lib.hid hx0
                go_wp2_with fail
                go_ret2
                rw [hfin.out]
                exact ⟨rfl, DH1, B1, S1, E1, XH1, hd1, hlg1, hst⟩
          case rest =>
            obtain ⟨rfl, hcut⟩ := hcut
            obtain ⟨fr, hfr⟩ : ∃ fr, fr = (f0 || q) := ⟨_, rfl⟩
            rw [← hfr] at hcut ⊢
            clear hfr hq hf0 hh e1 hl hk hd hon q1 hdff hm hmi s2 hs hr hdX
            obtain ⟨lg1, k1, DH1, B1, S1, E1, XH1, hee, hl1, hk1, hdead1, hne, hLl, hSl, hd1, hlg1, s⟩ := hcut
            obtain ⟨sa1, ea1, sc1, ec1, X1, hs1, hr1, hdX1, rfl, rfl⟩ := hlg1
            have hmm := hl1.msegs
            have hsn : ns = lg1.segs.length := by rw [hSl]; exact hns.out
            have hnL : n = lg1.L.length + 1 := by rw [hLl]; exact hn.out
            clear hLl hSl hn hns
            rw [← hsn] at s
            obtain ⟨nl, hnl3⟩ : ∃ nl, nl = lg1.L.length := ⟨_, rfl⟩
            rw [← hnl3] at s hnL
            have hnl4 : nl ≤ 4398046511104 := by omega
            obtain ⟨c0, c1, c2, c3, c4, c5⟩ := rlobj_cells (s.own 1 rfl)
            have xlt := heap_lt (s.own 1 rfl).h0
            obtain ⟨sg, hsg9⟩ : ∃ z, z = (if fr then n else (lastSeg lg1).1) := ⟨_, rfl⟩
            have hsgb : sg ≤ 4398046511106 := by
              rw [hsg9]
              split
              · omega
              · by_cases h0 : lg1.segs = []
                · unfold lastSeg; rw [h0]; exact Nat.zero_le _
                · have h1 := (hl1.bytes _ (List.mem_of_getElem? (last_at h0))).2
                  have h2 := hl1.many
                  omega
            replace hsg9 := Lib.hid hsg9
            replace hee := Lib.hid hee
            replace hne := Lib.hid hne
            replace hsn := Lib.hid hsn
            replace hnL := Lib.hid hnL
            replace hnl3 := Lib.hid hnl3
            replace hdead1 := Lib.hid hdead1
            replace hs1 := Lib.hid hs1
            replace hr1 := Lib.hid hr1
            replace hdX1 := Lib.hid hdX1
            go_upto_if 46 with fail
            go_cut [9] (fun v9 wr => v9 = iv sg ∧ Sp w0 K wr [DH1, [(b, rlobj d p ea1 nl ec1 sa1 ns sc1 (lg1.synced + 1) lg1.dead)], S1, E1, rwH X1])
            case first =>
              cases fr with
              | true =>
                have e2 : Hid (sg = n) := hsg9.out
                go_wp2_with fail
                go_meet
                exact ⟨by rw [e2.out], s⟩
              | false =>
                have hsg := hne.out rfl
                obtain ⟨q, rfl, s0⟩ := fs_at hs1.out (s.own 2 rfl) (last_at hsg)
                obtain ⟨hsc1, hsc2⟩ : lg1.segs.length ≤ sc1 ∧ sc1 ≤ maxLen := by
                  obtain ⟨_, ⟨e0, _⟩ | ⟨_, _, _, _, hsc1, hsc2, _⟩⟩ := hs1.out
                  · cases e0
                  · exact ⟨hsc1, hsc2⟩
                obtain ⟨m, hm1⟩ : ∃ m, ns = m + 1 := ⟨ns - 1, by have := List.length_pos_iff.2 hsg; have := hsn.out; omega⟩
                subst hm1
                rw [← hsn.out] at s0 hsc1
                simp only [Nat.add_sub_cancel] at s0
                have e2 : Hid (sg = (lastSeg lg1).1) := hsg9.out
                rw [← e2.out] at s0
                have mci : (m : Int) + 1 ≤ (sc1 : Int) := by omega
                have q3 : (m : Int) < (m : Int) + 1 := by omega
                have m0 : (0 : Int) ≤ (m : Int) := by omega
                have q4 : IntKind.i64.wrap (m : Int) = (m : Int) := IntWalk.i64_in _ (by omega)
                replace hsg := Lib.hid hsg
                go_upto_region 14 with fail
                go_quiet (fail)
                go_wp2_with fail
                go_meet
                exact ⟨rfl, s.drewN _⟩
            case rest =>
              obtain ⟨rfl, s3⟩ := hcut
              clear s c0 c1 c2 c3 c4 c5 xlt
              have hNb := Lib.hid (rnb_any (n : Int) wc (by omega) (by omega))
              have hnl : (numB (n : Int)).length ≤ 10 := zig_len (by omega) (by omega)
              have hN := Lib.hid (fun W => rname_any p sg hp (by omega) W)
              obtain ⟨nm, hnm⟩ : ∃ nm, nm = nameN p sg := ⟨_, rfl⟩
              rw [← hnm] at hN
              obtain ⟨nb, hnb⟩ : ∃ nb, nb = numB (n : Int) := ⟨_, rfl⟩
              rw [← hnb] at hNb hnl
              replace hnb := Lib.hid hnb
              replace hnm := Lib.hid hnm
              go_wp2_with fail
              refine hNb.out.mono ?_
              rintro e' w1 ⟨a2, k2, G2, rfl, r2, hst⟩
              have s4 : Sp w0 K w1 [DH1, [(b, rlobj d p ea1 nl ec1 sa1 ns sc1 (lg1.synced + 1) lg1.dead)], S1, E1, rwH X1, G2] := s3.fresh hst
              clear hst hNb s3
              have hb2 := Lib.hid (hb _ _ s4)
              go_wp2_with (at_builtin; refine wpList_app rfl st_u8 _ _ rfl (by rfl) (by rfl) r2 (s4.own 5 rfl) (rdBytes_cells hb2.out) (by unfold maxLen; omega) (by omega) ?_; intro a3 k3 w3 H3 hv3 hst3; have s5 : Sp w0 K w3 [DH1, [(b, rlobj d p ea1 nl ec1 sa1 ns sc1 (lg1.synced + 1) lg1.dead)], S1, E1, rwH X1, H3] := s4.put 5 rfl hst3; clear hst3 s4 hb2 r2; have hv3 := Lib.hid hv3)
              have hv3 := hv3.out
              rw [← List.map_append, ← List.length_append] at hv3
              rw [← List.length_append]
              obtain ⟨rec, hrec⟩ : ∃ r, r = recN n e := ⟨_, rfl⟩
              have hrl : rec.length ≤ 65548 := by rw [hrec, recN, frN_len, ← hnb.out, List.length_append]; omega
              have hE := Lib.hid (rencode_any a3 (nb ++ e).length k3 (nb ++ e) w3 (hv3.rdBytes (s5.own 5 rfl)) (by rw [List.length_append]; omega))
              have hrec2 : frN (nb ++ e) = rec := by rw [hrec, hnb.out]; rfl
              rw [hrec2] at hE
              clear hv3
              replace hrec := Lib.hid hrec
              replace hrec2 := Lib.hid hrec2
              go_wp2_with fail
              refine hE.out.mono ?_
              rintro e' w4 ⟨a4, k4, G4, rfl, r4, hst⟩
              have s6 : Sp w0 K w4 [DH1, [(b, rlobj d p ea1 nl ec1 sa1 ns sc1 (lg1.synced + 1) lg1.dead)], S1, E1, rwH X1, H3, G4] := s5.fresh hst
              clear hst hE s5
              replace s6 := s6.forget 5 rfl
              have s6 : Sp w0 K w4 [DH1, [(b, rlobj d p ea1 nl ec1 sa1 ns sc1 (lg1.synced + 1) lg1.dead)], S1, E1, rwH X1, G4] := s6.perm (by simp)
              replace r4 := Lib.hid r4
              have herr := gwr_err nm rec k1
              have hput : putEN p fr e lg1 k1 = if (gateN [nm] (wrI nm rec) k1).1 ≠ 0 then (0, (gateN [nm] (wrI nm rec) k1).1, { lg1 with dead := decide ((gateN [nm] (wrI nm rec) k1).1 ≠ 6) }, (gateN [nm] (wrI nm rec) k1).2)
                  else (n, 0, { lg1 with L := lg1.L ++ [e], segs := if fr then lg1.segs ++ [(n, rec.length)] else lg1.segs.dropLast ++ [((lastSeg lg1).1, (lastSeg lg1).2 + rec.length)] }, (gateN [nm] (wrI nm rec) k1).2) := by
                unfold putEN
                have h1 := hnL.out
                rw [hnl3.out] at h1
                rw [hnm.out, hsg9.out, hrec.out, ← h1]
              have hW := Lib.hid (fun W (s : Sp w0 K W [DH1, [(b, rlobj d p ea1 nl ec1 sa1 ns sc1 (lg1.synced + 1) lg1.dead)], S1, E1, rwH X1, G4]) => rwrite d k1 DH1 nm a4 rec.length k4 rec W hd1 hk1 (s.own 0 rfl) (r4.out.rdBytes (s.own 5 rfl)) (fun hne x hx => by
                  obtain ⟨_, ⟨e0, e1, _⟩ | ⟨gg, cur, e2, e3, _⟩⟩ := r4.out
                  · rw [e0] at hx; cases hx
                  · rw [e2] at hx; cases hx
                    exact own_apart s gg (by rw [e3]; simp [dom])) (by omega))
              obtain ⟨⟨x1, k2⟩, hr2⟩ : ∃ r, r = gateN [nm] (wrI nm rec) k1 := ⟨_, rfl⟩
              rw [← hr2] at hW hput herr
              simp only at hput herr
              replace hput := Lib.hid hput
              replace hr2 := Lib.hid hr2
              go_upto_region 16 with fail
              refine Sp.gen s6 ?_
              clear s6
              intro W s
              replace s := s.drew
              refine wp_region_J 12 (fun w' => w'.cell? ⟨b, 0, none⟩ = some (pt d) ∧ w'.cell? ⟨b, 1, none⟩ = some (strV p)) (by kernel_rfl) ?_ (fun hF => ?_)
              · (try dsimp only)
                all_goals (exact ⟨(rlobj_cells (s.own 1 rfl)).1, (rlobj_cells (s.own 1 rfl)).2.1⟩)
              refine tk0 (i := 0) (oi := ⟨some 67, .move (.tmp 0), 31, "seglog.go:151", #[], none⟩) (v := ?_) rfl (by kernel_rfl) (fun _ _ _ h => h) (fun _ => hF) (fun w => ?_) (by rfl) ?_
              rotate_left
              · first | (go_simp; done) | (go_simp; with_reducible rfl) | (go_split_ands; go_simp; done)
              try simp only [Act.put, nrmA, nrmB, nrmC]
              refine tk0 (i := 1) (oi := ⟨some 68, .nilCheck (.tmp 67), 0, "seglog.go:151", #[⟨0, .data⟩], none⟩) (v := ?_) rfl (by kernel_rfl) (fun _ _ _ h => h) (fun _ => hF) (fun w => ?_) (by rfl) ?_
              rotate_left
              · first | (go_simp; done) | (go_simp; with_reducible rfl) | (go_split_ands; go_simp; done)
              try simp only [Act.put, nrmA, nrmB, nrmC]
              refine tk0 (i := 2) (oi := ⟨some 69, .fieldAddr 53 (.tmp 68) 0, 0, "seglog.go:151", #[⟨1, .data⟩], none⟩) (v := ?_) rfl (by kernel_rfl) (fun _ _ _ h => h) (fun _ => hF) (fun w => ?_) (by rfl) ?_
              rotate_left
              · first | (go_simp; done) | (go_simp; with_reducible rfl) | (go_split_ands; go_simp; done)
              try simp only [Act.put, nrmA, nrmB, nrmC]
              refine tk1 (i := 3) (oi := ⟨some 70, .load 29 (.tmp 69), 29, "seglog.go:151", #[⟨2, .data⟩], none⟩) (v := ?_) [12] rfl (by kernel_rfl) (fun _ _ _ h => h) hF (fun w hFw => ?_) (by rfl) ?_
              rotate_left
              · ((try dsimp only at hFw); first | (go_simp; done) | (go_simp; with_reducible rfl) | (go_split_ands; go_simp; done))
              try simp only [Act.put, nrmA, nrmB, nrmC]
              refine tk0 (i := 4) (oi := ⟨some 71, .move (.tmp 0), 31, "seglog.go:151", #[], none⟩) (v := ?_) rfl (by kernel_rfl) (fun _ _ _ h => h) (fun _ => hF) (fun w => ?_) (by rfl) ?_
              rotate_left
              · first | (go_simp; done) | (go_simp; with_reducible rfl) | (go_split_ands; go_simp; done)
              try simp only [Act.put, nrmA, nrmB, nrmC]
              refine tk0 (i := 5) (oi := ⟨some 72, .nilCheck (.tmp 71), 0, "seglog.go:151", #[⟨4, .data⟩], none⟩) (v := ?_) rfl (by kernel_rfl) (fun _ _ _ h => h) (fun _ => hF) (fun w => ?_) (by rfl) ?_
              rotate_left
              · first | (go_simp; done) | (go_simp; with_reducible rfl) | (go_split_ands; go_simp; done)
              try simp only [Act.put, nrmA, nrmB, nrmC]
              refine tk0 (i := 6) (oi := ⟨some 73, .fieldAddr 53 (.tmp 72) 1, 0, "seglog.go:151", #[⟨5, .data⟩], none⟩) (v := ?_) rfl (by kernel_rfl) (fun _ _ _ h => h) (fun _ => hF) (fun w => ?_) (by rfl) ?_
              rotate_left
              · first | (go_simp; done) | (go_simp; with_reducible rfl) | (go_split_ands; go_simp; done)
              try simp only [Act.put, nrmA, nrmB, nrmC]
              refine tk1 (i := 7) (oi := ⟨some 74, .load 9 (.tmp 73), 9, "seglog.go:151", #[⟨6, .data⟩], none⟩) (v := ?_) [12] rfl (by kernel_rfl) (fun _ _ _ h => h) hF (fun w hFw => ?_) (by rfl) ?_
              rotate_left
              · ((try dsimp only at hFw); first | (go_simp; done) | (go_simp; with_reducible rfl) | (go_split_ands; go_simp; done))
              try simp only [Act.put, nrmA, nrmB, nrmC]
              refine tk0 (i := 8) (oi := ⟨some 75, .move (.tmp 9), 3, "seglog.go:151", #[], none⟩) (v := ?_) rfl (by kernel_rfl) (fun _ _ _ h => h) (fun _ => hF) (fun w => ?_) (by rfl) ?_
              rotate_left
              · first | (go_simp; done) | (go_simp; with_reducible rfl) | (go_split_ands; go_simp; done)
              try simp only [Act.put, nrmA, nrmB, nrmC]
              refine tk0 (i := 10) (oi := ⟨some 77, .move (.tmp 10), 23, "seglog.go:151", #[], none⟩) (v := ?_) rfl (by kernel_rfl) (fun _ _ _ h => h) (fun _ => hF) (fun w => ?_) (by rfl) ?_
              rotate_left
              · first | (go_simp; done) | (go_simp; with_reducible rfl) | (go_split_ands; go_simp; done)
              try simp only [Act.put, nrmA, nrmB, nrmC]
              refine wpAnyJ_ready (rs := [9]) (by kernel_rfl) (by simp) ?_
              refine AllJ.cons1 (o := ⟨some 76, .call { callee := .value (.func 29), args := #[.tmp 74, .tmp 75], argTypes := #[9, 3] }, 9, "seglog.go:151", #[⟨7, .data⟩, ⟨8, .data⟩], none⟩) rfl (fun Kr hKr => ?_)
              go_simp; go_at_call 29; refine (hN.out _).mono ?_; rintro e' w5 ⟨rfl, hst⟩
              have s : Sp w0 K w5 [DH1, [(b, rlobj d p ea1 nl ec1 sa1 ns sc1 (lg1.synced + 1) lg1.dead)], S1, E1, rwH X1, G4] := s.still hst
              clear hst
              refine hKr.out _ _ (fun hJ => ?_) (fun hF => ?_)
              · first
                | exact absurd hJ (by decide)
                | (clear hJ; (try dsimp only); all_goals (exact ⟨(rlobj_cells (s.own 1 rfl)).1, (rlobj_cells (s.own 1 rfl)).2.1⟩))
              clear hKr
              try simp only [Act.put, nrmA, nrmB, nrmC]
              refine wpAnyJ_ready (rs := [11]) (by kernel_rfl) (by simp) ?_
              refine AllJ.cons1 (o := ⟨some 78, .call { callee := .value (.func 31), args := #[.tmp 70, .tmp 76, .tmp 77], argTypes := #[29, 9, 23] }, 3, "seglog.go:151", #[⟨3, .data⟩, ⟨9, .data⟩, ⟨10, .data⟩, ⟨9, .chain⟩], none⟩) rfl (fun Kr hKr => ?_)
              go_simp; go_at_call 31; refine (hW.out _ s).mono ?_; rintro e' w6 ⟨rfl, DH2, hd2, hst⟩
              have s : Sp w0 K w6 [DH2, [(b, rlobj d p ea1 nl ec1 sa1 ns sc1 (lg1.synced + 1) lg1.dead)], S1, E1, rwH X1, G4] := s.put 0 rfl hst
              clear hst
              refine hKr.out _ _ (fun hJ => ?_) (fun hF => ?_)
              · first
                | exact absurd hJ (by decide)
                | (clear hJ; (try dsimp only); all_goals (exact ⟨(rlobj_cells (s.own 1 rfl)).1, (rlobj_cells (s.own 1 rfl)).2.1⟩))
              clear hKr
              try simp only [Act.put, nrmA, nrmB, nrmC]
              refine wpAnyJ_ready (rs := [12]) (by kernel_rfl) (by simp) ?_
              refine AllJ.cons1 (o := ⟨some 12, .assign (.tmp 78), 3, "seglog.go:151", #[⟨11, .data⟩, ⟨11, .chain⟩, ⟨0, .phase⟩, ⟨1, .phase⟩, ⟨2, .phase⟩, ⟨3, .phase⟩, ⟨4, .phase⟩, ⟨5, .phase⟩, ⟨6, .phase⟩, ⟨7, .phase⟩, ⟨8, .phase⟩, ⟨9, .phase⟩, ⟨10, .phase⟩, ⟨11, .phase⟩], none⟩) rfl (fun Kr hKr => ?_)
              go_simp
              refine hKr.out _ _ (fun hJ => ?_) (fun hF => ?_)
              · first
                | exact absurd hJ (by decide)
                | (clear hJ; (try dsimp only); all_goals (exact ⟨(rlobj_cells (s.own 1 rfl)).1, (rlobj_cells (s.own 1 rfl)).2.1⟩))
              clear hKr
              try simp only [Act.put, nrmA, nrmB, nrmC]
              refine wpAnyJ_done (by kernel_rfl) ?_ _
              simp only at hd2 ⊢
              clear hW hN
              by_cases hx0 : x1 = 0
              · subst hx0
                obtain ⟨segs2, hsegs2⟩ : ∃ z, z = if fr then lg1.segs ++ [(n, rec.length)] else lg1.segs.dropLast ++ [((lastSeg lg1).1, (lastSeg lg1).2 + rec.length)] := ⟨_, rfl⟩
                have hfin : Hid (lappN p e lg k = (n, 0, { lg1 with L := lg1.L ++ [e], segs := segs2 }, k2)) := by show _ = _; rw [hee.out, hput.out, hsegs2]; rfl
                replace hsegs2 := Lib.hid hsegs2
                go_upto_if 84 with fail
                refine Sp.gen s ?_
                clear s
                intro W7 s7
                have s7 : Sp w0 K W7 [DH2, [(b, rlobj d p ea1 nl ec1 sa1 ns sc1 (lg1.synced + 1) lg1.dead)], S1, E1, rwH X1, G4] := s7
                go_cut [12] (fun _ wr => ∃ sa2 sc2 S2, SlRep 3 1 sa2 segs2.length sc2 (segs2.map fsC) S2 ∧ Sp w0 K wr [DH2, [(b, rlobj d p ea1 nl ec1 sa2 segs2.length sc2 (lg1.synced + 1) lg1.dead)], S2, E1, rwH X1])
                case first =>
                  cases fr with
                  | true =>
                    have hs1n : Hid (SlRep 3 1 sa1 ns sc1 (lg1.segs.map fsC) S1) := by rw [hsn.out]; exact hs1.out
                    have hnsm2 : ns ≤ 4398046511104 := by rw [hsn.out]; exact hl1.msegs
                    obtain ⟨c0, c1, c2, c3, c4, c5⟩ := rlobj_cells (s7.own 1 rfl)
                    have xlt := heap_lt (s7.own 1 rfl).h0
                    have s8 : Sp w0 K _ [DH2, [(b, rlobj d p ea1 nl ec1 sa1 ns sc1 (lg1.synced + 1) lg1.dead)], S1, E1, rwH X1, G4, [(W7.heap.size, .cells #[iv n] 3 (0, 0))]] := s7.alloc _
                    go_wp2_with (at_builtin; refine wpList_app rfl st_int _ _ rfl (by rfl) (by rfl) hs1n.out (s8.own 2 rfl) (rdCells_block (s8.own 6 rfl).h0 rfl (by simp [Value.oneCell'])) (by unfold maxLen; omega) (by omega) ?_; intro a9 c9 w9 H9 hv9 hst9; have s9 : Sp w0 K w9 [DH2, [(b, rlobj d p ea1 nl ec1 sa1 ns sc1 (lg1.synced + 1) lg1.dead)], H9, E1, rwH X1, G4, _] := s8.put 2 rfl hst9; clear hst9 s8 c0 c1 c2 c3 c4 c5; have c3 := (rlobj_cells (s9.own 1 rfl)).2.2.2.1; have b0 := heap_lt (s9.own 1 rfl).h0; have fz := fun i => frz_of (i := i) (s9.own 1 rfl).h0; replace hv9 := Lib.hid hv9)
                    go_meet
                    have e3 : segs2 = lg1.segs ++ [(n, rec.length)] := hsegs2.out
                    have e4 : segs2.length = ns + 1 := by rw [e3, List.length_append, ← hsn.out]; rfl
                    rw [e4, e3]
                    refine ⟨a9, c9, H9, ?_, ?_⟩
                    · rw [List.map_append]; exact hv9.out
                    · exact (((s9.store 1 rfl (j := 3) (.slice a9 (ns + 1) c9)).forget 5 rfl).forget 6 rfl).perm (by simp)
                  | false =>
                    have hsg := hne.out rfl
                    have e3 : segs2.map fsC = lg1.segs.map fsC ∧ segs2.length = ns := by
                      have e0 : segs2 = lg1.segs.dropLast ++ [((lastSeg lg1).1, (lastSeg lg1).2 + rec.length)] := hsegs2.out
                      rw [e0, hsn.out]
                      unfold lastSeg
                      obtain h0 | ⟨l', x, hx⟩ := List.eq_nil_or_concat lg1.segs
                      · exact absurd h0 hsg
                      · rw [hx]; simp [fsC]
                    replace hsg := Lib.hid hsg
                    replace e3 := Lib.hid e3
                    go_wp2_with fail
                    go_meet
                    refine ⟨sa1, sc1, S1, ?_, ?_⟩
                    · rw [e3.out.1, e3.out.2, hsn.out]; exact hs1.out
                    · rw [e3.out.2]; exact (s7.forget 5 rfl).perm (by simp)
                case rest =>
                  clear s7
                  obtain ⟨sa2, sc2, S2, hs2, s8⟩ := hcut
                  have hX1n : X1.length = nl := by rw [← rwD_len, hdX1.out, hnl3.out]
                  have hr1n : Hid (SlRep 23 1 ea1 nl ec1 (X1.map Rw.val) E1) := by rw [← hX1n]; exact hr1.out.1
                  replace hs2 := Lib.hid hs2
                  replace hX1n := Lib.hid hX1n
                  go_upto_region 21 with fail
                  replace s8 := s8.drew
                  refine wp_region_J 12 (fun w' => w'.cell? ⟨b, 2, none⟩ = some (.slice ea1 nl ec1)) (by kernel_rfl) ?_ (fun hF => ?_)
                  · (try dsimp only)
                    all_goals (exact (rlobj_cells (s8.own 1 rfl)).2.2.1)
                  refine tk0 (i := 0) (oi := ⟨some 95, .move (.tmp 0), 31, "seglog.go:158", #[], none⟩) (v := ?_) rfl (by kernel_rfl) (fun _ _ _ h => h) (fun _ => hF) (fun w => ?_) (by rfl) ?_
                  rotate_left
                  · first | (go_simp; done) | (go_simp; with_reducible rfl) | (go_split_ands; go_simp; done)
                  try simp only [Act.put, nrmA, nrmB, nrmC]
                  refine tk0 (i := 1) (oi := ⟨some 96, .move (.tmp 0), 31, "seglog.go:158", #[], none⟩) (v := ?_) rfl (by kernel_rfl) (fun _ _ _ h => h) (fun _ => hF) (fun w => ?_) (by rfl) ?_
                  rotate_left
                  · first | (go_simp; done) | (go_simp; with_reducible rfl) | (go_split_ands; go_simp; done)
                  try simp only [Act.put, nrmA, nrmB, nrmC]
                  refine tk0 (i := 2) (oi := ⟨some 97, .nilCheck (.tmp 96), 0, "seglog.go:158", #[⟨1, .data⟩], none⟩) (v := ?_) rfl (by kernel_rfl) (fun _ _ _ h => h) (fun _ => hF) (fun w => ?_) (by rfl) ?_
                  rotate_left
                  · first | (go_simp; done) | (go_simp; with_reducible rfl) | (go_split_ands; go_simp; done)
                  try simp only [Act.put, nrmA, nrmB, nrmC]
                  refine tk0 (i := 3) (oi := ⟨some 98, .fieldAddr 53 (.tmp 97) 2, 0, "seglog.go:158", #[⟨2, .data⟩], none⟩) (v := ?_) rfl (by kernel_rfl) (fun _ _ _ h => h) (fun _ => hF) (fun w => ?_) (by rfl) ?_
                  rotate_left
                  · first | (go_simp; done) | (go_simp; with_reducible rfl) | (go_split_ands; go_simp; done)
                  try simp only [Act.put, nrmA, nrmB, nrmC]
                  refine tk1 (i := 4) (oi := ⟨some 99, .load 22 (.tmp 98), 22, "seglog.go:158", #[⟨3, .data⟩], none⟩) (v := ?_) [12] rfl (by kernel_rfl) (fun _ _ _ h => h) hF (fun w hFw => ?_) (by rfl) ?_
                  rotate_left
                  · ((try dsimp only at hFw); first | (go_simp; done) | (go_simp; with_reducible rfl) | (go_split_ands; go_simp; done))
                  try simp only [Act.put, nrmA, nrmB, nrmC]
                  refine tk0 (i := 6) (oi := ⟨some 101, .move (.tmp 1), 23, "seglog.go:158", #[], none⟩) (v := ?_) rfl (by kernel_rfl) (fun _ _ _ h => h) (fun _ => hF) (fun w => ?_) (by rfl) ?_
                  rotate_left
                  · first | (go_simp; done) | (go_simp; with_reducible rfl) | (go_split_ands; go_simp; done)
                  try simp only [Act.put, nrmA, nrmB, nrmC]
                  refine wpAnyJ_ready (rs := [5]) (by kernel_rfl) (by simp) ?_
                  refine AllJ.cons1 (o := ⟨some 100, .buildSlice 23 0 #[], 23, "seglog.go:158", #[], none⟩) rfl (fun Kr hKr => ?_)
                  go_simp
                  have s8 : Sp w0 K _ [DH2, [(b, rlobj d p ea1 nl ec1 sa2 segs2.length sc2 (lg1.synced + 1) lg1.dead)], S2, E1, rwH X1, [(_, .cells #[] 5 (0, 0))]] := s8.alloc _
                  refine hKr.out _ _ (fun hJ => ?_) (fun hF => ?_)
                  · first
                    | exact absurd hJ (by decide)
                    | (clear hJ; (try dsimp only); all_goals (exact (rlobj_cells (s8.own 1 rfl)).2.2.1))
                  clear hKr
                  try simp only [Act.put, nrmA, nrmB, nrmC]
                  refine wpAnyJ_ready (rs := [7]) (by kernel_rfl) (by simp) ?_
                  refine AllJ.cons1 (o := ⟨some 102, .call { callee := .builtin .append, args := #[.tmp 100, .tmp 101], argTypes := #[23, 23] }, 23, "seglog.go:158", #[⟨5, .data⟩, ⟨6, .data⟩], none⟩) rfl (fun Kr hKr => ?_)
                  refine step_app rfl st_u8 _ _ (by rfl) (by rfl) (by rfl) (SlRep.made _ _ _) (s8.own 5 rfl) (rdBytes_cells (hb _ _ s8)) (by unfold maxLen; omega) (by omega) ?_
                  intro ar cr w9 Gr rrr hst9
                  have s8 : Sp w0 K w9 [DH2, [(b, rlobj d p ea1 nl ec1 sa2 segs2.length sc2 (lg1.synced + 1) lg1.dead)], S2, E1, rwH X1, Gr] := s8.put 5 rfl hst9
                  clear hst9
                  rw [Nat.zero_add, List.nil_append] at rrr
                  refine hKr.out _ _ (fun hJ => ?_) (fun hF => ?_)
                  · first
                    | exact absurd hJ (by decide)
                    | (clear hJ; (try dsimp only); all_goals (exact (rlobj_cells (s8.own 1 rfl)).2.2.1))
                  clear hKr
                  try simp only [Act.put, nrmA, nrmB, nrmC]
                  refine wpAnyJ_ready (rs := [8]) (by kernel_rfl) (by simp) ?_
                  refine AllJ.cons1 (o := ⟨some 103, .buildSlice 22 1 #[(0, .tmp 102)], 22, "seglog.go:158", #[⟨7, .data⟩], none⟩) rfl (fun Kr hKr => ?_)
                  go_simp
                  have s8 : Sp w0 K _ [DH2, [(b, rlobj d p ea1 nl ec1 sa2 segs2.length sc2 (lg1.synced + 1) lg1.dead)], S2, E1, rwH X1, Gr, [(w9.heap.size, .cells #[.slice ar e.length cr] 23 (0, 0))]] := s8.alloc _
                  refine hKr.out _ _ (fun hJ => ?_) (fun hF => ?_)
                  · first
                    | exact absurd hJ (by decide)
                    | (clear hJ; (try dsimp only); all_goals (exact (rlobj_cells (s8.own 1 rfl)).2.2.1))
                  clear hKr
                  try simp only [Act.put, nrmA, nrmB, nrmC]
                  refine wpAnyJ_ready (rs := [9]) (by kernel_rfl) (by simp) ?_
                  refine AllJ.cons1 (o := ⟨some 104, .call { callee := .builtin .append, args := #[.tmp 99, .tmp 103], argTypes := #[22, 22] }, 22, "seglog.go:158", #[⟨4, .data⟩, ⟨8, .data⟩, ⟨7, .chain⟩], none⟩) rfl (fun Kr hKr => ?_)
                  refine step_app rfl st_rows _ _ (by rfl) (by rfl) (by rfl) hr1n.out (s8.own 3 rfl) (rdCells_block (s8.own 6 rfl).h0 rfl (by simp [Value.oneCell'])) (by unfold maxLen; omega) (by omega) ?_
                  intro a9 c9 w10 H9 hv9 hst9
                  have s8 : Sp w0 K w10 [DH2, [(b, rlobj d p ea1 nl ec1 sa2 segs2.length sc2 (lg1.synced + 1) lg1.dead)], S2, H9, rwH X1, Gr, _] := s8.put 3 rfl hst9
                  clear hst9
                  have b0 := heap_lt (s8.own 1 rfl).h0
                  have fz := fun i => frz_of (i := i) (s8.own 1 rfl).h0
                  have c2 := (rlobj_cells (s8.own 1 rfl)).2.2.1
                  refine hKr.out _ _ (fun hJ => ?_) (fun hF => ?_)
                  · first
                    | exact absurd hJ (by decide)
                    | (clear hJ; (try dsimp only); all_goals (exact (rlobj_cells (s8.own 1 rfl)).2.2.1))
                  clear hKr
                  try simp only [Act.put, nrmA, nrmB, nrmC]
                  refine tk0 (i := 10) (oi := ⟨some 105, .nilCheck (.tmp 95), 0, "seglog.go:158", #[⟨0, .data⟩, ⟨0, .phase⟩, ⟨1, .phase⟩, ⟨2, .phase⟩, ⟨3, .phase⟩, ⟨4, .phase⟩, ⟨5, .phase⟩, ⟨6, .phase⟩, ⟨7, .phase⟩, ⟨8, .phase⟩, ⟨9, .phase⟩], none⟩) (v := ?_) rfl (by kernel_rfl) (fun _ _ _ h => h) (fun _ => hF (by kernel_rfl)) (fun w => ?_) (by rfl) ?_
                  rotate_left
                  · first | (go_simp; done) | (go_simp; with_reducible rfl) | (go_split_ands; go_simp; done)
                  try simp only [Act.put, nrmA, nrmB, nrmC]
                  refine tk0 (i := 11) (oi := ⟨some 106, .fieldAddr 53 (.tmp 105) 2, 0, "seglog.go:158", #[⟨10, .data⟩, ⟨0, .phase⟩, ⟨1, .phase⟩, ⟨2, .phase⟩, ⟨3, .phase⟩, ⟨4, .phase⟩, ⟨5, .phase⟩, ⟨6, .phase⟩, ⟨7, .phase⟩, ⟨8, .phase⟩, ⟨9, .phase⟩], none⟩) (v := ?_) rfl (by kernel_rfl) (fun _ _ _ h => h) (fun _ => hF (by kernel_rfl)) (fun w => ?_) (by rfl) ?_
                  rotate_left
                  · first | (go_simp; done) | (go_simp; with_reducible rfl) | (go_split_ands; go_simp; done)
                  try simp only [Act.put, nrmA, nrmB, nrmC]
                  refine wpAnyJ_ready (rs := [12]) (by kernel_rfl) (by simp) ?_
                  refine AllJ.cons1 (o := ⟨none, .store 22 (.tmp 106) (.tmp 104), 0, "seglog.go:158", #[⟨11, .data⟩, ⟨9, .data⟩, ⟨9, .chain⟩, ⟨0, .phase⟩, ⟨1, .phase⟩, ⟨2, .phase⟩, ⟨3, .phase⟩, ⟨4, .phase⟩, ⟨5, .phase⟩, ⟨6, .phase⟩, ⟨7, .phase⟩, ⟨8, .phase⟩, ⟨9, .phase⟩], none⟩) rfl (fun Kr hKr => ?_)
                  go_simp
                  have s9 := s8.store 1 rfl (j := 2) (.slice a9 (nl + 1) c9)
                  refine hKr.out _ _ (fun hJ => ?_) (fun hF => ?_)
                  · first
                    | exact absurd hJ (by decide)
                    | (clear hJ; (try dsimp only); all_goals (exact (rlobj_cells (s8.own 1 rfl)).2.2.1))
                  clear hKr
                  try simp only [Act.put, nrmA, nrmB, nrmC]
                  refine wpAnyJ_done (by kernel_rfl) ?_ _
                  replace hv9 := Lib.hid hv9
                  replace rrr := Lib.hid rrr
                  clear c2 fz b0 s8
                  go_wp2_with fail
                  go_ret2
                  rw [hfin.out]
                  refine ⟨rfl, DH2, _, S2, H9, rwH (X1 ++ [⟨ar, cr, e, Gr⟩]), hd2, ⟨sa2, a9, sc2, c9, X1 ++ [⟨ar, cr, e, Gr⟩], hs2.out, rowsRep_snoc (x := ⟨ar, cr, e, Gr⟩) hv9.out (by rw [hX1n.out]) hr1.out.2 rrr.out, ?_, rfl, rfl⟩, ?_⟩
                  · rw [rwD_snoc, hdX1.out]
                  · have e7 : (lg1.L ++ [e]).length = nl + 1 := by rw [List.length_append, hnl3.out]; rfl
                    simp only [e7, rwH_snoc]
                    have s10 : Sp w0 K _ [DH2, [(b, rlobj d p a9 (nl + 1) c9 sa2 segs2.length sc2 (lg1.synced + 1) lg1.dead)], S2, H9, rwH X1, Gr] := (s9.forget 6 rfl).perm (by simp)
                    exact s10.perm (Gs := [DH2, [(b, rlobj d p a9 (nl + 1) c9 sa2 segs2.length sc2 (lg1.synced + 1) lg1.dead)], S2, H9, rwH X1 ++ Gr]) (by simp)
              · have q5 : ((x1 : Int) != 0) = true := by rw [bne_iff_ne]; omega
                have hfin : Hid (lappN p e lg k = (0, x1, { lg1 with dead := decide (x1 ≠ 6) }, k2)) := by show _ = _; rw [hee.out, hput.out]; exact if_pos hx0
                have hfl := Lib.hid (fun W s => rfail_any b d x1 p ea1 sa1 nl ec1 ns sc1 (lg1.synced + 1) lg1.dead DH2 [S1, E1, rwH X1, G4] w0 W K s (by omega))
                replace hx0 := Lib.hid hx0
                go_wp2_with fail
                refine (hfl.out _ s).mono ?_
                rintro e' w7 ⟨rfl, s7⟩
                go_wp2_with fail
                go_ret2
                rw [hfin.out]
                rw [hdead1.out, Bool.false_or] at s7
                have s9 : Sp w0 K w7 [DH2, [(b, rlobj d p ea1 nl ec1 sa1 ns sc1 (lg1.synced + 1) (decide (x1 ≠ 6)))], S1, E1, rwH X1] := (s7.forget 5 rfl).perm (by simp)
                refine ⟨rfl, DH2, _, S1, E1, _, hd2, ⟨sa1, ea1, sc1, ec1, X1, hs1.out, hr1.out, hdX1.out, rfl, ?_⟩, s9⟩
                have h1 := hsn.out
                have h2 := hnl3.out
                simp only [← h1, ← h2]
end Go.Proofs.YtdolbeonpkanpaaGreatDoor
