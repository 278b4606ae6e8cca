/- The reference's log: how it lies; Entry. The reference's log: Sync. -/
import Derived.Test.YtdolbeonpkanpaaGreatDoorDrH
import Derived.Test.YtdolbeonpkanpaaGreatDoorDrI
import Derived.Test.YtdolbeonpkanpaaGreatDoorMSgA
import Derived.Test.YtdolbeonpkanpaaGreatDoorMSgG
set_option linter.unusedVariables false
set_option linter.unusedSimpArgs false
namespace Go.Proofs.YtdolbeonpkanpaaGreatDoor
open Go.RowKit
attribute [local go_sem ↓] Go.wp_at_zero Go.wp_at_succ

abbrev rlobj (d : Nat) (p : Nm) (ea : Option Addr) (ne ec : Nat) (sa : Option Addr) (ns sc su : Nat) (dead : Bool) : Obj := .cells #[pt d, strV p, .slice ea ne ec, .slice sa ns sc, iv su, .bool dead] 53 (0, 0)
theorem rlobj_cells {w : World} {b d : Nat} {p : Nm} {sa ea : Option Addr} {ns sc ne ec su : Nat} {dead : Bool} (h : Own w [(b, rlobj d p ea ne ec sa ns sc su dead)]) :
    w.cell? ⟨b, 0, none⟩ = some (pt d) ∧ w.cell? ⟨b, 1, none⟩ = some (strV p) ∧ w.cell? ⟨b, 2, none⟩ = some (.slice ea ne ec) ∧ w.cell? ⟨b, 3, none⟩ = some (.slice sa ns sc) ∧ w.cell? ⟨b, 4, none⟩ = some (iv su) ∧ w.cell? ⟨b, 5, none⟩ = some (.bool dead) := by
  have h0 := h.h0
  exact ⟨cell_of h0 rfl, cell_of h0 rfl, cell_of h0 rfl, cell_of h0 rfl, cell_of h0 rfl, cell_of h0 rfl⟩
def fsC (g : Nat × Nat) : Value := iv g.1
theorem st_int : SlTy Tryz.prog 51 3 1 8 (.int .i64 0) := ⟨by kernel_rfl, by kernel_rfl, rfl, by decide⟩
/-- The reference's log at b, over the disk at d. -/
def RlIs (b d : Nat) (p : Nm) (lg : Lg) (B S E XH : Heaplet) : Prop :=
  ∃ (sa ea : Option Addr) (sc ec : Nat) (X : List Rw), SlRep 3 1 sa lg.segs.length sc (lg.segs.map fsC) S ∧ RowsRep ea ec X E ∧ rwD X = lg.L ∧ XH = rwH X ∧ B = [(b, rlobj d p ea lg.L.length ec sa lg.segs.length sc (lg.synced + 1) lg.dead)]
set_option maxRecDepth 100000 in
theorem rentry_any (b d : Nat) (p : Nm) (lg : Lg) (n : Int) (B S E XH : Heaplet) (w w0 : World) (K : Heaplet) (h : RlIs b d p lg B S E XH) (D : Heaplet) (s : Sp w0 K w [D, B, S, E, XH]) (hk : lg.Ok) :
    Calls Tryz.prog 66 #[pt b, ii n] w (RdPost (entN lg n).1 (entN lg n).2 w) := by
  obtain ⟨sa, ea, sc, ec, X, hs, hr, hd, rfl, rfl⟩ := h
  obtain ⟨c0, c1, c2, c3, c4, c5⟩ := rlobj_cells (s.own 1 rfl)
  have b1 : (lg.L.length : Int) ≤ 4398046511104 := by have := hk.many; omega
  by_cases h1 : n < 1
  · have e1 : entN lg n = ([], 7) := if_pos (.inl h1)
    rw [e1]
    go_enter Tryz.func66, Tryz.ntmps66
    go_wp2_with fail
    go_ret2
    exact ⟨none, 0, [], rfl, SlRep.nil _ _, Step.refl (Own.nil w)⟩
  · by_cases h2 : (lg.L.length : Int) < n
    · have e1 : entN lg n = ([], 7) := if_pos (.inr h2)
      rw [e1]
      have h3 : (1 : Int) ≤ n := by omega
      go_enter Tryz.func66, Tryz.ntmps66
      go_wp2_with fail
      go_ret2
      exact ⟨none, 0, [], rfl, SlRep.nil _ _, Step.refl (Own.nil w)⟩
    · obtain ⟨i, hi⟩ : ∃ i : Nat, n = ((i + 1 : Nat) : Int) := ⟨n.toNat - 1, by omega⟩
      subst hi
      have hlen : X.length = lg.L.length := by rw [← hd, rwD_len]
      have hil : i < X.length := by omega
      obtain ⟨x, hx⟩ : ∃ x, X[i]? = some x := ⟨_, List.getElem?_eq_getElem hil⟩
      obtain ⟨g, rfl, hcx, hec⟩ := rows_at hr (s.own 3 rfl) hx
      have hrd := Lib.hid (fun V G (st : Step w [] V G) => rw_bytes hx hr.2 ((s.own 4 rfl).after st))
      have hxl : x.d ∈ lg.L := by rw [← hd]; exact List.mem_map.2 ⟨x, List.mem_of_getElem? hx, rfl⟩
      have hxn : x.d.length ≤ 1073741824 := hk.ents _ hxl
      have e1 : Hid (entN lg ((i + 1 : Nat) : Int) = (x.d, 0)) := by
        show _ = _
        unfold entN
        rw [if_neg (by omega)]
        congr 1
        have e2 : ((i + 1 : Nat) : Int).toNat - 1 = i := by omega
        rw [e2, ← hd]
        unfold rwD
        rw [List.getD_eq_getElem?_getD, List.getElem?_map, hx]
        rfl
      have d1 : (1 : Int) ≤ ((i + 1 : Nat) : Int) := by omega
      have d2 : ((i + 1 : Nat) : Int) ≤ (lg.L.length : Int) := by omega
      have d3 : ((i + 1 : Nat) : Int) - 1 = (i : Int) := by omega
      have d4 : (i : Int) < (lg.L.length : Int) := by omega
      have d5 : (0 : Int) ≤ (i : Int) := by omega
      have glt := World.block_lt_of_cell? w _ hcx
      have blt := heap_lt (s.own 1 rfl).h0
      rw [e1.out]
      clear h1 h2 hx hxl hil hlen hr
      have s1 := (Sp.nil w).alloc (.cells #[] 5 (0, 0))
      go_enter Tryz.func66, Tryz.ntmps66
      go_wp2_with (at_builtin; refine wpList_app rfl st_u8 _ _ rfl (by rfl) (by rfl) (SlRep.made _ _ _) (s1.own 0 rfl) (rdBytes_cells (hrd.out _ _ s1.first)) (by unfold maxLen; omega) (by omega) ?_; intro a3 k3 w3 H3 hv3 hst3; have s5 : Sp w [] w3 [H3] := s1.put 0 rfl hst3; clear hst3; have hv3 := Lib.hid hv3)
      go_ret2
      exact ⟨a3, k3, H3, rfl, by have := hv3.out; rwa [Nat.zero_add, List.nil_append] at this, s5.first⟩
end Go.Proofs.YtdolbeonpkanpaaGreatDoor
namespace Go.Proofs.YtdolbeonpkanpaaGreatDoor
open Go.RowKit
attribute [local go_sem ↓] Go.wp_at_zero Go.wp_at_succ

theorem fs_at {segs : List (Nat × Nat)} {a : Option Addr} {n c : Nat} {S : Heaplet} (h : SlRep 3 1 a n c (segs.map fsC) S) {w : World} (hw : Own w S) {i : Nat} {g : Nat × Nat} (hi : segs[i]? = some g) :
    ∃ q, a = some ⟨q, 0, none⟩ ∧ w.cell? ⟨q, i, none⟩ = some (iv g.1) := by
  obtain ⟨q, e, h1, _⟩ := slRep_at h hw (i := i) (v := fsC g) (by rw [List.getElem?_map, hi]; rfl)
  rw [Nat.zero_add] at h1
  exact ⟨q, e, h1⟩
def RLPost (b d : Nat) (p : Nm) (r : Nat × Lg × Dk) (w0 : World) (K : Heaplet) (e : Ending) (w' : World) : Prop :=
  e = .returned (iv r.1) ∧ ∃ DH B S E XH, RkRep d r.2.2 DH ∧ RlIs b d p r.2.1 B S E XH ∧ Sp w0 K w' [DH, B, S, E, XH]
set_option maxHeartbeats 1000000 in
set_option maxRecDepth 100000 in
theorem rlsync_any (b d : Nat) (p : Nm) (lg : Lg) (k : Dk) (DH B S E XH : Heaplet) (w0 w : World) (K : Heaplet) (hd : RkRep d k DH) (hk : k.Ok) (h : RlIs b d p lg B S E XH) (s : Sp w0 K w [DH, B, S, E, XH]) (hl : lg.Ok) (hp : p.length ≤ 1000) :
    Calls Tryz.prog 17 #[pt b] w (RLPost b d p (lsyncN p lg k) w0 K) := by
  have hh := Lib.hid h
  obtain ⟨sa, ea, sc, ec, X, hs, hr, hdX, rfl, rfl⟩ := h
  obtain ⟨c0, c1, c2, c3, c4, c5⟩ := rlobj_cells (s.own 1 rfl)
  have xlt := heap_lt (s.own 1 rfl).h0
  have b1 : (lg.L.length : Int) ≤ 4398046511104 := by have := hl.many; omega
  by_cases hdead : lg.dead = true
  · have e1 : lsyncN p lg k = (9, lg, k) := by unfold lsyncN; rw [if_pos hdead]
    rw [e1]
    rw [hdead] at c5
    replace hdead := Lib.hid hdead
    go_enter Tryz.func17, Tryz.ntmps17
    go_wp2_with fail
    go_ret
    exact ⟨rfl, DH, _, S, E, _, hd, hh.out, s⟩
  · have hdf : lg.dead = false := by simpa using hdead
    rw [hdf] at c5
    have q0 : IntKind.i64.wrap ((lg.L.length : Int) + 1) = (lg.L.length : Int) + 1 := IntWalk.i64_in _ (by omega)
    by_cases hsy : lg.synced = lg.L.length
    · have e1 : lsyncN p lg k = (0, lg, k) := by unfold lsyncN; rw [if_neg hdead, if_pos hsy]
      rw [e1]
      have q1 : ((lg.synced : Int) == (lg.L.length : Int)) = true := beq_iff_eq.2 (by omega)
      have q2 : ((lg.synced : Int) + 1 == (lg.L.length : Int) + 1) = true := beq_iff_eq.2 (by omega)
      replace hsy := Lib.hid hsy
      replace hdf := Lib.hid hdf
      clear hdead
      go_enter Tryz.func17, Tryz.ntmps17
      go_upto_region 3 with fail
      go_quiet (fail)
      go_wp2_with fail
      go_ret
      exact ⟨rfl, DH, _, S, E, _, hd, hh.out, s.drewN _⟩
    · have q1 : ((lg.synced : Int) == (lg.L.length : Int)) = false := beq_eq_false_iff_ne.2 (by omega)
      have q2 : ((lg.synced : Int) + 1 == (lg.L.length : Int) + 1) = false := beq_eq_false_iff_ne.2 (by omega)
      have hne : lg.segs ≠ [] := fun e => by
        have := hl.segs e
        have h2 := hl.sync
        rw [this] at hsy h2
        simp at hsy h2
        omega
      obtain ⟨r, hr0⟩ : ∃ r, r = gateN [nameN p (lastSeg lg).1] (syI (nameN p (lastSeg lg).1)) k := ⟨_, rfl⟩
      have herr := gsy_err (nameN p (lastSeg lg).1) k
      rw [← hr0] at herr
      have e1 : Hid (lsyncN p lg k = if r.1 ≠ 0 then (r.1, { lg with dead := true }, r.2) else (0, { lg with synced := lg.L.length }, r.2)) := by
        show _ = _
        unfold lsyncN
        rw [if_neg hdead, if_neg hsy, ← hr0]
      have hds := Lib.hid (fun W hW => rsync d k DH (nameN p (lastSeg lg).1) W hd hk hW)
      have hfb : (lastSeg lg).1 ≤ 4398046511105 := by
        have h1 := (hl.bytes _ (List.mem_of_getElem? (last_at hne))).2
        have h2 := hl.many
        omega
      have hnmc := Lib.hid (fun W => rname_any p (lastSeg lg).1 hp (by omega) W)
      rw [← hr0] at hds
      replace hr0 := Lib.hid hr0
      obtain ⟨q, rfl, s0⟩ := fs_at hs (s.own 2 rfl) (last_at hne)
      obtain ⟨hsc1, hsc2⟩ : lg.segs.length ≤ sc ∧ sc ≤ maxLen := by
        obtain ⟨_, ⟨e0, _⟩ | ⟨_, _, _, _, hsc1, hsc2, _⟩⟩ := hs
        · cases e0
        · exact ⟨hsc1, hsc2⟩
      obtain ⟨m, hm⟩ : ∃ m, lg.segs.length = m + 1 := ⟨lg.segs.length - 1, by have := List.length_pos_iff.2 hne; omega⟩
      rw [hm] at s0 hsc1
      have hmm : (m : Int) ≤ 4398046511104 := by have := hl.msegs; omega
      simp only [Nat.add_sub_cancel] at s0
      have hc3 : Hid (∀ V, Own V S → V.cell? ⟨q, m, none⟩ = some (iv (lastSeg lg).1)) := fun V o => by
        obtain ⟨q', e, z⟩ := fs_at hs o (last_at hne)
        cases e
        rw [hm] at z
        exact z
      replace hr := Lib.hid hr
      replace hs := Lib.hid hs
      replace hdX := Lib.hid hdX
      clear hdead hsy s0
      replace hne := Lib.hid hne
      replace hdf := Lib.hid hdf
      obtain ⟨nm, hnm⟩ : ∃ nm, nm = nameN p (lastSeg lg).1 := ⟨_, rfl⟩
      rw [← hnm] at hds hnmc
      replace hnm := Lib.hid hnm
      obtain ⟨fi, hfi⟩ : ∃ fi, fi = (lastSeg lg).1 := ⟨_, rfl⟩
      rw [← hfi] at hnmc hc3 hfb
      replace hfi := Lib.hid hfi
      obtain ⟨n, hn⟩ : ∃ n, n = lg.L.length := ⟨_, rfl⟩
      obtain ⟨ns, hns⟩ : ∃ ns, ns = lg.segs.length := ⟨_, rfl⟩
      rw [← hn] at c2 q1 q2 q0 b1 s
      rw [← hns] at c3 s hm
      obtain ⟨sy, hsy⟩ : ∃ sy, sy = lg.synced := ⟨_, rfl⟩
      rw [← hsy] at c4 q1 q2 s
      replace hn := Lib.hid hn
      replace hns := Lib.hid hns
      replace hsy := Lib.hid hsy
      subst hm
      have mci : (m : Int) + 1 ≤ (sc : Int) := by omega
      have q3 : (m : Int) < (m : Int) + 1 := by omega
      have q4 : IntKind.i64.wrap (m : Int) = (m : Int) := IntWalk.i64_in _ (by omega)
      go_enter Tryz.func17, Tryz.ntmps17
      go_upto_region 3 with fail
      go_quiet (fail)
      go_upto_region 5 with fail
      refine Sp.gen (s.drewN _) ?_
      clear c0 c1 c2 c3 c4 c5 s
      intro W s
      replace s := s.drew
      refine wp_region_J 22 (fun w' => w'.cell? ⟨b, 0, none⟩ = some (pt d) ∧ w'.cell? ⟨b, 1, none⟩ = some (strV p) ∧ w'.cell? ⟨b, 3, none⟩ = some (.slice (some ⟨q, 0, none⟩) (m + 1) sc) ∧ w'.cell? ⟨q, m, none⟩ = some (iv fi)) (by kernel_rfl) ?_ (fun hF => ?_)
      · (try dsimp only)
        all_goals (exact ⟨(rlobj_cells (s.own 1 rfl)).1, (rlobj_cells (s.own 1 rfl)).2.1, (rlobj_cells (s.own 1 rfl)).2.2.2.1, hc3.out _ (s.own 2 rfl)⟩)
      refine tk0 (i := 0) (oi := ⟨some 19, .move (.tmp 0), 31, "seglog.go:170", #[], none⟩) (v := ?_) rfl (by kernel_rfl) (fun _ _ _ h => h) (fun _ => hF) (fun w => ?_) (by rfl) ?_
      rotate_left
      · first | (go_simp; done) | (go_simp; with_reducible rfl) | (go_split_ands; go_simp; done)
      try simp only [Act.put, nrmA, nrmB, nrmC]
      refine tk0 (i := 1) (oi := ⟨some 20, .nilCheck (.tmp 19), 0, "seglog.go:170", #[⟨0, .data⟩], none⟩) (v := ?_) rfl (by kernel_rfl) (fun _ _ _ h => h) (fun _ => hF) (fun w => ?_) (by rfl) ?_
      rotate_left
      · first | (go_simp; done) | (go_simp; with_reducible rfl) | (go_split_ands; go_simp; done)
      try simp only [Act.put, nrmA, nrmB, nrmC]
      refine tk0 (i := 2) (oi := ⟨some 21, .fieldAddr 53 (.tmp 20) 0, 0, "seglog.go:170", #[⟨1, .data⟩], none⟩) (v := ?_) rfl (by kernel_rfl) (fun _ _ _ h => h) (fun _ => hF) (fun w => ?_) (by rfl) ?_
      rotate_left
      · first | (go_simp; done) | (go_simp; with_reducible rfl) | (go_split_ands; go_simp; done)
      try simp only [Act.put, nrmA, nrmB, nrmC]
      refine tk1 (i := 3) (oi := ⟨some 22, .load 29 (.tmp 21), 29, "seglog.go:170", #[⟨2, .data⟩], none⟩) (v := ?_) [22] rfl (by kernel_rfl) (fun _ _ _ h => h) hF (fun w hFw => ?_) (by rfl) ?_
      rotate_left
      · ((try dsimp only at hFw); first | (go_simp; done) | (go_simp; with_reducible rfl) | (go_split_ands; go_simp; done))
      try simp only [Act.put, nrmA, nrmB, nrmC]
      refine tk0 (i := 4) (oi := ⟨some 23, .move (.tmp 0), 31, "seglog.go:170", #[], none⟩) (v := ?_) rfl (by kernel_rfl) (fun _ _ _ h => h) (fun _ => hF) (fun w => ?_) (by rfl) ?_
      rotate_left
      · first | (go_simp; done) | (go_simp; with_reducible rfl) | (go_split_ands; go_simp; done)
      try simp only [Act.put, nrmA, nrmB, nrmC]
      refine tk0 (i := 5) (oi := ⟨some 24, .nilCheck (.tmp 23), 0, "seglog.go:170", #[⟨4, .data⟩], none⟩) (v := ?_) rfl (by kernel_rfl) (fun _ _ _ h => h) (fun _ => hF) (fun w => ?_) (by rfl) ?_
      rotate_left
      · first | (go_simp; done) | (go_simp; with_reducible rfl) | (go_split_ands; go_simp; done)
      try simp only [Act.put, nrmA, nrmB, nrmC]
      refine tk0 (i := 6) (oi := ⟨some 25, .fieldAddr 53 (.tmp 24) 1, 0, "seglog.go:170", #[⟨5, .data⟩], none⟩) (v := ?_) rfl (by kernel_rfl) (fun _ _ _ h => h) (fun _ => hF) (fun w => ?_) (by rfl) ?_
      rotate_left
      · first | (go_simp; done) | (go_simp; with_reducible rfl) | (go_split_ands; go_simp; done)
      try simp only [Act.put, nrmA, nrmB, nrmC]
      refine tk1 (i := 7) (oi := ⟨some 26, .load 9 (.tmp 25), 9, "seglog.go:170", #[⟨6, .data⟩], none⟩) (v := ?_) [22] rfl (by kernel_rfl) (fun _ _ _ h => h) hF (fun w hFw => ?_) (by rfl) ?_
      rotate_left
      · ((try dsimp only at hFw); first | (go_simp; done) | (go_simp; with_reducible rfl) | (go_split_ands; go_simp; done))
      try simp only [Act.put, nrmA, nrmB, nrmC]
      refine tk0 (i := 8) (oi := ⟨some 27, .move (.tmp 0), 31, "seglog.go:170", #[], none⟩) (v := ?_) rfl (by kernel_rfl) (fun _ _ _ h => h) (fun _ => hF) (fun w => ?_) (by rfl) ?_
      rotate_left
      · first | (go_simp; done) | (go_simp; with_reducible rfl) | (go_split_ands; go_simp; done)
      try simp only [Act.put, nrmA, nrmB, nrmC]
      refine tk0 (i := 9) (oi := ⟨some 28, .nilCheck (.tmp 27), 0, "seglog.go:170", #[⟨8, .data⟩], none⟩) (v := ?_) rfl (by kernel_rfl) (fun _ _ _ h => h) (fun _ => hF) (fun w => ?_) (by rfl) ?_
      rotate_left
      · first | (go_simp; done) | (go_simp; with_reducible rfl) | (go_split_ands; go_simp; done)
      try simp only [Act.put, nrmA, nrmB, nrmC]
      refine tk0 (i := 10) (oi := ⟨some 29, .fieldAddr 53 (.tmp 28) 3, 0, "seglog.go:170", #[⟨9, .data⟩], none⟩) (v := ?_) rfl (by kernel_rfl) (fun _ _ _ h => h) (fun _ => hF) (fun w => ?_) (by rfl) ?_
      rotate_left
      · first | (go_simp; done) | (go_simp; with_reducible rfl) | (go_split_ands; go_simp; done)
      try simp only [Act.put, nrmA, nrmB, nrmC]
      refine tk1 (i := 11) (oi := ⟨some 30, .load 51 (.tmp 29), 51, "seglog.go:170", #[⟨10, .data⟩], none⟩) (v := ?_) [22] rfl (by kernel_rfl) (fun _ _ _ h => h) hF (fun w hFw => ?_) (by rfl) ?_
      rotate_left
      · ((try dsimp only at hFw); first | (go_simp; done) | (go_simp; with_reducible rfl) | (go_split_ands; go_simp; done))
      try simp only [Act.put, nrmA, nrmB, nrmC]
      refine tk0 (i := 12) (oi := ⟨some 31, .move (.tmp 0), 31, "seglog.go:170", #[], none⟩) (v := ?_) rfl (by kernel_rfl) (fun _ _ _ h => h) (fun _ => hF) (fun w => ?_) (by rfl) ?_
      rotate_left
      · first | (go_simp; done) | (go_simp; with_reducible rfl) | (go_split_ands; go_simp; done)
      try simp only [Act.put, nrmA, nrmB, nrmC]
      refine tk0 (i := 13) (oi := ⟨some 32, .nilCheck (.tmp 31), 0, "seglog.go:170", #[⟨12, .data⟩], none⟩) (v := ?_) rfl (by kernel_rfl) (fun _ _ _ h => h) (fun _ => hF) (fun w => ?_) (by rfl) ?_
      rotate_left
      · first | (go_simp; done) | (go_simp; with_reducible rfl) | (go_split_ands; go_simp; done)
      try simp only [Act.put, nrmA, nrmB, nrmC]
      refine tk0 (i := 14) (oi := ⟨some 33, .fieldAddr 53 (.tmp 32) 3, 0, "seglog.go:170", #[⟨13, .data⟩], none⟩) (v := ?_) rfl (by kernel_rfl) (fun _ _ _ h => h) (fun _ => hF) (fun w => ?_) (by rfl) ?_
      rotate_left
      · first | (go_simp; done) | (go_simp; with_reducible rfl) | (go_split_ands; go_simp; done)
      try simp only [Act.put, nrmA, nrmB, nrmC]
      refine tk1 (i := 15) (oi := ⟨some 34, .load 51 (.tmp 33), 51, "seglog.go:170", #[⟨14, .data⟩], none⟩) (v := ?_) [22] rfl (by kernel_rfl) (fun _ _ _ h => h) hF (fun w hFw => ?_) (by rfl) ?_
      rotate_left
      · ((try dsimp only at hFw); first | (go_simp; done) | (go_simp; with_reducible rfl) | (go_split_ands; go_simp; done))
      try simp only [Act.put, nrmA, nrmB, nrmC]
      refine tk1 (i := 16) (oi := ⟨some 35, .call { callee := .builtin .len, args := #[.tmp 34], argTypes := #[51] }, 3, "seglog.go:170", #[⟨15, .data⟩], none⟩) (v := ?_) [22] rfl (by kernel_rfl) (fun _ _ _ h => h) hF (fun w hFw => ?_) (by rfl) ?_
      rotate_left
      · ((try dsimp only at hFw); first | (go_simp; done) | (go_simp; with_reducible rfl) | (go_split_ands; go_simp; done))
      try simp only [Act.put, nrmA, nrmB, nrmC]
      refine tk0 (i := 17) (oi := ⟨some 36, .binOp .sub 3 (.tmp 35) (.const (.int .i64 1)) 3, 3, "seglog.go:170", #[⟨16, .data⟩], none⟩) (v := ?_) rfl (by kernel_rfl) (fun _ _ _ h => h) (fun _ => hF) (fun w => ?_) (by rfl) ?_
      rotate_left
      · first | (go_simp; done) | (go_simp; with_reducible rfl) | (go_split_ands; go_simp; done)
      try simp only [Act.put, nrmA, nrmB, nrmC]
      refine tk0 (i := 18) (oi := ⟨some 37, .indexAddr 51 (.tmp 30) (.tmp 36), 0, "seglog.go:170", #[⟨11, .data⟩, ⟨17, .data⟩], none⟩) (v := ?_) rfl (by kernel_rfl) (fun _ _ _ h => h) (fun _ => hF) (fun w => ?_) (by rfl) ?_
      rotate_left
      · first | (go_simp; done) | (go_simp; with_reducible rfl) | (go_split_ands; go_simp; done)
      try simp only [Act.put, nrmA, nrmB, nrmC]
      refine tk1 (i := 19) (oi := ⟨some 38, .load 3 (.tmp 37), 3, "seglog.go:170", #[⟨18, .data⟩], none⟩) (v := ?_) [22] rfl (by kernel_rfl) (fun _ _ _ h => h) hF (fun w hFw => ?_) (by rfl) ?_
      rotate_left
      · ((try dsimp only at hFw); first | (go_simp; done) | (go_simp; with_reducible rfl) | (go_split_ands; go_simp; done))
      try simp only [Act.put, nrmA, nrmB, nrmC]
      refine wpAnyJ_ready (rs := [20]) (by kernel_rfl) (by simp) ?_
      refine AllJ.cons1 (o := ⟨some 39, .call { callee := .value (.func 29), args := #[.tmp 26, .tmp 38], argTypes := #[9, 3] }, 9, "seglog.go:170", #[⟨7, .data⟩, ⟨19, .data⟩], none⟩) rfl (fun Kr hKr => ?_)
      go_simp; go_at_call 29; refine (hnmc.out _).mono ?_; rintro e w3 ⟨rfl, hst⟩
      have s : Sp w0 K w3 [DH, [(b, rlobj d p ea n ec (some ⟨q, 0, none⟩) (m + 1) sc (sy + 1) lg.dead)], S, E, rwH X] := s.still hst
      clear hst
      refine hKr.out _ _ (fun hJ => ?_) (fun hF => ?_)
      · first
        | exact absurd hJ (by decide)
        | (clear hJ; (try dsimp only); all_goals (exact ⟨(rlobj_cells (s.own 1 rfl)).1, (rlobj_cells (s.own 1 rfl)).2.1, (rlobj_cells (s.own 1 rfl)).2.2.2.1, hc3.out _ (s.own 2 rfl)⟩))
      clear hKr
      try simp only [Act.put, nrmA, nrmB, nrmC]
      refine wpAnyJ_ready (rs := [21]) (by kernel_rfl) (by simp) ?_
      refine AllJ.cons1 (o := ⟨some 40, .call { callee := .value (.func 50), args := #[.tmp 22, .tmp 39], argTypes := #[29, 9] }, 3, "seglog.go:170", #[⟨3, .data⟩, ⟨20, .data⟩, ⟨20, .chain⟩], none⟩) rfl (fun Kr hKr => ?_)
      go_simp; go_at_call 50; refine (hds.out _ (s.own 0 rfl)).mono ?_; rintro e w4 ⟨rfl, DH', hd', hst⟩
      have s : Sp w0 K w4 [DH', [(b, rlobj d p ea n ec (some ⟨q, 0, none⟩) (m + 1) sc (sy + 1) lg.dead)], S, E, rwH X] := s.put 0 rfl hst
      clear hst
      refine hKr.out _ _ (fun hJ => ?_) (fun hF => ?_)
      · first
        | exact absurd hJ (by decide)
        | (clear hJ; (try dsimp only); all_goals (exact ⟨(rlobj_cells (s.own 1 rfl)).1, (rlobj_cells (s.own 1 rfl)).2.1, (rlobj_cells (s.own 1 rfl)).2.2.2.1, hc3.out _ (s.own 2 rfl)⟩))
      clear hKr
      try simp only [Act.put, nrmA, nrmB, nrmC]
      refine wpAnyJ_ready (rs := [22]) (by kernel_rfl) (by simp) ?_
      refine AllJ.cons1 (o := ⟨some 3, .assign (.tmp 40), 3, "seglog.go:170", #[⟨21, .data⟩, ⟨21, .chain⟩, ⟨0, .phase⟩, ⟨1, .phase⟩, ⟨2, .phase⟩, ⟨3, .phase⟩, ⟨4, .phase⟩, ⟨5, .phase⟩, ⟨6, .phase⟩, ⟨7, .phase⟩, ⟨8, .phase⟩, ⟨9, .phase⟩, ⟨10, .phase⟩, ⟨11, .phase⟩, ⟨12, .phase⟩, ⟨13, .phase⟩, ⟨14, .phase⟩, ⟨15, .phase⟩, ⟨16, .phase⟩, ⟨17, .phase⟩, ⟨18, .phase⟩, ⟨19, .phase⟩, ⟨20, .phase⟩, ⟨21, .phase⟩], none⟩) rfl (fun Kr hKr => ?_)
      go_simp
      refine hKr.out _ _ (fun hJ => ?_) (fun hF => ?_)
      · first
        | exact absurd hJ (by decide)
        | (clear hJ; (try dsimp only); all_goals (exact ⟨(rlobj_cells (s.own 1 rfl)).1, (rlobj_cells (s.own 1 rfl)).2.1, (rlobj_cells (s.own 1 rfl)).2.2.2.1, hc3.out _ (s.own 2 rfl)⟩))
      clear hKr
      try simp only [Act.put, nrmA, nrmB, nrmC]
      refine wpAnyJ_done (by kernel_rfl) ?_ _
      have hcl := rlobj_cells (s.own 1 rfl)
      have b0 := heap_lt (s.own 1 rfl).h0
      have fz := fun i => frz_of (i := i) (s.own 1 rfl).h0
      obtain ⟨z0, z1, z2, z3, z4, z5⟩ := hcl
      obtain ⟨x, k1⟩ := r
      have e1 := e1.out
      simp only at herr e1 hd' ⊢
      by_cases hx : x = 0
      · subst hx
        have e2 : Hid (lsyncN p lg k = (0, { lg with synced := lg.L.length }, k1)) := e1.trans rfl
        clear e1
        go_wp2_with fail
        go_ret
        rw [e2.out]
        refine ⟨rfl, DH', _, S, E, _, hd', ?_, s.store 1 rfl (j := 4) (iv (n + 1))⟩
        refine ⟨some ⟨q, 0, none⟩, ea, sc, ec, X, hs.out, hr.out, hdX.out, rfl, ?_⟩
        have h1 := hn.out
        have h2 := hns.out
        simp only [← h1, ← h2]
        rfl
      · have q5 : ((x : Int) != 0) = true := by rw [bne_iff_ne]; omega
        have e2 : Hid (lsyncN p lg k = (x, { lg with dead := true }, k1)) := e1.trans (if_pos hx)
        clear e1
        replace hx := Lib.hid hx
        go_wp2_with fail
        go_ret
        rw [e2.out]
        refine ⟨rfl, DH', _, S, E, _, hd', ?_, s.store 1 rfl (j := 5) (.bool true)⟩
        refine ⟨some ⟨q, 0, none⟩, ea, sc, ec, X, hs.out, hr.out, hdX.out, rfl, ?_⟩
        have h1 := hn.out
        have h2 := hns.out
        have h3 := hsy.out
        simp only [← h1, ← h2, ← h3]
        rfl
end Go.Proofs.YtdolbeonpkanpaaGreatDoor
