/- The reference's log: fail, size, Names. -/
import Derived.Test.YtdolbeonpkanpaaGreatDoorSgE
import Derived.Test.YtdolbeonpkanpaaGreatDoorMSrA
set_option linter.unusedVariables false
set_option linter.unusedSimpArgs false
namespace Go.Proofs.YtdolbeonpkanpaaGreatDoor
open Go.RowKit
attribute [local go_sem ↓] Go.wp_at_zero Go.wp_at_succ

set_option maxRecDepth 100000 in
theorem rfail_any (b d x : Nat) (p : Nm) (ea sa : Option Addr) (ne ec ns sc su : Nat) (dead : Bool) (DH : Heaplet) (R : List Heaplet) (w0 w : World) (K : Heaplet) (s : Sp w0 K w (DH :: [(b, rlobj d p ea ne ec sa ns sc su dead)] :: R)) (hx : x ≤ 1000) :
    Calls Tryz.prog 48 #[pt b, iv x] w fun e w' => e = .returned (iv x) ∧ Sp w0 K w' (DH :: [(b, rlobj d p ea ne ec sa ns sc su (dead || decide (x ≠ 6)))] :: R) := by
  have c5 := (rlobj_cells (s.own 1 rfl)).2.2.2.2.2
  have b0 := heap_lt (s.own 1 rfl).h0
  have fz := fun i => frz_of (i := i) (s.own 1 rfl).h0
  by_cases h6 : x = 6
  · subst h6
    go_enter Tryz.func48, Tryz.ntmps48
    go_wp2_with fail
    go_ret
    exact ⟨rfl, by simpa using s⟩
  · have q1 : ((x : Int) != 6) = true := by rw [bne_iff_ne]; omega
    have hdd : Hid ((dead || decide (x ≠ 6)) = true) := by show _ = _; simp [h6]
    replace h6 := Lib.hid h6
    go_enter Tryz.func48, Tryz.ntmps48
    go_wp2_with fail
    go_ret
    rw [hdd.out]
    exact ⟨rfl, s.store 1 rfl (j := 5) (.bool true)⟩
set_option maxHeartbeats 1000000 in
set_option maxRecDepth 100000 in
theorem rsize_any (b d : Nat) (p : Nm) (lg : Lg) (k : Dk) (DH B S E XH : Heaplet) (R : List Heaplet) (w0 w : World) (K : Heaplet) (hd : RkRep d k DH) (hk : k.Ok) (h : RlIs b d p lg B S E XH) (s : Sp w0 K w (DH :: B :: S :: R)) (hl : lg.Ok) (hp : p.length ≤ 1000) (hne : lg.segs ≠ []) :
    Calls Tryz.prog 45 #[pt b] w fun e w' => e = .returned (iv (rdN (nameN p (lastSeg lg).1) k).1.length) ∧ Sp w0 K w' (DH :: B :: S :: R) := by
  obtain ⟨sa, ea, sc, ec, X, hs, hr, hdX, rfl, rfl⟩ := h
  have xlt := heap_lt (s.own 1 rfl).h0
  have hds := Lib.hid (fun W hW => rread d k DH (nameN p (lastSeg lg).1) W hd hk hW)
  have hfb : (lastSeg lg).1 ≤ 4398046511105 := by
    have h1 := (hl.bytes _ (List.mem_of_getElem? (last_at hne))).2
    have h2 := hl.many
    omega
  have hnmc := Lib.hid (fun W => rname_any p (lastSeg lg).1 hp (by omega) W)
  obtain ⟨q, rfl, s0⟩ := fs_at hs (s.own 2 rfl) (last_at hne)
  obtain ⟨hsc1, hsc2⟩ : lg.segs.length ≤ sc ∧ sc ≤ maxLen := by
    obtain ⟨_, ⟨e0, _⟩ | ⟨_, _, _, _, hsc1, hsc2, _⟩⟩ := hs
    · cases e0
    · exact ⟨hsc1, hsc2⟩
  obtain ⟨m, hm⟩ : ∃ m, lg.segs.length = m + 1 := ⟨lg.segs.length - 1, by have := List.length_pos_iff.2 hne; omega⟩
  rw [hm] at s0 hsc1
  have hmm : (m : Int) ≤ 4398046511104 := by have := hl.msegs; omega
  simp only [Nat.add_sub_cancel] at s0
  have hc3 : Hid (∀ V, Own V S → V.cell? ⟨q, m, none⟩ = some (iv (lastSeg lg).1)) := fun V o => by
    obtain ⟨q', e, z⟩ := fs_at hs o (last_at hne)
    cases e
    rw [hm] at z
    exact z
  clear s0 hs hr hdX
  replace hne := Lib.hid hne
  obtain ⟨ln, hln⟩ : ∃ ln, ln = (rdN (nameN p (lastSeg lg).1) k).1.length := ⟨_, rfl⟩
  rw [← hln]
  replace hln := Lib.hid hln
  generalize nameN p (lastSeg lg).1 = nm at hds hnmc hln
  generalize (lastSeg lg).1 = fi at hnmc hc3 hfb
  obtain ⟨ns, hns⟩ : ∃ ns, ns = lg.segs.length := ⟨_, rfl⟩
  rw [← hns] at s hm ⊢
  replace hns := Lib.hid hns
  subst hm
  have mci : (m : Int) + 1 ≤ (sc : Int) := by omega
  have q3 : (m : Int) < (m : Int) + 1 := by omega
  have q4 : IntKind.i64.wrap (m : Int) = (m : Int) := IntWalk.i64_in _ (by omega)
  obtain ⟨r, hr⟩ : ∃ r, r = rdN nm k := ⟨_, rfl⟩
  obtain ⟨rl, rn⟩ := r
  rw [← hr] at hds hln
  simp only at hds hln
  replace hr := Lib.hid hr
  go_enter Tryz.func45, Tryz.ntmps45
  go_upto_region 1 with fail
  replace s := s.drew
  refine wp_region_J 26 (fun w' => w'.cell? ⟨b, 0, none⟩ = some (pt d) ∧ w'.cell? ⟨b, 1, none⟩ = some (strV p) ∧ w'.cell? ⟨b, 3, none⟩ = some (.slice (some ⟨q, 0, none⟩) (m + 1) sc) ∧ w'.cell? ⟨q, m, none⟩ = some (iv fi)) (by kernel_rfl) ?_ (fun hF => ?_)
  · (try dsimp only)
    all_goals (exact ⟨(rlobj_cells (s.own 1 rfl)).1, (rlobj_cells (s.own 1 rfl)).2.1, (rlobj_cells (s.own 1 rfl)).2.2.2.1, hc3.out _ (s.own 2 rfl)⟩)
  refine tk0 (i := 0) (oi := ⟨some 6, .move (.tmp 0), 31, "seglog.go:125", #[], none⟩) (v := ?_) rfl (by kernel_rfl) (fun _ _ _ h => h) (fun _ => hF) (fun w => ?_) (by rfl) ?_
  rotate_left
  · first | (go_simp; done) | (go_simp; with_reducible rfl) | (go_split_ands; go_simp; done)
  try simp only [Act.put, nrmA, nrmB, nrmC]
  refine tk0 (i := 1) (oi := ⟨some 7, .nilCheck (.tmp 6), 0, "seglog.go:125", #[⟨0, .data⟩], none⟩) (v := ?_) rfl (by kernel_rfl) (fun _ _ _ h => h) (fun _ => hF) (fun w => ?_) (by rfl) ?_
  rotate_left
  · first | (go_simp; done) | (go_simp; with_reducible rfl) | (go_split_ands; go_simp; done)
  try simp only [Act.put, nrmA, nrmB, nrmC]
  refine tk0 (i := 2) (oi := ⟨some 8, .fieldAddr 53 (.tmp 7) 0, 0, "seglog.go:125", #[⟨1, .data⟩], none⟩) (v := ?_) rfl (by kernel_rfl) (fun _ _ _ h => h) (fun _ => hF) (fun w => ?_) (by rfl) ?_
  rotate_left
  · first | (go_simp; done) | (go_simp; with_reducible rfl) | (go_split_ands; go_simp; done)
  try simp only [Act.put, nrmA, nrmB, nrmC]
  refine tk1 (i := 3) (oi := ⟨some 9, .load 29 (.tmp 8), 29, "seglog.go:125", #[⟨2, .data⟩], none⟩) (v := ?_) [26] rfl (by kernel_rfl) (fun _ _ _ h => h) hF (fun w hFw => ?_) (by rfl) ?_
  rotate_left
  · ((try dsimp only at hFw); first | (go_simp; done) | (go_simp; with_reducible rfl) | (go_split_ands; go_simp; done))
  try simp only [Act.put, nrmA, nrmB, nrmC]
  refine tk0 (i := 4) (oi := ⟨some 10, .move (.tmp 0), 31, "seglog.go:125", #[], none⟩) (v := ?_) rfl (by kernel_rfl) (fun _ _ _ h => h) (fun _ => hF) (fun w => ?_) (by rfl) ?_
  rotate_left
  · first | (go_simp; done) | (go_simp; with_reducible rfl) | (go_split_ands; go_simp; done)
  try simp only [Act.put, nrmA, nrmB, nrmC]
  refine tk0 (i := 5) (oi := ⟨some 11, .nilCheck (.tmp 10), 0, "seglog.go:125", #[⟨4, .data⟩], none⟩) (v := ?_) rfl (by kernel_rfl) (fun _ _ _ h => h) (fun _ => hF) (fun w => ?_) (by rfl) ?_
  rotate_left
  · first | (go_simp; done) | (go_simp; with_reducible rfl) | (go_split_ands; go_simp; done)
  try simp only [Act.put, nrmA, nrmB, nrmC]
  refine tk0 (i := 6) (oi := ⟨some 12, .fieldAddr 53 (.tmp 11) 1, 0, "seglog.go:125", #[⟨5, .data⟩], none⟩) (v := ?_) rfl (by kernel_rfl) (fun _ _ _ h => h) (fun _ => hF) (fun w => ?_) (by rfl) ?_
  rotate_left
  · first | (go_simp; done) | (go_simp; with_reducible rfl) | (go_split_ands; go_simp; done)
  try simp only [Act.put, nrmA, nrmB, nrmC]
  refine tk1 (i := 7) (oi := ⟨some 13, .load 9 (.tmp 12), 9, "seglog.go:125", #[⟨6, .data⟩], none⟩) (v := ?_) [26] rfl (by kernel_rfl) (fun _ _ _ h => h) hF (fun w hFw => ?_) (by rfl) ?_
  rotate_left
  · ((try dsimp only at hFw); first | (go_simp; done) | (go_simp; with_reducible rfl) | (go_split_ands; go_simp; done))
  try simp only [Act.put, nrmA, nrmB, nrmC]
  refine tk0 (i := 8) (oi := ⟨some 14, .move (.tmp 0), 31, "seglog.go:125", #[], none⟩) (v := ?_) rfl (by kernel_rfl) (fun _ _ _ h => h) (fun _ => hF) (fun w => ?_) (by rfl) ?_
  rotate_left
  · first | (go_simp; done) | (go_simp; with_reducible rfl) | (go_split_ands; go_simp; done)
  try simp only [Act.put, nrmA, nrmB, nrmC]
  refine tk0 (i := 9) (oi := ⟨some 15, .nilCheck (.tmp 14), 0, "seglog.go:125", #[⟨8, .data⟩], none⟩) (v := ?_) rfl (by kernel_rfl) (fun _ _ _ h => h) (fun _ => hF) (fun w => ?_) (by rfl) ?_
  rotate_left
  · first | (go_simp; done) | (go_simp; with_reducible rfl) | (go_split_ands; go_simp; done)
  try simp only [Act.put, nrmA, nrmB, nrmC]
  refine tk0 (i := 10) (oi := ⟨some 16, .fieldAddr 53 (.tmp 15) 3, 0, "seglog.go:125", #[⟨9, .data⟩], none⟩) (v := ?_) rfl (by kernel_rfl) (fun _ _ _ h => h) (fun _ => hF) (fun w => ?_) (by rfl) ?_
  rotate_left
  · first | (go_simp; done) | (go_simp; with_reducible rfl) | (go_split_ands; go_simp; done)
  try simp only [Act.put, nrmA, nrmB, nrmC]
  refine tk1 (i := 11) (oi := ⟨some 17, .load 51 (.tmp 16), 51, "seglog.go:125", #[⟨10, .data⟩], none⟩) (v := ?_) [26] rfl (by kernel_rfl) (fun _ _ _ h => h) hF (fun w hFw => ?_) (by rfl) ?_
  rotate_left
  · ((try dsimp only at hFw); first | (go_simp; done) | (go_simp; with_reducible rfl) | (go_split_ands; go_simp; done))
  try simp only [Act.put, nrmA, nrmB, nrmC]
  refine tk0 (i := 12) (oi := ⟨some 18, .move (.tmp 0), 31, "seglog.go:125", #[], none⟩) (v := ?_) rfl (by kernel_rfl) (fun _ _ _ h => h) (fun _ => hF) (fun w => ?_) (by rfl) ?_
  rotate_left
  · first | (go_simp; done) | (go_simp; with_reducible rfl) | (go_split_ands; go_simp; done)
  try simp only [Act.put, nrmA, nrmB, nrmC]
  refine tk0 (i := 13) (oi := ⟨some 19, .nilCheck (.tmp 18), 0, "seglog.go:125", #[⟨12, .data⟩], none⟩) (v := ?_) rfl (by kernel_rfl) (fun _ _ _ h => h) (fun _ => hF) (fun w => ?_) (by rfl) ?_
  rotate_left
  · first | (go_simp; done) | (go_simp; with_reducible rfl) | (go_split_ands; go_simp; done)
  try simp only [Act.put, nrmA, nrmB, nrmC]
  refine tk0 (i := 14) (oi := ⟨some 20, .fieldAddr 53 (.tmp 19) 3, 0, "seglog.go:125", #[⟨13, .data⟩], none⟩) (v := ?_) rfl (by kernel_rfl) (fun _ _ _ h => h) (fun _ => hF) (fun w => ?_) (by rfl) ?_
  rotate_left
  · first | (go_simp; done) | (go_simp; with_reducible rfl) | (go_split_ands; go_simp; done)
  try simp only [Act.put, nrmA, nrmB, nrmC]
  refine tk1 (i := 15) (oi := ⟨some 21, .load 51 (.tmp 20), 51, "seglog.go:125", #[⟨14, .data⟩], none⟩) (v := ?_) [26] rfl (by kernel_rfl) (fun _ _ _ h => h) hF (fun w hFw => ?_) (by rfl) ?_
  rotate_left
  · ((try dsimp only at hFw); first | (go_simp; done) | (go_simp; with_reducible rfl) | (go_split_ands; go_simp; done))
  try simp only [Act.put, nrmA, nrmB, nrmC]
  refine tk1 (i := 16) (oi := ⟨some 22, .call { callee := .builtin .len, args := #[.tmp 21], argTypes := #[51] }, 3, "seglog.go:125", #[⟨15, .data⟩], none⟩) (v := ?_) [26] rfl (by kernel_rfl) (fun _ _ _ h => h) hF (fun w hFw => ?_) (by rfl) ?_
  rotate_left
  · ((try dsimp only at hFw); first | (go_simp; done) | (go_simp; with_reducible rfl) | (go_split_ands; go_simp; done))
  try simp only [Act.put, nrmA, nrmB, nrmC]
  refine tk0 (i := 17) (oi := ⟨some 23, .binOp .sub 3 (.tmp 22) (.const (.int .i64 1)) 3, 3, "seglog.go:125", #[⟨16, .data⟩], none⟩) (v := ?_) rfl (by kernel_rfl) (fun _ _ _ h => h) (fun _ => hF) (fun w => ?_) (by rfl) ?_
  rotate_left
  · first | (go_simp; done) | (go_simp; with_reducible rfl) | (go_split_ands; go_simp; done)
  try simp only [Act.put, nrmA, nrmB, nrmC]
  refine tk0 (i := 18) (oi := ⟨some 24, .indexAddr 51 (.tmp 17) (.tmp 23), 0, "seglog.go:125", #[⟨11, .data⟩, ⟨17, .data⟩], none⟩) (v := ?_) rfl (by kernel_rfl) (fun _ _ _ h => h) (fun _ => hF) (fun w => ?_) (by rfl) ?_
  rotate_left
  · first | (go_simp; done) | (go_simp; with_reducible rfl) | (go_split_ands; go_simp; done)
  try simp only [Act.put, nrmA, nrmB, nrmC]
  refine tk1 (i := 19) (oi := ⟨some 25, .load 3 (.tmp 24), 3, "seglog.go:125", #[⟨18, .data⟩], none⟩) (v := ?_) [26] rfl (by kernel_rfl) (fun _ _ _ h => h) hF (fun w hFw => ?_) (by rfl) ?_
  rotate_left
  · ((try dsimp only at hFw); first | (go_simp; done) | (go_simp; with_reducible rfl) | (go_split_ands; go_simp; done))
  try simp only [Act.put, nrmA, nrmB, nrmC]
  refine wpAnyJ_ready (rs := [20]) (by kernel_rfl) (by simp) ?_
  refine AllJ.cons1 (o := ⟨some 26, .call { callee := .value (.func 29), args := #[.tmp 13, .tmp 25], argTypes := #[9, 3] }, 9, "seglog.go:125", #[⟨7, .data⟩, ⟨19, .data⟩], none⟩) rfl (fun Kr hKr => ?_)
  go_simp; go_at_call 29; refine (hnmc.out _).mono ?_; rintro e w3 ⟨rfl, hst⟩
  have s : Sp w0 K w3 (DH :: [(b, rlobj d p ea lg.L.length ec (some ⟨q, 0, none⟩) (m + 1) sc (lg.synced + 1) lg.dead)] :: S :: R) := s.still hst
  clear hst
  refine hKr.out _ _ (fun hJ => ?_) (fun hF => ?_)
  · first
    | exact absurd hJ (by decide)
    | (clear hJ; (try dsimp only); all_goals (exact ⟨(rlobj_cells (s.own 1 rfl)).1, (rlobj_cells (s.own 1 rfl)).2.1, (rlobj_cells (s.own 1 rfl)).2.2.2.1, hc3.out _ (s.own 2 rfl)⟩))
  clear hKr
  try simp only [Act.put, nrmA, nrmB, nrmC]
  refine wpAnyJ_ready (rs := [21]) (by kernel_rfl) (by simp) ?_
  refine AllJ.cons1 (o := ⟨some 27, .call { callee := .value (.func 57), args := #[.tmp 9, .tmp 26], argTypes := #[29, 9] }, 96, "seglog.go:125", #[⟨3, .data⟩, ⟨20, .data⟩, ⟨20, .chain⟩], none⟩) rfl (fun Kr hKr => ?_)
  go_simp; go_at_call 57; refine (hds.out _ (s.own 0 rfl)).mono ?_; rintro e w4 ⟨a4, k4, G4, rfl, r4, hst⟩
  have s : Sp w0 K w4 (DH :: [(b, rlobj d p ea lg.L.length ec (some ⟨q, 0, none⟩) (m + 1) sc (lg.synced + 1) lg.dead)] :: S :: R) := s.junk hst
  clear hst
  refine hKr.out _ _ (fun hJ => ?_) (fun hF => ?_)
  · first
    | exact absurd hJ (by decide)
    | (clear hJ; (try dsimp only); all_goals (exact ⟨(rlobj_cells (s.own 1 rfl)).1, (rlobj_cells (s.own 1 rfl)).2.1, (rlobj_cells (s.own 1 rfl)).2.2.2.1, hc3.out _ (s.own 2 rfl)⟩))
  clear hKr
  try simp only [Act.put, nrmA, nrmB, nrmC]
  refine tk0 (i := 22) (oi := ⟨some 5, .move (.tmp 27), 96, "seglog.go:125", #[⟨21, .data⟩], none⟩) (v := ?_) rfl (by kernel_rfl) (fun _ _ _ h => h) (fun _ => hF (by kernel_rfl)) (fun w => ?_) (by rfl) ?_
  rotate_left
  · first | (go_simp; done) | (go_simp; with_reducible rfl) | (go_split_ands; go_simp; done)
  try simp only [Act.put, nrmA, nrmB, nrmC]
  refine tk0 (i := 23) (oi := ⟨some 28, .extract (.tmp 5) 0, 23, "seglog.go:125", #[⟨22, .data⟩], none⟩) (v := ?_) rfl (by kernel_rfl) (fun _ _ _ h => h) (fun _ => hF (by kernel_rfl)) (fun w => ?_) (by rfl) ?_
  rotate_left
  · first | (go_simp; done) | (go_simp; with_reducible rfl) | (go_split_ands; go_simp; done)
  try simp only [Act.put, nrmA, nrmB, nrmC]
  refine tk0 (i := 24) (oi := ⟨some 29, .extract (.tmp 5) 1, 3, "seglog.go:125", #[⟨22, .data⟩, { on := 25, ground := Go.Ground.gcOnly Go.Departure.lateStores }], none⟩) (v := ?_) rfl (by kernel_rfl) (fun _ _ _ h => h) (fun _ => hF (by kernel_rfl)) (fun w => ?_) (by rfl) ?_
  rotate_left
  · first | (go_simp; done) | (go_simp; with_reducible rfl) | (go_split_ands; go_simp; done)
  try simp only [Act.put, nrmA, nrmB, nrmC]
  refine wpAnyJ_ready (rs := [25]) (by kernel_rfl) (by simp) ?_
  refine AllJ.cons1 (o := ⟨some 3, .assign (.tmp 28), 23, "seglog.go:125", #[⟨23, .data⟩, ⟨21, .chain⟩, ⟨0, .phase⟩, ⟨1, .phase⟩, ⟨2, .phase⟩, ⟨3, .phase⟩, ⟨4, .phase⟩, ⟨5, .phase⟩, ⟨6, .phase⟩, ⟨7, .phase⟩, ⟨8, .phase⟩, ⟨9, .phase⟩, ⟨10, .phase⟩, ⟨11, .phase⟩, ⟨12, .phase⟩, ⟨13, .phase⟩, ⟨14, .phase⟩, ⟨15, .phase⟩, ⟨16, .phase⟩, ⟨17, .phase⟩, ⟨18, .phase⟩, ⟨19, .phase⟩, ⟨20, .phase⟩, ⟨21, .phase⟩, ⟨22, .phase⟩, ⟨23, .phase⟩, { on := 24, ground := Go.Ground.textOnly Go.Departure.lateStores }], none⟩) rfl (fun Kr hKr => ?_)
  go_simp
  refine hKr.out _ _ (fun hJ => ?_) (fun hF => ?_)
  · first
    | exact absurd hJ (by decide)
    | (clear hJ; (try dsimp only); all_goals (exact ⟨(rlobj_cells (s.own 1 rfl)).1, (rlobj_cells (s.own 1 rfl)).2.1, (rlobj_cells (s.own 1 rfl)).2.2.2.1, hc3.out _ (s.own 2 rfl)⟩))
  clear hKr
  try simp only [Act.put, nrmA, nrmB, nrmC]
  refine wpAnyJ_ready (rs := [26]) (by kernel_rfl) (by simp) ?_
  refine AllJ.cons1 (o := ⟨some 4, .assign (.tmp 29), 3, "seglog.go:125", #[⟨24, .data⟩, ⟨25, .chain⟩, ⟨0, .phase⟩, ⟨1, .phase⟩, ⟨2, .phase⟩, ⟨3, .phase⟩, ⟨4, .phase⟩, ⟨5, .phase⟩, ⟨6, .phase⟩, ⟨7, .phase⟩, ⟨8, .phase⟩, ⟨9, .phase⟩, ⟨10, .phase⟩, ⟨11, .phase⟩, ⟨12, .phase⟩, ⟨13, .phase⟩, ⟨14, .phase⟩, ⟨15, .phase⟩, ⟨16, .phase⟩, ⟨17, .phase⟩, ⟨18, .phase⟩, ⟨19, .phase⟩, ⟨20, .phase⟩, ⟨21, .phase⟩, ⟨22, .phase⟩, ⟨23, .phase⟩, ⟨24, .phase⟩, ⟨25, .phase⟩], none⟩) rfl (fun Kr hKr => ?_)
  go_simp
  refine hKr.out _ _ (fun hJ => ?_) (fun hF => ?_)
  · first
    | exact absurd hJ (by decide)
    | (clear hJ; (try dsimp only); all_goals (exact ⟨(rlobj_cells (s.own 1 rfl)).1, (rlobj_cells (s.own 1 rfl)).2.1, (rlobj_cells (s.own 1 rfl)).2.2.2.1, hc3.out _ (s.own 2 rfl)⟩))
  clear hKr
  try simp only [Act.put, nrmA, nrmB, nrmC]
  refine wpAnyJ_done (by kernel_rfl) ?_ _
  go_wp2_with fail
  go_ret
  exact ⟨by rw [hln.out]; rfl, s⟩
set_option maxHeartbeats 1000000 in
set_option maxRecDepth 100000 in
theorem rlnames_any (b d : Nat) (p : Nm) (lg : Lg) (B S E XH : Heaplet) (w w0 : World) (K : Heaplet) (h : RlIs b d p lg B S E XH) (D : Heaplet) (s : Sp w0 K w [D, B, S, E, XH]) (hk : lg.Ok) (hp : p.length ≤ 1000) :
    Calls Tryz.prog 64 #[pt b] w (NamesPost (lnames p lg) w) := by
  obtain ⟨sa, ea, sc, ec, X, hs, hr, hd, rfl, rfl⟩ := h
  have hw1 := s.own 1 rfl
  have ow := s.own 2 rfl
  obtain ⟨n, hn⟩ : ∃ n, n = lg.segs.length := ⟨_, rfl⟩
  have hnl : Hid ((lnames p lg).length = n) := by show _ = _; rw [lnames, List.length_map, hn]
  have hn4 : n ≤ 4398046511104 := by rw [hn]; exact hk.msegs
  have hscn : n ≤ sc := by
    rw [hn]
    obtain ⟨_, ⟨_, e0, _, _⟩ | ⟨_, _, _, _, hsc1, hsc2, _⟩⟩ := hs
    · omega
    · exact hsc1
  have hrx : Hid (∀ i, i < n → ∃ (g : Nat) (y : Nat), (lnames p lg)[i]? = some (nameN p y) ∧ y ≤ 4398046511105 ∧ sa = some ⟨g, 0, none⟩ ∧ ∀ W G, Step w [] W G → W.cell? ⟨g, i, none⟩ = some (iv y)) := fun i hi => by
    have hx : lg.segs[i]? = some (lg.segs[i]'(by omega)) := List.getElem?_eq_getElem _
    obtain ⟨g, e, r0⟩ := fs_at hs ow hx
    have hb := (hk.bytes _ (List.mem_of_getElem? hx)).2
    have := hk.many
    refine ⟨g, _, by rw [lnames, List.getElem?_map, hx]; rfl, by omega, e, fun W G st => ?_⟩
    obtain ⟨g', e', r0'⟩ := fs_at hs (ow.after st) hx
    rw [e] at e'
    cases e'
    exact r0'
  have hcc := Lib.hid (fun W G (st : Step w [] W G) => rlobj_cells (hw1.after st))
  rw [← hn] at hcc
  replace hn := Lib.hid hn
  clear hs hr hd s hw1 ow
  generalize lnames p lg = L at *
  go_enter Tryz.func64, Tryz.ntmps64
  go_wp2_with fail
  go_loopw [3, 4] (fun v3 v4 wr => LnRel L w v3 v4 wr) (fun _ v _ => n - (intOf v).toNat)
  case atStart => exact ⟨0, none, 0, [], rfl, rfl, Nat.zero_le _, SlRep.nil _ _, Step.refl (Own.nil _)⟩
  case round =>
    obtain ⟨i, a1, c1, H1, rfl, rfl, hi, hv, hs⟩ := hrel
    have i0 : (0 : Int) ≤ (i : Int) := by omega
    rw [hnl.out] at hi
    obtain ⟨c0, c1', c2, c3, c4, c5⟩ := hcc.out _ _ hs
    by_cases hlt : i < n
    · obtain ⟨g, y, hx, hy, rfl, r0⟩ := hrx.out i hlt
      have i1 : (i : Int) < (n : Int) := by omega
      have i2 : (n : Int) ≤ (sc : Int) := by omega
      have htk : Hid ((L.take (i + 1)).map strV = (L.take i).map strV ++ [strV (nameN p y)]) := by
        obtain ⟨hl, e⟩ := List.getElem?_eq_some_iff.1 hx
        show _ = _
        rw [List.take_succ_eq_append_getElem hl, e, List.map_append]; rfl
      have hnmc := Lib.hid (fun W => rname_any p y hp (by omega) W)
      generalize nameN p y = nm at htk hnmc hx
      have s1 := Sp.of hs
      clear hx
      have hK : Hid (∀ W G, Step w [] W G → W.cell? ⟨b, 1, none⟩ = some (strV p) ∧ W.cell? ⟨b, 3, none⟩ = some (.slice (some ⟨g, 0, none⟩) n sc) ∧ W.cell? ⟨g, i, none⟩ = some (iv y)) := fun W G st => ⟨(hcc.out W G st).2.1, (hcc.out W G st).2.2.2.1, r0 W G st⟩
      replace r0 := Lib.hid r0
      go_upto_region 5 with fail
      replace s1 := s1.drew
      refine wp_region_J 15 (fun w' => w'.cell? ⟨b, 1, none⟩ = some (strV p) ∧ w'.cell? ⟨b, 3, none⟩ = some (.slice (some ⟨g, 0, none⟩) n sc) ∧ w'.cell? ⟨g, i, none⟩ = some (iv y)) (by kernel_rfl) ?_ (fun hF => ?_)
      · (try dsimp only)
        all_goals (exact hK.out _ _ s1)
      refine tk0 (i := 0) (oi := ⟨some 14, .move (.tmp 3), 70, "seglog.go:191", #[], none⟩) (v := ?_) rfl (by kernel_rfl) (fun _ _ _ h => h) (fun _ => hF) (fun w => ?_) (by rfl) ?_
      rotate_left
      · first | (go_simp; done) | (go_simp; with_reducible rfl) | (go_split_ands; go_simp; done)
      try simp only [Act.put, nrmA, nrmB, nrmC]
      refine tk0 (i := 1) (oi := ⟨some 15, .move (.tmp 0), 31, "seglog.go:191", #[], none⟩) (v := ?_) rfl (by kernel_rfl) (fun _ _ _ h => h) (fun _ => hF) (fun w => ?_) (by rfl) ?_
      rotate_left
      · first | (go_simp; done) | (go_simp; with_reducible rfl) | (go_split_ands; go_simp; done)
      try simp only [Act.put, nrmA, nrmB, nrmC]
      refine tk0 (i := 2) (oi := ⟨some 16, .nilCheck (.tmp 15), 0, "seglog.go:191", #[⟨1, .data⟩], none⟩) (v := ?_) rfl (by kernel_rfl) (fun _ _ _ h => h) (fun _ => hF) (fun w => ?_) (by rfl) ?_
      rotate_left
      · first | (go_simp; done) | (go_simp; with_reducible rfl) | (go_split_ands; go_simp; done)
      try simp only [Act.put, nrmA, nrmB, nrmC]
      refine tk0 (i := 3) (oi := ⟨some 17, .fieldAddr 53 (.tmp 16) 1, 0, "seglog.go:191", #[⟨2, .data⟩], none⟩) (v := ?_) rfl (by kernel_rfl) (fun _ _ _ h => h) (fun _ => hF) (fun w => ?_) (by rfl) ?_
      rotate_left
      · first | (go_simp; done) | (go_simp; with_reducible rfl) | (go_split_ands; go_simp; done)
      try simp only [Act.put, nrmA, nrmB, nrmC]
      refine tk1 (i := 4) (oi := ⟨some 18, .load 9 (.tmp 17), 9, "seglog.go:191", #[⟨3, .data⟩], none⟩) (v := ?_) [15] rfl (by kernel_rfl) (fun _ _ _ h => h) hF (fun w hFw => ?_) (by rfl) ?_
      rotate_left
      · ((try dsimp only at hFw); first | (go_simp; done) | (go_simp; with_reducible rfl) | (go_split_ands; go_simp; done))
      try simp only [Act.put, nrmA, nrmB, nrmC]
      refine tk0 (i := 5) (oi := ⟨some 19, .move (.tmp 0), 31, "seglog.go:191", #[], none⟩) (v := ?_) rfl (by kernel_rfl) (fun _ _ _ h => h) (fun _ => hF) (fun w => ?_) (by rfl) ?_
      rotate_left
      · first | (go_simp; done) | (go_simp; with_reducible rfl) | (go_split_ands; go_simp; done)
      try simp only [Act.put, nrmA, nrmB, nrmC]
      refine tk0 (i := 6) (oi := ⟨some 20, .nilCheck (.tmp 19), 0, "seglog.go:191", #[⟨5, .data⟩], none⟩) (v := ?_) rfl (by kernel_rfl) (fun _ _ _ h => h) (fun _ => hF) (fun w => ?_) (by rfl) ?_
      rotate_left
      · first | (go_simp; done) | (go_simp; with_reducible rfl) | (go_split_ands; go_simp; done)
      try simp only [Act.put, nrmA, nrmB, nrmC]
      refine tk0 (i := 7) (oi := ⟨some 21, .fieldAddr 53 (.tmp 20) 3, 0, "seglog.go:191", #[⟨6, .data⟩], none⟩) (v := ?_) rfl (by kernel_rfl) (fun _ _ _ h => h) (fun _ => hF) (fun w => ?_) (by rfl) ?_
      rotate_left
      · first | (go_simp; done) | (go_simp; with_reducible rfl) | (go_split_ands; go_simp; done)
      try simp only [Act.put, nrmA, nrmB, nrmC]
      refine tk1 (i := 8) (oi := ⟨some 22, .load 51 (.tmp 21), 51, "seglog.go:191", #[⟨7, .data⟩], none⟩) (v := ?_) [15] rfl (by kernel_rfl) (fun _ _ _ h => h) hF (fun w hFw => ?_) (by rfl) ?_
      rotate_left
      · ((try dsimp only at hFw); first | (go_simp; done) | (go_simp; with_reducible rfl) | (go_split_ands; go_simp; done))
      try simp only [Act.put, nrmA, nrmB, nrmC]
      refine tk0 (i := 9) (oi := ⟨some 23, .move (.tmp 4), 3, "seglog.go:191", #[], none⟩) (v := ?_) rfl (by kernel_rfl) (fun _ _ _ h => h) (fun _ => hF) (fun w => ?_) (by rfl) ?_
      rotate_left
      · first | (go_simp; done) | (go_simp; with_reducible rfl) | (go_split_ands; go_simp; done)
      try simp only [Act.put, nrmA, nrmB, nrmC]
      refine tk0 (i := 10) (oi := ⟨some 24, .indexAddr 51 (.tmp 22) (.tmp 23), 0, "seglog.go:191", #[⟨8, .data⟩, ⟨9, .data⟩], none⟩) (v := ?_) rfl (by kernel_rfl) (fun _ _ _ h => h) (fun _ => hF) (fun w => ?_) (by rfl) ?_
      rotate_left
      · first | (go_simp; done) | (go_simp; with_reducible rfl) | (go_split_ands; go_simp; done)
      try simp only [Act.put, nrmA, nrmB, nrmC]
      refine tk1 (i := 11) (oi := ⟨some 25, .load 3 (.tmp 24), 3, "seglog.go:191", #[⟨10, .data⟩], none⟩) (v := ?_) [15] rfl (by kernel_rfl) (fun _ _ _ h => h) hF (fun w hFw => ?_) (by rfl) ?_
      rotate_left
      · ((try dsimp only at hFw); first | (go_simp; done) | (go_simp; with_reducible rfl) | (go_split_ands; go_simp; done))
      try simp only [Act.put, nrmA, nrmB, nrmC]
      refine wpAnyJ_ready (rs := [12]) (by kernel_rfl) (by simp) ?_
      refine AllJ.cons1 (o := ⟨some 26, .call { callee := .value (.func 29), args := #[.tmp 18, .tmp 25], argTypes := #[9, 3] }, 9, "seglog.go:191", #[⟨4, .data⟩, ⟨11, .data⟩], none⟩) rfl (fun Kr hKr => ?_)
      go_simp; go_at_call 29; refine (hnmc.out _).mono ?_; rintro e w3 ⟨rfl, hst⟩
      have s1 : Sp w [] w3 [H1] := s1.still hst
      clear hst
      refine hKr.out _ _ (fun hJ => ?_) (fun hF => ?_)
      · first
        | exact absurd hJ (by decide)
        | (clear hJ; (try dsimp only); all_goals (exact hK.out _ _ s1))
      clear hKr
      try simp only [Act.put, nrmA, nrmB, nrmC]
      refine wpAnyJ_ready (rs := [13]) (by kernel_rfl) (by simp) ?_
      refine AllJ.cons1 (o := ⟨some 27, .buildSlice 70 1 #[(0, .tmp 26)], 70, "seglog.go:191", #[⟨12, .data⟩], none⟩) rfl (fun Kr hKr => ?_)
      go_simp
      have s1 : Sp w [] _ [H1, [(w3.heap.size, .cells #[strV nm] 9 (0, 0))]] := s1.alloc _
      refine hKr.out _ _ (fun hJ => ?_) (fun hF => ?_)
      · first
        | exact absurd hJ (by decide)
        | (clear hJ; (try dsimp only); all_goals (exact hK.out _ _ s1))
      clear hKr
      try simp only [Act.put, nrmA, nrmB, nrmC]
      refine wpAnyJ_ready (rs := [14]) (by kernel_rfl) (by simp) ?_
      refine AllJ.cons1 (o := ⟨some 28, .call { callee := .builtin .append, args := #[.tmp 14, .tmp 27], argTypes := #[70, 70] }, 70, "seglog.go:191", #[⟨0, .data⟩, ⟨13, .data⟩, ⟨12, .chain⟩], none⟩) rfl (fun Kr hKr => ?_)
      refine step_app rfl rst_str _ _ (by rfl) (by rfl) (by rfl) hv (s1.own 0 rfl) (rdCells_block (s1.own 1 rfl).h0 rfl (by simp [Value.oneCell'])) (by unfold maxLen; omega) (by omega) ?_
      intro a9 c9 w10 H9 hv9 hst9
      have s1 : Sp w [] w10 [H9, _] := s1.put 0 rfl hst9
      clear hst9
      refine hKr.out _ _ (fun hJ => ?_) (fun hF => ?_)
      · first
        | exact absurd hJ (by decide)
        | (clear hJ; (try dsimp only); all_goals (exact hK.out _ _ s1))
      clear hKr
      try simp only [Act.put, nrmA, nrmB, nrmC]
      refine wpAnyJ_ready (rs := [15]) (by kernel_rfl) (by simp) ?_
      refine AllJ.cons1 (o := ⟨some 3, .assign (.tmp 28), 70, "seglog.go:191", #[⟨14, .data⟩, ⟨14, .chain⟩, ⟨0, .phase⟩, ⟨1, .phase⟩, ⟨2, .phase⟩, ⟨3, .phase⟩, ⟨4, .phase⟩, ⟨5, .phase⟩, ⟨6, .phase⟩, ⟨7, .phase⟩, ⟨8, .phase⟩, ⟨9, .phase⟩, ⟨10, .phase⟩, ⟨11, .phase⟩, ⟨12, .phase⟩, ⟨13, .phase⟩, ⟨14, .phase⟩], none⟩) rfl (fun Kr hKr => ?_)
      go_simp
      refine hKr.out _ _ (fun hJ => ?_) (fun hF => ?_)
      · first
        | exact absurd hJ (by decide)
        | (clear hJ; (try dsimp only); all_goals (exact hK.out _ _ s1))
      clear hKr
      try simp only [Act.put, nrmA, nrmB, nrmC]
      refine wpAnyJ_done (by kernel_rfl) ?_ _
      go_wp2_with fail
      refine ⟨⟨i + 1, a9, c9, H9, by go_num, rfl, by rw [hnl.out]; exact hlt, by rw [htk.out]; exact hv9, s1.first⟩, by simp [intOf]; omega⟩
    · have i1 : (n : Int) ≤ (i : Int) := by omega
      have hie : i = n := by omega
      have hfin : Hid (NamesPost L w (.returned (.slice a1 i c1)) wr) := by
        refine ⟨a1, c1, H1, by rw [hnl.out, hie], ?_, hs⟩
        rw [hnl.out, ← hie]
        have := hv
        rw [List.take_of_length_le (by rw [hnl.out]; omega)] at this
        exact this
      clear hie hlt hv
      go_wp2_with fail
      go_ret
      exact hfin.out
end Go.Proofs.YtdolbeonpkanpaaGreatDoor
