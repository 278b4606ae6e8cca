/- The program's log: reads. -/
import Derived.Test.YtdolbeonpkanpaaGreatDoorMDkH
import Derived.Test.YtdolbeonpkanpaaGreatDoorMOcD
import Derived.Test.YtdolbeonpkanpaaGreatDoorSgE
set_option linter.unusedVariables false
set_option linter.unusedSimpArgs false
namespace Go.Proofs.YtdolbeonpkanpaaGreatDoor
open Go.RowKit
attribute [local go_sem ↓] Go.wp_at_zero Go.wp_at_succ

/-- What is told of reading a segment, half-way. -/
def RdRel (b d n0 : Nat) (p : Nm) (lg : Lg) (l : List UInt8) (DH S G : Heaplet) (w0 : World) (K : Heaplet) (v4 : Value) (wr : World) : Prop :=
  ∃ (g : Nat) (es : List (List UInt8)) (B E XH : Heaplet), v4 = iv g ∧ g ≤ l.length ∧ es.length ≤ g ∧ (∀ e ∈ es, e.length ≤ 1073741824) ∧
    rdSeg l n0 = (es ++ (rdRows (scanN (l.drop g)).1 (n0 + es.length)).1, g + (rdRows (scanN (l.drop g)).1 (n0 + es.length)).2) ∧
    LgIs b d p { lg with L := lg.L ++ es } B S E XH ∧ Sp w0 K wr [DH, B, S, E, XH, G]
def RdEnd (b d n0 : Nat) (p : Nm) (lg : Lg) (l : List UInt8) (DH S G : Heaplet) (w0 : World) (K : Heaplet) (v4 : Value) (wr : World) : Prop :=
  ∃ (g : Nat) (es : List (List UInt8)) (B E XH : Heaplet), v4 = iv g ∧ g ≤ l.length ∧ rdSeg l n0 = (es, g) ∧ LgIs b d p { lg with L := lg.L ++ es } B S E XH ∧ Sp w0 K wr [DH, B, S, E, XH, G]
def RsPost (b d : Nat) (p : Nm) (k : Dk) (r : Int × Bool × Lg) (DH : Heaplet) (w0 : World) (K : Heaplet) (e : Ending) (w' : World) : Prop :=
  e = .returned (.tuple #[ii r.1, .bool r.2.1]) ∧ ∃ B S E XH, LgIs b d p r.2.2 B S E XH ∧ Sp w0 K w' [DH, B, S, E, XH]
set_option maxHeartbeats 4000000 in
set_option maxRecDepth 100000 in
theorem reads_any (b d : Nat) (p s : Nm) (lg : Lg) (k : Dk) (DH B S E XH : Heaplet) (w0 w : World) (K : Heaplet) (hd : DkRep d k DH) (hk : k.Ok) (h : LgIs b d p lg B S E XH) (sp : Sp w0 K w [DH, B, S, E, XH]) (hT : TabK w0 K) (hp : p.length ≤ 1000) (hs : s.length ≤ 1000)
    (hL : lg.L.length ≤ 4396972769280) (hsg : lg.segs.length ≤ 4396972769280) (hE : ∀ e ∈ lg.L, e.length ≤ 1073741824) (hfile : isF k.L s = true) :
    Calls Tryz.prog 53 #[pt b, strV s] w (RsPost b d p k (readN p k lg s) DH w0 K) := by
  have hh := Lib.hid h
  obtain ⟨sa, ea, sc, ec, X, hs0, hr0, hdX, rfl, rfl⟩ := h
  obtain ⟨c0, c1, c2, c3, c4, c5⟩ := lobj_cells (sp.own 1 rfl)
  have xlt := heap_lt (sp.own 1 rfl).h0
  have b1 : (lg.L.length : Int) ≤ 4396972769280 := by omega
  obtain ⟨n0, hn0⟩ : ∃ n0, n0 = lg.L.length + 1 := ⟨_, rfl⟩
  have hnm := Lib.hid (fun W Hs (sp : Sp w0 K W Hs) => name_any p n0 hp (by omega) W (hT _ _ (sp.out rfl)))
  have q1 : IntKind.i64.wrap ((lg.L.length : Int) + 1) = (n0 : Int) := by rw [IntWalk.i64_in _ (by omega), hn0]; omega
  have d1 : (⟨s.toArray⟩ : ByteArray).toList = s := by rw [ByteArray.toList_eq]
  have d2 : (⟨(nameN p n0).toArray⟩ : ByteArray).toList = nameN p n0 := by rw [ByteArray.toList_eq]
  by_cases hne : s ≠ nameN p n0
  · have e1 : Hid (readN p k lg s = (-1, false, lg)) := by show _ = _; unfold readN; rw [← hn0, if_pos hne]
    have q6 : (s == nameN p n0) = false := beq_eq_false_iff_ne.2 hne
    replace hne := Lib.hid hne
    replace hn0 := Lib.hid hn0
    generalize nameN p n0 = nm at *
    go_enter Tryz.func53, Tryz.ntmps53
    go_upto_region 1 with fail
    replace sp := sp.drew
    refine wp_region_J 12 (fun w' => w'.cell? ⟨b, 1, none⟩ = some (strV p) ∧ w'.cell? ⟨b, 3, none⟩ = some (.slice ea lg.L.length ec)) (by kernel_rfl) ?_ (fun hF => ?_)
    · (try dsimp only)
      all_goals (exact ⟨(lobj_cells (sp.own 1 rfl)).2.1, (lobj_cells (sp.own 1 rfl)).2.2.2.1⟩)
    refine tk0 (i := 0) (oi := ⟨some 13, .move (.tmp 1), 9, "seglog.go:90", #[], none⟩) (v := ?_) rfl (by kernel_rfl) (fun _ _ _ h => h) (fun _ => hF) (fun w => ?_) (by rfl) ?_
    rotate_left
    · first | (go_simp; done) | (go_simp; with_reducible rfl) | (go_split_ands; go_simp; done)
    try simp only [Act.put, nrmA, nrmB, nrmC]
    refine tk0 (i := 1) (oi := ⟨some 14, .move (.tmp 0), 30, "seglog.go:90", #[], none⟩) (v := ?_) rfl (by kernel_rfl) (fun _ _ _ h => h) (fun _ => hF) (fun w => ?_) (by rfl) ?_
    rotate_left
    · first | (go_simp; done) | (go_simp; with_reducible rfl) | (go_split_ands; go_simp; done)
    try simp only [Act.put, nrmA, nrmB, nrmC]
    refine tk0 (i := 2) (oi := ⟨some 15, .nilCheck (.tmp 14), 0, "seglog.go:90", #[⟨1, .data⟩], none⟩) (v := ?_) rfl (by kernel_rfl) (fun _ _ _ h => h) (fun _ => hF) (fun w => ?_) (by rfl) ?_
    rotate_left
    · first | (go_simp; done) | (go_simp; with_reducible rfl) | (go_split_ands; go_simp; done)
    try simp only [Act.put, nrmA, nrmB, nrmC]
    refine tk0 (i := 3) (oi := ⟨some 16, .fieldAddr 86 (.tmp 15) 1, 0, "seglog.go:90", #[⟨2, .data⟩], none⟩) (v := ?_) rfl (by kernel_rfl) (fun _ _ _ h => h) (fun _ => hF) (fun w => ?_) (by rfl) ?_
    rotate_left
    · first | (go_simp; done) | (go_simp; with_reducible rfl) | (go_split_ands; go_simp; done)
    try simp only [Act.put, nrmA, nrmB, nrmC]
    refine tk1 (i := 4) (oi := ⟨some 17, .load 9 (.tmp 16), 9, "seglog.go:90", #[⟨3, .data⟩], none⟩) (v := ?_) [11, 12] rfl (by kernel_rfl) (fun _ _ _ h => h) hF (fun w hFw => ?_) (by rfl) ?_
    rotate_left
    · ((try dsimp only at hFw); first | (go_simp; done) | (go_simp; with_reducible rfl) | (go_split_ands; go_simp; done))
    try simp only [Act.put, nrmA, nrmB, nrmC]
    refine tk0 (i := 5) (oi := ⟨some 18, .move (.tmp 0), 30, "seglog.go:90", #[], none⟩) (v := ?_) rfl (by kernel_rfl) (fun _ _ _ h => h) (fun _ => hF) (fun w => ?_) (by rfl) ?_
    rotate_left
    · first | (go_simp; done) | (go_simp; with_reducible rfl) | (go_split_ands; go_simp; done)
    try simp only [Act.put, nrmA, nrmB, nrmC]
    refine tk0 (i := 6) (oi := ⟨some 19, .nilCheck (.tmp 18), 0, "seglog.go:90", #[⟨5, .data⟩], none⟩) (v := ?_) rfl (by kernel_rfl) (fun _ _ _ h => h) (fun _ => hF) (fun w => ?_) (by rfl) ?_
    rotate_left
    · first | (go_simp; done) | (go_simp; with_reducible rfl) | (go_split_ands; go_simp; done)
    try simp only [Act.put, nrmA, nrmB, nrmC]
    refine tk0 (i := 7) (oi := ⟨some 20, .fieldAddr 86 (.tmp 19) 3, 0, "seglog.go:90", #[⟨6, .data⟩], none⟩) (v := ?_) rfl (by kernel_rfl) (fun _ _ _ h => h) (fun _ => hF) (fun w => ?_) (by rfl) ?_
    rotate_left
    · first | (go_simp; done) | (go_simp; with_reducible rfl) | (go_split_ands; go_simp; done)
    try simp only [Act.put, nrmA, nrmB, nrmC]
    refine tk1 (i := 8) (oi := ⟨some 21, .load 22 (.tmp 20), 22, "seglog.go:90", #[⟨7, .data⟩], none⟩) (v := ?_) [9, 10, 11, 12] rfl (by kernel_rfl) (fun _ _ _ h => h) hF (fun w hFw => ?_) (by rfl) ?_
    rotate_left
    · ((try dsimp only at hFw); first | (go_simp; done) | (go_simp; with_reducible rfl) | (go_split_ands; go_simp; done))
    try simp only [Act.put, nrmA, nrmB, nrmC]
    refine tk1 (i := 9) (oi := ⟨some 22, .call { callee := .builtin .len, args := #[.tmp 21], argTypes := #[22] }, 3, "seglog.go:90", #[⟨8, .data⟩], none⟩) (v := ?_) [10, 11, 12] rfl (by kernel_rfl) (fun _ _ _ h => h) hF (fun w hFw => ?_) (by rfl) ?_
    rotate_left
    · ((try dsimp only at hFw); first | (go_simp; done) | (go_simp; with_reducible rfl) | (go_split_ands; go_simp; done))
    try simp only [Act.put, nrmA, nrmB, nrmC]
    refine tk0 (i := 10) (oi := ⟨some 23, .binOp .add 3 (.tmp 22) (.const (.int .i64 1)) 3, 3, "seglog.go:90", #[⟨9, .data⟩], none⟩) (v := ?_) rfl (by kernel_rfl) (fun _ _ _ h => h) (fun _ => hF) (fun w => ?_) (by rfl) ?_
    rotate_left
    · first | (go_simp; done) | (go_simp; with_reducible rfl) | (go_split_ands; go_simp; done)
    try simp only [Act.put, nrmA, nrmB, nrmC]
    refine wpAnyJ_ready (rs := [11]) (by kernel_rfl) (by simp) ?_
    refine AllJ.cons1 (o := ⟨some 24, .call { callee := .value (.func 41), args := #[.tmp 17, .tmp 23], argTypes := #[9, 3] }, 9, "seglog.go:90", #[⟨4, .data⟩, ⟨10, .data⟩], none⟩) rfl (fun Kr hKr => ?_)
    go_simp; go_at_call 41; refine (hnm.out _ _ sp).mono ?_; rintro e w3 ⟨rfl, hst⟩
    have sp : Sp w0 K w3 _ := sp.still hst
    refine hKr.out _ _ (fun hJ => ?_) (fun hF => ?_)
    · first
      | exact absurd hJ (by decide)
      | (clear hJ; (try dsimp only); all_goals (exact ⟨(lobj_cells (sp.own 1 rfl)).2.1, (lobj_cells (sp.own 1 rfl)).2.2.2.1⟩))
    clear hKr
    try simp only [Act.put, nrmA, nrmB, nrmC]
    refine wpAnyJ_ready (rs := [12]) (by kernel_rfl) (by simp) ?_
    refine AllJ.cons1 (o := ⟨some 25, .binOp .neq 9 (.tmp 13) (.tmp 24) 9, 4, "seglog.go:90", #[⟨0, .data⟩, ⟨11, .data⟩], none⟩) rfl (fun Kr hKr => ?_)
    go_simp
    refine hKr.out _ _ (fun hJ => ?_) (fun hF => ?_)
    · first
      | exact absurd hJ (by decide)
      | (clear hJ; (try dsimp only); all_goals (exact ⟨(lobj_cells (sp.own 1 rfl)).2.1, (lobj_cells (sp.own 1 rfl)).2.2.2.1⟩))
    clear hKr
    try simp only [Act.put, nrmA, nrmB, nrmC]
    refine wpAnyJ_done (by kernel_rfl) ?_ _
    go_wp2_with fail
    go_ret2
    rw [e1.out]
    exact ⟨rfl, _, S, E, _, hh.out, sp⟩
  · have hse : s = nameN p n0 := Classical.byContradiction hne
    have q6 : (s == nameN p n0) = true := by rw [hse]; simp
    obtain ⟨l, hl⟩ : ∃ l, l = (rdN s k).1 := ⟨_, rfl⟩
    have hll : l.length ≤ 1073741824 := by
      rw [hl]
      unfold rdN
      rw [if_pos hfile]
      have := used_get hfile
      have := hk.used
      have := hk.room
      show (getF k.L s).1.length ≤ _
      omega
    have hrd := Lib.hid (fun W hW => dread d k DH s W hd hk hW)
    rw [← hl] at hrd
    have e1 : Hid (readN p k lg s = (((rdSeg l n0).2 : Int), decide ((rdSeg l n0).2 = l.length), { lg with L := lg.L ++ (rdSeg l n0).1, segs := if (rdSeg l n0).2 = l.length ∨ 0 < (rdSeg l n0).2 then lg.segs ++ [(n0, (rdSeg l n0).2)] else lg.segs })) := by
      show _ = _; unfold readN; rw [← hn0, if_neg hne, ← hl]
    have hsn := Lib.hid hse
    clear hne hse
    replace hn0 := Lib.hid hn0
    replace hl := Lib.hid hl
    have hsq : Hid (s = nameN p n0) := hsn.out
    generalize hnmv : nameN p n0 = nm at hnm q6 d2
    replace hnmv := Lib.hid hnmv
    go_enter Tryz.func53, Tryz.ntmps53
    go_upto_region 1 with fail
    replace sp := sp.drew
    refine wp_region_J 12 (fun w' => w'.cell? ⟨b, 1, none⟩ = some (strV p) ∧ w'.cell? ⟨b, 3, none⟩ = some (.slice ea lg.L.length ec)) (by kernel_rfl) ?_ (fun hF => ?_)
    · (try dsimp only)
      all_goals (exact ⟨(lobj_cells (sp.own 1 rfl)).2.1, (lobj_cells (sp.own 1 rfl)).2.2.2.1⟩)
    refine tk0 (i := 0) (oi := ⟨some 13, .move (.tmp 1), 9, "seglog.go:90", #[], none⟩) (v := ?_) rfl (by kernel_rfl) (fun _ _ _ h => h) (fun _ => hF) (fun w => ?_) (by rfl) ?_
    rotate_left
    · first | (go_simp; done) | (go_simp; with_reducible rfl) | (go_split_ands; go_simp; done)
    try simp only [Act.put, nrmA, nrmB, nrmC]
    refine tk0 (i := 1) (oi := ⟨some 14, .move (.tmp 0), 30, "seglog.go:90", #[], none⟩) (v := ?_) rfl (by kernel_rfl) (fun _ _ _ h => h) (fun _ => hF) (fun w => ?_) (by rfl) ?_
    rotate_left
    · first | (go_simp; done) | (go_simp; with_reducible rfl) | (go_split_ands; go_simp; done)
    try simp only [Act.put, nrmA, nrmB, nrmC]
    refine tk0 (i := 2) (oi := ⟨some 15, .nilCheck (.tmp 14), 0, "seglog.go:90", #[⟨1, .data⟩], none⟩) (v := ?_) rfl (by kernel_rfl) (fun _ _ _ h => h) (fun _ => hF) (fun w => ?_) (by rfl) ?_
    rotate_left
    · first | (go_simp; done) | (go_simp; with_reducible rfl) | (go_split_ands; go_simp; done)
    try simp only [Act.put, nrmA, nrmB, nrmC]
    refine tk0 (i := 3) (oi := ⟨some 16, .fieldAddr 86 (.tmp 15) 1, 0, "seglog.go:90", #[⟨2, .data⟩], none⟩) (v := ?_) rfl (by kernel_rfl) (fun _ _ _ h => h) (fun _ => hF) (fun w => ?_) (by rfl) ?_
    rotate_left
    · first | (go_simp; done) | (go_simp; with_reducible rfl) | (go_split_ands; go_simp; done)
    try simp only [Act.put, nrmA, nrmB, nrmC]
    refine tk1 (i := 4) (oi := ⟨some 17, .load 9 (.tmp 16), 9, "seglog.go:90", #[⟨3, .data⟩], none⟩) (v := ?_) [11, 12] rfl (by kernel_rfl) (fun _ _ _ h => h) hF (fun w hFw => ?_) (by rfl) ?_
    rotate_left
    · ((try dsimp only at hFw); first | (go_simp; done) | (go_simp; with_reducible rfl) | (go_split_ands; go_simp; done))
    try simp only [Act.put, nrmA, nrmB, nrmC]
    refine tk0 (i := 5) (oi := ⟨some 18, .move (.tmp 0), 30, "seglog.go:90", #[], none⟩) (v := ?_) rfl (by kernel_rfl) (fun _ _ _ h => h) (fun _ => hF) (fun w => ?_) (by rfl) ?_
    rotate_left
    · first | (go_simp; done) | (go_simp; with_reducible rfl) | (go_split_ands; go_simp; done)
    try simp only [Act.put, nrmA, nrmB, nrmC]
    refine tk0 (i := 6) (oi := ⟨some 19, .nilCheck (.tmp 18), 0, "seglog.go:90", #[⟨5, .data⟩], none⟩) (v := ?_) rfl (by kernel_rfl) (fun _ _ _ h => h) (fun _ => hF) (fun w => ?_) (by rfl) ?_
    rotate_left
    · first | (go_simp; done) | (go_simp; with_reducible rfl) | (go_split_ands; go_simp; done)
    try simp only [Act.put, nrmA, nrmB, nrmC]
    refine tk0 (i := 7) (oi := ⟨some 20, .fieldAddr 86 (.tmp 19) 3, 0, "seglog.go:90", #[⟨6, .data⟩], none⟩) (v := ?_) rfl (by kernel_rfl) (fun _ _ _ h => h) (fun _ => hF) (fun w => ?_) (by rfl) ?_
    rotate_left
    · first | (go_simp; done) | (go_simp; with_reducible rfl) | (go_split_ands; go_simp; done)
    try simp only [Act.put, nrmA, nrmB, nrmC]
    refine tk1 (i := 8) (oi := ⟨some 21, .load 22 (.tmp 20), 22, "seglog.go:90", #[⟨7, .data⟩], none⟩) (v := ?_) [9, 10, 11, 12] rfl (by kernel_rfl) (fun _ _ _ h => h) hF (fun w hFw => ?_) (by rfl) ?_
    rotate_left
    · ((try dsimp only at hFw); first | (go_simp; done) | (go_simp; with_reducible rfl) | (go_split_ands; go_simp; done))
    try simp only [Act.put, nrmA, nrmB, nrmC]
    refine tk1 (i := 9) (oi := ⟨some 22, .call { callee := .builtin .len, args := #[.tmp 21], argTypes := #[22] }, 3, "seglog.go:90", #[⟨8, .data⟩], none⟩) (v := ?_) [10, 11, 12] rfl (by kernel_rfl) (fun _ _ _ h => h) hF (fun w hFw => ?_) (by rfl) ?_
    rotate_left
    · ((try dsimp only at hFw); first | (go_simp; done) | (go_simp; with_reducible rfl) | (go_split_ands; go_simp; done))
    try simp only [Act.put, nrmA, nrmB, nrmC]
    refine tk0 (i := 10) (oi := ⟨some 23, .binOp .add 3 (.tmp 22) (.const (.int .i64 1)) 3, 3, "seglog.go:90", #[⟨9, .data⟩], none⟩) (v := ?_) rfl (by kernel_rfl) (fun _ _ _ h => h) (fun _ => hF) (fun w => ?_) (by rfl) ?_
    rotate_left
    · first | (go_simp; done) | (go_simp; with_reducible rfl) | (go_split_ands; go_simp; done)
    try simp only [Act.put, nrmA, nrmB, nrmC]
    refine wpAnyJ_ready (rs := [11]) (by kernel_rfl) (by simp) ?_
    refine AllJ.cons1 (o := ⟨some 24, .call { callee := .value (.func 41), args := #[.tmp 17, .tmp 23], argTypes := #[9, 3] }, 9, "seglog.go:90", #[⟨4, .data⟩, ⟨10, .data⟩], none⟩) rfl (fun Kr hKr => ?_)
    go_simp; go_at_call 41; refine (hnm.out _ _ sp).mono ?_; rintro e w3 ⟨rfl, hst⟩
    have sp : Sp w0 K w3 [DH, [(b, lobj d p sa lg.segs.length sc ea lg.L.length ec lg.synced lg.dead)], S, E, rwH X] := sp.still hst
    clear hst
    refine hKr.out _ _ (fun hJ => ?_) (fun hF => ?_)
    · first
      | exact absurd hJ (by decide)
      | (clear hJ; (try dsimp only); all_goals (exact ⟨(lobj_cells (sp.own 1 rfl)).2.1, (lobj_cells (sp.own 1 rfl)).2.2.2.1⟩))
    clear hKr
    try simp only [Act.put, nrmA, nrmB, nrmC]
    refine wpAnyJ_ready (rs := [12]) (by kernel_rfl) (by simp) ?_
    refine AllJ.cons1 (o := ⟨some 25, .binOp .neq 9 (.tmp 13) (.tmp 24) 9, 4, "seglog.go:90", #[⟨0, .data⟩, ⟨11, .data⟩], none⟩) rfl (fun Kr hKr => ?_)
    go_simp
    refine hKr.out _ _ (fun hJ => ?_) (fun hF => ?_)
    · first
      | exact absurd hJ (by decide)
      | (clear hJ; (try dsimp only); all_goals (exact ⟨(lobj_cells (sp.own 1 rfl)).2.1, (lobj_cells (sp.own 1 rfl)).2.2.2.1⟩))
    clear hKr
    try simp only [Act.put, nrmA, nrmB, nrmC]
    refine wpAnyJ_done (by kernel_rfl) ?_ _
    clear c0 c1 c2 c3 c4 c5 xlt
    obtain ⟨c0, c1, c2, c3, c4, c5⟩ := lobj_cells (sp.own 1 rfl)
    clear q1
    go_wp2_with fail
    refine (hrd.out _ (sp.own 0 rfl)).mono ?_
    rintro e w4 ⟨al, cl, G, rfl, hG, hst⟩
    have sp : Sp w0 K w4 [DH, _, S, E, rwH X, G] := sp.fresh hst
    clear hst c0 c1 c2 c3 c4 c5
    have hin : Hid (RdRel b d n0 p lg l DH S G w0 K (iv 0) w4) := ⟨0, [], _, E, _, rfl, Nat.zero_le _, Nat.zero_le _, by simp, by simp [rdSeg], ⟨sa, ea, sc, ec, X, hs0, hr0, by rw [List.append_nil]; exact hdX, rfl, by rw [List.append_nil]⟩, sp⟩
    clear sp
    replace hG := Lib.hid hG
    have hll1 : (l.length : Int) ≤ 1073741824 := by omega
    go_upto_block 0 with fail
    go_cut [4] (fun v4 wr => RdEnd b d n0 p lg l DH S G w0 K v4 wr)
    case first =>
      go_wp2_with fail
      go_loopw [4] (fun v4 wr => RdRel b d n0 p lg l DH S G w0 K v4 wr) (fun v _ => l.length - (intOf v).toNat)
      case atStart => exact hin.out
      case round =>
        clear hin
        obtain ⟨g, es, B1, E1, XH1, rfl, hg, hes, hesl, hseg, hlg, sp⟩ := hrel
        have d0 : (0 : Int) ≤ (g : Int) := by omega
        have hfinish : Hid ((rdRows (scanN (l.drop g)).1 (n0 + es.length)) = ([], 0) → ∀ V, Sp w0 K V [DH, B1, S, E1, XH1, G] → RdEnd b d n0 p lg l DH S G w0 K (iv g) V) := fun e V spV => ⟨g, es, B1, E1, XH1, rfl, hg, by rw [hseg, e]; simp, hlg, spV⟩
        by_cases hlt : g < l.length
        · have dl : (g : Int) < (l.length : Int) := by omega
          have hb := hG.out.rdBytes (sp.own 5 rfl)
          obtain ⟨bg, og, rfl, hinb, hlc⟩ := rd_in hb (by intro e; subst e; simp at hlt)
          have dc : (l.length : Int) ≤ (cl : Int) := by omega
          have dn : ¬ cl = g := by omega
          have dg : (g : Int) ≤ (l.length : Int) := by omega
          have hsub := (inB_drop hinb (n := g) (by omega) (by omega)).1 wr hb
          rw [List.length_drop] at hsub
          have hdec := Lib.hid (decode_any _ _ _ _ wr hsub (by rw [List.length_drop]; omega))
          clear hsub hb hinb
          obtain ⟨sa1, ea1, sc1, ec1, X1, hs1, hr1, hdX1, rfl, rfl⟩ := hlg
          simp only at hs1
          obtain ⟨nl, hnl⟩ : ∃ nl, nl = (lg.L ++ es).length := ⟨_, rfl⟩
          have hnl2 : nl + 1 = n0 + es.length := by rw [hnl, List.length_append, hn0.out]; omega
          have hnl3 : nl ≤ 4397000000000 + 1073741824 := by rw [hnl, List.length_append]; omega
          replace hnl2 := Lib.hid hnl2
          rw [← hnl] at sp
          have hX1n : X1.length = nl := by rw [← rwD_len, hdX1, hnl]
          replace hnl := Lib.hid hnl
          by_cases he : (decN (l.drop g)).1 = 0
          · obtain ⟨_, hok1, _, hok3, hok4⟩ := decN_ok he
            have hok2 := (decN_ok he).1
            rw [List.length_drop] at hok2
            have hgo := scanN_go he
            rw [List.drop_drop] at hgo
            obtain ⟨⟨e, q, m⟩, hd2⟩ : ∃ d, d = decN (l.drop g) := ⟨_, rfl⟩
            rw [← hd2] at hgo he hok3 hok4 hdec
            simp only at hgo he hok3 hok4
            subst he
            have hm1 : g + m ≤ l.length := by omega
            have hm2 : 12 ≤ m := by omega
            have hql : q.length ≤ 65536 := by omega
            have hqm : m = q.length + 12 := by omega
            clear hok1 hok2 hok3 hok4
            replace hd2 := Lib.hid hd2
            rw [hgo] at hseg hfinish
            simp only at hseg hfinish
            rw [rdRows] at hseg hfinish
            obtain ⟨⟨re, rv, rr⟩, hrn⟩ : ∃ r, r = rdNum q := ⟨_, rfl⟩
            have hsuf := rdNum_suf q
            have hrerr := fun h => rdNum_err (l := q) h
            rw [← hrn] at hseg hfinish hsuf hrerr
            simp only at hseg hfinish hsuf hrerr
            replace hgo := Lib.hid hgo
            go_upto_region 5 with fail
            go_wp2_with fail
            refine hdec.out.mono ?_
            rintro e' w1 (⟨h0, _⟩ | ⟨_, aq, cq, Gq, rfl, rq, hst⟩)
            · exact absurd rfl h0
            · simp only at rq
              have sp1 : Sp w0 K w1 [DH, [(b, lobj d p sa1 lg.segs.length sc1 ea1 nl ec1 lg.synced lg.dead)], S, E1, rwH X1, G, Gq] := sp.fresh hst
              clear hst sp
              replace rq := Lib.hid rq
              have hnr := Lib.hid (newReader_any aq q.length cq q w1 (rq.out.rdBytes (sp1.own 6 rfl)) (by omega))
              go_wp2_with fail
              refine hnr.out.mono ?_
              rintro e' w2 ⟨b2, G2, H2, rfl, hrep, s2⟩
              go_wp2_with fail
              refine (rnum_any b2 q G2 H2 w1 w2 hrep s2).mono ?_
              rintro e' w3 ⟨rfl, H3, hrep3, s3⟩
              rw [← hrn] at hrep3 ⊢
              simp only at hrep3 ⊢
              have sp3 : Sp w0 K w3 [DH, [(b, lobj d p sa1 lg.segs.length sc1 ea1 nl ec1 lg.synced lg.dead)], S, E1, rwH X1, G, Gq, G2, H3] := by
                have := sp1.fresh (s3.out rfl)
                exact this.perm (by simp)
              clear hrep s2 s3 sp1 hnr
              replace hrn := Lib.hid hrn
              obtain ⟨c0, c1, c2, c3, c4, c5⟩ := lobj_cells (sp3.own 1 rfl)
              have xlt := heap_lt (sp3.own 1 rfl).h0
              by_cases hv : rv = ((n0 + es.length : Nat) : Int)
              · have hre : re = 0 := by
                  rcases Nat.eq_zero_or_pos re with h | h
                  · exact h
                  · have := hrerr (by omega)
                    rw [this] at hv
                    have := hnl2.out
                    omega
                rw [if_pos ⟨hre, hv⟩] at hseg
                subst hre
                have q9 : (rv != (nl : Int) + 1) = false := by
                  have : rv = (nl : Int) + 1 := by rw [hv, ← hnl2.out]; omega
                  rw [this]; simp
                obtain ⟨z, hz⟩ : ∃ z, z = q.length - rr.length := ⟨_, rfl⟩
                have hz1 : z + rr.length = q.length := by omega
                have hz2 : z ≤ q.length := by omega
                have hqpos : 0 < q.length := by
                  rcases Nat.eq_zero_or_pos q.length with h | h
                  · have : q = [] := List.eq_nil_of_length_eq_zero h
                    have h2 := hrn.out
                    rw [this] at h2
                    have h3 : ((0 : Nat), rv, rr) = ((2 : Nat), (0 : Int), ([] : List UInt8)) := h2
                    cases h3
                  · exact h
                obtain ⟨gq, rfl, hcq⟩ := sl_pos rq.out hqpos
                have hsufr : q.drop z = rr := by rw [hz]; exact hsuf.1.symm
                have hinq := inB_sl rq.out
                have hr1n : Hid (SlRep 23 1 ea1 nl ec1 (X1.map Rw.val) E1) := by rw [← hX1n]; exact hr1.1
                clear hfinish hrerr hsuf
                replace hz := Lib.hid hz
                replace hv := Lib.hid hv
                replace hseg := Lib.hid hseg
                have hcz : (q.length : Int) ≤ (cq : Int) := by omega
                have hz3 : z ≤ cq := by omega
                have hz4 : q.length - z = rr.length := by omega
                by_cases hrr0 : rr.length = 0
                · have hrrn : rr = [] := List.eq_nil_of_length_eq_zero hrr0
                  subst hrrn
                  have hend := Lib.hid (rend_any b2 [] 0 G2 H3 w3 hrep3 (sp3.own 8 rfl))
                  have hleft := Lib.hid (rleft_any b2 [] 0 G2 H3 w3 hrep3 (sp3.own 8 rfl))
                  go_upto_region 9 with fail
                  go_wp2_with fail
                  refine hleft.out.mono ?_
                  rintro e w4 ⟨rfl, hst⟩
                  have sp3 : Sp w0 K w4 [DH, [(b, lobj d p sa1 lg.segs.length sc1 ea1 nl ec1 lg.synced lg.dead)], S, E1, rwH X1, G, Gq, G2, H3] := sp3.still hst
                  clear hst hend hleft c0 c1 c2 c3 c4 c5 xlt
                  obtain ⟨c0, c1, c2, c3, c4, c5⟩ := lobj_cells (sp3.own 1 rfl)
                  have xlt := heap_lt (sp3.own 1 rfl).h0
                  have hend := Lib.hid (rend_any b2 [] 0 G2 H3 w4 hrep3 (sp3.own 8 rfl))
                  go_wp2_with fail
                  refine hend.out.mono ?_
                  rintro e w5 ⟨rfl, hst⟩
                  have sp3 : Sp w0 K w5 [DH, [(b, lobj d p sa1 lg.segs.length sc1 ea1 nl ec1 lg.synced lg.dead)], S, E1, rwH X1, G, Gq, G2, H3] := sp3.still hst
                  clear hst hend c0 c1 c2 c3 c4 c5 xlt
                  obtain ⟨c0, c1, c2, c3, c4, c5⟩ := lobj_cells (sp3.own 1 rfl)
                  have xlt := heap_lt (sp3.own 1 rfl).h0
                  obtain ⟨rr, hrr⟩ : ∃ rr : List UInt8, rr = [] := ⟨_, rfl⟩
                  rw [← hrr] at hrep3 hsufr hseg hz1 hz4
                  have hrr1 : rr.length = 0 := by rw [hrr]; rfl
                  replace hrr := Lib.hid hrr
                  replace hrr1 := Lib.hid hrr1
                  by_cases hcqz : cq = z
                  · subst hcqz
                    have hsubr : Hid (∀ V, Own V Gq → RdBytes V (some ⟨gq, 0, none⟩) rr.length 0 rr) := fun V o => by
                      have := (inB_drop_end hinq (by omega)).1 V o
                      rwa [hsufr] at this
                    replace hsufr := Lib.hid hsufr
                    go_upto_region 10 with fail
                    have qz : IntKind.i64.wrap ((q.length : Int) - (rr.length : Int)) = (cq : Int) := by rw [IntWalk.i64_in _ (by omega)]; omega
                    have hzi : (cq : Int) ≤ (q.length : Int) := by omega
                    clear c0 c1 c2 c3 c4 c5 q9
                    replace sp3 := sp3.drew
                    refine wp_region_J 17 (fun w' => w'.cell? ⟨b, 3, none⟩ = some (.slice ea1 nl ec1)) (by kernel_rfl) ?_ (fun hF => ?_)
                    · (try dsimp only)
                      all_goals (exact (lobj_cells (sp3.own 1 rfl)).2.2.2.1)
                    refine tk0 (i := 0) (oi := ⟨some 71, .move (.tmp 0), 30, "seglog.go:103", #[], none⟩) (v := ?_) rfl (by kernel_rfl) (fun _ _ _ h => h) (fun _ => hF) (fun w => ?_) (by rfl) ?_
                    rotate_left
                    · first | (go_simp; done) | (go_simp; with_reducible rfl) | (go_split_ands; go_simp; done)
                    try simp only [Act.put, nrmA, nrmB, nrmC]
                    refine tk0 (i := 1) (oi := ⟨some 72, .move (.tmp 0), 30, "seglog.go:103", #[], none⟩) (v := ?_) rfl (by kernel_rfl) (fun _ _ _ h => h) (fun _ => hF) (fun w => ?_) (by rfl) ?_
                    rotate_left
                    · first | (go_simp; done) | (go_simp; with_reducible rfl) | (go_split_ands; go_simp; done)
                    try simp only [Act.put, nrmA, nrmB, nrmC]
                    refine tk0 (i := 2) (oi := ⟨some 73, .nilCheck (.tmp 72), 0, "seglog.go:103", #[⟨1, .data⟩], none⟩) (v := ?_) rfl (by kernel_rfl) (fun _ _ _ h => h) (fun _ => hF) (fun w => ?_) (by rfl) ?_
                    rotate_left
                    · first | (go_simp; done) | (go_simp; with_reducible rfl) | (go_split_ands; go_simp; done)
                    try simp only [Act.put, nrmA, nrmB, nrmC]
                    refine tk0 (i := 3) (oi := ⟨some 74, .fieldAddr 86 (.tmp 73) 3, 0, "seglog.go:103", #[⟨2, .data⟩], none⟩) (v := ?_) rfl (by kernel_rfl) (fun _ _ _ h => h) (fun _ => hF) (fun w => ?_) (by rfl) ?_
                    rotate_left
                    · first | (go_simp; done) | (go_simp; with_reducible rfl) | (go_split_ands; go_simp; done)
                    try simp only [Act.put, nrmA, nrmB, nrmC]
                    refine tk1 (i := 4) (oi := ⟨some 75, .load 22 (.tmp 74), 22, "seglog.go:103", #[⟨3, .data⟩], none⟩) (v := ?_) [17] rfl (by kernel_rfl) (fun _ _ _ h => h) hF (fun w hFw => ?_) (by rfl) ?_
                    rotate_left
                    · ((try dsimp only at hFw); first | (go_simp; done) | (go_simp; with_reducible rfl) | (go_split_ands; go_simp; done))
                    try simp only [Act.put, nrmA, nrmB, nrmC]
                    refine tk0 (i := 5) (oi := ⟨some 76, .move (.tmp 8), 23, "seglog.go:103", #[], none⟩) (v := ?_) rfl (by kernel_rfl) (fun _ _ _ h => h) (fun _ => hF) (fun w => ?_) (by rfl) ?_
                    rotate_left
                    · first | (go_simp; done) | (go_simp; with_reducible rfl) | (go_split_ands; go_simp; done)
                    try simp only [Act.put, nrmA, nrmB, nrmC]
                    refine tk0 (i := 6) (oi := ⟨some 77, .move (.tmp 8), 23, "seglog.go:103", #[], none⟩) (v := ?_) rfl (by kernel_rfl) (fun _ _ _ h => h) (fun _ => hF) (fun w => ?_) (by rfl) ?_
                    rotate_left
                    · first | (go_simp; done) | (go_simp; with_reducible rfl) | (go_split_ands; go_simp; done)
                    try simp only [Act.put, nrmA, nrmB, nrmC]
                    refine tk1 (i := 7) (oi := ⟨some 78, .call { callee := .builtin .len, args := #[.tmp 77], argTypes := #[23] }, 3, "seglog.go:103", #[⟨6, .data⟩], none⟩) (v := ?_) [17] rfl (by kernel_rfl) (fun _ _ _ h => h) hF (fun w hFw => ?_) (by rfl) ?_
                    rotate_left
                    · ((try dsimp only at hFw); first | (go_simp; done) | (go_simp; with_reducible rfl) | (go_split_ands; go_simp; done))
                    try simp only [Act.put, nrmA, nrmB, nrmC]
                    refine tk0 (i := 8) (oi := ⟨some 79, .move (.tmp 11), 145, "seglog.go:103", #[], none⟩) (v := ?_) rfl (by kernel_rfl) (fun _ _ _ h => h) (fun _ => hF) (fun w => ?_) (by rfl) ?_
                    rotate_left
                    · first | (go_simp; done) | (go_simp; with_reducible rfl) | (go_split_ands; go_simp; done)
                    try simp only [Act.put, nrmA, nrmB, nrmC]
                    refine wpAnyJ_ready (rs := [9]) (by kernel_rfl) (by simp) ?_
                    refine AllJ.cons1 (o := ⟨some 80, .call { callee := .value (.func 91), args := #[.tmp 79], argTypes := #[145] }, 3, "seglog.go:103", #[⟨8, .data⟩], none⟩) rfl (fun Kr hKr => ?_)
                    go_simp; go_at_call 91; refine (rleft_any b2 rr 0 G2 H3 _ hrep3 (sp3.own 8 rfl)).mono ?_; rintro e w4 ⟨rfl, hst⟩
                    have sp3 : Sp w0 K w4 [DH, [(b, lobj d p sa1 lg.segs.length sc1 ea1 nl ec1 lg.synced lg.dead)], S, E1, rwH X1, G, Gq, G2, H3] := sp3.still hst
                    clear hst
                    refine hKr.out _ _ (fun hJ => ?_) (fun hF => ?_)
                    · first
                      | exact absurd hJ (by decide)
                      | (clear hJ; (try dsimp only); all_goals (exact (lobj_cells (sp3.own 1 rfl)).2.2.2.1))
                    clear hKr
                    try simp only [Act.put, nrmA, nrmB, nrmC]
                    refine tk0 (i := 10) (oi := ⟨some 81, .binOp .sub 3 (.tmp 78) (.tmp 80) 3, 3, "seglog.go:103", #[⟨7, .data⟩, ⟨9, .data⟩], none⟩) (v := ?_) rfl (by kernel_rfl) (fun _ _ _ h => h) (fun _ => hF (by kernel_rfl)) (fun w => ?_) (by rfl) ?_
                    rotate_left
                    · first | (go_simp; done) | (go_simp; with_reducible rfl) | (go_split_ands; go_simp; done)
                    try simp only [Act.put, nrmA, nrmB, nrmC]
                    refine tk0 (i := 11) (oi := ⟨some 82, .slice 23 (.tmp 76) (some (.tmp 81)) none none, 23, "seglog.go:103", #[⟨5, .data⟩, ⟨10, .data⟩], none⟩) (v := ?_) rfl (by kernel_rfl) (fun _ _ _ h => h) (fun _ => hF (by kernel_rfl)) (fun w => ?_) (by rfl) ?_
                    rotate_left
                    · first | (go_simp; done) | (go_simp; with_reducible rfl) | (go_split_ands; go_simp; done)
                    try simp only [Act.put, nrmA, nrmB, nrmC]
                    refine wpAnyJ_ready (rs := [12]) (by kernel_rfl) (by simp) ?_
                    refine AllJ.cons1 (o := ⟨some 83, .call { callee := .value (.func 44), args := #[.tmp 82], argTypes := #[23] }, 23, "seglog.go:103", #[⟨11, .data⟩, ⟨9, .chain⟩], none⟩) rfl (fun Kr hKr => ?_)
                    go_simp; go_at_call 44; refine (clone_any _ _ _ rr _ (hsubr.out _ (sp3.own 6 rfl)) (by omega)).mono ?_; rintro e w5 ⟨ar, cr, Gr, rfl, rrr, hst⟩
                    have sp3 : Sp w0 K w5 [DH, [(b, lobj d p sa1 lg.segs.length sc1 ea1 nl ec1 lg.synced lg.dead)], S, E1, rwH X1, G, Gq, G2, H3, Gr] := sp3.fresh hst
                    clear hst
                    refine hKr.out _ _ (fun hJ => ?_) (fun hF => ?_)
                    · first
                      | exact absurd hJ (by decide)
                      | (clear hJ; (try dsimp only); all_goals (exact (lobj_cells (sp3.own 1 rfl)).2.2.2.1))
                    clear hKr
                    try simp only [Act.put, nrmA, nrmB, nrmC]
                    refine wpAnyJ_ready (rs := [13]) (by kernel_rfl) (by simp) ?_
                    refine AllJ.cons1 (o := ⟨some 84, .buildSlice 22 1 #[(0, .tmp 83)], 22, "seglog.go:103", #[⟨12, .data⟩], none⟩) rfl (fun Kr hKr => ?_)
                    go_simp
                    have sp3 : Sp w0 K _ [DH, [(b, lobj d p sa1 lg.segs.length sc1 ea1 nl ec1 lg.synced lg.dead)], S, E1, rwH X1, G, Gq, G2, H3, Gr, [(w5.heap.size, .cells #[.slice ar rr.length cr] 23 (0, 0))]] := sp3.alloc _
                    refine hKr.out _ _ (fun hJ => ?_) (fun hF => ?_)
                    · first
                      | exact absurd hJ (by decide)
                      | (clear hJ; (try dsimp only); all_goals (exact (lobj_cells (sp3.own 1 rfl)).2.2.2.1))
                    clear hKr
                    try simp only [Act.put, nrmA, nrmB, nrmC]
                    refine wpAnyJ_ready (rs := [14]) (by kernel_rfl) (by simp) ?_
                    refine AllJ.cons1 (o := ⟨some 85, .call { callee := .builtin .append, args := #[.tmp 75, .tmp 84], argTypes := #[22, 22] }, 22, "seglog.go:103", #[⟨4, .data⟩, ⟨13, .data⟩, ⟨12, .chain⟩], none⟩) rfl (fun Kr hKr => ?_)
                    refine step_app rfl st_rows _ _ (by rfl) (by rfl) (by rfl) hr1n.out (sp3.own 3 rfl) (rdCells_block (sp3.own 10 rfl).h0 rfl (by simp [Value.oneCell'])) (by unfold maxLen; omega) (by omega) ?_
                    intro a9 c9 w9 H9 hv9 hst9
                    have sp3 : Sp w0 K w9 [DH, [(b, lobj d p sa1 lg.segs.length sc1 ea1 nl ec1 lg.synced lg.dead)], S, H9, rwH X1, G, Gq, G2, H3, Gr, _] := sp3.put 3 rfl hst9
                    clear hst9
                    have b0 := heap_lt (sp3.own 1 rfl).h0
                    have fz := fun i => frz_of (i := i) (sp3.own 1 rfl).h0
                    have c3 := (lobj_cells (sp3.own 1 rfl)).2.2.2.1
                    refine hKr.out _ _ (fun hJ => ?_) (fun hF => ?_)
                    · first
                      | exact absurd hJ (by decide)
                      | (clear hJ; (try dsimp only); all_goals (exact (lobj_cells (sp3.own 1 rfl)).2.2.2.1))
                    clear hKr
                    try simp only [Act.put, nrmA, nrmB, nrmC]
                    refine tk0 (i := 15) (oi := ⟨some 86, .nilCheck (.tmp 71), 0, "seglog.go:103", #[⟨0, .data⟩, ⟨0, .phase⟩, ⟨1, .phase⟩, ⟨2, .phase⟩, ⟨3, .phase⟩, ⟨4, .phase⟩, ⟨5, .phase⟩, ⟨6, .phase⟩, ⟨7, .phase⟩, ⟨8, .phase⟩, ⟨9, .phase⟩, ⟨10, .phase⟩, ⟨11, .phase⟩, ⟨12, .phase⟩, ⟨13, .phase⟩, ⟨14, .phase⟩], none⟩) (v := ?_) rfl (by kernel_rfl) (fun _ _ _ h => h) (fun _ => hF (by kernel_rfl)) (fun w => ?_) (by rfl) ?_
                    rotate_left
                    · first | (go_simp; done) | (go_simp; with_reducible rfl) | (go_split_ands; go_simp; done)
                    try simp only [Act.put, nrmA, nrmB, nrmC]
                    refine tk0 (i := 16) (oi := ⟨some 87, .fieldAddr 86 (.tmp 86) 3, 0, "seglog.go:103", #[⟨15, .data⟩, ⟨0, .phase⟩, ⟨1, .phase⟩, ⟨2, .phase⟩, ⟨3, .phase⟩, ⟨4, .phase⟩, ⟨5, .phase⟩, ⟨6, .phase⟩, ⟨7, .phase⟩, ⟨8, .phase⟩, ⟨9, .phase⟩, ⟨10, .phase⟩, ⟨11, .phase⟩, ⟨12, .phase⟩, ⟨13, .phase⟩, ⟨14, .phase⟩], none⟩) (v := ?_) rfl (by kernel_rfl) (fun _ _ _ h => h) (fun _ => hF (by kernel_rfl)) (fun w => ?_) (by rfl) ?_
                    rotate_left
                    · first | (go_simp; done) | (go_simp; with_reducible rfl) | (go_split_ands; go_simp; done)
                    try simp only [Act.put, nrmA, nrmB, nrmC]
                    refine wpAnyJ_ready (rs := [17]) (by kernel_rfl) (by simp) ?_
                    refine AllJ.cons1 (o := ⟨none, .store 22 (.tmp 87) (.tmp 85), 0, "seglog.go:103", #[⟨16, .data⟩, ⟨14, .data⟩, ⟨14, .chain⟩, ⟨0, .phase⟩, ⟨1, .phase⟩, ⟨2, .phase⟩, ⟨3, .phase⟩, ⟨4, .phase⟩, ⟨5, .phase⟩, ⟨6, .phase⟩, ⟨7, .phase⟩, ⟨8, .phase⟩, ⟨9, .phase⟩, ⟨10, .phase⟩, ⟨11, .phase⟩, ⟨12, .phase⟩, ⟨13, .phase⟩, ⟨14, .phase⟩], none⟩) rfl (fun Kr hKr => ?_)
                    go_simp
                    have sp4 := sp3.store 1 rfl (j := 3) (.slice a9 (nl + 1) c9)
                    refine hKr.out _ _ (fun hJ => ?_) (fun hF => ?_)
                    · first
                      | exact absurd hJ (by decide)
                      | (clear hJ; (try dsimp only); all_goals (exact (lobj_cells (sp3.own 1 rfl)).2.2.2.1))
                    clear hKr
                    try simp only [Act.put, nrmA, nrmB, nrmC]
                    refine wpAnyJ_done (by kernel_rfl) ?_ _
                    replace hv9 := Lib.hid hv9
                    replace rrr := Lib.hid rrr
                    clear c3 fz b0 sp3
                    go_wp2_with fail
                    refine ⟨⟨g + m, es ++ [rr], _, H9, rwH (X1 ++ [⟨ar, cr, rr, Gr⟩]), by go_num, hm1, by rw [List.length_append, List.length_singleton]; omega, fun e he => ?_, ?_, ⟨sa1, a9, sc1, c9, X1 ++ [⟨ar, cr, rr, Gr⟩], hs1, rowsRep_snoc (x := ⟨ar, cr, rr, Gr⟩) hv9.out (by rw [hX1n]) hr1.2 rrr.out, ?_, rfl, rfl⟩, ?_⟩, by simp [intOf]; omega⟩
                    · rcases List.mem_append.1 he with he | he
                      · exact hesl e he
                      · rw [List.mem_singleton.1 he]; omega
                    · rw [hseg.out]
                      have e5 : n0 + (es ++ [rr]).length = n0 + es.length + 1 := by rw [List.length_append, List.length_singleton]; omega
                      have e6 : g + (q.length + 12) = g + m := by omega
                      rw [e5]
                      simp only [List.append_assoc, List.singleton_append]
                      rw [← Nat.add_assoc g, e6]
                    · rw [rwD_snoc, hdX1, List.append_assoc]
                    · have e7 : (lg.L ++ (es ++ [rr])).length = nl + 1 := by
                        have := hnl.out
                        rw [← List.append_assoc, List.length_append, ← this]; rfl
                      simp only [e7, rwH_snoc]
                      have sp5 : Sp w0 K _ [DH, [(b, lobj d p sa1 lg.segs.length sc1 a9 (nl + 1) c9 lg.synced lg.dead)], S, H9, rwH X1, G, Gr] := (((((sp4.forget 6 rfl).forget 7 rfl).forget 8 rfl).forget 10 rfl)).perm (by simp)
                      have sp6 : Sp w0 K _ [DH, [(b, lobj d p sa1 lg.segs.length sc1 a9 (nl + 1) c9 lg.synced lg.dead)], S, H9, rwH X1, Gr, G] := sp5.perm (List.Perm.flatten (List.Perm.cons _ (List.Perm.cons _ (List.Perm.cons _ (List.Perm.cons _ (List.Perm.cons _ (List.Perm.swap _ _ [])))))))
                      exact sp6.perm (Gs := [DH, [(b, lobj d p sa1 lg.segs.length sc1 a9 (nl + 1) c9 lg.synced lg.dead)], S, H9, rwH X1 ++ Gr, G]) (by simp)
                  · have hsubr : Hid (∀ V, Own V Gq → RdBytes V (some ⟨gq, 0 + z, none⟩) rr.length (cq - z) rr) := fun V o => by
                      have := (inB_drop hinq hz2 (fun e => hcqz e.symm)).1 V o
                      rwa [hsufr] at this
                    rw [Nat.zero_add] at hsubr
                    replace hsufr := Lib.hid hsufr
                    go_upto_region 10 with fail
                    have qz : IntKind.i64.wrap ((q.length : Int) - (rr.length : Int)) = (z : Int) := by rw [IntWalk.i64_in _ (by omega)]; omega
                    have hzi : (z : Int) ≤ (q.length : Int) := by omega
                    clear c0 c1 c2 c3 c4 c5 q9
                    replace sp3 := sp3.drew
                    refine wp_region_J 17 (fun w' => w'.cell? ⟨b, 3, none⟩ = some (.slice ea1 nl ec1)) (by kernel_rfl) ?_ (fun hF => ?_)
                    · (try dsimp only)
                      all_goals (exact (lobj_cells (sp3.own 1 rfl)).2.2.2.1)
                    refine tk0 (i := 0) (oi := ⟨some 71, .move (.tmp 0), 30, "seglog.go:103", #[], none⟩) (v := ?_) rfl (by kernel_rfl) (fun _ _ _ h => h) (fun _ => hF) (fun w => ?_) (by rfl) ?_
                    rotate_left
                    · first | (go_simp; done) | (go_simp; with_reducible rfl) | (go_split_ands; go_simp; done)
                    try simp only [Act.put, nrmA, nrmB, nrmC]
                    refine tk0 (i := 1) (oi := ⟨some 72, .move (.tmp 0), 30, "seglog.go:103", #[], none⟩) (v := ?_) rfl (by kernel_rfl) (fun _ _ _ h => h) (fun _ => hF) (fun w => ?_) (by rfl) ?_
                    rotate_left
                    · first | (go_simp; done) | (go_simp; with_reducible rfl) | (go_split_ands; go_simp; done)
                    try simp only [Act.put, nrmA, nrmB, nrmC]
                    refine tk0 (i := 2) (oi := ⟨some 73, .nilCheck (.tmp 72), 0, "seglog.go:103", #[⟨1, .data⟩], none⟩) (v := ?_) rfl (by kernel_rfl) (fun _ _ _ h => h) (fun _ => hF) (fun w => ?_) (by rfl) ?_
                    rotate_left
                    · first | (go_simp; done) | (go_simp; with_reducible rfl) | (go_split_ands; go_simp; done)
                    try simp only [Act.put, nrmA, nrmB, nrmC]
                    refine tk0 (i := 3) (oi := ⟨some 74, .fieldAddr 86 (.tmp 73) 3, 0, "seglog.go:103", #[⟨2, .data⟩], none⟩) (v := ?_) rfl (by kernel_rfl) (fun _ _ _ h => h) (fun _ => hF) (fun w => ?_) (by rfl) ?_
                    rotate_left
                    · first | (go_simp; done) | (go_simp; with_reducible rfl) | (go_split_ands; go_simp; done)
                    try simp only [Act.put, nrmA, nrmB, nrmC]
                    refine tk1 (i := 4) (oi := ⟨some 75, .load 22 (.tmp 74), 22, "seglog.go:103", #[⟨3, .data⟩], none⟩) (v := ?_) [17] rfl (by kernel_rfl) (fun _ _ _ h => h) hF (fun w hFw => ?_) (by rfl) ?_
                    rotate_left
                    · ((try dsimp only at hFw); first | (go_simp; done) | (go_simp; with_reducible rfl) | (go_split_ands; go_simp; done))
                    try simp only [Act.put, nrmA, nrmB, nrmC]
                    refine tk0 (i := 5) (oi := ⟨some 76, .move (.tmp 8), 23, "seglog.go:103", #[], none⟩) (v := ?_) rfl (by kernel_rfl) (fun _ _ _ h => h) (fun _ => hF) (fun w => ?_) (by rfl) ?_
                    rotate_left
                    · first | (go_simp; done) | (go_simp; with_reducible rfl) | (go_split_ands; go_simp; done)
                    try simp only [Act.put, nrmA, nrmB, nrmC]
                    refine tk0 (i := 6) (oi := ⟨some 77, .move (.tmp 8), 23, "seglog.go:103", #[], none⟩) (v := ?_) rfl (by kernel_rfl) (fun _ _ _ h => h) (fun _ => hF) (fun w => ?_) (by rfl) ?_
                    rotate_left
                    · first | (go_simp; done) | (go_simp; with_reducible rfl) | (go_split_ands; go_simp; done)
                    try simp only [Act.put, nrmA, nrmB, nrmC]
                    refine tk1 (i := 7) (oi := ⟨some 78, .call { callee := .builtin .len, args := #[.tmp 77], argTypes := #[23] }, 3, "seglog.go:103", #[⟨6, .data⟩], none⟩) (v := ?_) [17] rfl (by kernel_rfl) (fun _ _ _ h => h) hF (fun w hFw => ?_) (by rfl) ?_
                    rotate_left
                    · ((try dsimp only at hFw); first | (go_simp; done) | (go_simp; with_reducible rfl) | (go_split_ands; go_simp; done))
                    try simp only [Act.put, nrmA, nrmB, nrmC]
                    refine tk0 (i := 8) (oi := ⟨some 79, .move (.tmp 11), 145, "seglog.go:103", #[], none⟩) (v := ?_) rfl (by kernel_rfl) (fun _ _ _ h => h) (fun _ => hF) (fun w => ?_) (by rfl) ?_
                    rotate_left
                    · first | (go_simp; done) | (go_simp; with_reducible rfl) | (go_split_ands; go_simp; done)
                    try simp only [Act.put, nrmA, nrmB, nrmC]
                    refine wpAnyJ_ready (rs := [9]) (by kernel_rfl) (by simp) ?_
                    refine AllJ.cons1 (o := ⟨some 80, .call { callee := .value (.func 91), args := #[.tmp 79], argTypes := #[145] }, 3, "seglog.go:103", #[⟨8, .data⟩], none⟩) rfl (fun Kr hKr => ?_)
                    go_simp; go_at_call 91; refine (rleft_any b2 rr 0 G2 H3 _ hrep3 (sp3.own 8 rfl)).mono ?_; rintro e w4 ⟨rfl, hst⟩
                    have sp3 : Sp w0 K w4 [DH, [(b, lobj d p sa1 lg.segs.length sc1 ea1 nl ec1 lg.synced lg.dead)], S, E1, rwH X1, G, Gq, G2, H3] := sp3.still hst
                    clear hst
                    refine hKr.out _ _ (fun hJ => ?_) (fun hF => ?_)
                    · first
                      | exact absurd hJ (by decide)
                      | (clear hJ; (try dsimp only); all_goals (exact (lobj_cells (sp3.own 1 rfl)).2.2.2.1))
                    clear hKr
                    try simp only [Act.put, nrmA, nrmB, nrmC]
                    refine tk0 (i := 10) (oi := ⟨some 81, .binOp .sub 3 (.tmp 78) (.tmp 80) 3, 3, "seglog.go:103", #[⟨7, .data⟩, ⟨9, .data⟩], none⟩) (v := ?_) rfl (by kernel_rfl) (fun _ _ _ h => h) (fun _ => hF (by kernel_rfl)) (fun w => ?_) (by rfl) ?_
                    rotate_left
                    · first | (go_simp; done) | (go_simp; with_reducible rfl) | (go_split_ands; go_simp; done)
                    try simp only [Act.put, nrmA, nrmB, nrmC]
                    refine tk0 (i := 11) (oi := ⟨some 82, .slice 23 (.tmp 76) (some (.tmp 81)) none none, 23, "seglog.go:103", #[⟨5, .data⟩, ⟨10, .data⟩], none⟩) (v := ?_) rfl (by kernel_rfl) (fun _ _ _ h => h) (fun _ => hF (by kernel_rfl)) (fun w => ?_) (by rfl) ?_
                    rotate_left
                    · first | (go_simp; done) | (go_simp; with_reducible rfl) | (go_split_ands; go_simp; done)
                    try simp only [Act.put, nrmA, nrmB, nrmC]
                    refine wpAnyJ_ready (rs := [12]) (by kernel_rfl) (by simp) ?_
                    refine AllJ.cons1 (o := ⟨some 83, .call { callee := .value (.func 44), args := #[.tmp 82], argTypes := #[23] }, 23, "seglog.go:103", #[⟨11, .data⟩, ⟨9, .chain⟩], none⟩) rfl (fun Kr hKr => ?_)
                    go_simp; go_at_call 44; refine (clone_any _ _ _ rr _ (hsubr.out _ (sp3.own 6 rfl)) (by omega)).mono ?_; rintro e w5 ⟨ar, cr, Gr, rfl, rrr, hst⟩
                    have sp3 : Sp w0 K w5 [DH, [(b, lobj d p sa1 lg.segs.length sc1 ea1 nl ec1 lg.synced lg.dead)], S, E1, rwH X1, G, Gq, G2, H3, Gr] := sp3.fresh hst
                    clear hst
                    refine hKr.out _ _ (fun hJ => ?_) (fun hF => ?_)
                    · first
                      | exact absurd hJ (by decide)
                      | (clear hJ; (try dsimp only); all_goals (exact (lobj_cells (sp3.own 1 rfl)).2.2.2.1))
                    clear hKr
                    try simp only [Act.put, nrmA, nrmB, nrmC]
                    refine wpAnyJ_ready (rs := [13]) (by kernel_rfl) (by simp) ?_
                    refine AllJ.cons1 (o := ⟨some 84, .buildSlice 22 1 #[(0, .tmp 83)], 22, "seglog.go:103", #[⟨12, .data⟩], none⟩) rfl (fun Kr hKr => ?_)
                    go_simp
                    have sp3 : Sp w0 K _ [DH, [(b, lobj d p sa1 lg.segs.length sc1 ea1 nl ec1 lg.synced lg.dead)], S, E1, rwH X1, G, Gq, G2, H3, Gr, [(w5.heap.size, .cells #[.slice ar rr.length cr] 23 (0, 0))]] := sp3.alloc _
                    refine hKr.out _ _ (fun hJ => ?_) (fun hF => ?_)
                    · first
                      | exact absurd hJ (by decide)
                      | (clear hJ; (try dsimp only); all_goals (exact (lobj_cells (sp3.own 1 rfl)).2.2.2.1))
                    clear hKr
                    try simp only [Act.put, nrmA, nrmB, nrmC]
                    refine wpAnyJ_ready (rs := [14]) (by kernel_rfl) (by simp) ?_
                    refine AllJ.cons1 (o := ⟨some 85, .call { callee := .builtin .append, args := #[.tmp 75, .tmp 84], argTypes := #[22, 22] }, 22, "seglog.go:103", #[⟨4, .data⟩, ⟨13, .data⟩, ⟨12, .chain⟩], none⟩) rfl (fun Kr hKr => ?_)
                    refine step_app rfl st_rows _ _ (by rfl) (by rfl) (by rfl) hr1n.out (sp3.own 3 rfl) (rdCells_block (sp3.own 10 rfl).h0 rfl (by simp [Value.oneCell'])) (by unfold maxLen; omega) (by omega) ?_
                    intro a9 c9 w9 H9 hv9 hst9
                    have sp3 : Sp w0 K w9 [DH, [(b, lobj d p sa1 lg.segs.length sc1 ea1 nl ec1 lg.synced lg.dead)], S, H9, rwH X1, G, Gq, G2, H3, Gr, _] := sp3.put 3 rfl hst9
                    clear hst9
                    have b0 := heap_lt (sp3.own 1 rfl).h0
                    have fz := fun i => frz_of (i := i) (sp3.own 1 rfl).h0
                    have c3 := (lobj_cells (sp3.own 1 rfl)).2.2.2.1
                    refine hKr.out _ _ (fun hJ => ?_) (fun hF => ?_)
                    · first
                      | exact absurd hJ (by decide)
                      | (clear hJ; (try dsimp only); all_goals (exact (lobj_cells (sp3.own 1 rfl)).2.2.2.1))
                    clear hKr
                    try simp only [Act.put, nrmA, nrmB, nrmC]
                    refine tk0 (i := 15) (oi := ⟨some 86, .nilCheck (.tmp 71), 0, "seglog.go:103", #[⟨0, .data⟩, ⟨0, .phase⟩, ⟨1, .phase⟩, ⟨2, .phase⟩, ⟨3, .phase⟩, ⟨4, .phase⟩, ⟨5, .phase⟩, ⟨6, .phase⟩, ⟨7, .phase⟩, ⟨8, .phase⟩, ⟨9, .phase⟩, ⟨10, .phase⟩, ⟨11, .phase⟩, ⟨12, .phase⟩, ⟨13, .phase⟩, ⟨14, .phase⟩], none⟩) (v := ?_) rfl (by kernel_rfl) (fun _ _ _ h => h) (fun _ => hF (by kernel_rfl)) (fun w => ?_) (by rfl) ?_
                    rotate_left
                    · first | (go_simp; done) | (go_simp; with_reducible rfl) | (go_split_ands; go_simp; done)
                    try simp only [Act.put, nrmA, nrmB, nrmC]
                    refine tk0 (i := 16) (oi := ⟨some 87, .fieldAddr 86 (.tmp 86) 3, 0, "seglog.go:103", #[⟨15, .data⟩, ⟨0, .phase⟩, ⟨1, .phase⟩, ⟨2, .phase⟩, ⟨3, .phase⟩, ⟨4, .phase⟩, ⟨5, .phase⟩, ⟨6, .phase⟩, ⟨7, .phase⟩, ⟨8, .phase⟩, ⟨9, .phase⟩, ⟨10, .phase⟩, ⟨11, .phase⟩, ⟨12, .phase⟩, ⟨13, .phase⟩, ⟨14, .phase⟩], none⟩) (v := ?_) rfl (by kernel_rfl) (fun _ _ _ h => h) (fun _ => hF (by kernel_rfl)) (fun w => ?_) (by rfl) ?_
                    rotate_left
                    · first | (go_simp; done) | (go_simp; with_reducible rfl) | (go_split_ands; go_simp; done)
                    try simp only [Act.put, nrmA, nrmB, nrmC]
                    refine wpAnyJ_ready (rs := [17]) (by kernel_rfl) (by simp) ?_
                    refine AllJ.cons1 (o := ⟨none, .store 22 (.tmp 87) (.tmp 85), 0, "seglog.go:103", #[⟨16, .data⟩, ⟨14, .data⟩, ⟨14, .chain⟩, ⟨0, .phase⟩, ⟨1, .phase⟩, ⟨2, .phase⟩, ⟨3, .phase⟩, ⟨4, .phase⟩, ⟨5, .phase⟩, ⟨6, .phase⟩, ⟨7, .phase⟩, ⟨8, .phase⟩, ⟨9, .phase⟩, ⟨10, .phase⟩, ⟨11, .phase⟩, ⟨12, .phase⟩, ⟨13, .phase⟩, ⟨14, .phase⟩], none⟩) rfl (fun Kr hKr => ?_)
                    go_simp
                    have sp4 := sp3.store 1 rfl (j := 3) (.slice a9 (nl + 1) c9)
                    refine hKr.out _ _ (fun hJ => ?_) (fun hF => ?_)
                    · first
                      | exact absurd hJ (by decide)
                      | (clear hJ; (try dsimp only); all_goals (exact (lobj_cells (sp3.own 1 rfl)).2.2.2.1))
                    clear hKr
                    try simp only [Act.put, nrmA, nrmB, nrmC]
                    refine wpAnyJ_done (by kernel_rfl) ?_ _
                    replace hv9 := Lib.hid hv9
                    replace rrr := Lib.hid rrr
                    clear c3 fz b0 sp3
                    go_wp2_with fail
                    refine ⟨⟨g + m, es ++ [rr], _, H9, rwH (X1 ++ [⟨ar, cr, rr, Gr⟩]), by go_num, hm1, by rw [List.length_append, List.length_singleton]; omega, fun e he => ?_, ?_, ⟨sa1, a9, sc1, c9, X1 ++ [⟨ar, cr, rr, Gr⟩], hs1, rowsRep_snoc (x := ⟨ar, cr, rr, Gr⟩) hv9.out (by rw [hX1n]) hr1.2 rrr.out, ?_, rfl, rfl⟩, ?_⟩, by simp [intOf]; omega⟩
                    · rcases List.mem_append.1 he with he | he
                      · exact hesl e he
                      · rw [List.mem_singleton.1 he]; omega
                    · rw [hseg.out]
                      have e5 : n0 + (es ++ [rr]).length = n0 + es.length + 1 := by rw [List.length_append, List.length_singleton]; omega
                      have e6 : g + (q.length + 12) = g + m := by omega
                      rw [e5]
                      simp only [List.append_assoc, List.singleton_append]
                      rw [← Nat.add_assoc g, e6]
                    · rw [rwD_snoc, hdX1, List.append_assoc]
                    · have e7 : (lg.L ++ (es ++ [rr])).length = nl + 1 := by
                        have := hnl.out
                        rw [← List.append_assoc, List.length_append, ← this]; rfl
                      simp only [e7, rwH_snoc]
                      have sp5 : Sp w0 K _ [DH, [(b, lobj d p sa1 lg.segs.length sc1 a9 (nl + 1) c9 lg.synced lg.dead)], S, H9, rwH X1, G, Gr] := (((((sp4.forget 6 rfl).forget 7 rfl).forget 8 rfl).forget 10 rfl)).perm (by simp)
                      have sp6 : Sp w0 K _ [DH, [(b, lobj d p sa1 lg.segs.length sc1 a9 (nl + 1) c9 lg.synced lg.dead)], S, H9, rwH X1, Gr, G] := sp5.perm (List.Perm.flatten (List.Perm.cons _ (List.Perm.cons _ (List.Perm.cons _ (List.Perm.cons _ (List.Perm.cons _ (List.Perm.swap _ _ [])))))))
                      exact sp6.perm (Gs := [DH, [(b, lobj d p sa1 lg.segs.length sc1 a9 (nl + 1) c9 lg.synced lg.dead)], S, H9, rwH X1 ++ Gr, G]) (by simp)
                · have q10 : ((rr.length : Int) == 0) = false := beq_eq_false_iff_ne.2 (by omega)
                  have hleft := Lib.hid (rleft_any b2 rr 0 G2 H3 w3 hrep3 (sp3.own 8 rfl))
                  have hcqz : ¬ cq = z := by omega
                  have hsubr : Hid (∀ V, Own V Gq → RdBytes V (some ⟨gq, 0 + z, none⟩) rr.length (cq - z) rr) := fun V o => by
                    have := (inB_drop hinq hz2 (fun e => hcqz e.symm)).1 V o
                    rwa [hsufr] at this
                  rw [Nat.zero_add] at hsubr
                  replace hrr0 := Lib.hid hrr0
                  replace hsufr := Lib.hid hsufr
                  go_upto_region 9 with fail
                  go_wp2_with fail
                  refine hleft.out.mono ?_
                  rintro e w4 ⟨rfl, hst⟩
                  have sp3 : Sp w0 K w4 [DH, [(b, lobj d p sa1 lg.segs.length sc1 ea1 nl ec1 lg.synced lg.dead)], S, E1, rwH X1, G, Gq, G2, H3] := sp3.still hst
                  clear hst hleft c0 c1 c2 c3 c4 c5 xlt
                  obtain ⟨c0, c1, c2, c3, c4, c5⟩ := lobj_cells (sp3.own 1 rfl)
                  have xlt := heap_lt (sp3.own 1 rfl).h0
                  go_upto_region 10 with fail
                  have qz : IntKind.i64.wrap ((q.length : Int) - (rr.length : Int)) = (z : Int) := by rw [IntWalk.i64_in _ (by omega)]; omega
                  have hzi : (z : Int) ≤ (q.length : Int) := by omega
                  clear c0 c1 c2 c3 c4 c5 q9
                  replace sp3 := sp3.drew
                  refine wp_region_J 17 (fun w' => w'.cell? ⟨b, 3, none⟩ = some (.slice ea1 nl ec1)) (by kernel_rfl) ?_ (fun hF => ?_)
                  · (try dsimp only)
                    all_goals (exact (lobj_cells (sp3.own 1 rfl)).2.2.2.1)
                  refine tk0 (i := 0) (oi := ⟨some 71, .move (.tmp 0), 30, "seglog.go:103", #[], none⟩) (v := ?_) rfl (by kernel_rfl) (fun _ _ _ h => h) (fun _ => hF) (fun w => ?_) (by rfl) ?_
                  rotate_left
                  · first | (go_simp; done) | (go_simp; with_reducible rfl) | (go_split_ands; go_simp; done)
                  try simp only [Act.put, nrmA, nrmB, nrmC]
                  refine tk0 (i := 1) (oi := ⟨some 72, .move (.tmp 0), 30, "seglog.go:103", #[], none⟩) (v := ?_) rfl (by kernel_rfl) (fun _ _ _ h => h) (fun _ => hF) (fun w => ?_) (by rfl) ?_
                  rotate_left
                  · first | (go_simp; done) | (go_simp; with_reducible rfl) | (go_split_ands; go_simp; done)
                  try simp only [Act.put, nrmA, nrmB, nrmC]
                  refine tk0 (i := 2) (oi := ⟨some 73, .nilCheck (.tmp 72), 0, "seglog.go:103", #[⟨1, .data⟩], none⟩) (v := ?_) rfl (by kernel_rfl) (fun _ _ _ h => h) (fun _ => hF) (fun w => ?_) (by rfl) ?_
                  rotate_left
                  · first | (go_simp; done) | (go_simp; with_reducible rfl) | (go_split_ands; go_simp; done)
                  try simp only [Act.put, nrmA, nrmB, nrmC]
                  refine tk0 (i := 3) (oi := ⟨some 74, .fieldAddr 86 (.tmp 73) 3, 0, "seglog.go:103", #[⟨2, .data⟩], none⟩) (v := ?_) rfl (by kernel_rfl) (fun _ _ _ h => h) (fun _ => hF) (fun w => ?_) (by rfl) ?_
                  rotate_left
                  · first | (go_simp; done) | (go_simp; with_reducible rfl) | (go_split_ands; go_simp; done)
                  try simp only [Act.put, nrmA, nrmB, nrmC]
                  refine tk1 (i := 4) (oi := ⟨some 75, .load 22 (.tmp 74), 22, "seglog.go:103", #[⟨3, .data⟩], none⟩) (v := ?_) [17] rfl (by kernel_rfl) (fun _ _ _ h => h) hF (fun w hFw => ?_) (by rfl) ?_
                  rotate_left
                  · ((try dsimp only at hFw); first | (go_simp; done) | (go_simp; with_reducible rfl) | (go_split_ands; go_simp; done))
                  try simp only [Act.put, nrmA, nrmB, nrmC]
                  refine tk0 (i := 5) (oi := ⟨some 76, .move (.tmp 8), 23, "seglog.go:103", #[], none⟩) (v := ?_) rfl (by kernel_rfl) (fun _ _ _ h => h) (fun _ => hF) (fun w => ?_) (by rfl) ?_
                  rotate_left
                  · first | (go_simp; done) | (go_simp; with_reducible rfl) | (go_split_ands; go_simp; done)
                  try simp only [Act.put, nrmA, nrmB, nrmC]
                  refine tk0 (i := 6) (oi := ⟨some 77, .move (.tmp 8), 23, "seglog.go:103", #[], none⟩) (v := ?_) rfl (by kernel_rfl) (fun _ _ _ h => h) (fun _ => hF) (fun w => ?_) (by rfl) ?_
                  rotate_left
                  · first | (go_simp; done) | (go_simp; with_reducible rfl) | (go_split_ands; go_simp; done)
                  try simp only [Act.put, nrmA, nrmB, nrmC]
                  refine tk1 (i := 7) (oi := ⟨some 78, .call { callee := .builtin .len, args := #[.tmp 77], argTypes := #[23] }, 3, "seglog.go:103", #[⟨6, .data⟩], none⟩) (v := ?_) [17] rfl (by kernel_rfl) (fun _ _ _ h => h) hF (fun w hFw => ?_) (by rfl) ?_
                  rotate_left
                  · ((try dsimp only at hFw); first | (go_simp; done) | (go_simp; with_reducible rfl) | (go_split_ands; go_simp; done))
                  try simp only [Act.put, nrmA, nrmB, nrmC]
                  refine tk0 (i := 8) (oi := ⟨some 79, .move (.tmp 11), 145, "seglog.go:103", #[], none⟩) (v := ?_) rfl (by kernel_rfl) (fun _ _ _ h => h) (fun _ => hF) (fun w => ?_) (by rfl) ?_
                  rotate_left
                  · first | (go_simp; done) | (go_simp; with_reducible rfl) | (go_split_ands; go_simp; done)
                  try simp only [Act.put, nrmA, nrmB, nrmC]
                  refine wpAnyJ_ready (rs := [9]) (by kernel_rfl) (by simp) ?_
                  refine AllJ.cons1 (o := ⟨some 80, .call { callee := .value (.func 91), args := #[.tmp 79], argTypes := #[145] }, 3, "seglog.go:103", #[⟨8, .data⟩], none⟩) rfl (fun Kr hKr => ?_)
                  go_simp; go_at_call 91; refine (rleft_any b2 rr 0 G2 H3 _ hrep3 (sp3.own 8 rfl)).mono ?_; rintro e w4 ⟨rfl, hst⟩
                  have sp3 : Sp w0 K w4 [DH, [(b, lobj d p sa1 lg.segs.length sc1 ea1 nl ec1 lg.synced lg.dead)], S, E1, rwH X1, G, Gq, G2, H3] := sp3.still hst
                  clear hst
                  refine hKr.out _ _ (fun hJ => ?_) (fun hF => ?_)
                  · first
                    | exact absurd hJ (by decide)
                    | (clear hJ; (try dsimp only); all_goals (exact (lobj_cells (sp3.own 1 rfl)).2.2.2.1))
                  clear hKr
                  try simp only [Act.put, nrmA, nrmB, nrmC]
                  refine tk0 (i := 10) (oi := ⟨some 81, .binOp .sub 3 (.tmp 78) (.tmp 80) 3, 3, "seglog.go:103", #[⟨7, .data⟩, ⟨9, .data⟩], none⟩) (v := ?_) rfl (by kernel_rfl) (fun _ _ _ h => h) (fun _ => hF (by kernel_rfl)) (fun w => ?_) (by rfl) ?_
                  rotate_left
                  · first | (go_simp; done) | (go_simp; with_reducible rfl) | (go_split_ands; go_simp; done)
                  try simp only [Act.put, nrmA, nrmB, nrmC]
                  refine tk0 (i := 11) (oi := ⟨some 82, .slice 23 (.tmp 76) (some (.tmp 81)) none none, 23, "seglog.go:103", #[⟨5, .data⟩, ⟨10, .data⟩], none⟩) (v := ?_) rfl (by kernel_rfl) (fun _ _ _ h => h) (fun _ => hF (by kernel_rfl)) (fun w => ?_) (by rfl) ?_
                  rotate_left
                  · first | (go_simp; done) | (go_simp; with_reducible rfl) | (go_split_ands; go_simp; done)
                  try simp only [Act.put, nrmA, nrmB, nrmC]
                  refine wpAnyJ_ready (rs := [12]) (by kernel_rfl) (by simp) ?_
                  refine AllJ.cons1 (o := ⟨some 83, .call { callee := .value (.func 44), args := #[.tmp 82], argTypes := #[23] }, 23, "seglog.go:103", #[⟨11, .data⟩, ⟨9, .chain⟩], none⟩) rfl (fun Kr hKr => ?_)
                  go_simp; go_at_call 44; refine (clone_any _ _ _ rr _ (hsubr.out _ (sp3.own 6 rfl)) (by omega)).mono ?_; rintro e w5 ⟨ar, cr, Gr, rfl, rrr, hst⟩
                  have sp3 : Sp w0 K w5 [DH, [(b, lobj d p sa1 lg.segs.length sc1 ea1 nl ec1 lg.synced lg.dead)], S, E1, rwH X1, G, Gq, G2, H3, Gr] := sp3.fresh hst
                  clear hst
                  refine hKr.out _ _ (fun hJ => ?_) (fun hF => ?_)
                  · first
                    | exact absurd hJ (by decide)
                    | (clear hJ; (try dsimp only); all_goals (exact (lobj_cells (sp3.own 1 rfl)).2.2.2.1))
                  clear hKr
                  try simp only [Act.put, nrmA, nrmB, nrmC]
                  refine wpAnyJ_ready (rs := [13]) (by kernel_rfl) (by simp) ?_
                  refine AllJ.cons1 (o := ⟨some 84, .buildSlice 22 1 #[(0, .tmp 83)], 22, "seglog.go:103", #[⟨12, .data⟩], none⟩) rfl (fun Kr hKr => ?_)
                  go_simp
                  have sp3 : Sp w0 K _ [DH, [(b, lobj d p sa1 lg.segs.length sc1 ea1 nl ec1 lg.synced lg.dead)], S, E1, rwH X1, G, Gq, G2, H3, Gr, [(w5.heap.size, .cells #[.slice ar rr.length cr] 23 (0, 0))]] := sp3.alloc _
                  refine hKr.out _ _ (fun hJ => ?_) (fun hF => ?_)
                  · first
                    | exact absurd hJ (by decide)
                    | (clear hJ; (try dsimp only); all_goals (exact (lobj_cells (sp3.own 1 rfl)).2.2.2.1))
                  clear hKr
                  try simp only [Act.put, nrmA, nrmB, nrmC]
                  refine wpAnyJ_ready (rs := [14]) (by kernel_rfl) (by simp) ?_
                  refine AllJ.cons1 (o := ⟨some 85, .call { callee := .builtin .append, args := #[.tmp 75, .tmp 84], argTypes := #[22, 22] }, 22, "seglog.go:103", #[⟨4, .data⟩, ⟨13, .data⟩, ⟨12, .chain⟩], none⟩) rfl (fun Kr hKr => ?_)
                  refine step_app rfl st_rows _ _ (by rfl) (by rfl) (by rfl) hr1n.out (sp3.own 3 rfl) (rdCells_block (sp3.own 10 rfl).h0 rfl (by simp [Value.oneCell'])) (by unfold maxLen; omega) (by omega) ?_
                  intro a9 c9 w9 H9 hv9 hst9
                  have sp3 : Sp w0 K w9 [DH, [(b, lobj d p sa1 lg.segs.length sc1 ea1 nl ec1 lg.synced lg.dead)], S, H9, rwH X1, G, Gq, G2, H3, Gr, _] := sp3.put 3 rfl hst9
                  clear hst9
                  have b0 := heap_lt (sp3.own 1 rfl).h0
                  have fz := fun i => frz_of (i := i) (sp3.own 1 rfl).h0
                  have c3 := (lobj_cells (sp3.own 1 rfl)).2.2.2.1
                  refine hKr.out _ _ (fun hJ => ?_) (fun hF => ?_)
                  · first
                    | exact absurd hJ (by decide)
                    | (clear hJ; (try dsimp only); all_goals (exact (lobj_cells (sp3.own 1 rfl)).2.2.2.1))
                  clear hKr
                  try simp only [Act.put, nrmA, nrmB, nrmC]
                  refine tk0 (i := 15) (oi := ⟨some 86, .nilCheck (.tmp 71), 0, "seglog.go:103", #[⟨0, .data⟩, ⟨0, .phase⟩, ⟨1, .phase⟩, ⟨2, .phase⟩, ⟨3, .phase⟩, ⟨4, .phase⟩, ⟨5, .phase⟩, ⟨6, .phase⟩, ⟨7, .phase⟩, ⟨8, .phase⟩, ⟨9, .phase⟩, ⟨10, .phase⟩, ⟨11, .phase⟩, ⟨12, .phase⟩, ⟨13, .phase⟩, ⟨14, .phase⟩], none⟩) (v := ?_) rfl (by kernel_rfl) (fun _ _ _ h => h) (fun _ => hF (by kernel_rfl)) (fun w => ?_) (by rfl) ?_
                  rotate_left
                  · first | (go_simp; done) | (go_simp; with_reducible rfl) | (go_split_ands; go_simp; done)
                  try simp only [Act.put, nrmA, nrmB, nrmC]
                  refine tk0 (i := 16) (oi := ⟨some 87, .fieldAddr 86 (.tmp 86) 3, 0, "seglog.go:103", #[⟨15, .data⟩, ⟨0, .phase⟩, ⟨1, .phase⟩, ⟨2, .phase⟩, ⟨3, .phase⟩, ⟨4, .phase⟩, ⟨5, .phase⟩, ⟨6, .phase⟩, ⟨7, .phase⟩, ⟨8, .phase⟩, ⟨9, .phase⟩, ⟨10, .phase⟩, ⟨11, .phase⟩, ⟨12, .phase⟩, ⟨13, .phase⟩, ⟨14, .phase⟩], none⟩) (v := ?_) rfl (by kernel_rfl) (fun _ _ _ h => h) (fun _ => hF (by kernel_rfl)) (fun w => ?_) (by rfl) ?_
                  rotate_left
                  · first | (go_simp; done) | (go_simp; with_reducible rfl) | (go_split_ands; go_simp; done)
                  try simp only [Act.put, nrmA, nrmB, nrmC]
                  refine wpAnyJ_ready (rs := [17]) (by kernel_rfl) (by simp) ?_
                  refine AllJ.cons1 (o := ⟨none, .store 22 (.tmp 87) (.tmp 85), 0, "seglog.go:103", #[⟨16, .data⟩, ⟨14, .data⟩, ⟨14, .chain⟩, ⟨0, .phase⟩, ⟨1, .phase⟩, ⟨2, .phase⟩, ⟨3, .phase⟩, ⟨4, .phase⟩, ⟨5, .phase⟩, ⟨6, .phase⟩, ⟨7, .phase⟩, ⟨8, .phase⟩, ⟨9, .phase⟩, ⟨10, .phase⟩, ⟨11, .phase⟩, ⟨12, .phase⟩, ⟨13, .phase⟩, ⟨14, .phase⟩], none⟩) rfl (fun Kr hKr => ?_)
                  go_simp
                  have sp4 := sp3.store 1 rfl (j := 3) (.slice a9 (nl + 1) c9)
                  refine hKr.out _ _ (fun hJ => ?_) (fun hF => ?_)
                  · first
                    | exact absurd hJ (by decide)
                    | (clear hJ; (try dsimp only); all_goals (exact (lobj_cells (sp3.own 1 rfl)).2.2.2.1))
                  clear hKr
                  try simp only [Act.put, nrmA, nrmB, nrmC]
                  refine wpAnyJ_done (by kernel_rfl) ?_ _
                  replace hv9 := Lib.hid hv9
                  replace rrr := Lib.hid rrr
                  clear c3 fz b0 sp3
                  go_wp2_with fail
                  refine ⟨⟨g + m, es ++ [rr], _, H9, rwH (X1 ++ [⟨ar, cr, rr, Gr⟩]), by go_num, hm1, by rw [List.length_append, List.length_singleton]; omega, fun e he => ?_, ?_, ⟨sa1, a9, sc1, c9, X1 ++ [⟨ar, cr, rr, Gr⟩], hs1, rowsRep_snoc (x := ⟨ar, cr, rr, Gr⟩) hv9.out (by rw [hX1n]) hr1.2 rrr.out, ?_, rfl, rfl⟩, ?_⟩, by simp [intOf]; omega⟩
                  · rcases List.mem_append.1 he with he | he
                    · exact hesl e he
                    · rw [List.mem_singleton.1 he]; omega
                  · rw [hseg.out]
                    have e5 : n0 + (es ++ [rr]).length = n0 + es.length + 1 := by rw [List.length_append, List.length_singleton]; omega
                    have e6 : g + (q.length + 12) = g + m := by omega
                    rw [e5]
                    simp only [List.append_assoc, List.singleton_append]
                    rw [← Nat.add_assoc g, e6]
                  · rw [rwD_snoc, hdX1, List.append_assoc]
                  · have e7 : (lg.L ++ (es ++ [rr])).length = nl + 1 := by
                      have := hnl.out
                      rw [← List.append_assoc, List.length_append, ← this]; rfl
                    simp only [e7, rwH_snoc]
                    have sp5 : Sp w0 K _ [DH, [(b, lobj d p sa1 lg.segs.length sc1 a9 (nl + 1) c9 lg.synced lg.dead)], S, H9, rwH X1, G, Gr] := (((((sp4.forget 6 rfl).forget 7 rfl).forget 8 rfl).forget 10 rfl)).perm (by simp)
                    have sp6 : Sp w0 K _ [DH, [(b, lobj d p sa1 lg.segs.length sc1 a9 (nl + 1) c9 lg.synced lg.dead)], S, H9, rwH X1, Gr, G] := sp5.perm (List.Perm.flatten (List.Perm.cons _ (List.Perm.cons _ (List.Perm.cons _ (List.Perm.cons _ (List.Perm.cons _ (List.Perm.swap _ _ [])))))))
                    exact sp6.perm (Gs := [DH, [(b, lobj d p sa1 lg.segs.length sc1 a9 (nl + 1) c9 lg.synced lg.dead)], S, H9, rwH X1 ++ Gr, G]) (by simp)
              · rw [if_neg (fun h => hv h.2)] at hfinish
                have q9 : (rv != (nl : Int) + 1) = true := by rw [bne_iff_ne]; intro e; apply hv; rw [← hnl2.out]; omega
                have hrs := Lib.hid (hfinish.out rfl)
                clear hfinish
                replace hv := Lib.hid hv
                replace hseg := Lib.hid hseg
                have sp4 : Sp w0 K w3 [DH, [(b, lobj d p sa1 lg.segs.length sc1 ea1 nl ec1 lg.synced lg.dead)], S, E1, rwH X1, G] := (((sp3.forget 6 rfl).forget 7 rfl).forget 8 rfl).perm (by simp)
                go_wp2_with fail
                go_meet
                exact hrs.out _ (hnl.out ▸ sp4)
          · have hstop : rdRows (scanN (l.drop g)).1 (n0 + es.length) = ([], 0) := by rw [scanN_stop he]; rfl
            have hrs := Lib.hid (hfinish.out hstop)
            clear hstop hfinish
            obtain ⟨⟨e, q, m⟩, hd2⟩ : ∃ d, d = decN (l.drop g) := ⟨_, rfl⟩
            rw [← hd2] at he hdec
            simp only at he
            have q9 : ((e : Int) != 0) = true := by rw [bne_iff_ne]; omega
            replace hd2 := Lib.hid hd2
            replace hseg := Lib.hid hseg
            go_wp2_with fail
            refine hdec.out.mono ?_
            rintro e' w1 (⟨_, rfl, hst⟩ | ⟨h0, _⟩)
            · have spV := sp.still hst
              go_wp2_with fail
              go_meet
              exact hrs.out _ (hnl.out ▸ spV)
            · exact absurd h0 he
        · have dl : (l.length : Int) ≤ (g : Int) := by omega
          have hstop : rdRows (scanN (l.drop g)).1 (n0 + es.length) = ([], 0) := by
            rw [List.drop_eq_nil_of_le (by omega), scanN_stop (by decide)]
            rfl
          have hrs := Lib.hid (hfinish.out hstop wr sp)
          clear hstop
          go_wp2_with fail
          go_meet
          exact hrs.out
    case rest =>
      obtain ⟨g, es, B1, E1, XH1, rfl, hg, hseg, hlg, sp⟩ := hcut
      have hlgh := Lib.hid hlg
      have hsg1 : (lg.segs.length : Int) ≤ 4396972769280 := by omega
      have d0 : (0 : Int) ≤ (g : Int) := by omega
      have e1 := e1.out
      rw [hseg] at e1
      simp only at e1
      have hend : Hid (∀ (whole : Bool), whole = decide (g = l.length) → ¬ (g = l.length ∨ 0 < g) → RsPost b d p k (readN p k lg s) DH w0 K (.returned (.tuple #[iv g, .bool whole])) wc) := fun whole hw hno => by
        rw [e1, if_neg hno, ← hw]
        exact ⟨rfl, B1, S, E1, XH1, hlgh.out, (sp.forget 5 rfl).perm (by simp)⟩
      have hend2 : Hid (∀ (whole : Bool), whole = decide (g = l.length) → (g = l.length ∨ 0 < g) → readN p k lg s = ((g : Int), whole, { lg with L := lg.L ++ es, segs := lg.segs ++ [(n0, g)] })) := fun whole hw hyes => by
        rw [e1, if_pos hyes, ← hw]
      clear e1
      obtain ⟨sa1, ea1, sc1, ec1, X1, hs1, hr1, hdX1, rfl, rfl⟩ := hlg
      simp only at hs1
      obtain ⟨c0, c1, c2, c3, c4, c5⟩ := lobj_cells (sp.own 1 rfl)
      have xlt := heap_lt (sp.own 1 rfl).h0
      obtain ⟨nl, hnl⟩ : ∃ nl, nl = (lg.L ++ es).length := ⟨_, rfl⟩
      rw [← hnl] at c3 sp
      replace hnl := Lib.hid hnl
      replace hseg := Lib.hid hseg
      replace hs1 := Lib.hid hs1
      have hcase : (g = l.length) ∨ (g ≠ l.length ∧ 0 < g) ∨ (g ≠ l.length ∧ g = 0) := by omega
      rcases hcase with hw | ⟨hw, hpos⟩ | ⟨hw, hz⟩
      · have q7 : ((g : Int) == (l.length : Int)) = true := beq_iff_eq.2 (by omega)
        have hwh := Lib.hid (hend2.out true (by rw [hw]; simp) (.inl hw))
        replace hw := Lib.hid hw
        have sp1 : Sp w0 K _ [DH, [(b, lobj d p sa1 lg.segs.length sc1 ea1 nl ec1 lg.synced lg.dead)], S, E1, rwH X1, G, [(wc.heap.size, .cells #[strV s, iv g] 92 (0, 0))]] := sp.alloc _
        go_upto_region 14 with fail
        go_wp2_with (at_builtin; refine wpList_app rfl st_seg _ _ rfl (by rfl) (by rfl) hs1.out (sp1.own 2 rfl) (rdCells_block (heap_alloc_new _ _) rfl (by simp [Value.oneCell'])) (by unfold maxLen; omega) (by omega) ?_; intro a9 c9 w9 H9 hv9 hst9; have sp2 : Sp w0 K w9 [DH, [(b, lobj d p sa1 lg.segs.length sc1 ea1 nl ec1 lg.synced lg.dead)], H9, E1, rwH X1, G, _] := sp1.put 2 rfl hst9; replace hv9 := Lib.hid hv9; clear c0 c1 c2 c3 c4 c5 xlt hst9; obtain ⟨c0, c1, c2, c3, c4, c5⟩ := lobj_cells (sp2.own 1 rfl); have xlt := heap_lt (sp2.own 1 rfl).h0; have fz := fun i => frz_of (i := i) (sp2.own 1 rfl).h0)
        go_ret2
        rw [hwh.out]
        refine ⟨rfl, _, H9, E1, rwH X1, ⟨a9, ea1, c9, ec1, X1, ?_, hr1, hdX1, rfl, rfl⟩, ?_⟩
        · have h9 := hv9.out
          have e9 : (lg.segs ++ [(n0, g)]).flatMap (sgC p) = lg.segs.flatMap (sgC p) ++ [strV s, iv g] := by rw [List.flatMap_append, hsq.out]; rfl
          simp only [List.length_append, List.length_singleton, e9]
          exact h9
        · have h8 := ((sp2.store 1 rfl (j := 2) (.slice a9 (lg.segs.length + 1) c9)).forget 5 rfl).forget 6 rfl
          have h7 := hnl.out
          simp only [List.length_append, List.length_singleton] at h7 ⊢
          rw [← h7]
          exact h8.perm (by simp)
      · have q7 : ((g : Int) == (l.length : Int)) = false := beq_eq_false_iff_ne.2 (by omega)
        have q8 : (0 : Int) < (g : Int) := by omega
        have hwh := Lib.hid (hend2.out false (by rw [decide_eq_false hw]) (.inr hpos))
        replace hw := Lib.hid hw
        replace hpos := Lib.hid hpos
        have sp1 : Sp w0 K _ [DH, [(b, lobj d p sa1 lg.segs.length sc1 ea1 nl ec1 lg.synced lg.dead)], S, E1, rwH X1, G, [(wc.heap.size, .cells #[strV s, iv g] 92 (0, 0))]] := sp.alloc _
        go_upto_region 14 with fail
        go_wp2_with (at_builtin; refine wpList_app rfl st_seg _ _ rfl (by rfl) (by rfl) hs1.out (sp1.own 2 rfl) (rdCells_block (heap_alloc_new _ _) rfl (by simp [Value.oneCell'])) (by unfold maxLen; omega) (by omega) ?_; intro a9 c9 w9 H9 hv9 hst9; have sp2 : Sp w0 K w9 [DH, [(b, lobj d p sa1 lg.segs.length sc1 ea1 nl ec1 lg.synced lg.dead)], H9, E1, rwH X1, G, _] := sp1.put 2 rfl hst9; replace hv9 := Lib.hid hv9; clear c0 c1 c2 c3 c4 c5 xlt hst9; obtain ⟨c0, c1, c2, c3, c4, c5⟩ := lobj_cells (sp2.own 1 rfl); have xlt := heap_lt (sp2.own 1 rfl).h0; have fz := fun i => frz_of (i := i) (sp2.own 1 rfl).h0)
        go_ret2
        rw [hwh.out]
        refine ⟨rfl, _, H9, E1, rwH X1, ⟨a9, ea1, c9, ec1, X1, ?_, hr1, hdX1, rfl, rfl⟩, ?_⟩
        · have h9 := hv9.out
          have e9 : (lg.segs ++ [(n0, g)]).flatMap (sgC p) = lg.segs.flatMap (sgC p) ++ [strV s, iv g] := by rw [List.flatMap_append, hsq.out]; rfl
          simp only [List.length_append, List.length_singleton, e9]
          exact h9
        · have h8 := ((sp2.store 1 rfl (j := 2) (.slice a9 (lg.segs.length + 1) c9)).forget 5 rfl).forget 6 rfl
          have h7 := hnl.out
          simp only [List.length_append, List.length_singleton] at h7 ⊢
          rw [← h7]
          exact h8.perm (by simp)
      · have q7 : ((g : Int) == (l.length : Int)) = false := beq_eq_false_iff_ne.2 (by omega)
        have q8 : (g : Int) ≤ 0 := by omega
        have hwh := Lib.hid (hend.out false (by rw [decide_eq_false hw]) (by rintro (h | h) <;> omega))
        replace hw := Lib.hid hw
        replace hz := Lib.hid hz
        go_wp2_with fail
        go_ret2
        exact hwh.out
end Go.Proofs.YtdolbeonpkanpaaGreatDoor
