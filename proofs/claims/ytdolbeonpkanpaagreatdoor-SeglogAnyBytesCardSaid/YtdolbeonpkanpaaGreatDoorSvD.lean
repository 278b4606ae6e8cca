/- A pair of logs: a step in both, the rest. -/
import Derived.Test.YtdolbeonpkanpaaGreatDoorSvC
set_option linter.unusedVariables false
set_option linter.unusedSimpArgs false
namespace Go.Proofs.YtdolbeonpkanpaaGreatDoor
open Go.RowKit
attribute [local go_sem ↓] Go.wp_at_zero Go.wp_at_succ
theorem PrS.own0 {pb d r b c : Nat} {p : Nm} {lg lg' : Lg} {k k' : Dk} {w0 W : World} {K : Heaplet} {Q : List Heaplet} {G : Heaplet} (h : PrS pb d r b c p lg k lg' k' (G :: Q) w0 K W) : Own W G := PrS.ownR (A := []) h
theorem PrS.own1 {pb d r b c : Nat} {p : Nm} {lg lg' : Lg} {k k' : Dk} {w0 W : World} {K : Heaplet} {Q : List Heaplet} {G0 G : Heaplet} (h : PrS pb d r b c p lg k lg' k' (G0 :: G :: Q) w0 K W) : Own W G := PrS.ownR (A := [G0]) h
theorem PrS.own2 {pb d r b c : Nat} {p : Nm} {lg lg' : Lg} {k k' : Dk} {w0 W : World} {K : Heaplet} {Q : List Heaplet} {G0 G1 G : Heaplet} (h : PrS pb d r b c p lg k lg' k' (G0 :: G1 :: G :: Q) w0 K W) : Own W G := PrS.ownR (A := [G0, G1]) h
theorem ent_len {lg : Lg} (hl : lg.Ok) (n : Int) : (entN lg n).1.length ≤ 1073741824 := by
  unfold entN
  split
  · exact Nat.zero_le _
  · rename_i h
    simp only
    rw [List.getD_eq_getElem?_getD]
    cases h2 : lg.L[n.toNat - 1]? with
    | none => exact Nat.zero_le _
    | some e => exact hl.ents _ (List.mem_of_getElem? h2)
theorem last_names (lg : Lg) {m : Nat} (h : lg.segs.length = m + 1) : (lnames [97] lg)[m]? = some (nameN [97] (lastSeg lg).1) := by
  have h2 := last_at (lg := lg) (by intro e; rw [e] at h; cases h)
  rw [h, Nat.add_sub_cancel] at h2
  unfold lnames
  rw [List.getElem?_map, h2]
  rfl
section
variable {pb d r b c : Nat} {lg : Lg} {k : Dk} {w0 w : World} {K : Heaplet} {N : Nat}
set_option maxHeartbeats 1000000 in
set_option maxRecDepth 100000 in
theorem do_fuse (x : Sq) (hK : x.kind = 4) (h : PrS pb d r b c [97] lg k lg k [] w0 K w) (hI : LInv N [97] lg k) (hN : N < 99999999) (hx : x.big w0 K) :
    Calls Tryz.prog 26 #[pt pb, .agg (sqCells x).toArray] w (DoP pb d r (stepS x (lg, k)) w0 K) := by
  obtain ⟨kind, n, ba, bn, bc, xd, tear⟩ := x
  simp only at hK
  obtain ⟨hrd, hdl, hn⟩ := hx
  simp only at hrd hdl hn
  subst hK
  have hl := hI.ok (by omega)
  obtain ⟨k1, hk1⟩ : ∃ k1, k1 = fuN n k := ⟨_, rfl⟩
  have hst : stepS ⟨4, n, ba, bn, bc, xd, tear⟩ (lg, k) = (lg, k1) := by show (lg, fuN n k) = _; rw [hk1]
  rw [hst]
  clear hst
  have hA := Lib.hid (fun W Rs (h : PrS pb d r b c [97] lg k lg k Rs w0 K W) => ps_fuse h n hn)
  have hB := Lib.hid (fun W Rs (h : PrS pb d r b c [97] lg k1 lg k Rs w0 K W) => psr_fuse h n hn)
  rw [← hk1] at hA hB
  replace hk1 := Lib.hid hk1
  have hE1 := Lib.hid (fun W Rs (h : PrS pb d r b c [97] lg k1 lg k1 Rs w0 K W) => ps_entry h hl n)
  have hE2 := Lib.hid (fun W Rs (h : PrS pb d r b c [97] lg k1 lg k1 Rs w0 K W) => psr_entry h hl n)
  have hel := ent_len hl n
  obtain ⟨⟨el, en⟩, hen⟩ : ∃ z, z = entN lg n := ⟨_, rfl⟩
  rw [← hen] at hE1 hE2 hel
  simp only at hE1 hE2 hel
  replace hen := Lib.hid hen
  have q2 : ((en : Int) == (en : Int)) = true := by simp
  clear hrd hdl
  go_enter Tryz.func26, Tryz.ntmps26
  go_upto_region 1 with fail
  have h1 := h.alloc (.cells #[ii 4, ii n, .slice ba bn bc, u8 tear] 59 (0, 0))
  simp only [sqCells] at h1 ⊢
  generalize w.heap.size = xb at h1 ⊢
  refine PrS.gen h1 ?_
  clear h1 h
  intro W h
  rw [List.nil_append] at h
  obtain ⟨y0, y1, y2, y3⟩ := sq_cells (PrS.own0 h)
  have xlt := heap_lt (PrS.own0 h).h0
  go_upto_region 16 with fail
  clear y0 y1 y2 y3 xlt
  replace h := h.drew
  refine wp_region_J 6 (fun w' => w'.cell? ⟨pb, 0, none⟩ = some (pt d) ∧ w'.cell? ⟨xb, 1, none⟩ = some (ii n)) (by kernel_rfl) ?_ (fun hF => ?_)
  · (try dsimp only)
    all_goals (exact ⟨h.cells.1, (sq_cells (PrS.own0 h)).2.1⟩)
  refine tk0 (i := 0) (oi := ⟨some 103, .move (.tmp 0), 25, "law.go:122", #[], none⟩) (v := ?_) rfl (by kernel_rfl) (fun _ _ _ h => h) (fun _ => hF) (fun w => ?_) (by rfl) ?_
  rotate_left
  · first | (go_simp; done) | (go_simp; with_reducible rfl) | (go_split_ands; go_simp; done)
  try simp only [Act.put, nrmA, nrmB, nrmC]
  refine tk0 (i := 1) (oi := ⟨some 104, .nilCheck (.tmp 103), 0, "law.go:122", #[⟨0, .data⟩], none⟩) (v := ?_) rfl (by kernel_rfl) (fun _ _ _ h => h) (fun _ => hF) (fun w => ?_) (by rfl) ?_
  rotate_left
  · first | (go_simp; done) | (go_simp; with_reducible rfl) | (go_split_ands; go_simp; done)
  try simp only [Act.put, nrmA, nrmB, nrmC]
  refine tk0 (i := 2) (oi := ⟨some 105, .fieldAddr 33 (.tmp 104) 0, 0, "law.go:122", #[⟨1, .data⟩], none⟩) (v := ?_) rfl (by kernel_rfl) (fun _ _ _ h => h) (fun _ => hF) (fun w => ?_) (by rfl) ?_
  rotate_left
  · first | (go_simp; done) | (go_simp; with_reducible rfl) | (go_split_ands; go_simp; done)
  try simp only [Act.put, nrmA, nrmB, nrmC]
  refine tk1 (i := 3) (oi := ⟨some 106, .load 28 (.tmp 105), 28, "law.go:122", #[⟨2, .data⟩], none⟩) (v := ?_) [6] rfl (by kernel_rfl) (fun _ _ _ h => h) hF (fun w hFw => ?_) (by rfl) ?_
  rotate_left
  · ((try dsimp only at hFw); first | (go_simp; done) | (go_simp; with_reducible rfl) | (go_split_ands; go_simp; done))
  try simp only [Act.put, nrmA, nrmB, nrmC]
  refine tk0 (i := 4) (oi := ⟨some 107, .fieldAddr 59 (.tmp 3) 1, 0, "law.go:122", #[], none⟩) (v := ?_) rfl (by kernel_rfl) (fun _ _ _ h => h) (fun _ => hF) (fun w => ?_) (by rfl) ?_
  rotate_left
  · first | (go_simp; done) | (go_simp; with_reducible rfl) | (go_split_ands; go_simp; done)
  try simp only [Act.put, nrmA, nrmB, nrmC]
  refine tk1 (i := 5) (oi := ⟨some 108, .load 3 (.tmp 107), 3, "law.go:122", #[⟨4, .data⟩], none⟩) (v := ?_) [6] rfl (by kernel_rfl) (fun _ _ _ h => h) hF (fun w hFw => ?_) (by rfl) ?_
  rotate_left
  · ((try dsimp only at hFw); first | (go_simp; done) | (go_simp; with_reducible rfl) | (go_split_ands; go_simp; done))
  try simp only [Act.put, nrmA, nrmB, nrmC]
  refine wpAnyJ_ready (rs := [6]) (by kernel_rfl) (by simp) ?_
  refine AllJ.cons1 (o := ⟨some 109, .call { callee := .value (.func 12), args := #[.tmp 106, .tmp 108], argTypes := #[28, 3] }, 0, "law.go:122", #[⟨3, .data⟩, ⟨5, .data⟩], none⟩) rfl (fun Kr hKr => ?_)
  go_simp; go_at_call 12; refine (hA.out _ _ h).mono ?_; rintro e w4 ⟨rfl, h⟩
  refine hKr.out _ _ (fun hJ => ?_) (fun hF => ?_)
  · first
    | exact absurd hJ (by decide)
    | (clear hJ; (try dsimp only); all_goals (exact ⟨h.cells.1, (sq_cells (PrS.own0 h)).2.1⟩))
  clear hKr
  try simp only [Act.put, nrmA, nrmB, nrmC]
  refine wpAnyJ_done (by kernel_rfl) ?_ _
  go_upto_region 17 with fail
  replace h := h.drew
  refine wp_region_J 6 (fun w' => w'.cell? ⟨pb, 1, none⟩ = some (pt r) ∧ w'.cell? ⟨xb, 1, none⟩ = some (ii n)) (by kernel_rfl) ?_ (fun hF => ?_)
  · (try dsimp only)
    all_goals (exact ⟨h.cells.2.1, (sq_cells (PrS.own0 h)).2.1⟩)
  refine tk0 (i := 0) (oi := ⟨some 110, .move (.tmp 0), 25, "law.go:123", #[], none⟩) (v := ?_) rfl (by kernel_rfl) (fun _ _ _ h => h) (fun _ => hF) (fun w => ?_) (by rfl) ?_
  rotate_left
  · first | (go_simp; done) | (go_simp; with_reducible rfl) | (go_split_ands; go_simp; done)
  try simp only [Act.put, nrmA, nrmB, nrmC]
  refine tk0 (i := 1) (oi := ⟨some 111, .nilCheck (.tmp 110), 0, "law.go:123", #[⟨0, .data⟩], none⟩) (v := ?_) rfl (by kernel_rfl) (fun _ _ _ h => h) (fun _ => hF) (fun w => ?_) (by rfl) ?_
  rotate_left
  · first | (go_simp; done) | (go_simp; with_reducible rfl) | (go_split_ands; go_simp; done)
  try simp only [Act.put, nrmA, nrmB, nrmC]
  refine tk0 (i := 2) (oi := ⟨some 112, .fieldAddr 33 (.tmp 111) 1, 0, "law.go:123", #[⟨1, .data⟩], none⟩) (v := ?_) rfl (by kernel_rfl) (fun _ _ _ h => h) (fun _ => hF) (fun w => ?_) (by rfl) ?_
  rotate_left
  · first | (go_simp; done) | (go_simp; with_reducible rfl) | (go_split_ands; go_simp; done)
  try simp only [Act.put, nrmA, nrmB, nrmC]
  refine tk1 (i := 3) (oi := ⟨some 113, .load 29 (.tmp 112), 29, "law.go:123", #[⟨2, .data⟩], none⟩) (v := ?_) [6] rfl (by kernel_rfl) (fun _ _ _ h => h) hF (fun w hFw => ?_) (by rfl) ?_
  rotate_left
  · ((try dsimp only at hFw); first | (go_simp; done) | (go_simp; with_reducible rfl) | (go_split_ands; go_simp; done))
  try simp only [Act.put, nrmA, nrmB, nrmC]
  refine tk0 (i := 4) (oi := ⟨some 114, .fieldAddr 59 (.tmp 3) 1, 0, "law.go:123", #[], none⟩) (v := ?_) rfl (by kernel_rfl) (fun _ _ _ h => h) (fun _ => hF) (fun w => ?_) (by rfl) ?_
  rotate_left
  · first | (go_simp; done) | (go_simp; with_reducible rfl) | (go_split_ands; go_simp; done)
  try simp only [Act.put, nrmA, nrmB, nrmC]
  refine tk1 (i := 5) (oi := ⟨some 115, .load 3 (.tmp 114), 3, "law.go:123", #[⟨4, .data⟩], none⟩) (v := ?_) [6] rfl (by kernel_rfl) (fun _ _ _ h => h) hF (fun w hFw => ?_) (by rfl) ?_
  rotate_left
  · ((try dsimp only at hFw); first | (go_simp; done) | (go_simp; with_reducible rfl) | (go_split_ands; go_simp; done))
  try simp only [Act.put, nrmA, nrmB, nrmC]
  refine wpAnyJ_ready (rs := [6]) (by kernel_rfl) (by simp) ?_
  refine AllJ.cons1 (o := ⟨some 116, .call { callee := .value (.func 13), args := #[.tmp 113, .tmp 115], argTypes := #[29, 3] }, 0, "law.go:123", #[⟨3, .data⟩, ⟨5, .data⟩], none⟩) rfl (fun Kr hKr => ?_)
  go_simp; go_at_call 13; refine (hB.out _ _ h).mono ?_; rintro e w5 ⟨rfl, h⟩
  refine hKr.out _ _ (fun hJ => ?_) (fun hF => ?_)
  · first
    | exact absurd hJ (by decide)
    | (clear hJ; (try dsimp only); all_goals (exact ⟨h.cells.2.1, (sq_cells (PrS.own0 h)).2.1⟩))
  clear hKr
  try simp only [Act.put, nrmA, nrmB, nrmC]
  refine wpAnyJ_done (by kernel_rfl) ?_ _
  go_upto_region 27 with fail
  replace h := h.drew
  refine wp_region_J 11 (fun w' => w'.cell? ⟨pb, 2, none⟩ = some (pt b) ∧ w'.cell? ⟨xb, 1, none⟩ = some (ii n)) (by kernel_rfl) ?_ (fun hF => ?_)
  · (try dsimp only)
    all_goals (exact ⟨h.cells.2.2.1, (sq_cells (PrS.own0 h)).2.1⟩)
  refine tk0 (i := 0) (oi := ⟨some 175, .move (.tmp 0), 25, "law.go:135", #[], none⟩) (v := ?_) rfl (by kernel_rfl) (fun _ _ _ h => h) (fun _ => hF) (fun w => ?_) (by rfl) ?_
  rotate_left
  · first | (go_simp; done) | (go_simp; with_reducible rfl) | (go_split_ands; go_simp; done)
  try simp only [Act.put, nrmA, nrmB, nrmC]
  refine tk0 (i := 1) (oi := ⟨some 176, .nilCheck (.tmp 175), 0, "law.go:135", #[⟨0, .data⟩], none⟩) (v := ?_) rfl (by kernel_rfl) (fun _ _ _ h => h) (fun _ => hF) (fun w => ?_) (by rfl) ?_
  rotate_left
  · first | (go_simp; done) | (go_simp; with_reducible rfl) | (go_split_ands; go_simp; done)
  try simp only [Act.put, nrmA, nrmB, nrmC]
  refine tk0 (i := 2) (oi := ⟨some 177, .fieldAddr 33 (.tmp 176) 2, 0, "law.go:135", #[⟨1, .data⟩], none⟩) (v := ?_) rfl (by kernel_rfl) (fun _ _ _ h => h) (fun _ => hF) (fun w => ?_) (by rfl) ?_
  rotate_left
  · first | (go_simp; done) | (go_simp; with_reducible rfl) | (go_split_ands; go_simp; done)
  try simp only [Act.put, nrmA, nrmB, nrmC]
  refine tk1 (i := 3) (oi := ⟨some 178, .load 30 (.tmp 177), 30, "law.go:135", #[⟨2, .data⟩], none⟩) (v := ?_) [11] rfl (by kernel_rfl) (fun _ _ _ h => h) hF (fun w hFw => ?_) (by rfl) ?_
  rotate_left
  · ((try dsimp only at hFw); first | (go_simp; done) | (go_simp; with_reducible rfl) | (go_split_ands; go_simp; done))
  try simp only [Act.put, nrmA, nrmB, nrmC]
  refine tk0 (i := 4) (oi := ⟨some 179, .fieldAddr 59 (.tmp 3) 1, 0, "law.go:135", #[], none⟩) (v := ?_) rfl (by kernel_rfl) (fun _ _ _ h => h) (fun _ => hF) (fun w => ?_) (by rfl) ?_
  rotate_left
  · first | (go_simp; done) | (go_simp; with_reducible rfl) | (go_split_ands; go_simp; done)
  try simp only [Act.put, nrmA, nrmB, nrmC]
  refine tk1 (i := 5) (oi := ⟨some 180, .load 3 (.tmp 179), 3, "law.go:135", #[⟨4, .data⟩], none⟩) (v := ?_) [11] rfl (by kernel_rfl) (fun _ _ _ h => h) hF (fun w hFw => ?_) (by rfl) ?_
  rotate_left
  · ((try dsimp only at hFw); first | (go_simp; done) | (go_simp; with_reducible rfl) | (go_split_ands; go_simp; done))
  try simp only [Act.put, nrmA, nrmB, nrmC]
  refine wpAnyJ_ready (rs := [6]) (by kernel_rfl) (by simp) ?_
  refine AllJ.cons1 (o := ⟨some 181, .call { callee := .value (.func 23), args := #[.tmp 178, .tmp 180], argTypes := #[30, 3] }, 48, "law.go:135", #[⟨3, .data⟩, ⟨5, .data⟩], none⟩) rfl (fun Kr hKr => ?_)
  go_simp; go_at_call 23; refine (hE1.out _ _ h).mono ?_; rintro e w4 ⟨a1, c1, X1, rfl, r1, h⟩
  simp only [List.cons_append, List.nil_append] at h
  refine hKr.out _ _ (fun hJ => ?_) (fun hF => ?_)
  · first
    | exact absurd hJ (by decide)
    | (clear hJ; (try dsimp only); all_goals (exact ⟨h.cells.2.2.1, (sq_cells (PrS.own0 h)).2.1⟩))
  clear hKr
  try simp only [Act.put, nrmA, nrmB, nrmC]
  refine tk0 (i := 7) (oi := ⟨some 174, .move (.tmp 181), 48, "law.go:135", #[⟨6, .data⟩], none⟩) (v := ?_) rfl (by kernel_rfl) (fun _ _ _ h => h) (fun _ => hF (by kernel_rfl)) (fun w => ?_) (by rfl) ?_
  rotate_left
  · first | (go_simp; done) | (go_simp; with_reducible rfl) | (go_split_ands; go_simp; done)
  try simp only [Act.put, nrmA, nrmB, nrmC]
  refine tk0 (i := 8) (oi := ⟨some 182, .extract (.tmp 174) 0, 23, "law.go:135", #[⟨7, .data⟩], none⟩) (v := ?_) rfl (by kernel_rfl) (fun _ _ _ h => h) (fun _ => hF (by kernel_rfl)) (fun w => ?_) (by rfl) ?_
  rotate_left
  · first | (go_simp; done) | (go_simp; with_reducible rfl) | (go_split_ands; go_simp; done)
  try simp only [Act.put, nrmA, nrmB, nrmC]
  refine tk0 (i := 9) (oi := ⟨some 183, .extract (.tmp 174) 1, 35, "law.go:135", #[⟨7, .data⟩, { on := 10, ground := Go.Ground.gcOnly Go.Departure.lateStores }], none⟩) (v := ?_) rfl (by kernel_rfl) (fun _ _ _ h => h) (fun _ => hF (by kernel_rfl)) (fun w => ?_) (by rfl) ?_
  rotate_left
  · first | (go_simp; done) | (go_simp; with_reducible rfl) | (go_split_ands; go_simp; done)
  try simp only [Act.put, nrmA, nrmB, nrmC]
  refine wpAnyJ_ready (rs := [10]) (by kernel_rfl) (by simp) ?_
  refine AllJ.cons1 (o := ⟨some 14, .assign (.tmp 182), 23, "law.go:135", #[⟨8, .data⟩, ⟨6, .chain⟩, ⟨0, .phase⟩, ⟨1, .phase⟩, ⟨2, .phase⟩, ⟨3, .phase⟩, ⟨4, .phase⟩, ⟨5, .phase⟩, ⟨6, .phase⟩, ⟨7, .phase⟩, ⟨8, .phase⟩, { on := 9, ground := Go.Ground.textOnly Go.Departure.lateStores }], none⟩) rfl (fun Kr hKr => ?_)
  go_simp
  refine hKr.out _ _ (fun hJ => ?_) (fun hF => ?_)
  · first
    | exact absurd hJ (by decide)
    | (clear hJ; (try dsimp only); all_goals (exact ⟨h.cells.2.2.1, (sq_cells (PrS.own0 h)).2.1⟩))
  clear hKr
  try simp only [Act.put, nrmA, nrmB, nrmC]
  refine wpAnyJ_ready (rs := [11]) (by kernel_rfl) (by simp) ?_
  refine AllJ.cons1 (o := ⟨some 15, .assign (.tmp 183), 35, "law.go:135", #[⟨9, .data⟩, ⟨10, .chain⟩, ⟨0, .phase⟩, ⟨1, .phase⟩, ⟨2, .phase⟩, ⟨3, .phase⟩, ⟨4, .phase⟩, ⟨5, .phase⟩, ⟨6, .phase⟩, ⟨7, .phase⟩, ⟨8, .phase⟩, ⟨9, .phase⟩, ⟨10, .phase⟩], none⟩) rfl (fun Kr hKr => ?_)
  go_simp
  refine hKr.out _ _ (fun hJ => ?_) (fun hF => ?_)
  · first
    | exact absurd hJ (by decide)
    | (clear hJ; (try dsimp only); all_goals (exact ⟨h.cells.2.2.1, (sq_cells (PrS.own0 h)).2.1⟩))
  clear hKr
  try simp only [Act.put, nrmA, nrmB, nrmC]
  refine wpAnyJ_done (by kernel_rfl) ?_ _
  go_upto_region 28 with fail
  replace h := h.drew
  refine wp_region_J 11 (fun w' => w'.cell? ⟨pb, 3, none⟩ = some (pt c) ∧ w'.cell? ⟨xb, 1, none⟩ = some (ii n)) (by kernel_rfl) ?_ (fun hF => ?_)
  · (try dsimp only)
    all_goals (exact ⟨h.cells.2.2.2, (sq_cells (PrS.own0 h)).2.1⟩)
  refine tk0 (i := 0) (oi := ⟨some 185, .move (.tmp 0), 25, "law.go:136", #[], none⟩) (v := ?_) rfl (by kernel_rfl) (fun _ _ _ h => h) (fun _ => hF) (fun w => ?_) (by rfl) ?_
  rotate_left
  · first | (go_simp; done) | (go_simp; with_reducible rfl) | (go_split_ands; go_simp; done)
  try simp only [Act.put, nrmA, nrmB, nrmC]
  refine tk0 (i := 1) (oi := ⟨some 186, .nilCheck (.tmp 185), 0, "law.go:136", #[⟨0, .data⟩], none⟩) (v := ?_) rfl (by kernel_rfl) (fun _ _ _ h => h) (fun _ => hF) (fun w => ?_) (by rfl) ?_
  rotate_left
  · first | (go_simp; done) | (go_simp; with_reducible rfl) | (go_split_ands; go_simp; done)
  try simp only [Act.put, nrmA, nrmB, nrmC]
  refine tk0 (i := 2) (oi := ⟨some 187, .fieldAddr 33 (.tmp 186) 3, 0, "law.go:136", #[⟨1, .data⟩], none⟩) (v := ?_) rfl (by kernel_rfl) (fun _ _ _ h => h) (fun _ => hF) (fun w => ?_) (by rfl) ?_
  rotate_left
  · first | (go_simp; done) | (go_simp; with_reducible rfl) | (go_split_ands; go_simp; done)
  try simp only [Act.put, nrmA, nrmB, nrmC]
  refine tk1 (i := 3) (oi := ⟨some 188, .load 31 (.tmp 187), 31, "law.go:136", #[⟨2, .data⟩], none⟩) (v := ?_) [11] rfl (by kernel_rfl) (fun _ _ _ h => h) hF (fun w hFw => ?_) (by rfl) ?_
  rotate_left
  · ((try dsimp only at hFw); first | (go_simp; done) | (go_simp; with_reducible rfl) | (go_split_ands; go_simp; done))
  try simp only [Act.put, nrmA, nrmB, nrmC]
  refine tk0 (i := 4) (oi := ⟨some 189, .fieldAddr 59 (.tmp 3) 1, 0, "law.go:136", #[], none⟩) (v := ?_) rfl (by kernel_rfl) (fun _ _ _ h => h) (fun _ => hF) (fun w => ?_) (by rfl) ?_
  rotate_left
  · first | (go_simp; done) | (go_simp; with_reducible rfl) | (go_split_ands; go_simp; done)
  try simp only [Act.put, nrmA, nrmB, nrmC]
  refine tk1 (i := 5) (oi := ⟨some 190, .load 3 (.tmp 189), 3, "law.go:136", #[⟨4, .data⟩], none⟩) (v := ?_) [11] rfl (by kernel_rfl) (fun _ _ _ h => h) hF (fun w hFw => ?_) (by rfl) ?_
  rotate_left
  · ((try dsimp only at hFw); first | (go_simp; done) | (go_simp; with_reducible rfl) | (go_split_ands; go_simp; done))
  try simp only [Act.put, nrmA, nrmB, nrmC]
  refine wpAnyJ_ready (rs := [6]) (by kernel_rfl) (by simp) ?_
  refine AllJ.cons1 (o := ⟨some 191, .call { callee := .value (.func 66), args := #[.tmp 188, .tmp 190], argTypes := #[31, 3] }, 96, "law.go:136", #[⟨3, .data⟩, ⟨5, .data⟩], none⟩) rfl (fun Kr hKr => ?_)
  go_simp; go_at_call 66; refine (hE2.out _ _ h).mono ?_; rintro e w5 ⟨a2, c2, X2, rfl, r2, h⟩
  simp only [List.cons_append, List.nil_append] at h
  refine hKr.out _ _ (fun hJ => ?_) (fun hF => ?_)
  · first
    | exact absurd hJ (by decide)
    | (clear hJ; (try dsimp only); all_goals (exact ⟨h.cells.2.2.2, (sq_cells (PrS.own0 h)).2.1⟩))
  clear hKr
  try simp only [Act.put, nrmA, nrmB, nrmC]
  refine tk0 (i := 7) (oi := ⟨some 184, .move (.tmp 191), 96, "law.go:136", #[⟨6, .data⟩], none⟩) (v := ?_) rfl (by kernel_rfl) (fun _ _ _ h => h) (fun _ => hF (by kernel_rfl)) (fun w => ?_) (by rfl) ?_
  rotate_left
  · first | (go_simp; done) | (go_simp; with_reducible rfl) | (go_split_ands; go_simp; done)
  try simp only [Act.put, nrmA, nrmB, nrmC]
  refine tk0 (i := 8) (oi := ⟨some 192, .extract (.tmp 184) 0, 23, "law.go:136", #[⟨7, .data⟩], none⟩) (v := ?_) rfl (by kernel_rfl) (fun _ _ _ h => h) (fun _ => hF (by kernel_rfl)) (fun w => ?_) (by rfl) ?_
  rotate_left
  · first | (go_simp; done) | (go_simp; with_reducible rfl) | (go_split_ands; go_simp; done)
  try simp only [Act.put, nrmA, nrmB, nrmC]
  refine tk0 (i := 9) (oi := ⟨some 193, .extract (.tmp 184) 1, 3, "law.go:136", #[⟨7, .data⟩, { on := 10, ground := Go.Ground.gcOnly Go.Departure.lateStores }], none⟩) (v := ?_) rfl (by kernel_rfl) (fun _ _ _ h => h) (fun _ => hF (by kernel_rfl)) (fun w => ?_) (by rfl) ?_
  rotate_left
  · first | (go_simp; done) | (go_simp; with_reducible rfl) | (go_split_ands; go_simp; done)
  try simp only [Act.put, nrmA, nrmB, nrmC]
  refine wpAnyJ_ready (rs := [10]) (by kernel_rfl) (by simp) ?_
  refine AllJ.cons1 (o := ⟨some 16, .assign (.tmp 192), 23, "law.go:136", #[⟨8, .data⟩, ⟨6, .chain⟩, ⟨0, .phase⟩, ⟨1, .phase⟩, ⟨2, .phase⟩, ⟨3, .phase⟩, ⟨4, .phase⟩, ⟨5, .phase⟩, ⟨6, .phase⟩, ⟨7, .phase⟩, ⟨8, .phase⟩, { on := 9, ground := Go.Ground.textOnly Go.Departure.lateStores }], none⟩) rfl (fun Kr hKr => ?_)
  go_simp
  refine hKr.out _ _ (fun hJ => ?_) (fun hF => ?_)
  · first
    | exact absurd hJ (by decide)
    | (clear hJ; (try dsimp only); all_goals (exact ⟨h.cells.2.2.2, (sq_cells (PrS.own0 h)).2.1⟩))
  clear hKr
  try simp only [Act.put, nrmA, nrmB, nrmC]
  refine wpAnyJ_ready (rs := [11]) (by kernel_rfl) (by simp) ?_
  refine AllJ.cons1 (o := ⟨some 17, .assign (.tmp 193), 3, "law.go:136", #[⟨9, .data⟩, ⟨10, .chain⟩, ⟨0, .phase⟩, ⟨1, .phase⟩, ⟨2, .phase⟩, ⟨3, .phase⟩, ⟨4, .phase⟩, ⟨5, .phase⟩, ⟨6, .phase⟩, ⟨7, .phase⟩, ⟨8, .phase⟩, ⟨9, .phase⟩, ⟨10, .phase⟩], none⟩) rfl (fun Kr hKr => ?_)
  go_simp
  refine hKr.out _ _ (fun hJ => ?_) (fun hF => ?_)
  · first
    | exact absurd hJ (by decide)
    | (clear hJ; (try dsimp only); all_goals (exact ⟨h.cells.2.2.2, (sq_cells (PrS.own0 h)).2.1⟩))
  clear hKr
  try simp only [Act.put, nrmA, nrmB, nrmC]
  refine wpAnyJ_done (by kernel_rfl) ?_ _
  replace r1 := Lib.hid r1
  replace r2 := Lib.hid r2
  go_wp2_with fail
  refine (same_any a1 a2 el.length c1 el.length c2 el el _ (r1.out.rdBytes (PrS.own1 h)) (r2.out.rdBytes (PrS.own2 h)) (by omega) (by omega)).mono ?_
  rintro e w6 ⟨rfl, h6⟩
  rw [decide_eq_true (rfl : el = el)]
  have h := h.still h6
  clear h6
  go_wp2_with fail
  refine (spoil_any a1 el.length c1 _ X1 _ r1.out (PrS.own1 h) (by omega)).mono ?_
  rintro e w7 ⟨rfl, X3, h7⟩
  have h := PrS.putR (A := [_]) (Q := [X2]) h h7
  go_wp2_with fail
  go_ret
  exact ⟨rfl, b, c, h.drop⟩
set_option maxHeartbeats 1000000 in
set_option maxRecDepth 100000 in
theorem do_read (x : Sq) (hK : x.kind ≠ 1 ∧ x.kind ≠ 2 ∧ x.kind ≠ 3 ∧ x.kind ≠ 4 ∧ x.kind ≠ 6) (h : PrS pb d r b c [97] lg k lg k [] w0 K w) (hI : LInv N [97] lg k) (hN : N < 99999999) (hx : x.big w0 K) :
    Calls Tryz.prog 26 #[pt pb, .agg (sqCells x).toArray] w (DoP pb d r (stepS x (lg, k)) w0 K) := by
  obtain ⟨kind, n, ba, bn, bc, xd, tear⟩ := x
  simp only at hK
  obtain ⟨hrd, hdl, hn⟩ := hx
  simp only at hrd hdl hn
  obtain ⟨k1, k2, k3, k4, k6⟩ := hK
  have hl := hI.ok (by omega)
  have hst : stepS ⟨kind, n, ba, bn, bc, xd, tear⟩ (lg, k) = (lg, k) := by simp only [stepS, if_neg k1, if_neg k2, if_neg k3, if_neg k4, if_neg k6]
  rw [hst]
  clear hst
  have hE1 := Lib.hid (fun W Rs (h : PrS pb d r b c [97] lg k lg k Rs w0 K W) => ps_entry h hl n)
  have hE2 := Lib.hid (fun W Rs (h : PrS pb d r b c [97] lg k lg k Rs w0 K W) => psr_entry h hl n)
  have hel := ent_len hl n
  obtain ⟨⟨el, en⟩, hen⟩ : ∃ z, z = entN lg n := ⟨_, rfl⟩
  rw [← hen] at hE1 hE2 hel
  simp only at hE1 hE2 hel
  replace hen := Lib.hid hen
  have q2 : ((en : Int) == (en : Int)) = true := by simp
  clear hrd hdl
  go_enter Tryz.func26, Tryz.ntmps26
  go_upto_region 1 with fail
  have h1 := h.alloc (.cells #[ii kind, ii n, .slice ba bn bc, u8 tear] 59 (0, 0))
  simp only [sqCells] at h1 ⊢
  generalize w.heap.size = xb at h1 ⊢
  refine PrS.gen h1 ?_
  clear h1 h
  intro W h
  rw [List.nil_append] at h
  obtain ⟨y0, y1, y2, y3⟩ := sq_cells (PrS.own0 h)
  have xlt := heap_lt (PrS.own0 h).h0
  go_upto_region 27 with fail
  clear y0 y1 y2 y3 xlt
  replace h := h
  replace h := h.drew
  refine wp_region_J 11 (fun w' => w'.cell? ⟨pb, 2, none⟩ = some (pt b) ∧ w'.cell? ⟨xb, 1, none⟩ = some (ii n)) (by kernel_rfl) ?_ (fun hF => ?_)
  · (try dsimp only)
    all_goals (exact ⟨h.cells.2.2.1, (sq_cells (PrS.own0 h)).2.1⟩)
  refine tk0 (i := 0) (oi := ⟨some 175, .move (.tmp 0), 25, "law.go:135", #[], none⟩) (v := ?_) rfl (by kernel_rfl) (fun _ _ _ h => h) (fun _ => hF) (fun w => ?_) (by rfl) ?_
  rotate_left
  · first | (go_simp; done) | (go_simp; with_reducible rfl) | (go_split_ands; go_simp; done)
  try simp only [Act.put, nrmA, nrmB, nrmC]
  refine tk0 (i := 1) (oi := ⟨some 176, .nilCheck (.tmp 175), 0, "law.go:135", #[⟨0, .data⟩], none⟩) (v := ?_) rfl (by kernel_rfl) (fun _ _ _ h => h) (fun _ => hF) (fun w => ?_) (by rfl) ?_
  rotate_left
  · first | (go_simp; done) | (go_simp; with_reducible rfl) | (go_split_ands; go_simp; done)
  try simp only [Act.put, nrmA, nrmB, nrmC]
  refine tk0 (i := 2) (oi := ⟨some 177, .fieldAddr 33 (.tmp 176) 2, 0, "law.go:135", #[⟨1, .data⟩], none⟩) (v := ?_) rfl (by kernel_rfl) (fun _ _ _ h => h) (fun _ => hF) (fun w => ?_) (by rfl) ?_
  rotate_left
  · first | (go_simp; done) | (go_simp; with_reducible rfl) | (go_split_ands; go_simp; done)
  try simp only [Act.put, nrmA, nrmB, nrmC]
  refine tk1 (i := 3) (oi := ⟨some 178, .load 30 (.tmp 177), 30, "law.go:135", #[⟨2, .data⟩], none⟩) (v := ?_) [11] rfl (by kernel_rfl) (fun _ _ _ h => h) hF (fun w hFw => ?_) (by rfl) ?_
  rotate_left
  · ((try dsimp only at hFw); first | (go_simp; done) | (go_simp; with_reducible rfl) | (go_split_ands; go_simp; done))
  try simp only [Act.put, nrmA, nrmB, nrmC]
  refine tk0 (i := 4) (oi := ⟨some 179, .fieldAddr 59 (.tmp 3) 1, 0, "law.go:135", #[], none⟩) (v := ?_) rfl (by kernel_rfl) (fun _ _ _ h => h) (fun _ => hF) (fun w => ?_) (by rfl) ?_
  rotate_left
  · first | (go_simp; done) | (go_simp; with_reducible rfl) | (go_split_ands; go_simp; done)
  try simp only [Act.put, nrmA, nrmB, nrmC]
  refine tk1 (i := 5) (oi := ⟨some 180, .load 3 (.tmp 179), 3, "law.go:135", #[⟨4, .data⟩], none⟩) (v := ?_) [11] rfl (by kernel_rfl) (fun _ _ _ h => h) hF (fun w hFw => ?_) (by rfl) ?_
  rotate_left
  · ((try dsimp only at hFw); first | (go_simp; done) | (go_simp; with_reducible rfl) | (go_split_ands; go_simp; done))
  try simp only [Act.put, nrmA, nrmB, nrmC]
  refine wpAnyJ_ready (rs := [6]) (by kernel_rfl) (by simp) ?_
  refine AllJ.cons1 (o := ⟨some 181, .call { callee := .value (.func 23), args := #[.tmp 178, .tmp 180], argTypes := #[30, 3] }, 48, "law.go:135", #[⟨3, .data⟩, ⟨5, .data⟩], none⟩) rfl (fun Kr hKr => ?_)
  go_simp; go_at_call 23; refine (hE1.out _ _ h).mono ?_; rintro e w4 ⟨a1, c1, X1, rfl, r1, h⟩
  simp only [List.cons_append, List.nil_append] at h
  refine hKr.out _ _ (fun hJ => ?_) (fun hF => ?_)
  · first
    | exact absurd hJ (by decide)
    | (clear hJ; (try dsimp only); all_goals (exact ⟨h.cells.2.2.1, (sq_cells (PrS.own0 h)).2.1⟩))
  clear hKr
  try simp only [Act.put, nrmA, nrmB, nrmC]
  refine tk0 (i := 7) (oi := ⟨some 174, .move (.tmp 181), 48, "law.go:135", #[⟨6, .data⟩], none⟩) (v := ?_) rfl (by kernel_rfl) (fun _ _ _ h => h) (fun _ => hF (by kernel_rfl)) (fun w => ?_) (by rfl) ?_
  rotate_left
  · first | (go_simp; done) | (go_simp; with_reducible rfl) | (go_split_ands; go_simp; done)
  try simp only [Act.put, nrmA, nrmB, nrmC]
  refine tk0 (i := 8) (oi := ⟨some 182, .extract (.tmp 174) 0, 23, "law.go:135", #[⟨7, .data⟩], none⟩) (v := ?_) rfl (by kernel_rfl) (fun _ _ _ h => h) (fun _ => hF (by kernel_rfl)) (fun w => ?_) (by rfl) ?_
  rotate_left
  · first | (go_simp; done) | (go_simp; with_reducible rfl) | (go_split_ands; go_simp; done)
  try simp only [Act.put, nrmA, nrmB, nrmC]
  refine tk0 (i := 9) (oi := ⟨some 183, .extract (.tmp 174) 1, 35, "law.go:135", #[⟨7, .data⟩, { on := 10, ground := Go.Ground.gcOnly Go.Departure.lateStores }], none⟩) (v := ?_) rfl (by kernel_rfl) (fun _ _ _ h => h) (fun _ => hF (by kernel_rfl)) (fun w => ?_) (by rfl) ?_
  rotate_left
  · first | (go_simp; done) | (go_simp; with_reducible rfl) | (go_split_ands; go_simp; done)
  try simp only [Act.put, nrmA, nrmB, nrmC]
  refine wpAnyJ_ready (rs := [10]) (by kernel_rfl) (by simp) ?_
  refine AllJ.cons1 (o := ⟨some 14, .assign (.tmp 182), 23, "law.go:135", #[⟨8, .data⟩, ⟨6, .chain⟩, ⟨0, .phase⟩, ⟨1, .phase⟩, ⟨2, .phase⟩, ⟨3, .phase⟩, ⟨4, .phase⟩, ⟨5, .phase⟩, ⟨6, .phase⟩, ⟨7, .phase⟩, ⟨8, .phase⟩, { on := 9, ground := Go.Ground.textOnly Go.Departure.lateStores }], none⟩) rfl (fun Kr hKr => ?_)
  go_simp
  refine hKr.out _ _ (fun hJ => ?_) (fun hF => ?_)
  · first
    | exact absurd hJ (by decide)
    | (clear hJ; (try dsimp only); all_goals (exact ⟨h.cells.2.2.1, (sq_cells (PrS.own0 h)).2.1⟩))
  clear hKr
  try simp only [Act.put, nrmA, nrmB, nrmC]
  refine wpAnyJ_ready (rs := [11]) (by kernel_rfl) (by simp) ?_
  refine AllJ.cons1 (o := ⟨some 15, .assign (.tmp 183), 35, "law.go:135", #[⟨9, .data⟩, ⟨10, .chain⟩, ⟨0, .phase⟩, ⟨1, .phase⟩, ⟨2, .phase⟩, ⟨3, .phase⟩, ⟨4, .phase⟩, ⟨5, .phase⟩, ⟨6, .phase⟩, ⟨7, .phase⟩, ⟨8, .phase⟩, ⟨9, .phase⟩, ⟨10, .phase⟩], none⟩) rfl (fun Kr hKr => ?_)
  go_simp
  refine hKr.out _ _ (fun hJ => ?_) (fun hF => ?_)
  · first
    | exact absurd hJ (by decide)
    | (clear hJ; (try dsimp only); all_goals (exact ⟨h.cells.2.2.1, (sq_cells (PrS.own0 h)).2.1⟩))
  clear hKr
  try simp only [Act.put, nrmA, nrmB, nrmC]
  refine wpAnyJ_done (by kernel_rfl) ?_ _
  go_upto_region 28 with fail
  replace h := h.drew
  refine wp_region_J 11 (fun w' => w'.cell? ⟨pb, 3, none⟩ = some (pt c) ∧ w'.cell? ⟨xb, 1, none⟩ = some (ii n)) (by kernel_rfl) ?_ (fun hF => ?_)
  · (try dsimp only)
    all_goals (exact ⟨h.cells.2.2.2, (sq_cells (PrS.own0 h)).2.1⟩)
  refine tk0 (i := 0) (oi := ⟨some 185, .move (.tmp 0), 25, "law.go:136", #[], none⟩) (v := ?_) rfl (by kernel_rfl) (fun _ _ _ h => h) (fun _ => hF) (fun w => ?_) (by rfl) ?_
  rotate_left
  · first | (go_simp; done) | (go_simp; with_reducible rfl) | (go_split_ands; go_simp; done)
  try simp only [Act.put, nrmA, nrmB, nrmC]
  refine tk0 (i := 1) (oi := ⟨some 186, .nilCheck (.tmp 185), 0, "law.go:136", #[⟨0, .data⟩], none⟩) (v := ?_) rfl (by kernel_rfl) (fun _ _ _ h => h) (fun _ => hF) (fun w => ?_) (by rfl) ?_
  rotate_left
  · first | (go_simp; done) | (go_simp; with_reducible rfl) | (go_split_ands; go_simp; done)
  try simp only [Act.put, nrmA, nrmB, nrmC]
  refine tk0 (i := 2) (oi := ⟨some 187, .fieldAddr 33 (.tmp 186) 3, 0, "law.go:136", #[⟨1, .data⟩], none⟩) (v := ?_) rfl (by kernel_rfl) (fun _ _ _ h => h) (fun _ => hF) (fun w => ?_) (by rfl) ?_
  rotate_left
  · first | (go_simp; done) | (go_simp; with_reducible rfl) | (go_split_ands; go_simp; done)
  try simp only [Act.put, nrmA, nrmB, nrmC]
  refine tk1 (i := 3) (oi := ⟨some 188, .load 31 (.tmp 187), 31, "law.go:136", #[⟨2, .data⟩], none⟩) (v := ?_) [11] rfl (by kernel_rfl) (fun _ _ _ h => h) hF (fun w hFw => ?_) (by rfl) ?_
  rotate_left
  · ((try dsimp only at hFw); first | (go_simp; done) | (go_simp; with_reducible rfl) | (go_split_ands; go_simp; done))
  try simp only [Act.put, nrmA, nrmB, nrmC]
  refine tk0 (i := 4) (oi := ⟨some 189, .fieldAddr 59 (.tmp 3) 1, 0, "law.go:136", #[], none⟩) (v := ?_) rfl (by kernel_rfl) (fun _ _ _ h => h) (fun _ => hF) (fun w => ?_) (by rfl) ?_
  rotate_left
  · first | (go_simp; done) | (go_simp; with_reducible rfl) | (go_split_ands; go_simp; done)
  try simp only [Act.put, nrmA, nrmB, nrmC]
  refine tk1 (i := 5) (oi := ⟨some 190, .load 3 (.tmp 189), 3, "law.go:136", #[⟨4, .data⟩], none⟩) (v := ?_) [11] rfl (by kernel_rfl) (fun _ _ _ h => h) hF (fun w hFw => ?_) (by rfl) ?_
  rotate_left
  · ((try dsimp only at hFw); first | (go_simp; done) | (go_simp; with_reducible rfl) | (go_split_ands; go_simp; done))
  try simp only [Act.put, nrmA, nrmB, nrmC]
  refine wpAnyJ_ready (rs := [6]) (by kernel_rfl) (by simp) ?_
  refine AllJ.cons1 (o := ⟨some 191, .call { callee := .value (.func 66), args := #[.tmp 188, .tmp 190], argTypes := #[31, 3] }, 96, "law.go:136", #[⟨3, .data⟩, ⟨5, .data⟩], none⟩) rfl (fun Kr hKr => ?_)
  go_simp; go_at_call 66; refine (hE2.out _ _ h).mono ?_; rintro e w5 ⟨a2, c2, X2, rfl, r2, h⟩
  simp only [List.cons_append, List.nil_append] at h
  refine hKr.out _ _ (fun hJ => ?_) (fun hF => ?_)
  · first
    | exact absurd hJ (by decide)
    | (clear hJ; (try dsimp only); all_goals (exact ⟨h.cells.2.2.2, (sq_cells (PrS.own0 h)).2.1⟩))
  clear hKr
  try simp only [Act.put, nrmA, nrmB, nrmC]
  refine tk0 (i := 7) (oi := ⟨some 184, .move (.tmp 191), 96, "law.go:136", #[⟨6, .data⟩], none⟩) (v := ?_) rfl (by kernel_rfl) (fun _ _ _ h => h) (fun _ => hF (by kernel_rfl)) (fun w => ?_) (by rfl) ?_
  rotate_left
  · first | (go_simp; done) | (go_simp; with_reducible rfl) | (go_split_ands; go_simp; done)
  try simp only [Act.put, nrmA, nrmB, nrmC]
  refine tk0 (i := 8) (oi := ⟨some 192, .extract (.tmp 184) 0, 23, "law.go:136", #[⟨7, .data⟩], none⟩) (v := ?_) rfl (by kernel_rfl) (fun _ _ _ h => h) (fun _ => hF (by kernel_rfl)) (fun w => ?_) (by rfl) ?_
  rotate_left
  · first | (go_simp; done) | (go_simp; with_reducible rfl) | (go_split_ands; go_simp; done)
  try simp only [Act.put, nrmA, nrmB, nrmC]
  refine tk0 (i := 9) (oi := ⟨some 193, .extract (.tmp 184) 1, 3, "law.go:136", #[⟨7, .data⟩, { on := 10, ground := Go.Ground.gcOnly Go.Departure.lateStores }], none⟩) (v := ?_) rfl (by kernel_rfl) (fun _ _ _ h => h) (fun _ => hF (by kernel_rfl)) (fun w => ?_) (by rfl) ?_
  rotate_left
  · first | (go_simp; done) | (go_simp; with_reducible rfl) | (go_split_ands; go_simp; done)
  try simp only [Act.put, nrmA, nrmB, nrmC]
  refine wpAnyJ_ready (rs := [10]) (by kernel_rfl) (by simp) ?_
  refine AllJ.cons1 (o := ⟨some 16, .assign (.tmp 192), 23, "law.go:136", #[⟨8, .data⟩, ⟨6, .chain⟩, ⟨0, .phase⟩, ⟨1, .phase⟩, ⟨2, .phase⟩, ⟨3, .phase⟩, ⟨4, .phase⟩, ⟨5, .phase⟩, ⟨6, .phase⟩, ⟨7, .phase⟩, ⟨8, .phase⟩, { on := 9, ground := Go.Ground.textOnly Go.Departure.lateStores }], none⟩) rfl (fun Kr hKr => ?_)
  go_simp
  refine hKr.out _ _ (fun hJ => ?_) (fun hF => ?_)
  · first
    | exact absurd hJ (by decide)
    | (clear hJ; (try dsimp only); all_goals (exact ⟨h.cells.2.2.2, (sq_cells (PrS.own0 h)).2.1⟩))
  clear hKr
  try simp only [Act.put, nrmA, nrmB, nrmC]
  refine wpAnyJ_ready (rs := [11]) (by kernel_rfl) (by simp) ?_
  refine AllJ.cons1 (o := ⟨some 17, .assign (.tmp 193), 3, "law.go:136", #[⟨9, .data⟩, ⟨10, .chain⟩, ⟨0, .phase⟩, ⟨1, .phase⟩, ⟨2, .phase⟩, ⟨3, .phase⟩, ⟨4, .phase⟩, ⟨5, .phase⟩, ⟨6, .phase⟩, ⟨7, .phase⟩, ⟨8, .phase⟩, ⟨9, .phase⟩, ⟨10, .phase⟩], none⟩) rfl (fun Kr hKr => ?_)
  go_simp
  refine hKr.out _ _ (fun hJ => ?_) (fun hF => ?_)
  · first
    | exact absurd hJ (by decide)
    | (clear hJ; (try dsimp only); all_goals (exact ⟨h.cells.2.2.2, (sq_cells (PrS.own0 h)).2.1⟩))
  clear hKr
  try simp only [Act.put, nrmA, nrmB, nrmC]
  refine wpAnyJ_done (by kernel_rfl) ?_ _
  replace r1 := Lib.hid r1
  replace r2 := Lib.hid r2
  go_wp2_with fail
  refine (same_any a1 a2 el.length c1 el.length c2 el el _ (r1.out.rdBytes (PrS.own1 h)) (r2.out.rdBytes (PrS.own2 h)) (by omega) (by omega)).mono ?_
  rintro e w6 ⟨rfl, h6⟩
  rw [decide_eq_true (rfl : el = el)]
  have h := h.still h6
  clear h6
  go_wp2_with fail
  refine (spoil_any a1 el.length c1 _ X1 _ r1.out (PrS.own1 h) (by omega)).mono ?_
  rintro e w7 ⟨rfl, X3, h7⟩
  have h := PrS.putR (A := [_]) (Q := [X2]) h h7
  go_wp2_with fail
  go_ret
  exact ⟨rfl, b, c, h.drop⟩
set_option maxHeartbeats 1000000 in
set_option maxRecDepth 100000 in
theorem do_cut (x : Sq) (hK : x.kind = 6) (h : PrS pb d r b c [97] lg k lg k [] w0 K w) (hI : LInv N [97] lg k) (hN : N < 99999999) (hT0 : TabK w0 K) (hx : x.big w0 K) :
    Calls Tryz.prog 26 #[pt pb, .agg (sqCells x).toArray] w (DoP pb d r (stepS x (lg, k)) w0 K) := by
  obtain ⟨kind, n, ba, bn, bc, xd, tear⟩ := x
  simp only at hK
  obtain ⟨hrd, hdl, hn⟩ := hx
  simp only at hrd hdl hn
  subst hK
  have hl := hI.ok (by omega)
  have hms := hl.msegs
  have hNm := Lib.hid (fun W Rs (h : PrS pb d r b c [97] lg k lg k Rs w0 K W) => psr_names h hl (by decide))
  have hnl : (lnames [97] lg).length = lg.segs.length := by unfold lnames; rw [List.length_map]
  by_cases hsg : lg.segs = []
  · have hst : stepS ⟨6, n, ba, bn, bc, xd, tear⟩ (lg, k) = (lg, k) := by simp [stepS, hsg]
    rw [hst]
    have hz : (lnames [97] lg).length = 0 := by rw [hnl, hsg]; rfl
    rw [hz] at hNm
    clear hst hrd hdl hnl hms hz
    replace hsg := Lib.hid hsg
    go_enter Tryz.func26, Tryz.ntmps26
    go_upto_region 1 with fail
    have h1 := h.alloc (.cells #[ii 6, ii n, .slice ba bn bc, u8 tear] 59 (0, 0))
    simp only [sqCells] at h1 ⊢
    generalize w.heap.size = xb at h1 ⊢
    refine PrS.gen h1 ?_
    clear h1 h
    intro W h
    rw [List.nil_append] at h
    obtain ⟨y0, y1, y2, y3⟩ := sq_cells (PrS.own0 h)
    have xlt := heap_lt (PrS.own0 h).h0
    obtain ⟨z0, z1, z2, z3⟩ := h.cells
    go_wp2_with fail
    refine (hNm.out _ _ h).mono ?_
    rintro e w4 ⟨a1, c1, X1, rfl, r1, h⟩
    go_wp2_with fail
    go_ret
    exact ⟨rfl, b, c, h.drop⟩
  · obtain ⟨m, hm⟩ : ∃ m, lg.segs.length = m + 1 := ⟨lg.segs.length - 1, by have := List.length_pos_iff.2 hsg; omega⟩
    have hlast := last_names lg hm
    obtain ⟨nm, hnm⟩ : ∃ nm, nm = nameN [97] (lastSeg lg).1 := ⟨_, rfl⟩
    obtain ⟨k1, hk1⟩ : ∃ k1, k1 = fuN (-1) k := ⟨_, rfl⟩
    have hk1ok : k1.Ok := by rw [hk1]; exact fu_ok hI.dk (-1)
    have hk1l : k1.left = none := by rw [hk1]; rfl
    obtain ⟨c1, c2, c3⟩ := cut_gate hk1ok nm n
    have hst : stepS ⟨6, n, ba, bn, bc, xd, tear⟩ (lg, k) = if (gateN [nm] (cuI nm n) k1).1 ≠ 0 then (lg, (gateN [nm] (cuI nm n) k1).2) else (openN [97] (gateN [nm] (cuI nm n) k1).2).2 := by
      rw [hnm, hk1]
      simp [stepS, hsg]
    have hce : (gateN [nm] (cuI nm n) k1).1 ≤ 9 := by
      have h1 := may_is k1 [nm]
      have h2 := cuI_err nm n k1
      rcases gate_is [nm] (cuI nm n) k1 with ⟨h, e⟩ | ⟨h, _, e⟩ | ⟨h, _, e⟩ <;> rw [e] <;> (try simp only) <;> omega
    rw [hst]
    rw [← hnm] at hlast
    rw [hnl, hm] at hNm
    have hA := Lib.hid (fun W Rs (h : PrS pb d r b c [97] lg k lg k Rs w0 K W) => ps_fuse h (-1) (by decide))
    have hB := Lib.hid (fun W Rs (h : PrS pb d r b c [97] lg k1 lg k Rs w0 K W) => psr_fuse h (-1) (by decide))
    rw [← hk1] at hA hB
    have hC := Lib.hid (fun W Rs (h : PrS pb d r b c [97] lg k1 lg k1 Rs w0 K W) => ps_cut h hk1ok nm n)
    have hD := Lib.hid (fun W Rs k2 (h : PrS pb d r b c [97] lg k2 lg k1 Rs w0 K W) => psr_cut h hk1ok nm n)
    obtain ⟨⟨f, k2⟩, hq⟩ : ∃ q, q = gateN [nm] (cuI nm n) k1 := ⟨_, rfl⟩
    rw [← hq] at hC hD c1 c2 c3 hce ⊢
    simp only at hC hD c1 c2 c3 hce ⊢
    obtain ⟨sx, hsx⟩ : ∃ z, z = (if f ≠ 0 then (lg, k2) else (openN [97] k2).2) := ⟨_, rfl⟩
    rw [← hsx]
    replace hsx := Lib.hid hsx
    have hO := Lib.hid (fun W Rs (h : PrS pb d r b c [97] lg k2 lg k2 Rs w0 K W) => open_any h.pd c1 (c2 hk1l) hT0)
    have q1 : ((f : Int) == (f : Int)) = true := by simp
    rw [hm] at hms
    have q4 : IntKind.i64.wrap ((m : Int) + 1 - 1) = (m : Int) := by rw [IntWalk.i64_in _ (by omega)]; omega
    have q5 : IntKind.i64.wrap (m : Int) = (m : Int) := IntWalk.i64_in _ (by omega)
    have q3 : (m : Int) < (m : Int) + 1 := by omega
    have m0 : (0 : Int) ≤ (m : Int) := by omega
    have mne : ((m : Int) + 1 == 0) = false := beq_eq_false_iff_ne.2 (by omega)
    clear hst hrd hdl c3
    replace hq := Lib.hid hq
    replace hk1 := Lib.hid hk1
    replace hnm := Lib.hid hnm
    replace hsg := Lib.hid hsg
    replace hlast := Lib.hid hlast
    replace hnl := Lib.hid hnl
    replace hm := Lib.hid hm
    go_enter Tryz.func26, Tryz.ntmps26
    go_upto_region 1 with fail
    have h1 := h.alloc (.cells #[ii 6, ii n, .slice ba bn bc, u8 tear] 59 (0, 0))
    simp only [sqCells] at h1 ⊢
    generalize w.heap.size = xb at h1 ⊢
    refine PrS.gen h1 ?_
    clear h1 h
    intro W h
    rw [List.nil_append] at h
    obtain ⟨y0, y1, y2, y3⟩ := sq_cells (PrS.own0 h)
    have xlt := heap_lt (PrS.own0 h).h0
    obtain ⟨z0, z1, z2, z3⟩ := h.cells
    go_wp2_with fail
    refine (hNm.out _ _ h).mono ?_
    rintro e w4 ⟨a1, cc1, X1, rfl, r1, h⟩
    simp only [List.cons_append, List.nil_append] at h
    clear z0 z1 z2 z3
    have hcell : ∃ g, a1 = some ⟨g, 0, none⟩ ∧ m + 1 ≤ cc1 ∧ Hid (∀ V, Own V X1 → V.cell? ⟨g, m, none⟩ = some (strV nm)) := by
      obtain ⟨g, e, _, h4⟩ := slRep_at r1 (PrS.own1 h) (i := m) (v := strV nm) (by rw [List.getElem?_map, hlast.out]; rfl)
      refine ⟨g, e, h4, fun V hV => ?_⟩
      obtain ⟨g', e', h3, _⟩ := slRep_at r1 hV (i := m) (v := strV nm) (by rw [List.getElem?_map, hlast.out]; rfl)
      rw [e] at e'
      cases e'
      rwa [Nat.zero_add] at h3
    obtain ⟨g, rfl, hcc, hcell⟩ := hcell
    have hcci : (m : Int) + 1 ≤ (cc1 : Int) := by omega
    replace r1 := Lib.hid r1
    clear y0 y1 y2 y3 xlt
    obtain ⟨z0, z1, z2, z3⟩ := h.cells
    go_wp2_with fail
    refine (hA.out _ _ h).mono ?_
    rintro e w5 ⟨rfl, h⟩
    clear z0 z1 z2 z3
    obtain ⟨z0, z1, z2, z3⟩ := h.cells
    go_wp2_with fail
    refine (hB.out _ _ h).mono ?_
    rintro e w6 ⟨rfl, h⟩
    clear z0 z1 z2 z3
    go_upto_region 24 with fail
    replace h := h.drew
    refine wp_region_J 13 (fun w' => w'.cell? ⟨pb, 0, none⟩ = some (pt d) ∧ w'.cell? ⟨g, m, none⟩ = some (strV nm) ∧ w'.cell? ⟨xb, 1, none⟩ = some (ii n)) (by kernel_rfl) ?_ (fun hF => ?_)
    · (try dsimp only)
      all_goals (exact ⟨h.cells.1, hcell.out _ (PrS.own1 h), (sq_cells (PrS.own0 h)).2.1⟩)
    refine tk0 (i := 0) (oi := ⟨some 137, .move (.tmp 0), 25, "law.go:131", #[], none⟩) (v := ?_) rfl (by kernel_rfl) (fun _ _ _ h => h) (fun _ => hF) (fun w => ?_) (by rfl) ?_
    rotate_left
    · first | (go_simp; done) | (go_simp; with_reducible rfl) | (go_split_ands; go_simp; done)
    try simp only [Act.put, nrmA, nrmB, nrmC]
    refine tk0 (i := 1) (oi := ⟨some 138, .nilCheck (.tmp 137), 0, "law.go:131", #[⟨0, .data⟩], none⟩) (v := ?_) rfl (by kernel_rfl) (fun _ _ _ h => h) (fun _ => hF) (fun w => ?_) (by rfl) ?_
    rotate_left
    · first | (go_simp; done) | (go_simp; with_reducible rfl) | (go_split_ands; go_simp; done)
    try simp only [Act.put, nrmA, nrmB, nrmC]
    refine tk0 (i := 2) (oi := ⟨some 139, .fieldAddr 33 (.tmp 138) 0, 0, "law.go:131", #[⟨1, .data⟩], none⟩) (v := ?_) rfl (by kernel_rfl) (fun _ _ _ h => h) (fun _ => hF) (fun w => ?_) (by rfl) ?_
    rotate_left
    · first | (go_simp; done) | (go_simp; with_reducible rfl) | (go_split_ands; go_simp; done)
    try simp only [Act.put, nrmA, nrmB, nrmC]
    refine tk1 (i := 3) (oi := ⟨some 140, .load 28 (.tmp 139), 28, "law.go:131", #[⟨2, .data⟩], none⟩) (v := ?_) [13] rfl (by kernel_rfl) (fun _ _ _ h => h) hF (fun w hFw => ?_) (by rfl) ?_
    rotate_left
    · ((try dsimp only at hFw); first | (go_simp; done) | (go_simp; with_reducible rfl) | (go_split_ands; go_simp; done))
    try simp only [Act.put, nrmA, nrmB, nrmC]
    refine tk0 (i := 4) (oi := ⟨some 141, .move (.tmp 11), 70, "law.go:131", #[], none⟩) (v := ?_) rfl (by kernel_rfl) (fun _ _ _ h => h) (fun _ => hF) (fun w => ?_) (by rfl) ?_
    rotate_left
    · first | (go_simp; done) | (go_simp; with_reducible rfl) | (go_split_ands; go_simp; done)
    try simp only [Act.put, nrmA, nrmB, nrmC]
    refine tk0 (i := 5) (oi := ⟨some 142, .move (.tmp 11), 70, "law.go:131", #[], none⟩) (v := ?_) rfl (by kernel_rfl) (fun _ _ _ h => h) (fun _ => hF) (fun w => ?_) (by rfl) ?_
    rotate_left
    · first | (go_simp; done) | (go_simp; with_reducible rfl) | (go_split_ands; go_simp; done)
    try simp only [Act.put, nrmA, nrmB, nrmC]
    refine tk1 (i := 6) (oi := ⟨some 143, .call { callee := .builtin .len, args := #[.tmp 142], argTypes := #[70] }, 3, "law.go:131", #[⟨5, .data⟩], none⟩) (v := ?_) [13] rfl (by kernel_rfl) (fun _ _ _ h => h) hF (fun w hFw => ?_) (by rfl) ?_
    rotate_left
    · ((try dsimp only at hFw); first | (go_simp; done) | (go_simp; with_reducible rfl) | (go_split_ands; go_simp; done))
    try simp only [Act.put, nrmA, nrmB, nrmC]
    refine tk0 (i := 7) (oi := ⟨some 144, .binOp .sub 3 (.tmp 143) (.const (.int .i64 1)) 3, 3, "law.go:131", #[⟨6, .data⟩], none⟩) (v := ?_) rfl (by kernel_rfl) (fun _ _ _ h => h) (fun _ => hF) (fun w => ?_) (by rfl) ?_
    rotate_left
    · first | (go_simp; done) | (go_simp; with_reducible rfl) | (go_split_ands; go_simp; done)
    try simp only [Act.put, nrmA, nrmB, nrmC]
    refine tk0 (i := 8) (oi := ⟨some 145, .indexAddr 70 (.tmp 141) (.tmp 144), 0, "law.go:131", #[⟨4, .data⟩, ⟨7, .data⟩], none⟩) (v := ?_) rfl (by kernel_rfl) (fun _ _ _ h => h) (fun _ => hF) (fun w => ?_) (by rfl) ?_
    rotate_left
    · first | (go_simp; done) | (go_simp; with_reducible rfl) | (go_split_ands; go_simp; done)
    try simp only [Act.put, nrmA, nrmB, nrmC]
    refine tk1 (i := 9) (oi := ⟨some 146, .load 9 (.tmp 145), 9, "law.go:131", #[⟨8, .data⟩], none⟩) (v := ?_) [13] rfl (by kernel_rfl) (fun _ _ _ h => h) hF (fun w hFw => ?_) (by rfl) ?_
    rotate_left
    · ((try dsimp only at hFw); first | (go_simp; done) | (go_simp; with_reducible rfl) | (go_split_ands; go_simp; done))
    try simp only [Act.put, nrmA, nrmB, nrmC]
    refine tk0 (i := 10) (oi := ⟨some 147, .fieldAddr 59 (.tmp 3) 1, 0, "law.go:131", #[], none⟩) (v := ?_) rfl (by kernel_rfl) (fun _ _ _ h => h) (fun _ => hF) (fun w => ?_) (by rfl) ?_
    rotate_left
    · first | (go_simp; done) | (go_simp; with_reducible rfl) | (go_split_ands; go_simp; done)
    try simp only [Act.put, nrmA, nrmB, nrmC]
    refine tk1 (i := 11) (oi := ⟨some 148, .load 3 (.tmp 147), 3, "law.go:131", #[⟨10, .data⟩], none⟩) (v := ?_) [13] rfl (by kernel_rfl) (fun _ _ _ h => h) hF (fun w hFw => ?_) (by rfl) ?_
    rotate_left
    · ((try dsimp only at hFw); first | (go_simp; done) | (go_simp; with_reducible rfl) | (go_split_ands; go_simp; done))
    try simp only [Act.put, nrmA, nrmB, nrmC]
    refine wpAnyJ_ready (rs := [12]) (by kernel_rfl) (by simp) ?_
    refine AllJ.cons1 (o := ⟨some 149, .call { callee := .value (.func 65), args := #[.tmp 140, .tmp 146, .tmp 148], argTypes := #[28, 9, 3] }, 35, "law.go:131", #[⟨3, .data⟩, ⟨9, .data⟩, ⟨11, .data⟩], none⟩) rfl (fun Kr hKr => ?_)
    go_simp; go_at_call 65; refine (hC.out _ _ h).mono ?_; rintro e w7 ⟨rfl, h⟩
    refine hKr.out _ _ (fun hJ => ?_) (fun hF => ?_)
    · first
      | exact absurd hJ (by decide)
      | (clear hJ; (try dsimp only); all_goals (exact ⟨h.cells.1, hcell.out _ (PrS.own1 h), (sq_cells (PrS.own0 h)).2.1⟩))
    clear hKr
    try simp only [Act.put, nrmA, nrmB, nrmC]
    refine wpAnyJ_ready (rs := [13]) (by kernel_rfl) (by simp) ?_
    refine AllJ.cons1 (o := ⟨some 12, .assign (.tmp 149), 35, "law.go:131", #[⟨12, .data⟩, ⟨12, .chain⟩, ⟨0, .phase⟩, ⟨1, .phase⟩, ⟨2, .phase⟩, ⟨3, .phase⟩, ⟨4, .phase⟩, ⟨5, .phase⟩, ⟨6, .phase⟩, ⟨7, .phase⟩, ⟨8, .phase⟩, ⟨9, .phase⟩, ⟨10, .phase⟩, ⟨11, .phase⟩, ⟨12, .phase⟩], none⟩) rfl (fun Kr hKr => ?_)
    go_simp
    refine hKr.out _ _ (fun hJ => ?_) (fun hF => ?_)
    · first
      | exact absurd hJ (by decide)
      | (clear hJ; (try dsimp only); all_goals (exact ⟨h.cells.1, hcell.out _ (PrS.own1 h), (sq_cells (PrS.own0 h)).2.1⟩))
    clear hKr
    try simp only [Act.put, nrmA, nrmB, nrmC]
    refine wpAnyJ_done (by kernel_rfl) ?_ _
    go_upto_region 25 with fail
    replace h := h.drew
    refine wp_region_J 13 (fun w' => w'.cell? ⟨pb, 1, none⟩ = some (pt r) ∧ w'.cell? ⟨g, m, none⟩ = some (strV nm) ∧ w'.cell? ⟨xb, 1, none⟩ = some (ii n)) (by kernel_rfl) ?_ (fun hF => ?_)
    · (try dsimp only)
      all_goals (exact ⟨h.cells.2.1, hcell.out _ (PrS.own1 h), (sq_cells (PrS.own0 h)).2.1⟩)
    refine tk0 (i := 0) (oi := ⟨some 150, .move (.tmp 0), 25, "law.go:132", #[], none⟩) (v := ?_) rfl (by kernel_rfl) (fun _ _ _ h => h) (fun _ => hF) (fun w => ?_) (by rfl) ?_
    rotate_left
    · first | (go_simp; done) | (go_simp; with_reducible rfl) | (go_split_ands; go_simp; done)
    try simp only [Act.put, nrmA, nrmB, nrmC]
    refine tk0 (i := 1) (oi := ⟨some 151, .nilCheck (.tmp 150), 0, "law.go:132", #[⟨0, .data⟩], none⟩) (v := ?_) rfl (by kernel_rfl) (fun _ _ _ h => h) (fun _ => hF) (fun w => ?_) (by rfl) ?_
    rotate_left
    · first | (go_simp; done) | (go_simp; with_reducible rfl) | (go_split_ands; go_simp; done)
    try simp only [Act.put, nrmA, nrmB, nrmC]
    refine tk0 (i := 2) (oi := ⟨some 152, .fieldAddr 33 (.tmp 151) 1, 0, "law.go:132", #[⟨1, .data⟩], none⟩) (v := ?_) rfl (by kernel_rfl) (fun _ _ _ h => h) (fun _ => hF) (fun w => ?_) (by rfl) ?_
    rotate_left
    · first | (go_simp; done) | (go_simp; with_reducible rfl) | (go_split_ands; go_simp; done)
    try simp only [Act.put, nrmA, nrmB, nrmC]
    refine tk1 (i := 3) (oi := ⟨some 153, .load 29 (.tmp 152), 29, "law.go:132", #[⟨2, .data⟩], none⟩) (v := ?_) [13] rfl (by kernel_rfl) (fun _ _ _ h => h) hF (fun w hFw => ?_) (by rfl) ?_
    rotate_left
    · ((try dsimp only at hFw); first | (go_simp; done) | (go_simp; with_reducible rfl) | (go_split_ands; go_simp; done))
    try simp only [Act.put, nrmA, nrmB, nrmC]
    refine tk0 (i := 4) (oi := ⟨some 154, .move (.tmp 11), 70, "law.go:132", #[], none⟩) (v := ?_) rfl (by kernel_rfl) (fun _ _ _ h => h) (fun _ => hF) (fun w => ?_) (by rfl) ?_
    rotate_left
    · first | (go_simp; done) | (go_simp; with_reducible rfl) | (go_split_ands; go_simp; done)
    try simp only [Act.put, nrmA, nrmB, nrmC]
    refine tk0 (i := 5) (oi := ⟨some 155, .move (.tmp 11), 70, "law.go:132", #[], none⟩) (v := ?_) rfl (by kernel_rfl) (fun _ _ _ h => h) (fun _ => hF) (fun w => ?_) (by rfl) ?_
    rotate_left
    · first | (go_simp; done) | (go_simp; with_reducible rfl) | (go_split_ands; go_simp; done)
    try simp only [Act.put, nrmA, nrmB, nrmC]
    refine tk1 (i := 6) (oi := ⟨some 156, .call { callee := .builtin .len, args := #[.tmp 155], argTypes := #[70] }, 3, "law.go:132", #[⟨5, .data⟩], none⟩) (v := ?_) [13] rfl (by kernel_rfl) (fun _ _ _ h => h) hF (fun w hFw => ?_) (by rfl) ?_
    rotate_left
    · ((try dsimp only at hFw); first | (go_simp; done) | (go_simp; with_reducible rfl) | (go_split_ands; go_simp; done))
    try simp only [Act.put, nrmA, nrmB, nrmC]
    refine tk0 (i := 7) (oi := ⟨some 157, .binOp .sub 3 (.tmp 156) (.const (.int .i64 1)) 3, 3, "law.go:132", #[⟨6, .data⟩], none⟩) (v := ?_) rfl (by kernel_rfl) (fun _ _ _ h => h) (fun _ => hF) (fun w => ?_) (by rfl) ?_
    rotate_left
    · first | (go_simp; done) | (go_simp; with_reducible rfl) | (go_split_ands; go_simp; done)
    try simp only [Act.put, nrmA, nrmB, nrmC]
    refine tk0 (i := 8) (oi := ⟨some 158, .indexAddr 70 (.tmp 154) (.tmp 157), 0, "law.go:132", #[⟨4, .data⟩, ⟨7, .data⟩], none⟩) (v := ?_) rfl (by kernel_rfl) (fun _ _ _ h => h) (fun _ => hF) (fun w => ?_) (by rfl) ?_
    rotate_left
    · first | (go_simp; done) | (go_simp; with_reducible rfl) | (go_split_ands; go_simp; done)
    try simp only [Act.put, nrmA, nrmB, nrmC]
    refine tk1 (i := 9) (oi := ⟨some 159, .load 9 (.tmp 158), 9, "law.go:132", #[⟨8, .data⟩], none⟩) (v := ?_) [13] rfl (by kernel_rfl) (fun _ _ _ h => h) hF (fun w hFw => ?_) (by rfl) ?_
    rotate_left
    · ((try dsimp only at hFw); first | (go_simp; done) | (go_simp; with_reducible rfl) | (go_split_ands; go_simp; done))
    try simp only [Act.put, nrmA, nrmB, nrmC]
    refine tk0 (i := 10) (oi := ⟨some 160, .fieldAddr 59 (.tmp 3) 1, 0, "law.go:132", #[], none⟩) (v := ?_) rfl (by kernel_rfl) (fun _ _ _ h => h) (fun _ => hF) (fun w => ?_) (by rfl) ?_
    rotate_left
    · first | (go_simp; done) | (go_simp; with_reducible rfl) | (go_split_ands; go_simp; done)
    try simp only [Act.put, nrmA, nrmB, nrmC]
    refine tk1 (i := 11) (oi := ⟨some 161, .load 3 (.tmp 160), 3, "law.go:132", #[⟨10, .data⟩], none⟩) (v := ?_) [13] rfl (by kernel_rfl) (fun _ _ _ h => h) hF (fun w hFw => ?_) (by rfl) ?_
    rotate_left
    · ((try dsimp only at hFw); first | (go_simp; done) | (go_simp; with_reducible rfl) | (go_split_ands; go_simp; done))
    try simp only [Act.put, nrmA, nrmB, nrmC]
    refine wpAnyJ_ready (rs := [12]) (by kernel_rfl) (by simp) ?_
    refine AllJ.cons1 (o := ⟨some 162, .call { callee := .value (.func 60), args := #[.tmp 153, .tmp 159, .tmp 161], argTypes := #[29, 9, 3] }, 3, "law.go:132", #[⟨3, .data⟩, ⟨9, .data⟩, ⟨11, .data⟩], none⟩) rfl (fun Kr hKr => ?_)
    go_simp; go_at_call 60; refine (hD.out _ _ _ h).mono ?_; rintro e w8 ⟨rfl, h⟩
    refine hKr.out _ _ (fun hJ => ?_) (fun hF => ?_)
    · first
      | exact absurd hJ (by decide)
      | (clear hJ; (try dsimp only); all_goals (exact ⟨h.cells.2.1, hcell.out _ (PrS.own1 h), (sq_cells (PrS.own0 h)).2.1⟩))
    clear hKr
    try simp only [Act.put, nrmA, nrmB, nrmC]
    refine wpAnyJ_ready (rs := [13]) (by kernel_rfl) (by simp) ?_
    refine AllJ.cons1 (o := ⟨some 13, .assign (.tmp 162), 3, "law.go:132", #[⟨12, .data⟩, ⟨12, .chain⟩, ⟨0, .phase⟩, ⟨1, .phase⟩, ⟨2, .phase⟩, ⟨3, .phase⟩, ⟨4, .phase⟩, ⟨5, .phase⟩, ⟨6, .phase⟩, ⟨7, .phase⟩, ⟨8, .phase⟩, ⟨9, .phase⟩, ⟨10, .phase⟩, ⟨11, .phase⟩, ⟨12, .phase⟩], none⟩) rfl (fun Kr hKr => ?_)
    go_simp
    refine hKr.out _ _ (fun hJ => ?_) (fun hF => ?_)
    · first
      | exact absurd hJ (by decide)
      | (clear hJ; (try dsimp only); all_goals (exact ⟨h.cells.2.1, hcell.out _ (PrS.own1 h), (sq_cells (PrS.own0 h)).2.1⟩))
    clear hKr
    try simp only [Act.put, nrmA, nrmB, nrmC]
    refine wpAnyJ_done (by kernel_rfl) ?_ _
    by_cases hf : f = 0
    · subst hf
      have hsx2 : Hid (sx = (openN [97] k2).2) := by show _ = _; rw [hsx.out, if_neg (by simp)]
      go_wp2_with fail
      refine (hO.out _ _ h).mono ?_
      rintro e w9 ⟨rfl, b', c', lg2, k3, he, h⟩
      replace he := Lib.hid he
      go_wp2_with fail
      go_ret
      rw [hsx2.out, he.out]
      exact ⟨rfl, b', c', h.drop⟩
    · have q6 : ((f : Int) != 0) = true := by rw [bne_iff_ne]; omega
      have hsx2 : Hid (sx = (lg, k2)) := by show _ = _; rw [hsx.out, if_pos hf]
      replace hf := Lib.hid hf
      go_wp2_with fail
      go_ret
      rw [hsx2.out]
      exact ⟨rfl, b, c, h.drop⟩
theorem does_any (x : Sq) (h : PrS pb d r b c [97] lg k lg k [] w0 K w) (hI : LInv N [97] lg k) (hN : N < 99999999) (hT0 : TabK w0 K) (hx : x.big w0 K) :
    Calls Tryz.prog 26 #[pt pb, .agg (sqCells x).toArray] w (DoP pb d r (stepS x (lg, k)) w0 K) := by
  by_cases k1 : x.kind = 1
  · exact do_app x k1 h hI hN hT0 hx
  by_cases k2 : x.kind = 2
  · exact do_sync x k2 h hI hN hx
  by_cases k3 : x.kind = 3
  · exact do_crash x k3 h hI hT0 hx
  by_cases k4 : x.kind = 4
  · exact do_fuse x k4 h hI hN hx
  by_cases k6 : x.kind = 6
  · exact do_cut x k6 h hI hN hT0 hx
  exact do_read x ⟨k1, k2, k3, k4, k6⟩ h hI hN hx
end
end Go.Proofs.YtdolbeonpkanpaaGreatDoor
