/- A pair of logs: a step, without a program; what it needs. -/
import Derived.Test.YtdolbeonpkanpaaGreatDoorMSvA
set_option linter.unusedVariables false
set_option linter.unusedSimpArgs false
namespace Go.Proofs.YtdolbeonpkanpaaGreatDoor
open Go.RowKit
attribute [local go_sem ↓] Go.wp_at_zero Go.wp_at_succ

structure Sq where
  kind : Int
  n : Int
  ba : Option Addr
  bn : Nat
  bc : Nat
  d : List UInt8
  tear : UInt8
def sqCells (x : Sq) : List Value := [ii x.kind, ii x.n, .slice x.ba x.bn x.bc, u8 x.tear]
def stepS (x : Sq) (s : Lg × Dk) : Lg × Dk :=
  if x.kind = 1 then (lappN [97] x.d s.1 s.2).2.2 else if x.kind = 2 then (lsyncN [97] s.1 s.2).2 else if x.kind = 3 then (openN [97] (crN x.n x.tear s.2)).2
  else if x.kind = 4 then (s.1, fuN x.n s.2)
  else if x.kind = 6 then
    if s.1.segs = [] then s
    else if (gateN [nameN [97] (lastSeg s.1).1] (cuI (nameN [97] (lastSeg s.1).1) x.n) (fuN (-1) s.2)).1 ≠ 0 then (s.1, (gateN [nameN [97] (lastSeg s.1).1] (cuI (nameN [97] (lastSeg s.1).1) x.n) (fuN (-1) s.2)).2)
    else (openN [97] (gateN [nameN [97] (lastSeg s.1).1] (cuI (nameN [97] (lastSeg s.1).1) x.n) (fuN (-1) s.2)).2).2
  else s
theorem LInv.congr {N : Nat} {p : Nm} {lg : Lg} {k k' : Dk} (h : LInv N p lg k) (hk : k'.Ok) (hL : k'.L = k.L) : LInv N p lg k' := by
  refine ⟨hk, h.segs, h.sync, h.many, h.msegs, h.bytes, h.ents, fun hne => ?_, h.top, fun nm h1 h2 => h.files nm h1 (by rw [← hL]; exact h2)⟩
  rw [rdN_congr (k := k) (by rw [hL])]
  exact h.on hne
theorem cut_gate {k : Dk} (hk : k.Ok) (nm : Nm) (n : Int) : (gateN [nm] (cuI nm n) k).2.Ok ∧ (k.left = none → (gateN [nm] (cuI nm n) k).2.left = none) ∧ ((gateN [nm] (cuI nm n) k).1 ≠ 0 → (gateN [nm] (cuI nm n) k).2.L = k.L) := by
  have hcl : (cuI nm n k).2.left = k.left := by unfold cuI; split <;> (try split) <;> rfl
  have hce : (cuI nm n k).1 ≠ 0 → (cuI nm n k).2 = k := by
    unfold cuI
    split
    · split
      · intro _; rfl
      · intro h; exact absurd rfl h
    · intro _; rfl
  refine ⟨gate_ok hk [nm] (cuI nm n) (fun _ => cu_ok hk nm n), ?_, ?_⟩
  · intro hl
    rcases gate_is [nm] (cuI nm n) k with ⟨h, e⟩ | ⟨h, _, e⟩ | ⟨h, _, e⟩ <;> rw [e]
    · exact hl
    · show (didN (cuI nm n k).2).left = none
      unfold didN
      simp [hcl, hl]
    · rw [hcl, hl]
  · rcases gate_is [nm] (cuI nm n) k with ⟨h, e⟩ | ⟨h, _, e⟩ | ⟨h, h2, e⟩ <;> rw [e]
    · intro _; rfl
    · intro h; exact absurd rfl h
    · intro h3; rw [hce h3]
theorem linv_step {N : Nat} {s : Lg × Dk} (x : Sq) (h : LInv N [97] s.1 s.2) (h1 : 89478485 ≤ N) (h2 : N < 99999999) : LInv (N + 1) [97] (stepS x s).1 (stepS x s).2 := by
  obtain ⟨lg, k⟩ := s
  simp only at h
  unfold stepS
  simp only
  split
  · exact linv_app h h2 x.d
  · split
    · exact (linv_sync h).mono (Nat.le_succ _)
    · split
      · obtain ⟨lg2, k2, e, hI, _⟩ := open_free (p := [97]) (cr_ok h.dk x.n x.tear) rfl
        rw [e]
        exact hI.mono (by omega)
      · split
        · exact (h.congr (fu_ok h.dk x.n) rfl).mono (Nat.le_succ _)
        · split
          · split
            · exact h.mono (Nat.le_succ _)
            · obtain ⟨c1, c2, c3⟩ := cut_gate (fu_ok h.dk (-1)) (nameN [97] (lastSeg lg).1) x.n
              split
              · rename_i hx
                exact (h.congr c1 (c3 hx)).mono (Nat.le_succ _)
              · obtain ⟨lg2, k2, e, hI, _⟩ := open_free (p := [97]) c1 (c2 rfl)
                rw [e]
                exact hI.mono (by omega)
          · exact h.mono (Nat.le_succ _)
theorem PrS.gen {P : Program} {C : Code} {Q : Exit → Act → World → Prop} {a : Act} {pb d r b c : Nat} {p : Nm} {lg lg' : Lg} {k k' : Dk} {Rs : List Heaplet} {w0 W : World} {K : Heaplet} (h : PrS pb d r b c p lg k lg' k' Rs w0 K W) (f : ∀ W', PrS pb d r b c p lg k lg' k' Rs w0 K W' → C.wp P Q a W') : C.wp P Q a W := f W h
theorem old_rd {w w' : World} {a : Option Addr} {n c : Nat} {l : List UInt8} (h : RdBytes w a n c l) {Hs : List Heaplet} (s : Sp w [] w' Hs) : RdBytes w' a n c l := h.later' (s.out rfl) (fun _ _ _ => by simp [dom])
theorem PrS.old {pb d r b c : Nat} {p : Nm} {lg lg' : Lg} {k k' : Dk} {Rs : List Heaplet} {w0 W : World} (h : PrS pb d r b c p lg k lg' k' Rs w0 [] W) {a : Option Addr} {n m : Nat} {l : List UInt8} (hr : RdBytes w0 a n m l) : RdBytes W a n m l := by
  obtain ⟨DH, B, S, E, XH, DR, B2, S2, E2, XH2, h1, h2, h3, h4, s⟩ := h
  exact old_rd hr s
theorem PrS.oldK {pb d r b c : Nat} {p : Nm} {lg lg' : Lg} {k k' : Dk} {Rs : List Heaplet} {w0 W : World} {K : Heaplet} (h : PrS pb d r b c p lg k lg' k' Rs w0 K W) {a : Option Addr} {n m : Nat} {l : List UInt8} (hr : ∀ V F, Sp w0 K V F → RdBytes V a n m l) : RdBytes W a n m l := by
  obtain ⟨DH, B, S, E, XH, DR, B2, S2, E2, XH2, h1, h2, h3, h4, s⟩ := h
  exact hr _ _ s
theorem Sq.big_nil {w : World} {x : Sq} (h : RdBytes w x.ba x.bn x.bc x.d) (h2 : x.d.length ≤ 140737488300000) (h3 : x.n ≤ 9223372036854775807) : x.d.length ≤ 140737488300000 ∧ x.n ≤ 9223372036854775807 ∧ ∀ V F, Sp w [] V F → RdBytes V x.ba x.bn x.bc x.d := ⟨h2, h3, fun _ _ s => old_rd h s⟩
theorem roomy_rd {g c : Nat} {d : List UInt8} {H : Heaplet} {w : World} (hr : SlRep 5 1 (some ⟨g, 0, none⟩) (d.length + 2) c (d.map u8 ++ [.int .u8 171, .int .u8 171]) H) (hw : Own w H) : RdBytes w (some ⟨g, 0, none⟩) d.length c d :=
  SlRep.rdBytes (H := H) (by
    have q := SlRep.upto hr (i := d.length) (by omega)
    rw [Nat.mul_one, List.take_append_of_le_length (by simp), List.take_of_length_le (by simp)] at q
    exact q) hw
abbrev sqObj (x : Sq) : Obj := .cells (sqCells x).toArray 59 (0, 0)
theorem sq_cells {w : World} {xb : Nat} {kind n : Int} {ba : Option Addr} {bn bc : Nat} {tear : UInt8} (h : Own w [(xb, .cells #[ii kind, ii n, .slice ba bn bc, u8 tear] 59 (0, 0))]) :
    w.cell? ⟨xb, 0, none⟩ = some (ii kind) ∧ w.cell? ⟨xb, 1, none⟩ = some (ii n) ∧ w.cell? ⟨xb, 2, none⟩ = some (.slice ba bn bc) ∧ w.cell? ⟨xb, 3, none⟩ = some (u8 tear) :=
  ⟨cell_of h.h0 rfl, cell_of h.h0 rfl, cell_of h.h0 rfl, cell_of h.h0 rfl⟩
def Sq.big (w0 : World) (K : Heaplet) (x : Sq) : Prop := (∀ V F, Sp w0 K V F → RdBytes V x.ba x.bn x.bc x.d) ∧ x.d.length ≤ 140737488300000 ∧ x.n ≤ 9223372036854775807
def DoP (pb d r : Nat) (s : Lg × Dk) (w0 : World) (K : Heaplet) (e : Ending) (w' : World) : Prop :=
  e = .returned (.bool true) ∧ ∃ b c, PrS pb d r b c [97] s.1 s.2 s.1 s.2 [] w0 K w'
section
variable {pb d r b c : Nat} {lg : Lg} {k : Dk} {w0 w : World} {K : Heaplet} {N : Nat}
set_option maxHeartbeats 1000000 in
set_option maxRecDepth 100000 in
theorem do_app (x : Sq) (hK : x.kind = 1) (h : PrS pb d r b c [97] lg k lg k [] w0 K w) (hI : LInv N [97] lg k) (hN : N < 99999999) (hT0 : TabK w0 K) (hx : x.big w0 K) :
    Calls Tryz.prog 26 #[pt pb, .agg (sqCells x).toArray] w (DoP pb d r (stepS x (lg, k)) w0 K) := by
  obtain ⟨kind, n, ba, bn, bc, xd, tear⟩ := x
  simp only at hK
  obtain ⟨hrd, hdl, hn⟩ := hx
  simp only at hrd hdl hn
  subst hK
  have hk := hI.dk
  have hl := hI.ok (by omega)
  have hon := hI.on
  obtain rfl := (h.oldK hrd).1
  obtain ⟨⟨v1, v2, lg1, k1⟩, hv⟩ : ∃ v, v = lappN [97] xd lg k := ⟨_, rfl⟩
  have hst : stepS ⟨1, n, ba, xd.length, bc, xd, tear⟩ (lg, k) = (lg1, k1) := by show (lappN [97] xd lg k).2.2 = _; rw [← hv]
  rw [hst]
  clear hst
  have hdl' : (xd.length : Int) ≤ 140737488300000 := by omega
  have q1 : ((v1 : Int) == (v1 : Int)) = true := by simp
  have q2 : ((v2 : Int) == (v2 : Int)) = true := by simp
  replace hrd := Lib.hid hrd
  go_enter Tryz.func26, Tryz.ntmps26
  go_upto_region 1 with fail
  have h1 := h.alloc (.cells #[ii 1, ii n, .slice ba xd.length bc, u8 tear] 59 (0, 0))
  simp only [sqCells] at h1 ⊢
  generalize w.heap.size = xb at h1 ⊢
  refine PrS.gen h1 ?_
  clear h1 h
  intro W h
  rw [List.nil_append] at h
  obtain ⟨y0, y1, y2, y3⟩ := sq_cells (PrS.ownR (A := []) (Q := []) h)
  have xlt := heap_lt (PrS.ownR (A := []) (Q := []) h).h0
  go_wp2_with fail
  refine (roomy_any ba xd.length bc xd _ (h.oldK hrd.out) (by omega)).mono ?_
  rintro e w3 ⟨rg, rc, RH, rfl, hcap, hrr, hst3⟩
  have h := h.fresh hst3
  have e1 : (xd.length : Int) + 2 ≤ (rc : Int) := by omega
  have e2 : xd.length ≤ rc := by omega
  replace hrr := Lib.hid hrr
  clear y0 y1 y2 y3 xlt hst3
  have hA := Lib.hid (fun W (h : PrS pb d r b c [97] lg k lg k [[(xb, .cells #[ii 1, ii n, .slice ba xd.length bc, u8 tear] 59 (0, 0))], RH] w0 K W) => ps_append h hk hl hT0 (by decide) (some ⟨rg, 0, none⟩) rc xd (fun V F s => roomy_rd hrr.out (Sp.ownR (A := F ++ [_]) (Rs := []) (by simpa using s))) (by omega))
  have hB := Lib.hid (fun W (h : PrS pb d r b c [97] lg1 k1 lg k [[(xb, .cells #[ii 1, ii n, .slice ba xd.length bc, u8 tear] 59 (0, 0))], RH] w0 K W) => psr_append h hk hl hon (by decide) ba bc xd (fun V F s => hrd.out V _ s) (by omega))
  rw [← hv] at hA hB
  simp only at hA hB
  replace hv := Lib.hid hv
  go_upto_region 4 with fail
  replace h := h.drew
  refine wp_region_J 14 (fun w' => w'.cell? ⟨pb, 2, none⟩ = some (pt b) ∧ w'.cell? ⟨xb, 2, none⟩ = some (.slice ba xd.length bc)) (by kernel_rfl) ?_ (fun hF => ?_)
  · (try dsimp only)
    all_goals (exact ⟨h.cells.2.2.1, (sq_cells (PrS.ownR (A := []) (Q := [RH]) h)).2.2.1⟩)
  refine tk0 (i := 0) (oi := ⟨some 27, .move (.tmp 0), 25, "law.go:110", #[], none⟩) (v := ?_) rfl (by kernel_rfl) (fun _ _ _ h => h) (fun _ => hF) (fun w => ?_) (by rfl) ?_
  rotate_left
  · first | (go_simp; done) | (go_simp; with_reducible rfl) | (go_split_ands; go_simp; done)
  try simp only [Act.put, nrmA, nrmB, nrmC]
  refine tk0 (i := 1) (oi := ⟨some 28, .nilCheck (.tmp 27), 0, "law.go:110", #[⟨0, .data⟩], none⟩) (v := ?_) rfl (by kernel_rfl) (fun _ _ _ h => h) (fun _ => hF) (fun w => ?_) (by rfl) ?_
  rotate_left
  · first | (go_simp; done) | (go_simp; with_reducible rfl) | (go_split_ands; go_simp; done)
  try simp only [Act.put, nrmA, nrmB, nrmC]
  refine tk0 (i := 2) (oi := ⟨some 29, .fieldAddr 33 (.tmp 28) 2, 0, "law.go:110", #[⟨1, .data⟩], none⟩) (v := ?_) rfl (by kernel_rfl) (fun _ _ _ h => h) (fun _ => hF) (fun w => ?_) (by rfl) ?_
  rotate_left
  · first | (go_simp; done) | (go_simp; with_reducible rfl) | (go_split_ands; go_simp; done)
  try simp only [Act.put, nrmA, nrmB, nrmC]
  refine tk1 (i := 3) (oi := ⟨some 30, .load 30 (.tmp 29), 30, "law.go:110", #[⟨2, .data⟩], none⟩) (v := ?_) [14] rfl (by kernel_rfl) (fun _ _ _ h => h) hF (fun w hFw => ?_) (by rfl) ?_
  rotate_left
  · ((try dsimp only at hFw); first | (go_simp; done) | (go_simp; with_reducible rfl) | (go_split_ands; go_simp; done))
  try simp only [Act.put, nrmA, nrmB, nrmC]
  refine tk0 (i := 4) (oi := ⟨some 31, .move (.tmp 5), 23, "law.go:110", #[], none⟩) (v := ?_) rfl (by kernel_rfl) (fun _ _ _ h => h) (fun _ => hF) (fun w => ?_) (by rfl) ?_
  rotate_left
  · first | (go_simp; done) | (go_simp; with_reducible rfl) | (go_split_ands; go_simp; done)
  try simp only [Act.put, nrmA, nrmB, nrmC]
  refine tk0 (i := 5) (oi := ⟨some 32, .fieldAddr 59 (.tmp 3) 2, 0, "law.go:110", #[], none⟩) (v := ?_) rfl (by kernel_rfl) (fun _ _ _ h => h) (fun _ => hF) (fun w => ?_) (by rfl) ?_
  rotate_left
  · first | (go_simp; done) | (go_simp; with_reducible rfl) | (go_split_ands; go_simp; done)
  try simp only [Act.put, nrmA, nrmB, nrmC]
  refine tk1 (i := 6) (oi := ⟨some 33, .load 23 (.tmp 32), 23, "law.go:110", #[⟨5, .data⟩], none⟩) (v := ?_) [14] rfl (by kernel_rfl) (fun _ _ _ h => h) hF (fun w hFw => ?_) (by rfl) ?_
  rotate_left
  · ((try dsimp only at hFw); first | (go_simp; done) | (go_simp; with_reducible rfl) | (go_split_ands; go_simp; done))
  try simp only [Act.put, nrmA, nrmB, nrmC]
  refine tk1 (i := 7) (oi := ⟨some 34, .call { callee := .builtin .len, args := #[.tmp 33], argTypes := #[23] }, 3, "law.go:110", #[⟨6, .data⟩], none⟩) (v := ?_) [14] rfl (by kernel_rfl) (fun _ _ _ h => h) hF (fun w hFw => ?_) (by rfl) ?_
  rotate_left
  · ((try dsimp only at hFw); first | (go_simp; done) | (go_simp; with_reducible rfl) | (go_split_ands; go_simp; done))
  try simp only [Act.put, nrmA, nrmB, nrmC]
  refine tk0 (i := 8) (oi := ⟨some 35, .slice 23 (.tmp 31) none (some (.tmp 34)) none, 23, "law.go:110", #[⟨4, .data⟩, ⟨7, .data⟩], none⟩) (v := ?_) rfl (by kernel_rfl) (fun _ _ _ h => h) (fun _ => hF) (fun w => ?_) (by rfl) ?_
  rotate_left
  · first | (go_simp; done) | (go_simp; with_reducible rfl) | (go_split_ands; go_simp; done)
  try simp only [Act.put, nrmA, nrmB, nrmC]
  refine wpAnyJ_ready (rs := [9]) (by kernel_rfl) (by simp) ?_
  refine AllJ.cons1 (o := ⟨some 36, .call { callee := .value (.func 14), args := #[.tmp 30, .tmp 35], argTypes := #[30, 23] }, 36, "law.go:110", #[⟨3, .data⟩, ⟨8, .data⟩], none⟩) rfl (fun Kr hKr => ?_)
  go_simp; go_at_call 14; refine (hA.out _ h).mono ?_; rintro e w4 ⟨rfl, h⟩
  refine hKr.out _ _ (fun hJ => ?_) (fun hF => ?_)
  · first
    | exact absurd hJ (by decide)
    | (clear hJ; (try dsimp only); all_goals (exact ⟨h.cells.2.2.1, (sq_cells (PrS.ownR (A := []) (Q := [RH]) h)).2.2.1⟩))
  clear hKr
  try simp only [Act.put, nrmA, nrmB, nrmC]
  refine tk0 (i := 10) (oi := ⟨some 26, .move (.tmp 36), 36, "law.go:110", #[⟨9, .data⟩], none⟩) (v := ?_) rfl (by kernel_rfl) (fun _ _ _ h => h) (fun _ => hF (by kernel_rfl)) (fun w => ?_) (by rfl) ?_
  rotate_left
  · first | (go_simp; done) | (go_simp; with_reducible rfl) | (go_split_ands; go_simp; done)
  try simp only [Act.put, nrmA, nrmB, nrmC]
  refine tk0 (i := 11) (oi := ⟨some 37, .extract (.tmp 26) 0, 3, "law.go:110", #[⟨10, .data⟩], none⟩) (v := ?_) rfl (by kernel_rfl) (fun _ _ _ h => h) (fun _ => hF (by kernel_rfl)) (fun w => ?_) (by rfl) ?_
  rotate_left
  · first | (go_simp; done) | (go_simp; with_reducible rfl) | (go_split_ands; go_simp; done)
  try simp only [Act.put, nrmA, nrmB, nrmC]
  refine tk0 (i := 12) (oi := ⟨some 38, .extract (.tmp 26) 1, 35, "law.go:110", #[⟨10, .data⟩, { on := 13, ground := Go.Ground.gcOnly Go.Departure.lateStores }], none⟩) (v := ?_) rfl (by kernel_rfl) (fun _ _ _ h => h) (fun _ => hF (by kernel_rfl)) (fun w => ?_) (by rfl) ?_
  rotate_left
  · first | (go_simp; done) | (go_simp; with_reducible rfl) | (go_split_ands; go_simp; done)
  try simp only [Act.put, nrmA, nrmB, nrmC]
  refine wpAnyJ_ready (rs := [13]) (by kernel_rfl) (by simp) ?_
  refine AllJ.cons1 (o := ⟨some 6, .assign (.tmp 37), 3, "law.go:110", #[⟨11, .data⟩, ⟨9, .chain⟩, ⟨0, .phase⟩, ⟨1, .phase⟩, ⟨2, .phase⟩, ⟨3, .phase⟩, ⟨4, .phase⟩, ⟨5, .phase⟩, ⟨6, .phase⟩, ⟨7, .phase⟩, ⟨8, .phase⟩, ⟨9, .phase⟩, ⟨10, .phase⟩, ⟨11, .phase⟩, { on := 12, ground := Go.Ground.textOnly Go.Departure.lateStores }], none⟩) rfl (fun Kr hKr => ?_)
  go_simp
  refine hKr.out _ _ (fun hJ => ?_) (fun hF => ?_)
  · first
    | exact absurd hJ (by decide)
    | (clear hJ; (try dsimp only); all_goals (exact ⟨h.cells.2.2.1, (sq_cells (PrS.ownR (A := []) (Q := [RH]) h)).2.2.1⟩))
  clear hKr
  try simp only [Act.put, nrmA, nrmB, nrmC]
  refine wpAnyJ_ready (rs := [14]) (by kernel_rfl) (by simp) ?_
  refine AllJ.cons1 (o := ⟨some 7, .assign (.tmp 38), 35, "law.go:110", #[⟨12, .data⟩, ⟨13, .chain⟩, ⟨0, .phase⟩, ⟨1, .phase⟩, ⟨2, .phase⟩, ⟨3, .phase⟩, ⟨4, .phase⟩, ⟨5, .phase⟩, ⟨6, .phase⟩, ⟨7, .phase⟩, ⟨8, .phase⟩, ⟨9, .phase⟩, ⟨10, .phase⟩, ⟨11, .phase⟩, ⟨12, .phase⟩, ⟨13, .phase⟩], none⟩) rfl (fun Kr hKr => ?_)
  go_simp
  refine hKr.out _ _ (fun hJ => ?_) (fun hF => ?_)
  · first
    | exact absurd hJ (by decide)
    | (clear hJ; (try dsimp only); all_goals (exact ⟨h.cells.2.2.1, (sq_cells (PrS.ownR (A := []) (Q := [RH]) h)).2.2.1⟩))
  clear hKr
  try simp only [Act.put, nrmA, nrmB, nrmC]
  refine wpAnyJ_done (by kernel_rfl) ?_ _
  go_upto_region 5 with fail
  replace h := h.drew
  refine wp_region_J 11 (fun w' => w'.cell? ⟨pb, 3, none⟩ = some (pt c) ∧ w'.cell? ⟨xb, 2, none⟩ = some (.slice ba xd.length bc)) (by kernel_rfl) ?_ (fun hF => ?_)
  · (try dsimp only)
    all_goals (exact ⟨h.cells.2.2.2, (sq_cells (PrS.ownR (A := []) (Q := [RH]) h)).2.2.1⟩)
  refine tk0 (i := 0) (oi := ⟨some 40, .move (.tmp 0), 25, "law.go:111", #[], none⟩) (v := ?_) rfl (by kernel_rfl) (fun _ _ _ h => h) (fun _ => hF) (fun w => ?_) (by rfl) ?_
  rotate_left
  · first | (go_simp; done) | (go_simp; with_reducible rfl) | (go_split_ands; go_simp; done)
  try simp only [Act.put, nrmA, nrmB, nrmC]
  refine tk0 (i := 1) (oi := ⟨some 41, .nilCheck (.tmp 40), 0, "law.go:111", #[⟨0, .data⟩], none⟩) (v := ?_) rfl (by kernel_rfl) (fun _ _ _ h => h) (fun _ => hF) (fun w => ?_) (by rfl) ?_
  rotate_left
  · first | (go_simp; done) | (go_simp; with_reducible rfl) | (go_split_ands; go_simp; done)
  try simp only [Act.put, nrmA, nrmB, nrmC]
  refine tk0 (i := 2) (oi := ⟨some 42, .fieldAddr 33 (.tmp 41) 3, 0, "law.go:111", #[⟨1, .data⟩], none⟩) (v := ?_) rfl (by kernel_rfl) (fun _ _ _ h => h) (fun _ => hF) (fun w => ?_) (by rfl) ?_
  rotate_left
  · first | (go_simp; done) | (go_simp; with_reducible rfl) | (go_split_ands; go_simp; done)
  try simp only [Act.put, nrmA, nrmB, nrmC]
  refine tk1 (i := 3) (oi := ⟨some 43, .load 31 (.tmp 42), 31, "law.go:111", #[⟨2, .data⟩], none⟩) (v := ?_) [11] rfl (by kernel_rfl) (fun _ _ _ h => h) hF (fun w hFw => ?_) (by rfl) ?_
  rotate_left
  · ((try dsimp only at hFw); first | (go_simp; done) | (go_simp; with_reducible rfl) | (go_split_ands; go_simp; done))
  try simp only [Act.put, nrmA, nrmB, nrmC]
  refine tk0 (i := 4) (oi := ⟨some 44, .fieldAddr 59 (.tmp 3) 2, 0, "law.go:111", #[], none⟩) (v := ?_) rfl (by kernel_rfl) (fun _ _ _ h => h) (fun _ => hF) (fun w => ?_) (by rfl) ?_
  rotate_left
  · first | (go_simp; done) | (go_simp; with_reducible rfl) | (go_split_ands; go_simp; done)
  try simp only [Act.put, nrmA, nrmB, nrmC]
  refine tk1 (i := 5) (oi := ⟨some 45, .load 23 (.tmp 44), 23, "law.go:111", #[⟨4, .data⟩], none⟩) (v := ?_) [11] rfl (by kernel_rfl) (fun _ _ _ h => h) hF (fun w hFw => ?_) (by rfl) ?_
  rotate_left
  · ((try dsimp only at hFw); first | (go_simp; done) | (go_simp; with_reducible rfl) | (go_split_ands; go_simp; done))
  try simp only [Act.put, nrmA, nrmB, nrmC]
  refine wpAnyJ_ready (rs := [6]) (by kernel_rfl) (by simp) ?_
  refine AllJ.cons1 (o := ⟨some 46, .call { callee := .value (.func 15), args := #[.tmp 43, .tmp 45], argTypes := #[31, 23] }, 38, "law.go:111", #[⟨3, .data⟩, ⟨5, .data⟩], none⟩) rfl (fun Kr hKr => ?_)
  go_simp; go_at_call 15; refine (hB.out _ h).mono ?_; rintro e w5 ⟨rfl, h⟩
  refine hKr.out _ _ (fun hJ => ?_) (fun hF => ?_)
  · first
    | exact absurd hJ (by decide)
    | (clear hJ; (try dsimp only); all_goals (exact ⟨h.cells.2.2.2, (sq_cells (PrS.ownR (A := []) (Q := [RH]) h)).2.2.1⟩))
  clear hKr
  try simp only [Act.put, nrmA, nrmB, nrmC]
  refine tk0 (i := 7) (oi := ⟨some 39, .move (.tmp 46), 38, "law.go:111", #[⟨6, .data⟩], none⟩) (v := ?_) rfl (by kernel_rfl) (fun _ _ _ h => h) (fun _ => hF (by kernel_rfl)) (fun w => ?_) (by rfl) ?_
  rotate_left
  · first | (go_simp; done) | (go_simp; with_reducible rfl) | (go_split_ands; go_simp; done)
  try simp only [Act.put, nrmA, nrmB, nrmC]
  refine tk0 (i := 8) (oi := ⟨some 47, .extract (.tmp 39) 0, 3, "law.go:111", #[⟨7, .data⟩], none⟩) (v := ?_) rfl (by kernel_rfl) (fun _ _ _ h => h) (fun _ => hF (by kernel_rfl)) (fun w => ?_) (by rfl) ?_
  rotate_left
  · first | (go_simp; done) | (go_simp; with_reducible rfl) | (go_split_ands; go_simp; done)
  try simp only [Act.put, nrmA, nrmB, nrmC]
  refine tk0 (i := 9) (oi := ⟨some 48, .extract (.tmp 39) 1, 3, "law.go:111", #[⟨7, .data⟩, { on := 10, ground := Go.Ground.gcOnly Go.Departure.lateStores }], none⟩) (v := ?_) rfl (by kernel_rfl) (fun _ _ _ h => h) (fun _ => hF (by kernel_rfl)) (fun w => ?_) (by rfl) ?_
  rotate_left
  · first | (go_simp; done) | (go_simp; with_reducible rfl) | (go_split_ands; go_simp; done)
  try simp only [Act.put, nrmA, nrmB, nrmC]
  refine wpAnyJ_ready (rs := [10]) (by kernel_rfl) (by simp) ?_
  refine AllJ.cons1 (o := ⟨some 8, .assign (.tmp 47), 3, "law.go:111", #[⟨8, .data⟩, ⟨6, .chain⟩, ⟨0, .phase⟩, ⟨1, .phase⟩, ⟨2, .phase⟩, ⟨3, .phase⟩, ⟨4, .phase⟩, ⟨5, .phase⟩, ⟨6, .phase⟩, ⟨7, .phase⟩, ⟨8, .phase⟩, { on := 9, ground := Go.Ground.textOnly Go.Departure.lateStores }], none⟩) rfl (fun Kr hKr => ?_)
  go_simp
  refine hKr.out _ _ (fun hJ => ?_) (fun hF => ?_)
  · first
    | exact absurd hJ (by decide)
    | (clear hJ; (try dsimp only); all_goals (exact ⟨h.cells.2.2.2, (sq_cells (PrS.ownR (A := []) (Q := [RH]) h)).2.2.1⟩))
  clear hKr
  try simp only [Act.put, nrmA, nrmB, nrmC]
  refine wpAnyJ_ready (rs := [11]) (by kernel_rfl) (by simp) ?_
  refine AllJ.cons1 (o := ⟨some 9, .assign (.tmp 48), 3, "law.go:111", #[⟨9, .data⟩, ⟨10, .chain⟩, ⟨0, .phase⟩, ⟨1, .phase⟩, ⟨2, .phase⟩, ⟨3, .phase⟩, ⟨4, .phase⟩, ⟨5, .phase⟩, ⟨6, .phase⟩, ⟨7, .phase⟩, ⟨8, .phase⟩, ⟨9, .phase⟩, ⟨10, .phase⟩], none⟩) rfl (fun Kr hKr => ?_)
  go_simp
  refine hKr.out _ _ (fun hJ => ?_) (fun hF => ?_)
  · first
    | exact absurd hJ (by decide)
    | (clear hJ; (try dsimp only); all_goals (exact ⟨h.cells.2.2.2, (sq_cells (PrS.ownR (A := []) (Q := [RH]) h)).2.2.1⟩))
  clear hKr
  try simp only [Act.put, nrmA, nrmB, nrmC]
  refine wpAnyJ_done (by kernel_rfl) ?_ _
  obtain ⟨y0, y1, y2, y3⟩ := sq_cells (PrS.ownR (A := []) (Q := [RH]) h)
  have xlt := heap_lt (PrS.ownR (A := []) (Q := [RH]) h).h0
  go_wp2_with fail
  refine (stands_any rg rc ba xd.length bc xd RH _ hrr.out (PrS.ownR (A := [_]) (Q := []) h) (h.oldK hrd.out) (by omega)).mono ?_
  rintro e w6 ⟨rfl, h6⟩
  have h := h.still h6
  clear y0 y1 y2 y3 xlt h6
  go_wp2_with fail
  refine (spoil_any (some ⟨rg, 0, none⟩) (xd.length + 1) rc _ RH _ (SlRep.upto hrr.out (i := xd.length + 1) (by omega)) (PrS.ownR (A := [_]) (Q := []) h) (by omega)).mono ?_
  rintro e w7 ⟨rfl, RH2, h7⟩
  have h := PrS.putR (A := [_]) (Q := []) h h7
  go_wp2_with fail
  go_ret
  exact ⟨rfl, b, c, h.drop⟩
set_option maxHeartbeats 1000000 in
set_option maxRecDepth 100000 in
theorem do_sync (x : Sq) (hK : x.kind = 2) (h : PrS pb d r b c [97] lg k lg k [] w0 K w) (hI : LInv N [97] lg k) (hN : N < 99999999) (hx : x.big w0 K) :
    Calls Tryz.prog 26 #[pt pb, .agg (sqCells x).toArray] w (DoP pb d r (stepS x (lg, k)) w0 K) := by
  obtain ⟨kind, n, ba, bn, bc, xd, tear⟩ := x
  simp only at hK
  obtain ⟨hrd, hdl, hn⟩ := hx
  simp only at hrd hdl hn
  subst hK
  have hk := hI.dk
  have hl := hI.ok (by omega)
  obtain ⟨⟨v2, lg1, k1⟩, hv⟩ : ∃ v, v = lsyncN [97] lg k := ⟨_, rfl⟩
  have hst : stepS ⟨2, n, ba, bn, bc, xd, tear⟩ (lg, k) = (lg1, k1) := by show (lsyncN [97] lg k).2 = _; rw [← hv]
  rw [hst]
  clear hst
  have q2 : ((v2 : Int) == (v2 : Int)) = true := by simp
  have hA := Lib.hid (fun W Rs (h : PrS pb d r b c [97] lg k lg k Rs w0 K W) => ps_sync h hk hl)
  have hB := Lib.hid (fun W Rs (h : PrS pb d r b c [97] lg1 k1 lg k Rs w0 K W) => psr_sync h hk hl (by decide))
  rw [← hv] at hA hB
  simp only at hA hB
  replace hv := Lib.hid hv
  clear hrd hdl
  go_enter Tryz.func26, Tryz.ntmps26
  go_upto_region 1 with fail
  have h1 := h.alloc (.cells #[ii 2, ii n, .slice ba bn bc, u8 tear] 59 (0, 0))
  simp only [sqCells] at h1 ⊢
  generalize w.heap.size = xb at h1 ⊢
  refine PrS.gen h1 ?_
  clear h1 h
  intro W h
  rw [List.nil_append] at h
  obtain ⟨y0, y1, y2, y3⟩ := sq_cells (PrS.ownR (A := []) (Q := []) h)
  have xlt := heap_lt (PrS.ownR (A := []) (Q := []) h).h0
  go_upto_region 10 with fail
  clear y0 y1 y2 y3 xlt
  replace h := h.drew
  refine wp_region_J 11 (fun w' => w'.cell? ⟨pb, 2, none⟩ = some (pt b) ∧ w'.cell? ⟨pb, 3, none⟩ = some (pt c)) (by kernel_rfl) ?_ (fun hF => ?_)
  · (try dsimp only)
    all_goals (exact ⟨h.cells.2.2.1, h.cells.2.2.2⟩)
  refine tk0 (i := 0) (oi := ⟨some 68, .move (.tmp 0), 25, "law.go:116", #[], none⟩) (v := ?_) rfl (by kernel_rfl) (fun _ _ _ h => h) (fun _ => hF) (fun w => ?_) (by rfl) ?_
  rotate_left
  · first | (go_simp; done) | (go_simp; with_reducible rfl) | (go_split_ands; go_simp; done)
  try simp only [Act.put, nrmA, nrmB, nrmC]
  refine tk0 (i := 1) (oi := ⟨some 69, .nilCheck (.tmp 68), 0, "law.go:116", #[⟨0, .data⟩], none⟩) (v := ?_) rfl (by kernel_rfl) (fun _ _ _ h => h) (fun _ => hF) (fun w => ?_) (by rfl) ?_
  rotate_left
  · first | (go_simp; done) | (go_simp; with_reducible rfl) | (go_split_ands; go_simp; done)
  try simp only [Act.put, nrmA, nrmB, nrmC]
  refine tk0 (i := 2) (oi := ⟨some 70, .fieldAddr 33 (.tmp 69) 2, 0, "law.go:116", #[⟨1, .data⟩], none⟩) (v := ?_) rfl (by kernel_rfl) (fun _ _ _ h => h) (fun _ => hF) (fun w => ?_) (by rfl) ?_
  rotate_left
  · first | (go_simp; done) | (go_simp; with_reducible rfl) | (go_split_ands; go_simp; done)
  try simp only [Act.put, nrmA, nrmB, nrmC]
  refine tk1 (i := 3) (oi := ⟨some 71, .load 30 (.tmp 70), 30, "law.go:116", #[⟨2, .data⟩], none⟩) (v := ?_) [11] rfl (by kernel_rfl) (fun _ _ _ h => h) hF (fun w hFw => ?_) (by rfl) ?_
  rotate_left
  · ((try dsimp only at hFw); first | (go_simp; done) | (go_simp; with_reducible rfl) | (go_split_ands; go_simp; done))
  try simp only [Act.put, nrmA, nrmB, nrmC]
  refine tk0 (i := 5) (oi := ⟨some 73, .move (.tmp 0), 25, "law.go:116", #[], none⟩) (v := ?_) rfl (by kernel_rfl) (fun _ _ _ h => h) (fun _ => hF) (fun w => ?_) (by rfl) ?_
  rotate_left
  · first | (go_simp; done) | (go_simp; with_reducible rfl) | (go_split_ands; go_simp; done)
  try simp only [Act.put, nrmA, nrmB, nrmC]
  refine tk0 (i := 6) (oi := ⟨some 74, .nilCheck (.tmp 73), 0, "law.go:116", #[⟨5, .data⟩], none⟩) (v := ?_) rfl (by kernel_rfl) (fun _ _ _ h => h) (fun _ => hF) (fun w => ?_) (by rfl) ?_
  rotate_left
  · first | (go_simp; done) | (go_simp; with_reducible rfl) | (go_split_ands; go_simp; done)
  try simp only [Act.put, nrmA, nrmB, nrmC]
  refine tk0 (i := 7) (oi := ⟨some 75, .fieldAddr 33 (.tmp 74) 3, 0, "law.go:116", #[⟨6, .data⟩], none⟩) (v := ?_) rfl (by kernel_rfl) (fun _ _ _ h => h) (fun _ => hF) (fun w => ?_) (by rfl) ?_
  rotate_left
  · first | (go_simp; done) | (go_simp; with_reducible rfl) | (go_split_ands; go_simp; done)
  try simp only [Act.put, nrmA, nrmB, nrmC]
  refine tk1 (i := 8) (oi := ⟨some 76, .load 31 (.tmp 75), 31, "law.go:116", #[⟨7, .data⟩], none⟩) (v := ?_) [11] rfl (by kernel_rfl) (fun _ _ _ h => h) hF (fun w hFw => ?_) (by rfl) ?_
  rotate_left
  · ((try dsimp only at hFw); first | (go_simp; done) | (go_simp; with_reducible rfl) | (go_split_ands; go_simp; done))
  try simp only [Act.put, nrmA, nrmB, nrmC]
  refine wpAnyJ_ready (rs := [4]) (by kernel_rfl) (by simp) ?_
  refine AllJ.cons1 (o := ⟨some 72, .call { callee := .value (.func 16), args := #[.tmp 71], argTypes := #[30] }, 35, "law.go:116", #[⟨3, .data⟩], none⟩) rfl (fun Kr hKr => ?_)
  go_simp; go_at_call 16; refine (hA.out _ _ h).mono ?_; rintro e w4 ⟨rfl, h⟩
  refine hKr.out _ _ (fun hJ => ?_) (fun hF => ?_)
  · first
    | exact absurd hJ (by decide)
    | (clear hJ; (try dsimp only); all_goals (exact ⟨h.cells.2.2.1, h.cells.2.2.2⟩))
  clear hKr
  try simp only [Act.put, nrmA, nrmB, nrmC]
  refine wpAnyJ_ready (rs := [9]) (by kernel_rfl) (by simp) ?_
  refine AllJ.cons1 (o := ⟨some 77, .call { callee := .value (.func 17), args := #[.tmp 76], argTypes := #[31] }, 3, "law.go:116", #[⟨8, .data⟩, ⟨4, .chain⟩], none⟩) rfl (fun Kr hKr => ?_)
  go_simp; go_at_call 17; refine (hB.out _ _ h).mono ?_; rintro e w5 ⟨rfl, h⟩
  refine hKr.out _ _ (fun hJ => ?_) (fun hF => ?_)
  · first
    | exact absurd hJ (by decide)
    | (clear hJ; (try dsimp only); all_goals (exact ⟨h.cells.2.2.1, h.cells.2.2.2⟩))
  clear hKr
  try simp only [Act.put, nrmA, nrmB, nrmC]
  refine tk0 (i := 10) (oi := ⟨some 78, .binOp .eql 3 (.tmp 72) (.tmp 77) 3, 4, "law.go:116", #[⟨4, .data⟩, ⟨9, .data⟩], none⟩) (v := ?_) rfl (by kernel_rfl) (fun _ _ _ h => h) (fun _ => hF (by kernel_rfl)) (fun w => ?_) (by rfl) ?_
  rotate_left
  · first | (go_simp; done) | (go_simp; with_reducible rfl) | (go_split_ands; go_simp; done)
  try simp only [Act.put, nrmA, nrmB, nrmC]
  refine wpAnyJ_ready (rs := [11]) (by kernel_rfl) (by simp) ?_
  refine AllJ.cons1 (o := ⟨some 4, .assign (.tmp 78), 4, "law.go:116", #[⟨10, .data⟩, ⟨9, .chain⟩, ⟨0, .phase⟩, ⟨1, .phase⟩, ⟨2, .phase⟩, ⟨3, .phase⟩, ⟨4, .phase⟩, ⟨5, .phase⟩, ⟨6, .phase⟩, ⟨7, .phase⟩, ⟨8, .phase⟩, ⟨9, .phase⟩, ⟨10, .phase⟩], none⟩) rfl (fun Kr hKr => ?_)
  go_simp
  refine hKr.out _ _ (fun hJ => ?_) (fun hF => ?_)
  · first
    | exact absurd hJ (by decide)
    | (clear hJ; (try dsimp only); all_goals (exact ⟨h.cells.2.2.1, h.cells.2.2.2⟩))
  clear hKr
  try simp only [Act.put, nrmA, nrmB, nrmC]
  refine wpAnyJ_done (by kernel_rfl) ?_ _
  go_wp2_with fail
  go_ret
  exact ⟨rfl, b, c, h.drop⟩
set_option maxHeartbeats 1000000 in
set_option maxRecDepth 100000 in
theorem do_crash (x : Sq) (hK : x.kind = 3) (h : PrS pb d r b c [97] lg k lg k [] w0 K w) (hI : LInv N [97] lg k) (hT0 : TabK w0 K) (hx : x.big w0 K) :
    Calls Tryz.prog 26 #[pt pb, .agg (sqCells x).toArray] w (DoP pb d r (stepS x (lg, k)) w0 K) := by
  obtain ⟨kind, n, ba, bn, bc, xd, tear⟩ := x
  simp only at hK
  obtain ⟨hrd, hdl, hn⟩ := hx
  simp only at hrd hdl hn
  subst hK
  have hk := hI.dk
  obtain ⟨k1, hk1⟩ : ∃ k1, k1 = crN n tear k := ⟨_, rfl⟩
  have hst : stepS ⟨3, n, ba, bn, bc, xd, tear⟩ (lg, k) = (openN [97] k1).2 := by show (openN [97] (crN n tear k)).2 = _; rw [hk1]
  rw [hst]
  clear hst
  have hok1 : k1.Ok := by rw [hk1]; exact cr_ok hk n tear
  have hleft : k1.left = none := by rw [hk1]; rfl
  have hA := Lib.hid (fun W Rs (h : PrS pb d r b c [97] lg k lg k Rs w0 K W) => ps_crash h hk n tear hn)
  have hB := Lib.hid (fun W Rs (h : PrS pb d r b c [97] lg k1 lg k Rs w0 K W) => psr_crash h hk n tear hn)
  rw [← hk1] at hA hB
  have hC := Lib.hid (fun W Rs (h : PrS pb d r b c [97] lg k1 lg k1 Rs w0 K W) => open_any h.pd hok1 hleft hT0)
  replace hk1 := Lib.hid hk1
  clear hrd hdl hok1 hleft
  go_enter Tryz.func26, Tryz.ntmps26
  go_upto_region 1 with fail
  have h1 := h.alloc (.cells #[ii 3, ii n, .slice ba bn bc, u8 tear] 59 (0, 0))
  simp only [sqCells] at h1 ⊢
  generalize w.heap.size = xb at h1 ⊢
  refine PrS.gen h1 ?_
  clear h1 h
  intro W h
  rw [List.nil_append] at h
  obtain ⟨y0, y1, y2, y3⟩ := sq_cells (PrS.ownR (A := []) (Q := []) h)
  have xlt := heap_lt (PrS.ownR (A := []) (Q := []) h).h0
  go_upto_region 12 with fail
  clear y0 y1 y2 y3 xlt
  replace h := h.drew
  refine wp_region_J 8 (fun w' => w'.cell? ⟨pb, 0, none⟩ = some (pt d) ∧ w'.cell? ⟨xb, 1, none⟩ = some (ii n) ∧ w'.cell? ⟨xb, 3, none⟩ = some (u8 tear)) (by kernel_rfl) ?_ (fun hF => ?_)
  · (try dsimp only)
    all_goals (exact ⟨h.cells.1, (sq_cells (PrS.ownR (A := []) (Q := []) h)).2.1, (sq_cells (PrS.ownR (A := []) (Q := []) h)).2.2.2⟩)
  refine tk0 (i := 0) (oi := ⟨some 81, .move (.tmp 0), 25, "law.go:118", #[], none⟩) (v := ?_) rfl (by kernel_rfl) (fun _ _ _ h => h) (fun _ => hF) (fun w => ?_) (by rfl) ?_
  rotate_left
  · first | (go_simp; done) | (go_simp; with_reducible rfl) | (go_split_ands; go_simp; done)
  try simp only [Act.put, nrmA, nrmB, nrmC]
  refine tk0 (i := 1) (oi := ⟨some 82, .nilCheck (.tmp 81), 0, "law.go:118", #[⟨0, .data⟩], none⟩) (v := ?_) rfl (by kernel_rfl) (fun _ _ _ h => h) (fun _ => hF) (fun w => ?_) (by rfl) ?_
  rotate_left
  · first | (go_simp; done) | (go_simp; with_reducible rfl) | (go_split_ands; go_simp; done)
  try simp only [Act.put, nrmA, nrmB, nrmC]
  refine tk0 (i := 2) (oi := ⟨some 83, .fieldAddr 33 (.tmp 82) 0, 0, "law.go:118", #[⟨1, .data⟩], none⟩) (v := ?_) rfl (by kernel_rfl) (fun _ _ _ h => h) (fun _ => hF) (fun w => ?_) (by rfl) ?_
  rotate_left
  · first | (go_simp; done) | (go_simp; with_reducible rfl) | (go_split_ands; go_simp; done)
  try simp only [Act.put, nrmA, nrmB, nrmC]
  refine tk1 (i := 3) (oi := ⟨some 84, .load 28 (.tmp 83), 28, "law.go:118", #[⟨2, .data⟩], none⟩) (v := ?_) [8] rfl (by kernel_rfl) (fun _ _ _ h => h) hF (fun w hFw => ?_) (by rfl) ?_
  rotate_left
  · ((try dsimp only at hFw); first | (go_simp; done) | (go_simp; with_reducible rfl) | (go_split_ands; go_simp; done))
  try simp only [Act.put, nrmA, nrmB, nrmC]
  refine tk0 (i := 4) (oi := ⟨some 85, .fieldAddr 59 (.tmp 3) 1, 0, "law.go:118", #[], none⟩) (v := ?_) rfl (by kernel_rfl) (fun _ _ _ h => h) (fun _ => hF) (fun w => ?_) (by rfl) ?_
  rotate_left
  · first | (go_simp; done) | (go_simp; with_reducible rfl) | (go_split_ands; go_simp; done)
  try simp only [Act.put, nrmA, nrmB, nrmC]
  refine tk1 (i := 5) (oi := ⟨some 86, .load 3 (.tmp 85), 3, "law.go:118", #[⟨4, .data⟩], none⟩) (v := ?_) [8] rfl (by kernel_rfl) (fun _ _ _ h => h) hF (fun w hFw => ?_) (by rfl) ?_
  rotate_left
  · ((try dsimp only at hFw); first | (go_simp; done) | (go_simp; with_reducible rfl) | (go_split_ands; go_simp; done))
  try simp only [Act.put, nrmA, nrmB, nrmC]
  refine tk0 (i := 6) (oi := ⟨some 87, .fieldAddr 59 (.tmp 3) 3, 0, "law.go:118", #[], none⟩) (v := ?_) rfl (by kernel_rfl) (fun _ _ _ h => h) (fun _ => hF) (fun w => ?_) (by rfl) ?_
  rotate_left
  · first | (go_simp; done) | (go_simp; with_reducible rfl) | (go_split_ands; go_simp; done)
  try simp only [Act.put, nrmA, nrmB, nrmC]
  refine tk1 (i := 7) (oi := ⟨some 88, .load 5 (.tmp 87), 5, "law.go:118", #[⟨6, .data⟩], none⟩) (v := ?_) [8] rfl (by kernel_rfl) (fun _ _ _ h => h) hF (fun w hFw => ?_) (by rfl) ?_
  rotate_left
  · ((try dsimp only at hFw); first | (go_simp; done) | (go_simp; with_reducible rfl) | (go_split_ands; go_simp; done))
  try simp only [Act.put, nrmA, nrmB, nrmC]
  refine wpAnyJ_ready (rs := [8]) (by kernel_rfl) (by simp) ?_
  refine AllJ.cons1 (o := ⟨some 89, .call { callee := .value (.func 18), args := #[.tmp 84, .tmp 86, .tmp 88], argTypes := #[28, 3, 5] }, 0, "law.go:118", #[⟨3, .data⟩, ⟨5, .data⟩, ⟨7, .data⟩], none⟩) rfl (fun Kr hKr => ?_)
  go_simp; go_at_call 18; refine (hA.out _ _ h).mono ?_; rintro e w4 ⟨rfl, h⟩
  refine hKr.out _ _ (fun hJ => ?_) (fun hF => ?_)
  · first
    | exact absurd hJ (by decide)
    | (clear hJ; (try dsimp only); all_goals (exact ⟨h.cells.1, (sq_cells (PrS.ownR (A := []) (Q := []) h)).2.1, (sq_cells (PrS.ownR (A := []) (Q := []) h)).2.2.2⟩))
  clear hKr
  try simp only [Act.put, nrmA, nrmB, nrmC]
  refine wpAnyJ_done (by kernel_rfl) ?_ _
  go_upto_region 13 with fail
  replace h := h.drew
  refine wp_region_J 8 (fun w' => w'.cell? ⟨pb, 1, none⟩ = some (pt r) ∧ w'.cell? ⟨xb, 1, none⟩ = some (ii n) ∧ w'.cell? ⟨xb, 3, none⟩ = some (u8 tear)) (by kernel_rfl) ?_ (fun hF => ?_)
  · (try dsimp only)
    all_goals (exact ⟨h.cells.2.1, (sq_cells (PrS.ownR (A := []) (Q := []) h)).2.1, (sq_cells (PrS.ownR (A := []) (Q := []) h)).2.2.2⟩)
  refine tk0 (i := 0) (oi := ⟨some 90, .move (.tmp 0), 25, "law.go:119", #[], none⟩) (v := ?_) rfl (by kernel_rfl) (fun _ _ _ h => h) (fun _ => hF) (fun w => ?_) (by rfl) ?_
  rotate_left
  · first | (go_simp; done) | (go_simp; with_reducible rfl) | (go_split_ands; go_simp; done)
  try simp only [Act.put, nrmA, nrmB, nrmC]
  refine tk0 (i := 1) (oi := ⟨some 91, .nilCheck (.tmp 90), 0, "law.go:119", #[⟨0, .data⟩], none⟩) (v := ?_) rfl (by kernel_rfl) (fun _ _ _ h => h) (fun _ => hF) (fun w => ?_) (by rfl) ?_
  rotate_left
  · first | (go_simp; done) | (go_simp; with_reducible rfl) | (go_split_ands; go_simp; done)
  try simp only [Act.put, nrmA, nrmB, nrmC]
  refine tk0 (i := 2) (oi := ⟨some 92, .fieldAddr 33 (.tmp 91) 1, 0, "law.go:119", #[⟨1, .data⟩], none⟩) (v := ?_) rfl (by kernel_rfl) (fun _ _ _ h => h) (fun _ => hF) (fun w => ?_) (by rfl) ?_
  rotate_left
  · first | (go_simp; done) | (go_simp; with_reducible rfl) | (go_split_ands; go_simp; done)
  try simp only [Act.put, nrmA, nrmB, nrmC]
  refine tk1 (i := 3) (oi := ⟨some 93, .load 29 (.tmp 92), 29, "law.go:119", #[⟨2, .data⟩], none⟩) (v := ?_) [8] rfl (by kernel_rfl) (fun _ _ _ h => h) hF (fun w hFw => ?_) (by rfl) ?_
  rotate_left
  · ((try dsimp only at hFw); first | (go_simp; done) | (go_simp; with_reducible rfl) | (go_split_ands; go_simp; done))
  try simp only [Act.put, nrmA, nrmB, nrmC]
  refine tk0 (i := 4) (oi := ⟨some 94, .fieldAddr 59 (.tmp 3) 1, 0, "law.go:119", #[], none⟩) (v := ?_) rfl (by kernel_rfl) (fun _ _ _ h => h) (fun _ => hF) (fun w => ?_) (by rfl) ?_
  rotate_left
  · first | (go_simp; done) | (go_simp; with_reducible rfl) | (go_split_ands; go_simp; done)
  try simp only [Act.put, nrmA, nrmB, nrmC]
  refine tk1 (i := 5) (oi := ⟨some 95, .load 3 (.tmp 94), 3, "law.go:119", #[⟨4, .data⟩], none⟩) (v := ?_) [8] rfl (by kernel_rfl) (fun _ _ _ h => h) hF (fun w hFw => ?_) (by rfl) ?_
  rotate_left
  · ((try dsimp only at hFw); first | (go_simp; done) | (go_simp; with_reducible rfl) | (go_split_ands; go_simp; done))
  try simp only [Act.put, nrmA, nrmB, nrmC]
  refine tk0 (i := 6) (oi := ⟨some 96, .fieldAddr 59 (.tmp 3) 3, 0, "law.go:119", #[], none⟩) (v := ?_) rfl (by kernel_rfl) (fun _ _ _ h => h) (fun _ => hF) (fun w => ?_) (by rfl) ?_
  rotate_left
  · first | (go_simp; done) | (go_simp; with_reducible rfl) | (go_split_ands; go_simp; done)
  try simp only [Act.put, nrmA, nrmB, nrmC]
  refine tk1 (i := 7) (oi := ⟨some 97, .load 5 (.tmp 96), 5, "law.go:119", #[⟨6, .data⟩], none⟩) (v := ?_) [8] rfl (by kernel_rfl) (fun _ _ _ h => h) hF (fun w hFw => ?_) (by rfl) ?_
  rotate_left
  · ((try dsimp only at hFw); first | (go_simp; done) | (go_simp; with_reducible rfl) | (go_split_ands; go_simp; done))
  try simp only [Act.put, nrmA, nrmB, nrmC]
  refine wpAnyJ_ready (rs := [8]) (by kernel_rfl) (by simp) ?_
  refine AllJ.cons1 (o := ⟨some 98, .call { callee := .value (.func 19), args := #[.tmp 93, .tmp 95, .tmp 97], argTypes := #[29, 3, 5] }, 0, "law.go:119", #[⟨3, .data⟩, ⟨5, .data⟩, ⟨7, .data⟩], none⟩) rfl (fun Kr hKr => ?_)
  go_simp; go_at_call 19; refine (hB.out _ _ h).mono ?_; rintro e w5 ⟨rfl, h⟩
  refine hKr.out _ _ (fun hJ => ?_) (fun hF => ?_)
  · first
    | exact absurd hJ (by decide)
    | (clear hJ; (try dsimp only); all_goals (exact ⟨h.cells.2.1, (sq_cells (PrS.ownR (A := []) (Q := []) h)).2.1, (sq_cells (PrS.ownR (A := []) (Q := []) h)).2.2.2⟩))
  clear hKr
  try simp only [Act.put, nrmA, nrmB, nrmC]
  refine wpAnyJ_done (by kernel_rfl) ?_ _
  go_wp2_with fail
  refine (hC.out _ _ h).mono ?_
  rintro e w6 ⟨rfl, b', c', lg2, k2, he, h⟩
  replace he := Lib.hid he
  go_wp2_with fail
  go_ret
  rw [he.out]
  exact ⟨rfl, b', c', h.drop⟩
end
end Go.Proofs.YtdolbeonpkanpaaGreatDoor
