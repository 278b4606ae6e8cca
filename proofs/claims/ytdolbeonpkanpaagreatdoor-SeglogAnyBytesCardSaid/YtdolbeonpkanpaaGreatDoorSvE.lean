/- A pair of logs: stood. -/
import Derived.Test.YtdolbeonpkanpaaGreatDoorSvD
set_option linter.unusedVariables false
set_option linter.unusedSimpArgs false
namespace Go.Proofs.YtdolbeonpkanpaaGreatDoor
open Go.RowKit
attribute [local go_sem ↓] Go.wp_at_zero Go.wp_at_succ

section
variable {pb d r b c : Nat} {p : Nm} {lg lg' : Lg} {k k' : Dk} {Rs : List Heaplet} {w0 W w : World} {K : Heaplet} {N : Nat}
/-- A row of the reference's log. -/
theorem PrS.xrow (h : PrS pb d r b c p lg k lg' k' Rs w0 K W) {i : Nat} {e : List UInt8} (hi : lg'.L[i]? = some e) :
    ∃ g ec xa xc, W.cell? ⟨c, 2, none⟩ = some (.slice (some ⟨g, 0, none⟩) lg'.L.length ec) ∧ lg'.L.length ≤ ec ∧ W.cell? ⟨g, i, none⟩ = some (.slice xa e.length xc) ∧ RdBytes W xa e.length xc e := by
  obtain ⟨DH, B, S, E, XH, DR, B2, S2, E2, XH2, h1, h2, h3, ⟨sa, ea, sc, ec, X, hs, hr, hdX, rfl, rfl⟩, s⟩ := h
  obtain ⟨c0, c1, c2, c3, c4, c5⟩ := rlobj_cells (s.own 7 rfl)
  obtain ⟨x, hx, rfl⟩ : ∃ x, X[i]? = some x ∧ x.d = e := by
    rw [← hdX] at hi
    unfold rwD at hi
    rw [List.getElem?_map] at hi
    obtain ⟨x, hx, rfl⟩ := Option.map_eq_some_iff.1 hi
    exact ⟨x, hx, rfl⟩
  obtain ⟨g, rfl, h5, h6⟩ := rows_at hr (s.own 9 rfl) hx
  have hl : X.length = lg'.L.length := by rw [← hdX, rwD_len]
  exact ⟨g, ec, x.a, x.c, c2, by rw [← hl]; exact h6, h5, rw_bytes hx hr.2 (s.own 10 rfl)⟩
theorem entN_at {lg : Lg} {i : Nat} {e : List UInt8} (h : lg.L[i]? = some e) : entN lg ((i : Int) + 1) = (e, 0) := by
  obtain ⟨hi, he⟩ := List.getElem?_eq_some_iff.1 h
  unfold entN
  rw [if_neg (by omega)]
  have e2 : ((i : Int) + 1).toNat - 1 = i := by omega
  rw [e2, List.getD_eq_getElem?_getD, h]
  rfl
theorem pq_names (h : PrS pb d r b c p lg k lg' k' Rs w0 K W) (hl : lg.Ok) : Calls Tryz.prog 34 #[pt b] W (NamesPost (lnames p lg) W) := by
  obtain ⟨DH, B, S, E, XH, DR, B2, S2, E2, XH2, h1, h2, h3, h4, s⟩ := h
  exact lnames_any b d p lg B S E XH W W _ h3 DH (s.self _ [DH, B, S, E, XH] _) hl
theorem pqr_names (h : PrS pb d r b c p lg k lg' k' Rs w0 K W) (hl : lg'.Ok) (hp : p.length ≤ 1000) : Calls Tryz.prog 64 #[pt c] W (NamesPost (lnames p lg') W) := by
  obtain ⟨DH, B, S, E, XH, DR, B2, S2, E2, XH2, h1, h2, h3, h4, s⟩ := h
  have s' : Sp w0 K W (([[(pb, prObj d r (pt b) (pt c))]] ++ [DH, B, S, E, XH]) ++ ([DR, B2, S2, E2, XH2] ++ Rs)) := by simpa using s
  exact rlnames_any c r p lg' B2 S2 E2 XH2 W W _ h4 DR (s'.self _ [DR, B2, S2, E2, XH2] _) hl hp
theorem pq_dnames (h : PrS pb d r b c p lg k lg' k' Rs w0 K W) (hk : k.Ok) : Calls Tryz.prog 51 #[pt d] W (NamesPost (k.L.map Prod.fst) W) := by
  obtain ⟨DH, B, S, E, XH, DR, B2, S2, E2, XH2, h1, h2, h3, h4, s⟩ := h
  exact dnames d k DH W h1 hk (s.own 1 rfl)
theorem pqr_dnames (h : PrS pb d r b c p lg k lg' k' Rs w0 K W) (hk : k'.Ok) : Calls Tryz.prog 55 #[pt r] W (NamesPost (k'.L.map Prod.fst) W) := by
  obtain ⟨DH, B, S, E, XH, DR, B2, S2, E2, XH2, h1, h2, h3, h4, s⟩ := h
  exact rnames r k' DR W h2 hk (s.own 6 rfl)
theorem PrS.own3 {Q : List Heaplet} {G0 G1 G2 G : Heaplet} (h : PrS pb d r b c p lg k lg' k' (G0 :: G1 :: G2 :: G :: Q) w0 K W) : Own W G := PrS.ownR (A := [G0, G1, G2]) h
theorem PrS.keep1 {Q : List Heaplet} {G : Heaplet} (h : PrS pb d r b c p lg k lg' k' (G :: Q) w0 K W) : PrS pb d r b c p lg k lg' k' [G] w0 K W := by
  obtain ⟨DH, B, S, E, XH, DR, B2, S2, E2, XH2, h1, h2, h3, h4, s⟩ := h
  refine ⟨DH, B, S, E, XH, DR, B2, S2, E2, XH2, h1, h2, h3, h4, ?_⟩
  unfold Sp at s ⊢
  have e : ([[(pb, prObj d r (pt b) (pt c))]] ++ ([DH, B, S, E, XH] ++ ([DR, B2, S2, E2, XH2] ++ (G :: Q)))).flatten = ([[(pb, prObj d r (pt b) (pt c))]] ++ ([DH, B, S, E, XH] ++ ([DR, B2, S2, E2, XH2] ++ [G]))).flatten ++ Q.flatten := by simp
  rw [e] at s
  exact s.forget
def StdRel (pb d r b c : Nat) (p : Nm) (lg : Lg) (k : Dk) (Rs : List Heaplet) (w0 : World) (K : Heaplet) (n : Nat) (v : Value) (wr : World) : Prop := ∃ i : Nat, v = iv i ∧ i ≤ n ∧ PrS pb d r b c p lg k lg k Rs w0 K wr
set_option maxHeartbeats 1000000 in
set_option maxRecDepth 100000 in
theorem stood_any (h : PrS pb d r b c [97] lg k lg k [] w0 K w) (hI : LInv N [97] lg k) (hN : N ≤ 99999999) :
    Calls Tryz.prog 27 #[pt pb] w fun e w' => e = .returned (.bool true) ∧ PrS pb d r b c [97] lg k lg k [] w0 K w' := by
  have hk := hI.dk
  have hl := hI.ok (by omega)
  have hmn := hI.many
  have hmi : (lg.L.length : Int) ≤ 99999999 := by omega
  have hA := Lib.hid (fun W Rs (h : PrS pb d r b c [97] lg k lg k Rs w0 K W) => ps_next h hl)
  have hB := Lib.hid (fun W Rs (h : PrS pb d r b c [97] lg k lg k Rs w0 K W) => pq_names h hl)
  have hC := Lib.hid (fun W Rs (h : PrS pb d r b c [97] lg k lg k Rs w0 K W) => pqr_names h hl (by decide))
  have hD := Lib.hid (fun W Rs (h : PrS pb d r b c [97] lg k lg k Rs w0 K W) => pq_dnames h hk)
  have hE := Lib.hid (fun W Rs (h : PrS pb d r b c [97] lg k lg k Rs w0 K W) => pqr_dnames h hk)
  have hEy := Lib.hid (fun W Rs n (h : PrS pb d r b c [97] lg k lg k Rs w0 K W) => ps_entry h hl n)
  have hG := Lib.hid (fun W Rs nm (h : PrS pb d r b c [97] lg k lg k Rs w0 K W) => ps_dread h hk nm)
  have hH := Lib.hid (fun W Rs nm (h : PrS pb d r b c [97] lg k lg k Rs w0 K W) => psr_dread h hk nm)
  obtain ⟨ns, hns⟩ : ∃ ns, ns = lnames [97] lg := ⟨_, rfl⟩
  obtain ⟨fs, hfs⟩ : ∃ fs, fs = k.L.map Prod.fst := ⟨_, rfl⟩
  obtain ⟨n, hn⟩ : ∃ n, n = lg.L.length := ⟨_, rfl⟩
  have hfl : fs.length ≤ 4096 := by rw [hfs, List.length_map]; exact hk.many
  rw [← hns] at hB hC
  rw [← hfs] at hD hE
  rw [← hn] at hA hmi
  have htx := Lib.hid (fun (L : List Nm) (a1 a2 : Option Addr) (c1 c2 : Nat) (H1 H2 : Heaplet) (W : World) (r1 : SlRep 9 1 a1 L.length c1 (L.map strV) H1) (r2 : SlRep 9 1 a2 L.length c2 (L.map strV) H2) (o1 : Own W H1) (o2 : Own W H2) =>
    (texts_any a1 a2 L.length c1 L.length c2 L L W (r1.rdNs o1) (r2.rdNs o2)).mono (R' := fun e w' => e = .returned (.bool true) ∧ Step W [] w' []) (fun e w' hq => ⟨by rw [hq.1, decide_eq_true rfl], hq.2⟩))
  have q0 : IntKind.i64.wrap ((n : Int) + 1) = (n : Int) + 1 := IntWalk.i64_in _ (by omega)
  have q1 : ((n : Int) + 1 != (n : Int) + 1) = false := by simp
  have q2 : ((lg.synced : Int) + 1 != (lg.synced : Int) + 1) = false := by simp
  have hxc : Hid (∀ W Rs, PrS pb d r b c [97] lg k lg k Rs w0 K W → ∃ ea ec, W.cell? ⟨c, 2, none⟩ = some (.slice ea n ec) ∧ W.cell? ⟨c, 4, none⟩ = some (iv (lg.synced + 1))) := fun W Rs h => by
    obtain ⟨ea, ec, sa, sc, x1, _, x2, _⟩ := h.xcells
    rw [← hn] at x1
    exact ⟨ea, ec, x1, x2⟩
  have hL : Hid (∀ i, i < n → ∃ e, lg.L[i]? = some e ∧ e.length ≤ 1073741824) := fun i hi => ⟨_, List.getElem?_eq_getElem (by rw [← hn]; exact hi), hl.ents _ (List.getElem_mem _)⟩
  have hR0 := hl.ents
  have hk0 := Lib.hid hk
  clear hI hmn hl hk hN
  replace hn := Lib.hid hn
  replace hns := Lib.hid hns
  replace hfs := Lib.hid hfs
  replace hR0 := Lib.hid hR0
  obtain ⟨z0, z1, z2, z3⟩ := h.cells
  go_enter Tryz.func27, Tryz.ntmps27
  go_wp2_with fail
  refine (hA.out _ _ h).mono ?_
  rintro e w1 ⟨rfl, h⟩
  clear z0 z1 z2 z3
  go_upto_region 2 with fail
  replace h := h.drew
  obtain ⟨ea, ec, hx2, hx4⟩ := hxc.out _ _ h
  obtain ⟨z0, z1, z2, z3⟩ := h.cells
  refine wp_region_J 49 (fun w' => w'.cell? ⟨pb, 0, none⟩ = some (pt d) ∧ w'.cell? ⟨pb, 1, none⟩ = some (pt r) ∧ w'.cell? ⟨pb, 2, none⟩ = some (pt b) ∧ w'.cell? ⟨pb, 3, none⟩ = some (pt c) ∧ w'.cell? ⟨c, 2, none⟩ = some (.slice ea n ec) ∧ w'.cell? ⟨c, 4, none⟩ = some (iv (lg.synced + 1))) (by kernel_rfl) ?_ (fun hF => ?_)
  · (try dsimp only)
    all_goals (exact ⟨h.cells.1, h.cells.2.1, h.cells.2.2.1, h.cells.2.2.2, hx2, hx4⟩)
  refine tk0 (i := 0) (oi := ⟨some 22, .move (.tmp 3), 3, "law.go:145", #[], none⟩) (v := ?_) rfl (by kernel_rfl) (fun _ _ _ h => h) (fun _ => hF) (fun w => ?_) (by rfl) ?_
  rotate_left
  · first | (go_simp; done) | (go_simp; with_reducible rfl) | (go_split_ands; go_simp; done)
  try simp only [Act.put, nrmA, nrmB, nrmC]
  refine tk0 (i := 1) (oi := ⟨some 23, .move (.tmp 0), 25, "law.go:145", #[], none⟩) (v := ?_) rfl (by kernel_rfl) (fun _ _ _ h => h) (fun _ => hF) (fun w => ?_) (by rfl) ?_
  rotate_left
  · first | (go_simp; done) | (go_simp; with_reducible rfl) | (go_split_ands; go_simp; done)
  try simp only [Act.put, nrmA, nrmB, nrmC]
  refine tk0 (i := 2) (oi := ⟨some 24, .nilCheck (.tmp 23), 0, "law.go:145", #[⟨1, .data⟩], none⟩) (v := ?_) rfl (by kernel_rfl) (fun _ _ _ h => h) (fun _ => hF) (fun w => ?_) (by rfl) ?_
  rotate_left
  · first | (go_simp; done) | (go_simp; with_reducible rfl) | (go_split_ands; go_simp; done)
  try simp only [Act.put, nrmA, nrmB, nrmC]
  refine tk0 (i := 3) (oi := ⟨some 25, .fieldAddr 33 (.tmp 24) 3, 0, "law.go:145", #[⟨2, .data⟩], none⟩) (v := ?_) rfl (by kernel_rfl) (fun _ _ _ h => h) (fun _ => hF) (fun w => ?_) (by rfl) ?_
  rotate_left
  · first | (go_simp; done) | (go_simp; with_reducible rfl) | (go_split_ands; go_simp; done)
  try simp only [Act.put, nrmA, nrmB, nrmC]
  refine tk1 (i := 4) (oi := ⟨some 26, .load 31 (.tmp 25), 31, "law.go:145", #[⟨3, .data⟩], none⟩) (v := ?_) [5, 6, 7, 8, 9, 10, 11, 22, 33, 36, 49] rfl (by kernel_rfl) (fun _ _ _ h => h) hF (fun w hFw => ?_) (by rfl) ?_
  rotate_left
  · ((try dsimp only at hFw); first | (go_simp; done) | (go_simp; with_reducible rfl) | (go_split_ands; go_simp; done))
  try simp only [Act.put, nrmA, nrmB, nrmC]
  refine tk0 (i := 5) (oi := ⟨some 27, .nilCheck (.tmp 26), 0, "law.go:145", #[⟨4, .data⟩], none⟩) (v := ?_) rfl (by kernel_rfl) (fun _ _ _ h => h) (fun _ => hF) (fun w => ?_) (by rfl) ?_
  rotate_left
  · first | (go_simp; done) | (go_simp; with_reducible rfl) | (go_split_ands; go_simp; done)
  try simp only [Act.put, nrmA, nrmB, nrmC]
  refine tk0 (i := 6) (oi := ⟨some 28, .fieldAddr 53 (.tmp 27) 2, 0, "law.go:145", #[⟨5, .data⟩], none⟩) (v := ?_) rfl (by kernel_rfl) (fun _ _ _ h => h) (fun _ => hF) (fun w => ?_) (by rfl) ?_
  rotate_left
  · first | (go_simp; done) | (go_simp; with_reducible rfl) | (go_split_ands; go_simp; done)
  try simp only [Act.put, nrmA, nrmB, nrmC]
  refine tk1 (i := 7) (oi := ⟨some 29, .load 22 (.tmp 28), 22, "law.go:145", #[⟨6, .data⟩], none⟩) (v := ?_) [8, 9, 10, 11, 22, 33, 36, 49] rfl (by kernel_rfl) (fun _ _ _ h => h) hF (fun w hFw => ?_) (by rfl) ?_
  rotate_left
  · ((try dsimp only at hFw); first | (go_simp; done) | (go_simp; with_reducible rfl) | (go_split_ands; go_simp; done))
  try simp only [Act.put, nrmA, nrmB, nrmC]
  refine tk1 (i := 8) (oi := ⟨some 30, .call { callee := .builtin .len, args := #[.tmp 29], argTypes := #[22] }, 3, "law.go:145", #[⟨7, .data⟩], none⟩) (v := ?_) [9, 10, 11, 22, 33, 36, 49] rfl (by kernel_rfl) (fun _ _ _ h => h) hF (fun w hFw => ?_) (by rfl) ?_
  rotate_left
  · ((try dsimp only at hFw); first | (go_simp; done) | (go_simp; with_reducible rfl) | (go_split_ands; go_simp; done))
  try simp only [Act.put, nrmA, nrmB, nrmC]
  refine tk0 (i := 9) (oi := ⟨some 31, .binOp .add 3 (.tmp 30) (.const (.int .i64 1)) 3, 3, "law.go:145", #[⟨8, .data⟩], none⟩) (v := ?_) rfl (by kernel_rfl) (fun _ _ _ h => h) (fun _ => hF) (fun w => ?_) (by rfl) ?_
  rotate_left
  · first | (go_simp; done) | (go_simp; with_reducible rfl) | (go_split_ands; go_simp; done)
  try simp only [Act.put, nrmA, nrmB, nrmC]
  refine tk0 (i := 10) (oi := ⟨some 32, .binOp .neq 3 (.tmp 22) (.tmp 31) 3, 4, "law.go:145", #[⟨0, .data⟩, ⟨9, .data⟩], none⟩) (v := ?_) rfl (by kernel_rfl) (fun _ _ _ h => h) (fun _ => hF) (fun w => ?_) (by rfl) ?_
  rotate_left
  · first | (go_simp; done) | (go_simp; with_reducible rfl) | (go_split_ands; go_simp; done)
  try simp only [Act.put, nrmA, nrmB, nrmC]
  refine tk0 (i := 11) (oi := ⟨some 33, .move (.tmp 32), 4, "law.go:145", #[⟨10, .data⟩], none⟩) (v := ?_) rfl (by kernel_rfl) (fun _ _ _ h => h) (fun _ => hF) (fun w => ?_) (by rfl) ?_
  rotate_left
  · first | (go_simp; done) | (go_simp; with_reducible rfl) | (go_split_ands; go_simp; done)
  try simp only [Act.put, nrmA, nrmB, nrmC]
  first
  | refine sk0 (i := 12) (oi := ⟨some 34, .move (.tmp 4), 3, "law.go:145", #[⟨11, .guard⟩], some (11, false)⟩) rfl (by kernel_rfl) (fun _ _ _ h => h) (fun _ => hF) (by rfl) ?_
  | (refine tk0 (i := 12) (oi := ⟨some 34, .move (.tmp 4), 3, "law.go:145", #[⟨11, .guard⟩], some (11, false)⟩) (v := ?_) rfl (by kernel_rfl) (fun _ _ _ h => h) (fun _ => hF) (fun w => ?_) (by rfl) ?_
     rotate_left
     · first | (go_simp; done) | (go_simp; with_reducible rfl) | (go_split_ands; go_simp; done))
  try simp only [Act.put, nrmA, nrmB, nrmC]
  first
  | refine sk0 (i := 13) (oi := ⟨some 35, .move (.tmp 0), 25, "law.go:145", #[⟨11, .guard⟩], some (11, false)⟩) rfl (by kernel_rfl) (fun _ _ _ h => h) (fun _ => hF) (by rfl) ?_
  | (refine tk0 (i := 13) (oi := ⟨some 35, .move (.tmp 0), 25, "law.go:145", #[⟨11, .guard⟩], some (11, false)⟩) (v := ?_) rfl (by kernel_rfl) (fun _ _ _ h => h) (fun _ => hF) (fun w => ?_) (by rfl) ?_
     rotate_left
     · first | (go_simp; done) | (go_simp; with_reducible rfl) | (go_split_ands; go_simp; done))
  try simp only [Act.put, nrmA, nrmB, nrmC]
  first
  | refine sk0 (i := 14) (oi := ⟨some 36, .nilCheck (.tmp 35), 0, "law.go:145", #[⟨13, .data⟩, ⟨11, .guard⟩], some (11, false)⟩) rfl (by kernel_rfl) (fun _ _ _ h => h) (fun _ => hF) (by rfl) ?_
  | (refine tk0 (i := 14) (oi := ⟨some 36, .nilCheck (.tmp 35), 0, "law.go:145", #[⟨13, .data⟩, ⟨11, .guard⟩], some (11, false)⟩) (v := ?_) rfl (by kernel_rfl) (fun _ _ _ h => h) (fun _ => hF) (fun w => ?_) (by rfl) ?_
     rotate_left
     · first | (go_simp; done) | (go_simp; with_reducible rfl) | (go_split_ands; go_simp; done))
  try simp only [Act.put, nrmA, nrmB, nrmC]
  first
  | refine sk0 (i := 15) (oi := ⟨some 37, .fieldAddr 33 (.tmp 36) 3, 0, "law.go:145", #[⟨14, .data⟩, ⟨11, .guard⟩], some (11, false)⟩) rfl (by kernel_rfl) (fun _ _ _ h => h) (fun _ => hF) (by rfl) ?_
  | (refine tk0 (i := 15) (oi := ⟨some 37, .fieldAddr 33 (.tmp 36) 3, 0, "law.go:145", #[⟨14, .data⟩, ⟨11, .guard⟩], some (11, false)⟩) (v := ?_) rfl (by kernel_rfl) (fun _ _ _ h => h) (fun _ => hF) (fun w => ?_) (by rfl) ?_
     rotate_left
     · first | (go_simp; done) | (go_simp; with_reducible rfl) | (go_split_ands; go_simp; done))
  try simp only [Act.put, nrmA, nrmB, nrmC]
  first
  | refine sk0 (i := 16) (oi := ⟨some 38, .load 31 (.tmp 37), 31, "law.go:145", #[⟨15, .data⟩, ⟨11, .guard⟩], some (11, false)⟩) rfl (by kernel_rfl) (fun _ _ _ h => h) (fun _ => hF) (by rfl) ?_
  | (refine tk1 (i := 16) (oi := ⟨some 38, .load 31 (.tmp 37), 31, "law.go:145", #[⟨15, .data⟩, ⟨11, .guard⟩], some (11, false)⟩) (v := ?_) [17, 18, 19, 20, 21, 22, 33, 36, 49] rfl (by kernel_rfl) (fun _ _ _ h => h) hF (fun w hFw => ?_) (by rfl) ?_
     rotate_left
     · ((try dsimp only at hFw); first | (go_simp; done) | (go_simp; with_reducible rfl) | (go_split_ands; go_simp; done)))
  try simp only [Act.put, nrmA, nrmB, nrmC]
  first
  | refine sk0 (i := 17) (oi := ⟨some 39, .nilCheck (.tmp 38), 0, "law.go:145", #[⟨16, .data⟩, ⟨11, .guard⟩], some (11, false)⟩) rfl (by kernel_rfl) (fun _ _ _ h => h) (fun _ => hF) (by rfl) ?_
  | (refine tk0 (i := 17) (oi := ⟨some 39, .nilCheck (.tmp 38), 0, "law.go:145", #[⟨16, .data⟩, ⟨11, .guard⟩], some (11, false)⟩) (v := ?_) rfl (by kernel_rfl) (fun _ _ _ h => h) (fun _ => hF) (fun w => ?_) (by rfl) ?_
     rotate_left
     · first | (go_simp; done) | (go_simp; with_reducible rfl) | (go_split_ands; go_simp; done))
  try simp only [Act.put, nrmA, nrmB, nrmC]
  first
  | refine sk0 (i := 18) (oi := ⟨some 40, .fieldAddr 53 (.tmp 39) 4, 0, "law.go:145", #[⟨17, .data⟩, ⟨11, .guard⟩], some (11, false)⟩) rfl (by kernel_rfl) (fun _ _ _ h => h) (fun _ => hF) (by rfl) ?_
  | (refine tk0 (i := 18) (oi := ⟨some 40, .fieldAddr 53 (.tmp 39) 4, 0, "law.go:145", #[⟨17, .data⟩, ⟨11, .guard⟩], some (11, false)⟩) (v := ?_) rfl (by kernel_rfl) (fun _ _ _ h => h) (fun _ => hF) (fun w => ?_) (by rfl) ?_
     rotate_left
     · first | (go_simp; done) | (go_simp; with_reducible rfl) | (go_split_ands; go_simp; done))
  try simp only [Act.put, nrmA, nrmB, nrmC]
  first
  | refine sk0 (i := 19) (oi := ⟨some 41, .load 3 (.tmp 40), 3, "law.go:145", #[⟨18, .data⟩, ⟨11, .guard⟩], some (11, false)⟩) rfl (by kernel_rfl) (fun _ _ _ h => h) (fun _ => hF) (by rfl) ?_
  | (refine tk1 (i := 19) (oi := ⟨some 41, .load 3 (.tmp 40), 3, "law.go:145", #[⟨18, .data⟩, ⟨11, .guard⟩], some (11, false)⟩) (v := ?_) [20, 21, 22, 33, 36, 49] rfl (by kernel_rfl) (fun _ _ _ h => h) hF (fun w hFw => ?_) (by rfl) ?_
     rotate_left
     · ((try dsimp only at hFw); first | (go_simp; done) | (go_simp; with_reducible rfl) | (go_split_ands; go_simp; done)))
  try simp only [Act.put, nrmA, nrmB, nrmC]
  first
  | refine sk0 (i := 20) (oi := ⟨some 42, .binOp .neq 3 (.tmp 34) (.tmp 41) 3, 4, "law.go:145", #[⟨12, .data⟩, ⟨19, .data⟩, ⟨11, .guard⟩], some (11, false)⟩) rfl (by kernel_rfl) (fun _ _ _ h => h) (fun _ => hF) (by rfl) ?_
  | (refine tk0 (i := 20) (oi := ⟨some 42, .binOp .neq 3 (.tmp 34) (.tmp 41) 3, 4, "law.go:145", #[⟨12, .data⟩, ⟨19, .data⟩, ⟨11, .guard⟩], some (11, false)⟩) (v := ?_) rfl (by kernel_rfl) (fun _ _ _ h => h) (fun _ => hF) (fun w => ?_) (by rfl) ?_
     rotate_left
     · first | (go_simp; done) | (go_simp; with_reducible rfl) | (go_split_ands; go_simp; done))
  try simp only [Act.put, nrmA, nrmB, nrmC]
  refine tk0 (i := 21) (oi := ⟨some 43, .pick (.tmp 33) (.const (.bool true)) (.tmp 42), 4, "law.go:145", #[⟨11, .data⟩, ⟨20, .data⟩], none⟩) (v := ?_) rfl (by kernel_rfl) (fun _ _ _ h => h) (fun _ => hF) (fun w => ?_) (by rfl) ?_
  rotate_left
  · first | (go_simp; done) | (go_simp; with_reducible rfl) | (go_split_ands; go_simp; done)
  try simp only [Act.put, nrmA, nrmB, nrmC]
  refine tk0 (i := 22) (oi := ⟨some 44, .move (.tmp 43), 4, "law.go:145", #[⟨21, .data⟩, ⟨11, .chain⟩], none⟩) (v := ?_) rfl (by kernel_rfl) (fun _ _ _ h => h) (fun _ => hF) (fun w => ?_) (by rfl) ?_
  rotate_left
  · first | (go_simp; done) | (go_simp; with_reducible rfl) | (go_split_ands; go_simp; done)
  try simp only [Act.put, nrmA, nrmB, nrmC]
  first
  | refine sk0 (i := 23) (oi := ⟨some 45, .move (.tmp 0), 25, "law.go:145", #[⟨22, .guard⟩], some (22, false)⟩) rfl (by kernel_rfl) (fun _ _ _ h => h) (fun _ => hF) (by rfl) ?_
  | (refine tk0 (i := 23) (oi := ⟨some 45, .move (.tmp 0), 25, "law.go:145", #[⟨22, .guard⟩], some (22, false)⟩) (v := ?_) rfl (by kernel_rfl) (fun _ _ _ h => h) (fun _ => hF) (fun w => ?_) (by rfl) ?_
     rotate_left
     · first | (go_simp; done) | (go_simp; with_reducible rfl) | (go_split_ands; go_simp; done))
  try simp only [Act.put, nrmA, nrmB, nrmC]
  first
  | refine sk0 (i := 24) (oi := ⟨some 46, .nilCheck (.tmp 45), 0, "law.go:145", #[⟨23, .data⟩, ⟨22, .guard⟩], some (22, false)⟩) rfl (by kernel_rfl) (fun _ _ _ h => h) (fun _ => hF) (by rfl) ?_
  | (refine tk0 (i := 24) (oi := ⟨some 46, .nilCheck (.tmp 45), 0, "law.go:145", #[⟨23, .data⟩, ⟨22, .guard⟩], some (22, false)⟩) (v := ?_) rfl (by kernel_rfl) (fun _ _ _ h => h) (fun _ => hF) (fun w => ?_) (by rfl) ?_
     rotate_left
     · first | (go_simp; done) | (go_simp; with_reducible rfl) | (go_split_ands; go_simp; done))
  try simp only [Act.put, nrmA, nrmB, nrmC]
  first
  | refine sk0 (i := 25) (oi := ⟨some 47, .fieldAddr 33 (.tmp 46) 2, 0, "law.go:145", #[⟨24, .data⟩, ⟨22, .guard⟩], some (22, false)⟩) rfl (by kernel_rfl) (fun _ _ _ h => h) (fun _ => hF) (by rfl) ?_
  | (refine tk0 (i := 25) (oi := ⟨some 47, .fieldAddr 33 (.tmp 46) 2, 0, "law.go:145", #[⟨24, .data⟩, ⟨22, .guard⟩], some (22, false)⟩) (v := ?_) rfl (by kernel_rfl) (fun _ _ _ h => h) (fun _ => hF) (fun w => ?_) (by rfl) ?_
     rotate_left
     · first | (go_simp; done) | (go_simp; with_reducible rfl) | (go_split_ands; go_simp; done))
  try simp only [Act.put, nrmA, nrmB, nrmC]
  first
  | refine sk0 (i := 26) (oi := ⟨some 48, .load 30 (.tmp 47), 30, "law.go:145", #[⟨25, .data⟩, ⟨22, .guard⟩], some (22, false)⟩) rfl (by kernel_rfl) (fun _ _ _ h => h) (fun _ => hF) (by rfl) ?_
  | (refine tk1 (i := 26) (oi := ⟨some 48, .load 30 (.tmp 47), 30, "law.go:145", #[⟨25, .data⟩, ⟨22, .guard⟩], some (22, false)⟩) (v := ?_) [27, 33, 36, 49] rfl (by kernel_rfl) (fun _ _ _ h => h) hF (fun w hFw => ?_) (by rfl) ?_
     rotate_left
     · ((try dsimp only at hFw); first | (go_simp; done) | (go_simp; with_reducible rfl) | (go_split_ands; go_simp; done)))
  try simp only [Act.put, nrmA, nrmB, nrmC]
  first
  | refine sk0 (i := 28) (oi := ⟨some 50, .move (.tmp 0), 25, "law.go:145", #[⟨22, .guard⟩], some (22, false)⟩) rfl (by kernel_rfl) (fun _ _ _ h => h) (fun _ => hF) (by rfl) ?_
  | (refine tk0 (i := 28) (oi := ⟨some 50, .move (.tmp 0), 25, "law.go:145", #[⟨22, .guard⟩], some (22, false)⟩) (v := ?_) rfl (by kernel_rfl) (fun _ _ _ h => h) (fun _ => hF) (fun w => ?_) (by rfl) ?_
     rotate_left
     · first | (go_simp; done) | (go_simp; with_reducible rfl) | (go_split_ands; go_simp; done))
  try simp only [Act.put, nrmA, nrmB, nrmC]
  first
  | refine sk0 (i := 29) (oi := ⟨some 51, .nilCheck (.tmp 50), 0, "law.go:145", #[⟨28, .data⟩, ⟨22, .guard⟩], some (22, false)⟩) rfl (by kernel_rfl) (fun _ _ _ h => h) (fun _ => hF) (by rfl) ?_
  | (refine tk0 (i := 29) (oi := ⟨some 51, .nilCheck (.tmp 50), 0, "law.go:145", #[⟨28, .data⟩, ⟨22, .guard⟩], some (22, false)⟩) (v := ?_) rfl (by kernel_rfl) (fun _ _ _ h => h) (fun _ => hF) (fun w => ?_) (by rfl) ?_
     rotate_left
     · first | (go_simp; done) | (go_simp; with_reducible rfl) | (go_split_ands; go_simp; done))
  try simp only [Act.put, nrmA, nrmB, nrmC]
  first
  | refine sk0 (i := 30) (oi := ⟨some 52, .fieldAddr 33 (.tmp 51) 3, 0, "law.go:145", #[⟨29, .data⟩, ⟨22, .guard⟩], some (22, false)⟩) rfl (by kernel_rfl) (fun _ _ _ h => h) (fun _ => hF) (by rfl) ?_
  | (refine tk0 (i := 30) (oi := ⟨some 52, .fieldAddr 33 (.tmp 51) 3, 0, "law.go:145", #[⟨29, .data⟩, ⟨22, .guard⟩], some (22, false)⟩) (v := ?_) rfl (by kernel_rfl) (fun _ _ _ h => h) (fun _ => hF) (fun w => ?_) (by rfl) ?_
     rotate_left
     · first | (go_simp; done) | (go_simp; with_reducible rfl) | (go_split_ands; go_simp; done))
  try simp only [Act.put, nrmA, nrmB, nrmC]
  first
  | refine sk0 (i := 31) (oi := ⟨some 53, .load 31 (.tmp 52), 31, "law.go:145", #[⟨30, .data⟩, ⟨22, .guard⟩], some (22, false)⟩) rfl (by kernel_rfl) (fun _ _ _ h => h) (fun _ => hF) (by rfl) ?_
  | (refine tk1 (i := 31) (oi := ⟨some 53, .load 31 (.tmp 52), 31, "law.go:145", #[⟨30, .data⟩, ⟨22, .guard⟩], some (22, false)⟩) (v := ?_) [32, 33, 36, 49] rfl (by kernel_rfl) (fun _ _ _ h => h) hF (fun w hFw => ?_) (by rfl) ?_
     rotate_left
     · ((try dsimp only at hFw); first | (go_simp; done) | (go_simp; with_reducible rfl) | (go_split_ands; go_simp; done)))
  try simp only [Act.put, nrmA, nrmB, nrmC]
  refine wpAnyJ_ready (rs := [27]) (by kernel_rfl) (by simp) ?_
  refine AllJ.cons1 (o := ⟨some 49, .call { callee := .value (.func 34), args := #[.tmp 48], argTypes := #[30] }, 70, "law.go:145", #[⟨26, .data⟩, ⟨22, .chain⟩, ⟨22, .guard⟩], some (22, false)⟩) rfl (fun Kr hKr => ?_)
  go_simp; go_at_call 34; refine (hB.out _ _ h).mono ?_; rintro e w4 ⟨a1, c1, N1, rfl, r1, hst⟩
  have h := h.fresh hst
  simp only [List.cons_append, List.nil_append] at h
  have hx2 := hst.keepCell hx2
  have hx4 := hst.keepCell hx4
  refine hKr.out _ _ (fun hJ => ?_) (fun hF => ?_)
  · first
    | exact absurd hJ (by decide)
    | (clear hJ; (try dsimp only); all_goals (exact ⟨h.cells.1, h.cells.2.1, h.cells.2.2.1, h.cells.2.2.2, hx2, hx4⟩))
  clear hKr
  try simp only [Act.put, nrmA, nrmB, nrmC]
  refine wpAnyJ_ready (rs := [32]) (by kernel_rfl) (by simp) ?_
  refine AllJ.cons1 (o := ⟨some 54, .call { callee := .value (.func 64), args := #[.tmp 53], argTypes := #[31] }, 70, "law.go:145", #[⟨31, .data⟩, ⟨27, .chain⟩, ⟨22, .guard⟩], some (22, false)⟩) rfl (fun Kr hKr => ?_)
  go_simp; go_at_call 64; refine (hC.out _ _ h).mono ?_; rintro e w5 ⟨a2, c2, N2, rfl, r2, hst⟩
  have h := h.fresh hst
  simp only [List.cons_append, List.nil_append] at h
  have hx2 := hst.keepCell hx2
  have hx4 := hst.keepCell hx4
  refine hKr.out _ _ (fun hJ => ?_) (fun hF => ?_)
  · first
    | exact absurd hJ (by decide)
    | (clear hJ; (try dsimp only); all_goals (exact ⟨h.cells.1, h.cells.2.1, h.cells.2.2.1, h.cells.2.2.2, hx2, hx4⟩))
  clear hKr
  try simp only [Act.put, nrmA, nrmB, nrmC]
  refine wpAnyJ_ready (rs := [33]) (by kernel_rfl) (by simp) ?_
  refine AllJ.cons1 (o := ⟨some 55, .call { callee := .value (.func 36), args := #[.tmp 49, .tmp 54], argTypes := #[70, 70] }, 4, "law.go:145", #[⟨27, .data⟩, ⟨32, .data⟩, ⟨32, .chain⟩, ⟨22, .guard⟩], some (22, false)⟩) rfl (fun Kr hKr => ?_)
  go_simp; go_at_call 36; refine (htx.out ns a1 a2 c1 c2 N1 N2 _ r1 r2 (PrS.own0 h) (PrS.own1 h)).mono ?_; rintro e w6 ⟨rfl, hst⟩
  have h := h.still hst
  have hx2 := hst.keepCell hx2
  have hx4 := hst.keepCell hx4
  refine hKr.out _ _ (fun hJ => ?_) (fun hF => ?_)
  · first
    | exact absurd hJ (by decide)
    | (clear hJ; (try dsimp only); all_goals (exact ⟨h.cells.1, h.cells.2.1, h.cells.2.2.1, h.cells.2.2.2, hx2, hx4⟩))
  clear hKr
  try simp only [Act.put, nrmA, nrmB, nrmC]
  first
  | refine sk0 (i := 34) (oi := ⟨some 56, .unOp .not 4 (.tmp 55), 4, "law.go:145", #[⟨33, .data⟩, ⟨22, .guard⟩], some (22, false)⟩) rfl (by kernel_rfl) (fun _ _ _ h => h) (fun _ => hF (by kernel_rfl)) (by rfl) ?_
  | (refine tk0 (i := 34) (oi := ⟨some 56, .unOp .not 4 (.tmp 55), 4, "law.go:145", #[⟨33, .data⟩, ⟨22, .guard⟩], some (22, false)⟩) (v := ?_) rfl (by kernel_rfl) (fun _ _ _ h => h) (fun _ => hF (by kernel_rfl)) (fun w => ?_) (by rfl) ?_
     rotate_left
     · first | (go_simp; done) | (go_simp; with_reducible rfl) | (go_split_ands; go_simp; done))
  try simp only [Act.put, nrmA, nrmB, nrmC]
  refine tk0 (i := 35) (oi := ⟨some 57, .pick (.tmp 44) (.const (.bool true)) (.tmp 56), 4, "law.go:145", #[⟨22, .data⟩, ⟨34, .data⟩], none⟩) (v := ?_) rfl (by kernel_rfl) (fun _ _ _ h => h) (fun _ => hF (by kernel_rfl)) (fun w => ?_) (by rfl) ?_
  rotate_left
  · first | (go_simp; done) | (go_simp; with_reducible rfl) | (go_split_ands; go_simp; done)
  try simp only [Act.put, nrmA, nrmB, nrmC]
  refine tk0 (i := 36) (oi := ⟨some 58, .move (.tmp 57), 4, "law.go:145", #[⟨35, .data⟩, ⟨33, .chain⟩], none⟩) (v := ?_) rfl (by kernel_rfl) (fun _ _ _ h => h) (fun _ => hF (by kernel_rfl)) (fun w => ?_) (by rfl) ?_
  rotate_left
  · first | (go_simp; done) | (go_simp; with_reducible rfl) | (go_split_ands; go_simp; done)
  try simp only [Act.put, nrmA, nrmB, nrmC]
  first
  | refine sk0 (i := 37) (oi := ⟨some 59, .move (.tmp 0), 25, "law.go:145", #[⟨36, .guard⟩], some (36, false)⟩) rfl (by kernel_rfl) (fun _ _ _ h => h) (fun _ => hF (by kernel_rfl)) (by rfl) ?_
  | (refine tk0 (i := 37) (oi := ⟨some 59, .move (.tmp 0), 25, "law.go:145", #[⟨36, .guard⟩], some (36, false)⟩) (v := ?_) rfl (by kernel_rfl) (fun _ _ _ h => h) (fun _ => hF (by kernel_rfl)) (fun w => ?_) (by rfl) ?_
     rotate_left
     · first | (go_simp; done) | (go_simp; with_reducible rfl) | (go_split_ands; go_simp; done))
  try simp only [Act.put, nrmA, nrmB, nrmC]
  first
  | refine sk0 (i := 38) (oi := ⟨some 60, .nilCheck (.tmp 59), 0, "law.go:145", #[⟨37, .data⟩, ⟨36, .guard⟩], some (36, false)⟩) rfl (by kernel_rfl) (fun _ _ _ h => h) (fun _ => hF (by kernel_rfl)) (by rfl) ?_
  | (refine tk0 (i := 38) (oi := ⟨some 60, .nilCheck (.tmp 59), 0, "law.go:145", #[⟨37, .data⟩, ⟨36, .guard⟩], some (36, false)⟩) (v := ?_) rfl (by kernel_rfl) (fun _ _ _ h => h) (fun _ => hF (by kernel_rfl)) (fun w => ?_) (by rfl) ?_
     rotate_left
     · first | (go_simp; done) | (go_simp; with_reducible rfl) | (go_split_ands; go_simp; done))
  try simp only [Act.put, nrmA, nrmB, nrmC]
  first
  | refine sk0 (i := 39) (oi := ⟨some 61, .fieldAddr 33 (.tmp 60) 0, 0, "law.go:145", #[⟨38, .data⟩, ⟨36, .guard⟩], some (36, false)⟩) rfl (by kernel_rfl) (fun _ _ _ h => h) (fun _ => hF (by kernel_rfl)) (by rfl) ?_
  | (refine tk0 (i := 39) (oi := ⟨some 61, .fieldAddr 33 (.tmp 60) 0, 0, "law.go:145", #[⟨38, .data⟩, ⟨36, .guard⟩], some (36, false)⟩) (v := ?_) rfl (by kernel_rfl) (fun _ _ _ h => h) (fun _ => hF (by kernel_rfl)) (fun w => ?_) (by rfl) ?_
     rotate_left
     · first | (go_simp; done) | (go_simp; with_reducible rfl) | (go_split_ands; go_simp; done))
  try simp only [Act.put, nrmA, nrmB, nrmC]
  first
  | refine sk0 (i := 40) (oi := ⟨some 62, .load 28 (.tmp 61), 28, "law.go:145", #[⟨39, .data⟩, ⟨36, .guard⟩], some (36, false)⟩) rfl (by kernel_rfl) (fun _ _ _ h => h) (fun _ => hF (by kernel_rfl)) (by rfl) ?_
  | (refine tk1 (i := 40) (oi := ⟨some 62, .load 28 (.tmp 61), 28, "law.go:145", #[⟨39, .data⟩, ⟨36, .guard⟩], some (36, false)⟩) (v := ?_) [41, 47, 48, 49] rfl (by kernel_rfl) (fun _ _ _ h => h) (hF (by kernel_rfl)) (fun w hFw => ?_) (by rfl) ?_
     rotate_left
     · ((try dsimp only at hFw); first | (go_simp; done) | (go_simp; with_reducible rfl) | (go_split_ands; go_simp; done)))
  try simp only [Act.put, nrmA, nrmB, nrmC]
  first
  | refine sk0 (i := 42) (oi := ⟨some 64, .move (.tmp 0), 25, "law.go:145", #[⟨36, .guard⟩], some (36, false)⟩) rfl (by kernel_rfl) (fun _ _ _ h => h) (fun _ => hF (by kernel_rfl)) (by rfl) ?_
  | (refine tk0 (i := 42) (oi := ⟨some 64, .move (.tmp 0), 25, "law.go:145", #[⟨36, .guard⟩], some (36, false)⟩) (v := ?_) rfl (by kernel_rfl) (fun _ _ _ h => h) (fun _ => hF (by kernel_rfl)) (fun w => ?_) (by rfl) ?_
     rotate_left
     · first | (go_simp; done) | (go_simp; with_reducible rfl) | (go_split_ands; go_simp; done))
  try simp only [Act.put, nrmA, nrmB, nrmC]
  first
  | refine sk0 (i := 43) (oi := ⟨some 65, .nilCheck (.tmp 64), 0, "law.go:145", #[⟨42, .data⟩, ⟨36, .guard⟩], some (36, false)⟩) rfl (by kernel_rfl) (fun _ _ _ h => h) (fun _ => hF (by kernel_rfl)) (by rfl) ?_
  | (refine tk0 (i := 43) (oi := ⟨some 65, .nilCheck (.tmp 64), 0, "law.go:145", #[⟨42, .data⟩, ⟨36, .guard⟩], some (36, false)⟩) (v := ?_) rfl (by kernel_rfl) (fun _ _ _ h => h) (fun _ => hF (by kernel_rfl)) (fun w => ?_) (by rfl) ?_
     rotate_left
     · first | (go_simp; done) | (go_simp; with_reducible rfl) | (go_split_ands; go_simp; done))
  try simp only [Act.put, nrmA, nrmB, nrmC]
  first
  | refine sk0 (i := 44) (oi := ⟨some 66, .fieldAddr 33 (.tmp 65) 1, 0, "law.go:145", #[⟨43, .data⟩, ⟨36, .guard⟩], some (36, false)⟩) rfl (by kernel_rfl) (fun _ _ _ h => h) (fun _ => hF (by kernel_rfl)) (by rfl) ?_
  | (refine tk0 (i := 44) (oi := ⟨some 66, .fieldAddr 33 (.tmp 65) 1, 0, "law.go:145", #[⟨43, .data⟩, ⟨36, .guard⟩], some (36, false)⟩) (v := ?_) rfl (by kernel_rfl) (fun _ _ _ h => h) (fun _ => hF (by kernel_rfl)) (fun w => ?_) (by rfl) ?_
     rotate_left
     · first | (go_simp; done) | (go_simp; with_reducible rfl) | (go_split_ands; go_simp; done))
  try simp only [Act.put, nrmA, nrmB, nrmC]
  first
  | refine sk0 (i := 45) (oi := ⟨some 67, .load 29 (.tmp 66), 29, "law.go:145", #[⟨44, .data⟩, ⟨36, .guard⟩], some (36, false)⟩) rfl (by kernel_rfl) (fun _ _ _ h => h) (fun _ => hF (by kernel_rfl)) (by rfl) ?_
  | (refine tk1 (i := 45) (oi := ⟨some 67, .load 29 (.tmp 66), 29, "law.go:145", #[⟨44, .data⟩, ⟨36, .guard⟩], some (36, false)⟩) (v := ?_) [46, 47, 48, 49] rfl (by kernel_rfl) (fun _ _ _ h => h) (hF (by kernel_rfl)) (fun w hFw => ?_) (by rfl) ?_
     rotate_left
     · ((try dsimp only at hFw); first | (go_simp; done) | (go_simp; with_reducible rfl) | (go_split_ands; go_simp; done)))
  try simp only [Act.put, nrmA, nrmB, nrmC]
  refine wpAnyJ_ready (rs := [41]) (by kernel_rfl) (by simp) ?_
  refine AllJ.cons1 (o := ⟨some 63, .call { callee := .value (.func 51), args := #[.tmp 62], argTypes := #[28] }, 70, "law.go:145", #[⟨40, .data⟩, ⟨36, .chain⟩, ⟨36, .guard⟩], some (36, false)⟩) rfl (fun Kr hKr => ?_)
  go_simp; go_at_call 51; refine (hD.out _ _ h).mono ?_; rintro e w7 ⟨a3, c3, N3, rfl, r3, hst⟩
  have h := h.fresh hst
  simp only [List.cons_append, List.nil_append] at h
  have hx2 := hst.keepCell hx2
  have hx4 := hst.keepCell hx4
  refine hKr.out _ _ (fun hJ => ?_) (fun hF => ?_)
  · first
    | exact absurd hJ (by decide)
    | (clear hJ; (try dsimp only); all_goals (exact ⟨h.cells.1, h.cells.2.1, h.cells.2.2.1, h.cells.2.2.2, hx2, hx4⟩))
  clear hKr
  try simp only [Act.put, nrmA, nrmB, nrmC]
  refine wpAnyJ_ready (rs := [46]) (by kernel_rfl) (by simp) ?_
  refine AllJ.cons1 (o := ⟨some 68, .call { callee := .value (.func 55), args := #[.tmp 67], argTypes := #[29] }, 70, "law.go:145", #[⟨45, .data⟩, ⟨41, .chain⟩, ⟨36, .guard⟩], some (36, false)⟩) rfl (fun Kr hKr => ?_)
  go_simp; go_at_call 55; refine (hE.out _ _ h).mono ?_; rintro e w8 ⟨a4, c4, N4, rfl, r4, hst⟩
  have h := h.fresh hst
  simp only [List.cons_append, List.nil_append] at h
  have hx2 := hst.keepCell hx2
  have hx4 := hst.keepCell hx4
  refine hKr.out _ _ (fun hJ => ?_) (fun hF => ?_)
  · first
    | exact absurd hJ (by decide)
    | (clear hJ; (try dsimp only); all_goals (exact ⟨h.cells.1, h.cells.2.1, h.cells.2.2.1, h.cells.2.2.2, hx2, hx4⟩))
  clear hKr
  try simp only [Act.put, nrmA, nrmB, nrmC]
  refine wpAnyJ_ready (rs := [47]) (by kernel_rfl) (by simp) ?_
  refine AllJ.cons1 (o := ⟨some 69, .call { callee := .value (.func 36), args := #[.tmp 63, .tmp 68], argTypes := #[70, 70] }, 4, "law.go:145", #[⟨41, .data⟩, ⟨46, .data⟩, ⟨46, .chain⟩, ⟨36, .guard⟩], some (36, false)⟩) rfl (fun Kr hKr => ?_)
  go_simp; go_at_call 36; refine (htx.out fs a3 a4 c3 c4 N3 N4 _ r3 r4 (PrS.own2 h) (PrS.own3 h)).mono ?_; rintro e w9 ⟨rfl, hst⟩
  have h := h.still hst
  have hx2 := hst.keepCell hx2
  have hx4 := hst.keepCell hx4
  refine hKr.out _ _ (fun hJ => ?_) (fun hF => ?_)
  · first
    | exact absurd hJ (by decide)
    | (clear hJ; (try dsimp only); all_goals (exact ⟨h.cells.1, h.cells.2.1, h.cells.2.2.1, h.cells.2.2.2, hx2, hx4⟩))
  clear hKr
  try simp only [Act.put, nrmA, nrmB, nrmC]
  first
  | refine sk0 (i := 48) (oi := ⟨some 70, .unOp .not 4 (.tmp 69), 4, "law.go:145", #[⟨47, .data⟩, ⟨36, .guard⟩], some (36, false)⟩) rfl (by kernel_rfl) (fun _ _ _ h => h) (fun _ => hF (by kernel_rfl)) (by rfl) ?_
  | (refine tk0 (i := 48) (oi := ⟨some 70, .unOp .not 4 (.tmp 69), 4, "law.go:145", #[⟨47, .data⟩, ⟨36, .guard⟩], some (36, false)⟩) (v := ?_) rfl (by kernel_rfl) (fun _ _ _ h => h) (fun _ => hF (by kernel_rfl)) (fun w => ?_) (by rfl) ?_
     rotate_left
     · first | (go_simp; done) | (go_simp; with_reducible rfl) | (go_split_ands; go_simp; done))
  try simp only [Act.put, nrmA, nrmB, nrmC]
  refine wpAnyJ_ready (rs := [49]) (by kernel_rfl) (by simp) ?_
  refine AllJ.cons1 (o := ⟨some 71, .pick (.tmp 58) (.const (.bool true)) (.tmp 70), 4, "law.go:145", #[⟨36, .data⟩, ⟨48, .data⟩], none⟩) rfl (fun Kr hKr => ?_)
  go_simp
  refine hKr.out _ _ (fun hJ => ?_) (fun hF => ?_)
  · first
    | exact absurd hJ (by decide)
    | (clear hJ; (try dsimp only); all_goals (exact ⟨h.cells.1, h.cells.2.1, h.cells.2.2.1, h.cells.2.2.2, hx2, hx4⟩))
  clear hKr
  try simp only [Act.put, nrmA, nrmB, nrmC]
  refine wpAnyJ_done (by kernel_rfl) ?_ _
  replace h := h.drop
  clear hx2 hx4 z0 z1 z2 z3
  go_upto_block 0 with fail
  go_cut [5] (fun _ wr => PrS pb d r b c [97] lg k lg k [] w0 K wr)
  case first =>
    have hin : Hid (StdRel pb d r b c [97] lg k [] w0 K n (iv 0) w9) := ⟨0, rfl, Nat.zero_le _, h⟩
    clear h
    go_wp2_with fail
    go_loopw [5] (fun v wr => StdRel pb d r b c [97] lg k [] w0 K n v wr) (fun v _ => n - (intOf v).toNat)
    case atStart => exact hin.out
    case round =>
      clear hin
      obtain ⟨i, rfl, hi, h⟩ := hrel
      have i0 : (0 : Int) ≤ (i : Int) := by omega
      by_cases hlt : i < n
      · have i1 : (i : Int) < (n : Int) := by omega
        obtain ⟨x, hx, hxl⟩ := hL.out i hlt
        have hrow : Hid (∀ W Rs, PrS pb d r b c [97] lg k lg k Rs w0 K W → ∃ g ec xa xc, W.cell? ⟨c, 2, none⟩ = some (.slice (some ⟨g, 0, none⟩) n ec) ∧ n ≤ ec ∧ W.cell? ⟨g, i, none⟩ = some (.slice xa x.length xc) ∧ RdBytes W xa x.length xc x) := fun W Rs h => by
          have := h.xrow hx
          rw [← hn.out] at this
          exact this
        have hEn := Lib.hid (fun W Rs h => hEy.out W Rs ((i : Int) + 1) h)
        rw [entN_at hx] at hEn
        simp only at hEn
        replace hx := Lib.hid hx
        obtain ⟨z0, z1, z2, z3⟩ := h.cells
        obtain ⟨g, ec, xa, xc, y1, y2, y3, y4⟩ := hrow.out _ _ h
        have y2i : (n : Int) ≤ (ec : Int) := by omega
        replace y4 := Lib.hid y4
        have q7 : IntKind.i64.wrap ((i : Int) + 1) = (i : Int) + 1 := IntWalk.i64_in _ (by omega)
        go_wp2_with fail
        refine (hEn.out _ _ h).mono ?_
        rintro e w10 ⟨a1, c1, X1, rfl, r1, h⟩
        clear z0 z1 z2 z3 y1 y2 y3 y4 y2i
        simp only [List.cons_append, List.nil_append] at h
        obtain ⟨z0, z1, z2, z3⟩ := h.cells
        obtain ⟨g, ec, xa, xc, y1, y2, y3, y4⟩ := hrow.out _ _ h
        have y2i : (n : Int) ≤ (ec : Int) := by omega
        replace y4 := Lib.hid y4
        replace r1 := Lib.hid r1
        go_wp2_with fail
        refine (same_any a1 xa x.length c1 x.length xc x x _ (r1.out.rdBytes (PrS.own0 h)) y4.out (by omega) (by omega)).mono ?_
        rintro e w11 ⟨rfl, h6⟩
        rw [decide_eq_true (rfl : x = x)]
        have h := (h.still h6).drop
        go_wp2_with fail
        exact ⟨⟨i + 1, by go_num, hlt, h⟩, by simp [intOf]; omega⟩
      · have i1 : (n : Int) ≤ (i : Int) := by omega
        obtain ⟨z0, z1, z2, z3⟩ := h.cells
        obtain ⟨ea, ec, hx2, hx4⟩ := hxc.out _ _ h
        go_wp2_with fail
        go_meet
        exact h
  case rest =>
    obtain ⟨z0, z1, z2, z3⟩ := hcut.cells
    replace hcut := Lib.hid hcut
    go_wp2_with fail
    refine (hE.out _ _ hcut.out).mono ?_
    rintro e w10 ⟨a5, c5, N5, rfl, r5, hst⟩
    have h5 := hcut.out.fresh hst
    simp only [List.cons_append, List.nil_append] at h5
    clear z0 z1 z2 z3 hst hcut
    have hc5 : Hid (∀ V, Own V N5 → ∀ i, i < fs.length → ∃ g x, fs[i]? = some x ∧ a5 = some ⟨g, 0, none⟩ ∧ fs.length ≤ c5 ∧ V.cell? ⟨g, i, none⟩ = some (strV x)) := fun V hV i hi => by
      have hx := List.getElem?_eq_getElem hi
      obtain ⟨g, e, h3, h4⟩ := slRep_at r5 hV (i := i) (v := strV fs[i]) (by rw [List.getElem?_map, hx]; rfl)
      rw [Nat.zero_add] at h3
      exact ⟨g, _, hx, e, h4, h3⟩
    have hin : Hid (StdRel pb d r b c [97] lg k [N5] w0 K fs.length (iv 0) w10) := ⟨0, rfl, Nat.zero_le _, h5⟩
    have hfli : (fs.length : Int) ≤ 4096 := by omega
    clear h5 r5
    go_wp2_with fail
    go_loopw [9] (fun v wr => StdRel pb d r b c [97] lg k [N5] w0 K fs.length v wr) (fun v _ => fs.length - (intOf v).toNat)
    case atStart => exact hin.out
    case round =>
      clear hin
      obtain ⟨i, rfl, hi, h⟩ := hrel
      have i0 : (0 : Int) ≤ (i : Int) := by omega
      by_cases hlt : i < fs.length
      · have i1 : (i : Int) < (fs.length : Int) := by omega
        obtain ⟨g, x, hx, rfl, y1, _⟩ := hc5.out _ (PrS.own0 h) i hlt
        have y1i : (fs.length : Int) ≤ (c5 : Int) := by omega
        have hcx : Hid (∀ V, Own V N5 → V.cell? ⟨g, i, none⟩ = some (strV x)) := fun V hV => by
          obtain ⟨g', x', hx', e, _, h3⟩ := hc5.out V hV i hlt
          cases e
          rw [hx] at hx'
          cases hx'
          exact h3
        replace hx := Lib.hid hx
        have hr1 := Lib.hid (fun W Rs h => hG.out W Rs x h)
        have hr2 := Lib.hid (fun W Rs h => hH.out W Rs x h)
        have hle : (rdN x k).1.length ≤ 1073741824 := rdN_le hk0.out
        obtain ⟨⟨l, z⟩, hz⟩ : ∃ z, z = rdN x k := ⟨_, rfl⟩
        rw [← hz] at hr1 hr2 hle
        simp only at hr1 hr2 hle
        replace hz := Lib.hid hz
        go_upto_region 14 with fail
        replace h := h.drew
        refine wp_region_J 13 (fun w' => w'.cell? ⟨pb, 0, none⟩ = some (pt d) ∧ w'.cell? ⟨g, i, none⟩ = some (strV x)) (by kernel_rfl) ?_ (fun hF => ?_)
        · (try dsimp only)
          all_goals (exact ⟨h.cells.1, hcx.out _ (PrS.own0 h)⟩)
        refine tk0 (i := 0) (oi := ⟨some 123, .move (.tmp 0), 25, "law.go:156", #[], none⟩) (v := ?_) rfl (by kernel_rfl) (fun _ _ _ h => h) (fun _ => hF) (fun w => ?_) (by rfl) ?_
        rotate_left
        · first | (go_simp; done) | (go_simp; with_reducible rfl) | (go_split_ands; go_simp; done)
        try simp only [Act.put, nrmA, nrmB, nrmC]
        refine tk0 (i := 1) (oi := ⟨some 124, .nilCheck (.tmp 123), 0, "law.go:156", #[⟨0, .data⟩], none⟩) (v := ?_) rfl (by kernel_rfl) (fun _ _ _ h => h) (fun _ => hF) (fun w => ?_) (by rfl) ?_
        rotate_left
        · first | (go_simp; done) | (go_simp; with_reducible rfl) | (go_split_ands; go_simp; done)
        try simp only [Act.put, nrmA, nrmB, nrmC]
        refine tk0 (i := 2) (oi := ⟨some 125, .fieldAddr 33 (.tmp 124) 0, 0, "law.go:156", #[⟨1, .data⟩], none⟩) (v := ?_) rfl (by kernel_rfl) (fun _ _ _ h => h) (fun _ => hF) (fun w => ?_) (by rfl) ?_
        rotate_left
        · first | (go_simp; done) | (go_simp; with_reducible rfl) | (go_split_ands; go_simp; done)
        try simp only [Act.put, nrmA, nrmB, nrmC]
        refine tk1 (i := 3) (oi := ⟨some 126, .load 28 (.tmp 125), 28, "law.go:156", #[⟨2, .data⟩], none⟩) (v := ?_) [13] rfl (by kernel_rfl) (fun _ _ _ h => h) hF (fun w hFw => ?_) (by rfl) ?_
        rotate_left
        · ((try dsimp only at hFw); first | (go_simp; done) | (go_simp; with_reducible rfl) | (go_split_ands; go_simp; done))
        try simp only [Act.put, nrmA, nrmB, nrmC]
        refine tk0 (i := 4) (oi := ⟨some 127, .move (.tmp 8), 70, "law.go:156", #[], none⟩) (v := ?_) rfl (by kernel_rfl) (fun _ _ _ h => h) (fun _ => hF) (fun w => ?_) (by rfl) ?_
        rotate_left
        · first | (go_simp; done) | (go_simp; with_reducible rfl) | (go_split_ands; go_simp; done)
        try simp only [Act.put, nrmA, nrmB, nrmC]
        refine tk0 (i := 5) (oi := ⟨some 128, .move (.tmp 9), 3, "law.go:156", #[], none⟩) (v := ?_) rfl (by kernel_rfl) (fun _ _ _ h => h) (fun _ => hF) (fun w => ?_) (by rfl) ?_
        rotate_left
        · first | (go_simp; done) | (go_simp; with_reducible rfl) | (go_split_ands; go_simp; done)
        try simp only [Act.put, nrmA, nrmB, nrmC]
        refine tk0 (i := 6) (oi := ⟨some 129, .indexAddr 70 (.tmp 127) (.tmp 128), 0, "law.go:156", #[⟨4, .data⟩, ⟨5, .data⟩], none⟩) (v := ?_) rfl (by kernel_rfl) (fun _ _ _ h => h) (fun _ => hF) (fun w => ?_) (by rfl) ?_
        rotate_left
        · first | (go_simp; done) | (go_simp; with_reducible rfl) | (go_split_ands; go_simp; done)
        try simp only [Act.put, nrmA, nrmB, nrmC]
        refine tk1 (i := 7) (oi := ⟨some 130, .load 9 (.tmp 129), 9, "law.go:156", #[⟨6, .data⟩], none⟩) (v := ?_) [13] rfl (by kernel_rfl) (fun _ _ _ h => h) hF (fun w hFw => ?_) (by rfl) ?_
        rotate_left
        · ((try dsimp only at hFw); first | (go_simp; done) | (go_simp; with_reducible rfl) | (go_split_ands; go_simp; done))
        try simp only [Act.put, nrmA, nrmB, nrmC]
        refine wpAnyJ_ready (rs := [8]) (by kernel_rfl) (by simp) ?_
        refine AllJ.cons1 (o := ⟨some 131, .call { callee := .value (.func 35), args := #[.tmp 126, .tmp 130], argTypes := #[28, 9] }, 48, "law.go:156", #[⟨3, .data⟩, ⟨7, .data⟩], none⟩) rfl (fun Kr hKr => ?_)
        go_simp; go_at_call 35; refine (hr1.out _ _ h).mono ?_; rintro e w4 ⟨a1, c1, X1, rfl, q1, h⟩
        simp only [List.cons_append, List.nil_append] at h
        refine hKr.out _ _ (fun hJ => ?_) (fun hF => ?_)
        · first
          | exact absurd hJ (by decide)
          | (clear hJ; (try dsimp only); all_goals (exact ⟨h.cells.1, hcx.out _ (PrS.own0 h)⟩))
        clear hKr
        try simp only [Act.put, nrmA, nrmB, nrmC]
        refine tk0 (i := 9) (oi := ⟨some 122, .move (.tmp 131), 48, "law.go:156", #[⟨8, .data⟩], none⟩) (v := ?_) rfl (by kernel_rfl) (fun _ _ _ h => h) (fun _ => hF (by kernel_rfl)) (fun w => ?_) (by rfl) ?_
        rotate_left
        · first | (go_simp; done) | (go_simp; with_reducible rfl) | (go_split_ands; go_simp; done)
        try simp only [Act.put, nrmA, nrmB, nrmC]
        refine tk0 (i := 10) (oi := ⟨some 132, .extract (.tmp 122) 0, 23, "law.go:156", #[⟨9, .data⟩], none⟩) (v := ?_) rfl (by kernel_rfl) (fun _ _ _ h => h) (fun _ => hF (by kernel_rfl)) (fun w => ?_) (by rfl) ?_
        rotate_left
        · first | (go_simp; done) | (go_simp; with_reducible rfl) | (go_split_ands; go_simp; done)
        try simp only [Act.put, nrmA, nrmB, nrmC]
        refine tk0 (i := 11) (oi := ⟨some 133, .extract (.tmp 122) 1, 35, "law.go:156", #[⟨9, .data⟩, { on := 12, ground := Go.Ground.gcOnly Go.Departure.lateStores }], none⟩) (v := ?_) rfl (by kernel_rfl) (fun _ _ _ h => h) (fun _ => hF (by kernel_rfl)) (fun w => ?_) (by rfl) ?_
        rotate_left
        · first | (go_simp; done) | (go_simp; with_reducible rfl) | (go_split_ands; go_simp; done)
        try simp only [Act.put, nrmA, nrmB, nrmC]
        refine wpAnyJ_ready (rs := [12]) (by kernel_rfl) (by simp) ?_
        refine AllJ.cons1 (o := ⟨some 10, .assign (.tmp 132), 23, "law.go:156", #[⟨10, .data⟩, ⟨8, .chain⟩, ⟨0, .phase⟩, ⟨1, .phase⟩, ⟨2, .phase⟩, ⟨3, .phase⟩, ⟨4, .phase⟩, ⟨5, .phase⟩, ⟨6, .phase⟩, ⟨7, .phase⟩, ⟨8, .phase⟩, ⟨9, .phase⟩, ⟨10, .phase⟩, { on := 11, ground := Go.Ground.textOnly Go.Departure.lateStores }], none⟩) rfl (fun Kr hKr => ?_)
        go_simp
        refine hKr.out _ _ (fun hJ => ?_) (fun hF => ?_)
        · first
          | exact absurd hJ (by decide)
          | (clear hJ; (try dsimp only); all_goals (exact ⟨h.cells.1, hcx.out _ (PrS.own0 h)⟩))
        clear hKr
        try simp only [Act.put, nrmA, nrmB, nrmC]
        refine wpAnyJ_ready (rs := [13]) (by kernel_rfl) (by simp) ?_
        refine AllJ.cons1 (o := ⟨some 11, .assign (.tmp 133), 35, "law.go:156", #[⟨11, .data⟩, ⟨12, .chain⟩, ⟨0, .phase⟩, ⟨1, .phase⟩, ⟨2, .phase⟩, ⟨3, .phase⟩, ⟨4, .phase⟩, ⟨5, .phase⟩, ⟨6, .phase⟩, ⟨7, .phase⟩, ⟨8, .phase⟩, ⟨9, .phase⟩, ⟨10, .phase⟩, ⟨11, .phase⟩, ⟨12, .phase⟩], none⟩) rfl (fun Kr hKr => ?_)
        go_simp
        refine hKr.out _ _ (fun hJ => ?_) (fun hF => ?_)
        · first
          | exact absurd hJ (by decide)
          | (clear hJ; (try dsimp only); all_goals (exact ⟨h.cells.1, hcx.out _ (PrS.own0 h)⟩))
        clear hKr
        try simp only [Act.put, nrmA, nrmB, nrmC]
        refine wpAnyJ_done (by kernel_rfl) ?_ _
        go_upto_region 15 with fail
        replace h := h.drew
        refine wp_region_J 13 (fun w' => w'.cell? ⟨pb, 1, none⟩ = some (pt r) ∧ w'.cell? ⟨g, i, none⟩ = some (strV x)) (by kernel_rfl) ?_ (fun hF => ?_)
        · (try dsimp only)
          all_goals (exact ⟨h.cells.2.1, hcx.out _ (PrS.own0 h)⟩)
        refine tk0 (i := 0) (oi := ⟨some 135, .move (.tmp 0), 25, "law.go:157", #[], none⟩) (v := ?_) rfl (by kernel_rfl) (fun _ _ _ h => h) (fun _ => hF) (fun w => ?_) (by rfl) ?_
        rotate_left
        · first | (go_simp; done) | (go_simp; with_reducible rfl) | (go_split_ands; go_simp; done)
        try simp only [Act.put, nrmA, nrmB, nrmC]
        refine tk0 (i := 1) (oi := ⟨some 136, .nilCheck (.tmp 135), 0, "law.go:157", #[⟨0, .data⟩], none⟩) (v := ?_) rfl (by kernel_rfl) (fun _ _ _ h => h) (fun _ => hF) (fun w => ?_) (by rfl) ?_
        rotate_left
        · first | (go_simp; done) | (go_simp; with_reducible rfl) | (go_split_ands; go_simp; done)
        try simp only [Act.put, nrmA, nrmB, nrmC]
        refine tk0 (i := 2) (oi := ⟨some 137, .fieldAddr 33 (.tmp 136) 1, 0, "law.go:157", #[⟨1, .data⟩], none⟩) (v := ?_) rfl (by kernel_rfl) (fun _ _ _ h => h) (fun _ => hF) (fun w => ?_) (by rfl) ?_
        rotate_left
        · first | (go_simp; done) | (go_simp; with_reducible rfl) | (go_split_ands; go_simp; done)
        try simp only [Act.put, nrmA, nrmB, nrmC]
        refine tk1 (i := 3) (oi := ⟨some 138, .load 29 (.tmp 137), 29, "law.go:157", #[⟨2, .data⟩], none⟩) (v := ?_) [13] rfl (by kernel_rfl) (fun _ _ _ h => h) hF (fun w hFw => ?_) (by rfl) ?_
        rotate_left
        · ((try dsimp only at hFw); first | (go_simp; done) | (go_simp; with_reducible rfl) | (go_split_ands; go_simp; done))
        try simp only [Act.put, nrmA, nrmB, nrmC]
        refine tk0 (i := 4) (oi := ⟨some 139, .move (.tmp 8), 70, "law.go:157", #[], none⟩) (v := ?_) rfl (by kernel_rfl) (fun _ _ _ h => h) (fun _ => hF) (fun w => ?_) (by rfl) ?_
        rotate_left
        · first | (go_simp; done) | (go_simp; with_reducible rfl) | (go_split_ands; go_simp; done)
        try simp only [Act.put, nrmA, nrmB, nrmC]
        refine tk0 (i := 5) (oi := ⟨some 140, .move (.tmp 9), 3, "law.go:157", #[], none⟩) (v := ?_) rfl (by kernel_rfl) (fun _ _ _ h => h) (fun _ => hF) (fun w => ?_) (by rfl) ?_
        rotate_left
        · first | (go_simp; done) | (go_simp; with_reducible rfl) | (go_split_ands; go_simp; done)
        try simp only [Act.put, nrmA, nrmB, nrmC]
        refine tk0 (i := 6) (oi := ⟨some 141, .indexAddr 70 (.tmp 139) (.tmp 140), 0, "law.go:157", #[⟨4, .data⟩, ⟨5, .data⟩], none⟩) (v := ?_) rfl (by kernel_rfl) (fun _ _ _ h => h) (fun _ => hF) (fun w => ?_) (by rfl) ?_
        rotate_left
        · first | (go_simp; done) | (go_simp; with_reducible rfl) | (go_split_ands; go_simp; done)
        try simp only [Act.put, nrmA, nrmB, nrmC]
        refine tk1 (i := 7) (oi := ⟨some 142, .load 9 (.tmp 141), 9, "law.go:157", #[⟨6, .data⟩], none⟩) (v := ?_) [13] rfl (by kernel_rfl) (fun _ _ _ h => h) hF (fun w hFw => ?_) (by rfl) ?_
        rotate_left
        · ((try dsimp only at hFw); first | (go_simp; done) | (go_simp; with_reducible rfl) | (go_split_ands; go_simp; done))
        try simp only [Act.put, nrmA, nrmB, nrmC]
        refine wpAnyJ_ready (rs := [8]) (by kernel_rfl) (by simp) ?_
        refine AllJ.cons1 (o := ⟨some 143, .call { callee := .value (.func 57), args := #[.tmp 138, .tmp 142], argTypes := #[29, 9] }, 96, "law.go:157", #[⟨3, .data⟩, ⟨7, .data⟩], none⟩) rfl (fun Kr hKr => ?_)
        go_simp; go_at_call 57; refine (hr2.out _ _ h).mono ?_; rintro e w5 ⟨a2, c2, X2, rfl, q2, h⟩
        simp only [List.cons_append, List.nil_append] at h
        refine hKr.out _ _ (fun hJ => ?_) (fun hF => ?_)
        · first
          | exact absurd hJ (by decide)
          | (clear hJ; (try dsimp only); all_goals (exact ⟨h.cells.2.1, hcx.out _ (PrS.own0 h)⟩))
        clear hKr
        try simp only [Act.put, nrmA, nrmB, nrmC]
        refine tk0 (i := 9) (oi := ⟨some 134, .move (.tmp 143), 96, "law.go:157", #[⟨8, .data⟩], none⟩) (v := ?_) rfl (by kernel_rfl) (fun _ _ _ h => h) (fun _ => hF (by kernel_rfl)) (fun w => ?_) (by rfl) ?_
        rotate_left
        · first | (go_simp; done) | (go_simp; with_reducible rfl) | (go_split_ands; go_simp; done)
        try simp only [Act.put, nrmA, nrmB, nrmC]
        refine tk0 (i := 10) (oi := ⟨some 144, .extract (.tmp 134) 0, 23, "law.go:157", #[⟨9, .data⟩], none⟩) (v := ?_) rfl (by kernel_rfl) (fun _ _ _ h => h) (fun _ => hF (by kernel_rfl)) (fun w => ?_) (by rfl) ?_
        rotate_left
        · first | (go_simp; done) | (go_simp; with_reducible rfl) | (go_split_ands; go_simp; done)
        try simp only [Act.put, nrmA, nrmB, nrmC]
        refine tk0 (i := 11) (oi := ⟨some 145, .extract (.tmp 134) 1, 3, "law.go:157", #[⟨9, .data⟩, { on := 12, ground := Go.Ground.gcOnly Go.Departure.lateStores }], none⟩) (v := ?_) rfl (by kernel_rfl) (fun _ _ _ h => h) (fun _ => hF (by kernel_rfl)) (fun w => ?_) (by rfl) ?_
        rotate_left
        · first | (go_simp; done) | (go_simp; with_reducible rfl) | (go_split_ands; go_simp; done)
        try simp only [Act.put, nrmA, nrmB, nrmC]
        refine wpAnyJ_ready (rs := [12]) (by kernel_rfl) (by simp) ?_
        refine AllJ.cons1 (o := ⟨some 12, .assign (.tmp 144), 23, "law.go:157", #[⟨10, .data⟩, ⟨8, .chain⟩, ⟨0, .phase⟩, ⟨1, .phase⟩, ⟨2, .phase⟩, ⟨3, .phase⟩, ⟨4, .phase⟩, ⟨5, .phase⟩, ⟨6, .phase⟩, ⟨7, .phase⟩, ⟨8, .phase⟩, ⟨9, .phase⟩, ⟨10, .phase⟩, { on := 11, ground := Go.Ground.textOnly Go.Departure.lateStores }], none⟩) rfl (fun Kr hKr => ?_)
        go_simp
        refine hKr.out _ _ (fun hJ => ?_) (fun hF => ?_)
        · first
          | exact absurd hJ (by decide)
          | (clear hJ; (try dsimp only); all_goals (exact ⟨h.cells.2.1, hcx.out _ (PrS.own0 h)⟩))
        clear hKr
        try simp only [Act.put, nrmA, nrmB, nrmC]
        refine wpAnyJ_ready (rs := [13]) (by kernel_rfl) (by simp) ?_
        refine AllJ.cons1 (o := ⟨some 13, .assign (.tmp 145), 3, "law.go:157", #[⟨11, .data⟩, ⟨12, .chain⟩, ⟨0, .phase⟩, ⟨1, .phase⟩, ⟨2, .phase⟩, ⟨3, .phase⟩, ⟨4, .phase⟩, ⟨5, .phase⟩, ⟨6, .phase⟩, ⟨7, .phase⟩, ⟨8, .phase⟩, ⟨9, .phase⟩, ⟨10, .phase⟩, ⟨11, .phase⟩, ⟨12, .phase⟩], none⟩) rfl (fun Kr hKr => ?_)
        go_simp
        refine hKr.out _ _ (fun hJ => ?_) (fun hF => ?_)
        · first
          | exact absurd hJ (by decide)
          | (clear hJ; (try dsimp only); all_goals (exact ⟨h.cells.2.1, hcx.out _ (PrS.own0 h)⟩))
        clear hKr
        try simp only [Act.put, nrmA, nrmB, nrmC]
        refine wpAnyJ_done (by kernel_rfl) ?_ _
        replace q1 := Lib.hid q1
        replace q2 := Lib.hid q2
        go_wp2_with fail
        refine (same_any a1 a2 l.length c1 l.length c2 l l _ (q1.out.rdBytes (PrS.own1 h)) (q2.out.rdBytes (PrS.own2 h)) (by omega) (by omega)).mono ?_
        rintro e w6 ⟨rfl, h6⟩
        rw [decide_eq_true (rfl : l = l)]
        have h := PrS.keep1 (h.still h6)
        go_wp2_with fail
        exact ⟨⟨i + 1, by go_num, hlt, h⟩, by simp [intOf]; omega⟩
      · have i1 : (fs.length : Int) ≤ (i : Int) := by omega
        go_wp2_with fail
        go_ret
        exact ⟨rfl, h.drop⟩
end
end Go.Proofs.YtdolbeonpkanpaaGreatDoor
