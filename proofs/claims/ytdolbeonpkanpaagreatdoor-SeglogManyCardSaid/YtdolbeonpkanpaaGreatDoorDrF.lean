/- The reference's disk: Write, into a file that stands or that is refused. -/
import Derived.Test.YtdolbeonpkanpaaGreatDoorDrE
set_option linter.unusedVariables false
set_option linter.unusedSimpArgs false
namespace Go.Proofs.YtdolbeonpkanpaaGreatDoor
open Go.RowKit
attribute [local go_sem ↓] Go.wp_at_zero Go.wp_at_succ

set_option maxHeartbeats 4000000 in
set_option maxRecDepth 100000 in
/-- There is no room, whether the file stands or not. -/
theorem rwrite_full (b : Nat) (k : Dk) (H : Heaplet) (nm : Nm) (pa : Option Addr) (pc : Nat) (p : List UInt8) (w : World) (h : RkRep b k H) (hk : k.Ok) (hw : Own w H) (hpl : p.length ≤ 140737488355328) (hm : mayN k [nm] = 0)
    (hA : k.room < usedF k.L + p.length ∨ (isF k.L nm = false ∧ 4096 ≤ k.L.length)) :
    Calls Tryz.prog 31 #[pt b, strV nm, .slice pa p.length pc] w (RkPost b (6, k) H w) := by
  have s1 := (Sp.start hw).alloc (.cells #[strV nm] 9)
  have hmy := Lib.hid (may_any b k H w.heap.size 1 [nm] _ h (s1.own 0 rfl) (rdStrs_one w nm) (Nat.le_refl _) (by decide))
  rw [hm] at hmy
  have hsp := Lib.hid (fun W hW => spot_any b k H nm W h hW (by have := hk.many; omega))
  have hus := Lib.hid (fun W hW => rused_any b k H W h hW (by have := hk.many; omega) (by have := hk.used; have := hk.room; omega))
  have hrep := Lib.hid h
  have hu1 : (usedF k.L : Int) ≤ 1073741824 := by have := hk.used; have := hk.room; omega
  have hu2 : (k.room : Int) ≤ 1073741824 := by have := hk.room; omega
  have hl1 : (k.L.length : Int) ≤ 4096 := by have := hk.many; omega
  obtain ⟨a, c, R, X, hr, hok, hkk, hlf, hH⟩ := h
  have hkf : Hid (∀ W', Own W' H → W'.cell? ⟨b, 0, none⟩ = some (iv k.room) ∧ W'.cell? ⟨b, 1, none⟩ = some (.slice a k.L.length c)) := fun W' hW => by
    rw [hH] at hW
    have ⟨c0, c1, _⟩ := cells3 hW.h0
    exact ⟨c0, by rw [← hkk, List.length_map]; exact c1⟩
  replace s1 := Lib.hid s1
  replace hH := Lib.hid hH
  clear hr hok hkk hlf hm
  obtain ⟨u, hu⟩ : ∃ u, u = usedF k.L := ⟨_, rfl⟩
  obtain ⟨t, ht⟩ : ∃ t, t = isF k.L nm := ⟨_, rfl⟩
  obtain ⟨l, hl⟩ : ∃ l, l = k.L.length := ⟨_, rfl⟩
  obtain ⟨pl, hp⟩ : ∃ pl, pl = p.length := ⟨_, rfl⟩
  rw [← hu] at hA hus hu1
  rw [← ht] at hA hsp
  rw [← hl] at hkf hl1 hA
  rw [← hp] at hpl hA ⊢
  have w1 : IntKind.i64.wrap ((u : Int) + (pl : Int)) = (u : Int) + (pl : Int) := IntWalk.i64_in _ (by omega)
  replace hu := Lib.hid hu
  replace ht := Lib.hid ht
  replace hl := Lib.hid hl
  replace hp := Lib.hid hp
  by_cases h1 : k.room < u + pl
  · have a1 : (k.room : Int) < (u : Int) + (pl : Int) := by omega
    have a2 : decide ((k.room : Int) < (u : Int) + (pl : Int)) = true := decide_eq_true a1
    clear hA h1
    go_enter Tryz.func31, Tryz.ntmps31
    go_wp2_with fail
    refine hmy.out.mono ?_
    rintro e w2 ⟨rfl, hst⟩
    have s2 : Sp w H w2 [H] := (s1.out.still hst).forget 1 rfl |>.perm (by simp)
    clear hst
    go_wp2_with fail
    refine (hsp.out _ (s2.own 0 rfl)).mono ?_
    rintro e w3 ⟨rfl, hst⟩
    replace s2 := s2.still hst
    clear hst
    go_upto_region 5 with fail
    have kf := hkf.out _ (s2.drew.own 0 rfl)
    refine wp_region_J 21 (fun w' => w'.cell? ⟨b, 0, none⟩ = some (iv k.room) ∧ w'.cell? ⟨b, 1, none⟩ = some (.slice a l c)) (by kernel_rfl) ?_ (fun hF => ?_)
    · (try dsimp only)
      all_goals (first | exact kf | exact hkf.out _ (s4.own 0 rfl))
    refine tk0 (i := 0) (oi := ⟨some 24, .move (.tmp 0), 29, "disk.go:74", #[], none⟩) (v := ?_) rfl (by kernel_rfl) (fun _ _ _ h => h) (fun _ => hF) (fun w => ?_) (by rfl) ?_
    rotate_left
    · first | (go_simp; done) | (go_simp; with_reducible rfl) | (go_split_ands; go_simp; done)
    try simp only [Act.put, nrmA, nrmB, nrmC]
    refine tk0 (i := 2) (oi := ⟨some 26, .move (.tmp 2), 23, "disk.go:74", #[], none⟩) (v := ?_) rfl (by kernel_rfl) (fun _ _ _ h => h) (fun _ => hF) (fun w => ?_) (by rfl) ?_
    rotate_left
    · first | (go_simp; done) | (go_simp; with_reducible rfl) | (go_split_ands; go_simp; done)
    try simp only [Act.put, nrmA, nrmB, nrmC]
    refine tk1 (i := 3) (oi := ⟨some 27, .call { callee := .builtin .len, args := #[.tmp 26], argTypes := #[23] }, 3, "disk.go:74", #[⟨2, .data⟩], none⟩) (v := ?_) [4, 9, 10, 21] rfl (by kernel_rfl) (fun _ _ _ h => h) hF (fun w hFw => ?_) (by rfl) ?_
    rotate_left
    · ((try dsimp only at hFw); first | (go_simp; done) | (go_simp; with_reducible rfl) | (go_split_ands; go_simp; done))
    try simp only [Act.put, nrmA, nrmB, nrmC]
    refine tk0 (i := 5) (oi := ⟨some 29, .move (.tmp 0), 29, "disk.go:74", #[], none⟩) (v := ?_) rfl (by kernel_rfl) (fun _ _ _ h => h) (fun _ => hF) (fun w => ?_) (by rfl) ?_
    rotate_left
    · first | (go_simp; done) | (go_simp; with_reducible rfl) | (go_split_ands; go_simp; done)
    try simp only [Act.put, nrmA, nrmB, nrmC]
    refine tk0 (i := 6) (oi := ⟨some 30, .nilCheck (.tmp 29), 0, "disk.go:74", #[⟨5, .data⟩], none⟩) (v := ?_) rfl (by kernel_rfl) (fun _ _ _ h => h) (fun _ => hF) (fun w => ?_) (by rfl) ?_
    rotate_left
    · first | (go_simp; done) | (go_simp; with_reducible rfl) | (go_split_ands; go_simp; done)
    try simp only [Act.put, nrmA, nrmB, nrmC]
    refine tk0 (i := 7) (oi := ⟨some 31, .fieldAddr 83 (.tmp 30) 0, 0, "disk.go:74", #[⟨6, .data⟩], none⟩) (v := ?_) rfl (by kernel_rfl) (fun _ _ _ h => h) (fun _ => hF) (fun w => ?_) (by rfl) ?_
    rotate_left
    · first | (go_simp; done) | (go_simp; with_reducible rfl) | (go_split_ands; go_simp; done)
    try simp only [Act.put, nrmA, nrmB, nrmC]
    refine tk1 (i := 8) (oi := ⟨some 32, .load 3 (.tmp 31), 3, "disk.go:74", #[⟨7, .data⟩], none⟩) (v := ?_) [9, 10, 21] rfl (by kernel_rfl) (fun _ _ _ h => h) hF (fun w hFw => ?_) (by rfl) ?_
    rotate_left
    · ((try dsimp only at hFw); first | (go_simp; done) | (go_simp; with_reducible rfl) | (go_split_ands; go_simp; done))
    try simp only [Act.put, nrmA, nrmB, nrmC]
    refine wpAnyJ_ready (rs := [1]) (by kernel_rfl) (by simp) ?_
    refine AllJ.cons1 (o := ⟨some 25, .call { callee := .value (.func 72), args := #[.tmp 24], argTypes := #[29] }, 3, "disk.go:74", #[⟨0, .data⟩], none⟩) rfl (fun Kr hKr => ?_)
    go_simp; go_at_call 72; refine (hus.out _ (s2.drew.own 0 rfl)).mono ?_; rintro e w4 ⟨rfl, hst⟩; have s4 := s2.drew.still hst
    refine hKr.out _ _ (fun hJ => ?_) (fun hF => ?_)
    · first
      | exact absurd hJ (by decide)
      | (clear hJ; (try dsimp only); all_goals (first | exact kf | exact hkf.out _ (s4.own 0 rfl)))
    clear hKr
    try simp only [Act.put, nrmA, nrmB, nrmC]
    refine tk0 (i := 4) (oi := ⟨some 28, .binOp .add 3 (.tmp 25) (.tmp 27) 3, 3, "disk.go:74", #[⟨1, .data⟩, ⟨3, .data⟩], none⟩) (v := ?_) rfl (by kernel_rfl) (fun _ _ _ h => h) (fun _ => hF (by kernel_rfl)) (fun w => ?_) (by rfl) ?_
    rotate_left
    · first | (go_simp; done) | (go_simp; with_reducible rfl) | (go_split_ands; go_simp; done)
    try simp only [Act.put, nrmA, nrmB, nrmC]
    refine tk0 (i := 9) (oi := ⟨some 33, .binOp .gtr 3 (.tmp 28) (.tmp 32) 3, 4, "disk.go:74", #[⟨4, .data⟩, ⟨8, .data⟩], none⟩) (v := ?_) rfl (by kernel_rfl) (fun _ _ _ h => h) (fun _ => hF (by kernel_rfl)) (fun w => ?_) (by rfl) ?_
    rotate_left
    · first | (go_simp; done) | (go_simp; with_reducible rfl) | (go_split_ands; go_simp; done)
    try simp only [Act.put, nrmA, nrmB, nrmC]
    refine tk0 (i := 10) (oi := ⟨some 34, .move (.tmp 33), 4, "disk.go:74", #[⟨9, .data⟩, ⟨1, .chain⟩], none⟩) (v := ?_) rfl (by kernel_rfl) (fun _ _ _ h => h) (fun _ => hF (by kernel_rfl)) (fun w => ?_) (by rfl) ?_
    rotate_left
    · first | (go_simp; done) | (go_simp; with_reducible rfl) | (go_split_ands; go_simp; done)
    try simp only [Act.put, nrmA, nrmB, nrmC]
    first
    | refine sk0 (i := 11) (oi := ⟨some 35, .move (.tmp 9), 4, "disk.go:74", #[⟨10, .guard⟩], some (10, false)⟩) rfl (by kernel_rfl) (fun _ _ _ h => h) (fun _ => hF (by kernel_rfl)) (by rfl) ?_
    | (refine tk0 (i := 11) (oi := ⟨some 35, .move (.tmp 9), 4, "disk.go:74", #[⟨10, .guard⟩], some (10, false)⟩) (v := ?_) rfl (by kernel_rfl) (fun _ _ _ h => h) (fun _ => hF (by kernel_rfl)) (fun w => ?_) (by rfl) ?_
       rotate_left
       · first | (go_simp; done) | (go_simp; with_reducible rfl) | (go_split_ands; go_simp; done))
    try simp only [Act.put, nrmA, nrmB, nrmC]
    first
    | refine sk0 (i := 12) (oi := ⟨some 36, .unOp .not 4 (.tmp 35), 4, "disk.go:74", #[⟨11, .data⟩, ⟨10, .guard⟩], some (10, false)⟩) rfl (by kernel_rfl) (fun _ _ _ h => h) (fun _ => hF (by kernel_rfl)) (by rfl) ?_
    | (refine tk0 (i := 12) (oi := ⟨some 36, .unOp .not 4 (.tmp 35), 4, "disk.go:74", #[⟨11, .data⟩, ⟨10, .guard⟩], some (10, false)⟩) (v := ?_) rfl (by kernel_rfl) (fun _ _ _ h => h) (fun _ => hF (by kernel_rfl)) (fun w => ?_) (by rfl) ?_
       rotate_left
       · first | (go_simp; done) | (go_simp; with_reducible rfl) | (go_split_ands; go_simp; done))
    try simp only [Act.put, nrmA, nrmB, nrmC]
    first
    | refine sk0 (i := 13) (oi := ⟨some 37, .move (.tmp 36), 4, "disk.go:74", #[⟨12, .data⟩, ⟨10, .chain⟩, ⟨10, .guard⟩], some (10, false)⟩) rfl (by kernel_rfl) (fun _ _ _ h => h) (fun _ => hF (by kernel_rfl)) (by rfl) ?_
    | (refine tk0 (i := 13) (oi := ⟨some 37, .move (.tmp 36), 4, "disk.go:74", #[⟨12, .data⟩, ⟨10, .chain⟩, ⟨10, .guard⟩], some (10, false)⟩) (v := ?_) rfl (by kernel_rfl) (fun _ _ _ h => h) (fun _ => hF (by kernel_rfl)) (fun w => ?_) (by rfl) ?_
       rotate_left
       · first | (go_simp; done) | (go_simp; with_reducible rfl) | (go_split_ands; go_simp; done))
    try simp only [Act.put, nrmA, nrmB, nrmC]
    first
    | refine sk0 (i := 14) (oi := ⟨some 38, .move (.tmp 0), 29, "disk.go:74", #[⟨13, .guard⟩], some (13, true)⟩) rfl (by kernel_rfl) (fun _ _ _ h => h) (fun _ => hF (by kernel_rfl)) (by rfl) ?_
    | (refine tk0 (i := 14) (oi := ⟨some 38, .move (.tmp 0), 29, "disk.go:74", #[⟨13, .guard⟩], some (13, true)⟩) (v := ?_) rfl (by kernel_rfl) (fun _ _ _ h => h) (fun _ => hF (by kernel_rfl)) (fun w => ?_) (by rfl) ?_
       rotate_left
       · first | (go_simp; done) | (go_simp; with_reducible rfl) | (go_split_ands; go_simp; done))
    try simp only [Act.put, nrmA, nrmB, nrmC]
    first
    | refine sk0 (i := 15) (oi := ⟨some 39, .nilCheck (.tmp 38), 0, "disk.go:74", #[⟨14, .data⟩, ⟨13, .guard⟩], some (13, true)⟩) rfl (by kernel_rfl) (fun _ _ _ h => h) (fun _ => hF (by kernel_rfl)) (by rfl) ?_
    | (refine tk0 (i := 15) (oi := ⟨some 39, .nilCheck (.tmp 38), 0, "disk.go:74", #[⟨14, .data⟩, ⟨13, .guard⟩], some (13, true)⟩) (v := ?_) rfl (by kernel_rfl) (fun _ _ _ h => h) (fun _ => hF (by kernel_rfl)) (fun w => ?_) (by rfl) ?_
       rotate_left
       · first | (go_simp; done) | (go_simp; with_reducible rfl) | (go_split_ands; go_simp; done))
    try simp only [Act.put, nrmA, nrmB, nrmC]
    first
    | refine sk0 (i := 16) (oi := ⟨some 40, .fieldAddr 83 (.tmp 39) 1, 0, "disk.go:74", #[⟨15, .data⟩, ⟨13, .guard⟩], some (13, true)⟩) rfl (by kernel_rfl) (fun _ _ _ h => h) (fun _ => hF (by kernel_rfl)) (by rfl) ?_
    | (refine tk0 (i := 16) (oi := ⟨some 40, .fieldAddr 83 (.tmp 39) 1, 0, "disk.go:74", #[⟨15, .data⟩, ⟨13, .guard⟩], some (13, true)⟩) (v := ?_) rfl (by kernel_rfl) (fun _ _ _ h => h) (fun _ => hF (by kernel_rfl)) (fun w => ?_) (by rfl) ?_
       rotate_left
       · first | (go_simp; done) | (go_simp; with_reducible rfl) | (go_split_ands; go_simp; done))
    try simp only [Act.put, nrmA, nrmB, nrmC]
    first
    | refine sk0 (i := 17) (oi := ⟨some 41, .load 81 (.tmp 40), 81, "disk.go:74", #[⟨16, .data⟩, ⟨13, .guard⟩], some (13, true)⟩) rfl (by kernel_rfl) (fun _ _ _ h => h) (fun _ => hF (by kernel_rfl)) (by rfl) ?_
    | (refine tk1 (i := 17) (oi := ⟨some 41, .load 81 (.tmp 40), 81, "disk.go:74", #[⟨16, .data⟩, ⟨13, .guard⟩], some (13, true)⟩) (v := ?_) [18, 19, 20, 21] rfl (by kernel_rfl) (fun _ _ _ h => h) (hF (by kernel_rfl)) (fun w hFw => ?_) (by rfl) ?_
       rotate_left
       · ((try dsimp only at hFw); first | (go_simp; done) | (go_simp; with_reducible rfl) | (go_split_ands; go_simp; done)))
    try simp only [Act.put, nrmA, nrmB, nrmC]
    first
    | refine sk0 (i := 18) (oi := ⟨some 42, .call { callee := .builtin .len, args := #[.tmp 41], argTypes := #[81] }, 3, "disk.go:74", #[⟨17, .data⟩, ⟨13, .guard⟩], some (13, true)⟩) rfl (by kernel_rfl) (fun _ _ _ h => h) (fun _ => hF (by kernel_rfl)) (by rfl) ?_
    | (refine tk1 (i := 18) (oi := ⟨some 42, .call { callee := .builtin .len, args := #[.tmp 41], argTypes := #[81] }, 3, "disk.go:74", #[⟨17, .data⟩, ⟨13, .guard⟩], some (13, true)⟩) (v := ?_) [19, 20, 21] rfl (by kernel_rfl) (fun _ _ _ h => h) (hF (by kernel_rfl)) (fun w hFw => ?_) (by rfl) ?_
       rotate_left
       · ((try dsimp only at hFw); first | (go_simp; done) | (go_simp; with_reducible rfl) | (go_split_ands; go_simp; done)))
    try simp only [Act.put, nrmA, nrmB, nrmC]
    first
    | refine sk0 (i := 19) (oi := ⟨some 43, .binOp .geq 3 (.tmp 42) (.const (.int .i64 4096)) 3, 4, "disk.go:74", #[⟨18, .data⟩, ⟨13, .guard⟩], some (13, true)⟩) rfl (by kernel_rfl) (fun _ _ _ h => h) (fun _ => hF (by kernel_rfl)) (by rfl) ?_
    | (refine tk0 (i := 19) (oi := ⟨some 43, .binOp .geq 3 (.tmp 42) (.const (.int .i64 4096)) 3, 4, "disk.go:74", #[⟨18, .data⟩, ⟨13, .guard⟩], some (13, true)⟩) (v := ?_) rfl (by kernel_rfl) (fun _ _ _ h => h) (fun _ => hF (by kernel_rfl)) (fun w => ?_) (by rfl) ?_
       rotate_left
       · first | (go_simp; done) | (go_simp; with_reducible rfl) | (go_split_ands; go_simp; done))
    try simp only [Act.put, nrmA, nrmB, nrmC]
    first
    | refine sk0 (i := 20) (oi := ⟨some 44, .pick (.tmp 37) (.tmp 43) (.const (.bool false)), 4, "disk.go:74", #[⟨13, .data⟩, ⟨19, .data⟩, ⟨10, .guard⟩], some (10, false)⟩) rfl (by kernel_rfl) (fun _ _ _ h => h) (fun _ => hF (by kernel_rfl)) (by rfl) ?_
    | (refine tk0 (i := 20) (oi := ⟨some 44, .pick (.tmp 37) (.tmp 43) (.const (.bool false)), 4, "disk.go:74", #[⟨13, .data⟩, ⟨19, .data⟩, ⟨10, .guard⟩], some (10, false)⟩) (v := ?_) rfl (by kernel_rfl) (fun _ _ _ h => h) (fun _ => hF (by kernel_rfl)) (fun w => ?_) (by rfl) ?_
       rotate_left
       · first | (go_simp; done) | (go_simp; with_reducible rfl) | (go_split_ands; go_simp; done))
    try simp only [Act.put, nrmA, nrmB, nrmC]
    refine wpAnyJ_ready (rs := [21]) (by kernel_rfl) (by simp) ?_
    refine AllJ.cons1 (o := ⟨some 45, .pick (.tmp 34) (.const (.bool true)) (.tmp 44), 4, "disk.go:74", #[⟨10, .data⟩, ⟨20, .data⟩], none⟩) rfl (fun Kr hKr => ?_)
    go_simp
    refine hKr.out _ _ (fun hJ => ?_) (fun hF => ?_)
    · first
      | exact absurd hJ (by decide)
      | (clear hJ; (try dsimp only); all_goals (first | exact kf | exact hkf.out _ (s4.own 0 rfl)))
    clear hKr
    try simp only [Act.put, nrmA, nrmB, nrmC]
    refine wpAnyJ_done (by kernel_rfl) ?_ _
    go_wp2_with fail
    go_ret
    exact ⟨rfl, H, hrep.out, s4.out (by simp)⟩
  · have hA2 : t = false ∧ 4096 ≤ l := hA.resolve_left h1
    obtain ⟨rfl, hm1⟩ := hA2
    have a1 : ¬ ((k.room : Int) < (u : Int) + (pl : Int)) := by omega
    have a2 : decide ((k.room : Int) < (u : Int) + (pl : Int)) = false := decide_eq_false a1
    have m1 : (4096 : Int) ≤ (l : Int) := by omega
    have m2 : decide ((4096 : Int) ≤ (l : Int)) = true := decide_eq_true m1
    clear hA h1 hm1
    go_enter Tryz.func31, Tryz.ntmps31
    go_wp2_with fail
    refine hmy.out.mono ?_
    rintro e w2 ⟨rfl, hst⟩
    have s2 : Sp w H w2 [H] := (s1.out.still hst).forget 1 rfl |>.perm (by simp)
    clear hst
    go_wp2_with fail
    refine (hsp.out _ (s2.own 0 rfl)).mono ?_
    rintro e w3 ⟨rfl, hst⟩
    replace s2 := s2.still hst
    clear hst
    go_upto_region 5 with fail
    have kf := hkf.out _ (s2.drew.own 0 rfl)
    refine wp_region_J 21 (fun w' => w'.cell? ⟨b, 0, none⟩ = some (iv k.room) ∧ w'.cell? ⟨b, 1, none⟩ = some (.slice a l c)) (by kernel_rfl) ?_ (fun hF => ?_)
    · (try dsimp only)
      all_goals (first | exact kf | exact hkf.out _ (s4.own 0 rfl))
    refine tk0 (i := 0) (oi := ⟨some 24, .move (.tmp 0), 29, "disk.go:74", #[], none⟩) (v := ?_) rfl (by kernel_rfl) (fun _ _ _ h => h) (fun _ => hF) (fun w => ?_) (by rfl) ?_
    rotate_left
    · first | (go_simp; done) | (go_simp; with_reducible rfl) | (go_split_ands; go_simp; done)
    try simp only [Act.put, nrmA, nrmB, nrmC]
    refine tk0 (i := 2) (oi := ⟨some 26, .move (.tmp 2), 23, "disk.go:74", #[], none⟩) (v := ?_) rfl (by kernel_rfl) (fun _ _ _ h => h) (fun _ => hF) (fun w => ?_) (by rfl) ?_
    rotate_left
    · first | (go_simp; done) | (go_simp; with_reducible rfl) | (go_split_ands; go_simp; done)
    try simp only [Act.put, nrmA, nrmB, nrmC]
    refine tk1 (i := 3) (oi := ⟨some 27, .call { callee := .builtin .len, args := #[.tmp 26], argTypes := #[23] }, 3, "disk.go:74", #[⟨2, .data⟩], none⟩) (v := ?_) [4, 9, 10, 21] rfl (by kernel_rfl) (fun _ _ _ h => h) hF (fun w hFw => ?_) (by rfl) ?_
    rotate_left
    · ((try dsimp only at hFw); first | (go_simp; done) | (go_simp; with_reducible rfl) | (go_split_ands; go_simp; done))
    try simp only [Act.put, nrmA, nrmB, nrmC]
    refine tk0 (i := 5) (oi := ⟨some 29, .move (.tmp 0), 29, "disk.go:74", #[], none⟩) (v := ?_) rfl (by kernel_rfl) (fun _ _ _ h => h) (fun _ => hF) (fun w => ?_) (by rfl) ?_
    rotate_left
    · first | (go_simp; done) | (go_simp; with_reducible rfl) | (go_split_ands; go_simp; done)
    try simp only [Act.put, nrmA, nrmB, nrmC]
    refine tk0 (i := 6) (oi := ⟨some 30, .nilCheck (.tmp 29), 0, "disk.go:74", #[⟨5, .data⟩], none⟩) (v := ?_) rfl (by kernel_rfl) (fun _ _ _ h => h) (fun _ => hF) (fun w => ?_) (by rfl) ?_
    rotate_left
    · first | (go_simp; done) | (go_simp; with_reducible rfl) | (go_split_ands; go_simp; done)
    try simp only [Act.put, nrmA, nrmB, nrmC]
    refine tk0 (i := 7) (oi := ⟨some 31, .fieldAddr 83 (.tmp 30) 0, 0, "disk.go:74", #[⟨6, .data⟩], none⟩) (v := ?_) rfl (by kernel_rfl) (fun _ _ _ h => h) (fun _ => hF) (fun w => ?_) (by rfl) ?_
    rotate_left
    · first | (go_simp; done) | (go_simp; with_reducible rfl) | (go_split_ands; go_simp; done)
    try simp only [Act.put, nrmA, nrmB, nrmC]
    refine tk1 (i := 8) (oi := ⟨some 32, .load 3 (.tmp 31), 3, "disk.go:74", #[⟨7, .data⟩], none⟩) (v := ?_) [9, 10, 21] rfl (by kernel_rfl) (fun _ _ _ h => h) hF (fun w hFw => ?_) (by rfl) ?_
    rotate_left
    · ((try dsimp only at hFw); first | (go_simp; done) | (go_simp; with_reducible rfl) | (go_split_ands; go_simp; done))
    try simp only [Act.put, nrmA, nrmB, nrmC]
    refine wpAnyJ_ready (rs := [1]) (by kernel_rfl) (by simp) ?_
    refine AllJ.cons1 (o := ⟨some 25, .call { callee := .value (.func 72), args := #[.tmp 24], argTypes := #[29] }, 3, "disk.go:74", #[⟨0, .data⟩], none⟩) rfl (fun Kr hKr => ?_)
    go_simp; go_at_call 72; refine (hus.out _ (s2.drew.own 0 rfl)).mono ?_; rintro e w4 ⟨rfl, hst⟩; have s4 := s2.drew.still hst
    refine hKr.out _ _ (fun hJ => ?_) (fun hF => ?_)
    · first
      | exact absurd hJ (by decide)
      | (clear hJ; (try dsimp only); all_goals (first | exact kf | exact hkf.out _ (s4.own 0 rfl)))
    clear hKr
    try simp only [Act.put, nrmA, nrmB, nrmC]
    refine tk0 (i := 4) (oi := ⟨some 28, .binOp .add 3 (.tmp 25) (.tmp 27) 3, 3, "disk.go:74", #[⟨1, .data⟩, ⟨3, .data⟩], none⟩) (v := ?_) rfl (by kernel_rfl) (fun _ _ _ h => h) (fun _ => hF (by kernel_rfl)) (fun w => ?_) (by rfl) ?_
    rotate_left
    · first | (go_simp; done) | (go_simp; with_reducible rfl) | (go_split_ands; go_simp; done)
    try simp only [Act.put, nrmA, nrmB, nrmC]
    refine tk0 (i := 9) (oi := ⟨some 33, .binOp .gtr 3 (.tmp 28) (.tmp 32) 3, 4, "disk.go:74", #[⟨4, .data⟩, ⟨8, .data⟩], none⟩) (v := ?_) rfl (by kernel_rfl) (fun _ _ _ h => h) (fun _ => hF (by kernel_rfl)) (fun w => ?_) (by rfl) ?_
    rotate_left
    · first | (go_simp; done) | (go_simp; with_reducible rfl) | (go_split_ands; go_simp; done)
    try simp only [Act.put, nrmA, nrmB, nrmC]
    refine tk0 (i := 10) (oi := ⟨some 34, .move (.tmp 33), 4, "disk.go:74", #[⟨9, .data⟩, ⟨1, .chain⟩], none⟩) (v := ?_) rfl (by kernel_rfl) (fun _ _ _ h => h) (fun _ => hF (by kernel_rfl)) (fun w => ?_) (by rfl) ?_
    rotate_left
    · first | (go_simp; done) | (go_simp; with_reducible rfl) | (go_split_ands; go_simp; done)
    try simp only [Act.put, nrmA, nrmB, nrmC]
    first
    | refine sk0 (i := 11) (oi := ⟨some 35, .move (.tmp 9), 4, "disk.go:74", #[⟨10, .guard⟩], some (10, false)⟩) rfl (by kernel_rfl) (fun _ _ _ h => h) (fun _ => hF (by kernel_rfl)) (by rfl) ?_
    | (refine tk0 (i := 11) (oi := ⟨some 35, .move (.tmp 9), 4, "disk.go:74", #[⟨10, .guard⟩], some (10, false)⟩) (v := ?_) rfl (by kernel_rfl) (fun _ _ _ h => h) (fun _ => hF (by kernel_rfl)) (fun w => ?_) (by rfl) ?_
       rotate_left
       · first | (go_simp; done) | (go_simp; with_reducible rfl) | (go_split_ands; go_simp; done))
    try simp only [Act.put, nrmA, nrmB, nrmC]
    first
    | refine sk0 (i := 12) (oi := ⟨some 36, .unOp .not 4 (.tmp 35), 4, "disk.go:74", #[⟨11, .data⟩, ⟨10, .guard⟩], some (10, false)⟩) rfl (by kernel_rfl) (fun _ _ _ h => h) (fun _ => hF (by kernel_rfl)) (by rfl) ?_
    | (refine tk0 (i := 12) (oi := ⟨some 36, .unOp .not 4 (.tmp 35), 4, "disk.go:74", #[⟨11, .data⟩, ⟨10, .guard⟩], some (10, false)⟩) (v := ?_) rfl (by kernel_rfl) (fun _ _ _ h => h) (fun _ => hF (by kernel_rfl)) (fun w => ?_) (by rfl) ?_
       rotate_left
       · first | (go_simp; done) | (go_simp; with_reducible rfl) | (go_split_ands; go_simp; done))
    try simp only [Act.put, nrmA, nrmB, nrmC]
    first
    | refine sk0 (i := 13) (oi := ⟨some 37, .move (.tmp 36), 4, "disk.go:74", #[⟨12, .data⟩, ⟨10, .chain⟩, ⟨10, .guard⟩], some (10, false)⟩) rfl (by kernel_rfl) (fun _ _ _ h => h) (fun _ => hF (by kernel_rfl)) (by rfl) ?_
    | (refine tk0 (i := 13) (oi := ⟨some 37, .move (.tmp 36), 4, "disk.go:74", #[⟨12, .data⟩, ⟨10, .chain⟩, ⟨10, .guard⟩], some (10, false)⟩) (v := ?_) rfl (by kernel_rfl) (fun _ _ _ h => h) (fun _ => hF (by kernel_rfl)) (fun w => ?_) (by rfl) ?_
       rotate_left
       · first | (go_simp; done) | (go_simp; with_reducible rfl) | (go_split_ands; go_simp; done))
    try simp only [Act.put, nrmA, nrmB, nrmC]
    first
    | refine sk0 (i := 14) (oi := ⟨some 38, .move (.tmp 0), 29, "disk.go:74", #[⟨13, .guard⟩], some (13, true)⟩) rfl (by kernel_rfl) (fun _ _ _ h => h) (fun _ => hF (by kernel_rfl)) (by rfl) ?_
    | (refine tk0 (i := 14) (oi := ⟨some 38, .move (.tmp 0), 29, "disk.go:74", #[⟨13, .guard⟩], some (13, true)⟩) (v := ?_) rfl (by kernel_rfl) (fun _ _ _ h => h) (fun _ => hF (by kernel_rfl)) (fun w => ?_) (by rfl) ?_
       rotate_left
       · first | (go_simp; done) | (go_simp; with_reducible rfl) | (go_split_ands; go_simp; done))
    try simp only [Act.put, nrmA, nrmB, nrmC]
    first
    | refine sk0 (i := 15) (oi := ⟨some 39, .nilCheck (.tmp 38), 0, "disk.go:74", #[⟨14, .data⟩, ⟨13, .guard⟩], some (13, true)⟩) rfl (by kernel_rfl) (fun _ _ _ h => h) (fun _ => hF (by kernel_rfl)) (by rfl) ?_
    | (refine tk0 (i := 15) (oi := ⟨some 39, .nilCheck (.tmp 38), 0, "disk.go:74", #[⟨14, .data⟩, ⟨13, .guard⟩], some (13, true)⟩) (v := ?_) rfl (by kernel_rfl) (fun _ _ _ h => h) (fun _ => hF (by kernel_rfl)) (fun w => ?_) (by rfl) ?_
       rotate_left
       · first | (go_simp; done) | (go_simp; with_reducible rfl) | (go_split_ands; go_simp; done))
    try simp only [Act.put, nrmA, nrmB, nrmC]
    first
    | refine sk0 (i := 16) (oi := ⟨some 40, .fieldAddr 83 (.tmp 39) 1, 0, "disk.go:74", #[⟨15, .data⟩, ⟨13, .guard⟩], some (13, true)⟩) rfl (by kernel_rfl) (fun _ _ _ h => h) (fun _ => hF (by kernel_rfl)) (by rfl) ?_
    | (refine tk0 (i := 16) (oi := ⟨some 40, .fieldAddr 83 (.tmp 39) 1, 0, "disk.go:74", #[⟨15, .data⟩, ⟨13, .guard⟩], some (13, true)⟩) (v := ?_) rfl (by kernel_rfl) (fun _ _ _ h => h) (fun _ => hF (by kernel_rfl)) (fun w => ?_) (by rfl) ?_
       rotate_left
       · first | (go_simp; done) | (go_simp; with_reducible rfl) | (go_split_ands; go_simp; done))
    try simp only [Act.put, nrmA, nrmB, nrmC]
    first
    | refine sk0 (i := 17) (oi := ⟨some 41, .load 81 (.tmp 40), 81, "disk.go:74", #[⟨16, .data⟩, ⟨13, .guard⟩], some (13, true)⟩) rfl (by kernel_rfl) (fun _ _ _ h => h) (fun _ => hF (by kernel_rfl)) (by rfl) ?_
    | (refine tk1 (i := 17) (oi := ⟨some 41, .load 81 (.tmp 40), 81, "disk.go:74", #[⟨16, .data⟩, ⟨13, .guard⟩], some (13, true)⟩) (v := ?_) [18, 19, 20, 21] rfl (by kernel_rfl) (fun _ _ _ h => h) (hF (by kernel_rfl)) (fun w hFw => ?_) (by rfl) ?_
       rotate_left
       · ((try dsimp only at hFw); first | (go_simp; done) | (go_simp; with_reducible rfl) | (go_split_ands; go_simp; done)))
    try simp only [Act.put, nrmA, nrmB, nrmC]
    first
    | refine sk0 (i := 18) (oi := ⟨some 42, .call { callee := .builtin .len, args := #[.tmp 41], argTypes := #[81] }, 3, "disk.go:74", #[⟨17, .data⟩, ⟨13, .guard⟩], some (13, true)⟩) rfl (by kernel_rfl) (fun _ _ _ h => h) (fun _ => hF (by kernel_rfl)) (by rfl) ?_
    | (refine tk1 (i := 18) (oi := ⟨some 42, .call { callee := .builtin .len, args := #[.tmp 41], argTypes := #[81] }, 3, "disk.go:74", #[⟨17, .data⟩, ⟨13, .guard⟩], some (13, true)⟩) (v := ?_) [19, 20, 21] rfl (by kernel_rfl) (fun _ _ _ h => h) (hF (by kernel_rfl)) (fun w hFw => ?_) (by rfl) ?_
       rotate_left
       · ((try dsimp only at hFw); first | (go_simp; done) | (go_simp; with_reducible rfl) | (go_split_ands; go_simp; done)))
    try simp only [Act.put, nrmA, nrmB, nrmC]
    first
    | refine sk0 (i := 19) (oi := ⟨some 43, .binOp .geq 3 (.tmp 42) (.const (.int .i64 4096)) 3, 4, "disk.go:74", #[⟨18, .data⟩, ⟨13, .guard⟩], some (13, true)⟩) rfl (by kernel_rfl) (fun _ _ _ h => h) (fun _ => hF (by kernel_rfl)) (by rfl) ?_
    | (refine tk0 (i := 19) (oi := ⟨some 43, .binOp .geq 3 (.tmp 42) (.const (.int .i64 4096)) 3, 4, "disk.go:74", #[⟨18, .data⟩, ⟨13, .guard⟩], some (13, true)⟩) (v := ?_) rfl (by kernel_rfl) (fun _ _ _ h => h) (fun _ => hF (by kernel_rfl)) (fun w => ?_) (by rfl) ?_
       rotate_left
       · first | (go_simp; done) | (go_simp; with_reducible rfl) | (go_split_ands; go_simp; done))
    try simp only [Act.put, nrmA, nrmB, nrmC]
    first
    | refine sk0 (i := 20) (oi := ⟨some 44, .pick (.tmp 37) (.tmp 43) (.const (.bool false)), 4, "disk.go:74", #[⟨13, .data⟩, ⟨19, .data⟩, ⟨10, .guard⟩], some (10, false)⟩) rfl (by kernel_rfl) (fun _ _ _ h => h) (fun _ => hF (by kernel_rfl)) (by rfl) ?_
    | (refine tk0 (i := 20) (oi := ⟨some 44, .pick (.tmp 37) (.tmp 43) (.const (.bool false)), 4, "disk.go:74", #[⟨13, .data⟩, ⟨19, .data⟩, ⟨10, .guard⟩], some (10, false)⟩) (v := ?_) rfl (by kernel_rfl) (fun _ _ _ h => h) (fun _ => hF (by kernel_rfl)) (fun w => ?_) (by rfl) ?_
       rotate_left
       · first | (go_simp; done) | (go_simp; with_reducible rfl) | (go_split_ands; go_simp; done))
    try simp only [Act.put, nrmA, nrmB, nrmC]
    refine wpAnyJ_ready (rs := [21]) (by kernel_rfl) (by simp) ?_
    refine AllJ.cons1 (o := ⟨some 45, .pick (.tmp 34) (.const (.bool true)) (.tmp 44), 4, "disk.go:74", #[⟨10, .data⟩, ⟨20, .data⟩], none⟩) rfl (fun Kr hKr => ?_)
    go_simp
    refine hKr.out _ _ (fun hJ => ?_) (fun hF => ?_)
    · first
      | exact absurd hJ (by decide)
      | (clear hJ; (try dsimp only); all_goals (first | exact kf | exact hkf.out _ (s4.own 0 rfl)))
    clear hKr
    try simp only [Act.put, nrmA, nrmB, nrmC]
    refine wpAnyJ_done (by kernel_rfl) ?_ _
    go_wp2_with fail
    go_ret
    exact ⟨rfl, H, hrep.out, s4.out (by simp)⟩
end Go.Proofs.YtdolbeonpkanpaaGreatDoor
