/- The reference's disk: Write, into a file that stands or that is refused. -/
import Derived.Test.YtebmbfiiadffjaaDrE
namespace Go.Proofs.Ytebmbfiiadffjaa
open Go.RowKit
attribute [local go_sem ↓] Go.wp_at_zero Go.wp_at_succ

set_option maxHeartbeats 4000000 in
set_option maxRecDepth 100000 in
/-- There is no room, whether the file stands or not. -/
theorem rwrite_full (b : Nat) (k : Dk) (H : Heaplet) (nm : Nm) (pa : Option Addr) (pc : Nat) (p : List UInt8) (w : World) (h : RkRep b k H) (hk : k.Ok) (hw : Own w H) (hpl : p.length ≤ 140737488355328) (hm : mayN k [nm] = 0)
    (hA : k.room < usedF k.L + p.length ∨ (isF k.L nm = false ∧ 4096 ≤ k.L.length)) :
    Calls Try.prog 38 #[pt b, strV nm, .slice pa p.length pc] w (RkPost b (6, k) H w) := by
  have s1 := (Sp.start hw).alloc (.cells #[strV nm] 9)
  have hmy := Lib.hid (may_any b k H w.heap.size 1 [nm] _ h (s1.own 0 rfl) (rdStrs_one w nm) (Nat.le_refl _) (by decide))
  rw [hm] at hmy
  have hsp := Lib.hid (fun W hW => spot_any b k H nm W h hW (by have := hk.many; omega))
  have hus := Lib.hid (fun W hW => rused_any b k H W h hW (by have := hk.many; omega) (by have := hk.used; have := hk.room; omega))
  have hrep := Lib.hid h
  have hu1 : (usedF k.L : Int) ≤ 1073741824 := by have := hk.used; have := hk.room; omega
  have hu2 : (k.room : Int) ≤ 1073741824 := by have := hk.room; omega
  have hl1 : (k.L.length : Int) ≤ 4096 := by have := hk.many; omega
  obtain ⟨a, c, R, X, hr, hok, hkk, hlf, hH⟩ := h
  have hkf : Hid (∀ W', Own W' H → W'.cell? ⟨b, 0, none⟩ = some (iv k.room) ∧ W'.cell? ⟨b, 1, none⟩ = some (.slice a k.L.length c)) := fun W' hW => by
    rw [hH] at hW
    have ⟨c0, c1, _⟩ := cells3 hW.h0
    exact ⟨c0, by rw [← hkk, List.length_map]; exact c1⟩
  replace s1 := Lib.hid s1
  replace hH := Lib.hid hH
  clear hr hok hkk hlf hm
  obtain ⟨u, hu⟩ : ∃ u, u = usedF k.L := ⟨_, rfl⟩
  obtain ⟨t, ht⟩ : ∃ t, t = isF k.L nm := ⟨_, rfl⟩
  obtain ⟨l, hl⟩ : ∃ l, l = k.L.length := ⟨_, rfl⟩
  obtain ⟨pl, hp⟩ : ∃ pl, pl = p.length := ⟨_, rfl⟩
  rw [← hu] at hA hus hu1
  rw [← ht] at hA hsp
  rw [← hl] at hkf hl1 hA
  rw [← hp] at hpl hA ⊢
  have w1 : IntKind.i64.wrap ((u : Int) + (pl : Int)) = (u : Int) + (pl : Int) := IntWalk.i64_in _ (by omega)
  replace hu := Lib.hid hu
  replace ht := Lib.hid ht
  replace hl := Lib.hid hl
  replace hp := Lib.hid hp
  by_cases h1 : k.room < u + pl
  · have a1 : (k.room : Int) < (u : Int) + (pl : Int) := by omega
    have a2 : decide ((k.room : Int) < (u : Int) + (pl : Int)) = true := decide_eq_true a1
    clear hA h1
    go_enter Try.func38, Try.ntmps38
    go_wp2_with fail
    refine hmy.out.mono ?_
    rintro e w2 ⟨rfl, hst⟩
    have s2 : Sp w H w2 [H] := (s1.out.still hst).forget 1 rfl |>.perm (by simp)
    clear hst
    go_wp2_with fail
    refine (hsp.out _ (s2.own 0 rfl)).mono ?_
    rintro e w3 ⟨rfl, hst⟩
    replace s2 := s2.still hst
    clear hst
    go_upto_region 5 with fail
    have kf := hkf.out _ (s2.drew.own 0 rfl)
    refine wp_region_J 21 (fun w' => w'.cell? ⟨b, 0, none⟩ = some (iv k.room) ∧ w'.cell? ⟨b, 1, none⟩ = some (.slice a l c)) (by kernel_rfl) ?_ (fun hF => ?_)
    · (try dsimp only)
      all_goals (first | exact kf | exact hkf.out _ (s4.own 0 rfl))
    refine wpAnyJ_take0 (i := 0) (oi := { dst := some 24, op := Go.Op.move (Go.Operand.tmp 0), type := 46, pos := "disk.go:74", after := #[], guard := none }) (v := ?_) rfl (by kernel_rfl) (by kernel_rfl) (by kernel_rfl) (by kernel_rfl) (fun _ _ _ h => h) (by first | exact fun _ => hF | exact fun _ => hF (by kernel_rfl)) (fun w => ?_) (by rfl) ?_
    rotate_left
    · first | (go_simp; done) | (go_simp; with_reducible rfl) | (go_split_ands; go_simp; done)
    try simp only [Act.put, List.setIfInBounds_toArray, List.set_cons_zero, List.set_cons_succ]
    refine wpAnyJ_take0 (i := 2) (oi := { dst := some 26, op := Go.Op.move (Go.Operand.tmp 2), type := 23, pos := "disk.go:74", after := #[], guard := none }) (v := ?_) rfl (by kernel_rfl) (by kernel_rfl) (by kernel_rfl) (by kernel_rfl) (fun _ _ _ h => h) (by first | exact fun _ => hF | exact fun _ => hF (by kernel_rfl)) (fun w => ?_) (by rfl) ?_
    rotate_left
    · first | (go_simp; done) | (go_simp; with_reducible rfl) | (go_split_ands; go_simp; done)
    try simp only [Act.put, List.setIfInBounds_toArray, List.set_cons_zero, List.set_cons_succ]
    refine wpAnyJ_take (i := 3) (oi := { dst := some 27, op := Go.Op.call { callee := Go.Callee.builtin Go.Builtin.len, args := #[Go.Operand.tmp 26], argTypes := #[23] }, type := 3, pos := "disk.go:74", after := #[{ on := 2, ground := Go.Ground.data }], guard := none }) (v := ?_) [4, 9, 10, 21] rfl (by kernel_rfl) (by kernel_rfl) (by kernel_rfl) (by kernel_rfl) (by kernel_rfl) (fun _ _ _ h => h) (by first | exact hF | exact hF (by kernel_rfl)) (fun w hFw => ?_) (by rfl) ?_
    rotate_left
    · ((try dsimp only at hFw); first | (go_simp; done) | (go_simp; with_reducible rfl) | (go_split_ands; go_simp; done))
    try simp only [Act.put, List.setIfInBounds_toArray, List.set_cons_zero, List.set_cons_succ]
    refine wpAnyJ_take0 (i := 5) (oi := { dst := some 29, op := Go.Op.move (Go.Operand.tmp 0), type := 46, pos := "disk.go:74", after := #[], guard := none }) (v := ?_) rfl (by kernel_rfl) (by kernel_rfl) (by kernel_rfl) (by kernel_rfl) (fun _ _ _ h => h) (by first | exact fun _ => hF | exact fun _ => hF (by kernel_rfl)) (fun w => ?_) (by rfl) ?_
    rotate_left
    · first | (go_simp; done) | (go_simp; with_reducible rfl) | (go_split_ands; go_simp; done)
    try simp only [Act.put, List.setIfInBounds_toArray, List.set_cons_zero, List.set_cons_succ]
    refine wpAnyJ_take0 (i := 6) (oi := { dst := some 30, op := Go.Op.nilCheck (Go.Operand.tmp 29), type := 0, pos := "disk.go:74", after := #[{ on := 5, ground := Go.Ground.data }], guard := none }) (v := ?_) rfl (by kernel_rfl) (by kernel_rfl) (by kernel_rfl) (by kernel_rfl) (fun _ _ _ h => h) (by first | exact fun _ => hF | exact fun _ => hF (by kernel_rfl)) (fun w => ?_) (by rfl) ?_
    rotate_left
    · first | (go_simp; done) | (go_simp; with_reducible rfl) | (go_split_ands; go_simp; done)
    try simp only [Act.put, List.setIfInBounds_toArray, List.set_cons_zero, List.set_cons_succ]
    refine wpAnyJ_take0 (i := 7) (oi := { dst := some 31, op := Go.Op.fieldAddr 75 (Go.Operand.tmp 30) 0, type := 0, pos := "disk.go:74", after := #[{ on := 6, ground := Go.Ground.data }], guard := none }) (v := ?_) rfl (by kernel_rfl) (by kernel_rfl) (by kernel_rfl) (by kernel_rfl) (fun _ _ _ h => h) (by first | exact fun _ => hF | exact fun _ => hF (by kernel_rfl)) (fun w => ?_) (by rfl) ?_
    rotate_left
    · first | (go_simp; done) | (go_simp; with_reducible rfl) | (go_split_ands; go_simp; done)
    try simp only [Act.put, List.setIfInBounds_toArray, List.set_cons_zero, List.set_cons_succ]
    refine wpAnyJ_take (i := 8) (oi := { dst := some 32, op := Go.Op.load 3 (Go.Operand.tmp 31), type := 3, pos := "disk.go:74", after := #[{ on := 7, ground := Go.Ground.data }], guard := none }) (v := ?_) [9, 10, 21] rfl (by kernel_rfl) (by kernel_rfl) (by kernel_rfl) (by kernel_rfl) (by kernel_rfl) (fun _ _ _ h => h) (by first | exact hF | exact hF (by kernel_rfl)) (fun w hFw => ?_) (by rfl) ?_
    rotate_left
    · ((try dsimp only at hFw); first | (go_simp; done) | (go_simp; with_reducible rfl) | (go_split_ands; go_simp; done))
    try simp only [Act.put, List.setIfInBounds_toArray, List.set_cons_zero, List.set_cons_succ]
    refine wpAnyJ_ready (rs := [1]) (by kernel_rfl) (by simp) ?_
    refine AllJ.cons (o := { dst := some 25, op := Go.Op.call { callee := Go.Callee.value (Go.Operand.func 49), args := #[Go.Operand.tmp 24], argTypes := #[46] }, type := 3, pos := "disk.go:74", after := #[{ on := 0, ground := Go.Ground.data }], guard := none }) rfl (fun Kr hKr => ?_) ?_
    · go_simp; go_at_call 49; refine (hus.out _ (s2.drew.own 0 rfl)).mono ?_; rintro e w4 ⟨rfl, hst⟩; have s4 := s2.drew.still hst
      refine hKr.out _ _ (fun hJ => ?_) (fun hF => ?_)
      · first
        | exact absurd hJ (by decide)
        | (clear hJ; (try dsimp only); all_goals (first | exact kf | exact hkf.out _ (s4.own 0 rfl)))
      clear hKr
      try simp only [Act.put, List.setIfInBounds_toArray, List.set_cons_zero, List.set_cons_succ]
      refine wpAnyJ_take0 (i := 4) (oi := { dst := some 28, op := Go.Op.binOp Go.BinOp.add 3 (Go.Operand.tmp 25) (Go.Operand.tmp 27) 3, type := 3, pos := "disk.go:74", after := #[{ on := 1, ground := Go.Ground.data }, { on := 3, ground := Go.Ground.data }], guard := none }) (v := ?_) rfl (by kernel_rfl) (by kernel_rfl) (by kernel_rfl) (by kernel_rfl) (fun _ _ _ h => h) (by first | exact fun _ => hF | exact fun _ => hF (by kernel_rfl)) (fun w => ?_) (by rfl) ?_
      rotate_left
      · first | (go_simp; done) | (go_simp; with_reducible rfl) | (go_split_ands; go_simp; done)
      try simp only [Act.put, List.setIfInBounds_toArray, List.set_cons_zero, List.set_cons_succ]
      refine wpAnyJ_take0 (i := 9) (oi := { dst := some 33, op := Go.Op.binOp Go.BinOp.gtr 3 (Go.Operand.tmp 28) (Go.Operand.tmp 32) 3, type := 4, pos := "disk.go:74", after := #[{ on := 4, ground := Go.Ground.data }, { on := 8, ground := Go.Ground.data }], guard := none }) (v := ?_) rfl (by kernel_rfl) (by kernel_rfl) (by kernel_rfl) (by kernel_rfl) (fun _ _ _ h => h) (by first | exact fun _ => hF | exact fun _ => hF (by kernel_rfl)) (fun w => ?_) (by rfl) ?_
      rotate_left
      · first | (go_simp; done) | (go_simp; with_reducible rfl) | (go_split_ands; go_simp; done)
      try simp only [Act.put, List.setIfInBounds_toArray, List.set_cons_zero, List.set_cons_succ]
      refine wpAnyJ_take0 (i := 10) (oi := { dst := some 34, op := Go.Op.move (Go.Operand.tmp 33), type := 4, pos := "disk.go:74", after := #[{ on := 9, ground := Go.Ground.data }, { on := 1, ground := Go.Ground.chain }], guard := none }) (v := ?_) rfl (by kernel_rfl) (by kernel_rfl) (by kernel_rfl) (by kernel_rfl) (fun _ _ _ h => h) (by first | exact fun _ => hF | exact fun _ => hF (by kernel_rfl)) (fun w => ?_) (by rfl) ?_
      rotate_left
      · first | (go_simp; done) | (go_simp; with_reducible rfl) | (go_split_ands; go_simp; done)
      try simp only [Act.put, List.setIfInBounds_toArray, List.set_cons_zero, List.set_cons_succ]
      first
      | refine wpAnyJ_skip0 (i := 11) (oi := { dst := some 35, op := Go.Op.move (Go.Operand.tmp 9), type := 4, pos := "disk.go:74", after := #[{ on := 10, ground := Go.Ground.guard }], guard := some (10, false) }) rfl (by kernel_rfl) (by kernel_rfl) (by kernel_rfl) (by kernel_rfl) (fun _ _ _ h => h) (by first | exact fun _ => hF | exact fun _ => hF (by kernel_rfl)) (by rfl) ?_
      | (refine wpAnyJ_take0 (i := 11) (oi := { dst := some 35, op := Go.Op.move (Go.Operand.tmp 9), type := 4, pos := "disk.go:74", after := #[{ on := 10, ground := Go.Ground.guard }], guard := some (10, false) }) (v := ?_) rfl (by kernel_rfl) (by kernel_rfl) (by kernel_rfl) (by kernel_rfl) (fun _ _ _ h => h) (by first | exact fun _ => hF | exact fun _ => hF (by kernel_rfl)) (fun w => ?_) (by rfl) ?_
         rotate_left
         · first | (go_simp; done) | (go_simp; with_reducible rfl) | (go_split_ands; go_simp; done))
      try simp only [Act.put, List.setIfInBounds_toArray, List.set_cons_zero, List.set_cons_succ]
      first
      | refine wpAnyJ_skip0 (i := 12) (oi := { dst := some 36, op := Go.Op.unOp Go.UnOp.not 4 (Go.Operand.tmp 35), type := 4, pos := "disk.go:74", after := #[{ on := 11, ground := Go.Ground.data }, { on := 10, ground := Go.Ground.guard }], guard := some (10, false) }) rfl (by kernel_rfl) (by kernel_rfl) (by kernel_rfl) (by kernel_rfl) (fun _ _ _ h => h) (by first | exact fun _ => hF | exact fun _ => hF (by kernel_rfl)) (by rfl) ?_
      | (refine wpAnyJ_take0 (i := 12) (oi := { dst := some 36, op := Go.Op.unOp Go.UnOp.not 4 (Go.Operand.tmp 35), type := 4, pos := "disk.go:74", after := #[{ on := 11, ground := Go.Ground.data }, { on := 10, ground := Go.Ground.guard }], guard := some (10, false) }) (v := ?_) rfl (by kernel_rfl) (by kernel_rfl) (by kernel_rfl) (by kernel_rfl) (fun _ _ _ h => h) (by first | exact fun _ => hF | exact fun _ => hF (by kernel_rfl)) (fun w => ?_) (by rfl) ?_
         rotate_left
         · first | (go_simp; done) | (go_simp; with_reducible rfl) | (go_split_ands; go_simp; done))
      try simp only [Act.put, List.setIfInBounds_toArray, List.set_cons_zero, List.set_cons_succ]
      first
      | refine wpAnyJ_skip0 (i := 13) (oi := { dst := some 37, op := Go.Op.move (Go.Operand.tmp 36), type := 4, pos := "disk.go:74", after := #[{ on := 12, ground := Go.Ground.data }, { on := 10, ground := Go.Ground.chain }, { on := 10, ground := Go.Ground.guard }], guard := some (10, false) }) rfl (by kernel_rfl) (by kernel_rfl) (by kernel_rfl) (by kernel_rfl) (fun _ _ _ h => h) (by first | exact fun _ => hF | exact fun _ => hF (by kernel_rfl)) (by rfl) ?_
      | (refine wpAnyJ_take0 (i := 13) (oi := { dst := some 37, op := Go.Op.move (Go.Operand.tmp 36), type := 4, pos := "disk.go:74", after := #[{ on := 12, ground := Go.Ground.data }, { on := 10, ground := Go.Ground.chain }, { on := 10, ground := Go.Ground.guard }], guard := some (10, false) }) (v := ?_) rfl (by kernel_rfl) (by kernel_rfl) (by kernel_rfl) (by kernel_rfl) (fun _ _ _ h => h) (by first | exact fun _ => hF | exact fun _ => hF (by kernel_rfl)) (fun w => ?_) (by rfl) ?_
         rotate_left
         · first | (go_simp; done) | (go_simp; with_reducible rfl) | (go_split_ands; go_simp; done))
      try simp only [Act.put, List.setIfInBounds_toArray, List.set_cons_zero, List.set_cons_succ]
      first
      | refine wpAnyJ_skip0 (i := 14) (oi := { dst := some 38, op := Go.Op.move (Go.Operand.tmp 0), type := 46, pos := "disk.go:74", after := #[{ on := 13, ground := Go.Ground.guard }], guard := some (13, true) }) rfl (by kernel_rfl) (by kernel_rfl) (by kernel_rfl) (by kernel_rfl) (fun _ _ _ h => h) (by first | exact fun _ => hF | exact fun _ => hF (by kernel_rfl)) (by rfl) ?_
      | (refine wpAnyJ_take0 (i := 14) (oi := { dst := some 38, op := Go.Op.move (Go.Operand.tmp 0), type := 46, pos := "disk.go:74", after := #[{ on := 13, ground := Go.Ground.guard }], guard := some (13, true) }) (v := ?_) rfl (by kernel_rfl) (by kernel_rfl) (by kernel_rfl) (by kernel_rfl) (fun _ _ _ h => h) (by first | exact fun _ => hF | exact fun _ => hF (by kernel_rfl)) (fun w => ?_) (by rfl) ?_
         rotate_left
         · first | (go_simp; done) | (go_simp; with_reducible rfl) | (go_split_ands; go_simp; done))
      try simp only [Act.put, List.setIfInBounds_toArray, List.set_cons_zero, List.set_cons_succ]
      first
      | refine wpAnyJ_skip0 (i := 15) (oi := { dst := some 39, op := Go.Op.nilCheck (Go.Operand.tmp 38), type := 0, pos := "disk.go:74", after := #[{ on := 14, ground := Go.Ground.data }, { on := 13, ground := Go.Ground.guard }], guard := some (13, true) }) rfl (by kernel_rfl) (by kernel_rfl) (by kernel_rfl) (by kernel_rfl) (fun _ _ _ h => h) (by first | exact fun _ => hF | exact fun _ => hF (by kernel_rfl)) (by rfl) ?_
      | (refine wpAnyJ_take0 (i := 15) (oi := { dst := some 39, op := Go.Op.nilCheck (Go.Operand.tmp 38), type := 0, pos := "disk.go:74", after := #[{ on := 14, ground := Go.Ground.data }, { on := 13, ground := Go.Ground.guard }], guard := some (13, true) }) (v := ?_) rfl (by kernel_rfl) (by kernel_rfl) (by kernel_rfl) (by kernel_rfl) (fun _ _ _ h => h) (by first | exact fun _ => hF | exact fun _ => hF (by kernel_rfl)) (fun w => ?_) (by rfl) ?_
         rotate_left
         · first | (go_simp; done) | (go_simp; with_reducible rfl) | (go_split_ands; go_simp; done))
      try simp only [Act.put, List.setIfInBounds_toArray, List.set_cons_zero, List.set_cons_succ]
      first
      | refine wpAnyJ_skip0 (i := 16) (oi := { dst := some 40, op := Go.Op.fieldAddr 75 (Go.Operand.tmp 39) 1, type := 0, pos := "disk.go:74", after := #[{ on := 15, ground := Go.Ground.data }, { on := 13, ground := Go.Ground.guard }], guard := some (13, true) }) rfl (by kernel_rfl) (by kernel_rfl) (by kernel_rfl) (by kernel_rfl) (fun _ _ _ h => h) (by first | exact fun _ => hF | exact fun _ => hF (by kernel_rfl)) (by rfl) ?_
      | (refine wpAnyJ_take0 (i := 16) (oi := { dst := some 40, op := Go.Op.fieldAddr 75 (Go.Operand.tmp 39) 1, type := 0, pos := "disk.go:74", after := #[{ on := 15, ground := Go.Ground.data }, { on := 13, ground := Go.Ground.guard }], guard := some (13, true) }) (v := ?_) rfl (by kernel_rfl) (by kernel_rfl) (by kernel_rfl) (by kernel_rfl) (fun _ _ _ h => h) (by first | exact fun _ => hF | exact fun _ => hF (by kernel_rfl)) (fun w => ?_) (by rfl) ?_
         rotate_left
         · first | (go_simp; done) | (go_simp; with_reducible rfl) | (go_split_ands; go_simp; done))
      try simp only [Act.put, List.setIfInBounds_toArray, List.set_cons_zero, List.set_cons_succ]
      first
      | refine wpAnyJ_skip0 (i := 17) (oi := { dst := some 41, op := Go.Op.load 73 (Go.Operand.tmp 40), type := 73, pos := "disk.go:74", after := #[{ on := 16, ground := Go.Ground.data }, { on := 13, ground := Go.Ground.guard }], guard := some (13, true) }) rfl (by kernel_rfl) (by kernel_rfl) (by kernel_rfl) (by kernel_rfl) (fun _ _ _ h => h) (by first | exact fun _ => hF | exact fun _ => hF (by kernel_rfl)) (by rfl) ?_
      | (refine wpAnyJ_take (i := 17) (oi := { dst := some 41, op := Go.Op.load 73 (Go.Operand.tmp 40), type := 73, pos := "disk.go:74", after := #[{ on := 16, ground := Go.Ground.data }, { on := 13, ground := Go.Ground.guard }], guard := some (13, true) }) (v := ?_) [18, 19, 20, 21] rfl (by kernel_rfl) (by kernel_rfl) (by kernel_rfl) (by kernel_rfl) (by kernel_rfl) (fun _ _ _ h => h) (by first | exact hF | exact hF (by kernel_rfl)) (fun w hFw => ?_) (by rfl) ?_
         rotate_left
         · ((try dsimp only at hFw); first | (go_simp; done) | (go_simp; with_reducible rfl) | (go_split_ands; go_simp; done)))
      try simp only [Act.put, List.setIfInBounds_toArray, List.set_cons_zero, List.set_cons_succ]
      first
      | refine wpAnyJ_skip0 (i := 18) (oi := { dst := some 42, op := Go.Op.call { callee := Go.Callee.builtin Go.Builtin.len, args := #[Go.Operand.tmp 41], argTypes := #[73] }, type := 3, pos := "disk.go:74", after := #[{ on := 17, ground := Go.Ground.data }, { on := 13, ground := Go.Ground.guard }], guard := some (13, true) }) rfl (by kernel_rfl) (by kernel_rfl) (by kernel_rfl) (by kernel_rfl) (fun _ _ _ h => h) (by first | exact fun _ => hF | exact fun _ => hF (by kernel_rfl)) (by rfl) ?_
      | (refine wpAnyJ_take (i := 18) (oi := { dst := some 42, op := Go.Op.call { callee := Go.Callee.builtin Go.Builtin.len, args := #[Go.Operand.tmp 41], argTypes := #[73] }, type := 3, pos := "disk.go:74", after := #[{ on := 17, ground := Go.Ground.data }, { on := 13, ground := Go.Ground.guard }], guard := some (13, true) }) (v := ?_) [19, 20, 21] rfl (by kernel_rfl) (by kernel_rfl) (by kernel_rfl) (by kernel_rfl) (by kernel_rfl) (fun _ _ _ h => h) (by first | exact hF | exact hF (by kernel_rfl)) (fun w hFw => ?_) (by rfl) ?_
         rotate_left
         · ((try dsimp only at hFw); first | (go_simp; done) | (go_simp; with_reducible rfl) | (go_split_ands; go_simp; done)))
      try simp only [Act.put, List.setIfInBounds_toArray, List.set_cons_zero, List.set_cons_succ]
      first
      | refine wpAnyJ_skip0 (i := 19) (oi := { dst := some 43, op := Go.Op.binOp Go.BinOp.geq 3 (Go.Operand.tmp 42) (Go.Operand.const (Go.Value.int Go.IntKind.i64 4096)) 3, type := 4, pos := "disk.go:74", after := #[{ on := 18, ground := Go.Ground.data }, { on := 13, ground := Go.Ground.guard }], guard := some (13, true) }) rfl (by kernel_rfl) (by kernel_rfl) (by kernel_rfl) (by kernel_rfl) (fun _ _ _ h => h) (by first | exact fun _ => hF | exact fun _ => hF (by kernel_rfl)) (by rfl) ?_
      | (refine wpAnyJ_take0 (i := 19) (oi := { dst := some 43, op := Go.Op.binOp Go.BinOp.geq 3 (Go.Operand.tmp 42) (Go.Operand.const (Go.Value.int Go.IntKind.i64 4096)) 3, type := 4, pos := "disk.go:74", after := #[{ on := 18, ground := Go.Ground.data }, { on := 13, ground := Go.Ground.guard }], guard := some (13, true) }) (v := ?_) rfl (by kernel_rfl) (by kernel_rfl) (by kernel_rfl) (by kernel_rfl) (fun _ _ _ h => h) (by first | exact fun _ => hF | exact fun _ => hF (by kernel_rfl)) (fun w => ?_) (by rfl) ?_
         rotate_left
         · first | (go_simp; done) | (go_simp; with_reducible rfl) | (go_split_ands; go_simp; done))
      try simp only [Act.put, List.setIfInBounds_toArray, List.set_cons_zero, List.set_cons_succ]
      first
      | refine wpAnyJ_skip0 (i := 20) (oi := { dst := some 44, op := Go.Op.pick (Go.Operand.tmp 37) (Go.Operand.tmp 43) (Go.Operand.const (Go.Value.bool false)), type := 4, pos := "disk.go:74", after := #[{ on := 13, ground := Go.Ground.data }, { on := 19, ground := Go.Ground.data }, { on := 10, ground := Go.Ground.guard }], guard := some (10, false) }) rfl (by kernel_rfl) (by kernel_rfl) (by kernel_rfl) (by kernel_rfl) (fun _ _ _ h => h) (by first | exact fun _ => hF | exact fun _ => hF (by kernel_rfl)) (by rfl) ?_
      | (refine wpAnyJ_take0 (i := 20) (oi := { dst := some 44, op := Go.Op.pick (Go.Operand.tmp 37) (Go.Operand.tmp 43) (Go.Operand.const (Go.Value.bool false)), type := 4, pos := "disk.go:74", after := #[{ on := 13, ground := Go.Ground.data }, { on := 19, ground := Go.Ground.data }, { on := 10, ground := Go.Ground.guard }], guard := some (10, false) }) (v := ?_) rfl (by kernel_rfl) (by kernel_rfl) (by kernel_rfl) (by kernel_rfl) (fun _ _ _ h => h) (by first | exact fun _ => hF | exact fun _ => hF (by kernel_rfl)) (fun w => ?_) (by rfl) ?_
         rotate_left
         · first | (go_simp; done) | (go_simp; with_reducible rfl) | (go_split_ands; go_simp; done))
      try simp only [Act.put, List.setIfInBounds_toArray, List.set_cons_zero, List.set_cons_succ]
      refine wpAnyJ_ready (rs := [21]) (by kernel_rfl) (by simp) ?_
      refine AllJ.cons (o := { dst := some 45, op := Go.Op.pick (Go.Operand.tmp 34) (Go.Operand.const (Go.Value.bool true)) (Go.Operand.tmp 44), type := 4, pos := "disk.go:74", after := #[{ on := 10, ground := Go.Ground.data }, { on := 20, ground := Go.Ground.data }], guard := none }) rfl (fun Kr hKr => ?_) ?_
      · go_simp
        refine hKr.out _ _ (fun hJ => ?_) (fun hF => ?_)
        · first
          | exact absurd hJ (by decide)
          | (clear hJ; (try dsimp only); all_goals (first | exact kf | exact hkf.out _ (s4.own 0 rfl)))
        clear hKr
        try simp only [Act.put, List.setIfInBounds_toArray, List.set_cons_zero, List.set_cons_succ]
        refine wpAnyJ_done (by kernel_rfl) ?_ _
        go_wp2_with fail
        go_ret
        exact ⟨rfl, H, hrep.out, s4.out (by simp)⟩
      exact AllJ.nil
    exact AllJ.nil
  · have hA2 : t = false ∧ 4096 ≤ l := hA.resolve_left h1
    obtain ⟨rfl, hm1⟩ := hA2
    have a1 : ¬ ((k.room : Int) < (u : Int) + (pl : Int)) := by omega
    have a2 : decide ((k.room : Int) < (u : Int) + (pl : Int)) = false := decide_eq_false a1
    have m1 : (4096 : Int) ≤ (l : Int) := by omega
    have m2 : decide ((4096 : Int) ≤ (l : Int)) = true := decide_eq_true m1
    clear hA h1 hm1
    go_enter Try.func38, Try.ntmps38
    go_wp2_with fail
    refine hmy.out.mono ?_
    rintro e w2 ⟨rfl, hst⟩
    have s2 : Sp w H w2 [H] := (s1.out.still hst).forget 1 rfl |>.perm (by simp)
    clear hst
    go_wp2_with fail
    refine (hsp.out _ (s2.own 0 rfl)).mono ?_
    rintro e w3 ⟨rfl, hst⟩
    replace s2 := s2.still hst
    clear hst
    go_upto_region 5 with fail
    have kf := hkf.out _ (s2.drew.own 0 rfl)
    refine wp_region_J 21 (fun w' => w'.cell? ⟨b, 0, none⟩ = some (iv k.room) ∧ w'.cell? ⟨b, 1, none⟩ = some (.slice a l c)) (by kernel_rfl) ?_ (fun hF => ?_)
    · (try dsimp only)
      all_goals (first | exact kf | exact hkf.out _ (s4.own 0 rfl))
    refine wpAnyJ_take0 (i := 0) (oi := { dst := some 24, op := Go.Op.move (Go.Operand.tmp 0), type := 46, pos := "disk.go:74", after := #[], guard := none }) (v := ?_) rfl (by kernel_rfl) (by kernel_rfl) (by kernel_rfl) (by kernel_rfl) (fun _ _ _ h => h) (by first | exact fun _ => hF | exact fun _ => hF (by kernel_rfl)) (fun w => ?_) (by rfl) ?_
    rotate_left
    · first | (go_simp; done) | (go_simp; with_reducible rfl) | (go_split_ands; go_simp; done)
    try simp only [Act.put, List.setIfInBounds_toArray, List.set_cons_zero, List.set_cons_succ]
    refine wpAnyJ_take0 (i := 2) (oi := { dst := some 26, op := Go.Op.move (Go.Operand.tmp 2), type := 23, pos := "disk.go:74", after := #[], guard := none }) (v := ?_) rfl (by kernel_rfl) (by kernel_rfl) (by kernel_rfl) (by kernel_rfl) (fun _ _ _ h => h) (by first | exact fun _ => hF | exact fun _ => hF (by kernel_rfl)) (fun w => ?_) (by rfl) ?_
    rotate_left
    · first | (go_simp; done) | (go_simp; with_reducible rfl) | (go_split_ands; go_simp; done)
    try simp only [Act.put, List.setIfInBounds_toArray, List.set_cons_zero, List.set_cons_succ]
    refine wpAnyJ_take (i := 3) (oi := { dst := some 27, op := Go.Op.call { callee := Go.Callee.builtin Go.Builtin.len, args := #[Go.Operand.tmp 26], argTypes := #[23] }, type := 3, pos := "disk.go:74", after := #[{ on := 2, ground := Go.Ground.data }], guard := none }) (v := ?_) [4, 9, 10, 21] rfl (by kernel_rfl) (by kernel_rfl) (by kernel_rfl) (by kernel_rfl) (by kernel_rfl) (fun _ _ _ h => h) (by first | exact hF | exact hF (by kernel_rfl)) (fun w hFw => ?_) (by rfl) ?_
    rotate_left
    · ((try dsimp only at hFw); first | (go_simp; done) | (go_simp; with_reducible rfl) | (go_split_ands; go_simp; done))
    try simp only [Act.put, List.setIfInBounds_toArray, List.set_cons_zero, List.set_cons_succ]
    refine wpAnyJ_take0 (i := 5) (oi := { dst := some 29, op := Go.Op.move (Go.Operand.tmp 0), type := 46, pos := "disk.go:74", after := #[], guard := none }) (v := ?_) rfl (by kernel_rfl) (by kernel_rfl) (by kernel_rfl) (by kernel_rfl) (fun _ _ _ h => h) (by first | exact fun _ => hF | exact fun _ => hF (by kernel_rfl)) (fun w => ?_) (by rfl) ?_
    rotate_left
    · first | (go_simp; done) | (go_simp; with_reducible rfl) | (go_split_ands; go_simp; done)
    try simp only [Act.put, List.setIfInBounds_toArray, List.set_cons_zero, List.set_cons_succ]
    refine wpAnyJ_take0 (i := 6) (oi := { dst := some 30, op := Go.Op.nilCheck (Go.Operand.tmp 29), type := 0, pos := "disk.go:74", after := #[{ on := 5, ground := Go.Ground.data }], guard := none }) (v := ?_) rfl (by kernel_rfl) (by kernel_rfl) (by kernel_rfl) (by kernel_rfl) (fun _ _ _ h => h) (by first | exact fun _ => hF | exact fun _ => hF (by kernel_rfl)) (fun w => ?_) (by rfl) ?_
    rotate_left
    · first | (go_simp; done) | (go_simp; with_reducible rfl) | (go_split_ands; go_simp; done)
    try simp only [Act.put, List.setIfInBounds_toArray, List.set_cons_zero, List.set_cons_succ]
    refine wpAnyJ_take0 (i := 7) (oi := { dst := some 31, op := Go.Op.fieldAddr 75 (Go.Operand.tmp 30) 0, type := 0, pos := "disk.go:74", after := #[{ on := 6, ground := Go.Ground.data }], guard := none }) (v := ?_) rfl (by kernel_rfl) (by kernel_rfl) (by kernel_rfl) (by kernel_rfl) (fun _ _ _ h => h) (by first | exact fun _ => hF | exact fun _ => hF (by kernel_rfl)) (fun w => ?_) (by rfl) ?_
    rotate_left
    · first | (go_simp; done) | (go_simp; with_reducible rfl) | (go_split_ands; go_simp; done)
    try simp only [Act.put, List.setIfInBounds_toArray, List.set_cons_zero, List.set_cons_succ]
    refine wpAnyJ_take (i := 8) (oi := { dst := some 32, op := Go.Op.load 3 (Go.Operand.tmp 31), type := 3, pos := "disk.go:74", after := #[{ on := 7, ground := Go.Ground.data }], guard := none }) (v := ?_) [9, 10, 21] rfl (by kernel_rfl) (by kernel_rfl) (by kernel_rfl) (by kernel_rfl) (by kernel_rfl) (fun _ _ _ h => h) (by first | exact hF | exact hF (by kernel_rfl)) (fun w hFw => ?_) (by rfl) ?_
    rotate_left
    · ((try dsimp only at hFw); first | (go_simp; done) | (go_simp; with_reducible rfl) | (go_split_ands; go_simp; done))
    try simp only [Act.put, List.setIfInBounds_toArray, List.set_cons_zero, List.set_cons_succ]
    refine wpAnyJ_ready (rs := [1]) (by kernel_rfl) (by simp) ?_
    refine AllJ.cons (o := { dst := some 25, op := Go.Op.call { callee := Go.Callee.value (Go.Operand.func 49), args := #[Go.Operand.tmp 24], argTypes := #[46] }, type := 3, pos := "disk.go:74", after := #[{ on := 0, ground := Go.Ground.data }], guard := none }) rfl (fun Kr hKr => ?_) ?_
    · go_simp; go_at_call 49; refine (hus.out _ (s2.drew.own 0 rfl)).mono ?_; rintro e w4 ⟨rfl, hst⟩; have s4 := s2.drew.still hst
      refine hKr.out _ _ (fun hJ => ?_) (fun hF => ?_)
      · first
        | exact absurd hJ (by decide)
        | (clear hJ; (try dsimp only); all_goals (first | exact kf | exact hkf.out _ (s4.own 0 rfl)))
      clear hKr
      try simp only [Act.put, List.setIfInBounds_toArray, List.set_cons_zero, List.set_cons_succ]
      refine wpAnyJ_take0 (i := 4) (oi := { dst := some 28, op := Go.Op.binOp Go.BinOp.add 3 (Go.Operand.tmp 25) (Go.Operand.tmp 27) 3, type := 3, pos := "disk.go:74", after := #[{ on := 1, ground := Go.Ground.data }, { on := 3, ground := Go.Ground.data }], guard := none }) (v := ?_) rfl (by kernel_rfl) (by kernel_rfl) (by kernel_rfl) (by kernel_rfl) (fun _ _ _ h => h) (by first | exact fun _ => hF | exact fun _ => hF (by kernel_rfl)) (fun w => ?_) (by rfl) ?_
      rotate_left
      · first | (go_simp; done) | (go_simp; with_reducible rfl) | (go_split_ands; go_simp; done)
      try simp only [Act.put, List.setIfInBounds_toArray, List.set_cons_zero, List.set_cons_succ]
      refine wpAnyJ_take0 (i := 9) (oi := { dst := some 33, op := Go.Op.binOp Go.BinOp.gtr 3 (Go.Operand.tmp 28) (Go.Operand.tmp 32) 3, type := 4, pos := "disk.go:74", after := #[{ on := 4, ground := Go.Ground.data }, { on := 8, ground := Go.Ground.data }], guard := none }) (v := ?_) rfl (by kernel_rfl) (by kernel_rfl) (by kernel_rfl) (by kernel_rfl) (fun _ _ _ h => h) (by first | exact fun _ => hF | exact fun _ => hF (by kernel_rfl)) (fun w => ?_) (by rfl) ?_
      rotate_left
      · first | (go_simp; done) | (go_simp; with_reducible rfl) | (go_split_ands; go_simp; done)
      try simp only [Act.put, List.setIfInBounds_toArray, List.set_cons_zero, List.set_cons_succ]
      refine wpAnyJ_take0 (i := 10) (oi := { dst := some 34, op := Go.Op.move (Go.Operand.tmp 33), type := 4, pos := "disk.go:74", after := #[{ on := 9, ground := Go.Ground.data }, { on := 1, ground := Go.Ground.chain }], guard := none }) (v := ?_) rfl (by kernel_rfl) (by kernel_rfl) (by kernel_rfl) (by kernel_rfl) (fun _ _ _ h => h) (by first | exact fun _ => hF | exact fun _ => hF (by kernel_rfl)) (fun w => ?_) (by rfl) ?_
      rotate_left
      · first | (go_simp; done) | (go_simp; with_reducible rfl) | (go_split_ands; go_simp; done)
      try simp only [Act.put, List.setIfInBounds_toArray, List.set_cons_zero, List.set_cons_succ]
      first
      | refine wpAnyJ_skip0 (i := 11) (oi := { dst := some 35, op := Go.Op.move (Go.Operand.tmp 9), type := 4, pos := "disk.go:74", after := #[{ on := 10, ground := Go.Ground.guard }], guard := some (10, false) }) rfl (by kernel_rfl) (by kernel_rfl) (by kernel_rfl) (by kernel_rfl) (fun _ _ _ h => h) (by first | exact fun _ => hF | exact fun _ => hF (by kernel_rfl)) (by rfl) ?_
      | (refine wpAnyJ_take0 (i := 11) (oi := { dst := some 35, op := Go.Op.move (Go.Operand.tmp 9), type := 4, pos := "disk.go:74", after := #[{ on := 10, ground := Go.Ground.guard }], guard := some (10, false) }) (v := ?_) rfl (by kernel_rfl) (by kernel_rfl) (by kernel_rfl) (by kernel_rfl) (fun _ _ _ h => h) (by first | exact fun _ => hF | exact fun _ => hF (by kernel_rfl)) (fun w => ?_) (by rfl) ?_
         rotate_left
         · first | (go_simp; done) | (go_simp; with_reducible rfl) | (go_split_ands; go_simp; done))
      try simp only [Act.put, List.setIfInBounds_toArray, List.set_cons_zero, List.set_cons_succ]
      first
      | refine wpAnyJ_skip0 (i := 12) (oi := { dst := some 36, op := Go.Op.unOp Go.UnOp.not 4 (Go.Operand.tmp 35), type := 4, pos := "disk.go:74", after := #[{ on := 11, ground := Go.Ground.data }, { on := 10, ground := Go.Ground.guard }], guard := some (10, false) }) rfl (by kernel_rfl) (by kernel_rfl) (by kernel_rfl) (by kernel_rfl) (fun _ _ _ h => h) (by first | exact fun _ => hF | exact fun _ => hF (by kernel_rfl)) (by rfl) ?_
      | (refine wpAnyJ_take0 (i := 12) (oi := { dst := some 36, op := Go.Op.unOp Go.UnOp.not 4 (Go.Operand.tmp 35), type := 4, pos := "disk.go:74", after := #[{ on := 11, ground := Go.Ground.data }, { on := 10, ground := Go.Ground.guard }], guard := some (10, false) }) (v := ?_) rfl (by kernel_rfl) (by kernel_rfl) (by kernel_rfl) (by kernel_rfl) (fun _ _ _ h => h) (by first | exact fun _ => hF | exact fun _ => hF (by kernel_rfl)) (fun w => ?_) (by rfl) ?_
         rotate_left
         · first | (go_simp; done) | (go_simp; with_reducible rfl) | (go_split_ands; go_simp; done))
      try simp only [Act.put, List.setIfInBounds_toArray, List.set_cons_zero, List.set_cons_succ]
      first
      | refine wpAnyJ_skip0 (i := 13) (oi := { dst := some 37, op := Go.Op.move (Go.Operand.tmp 36), type := 4, pos := "disk.go:74", after := #[{ on := 12, ground := Go.Ground.data }, { on := 10, ground := Go.Ground.chain }, { on := 10, ground := Go.Ground.guard }], guard := some (10, false) }) rfl (by kernel_rfl) (by kernel_rfl) (by kernel_rfl) (by kernel_rfl) (fun _ _ _ h => h) (by first | exact fun _ => hF | exact fun _ => hF (by kernel_rfl)) (by rfl) ?_
      | (refine wpAnyJ_take0 (i := 13) (oi := { dst := some 37, op := Go.Op.move (Go.Operand.tmp 36), type := 4, pos := "disk.go:74", after := #[{ on := 12, ground := Go.Ground.data }, { on := 10, ground := Go.Ground.chain }, { on := 10, ground := Go.Ground.guard }], guard := some (10, false) }) (v := ?_) rfl (by kernel_rfl) (by kernel_rfl) (by kernel_rfl) (by kernel_rfl) (fun _ _ _ h => h) (by first | exact fun _ => hF | exact fun _ => hF (by kernel_rfl)) (fun w => ?_) (by rfl) ?_
         rotate_left
         · first | (go_simp; done) | (go_simp; with_reducible rfl) | (go_split_ands; go_simp; done))
      try simp only [Act.put, List.setIfInBounds_toArray, List.set_cons_zero, List.set_cons_succ]
      first
      | refine wpAnyJ_skip0 (i := 14) (oi := { dst := some 38, op := Go.Op.move (Go.Operand.tmp 0), type := 46, pos := "disk.go:74", after := #[{ on := 13, ground := Go.Ground.guard }], guard := some (13, true) }) rfl (by kernel_rfl) (by kernel_rfl) (by kernel_rfl) (by kernel_rfl) (fun _ _ _ h => h) (by first | exact fun _ => hF | exact fun _ => hF (by kernel_rfl)) (by rfl) ?_
      | (refine wpAnyJ_take0 (i := 14) (oi := { dst := some 38, op := Go.Op.move (Go.Operand.tmp 0), type := 46, pos := "disk.go:74", after := #[{ on := 13, ground := Go.Ground.guard }], guard := some (13, true) }) (v := ?_) rfl (by kernel_rfl) (by kernel_rfl) (by kernel_rfl) (by kernel_rfl) (fun _ _ _ h => h) (by first | exact fun _ => hF | exact fun _ => hF (by kernel_rfl)) (fun w => ?_) (by rfl) ?_
         rotate_left
         · first | (go_simp; done) | (go_simp; with_reducible rfl) | (go_split_ands; go_simp; done))
      try simp only [Act.put, List.setIfInBounds_toArray, List.set_cons_zero, List.set_cons_succ]
      first
      | refine wpAnyJ_skip0 (i := 15) (oi := { dst := some 39, op := Go.Op.nilCheck (Go.Operand.tmp 38), type := 0, pos := "disk.go:74", after := #[{ on := 14, ground := Go.Ground.data }, { on := 13, ground := Go.Ground.guard }], guard := some (13, true) }) rfl (by kernel_rfl) (by kernel_rfl) (by kernel_rfl) (by kernel_rfl) (fun _ _ _ h => h) (by first | exact fun _ => hF | exact fun _ => hF (by kernel_rfl)) (by rfl) ?_
      | (refine wpAnyJ_take0 (i := 15) (oi := { dst := some 39, op := Go.Op.nilCheck (Go.Operand.tmp 38), type := 0, pos := "disk.go:74", after := #[{ on := 14, ground := Go.Ground.data }, { on := 13, ground := Go.Ground.guard }], guard := some (13, true) }) (v := ?_) rfl (by kernel_rfl) (by kernel_rfl) (by kernel_rfl) (by kernel_rfl) (fun _ _ _ h => h) (by first | exact fun _ => hF | exact fun _ => hF (by kernel_rfl)) (fun w => ?_) (by rfl) ?_
         rotate_left
         · first | (go_simp; done) | (go_simp; with_reducible rfl) | (go_split_ands; go_simp; done))
      try simp only [Act.put, List.setIfInBounds_toArray, List.set_cons_zero, List.set_cons_succ]
      first
      | refine wpAnyJ_skip0 (i := 16) (oi := { dst := some 40, op := Go.Op.fieldAddr 75 (Go.Operand.tmp 39) 1, type := 0, pos := "disk.go:74", after := #[{ on := 15, ground := Go.Ground.data }, { on := 13, ground := Go.Ground.guard }], guard := some (13, true) }) rfl (by kernel_rfl) (by kernel_rfl) (by kernel_rfl) (by kernel_rfl) (fun _ _ _ h => h) (by first | exact fun _ => hF | exact fun _ => hF (by kernel_rfl)) (by rfl) ?_
      | (refine wpAnyJ_take0 (i := 16) (oi := { dst := some 40, op := Go.Op.fieldAddr 75 (Go.Operand.tmp 39) 1, type := 0, pos := "disk.go:74", after := #[{ on := 15, ground := Go.Ground.data }, { on := 13, ground := Go.Ground.guard }], guard := some (13, true) }) (v := ?_) rfl (by kernel_rfl) (by kernel_rfl) (by kernel_rfl) (by kernel_rfl) (fun _ _ _ h => h) (by first | exact fun _ => hF | exact fun _ => hF (by kernel_rfl)) (fun w => ?_) (by rfl) ?_
         rotate_left
         · first | (go_simp; done) | (go_simp; with_reducible rfl) | (go_split_ands; go_simp; done))
      try simp only [Act.put, List.setIfInBounds_toArray, List.set_cons_zero, List.set_cons_succ]
      first
      | refine wpAnyJ_skip0 (i := 17) (oi := { dst := some 41, op := Go.Op.load 73 (Go.Operand.tmp 40), type := 73, pos := "disk.go:74", after := #[{ on := 16, ground := Go.Ground.data }, { on := 13, ground := Go.Ground.guard }], guard := some (13, true) }) rfl (by kernel_rfl) (by kernel_rfl) (by kernel_rfl) (by kernel_rfl) (fun _ _ _ h => h) (by first | exact fun _ => hF | exact fun _ => hF (by kernel_rfl)) (by rfl) ?_
      | (refine wpAnyJ_take (i := 17) (oi := { dst := some 41, op := Go.Op.load 73 (Go.Operand.tmp 40), type := 73, pos := "disk.go:74", after := #[{ on := 16, ground := Go.Ground.data }, { on := 13, ground := Go.Ground.guard }], guard := some (13, true) }) (v := ?_) [18, 19, 20, 21] rfl (by kernel_rfl) (by kernel_rfl) (by kernel_rfl) (by kernel_rfl) (by kernel_rfl) (fun _ _ _ h => h) (by first | exact hF | exact hF (by kernel_rfl)) (fun w hFw => ?_) (by rfl) ?_
         rotate_left
         · ((try dsimp only at hFw); first | (go_simp; done) | (go_simp; with_reducible rfl) | (go_split_ands; go_simp; done)))
      try simp only [Act.put, List.setIfInBounds_toArray, List.set_cons_zero, List.set_cons_succ]
      first
      | refine wpAnyJ_skip0 (i := 18) (oi := { dst := some 42, op := Go.Op.call { callee := Go.Callee.builtin Go.Builtin.len, args := #[Go.Operand.tmp 41], argTypes := #[73] }, type := 3, pos := "disk.go:74", after := #[{ on := 17, ground := Go.Ground.data }, { on := 13, ground := Go.Ground.guard }], guard := some (13, true) }) rfl (by kernel_rfl) (by kernel_rfl) (by kernel_rfl) (by kernel_rfl) (fun _ _ _ h => h) (by first | exact fun _ => hF | exact fun _ => hF (by kernel_rfl)) (by rfl) ?_
      | (refine wpAnyJ_take (i := 18) (oi := { dst := some 42, op := Go.Op.call { callee := Go.Callee.builtin Go.Builtin.len, args := #[Go.Operand.tmp 41], argTypes := #[73] }, type := 3, pos := "disk.go:74", after := #[{ on := 17, ground := Go.Ground.data }, { on := 13, ground := Go.Ground.guard }], guard := some (13, true) }) (v := ?_) [19, 20, 21] rfl (by kernel_rfl) (by kernel_rfl) (by kernel_rfl) (by kernel_rfl) (by kernel_rfl) (fun _ _ _ h => h) (by first | exact hF | exact hF (by kernel_rfl)) (fun w hFw => ?_) (by rfl) ?_
         rotate_left
         · ((try dsimp only at hFw); first | (go_simp; done) | (go_simp; with_reducible rfl) | (go_split_ands; go_simp; done)))
      try simp only [Act.put, List.setIfInBounds_toArray, List.set_cons_zero, List.set_cons_succ]
      first
      | refine wpAnyJ_skip0 (i := 19) (oi := { dst := some 43, op := Go.Op.binOp Go.BinOp.geq 3 (Go.Operand.tmp 42) (Go.Operand.const (Go.Value.int Go.IntKind.i64 4096)) 3, type := 4, pos := "disk.go:74", after := #[{ on := 18, ground := Go.Ground.data }, { on := 13, ground := Go.Ground.guard }], guard := some (13, true) }) rfl (by kernel_rfl) (by kernel_rfl) (by kernel_rfl) (by kernel_rfl) (fun _ _ _ h => h) (by first | exact fun _ => hF | exact fun _ => hF (by kernel_rfl)) (by rfl) ?_
      | (refine wpAnyJ_take0 (i := 19) (oi := { dst := some 43, op := Go.Op.binOp Go.BinOp.geq 3 (Go.Operand.tmp 42) (Go.Operand.const (Go.Value.int Go.IntKind.i64 4096)) 3, type := 4, pos := "disk.go:74", after := #[{ on := 18, ground := Go.Ground.data }, { on := 13, ground := Go.Ground.guard }], guard := some (13, true) }) (v := ?_) rfl (by kernel_rfl) (by kernel_rfl) (by kernel_rfl) (by kernel_rfl) (fun _ _ _ h => h) (by first | exact fun _ => hF | exact fun _ => hF (by kernel_rfl)) (fun w => ?_) (by rfl) ?_
         rotate_left
         · first | (go_simp; done) | (go_simp; with_reducible rfl) | (go_split_ands; go_simp; done))
      try simp only [Act.put, List.setIfInBounds_toArray, List.set_cons_zero, List.set_cons_succ]
      first
      | refine wpAnyJ_skip0 (i := 20) (oi := { dst := some 44, op := Go.Op.pick (Go.Operand.tmp 37) (Go.Operand.tmp 43) (Go.Operand.const (Go.Value.bool false)), type := 4, pos := "disk.go:74", after := #[{ on := 13, ground := Go.Ground.data }, { on := 19, ground := Go.Ground.data }, { on := 10, ground := Go.Ground.guard }], guard := some (10, false) }) rfl (by kernel_rfl) (by kernel_rfl) (by kernel_rfl) (by kernel_rfl) (fun _ _ _ h => h) (by first | exact fun _ => hF | exact fun _ => hF (by kernel_rfl)) (by rfl) ?_
      | (refine wpAnyJ_take0 (i := 20) (oi := { dst := some 44, op := Go.Op.pick (Go.Operand.tmp 37) (Go.Operand.tmp 43) (Go.Operand.const (Go.Value.bool false)), type := 4, pos := "disk.go:74", after := #[{ on := 13, ground := Go.Ground.data }, { on := 19, ground := Go.Ground.data }, { on := 10, ground := Go.Ground.guard }], guard := some (10, false) }) (v := ?_) rfl (by kernel_rfl) (by kernel_rfl) (by kernel_rfl) (by kernel_rfl) (fun _ _ _ h => h) (by first | exact fun _ => hF | exact fun _ => hF (by kernel_rfl)) (fun w => ?_) (by rfl) ?_
         rotate_left
         · first | (go_simp; done) | (go_simp; with_reducible rfl) | (go_split_ands; go_simp; done))
      try simp only [Act.put, List.setIfInBounds_toArray, List.set_cons_zero, List.set_cons_succ]
      refine wpAnyJ_ready (rs := [21]) (by kernel_rfl) (by simp) ?_
      refine AllJ.cons (o := { dst := some 45, op := Go.Op.pick (Go.Operand.tmp 34) (Go.Operand.const (Go.Value.bool true)) (Go.Operand.tmp 44), type := 4, pos := "disk.go:74", after := #[{ on := 10, ground := Go.Ground.data }, { on := 20, ground := Go.Ground.data }], guard := none }) rfl (fun Kr hKr => ?_) ?_
      · go_simp
        refine hKr.out _ _ (fun hJ => ?_) (fun hF => ?_)
        · first
          | exact absurd hJ (by decide)
          | (clear hJ; (try dsimp only); all_goals (first | exact kf | exact hkf.out _ (s4.own 0 rfl)))
        clear hKr
        try simp only [Act.put, List.setIfInBounds_toArray, List.set_cons_zero, List.set_cons_succ]
        refine wpAnyJ_done (by kernel_rfl) ?_ _
        go_wp2_with fail
        go_ret
        exact ⟨rfl, H, hrep.out, s4.out (by simp)⟩
      exact AllJ.nil
    exact AllJ.nil
end Go.Proofs.Ytebmbfiiadffjaa
