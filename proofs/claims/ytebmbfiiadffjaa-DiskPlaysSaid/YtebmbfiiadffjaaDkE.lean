/- The program's disk: cut. -/
import Derived.Test.YtebmbfiiadffjaaDkD
namespace Go.Proofs.Ytebmbfiiadffjaa
open Go.RowKit
attribute [local go_sem ↓] Go.wp_at_zero Go.wp_at_succ

set_option maxHeartbeats 4000000 in
set_option maxRecDepth 100000 in
theorem cut_any (b : Nat) (k : Dk) (H : Heaplet) (ng nc : Nat) (nm : Nm) (n : Int) (pa : Option Addr) (pn pc : Nat) (w : World) (h : DkRep b k H) (hk : k.Ok) (hw : Own w H) (hg : RdStrs w ng [nm]) (hc : 1 ≤ nc) :
    Calls Try.prog 50 #[pt b, .agg #[.slice (some ⟨ng, 0, none⟩) 1 nc, ii n, .slice pa pn pc]] w (DkPost b (cuI nm n k) H w) := by
  have hrep := Lib.hid h
  obtain ⟨r, o, fu, lf, X, hm, hok, hp, hf, rfl⟩ := h
  have s1 := (Sp.start hw).alloc (.cells #[.slice (some ⟨ng, 0, none⟩) 1 nc, ii n, .slice pa pn pc] 64)
  have hg1 := hg.later (Step.of_alloc w (.cells #[.slice (some ⟨ng, 0, none⟩) 1 nc, ii n, .slice pa pn pc] 64))
  go_enter Try.func50, Try.ntmps50
  go_upto_region 1 with fail
  generalize (w.alloc (.cells #[.slice (some ⟨ng, 0, none⟩) 1 nc, ii n, .slice pa pn pc] 64)) = W at s1 hg1 ⊢
  generalize w.heap.size = bx at s1 ⊢
  have g0 := hg1 0 nm rfl
  have hos := s1.own 0 rfl
  have ⟨c0, c1, c2, c3⟩ := cells4 hos.h0
  have ⟨d0, d1, d2⟩ := cells3 (s1.one 1 rfl)
  by_cases hi : isF k.L nm = true
  · obtain ⟨A, x, B, rfl, rfl, hget, hput, _⟩ := fe_find hp hk.sorted hi
    have hlk : ∀ nq, (Instr.lookup 58 (.map (some r)) (strV x.nm) false).run Try.prog (W.drewN nq) = .ok (pt x.fb) (W.drewN nq) := fun nq => look_yes hm (by exact hos.h1)
    have ⟨e0, e1⟩ := cells2 (fe_has (x := x) (by simp) hos.tail.tail)
    have fz := fun i => frz_of (i := i) (fe_has (x := x) (by simp) hos.tail.tail)
    have hxb := heap_lt (fe_has (x := x) (by simp) hos.tail.tail)
    have hxo := hok x (by simp)
    obtain ⟨q1, q2⟩ := hxo.le
    have hlx : x.n ≤ x.d.length := by have := get_lasts hk hi; rw [← hget] at this; exact this
    have hr : Hid (cuI x.nm n k = if n < 0 ∨ (x.d.length : Int) < n then (1, k) else (0, { k with L := setF k.L x.nm (x.d.take n.toNat, min x.n n.toNat) })) := by
      show _ = _; unfold cuI; rw [if_pos hi, ← hget]
    replace hm := Lib.hid hm
    replace hput := Lib.hid hput
    replace hok := Lib.hid hok
    replace hxo := Lib.hid hxo
    replace hget := Lib.hid hget
    replace s1 := Lib.hid s1
    clear hos hg1 hg hp hi hw
    by_cases n0 : n < 0
    · have hr' : Hid (cuI x.nm n k = (1, k)) := by show _ = _; rw [hr.out, if_pos (.inl n0)]
      clear hr
      go_quiet (fail)
      go_wp2_with fail
      go_quiet (fail)
      go_wp2_with fail
      go_ret
      rw [hr'.out]
      exact ⟨rfl, _, hrep.out, ((s1.out.drewN _).drewN _).first⟩
    · obtain ⟨m, rfl⟩ := Int.eq_ofNat_of_zero_le (show 0 ≤ n by omega)
      by_cases n1 : (x.d.length : Int) < (m : Int)
      · have hr' : Hid (cuI x.nm m k = (1, k)) := by show _ = _; rw [hr.out, if_pos (.inr n1)]
        clear hr n0
        have n0 : (0 : Int) ≤ (m : Int) := by omega
        go_quiet (fail)
        go_wp2_with fail
        go_quiet (fail)
        go_wp2_with fail
        go_ret
        rw [hr'.out]
        exact ⟨rfl, _, hrep.out, ((s1.out.drewN _).drewN _).first⟩
      · have hr' : Hid (cuI x.nm m k = (0, { k with L := setF k.L x.nm (x.d.take m, min x.n m) })) := by
          show _ = _; rw [hr.out, if_neg (by omega), Int.toNat_natCast]
        clear hr n0
        have n0 : (0 : Int) ≤ (m : Int) := by omega
        have n2 : (m : Int) ≤ (x.d.length : Int) := by omega
        have n3 : m ≤ x.d.length := by omega
        have n4 : m ≤ x.c := by omega
        have n5 : (m : Int) ≤ (x.c : Int) := by omega
        have hcut := Lib.hid (hxo.out.cut n3 (Nat.le_refl m) n4)
        clear n1 hrep
        go_quiet (fail)
        have s2 := s1.out.drewN nq
        go_wp2_with fail
        go_quiet (fail)
        go_wp2_with fail
        have s3 := s2.drewN nq
        refine Sp.gen s3 ?_
        clear s2 s3 s1 c0 c1 c2 c3 d0 d1 d2 e0 e1 fz hxb g0 hlk
        intro W3 s3
        have hos := s3.own 0 rfl
        have ⟨d0, d1, d2⟩ := cells3 (s3.one 1 rfl)
        have ⟨e0, e1⟩ := cells2 (fe_has (x := x) (by simp) hos.tail.tail)
        have fz := fun i => frz_of (i := i) (fe_has (x := x) (by simp) hos.tail.tail)
        have hxb := heap_lt (fe_has (x := x) (by simp) hos.tail.tail)
        clear hos
        have hl : (x.d.take m).length = m := by rw [List.length_take]; omega
        have s4 := s3.drew.put 0 rfl (fe_store0 (Step.refl (s3.drew.own 0 rfl)) x.a (x.d.take m) m m hl)
        replace s4 := Lib.hid s4
        replace hl := Lib.hid hl
        refine wp_region_J 12 (fun w' => w' = W3.drew) (by kernel_rfl) ?_ (fun hF => ?_)
        · (try dsimp only)
          all_goals (rfl)
        refine wpAnyJ_take0 (i := 0) (oi := { dst := some 32, op := Go.Op.move (Go.Operand.tmp 5), type := 65, pos := "disk.go:111", after := #[], guard := none }) (v := ?_) rfl (by kernel_rfl) (by kernel_rfl) (by kernel_rfl) (by kernel_rfl) (fun _ _ _ h => h) (by first | exact fun _ => hF | exact fun _ => hF (by kernel_rfl)) (fun w => ?_) (by rfl) ?_
        rotate_left
        · first | (go_simp; done) | (go_simp; with_reducible rfl) | (go_split_ands; go_simp; done)
        try simp only [Act.put, List.setIfInBounds_toArray, List.set_cons_zero, List.set_cons_succ]
        refine wpAnyJ_take0 (i := 1) (oi := { dst := some 33, op := Go.Op.move (Go.Operand.tmp 5), type := 65, pos := "disk.go:111", after := #[], guard := none }) (v := ?_) rfl (by kernel_rfl) (by kernel_rfl) (by kernel_rfl) (by kernel_rfl) (fun _ _ _ h => h) (by first | exact fun _ => hF | exact fun _ => hF (by kernel_rfl)) (fun w => ?_) (by rfl) ?_
        rotate_left
        · first | (go_simp; done) | (go_simp; with_reducible rfl) | (go_split_ands; go_simp; done)
        try simp only [Act.put, List.setIfInBounds_toArray, List.set_cons_zero, List.set_cons_succ]
        refine wpAnyJ_take0 (i := 2) (oi := { dst := some 34, op := Go.Op.nilCheck (Go.Operand.tmp 33), type := 0, pos := "disk.go:111", after := #[{ on := 1, ground := Go.Ground.data }], guard := none }) (v := ?_) rfl (by kernel_rfl) (by kernel_rfl) (by kernel_rfl) (by kernel_rfl) (fun _ _ _ h => h) (by first | exact fun _ => hF | exact fun _ => hF (by kernel_rfl)) (fun w => ?_) (by rfl) ?_
        rotate_left
        · first | (go_simp; done) | (go_simp; with_reducible rfl) | (go_split_ands; go_simp; done)
        try simp only [Act.put, List.setIfInBounds_toArray, List.set_cons_zero, List.set_cons_succ]
        refine wpAnyJ_take0 (i := 3) (oi := { dst := some 35, op := Go.Op.fieldAddr 67 (Go.Operand.tmp 34) 0, type := 0, pos := "disk.go:111", after := #[{ on := 2, ground := Go.Ground.data }], guard := none }) (v := ?_) rfl (by kernel_rfl) (by kernel_rfl) (by kernel_rfl) (by kernel_rfl) (fun _ _ _ h => h) (by first | exact fun _ => hF | exact fun _ => hF (by kernel_rfl)) (fun w => ?_) (by rfl) ?_
        rotate_left
        · first | (go_simp; done) | (go_simp; with_reducible rfl) | (go_split_ands; go_simp; done)
        try simp only [Act.put, List.setIfInBounds_toArray, List.set_cons_zero, List.set_cons_succ]
        refine wpAnyJ_take (i := 4) (oi := { dst := some 36, op := Go.Op.load 23 (Go.Operand.tmp 35), type := 23, pos := "disk.go:111", after := #[{ on := 3, ground := Go.Ground.data }], guard := none }) (v := ?_) [12] rfl (by kernel_rfl) (by kernel_rfl) (by kernel_rfl) (by kernel_rfl) (by kernel_rfl) (fun _ _ _ h => h) (by first | exact hF | exact hF (by kernel_rfl)) (fun w hFw => ?_) (by rfl) ?_
        rotate_left
        · ((try dsimp only at hFw); first | (go_simp; done) | (go_simp; with_reducible rfl) | (go_split_ands; go_simp; done))
        try simp only [Act.put, List.setIfInBounds_toArray, List.set_cons_zero, List.set_cons_succ]
        refine wpAnyJ_take0 (i := 5) (oi := { dst := some 37, op := Go.Op.fieldAddr 64 (Go.Operand.tmp 3) 1, type := 0, pos := "disk.go:111", after := #[], guard := none }) (v := ?_) rfl (by kernel_rfl) (by kernel_rfl) (by kernel_rfl) (by kernel_rfl) (fun _ _ _ h => h) (by first | exact fun _ => hF | exact fun _ => hF (by kernel_rfl)) (fun w => ?_) (by rfl) ?_
        rotate_left
        · first | (go_simp; done) | (go_simp; with_reducible rfl) | (go_split_ands; go_simp; done)
        try simp only [Act.put, List.setIfInBounds_toArray, List.set_cons_zero, List.set_cons_succ]
        refine wpAnyJ_take (i := 6) (oi := { dst := some 38, op := Go.Op.load 3 (Go.Operand.tmp 37), type := 3, pos := "disk.go:111", after := #[{ on := 5, ground := Go.Ground.data }], guard := none }) (v := ?_) [12] rfl (by kernel_rfl) (by kernel_rfl) (by kernel_rfl) (by kernel_rfl) (by kernel_rfl) (fun _ _ _ h => h) (by first | exact hF | exact hF (by kernel_rfl)) (fun w hFw => ?_) (by rfl) ?_
        rotate_left
        · ((try dsimp only at hFw); first | (go_simp; done) | (go_simp; with_reducible rfl) | (go_split_ands; go_simp; done))
        try simp only [Act.put, List.setIfInBounds_toArray, List.set_cons_zero, List.set_cons_succ]
        refine wpAnyJ_take0 (i := 7) (oi := { dst := some 39, op := Go.Op.fieldAddr 64 (Go.Operand.tmp 3) 1, type := 0, pos := "disk.go:111", after := #[], guard := none }) (v := ?_) rfl (by kernel_rfl) (by kernel_rfl) (by kernel_rfl) (by kernel_rfl) (fun _ _ _ h => h) (by first | exact fun _ => hF | exact fun _ => hF (by kernel_rfl)) (fun w => ?_) (by rfl) ?_
        rotate_left
        · first | (go_simp; done) | (go_simp; with_reducible rfl) | (go_split_ands; go_simp; done)
        try simp only [Act.put, List.setIfInBounds_toArray, List.set_cons_zero, List.set_cons_succ]
        refine wpAnyJ_take (i := 8) (oi := { dst := some 40, op := Go.Op.load 3 (Go.Operand.tmp 39), type := 3, pos := "disk.go:111", after := #[{ on := 7, ground := Go.Ground.data }], guard := none }) (v := ?_) [12] rfl (by kernel_rfl) (by kernel_rfl) (by kernel_rfl) (by kernel_rfl) (by kernel_rfl) (fun _ _ _ h => h) (by first | exact hF | exact hF (by kernel_rfl)) (fun w hFw => ?_) (by rfl) ?_
        rotate_left
        · ((try dsimp only at hFw); first | (go_simp; done) | (go_simp; with_reducible rfl) | (go_split_ands; go_simp; done))
        try simp only [Act.put, List.setIfInBounds_toArray, List.set_cons_zero, List.set_cons_succ]
        refine wpAnyJ_take0 (i := 9) (oi := { dst := some 41, op := Go.Op.slice 23 (Go.Operand.tmp 36) none (some (Go.Operand.tmp 38)) (some (Go.Operand.tmp 40)), type := 23, pos := "disk.go:111", after := #[{ on := 4, ground := Go.Ground.data }, { on := 6, ground := Go.Ground.data }, { on := 8, ground := Go.Ground.data }], guard := none }) (v := ?_) rfl (by kernel_rfl) (by kernel_rfl) (by kernel_rfl) (by kernel_rfl) (fun _ _ _ h => h) (by first | exact fun _ => hF | exact fun _ => hF (by kernel_rfl)) (fun w => ?_) (by rfl) ?_
        rotate_left
        · first | (go_simp; done) | (go_simp; with_reducible rfl) | (go_split_ands; go_simp; done)
        try simp only [Act.put, List.setIfInBounds_toArray, List.set_cons_zero, List.set_cons_succ]
        refine wpAnyJ_take0 (i := 10) (oi := { dst := some 42, op := Go.Op.nilCheck (Go.Operand.tmp 32), type := 0, pos := "disk.go:111", after := #[{ on := 0, ground := Go.Ground.data }, { on := 0, ground := Go.Ground.phase }, { on := 1, ground := Go.Ground.phase }, { on := 2, ground := Go.Ground.phase }, { on := 3, ground := Go.Ground.phase }, { on := 4, ground := Go.Ground.phase }, { on := 5, ground := Go.Ground.phase }, { on := 6, ground := Go.Ground.phase }, { on := 7, ground := Go.Ground.phase }, { on := 8, ground := Go.Ground.phase }, { on := 9, ground := Go.Ground.phase }], guard := none }) (v := ?_) rfl (by kernel_rfl) (by kernel_rfl) (by kernel_rfl) (by kernel_rfl) (fun _ _ _ h => h) (by first | exact fun _ => hF | exact fun _ => hF (by kernel_rfl)) (fun w => ?_) (by rfl) ?_
        rotate_left
        · first | (go_simp; done) | (go_simp; with_reducible rfl) | (go_split_ands; go_simp; done)
        try simp only [Act.put, List.setIfInBounds_toArray, List.set_cons_zero, List.set_cons_succ]
        refine wpAnyJ_take0 (i := 11) (oi := { dst := some 43, op := Go.Op.fieldAddr 67 (Go.Operand.tmp 42) 0, type := 0, pos := "disk.go:111", after := #[{ on := 10, ground := Go.Ground.data }, { on := 0, ground := Go.Ground.phase }, { on := 1, ground := Go.Ground.phase }, { on := 2, ground := Go.Ground.phase }, { on := 3, ground := Go.Ground.phase }, { on := 4, ground := Go.Ground.phase }, { on := 5, ground := Go.Ground.phase }, { on := 6, ground := Go.Ground.phase }, { on := 7, ground := Go.Ground.phase }, { on := 8, ground := Go.Ground.phase }, { on := 9, ground := Go.Ground.phase }], guard := none }) (v := ?_) rfl (by kernel_rfl) (by kernel_rfl) (by kernel_rfl) (by kernel_rfl) (fun _ _ _ h => h) (by first | exact fun _ => hF | exact fun _ => hF (by kernel_rfl)) (fun w => ?_) (by rfl) ?_
        rotate_left
        · first | (go_simp; done) | (go_simp; with_reducible rfl) | (go_split_ands; go_simp; done)
        try simp only [Act.put, List.setIfInBounds_toArray, List.set_cons_zero, List.set_cons_succ]
        refine wpAnyJ_ready (rs := [12]) (by kernel_rfl) (by simp) ?_
        refine AllJ.cons (o := { dst := none, op := Go.Op.store 23 (Go.Operand.tmp 43) (Go.Operand.tmp 41), type := 0, pos := "disk.go:111", after := #[{ on := 11, ground := Go.Ground.data }, { on := 9, ground := Go.Ground.data }, { on := 0, ground := Go.Ground.phase }, { on := 1, ground := Go.Ground.phase }, { on := 2, ground := Go.Ground.phase }, { on := 3, ground := Go.Ground.phase }, { on := 4, ground := Go.Ground.phase }, { on := 5, ground := Go.Ground.phase }, { on := 6, ground := Go.Ground.phase }, { on := 7, ground := Go.Ground.phase }, { on := 8, ground := Go.Ground.phase }, { on := 9, ground := Go.Ground.phase }], guard := none }) rfl (fun Kr hKr => ?_) ?_
        · go_simp
          refine hKr.out _ _ (fun hJ => ?_) (fun hF => ?_)
          · first
            | exact absurd hJ (by decide)
            | (clear hJ; (try dsimp only); all_goals (rfl))
          clear hKr
          try simp only [Act.put, List.setIfInBounds_toArray, List.set_cons_zero, List.set_cons_succ]
          refine wpAnyJ_done (by kernel_rfl) ?_ _
          go_upto_region 7 with fail
          refine Sp.gen s4.out ?_
          clear s4 s3 d0 d1 d2 e0 e1 fz hxb
          intro W4 s4
          simp only [List.cons_append, List.nil_append, List.set_cons_zero] at s4
          have hos := s4.own 0 rfl
          have ⟨d0, d1, d2⟩ := cells3 (s4.one 1 rfl)
          have ⟨e0, e1⟩ := cells2 (fe_has (x := { x with a := x.a, d := x.d.take m, c := m }) (by simp) hos.tail.tail)
          have fz := fun i => frz_of (i := i) (fe_has (x := { x with a := x.a, d := x.d.take m, c := m }) (by simp) hos.tail.tail)
          have hxb := heap_lt (fe_has (x := { x with a := x.a, d := x.d.take m, c := m }) (by simp) hos.tail.tail)
          simp only at e0 e1 fz hxb
          clear hos
          have s5 := s4.drew.put 0 rfl (fe_store (Step.refl (s4.drew.own 0 rfl)) (min x.n m))
          replace s5 := Lib.hid s5
          refine wp_region_J 10 (fun w' => w' = W4.drew) (by kernel_rfl) ?_ (fun hF => ?_)
          · (try dsimp only)
            all_goals (rfl)
          refine wpAnyJ_take0 (i := 0) (oi := { dst := some 44, op := Go.Op.move (Go.Operand.tmp 5), type := 65, pos := "disk.go:112", after := #[], guard := none }) (v := ?_) rfl (by kernel_rfl) (by kernel_rfl) (by kernel_rfl) (by kernel_rfl) (fun _ _ _ h => h) (by first | exact fun _ => hF | exact fun _ => hF (by kernel_rfl)) (fun w => ?_) (by rfl) ?_
          rotate_left
          · first | (go_simp; done) | (go_simp; with_reducible rfl) | (go_split_ands; go_simp; done)
          try simp only [Act.put, List.setIfInBounds_toArray, List.set_cons_zero, List.set_cons_succ]
          refine wpAnyJ_take0 (i := 1) (oi := { dst := some 45, op := Go.Op.move (Go.Operand.tmp 5), type := 65, pos := "disk.go:112", after := #[], guard := none }) (v := ?_) rfl (by kernel_rfl) (by kernel_rfl) (by kernel_rfl) (by kernel_rfl) (fun _ _ _ h => h) (by first | exact fun _ => hF | exact fun _ => hF (by kernel_rfl)) (fun w => ?_) (by rfl) ?_
          rotate_left
          · first | (go_simp; done) | (go_simp; with_reducible rfl) | (go_split_ands; go_simp; done)
          try simp only [Act.put, List.setIfInBounds_toArray, List.set_cons_zero, List.set_cons_succ]
          refine wpAnyJ_take0 (i := 2) (oi := { dst := some 46, op := Go.Op.nilCheck (Go.Operand.tmp 45), type := 0, pos := "disk.go:112", after := #[{ on := 1, ground := Go.Ground.data }], guard := none }) (v := ?_) rfl (by kernel_rfl) (by kernel_rfl) (by kernel_rfl) (by kernel_rfl) (fun _ _ _ h => h) (by first | exact fun _ => hF | exact fun _ => hF (by kernel_rfl)) (fun w => ?_) (by rfl) ?_
          rotate_left
          · first | (go_simp; done) | (go_simp; with_reducible rfl) | (go_split_ands; go_simp; done)
          try simp only [Act.put, List.setIfInBounds_toArray, List.set_cons_zero, List.set_cons_succ]
          refine wpAnyJ_take0 (i := 3) (oi := { dst := some 47, op := Go.Op.fieldAddr 67 (Go.Operand.tmp 46) 1, type := 0, pos := "disk.go:112", after := #[{ on := 2, ground := Go.Ground.data }], guard := none }) (v := ?_) rfl (by kernel_rfl) (by kernel_rfl) (by kernel_rfl) (by kernel_rfl) (fun _ _ _ h => h) (by first | exact fun _ => hF | exact fun _ => hF (by kernel_rfl)) (fun w => ?_) (by rfl) ?_
          rotate_left
          · first | (go_simp; done) | (go_simp; with_reducible rfl) | (go_split_ands; go_simp; done)
          try simp only [Act.put, List.setIfInBounds_toArray, List.set_cons_zero, List.set_cons_succ]
          refine wpAnyJ_take (i := 4) (oi := { dst := some 48, op := Go.Op.load 3 (Go.Operand.tmp 47), type := 3, pos := "disk.go:112", after := #[{ on := 3, ground := Go.Ground.data }], guard := none }) (v := ?_) [10] rfl (by kernel_rfl) (by kernel_rfl) (by kernel_rfl) (by kernel_rfl) (by kernel_rfl) (fun _ _ _ h => h) (by first | exact hF | exact hF (by kernel_rfl)) (fun w hFw => ?_) (by rfl) ?_
          rotate_left
          · ((try dsimp only at hFw); first | (go_simp; done) | (go_simp; with_reducible rfl) | (go_split_ands; go_simp; done))
          try simp only [Act.put, List.setIfInBounds_toArray, List.set_cons_zero, List.set_cons_succ]
          refine wpAnyJ_take0 (i := 5) (oi := { dst := some 49, op := Go.Op.fieldAddr 64 (Go.Operand.tmp 3) 1, type := 0, pos := "disk.go:112", after := #[], guard := none }) (v := ?_) rfl (by kernel_rfl) (by kernel_rfl) (by kernel_rfl) (by kernel_rfl) (fun _ _ _ h => h) (by first | exact fun _ => hF | exact fun _ => hF (by kernel_rfl)) (fun w => ?_) (by rfl) ?_
          rotate_left
          · first | (go_simp; done) | (go_simp; with_reducible rfl) | (go_split_ands; go_simp; done)
          try simp only [Act.put, List.setIfInBounds_toArray, List.set_cons_zero, List.set_cons_succ]
          refine wpAnyJ_take (i := 6) (oi := { dst := some 50, op := Go.Op.load 3 (Go.Operand.tmp 49), type := 3, pos := "disk.go:112", after := #[{ on := 5, ground := Go.Ground.data }], guard := none }) (v := ?_) [10] rfl (by kernel_rfl) (by kernel_rfl) (by kernel_rfl) (by kernel_rfl) (by kernel_rfl) (fun _ _ _ h => h) (by first | exact hF | exact hF (by kernel_rfl)) (fun w hFw => ?_) (by rfl) ?_
          rotate_left
          · ((try dsimp only at hFw); first | (go_simp; done) | (go_simp; with_reducible rfl) | (go_split_ands; go_simp; done))
          try simp only [Act.put, List.setIfInBounds_toArray, List.set_cons_zero, List.set_cons_succ]
          refine wpAnyJ_take (i := 7) (oi := { dst := some 51, op := Go.Op.call { callee := Go.Callee.builtin Go.Builtin.min, args := #[Go.Operand.tmp 48, Go.Operand.tmp 50], argTypes := #[3, 3] }, type := 3, pos := "disk.go:112", after := #[{ on := 4, ground := Go.Ground.data }, { on := 6, ground := Go.Ground.data }], guard := none }) (v := ?_) [10] rfl (by kernel_rfl) (by kernel_rfl) (by kernel_rfl) (by kernel_rfl) (by kernel_rfl) (fun _ _ _ h => h) (by first | exact hF | exact hF (by kernel_rfl)) (fun w hFw => ?_) (by rfl) ?_
          rotate_left
          · ((try dsimp only at hFw); first | (go_simp; done) | (go_simp; with_reducible rfl) | (go_split_ands; go_simp; done))
          try simp only [Act.put, List.setIfInBounds_toArray, List.set_cons_zero, List.set_cons_succ]
          refine wpAnyJ_take0 (i := 8) (oi := { dst := some 52, op := Go.Op.nilCheck (Go.Operand.tmp 44), type := 0, pos := "disk.go:112", after := #[{ on := 0, ground := Go.Ground.data }, { on := 0, ground := Go.Ground.phase }, { on := 1, ground := Go.Ground.phase }, { on := 2, ground := Go.Ground.phase }, { on := 3, ground := Go.Ground.phase }, { on := 4, ground := Go.Ground.phase }, { on := 5, ground := Go.Ground.phase }, { on := 6, ground := Go.Ground.phase }, { on := 7, ground := Go.Ground.phase }], guard := none }) (v := ?_) rfl (by kernel_rfl) (by kernel_rfl) (by kernel_rfl) (by kernel_rfl) (fun _ _ _ h => h) (by first | exact fun _ => hF | exact fun _ => hF (by kernel_rfl)) (fun w => ?_) (by rfl) ?_
          rotate_left
          · first | (go_simp; done) | (go_simp; with_reducible rfl) | (go_split_ands; go_simp; done)
          try simp only [Act.put, List.setIfInBounds_toArray, List.set_cons_zero, List.set_cons_succ]
          refine wpAnyJ_take0 (i := 9) (oi := { dst := some 53, op := Go.Op.fieldAddr 67 (Go.Operand.tmp 52) 1, type := 0, pos := "disk.go:112", after := #[{ on := 8, ground := Go.Ground.data }, { on := 0, ground := Go.Ground.phase }, { on := 1, ground := Go.Ground.phase }, { on := 2, ground := Go.Ground.phase }, { on := 3, ground := Go.Ground.phase }, { on := 4, ground := Go.Ground.phase }, { on := 5, ground := Go.Ground.phase }, { on := 6, ground := Go.Ground.phase }, { on := 7, ground := Go.Ground.phase }], guard := none }) (v := ?_) rfl (by kernel_rfl) (by kernel_rfl) (by kernel_rfl) (by kernel_rfl) (fun _ _ _ h => h) (by first | exact fun _ => hF | exact fun _ => hF (by kernel_rfl)) (fun w => ?_) (by rfl) ?_
          rotate_left
          · first | (go_simp; done) | (go_simp; with_reducible rfl) | (go_split_ands; go_simp; done)
          try simp only [Act.put, List.setIfInBounds_toArray, List.set_cons_zero, List.set_cons_succ]
          refine wpAnyJ_ready (rs := [10]) (by kernel_rfl) (by simp) ?_
          refine AllJ.cons (o := { dst := none, op := Go.Op.store 3 (Go.Operand.tmp 53) (Go.Operand.tmp 51), type := 0, pos := "disk.go:112", after := #[{ on := 9, ground := Go.Ground.data }, { on := 7, ground := Go.Ground.data }, { on := 0, ground := Go.Ground.phase }, { on := 1, ground := Go.Ground.phase }, { on := 2, ground := Go.Ground.phase }, { on := 3, ground := Go.Ground.phase }, { on := 4, ground := Go.Ground.phase }, { on := 5, ground := Go.Ground.phase }, { on := 6, ground := Go.Ground.phase }, { on := 7, ground := Go.Ground.phase }], guard := none }) rfl (fun Kr hKr => ?_) ?_
          · go_simp
            refine hKr.out _ _ (fun hJ => ?_) (fun hF => ?_)
            · first
              | exact absurd hJ (by decide)
              | (clear hJ; (try dsimp only); all_goals (rfl))
            clear hKr
            try simp only [Act.put, List.setIfInBounds_toArray, List.set_cons_zero, List.set_cons_succ]
            refine wpAnyJ_done (by kernel_rfl) ?_ _
            rw [show (if m < x.n then (m : Int) else (x.n : Int)) = ((min x.n m : Nat) : Int) by split <;> omega]
            go_wp2
            go_ret
            rw [hr'.out]
            refine ⟨rfl, _, ⟨r, o, fu, lf, A ++ { nm := x.nm, fb := x.fb, a := x.a, c := m, d := x.d.take m, n := min x.n m, H := x.H } :: B, by rw [ents_put A x { nm := x.nm, fb := x.fb, a := x.a, c := m, d := x.d.take m, n := min x.n m, H := x.H } B rfl rfl]; exact hm.out, ok_put hok.out ?_, by rw [List.map_append, List.map_cons]; exact hput.out _, hf, rfl⟩, s5.out.first.perm (List.Perm.of_eq (by simp)) (List.Perm.refl _)⟩
            have := hcut.out
            rw [Nat.mul_one, ← List.map_take] at this
            unfold Fe.ok
            simp only [hl.out]
            exact this
          exact AllJ.nil
        exact AllJ.nil
  · have hno : isF k.L nm = false := by simpa using hi
    have hr : Hid (cuI nm n k = (7, k)) := by show _ = _; unfold cuI; rw [if_neg hi]
    have hlk : ∀ nq, (Instr.lookup 58 (.map (some r)) (strV nm) false).run Try.prog (W.drewN nq) = .ok (.pointer none) (W.drewN nq) := fun nq => look_no hm (by exact hos.h1) (fe_none hp hk.sorted hno)
    replace s1 := Lib.hid s1
    clear hos hg1 hg hp hi hw hm hno hok hf
    go_quiet (fail)
    go_wp2
    go_ret
    rw [hr.out]
    exact ⟨rfl, _, hrep.out, (s1.out.drewN nq).first⟩
end Go.Proofs.Ytebmbfiiadffjaa
