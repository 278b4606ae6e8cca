/- The reference's order of seeds. -/
import Derived.Test.YtdkjgkbddehaiaaSeedB
namespace Go.Proofs.Ytdkjgkbddehaiaa
open Go.RowKit
attribute [local go_sem ↓] Go.wp_at_zero Go.wp_at_succ

theorem lg_lt : ∀ n, n ≤ 64 → ∀ i, i ≤ lg n → 2 ≤ n → (2 ^ i < n ↔ i < lg n) := by decide +kernel
def RSizeRel (n : Nat) (v : Value) : Prop := ∃ i P : Nat, i ≤ lg n ∧ P = 2 ^ i ∧ v = .int .i64 P
set_option maxRecDepth 100000 in
theorem rsize_any (n S : Nat) (w : World) (h1 : 2 ≤ n) (h2 : n ≤ 64) (hS : S = 2 ^ lg n) : Calls Try.prog 40 #[.int .i64 n] w fun e w' => e = .returned (.int .i64 S) ∧ w = w' := by
  have b2 : (n : Int) ≤ 64 := by omega
  have hlt := Lib.hid (lg_lt n h2)
  replace hS := Lib.hid hS
  go_enter Try.func40, Try.ntmps40
  go_wp2
  go_loop [3] (fun v => RSizeRel n v) (fun v => 2 * n - (intOf v).toNat)
  case atStart => exact ⟨0, 1, Nat.zero_le _, rfl, rfl⟩
  case round =>
    obtain ⟨i, P, hi, hP, rfl⟩ := hrel
    have hp1 : 1 ≤ P := by rw [hP]; exact Nat.one_le_two_pow
    have hk := hlt.out i hi h1
    rw [← hP] at hk
    replace hP := Lib.hid hP
    replace hk := Lib.hid hk
    replace hi := Lib.hid hi
    by_cases hc : P < n
    · have c1 : (P : Int) < (n : Int) := by omega
      go_wp2
      refine ⟨⟨i + 1, 2 * P, hk.out.1 hc, by rw [hP.out, Nat.pow_succ]; omega, by go_num⟩, by simp [intOf]; omega⟩
    · have hSP : S = P := by
        have : ¬ i < lg n := fun h => hc (hk.out.2 h)
        rw [hS.out, hP.out, show i = lg n by have := hi.out; omega]
      subst hSP
      replace hc : (n : Int) ≤ (S : Int) := by omega
      go_wp2
      go_ret
      exact ⟨rfl, rfl⟩

theorem rorder_no (n : Int) (w : World) (h : many n = false) : Calls Try.prog 28 #[.int .i64 n] w fun e w' => e = .returned (.tuple #[.slice none 0 0, .int .i64 1]) ∧ w = w' := by
  by_cases h1 : n < 2
  · clear h
    go_enter Try.func28, Try.ntmps28
    go_wp2
    go_ret2
    exact ⟨rfl, rfl⟩
  · have h2 : 64 < n := by simp [many] at h; omega
    clear h
    go_enter Try.func28, Try.ntmps28
    go_wp2
    go_ret2
    exact ⟨rfl, rfl⟩

theorem slRep_cell {E : Nat} {g n c : Nat} {xs : List Value} {H : Heaplet} (h : SlRep E 1 (some ⟨g, 0, none⟩) n c xs H) {w : World} (hw : Own w H) {i : Nat} {v : Value} (hv : xs[i]? = some v) : w.cell? ⟨g, i, none⟩ = some v := by
  obtain ⟨g', e, hc, _⟩ := slRep_at h hw hv
  cases e
  simpa using hc
theorem Step.drop_front {w w' : World} {H A B : Heaplet} (h : Step w H w' (A ++ B)) : Step w H w' B := Step.forget (B := A) (h.perm (List.Perm.refl _) List.perm_append_comm)
def ROrdRel (n : Nat) (w : World) (v : Value) (wr : World) : Prop :=
  ∃ j a m c H, j ≤ lg n ∧ (full j).length = m ∧ v = .slice a m c ∧ SlRep 3 1 a m c ((full j).map iv) H ∧ Step w [] wr H
def sLen : Value → Nat | .slice _ n _ => n | _ => 0
def RGrRel (l : List Nat) (w : World) (H : Heaplet) (v5 v6 : Value) (wr : World) : Prop :=
  ∃ k a c Ho, k ≤ l.length ∧ v6 = iv k ∧ v5 = .slice a (growTo l k).length c ∧ SlRep 3 1 a (growTo l k).length c ((growTo l k).map iv) Ho ∧ Step w [] wr (H ++ Ho)
def RBlRel (n m : Nat) (L : List Nat) (a : Option Addr) (c : Nat) (w : World) (v : Value) (wr : World) : Prop :=
  ∃ k H, k ≤ m ∧ v = .int .i64 (k : Nat) ∧ SlRep 3 1 a m c ((blank n k L).map iv) H ∧ Step w [] wr H
set_option maxHeartbeats 2000000 in
set_option maxRecDepth 100000 in
theorem rorder_yes (n : Nat) (w : World) (h1 : 2 ≤ n) (h2 : n ≤ 64) : Calls Try.prog 28 #[.int .i64 n] w (OrdPost (ordL n) w) := by
  have hl := lg_le n h2
  have b2 : (n : Int) ≤ 64 := by omega
  have b1 : (2 : Int) ≤ (n : Int) := by omega
  go_enter Try.func28, Try.ntmps28
  go_wp2_with fail
  have s0 := ((Step.refl (Own.nil w)).alloc (.cells #[.int .i64 1] 3))
  obtain ⟨S, hS⟩ : ∃ S, S = 2 ^ lg n := ⟨_, rfl⟩
  have hS6 : S ≤ 64 := by rw [hS]; exact Nat.pow_le_pow_right (by omega) hl
  replace hS := Lib.hid hS
  replace s0 := Lib.hid s0
  go_loopw [4] (fun v wr => ROrdRel n w v wr) (fun v _ => S - sLen v)
  case atStart => exact ⟨0, _, 1, 1, _, Nat.zero_le _, rfl, rfl, ⟨rfl, .inr ⟨w.heap.size, #[.int .i64 1], rfl, rfl, Nat.le_refl _, by unfold maxLen; omega, rfl, rfl⟩⟩, s0.out⟩
  case round =>
    clear s0
    obtain ⟨j, a, m, c, H, hj, hm, rfl, hr, hs⟩ := hrel
    have hmj : m = 2 ^ j := by rw [← hm, full_len]
    have hmS : m ≤ S := by rw [hmj, hS.out]; exact Nat.pow_le_pow_right (by omega) hj
    replace hm := Lib.hid hm
    replace hmj := Lib.hid hmj
    go_wp2_with fail
    refine (rsize_any n S _ h1 h2 hS.out).mono ?_
    rintro e w1 ⟨rfl, rfl⟩
    have b3 : (m : Int) ≤ 64 := by omega
    by_cases hlt : m < S
    · have e1 : decide (m < S) = true := decide_eq_true hlt
      have e2 : (m : Int) < (S : Int) := by omega
      go_wp2_with fail
      go_loopw [5, 6] (fun v5 v6 wr' => RGrRel (full j) w H v5 v6 wr') (fun _ v _ => m - (intOf v).toNat)
      case atStart => exact ⟨0, none, 0, [], Nat.zero_le _, rfl, rfl, SlRep.nil _ _, by rw [List.append_nil]; exact hs⟩
      case round =>
        clear hs
        obtain ⟨k, ao, co, Ho, hk, rfl, rfl, hro, hs⟩ := hrel
        rw [hm.out] at hk
        have c1 : (0 : Int) ≤ (k : Int) := by omega
        have hgl := growTo_len (l := full j) k (by rw [hm.out]; exact hk)
        by_cases hkm : k < m
        · have hkl : k < (full j).length := by rw [hm.out]; exact hkm
          obtain ⟨g, rfl, hc', -⟩ := slRep_at hr hs.own.left (i := k) (v := iv (full j)[k]) (by rw [List.getElem?_map, List.getElem?_eq_getElem hkl]; rfl)
          have c2 : (k : Int) < (m : Int) := by omega
          have hle := full_le j (by omega) _ (List.getElem_mem hkl)
          rw [← hmj.out] at hle
          simp only [Nat.zero_add] at hc'
          obtain ⟨x, hx⟩ : ∃ x, x = (full j)[k] := ⟨_, rfl⟩
          rw [← hx] at hc' hle
          have hgs : Hid (growTo (full j) (k + 1) = growTo (full j) k ++ [x, 2 * m + 1 - x]) := by
            show _ = _
            rw [growTo_succ hkl, ← hx, hm.out]
          have c3 : 2 * (m : Int) + 1 - (x : Int) = ((2 * m + 1 - x : Nat) : Int) := by omega
          have c4 : (x : Int) ≤ 64 := by omega
          obtain ⟨y, hy⟩ : ∃ y, y = 2 * m + 1 - x := ⟨_, rfl⟩
          rw [← hy] at c3 hgs
          clear hle
          have hwr : Hid (IntKind.i64.wrap (IntKind.i64.wrap (IntKind.i64.wrap (2 * (m : Int)) + 1) - (x : Int)) = (y : Int)) := by
            show _ = _
            rw [IntWalk.i64_in (2 * (m : Int)) (by omega), IntWalk.i64_in (2 * (m : Int) + 1) (by omega), IntWalk.i64_in (2 * (m : Int) + 1 - (x : Int)) (by omega), c3]
          replace hy := Lib.hid hy
          replace hgl := Lib.hid hgl
          go_wp2_with fail
          refine Step.gen hs ?_
          intro W s
          clear hs hc'
          have hc := slRep_cell hr s.own.left (i := k) (v := iv x) (by rw [List.getElem?_map, List.getElem?_eq_getElem hkl, ← hx]; rfl)
          clear hx
          refine wp_region_J 14 (fun w' => w' = W.drew) (by kernel_rfl) ?_ (fun hF => ?_)
          · (try dsimp only)
            all_goals (rfl)
          refine wpAnyJ_take (i := 1) (oi := { dst := some 27, op := Go.Op.move (Go.Operand.tmp 4), type := 22, pos := "seeding.go:24", after := #[], guard := none }) (v := ?_) [3, 4, 14] rfl (by kernel_rfl) (by kernel_rfl) (by kernel_rfl) (by kernel_rfl) (by kernel_rfl) (fun _ _ _ h => h) (by first | exact hF | exact hF (by kernel_rfl)) (fun w hFw => ?_) (by rfl) ?_
          rotate_left
          · (try dsimp only at hFw)
            first | (go_simp; done) | (go_simp; with_reducible rfl) | (go_split_ands; go_simp; done)
          try simp only [Act.put, List.setIfInBounds_toArray, List.set_cons_zero, List.set_cons_succ]
          refine wpAnyJ_take (i := 2) (oi := { dst := some 28, op := Go.Op.move (Go.Operand.tmp 6), type := 3, pos := "seeding.go:24", after := #[], guard := none }) (v := ?_) [3, 4, 14] rfl (by kernel_rfl) (by kernel_rfl) (by kernel_rfl) (by kernel_rfl) (by kernel_rfl) (fun _ _ _ h => h) (by first | exact hF | exact hF (by kernel_rfl)) (fun w hFw => ?_) (by rfl) ?_
          rotate_left
          · (try dsimp only at hFw)
            first | (go_simp; done) | (go_simp; with_reducible rfl) | (go_split_ands; go_simp; done)
          try simp only [Act.put, List.setIfInBounds_toArray, List.set_cons_zero, List.set_cons_succ]
          refine wpAnyJ_take (i := 3) (oi := { dst := some 29, op := Go.Op.indexAddr 22 (Go.Operand.tmp 27) (Go.Operand.tmp 28), type := 0, pos := "seeding.go:24", after := #[{ on := 1, ground := Go.Ground.data }, { on := 2, ground := Go.Ground.data }], guard := none }) (v := ?_) [4, 14] rfl (by kernel_rfl) (by kernel_rfl) (by kernel_rfl) (by kernel_rfl) (by kernel_rfl) (fun _ _ _ h => h) (by first | exact hF | exact hF (by kernel_rfl)) (fun w hFw => ?_) (by rfl) ?_
          rotate_left
          · (try dsimp only at hFw)
            first | (go_simp; done) | (go_simp; with_reducible rfl) | (go_split_ands; go_simp; done)
          try simp only [Act.put, List.setIfInBounds_toArray, List.set_cons_zero, List.set_cons_succ]
          refine wpAnyJ_take (i := 4) (oi := { dst := some 30, op := Go.Op.load 3 (Go.Operand.tmp 29), type := 3, pos := "seeding.go:24", after := #[{ on := 3, ground := Go.Ground.data }], guard := none }) (v := ?_) [14] rfl (by kernel_rfl) (by kernel_rfl) (by kernel_rfl) (by kernel_rfl) (by kernel_rfl) (fun _ _ _ h => h) (by first | exact hF | exact hF (by kernel_rfl)) (fun w hFw => ?_) (by rfl) ?_
          rotate_left
          · (try dsimp only at hFw)
            first | (go_simp; done) | (go_simp; with_reducible rfl) | (go_split_ands; go_simp; done)
          try simp only [Act.put, List.setIfInBounds_toArray, List.set_cons_zero, List.set_cons_succ]
          refine wpAnyJ_take (i := 5) (oi := { dst := some 31, op := Go.Op.move (Go.Operand.tmp 4), type := 22, pos := "seeding.go:24", after := #[], guard := none }) (v := ?_) [6, 7, 8, 13, 14] rfl (by kernel_rfl) (by kernel_rfl) (by kernel_rfl) (by kernel_rfl) (by kernel_rfl) (fun _ _ _ h => h) (by first | exact hF | exact hF (by kernel_rfl)) (fun w hFw => ?_) (by rfl) ?_
          rotate_left
          · (try dsimp only at hFw)
            first | (go_simp; done) | (go_simp; with_reducible rfl) | (go_split_ands; go_simp; done)
          try simp only [Act.put, List.setIfInBounds_toArray, List.set_cons_zero, List.set_cons_succ]
          refine wpAnyJ_take (i := 6) (oi := { dst := some 32, op := Go.Op.call { callee := Go.Callee.builtin Go.Builtin.len, args := #[Go.Operand.tmp 31], argTypes := #[22] }, type := 3, pos := "seeding.go:24", after := #[{ on := 5, ground := Go.Ground.data }], guard := none }) (v := ?_) [7, 8, 13, 14] rfl (by kernel_rfl) (by kernel_rfl) (by kernel_rfl) (by kernel_rfl) (by kernel_rfl) (fun _ _ _ h => h) (by first | exact hF | exact hF (by kernel_rfl)) (fun w hFw => ?_) (by rfl) ?_
          rotate_left
          · (try dsimp only at hFw)
            first | (go_simp; done) | (go_simp; with_reducible rfl) | (go_split_ands; go_simp; done)
          try simp only [Act.put, List.setIfInBounds_toArray, List.set_cons_zero, List.set_cons_succ]
          refine wpAnyJ_take (i := 7) (oi := { dst := some 33, op := Go.Op.binOp Go.BinOp.mul 3 (Go.Operand.const (Go.Value.int Go.IntKind.i64 2)) (Go.Operand.tmp 32) 3, type := 3, pos := "seeding.go:24", after := #[{ on := 6, ground := Go.Ground.data }], guard := none }) (v := ?_) [8, 13, 14] rfl (by kernel_rfl) (by kernel_rfl) (by kernel_rfl) (by kernel_rfl) (by kernel_rfl) (fun _ _ _ h => h) (by first | exact hF | exact hF (by kernel_rfl)) (fun w hFw => ?_) (by rfl) ?_
          rotate_left
          · (try dsimp only at hFw)
            first | (go_simp; done) | (go_simp; with_reducible rfl) | (go_split_ands; go_simp; done)
          try simp only [Act.put, List.setIfInBounds_toArray, List.set_cons_zero, List.set_cons_succ]
          refine wpAnyJ_take (i := 8) (oi := { dst := some 34, op := Go.Op.binOp Go.BinOp.add 3 (Go.Operand.tmp 33) (Go.Operand.const (Go.Value.int Go.IntKind.i64 1)) 3, type := 3, pos := "seeding.go:24", after := #[{ on := 7, ground := Go.Ground.data }], guard := none }) (v := ?_) [13, 14] rfl (by kernel_rfl) (by kernel_rfl) (by kernel_rfl) (by kernel_rfl) (by kernel_rfl) (fun _ _ _ h => h) (by first | exact hF | exact hF (by kernel_rfl)) (fun w hFw => ?_) (by rfl) ?_
          rotate_left
          · (try dsimp only at hFw)
            first | (go_simp; done) | (go_simp; with_reducible rfl) | (go_split_ands; go_simp; done)
          try simp only [Act.put, List.setIfInBounds_toArray, List.set_cons_zero, List.set_cons_succ]
          refine wpAnyJ_take (i := 9) (oi := { dst := some 35, op := Go.Op.move (Go.Operand.tmp 4), type := 22, pos := "seeding.go:24", after := #[], guard := none }) (v := ?_) [11, 12, 13, 14] rfl (by kernel_rfl) (by kernel_rfl) (by kernel_rfl) (by kernel_rfl) (by kernel_rfl) (fun _ _ _ h => h) (by first | exact hF | exact hF (by kernel_rfl)) (fun w hFw => ?_) (by rfl) ?_
          rotate_left
          · (try dsimp only at hFw)
            first | (go_simp; done) | (go_simp; with_reducible rfl) | (go_split_ands; go_simp; done)
          try simp only [Act.put, List.setIfInBounds_toArray, List.set_cons_zero, List.set_cons_succ]
          refine wpAnyJ_take (i := 10) (oi := { dst := some 36, op := Go.Op.move (Go.Operand.tmp 6), type := 3, pos := "seeding.go:24", after := #[], guard := none }) (v := ?_) [11, 12, 13, 14] rfl (by kernel_rfl) (by kernel_rfl) (by kernel_rfl) (by kernel_rfl) (by kernel_rfl) (fun _ _ _ h => h) (by first | exact hF | exact hF (by kernel_rfl)) (fun w hFw => ?_) (by rfl) ?_
          rotate_left
          · (try dsimp only at hFw)
            first | (go_simp; done) | (go_simp; with_reducible rfl) | (go_split_ands; go_simp; done)
          try simp only [Act.put, List.setIfInBounds_toArray, List.set_cons_zero, List.set_cons_succ]
          refine wpAnyJ_take (i := 11) (oi := { dst := some 37, op := Go.Op.indexAddr 22 (Go.Operand.tmp 35) (Go.Operand.tmp 36), type := 0, pos := "seeding.go:24", after := #[{ on := 9, ground := Go.Ground.data }, { on := 10, ground := Go.Ground.data }], guard := none }) (v := ?_) [12, 13, 14] rfl (by kernel_rfl) (by kernel_rfl) (by kernel_rfl) (by kernel_rfl) (by kernel_rfl) (fun _ _ _ h => h) (by first | exact hF | exact hF (by kernel_rfl)) (fun w hFw => ?_) (by rfl) ?_
          rotate_left
          · (try dsimp only at hFw)
            first | (go_simp; done) | (go_simp; with_reducible rfl) | (go_split_ands; go_simp; done)
          try simp only [Act.put, List.setIfInBounds_toArray, List.set_cons_zero, List.set_cons_succ]
          refine wpAnyJ_take (i := 12) (oi := { dst := some 38, op := Go.Op.load 3 (Go.Operand.tmp 37), type := 3, pos := "seeding.go:24", after := #[{ on := 11, ground := Go.Ground.data }], guard := none }) (v := ?_) [13, 14] rfl (by kernel_rfl) (by kernel_rfl) (by kernel_rfl) (by kernel_rfl) (by kernel_rfl) (fun _ _ _ h => h) (by first | exact hF | exact hF (by kernel_rfl)) (fun w hFw => ?_) (by rfl) ?_
          rotate_left
          · (try dsimp only at hFw)
            first | (go_simp; done) | (go_simp; with_reducible rfl) | (go_split_ands; go_simp; done)
          try simp only [Act.put, List.setIfInBounds_toArray, List.set_cons_zero, List.set_cons_succ]
          refine wpAnyJ_take (i := 13) (oi := { dst := some 39, op := Go.Op.binOp Go.BinOp.sub 3 (Go.Operand.tmp 34) (Go.Operand.tmp 38) 3, type := 3, pos := "seeding.go:24", after := #[{ on := 8, ground := Go.Ground.data }, { on := 12, ground := Go.Ground.data }], guard := none }) (v := ?_) [14] rfl (by kernel_rfl) (by kernel_rfl) (by kernel_rfl) (by kernel_rfl) (by kernel_rfl) (fun _ _ _ h => h) (by first | exact hF | exact hF (by kernel_rfl)) (fun w hFw => ?_) (by rfl) ?_
          rotate_left
          · (try dsimp only at hFw)
            first | (go_simp; done) | (go_simp; with_reducible rfl) | (go_split_ands; go_simp; done)
          try simp only [Act.put, List.setIfInBounds_toArray, List.set_cons_zero, List.set_cons_succ]
          refine wpAnyJ_ready (rs := [0, 14]) (by kernel_rfl) (by simp) ?_
          refine AllJ.cons (o := { dst := some 26, op := Go.Op.move (Go.Operand.tmp 5), type := 22, pos := "seeding.go:24", after := #[], guard := none }) rfl (fun Kr hKr => ?_) ?_
          · go_simp
            refine hKr.out _ _ (fun hJ => ?_) (fun hF => ?_)
            · first
              | exact absurd hJ (by decide)
              | (clear hJ; (try dsimp only); all_goals (rfl))
            clear hKr
            try simp only [Act.put, List.setIfInBounds_toArray, List.set_cons_zero, List.set_cons_succ]
            refine wpAnyJ_ready (rs := [14]) (by kernel_rfl) (by simp) ?_
            refine AllJ.cons (o := { dst := some 40, op := Go.Op.buildSlice 22 2 #[(0, Go.Operand.tmp 30), (1, Go.Operand.tmp 39)], type := 22, pos := "seeding.go:24", after := #[{ on := 4, ground := Go.Ground.data }, { on := 13, ground := Go.Ground.data }], guard := none }) rfl (fun Kr hKr => ?_) ?_
            · go_simp
              refine hKr.out _ _ (fun hJ => ?_) (fun hF => ?_)
              · first
                | exact absurd hJ (by decide)
                | (clear hJ; (try dsimp only); all_goals (rfl))
              clear hKr
              try simp only [Act.put, List.setIfInBounds_toArray, List.set_cons_zero, List.set_cons_succ]
              refine wpAnyJ_ready (rs := [15]) (by kernel_rfl) (by simp) ?_
              refine AllJ.cons (o := { dst := some 41, op := Go.Op.call { callee := Go.Callee.builtin Go.Builtin.append, args := #[Go.Operand.tmp 26, Go.Operand.tmp 40], argTypes := #[22, 22] }, type := 22, pos := "seeding.go:24", after := #[{ on := 0, ground := Go.Ground.data }, { on := 14, ground := Go.Ground.data }], guard := none }) rfl (fun Kr hKr => ?_) ?_
              · refine step_app rfl st_int _ _ (by rfl) (by rfl) (by rfl) hro ((s.drew.alloc _).own.tail.right) (rdCells_block (heap_alloc_new _ _) rfl (by simp [Value.oneCell'])) (by have := hgl.out; unfold maxLen; omega) (by have := hgl.out; omega) ?_
                intro a6 c6 w6 H6 hr6 hst6
                refine hKr.out _ _ (fun hJ => ?_) (fun hF => ?_)
                · first
                  | exact absurd hJ (by decide)
                  | (clear hJ; (try dsimp only); all_goals (rfl))
                clear hKr
                try simp only [Act.put, List.setIfInBounds_toArray, List.set_cons_zero, List.set_cons_succ]
                refine wpAnyJ_ready (rs := [16]) (by kernel_rfl) (by simp) ?_
                refine AllJ.cons (o := { dst := some 5, op := Go.Op.assign (Go.Operand.tmp 41), type := 22, pos := "seeding.go:24", after := #[{ on := 15, ground := Go.Ground.data }, { on := 15, ground := Go.Ground.chain }, { on := 0, ground := Go.Ground.phase }, { on := 1, ground := Go.Ground.phase }, { on := 2, ground := Go.Ground.phase }, { on := 3, ground := Go.Ground.phase }, { on := 4, ground := Go.Ground.phase }, { on := 5, ground := Go.Ground.phase }, { on := 6, ground := Go.Ground.phase }, { on := 7, ground := Go.Ground.phase }, { on := 8, ground := Go.Ground.phase }, { on := 9, ground := Go.Ground.phase }, { on := 10, ground := Go.Ground.phase }, { on := 11, ground := Go.Ground.phase }, { on := 12, ground := Go.Ground.phase }, { on := 13, ground := Go.Ground.phase }, { on := 14, ground := Go.Ground.phase }, { on := 15, ground := Go.Ground.phase }], guard := none }) rfl (fun Kr hKr => ?_) ?_
                · go_simp
                  refine hKr.out _ _ (fun hJ => ?_) (fun hF => ?_)
                  · first
                    | exact absurd hJ (by decide)
                    | (clear hJ; (try dsimp only); all_goals (rfl))
                  clear hKr
                  try simp only [Act.put, List.setIfInBounds_toArray, List.set_cons_zero, List.set_cons_succ]
                  refine wpAnyJ_done (by kernel_rfl) ?_ _
                  go_wp2_with fail
                  refine ⟨⟨k + 1, a6, c6, H6, by rw [hm.out]; omega, by go_num, ?_, ?_, (Step.callR (R := _ :: H) (s.drew.alloc _) hst6).tail⟩, by simp [intOf]; omega⟩
                  · rw [hgs.out, List.length_append]; rfl
                  · rw [hwr.out] at hr6; rw [hgs.out, List.length_append, List.map_append]; exact hr6
                exact AllJ.nil
              exact AllJ.nil
            exact AllJ.nil
          refine AllJ.cons (o := { dst := some 40, op := Go.Op.buildSlice 22 2 #[(0, Go.Operand.tmp 30), (1, Go.Operand.tmp 39)], type := 22, pos := "seeding.go:24", after := #[{ on := 4, ground := Go.Ground.data }, { on := 13, ground := Go.Ground.data }], guard := none }) rfl (fun Kr hKr => ?_) ?_
          · go_simp
            refine hKr.out _ _ (fun hJ => ?_) (fun hF => ?_)
            · first
              | exact absurd hJ (by decide)
              | (clear hJ; (try dsimp only); all_goals (rfl))
            clear hKr
            try simp only [Act.put, List.setIfInBounds_toArray, List.set_cons_zero, List.set_cons_succ]
            refine wpAnyJ_ready (rs := [0]) (by kernel_rfl) (by simp) ?_
            refine AllJ.cons (o := { dst := some 26, op := Go.Op.move (Go.Operand.tmp 5), type := 22, pos := "seeding.go:24", after := #[], guard := none }) rfl (fun Kr hKr => ?_) ?_
            · go_simp
              refine hKr.out _ _ (fun hJ => ?_) (fun hF => ?_)
              · first
                | exact absurd hJ (by decide)
                | (clear hJ; (try dsimp only); all_goals (rfl))
              clear hKr
              try simp only [Act.put, List.setIfInBounds_toArray, List.set_cons_zero, List.set_cons_succ]
              refine wpAnyJ_ready (rs := [15]) (by kernel_rfl) (by simp) ?_
              refine AllJ.cons (o := { dst := some 41, op := Go.Op.call { callee := Go.Callee.builtin Go.Builtin.append, args := #[Go.Operand.tmp 26, Go.Operand.tmp 40], argTypes := #[22, 22] }, type := 22, pos := "seeding.go:24", after := #[{ on := 0, ground := Go.Ground.data }, { on := 14, ground := Go.Ground.data }], guard := none }) rfl (fun Kr hKr => ?_) ?_
              · refine step_app rfl st_int _ _ (by rfl) (by rfl) (by rfl) hro ((s.drew.alloc _).own.tail.right) (rdCells_block (heap_alloc_new _ _) rfl (by simp [Value.oneCell'])) (by have := hgl.out; unfold maxLen; omega) (by have := hgl.out; omega) ?_
                intro a6 c6 w6 H6 hr6 hst6
                refine hKr.out _ _ (fun hJ => ?_) (fun hF => ?_)
                · first
                  | exact absurd hJ (by decide)
                  | (clear hJ; (try dsimp only); all_goals (rfl))
                clear hKr
                try simp only [Act.put, List.setIfInBounds_toArray, List.set_cons_zero, List.set_cons_succ]
                refine wpAnyJ_ready (rs := [16]) (by kernel_rfl) (by simp) ?_
                refine AllJ.cons (o := { dst := some 5, op := Go.Op.assign (Go.Operand.tmp 41), type := 22, pos := "seeding.go:24", after := #[{ on := 15, ground := Go.Ground.data }, { on := 15, ground := Go.Ground.chain }, { on := 0, ground := Go.Ground.phase }, { on := 1, ground := Go.Ground.phase }, { on := 2, ground := Go.Ground.phase }, { on := 3, ground := Go.Ground.phase }, { on := 4, ground := Go.Ground.phase }, { on := 5, ground := Go.Ground.phase }, { on := 6, ground := Go.Ground.phase }, { on := 7, ground := Go.Ground.phase }, { on := 8, ground := Go.Ground.phase }, { on := 9, ground := Go.Ground.phase }, { on := 10, ground := Go.Ground.phase }, { on := 11, ground := Go.Ground.phase }, { on := 12, ground := Go.Ground.phase }, { on := 13, ground := Go.Ground.phase }, { on := 14, ground := Go.Ground.phase }, { on := 15, ground := Go.Ground.phase }], guard := none }) rfl (fun Kr hKr => ?_) ?_
                · go_simp
                  refine hKr.out _ _ (fun hJ => ?_) (fun hF => ?_)
                  · first
                    | exact absurd hJ (by decide)
                    | (clear hJ; (try dsimp only); all_goals (rfl))
                  clear hKr
                  try simp only [Act.put, List.setIfInBounds_toArray, List.set_cons_zero, List.set_cons_succ]
                  refine wpAnyJ_done (by kernel_rfl) ?_ _
                  go_wp2_with fail
                  refine ⟨⟨k + 1, a6, c6, H6, by rw [hm.out]; omega, by go_num, ?_, ?_, (Step.callR (R := _ :: H) (s.drew.alloc _) hst6).tail⟩, by simp [intOf]; omega⟩
                  · rw [hgs.out, List.length_append]; rfl
                  · rw [hwr.out] at hr6; rw [hgs.out, List.length_append, List.map_append]; exact hr6
                exact AllJ.nil
              exact AllJ.nil
            exact AllJ.nil
          exact AllJ.nil
        · have hkm : k = m := by omega
          have hgr : Hid (growTo (full j) k = full (j + 1)) := by
            show _ = _
            rw [hkm, ← hm.out]; unfold growTo; rw [List.take_length]; rfl
          rw [hgr.out] at hro ⊢
          replace hgl := Lib.hid hgl
          replace hkm := Lib.hid hkm
          go_wp2_with fail
          have hj2 : j < lg n := by
            have h1 := hmj.out; have h2 := hS.out
            rw [h1, h2] at hlt
            exact (Nat.pow_lt_pow_iff_right (by omega)).1 hlt
          have hgl2 : (full (j + 1)).length = 2 * m := by rw [full_len, Nat.pow_succ, ← hmj.out]; omega
          have hm1 : 1 ≤ m := by rw [hmj.out]; exact Nat.one_le_two_pow
          exact ⟨⟨j + 1, ao, _, co, Ho, by omega, rfl, rfl, hro, hs.drop_front⟩, by simp only [sLen]; omega⟩
    · have hjl : j = lg n := by
        have h1 := hmj.out; have h2 := hS.out
        rcases Nat.lt_or_eq_of_le hj with h | h
        · have := Nat.pow_lt_pow_right (a := 2) (by omega) h; omega
        · exact h
      subst hjl
      have e2 : (S : Int) ≤ (m : Int) := by omega
      have hs0 := Lib.hid hs
      clear hs
      go_wp2_with fail
      go_loopw [7] (fun v wr' => RBlRel n m (full (lg n)) a c w v wr') (fun v _ => m - (intOf v).toNat)
      case atStart => exact ⟨0, H, Nat.zero_le _, rfl, by simpa [blank] using hr, hs0.out⟩
      case round =>
        clear hr hs0
        obtain ⟨k, H, hk, rfl, hr, hs⟩ := hrel
        have b4 : (0 : Int) ≤ (k : Int) := by omega
        by_cases hkm : k < m
        · have hkl : k < (full (lg n)).length := by rw [hm.out]; exact hkm
          obtain ⟨g, rfl, hcg, -⟩ := slRep_at hr hs.own (i := k) (v := .int .i64 ((full (lg n))[k] : Nat)) (by rw [List.getElem?_map, blank_get hkl]; rfl)
          have b5 : (k : Int) < (m : Int) := by omega
          simp only [Nat.zero_add] at hcg
          have hle := (full_le (lg n) hl _ (List.getElem_mem hkl)).2
          have h26 : 2 ^ lg n ≤ 64 := by rw [← hS.out]; exact hS6
          obtain ⟨x, hx⟩ : ∃ x, (full (lg n))[k] = x := ⟨_, rfl⟩
          rw [hx] at hcg hle
          have b6 : (x : Int) ≤ 64 := by omega
          replace hx := Lib.hid hx
          clear hle
          by_cases hxn : n < x
          · have b7 : (n : Int) < (x : Int) := by omega
            obtain ⟨cur, rfl, hr'⟩ := hr.setOne hkm (.int .i64 0)
            have hbs : Hid ((blank n k (full (lg n))).set k 0 = blank n (k + 1) (full (lg n))) := by
              show _ = _
              rw [blank_succ hkl, hx.out, if_neg (by omega)]
            have fg := fun i => frz_of (i := i) hs.own.h0
            replace hr' := Lib.hid hr'
            go_wp2_with fail
            refine ⟨⟨k + 1, _, by omega, by go_num, ?_, hs.store0 (i := k) _⟩, by simp [intOf]; omega⟩
            have := hr'.out
            rwa [show (Value.int .i64 0) = iv 0 from rfl, ← List.map_set, hbs.out] at this
          · have b7 : (x : Int) ≤ (n : Int) := by omega
            have hbs : Hid (blank n (k + 1) (full (lg n)) = blank n k (full (lg n))) := by
              show _ = _
              rw [blank_succ hkl, hx.out, if_pos (by omega), ← hx.out]
              exact set_self_of (blank_get hkl)
            go_wp2_with fail
            exact ⟨⟨k + 1, H, by omega, by go_num, by rw [hbs.out]; exact hr, hs⟩, by simp [intOf]; omega⟩
        · have hkl : k = m := by omega
          have hbl : Hid (blank n k (full (lg n)) = ordL n) := by
            show _ = _
            rw [hkl, ← hm.out, blank_all]; rfl
          rw [hbl.out] at hr
          replace hkl := Lib.hid hkl
          go_wp2_with fail
          go_ret2
          have hln : (ordL n).length = m := by rw [ordL_len, ← hS.out]; omega
          exact ⟨a, c, H, by rw [hln]; rfl, by rw [hln]; exact hr, hs⟩
end Go.Proofs.Ytdkjgkbddehaiaa
