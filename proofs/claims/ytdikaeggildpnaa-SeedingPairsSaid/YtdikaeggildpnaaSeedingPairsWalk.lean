import Derived.Test.YtdikaeggildpnaaSeedE
namespace Go.Proofs.Ytdikaeggildpnaa
open Go.RowKit
attribute [local go_sem ↓] Go.wp_at_zero Go.wp_at_succ

theorem pairs_ok : ∀ k, k < 5 → ∀ i, i < 2 ^ (k + 1) → (ordL (2 ^ (k + 2)))[2 * i]?.getD 0 + (ordL (2 ^ (k + 2)))[2 * i + 1]?.getD 0 = 2 ^ (k + 2) + 1 ∧ (ordL (2 ^ (k + 2)))[2 * i]?.getD 0 = (ordL (2 ^ (k + 1)))[i]?.getD 0 := by decide +kernel
theorem pow_bd : ∀ j, j < 5 → 2 ≤ 2 ^ (j + 1) ∧ 2 ^ (j + 1) ≤ 32 := by decide
theorem lg_two : ∀ k, k < 5 → lg (2 ^ (k + 2)) = k + 2 ∧ lg (2 ^ (k + 1)) = k + 1 := by decide +kernel
theorem ord_le (n : Nat) (h : n ≤ 64) : ∀ x ∈ ordL n, x ≤ 64 := by
  intro x hx
  unfold ordL at hx
  obtain ⟨y, _, rfl⟩ := List.mem_map.1 hx
  split <;> omega
theorem ord_at {a : Option Addr} {m c n : Nat} {H : Heaplet} {w : World} (hr : SlRep 3 1 a m c ((ordL n).map iv) H) (hw : Own w H) {i x : Nat} (hx : (ordL n)[i]? = some x) : ∃ g, a = some ⟨g, 0, none⟩ ∧ w.cell? ⟨g, i, none⟩ = some (.int .i64 x) := by
  obtain ⟨g, h1, h2, _⟩ := slRep_at hr hw (i := i) (v := iv x) (by rw [List.getElem?_map, hx]; rfl)
  exact ⟨g, h1, by rw [Nat.zero_add] at h2; exact h2⟩
def OrdmPost (n m : Nat) (w : World) (e : Ending) (w' : World) : Prop :=
  ∃ a c H, e = .returned (.tuple #[.slice a m c, .int .i64 0]) ∧ SlRep 3 1 a m c ((ordL n).map iv) H ∧ Step w [] w' H
theorem order_len (n m : Nat) (w : World) (h1 : 2 ≤ n) (h2 : n ≤ 64) (hm : (ordL n).length = m) : Calls Try.prog 8 #[.int .i64 n] w (OrdmPost n m w) := by
  subst hm; exact order_yes n w h1 h2
set_option maxHeartbeats 8000000 in
set_option maxRecDepth 100000 in
theorem seedingPairs_walk (k : Int) (w : World) (_ : (Lit.int .i64 k).wf = true) : Calls Try.prog 3 #[.int .i64 k] w fun e w' => e = .returned (.bool true) ∧ Below w.heap.size w w' := by
  suffices hs : Calls Try.prog 3 #[.int .i64 k] w (LawPost w) from hs.mono fun e w' hp => ⟨hp.1, hp.2.nil_below⟩
  by_cases h1 : k < 2
  · go_enter Try.func3, Try.ntmps3
    go_wp2_with (go_at_call 7; refine (known_any _).mono ?_; rintro e w3 ⟨rfl, hs3⟩)
    go_ret
    exact ⟨rfl, hs3⟩
  by_cases h2 : 6 < k
  · go_enter Try.func3, Try.ntmps3
    go_wp2_with (go_at_call 7; refine (known_any _).mono ?_; rintro e w3 ⟨rfl, hs3⟩)
    go_ret
    exact ⟨rfl, hs3⟩
  obtain ⟨j, rfl⟩ : ∃ j : Nat, k = ((j + 2 : Nat) : Int) := ⟨(k - 2).toNat, by omega⟩
  have hj : j < 5 := by omega
  obtain ⟨N, hN⟩ : ∃ N, N = 2 ^ (j + 2) := ⟨_, rfl⟩
  obtain ⟨M, hM⟩ : ∃ M, M = 2 ^ (j + 1) := ⟨_, rfl⟩
  have hNM : N = 2 * M := by rw [hN, hM, Nat.pow_succ 2 (j + 1)]; omega
  have hM1 : 2 ≤ M := by rw [hM]; exact (pow_bd j hj).1
  have hM2 : M ≤ 32 := by rw [hM]; exact (pow_bd j hj).2
  have hp := Lib.hid (pairs_ok j hj)
  rw [← hN, ← hM] at hp
  obtain ⟨l1, l2⟩ := lg_two j hj
  have hN0 : N = 2 ^ (j + 2) := hN
  have o1 := Lib.hid (fun W => order_len N N W (by omega) (by omega) (by rw [ordL_len, hN, l1]))
  have o2 := Lib.hid (fun W => order_len M M W (by omega) (by omega) (by rw [ordL_len, hM, l2]))
  have hq : (N : Int) / 2 = (M : Int) := by omega
  have b1 : (M : Int) ≤ 32 := by omega
  have b2 : (N : Int) ≤ 64 := by omega
  have lN := Lib.hid (show (ordL N).length = N by rw [ordL_len, hN0, l1])
  clear hN0
  have lM := Lib.hid (show (ordL M).length = M by rw [ordL_len, hM, l2])
  replace hN := Lib.hid hN
  replace hM := Lib.hid hM
  replace hNM := Lib.hid hNM
  clear l1 l2
  clear h1 h2
  have hj5 : j = 0 ∨ j = 1 ∨ j = 2 ∨ j = 3 ∨ j = 4 := by omega
  clear hj
  rcases hj5 with rfl | rfl | rfl | rfl | rfl
  all_goals
    go_enter Try.func3, Try.ntmps3
    go_wp2_with fail
    first
      | rw [show (4 : Int) = (N : Int) by have := hN.out; omega]
      | rw [show (8 : Int) = (N : Int) by have := hN.out; omega]
      | rw [show (16 : Int) = (N : Int) by have := hN.out; omega]
      | rw [show (32 : Int) = (N : Int) by have := hN.out; omega]
      | rw [show (64 : Int) = (N : Int) by have := hN.out; omega]
    refine (o1.out _).mono ?_
    rintro e w1 ⟨a1, c1, H1, rfl, hr1, hs1⟩
    go_wp2_with fail
    refine (o2.out _).mono ?_
    rintro e w2 ⟨a2, c2, H2, rfl, hr2, hs2⟩
    have hs := hs1.call0 hs2
    clear hs1 hs2
    go_wp2_with fail
    go_loopw [8] (fun v wr => ∃ i : Nat, i ≤ M ∧ v = .int .i64 i ∧ Step w [] wr (H1 ++ H2)) (fun v _ => M - (intOf v).toNat)
    case atStart => exact ⟨0, Nat.zero_le _, rfl, hs⟩
    case round =>
      clear hs
      obtain ⟨i, hi, rfl, hs⟩ := hrel
      have b5 : (0 : Int) ≤ (i : Int) := by omega
      by_cases hlt : i < M
      · have hil : 2 * i + 1 < N := by have := hNM.out; omega
        obtain ⟨p1, p2⟩ := hp.out i hlt
        obtain ⟨x, hx⟩ : ∃ x, (ordL N)[2 * i]? = some x := ⟨_, List.getElem?_eq_getElem (by rw [lN.out]; omega)⟩
        obtain ⟨y, hy⟩ : ∃ y, (ordL N)[2 * i + 1]? = some y := ⟨_, List.getElem?_eq_getElem (by rw [lN.out]; omega)⟩
        obtain ⟨z, hz⟩ : ∃ z, (ordL M)[i]? = some z := ⟨_, List.getElem?_eq_getElem (by rw [lM.out]; omega)⟩
        have hx6 := ord_le N (by omega) _ (List.mem_of_getElem? hx)
        have hy6 := ord_le N (by omega) _ (List.mem_of_getElem? hy)
        rw [hx, hy] at p1
        rw [hx, hz] at p2
        simp only [Option.getD_some] at p1 p2
        subst p2
        obtain ⟨g1, rfl, q1⟩ := ord_at hr1 hs.own.left hx
        obtain ⟨_, e1, q2⟩ := ord_at hr1 hs.own.left hy
        cases e1
        obtain ⟨g2, rfl, q3⟩ := ord_at hr2 hs.own.right hz
        have b6 : (i : Int) < (M : Int) := by omega
        have b7 : 2 * (i : Int) < (N : Int) := by omega
        have b8 : 2 * (i : Int) + 1 < (N : Int) := by omega
        have b9 : (0 : Int) ≤ 2 * (i : Int) := by omega
        have b10 : (0 : Int) ≤ 2 * (i : Int) + 1 := by omega
        have w1' : IntKind.i64.wrap (2 * (i : Int)) = 2 * (i : Int) := IntWalk.i64_in _ (by omega)
        have w2' : IntKind.i64.wrap (2 * (i : Int) + 1) = 2 * (i : Int) + 1 := IntWalk.i64_in _ (by omega)
        have w3' : IntKind.i64.wrap ((x : Int) + (y : Int)) = (x : Int) + (y : Int) := IntWalk.i64_in _ (by omega)
        have w4' : IntKind.i64.wrap ((N : Int) + 1) = (N : Int) + 1 := IntWalk.i64_in _ (by omega)
        have t1 : (2 * (i : Int)).toNat = 2 * i := by omega
        have t2 : (2 * (i : Int) + 1).toNat = 2 * i + 1 := by omega
        have n1 : ((x : Int) + (y : Int) != (N : Int) + 1) = false := by
          have : (x : Int) + (y : Int) = (N : Int) + 1 := by have := hN.out; omega
          rw [this]; simp
        clear hx hy hz
        replace p1 := Lib.hid p1
        go_wp2_with fail
        refine wp_region_J 26 (fun w' => w' = wr.drew) (by kernel_rfl) ?_ (fun hF => ?_)
        · (try dsimp only)
          all_goals (rfl)
        refine wpAnyJ_take (i := 0) (oi := { dst := some 54, op := Go.Op.move (Go.Operand.tmp 4), type := 23, pos := "more.go:20", after := #[], guard := none }) (v := ?_) [3, 4, 11, 14, 15, 26] rfl (by kernel_rfl) (by kernel_rfl) (by kernel_rfl) (by kernel_rfl) (by kernel_rfl) (fun _ _ _ h => h) (by first | exact hF | exact hF (by kernel_rfl)) (fun w hFw => ?_) (by rfl) ?_
        rotate_left
        · (try dsimp only at hFw)
          first | (go_simp; done) | (go_simp; with_reducible rfl) | (go_split_ands; go_simp; done)
        try simp only [Act.put, List.setIfInBounds_toArray, List.set_cons_zero, List.set_cons_succ]
        refine wpAnyJ_take (i := 1) (oi := { dst := some 55, op := Go.Op.move (Go.Operand.tmp 8), type := 3, pos := "more.go:20", after := #[], guard := none }) (v := ?_) [2, 3, 4, 11, 14, 15, 26] rfl (by kernel_rfl) (by kernel_rfl) (by kernel_rfl) (by kernel_rfl) (by kernel_rfl) (fun _ _ _ h => h) (by first | exact hF | exact hF (by kernel_rfl)) (fun w hFw => ?_) (by rfl) ?_
        rotate_left
        · (try dsimp only at hFw)
          first | (go_simp; done) | (go_simp; with_reducible rfl) | (go_split_ands; go_simp; done)
        try simp only [Act.put, List.setIfInBounds_toArray, List.set_cons_zero, List.set_cons_succ]
        refine wpAnyJ_take (i := 2) (oi := { dst := some 56, op := Go.Op.binOp Go.BinOp.mul 3 (Go.Operand.const (Go.Value.int Go.IntKind.i64 2)) (Go.Operand.tmp 55) 3, type := 3, pos := "more.go:20", after := #[{ on := 1, ground := Go.Ground.data }], guard := none }) (v := ?_) [3, 4, 11, 14, 15, 26] rfl (by kernel_rfl) (by kernel_rfl) (by kernel_rfl) (by kernel_rfl) (by kernel_rfl) (fun _ _ _ h => h) (by first | exact hF | exact hF (by kernel_rfl)) (fun w hFw => ?_) (by rfl) ?_
        rotate_left
        · (try dsimp only at hFw)
          first | (go_simp; done) | (go_simp; with_reducible rfl) | (go_split_ands; go_simp; done)
        try simp only [Act.put, List.setIfInBounds_toArray, List.set_cons_zero, List.set_cons_succ]
        refine wpAnyJ_take (i := 3) (oi := { dst := some 57, op := Go.Op.indexAddr 23 (Go.Operand.tmp 54) (Go.Operand.tmp 56), type := 0, pos := "more.go:20", after := #[{ on := 0, ground := Go.Ground.data }, { on := 2, ground := Go.Ground.data }], guard := none }) (v := ?_) [4, 11, 14, 15, 26] rfl (by kernel_rfl) (by kernel_rfl) (by kernel_rfl) (by kernel_rfl) (by kernel_rfl) (fun _ _ _ h => h) (by first | exact hF | exact hF (by kernel_rfl)) (fun w hFw => ?_) (by rfl) ?_
        rotate_left
        · (try dsimp only at hFw)
          first | (go_simp; done) | (go_simp; with_reducible rfl) | (go_split_ands; go_simp; done)
        try simp only [Act.put, List.setIfInBounds_toArray, List.set_cons_zero, List.set_cons_succ]
        refine wpAnyJ_take (i := 4) (oi := { dst := some 58, op := Go.Op.load 3 (Go.Operand.tmp 57), type := 3, pos := "more.go:20", after := #[{ on := 3, ground := Go.Ground.data }], guard := none }) (v := ?_) [11, 14, 15, 26] rfl (by kernel_rfl) (by kernel_rfl) (by kernel_rfl) (by kernel_rfl) (by kernel_rfl) (fun _ _ _ h => h) (by first | exact hF | exact hF (by kernel_rfl)) (fun w hFw => ?_) (by rfl) ?_
        rotate_left
        · (try dsimp only at hFw)
          first | (go_simp; done) | (go_simp; with_reducible rfl) | (go_split_ands; go_simp; done)
        try simp only [Act.put, List.setIfInBounds_toArray, List.set_cons_zero, List.set_cons_succ]
        refine wpAnyJ_take (i := 5) (oi := { dst := some 59, op := Go.Op.move (Go.Operand.tmp 4), type := 23, pos := "more.go:20", after := #[], guard := none }) (v := ?_) [9, 10, 11, 14, 15, 26] rfl (by kernel_rfl) (by kernel_rfl) (by kernel_rfl) (by kernel_rfl) (by kernel_rfl) (fun _ _ _ h => h) (by first | exact hF | exact hF (by kernel_rfl)) (fun w hFw => ?_) (by rfl) ?_
        rotate_left
        · (try dsimp only at hFw)
          first | (go_simp; done) | (go_simp; with_reducible rfl) | (go_split_ands; go_simp; done)
        try simp only [Act.put, List.setIfInBounds_toArray, List.set_cons_zero, List.set_cons_succ]
        refine wpAnyJ_take (i := 6) (oi := { dst := some 60, op := Go.Op.move (Go.Operand.tmp 8), type := 3, pos := "more.go:20", after := #[], guard := none }) (v := ?_) [7, 8, 9, 10, 11, 14, 15, 26] rfl (by kernel_rfl) (by kernel_rfl) (by kernel_rfl) (by kernel_rfl) (by kernel_rfl) (fun _ _ _ h => h) (by first | exact hF | exact hF (by kernel_rfl)) (fun w hFw => ?_) (by rfl) ?_
        rotate_left
        · (try dsimp only at hFw)
          first | (go_simp; done) | (go_simp; with_reducible rfl) | (go_split_ands; go_simp; done)
        try simp only [Act.put, List.setIfInBounds_toArray, List.set_cons_zero, List.set_cons_succ]
        refine wpAnyJ_take (i := 7) (oi := { dst := some 61, op := Go.Op.binOp Go.BinOp.mul 3 (Go.Operand.const (Go.Value.int Go.IntKind.i64 2)) (Go.Operand.tmp 60) 3, type := 3, pos := "more.go:20", after := #[{ on := 6, ground := Go.Ground.data }], guard := none }) (v := ?_) [8, 9, 10, 11, 14, 15, 26] rfl (by kernel_rfl) (by kernel_rfl) (by kernel_rfl) (by kernel_rfl) (by kernel_rfl) (fun _ _ _ h => h) (by first | exact hF | exact hF (by kernel_rfl)) (fun w hFw => ?_) (by rfl) ?_
        rotate_left
        · (try dsimp only at hFw)
          first | (go_simp; done) | (go_simp; with_reducible rfl) | (go_split_ands; go_simp; done)
        try simp only [Act.put, List.setIfInBounds_toArray, List.set_cons_zero, List.set_cons_succ]
        refine wpAnyJ_take (i := 8) (oi := { dst := some 62, op := Go.Op.binOp Go.BinOp.add 3 (Go.Operand.tmp 61) (Go.Operand.const (Go.Value.int Go.IntKind.i64 1)) 3, type := 3, pos := "more.go:20", after := #[{ on := 7, ground := Go.Ground.data }], guard := none }) (v := ?_) [9, 10, 11, 14, 15, 26] rfl (by kernel_rfl) (by kernel_rfl) (by kernel_rfl) (by kernel_rfl) (by kernel_rfl) (fun _ _ _ h => h) (by first | exact hF | exact hF (by kernel_rfl)) (fun w hFw => ?_) (by rfl) ?_
        rotate_left
        · (try dsimp only at hFw)
          first | (go_simp; done) | (go_simp; with_reducible rfl) | (go_split_ands; go_simp; done)
        try simp only [Act.put, List.setIfInBounds_toArray, List.set_cons_zero, List.set_cons_succ]
        refine wpAnyJ_take (i := 9) (oi := { dst := some 63, op := Go.Op.indexAddr 23 (Go.Operand.tmp 59) (Go.Operand.tmp 62), type := 0, pos := "more.go:20", after := #[{ on := 5, ground := Go.Ground.data }, { on := 8, ground := Go.Ground.data }], guard := none }) (v := ?_) [10, 11, 14, 15, 26] rfl (by kernel_rfl) (by kernel_rfl) (by kernel_rfl) (by kernel_rfl) (by kernel_rfl) (fun _ _ _ h => h) (by first | exact hF | exact hF (by kernel_rfl)) (fun w hFw => ?_) (by rfl) ?_
        rotate_left
        · (try dsimp only at hFw)
          first | (go_simp; done) | (go_simp; with_reducible rfl) | (go_split_ands; go_simp; done)
        try simp only [Act.put, List.setIfInBounds_toArray, List.set_cons_zero, List.set_cons_succ]
        refine wpAnyJ_take (i := 10) (oi := { dst := some 64, op := Go.Op.load 3 (Go.Operand.tmp 63), type := 3, pos := "more.go:20", after := #[{ on := 9, ground := Go.Ground.data }], guard := none }) (v := ?_) [11, 14, 15, 26] rfl (by kernel_rfl) (by kernel_rfl) (by kernel_rfl) (by kernel_rfl) (by kernel_rfl) (fun _ _ _ h => h) (by first | exact hF | exact hF (by kernel_rfl)) (fun w hFw => ?_) (by rfl) ?_
        rotate_left
        · (try dsimp only at hFw)
          first | (go_simp; done) | (go_simp; with_reducible rfl) | (go_split_ands; go_simp; done)
        try simp only [Act.put, List.setIfInBounds_toArray, List.set_cons_zero, List.set_cons_succ]
        refine wpAnyJ_take (i := 11) (oi := { dst := some 65, op := Go.Op.binOp Go.BinOp.add 3 (Go.Operand.tmp 58) (Go.Operand.tmp 64) 3, type := 3, pos := "more.go:20", after := #[{ on := 4, ground := Go.Ground.data }, { on := 10, ground := Go.Ground.data }], guard := none }) (v := ?_) [14, 15, 26] rfl (by kernel_rfl) (by kernel_rfl) (by kernel_rfl) (by kernel_rfl) (by kernel_rfl) (fun _ _ _ h => h) (by first | exact hF | exact hF (by kernel_rfl)) (fun w hFw => ?_) (by rfl) ?_
        rotate_left
        · (try dsimp only at hFw)
          first | (go_simp; done) | (go_simp; with_reducible rfl) | (go_split_ands; go_simp; done)
        try simp only [Act.put, List.setIfInBounds_toArray, List.set_cons_zero, List.set_cons_succ]
        refine wpAnyJ_take (i := 12) (oi := { dst := some 66, op := Go.Op.move (Go.Operand.tmp 3), type := 3, pos := "more.go:20", after := #[], guard := none }) (v := ?_) [13, 14, 15, 26] rfl (by kernel_rfl) (by kernel_rfl) (by kernel_rfl) (by kernel_rfl) (by kernel_rfl) (fun _ _ _ h => h) (by first | exact hF | exact hF (by kernel_rfl)) (fun w hFw => ?_) (by rfl) ?_
        rotate_left
        · (try dsimp only at hFw)
          first | (go_simp; done) | (go_simp; with_reducible rfl) | (go_split_ands; go_simp; done)
        try simp only [Act.put, List.setIfInBounds_toArray, List.set_cons_zero, List.set_cons_succ]
        refine wpAnyJ_take (i := 13) (oi := { dst := some 67, op := Go.Op.binOp Go.BinOp.add 3 (Go.Operand.tmp 66) (Go.Operand.const (Go.Value.int Go.IntKind.i64 1)) 3, type := 3, pos := "more.go:20", after := #[{ on := 12, ground := Go.Ground.data }], guard := none }) (v := ?_) [14, 15, 26] rfl (by kernel_rfl) (by kernel_rfl) (by kernel_rfl) (by kernel_rfl) (by kernel_rfl) (fun _ _ _ h => h) (by first | exact hF | exact hF (by kernel_rfl)) (fun w hFw => ?_) (by rfl) ?_
        rotate_left
        · (try dsimp only at hFw)
          first | (go_simp; done) | (go_simp; with_reducible rfl) | (go_split_ands; go_simp; done)
        try simp only [Act.put, List.setIfInBounds_toArray, List.set_cons_zero, List.set_cons_succ]
        refine wpAnyJ_take (i := 14) (oi := { dst := some 68, op := Go.Op.binOp Go.BinOp.neq 3 (Go.Operand.tmp 65) (Go.Operand.tmp 67) 3, type := 4, pos := "more.go:20", after := #[{ on := 11, ground := Go.Ground.data }, { on := 13, ground := Go.Ground.data }], guard := none }) (v := ?_) [15, 26] rfl (by kernel_rfl) (by kernel_rfl) (by kernel_rfl) (by kernel_rfl) (by kernel_rfl) (fun _ _ _ h => h) (by first | exact hF | exact hF (by kernel_rfl)) (fun w hFw => ?_) (by rfl) ?_
        rotate_left
        · (try dsimp only at hFw)
          first | (go_simp; done) | (go_simp; with_reducible rfl) | (go_split_ands; go_simp; done)
        try simp only [Act.put, List.setIfInBounds_toArray, List.set_cons_zero, List.set_cons_succ]
        refine wpAnyJ_take (i := 15) (oi := { dst := some 69, op := Go.Op.move (Go.Operand.tmp 68), type := 4, pos := "more.go:20", after := #[{ on := 14, ground := Go.Ground.data }], guard := none }) (v := ?_) [26] rfl (by kernel_rfl) (by kernel_rfl) (by kernel_rfl) (by kernel_rfl) (by kernel_rfl) (fun _ _ _ h => h) (by first | exact hF | exact hF (by kernel_rfl)) (fun w hFw => ?_) (by rfl) ?_
        rotate_left
        · (try dsimp only at hFw)
          first | (go_simp; done) | (go_simp; with_reducible rfl) | (go_split_ands; go_simp; done)
        try simp only [Act.put, List.setIfInBounds_toArray, List.set_cons_zero, List.set_cons_succ]
        refine wpAnyJ_take (i := 16) (oi := { dst := some 70, op := Go.Op.move (Go.Operand.tmp 4), type := 23, pos := "more.go:20", after := #[{ on := 15, ground := Go.Ground.guard }], guard := some (15, false) }) (v := ?_) [19, 20, 25, 26] rfl (by kernel_rfl) (by kernel_rfl) (by kernel_rfl) (by kernel_rfl) (by kernel_rfl) (fun _ _ _ h => h) (by first | exact hF | exact hF (by kernel_rfl)) (fun w hFw => ?_) (by rfl) ?_
        rotate_left
        · (try dsimp only at hFw)
          first | (go_simp; done) | (go_simp; with_reducible rfl) | (go_split_ands; go_simp; done)
        try simp only [Act.put, List.setIfInBounds_toArray, List.set_cons_zero, List.set_cons_succ]
        refine wpAnyJ_take (i := 17) (oi := { dst := some 71, op := Go.Op.move (Go.Operand.tmp 8), type := 3, pos := "more.go:20", after := #[{ on := 15, ground := Go.Ground.guard }], guard := some (15, false) }) (v := ?_) [18, 19, 20, 25, 26] rfl (by kernel_rfl) (by kernel_rfl) (by kernel_rfl) (by kernel_rfl) (by kernel_rfl) (fun _ _ _ h => h) (by first | exact hF | exact hF (by kernel_rfl)) (fun w hFw => ?_) (by rfl) ?_
        rotate_left
        · (try dsimp only at hFw)
          first | (go_simp; done) | (go_simp; with_reducible rfl) | (go_split_ands; go_simp; done)
        try simp only [Act.put, List.setIfInBounds_toArray, List.set_cons_zero, List.set_cons_succ]
        refine wpAnyJ_take (i := 18) (oi := { dst := some 72, op := Go.Op.binOp Go.BinOp.mul 3 (Go.Operand.const (Go.Value.int Go.IntKind.i64 2)) (Go.Operand.tmp 71) 3, type := 3, pos := "more.go:20", after := #[{ on := 17, ground := Go.Ground.data }, { on := 15, ground := Go.Ground.guard }], guard := some (15, false) }) (v := ?_) [19, 20, 25, 26] rfl (by kernel_rfl) (by kernel_rfl) (by kernel_rfl) (by kernel_rfl) (by kernel_rfl) (fun _ _ _ h => h) (by first | exact hF | exact hF (by kernel_rfl)) (fun w hFw => ?_) (by rfl) ?_
        rotate_left
        · (try dsimp only at hFw)
          first | (go_simp; done) | (go_simp; with_reducible rfl) | (go_split_ands; go_simp; done)
        try simp only [Act.put, List.setIfInBounds_toArray, List.set_cons_zero, List.set_cons_succ]
        refine wpAnyJ_take (i := 19) (oi := { dst := some 73, op := Go.Op.indexAddr 23 (Go.Operand.tmp 70) (Go.Operand.tmp 72), type := 0, pos := "more.go:20", after := #[{ on := 16, ground := Go.Ground.data }, { on := 18, ground := Go.Ground.data }, { on := 15, ground := Go.Ground.guard }], guard := some (15, false) }) (v := ?_) [20, 25, 26] rfl (by kernel_rfl) (by kernel_rfl) (by kernel_rfl) (by kernel_rfl) (by kernel_rfl) (fun _ _ _ h => h) (by first | exact hF | exact hF (by kernel_rfl)) (fun w hFw => ?_) (by rfl) ?_
        rotate_left
        · (try dsimp only at hFw)
          first | (go_simp; done) | (go_simp; with_reducible rfl) | (go_split_ands; go_simp; done)
        try simp only [Act.put, List.setIfInBounds_toArray, List.set_cons_zero, List.set_cons_succ]
        refine wpAnyJ_take (i := 20) (oi := { dst := some 74, op := Go.Op.load 3 (Go.Operand.tmp 73), type := 3, pos := "more.go:20", after := #[{ on := 19, ground := Go.Ground.data }, { on := 15, ground := Go.Ground.guard }], guard := some (15, false) }) (v := ?_) [25, 26] rfl (by kernel_rfl) (by kernel_rfl) (by kernel_rfl) (by kernel_rfl) (by kernel_rfl) (fun _ _ _ h => h) (by first | exact hF | exact hF (by kernel_rfl)) (fun w hFw => ?_) (by rfl) ?_
        rotate_left
        · (try dsimp only at hFw)
          first | (go_simp; done) | (go_simp; with_reducible rfl) | (go_split_ands; go_simp; done)
        try simp only [Act.put, List.setIfInBounds_toArray, List.set_cons_zero, List.set_cons_succ]
        refine wpAnyJ_take (i := 21) (oi := { dst := some 75, op := Go.Op.move (Go.Operand.tmp 6), type := 23, pos := "more.go:20", after := #[{ on := 15, ground := Go.Ground.guard }], guard := some (15, false) }) (v := ?_) [23, 24, 25, 26] rfl (by kernel_rfl) (by kernel_rfl) (by kernel_rfl) (by kernel_rfl) (by kernel_rfl) (fun _ _ _ h => h) (by first | exact hF | exact hF (by kernel_rfl)) (fun w hFw => ?_) (by rfl) ?_
        rotate_left
        · (try dsimp only at hFw)
          first | (go_simp; done) | (go_simp; with_reducible rfl) | (go_split_ands; go_simp; done)
        try simp only [Act.put, List.setIfInBounds_toArray, List.set_cons_zero, List.set_cons_succ]
        refine wpAnyJ_take (i := 22) (oi := { dst := some 76, op := Go.Op.move (Go.Operand.tmp 8), type := 3, pos := "more.go:20", after := #[{ on := 15, ground := Go.Ground.guard }], guard := some (15, false) }) (v := ?_) [23, 24, 25, 26] rfl (by kernel_rfl) (by kernel_rfl) (by kernel_rfl) (by kernel_rfl) (by kernel_rfl) (fun _ _ _ h => h) (by first | exact hF | exact hF (by kernel_rfl)) (fun w hFw => ?_) (by rfl) ?_
        rotate_left
        · (try dsimp only at hFw)
          first | (go_simp; done) | (go_simp; with_reducible rfl) | (go_split_ands; go_simp; done)
        try simp only [Act.put, List.setIfInBounds_toArray, List.set_cons_zero, List.set_cons_succ]
        refine wpAnyJ_take (i := 23) (oi := { dst := some 77, op := Go.Op.indexAddr 23 (Go.Operand.tmp 75) (Go.Operand.tmp 76), type := 0, pos := "more.go:20", after := #[{ on := 21, ground := Go.Ground.data }, { on := 22, ground := Go.Ground.data }, { on := 15, ground := Go.Ground.guard }], guard := some (15, false) }) (v := ?_) [24, 25, 26] rfl (by kernel_rfl) (by kernel_rfl) (by kernel_rfl) (by kernel_rfl) (by kernel_rfl) (fun _ _ _ h => h) (by first | exact hF | exact hF (by kernel_rfl)) (fun w hFw => ?_) (by rfl) ?_
        rotate_left
        · (try dsimp only at hFw)
          first | (go_simp; done) | (go_simp; with_reducible rfl) | (go_split_ands; go_simp; done)
        try simp only [Act.put, List.setIfInBounds_toArray, List.set_cons_zero, List.set_cons_succ]
        refine wpAnyJ_take (i := 24) (oi := { dst := some 78, op := Go.Op.load 3 (Go.Operand.tmp 77), type := 3, pos := "more.go:20", after := #[{ on := 23, ground := Go.Ground.data }, { on := 15, ground := Go.Ground.guard }], guard := some (15, false) }) (v := ?_) [25, 26] rfl (by kernel_rfl) (by kernel_rfl) (by kernel_rfl) (by kernel_rfl) (by kernel_rfl) (fun _ _ _ h => h) (by first | exact hF | exact hF (by kernel_rfl)) (fun w hFw => ?_) (by rfl) ?_
        rotate_left
        · (try dsimp only at hFw)
          first | (go_simp; done) | (go_simp; with_reducible rfl) | (go_split_ands; go_simp; done)
        try simp only [Act.put, List.setIfInBounds_toArray, List.set_cons_zero, List.set_cons_succ]
        refine wpAnyJ_take (i := 25) (oi := { dst := some 79, op := Go.Op.binOp Go.BinOp.neq 3 (Go.Operand.tmp 74) (Go.Operand.tmp 78) 3, type := 4, pos := "more.go:20", after := #[{ on := 20, ground := Go.Ground.data }, { on := 24, ground := Go.Ground.data }, { on := 15, ground := Go.Ground.guard }], guard := some (15, false) }) (v := ?_) [26] rfl (by kernel_rfl) (by kernel_rfl) (by kernel_rfl) (by kernel_rfl) (by kernel_rfl) (fun _ _ _ h => h) (by first | exact hF | exact hF (by kernel_rfl)) (fun w hFw => ?_) (by rfl) ?_
        rotate_left
        · (try dsimp only at hFw)
          first | (go_simp; done) | (go_simp; with_reducible rfl) | (go_split_ands; go_simp; done)
        try simp only [Act.put, List.setIfInBounds_toArray, List.set_cons_zero, List.set_cons_succ]
        refine wpAnyJ_ready (rs := [26]) (by kernel_rfl) (by simp) ?_
        refine AllJ.cons (o := { dst := some 80, op := Go.Op.pick (Go.Operand.tmp 69) (Go.Operand.const (Go.Value.bool true)) (Go.Operand.tmp 79), type := 4, pos := "more.go:20", after := #[{ on := 15, ground := Go.Ground.data }, { on := 25, ground := Go.Ground.data }], guard := none }) rfl (fun Kr hKr => ?_) ?_
        · go_simp
          refine hKr.out _ _ (fun hJ => ?_) (fun hF => ?_)
          · first
            | exact absurd hJ (by decide)
            | (clear hJ; (try dsimp only); all_goals (rfl))
          clear hKr
          try simp only [Act.put, List.setIfInBounds_toArray, List.set_cons_zero, List.set_cons_succ]
          refine wpAnyJ_done (by kernel_rfl) ?_ _
          clear w1' w2' w3' w4' t1 t2
          go_wp2_with fail
          exact ⟨⟨i + 1, by omega, by go_num, hs.drew⟩, by simp [intOf]; omega⟩
        exact AllJ.nil
      · go_wp2_with fail
        refine (known_any _).mono ?_
        rintro e w3 ⟨rfl, hs3⟩
        go_wp2
        go_ret
        exact ⟨rfl, (hs.call0 hs3).forget (A := [])⟩
end Go.Proofs.Ytdikaeggildpnaa
