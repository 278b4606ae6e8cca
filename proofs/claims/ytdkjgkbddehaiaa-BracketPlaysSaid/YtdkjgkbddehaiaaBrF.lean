/- New. -/
import Derived.Test.YtdkjgkbddehaiaaBrD
import Derived.Laws.OwnMore
import Derived.Deep.CutBlock
import Derived.Laws.Cover3
namespace Go.Proofs.Ytdkjgkbddehaiaa
open Go.RowKit
attribute [local go_sem ↓] Go.wp_at_zero Go.wp_at_succ

theorem st_match : SlTy Try.prog 52 57 4 32 (.agg #[.int .i64 0, .int .i64 0, .int .i64 0, .bool false]) := ⟨by kernel_rfl, by kernel_rfl, rfl, by decide⟩
theorem st_bool : SlTy Try.prog 53 4 1 1 (.bool false) := ⟨by kernel_rfl, by kernel_rfl, rfl, by decide⟩
def blankM (k : Nat) : List Mt := List.replicate k ⟨0, 0, 0, false⟩
theorem made4 (k : Nat) : madeCells #[iv 0, iv 0, iv 0, .bool false] (k * 4) = ((blankM k).flatMap Mt.cells).toArray := by
  apply Array.ext'
  apply List.ext_getElem?
  intro i
  have h4 := flat4 (blankM k) (i / 4) (i % 4) (Nat.mod_lt _ (by omega))
  rw [show i / 4 * 4 + i % 4 = i by omega] at h4
  rw [List.toList_toArray, h4]
  rw [Array.getElem?_toList]
  by_cases hi : i < k * 4
  · have e1 : (blankM k)[i / 4]? = some ⟨0, 0, 0, false⟩ := by
      unfold blankM; rw [List.getElem?_replicate, if_pos (by omega)]
    rw [e1, Array.getElem?_eq_getElem (by rw [size_madeCells]; exact hi)]
    have h := Nat.mod_lt i (show 0 < 4 by omega)
    have e : i % 4 = 0 ∨ i % 4 = 1 ∨ i % 4 = 2 ∨ i % 4 = 3 := by omega
    rcases e with e | e | e | e <;> simp [madeCells, e, Mt.cells]
  · have e1 : (blankM k)[i / 4]? = none := by
      unfold blankM; rw [List.getElem?_replicate, if_neg (by omega)]
    rw [e1, Array.getElem?_eq_none (by rw [size_madeCells]; omega)]; rfl
theorem new_no (n : Int) (w : World) (h : many n = false) : Calls Try.prog 10 #[.int .i64 n] w fun e w' => e = .returned (.tuple #[.pointer none, .int .i64 1]) ∧ w = w' := by
  go_enter Try.func10, Try.ntmps10
  go_wp2_with (go_at_call 23; refine (order_no n _ h).mono ?_; rintro e w' ⟨rfl, rfl⟩)
  go_ret2
  exact ⟨rfl, rfl⟩
def NewPost (n : Nat) (w : World) (e : Ending) (w' : World) : Prop := ∃ b g h R, e = .returned (.tuple #[pt b, .int .i64 0]) ∧ Step w [] w' (brH b g h (newB n) ++ R)
theorem laidN_zero (l : List Nat) : laidN l 0 = blankM (l.length - 1) := by simp [laidN, blankM, List.map_const']
theorem new_step1 {w w1 : World} {H : Heaplet} (hs : Step w [] w1 H) (n z S : Nat) : ∃ b g h, Value.pointer (some { block := w1.heap.size + 1 + 1, off := 0 }) = pt b ∧ Step w []
    (((w1.alloc (.cells (madeCells #[.int .i64 0, .int .i64 0, .int .i64 0, .bool false] (S * 4)) 57)).alloc (.cells (madeCells #[.bool false] (n + 1)) 4)).alloc
      (.cells #[.int .i64 n, .int .i64 z, .slice (some { block := w1.heap.size, off := 0 }) S S, .slice (some { block := w1.heap.size + 1, off := 0 }) (n + 1) (n + 1)] 55)).drew
    (brH b g h ⟨n, z, blankM S, List.replicate (n + 1) false⟩ ++ H) := by
  refine ⟨_, w1.heap.size, w1.heap.size + 1, rfl, ?_⟩
  have s := (((hs.alloc (.cells (madeCells #[.int .i64 0, .int .i64 0, .int .i64 0, .bool false] (S * 4)) 57)).alloc (.cells (madeCells #[.bool false] (n + 1)) 4)).alloc
      (.cells #[.int .i64 n, .int .i64 z, .slice (some { block := w1.heap.size, off := 0 }) S S, .slice (some { block := w1.heap.size + 1, off := 0 }) (n + 1) (n + 1)] 55)).drew
  simp only [World.size_alloc] at s
  refine s.perm (List.Perm.refl _) ?_
  unfold brH
  rw [← made4, List.map_replicate, ← madeCells_one]
  simp only [blankM, List.length_replicate]
  exact List.Perm.cons _ (List.Perm.swap _ _ _)
theorem new_step2 {w w1 : World} {H : Heaplet} (hs : Step w [] w1 H) (n z S : Nat) : ∃ b g h, Value.pointer (some { block := w1.heap.size + 1 + 1, off := 0 }) = pt b ∧ Step w []
    (((w1.alloc (.cells (madeCells #[.bool false] (n + 1)) 4)).alloc (.cells (madeCells #[.int .i64 0, .int .i64 0, .int .i64 0, .bool false] (S * 4)) 57)).alloc
      (.cells #[.int .i64 n, .int .i64 z, .slice (some { block := w1.heap.size + 1, off := 0 }) S S, .slice (some { block := w1.heap.size, off := 0 }) (n + 1) (n + 1)] 55)).drew
    (brH b g h ⟨n, z, blankM S, List.replicate (n + 1) false⟩ ++ H) := by
  refine ⟨_, w1.heap.size + 1, w1.heap.size, rfl, ?_⟩
  have s := (((hs.alloc (.cells (madeCells #[.bool false] (n + 1)) 4)).alloc (.cells (madeCells #[.int .i64 0, .int .i64 0, .int .i64 0, .bool false] (S * 4)) 57)).alloc
      (.cells #[.int .i64 n, .int .i64 z, .slice (some { block := w1.heap.size + 1, off := 0 }) S S, .slice (some { block := w1.heap.size, off := 0 }) (n + 1) (n + 1)] 55)).drew
  simp only [World.size_alloc] at s
  refine s.perm (List.Perm.refl _) ?_
  unfold brH
  rw [← made4, List.map_replicate, ← madeCells_one]
  simp only [blankM, List.length_replicate]
  exact List.Perm.refl _
theorem laidN_succ {l : List Nat} {k x y : Nat} (hk : k + 1 < l.length) (hx : l[2 * k]? = some x) (hy : l[2 * k + 1]? = some y) :
    laidN l (k + 1) = ((laidN l k).modify k (fun m => { m with s0 := x })).modify k (fun m => { m with s1 := y }) := by
  apply List.ext_getElem?
  intro i
  rw [List.getElem?_modify, List.getElem?_modify]
  unfold laidN
  simp only [List.getElem?_map]
  by_cases hi : i < l.length - 1
  · rw [List.getElem?_range hi]
    simp only [Option.map_some]
    by_cases h1 : k = i
    · subst h1
      rw [if_pos (by omega)]
      simp [List.getD_eq_getElem?_getD, hx, hy]
    · simp only [if_neg h1]
      by_cases h2 : i < k
      · rw [if_pos (by omega), if_pos h2]; simp
      · rw [if_neg (by omega), if_neg h2]; simp
  · rw [List.getElem?_eq_none (by simp; omega)]; simp
def N1Rel (n z S b g h : Nat) (HL : Heaplet) (w : World) (v : Value) (wr : World) : Prop :=
  ∃ k, k ≤ z / 2 ∧ v = .int .i64 (k : Nat) ∧ Step w [] wr (brH b g h ⟨n, z, laidN (ordL n) k, List.replicate (n + 1) false⟩ ++ HL)
theorem wins_at (b g h : Nat) (B : Br) (i s : Nat) (S : Int) (w : World) (hS : S = s) (hw : Own w (brH b g h B)) (hz : ∃ q, q ≤ 5 ∧ B.z = 2 ^ (q + 1)) (hl : B.ms.length + 1 = B.z) (hi : i < B.ms.length) :
    Calls Try.prog 24 #[pt b, iv i, .int .i64 S, .func (.func 25) #[pt b] #[]] w (WinsPost b g h B i s w) := by
  subst hS; exact wins_any b g h B i s w hw hz hl hi
def N2Rel (n z b g h : Nat) (HL : Heaplet) (w : World) (v : Value) (wr : World) : Prop :=
  ∃ k, k ≤ z / 2 ∧ v = .int .i64 (k : Nat) ∧ Step w [] wr (brH b g h (newTo n k) ++ HL)
theorem lg_pow : ∀ n, n ≤ 64 → n ≤ 2 ^ lg n := by decide +kernel
def N1Cut (n z b g h : Nat) (HL : Heaplet) (w : World) (wc : World) : Prop := Step w [] wc (brH b g h ⟨n, z, laidN (ordL n) (z / 2), List.replicate (n + 1) false⟩ ++ HL)
set_option maxRecDepth 100000 in
set_option maxHeartbeats 1000000 in
theorem new_yes (n : Nat) (w : World) (h1 : 2 ≤ n) (h2 : n ≤ 64) : Calls Try.prog 10 #[.int .i64 n] w (NewPost n w) := by
  have ho := Lib.hid (order_yes n w h1 h2)
  have hl := lg_le n h2
  obtain ⟨z, hz⟩ : ∃ z, z = (ordL n).length := ⟨_, rfl⟩
  have hz64 : z ≤ 64 := by rw [hz, ordL_len]; exact Nat.pow_le_pow_right (by omega) hl
  obtain ⟨S, hS⟩ : ∃ S, S + 1 = z := ⟨z - 1, by rw [hz, ordL_len]; have := Nat.one_le_two_pow (n := lg n); omega⟩
  have b1 : (n : Int) ≤ 64 := by omega
  have b2 : (z : Int) ≤ 64 := by omega
  have b3 : (S : Int) ≤ 64 := by omega
  have e1 : IntKind.i64.wrap ((z : Int) - 1) = (S : Int) := by rw [IntWalk.i64_in _ (by omega)]; omega
  have e2 : IntKind.i64.wrap ((n : Int) + 1) = ((n + 1 : Nat) : Int) := by rw [IntWalk.i64_in _ (by omega)]; omega
  unfold OrdPost at ho
  rw [← hz] at ho
  replace hz := Lib.hid hz
  replace hS := Lib.hid hS
  go_enter Try.func10, Try.ntmps10
  go_wp2_with fail
  refine ho.out.mono ?_
  rintro e w1 ⟨a, c, H, rfl, hr, hs⟩
  go_upto_region 4 with fail
  go_cut [6] (fun v wc => ∃ b g h, v = pt b ∧ Step w [] wc (brH b g h ⟨n, z, blankM S, List.replicate (n + 1) false⟩ ++ H))
  case first =>
    refine wp_region_J 12 (fun w' => True) (by kernel_rfl) ?_ (fun hF => ?_)
    · (try dsimp only)
      all_goals (trivial)
    refine wpAnyJ_take (i := 0) (oi := { dst := some 18, op := Go.Op.move (Go.Operand.tmp 0), type := 3, pos := "bracket.go:32", after := #[], guard := none }) (v := ?_) [12] rfl (by kernel_rfl) (by kernel_rfl) (by kernel_rfl) (by kernel_rfl) (by kernel_rfl) (fun _ _ _ h => h) (by first | exact hF | exact hF (by kernel_rfl)) (fun w hFw => ?_) (by rfl) ?_
    rotate_left
    · (try dsimp only at hFw)
      first | (go_simp; done) | (go_simp; with_reducible rfl) | (go_split_ands; go_simp; done)
    try simp only [Act.put, List.setIfInBounds_toArray, List.set_cons_zero, List.set_cons_succ]
    refine wpAnyJ_take (i := 1) (oi := { dst := some 19, op := Go.Op.move (Go.Operand.tmp 4), type := 22, pos := "bracket.go:32", after := #[], guard := none }) (v := ?_) [12] rfl (by kernel_rfl) (by kernel_rfl) (by kernel_rfl) (by kernel_rfl) (by kernel_rfl) (fun _ _ _ h => h) (by first | exact hF | exact hF (by kernel_rfl)) (fun w hFw => ?_) (by rfl) ?_
    rotate_left
    · (try dsimp only at hFw)
      first | (go_simp; done) | (go_simp; with_reducible rfl) | (go_split_ands; go_simp; done)
    try simp only [Act.put, List.setIfInBounds_toArray, List.set_cons_zero, List.set_cons_succ]
    refine wpAnyJ_take (i := 2) (oi := { dst := some 20, op := Go.Op.call { callee := Go.Callee.builtin Go.Builtin.len, args := #[Go.Operand.tmp 19], argTypes := #[22] }, type := 3, pos := "bracket.go:32", after := #[{ on := 1, ground := Go.Ground.data }], guard := none }) (v := ?_) [12] rfl (by kernel_rfl) (by kernel_rfl) (by kernel_rfl) (by kernel_rfl) (by kernel_rfl) (fun _ _ _ h => h) (by first | exact hF | exact hF (by kernel_rfl)) (fun w hFw => ?_) (by rfl) ?_
    rotate_left
    · (try dsimp only at hFw)
      first | (go_simp; done) | (go_simp; with_reducible rfl) | (go_split_ands; go_simp; done)
    try simp only [Act.put, List.setIfInBounds_toArray, List.set_cons_zero, List.set_cons_succ]
    refine wpAnyJ_take (i := 3) (oi := { dst := some 21, op := Go.Op.move (Go.Operand.tmp 4), type := 22, pos := "bracket.go:32", after := #[], guard := none }) (v := ?_) [12] rfl (by kernel_rfl) (by kernel_rfl) (by kernel_rfl) (by kernel_rfl) (by kernel_rfl) (fun _ _ _ h => h) (by first | exact hF | exact hF (by kernel_rfl)) (fun w hFw => ?_) (by rfl) ?_
    rotate_left
    · (try dsimp only at hFw)
      first | (go_simp; done) | (go_simp; with_reducible rfl) | (go_split_ands; go_simp; done)
    try simp only [Act.put, List.setIfInBounds_toArray, List.set_cons_zero, List.set_cons_succ]
    refine wpAnyJ_take (i := 4) (oi := { dst := some 22, op := Go.Op.call { callee := Go.Callee.builtin Go.Builtin.len, args := #[Go.Operand.tmp 21], argTypes := #[22] }, type := 3, pos := "bracket.go:32", after := #[{ on := 3, ground := Go.Ground.data }], guard := none }) (v := ?_) [12] rfl (by kernel_rfl) (by kernel_rfl) (by kernel_rfl) (by kernel_rfl) (by kernel_rfl) (fun _ _ _ h => h) (by first | exact hF | exact hF (by kernel_rfl)) (fun w hFw => ?_) (by rfl) ?_
    rotate_left
    · (try dsimp only at hFw)
      first | (go_simp; done) | (go_simp; with_reducible rfl) | (go_split_ands; go_simp; done)
    try simp only [Act.put, List.setIfInBounds_toArray, List.set_cons_zero, List.set_cons_succ]
    refine wpAnyJ_take (i := 5) (oi := { dst := some 23, op := Go.Op.binOp Go.BinOp.sub 3 (Go.Operand.tmp 22) (Go.Operand.const (Go.Value.int Go.IntKind.i64 1)) 3, type := 3, pos := "bracket.go:32", after := #[{ on := 4, ground := Go.Ground.data }], guard := none }) (v := ?_) [12] rfl (by kernel_rfl) (by kernel_rfl) (by kernel_rfl) (by kernel_rfl) (by kernel_rfl) (fun _ _ _ h => h) (by first | exact hF | exact hF (by kernel_rfl)) (fun w hFw => ?_) (by rfl) ?_
    rotate_left
    · (try dsimp only at hFw)
      first | (go_simp; done) | (go_simp; with_reducible rfl) | (go_split_ands; go_simp; done)
    try simp only [Act.put, List.setIfInBounds_toArray, List.set_cons_zero, List.set_cons_succ]
    refine wpAnyJ_take (i := 7) (oi := { dst := some 25, op := Go.Op.move (Go.Operand.tmp 0), type := 3, pos := "bracket.go:32", after := #[], guard := none }) (v := ?_) [12] rfl (by kernel_rfl) (by kernel_rfl) (by kernel_rfl) (by kernel_rfl) (by kernel_rfl) (fun _ _ _ h => h) (by first | exact hF | exact hF (by kernel_rfl)) (fun w hFw => ?_) (by rfl) ?_
    rotate_left
    · (try dsimp only at hFw)
      first | (go_simp; done) | (go_simp; with_reducible rfl) | (go_split_ands; go_simp; done)
    try simp only [Act.put, List.setIfInBounds_toArray, List.set_cons_zero, List.set_cons_succ]
    refine wpAnyJ_take (i := 8) (oi := { dst := some 26, op := Go.Op.binOp Go.BinOp.add 3 (Go.Operand.tmp 25) (Go.Operand.const (Go.Value.int Go.IntKind.i64 1)) 3, type := 3, pos := "bracket.go:32", after := #[{ on := 7, ground := Go.Ground.data }], guard := none }) (v := ?_) [12] rfl (by kernel_rfl) (by kernel_rfl) (by kernel_rfl) (by kernel_rfl) (by kernel_rfl) (fun _ _ _ h => h) (by first | exact hF | exact hF (by kernel_rfl)) (fun w hFw => ?_) (by rfl) ?_
    rotate_left
    · (try dsimp only at hFw)
      first | (go_simp; done) | (go_simp; with_reducible rfl) | (go_split_ands; go_simp; done)
    try simp only [Act.put, List.setIfInBounds_toArray, List.set_cons_zero, List.set_cons_succ]
    refine wpAnyJ_ready (rs := [6, 9]) (by kernel_rfl) (by simp) ?_
    refine AllJ.cons (o := { dst := some 24, op := Go.Op.makeSlice 52 (Go.Operand.tmp 23) (Go.Operand.tmp 23), type := 52, pos := "bracket.go:32", after := #[{ on := 5, ground := Go.Ground.data }, { on := 5, ground := Go.Ground.data }], guard := none }) rfl (fun Kr hKr => ?_) ?_
    · refine step_mk rfl st_match _ _ (by rfl) S S (by rfl) (by rfl) (by first | rfl | omega) (by first | rfl | omega) (Nat.le_refl _) (by omega) (by unfold maxLen; omega) ?_
      refine hKr.out _ _ (fun hJ => ?_) (fun hF => ?_)
      · first
        | exact absurd hJ (by decide)
        | (clear hJ; (try dsimp only); all_goals (trivial))
      clear hKr
      try simp only [Act.put, List.setIfInBounds_toArray, List.set_cons_zero, List.set_cons_succ]
      refine wpAnyJ_ready (rs := [9]) (by kernel_rfl) (by simp) ?_
      refine AllJ.cons (o := { dst := some 27, op := Go.Op.makeSlice 53 (Go.Operand.tmp 26) (Go.Operand.tmp 26), type := 53, pos := "bracket.go:32", after := #[{ on := 8, ground := Go.Ground.data }, { on := 8, ground := Go.Ground.data }], guard := none }) rfl (fun Kr hKr => ?_) ?_
      · refine step_mk rfl st_bool _ _ (by rfl) (n + 1) (n + 1) (by rfl) (by rfl) (by first | rfl | omega) (by first | rfl | omega) (Nat.le_refl _) (by omega) (by unfold maxLen; omega) ?_
        refine hKr.out _ _ (fun hJ => ?_) (fun hF => ?_)
        · first
          | exact absurd hJ (by decide)
          | (clear hJ; (try dsimp only); all_goals (trivial))
        clear hKr
        try simp only [Act.put, List.setIfInBounds_toArray, List.set_cons_zero, List.set_cons_succ]
        refine wpAnyJ_take (i := 10) (oi := { dst := some 28, op := Go.Op.build 55 #[(0, Go.Operand.tmp 18), (1, Go.Operand.tmp 20), (2, Go.Operand.tmp 24), (3, Go.Operand.tmp 27)], type := 55, pos := "bracket.go:32", after := #[{ on := 0, ground := Go.Ground.data }, { on := 2, ground := Go.Ground.data }, { on := 6, ground := Go.Ground.data }, { on := 9, ground := Go.Ground.data }], guard := none }) (v := ?_) [12] rfl (by kernel_rfl) (by kernel_rfl) (by kernel_rfl) (by kernel_rfl) (by kernel_rfl) (fun _ _ _ h => h) (by first | exact hF | exact hF (by kernel_rfl)) (fun w hFw => ?_) (by rfl) ?_
        rotate_left
        · (try dsimp only at hFw)
          first | (go_simp; done) | (go_simp; with_reducible rfl) | (go_split_ands; go_simp; done)
        try simp only [Act.put, List.setIfInBounds_toArray, List.set_cons_zero, List.set_cons_succ]
        refine wpAnyJ_ready (rs := [11]) (by kernel_rfl) (by simp) ?_
        refine AllJ.cons (o := { dst := some 29, op := Go.Op.box 55 (Go.Operand.tmp 28), type := 24, pos := "bracket.go:32", after := #[{ on := 10, ground := Go.Ground.data }], guard := none }) rfl (fun Kr hKr => ?_) ?_
        · go_simp
          refine hKr.out _ _ (fun hJ => ?_) (fun hF => ?_)
          · first
            | exact absurd hJ (by decide)
            | (clear hJ; (try dsimp only); all_goals (trivial))
          clear hKr
          try simp only [Act.put, List.setIfInBounds_toArray, List.set_cons_zero, List.set_cons_succ]
          refine wpAnyJ_ready (rs := [12]) (by kernel_rfl) (by simp) ?_
          refine AllJ.cons (o := { dst := some 6, op := Go.Op.assign (Go.Operand.tmp 29), type := 24, pos := "bracket.go:32", after := #[{ on := 11, ground := Go.Ground.data }, { on := 0, ground := Go.Ground.phase }, { on := 1, ground := Go.Ground.phase }, { on := 2, ground := Go.Ground.phase }, { on := 3, ground := Go.Ground.phase }, { on := 4, ground := Go.Ground.phase }, { on := 5, ground := Go.Ground.phase }, { on := 6, ground := Go.Ground.phase }, { on := 7, ground := Go.Ground.phase }, { on := 8, ground := Go.Ground.phase }, { on := 9, ground := Go.Ground.phase }, { on := 10, ground := Go.Ground.phase }, { on := 11, ground := Go.Ground.phase }], guard := none }) rfl (fun Kr hKr => ?_) ?_
          · go_simp
            refine hKr.out _ _ (fun hJ => ?_) (fun hF => ?_)
            · first
              | exact absurd hJ (by decide)
              | (clear hJ; (try dsimp only); all_goals (trivial))
            clear hKr
            try simp only [Act.put, List.setIfInBounds_toArray, List.set_cons_zero, List.set_cons_succ]
            refine wpAnyJ_done (by kernel_rfl) ?_ _
            go_wp2_with fail
            go_meet
            first | exact new_step1 hs n z S | exact new_step2 hs n z S
          exact AllJ.nil
        exact AllJ.nil
      exact AllJ.nil
    refine AllJ.cons (o := { dst := some 27, op := Go.Op.makeSlice 53 (Go.Operand.tmp 26) (Go.Operand.tmp 26), type := 53, pos := "bracket.go:32", after := #[{ on := 8, ground := Go.Ground.data }, { on := 8, ground := Go.Ground.data }], guard := none }) rfl (fun Kr hKr => ?_) ?_
    · refine step_mk rfl st_bool _ _ (by rfl) (n + 1) (n + 1) (by rfl) (by rfl) (by first | rfl | omega) (by first | rfl | omega) (Nat.le_refl _) (by omega) (by unfold maxLen; omega) ?_
      refine hKr.out _ _ (fun hJ => ?_) (fun hF => ?_)
      · first
        | exact absurd hJ (by decide)
        | (clear hJ; (try dsimp only); all_goals (trivial))
      clear hKr
      try simp only [Act.put, List.setIfInBounds_toArray, List.set_cons_zero, List.set_cons_succ]
      refine wpAnyJ_ready (rs := [6]) (by kernel_rfl) (by simp) ?_
      refine AllJ.cons (o := { dst := some 24, op := Go.Op.makeSlice 52 (Go.Operand.tmp 23) (Go.Operand.tmp 23), type := 52, pos := "bracket.go:32", after := #[{ on := 5, ground := Go.Ground.data }, { on := 5, ground := Go.Ground.data }], guard := none }) rfl (fun Kr hKr => ?_) ?_
      · refine step_mk rfl st_match _ _ (by rfl) S S (by rfl) (by rfl) (by first | rfl | omega) (by first | rfl | omega) (Nat.le_refl _) (by omega) (by unfold maxLen; omega) ?_
        refine hKr.out _ _ (fun hJ => ?_) (fun hF => ?_)
        · first
          | exact absurd hJ (by decide)
          | (clear hJ; (try dsimp only); all_goals (trivial))
        clear hKr
        try simp only [Act.put, List.setIfInBounds_toArray, List.set_cons_zero, List.set_cons_succ]
        refine wpAnyJ_take (i := 10) (oi := { dst := some 28, op := Go.Op.build 55 #[(0, Go.Operand.tmp 18), (1, Go.Operand.tmp 20), (2, Go.Operand.tmp 24), (3, Go.Operand.tmp 27)], type := 55, pos := "bracket.go:32", after := #[{ on := 0, ground := Go.Ground.data }, { on := 2, ground := Go.Ground.data }, { on := 6, ground := Go.Ground.data }, { on := 9, ground := Go.Ground.data }], guard := none }) (v := ?_) [12] rfl (by kernel_rfl) (by kernel_rfl) (by kernel_rfl) (by kernel_rfl) (by kernel_rfl) (fun _ _ _ h => h) (by first | exact hF | exact hF (by kernel_rfl)) (fun w hFw => ?_) (by rfl) ?_
        rotate_left
        · (try dsimp only at hFw)
          first | (go_simp; done) | (go_simp; with_reducible rfl) | (go_split_ands; go_simp; done)
        try simp only [Act.put, List.setIfInBounds_toArray, List.set_cons_zero, List.set_cons_succ]
        refine wpAnyJ_ready (rs := [11]) (by kernel_rfl) (by simp) ?_
        refine AllJ.cons (o := { dst := some 29, op := Go.Op.box 55 (Go.Operand.tmp 28), type := 24, pos := "bracket.go:32", after := #[{ on := 10, ground := Go.Ground.data }], guard := none }) rfl (fun Kr hKr => ?_) ?_
        · go_simp
          refine hKr.out _ _ (fun hJ => ?_) (fun hF => ?_)
          · first
            | exact absurd hJ (by decide)
            | (clear hJ; (try dsimp only); all_goals (trivial))
          clear hKr
          try simp only [Act.put, List.setIfInBounds_toArray, List.set_cons_zero, List.set_cons_succ]
          refine wpAnyJ_ready (rs := [12]) (by kernel_rfl) (by simp) ?_
          refine AllJ.cons (o := { dst := some 6, op := Go.Op.assign (Go.Operand.tmp 29), type := 24, pos := "bracket.go:32", after := #[{ on := 11, ground := Go.Ground.data }, { on := 0, ground := Go.Ground.phase }, { on := 1, ground := Go.Ground.phase }, { on := 2, ground := Go.Ground.phase }, { on := 3, ground := Go.Ground.phase }, { on := 4, ground := Go.Ground.phase }, { on := 5, ground := Go.Ground.phase }, { on := 6, ground := Go.Ground.phase }, { on := 7, ground := Go.Ground.phase }, { on := 8, ground := Go.Ground.phase }, { on := 9, ground := Go.Ground.phase }, { on := 10, ground := Go.Ground.phase }, { on := 11, ground := Go.Ground.phase }], guard := none }) rfl (fun Kr hKr => ?_) ?_
          · go_simp
            refine hKr.out _ _ (fun hJ => ?_) (fun hF => ?_)
            · first
              | exact absurd hJ (by decide)
              | (clear hJ; (try dsimp only); all_goals (trivial))
            clear hKr
            try simp only [Act.put, List.setIfInBounds_toArray, List.set_cons_zero, List.set_cons_succ]
            refine wpAnyJ_done (by kernel_rfl) ?_ _
            go_wp2_with fail
            go_meet
            first | exact new_step1 hs n z S | exact new_step2 hs n z S
          exact AllJ.nil
        exact AllJ.nil
      exact AllJ.nil
    exact AllJ.nil
  case rest =>
    obtain ⟨b, g, h, rfl, hs2⟩ := hcut
    clear hs e1 e2
    replace hs2 := Lib.hid hs2
    go_upto_block 0 with fail
    go_cut [7] (fun _ wc => N1Cut n z b g h H w wc)
    case first =>
      go_wp2_with fail
      go_loopw [33] (fun v wr => N1Rel n z S b g h H w v wr) (fun v _ => z / 2 - (intOf v).toNat)
      case atStart => exact ⟨0, Nat.zero_le _, by go_num, by rw [laidN_zero, ← hz.out, show z - 1 = S by have := hS.out; omega]; exact hs2.out⟩
      case round =>
        clear hs2
        obtain ⟨k, hk, rfl, hs⟩ := hrel
        have d1 : (0 : Int) ≤ (k : Int) := by omega
        by_cases hlt : k < z / 2
        · have d2 : (k : Int) < (z : Int) / 2 := by omega
          have hzl := hz.out
          have hz2k : 2 ≤ z - 2 * k := by omega
          have hk1 : 2 * k + 1 < (ordL n).length := by omega
          obtain ⟨x, hx⟩ : ∃ x, (ordL n)[2 * k]? = some x := ⟨_, List.getElem?_eq_getElem (by omega)⟩
          obtain ⟨y, hy⟩ : ∃ y, (ordL n)[2 * k + 1]? = some y := ⟨_, List.getElem?_eq_getElem (by omega)⟩
          obtain ⟨gr, rfl, hc0, hzc⟩ := slRep_at hr hs.own.right (i := 2 * k) (v := iv x) (by rw [List.getElem?_map, hx]; rfl)
          obtain ⟨gr', e, hc1, -⟩ := slRep_at hr hs.own.right (i := 2 * k + 1) (v := iv y) (by rw [List.getElem?_map, hy]; rfl)
          cases e
          have hln : laidN (ordL n) (k + 1) = ((laidN (ordL n) k).modify k (fun m => { m with s0 := x })).modify k (fun m => { m with s1 := y }) := laidN_succ (by omega) hx hy
          have hll : (laidN (ordL n) k).length = S := by simp [laidN]; have := hS.out; omega
          have hkS : k < S := by have := hS.out; omega
          obtain ⟨m0, hm0⟩ : ∃ m, (laidN (ordL n) k)[k]? = some m := ⟨_, List.getElem?_eq_getElem (by omega)⟩
          obtain ⟨q0, q1, q2, q3⟩ := ms_cell (B := ⟨n, z, laidN (ordL n) k, List.replicate (n + 1) false⟩) hs.own.left hm0
          obtain ⟨c0, c1, c2, c3⟩ := cells4 hs.own.left.h0
          have fg := fun i => frz_of (i := i) (Own.h1 hs.own.left)
          have s1 := brH_put hs (i := k) (j := 0) (fun m => { m with s0 := x }) (iv x) (by omega) (by simp only; omega) (fun m => rfl)
          have s2 := brH_put s1 (i := k) (j := 1) (fun m => { m with s1 := y }) (iv y) (by omega) (by simp only [List.length_modify]; omega) (fun m => rfl)
          simp only at s2 c2
          rw [← hln] at s2
          rw [hll] at c2
          have d3 : (k : Int) < (S : Int) := by omega
          have d4 : IntKind.i64.wrap (2 * (k : Int)) = 2 * (k : Int) := IntWalk.i64_in _ (by omega)
          have d5 : (2 * (k : Int)).toNat = 2 * k := by omega
          have d6 : 2 * (k : Int) ≤ (z : Int) := by omega
          have d7 : (z : Int) ≤ (c : Int) := by omega
          have d8 : (0 : Int) ≤ 2 * (k : Int) := by omega
          have d9 : ¬ c = 2 * k := by omega
          have hat : ∀ W, (Instr.arrayAt 32 (.slice (some ⟨gr, 2 * k, none⟩) (z - 2 * k) (c - 2 * k))).run Try.prog W = .ok (.pointer (some ⟨gr, 2 * k, none⟩)) W := fun W => run_arrayAt _ 32 _ 2 _ _ _ Try.underlying32 hz2k
          replace s2 := Lib.hid s2
          simp only [Nat.zero_add] at hc0 hc1
          clear s1 hln hll hm0 hx hy hzl hz hS ho
          go_wp2_with fail
          refine wp_region_J 13 (fun w' => w' = wr.drew) (by kernel_rfl) ?_ (fun hF => ?_)
          · (try dsimp only)
            all_goals (rfl)
          refine wpAnyJ_take (i := 0) (oi := { dst := some 36, op := Go.Op.move (Go.Operand.tmp 6), type := 24, pos := "bracket.go:34", after := #[], guard := none }) (v := ?_) [13] rfl (by kernel_rfl) (by kernel_rfl) (by kernel_rfl) (by kernel_rfl) (by kernel_rfl) (fun _ _ _ h => h) (by first | exact hF | exact hF (by kernel_rfl)) (fun w hFw => ?_) (by rfl) ?_
          rotate_left
          · (try dsimp only at hFw)
            first | (go_simp; done) | (go_simp; with_reducible rfl) | (go_split_ands; go_simp; done)
          try simp only [Act.put, List.setIfInBounds_toArray, List.set_cons_zero, List.set_cons_succ]
          refine wpAnyJ_take (i := 1) (oi := { dst := some 37, op := Go.Op.nilCheck (Go.Operand.tmp 36), type := 0, pos := "bracket.go:34", after := #[{ on := 0, ground := Go.Ground.data }], guard := none }) (v := ?_) [13] rfl (by kernel_rfl) (by kernel_rfl) (by kernel_rfl) (by kernel_rfl) (by kernel_rfl) (fun _ _ _ h => h) (by first | exact hF | exact hF (by kernel_rfl)) (fun w hFw => ?_) (by rfl) ?_
          rotate_left
          · (try dsimp only at hFw)
            first | (go_simp; done) | (go_simp; with_reducible rfl) | (go_split_ands; go_simp; done)
          try simp only [Act.put, List.setIfInBounds_toArray, List.set_cons_zero, List.set_cons_succ]
          refine wpAnyJ_take (i := 2) (oi := { dst := some 38, op := Go.Op.fieldAddr 55 (Go.Operand.tmp 37) 2, type := 0, pos := "bracket.go:34", after := #[{ on := 1, ground := Go.Ground.data }], guard := none }) (v := ?_) [13] rfl (by kernel_rfl) (by kernel_rfl) (by kernel_rfl) (by kernel_rfl) (by kernel_rfl) (fun _ _ _ h => h) (by first | exact hF | exact hF (by kernel_rfl)) (fun w hFw => ?_) (by rfl) ?_
          rotate_left
          · (try dsimp only at hFw)
            first | (go_simp; done) | (go_simp; with_reducible rfl) | (go_split_ands; go_simp; done)
          try simp only [Act.put, List.setIfInBounds_toArray, List.set_cons_zero, List.set_cons_succ]
          refine wpAnyJ_take (i := 3) (oi := { dst := some 39, op := Go.Op.load 52 (Go.Operand.tmp 38), type := 52, pos := "bracket.go:34", after := #[{ on := 2, ground := Go.Ground.data }], guard := none }) (v := ?_) [13] rfl (by kernel_rfl) (by kernel_rfl) (by kernel_rfl) (by kernel_rfl) (by kernel_rfl) (fun _ _ _ h => h) (by first | exact hF | exact hF (by kernel_rfl)) (fun w hFw => ?_) (by rfl) ?_
          rotate_left
          · (try dsimp only at hFw)
            first | (go_simp; done) | (go_simp; with_reducible rfl) | (go_split_ands; go_simp; done)
          try simp only [Act.put, List.setIfInBounds_toArray, List.set_cons_zero, List.set_cons_succ]
          refine wpAnyJ_take (i := 4) (oi := { dst := some 40, op := Go.Op.move (Go.Operand.tmp 7), type := 3, pos := "bracket.go:34", after := #[], guard := none }) (v := ?_) [13] rfl (by kernel_rfl) (by kernel_rfl) (by kernel_rfl) (by kernel_rfl) (by kernel_rfl) (fun _ _ _ h => h) (by first | exact hF | exact hF (by kernel_rfl)) (fun w hFw => ?_) (by rfl) ?_
          rotate_left
          · (try dsimp only at hFw)
            first | (go_simp; done) | (go_simp; with_reducible rfl) | (go_split_ands; go_simp; done)
          try simp only [Act.put, List.setIfInBounds_toArray, List.set_cons_zero, List.set_cons_succ]
          refine wpAnyJ_take (i := 5) (oi := { dst := some 41, op := Go.Op.move (Go.Operand.tmp 4), type := 22, pos := "bracket.go:34", after := #[], guard := none }) (v := ?_) [13] rfl (by kernel_rfl) (by kernel_rfl) (by kernel_rfl) (by kernel_rfl) (by kernel_rfl) (fun _ _ _ h => h) (by first | exact hF | exact hF (by kernel_rfl)) (fun w hFw => ?_) (by rfl) ?_
          rotate_left
          · (try dsimp only at hFw)
            first | (go_simp; done) | (go_simp; with_reducible rfl) | (go_split_ands; go_simp; done)
          try simp only [Act.put, List.setIfInBounds_toArray, List.set_cons_zero, List.set_cons_succ]
          refine wpAnyJ_take (i := 6) (oi := { dst := some 42, op := Go.Op.move (Go.Operand.tmp 7), type := 3, pos := "bracket.go:34", after := #[], guard := none }) (v := ?_) [13] rfl (by kernel_rfl) (by kernel_rfl) (by kernel_rfl) (by kernel_rfl) (by kernel_rfl) (fun _ _ _ h => h) (by first | exact hF | exact hF (by kernel_rfl)) (fun w hFw => ?_) (by rfl) ?_
          rotate_left
          · (try dsimp only at hFw)
            first | (go_simp; done) | (go_simp; with_reducible rfl) | (go_split_ands; go_simp; done)
          try simp only [Act.put, List.setIfInBounds_toArray, List.set_cons_zero, List.set_cons_succ]
          refine wpAnyJ_take (i := 7) (oi := { dst := some 43, op := Go.Op.binOp Go.BinOp.mul 3 (Go.Operand.const (Go.Value.int Go.IntKind.i64 2)) (Go.Operand.tmp 42) 3, type := 3, pos := "bracket.go:34", after := #[{ on := 6, ground := Go.Ground.data }], guard := none }) (v := ?_) [13] rfl (by kernel_rfl) (by kernel_rfl) (by kernel_rfl) (by kernel_rfl) (by kernel_rfl) (fun _ _ _ h => h) (by first | exact hF | exact hF (by kernel_rfl)) (fun w hFw => ?_) (by rfl) ?_
          rotate_left
          · (try dsimp only at hFw)
            first | (go_simp; done) | (go_simp; with_reducible rfl) | (go_split_ands; go_simp; done)
          try simp only [Act.put, List.setIfInBounds_toArray, List.set_cons_zero, List.set_cons_succ]
          refine wpAnyJ_take (i := 8) (oi := { dst := some 44, op := Go.Op.slice 22 (Go.Operand.tmp 41) (some (Go.Operand.tmp 43)) none none, type := 22, pos := "bracket.go:34", after := #[{ on := 5, ground := Go.Ground.data }, { on := 7, ground := Go.Ground.data }], guard := none }) (v := ?_) [13] rfl (by kernel_rfl) (by kernel_rfl) (by kernel_rfl) (by kernel_rfl) (by kernel_rfl) (fun _ _ _ h => h) (by first | exact hF | exact hF (by kernel_rfl)) (fun w hFw => ?_) (by rfl) ?_
          rotate_left
          · (try dsimp only at hFw)
            first | (go_simp; done) | (go_simp; with_reducible rfl) | (go_split_ands; go_simp; done)
          try simp only [Act.put, List.setIfInBounds_toArray, List.set_cons_zero, List.set_cons_succ]
          refine wpAnyJ_take (i := 9) (oi := { dst := some 45, op := Go.Op.sliceToArrayPointer 32 (Go.Operand.tmp 44), type := 0, pos := "bracket.go:34", after := #[{ on := 8, ground := Go.Ground.data }], guard := none }) (v := ?_) [13] rfl (by kernel_rfl) (by kernel_rfl) (by kernel_rfl) (by kernel_rfl) (by kernel_rfl) (fun _ _ _ h => h) (by first | exact hF | exact hF (by kernel_rfl)) (fun w hFw => ?_) (by rfl) ?_
          rotate_left
          · (try dsimp only at hFw)
            first | (go_simp; done) | (go_simp; with_reducible rfl) | (go_split_ands; go_simp; done)
          try simp only [Act.put, List.setIfInBounds_toArray, List.set_cons_zero, List.set_cons_succ]
          refine wpAnyJ_take (i := 10) (oi := { dst := some 46, op := Go.Op.load 32 (Go.Operand.tmp 45), type := 32, pos := "bracket.go:34", after := #[{ on := 9, ground := Go.Ground.data }], guard := none }) (v := ?_) [13] rfl (by kernel_rfl) (by kernel_rfl) (by kernel_rfl) (by kernel_rfl) (by kernel_rfl) (fun _ _ _ h => h) (by first | exact hF | exact hF (by kernel_rfl)) (fun w hFw => ?_) (by rfl) ?_
          rotate_left
          · (try dsimp only at hFw)
            first | (go_simp; done) | (go_simp; with_reducible rfl) | (go_split_ands; go_simp; done)
          try simp only [Act.put, List.setIfInBounds_toArray, List.set_cons_zero, List.set_cons_succ]
          refine wpAnyJ_take (i := 11) (oi := { dst := some 47, op := Go.Op.indexAddr 52 (Go.Operand.tmp 39) (Go.Operand.tmp 40), type := 0, pos := "bracket.go:34", after := #[{ on := 3, ground := Go.Ground.data }, { on := 4, ground := Go.Ground.data }, { on := 0, ground := Go.Ground.phase }, { on := 1, ground := Go.Ground.phase }, { on := 2, ground := Go.Ground.phase }, { on := 3, ground := Go.Ground.phase }, { on := 4, ground := Go.Ground.phase }, { on := 5, ground := Go.Ground.phase }, { on := 6, ground := Go.Ground.phase }, { on := 7, ground := Go.Ground.phase }, { on := 8, ground := Go.Ground.phase }, { on := 9, ground := Go.Ground.phase }, { on := 10, ground := Go.Ground.phase }], guard := none }) (v := ?_) [12, 13] rfl (by kernel_rfl) (by kernel_rfl) (by kernel_rfl) (by kernel_rfl) (by kernel_rfl) (fun _ _ _ h => h) (by first | exact hF | exact hF (by kernel_rfl)) (fun w hFw => ?_) (by rfl) ?_
          rotate_left
          · (try dsimp only at hFw)
            first | (go_simp; done) | (go_simp; with_reducible rfl) | (go_split_ands; go_simp; done)
          try simp only [Act.put, List.setIfInBounds_toArray, List.set_cons_zero, List.set_cons_succ]
          refine wpAnyJ_take (i := 12) (oi := { dst := some 48, op := Go.Op.fieldAddr 57 (Go.Operand.tmp 47) 0, type := 0, pos := "bracket.go:34", after := #[{ on := 11, ground := Go.Ground.data }, { on := 0, ground := Go.Ground.phase }, { on := 1, ground := Go.Ground.phase }, { on := 2, ground := Go.Ground.phase }, { on := 3, ground := Go.Ground.phase }, { on := 4, ground := Go.Ground.phase }, { on := 5, ground := Go.Ground.phase }, { on := 6, ground := Go.Ground.phase }, { on := 7, ground := Go.Ground.phase }, { on := 8, ground := Go.Ground.phase }, { on := 9, ground := Go.Ground.phase }, { on := 10, ground := Go.Ground.phase }], guard := none }) (v := ?_) [13] rfl (by kernel_rfl) (by kernel_rfl) (by kernel_rfl) (by kernel_rfl) (by kernel_rfl) (fun _ _ _ h => h) (by first | exact hF | exact hF (by kernel_rfl)) (fun w hFw => ?_) (by rfl) ?_
          rotate_left
          · (try dsimp only at hFw)
            first | (go_simp; done) | (go_simp; with_reducible rfl) | (go_split_ands; go_simp; done)
          try simp only [Act.put, List.setIfInBounds_toArray, List.set_cons_zero, List.set_cons_succ]
          refine wpAnyJ_ready (rs := [13]) (by kernel_rfl) (by simp) ?_
          refine AllJ.cons (o := { dst := none, op := Go.Op.store 32 (Go.Operand.tmp 48) (Go.Operand.tmp 46), type := 0, pos := "bracket.go:34", after := #[{ on := 12, ground := Go.Ground.data }, { on := 10, ground := Go.Ground.data }, { on := 0, ground := Go.Ground.phase }, { on := 1, ground := Go.Ground.phase }, { on := 2, ground := Go.Ground.phase }, { on := 3, ground := Go.Ground.phase }, { on := 4, ground := Go.Ground.phase }, { on := 5, ground := Go.Ground.phase }, { on := 6, ground := Go.Ground.phase }, { on := 7, ground := Go.Ground.phase }, { on := 8, ground := Go.Ground.phase }, { on := 9, ground := Go.Ground.phase }, { on := 10, ground := Go.Ground.phase }], guard := none }) rfl (fun Kr hKr => ?_) ?_
          · go_simp
            refine hKr.out _ _ (fun hJ => ?_) (fun hF => ?_)
            · first
              | exact absurd hJ (by decide)
              | (clear hJ; (try dsimp only); all_goals (rfl))
            clear hKr
            try simp only [Act.put, List.setIfInBounds_toArray, List.set_cons_zero, List.set_cons_succ]
            refine wpAnyJ_done (by kernel_rfl) ?_ _
            go_wp2_with fail
            exact ⟨⟨k + 1, by omega, by go_num, s2.out.drew⟩, by simp [intOf]; omega⟩
          exact AllJ.nil
        · have d2 : (z : Int) / 2 ≤ (k : Int) := by omega
          have hkz : k = z / 2 := by omega
          rw [hkz] at hs
          replace hs := Lib.hid hs
          clear hkz
          go_wp2_with fail
          go_meet
          exact hs.out
    case rest =>
      clear hs2
      replace hcut := Lib.hid hcut
      have hz1 := hz.out
      have hp : ∃ q, q ≤ 5 ∧ z = 2 ^ (q + 1) := by
        have hl1 : 1 ≤ lg n := by
          rcases Nat.eq_zero_or_pos (lg n) with h | h
          · have := lg_pow n h2; rw [h] at this; simp at this; omega
          · exact h
        exact ⟨lg n - 1, by omega, by rw [hz1, ordL_len, show lg n - 1 + 1 = lg n by omega]⟩
      have hcutB : Hid (Step w [] wc (brH b g h (newTo n 0) ++ H)) := by
        have := hcut.out
        unfold N1Cut at this
        show Step _ _ _ _
        rw [hz1] at this
        exact this
      clear hz1 hcut
      replace hp := Lib.hid hp
      go_wp2_with fail
      go_loopw [53] (fun v wr => N2Rel n z b g h H w v wr) (fun v _ => z / 2 - (intOf v).toNat)
      case atStart => exact ⟨0, Nat.zero_le _, by go_num, hcutB.out⟩
      case round =>
        clear hcutB
        obtain ⟨k, hk, rfl, hs⟩ := hrel
        have d1 : (0 : Int) ≤ (k : Int) := by omega
        by_cases hlt : k < z / 2
        · have d2 : (k : Int) < (z : Int) / 2 := by omega
          obtain ⟨kn, kz, ko, kl⟩ := newTo_keep n k
          rw [← hz.out] at kz kl
          have hkl : k < (newTo n k).ms.length := by rw [kl]; omega
          obtain ⟨m, hm⟩ : ∃ m, (newTo n k).ms[k]? = some m := ⟨_, List.getElem?_eq_getElem hkl⟩
          obtain ⟨q0, q1, q2, q3⟩ := ms_cell hs.own.left hm
          obtain ⟨c0, c1, c2, c3⟩ := cells4 hs.own.left.h0
          have hby := newTo_succ n k
          have fg := fun i => frz_of (i := i) (Own.h1 hs.own.left)
          obtain ⟨m0, m1, mw, mb⟩ := m
          simp only at q0 q1 q2 q3
          have d3 : (k : Int) < ((newTo n k).ms.length : Int) := by omega
          generalize hB : newTo n k = B at *
          have hbd : B.byeAt k = if m0 = 0 ∨ m1 = 0 then Br.win { B with ms := B.ms.modify k (fun m => { m with bye := true }) } k (max m0 m1) else B := by
            unfold Br.byeAt; rw [hm]
          by_cases h0 : m0 = 0 ∨ m1 = 0
          · rw [hbd, if_pos h0] at hby
            have s1 := brH_put hs (i := k) (j := 3) (fun m => { m with bye := true }) (.bool true) (by omega) hkl (fun m => rfl)
            have hb1l : ({ B with ms := B.ms.modify k (fun m => { m with bye := true }) } : Br).ms.length = B.ms.length := by simp
            have hb1m : ({ B with ms := B.ms.modify k (fun m => { m with bye := true }) } : Br).ms[k]? = some ⟨m0, m1, mw, true⟩ := by simp [List.getElem?_modify, hm]
            have hb1z : ({ B with ms := B.ms.modify k (fun m => { m with bye := true }) } : Br).z = z := kz
            generalize ({ B with ms := B.ms.modify k (fun m => { m with bye := true }) } : Br) = B1 at *
            have hwin := Lib.hid (fun W hW => wins_at b g h B1 k (max m0 m1) (max (m0 : Int) (m1 : Int)) W (by omega) hW (by rw [hb1z]; exact hp.out) (by rw [hb1z]; omega) (by omega))
            have d4 : (k : Int) < (B1.ms.length : Int) := by omega
            replace hby := Lib.hid hby
            have h0' : ((m0 : Int) == 0) = true ∨ (((m0 : Int) == 0) = false ∧ ((m1 : Int) == 0) = true) := by
              simp only [beq_iff_eq, beq_eq_false_iff_ne]; omega
            clear kn kz ko kl hm hB hbd h0 hb1l hb1z
            rcases h0' with e0 | ⟨e0, e1⟩
            all_goals
              go_upto_region 16 with fail
              clear c0 c1 c2 c3 q0 q1 q2 q3 fg
              refine Step.gen s1 ?_
              clear s1
              intro W s1
              obtain ⟨c0, c1, c2, c3⟩ := cells4 s1.own.left.h0
              obtain ⟨q0, q1, q2, q3⟩ := ms_cell s1.own.left hb1m
              refine wp_region_J 15 (fun w' => w' = W.drew) (by kernel_rfl) ?_ (fun hF => ?_)
              · (try dsimp only)
                all_goals (rfl)
              refine wpAnyJ_take (i := 0) (oi := { dst := some 79, op := Go.Op.move (Go.Operand.tmp 6), type := 24, pos := "bracket.go:40", after := #[], guard := none }) (v := ?_) [15] rfl (by kernel_rfl) (by kernel_rfl) (by kernel_rfl) (by kernel_rfl) (by kernel_rfl) (fun _ _ _ h => h) (by first | exact hF | exact hF (by kernel_rfl)) (fun w hFw => ?_) (by rfl) ?_
              rotate_left
              · (try dsimp only at hFw)
                first | (go_simp; done) | (go_simp; with_reducible rfl) | (go_split_ands; go_simp; done)
              try simp only [Act.put, List.setIfInBounds_toArray, List.set_cons_zero, List.set_cons_succ]
              refine wpAnyJ_take (i := 1) (oi := { dst := some 80, op := Go.Op.move (Go.Operand.tmp 8), type := 3, pos := "bracket.go:40", after := #[], guard := none }) (v := ?_) [15] rfl (by kernel_rfl) (by kernel_rfl) (by kernel_rfl) (by kernel_rfl) (by kernel_rfl) (fun _ _ _ h => h) (by first | exact hF | exact hF (by kernel_rfl)) (fun w hFw => ?_) (by rfl) ?_
              rotate_left
              · (try dsimp only at hFw)
                first | (go_simp; done) | (go_simp; with_reducible rfl) | (go_split_ands; go_simp; done)
              try simp only [Act.put, List.setIfInBounds_toArray, List.set_cons_zero, List.set_cons_succ]
              refine wpAnyJ_take (i := 2) (oi := { dst := some 81, op := Go.Op.move (Go.Operand.tmp 9), type := 58, pos := "bracket.go:40", after := #[], guard := none }) (v := ?_) [3, 4, 5, 6, 12, 15] rfl (by kernel_rfl) (by kernel_rfl) (by kernel_rfl) (by kernel_rfl) (by kernel_rfl) (fun _ _ _ h => h) (by first | exact hF | exact hF (by kernel_rfl)) (fun w hFw => ?_) (by rfl) ?_
              rotate_left
              · (try dsimp only at hFw)
                first | (go_simp; done) | (go_simp; with_reducible rfl) | (go_split_ands; go_simp; done)
              try simp only [Act.put, List.setIfInBounds_toArray, List.set_cons_zero, List.set_cons_succ]
              refine wpAnyJ_take (i := 3) (oi := { dst := some 82, op := Go.Op.nilCheck (Go.Operand.tmp 81), type := 0, pos := "bracket.go:40", after := #[{ on := 2, ground := Go.Ground.data }], guard := none }) (v := ?_) [4, 5, 6, 12, 15] rfl (by kernel_rfl) (by kernel_rfl) (by kernel_rfl) (by kernel_rfl) (by kernel_rfl) (fun _ _ _ h => h) (by first | exact hF | exact hF (by kernel_rfl)) (fun w hFw => ?_) (by rfl) ?_
              rotate_left
              · (try dsimp only at hFw)
                first | (go_simp; done) | (go_simp; with_reducible rfl) | (go_split_ands; go_simp; done)
              try simp only [Act.put, List.setIfInBounds_toArray, List.set_cons_zero, List.set_cons_succ]
              refine wpAnyJ_take (i := 4) (oi := { dst := some 83, op := Go.Op.fieldAddr 57 (Go.Operand.tmp 82) 0, type := 0, pos := "bracket.go:40", after := #[{ on := 3, ground := Go.Ground.data }], guard := none }) (v := ?_) [5, 6, 12, 15] rfl (by kernel_rfl) (by kernel_rfl) (by kernel_rfl) (by kernel_rfl) (by kernel_rfl) (fun _ _ _ h => h) (by first | exact hF | exact hF (by kernel_rfl)) (fun w hFw => ?_) (by rfl) ?_
              rotate_left
              · (try dsimp only at hFw)
                first | (go_simp; done) | (go_simp; with_reducible rfl) | (go_split_ands; go_simp; done)
              try simp only [Act.put, List.setIfInBounds_toArray, List.set_cons_zero, List.set_cons_succ]
              refine wpAnyJ_take (i := 5) (oi := { dst := some 84, op := Go.Op.indexAddr 32 (Go.Operand.tmp 83) (Go.Operand.const (Go.Value.int Go.IntKind.i64 0)), type := 0, pos := "bracket.go:40", after := #[{ on := 4, ground := Go.Ground.data }], guard := none }) (v := ?_) [6, 12, 15] rfl (by kernel_rfl) (by kernel_rfl) (by kernel_rfl) (by kernel_rfl) (by kernel_rfl) (fun _ _ _ h => h) (by first | exact hF | exact hF (by kernel_rfl)) (fun w hFw => ?_) (by rfl) ?_
              rotate_left
              · (try dsimp only at hFw)
                first | (go_simp; done) | (go_simp; with_reducible rfl) | (go_split_ands; go_simp; done)
              try simp only [Act.put, List.setIfInBounds_toArray, List.set_cons_zero, List.set_cons_succ]
              refine wpAnyJ_take (i := 6) (oi := { dst := some 85, op := Go.Op.load 3 (Go.Operand.tmp 84), type := 3, pos := "bracket.go:40", after := #[{ on := 5, ground := Go.Ground.data }], guard := none }) (v := ?_) [12, 15] rfl (by kernel_rfl) (by kernel_rfl) (by kernel_rfl) (by kernel_rfl) (by kernel_rfl) (fun _ _ _ h => h) (by first | exact hF | exact hF (by kernel_rfl)) (fun w hFw => ?_) (by rfl) ?_
              rotate_left
              · (try dsimp only at hFw)
                first | (go_simp; done) | (go_simp; with_reducible rfl) | (go_split_ands; go_simp; done)
              try simp only [Act.put, List.setIfInBounds_toArray, List.set_cons_zero, List.set_cons_succ]
              refine wpAnyJ_take (i := 7) (oi := { dst := some 86, op := Go.Op.move (Go.Operand.tmp 9), type := 58, pos := "bracket.go:40", after := #[], guard := none }) (v := ?_) [8, 9, 10, 11, 12, 15] rfl (by kernel_rfl) (by kernel_rfl) (by kernel_rfl) (by kernel_rfl) (by kernel_rfl) (fun _ _ _ h => h) (by first | exact hF | exact hF (by kernel_rfl)) (fun w hFw => ?_) (by rfl) ?_
              rotate_left
              · (try dsimp only at hFw)
                first | (go_simp; done) | (go_simp; with_reducible rfl) | (go_split_ands; go_simp; done)
              try simp only [Act.put, List.setIfInBounds_toArray, List.set_cons_zero, List.set_cons_succ]
              refine wpAnyJ_take (i := 8) (oi := { dst := some 87, op := Go.Op.nilCheck (Go.Operand.tmp 86), type := 0, pos := "bracket.go:40", after := #[{ on := 7, ground := Go.Ground.data }], guard := none }) (v := ?_) [9, 10, 11, 12, 15] rfl (by kernel_rfl) (by kernel_rfl) (by kernel_rfl) (by kernel_rfl) (by kernel_rfl) (fun _ _ _ h => h) (by first | exact hF | exact hF (by kernel_rfl)) (fun w hFw => ?_) (by rfl) ?_
              rotate_left
              · (try dsimp only at hFw)
                first | (go_simp; done) | (go_simp; with_reducible rfl) | (go_split_ands; go_simp; done)
              try simp only [Act.put, List.setIfInBounds_toArray, List.set_cons_zero, List.set_cons_succ]
              refine wpAnyJ_take (i := 9) (oi := { dst := some 88, op := Go.Op.fieldAddr 57 (Go.Operand.tmp 87) 0, type := 0, pos := "bracket.go:40", after := #[{ on := 8, ground := Go.Ground.data }], guard := none }) (v := ?_) [10, 11, 12, 15] rfl (by kernel_rfl) (by kernel_rfl) (by kernel_rfl) (by kernel_rfl) (by kernel_rfl) (fun _ _ _ h => h) (by first | exact hF | exact hF (by kernel_rfl)) (fun w hFw => ?_) (by rfl) ?_
              rotate_left
              · (try dsimp only at hFw)
                first | (go_simp; done) | (go_simp; with_reducible rfl) | (go_split_ands; go_simp; done)
              try simp only [Act.put, List.setIfInBounds_toArray, List.set_cons_zero, List.set_cons_succ]
              refine wpAnyJ_take (i := 10) (oi := { dst := some 89, op := Go.Op.indexAddr 32 (Go.Operand.tmp 88) (Go.Operand.const (Go.Value.int Go.IntKind.i64 1)), type := 0, pos := "bracket.go:40", after := #[{ on := 9, ground := Go.Ground.data }], guard := none }) (v := ?_) [11, 12, 15] rfl (by kernel_rfl) (by kernel_rfl) (by kernel_rfl) (by kernel_rfl) (by kernel_rfl) (fun _ _ _ h => h) (by first | exact hF | exact hF (by kernel_rfl)) (fun w hFw => ?_) (by rfl) ?_
              rotate_left
              · (try dsimp only at hFw)
                first | (go_simp; done) | (go_simp; with_reducible rfl) | (go_split_ands; go_simp; done)
              try simp only [Act.put, List.setIfInBounds_toArray, List.set_cons_zero, List.set_cons_succ]
              refine wpAnyJ_take (i := 11) (oi := { dst := some 90, op := Go.Op.load 3 (Go.Operand.tmp 89), type := 3, pos := "bracket.go:40", after := #[{ on := 10, ground := Go.Ground.data }], guard := none }) (v := ?_) [12, 15] rfl (by kernel_rfl) (by kernel_rfl) (by kernel_rfl) (by kernel_rfl) (by kernel_rfl) (fun _ _ _ h => h) (by first | exact hF | exact hF (by kernel_rfl)) (fun w hFw => ?_) (by rfl) ?_
              rotate_left
              · (try dsimp only at hFw)
                first | (go_simp; done) | (go_simp; with_reducible rfl) | (go_split_ands; go_simp; done)
              try simp only [Act.put, List.setIfInBounds_toArray, List.set_cons_zero, List.set_cons_succ]
              refine wpAnyJ_take (i := 12) (oi := { dst := some 91, op := Go.Op.call { callee := Go.Callee.builtin Go.Builtin.max, args := #[Go.Operand.tmp 85, Go.Operand.tmp 90], argTypes := #[3, 3] }, type := 3, pos := "bracket.go:40", after := #[{ on := 6, ground := Go.Ground.data }, { on := 11, ground := Go.Ground.data }], guard := none }) (v := ?_) [15] rfl (by kernel_rfl) (by kernel_rfl) (by kernel_rfl) (by kernel_rfl) (by kernel_rfl) (fun _ _ _ h => h) (by first | exact hF | exact hF (by kernel_rfl)) (fun w hFw => ?_) (by rfl) ?_
              rotate_left
              · (try dsimp only at hFw)
                first | (go_simp; done) | (go_simp; with_reducible rfl) | (go_split_ands; go_simp; done)
              try simp only [Act.put, List.setIfInBounds_toArray, List.set_cons_zero, List.set_cons_succ]
              refine wpAnyJ_take (i := 13) (oi := { dst := some 92, op := Go.Op.move (Go.Operand.tmp 6), type := 24, pos := "bracket.go:40", after := #[], guard := none }) (v := ?_) [14, 15] rfl (by kernel_rfl) (by kernel_rfl) (by kernel_rfl) (by kernel_rfl) (by kernel_rfl) (fun _ _ _ h => h) (by first | exact hF | exact hF (by kernel_rfl)) (fun w hFw => ?_) (by rfl) ?_
              rotate_left
              · (try dsimp only at hFw)
                first | (go_simp; done) | (go_simp; with_reducible rfl) | (go_split_ands; go_simp; done)
              try simp only [Act.put, List.setIfInBounds_toArray, List.set_cons_zero, List.set_cons_succ]
              refine wpAnyJ_take (i := 14) (oi := { dst := some 93, op := Go.Op.makeFunc (Go.Fn.func 25) #[Go.Operand.tmp 92] #[], type := 60, pos := "bracket.go:40", after := #[{ on := 13, ground := Go.Ground.data }], guard := none }) (v := ?_) [15] rfl (by kernel_rfl) (by kernel_rfl) (by kernel_rfl) (by kernel_rfl) (by kernel_rfl) (fun _ _ _ h => h) (by first | exact hF | exact hF (by kernel_rfl)) (fun w hFw => ?_) (by rfl) ?_
              rotate_left
              · (try dsimp only at hFw)
                first | (go_simp; done) | (go_simp; with_reducible rfl) | (go_split_ands; go_simp; done)
              try simp only [Act.put, List.setIfInBounds_toArray, List.set_cons_zero, List.set_cons_succ]
              refine wpAnyJ_ready (rs := [15]) (by kernel_rfl) (by simp) ?_
              refine AllJ.cons (o := { dst := some 94, op := Go.Op.call { callee := Go.Callee.value (Go.Operand.func 24), args := #[Go.Operand.tmp 79, Go.Operand.tmp 80, Go.Operand.tmp 91, Go.Operand.tmp 93], argTypes := #[24, 3, 3, 60] }, type := 0, pos := "bracket.go:40", after := #[{ on := 0, ground := Go.Ground.data }, { on := 1, ground := Go.Ground.data }, { on := 12, ground := Go.Ground.data }, { on := 14, ground := Go.Ground.data }], guard := none }) rfl (fun Kr hKr => ?_) ?_
              · go_simp; go_at_call 24; refine (hwin.out _ s1.own.left.drew).mono ?_; rintro e w2 ⟨rfl, hst⟩
                refine hKr.out _ _ (fun hJ => ?_) (fun hF => ?_)
                · first
                  | exact absurd hJ (by decide)
                  | (clear hJ; (try dsimp only); all_goals (rfl))
                clear hKr
                try simp only [Act.put, List.setIfInBounds_toArray, List.set_cons_zero, List.set_cons_succ]
                refine wpAnyJ_done (by kernel_rfl) ?_ _
                go_wp2_with fail
                exact ⟨⟨k + 1, by omega, by go_num, by rw [hby.out]; exact s1.drew.call hst⟩, by simp [intOf]; omega⟩
              exact AllJ.nil
          · rw [hbd, if_neg h0] at hby
            have e0 : ((m0 : Int) == 0) = false := beq_eq_false_iff_ne.2 (by omega)
            have e1 : ((m1 : Int) == 0) = false := beq_eq_false_iff_ne.2 (by omega)
            replace hby := Lib.hid hby
            clear kn kz ko kl hm hB hbd h0
            go_wp2_with fail
            exact ⟨⟨k + 1, by omega, by go_num, by rw [hby.out]; exact hs⟩, by simp [intOf]; omega⟩
        · have d2 : (z : Int) / 2 ≤ (k : Int) := by omega
          have hkz : k = z / 2 := by omega
          rw [hkz] at hs
          replace hs := Lib.hid hs
          clear hkz
          go_wp2_with fail
          go_ret2
          refine ⟨b, g, h, H, rfl, ?_⟩
          unfold newB
          rw [← hz.out]; exact hs.out
end Go.Proofs.Ytdkjgkbddehaiaa
