/- Report. -/
import Derived.Test.YtdkjgkbddehaiaaBrC
import Derived.Test.YtdkjgkbddehaiaaReg
namespace Go.Proofs.Ytdkjgkbddehaiaa
open Go.RowKit
attribute [local go_sem ↓] Go.wp_at_zero Go.wp_at_succ

theorem Step.under {w W w1 : World} {H G G' : Heaplet} {e0 : Nat × Obj} (s : Step w H W (e0 :: G)) (k : Step W G w1 G') : Step w H w1 (e0 :: G') := by
  have := Step.mid1 (B := []) (by rw [List.append_nil]; exact s) k
  rwa [List.append_nil] at this
structure Br.Ok (B : Br) : Prop where
  pow : ∃ q, q ≤ 5 ∧ B.z = 2 ^ (q + 1)
  len : B.ms.length + 1 = B.z
  outl : B.out.length = B.n + 1
  n64 : B.n ≤ 64
  le : ∀ m ∈ B.ms, m.s0 ≤ B.n ∧ m.s1 ≤ B.n ∧ m.w ≤ B.n
theorem Br.Ok.z64 {B : Br} (h : B.Ok) : B.z ≤ 64 := by
  obtain ⟨q, h1, h2⟩ := h.pow
  rw [h2]; exact Nat.pow_le_pow_right (n := 2) (j := 6) (by omega) (by omega)
theorem outs_set {b g h : Nat} {B : Br} {w w' : World} {H : Heaplet} {e0 : Nat × Obj} (s : Step w H w' (e0 :: brH b g h B)) (l : Nat) :
    Step w H (w'.setCell ⟨h, l, none⟩ (.bool true)) (e0 :: brH b g h { B with out := B.out.set l true }) := by
  have s1 := Step.store3 (i := l) (.bool true) s
  rw [setA, ← List.map_set] at s1
  unfold brH
  simp only [List.length_set]
  exact s1
theorem rep_no {B : Br} {i k : Int} (h : B.has i = false) : B.report i k = (7, B) := by
  unfold Br.report
  by_cases h0 : 0 ≤ i
  · rw [if_pos h0]
    simp [Br.has, h0] at h
    rw [List.getElem?_eq_none (by omega)]
  · rw [if_neg h0]
theorem rep_at {B : Br} {i : Nat} {k : Int} {m : Mt} (h : B.ms[i]? = some m) : B.report (i : Int) k = if k ≠ 0 ∧ k ≠ 1 then (1, B) else if m.s0 = 0 ∨ m.s1 = 0 then (15, B) else if m.w ≠ 0 then (8, B) else (0, { B.win i (m.seat k.toNat) with out := B.out.set (m.seat (1 - k.toNat)) true }) := by
  unfold Br.report
  rw [if_pos (by omega), Int.toNat_natCast, h]
def RepPost (b g h : Nat) (B : Br) (x : Nat × Br) (w : World) (e : Ending) (w' : World) : Prop := e = .returned (iv x.1) ∧ Step w (brH b g h B) w' (brH b g h x.2)
set_option maxRecDepth 100000 in
theorem report_no (b g h : Nat) (B : Br) (i k : Int) (w : World) (hw : Own w (brH b g h B)) (hi : B.has i = false) :
    Calls Try.prog 13 #[pt b, .int .i64 i, .int .i64 k] w (RepPost b g h B (B.report i k) w) := by
  rw [rep_no hi]
  replace hi := Lib.hid hi
  go_enter Try.func13, Try.ntmps13
  go_wp2_with fail
  refine (has_no b g h B i _ hw hi.out).mono ?_
  rintro e w' ⟨rfl, rfl⟩
  go_wp2_with fail
  go_ret
  exact ⟨rfl, Step.refl hw⟩
set_option maxRecDepth 100000 in
theorem report_arg (b g h : Nat) (B : Br) (i : Nat) (k : Int) (m : Mt) (w : World) (hw : Own w (brH b g h B)) (hm : B.ms[i]? = some m) (hk : k ≠ 0 ∧ k ≠ 1) :
    Calls Try.prog 13 #[pt b, .int .i64 i, .int .i64 k] w (RepPost b g h B (B.report i k) w) := by
  rw [rep_at hm, if_pos hk]
  have hi := (List.getElem?_eq_some_iff.1 hm).1
  obtain ⟨c0, c1, c2, c3⟩ := cells4 hw.h0
  obtain ⟨m0, m1, m2, m3⟩ := ms_cell hw hm
  have b1 : (0 : Int) ≤ (i : Int) := by omega
  have b2 : (i : Int) < (B.ms.length : Int) := by omega
  have e1 : (k != 0) = true := by simp [hk.1]
  have e2 : (k != 1) = true := by simp [hk.2]
  clear hm hk
  go_enter Try.func13, Try.ntmps13
  go_wp2_with fail
  refine (has_yes b g h B i _ hw hi).mono ?_
  rintro e w' ⟨rfl, rfl⟩
  go_wp2_with fail
  go_ret
  exact ⟨rfl, (Step.refl hw).junk _⟩
set_option maxRecDepth 100000 in
theorem report_state (b g h : Nat) (B : Br) (i : Nat) (k : Int) (m : Mt) (w : World) (hw : Own w (brH b g h B)) (hm : B.ms[i]? = some m) (hk : k = 0 ∨ k = 1) (hs : m.s0 = 0 ∨ m.s1 = 0) :
    Calls Try.prog 13 #[pt b, .int .i64 i, .int .i64 k] w (RepPost b g h B (B.report i k) w) := by
  rw [rep_at hm, if_neg (by omega), if_pos hs]
  have hi := (List.getElem?_eq_some_iff.1 hm).1
  obtain ⟨c0, c1, c2, c3⟩ := cells4 hw.h0
  obtain ⟨m0, m1, m2, m3⟩ := ms_cell hw hm
  have b1 : (0 : Int) ≤ (i : Int) := by omega
  have b2 : (i : Int) < (B.ms.length : Int) := by omega
  clear hm
  obtain ⟨ms0, ms1, mw, mb⟩ := m
  simp only at hs m0 m1 m2 m3
  have hs : ((ms0 : Int) == 0) = true ∨ (((ms0 : Int) == 0) = false ∧ ((ms1 : Int) == 0) = true) := by
    simp only [beq_iff_eq, beq_eq_false_iff_ne]; omega
  rcases hs with hs | ⟨hs, hs'⟩
  all_goals
    rcases hk with rfl | rfl
    all_goals
      go_enter Try.func13, Try.ntmps13
      go_wp2_with fail
      refine (has_yes b g h B i _ hw hi).mono ?_
      rintro e w' ⟨rfl, rfl⟩
      go_wp2_with fail
      go_ret
      exact ⟨rfl, (Step.refl hw).junk _⟩
set_option maxRecDepth 100000 in
theorem report_has (b g h : Nat) (B : Br) (i : Nat) (k : Int) (m : Mt) (w : World) (hw : Own w (brH b g h B)) (hm : B.ms[i]? = some m) (hk : k = 0 ∨ k = 1) (h0 : m.s0 ≠ 0) (h1 : m.s1 ≠ 0) (hww : m.w ≠ 0) :
    Calls Try.prog 13 #[pt b, .int .i64 i, .int .i64 k] w (RepPost b g h B (B.report i k) w) := by
  rw [rep_at hm, if_neg (by omega), if_neg (by omega), if_pos hww]
  have hi := (List.getElem?_eq_some_iff.1 hm).1
  obtain ⟨c0, c1, c2, c3⟩ := cells4 hw.h0
  obtain ⟨m0, m1, m2, m3⟩ := ms_cell hw hm
  have b1 : (0 : Int) ≤ (i : Int) := by omega
  have b2 : (i : Int) < (B.ms.length : Int) := by omega
  clear hm
  obtain ⟨ms0, ms1, mw, mb⟩ := m
  simp only at h0 h1 hww m0 m1 m2 m3
  have e0 : ((ms0 : Int) == 0) = false := beq_eq_false_iff_ne.2 (by omega)
  have e1 : ((ms1 : Int) == 0) = false := beq_eq_false_iff_ne.2 (by omega)
  have e2 : ((mw : Int) != 0) = true := by simp; omega
  clear h0 h1 hww
  rcases hk with rfl | rfl
  all_goals
    go_enter Try.func13, Try.ntmps13
    go_wp2_with fail
    refine (has_yes b g h B i _ hw hi).mono ?_
    rintro e w' ⟨rfl, rfl⟩
    go_wp2_with fail
    go_ret
    exact ⟨rfl, (Step.refl hw).junk _⟩
set_option maxRecDepth 100000 in
set_option maxHeartbeats 1000000 in
theorem report_ok (b g h : Nat) (B : Br) (i k : Nat) (m : Mt) (w : World) (hw : Own w (brH b g h B)) (hok : B.Ok) (hm : B.ms[i]? = some m) (hk : k = 0 ∨ k = 1) (h0 : m.s0 ≠ 0) (h1 : m.s1 ≠ 0) (hww : m.w = 0) :
    Calls Try.prog 13 #[pt b, .int .i64 i, .int .i64 k] w (RepPost b g h B (B.report i k) w) := by
  rw [rep_at hm, if_neg (by omega), if_neg (by omega), if_neg (by omega)]
  have hi := (List.getElem?_eq_some_iff.1 hm).1
  have hz64 := hok.z64
  have hle := hok.le m (List.mem_of_getElem? hm)
  have hol := hok.outl
  obtain ⟨c0, c1, c2, c3⟩ := cells4 hw.h0
  obtain ⟨m0, m1, m2, m3⟩ := ms_cell hw hm
  have b1 : (0 : Int) ≤ (i : Int) := by omega
  have b2 : (i : Int) < (B.ms.length : Int) := by omega
  clear hm
  obtain ⟨ms0, ms1, mw, mb⟩ := m
  simp only at h0 h1 hww m0 m1 m2 m3 hle
  have e0 : ((ms0 : Int) == 0) = false := beq_eq_false_iff_ne.2 (by omega)
  have e1 : ((ms1 : Int) == 0) = false := beq_eq_false_iff_ne.2 (by omega)
  have e2 : ((mw : Int) != 0) = false := by simp; omega
  have q0 : (ms0 : Int) < (B.out.length : Int) := by omega
  have q1 : (ms1 : Int) < (B.out.length : Int) := by omega
  have q2 : (0 : Int) ≤ (ms0 : Int) := by omega
  have q3 : (0 : Int) ≤ (ms1 : Int) := by omega
  have hwin := Lib.hid (fun s W hW => wins_any b g h B i s W hW hok.pow hok.len hi)
  clear h0 h1 hww hle hol
  have s0 := (Step.refl hw).alloc (.cells #[iv ms0, iv ms1, iv mw, .bool mb] 57)
  obtain ⟨d0, d1, d2, d3⟩ := cells4 s0.own.h0
  rcases hk with rfl | rfl
  · go_enter Try.func13, Try.ntmps13
    go_wp2_with fail
    refine (has_yes b g h B i _ hw hi).mono ?_
    rintro e w' ⟨rfl, rfl⟩
    go_wp2_with fail
    refine (hwin.out ms0 _ s0.own.tail).mono ?_
    rintro e w1 ⟨rfl, hst⟩
    have s1 := s0.under hst
    obtain ⟨x0, x1, x2, x3⟩ := cells4 s1.own.h1
    obtain ⟨d0, d1, d2, d3⟩ := cells4 s1.own.h0
    have fh := fun i => frz_of (i := i) (Own.h3 s1.own)
    clear c0 c1 c2 c3 m0 m1 m2 m3
    obtain ⟨y, hy⟩ : ∃ y, w1.cell? ⟨h, ms1, none⟩ = some y := by
      obtain ⟨x, hx⟩ : ∃ x, B.out[ms1]? = some x := ⟨_, List.getElem?_eq_getElem (by omega)⟩
      exact ⟨_, out_cell s1.own.tail (B := B.win i ms0) hx⟩
    simp only [win_out] at x3
    have k1 : IntKind.i64.wrap 1 = 1 := by decide
    have k0 : IntKind.i64.wrap 0 = 0 := by decide
    generalize w.heap.size = M at s1 d0 d1 d2 d3 ⊢
    go_wp2_with fail
    refine wp_region_J 10 (fun w' => w' = w1.drew) (by kernel_rfl) ?_ (fun hF => ?_)
    · (try dsimp only)
      all_goals (rfl)
    refine wpAnyJ_take (i := 0) (oi := { dst := some 50, op := Go.Op.move (Go.Operand.tmp 0), type := 24, pos := "bracket.go:92", after := #[], guard := none }) (v := ?_) [10] rfl (by kernel_rfl) (by kernel_rfl) (by kernel_rfl) (by kernel_rfl) (by kernel_rfl) (fun _ _ _ h => h) (by first | exact hF | exact hF (by kernel_rfl)) (fun w hFw => ?_) (by rfl) ?_
    rotate_left
    · (try dsimp only at hFw)
      first | (go_simp; done) | (go_simp; with_reducible rfl) | (go_split_ands; go_simp; done)
    try simp only [Act.put, List.setIfInBounds_toArray, List.set_cons_zero, List.set_cons_succ]
    refine wpAnyJ_take (i := 1) (oi := { dst := some 51, op := Go.Op.nilCheck (Go.Operand.tmp 50), type := 0, pos := "bracket.go:92", after := #[{ on := 0, ground := Go.Ground.data }], guard := none }) (v := ?_) [10] rfl (by kernel_rfl) (by kernel_rfl) (by kernel_rfl) (by kernel_rfl) (by kernel_rfl) (fun _ _ _ h => h) (by first | exact hF | exact hF (by kernel_rfl)) (fun w hFw => ?_) (by rfl) ?_
    rotate_left
    · (try dsimp only at hFw)
      first | (go_simp; done) | (go_simp; with_reducible rfl) | (go_split_ands; go_simp; done)
    try simp only [Act.put, List.setIfInBounds_toArray, List.set_cons_zero, List.set_cons_succ]
    refine wpAnyJ_take (i := 2) (oi := { dst := some 52, op := Go.Op.fieldAddr 55 (Go.Operand.tmp 51) 3, type := 0, pos := "bracket.go:92", after := #[{ on := 1, ground := Go.Ground.data }], guard := none }) (v := ?_) [10] rfl (by kernel_rfl) (by kernel_rfl) (by kernel_rfl) (by kernel_rfl) (by kernel_rfl) (fun _ _ _ h => h) (by first | exact hF | exact hF (by kernel_rfl)) (fun w hFw => ?_) (by rfl) ?_
    rotate_left
    · (try dsimp only at hFw)
      first | (go_simp; done) | (go_simp; with_reducible rfl) | (go_split_ands; go_simp; done)
    try simp only [Act.put, List.setIfInBounds_toArray, List.set_cons_zero, List.set_cons_succ]
    refine wpAnyJ_take (i := 3) (oi := { dst := some 53, op := Go.Op.load 53 (Go.Operand.tmp 52), type := 53, pos := "bracket.go:92", after := #[{ on := 2, ground := Go.Ground.data }], guard := none }) (v := ?_) [10] rfl (by kernel_rfl) (by kernel_rfl) (by kernel_rfl) (by kernel_rfl) (by kernel_rfl) (fun _ _ _ h => h) (by first | exact hF | exact hF (by kernel_rfl)) (fun w hFw => ?_) (by rfl) ?_
    rotate_left
    · (try dsimp only at hFw)
      first | (go_simp; done) | (go_simp; with_reducible rfl) | (go_split_ands; go_simp; done)
    try simp only [Act.put, List.setIfInBounds_toArray, List.set_cons_zero, List.set_cons_succ]
    refine wpAnyJ_take (i := 4) (oi := { dst := some 54, op := Go.Op.move (Go.Operand.tmp 2), type := 3, pos := "bracket.go:92", after := #[], guard := none }) (v := ?_) [10] rfl (by kernel_rfl) (by kernel_rfl) (by kernel_rfl) (by kernel_rfl) (by kernel_rfl) (fun _ _ _ h => h) (by first | exact hF | exact hF (by kernel_rfl)) (fun w hFw => ?_) (by rfl) ?_
    rotate_left
    · (try dsimp only at hFw)
      first | (go_simp; done) | (go_simp; with_reducible rfl) | (go_split_ands; go_simp; done)
    try simp only [Act.put, List.setIfInBounds_toArray, List.set_cons_zero, List.set_cons_succ]
    refine wpAnyJ_take (i := 5) (oi := { dst := some 55, op := Go.Op.binOp Go.BinOp.sub 3 (Go.Operand.const (Go.Value.int Go.IntKind.i64 1)) (Go.Operand.tmp 54) 3, type := 3, pos := "bracket.go:92", after := #[{ on := 4, ground := Go.Ground.data }], guard := none }) (v := ?_) [10] rfl (by kernel_rfl) (by kernel_rfl) (by kernel_rfl) (by kernel_rfl) (by kernel_rfl) (fun _ _ _ h => h) (by first | exact hF | exact hF (by kernel_rfl)) (fun w hFw => ?_) (by rfl) ?_
    rotate_left
    · (try dsimp only at hFw)
      first | (go_simp; done) | (go_simp; with_reducible rfl) | (go_split_ands; go_simp; done)
    try simp only [Act.put, List.setIfInBounds_toArray, List.set_cons_zero, List.set_cons_succ]
    refine wpAnyJ_take (i := 6) (oi := { dst := some 56, op := Go.Op.fieldAddr 57 (Go.Operand.tmp 7) 0, type := 0, pos := "bracket.go:92", after := #[], guard := none }) (v := ?_) [10] rfl (by kernel_rfl) (by kernel_rfl) (by kernel_rfl) (by kernel_rfl) (by kernel_rfl) (fun _ _ _ h => h) (by first | exact hF | exact hF (by kernel_rfl)) (fun w hFw => ?_) (by rfl) ?_
    rotate_left
    · (try dsimp only at hFw)
      first | (go_simp; done) | (go_simp; with_reducible rfl) | (go_split_ands; go_simp; done)
    try simp only [Act.put, List.setIfInBounds_toArray, List.set_cons_zero, List.set_cons_succ]
    refine wpAnyJ_take (i := 7) (oi := { dst := some 57, op := Go.Op.indexAddr 32 (Go.Operand.tmp 56) (Go.Operand.tmp 55), type := 0, pos := "bracket.go:92", after := #[{ on := 6, ground := Go.Ground.data }, { on := 5, ground := Go.Ground.data }], guard := none }) (v := ?_) [10] rfl (by kernel_rfl) (by kernel_rfl) (by kernel_rfl) (by kernel_rfl) (by kernel_rfl) (fun _ _ _ h => h) (by first | exact hF | exact hF (by kernel_rfl)) (fun w hFw => ?_) (by rfl) ?_
    rotate_left
    · (try dsimp only at hFw)
      first | (go_simp; done) | (go_simp; with_reducible rfl) | (go_split_ands; go_simp; done)
    try simp only [Act.put, List.setIfInBounds_toArray, List.set_cons_zero, List.set_cons_succ]
    refine wpAnyJ_take (i := 8) (oi := { dst := some 58, op := Go.Op.load 3 (Go.Operand.tmp 57), type := 3, pos := "bracket.go:92", after := #[{ on := 7, ground := Go.Ground.data }], guard := none }) (v := ?_) [10] rfl (by kernel_rfl) (by kernel_rfl) (by kernel_rfl) (by kernel_rfl) (by kernel_rfl) (fun _ _ _ h => h) (by first | exact hF | exact hF (by kernel_rfl)) (fun w hFw => ?_) (by rfl) ?_
    rotate_left
    · (try dsimp only at hFw)
      first | (go_simp; done) | (go_simp; with_reducible rfl) | (go_split_ands; go_simp; done)
    try simp only [Act.put, List.setIfInBounds_toArray, List.set_cons_zero, List.set_cons_succ]
    refine wpAnyJ_take (i := 9) (oi := { dst := some 59, op := Go.Op.indexAddr 53 (Go.Operand.tmp 53) (Go.Operand.tmp 58), type := 0, pos := "bracket.go:92", after := #[{ on := 3, ground := Go.Ground.data }, { on := 8, ground := Go.Ground.data }, { on := 0, ground := Go.Ground.phase }, { on := 1, ground := Go.Ground.phase }, { on := 2, ground := Go.Ground.phase }, { on := 3, ground := Go.Ground.phase }, { on := 4, ground := Go.Ground.phase }, { on := 5, ground := Go.Ground.phase }, { on := 6, ground := Go.Ground.phase }, { on := 7, ground := Go.Ground.phase }, { on := 8, ground := Go.Ground.phase }], guard := none }) (v := ?_) [10] rfl (by kernel_rfl) (by kernel_rfl) (by kernel_rfl) (by kernel_rfl) (by kernel_rfl) (fun _ _ _ h => h) (by first | exact hF | exact hF (by kernel_rfl)) (fun w hFw => ?_) (by rfl) ?_
    rotate_left
    · (try dsimp only at hFw)
      first | (go_simp; done) | (go_simp; with_reducible rfl) | (go_split_ands; go_simp; done)
    try simp only [Act.put, List.setIfInBounds_toArray, List.set_cons_zero, List.set_cons_succ]
    refine wpAnyJ_ready (rs := [10]) (by kernel_rfl) (by simp) ?_
    refine AllJ.cons (o := { dst := none, op := Go.Op.store 4 (Go.Operand.tmp 59) (Go.Operand.const (Go.Value.bool true)), type := 0, pos := "bracket.go:92", after := #[{ on := 9, ground := Go.Ground.data }, { on := 0, ground := Go.Ground.phase }, { on := 1, ground := Go.Ground.phase }, { on := 2, ground := Go.Ground.phase }, { on := 3, ground := Go.Ground.phase }, { on := 4, ground := Go.Ground.phase }, { on := 5, ground := Go.Ground.phase }, { on := 6, ground := Go.Ground.phase }, { on := 7, ground := Go.Ground.phase }, { on := 8, ground := Go.Ground.phase }], guard := none }) rfl (fun Kr hKr => ?_) ?_
    · go_simp
      refine hKr.out _ _ (fun hJ => ?_) (fun hF => ?_)
      · first
        | exact absurd hJ (by decide)
        | (clear hJ; (try dsimp only); all_goals (rfl))
      clear hKr
      try simp only [Act.put, List.setIfInBounds_toArray, List.set_cons_zero, List.set_cons_succ]
      refine wpAnyJ_done (by kernel_rfl) ?_ _
      go_wp2_with fail
      go_ret
      exact ⟨rfl, (outs_set s1.drew ms1).tail⟩
    exact AllJ.nil
  · go_enter Try.func13, Try.ntmps13
    go_wp2_with fail
    refine (has_yes b g h B i _ hw hi).mono ?_
    rintro e w' ⟨rfl, rfl⟩
    go_wp2_with fail
    refine (hwin.out ms1 _ s0.own.tail).mono ?_
    rintro e w1 ⟨rfl, hst⟩
    have s1 := s0.under hst
    obtain ⟨x0, x1, x2, x3⟩ := cells4 s1.own.h1
    obtain ⟨d0, d1, d2, d3⟩ := cells4 s1.own.h0
    have fh := fun i => frz_of (i := i) (Own.h3 s1.own)
    clear c0 c1 c2 c3 m0 m1 m2 m3
    obtain ⟨y, hy⟩ : ∃ y, w1.cell? ⟨h, ms0, none⟩ = some y := by
      obtain ⟨x, hx⟩ : ∃ x, B.out[ms0]? = some x := ⟨_, List.getElem?_eq_getElem (by omega)⟩
      exact ⟨_, out_cell s1.own.tail (B := B.win i ms1) hx⟩
    simp only [win_out] at x3
    have k1 : IntKind.i64.wrap 1 = 1 := by decide
    have k0 : IntKind.i64.wrap 0 = 0 := by decide
    generalize w.heap.size = M at s1 d0 d1 d2 d3 ⊢
    go_wp2_with fail
    refine wp_region_J 10 (fun w' => w' = w1.drew) (by kernel_rfl) ?_ (fun hF => ?_)
    · (try dsimp only)
      all_goals (rfl)
    refine wpAnyJ_take (i := 0) (oi := { dst := some 50, op := Go.Op.move (Go.Operand.tmp 0), type := 24, pos := "bracket.go:92", after := #[], guard := none }) (v := ?_) [10] rfl (by kernel_rfl) (by kernel_rfl) (by kernel_rfl) (by kernel_rfl) (by kernel_rfl) (fun _ _ _ h => h) (by first | exact hF | exact hF (by kernel_rfl)) (fun w hFw => ?_) (by rfl) ?_
    rotate_left
    · (try dsimp only at hFw)
      first | (go_simp; done) | (go_simp; with_reducible rfl) | (go_split_ands; go_simp; done)
    try simp only [Act.put, List.setIfInBounds_toArray, List.set_cons_zero, List.set_cons_succ]
    refine wpAnyJ_take (i := 1) (oi := { dst := some 51, op := Go.Op.nilCheck (Go.Operand.tmp 50), type := 0, pos := "bracket.go:92", after := #[{ on := 0, ground := Go.Ground.data }], guard := none }) (v := ?_) [10] rfl (by kernel_rfl) (by kernel_rfl) (by kernel_rfl) (by kernel_rfl) (by kernel_rfl) (fun _ _ _ h => h) (by first | exact hF | exact hF (by kernel_rfl)) (fun w hFw => ?_) (by rfl) ?_
    rotate_left
    · (try dsimp only at hFw)
      first | (go_simp; done) | (go_simp; with_reducible rfl) | (go_split_ands; go_simp; done)
    try simp only [Act.put, List.setIfInBounds_toArray, List.set_cons_zero, List.set_cons_succ]
    refine wpAnyJ_take (i := 2) (oi := { dst := some 52, op := Go.Op.fieldAddr 55 (Go.Operand.tmp 51) 3, type := 0, pos := "bracket.go:92", after := #[{ on := 1, ground := Go.Ground.data }], guard := none }) (v := ?_) [10] rfl (by kernel_rfl) (by kernel_rfl) (by kernel_rfl) (by kernel_rfl) (by kernel_rfl) (fun _ _ _ h => h) (by first | exact hF | exact hF (by kernel_rfl)) (fun w hFw => ?_) (by rfl) ?_
    rotate_left
    · (try dsimp only at hFw)
      first | (go_simp; done) | (go_simp; with_reducible rfl) | (go_split_ands; go_simp; done)
    try simp only [Act.put, List.setIfInBounds_toArray, List.set_cons_zero, List.set_cons_succ]
    refine wpAnyJ_take (i := 3) (oi := { dst := some 53, op := Go.Op.load 53 (Go.Operand.tmp 52), type := 53, pos := "bracket.go:92", after := #[{ on := 2, ground := Go.Ground.data }], guard := none }) (v := ?_) [10] rfl (by kernel_rfl) (by kernel_rfl) (by kernel_rfl) (by kernel_rfl) (by kernel_rfl) (fun _ _ _ h => h) (by first | exact hF | exact hF (by kernel_rfl)) (fun w hFw => ?_) (by rfl) ?_
    rotate_left
    · (try dsimp only at hFw)
      first | (go_simp; done) | (go_simp; with_reducible rfl) | (go_split_ands; go_simp; done)
    try simp only [Act.put, List.setIfInBounds_toArray, List.set_cons_zero, List.set_cons_succ]
    refine wpAnyJ_take (i := 4) (oi := { dst := some 54, op := Go.Op.move (Go.Operand.tmp 2), type := 3, pos := "bracket.go:92", after := #[], guard := none }) (v := ?_) [10] rfl (by kernel_rfl) (by kernel_rfl) (by kernel_rfl) (by kernel_rfl) (by kernel_rfl) (fun _ _ _ h => h) (by first | exact hF | exact hF (by kernel_rfl)) (fun w hFw => ?_) (by rfl) ?_
    rotate_left
    · (try dsimp only at hFw)
      first | (go_simp; done) | (go_simp; with_reducible rfl) | (go_split_ands; go_simp; done)
    try simp only [Act.put, List.setIfInBounds_toArray, List.set_cons_zero, List.set_cons_succ]
    refine wpAnyJ_take (i := 5) (oi := { dst := some 55, op := Go.Op.binOp Go.BinOp.sub 3 (Go.Operand.const (Go.Value.int Go.IntKind.i64 1)) (Go.Operand.tmp 54) 3, type := 3, pos := "bracket.go:92", after := #[{ on := 4, ground := Go.Ground.data }], guard := none }) (v := ?_) [10] rfl (by kernel_rfl) (by kernel_rfl) (by kernel_rfl) (by kernel_rfl) (by kernel_rfl) (fun _ _ _ h => h) (by first | exact hF | exact hF (by kernel_rfl)) (fun w hFw => ?_) (by rfl) ?_
    rotate_left
    · (try dsimp only at hFw)
      first | (go_simp; done) | (go_simp; with_reducible rfl) | (go_split_ands; go_simp; done)
    try simp only [Act.put, List.setIfInBounds_toArray, List.set_cons_zero, List.set_cons_succ]
    refine wpAnyJ_take (i := 6) (oi := { dst := some 56, op := Go.Op.fieldAddr 57 (Go.Operand.tmp 7) 0, type := 0, pos := "bracket.go:92", after := #[], guard := none }) (v := ?_) [10] rfl (by kernel_rfl) (by kernel_rfl) (by kernel_rfl) (by kernel_rfl) (by kernel_rfl) (fun _ _ _ h => h) (by first | exact hF | exact hF (by kernel_rfl)) (fun w hFw => ?_) (by rfl) ?_
    rotate_left
    · (try dsimp only at hFw)
      first | (go_simp; done) | (go_simp; with_reducible rfl) | (go_split_ands; go_simp; done)
    try simp only [Act.put, List.setIfInBounds_toArray, List.set_cons_zero, List.set_cons_succ]
    refine wpAnyJ_take (i := 7) (oi := { dst := some 57, op := Go.Op.indexAddr 32 (Go.Operand.tmp 56) (Go.Operand.tmp 55), type := 0, pos := "bracket.go:92", after := #[{ on := 6, ground := Go.Ground.data }, { on := 5, ground := Go.Ground.data }], guard := none }) (v := ?_) [10] rfl (by kernel_rfl) (by kernel_rfl) (by kernel_rfl) (by kernel_rfl) (by kernel_rfl) (fun _ _ _ h => h) (by first | exact hF | exact hF (by kernel_rfl)) (fun w hFw => ?_) (by rfl) ?_
    rotate_left
    · (try dsimp only at hFw)
      first | (go_simp; done) | (go_simp; with_reducible rfl) | (go_split_ands; go_simp; done)
    try simp only [Act.put, List.setIfInBounds_toArray, List.set_cons_zero, List.set_cons_succ]
    refine wpAnyJ_take (i := 8) (oi := { dst := some 58, op := Go.Op.load 3 (Go.Operand.tmp 57), type := 3, pos := "bracket.go:92", after := #[{ on := 7, ground := Go.Ground.data }], guard := none }) (v := ?_) [10] rfl (by kernel_rfl) (by kernel_rfl) (by kernel_rfl) (by kernel_rfl) (by kernel_rfl) (fun _ _ _ h => h) (by first | exact hF | exact hF (by kernel_rfl)) (fun w hFw => ?_) (by rfl) ?_
    rotate_left
    · (try dsimp only at hFw)
      first | (go_simp; done) | (go_simp; with_reducible rfl) | (go_split_ands; go_simp; done)
    try simp only [Act.put, List.setIfInBounds_toArray, List.set_cons_zero, List.set_cons_succ]
    refine wpAnyJ_take (i := 9) (oi := { dst := some 59, op := Go.Op.indexAddr 53 (Go.Operand.tmp 53) (Go.Operand.tmp 58), type := 0, pos := "bracket.go:92", after := #[{ on := 3, ground := Go.Ground.data }, { on := 8, ground := Go.Ground.data }, { on := 0, ground := Go.Ground.phase }, { on := 1, ground := Go.Ground.phase }, { on := 2, ground := Go.Ground.phase }, { on := 3, ground := Go.Ground.phase }, { on := 4, ground := Go.Ground.phase }, { on := 5, ground := Go.Ground.phase }, { on := 6, ground := Go.Ground.phase }, { on := 7, ground := Go.Ground.phase }, { on := 8, ground := Go.Ground.phase }], guard := none }) (v := ?_) [10] rfl (by kernel_rfl) (by kernel_rfl) (by kernel_rfl) (by kernel_rfl) (by kernel_rfl) (fun _ _ _ h => h) (by first | exact hF | exact hF (by kernel_rfl)) (fun w hFw => ?_) (by rfl) ?_
    rotate_left
    · (try dsimp only at hFw)
      first | (go_simp; done) | (go_simp; with_reducible rfl) | (go_split_ands; go_simp; done)
    try simp only [Act.put, List.setIfInBounds_toArray, List.set_cons_zero, List.set_cons_succ]
    refine wpAnyJ_ready (rs := [10]) (by kernel_rfl) (by simp) ?_
    refine AllJ.cons (o := { dst := none, op := Go.Op.store 4 (Go.Operand.tmp 59) (Go.Operand.const (Go.Value.bool true)), type := 0, pos := "bracket.go:92", after := #[{ on := 9, ground := Go.Ground.data }, { on := 0, ground := Go.Ground.phase }, { on := 1, ground := Go.Ground.phase }, { on := 2, ground := Go.Ground.phase }, { on := 3, ground := Go.Ground.phase }, { on := 4, ground := Go.Ground.phase }, { on := 5, ground := Go.Ground.phase }, { on := 6, ground := Go.Ground.phase }, { on := 7, ground := Go.Ground.phase }, { on := 8, ground := Go.Ground.phase }], guard := none }) rfl (fun Kr hKr => ?_) ?_
    · go_simp
      refine hKr.out _ _ (fun hJ => ?_) (fun hF => ?_)
      · first
        | exact absurd hJ (by decide)
        | (clear hJ; (try dsimp only); all_goals (rfl))
      clear hKr
      try simp only [Act.put, List.setIfInBounds_toArray, List.set_cons_zero, List.set_cons_succ]
      refine wpAnyJ_done (by kernel_rfl) ?_ _
      go_wp2_with fail
      go_ret
      exact ⟨rfl, (outs_set s1.drew ms0).tail⟩
    exact AllJ.nil
end Go.Proofs.Ytdkjgkbddehaiaa
