/- The reference's bracket in memory: where a match comes from, its seats, its winner. -/
import Derived.Test.YtdkjgkbddehaiaaBrX
namespace Go.Proofs.Ytdkjgkbddehaiaa
open Go.RowKit
attribute [local go_sem ↓] Go.wp_at_zero Go.wp_at_succ

abbrev ii (x : Int) : Value := .int .i64 x
def rfHead (b n : Nat) (a1 : Option Addr) (n1 c1 : Nat) (a2 : Option Addr) (n2 c2 : Nat) : Nat × Obj :=
  (b, .cells #[iv n, .slice a1 n1 c1, .slice a2 n2 c2] 65 (0, 0))
structure RfRep (b n : Nat) (l : List Nat) (W : List Int) (a1 : Option Addr) (c1 : Nat) (a2 : Option Addr) (c2 : Nat) (H1 H2 : Heaplet) : Prop where
  first : SlRep 3 1 a1 l.length c1 (l.map iv) H1
  won : SlRep 3 1 a2 W.length c2 (W.map ii) H2
/-- A bracket of the reference's lies in w. -/
def RfOwn (w : World) (b n : Nat) (l : List Nat) (W : List Int) (H : Heaplet) : Prop :=
  ∃ a1 c1 H1 a2 c2 H2, H = rfHead b n a1 l.length c1 a2 W.length c2 :: (H1 ++ H2) ∧ RfRep b n l W a1 c1 a2 c2 H1 H2 ∧ Own w H
structure RfOk (B : Br) (l : List Nat) (W : List Int) : Prop where
  inv : B.Inv
  tie : Tie B W
  z : l.length = B.z
  first : B.First l
theorem RfOwn.later {w w' : World} {b n : Nat} {l : List Nat} {W : List Int} {H : Heaplet} (h : RfOwn w b n l W H) (s : Step w [] w' []) : RfOwn w' b n l W H := by
  obtain ⟨a1, c1, H1, a2, c2, H2, e, r, o⟩ := h
  exact ⟨a1, c1, H1, a2, c2, H2, e, r, o.eq fun b hb => s.frame b (o.lt b hb) (by simp [dom])⟩
theorem RfOwn.junk {w : World} {b n : Nat} {l : List Nat} {W : List Int} {H : Heaplet} (h : RfOwn w b n l W H) (o : Obj) : RfOwn (w.alloc o) b n l W H := h.later ((Step.refl (Own.nil w)).junk o)

/-- The loop of from: n is r = 2^q, start is z - 2 r. -/
def FrRel (z i : Nat) (v8 v9 : Value) : Prop := ∃ j r : Nat, r = 2 ^ j ∧ 2 * r ≤ z ∧ z - 2 * r ≤ i ∧ v8 = .int .i64 ((z - 2 * r : Nat) : Int) ∧ v9 = .int .i64 (r : Nat)
def FromPost (z i : Nat) (w : World) (e : Ending) (w' : World) : Prop :=
  e = .returned (if i < z / 2 then .tuple #[ii 0, ii 0, .bool false] else .tuple #[iv (2 * (i - z / 2)), iv (2 * (i - z / 2) + 1), .bool true]) ∧ w = w'
set_option maxRecDepth 100000 in
theorem from_any (b n : Nat) (l : List Nat) (W : List Int) (H : Heaplet) (i : Nat) (w : World) (hw : RfOwn w b n l W H) (hz : ∃ q, q ≤ 5 ∧ l.length = 2 ^ (q + 1)) (hi : i + 1 < l.length) :
    Calls Try.prog 41 #[pt b, .int .i64 i] w (FromPost l.length i w) := by
  obtain ⟨a1, k1, H1, a2, k2, H2, rfl, hr, hw⟩ := hw
  obtain ⟨c0, c1, c2⟩ := cells3 hw.h0
  obtain ⟨q, hq, hz⟩ := hz
  obtain ⟨z, hzz⟩ : ∃ z, z = l.length := ⟨_, rfl⟩
  rw [← hzz] at c1 hz hi ⊢
  have h64 : z ≤ 64 := by rw [hz]; exact Nat.pow_le_pow_right (n := 2) (j := 6) (by omega) (by omega)
  have b1 : (z : Int) ≤ 64 := by omega
  have b2 : (i : Int) < (z : Int) := by omega
  have b3 : (0 : Int) ≤ (z : Int) := by omega
  have hzq := half_pow hz
  have hz2 : 2 * (z / 2) = z := by rw [hzq, hz, Nat.pow_succ]; omega
  replace hz := Lib.hid hz
  replace hzq := Lib.hid hzq
  clear hzz
  replace hz2 := Lib.hid hz2
  go_enter Try.func41, Try.ntmps41
  go_wp2_with fail
  go_loop [8, 9] (fun v8 v9 => FrRel z i v8 v9) (fun _ v9 => (intOf v9).toNat)
  case atStart =>
    have := hz2.out
    exact ⟨q, z / 2, hzq.out, by omega, by omega, by rw [show z - 2 * (z / 2) = 0 by omega]; rfl, by go_num⟩
  case round =>
    obtain ⟨j, r, hr, h1, h3, rfl, rfl⟩ := hrel
    have hr1 : 1 ≤ r := by rw [hr]; exact Nat.one_le_two_pow
    obtain ⟨F, hF⟩ : ∃ F, F = z - 2 * r := ⟨_, rfl⟩
    rw [← hF] at h3 ⊢
    have d1 : (1 : Int) ≤ (r : Int) := by omega
    have d2 : (F : Int) ≤ (i : Int) := by omega
    have d3 : (r : Int) ≤ 64 := by omega
    have d4 : (F : Int) ≤ 64 := by omega
    by_cases hlt : i < F + r
    · have d5 : (i : Int) < (F : Int) + (r : Int) := by omega
      by_cases hF0 : F = 0
      · have e1 : Hid (i < z / 2) := by show _ < _; omega
        have q0 : ((F : Int) == 0) = true := by simp [hF0]
        replace hF0 := Lib.hid hF0
        replace hF := Lib.hid hF
        replace hr := Lib.hid hr
        go_wp2_with fail
        go_ret3
        exact ⟨by rw [if_pos e1.out]; rfl, rfl⟩
      · have hj : 2 * (2 * r) ≤ z ∧ ¬ i < z / 2 ∧ (F : Int) - 2 * r + 2 * (i - F) = ((2 * (i - z / 2) : Nat) : Int) := by
          have := hz2.out
          have h4 : 2 * (2 * r) ≤ z := by
            rcases Nat.lt_or_ge (j + 1) (q + 1) with h | h
            · rw [hr, hz.out, show 2 * (2 * 2 ^ j) = 2 ^ (j + 2) by rw [Nat.pow_succ, Nat.pow_succ]; omega]
              exact Nat.pow_le_pow_right (by omega) (by omega)
            · exfalso
              have : 2 ^ q ≤ 2 ^ j := Nat.pow_le_pow_right (by omega) (by omega)
              have := hzq.out
              omega
          exact ⟨h4, by omega, by omega⟩
        have q0 : ((F : Int) == 0) = false := beq_eq_false_iff_ne.2 (by omega)
        have d6 : (4 : Int) * (r : Int) ≤ (z : Int) := by omega
        replace hj := Lib.hid hj
        replace hF0 := Lib.hid hF0
        replace hF := Lib.hid hF
        replace hr := Lib.hid hr
        go_wp2_with fail
        go_ret3
        refine ⟨?_, rfl⟩
        rw [if_neg hj.out.2.1]
        show Ending.returned (.tuple #[.int .i64 ((F : Int) - 2 * r + 2 * (i - F)), .int .i64 ((F : Int) - 2 * r + 2 * (i - F) + 1), .bool true]) = _
        rw [hj.out.2.2]; rfl
    · have d5 : (F : Int) + (r : Int) ≤ (i : Int) := by omega
      replace hF := Lib.hid hF
      replace hr := Lib.hid hr
      have hj : ∃ k, j = k + 1 := by
        cases j with
        | zero => have := hr.out; have := hF.out; simp at *; omega
        | succ k => exact ⟨k, rfl⟩
      obtain ⟨k, rfl⟩ := hj
      have hr2 : Hid (r / 2 = 2 ^ k ∧ 2 * (r / 2) = r) := by
        have := hr.out; rw [Nat.pow_succ] at this
        exact ⟨by omega, by omega⟩
      go_wp2_with fail
      refine ⟨⟨k, r / 2, hr2.out.1, ?_, ?_, ?_, ?_⟩, by simp [intOf]; omega⟩
      all_goals obtain ⟨-, h5⟩ := hr2.out
      all_goals have h6 := hF.out
      · omega
      · omega
      · rw [show (F : Int) + r = ((z - 2 * (r / 2) : Nat) : Int) by omega]
      · go_num

def RSeatsPost (m : Mt) (w : World) (e : Ending) (w' : World) : Prop := e = .returned (.agg #[iv m.s0, iv m.s1]) ∧ Step w [] w' []
def RWinPost (v : Nat) (w : World) (e : Ending) (w' : World) : Prop := e = .returned (iv v) ∧ Step w [] w' []
/-- The winner of match j, in whatever world. -/
def RWinAt (B : Br) (l : List Nat) (W : List Int) (b j v : Nat) : Prop :=
  ∀ (w : World) (H : Heaplet), RfOwn w b B.n l W H → Calls Try.prog 33 #[pt b, .int .i64 j] w (RWinPost v w)
theorem from_yes (b n : Nat) (l : List Nat) (W : List Int) (H : Heaplet) (i : Nat) (w : World) (hw : RfOwn w b n l W H) (hz : ∃ q, q ≤ 5 ∧ l.length = 2 ^ (q + 1)) (hi : i + 1 < l.length) (h : i < l.length / 2) :
    Calls Try.prog 41 #[pt b, .int .i64 i] w fun e w' => e = .returned (.tuple #[ii 0, ii 0, .bool false]) ∧ w = w' := by
  have := from_any b n l W H i w hw hz hi
  unfold FromPost at this
  rwa [if_pos h] at this
theorem from_no (b n : Nat) (l : List Nat) (W : List Int) (H : Heaplet) (i x : Nat) (w : World) (hw : RfOwn w b n l W H) (hz : ∃ q, q ≤ 5 ∧ l.length = 2 ^ (q + 1)) (hi : i + 1 < l.length) (h : ¬ i < l.length / 2) (hx : 2 * (i - l.length / 2) = x) :
    Calls Try.prog 41 #[pt b, .int .i64 i] w fun e w' => e = .returned (.tuple #[iv x, iv (x + 1), .bool true]) ∧ w = w' := by
  have := from_any b n l W H i w hw hz hi
  unfold FromPost at this
  rwa [if_neg h, hx] at this
set_option maxRecDepth 100000 in
theorem rseats_at (B : Br) (l : List Nat) (W : List Int) (b j : Nat) (m : Mt) (H : Heaplet) (w : World) (hok : RfOk B l W) (hm : B.ms[j]? = some m) (hw : RfOwn w b B.n l W H)
    (ih : ∀ i v, i < j → (∃ x : Mt, B.ms[i]? = some x ∧ v = x.w) → RWinAt B l W b i v) :
    Calls Try.prog 29 #[pt b, .int .i64 j] w (RSeatsPost m w) := by
  have hj := (List.getElem?_eq_some_iff.1 hm).1
  have hl := hok.inv.ok.len
  have hz := hok.z
  have hpow := hok.inv.ok.pow
  rw [← hz] at hpow hl
  have h64 := hok.inv.ok.z64
  have b1 : (l.length : Int) ≤ 64 := by omega
  have b0 : (0 : Int) ≤ (j : Int) := by omega
  have b2 : (j : Int) < 64 := by omega
  have s0 := (Step.refl (Own.nil w)).alloc (.cells #[.int .i64 0, .int .i64 0] 32)
  have fz := fun i => frz_of (i := i) s0.own.h0
  obtain ⟨d0, d1⟩ := cells2 s0.own.h0
  by_cases hjh : j < l.length / 2
  · have hfr := Lib.hid (fun W' hW' => from_yes b B.n l W H j W' hW' hpow (by omega) hjh)
    have hf := hok.first j m hm (by omega)
    obtain ⟨hf0, hf1⟩ := hf
    obtain ⟨m0, m1, mw, mb⟩ := m
    simp only at hf0 hf1
    have hx0 : l[2 * j]? = some m0 := by rw [hf0, List.getD_eq_getElem?_getD, List.getElem?_eq_getElem (by omega)]; rfl
    have hx1 : l[2 * j + 1]? = some m1 := by rw [hf1, List.getD_eq_getElem?_getD, List.getElem?_eq_getElem (by omega)]; rfl
    have hw1 := hw.junk (.cells #[.int .i64 0, .int .i64 0] 32)
    have hw1' := hw1
    obtain ⟨a1, k1, H1, a2, k2, H2, rfl, hr, how⟩ := hw1
    obtain ⟨c0, c1, c2⟩ := cells3 how.h0
    obtain ⟨g1, rfl, e0, e0'⟩ := slRep_at hr.first how.tail.left (i := 2 * j) (v := iv m0) (by rw [List.getElem?_map, hx0]; rfl)
    obtain ⟨g1', eg, e1, e1'⟩ := slRep_at hr.first how.tail.left (i := 2 * j + 1) (v := iv m1) (by rw [List.getElem?_map, hx1]; rfl)
    cases eg
    simp only [Nat.zero_add] at e0 e1
    clear hf0 hf1 hx0 hx1 hl hz hm
    have q1 : IntKind.i64.wrap (2 * (j : Int)) = ((2 * j : Nat) : Int) := by rw [IntWalk.i64_in _ (by omega)]; omega
    have q2 : IntKind.i64.wrap (((2 * j : Nat) : Int) + 1) = ((2 * j + 1 : Nat) : Int) := by rw [IntWalk.i64_in _ (by omega)]; omega
    have q3 : ((2 * j : Nat) : Int) < (l.length : Int) := by omega
    have q4 : ((2 * j + 1 : Nat) : Int) < (l.length : Int) := by omega
    have q5 : (0 : Int) ≤ ((2 * j : Nat) : Int) := by omega
    have q6 : (0 : Int) ≤ ((2 * j + 1 : Nat) : Int) := by omega
    generalize 2 * j + 1 = J1 at *
    generalize 2 * j = J0 at *
    go_enter Try.func29, Try.ntmps29
    go_wp2_with fail
    refine (hfr.out _ hw1').mono ?_
    rintro e w' ⟨rfl, rfl⟩
    go_wp2_with fail
    have s0 := s0.drew
    clear c0 c2
    refine wp_region_J 18 (fun w' => w'.cell? ⟨b, 1, none⟩ = some (.slice (some ⟨g1, 0, none⟩) l.length k1) ∧ w'.cell? ⟨g1, J0, none⟩ = some (iv m0) ∧ w'.cell? ⟨g1, J1, none⟩ = some (iv m1)) (by kernel_rfl) ?_ (fun hF => ?_)
    · (try dsimp only)
      all_goals (exact ⟨c1, e0, e1⟩)
    refine wpAnyJ_take (i := 0) (oi := { dst := some 17, op := Go.Op.move (Go.Operand.tmp 0), type := 38, pos := "bracket.go:44", after := #[], guard := none }) (v := ?_) [18] rfl (by kernel_rfl) (by kernel_rfl) (by kernel_rfl) (by kernel_rfl) (by kernel_rfl) (fun _ _ _ h => h) (by first | exact hF | exact hF (by kernel_rfl)) (fun w hFw => ?_) (by rfl) ?_
    rotate_left
    · (try dsimp only at hFw)
      first | (go_simp; done) | (go_simp; with_reducible rfl) | (go_split_ands; go_simp; done)
    try simp only [Act.put, List.setIfInBounds_toArray, List.set_cons_zero, List.set_cons_succ]
    refine wpAnyJ_take (i := 1) (oi := { dst := some 18, op := Go.Op.nilCheck (Go.Operand.tmp 17), type := 0, pos := "bracket.go:44", after := #[{ on := 0, ground := Go.Ground.data }], guard := none }) (v := ?_) [18] rfl (by kernel_rfl) (by kernel_rfl) (by kernel_rfl) (by kernel_rfl) (by kernel_rfl) (fun _ _ _ h => h) (by first | exact hF | exact hF (by kernel_rfl)) (fun w hFw => ?_) (by rfl) ?_
    rotate_left
    · (try dsimp only at hFw)
      first | (go_simp; done) | (go_simp; with_reducible rfl) | (go_split_ands; go_simp; done)
    try simp only [Act.put, List.setIfInBounds_toArray, List.set_cons_zero, List.set_cons_succ]
    refine wpAnyJ_take (i := 2) (oi := { dst := some 19, op := Go.Op.fieldAddr 65 (Go.Operand.tmp 18) 1, type := 0, pos := "bracket.go:44", after := #[{ on := 1, ground := Go.Ground.data }], guard := none }) (v := ?_) [18] rfl (by kernel_rfl) (by kernel_rfl) (by kernel_rfl) (by kernel_rfl) (by kernel_rfl) (fun _ _ _ h => h) (by first | exact hF | exact hF (by kernel_rfl)) (fun w hFw => ?_) (by rfl) ?_
    rotate_left
    · (try dsimp only at hFw)
      first | (go_simp; done) | (go_simp; with_reducible rfl) | (go_split_ands; go_simp; done)
    try simp only [Act.put, List.setIfInBounds_toArray, List.set_cons_zero, List.set_cons_succ]
    refine wpAnyJ_take (i := 3) (oi := { dst := some 20, op := Go.Op.load 22 (Go.Operand.tmp 19), type := 22, pos := "bracket.go:44", after := #[{ on := 2, ground := Go.Ground.data }], guard := none }) (v := ?_) [18] rfl (by kernel_rfl) (by kernel_rfl) (by kernel_rfl) (by kernel_rfl) (by kernel_rfl) (fun _ _ _ h => h) (by first | exact hF | exact hF (by kernel_rfl)) (fun w hFw => ?_) (by rfl) ?_
    rotate_left
    · (try dsimp only at hFw)
      first | (go_simp; done) | (go_simp; with_reducible rfl) | (go_split_ands; go_simp; done)
    try simp only [Act.put, List.setIfInBounds_toArray, List.set_cons_zero, List.set_cons_succ]
    refine wpAnyJ_take (i := 4) (oi := { dst := some 21, op := Go.Op.move (Go.Operand.tmp 1), type := 3, pos := "bracket.go:44", after := #[], guard := none }) (v := ?_) [18] rfl (by kernel_rfl) (by kernel_rfl) (by kernel_rfl) (by kernel_rfl) (by kernel_rfl) (fun _ _ _ h => h) (by first | exact hF | exact hF (by kernel_rfl)) (fun w hFw => ?_) (by rfl) ?_
    rotate_left
    · (try dsimp only at hFw)
      first | (go_simp; done) | (go_simp; with_reducible rfl) | (go_split_ands; go_simp; done)
    try simp only [Act.put, List.setIfInBounds_toArray, List.set_cons_zero, List.set_cons_succ]
    refine wpAnyJ_take (i := 5) (oi := { dst := some 22, op := Go.Op.binOp Go.BinOp.mul 3 (Go.Operand.const (Go.Value.int Go.IntKind.i64 2)) (Go.Operand.tmp 21) 3, type := 3, pos := "bracket.go:44", after := #[{ on := 4, ground := Go.Ground.data }], guard := none }) (v := ?_) [18] rfl (by kernel_rfl) (by kernel_rfl) (by kernel_rfl) (by kernel_rfl) (by kernel_rfl) (fun _ _ _ h => h) (by first | exact hF | exact hF (by kernel_rfl)) (fun w hFw => ?_) (by rfl) ?_
    rotate_left
    · (try dsimp only at hFw)
      first | (go_simp; done) | (go_simp; with_reducible rfl) | (go_split_ands; go_simp; done)
    try simp only [Act.put, List.setIfInBounds_toArray, List.set_cons_zero, List.set_cons_succ]
    refine wpAnyJ_take (i := 6) (oi := { dst := some 23, op := Go.Op.indexAddr 22 (Go.Operand.tmp 20) (Go.Operand.tmp 22), type := 0, pos := "bracket.go:44", after := #[{ on := 3, ground := Go.Ground.data }, { on := 5, ground := Go.Ground.data }], guard := none }) (v := ?_) [18] rfl (by kernel_rfl) (by kernel_rfl) (by kernel_rfl) (by kernel_rfl) (by kernel_rfl) (fun _ _ _ h => h) (by first | exact hF | exact hF (by kernel_rfl)) (fun w hFw => ?_) (by rfl) ?_
    rotate_left
    · (try dsimp only at hFw)
      first | (go_simp; done) | (go_simp; with_reducible rfl) | (go_split_ands; go_simp; done)
    try simp only [Act.put, List.setIfInBounds_toArray, List.set_cons_zero, List.set_cons_succ]
    refine wpAnyJ_take (i := 7) (oi := { dst := some 24, op := Go.Op.load 3 (Go.Operand.tmp 23), type := 3, pos := "bracket.go:44", after := #[{ on := 6, ground := Go.Ground.data }], guard := none }) (v := ?_) [18] rfl (by kernel_rfl) (by kernel_rfl) (by kernel_rfl) (by kernel_rfl) (by kernel_rfl) (fun _ _ _ h => h) (by first | exact hF | exact hF (by kernel_rfl)) (fun w hFw => ?_) (by rfl) ?_
    rotate_left
    · (try dsimp only at hFw)
      first | (go_simp; done) | (go_simp; with_reducible rfl) | (go_split_ands; go_simp; done)
    try simp only [Act.put, List.setIfInBounds_toArray, List.set_cons_zero, List.set_cons_succ]
    refine wpAnyJ_take (i := 8) (oi := { dst := some 25, op := Go.Op.move (Go.Operand.tmp 0), type := 38, pos := "bracket.go:44", after := #[], guard := none }) (v := ?_) [18] rfl (by kernel_rfl) (by kernel_rfl) (by kernel_rfl) (by kernel_rfl) (by kernel_rfl) (fun _ _ _ h => h) (by first | exact hF | exact hF (by kernel_rfl)) (fun w hFw => ?_) (by rfl) ?_
    rotate_left
    · (try dsimp only at hFw)
      first | (go_simp; done) | (go_simp; with_reducible rfl) | (go_split_ands; go_simp; done)
    try simp only [Act.put, List.setIfInBounds_toArray, List.set_cons_zero, List.set_cons_succ]
    refine wpAnyJ_take (i := 9) (oi := { dst := some 26, op := Go.Op.nilCheck (Go.Operand.tmp 25), type := 0, pos := "bracket.go:44", after := #[{ on := 8, ground := Go.Ground.data }], guard := none }) (v := ?_) [18] rfl (by kernel_rfl) (by kernel_rfl) (by kernel_rfl) (by kernel_rfl) (by kernel_rfl) (fun _ _ _ h => h) (by first | exact hF | exact hF (by kernel_rfl)) (fun w hFw => ?_) (by rfl) ?_
    rotate_left
    · (try dsimp only at hFw)
      first | (go_simp; done) | (go_simp; with_reducible rfl) | (go_split_ands; go_simp; done)
    try simp only [Act.put, List.setIfInBounds_toArray, List.set_cons_zero, List.set_cons_succ]
    refine wpAnyJ_take (i := 10) (oi := { dst := some 27, op := Go.Op.fieldAddr 65 (Go.Operand.tmp 26) 1, type := 0, pos := "bracket.go:44", after := #[{ on := 9, ground := Go.Ground.data }], guard := none }) (v := ?_) [18] rfl (by kernel_rfl) (by kernel_rfl) (by kernel_rfl) (by kernel_rfl) (by kernel_rfl) (fun _ _ _ h => h) (by first | exact hF | exact hF (by kernel_rfl)) (fun w hFw => ?_) (by rfl) ?_
    rotate_left
    · (try dsimp only at hFw)
      first | (go_simp; done) | (go_simp; with_reducible rfl) | (go_split_ands; go_simp; done)
    try simp only [Act.put, List.setIfInBounds_toArray, List.set_cons_zero, List.set_cons_succ]
    refine wpAnyJ_take (i := 11) (oi := { dst := some 28, op := Go.Op.load 22 (Go.Operand.tmp 27), type := 22, pos := "bracket.go:44", after := #[{ on := 10, ground := Go.Ground.data }], guard := none }) (v := ?_) [18] rfl (by kernel_rfl) (by kernel_rfl) (by kernel_rfl) (by kernel_rfl) (by kernel_rfl) (fun _ _ _ h => h) (by first | exact hF | exact hF (by kernel_rfl)) (fun w hFw => ?_) (by rfl) ?_
    rotate_left
    · (try dsimp only at hFw)
      first | (go_simp; done) | (go_simp; with_reducible rfl) | (go_split_ands; go_simp; done)
    try simp only [Act.put, List.setIfInBounds_toArray, List.set_cons_zero, List.set_cons_succ]
    refine wpAnyJ_take (i := 12) (oi := { dst := some 29, op := Go.Op.move (Go.Operand.tmp 1), type := 3, pos := "bracket.go:44", after := #[], guard := none }) (v := ?_) [18] rfl (by kernel_rfl) (by kernel_rfl) (by kernel_rfl) (by kernel_rfl) (by kernel_rfl) (fun _ _ _ h => h) (by first | exact hF | exact hF (by kernel_rfl)) (fun w hFw => ?_) (by rfl) ?_
    rotate_left
    · (try dsimp only at hFw)
      first | (go_simp; done) | (go_simp; with_reducible rfl) | (go_split_ands; go_simp; done)
    try simp only [Act.put, List.setIfInBounds_toArray, List.set_cons_zero, List.set_cons_succ]
    refine wpAnyJ_take (i := 13) (oi := { dst := some 30, op := Go.Op.binOp Go.BinOp.mul 3 (Go.Operand.const (Go.Value.int Go.IntKind.i64 2)) (Go.Operand.tmp 29) 3, type := 3, pos := "bracket.go:44", after := #[{ on := 12, ground := Go.Ground.data }], guard := none }) (v := ?_) [18] rfl (by kernel_rfl) (by kernel_rfl) (by kernel_rfl) (by kernel_rfl) (by kernel_rfl) (fun _ _ _ h => h) (by first | exact hF | exact hF (by kernel_rfl)) (fun w hFw => ?_) (by rfl) ?_
    rotate_left
    · (try dsimp only at hFw)
      first | (go_simp; done) | (go_simp; with_reducible rfl) | (go_split_ands; go_simp; done)
    try simp only [Act.put, List.setIfInBounds_toArray, List.set_cons_zero, List.set_cons_succ]
    refine wpAnyJ_take (i := 14) (oi := { dst := some 31, op := Go.Op.binOp Go.BinOp.add 3 (Go.Operand.tmp 30) (Go.Operand.const (Go.Value.int Go.IntKind.i64 1)) 3, type := 3, pos := "bracket.go:44", after := #[{ on := 13, ground := Go.Ground.data }], guard := none }) (v := ?_) [18] rfl (by kernel_rfl) (by kernel_rfl) (by kernel_rfl) (by kernel_rfl) (by kernel_rfl) (fun _ _ _ h => h) (by first | exact hF | exact hF (by kernel_rfl)) (fun w hFw => ?_) (by rfl) ?_
    rotate_left
    · (try dsimp only at hFw)
      first | (go_simp; done) | (go_simp; with_reducible rfl) | (go_split_ands; go_simp; done)
    try simp only [Act.put, List.setIfInBounds_toArray, List.set_cons_zero, List.set_cons_succ]
    refine wpAnyJ_take (i := 15) (oi := { dst := some 32, op := Go.Op.indexAddr 22 (Go.Operand.tmp 28) (Go.Operand.tmp 31), type := 0, pos := "bracket.go:44", after := #[{ on := 11, ground := Go.Ground.data }, { on := 14, ground := Go.Ground.data }], guard := none }) (v := ?_) [18] rfl (by kernel_rfl) (by kernel_rfl) (by kernel_rfl) (by kernel_rfl) (by kernel_rfl) (fun _ _ _ h => h) (by first | exact hF | exact hF (by kernel_rfl)) (fun w hFw => ?_) (by rfl) ?_
    rotate_left
    · (try dsimp only at hFw)
      first | (go_simp; done) | (go_simp; with_reducible rfl) | (go_split_ands; go_simp; done)
    try simp only [Act.put, List.setIfInBounds_toArray, List.set_cons_zero, List.set_cons_succ]
    refine wpAnyJ_take (i := 16) (oi := { dst := some 33, op := Go.Op.load 3 (Go.Operand.tmp 32), type := 3, pos := "bracket.go:44", after := #[{ on := 15, ground := Go.Ground.data }], guard := none }) (v := ?_) [18] rfl (by kernel_rfl) (by kernel_rfl) (by kernel_rfl) (by kernel_rfl) (by kernel_rfl) (fun _ _ _ h => h) (by first | exact hF | exact hF (by kernel_rfl)) (fun w hFw => ?_) (by rfl) ?_
    rotate_left
    · (try dsimp only at hFw)
      first | (go_simp; done) | (go_simp; with_reducible rfl) | (go_split_ands; go_simp; done)
    try simp only [Act.put, List.setIfInBounds_toArray, List.set_cons_zero, List.set_cons_succ]
    refine wpAnyJ_take (i := 17) (oi := { dst := some 34, op := Go.Op.build 32 #[(0, Go.Operand.tmp 24), (1, Go.Operand.tmp 33)], type := 32, pos := "bracket.go:44", after := #[{ on := 7, ground := Go.Ground.data }, { on := 16, ground := Go.Ground.data }], guard := none }) (v := ?_) [18] rfl (by kernel_rfl) (by kernel_rfl) (by kernel_rfl) (by kernel_rfl) (by kernel_rfl) (fun _ _ _ h => h) (by first | exact hF | exact hF (by kernel_rfl)) (fun w hFw => ?_) (by rfl) ?_
    rotate_left
    · (try dsimp only at hFw)
      first | (go_simp; done) | (go_simp; with_reducible rfl) | (go_split_ands; go_simp; done)
    try simp only [Act.put, List.setIfInBounds_toArray, List.set_cons_zero, List.set_cons_succ]
    refine wpAnyJ_ready (rs := [18]) (by kernel_rfl) (by simp) ?_
    refine AllJ.cons (o := { dst := none, op := Go.Op.store 32 (Go.Operand.tmp 4) (Go.Operand.tmp 34), type := 0, pos := "bracket.go:44", after := #[{ on := 17, ground := Go.Ground.data }, { on := 0, ground := Go.Ground.phase }, { on := 1, ground := Go.Ground.phase }, { on := 2, ground := Go.Ground.phase }, { on := 3, ground := Go.Ground.phase }, { on := 4, ground := Go.Ground.phase }, { on := 5, ground := Go.Ground.phase }, { on := 6, ground := Go.Ground.phase }, { on := 7, ground := Go.Ground.phase }, { on := 8, ground := Go.Ground.phase }, { on := 9, ground := Go.Ground.phase }, { on := 10, ground := Go.Ground.phase }, { on := 11, ground := Go.Ground.phase }, { on := 12, ground := Go.Ground.phase }, { on := 13, ground := Go.Ground.phase }, { on := 14, ground := Go.Ground.phase }, { on := 15, ground := Go.Ground.phase }, { on := 16, ground := Go.Ground.phase }, { on := 17, ground := Go.Ground.phase }], guard := none }) rfl (fun Kr hKr => ?_) ?_
    · go_simp
      refine hKr.out _ _ (fun hJ => ?_) (fun hF => ?_)
      · first
        | exact absurd hJ (by decide)
        | (clear hJ; (try dsimp only); all_goals (exact ⟨c1, e0, e1⟩))
      clear hKr
      try simp only [Act.put, List.setIfInBounds_toArray, List.set_cons_zero, List.set_cons_succ]
      refine wpAnyJ_done (by kernel_rfl) ?_ _
      go_wp2_with fail
      exact bodyPost_ret (v := .agg #[iv m0, iv m1]) (by simp [results, Try.results29, go_sem]) rfl ⟨rfl, ((Step.refl (Own.nil w)).junk _).drew⟩
    exact AllJ.nil
  · obtain ⟨⟨x, y, hx, hy, e0, e1⟩, -⟩ := hok.inv.tree j m hm (by omega)
    rw [← hz] at hx hy
    obtain ⟨I, hI⟩ : ∃ I, 2 * (j - l.length / 2) = I := ⟨_, rfl⟩
    have hl2 : l.length = 2 * (l.length / 2) := by obtain ⟨q, _, h⟩ := hpow; rw [h, Nat.pow_succ]; omega
    have hfr := Lib.hid (fun W' hW' => from_no b B.n l W H j I W' hW' hpow (by omega) hjh hI)
    have hwx := Lib.hid (ih _ x.w (by omega) ⟨x, hx, rfl⟩)
    have hwy := Lib.hid (ih _ y.w (by omega) ⟨y, hy, rfl⟩)
    rw [hI] at hwx hwy
    rw [← e0] at hwx
    rw [← e1] at hwy
    obtain ⟨m0, m1, mw, mb⟩ := m
    simp only at hwx hwy
    have hw1 := hw.junk (.cells #[.int .i64 0, .int .i64 0] 32)
    clear e0 e1 hx hy hm hz hl hI hl2 ih
    unfold RWinAt at hwx hwy
    go_enter Try.func29, Try.ntmps29
    go_wp2_with fail
    refine (hfr.out _ hw1).mono ?_
    rintro e w' ⟨rfl, rfl⟩
    go_wp2_with fail
    refine (hwx.out _ _ hw1).mono ?_
    rintro e w1 ⟨rfl, hs1⟩
    have s1 := s0.call0 hs1
    rw [List.append_nil] at s1
    have hw2 := hw1.later hs1
    obtain ⟨d0, d1⟩ := cells2 s1.own.h0
    have fz := fun i => frz_of (i := i) s1.own.h0
    go_wp2_with fail
    refine (hwy.out _ _ hw2).mono ?_
    rintro e w2 ⟨rfl, hs2⟩
    have s2 := s1.call0 hs2
    rw [List.append_nil] at s2
    have fz := fun i => frz_of (i := i) s2.own.h0
    obtain ⟨d0, d1⟩ := cells2 s2.own.h0
    go_wp2_with fail
    have s3 := ((s2.store0 (iv m0) (i := 0)).store0 (iv m1) (i := 1))
    obtain ⟨d0, d1⟩ := cells2 s3.own.h0
    exact bodyPost_ret (v := .agg #[iv m0, iv m1]) (by simp [results, Try.results29, go_sem, d0, d1]) rfl ⟨rfl, s3.tail⟩

theorem RfOwn.won {b n : Nat} {l : List Nat} {W : List Int} {H : Heaplet} {w : World} (h : RfOwn w b n l W H) {j : Nat} {k : Int} (hk : W[j]? = some k) :
    ∃ g2 c2, w.cell? ⟨b, 2, none⟩ = some (.slice (some ⟨g2, 0, none⟩) W.length c2) ∧ w.cell? ⟨g2, j, none⟩ = some (ii k) := by
  obtain ⟨a1, k1, H1, a2, k2, H2, rfl, hr, hw⟩ := h
  obtain ⟨g2, rfl, e0, _⟩ := slRep_at hr.won hw.tail.right (i := j) (v := ii k) (by rw [List.getElem?_map, hk]; rfl)
  simp only [Nat.zero_add] at e0
  exact ⟨g2, k2, (cells3 hw.h0).2.2, e0⟩
theorem RfOwn.lens {b n : Nat} {l : List Nat} {W : List Int} {H : Heaplet} {w : World} (h : RfOwn w b n l W H) :
    ∃ a1 c1 a2 c2, w.cell? ⟨b, 0, none⟩ = some (iv n) ∧ w.cell? ⟨b, 1, none⟩ = some (.slice a1 l.length c1) ∧ w.cell? ⟨b, 2, none⟩ = some (.slice a2 W.length c2) := by
  obtain ⟨a1, k1, H1, a2, k2, H2, rfl, hr, hw⟩ := h
  exact ⟨a1, k1, a2, k2, cells3 hw.h0⟩
theorem rwin_no (B : Br) (l : List Nat) (W : List Int) (b : Nat) (i : Int) (H : Heaplet) (w : World) (hok : RfOk B l W) (hi : B.has i = false) (hw : RfOwn w b B.n l W H) :
    Calls Try.prog 33 #[pt b, .int .i64 i] w (RWinPost 0 w) := by
  obtain ⟨a1, k1, a2, k2, c0, c1, c2⟩ := hw.lens
  have hl := hok.inv.ok.len
  have h64 := hok.inv.ok.z64
  have hwl := hok.tie.len
  by_cases h0 : 0 ≤ i
  · have b2 : (W.length : Int) ≤ i := by simp [Br.has, h0] at hi; omega
    have b4 : decide ((W.length : Int) ≤ i) = true := decide_eq_true b2
    clear hi hl hwl
    go_enter Try.func33, Try.ntmps33
    go_wp2_with fail
    go_ret
    exact ⟨rfl, Step.refl (Own.nil w)⟩
  · clear hi hl hwl
    go_enter Try.func33, Try.ntmps33
    go_wp2_with fail
    go_ret
    exact ⟨rfl, Step.refl (Own.nil w)⟩
set_option maxHeartbeats 2000000 in
set_option maxRecDepth 100000 in
theorem rwin_at (B : Br) (l : List Nat) (W : List Int) (b j : Nat) (m : Mt) (H : Heaplet) (w : World) (hok : RfOk B l W) (hm : B.ms[j]? = some m) (hw : RfOwn w b B.n l W H)
    (hse : ∀ (w : World) (H : Heaplet), RfOwn w b B.n l W H → Calls Try.prog 29 #[pt b, .int .i64 j] w (RSeatsPost m w)) :
    Calls Try.prog 33 #[pt b, .int .i64 j] w (RWinPost m.w w) := by
  have hj := (List.getElem?_eq_some_iff.1 hm).1
  have hl := hok.inv.ok.len
  have hz := hok.z
  rw [← hz] at hl
  have h64 := hok.inv.ok.z64
  have hwl := hok.tie.len
  have hle := hok.inv.ok.le m (List.mem_of_getElem? hm)
  have hn64 := hok.inv.ok.n64
  have htie := hok.tie.at' j m hm
  rw [← hz] at htie
  have hleaf := Lib.hid (hok.inv.leaf j m hm)
  rw [← hz] at hleaf
  obtain ⟨m0, m1, mw, mb⟩ := m
  simp only at hle htie hleaf
  have b0 : (0 : Int) ≤ (j : Int) := by omega
  have b1 : (j : Int) < (W.length : Int) := by omega
  have b2 : (W.length : Int) ≤ 64 := by omega
  have b3 : (l.length : Int) ≤ 64 := by omega
  have b4 : (m0 : Int) ≤ 64 := by omega
  have b5 : (m1 : Int) ≤ 64 := by omega
  have hseats := Lib.hid hse
  unfold RSeatsPost at hseats
  simp only at hseats
  have hkk : ∃ k : Int, W[j]? = some k := by rcases htie with ⟨e, _⟩ | ⟨k, _, e, _⟩ <;> exact ⟨_, e⟩
  obtain ⟨k, hk⟩ := hkk
  rw [hk] at htie
  -- the three ends
  have hcase : (j < l.length / 2 ∧ (m0 = 0 ∨ m1 = 0) ∧ mw = m0 + m1) ∨ (¬ (j < l.length / 2 ∧ (m0 = 0 ∨ m1 = 0)) ∧ ((k = -1 ∧ mw = 0) ∨ (k = 0 ∧ mw = m0) ∨ (k = 1 ∧ mw = m1))) := by
    by_cases hb : j < l.length / 2 ∧ (m0 = 0 ∨ m1 = 0)
    · exact .inl ⟨hb.1, hb.2, (hleaf.out hb.1).2 hb.2⟩
    · refine .inr ⟨hb, ?_⟩
      rcases htie with ⟨e, h⟩ | ⟨q, hq, e, h, _⟩
      · exact .inl ⟨by simpa using e, h.elim id (fun x => absurd x hb)⟩
      · have e' : k = q := by simpa using e
        have : q = 0 ∨ q = 1 := by omega
        rcases this with rfl | rfl
        · exact .inr (.inl ⟨e', h⟩)
        · exact .inr (.inr ⟨e', h⟩)
  clear htie hleaf hl hz hm hwl hse
  replace hk := Lib.hid hk
  obtain ⟨g2, k2, c2, ck⟩ := hw.won hk.out
  rcases hcase with ⟨hj2, hs, hmw⟩ | ⟨hb, hcase⟩
  · have d1 : (j : Int) < (l.length : Int) / 2 := by omega
    have hs' : ((m0 : Int) == 0) = true ∨ (((m0 : Int) == 0) = false ∧ ((m1 : Int) == 0) = true) := by
      simp only [beq_iff_eq, beq_eq_false_iff_ne]; omega
    replace hmw := Lib.hid hmw
    clear hs hk
    rcases hs' with q0 | ⟨q0, q1⟩
    all_goals
      go_enter Try.func33, Try.ntmps33
      go_wp2_with fail
      refine (hseats.out _ _ hw).mono ?_
      rintro e w1 ⟨rfl, hs1⟩
      have s1 := hs1.alloc (.cells #[iv m0, iv m1] 32)
      have hw1 := (hw.later hs1).junk (.cells #[iv m0, iv m1] 32)
      obtain ⟨a1, k1, a2', k2', -, x1, -⟩ := hw1.lens
      obtain ⟨d0, d1'⟩ := cells2 s1.own.h0
      clear c2 ck hw1 hw hs1
      go_wp2_with fail
      go_ret
      exact ⟨by rw [hmw.out]; rfl, s1.tail⟩
  · have hb' : (¬ j < l.length / 2) ∨ (j < l.length / 2 ∧ m0 ≠ 0 ∧ m1 ≠ 0) := by omega
    clear hb
    have hg : (decide ((j : Int) < (l.length : Int) / 2) = false) ∨ (decide ((j : Int) < (l.length : Int) / 2) = true ∧ ((m0 : Int) == 0) = false ∧ ((m1 : Int) == 0) = false) := by
      simp only [decide_eq_true_eq, decide_eq_false_iff_not, beq_eq_false_iff_ne]; omega
    clear hb'
    rcases hg with q0 | ⟨q0, q1, q2⟩
    all_goals
      rcases hcase with ⟨rfl, h0⟩ | ⟨rfl, h0⟩ | ⟨rfl, h0⟩
      all_goals
        replace h0 := Lib.hid h0
        go_enter Try.func33, Try.ntmps33
        go_wp2_with fail
        refine (hseats.out _ _ hw).mono ?_
        rintro e w1 ⟨rfl, hs1⟩
        have s1 := hs1.alloc (.cells #[iv m0, iv m1] 32)
        have hw1 := (hw.later hs1).junk (.cells #[iv m0, iv m1] 32)
        clear c2 ck hw hs1
        obtain ⟨g2, k2, c2, ck⟩ := hw1.won hk.out
        obtain ⟨a1, k1, a2', k2', -, x1, -⟩ := hw1.lens
        obtain ⟨d0, d1'⟩ := cells2 s1.own.h0
        clear hw1
        go_wp2_with fail
        go_ret
        exact ⟨by rw [h0.out]; rfl, s1.tail⟩
theorem rboth (B : Br) (l : List Nat) (W : List Int) (b : Nat) (hok : RfOk B l W) : ∀ (j : Nat) (m : Mt), B.ms[j]? = some m →
    RWinAt B l W b j m.w ∧ ∀ (w : World) (H : Heaplet), RfOwn w b B.n l W H → Calls Try.prog 29 #[pt b, .int .i64 j] w (RSeatsPost m w) := by
  intro j
  induction j using Nat.strongRecOn with
  | _ j ih =>
    intro m hm
    have hse : ∀ (w : World) (H : Heaplet), RfOwn w b B.n l W H → Calls Try.prog 29 #[pt b, .int .i64 j] w (RSeatsPost m w) :=
      fun w H hw => rseats_at B l W b j m H w hok hm hw (fun i v hij ⟨x, hx, e⟩ => e ▸ (ih i hij x hx).1)
    exact ⟨fun w H hw => rwin_at B l W b j m H w hok hm hw hse, hse⟩
theorem rseats_any (B : Br) (l : List Nat) (W : List Int) (b j : Nat) (m : Mt) (H : Heaplet) (w : World) (hok : RfOk B l W) (hm : B.ms[j]? = some m) (hw : RfOwn w b B.n l W H) :
    Calls Try.prog 29 #[pt b, .int .i64 j] w (RSeatsPost m w) := (rboth B l W b hok j m hm).2 w H hw
theorem rwinner_any (B : Br) (l : List Nat) (W : List Int) (b : Nat) (i : Int) (H : Heaplet) (w : World) (hok : RfOk B l W) (hw : RfOwn w b B.n l W H) :
    Calls Try.prog 33 #[pt b, .int .i64 i] w (RWinPost (B.winner i) w) := by
  cases hi : B.has i
  · rw [winner_of hi]; exact rwin_no B l W b i H w hok hi hw
  · obtain ⟨k, m, rfl, hk, hm⟩ := has_of hi
    rw [winner_at hm]; exact (rboth B l W b hok k m hm).1 w H hw
theorem rchampion_any (B : Br) (l : List Nat) (W : List Int) (b : Nat) (H : Heaplet) (w : World) (hok : RfOk B l W) (hw : RfOwn w b B.n l W H) :
    Calls Try.prog 31 #[pt b] w (RWinPost (B.winner ((B.ms.length : Int) - 1)) w) := by
  obtain ⟨a1, k1, a2, k2, c0, c1, c2⟩ := hw.lens
  have hl := hok.inv.ok.len
  have h64 := hok.inv.ok.z64
  have hwl := hok.tie.len
  have b1 : (B.ms.length : Int) ≤ 64 := by omega
  rw [hwl] at c2
  clear hl hwl
  have hwi := Lib.hid (fun w H hw => rwinner_any B l W b ((B.ms.length : Int) - 1) H w hok hw)
  go_enter Try.func31, Try.ntmps31
  go_wp2_with fail
  refine (hwi.out _ _ hw).mono ?_
  rintro e w1 ⟨rfl, hs1⟩
  go_wp2_with fail
  go_ret
  exact ⟨rfl, hs1⟩
end Go.Proofs.Ytdkjgkbddehaiaa
