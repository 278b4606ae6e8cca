/- The reference of net: Twice, Late. -/
import Derived.Test.YtliapfdbagcklaaNfA
namespace Go.Proofs.Ytliapfdbagcklaa
open Go.RowKit
attribute [local go_sem ↓] Go.wp_at_zero Go.wp_at_succ

/-- What is reckoned of pick. -/
theorem pick_facts {n : Nat} (h : 0 < n) (pick : Int) (hp : pick ≤ 9223372036854775807) : ∃ i, i = pickOf n pick ∧ i < n ∧ (pick ≤ 0 → (i : Int) = 0) ∧ (0 ≤ pick → pick % (n : Int) = (i : Int)) := by
  have hrem := pickOf_rem h pick
  refine ⟨_, rfl, pickOf_lt h pick, fun hpk => ?_, fun hpk => ?_⟩
  · rw [← hrem, show max 0 pick = 0 by omega]; simp
  · rw [← hrem, show max 0 pick = pick by omega, Int.tmod_eq_emod_of_nonneg hpk]
def RTwicePost (b : Nat) (l : List It) (pick : Int) (w : World) (H : Heaplet) (e : Ending) (w' : World) : Prop :=
  (l = [] ∧ e = .returned (.bool false) ∧ Step w H w' H) ∨ ∃ (i : Nat) (x : It), i = pickOf l.length pick ∧ l[i]? = some x ∧ SendPost 47 b l x.f x.t x.d w H e w'
set_option maxRecDepth 100000 in
set_option maxHeartbeats 600000 in
theorem rtwice_any (b : Nat) (l : List It) (H : Heaplet) (pick : Int) (w : World) (hnr : NetRep 47 b l H) (hw : Own w H) (hl : l.length ≤ 1024) (hp : pick ≤ 9223372036854775807) (hd : ∀ x ∈ l, x.d.length ≤ 140737488355328) :
    Calls Try.prog 24 #[.pointer (some ⟨b, 0, none⟩), .int .i64 pick] w (RTwicePost b l pick w H) := by
  have hnr2 := Lib.hid hnr
  obtain ⟨a, c, R, hr, rfl, hok⟩ := hnr
  have c0 := cells1 hw.h0
  obtain ⟨n, hn⟩ : ∃ n, n = l.length := ⟨_, rfl⟩
  have hr2 := Lib.hid hr
  have s0 := Lib.hid (Step.refl hw)
  rw [← hn] at c0 hr hl
  by_cases h0 : n = 0
  · have e0 : ((n : Int) == 0) = true := by rw [h0]; rfl
    have hl0 : l = [] := List.length_eq_zero_iff.1 (by rw [← hn]; exact h0)
    replace hn := Lib.hid hn
    replace h0 := Lib.hid h0
    replace hl0 := Lib.hid hl0
    clear hr hok hd
    go_enter Try.func24, Try.ntmps24
    go_wp2_with fail
    go_ret
    exact .inl ⟨hl0.out, rfl, s0.out⟩
  · have e0 : ((n : Int) == 0) = false := beq_eq_false_iff_ne.2 (by omega)
    have e1 : (0 : Int) < (n : Int) := by omega
    have e2 : (n : Int) ≤ 1024 := by omega
    obtain ⟨i, hi, hlt, hc0, hc1⟩ := pick_facts (show 0 < n by omega) pick hp
    obtain ⟨x, hx⟩ : ∃ x, l[i]? = some x := ⟨_, List.getElem?_eq_getElem (by omega)⟩
    obtain ⟨g, rfl, k0, k1, x0, x1, x2⟩ := nf_at hr2.out hw.tail.left hx
    rw [← hn] at k0
    have hxd := hd x (List.mem_of_getElem? hx)
    have hrd : Hid (RdBytes w x.a x.d.length x.c x.d) := by
      obtain ⟨hil, e⟩ := List.getElem?_eq_some_iff.1 hx
      subst e
      exact RdBytes.of_item hil hok hw.tail.right
    have hsd := Lib.hid (rsend_any b l _ x.f x.t x.a x.d.length x.c x.d w.drew hnr2.out hw.drew hrd.out.drew hxd)
    have d0 : (0 : Int) ≤ (i : Int) := by omega
    have d1 : (i : Int) < (n : Int) := by omega
    have d3' : IntKind.i64.wrap (i : Int) = (i : Int) := IntWalk.i64_in _ (by omega)
    replace hx := Lib.hid hx
    replace hi := Lib.hid hi
    replace hn := Lib.hid hn
    clear hr hok hd hw
    by_cases hpk : pick ≤ 0
    · have hm : max 0 pick = 0 := by omega
      have hn0 : ¬ (0 : Int) < pick := by omega
      have hn1 : (0 : Int).tmod (n : Int) = 0 := Int.zero_tmod _
      have e := hc0 hpk
      have ei : i = 0 := by omega
      clear hc0 hc1 e
      subst ei
      rw [Nat.zero_mul] at x0 x1 x2
      go_enter Try.func24, Try.ntmps24
      go_wp2_with fail
      refine wp_region_J 15 (fun w' => w' = w.drew) (by kernel_rfl) ?_ (fun hF => ?_)
      · (try dsimp only)
        all_goals (rfl)
      refine wpAnyJ_take0 (i := 0) (oi := { dst := some 11, op := Go.Op.move (Go.Operand.tmp 0), type := 44, pos := "net.go:40", after := #[], guard := none }) (v := ?_) rfl (by kernel_rfl) (by kernel_rfl) (by kernel_rfl) (by kernel_rfl) (fun _ _ _ h => h) (by first | exact fun _ => hF | exact fun _ => hF (by kernel_rfl)) (fun w => ?_) (by rfl) ?_
      rotate_left
      · first | (go_simp; done) | (go_simp; with_reducible rfl) | (go_split_ands; go_simp; done)
      try simp only [Act.put, List.setIfInBounds_toArray, List.set_cons_zero, List.set_cons_succ]
      refine wpAnyJ_take0 (i := 1) (oi := { dst := some 12, op := Go.Op.move (Go.Operand.tmp 0), type := 44, pos := "net.go:40", after := #[], guard := none }) (v := ?_) rfl (by kernel_rfl) (by kernel_rfl) (by kernel_rfl) (by kernel_rfl) (fun _ _ _ h => h) (by first | exact fun _ => hF | exact fun _ => hF (by kernel_rfl)) (fun w => ?_) (by rfl) ?_
      rotate_left
      · first | (go_simp; done) | (go_simp; with_reducible rfl) | (go_split_ands; go_simp; done)
      try simp only [Act.put, List.setIfInBounds_toArray, List.set_cons_zero, List.set_cons_succ]
      refine wpAnyJ_take0 (i := 2) (oi := { dst := some 13, op := Go.Op.nilCheck (Go.Operand.tmp 12), type := 0, pos := "net.go:40", after := #[{ on := 1, ground := Go.Ground.data }], guard := none }) (v := ?_) rfl (by kernel_rfl) (by kernel_rfl) (by kernel_rfl) (by kernel_rfl) (fun _ _ _ h => h) (by first | exact fun _ => hF | exact fun _ => hF (by kernel_rfl)) (fun w => ?_) (by rfl) ?_
      rotate_left
      · first | (go_simp; done) | (go_simp; with_reducible rfl) | (go_split_ands; go_simp; done)
      try simp only [Act.put, List.setIfInBounds_toArray, List.set_cons_zero, List.set_cons_succ]
      refine wpAnyJ_take0 (i := 3) (oi := { dst := some 14, op := Go.Op.fieldAddr 47 (Go.Operand.tmp 13) 0, type := 0, pos := "net.go:40", after := #[{ on := 2, ground := Go.Ground.data }], guard := none }) (v := ?_) rfl (by kernel_rfl) (by kernel_rfl) (by kernel_rfl) (by kernel_rfl) (fun _ _ _ h => h) (by first | exact fun _ => hF | exact fun _ => hF (by kernel_rfl)) (fun w => ?_) (by rfl) ?_
      rotate_left
      · first | (go_simp; done) | (go_simp; with_reducible rfl) | (go_split_ands; go_simp; done)
      try simp only [Act.put, List.setIfInBounds_toArray, List.set_cons_zero, List.set_cons_succ]
      refine wpAnyJ_take (i := 4) (oi := { dst := some 15, op := Go.Op.load 45 (Go.Operand.tmp 14), type := 45, pos := "net.go:40", after := #[{ on := 3, ground := Go.Ground.data }], guard := none }) (v := ?_) [13, 14, 15] rfl (by kernel_rfl) (by kernel_rfl) (by kernel_rfl) (by kernel_rfl) (by kernel_rfl) (fun _ _ _ h => h) (by first | exact hF | exact hF (by kernel_rfl)) (fun w hFw => ?_) (by rfl) ?_
      rotate_left
      · ((try dsimp only at hFw); first | (go_simp; done) | (go_simp; with_reducible rfl) | (go_split_ands; go_simp; done))
      try simp only [Act.put, List.setIfInBounds_toArray, List.set_cons_zero, List.set_cons_succ]
      refine wpAnyJ_take0 (i := 5) (oi := { dst := some 16, op := Go.Op.move (Go.Operand.tmp 1), type := 3, pos := "net.go:40", after := #[], guard := none }) (v := ?_) rfl (by kernel_rfl) (by kernel_rfl) (by kernel_rfl) (by kernel_rfl) (fun _ _ _ h => h) (by first | exact fun _ => hF | exact fun _ => hF (by kernel_rfl)) (fun w => ?_) (by rfl) ?_
      rotate_left
      · first | (go_simp; done) | (go_simp; with_reducible rfl) | (go_split_ands; go_simp; done)
      try simp only [Act.put, List.setIfInBounds_toArray, List.set_cons_zero, List.set_cons_succ]
      refine wpAnyJ_take (i := 6) (oi := { dst := some 17, op := Go.Op.call { callee := Go.Callee.builtin Go.Builtin.max, args := #[Go.Operand.const (Go.Value.int Go.IntKind.i64 0), Go.Operand.tmp 16], argTypes := #[3, 3] }, type := 3, pos := "net.go:40", after := #[{ on := 5, ground := Go.Ground.data }], guard := none }) (v := (.int .i64 0)) [12, 13, 14, 15] rfl (by kernel_rfl) (by kernel_rfl) (by kernel_rfl) (by kernel_rfl) (by kernel_rfl) (fun _ _ _ h => h) (by first | exact hF | exact hF (by kernel_rfl)) (fun w hFw => ?_) (by rfl) ?_
      · ((try dsimp only at hFw); (go_simp; intro hh; omega))
      try simp only [Act.put, List.setIfInBounds_toArray, List.set_cons_zero, List.set_cons_succ]
      refine wpAnyJ_take0 (i := 7) (oi := { dst := some 18, op := Go.Op.move (Go.Operand.tmp 0), type := 44, pos := "net.go:40", after := #[], guard := none }) (v := ?_) rfl (by kernel_rfl) (by kernel_rfl) (by kernel_rfl) (by kernel_rfl) (fun _ _ _ h => h) (by first | exact fun _ => hF | exact fun _ => hF (by kernel_rfl)) (fun w => ?_) (by rfl) ?_
      rotate_left
      · first | (go_simp; done) | (go_simp; with_reducible rfl) | (go_split_ands; go_simp; done)
      try simp only [Act.put, List.setIfInBounds_toArray, List.set_cons_zero, List.set_cons_succ]
      refine wpAnyJ_take0 (i := 8) (oi := { dst := some 19, op := Go.Op.nilCheck (Go.Operand.tmp 18), type := 0, pos := "net.go:40", after := #[{ on := 7, ground := Go.Ground.data }], guard := none }) (v := ?_) rfl (by kernel_rfl) (by kernel_rfl) (by kernel_rfl) (by kernel_rfl) (fun _ _ _ h => h) (by first | exact fun _ => hF | exact fun _ => hF (by kernel_rfl)) (fun w => ?_) (by rfl) ?_
      rotate_left
      · first | (go_simp; done) | (go_simp; with_reducible rfl) | (go_split_ands; go_simp; done)
      try simp only [Act.put, List.setIfInBounds_toArray, List.set_cons_zero, List.set_cons_succ]
      refine wpAnyJ_take0 (i := 9) (oi := { dst := some 20, op := Go.Op.fieldAddr 47 (Go.Operand.tmp 19) 0, type := 0, pos := "net.go:40", after := #[{ on := 8, ground := Go.Ground.data }], guard := none }) (v := ?_) rfl (by kernel_rfl) (by kernel_rfl) (by kernel_rfl) (by kernel_rfl) (fun _ _ _ h => h) (by first | exact fun _ => hF | exact fun _ => hF (by kernel_rfl)) (fun w => ?_) (by rfl) ?_
      rotate_left
      · first | (go_simp; done) | (go_simp; with_reducible rfl) | (go_split_ands; go_simp; done)
      try simp only [Act.put, List.setIfInBounds_toArray, List.set_cons_zero, List.set_cons_succ]
      refine wpAnyJ_take (i := 10) (oi := { dst := some 21, op := Go.Op.load 45 (Go.Operand.tmp 20), type := 45, pos := "net.go:40", after := #[{ on := 9, ground := Go.Ground.data }], guard := none }) (v := ?_) [11, 12, 13, 14, 15] rfl (by kernel_rfl) (by kernel_rfl) (by kernel_rfl) (by kernel_rfl) (by kernel_rfl) (fun _ _ _ h => h) (by first | exact hF | exact hF (by kernel_rfl)) (fun w hFw => ?_) (by rfl) ?_
      rotate_left
      · ((try dsimp only at hFw); first | (go_simp; done) | (go_simp; with_reducible rfl) | (go_split_ands; go_simp; done))
      try simp only [Act.put, List.setIfInBounds_toArray, List.set_cons_zero, List.set_cons_succ]
      refine wpAnyJ_take (i := 11) (oi := { dst := some 22, op := Go.Op.call { callee := Go.Callee.builtin Go.Builtin.len, args := #[Go.Operand.tmp 21], argTypes := #[45] }, type := 3, pos := "net.go:40", after := #[{ on := 10, ground := Go.Ground.data }], guard := none }) (v := ?_) [12, 13, 14, 15] rfl (by kernel_rfl) (by kernel_rfl) (by kernel_rfl) (by kernel_rfl) (by kernel_rfl) (fun _ _ _ h => h) (by first | exact hF | exact hF (by kernel_rfl)) (fun w hFw => ?_) (by rfl) ?_
      rotate_left
      · ((try dsimp only at hFw); first | (go_simp; done) | (go_simp; with_reducible rfl) | (go_split_ands; go_simp; done))
      try simp only [Act.put, List.setIfInBounds_toArray, List.set_cons_zero, List.set_cons_succ]
      refine wpAnyJ_take0 (i := 12) (oi := { dst := some 23, op := Go.Op.binOp Go.BinOp.rem 3 (Go.Operand.tmp 17) (Go.Operand.tmp 22) 3, type := 3, pos := "net.go:40", after := #[{ on := 6, ground := Go.Ground.data }, { on := 11, ground := Go.Ground.data }], guard := none }) (v := (.int .i64 0)) rfl (by kernel_rfl) (by kernel_rfl) (by kernel_rfl) (by kernel_rfl) (fun _ _ _ h => h) (by first | exact fun _ => hF | exact fun _ => hF (by kernel_rfl)) (fun w => ?_) (by rfl) ?_
      · first | (go_simp; done) | (go_simp; with_reducible rfl) | (go_split_ands; go_simp; done)
      try simp only [Act.put, List.setIfInBounds_toArray, List.set_cons_zero, List.set_cons_succ]
      refine wpAnyJ_take0 (i := 13) (oi := { dst := some 24, op := Go.Op.indexAddr 45 (Go.Operand.tmp 15) (Go.Operand.tmp 23), type := 0, pos := "net.go:40", after := #[{ on := 4, ground := Go.Ground.data }, { on := 12, ground := Go.Ground.data }], guard := none }) (v := ?_) rfl (by kernel_rfl) (by kernel_rfl) (by kernel_rfl) (by kernel_rfl) (fun _ _ _ h => h) (by first | exact fun _ => hF | exact fun _ => hF (by kernel_rfl)) (fun w => ?_) (by rfl) ?_
      rotate_left
      · first | (go_simp; done) | (go_simp; with_reducible rfl) | (go_split_ands; go_simp; done)
      try simp only [Act.put, List.setIfInBounds_toArray, List.set_cons_zero, List.set_cons_succ]
      refine wpAnyJ_take (i := 14) (oi := { dst := some 25, op := Go.Op.load 28 (Go.Operand.tmp 24), type := 28, pos := "net.go:40", after := #[{ on := 13, ground := Go.Ground.data }], guard := none }) (v := ?_) [15] rfl (by kernel_rfl) (by kernel_rfl) (by kernel_rfl) (by kernel_rfl) (by kernel_rfl) (fun _ _ _ h => h) (by first | exact hF | exact hF (by kernel_rfl)) (fun w hFw => ?_) (by rfl) ?_
      rotate_left
      · ((try dsimp only at hFw); first | (go_simp; done) | (go_simp; with_reducible rfl) | (go_split_ands; go_simp; done))
      try simp only [Act.put, List.setIfInBounds_toArray, List.set_cons_zero, List.set_cons_succ]
      refine wpAnyJ_ready (rs := [15]) (by kernel_rfl) (by simp) ?_
      refine AllJ.cons (o := { dst := some 26, op := Go.Op.call { callee := Go.Callee.value (Go.Operand.func 19), args := #[Go.Operand.tmp 11, Go.Operand.tmp 25], argTypes := #[44, 28] }, type := 4, pos := "net.go:40", after := #[{ on := 0, ground := Go.Ground.data }, { on := 14, ground := Go.Ground.data }], guard := none }) rfl (fun Kr hKr => ?_) ?_
      · (go_simp; refine hsd.out.mono ?_; intro e w1 hpost; obtain ⟨y, rfl⟩ := hpost.bool; replace hpost := Lib.hid (hpost.pre s0.out.drew))
        refine hKr.out _ _ (fun hJ => ?_) (fun hF => ?_)
        · first
          | exact absurd hJ (by decide)
          | (clear hJ; (try dsimp only); all_goals (rfl))
        clear hKr
        try simp only [Act.put, List.setIfInBounds_toArray, List.set_cons_zero, List.set_cons_succ]
        refine wpAnyJ_ready (rs := [16]) (by kernel_rfl) (by simp) ?_
        refine AllJ.cons (o := { dst := some 4, op := Go.Op.assign (Go.Operand.tmp 26), type := 4, pos := "net.go:40", after := #[{ on := 15, ground := Go.Ground.data }, { on := 15, ground := Go.Ground.chain }, { on := 0, ground := Go.Ground.phase }, { on := 1, ground := Go.Ground.phase }, { on := 2, ground := Go.Ground.phase }, { on := 3, ground := Go.Ground.phase }, { on := 4, ground := Go.Ground.phase }, { on := 5, ground := Go.Ground.phase }, { on := 6, ground := Go.Ground.phase }, { on := 7, ground := Go.Ground.phase }, { on := 8, ground := Go.Ground.phase }, { on := 9, ground := Go.Ground.phase }, { on := 10, ground := Go.Ground.phase }, { on := 11, ground := Go.Ground.phase }, { on := 12, ground := Go.Ground.phase }, { on := 13, ground := Go.Ground.phase }, { on := 14, ground := Go.Ground.phase }, { on := 15, ground := Go.Ground.phase }], guard := none }) rfl (fun Kr hKr => ?_) ?_
        · go_simp
          refine hKr.out _ _ (fun hJ => ?_) (fun hF => ?_)
          · first
            | exact absurd hJ (by decide)
            | (clear hJ; (try dsimp only); all_goals (rfl))
          clear hKr
          try simp only [Act.put, List.setIfInBounds_toArray, List.set_cons_zero, List.set_cons_succ]
          refine wpAnyJ_done (by kernel_rfl) ?_ _
          go_wp2
          go_ret
          exact .inr ⟨0, x, by rw [← hn.out]; exact hi.out, hx.out, hpost.out⟩
        exact AllJ.nil
      exact AllJ.nil
    · have hm : max 0 pick = pick := by omega
      have hp0 : 0 ≤ pick := by omega
      have q0 : (0 : Int) < pick := by omega
      have q1 := hc1 hp0
      have q2 : pick.tmod (n : Int) = (i : Int) := by rw [Int.tmod_eq_emod_of_nonneg hp0]; exact q1
      have q3 : IntKind.i64.wrap pick = pick := IntWalk.i64_in _ (by omega)
      clear hc0 hc1
      go_enter Try.func24, Try.ntmps24
      go_wp2_with fail
      refine wp_region_J 15 (fun w' => w' = w.drew) (by kernel_rfl) ?_ (fun hF => ?_)
      · (try dsimp only)
        all_goals (rfl)
      refine wpAnyJ_take0 (i := 0) (oi := { dst := some 11, op := Go.Op.move (Go.Operand.tmp 0), type := 44, pos := "net.go:40", after := #[], guard := none }) (v := ?_) rfl (by kernel_rfl) (by kernel_rfl) (by kernel_rfl) (by kernel_rfl) (fun _ _ _ h => h) (by first | exact fun _ => hF | exact fun _ => hF (by kernel_rfl)) (fun w => ?_) (by rfl) ?_
      rotate_left
      · first | (go_simp; done) | (go_simp; with_reducible rfl) | (go_split_ands; go_simp; done)
      try simp only [Act.put, List.setIfInBounds_toArray, List.set_cons_zero, List.set_cons_succ]
      refine wpAnyJ_take0 (i := 1) (oi := { dst := some 12, op := Go.Op.move (Go.Operand.tmp 0), type := 44, pos := "net.go:40", after := #[], guard := none }) (v := ?_) rfl (by kernel_rfl) (by kernel_rfl) (by kernel_rfl) (by kernel_rfl) (fun _ _ _ h => h) (by first | exact fun _ => hF | exact fun _ => hF (by kernel_rfl)) (fun w => ?_) (by rfl) ?_
      rotate_left
      · first | (go_simp; done) | (go_simp; with_reducible rfl) | (go_split_ands; go_simp; done)
      try simp only [Act.put, List.setIfInBounds_toArray, List.set_cons_zero, List.set_cons_succ]
      refine wpAnyJ_take0 (i := 2) (oi := { dst := some 13, op := Go.Op.nilCheck (Go.Operand.tmp 12), type := 0, pos := "net.go:40", after := #[{ on := 1, ground := Go.Ground.data }], guard := none }) (v := ?_) rfl (by kernel_rfl) (by kernel_rfl) (by kernel_rfl) (by kernel_rfl) (fun _ _ _ h => h) (by first | exact fun _ => hF | exact fun _ => hF (by kernel_rfl)) (fun w => ?_) (by rfl) ?_
      rotate_left
      · first | (go_simp; done) | (go_simp; with_reducible rfl) | (go_split_ands; go_simp; done)
      try simp only [Act.put, List.setIfInBounds_toArray, List.set_cons_zero, List.set_cons_succ]
      refine wpAnyJ_take0 (i := 3) (oi := { dst := some 14, op := Go.Op.fieldAddr 47 (Go.Operand.tmp 13) 0, type := 0, pos := "net.go:40", after := #[{ on := 2, ground := Go.Ground.data }], guard := none }) (v := ?_) rfl (by kernel_rfl) (by kernel_rfl) (by kernel_rfl) (by kernel_rfl) (fun _ _ _ h => h) (by first | exact fun _ => hF | exact fun _ => hF (by kernel_rfl)) (fun w => ?_) (by rfl) ?_
      rotate_left
      · first | (go_simp; done) | (go_simp; with_reducible rfl) | (go_split_ands; go_simp; done)
      try simp only [Act.put, List.setIfInBounds_toArray, List.set_cons_zero, List.set_cons_succ]
      refine wpAnyJ_take (i := 4) (oi := { dst := some 15, op := Go.Op.load 45 (Go.Operand.tmp 14), type := 45, pos := "net.go:40", after := #[{ on := 3, ground := Go.Ground.data }], guard := none }) (v := ?_) [13, 14, 15] rfl (by kernel_rfl) (by kernel_rfl) (by kernel_rfl) (by kernel_rfl) (by kernel_rfl) (fun _ _ _ h => h) (by first | exact hF | exact hF (by kernel_rfl)) (fun w hFw => ?_) (by rfl) ?_
      rotate_left
      · ((try dsimp only at hFw); first | (go_simp; done) | (go_simp; with_reducible rfl) | (go_split_ands; go_simp; done))
      try simp only [Act.put, List.setIfInBounds_toArray, List.set_cons_zero, List.set_cons_succ]
      refine wpAnyJ_take0 (i := 5) (oi := { dst := some 16, op := Go.Op.move (Go.Operand.tmp 1), type := 3, pos := "net.go:40", after := #[], guard := none }) (v := ?_) rfl (by kernel_rfl) (by kernel_rfl) (by kernel_rfl) (by kernel_rfl) (fun _ _ _ h => h) (by first | exact fun _ => hF | exact fun _ => hF (by kernel_rfl)) (fun w => ?_) (by rfl) ?_
      rotate_left
      · first | (go_simp; done) | (go_simp; with_reducible rfl) | (go_split_ands; go_simp; done)
      try simp only [Act.put, List.setIfInBounds_toArray, List.set_cons_zero, List.set_cons_succ]
      refine wpAnyJ_take (i := 6) (oi := { dst := some 17, op := Go.Op.call { callee := Go.Callee.builtin Go.Builtin.max, args := #[Go.Operand.const (Go.Value.int Go.IntKind.i64 0), Go.Operand.tmp 16], argTypes := #[3, 3] }, type := 3, pos := "net.go:40", after := #[{ on := 5, ground := Go.Ground.data }], guard := none }) (v := (.int .i64 pick)) [12, 13, 14, 15] rfl (by kernel_rfl) (by kernel_rfl) (by kernel_rfl) (by kernel_rfl) (by kernel_rfl) (fun _ _ _ h => h) (by first | exact hF | exact hF (by kernel_rfl)) (fun w hFw => ?_) (by rfl) ?_
      · ((try dsimp only at hFw); first | (go_simp; done) | (go_simp; with_reducible rfl) | (go_split_ands; go_simp; done))
      try simp only [Act.put, List.setIfInBounds_toArray, List.set_cons_zero, List.set_cons_succ]
      refine wpAnyJ_take0 (i := 7) (oi := { dst := some 18, op := Go.Op.move (Go.Operand.tmp 0), type := 44, pos := "net.go:40", after := #[], guard := none }) (v := ?_) rfl (by kernel_rfl) (by kernel_rfl) (by kernel_rfl) (by kernel_rfl) (fun _ _ _ h => h) (by first | exact fun _ => hF | exact fun _ => hF (by kernel_rfl)) (fun w => ?_) (by rfl) ?_
      rotate_left
      · first | (go_simp; done) | (go_simp; with_reducible rfl) | (go_split_ands; go_simp; done)
      try simp only [Act.put, List.setIfInBounds_toArray, List.set_cons_zero, List.set_cons_succ]
      refine wpAnyJ_take0 (i := 8) (oi := { dst := some 19, op := Go.Op.nilCheck (Go.Operand.tmp 18), type := 0, pos := "net.go:40", after := #[{ on := 7, ground := Go.Ground.data }], guard := none }) (v := ?_) rfl (by kernel_rfl) (by kernel_rfl) (by kernel_rfl) (by kernel_rfl) (fun _ _ _ h => h) (by first | exact fun _ => hF | exact fun _ => hF (by kernel_rfl)) (fun w => ?_) (by rfl) ?_
      rotate_left
      · first | (go_simp; done) | (go_simp; with_reducible rfl) | (go_split_ands; go_simp; done)
      try simp only [Act.put, List.setIfInBounds_toArray, List.set_cons_zero, List.set_cons_succ]
      refine wpAnyJ_take0 (i := 9) (oi := { dst := some 20, op := Go.Op.fieldAddr 47 (Go.Operand.tmp 19) 0, type := 0, pos := "net.go:40", after := #[{ on := 8, ground := Go.Ground.data }], guard := none }) (v := ?_) rfl (by kernel_rfl) (by kernel_rfl) (by kernel_rfl) (by kernel_rfl) (fun _ _ _ h => h) (by first | exact fun _ => hF | exact fun _ => hF (by kernel_rfl)) (fun w => ?_) (by rfl) ?_
      rotate_left
      · first | (go_simp; done) | (go_simp; with_reducible rfl) | (go_split_ands; go_simp; done)
      try simp only [Act.put, List.setIfInBounds_toArray, List.set_cons_zero, List.set_cons_succ]
      refine wpAnyJ_take (i := 10) (oi := { dst := some 21, op := Go.Op.load 45 (Go.Operand.tmp 20), type := 45, pos := "net.go:40", after := #[{ on := 9, ground := Go.Ground.data }], guard := none }) (v := ?_) [11, 12, 13, 14, 15] rfl (by kernel_rfl) (by kernel_rfl) (by kernel_rfl) (by kernel_rfl) (by kernel_rfl) (fun _ _ _ h => h) (by first | exact hF | exact hF (by kernel_rfl)) (fun w hFw => ?_) (by rfl) ?_
      rotate_left
      · ((try dsimp only at hFw); first | (go_simp; done) | (go_simp; with_reducible rfl) | (go_split_ands; go_simp; done))
      try simp only [Act.put, List.setIfInBounds_toArray, List.set_cons_zero, List.set_cons_succ]
      refine wpAnyJ_take (i := 11) (oi := { dst := some 22, op := Go.Op.call { callee := Go.Callee.builtin Go.Builtin.len, args := #[Go.Operand.tmp 21], argTypes := #[45] }, type := 3, pos := "net.go:40", after := #[{ on := 10, ground := Go.Ground.data }], guard := none }) (v := ?_) [12, 13, 14, 15] rfl (by kernel_rfl) (by kernel_rfl) (by kernel_rfl) (by kernel_rfl) (by kernel_rfl) (fun _ _ _ h => h) (by first | exact hF | exact hF (by kernel_rfl)) (fun w hFw => ?_) (by rfl) ?_
      rotate_left
      · ((try dsimp only at hFw); first | (go_simp; done) | (go_simp; with_reducible rfl) | (go_split_ands; go_simp; done))
      try simp only [Act.put, List.setIfInBounds_toArray, List.set_cons_zero, List.set_cons_succ]
      refine wpAnyJ_take0 (i := 12) (oi := { dst := some 23, op := Go.Op.binOp Go.BinOp.rem 3 (Go.Operand.tmp 17) (Go.Operand.tmp 22) 3, type := 3, pos := "net.go:40", after := #[{ on := 6, ground := Go.Ground.data }, { on := 11, ground := Go.Ground.data }], guard := none }) (v := (.int .i64 (i : Int))) rfl (by kernel_rfl) (by kernel_rfl) (by kernel_rfl) (by kernel_rfl) (fun _ _ _ h => h) (by first | exact fun _ => hF | exact fun _ => hF (by kernel_rfl)) (fun w => ?_) (by rfl) ?_
      · first | (go_simp; done) | (go_simp; with_reducible rfl) | (go_split_ands; go_simp; done)
      try simp only [Act.put, List.setIfInBounds_toArray, List.set_cons_zero, List.set_cons_succ]
      refine wpAnyJ_take0 (i := 13) (oi := { dst := some 24, op := Go.Op.indexAddr 45 (Go.Operand.tmp 15) (Go.Operand.tmp 23), type := 0, pos := "net.go:40", after := #[{ on := 4, ground := Go.Ground.data }, { on := 12, ground := Go.Ground.data }], guard := none }) (v := ?_) rfl (by kernel_rfl) (by kernel_rfl) (by kernel_rfl) (by kernel_rfl) (fun _ _ _ h => h) (by first | exact fun _ => hF | exact fun _ => hF (by kernel_rfl)) (fun w => ?_) (by rfl) ?_
      rotate_left
      · first | (go_simp; done) | (go_simp; with_reducible rfl) | (go_split_ands; go_simp; done)
      try simp only [Act.put, List.setIfInBounds_toArray, List.set_cons_zero, List.set_cons_succ]
      refine wpAnyJ_take (i := 14) (oi := { dst := some 25, op := Go.Op.load 28 (Go.Operand.tmp 24), type := 28, pos := "net.go:40", after := #[{ on := 13, ground := Go.Ground.data }], guard := none }) (v := ?_) [15] rfl (by kernel_rfl) (by kernel_rfl) (by kernel_rfl) (by kernel_rfl) (by kernel_rfl) (fun _ _ _ h => h) (by first | exact hF | exact hF (by kernel_rfl)) (fun w hFw => ?_) (by rfl) ?_
      rotate_left
      · ((try dsimp only at hFw); first | (go_simp; done) | (go_simp; with_reducible rfl) | (go_split_ands; go_simp; done))
      try simp only [Act.put, List.setIfInBounds_toArray, List.set_cons_zero, List.set_cons_succ]
      refine wpAnyJ_ready (rs := [15]) (by kernel_rfl) (by simp) ?_
      refine AllJ.cons (o := { dst := some 26, op := Go.Op.call { callee := Go.Callee.value (Go.Operand.func 19), args := #[Go.Operand.tmp 11, Go.Operand.tmp 25], argTypes := #[44, 28] }, type := 4, pos := "net.go:40", after := #[{ on := 0, ground := Go.Ground.data }, { on := 14, ground := Go.Ground.data }], guard := none }) rfl (fun Kr hKr => ?_) ?_
      · (go_simp; refine hsd.out.mono ?_; intro e w1 hpost; obtain ⟨y, rfl⟩ := hpost.bool; replace hpost := Lib.hid (hpost.pre s0.out.drew))
        refine hKr.out _ _ (fun hJ => ?_) (fun hF => ?_)
        · first
          | exact absurd hJ (by decide)
          | (clear hJ; (try dsimp only); all_goals (rfl))
        clear hKr
        try simp only [Act.put, List.setIfInBounds_toArray, List.set_cons_zero, List.set_cons_succ]
        refine wpAnyJ_ready (rs := [16]) (by kernel_rfl) (by simp) ?_
        refine AllJ.cons (o := { dst := some 4, op := Go.Op.assign (Go.Operand.tmp 26), type := 4, pos := "net.go:40", after := #[{ on := 15, ground := Go.Ground.data }, { on := 15, ground := Go.Ground.chain }, { on := 0, ground := Go.Ground.phase }, { on := 1, ground := Go.Ground.phase }, { on := 2, ground := Go.Ground.phase }, { on := 3, ground := Go.Ground.phase }, { on := 4, ground := Go.Ground.phase }, { on := 5, ground := Go.Ground.phase }, { on := 6, ground := Go.Ground.phase }, { on := 7, ground := Go.Ground.phase }, { on := 8, ground := Go.Ground.phase }, { on := 9, ground := Go.Ground.phase }, { on := 10, ground := Go.Ground.phase }, { on := 11, ground := Go.Ground.phase }, { on := 12, ground := Go.Ground.phase }, { on := 13, ground := Go.Ground.phase }, { on := 14, ground := Go.Ground.phase }, { on := 15, ground := Go.Ground.phase }], guard := none }) rfl (fun Kr hKr => ?_) ?_
        · go_simp
          refine hKr.out _ _ (fun hJ => ?_) (fun hF => ?_)
          · first
            | exact absurd hJ (by decide)
            | (clear hJ; (try dsimp only); all_goals (rfl))
          clear hKr
          try simp only [Act.put, List.setIfInBounds_toArray, List.set_cons_zero, List.set_cons_succ]
          refine wpAnyJ_done (by kernel_rfl) ?_ _
          go_wp2
          go_ret
          exact .inr ⟨i, x, by rw [← hn.out]; exact hi.out, hx.out, hpost.out⟩
        exact AllJ.nil
      exact AllJ.nil
def RLatePost (b : Nat) (l : List It) (pick : Int) (w : World) (H : Heaplet) (e : Ending) (w' : World) : Prop :=
  (l = [] ∧ e = .returned (.bool false) ∧ Step w H w' H) ∨
  ∃ (i : Nat) (x : It) (H' : Heaplet), i = pickOf l.length pick ∧ l[i]? = some x ∧ e = .returned (.bool true) ∧ NetRep 47 b (l.eraseIdx i ++ [x]) H' ∧ Step w H w' H'
set_option maxRecDepth 100000 in
set_option maxHeartbeats 2000000 in
theorem rlate_any (b : Nat) (l : List It) (H : Heaplet) (pick : Int) (w : World) (hnr : NetRep 47 b l H) (hw : Own w H) (hl : l.length ≤ 1024) (hp : pick ≤ 9223372036854775807) :
    Calls Try.prog 25 #[.pointer (some ⟨b, 0, none⟩), .int .i64 pick] w (RLatePost b l pick w H) := by
  have hg := Lib.hid (rgive_any b l H pick w hnr hw hl hp)
  unfold RGivePost at hg
  clear hnr
  go_enter Try.func25, Try.ntmps25
  go_wp2_with fail
  refine hg.out.mono ?_
  rintro e w1 (⟨hl0, rfl, s1⟩ | ⟨i, x, H', hi, hx, rfl, hxo, hnr, s1⟩)
  · replace hl0 := Lib.hid hl0
    go_wp2_with fail
    go_ret
    exact .inl ⟨hl0.out, rfl, s1.junk _⟩
  · replace hx := Lib.hid hx
    replace hi := Lib.hid hi
    replace hxo := Lib.hid hxo
    have hle : (l.eraseIdx i).length ≤ 1024 := Nat.le_trans (List.length_eraseIdx_le ..) hl
    generalize hL : l.eraseIdx i = L at hnr hle
    replace hL := Lib.hid hL
    obtain ⟨a, c, R, hr, rfl, hok⟩ := hnr
    replace hok := Lib.hid hok
    obtain ⟨n, hn⟩ : ∃ n, n = L.length := ⟨_, rfl⟩
    rw [← hn] at hle
    have s2 := s1.alloc (.cells #[.int .i64 x.f, .int .i64 x.t, .slice x.a x.d.length x.c] 28)
    have b2 : (n : Int) ≤ 1024 := by omega
    obtain ⟨M, hM⟩ : ∃ M, M = w1.heap.size := ⟨_, rfl⟩
    have b0 : b < M := by rw [hM]; exact heap_lt s1.own.h0
    clear s1 hg
    go_wp2_with fail
    rw [← hM] at s2 ⊢
    refine Step.gen s2 ?_
    clear s2
    intro W s2
    have s2 : Step w H W ((M, .cells #[.int .i64 x.f, .int .i64 x.t, .slice x.a x.d.length x.c] 28 (0, 0)) :: (b, .cells #[.slice a L.length c] 47 (0, 0)) :: (R ++ (L.flatMap It.H ++ x.H))) := s2.perm (List.Perm.refl _) (by simp)
    replace hM := Lib.hid hM
    have hr2 := Lib.hid hr
    rw [← hn] at s2 hr
    replace hn := Lib.hid hn
    have c0 := cells1 s2.own.h1
    obtain ⟨y0, y1, y2⟩ := cells3 s2.own.h0
    have b1 := heap_lt s2.own.h0
    refine wp_region_J 10 (fun w' => w'.cell? ⟨b, 0, none⟩ = some (.slice a n c) ∧ w'.cell? ⟨M, 0, none⟩ = some (.int .i64 x.f) ∧ w'.cell? ⟨M, 1, none⟩ = some (.int .i64 x.t) ∧ w'.cell? ⟨M, 2, none⟩ = some (.slice x.a x.d.length x.c)) (by kernel_rfl) ?_ (fun hF => ?_)
    · (try dsimp only)
      all_goals (first | exact ⟨c0, y0, y1, y2⟩ | (have b0 := heap_lt s2.own.h1; simp [*, World.cell?_alloc_some]; done))
    refine wpAnyJ_take0 (i := 0) (oi := { dst := some 14, op := Go.Op.move (Go.Operand.tmp 0), type := 44, pos := "net.go:47", after := #[], guard := none }) (v := ?_) rfl (by kernel_rfl) (by kernel_rfl) (by kernel_rfl) (by kernel_rfl) (fun _ _ _ h => h) (by first | exact fun _ => hF | exact fun _ => hF (by kernel_rfl)) (fun w => ?_) (by rfl) ?_
    rotate_left
    · first | (go_simp; done) | (go_simp; with_reducible rfl) | (go_split_ands; go_simp; done)
    try simp only [Act.put, List.setIfInBounds_toArray, List.set_cons_zero, List.set_cons_succ]
    refine wpAnyJ_take0 (i := 1) (oi := { dst := some 15, op := Go.Op.move (Go.Operand.tmp 0), type := 44, pos := "net.go:47", after := #[], guard := none }) (v := ?_) rfl (by kernel_rfl) (by kernel_rfl) (by kernel_rfl) (by kernel_rfl) (fun _ _ _ h => h) (by first | exact fun _ => hF | exact fun _ => hF (by kernel_rfl)) (fun w => ?_) (by rfl) ?_
    rotate_left
    · first | (go_simp; done) | (go_simp; with_reducible rfl) | (go_split_ands; go_simp; done)
    try simp only [Act.put, List.setIfInBounds_toArray, List.set_cons_zero, List.set_cons_succ]
    refine wpAnyJ_take0 (i := 2) (oi := { dst := some 16, op := Go.Op.nilCheck (Go.Operand.tmp 15), type := 0, pos := "net.go:47", after := #[{ on := 1, ground := Go.Ground.data }], guard := none }) (v := ?_) rfl (by kernel_rfl) (by kernel_rfl) (by kernel_rfl) (by kernel_rfl) (fun _ _ _ h => h) (by first | exact fun _ => hF | exact fun _ => hF (by kernel_rfl)) (fun w => ?_) (by rfl) ?_
    rotate_left
    · first | (go_simp; done) | (go_simp; with_reducible rfl) | (go_split_ands; go_simp; done)
    try simp only [Act.put, List.setIfInBounds_toArray, List.set_cons_zero, List.set_cons_succ]
    refine wpAnyJ_take0 (i := 3) (oi := { dst := some 17, op := Go.Op.fieldAddr 47 (Go.Operand.tmp 16) 0, type := 0, pos := "net.go:47", after := #[{ on := 2, ground := Go.Ground.data }], guard := none }) (v := ?_) rfl (by kernel_rfl) (by kernel_rfl) (by kernel_rfl) (by kernel_rfl) (fun _ _ _ h => h) (by first | exact fun _ => hF | exact fun _ => hF (by kernel_rfl)) (fun w => ?_) (by rfl) ?_
    rotate_left
    · first | (go_simp; done) | (go_simp; with_reducible rfl) | (go_split_ands; go_simp; done)
    try simp only [Act.put, List.setIfInBounds_toArray, List.set_cons_zero, List.set_cons_succ]
    refine wpAnyJ_take (i := 4) (oi := { dst := some 18, op := Go.Op.load 45 (Go.Operand.tmp 17), type := 45, pos := "net.go:47", after := #[{ on := 3, ground := Go.Ground.data }], guard := none }) (v := ?_) [10] rfl (by kernel_rfl) (by kernel_rfl) (by kernel_rfl) (by kernel_rfl) (by kernel_rfl) (fun _ _ _ h => h) (by first | exact hF | exact hF (by kernel_rfl)) (fun w hFw => ?_) (by rfl) ?_
    rotate_left
    · ((try dsimp only at hFw); first | (go_simp; done) | (go_simp; with_reducible rfl) | (go_split_ands; go_simp; done))
    try simp only [Act.put, List.setIfInBounds_toArray, List.set_cons_zero, List.set_cons_succ]
    refine wpAnyJ_take (i := 5) (oi := { dst := some 19, op := Go.Op.load 28 (Go.Operand.tmp 5), type := 28, pos := "net.go:47", after := #[], guard := none }) (v := ?_) [10] rfl (by kernel_rfl) (by kernel_rfl) (by kernel_rfl) (by kernel_rfl) (by kernel_rfl) (fun _ _ _ h => h) (by first | exact hF | exact hF (by kernel_rfl)) (fun w hFw => ?_) (by rfl) ?_
    rotate_left
    · ((try dsimp only at hFw); first | (go_simp; done) | (go_simp; with_reducible rfl) | (go_split_ands; go_simp; done))
    try simp only [Act.put, List.setIfInBounds_toArray, List.set_cons_zero, List.set_cons_succ]
    refine wpAnyJ_ready (rs := [6]) (by kernel_rfl) (by simp) ?_
    refine AllJ.cons (o := { dst := some 20, op := Go.Op.buildSlice 45 1 #[(0, Go.Operand.tmp 19)], type := 45, pos := "net.go:47", after := #[{ on := 5, ground := Go.Ground.data }], guard := none }) rfl (fun Kr hKr => ?_) ?_
    · go_simp
      refine hKr.out _ _ (fun hJ => ?_) (fun hF => ?_)
      · first
        | exact absurd hJ (by decide)
        | (clear hJ; (try dsimp only); all_goals (first | exact ⟨c0, y0, y1, y2⟩ | (have b0 := heap_lt s2.own.h1; simp [*, World.cell?_alloc_some]; done)))
      clear hKr
      try simp only [Act.put, List.setIfInBounds_toArray, List.set_cons_zero, List.set_cons_succ]
      refine wpAnyJ_ready (rs := [7]) (by kernel_rfl) (by simp) ?_
      refine AllJ.cons (o := { dst := some 21, op := Go.Op.call { callee := Go.Callee.builtin Go.Builtin.append, args := #[Go.Operand.tmp 18, Go.Operand.tmp 20], argTypes := #[45, 45] }, type := 45, pos := "net.go:47", after := #[{ on := 4, ground := Go.Ground.data }, { on := 6, ground := Go.Ground.data }], guard := none }) rfl (fun Kr hKr => ?_) ?_
      · have s3 := s2.drew.alloc (.cells #[.int .i64 x.f, .int .i64 x.t, .slice x.a x.d.length x.c] 28)
        refine step_app rfl st_msg _ _ (by rfl) (by rfl) (by rfl) hr s3.own.tail.tail.tail.left (rdCells_block (heap_alloc_new _ _) rfl (by simp [Value.oneCell'])) (by unfold maxLen; omega) (by omega) ?_
        intro a2 c2 w2 R2 hr2' hst2
        have s4 := Step.mid3 s3 hst2
        have c0 := cells1 s4.own.h2
        have f0 := frz_of (i := 0) s4.own.h2
        obtain ⟨y0, y1, y2⟩ := cells3 s4.own.h1
        refine hKr.out _ _ (fun hJ => ?_) (fun hF => ?_)
        · first
          | exact absurd hJ (by decide)
          | (clear hJ; (try dsimp only); all_goals (first | exact ⟨c0, y0, y1, y2⟩ | (have b0 := heap_lt s2.own.h1; simp [*, World.cell?_alloc_some]; done)))
        clear hKr
        try simp only [Act.put, List.setIfInBounds_toArray, List.set_cons_zero, List.set_cons_succ]
        refine wpAnyJ_take0 (i := 8) (oi := { dst := some 22, op := Go.Op.nilCheck (Go.Operand.tmp 14), type := 0, pos := "net.go:47", after := #[{ on := 0, ground := Go.Ground.data }, { on := 0, ground := Go.Ground.phase }, { on := 1, ground := Go.Ground.phase }, { on := 2, ground := Go.Ground.phase }, { on := 3, ground := Go.Ground.phase }, { on := 4, ground := Go.Ground.phase }, { on := 5, ground := Go.Ground.phase }, { on := 6, ground := Go.Ground.phase }, { on := 7, ground := Go.Ground.phase }], guard := none }) (v := ?_) rfl (by kernel_rfl) (by kernel_rfl) (by kernel_rfl) (by kernel_rfl) (fun _ _ _ h => h) (by first | exact fun _ => hF | exact fun _ => hF (by kernel_rfl)) (fun w => ?_) (by rfl) ?_
        rotate_left
        · first | (go_simp; done) | (go_simp; with_reducible rfl) | (go_split_ands; go_simp; done)
        try simp only [Act.put, List.setIfInBounds_toArray, List.set_cons_zero, List.set_cons_succ]
        refine wpAnyJ_take0 (i := 9) (oi := { dst := some 23, op := Go.Op.fieldAddr 47 (Go.Operand.tmp 22) 0, type := 0, pos := "net.go:47", after := #[{ on := 8, ground := Go.Ground.data }, { on := 0, ground := Go.Ground.phase }, { on := 1, ground := Go.Ground.phase }, { on := 2, ground := Go.Ground.phase }, { on := 3, ground := Go.Ground.phase }, { on := 4, ground := Go.Ground.phase }, { on := 5, ground := Go.Ground.phase }, { on := 6, ground := Go.Ground.phase }, { on := 7, ground := Go.Ground.phase }], guard := none }) (v := ?_) rfl (by kernel_rfl) (by kernel_rfl) (by kernel_rfl) (by kernel_rfl) (fun _ _ _ h => h) (by first | exact fun _ => hF | exact fun _ => hF (by kernel_rfl)) (fun w => ?_) (by rfl) ?_
        rotate_left
        · first | (go_simp; done) | (go_simp; with_reducible rfl) | (go_split_ands; go_simp; done)
        try simp only [Act.put, List.setIfInBounds_toArray, List.set_cons_zero, List.set_cons_succ]
        refine wpAnyJ_ready (rs := [10]) (by kernel_rfl) (by simp) ?_
        refine AllJ.cons (o := { dst := none, op := Go.Op.store 45 (Go.Operand.tmp 23) (Go.Operand.tmp 21), type := 0, pos := "net.go:47", after := #[{ on := 9, ground := Go.Ground.data }, { on := 7, ground := Go.Ground.data }, { on := 7, ground := Go.Ground.chain }, { on := 0, ground := Go.Ground.phase }, { on := 1, ground := Go.Ground.phase }, { on := 2, ground := Go.Ground.phase }, { on := 3, ground := Go.Ground.phase }, { on := 4, ground := Go.Ground.phase }, { on := 5, ground := Go.Ground.phase }, { on := 6, ground := Go.Ground.phase }, { on := 7, ground := Go.Ground.phase }], guard := none }) rfl (fun Kr hKr => ?_) ?_
        · go_simp
          refine hKr.out _ _ (fun hJ => ?_) (fun hF => ?_)
          · first
            | exact absurd hJ (by decide)
            | (clear hJ; (try dsimp only); all_goals (first | exact ⟨c0, y0, y1, y2⟩ | (have b0 := heap_lt s2.own.h1; simp [*, World.cell?_alloc_some]; done)))
          clear hKr
          try simp only [Act.put, List.setIfInBounds_toArray, List.set_cons_zero, List.set_cons_succ]
          refine wpAnyJ_done (by kernel_rfl) ?_ _
          go_wp2_with fail
          go_ret
          have s5 := (s4.store2 (.slice a2 (n + 1) c2) (i := 0)).tail.tail
          have hlen : (L ++ [x]).length = n + 1 := by rw [List.length_append, hn.out]; rfl
          refine .inr ⟨i, x, (b, .cells #[.slice a2 (L ++ [x]).length c2] 47 (0, 0)) :: (R2 ++ (L ++ [x]).flatMap It.H), hi.out, hx.out, rfl, ?_, ?_⟩
          · rw [hL.out]
            refine ⟨a2, c2, R2, ?_, rfl, fun y hy => ?_⟩
            · rw [hlen, List.flatMap_append]; simpa [It.cells] using hr2'
            · rcases List.mem_append.1 hy with hy | hy
              · exact hok.out y hy
              · rw [List.mem_singleton] at hy; subst hy; exact hxo.out
          · rw [hlen, List.flatMap_append]; simpa using s5
        exact AllJ.nil
      exact AllJ.nil
    exact AllJ.nil
end Go.Proofs.Ytliapfdbagcklaa
