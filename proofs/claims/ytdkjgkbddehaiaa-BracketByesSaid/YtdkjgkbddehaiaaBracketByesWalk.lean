/- BracketByes. -/
import Derived.Test.YtdkjgkbddehaiaaBrG
namespace Go.Proofs.Ytdkjgkbddehaiaa
open Go.RowKit
attribute [local go_sem ↓] Go.wp_at_zero Go.wp_at_succ

def Mt.lone (m : Mt) : Bool := decide (m.s0 = 0) || decide (m.s1 = 0)
def byesTo (B : Br) (k : Nat) : Nat := (B.ms.take k).countP Mt.lone
def byeOk (B : Br) : Bool := (byesTo B (B.z / 2) + B.n == B.z) && (B.ms.take (B.z / 2)).all fun m => if m.lone then m.w == m.s0 + m.s1 && !(B.isOut ((m.s0 + m.s1 : Nat) : Int)) else m.w == 0
theorem bye_ok0 : ((List.range 65).all fun n => n < 2 || byeOk (newB n)) = true := by decide +kernel
theorem newB_z {n : Nat} : (newB n).n = n ∧ (newB n).z = (ordL n).length := ⟨(newTo_keep n _).1, (newTo_keep n _).2.1⟩
theorem byesTo_succ {B : Br} {k : Nat} {m : Mt} (hm : B.ms[k]? = some m) : byesTo B (k + 1) = byesTo B k + if m.lone then 1 else 0 := by
  obtain ⟨hk, e⟩ := List.getElem?_eq_some_iff.1 hm
  unfold byesTo
  rw [List.take_succ_eq_append_getElem hk, List.countP_append, e]
  cases h : m.lone <;> simp [h]
theorem byesTo_le (B : Br) (k : Nat) : byesTo B k ≤ k := by
  unfold byesTo; exact Nat.le_trans List.countP_le_length (by simp; omega)
def ByRel (B : Br) (Z : Nat) (H : Heaplet) (w : World) (v6 v7 : Value) (wr : World) : Prop :=
  ∃ k, k ≤ Z ∧ v7 = .int .i64 (k : Nat) ∧ v6 = .int .i64 ((byesTo B k : Nat) : Int) ∧ Step w [] wr H
theorem report15 (b g h : Nat) (B : Br) (i : Nat) (m : Mt) (w : World) (hw : Own w (brH b g h B)) (hm : B.ms[i]? = some m) (hs : m.s0 = 0 ∨ m.s1 = 0) :
    Calls Try.prog 13 #[pt b, .int .i64 i, .int .i64 0] w (RepPost b g h B (15, B) w) := by
  have := report_state b g h B i 0 m w hw hm (.inl rfl) hs
  rwa [rep_at hm, if_neg (by omega), if_pos hs] at this
set_option maxHeartbeats 8000000 in
set_option maxRecDepth 100000 in
theorem bracketByes_walk (n : Int) (w : World) (_ : (Lit.int .i64 n).wf = true) :
    Calls Try.prog 4 #[.int .i64 n] w fun e w' => e = .returned (.bool true) ∧ Below w.heap.size w w' := by
  suffices hs : Calls Try.prog 4 #[.int .i64 n] w (LawPost w) from hs.mono fun e w' hp => ⟨hp.1, hp.2.nil_below⟩
  by_cases h1 : n < 2
  · go_enter Try.func4, Try.ntmps4
    go_wp2_with (go_at_call 9; refine (known_any _).mono ?_; rintro e w3 ⟨rfl, hs3⟩)
    go_ret
    exact ⟨rfl, hs3⟩
  by_cases h2 : 64 < n
  · go_enter Try.func4, Try.ntmps4
    go_wp2_with (go_at_call 9; refine (known_any _).mono ?_; rintro e w3 ⟨rfl, hs3⟩)
    go_ret
    exact ⟨rfl, hs3⟩
  obtain ⟨n, rfl⟩ := Int.eq_ofNat_of_zero_le (show 0 ≤ n by omega)
  have n1 : 2 ≤ n := by omega
  have n2 : n ≤ 64 := by omega
  have hok := newB_ok n1 n2
  have hbo : byeOk (newB n) = true := by
    have h := List.all_eq_true.1 bye_ok0 n (List.mem_range.2 (by omega))
    have h3 : ¬ n < 2 := by omega
    simpa only [h3, decide_false, Bool.false_or] using h
  have hnew : Hid (Calls Try.prog 10 #[.int .i64 n] w (NewYes n (newB n) w)) := new_yes n w n1 n2
  have hn := (newB_z (n := n)).1
  generalize newB n = B at *
  simp only [byeOk, Bool.and_eq_true, beq_iff_eq, List.all_eq_true] at hbo
  obtain ⟨hb1, hb2⟩ := hbo
  have hz64 := hok.z64
  have hl := hok.len
  have hol := hok.outl
  have hn64 := hok.n64
  have hzh : B.z / 2 + B.z / 2 = B.z := by obtain ⟨q, _, hq⟩ := hok.pow; rw [hq, Nat.pow_succ]; omega
  have b1 : (n : Int) ≤ 64 := by omega
  have b2 : (B.ms.length : Int) ≤ 64 := by omega
  have b3 : (2 : Int) ≤ (n : Int) := by omega
  obtain ⟨Z, hZ⟩ : ∃ Z, Z = B.z / 2 := ⟨_, rfl⟩
  rw [← hZ] at hb1 hb2 hzh
  have e1 : ((B.ms.length : Int) + 1) / 2 = (Z : Int) := by omega
  have hZ32 : (Z : Int) ≤ 32 := by omega
  have hZl : Hid (Z ≤ B.ms.length ∧ (B.ms.length : Int) + 1 = 2 * Z) := ⟨by omega, by omega⟩
  replace hb1 := Lib.hid hb1
  replace hb2 := Lib.hid hb2
  replace hl := Lib.hid hl
  replace hol := Lib.hid hol
  replace hn := Lib.hid hn
  replace hzh := Lib.hid hzh
  go_enter Try.func4, Try.ntmps4
  go_wp2_with fail
  refine hnew.out.mono ?_
  rintro e w1 ⟨b, g, h, R, rfl, hs⟩
  go_wp2_with fail
  refine (matches_any b g h B _ hs.own.left).mono ?_
  rintro e w2 ⟨rfl, rfl⟩
  go_wp2_with fail
  replace hs := Lib.hid hs
  rw [e1]
  clear e1 hZ
  go_loopw [6, 7] (fun v6 v7 wr => ByRel B Z (brH b g h B ++ R) w v6 v7 wr) (fun _ v _ => Z - (intOf v).toNat)
  case atStart => exact ⟨0, Nat.zero_le _, rfl, rfl, hs.out⟩
  case round =>
    clear hs
    obtain ⟨k, hk, rfl, rfl, hs⟩ := hrel
    have d1 : (0 : Int) ≤ (k : Int) := by omega
    have hbl := byesTo_le B k
    have d3 : ((byesTo B k : Nat) : Int) ≤ 64 := by omega
    have d4 : (0 : Int) ≤ ((byesTo B k : Nat) : Int) := by omega
    by_cases hlt : k < Z
    · have d2 : (k : Int) < (Z : Int) := by omega
      have hkl : k < B.ms.length := by have := hZl.out.1; omega
      obtain ⟨m, hm⟩ : ∃ m, B.ms[k]? = some m := ⟨_, List.getElem?_eq_getElem hkl⟩
      have hm2 := hb2.out m (List.mem_of_getElem? (i := k) (by rw [List.getElem?_take, if_pos hlt]; exact hm))
      have hbs := byesTo_succ hm
      have hst := Lib.hid (fun W hW => seats_any b g h B k W hW (by have := hl.out; omega))
      have hwi := Lib.hid (fun W hW => winner_any b g h B k W hW (by have := hl.out; omega))
      rw [seats_at hm] at hst
      rw [winner_at hm] at hwi
      have hmle := hok.le m (List.mem_of_getElem? hm)
      obtain ⟨m0, m1, mw, mb⟩ := m
      simp only at hst hwi hmle
      have d5 : (m0 : Int) ≤ 64 := by omega
      have d6 : (m1 : Int) ≤ 64 := by omega
      replace hbs := Lib.hid hbs
      cases hlo : Mt.lone ⟨m0, m1, mw, mb⟩
      · rw [hlo] at hm2 hbs
        have hw0 : mw = 0 := by simpa using hm2
        have e0 : ((m0 : Int) == 0) = false := beq_eq_false_iff_ne.2 (by simp [Mt.lone] at hlo; omega)
        have e1 : ((m1 : Int) == 0) = false := beq_eq_false_iff_ne.2 (by simp [Mt.lone] at hlo; omega)
        subst hw0
        clear hm2 hlo hm
        go_wp2_with fail
        refine (hst.out _ hs.own.left).mono ?_
        rintro e w2 ⟨rfl, hs2⟩
        have sL := hs.call0 hs2
        rw [List.append_nil] at sL
        have sL := sL.alloc (.cells #[iv m0, iv m1] 32)
        obtain ⟨x0, x1⟩ := cells2 sL.own.h0
        replace hs := Lib.hid hs
        replace hs2 := Lib.hid hs2
        go_wp2_with fail
        refine (hwi.out _ sL.own.tail.left).mono ?_
        rintro e w3 ⟨rfl, rfl⟩
        go_wp2_with fail
        exact ⟨⟨k + 1, by omega, by go_num, by rw [hbs.out]; rfl, sL.tail⟩, by simp [intOf]; omega⟩
      · rw [hlo] at hm2 hbs
        have hw0 : mw = m0 + m1 ∧ B.isOut ((m0 + m1 : Nat) : Int) = false := by simpa using hm2
        obtain ⟨hw0, ho⟩ := hw0
        subst hw0
        have hlo' : m0 = 0 ∨ m1 = 0 := by simpa [Mt.lone] using hlo
        have h0' : ((m0 : Int) == 0) = true ∨ (((m0 : Int) == 0) = false ∧ ((m1 : Int) == 0) = true) := by
          simp only [beq_iff_eq, beq_eq_false_iff_ne]; omega
        have e3 : ((m0 : Int) + (m1 : Int)) = ((m0 + m1 : Nat) : Int) := by omega
        have hrp := Lib.hid (fun W hW => report15 b g h B k _ W hW hm hlo')
        have hou := Lib.hid (fun W hW => out_any b g h B ((m0 : Int) + (m1 : Int)) W hW hok.outl hok.n64)
        rw [e3, ho] at hou
        have hwi2 : Hid (∀ W, Own W (brH b g h B) → Calls Try.prog 16 #[pt b, .int .i64 k] W fun e w' => e = .returned (.int .i64 ((m0 : Int) + (m1 : Int))) ∧ W = w') := by
          rw [e3]; exact hwi.out
        rw [← e3] at hou
        clear e3
        have q0 : IntKind.i64.wrap ((m0 : Int) + (m1 : Int)) = (m0 : Int) + (m1 : Int) := IntWalk.i64_in _ (by omega)
        have q1 : (((m0 : Int) + (m1 : Int)) != ((m0 : Int) + (m1 : Int))) = false := by simp
        replace ho := Lib.hid ho
        replace hlo := Lib.hid hlo
        replace hm := Lib.hid hm
        clear hm2 hlo'
        rcases h0' with e0 | ⟨e0, e1⟩
        all_goals
          go_wp2_with fail
          refine (hst.out _ hs.own.left).mono ?_
          rintro e w2 ⟨rfl, hs2⟩
          have sL := hs.call0 hs2
          rw [List.append_nil] at sL
          have sL := sL.alloc (.cells #[iv m0, iv m1] 32)
          obtain ⟨x0, x1⟩ := cells2 sL.own.h0
          replace hs := Lib.hid hs
          replace hs2 := Lib.hid hs2
          go_wp2_with fail
          refine Step.gen sL ?_
          intro W sL
          generalize w2.heap.size = M at sL ⊢
          have sL := sL.drew
          refine wp_region_J 23 (fun w' => w'.cell? ⟨M, 0, none⟩ = some (iv m0) ∧ w'.cell? ⟨M, 1, none⟩ = some (iv m1)) (by kernel_rfl) ?_ (fun hF => ?_)
          · (try dsimp only)
            all_goals (exact cells2 sL.own.h0)
          refine wpAnyJ_take (i := 0) (oi := { dst := some 55, op := Go.Op.move (Go.Operand.tmp 3), type := 24, pos := "more.go:26", after := #[], guard := none }) (v := ?_) [2, 9, 12, 15, 23] rfl (by kernel_rfl) (by kernel_rfl) (by kernel_rfl) (by kernel_rfl) (by kernel_rfl) (fun _ _ _ h => h) (by first | exact hF | exact hF (by kernel_rfl)) (fun w hFw => ?_) (by rfl) ?_
          rotate_left
          · (try dsimp only at hFw)
            first | (go_simp; done) | (go_simp; with_reducible rfl) | (go_split_ands; go_simp; done)
          try simp only [Act.put, List.setIfInBounds_toArray, List.set_cons_zero, List.set_cons_succ]
          refine wpAnyJ_take (i := 1) (oi := { dst := some 56, op := Go.Op.move (Go.Operand.tmp 7), type := 3, pos := "more.go:26", after := #[], guard := none }) (v := ?_) [2, 9, 12, 15, 23] rfl (by kernel_rfl) (by kernel_rfl) (by kernel_rfl) (by kernel_rfl) (by kernel_rfl) (fun _ _ _ h => h) (by first | exact hF | exact hF (by kernel_rfl)) (fun w hFw => ?_) (by rfl) ?_
          rotate_left
          · (try dsimp only at hFw)
            first | (go_simp; done) | (go_simp; with_reducible rfl) | (go_split_ands; go_simp; done)
          try simp only [Act.put, List.setIfInBounds_toArray, List.set_cons_zero, List.set_cons_succ]
          refine wpAnyJ_take (i := 3) (oi := { dst := some 58, op := Go.Op.indexAddr 32 (Go.Operand.tmp 8) (Go.Operand.const (Go.Value.int Go.IntKind.i64 0)), type := 0, pos := "more.go:26", after := #[], guard := none }) (v := ?_) [4, 7, 8, 9, 12, 15, 23] rfl (by kernel_rfl) (by kernel_rfl) (by kernel_rfl) (by kernel_rfl) (by kernel_rfl) (fun _ _ _ h => h) (by first | exact hF | exact hF (by kernel_rfl)) (fun w hFw => ?_) (by rfl) ?_
          rotate_left
          · (try dsimp only at hFw)
            first | (go_simp; done) | (go_simp; with_reducible rfl) | (go_split_ands; go_simp; done)
          try simp only [Act.put, List.setIfInBounds_toArray, List.set_cons_zero, List.set_cons_succ]
          refine wpAnyJ_take (i := 4) (oi := { dst := some 59, op := Go.Op.load 3 (Go.Operand.tmp 58), type := 3, pos := "more.go:26", after := #[{ on := 3, ground := Go.Ground.data }], guard := none }) (v := ?_) [7, 8, 9, 12, 15, 23] rfl (by kernel_rfl) (by kernel_rfl) (by kernel_rfl) (by kernel_rfl) (by kernel_rfl) (fun _ _ _ h => h) (by first | exact hF | exact hF (by kernel_rfl)) (fun w hFw => ?_) (by rfl) ?_
          rotate_left
          · (try dsimp only at hFw)
            first | (go_simp; done) | (go_simp; with_reducible rfl) | (go_split_ands; go_simp; done)
          try simp only [Act.put, List.setIfInBounds_toArray, List.set_cons_zero, List.set_cons_succ]
          refine wpAnyJ_take (i := 5) (oi := { dst := some 60, op := Go.Op.indexAddr 32 (Go.Operand.tmp 8) (Go.Operand.const (Go.Value.int Go.IntKind.i64 1)), type := 0, pos := "more.go:26", after := #[], guard := none }) (v := ?_) [6, 7, 8, 9, 12, 15, 23] rfl (by kernel_rfl) (by kernel_rfl) (by kernel_rfl) (by kernel_rfl) (by kernel_rfl) (fun _ _ _ h => h) (by first | exact hF | exact hF (by kernel_rfl)) (fun w hFw => ?_) (by rfl) ?_
          rotate_left
          · (try dsimp only at hFw)
            first | (go_simp; done) | (go_simp; with_reducible rfl) | (go_split_ands; go_simp; done)
          try simp only [Act.put, List.setIfInBounds_toArray, List.set_cons_zero, List.set_cons_succ]
          refine wpAnyJ_take (i := 6) (oi := { dst := some 61, op := Go.Op.load 3 (Go.Operand.tmp 60), type := 3, pos := "more.go:26", after := #[{ on := 5, ground := Go.Ground.data }], guard := none }) (v := ?_) [7, 8, 9, 12, 15, 23] rfl (by kernel_rfl) (by kernel_rfl) (by kernel_rfl) (by kernel_rfl) (by kernel_rfl) (fun _ _ _ h => h) (by first | exact hF | exact hF (by kernel_rfl)) (fun w hFw => ?_) (by rfl) ?_
          rotate_left
          · (try dsimp only at hFw)
            first | (go_simp; done) | (go_simp; with_reducible rfl) | (go_split_ands; go_simp; done)
          try simp only [Act.put, List.setIfInBounds_toArray, List.set_cons_zero, List.set_cons_succ]
          refine wpAnyJ_take (i := 7) (oi := { dst := some 62, op := Go.Op.binOp Go.BinOp.add 3 (Go.Operand.tmp 59) (Go.Operand.tmp 61) 3, type := 3, pos := "more.go:26", after := #[{ on := 4, ground := Go.Ground.data }, { on := 6, ground := Go.Ground.data }], guard := none }) (v := ?_) [8, 9, 12, 15, 23] rfl (by kernel_rfl) (by kernel_rfl) (by kernel_rfl) (by kernel_rfl) (by kernel_rfl) (fun _ _ _ h => h) (by first | exact hF | exact hF (by kernel_rfl)) (fun w hFw => ?_) (by rfl) ?_
          rotate_left
          · (try dsimp only at hFw)
            first | (go_simp; done) | (go_simp; with_reducible rfl) | (go_split_ands; go_simp; done)
          try simp only [Act.put, List.setIfInBounds_toArray, List.set_cons_zero, List.set_cons_succ]
          refine wpAnyJ_ready (rs := [2]) (by kernel_rfl) (by simp) ?_
          refine AllJ.cons (o := { dst := some 57, op := Go.Op.call { callee := Go.Callee.value (Go.Operand.func 16), args := #[Go.Operand.tmp 55, Go.Operand.tmp 56], argTypes := #[24, 3] }, type := 3, pos := "more.go:26", after := #[{ on := 0, ground := Go.Ground.data }, { on := 1, ground := Go.Ground.data }], guard := none }) rfl (fun Kr hKr => ?_) ?_
          · go_simp; go_at_call 16; refine (hwi2.out _ sL.own.tail.left).mono ?_; rintro e w3 ⟨rfl, rfl⟩
            refine hKr.out _ _ (fun hJ => ?_) (fun hF => ?_)
            · first
              | exact absurd hJ (by decide)
              | (clear hJ; (try dsimp only); all_goals (exact cells2 sL.own.h0))
            clear hKr
            try simp only [Act.put, List.setIfInBounds_toArray, List.set_cons_zero, List.set_cons_succ]
            refine wpAnyJ_take (i := 8) (oi := { dst := some 63, op := Go.Op.binOp Go.BinOp.neq 3 (Go.Operand.tmp 57) (Go.Operand.tmp 62) 3, type := 4, pos := "more.go:26", after := #[{ on := 2, ground := Go.Ground.data }, { on := 7, ground := Go.Ground.data }], guard := none }) (v := ?_) [9, 12, 15, 23] rfl (by kernel_rfl) (by kernel_rfl) (by kernel_rfl) (by kernel_rfl) (by kernel_rfl) (fun _ _ _ h => h) (by first | exact hF | exact hF (by kernel_rfl)) (fun w hFw => ?_) (by rfl) ?_
            rotate_left
            · (try dsimp only at hFw)
              first | (go_simp; done) | (go_simp; with_reducible rfl) | (go_split_ands; go_simp; done)
            try simp only [Act.put, List.setIfInBounds_toArray, List.set_cons_zero, List.set_cons_succ]
            refine wpAnyJ_take (i := 9) (oi := { dst := some 64, op := Go.Op.move (Go.Operand.tmp 63), type := 4, pos := "more.go:26", after := #[{ on := 8, ground := Go.Ground.data }, { on := 2, ground := Go.Ground.chain }], guard := none }) (v := ?_) [12, 15, 23] rfl (by kernel_rfl) (by kernel_rfl) (by kernel_rfl) (by kernel_rfl) (by kernel_rfl) (fun _ _ _ h => h) (by first | exact hF | exact hF (by kernel_rfl)) (fun w hFw => ?_) (by rfl) ?_
            rotate_left
            · (try dsimp only at hFw)
              first | (go_simp; done) | (go_simp; with_reducible rfl) | (go_split_ands; go_simp; done)
            try simp only [Act.put, List.setIfInBounds_toArray, List.set_cons_zero, List.set_cons_succ]
            refine wpAnyJ_take (i := 10) (oi := { dst := some 65, op := Go.Op.move (Go.Operand.tmp 3), type := 24, pos := "more.go:26", after := #[{ on := 9, ground := Go.Ground.guard }], guard := some (9, false) }) (v := ?_) [12, 15, 23] rfl (by kernel_rfl) (by kernel_rfl) (by kernel_rfl) (by kernel_rfl) (by kernel_rfl) (fun _ _ _ h => h) (by first | exact hF | exact hF (by kernel_rfl)) (fun w hFw => ?_) (by rfl) ?_
            rotate_left
            · (try dsimp only at hFw)
              first | (go_simp; done) | (go_simp; with_reducible rfl) | (go_split_ands; go_simp; done)
            try simp only [Act.put, List.setIfInBounds_toArray, List.set_cons_zero, List.set_cons_succ]
            refine wpAnyJ_take (i := 11) (oi := { dst := some 66, op := Go.Op.move (Go.Operand.tmp 7), type := 3, pos := "more.go:26", after := #[{ on := 9, ground := Go.Ground.guard }], guard := some (9, false) }) (v := ?_) [12, 15, 23] rfl (by kernel_rfl) (by kernel_rfl) (by kernel_rfl) (by kernel_rfl) (by kernel_rfl) (fun _ _ _ h => h) (by first | exact hF | exact hF (by kernel_rfl)) (fun w hFw => ?_) (by rfl) ?_
            rotate_left
            · (try dsimp only at hFw)
              first | (go_simp; done) | (go_simp; with_reducible rfl) | (go_split_ands; go_simp; done)
            try simp only [Act.put, List.setIfInBounds_toArray, List.set_cons_zero, List.set_cons_succ]
            refine wpAnyJ_ready (rs := [12]) (by kernel_rfl) (by simp) ?_
            refine AllJ.cons (o := { dst := some 67, op := Go.Op.call { callee := Go.Callee.value (Go.Operand.func 13), args := #[Go.Operand.tmp 65, Go.Operand.tmp 66, Go.Operand.const (Go.Value.int Go.IntKind.i64 0)], argTypes := #[24, 3, 3] }, type := 25, pos := "more.go:26", after := #[{ on := 10, ground := Go.Ground.data }, { on := 11, ground := Go.Ground.data }, { on := 9, ground := Go.Ground.chain }, { on := 9, ground := Go.Ground.guard }], guard := some (9, false) }) rfl (fun Kr hKr => ?_) ?_
            · go_simp; go_at_call 13; refine (hrp.out _ sL.own.tail.left).mono ?_; rintro e w3 ⟨rfl, hst3⟩
              have sL := Step.mid1 sL hst3
              refine hKr.out _ _ (fun hJ => ?_) (fun hF => ?_)
              · first
                | exact absurd hJ (by decide)
                | (clear hJ; (try dsimp only); all_goals (exact cells2 sL.own.h0))
              clear hKr
              try simp only [Act.put, List.setIfInBounds_toArray, List.set_cons_zero, List.set_cons_succ]
              refine wpAnyJ_take (i := 13) (oi := { dst := some 68, op := Go.Op.binOp Go.BinOp.neq 25 (Go.Operand.tmp 67) (Go.Operand.const (Go.Value.int Go.IntKind.i64 15)) 25, type := 4, pos := "more.go:26", after := #[{ on := 12, ground := Go.Ground.data }, { on := 9, ground := Go.Ground.guard }], guard := some (9, false) }) (v := ?_) [14, 15, 23] rfl (by kernel_rfl) (by kernel_rfl) (by kernel_rfl) (by kernel_rfl) (by kernel_rfl) (fun _ _ _ h => h) (by first | exact hF | exact hF (by kernel_rfl)) (fun w hFw => ?_) (by rfl) ?_
              rotate_left
              · (try dsimp only at hFw)
                first | (go_simp; done) | (go_simp; with_reducible rfl) | (go_split_ands; go_simp; done)
              try simp only [Act.put, List.setIfInBounds_toArray, List.set_cons_zero, List.set_cons_succ]
              refine wpAnyJ_take (i := 14) (oi := { dst := some 69, op := Go.Op.pick (Go.Operand.tmp 64) (Go.Operand.const (Go.Value.bool true)) (Go.Operand.tmp 68), type := 4, pos := "more.go:26", after := #[{ on := 9, ground := Go.Ground.data }, { on := 13, ground := Go.Ground.data }], guard := none }) (v := ?_) [15, 23] rfl (by kernel_rfl) (by kernel_rfl) (by kernel_rfl) (by kernel_rfl) (by kernel_rfl) (fun _ _ _ h => h) (by first | exact hF | exact hF (by kernel_rfl)) (fun w hFw => ?_) (by rfl) ?_
              rotate_left
              · (try dsimp only at hFw)
                first | (go_simp; done) | (go_simp; with_reducible rfl) | (go_split_ands; go_simp; done)
              try simp only [Act.put, List.setIfInBounds_toArray, List.set_cons_zero, List.set_cons_succ]
              refine wpAnyJ_take (i := 15) (oi := { dst := some 70, op := Go.Op.move (Go.Operand.tmp 69), type := 4, pos := "more.go:26", after := #[{ on := 14, ground := Go.Ground.data }, { on := 12, ground := Go.Ground.chain }], guard := none }) (v := ?_) [23] rfl (by kernel_rfl) (by kernel_rfl) (by kernel_rfl) (by kernel_rfl) (by kernel_rfl) (fun _ _ _ h => h) (by first | exact hF | exact hF (by kernel_rfl)) (fun w hFw => ?_) (by rfl) ?_
              rotate_left
              · (try dsimp only at hFw)
                first | (go_simp; done) | (go_simp; with_reducible rfl) | (go_split_ands; go_simp; done)
              try simp only [Act.put, List.setIfInBounds_toArray, List.set_cons_zero, List.set_cons_succ]
              refine wpAnyJ_take (i := 16) (oi := { dst := some 71, op := Go.Op.move (Go.Operand.tmp 3), type := 24, pos := "more.go:26", after := #[{ on := 15, ground := Go.Ground.guard }], guard := some (15, false) }) (v := ?_) [22, 23] rfl (by kernel_rfl) (by kernel_rfl) (by kernel_rfl) (by kernel_rfl) (by kernel_rfl) (fun _ _ _ h => h) (by first | exact hF | exact hF (by kernel_rfl)) (fun w hFw => ?_) (by rfl) ?_
              rotate_left
              · (try dsimp only at hFw)
                first | (go_simp; done) | (go_simp; with_reducible rfl) | (go_split_ands; go_simp; done)
              try simp only [Act.put, List.setIfInBounds_toArray, List.set_cons_zero, List.set_cons_succ]
              refine wpAnyJ_take (i := 17) (oi := { dst := some 72, op := Go.Op.indexAddr 32 (Go.Operand.tmp 8) (Go.Operand.const (Go.Value.int Go.IntKind.i64 0)), type := 0, pos := "more.go:26", after := #[{ on := 15, ground := Go.Ground.guard }], guard := some (15, false) }) (v := ?_) [18, 21, 22, 23] rfl (by kernel_rfl) (by kernel_rfl) (by kernel_rfl) (by kernel_rfl) (by kernel_rfl) (fun _ _ _ h => h) (by first | exact hF | exact hF (by kernel_rfl)) (fun w hFw => ?_) (by rfl) ?_
              rotate_left
              · (try dsimp only at hFw)
                first | (go_simp; done) | (go_simp; with_reducible rfl) | (go_split_ands; go_simp; done)
              try simp only [Act.put, List.setIfInBounds_toArray, List.set_cons_zero, List.set_cons_succ]
              refine wpAnyJ_take (i := 18) (oi := { dst := some 73, op := Go.Op.load 3 (Go.Operand.tmp 72), type := 3, pos := "more.go:26", after := #[{ on := 17, ground := Go.Ground.data }, { on := 15, ground := Go.Ground.guard }], guard := some (15, false) }) (v := ?_) [21, 22, 23] rfl (by kernel_rfl) (by kernel_rfl) (by kernel_rfl) (by kernel_rfl) (by kernel_rfl) (fun _ _ _ h => h) (by first | exact hF | exact hF (by kernel_rfl)) (fun w hFw => ?_) (by rfl) ?_
              rotate_left
              · (try dsimp only at hFw)
                first | (go_simp; done) | (go_simp; with_reducible rfl) | (go_split_ands; go_simp; done)
              try simp only [Act.put, List.setIfInBounds_toArray, List.set_cons_zero, List.set_cons_succ]
              refine wpAnyJ_take (i := 19) (oi := { dst := some 74, op := Go.Op.indexAddr 32 (Go.Operand.tmp 8) (Go.Operand.const (Go.Value.int Go.IntKind.i64 1)), type := 0, pos := "more.go:26", after := #[{ on := 15, ground := Go.Ground.guard }], guard := some (15, false) }) (v := ?_) [20, 21, 22, 23] rfl (by kernel_rfl) (by kernel_rfl) (by kernel_rfl) (by kernel_rfl) (by kernel_rfl) (fun _ _ _ h => h) (by first | exact hF | exact hF (by kernel_rfl)) (fun w hFw => ?_) (by rfl) ?_
              rotate_left
              · (try dsimp only at hFw)
                first | (go_simp; done) | (go_simp; with_reducible rfl) | (go_split_ands; go_simp; done)
              try simp only [Act.put, List.setIfInBounds_toArray, List.set_cons_zero, List.set_cons_succ]
              refine wpAnyJ_take (i := 20) (oi := { dst := some 75, op := Go.Op.load 3 (Go.Operand.tmp 74), type := 3, pos := "more.go:26", after := #[{ on := 19, ground := Go.Ground.data }, { on := 15, ground := Go.Ground.guard }], guard := some (15, false) }) (v := ?_) [21, 22, 23] rfl (by kernel_rfl) (by kernel_rfl) (by kernel_rfl) (by kernel_rfl) (by kernel_rfl) (fun _ _ _ h => h) (by first | exact hF | exact hF (by kernel_rfl)) (fun w hFw => ?_) (by rfl) ?_
              rotate_left
              · (try dsimp only at hFw)
                first | (go_simp; done) | (go_simp; with_reducible rfl) | (go_split_ands; go_simp; done)
              try simp only [Act.put, List.setIfInBounds_toArray, List.set_cons_zero, List.set_cons_succ]
              refine wpAnyJ_take (i := 21) (oi := { dst := some 76, op := Go.Op.binOp Go.BinOp.add 3 (Go.Operand.tmp 73) (Go.Operand.tmp 75) 3, type := 3, pos := "more.go:26", after := #[{ on := 18, ground := Go.Ground.data }, { on := 20, ground := Go.Ground.data }, { on := 15, ground := Go.Ground.guard }], guard := some (15, false) }) (v := ?_) [22, 23] rfl (by kernel_rfl) (by kernel_rfl) (by kernel_rfl) (by kernel_rfl) (by kernel_rfl) (fun _ _ _ h => h) (by first | exact hF | exact hF (by kernel_rfl)) (fun w hFw => ?_) (by rfl) ?_
              rotate_left
              · (try dsimp only at hFw)
                first | (go_simp; done) | (go_simp; with_reducible rfl) | (go_split_ands; go_simp; done)
              try simp only [Act.put, List.setIfInBounds_toArray, List.set_cons_zero, List.set_cons_succ]
              refine wpAnyJ_ready (rs := [22]) (by kernel_rfl) (by simp) ?_
              refine AllJ.cons (o := { dst := some 77, op := Go.Op.call { callee := Go.Callee.value (Go.Operand.func 18), args := #[Go.Operand.tmp 71, Go.Operand.tmp 76], argTypes := #[24, 3] }, type := 4, pos := "more.go:26", after := #[{ on := 16, ground := Go.Ground.data }, { on := 21, ground := Go.Ground.data }, { on := 15, ground := Go.Ground.chain }, { on := 15, ground := Go.Ground.guard }], guard := some (15, false) }) rfl (fun Kr hKr => ?_) ?_
              · go_simp; go_at_call 18; refine (hou.out _ sL.own.tail.left).mono ?_; rintro e w3 ⟨rfl, rfl⟩
                refine hKr.out _ _ (fun hJ => ?_) (fun hF => ?_)
                · first
                  | exact absurd hJ (by decide)
                  | (clear hJ; (try dsimp only); all_goals (exact cells2 sL.own.h0))
                clear hKr
                try simp only [Act.put, List.setIfInBounds_toArray, List.set_cons_zero, List.set_cons_succ]
                refine wpAnyJ_ready (rs := [23]) (by kernel_rfl) (by simp) ?_
                refine AllJ.cons (o := { dst := some 78, op := Go.Op.pick (Go.Operand.tmp 70) (Go.Operand.const (Go.Value.bool true)) (Go.Operand.tmp 77), type := 4, pos := "more.go:26", after := #[{ on := 15, ground := Go.Ground.data }, { on := 22, ground := Go.Ground.data }], guard := none }) rfl (fun Kr hKr => ?_) ?_
                · go_simp
                  refine hKr.out _ _ (fun hJ => ?_) (fun hF => ?_)
                  · first
                    | exact absurd hJ (by decide)
                    | (clear hJ; (try dsimp only); all_goals (exact cells2 sL.own.h0))
                  clear hKr
                  try simp only [Act.put, List.setIfInBounds_toArray, List.set_cons_zero, List.set_cons_succ]
                  refine wpAnyJ_done (by kernel_rfl) ?_ _
                  go_wp2_with fail
                  exact ⟨⟨k + 1, by omega, by go_num, by have hq := hbs.out; simp only [if_true] at hq; rw [hq]; go_num, sL.tail⟩, by simp [intOf]; omega⟩
                exact AllJ.nil
              exact AllJ.nil
            exact AllJ.nil
          exact AllJ.nil
    · have hkz : k = Z := by omega
      have hfin : ((byesTo B k : Nat) : Int) = 2 * (Z : Int) - (n : Int) := by have := hb1.out; have := hn.out; have := hzh.out; rw [hkz]; omega
      have q2 : (((byesTo B k : Nat) : Int) == 2 * (Z : Int) - (n : Int)) = true := by rw [hfin]; simp
      replace hfin := Lib.hid hfin
      replace hkz := Lib.hid hkz
      go_wp2_with fail
      refine (known_any _).mono ?_
      rintro e w3 ⟨rfl, hs3⟩
      have hs4 := hs.call0 hs3
      go_wp2
      go_ret
      exact ⟨rfl, hs4.forget (A := [])⟩
end Go.Proofs.Ytdkjgkbddehaiaa
