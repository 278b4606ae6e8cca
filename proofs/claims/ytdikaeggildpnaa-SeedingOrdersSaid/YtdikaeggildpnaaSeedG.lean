import Derived.Test.YtdikaeggildpnaaSeedF
namespace Go.Proofs.Ytdikaeggildpnaa
open Go.RowKit
attribute [local go_sem ↓] Go.wp_at_zero Go.wp_at_succ

/-- The last place below k where v stands (0: none). -/
def lastI (l : List Nat) (v : Nat) : Nat → Nat
  | 0 => 0
  | k + 1 => if l[k]? = some v then k else lastI l v k
theorem lastI_pos : ((List.range 65).all fun n => (List.range 65).all fun a => !(decide (2 ≤ n)) || !(decide (1 ≤ a)) || !(decide (a ≤ n)) || (lastI (ordL n) a (ordL n).length == posN (lg n) a)) = true := by decide +kernel
theorem lastI_ok {n a : Nat} (h1 : 2 ≤ n) (h2 : n ≤ 64) (a1 : 1 ≤ a) (a2 : a ≤ n) : lastI (ordL n) a (ordL n).length = posN (lg n) a := by
  have h := List.all_eq_true.1 (List.all_eq_true.1 lastI_pos n (List.mem_range.2 (by omega))) a (List.mem_range.2 (by omega))
  simpa [h1, a1, a2] using h
theorem halves : ((List.range 64).all fun p => (List.range 64).all fun q => p == q || (let L := Lib.bitLen (p ^^^ q) - 1; (List.range (L + 1)).all fun r => (p / 2 ^ r / 2 != q / 2 ^ r / 2) == decide (r < L))) = true := by decide +kernel
theorem halves_ok {p q r : Nat} (hp : p < 64) (hq : q < 64) (hpq : p ≠ q) (hr : r ≤ Lib.bitLen (p ^^^ q) - 1) : (p / 2 ^ r / 2 != q / 2 ^ r / 2) = decide (r < Lib.bitLen (p ^^^ q) - 1) := by
  have h := List.all_eq_true.1 (List.all_eq_true.1 halves p (List.mem_range.2 hp)) q (List.mem_range.2 hq)
  simp only [Bool.or_eq_true, beq_iff_eq, hpq, false_or, List.all_eq_true] at h
  exact h r (List.mem_range.2 (by omega))
def RM1 (l : List Nat) (a b m : Nat) (v10 v11 v12 : Value) : Prop :=
  ∃ k x y : Nat, k ≤ m ∧ x = lastI l a k ∧ y = lastI l b k ∧ v10 = .int .i64 x ∧ v11 = .int .i64 y ∧ v12 = .int .i64 k
def RM2 (p q L : Nat) (v10 v11 v13 : Value) : Prop :=
  ∃ r x y : Nat, r ≤ L ∧ x = p / 2 ^ r ∧ y = q / 2 ^ r ∧ v10 = .int .i64 x ∧ v11 = .int .i64 y ∧ v13 = .int .i64 r
theorem rmeet_no (n a b : Int) (w : World) (h : many n = false ∨ a < 1 ∨ n < a ∨ b < 1 ∨ n < b ∨ a = b) :
    Calls Try.prog 13 #[.int .i64 n, .int .i64 a, .int .i64 b] w (MeetPost 0 1 w) := by
  cases hm : many n
  · replace hm := Lib.hid hm
    clear h
    go_enter Try.func13, Try.ntmps13
    go_wp2_with (go_at_call 10; refine (rorder_no n _ hm.out).mono ?_; rintro e w' ⟨rfl, rfl⟩)
    go_ret2
    exact ⟨rfl, Step.refl (Own.nil _)⟩
  · obtain ⟨k, rfl⟩ := Int.eq_ofNat_of_zero_le (show 0 ≤ n by simp [many] at hm; omega)
    have hk : 2 ≤ k ∧ k ≤ 64 := by simp [many] at hm; omega
    obtain ⟨hk1, hk2⟩ := hk
    have ho := Lib.hid (rorder_yes k w hk1 hk2)
    rw [hm] at h
    clear hm
    have b1 : (k : Int) ≤ 64 := by omega
    by_cases c1 : a < 1
    · clear h
      go_enter Try.func13, Try.ntmps13
      go_wp2_with (go_at_call 10; refine ho.out.mono ?_; rintro e w' ⟨ao, co, Ho, rfl, hr, hs⟩)
      go_ret2
      exact ⟨rfl, hs.forget (A := [])⟩
    by_cases c2 : (k : Int) < a
    · clear h
      go_enter Try.func13, Try.ntmps13
      go_wp2_with (go_at_call 10; refine ho.out.mono ?_; rintro e w' ⟨ao, co, Ho, rfl, hr, hs⟩)
      go_ret2
      exact ⟨rfl, hs.forget (A := [])⟩
    by_cases c3 : b < 1
    · clear h
      go_enter Try.func13, Try.ntmps13
      go_wp2_with (go_at_call 10; refine ho.out.mono ?_; rintro e w' ⟨ao, co, Ho, rfl, hr, hs⟩)
      go_ret2
      exact ⟨rfl, hs.forget (A := [])⟩
    by_cases c4 : (k : Int) < b
    · clear h
      go_enter Try.func13, Try.ntmps13
      go_wp2_with (go_at_call 10; refine ho.out.mono ?_; rintro e w' ⟨ao, co, Ho, rfl, hr, hs⟩)
      go_ret2
      exact ⟨rfl, hs.forget (A := [])⟩
    · obtain rfl : a = b := by rcases h with h | h | h | h | h | h <;> first | omega | simp at h
      clear h
      have e1 : (a == a) = true := by simp
      go_enter Try.func13, Try.ntmps13
      go_wp2_with (go_at_call 10; refine ho.out.mono ?_; rintro e w' ⟨ao, co, Ho, rfl, hr, hs⟩)
      go_ret2
      exact ⟨rfl, hs.forget (A := [])⟩
set_option maxHeartbeats 2000000 in
set_option maxRecDepth 100000 in
theorem rmeet_yes (n a b : Nat) (w : World) (h1 : 2 ≤ n) (h2 : n ≤ 64) (a1 : 1 ≤ a) (a2 : a ≤ n) (b1 : 1 ≤ b) (b2 : b ≤ n) (hab : a ≠ b) :
    Calls Try.prog 13 #[.int .i64 n, .int .i64 a, .int .i64 b] w (MeetPost (meetN n a b) 0 w) := by
  have ho := Lib.hid (rorder_yes n w h1 h2)
  have hpa := Lib.hid (lastI_ok h1 h2 a1 a2)
  have hpb := Lib.hid (lastI_ok h1 h2 b1 b2)
  have hp64 := (pos_ok n h2 a a2 h1 a1).2
  have hq64 := (pos_ok n h2 b b2 h1 b1).2
  have hmp := meet_pos (lg n) (lg_le n h2) a (Nat.le_trans a2 (lg_pow n h2)) b (Nat.le_trans b2 (lg_pow n h2)) a1 b1 hab
  have hpq : posN (lg n) a ≠ posN (lg n) b := by
    intro e
    rw [e, Nat.xor_self] at hmp
    have := hmp.1
    rw [show Lib.bitLen 0 = 0 from by decide +kernel] at this
    omega
  have hme : meetN n a b = Lib.bitLen (posN (lg n) a ^^^ posN (lg n) b) - 1 := rfl
  have hL6 : meetN n a b ≤ 64 := by rw [hme]; have := lg_le n h2; omega
  clear hmp
  have hha := Lib.hid (fun r => halves_ok (r := r) hp64 hq64 hpq)
  rw [← hme] at hha
  clear hme
  generalize meetN n a b = L at *
  generalize posN (lg n) a = p at *
  generalize posN (lg n) b = q at *
  have c1 : (n : Int) ≤ 64 := by omega
  have c2 : (1 : Int) ≤ (a : Int) := by omega
  have c3 : (a : Int) ≤ (n : Int) := by omega
  have c4 : (1 : Int) ≤ (b : Int) := by omega
  have c5 : (b : Int) ≤ (n : Int) := by omega
  have c6 : ((a : Int) == (b : Int)) = false := beq_eq_false_iff_ne.2 (by omega)
  have hl6 : (ordL n).length ≤ 64 := by rw [ordL_len]; exact Nat.pow_le_pow_right (by omega) (lg_le n h2)
  obtain ⟨m, hm⟩ : ∃ m, m = (ordL n).length := ⟨_, rfl⟩
  replace ho : Hid (Calls Try.prog 10 #[.int .i64 n] w fun e w' => ∃ a c H, e = .returned (.tuple #[.slice a m c, .int .i64 0]) ∧ SlRep 3 1 a m c ((ordL n).map iv) H ∧ Step w [] w' H) := by
    rw [hm]; exact ho
  rw [← hm] at hpa hpb hl6
  replace hm := Lib.hid hm
  have c7 : (m : Int) ≤ 64 := by omega
  go_enter Try.func13, Try.ntmps13
  go_wp2_with (go_at_call 10; refine ho.out.mono ?_; rintro e w' ⟨ao, co, Ho, rfl, hr, hs⟩)
  go_loop [10, 11, 12] (fun v10 v11 v12 => RM1 (ordL n) a b m v10 v11 v12) (fun _ _ v => m - (intOf v).toNat)
  case atStart => exact ⟨0, 0, 0, Nat.zero_le _, rfl, rfl, rfl, rfl, rfl⟩
  case round =>
    obtain ⟨k, x, y, hk, hx, hy, rfl, rfl, rfl⟩ := hrel
    have d1 : (0 : Int) ≤ (k : Int) := by omega
    by_cases hlt : k < m
    · have d2 : (k : Int) < (m : Int) := by omega
      have hkl : k < (ordL n).length := by have := hm.out; omega
      obtain ⟨z, hz⟩ : ∃ z, (ordL n)[k]? = some z := ⟨_, List.getElem?_eq_getElem hkl⟩
      obtain ⟨g, rfl, hc, -⟩ := slRep_at hr hs.own (i := k) (v := iv z) (by rw [List.getElem?_map, hz]; rfl)
      simp only [Nat.zero_add] at hc
      have hxa : Hid (lastI (ordL n) a (k + 1) = if z = a then k else x) := by show _ = _; simp only [lastI, hz, hx, Option.some.injEq]
      have hyb : Hid (lastI (ordL n) b (k + 1) = if z = b then k else y) := by show _ = _; simp only [lastI, hz, hy, Option.some.injEq]
      replace hz := Lib.hid hz
      replace hx := Lib.hid hx
      replace hy := Lib.hid hy
      by_cases e1 : z = a
      · have q1 : ((z : Int) == (a : Int)) = true := by rw [e1]; simp
        have q2 : ((z : Int) == (b : Int)) = false := beq_eq_false_iff_ne.2 (by omega)
        rw [if_pos e1] at hxa
        rw [if_neg (by omega)] at hyb
        clear e1
        go_wp2_with fail
        exact ⟨⟨k + 1, k, y, by omega, hxa.out.symm, hyb.out.symm, rfl, rfl, by go_num⟩, by simp [intOf]; omega⟩
      · have q1 : ((z : Int) == (a : Int)) = false := beq_eq_false_iff_ne.2 (by omega)
        rw [if_neg e1] at hxa
        by_cases e2 : z = b
        · have q2 : ((z : Int) == (b : Int)) = true := by rw [e2]; simp
          rw [if_pos e2] at hyb
          clear e1 e2
          go_wp2_with fail
          exact ⟨⟨k + 1, x, k, by omega, hxa.out.symm, hyb.out.symm, rfl, rfl, by go_num⟩, by simp [intOf]; omega⟩
        · have q2 : ((z : Int) == (b : Int)) = false := beq_eq_false_iff_ne.2 (by omega)
          rw [if_neg e2] at hyb
          clear e1 e2
          go_wp2_with fail
          exact ⟨⟨k + 1, x, y, by omega, hxa.out.symm, hyb.out.symm, rfl, rfl, by go_num⟩, by simp [intOf]; omega⟩
    · obtain rfl : k = m := by omega
      rw [hpa.out] at hx
      rw [hpb.out] at hy
      subst hx hy
      clear hpa hpb hr
      go_wp2_with fail
      go_loop [10, 11, 13] (fun v10 v11 v13 => RM2 x y L v10 v11 v13) (fun _ _ v => L - (intOf v).toNat)
      case atStart => exact ⟨0, x, y, Nat.zero_le _, by simp, by simp, rfl, rfl, rfl⟩
      case round =>
        obtain ⟨r, X, Y, hr, hX, hY, rfl, rfl, rfl⟩ := hrel
        have hh := hha.out r hr
        rw [← hX, ← hY] at hh
        have hX6 : X ≤ 64 := by rw [hX]; exact Nat.le_trans (Nat.div_le_self _ _) (by omega)
        have hY6 : Y ≤ 64 := by rw [hY]; exact Nat.le_trans (Nat.div_le_self _ _) (by omega)
        have k1 : (X : Int) ≤ 64 := by omega
        have k2 : (Y : Int) ≤ 64 := by omega
        have hXs : Hid (X / 2 = x / 2 ^ (r + 1)) := by show _ = _; rw [hX, Nat.div_div_eq_div_mul, Nat.pow_succ]
        have hYs : Hid (Y / 2 = y / 2 ^ (r + 1)) := by show _ = _; rw [hY, Nat.div_div_eq_div_mul, Nat.pow_succ]
        replace hX := Lib.hid hX
        replace hY := Lib.hid hY
        obtain ⟨U, hU⟩ : ∃ U, U = X / 2 := ⟨_, rfl⟩
        obtain ⟨V, hV⟩ : ∃ V, V = Y / 2 := ⟨_, rfl⟩
        rw [← hU, ← hV] at hh
        rw [← hU] at hXs
        rw [← hV] at hYs
        have k3 : (X : Int) / 2 = (U : Int) := by omega
        have k4 : (Y : Int) / 2 = (V : Int) := by omega
        clear hU hV
        by_cases hlt : r < L
        · have q1 : ((U : Int) != (V : Int)) = true := by
            rw [bne_iff_ne]; rw [decide_eq_true hlt, bne_iff_ne] at hh; omega
          clear hh
          go_wp2_with fail
          exact ⟨⟨r + 1, U, V, by omega, hXs.out, hYs.out, rfl, rfl, by go_num⟩, by simp [intOf]; omega⟩
        · obtain rfl : r = L := by omega
          have q1 : ((U : Int) != (V : Int)) = false := by
            rw [decide_eq_false hlt, bne_eq_false_iff_eq] at hh; rw [hh]; simp
          clear hh
          go_wp2_with fail
          go_ret2
          exact ⟨rfl, hs.forget (A := [])⟩
end Go.Proofs.Ytdikaeggildpnaa
