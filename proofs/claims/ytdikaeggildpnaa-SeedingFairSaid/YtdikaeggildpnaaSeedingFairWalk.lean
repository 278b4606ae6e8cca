import Derived.Test.YtdikaeggildpnaaSeedE
import Derived.Test.YtdikaeggildpnaaMk
import Derived.Deep.CutBlock
namespace Go.Proofs.Ytdikaeggildpnaa
open Go.RowKit
attribute [local go_sem ↓] Go.wp_at_zero Go.wp_at_succ

theorem slRep_cell {E : Nat} {g n c : Nat} {xs : List Value} {H : Heaplet} (h : SlRep E 1 (some ⟨g, 0, none⟩) n c xs H) {w : World} (hw : Own w H) {i : Nat} {v : Value} (hv : xs[i]? = some v) : w.cell? ⟨g, i, none⟩ = some v := by
  obtain ⟨g', e, hc, _⟩ := slRep_at h hw hv
  cases e
  simpa using hc
theorem ord_n : ∀ n, n ≤ 64 → ∀ x ∈ ordL n, x ≤ n := by
  intro n hn x hx
  unfold ordL at hx
  obtain ⟨s, _, rfl⟩ := List.mem_map.1 hx
  split <;> omega
theorem ord_gap0 : ((List.range 65).all fun n => (List.range (ordL n).length).all fun i => !(i % 2 == 1) || n < 2 || !((ordL n)[i]? == some 0 && (ordL n)[i - 1]? == some 0)) = true := by decide +kernel
theorem ord_gap {n i : Nat} (h1 : 2 ≤ n) (h2 : n ≤ 64) (hi : i < (ordL n).length) (ho : i % 2 = 1) (hx : (ordL n)[i]? = some 0) (hy : (ordL n)[i - 1]? = some 0) : False := by
  have h := List.all_eq_true.1 (List.all_eq_true.1 ord_gap0 n (List.mem_range.2 (by omega))) i (List.mem_range.2 hi)
  have h3 : ¬ n < 2 := by omega
  simp [ho, hx, hy, h3] at h
theorem ord_count0 : ((List.range 65).all fun n => n < 2 || (List.range n).all fun s => (ordL n).count (s + 1) == 1) = true := by decide +kernel
theorem ord_count {n s : Nat} (h1 : 2 ≤ n) (h2 : n ≤ 64) (hs1 : 1 ≤ s) (hs2 : s ≤ n) : (ordL n).count s = 1 := by
  have h := List.all_eq_true.1 ord_count0 n (List.mem_range.2 (by omega))
  have h3 : ¬ n < 2 := by omega
  simp only [h3, decide_false, Bool.false_or] at h
  have := List.all_eq_true.1 h (s - 1) (List.mem_range.2 (by omega))
  rw [show s - 1 + 1 = s by omega] at this
  simpa using this
def posL (q : Nat) : List Nat := (List.range (2 ^ q + 1)).map (posN q)
theorem late0 : ((List.range 7).all fun q => let p := posL q; (List.range 33).all fun b => b == 0 || decide (2 ^ q < b) || (List.range b).all fun a => a == 0 || (let m := Lib.bitLen (p.getD a 0 ^^^ p.getD b 0) - 1; decide (q ≤ m + Lib.bitLen (b - 1)) && decide (m < q))) = true := by decide +kernel
theorem lg_k : ∀ b, b ≤ 32 → ∀ k, k ≤ 5 → b ≤ 2 ^ k → Lib.bitLen (b - 1) ≤ k := by decide +kernel
theorem late {n a b k : Nat} (h2 : n ≤ 64) (hk : k ≤ 5) (ha : 1 ≤ a) (hab : a < b) (hbk : b ≤ 2 ^ k) (hb : b ≤ n) : lg n ≤ meetN n a b + k ∧ meetN n a b < lg n := by
  have hb32 : b ≤ 32 := Nat.le_trans hbk (Nat.pow_le_pow_right (n := 2) (j := 5) (by omega) hk)
  have l2 := lg_pow n h2
  have h := List.all_eq_true.1 (List.all_eq_true.1 late0 (lg n) (List.mem_range.2 (by have := lg_le n h2; omega))) b (List.mem_range.2 (by omega))
  simp only [Bool.or_eq_true, beq_iff_eq, decide_eq_true_eq] at h
  rcases h with (h | h) | h
  · omega
  · omega
  · have h := List.all_eq_true.1 h a (List.mem_range.2 hab)
    simp only [Bool.or_eq_true, beq_iff_eq, decide_eq_true_eq, Bool.and_eq_true] at h
    rcases h with h | ⟨h3, h4⟩
    · omega
    · have pa : (posL (lg n)).getD a 0 = posN (lg n) a := by
        simp [posL, List.getD_eq_getElem?_getD, List.getElem?_map, List.getElem?_range (show a < 2 ^ lg n + 1 by omega)]
      have pb : (posL (lg n)).getD b 0 = posN (lg n) b := by
        simp [posL, List.getD_eq_getElem?_getD, List.getElem?_map, List.getElem?_range (show b < 2 ^ lg n + 1 by omega)]
      rw [pa, pb] at h3 h4
      have hlk := lg_k b hb32 k hk hbk
      unfold meetN
      omega
/-- How often each of 0 .. n stands in the first i. -/
def cnt (n : Nat) (l : List Nat) (i : Nat) : List Nat := (List.range (n + 1)).map fun s => (l.take i).count s
theorem cnt_len (n : Nat) (l : List Nat) (i : Nat) : (cnt n l i).length = n + 1 := by simp [cnt]
theorem cnt_get {n x : Nat} {l : List Nat} {i : Nat} (h : x ≤ n) : (cnt n l i)[x]? = some ((l.take i).count x) := by
  simp [cnt, List.getElem?_map, List.getElem?_range (show x < n + 1 by omega)]
theorem cnt_succ {n x : Nat} {l : List Nat} {i : Nat} (hx : l[i]? = some x) : cnt n l (i + 1) = (cnt n l i).set x ((l.take i).count x + 1) := by
  apply List.ext_getElem?
  intro j
  rw [List.getElem?_set]
  obtain ⟨hi, hx'⟩ := List.getElem?_eq_some_iff.1 hx
  have ht : l.take (i + 1) = l.take i ++ [x] := by rw [List.take_succ_eq_append_getElem hi, hx']
  by_cases hj : j < n + 1
  · split
    · rename_i e; subst e
      rw [if_pos (by rw [cnt_len]; exact hj), cnt_get (by omega), ht, List.count_append]; simp
    · rename_i e
      rw [cnt_get (by omega), cnt_get (by omega), ht, List.count_append, List.count_singleton, if_neg (by simpa using e)]; rfl
  · have h1 : (cnt n l (i + 1))[j]? = none := List.getElem?_eq_none (by rw [cnt_len]; omega)
    have h2 : (cnt n l i)[j]? = none := List.getElem?_eq_none (by rw [cnt_len]; omega)
    rw [h1, h2]
    split
    · rw [if_neg (by rw [cnt_len]; omega)]
    · rfl
theorem cnt_zero (n : Nat) (l : List Nat) : (cnt n l 0).map iv = List.replicate (n + 1) (iv 0) := by
  simp [cnt, List.map_const']
def FR1 (n m : Nat) (l : List Nat) (S : Nat) (H1 : Heaplet) (w : World) (v : Value) (wr : World) : Prop :=
  ∃ (i : Nat) (Hs : Heaplet), i ≤ m ∧ v = .int .i64 i ∧ SlRep 3 1 (some ⟨S, 0, none⟩) (n + 1) (n + 1) ((cnt n l i).map iv) Hs ∧ Step w [] wr (Hs ++ H1)
def FR2 (n : Nat) (H : Heaplet) (w : World) (v : Value) (wr : World) : Prop := ∃ s : Nat, 1 ≤ s ∧ s ≤ n + 1 ∧ v = .int .i64 s ∧ Step w [] wr H
def FR3 (n P : Nat) (H : Heaplet) (w : World) (v : Value) (wr : World) : Prop := ∃ a : Nat, 1 ≤ a ∧ a ≤ n + 1 ∧ a ≤ P + 1 ∧ v = .int .i64 a ∧ Step w [] wr H
def FR4 (n P a : Nat) (H : Heaplet) (w : World) (v : Value) (wr : World) : Prop := ∃ b : Nat, a < b ∧ b ≤ n + 1 ∧ b ≤ P + 1 ∧ v = .int .i64 b ∧ Step w [] wr H
def FC1 (n B : Nat) (w : World) (v : Value) (wc : World) : Prop := ∃ HH, Hid (∀ s : Nat, 1 ≤ s → s ≤ n → ∀ W, Own W HH → W.cell? ⟨B, s, none⟩ = some (.int .i64 (1 : Nat))) ∧ Step w [] wc HH
def FC2 (w : World) (v : Value) (wc : World) : Prop := ∃ HH, Step w [] wc HH
set_option maxHeartbeats 8000000 in
set_option maxRecDepth 1000000 in
theorem seedingFair_walk (n k : Int) (w : World) (_ : (Lit.int .i64 n).wf = true) (_ : (Lit.int .i64 k).wf = true) :
    Calls Try.prog 6 #[.int .i64 n, .int .i64 k] w fun e w' => e = .returned (.bool true) ∧ Below w.heap.size w w' := by
  suffices hs : Calls Try.prog 6 #[.int .i64 n, .int .i64 k] w (LawPost w) from hs.mono fun e w' hp => ⟨hp.1, hp.2.nil_below⟩
  by_cases h1 : n < 2
  · as_aux_lemma =>
    go_enter Try.func6, Try.ntmps6
    go_wp2_with (go_at_call 7; refine (known_any _).mono ?_; rintro e w3 ⟨rfl, hs3⟩)
    go_ret
    exact ⟨rfl, hs3⟩
  by_cases h2 : 64 < n
  · as_aux_lemma =>
    go_enter Try.func6, Try.ntmps6
    go_wp2_with (go_at_call 7; refine (known_any _).mono ?_; rintro e w3 ⟨rfl, hs3⟩)
    go_ret
    exact ⟨rfl, hs3⟩
  by_cases h3 : k < 0
  · as_aux_lemma =>
    go_enter Try.func6, Try.ntmps6
    go_wp2_with (go_at_call 7; refine (known_any _).mono ?_; rintro e w3 ⟨rfl, hs3⟩)
    go_ret
    exact ⟨rfl, hs3⟩
  by_cases h4 : 5 < k
  · as_aux_lemma =>
    go_enter Try.func6, Try.ntmps6
    go_wp2_with (go_at_call 7; refine (known_any _).mono ?_; rintro e w3 ⟨rfl, hs3⟩)
    go_ret
    exact ⟨rfl, hs3⟩
  obtain ⟨n, rfl⟩ := Int.eq_ofNat_of_zero_le (show 0 ≤ n by omega)
  have n1 : 2 ≤ n := by omega
  have n2 : n ≤ 64 := by omega
  have hl6 := lg_le n n2
  obtain ⟨S, hS⟩ : ∃ S, S + 1 = 2 ^ lg n := ⟨2 ^ lg n - 1, by have := Nat.one_le_two_pow (n := lg n); omega⟩
  obtain ⟨m, hm⟩ : ∃ m, m = (ordL n).length := ⟨_, rfl⟩
  have hmS : m = S + 1 := by rw [hm, ordL_len, hS]
  have hm6 : m ≤ 64 := by rw [hm, ordL_len]; exact Nat.pow_le_pow_right (by omega) hl6
  obtain ⟨q, hq⟩ : ∃ q, lg n = q := ⟨_, rfl⟩
  have hro := Lib.hid (fun W => rounds_yes n S q W n1 n2 hq hS)
  have hor : Hid (Calls Try.prog 8 #[.int .i64 n] w fun e w' => ∃ a c H, e = .returned (.tuple #[.slice a m c, .int .i64 0]) ∧ SlRep 3 1 a m c ((ordL n).map iv) H ∧ Step w [] w' H) := by
    rw [hm]; exact order_yes n w n1 n2
  have hmt := Lib.hid (fun (a b : Nat) W (a1 : 1 ≤ a) (ab : a < b) (bn : b ≤ n) => meet_yes n a b W n1 n2 a1 (by omega) (by omega) bn (by omega))
  have hlt' := Lib.hid (fun (a b K : Nat) (hk : K ≤ 5) (a1 : 1 ≤ a) (ab : a < b) (hbk : b ≤ 2 ^ K) (bn : b ≤ n) => hq ▸ late n2 hk a1 ab hbk bn)
  have hcn := Lib.hid (fun (s : Nat) (s1 : 1 ≤ s) (s2 : s ≤ n) => ord_count n1 n2 s1 s2)
  have hgp := Lib.hid (fun (i : Nat) (hi : i < m) (ho : i % 2 = 1) hx hy => ord_gap (i := i) n1 n2 (by omega) ho hx hy)
  have hxn := Lib.hid (ord_n n n2)
  have b1 : (n : Int) ≤ 64 := by omega
  have b2 : (2 : Int) ≤ (n : Int) := by omega
  have b3 : (m : Int) = (S : Int) + 1 := by omega
  have b4 : (m : Int) ≤ 64 := by omega
  have b5 : (q : Int) ≤ 6 := by omega
  have q1 : ((m : Int) != (S : Int) + 1) = false := by rw [b3]; simp
  clear b3
  have b6 : (S : Int) ≤ 64 := by omega
  replace hm := Lib.hid hm
  replace hS := Lib.hid hS
  replace hq := Lib.hid hq
  clear hmS
  go_enter Try.func6, Try.ntmps6
  go_wp2_with fail
  refine hor.out.mono ?_
  rintro e w1 ⟨a1, c1, H1, rfl, hr, hs⟩
  go_wp2_with fail
  refine (hro.out _).mono ?_
  rintro e w2 ⟨rfl, rfl⟩
  go_upto_block 0 with (at_make; refine wpList_mk rfl st_int _ _ rfl (n + 1) (n + 1) rfl rfl (by go_num) (by go_num) (Nat.le_refl _) (by omega) (by unfold maxLen; omega) ?_)
  have hs0 := Lib.hid (hs.alloc (.cells (madeCells #[Value.int .i64 0] (n + 1)) 3))
  obtain ⟨B, hB⟩ : ∃ B, B = w1.heap.size := ⟨_, rfl⟩
  rw [← hB] at hs0 ⊢
  clear hs hB
  go_cut [11] (fun v wc => FC1 n B w v wc)
  case first => as_aux_lemma =>
    go_wp2_with fail
    go_loopw [11] (fun v wr => FR1 n m (ordL n) B H1 w v wr) (fun v _ => m - (intOf v).toNat)
    case atStart =>
      refine ⟨0, _, Nat.zero_le _, rfl, ⟨by rw [List.length_map, cnt_len, Nat.mul_one], .inr ⟨B, _, rfl, rfl, Nat.le_refl _, by unfold maxLen; omega, ?_, ?_⟩⟩, hs0.out⟩
      · rw [size_madeCells, Nat.mul_one]
      · rw [madeCells_one, cnt_zero]; simp
    case round =>
      clear hs0
      obtain ⟨i, Hs, hi, rfl, hsr, hs⟩ := hrel
      have d1 : (0 : Int) ≤ (i : Int) := by omega
      by_cases hlt : i < m
      · have d2 : (i : Int) < (m : Int) := by omega
        have hil : i < (ordL n).length := by rw [← hm.out]; exact hlt
        obtain ⟨x, hx⟩ : ∃ x, (ordL n)[i]? = some x := ⟨_, List.getElem?_eq_getElem hil⟩
        have hx6 : x ≤ n := hxn.out _ (List.mem_of_getElem? hx)
        obtain ⟨g, rfl, -, -⟩ := slRep_at hr hs.own.right (i := i) (v := .int .i64 (x : Nat)) (by rw [List.getElem?_map, hx]; rfl)
        have hc1 := fun W (hw : Own W H1) => slRep_cell hr hw (i := i) (v := .int .i64 (x : Nat)) (by rw [List.getElem?_map, hx]; rfl)
        have hcS := slRep_cell hsr hs.own.left (i := x) (v := .int .i64 (((ordL n).take i).count x : Nat)) (by rw [List.getElem?_map, cnt_get hx6]; rfl)
        have hcl : ((ordL n).take i).count x ≤ 64 := Nat.le_trans List.count_le_length (by simp; omega)
        have hsu := cnt_succ (n := n) hx
        generalize ((ordL n).take i).count x = C at *
        have d3 : (C : Int) ≤ 64 := by omega
        have d4 : (x : Int) ≤ (n : Int) := by omega
        have d5 : (0 : Int) ≤ (x : Int) := by omega
        have d8 : (x : Int) < (n : Int) + 1 := by omega
        have d9 : (x : Int) < ((n + 1 : Nat) : Int) := by omega
        obtain ⟨cur, rfl, hsr'⟩ := hsr.setOne (i := x) (by omega) (.int .i64 ((C : Int) + 1))
        have hst := hs.store0 (i := x) (.int .i64 ((C : Int) + 1))
        have fS := frz_of (i := x) hs.own.h0
        have r0 := hc1 _ hs.own.tail
        have r1 := hc1 _ hst.own.tail
        have e1 : Hid (Value.int .i64 ((C : Int) + 1) = iv (C + 1)) := rfl
        replace hsr' := Lib.hid hsr'
        replace hst := Lib.hid hst
        replace hsu := Lib.hid hsu
        replace hx := Lib.hid hx
        clear hs hc1
        have hnext : Hid (FR1 n m (ordL n) B H1 w (.int .i64 ((i : Int) + 1)) (wr.setCell ⟨B, x, none⟩ (.int .i64 ((C : Int) + 1)))) := by
          refine ⟨i + 1, [_], by omega, by go_num, ?_, hst.out⟩
          have := hsr'.out
          rwa [e1.out, ← List.map_set, ← hsu.out] at this
        by_cases ho : i % 2 = 1
        · have d6 : (i : Int) % 2 = 1 := by omega
          have q6 : ((i : Int) % 2 == 1) = true := by rw [d6]; rfl
          obtain ⟨y, hy⟩ : ∃ y, (ordL n)[i - 1]? = some y := ⟨_, List.getElem?_eq_getElem (by omega)⟩
          have r2 := slRep_cell hr hst.out.own.tail (i := i - 1) (v := .int .i64 (y : Nat)) (by rw [List.getElem?_map, hy]; rfl)
          have d7 : ((i : Int) - 1).toNat = i - 1 := by omega
          by_cases hx0 : x = 0
          · as_aux_lemma =>
            have hy0 : y ≠ 0 := fun h => hgp.out i hlt ho (by rw [hx.out, hx0]) (by rw [hy, h])
            have q7 : ((x : Int) == 0) = true := by rw [hx0]; rfl
            have q8 : ((y : Int) == 0) = false := beq_eq_false_iff_ne.2 (by omega)
            clear hx0
            go_wp2_with fail
            exact ⟨hnext.out, by simp [intOf]; omega⟩
          · as_aux_lemma =>
            have q7 : ((x : Int) == 0) = false := beq_eq_false_iff_ne.2 (by omega)
            clear hx0
            go_wp2_with fail
            exact ⟨hnext.out, by simp [intOf]; omega⟩
        · as_aux_lemma =>
          have d6 : (i : Int) % 2 = 0 := by omega
          have q6 : ((i : Int) % 2 == 1) = false := by rw [d6]; rfl
          go_wp2_with fail
          exact ⟨hnext.out, by simp [intOf]; omega⟩
      · obtain rfl : i = m := by omega
        have hmt' : (ordL n).take i = ordL n := by rw [hm.out, List.take_length]
        have hcells := Lib.hid (fun (s : Nat) (s1 : 1 ≤ s) (s2 : s ≤ n) (W : World) (hW : Own W (Hs ++ H1)) => slRep_cell hsr hW.left (i := s) (v := .int .i64 (1 : Nat)) (by rw [List.getElem?_map, cnt_get s2, hmt', hcn.out s s1 s2]; rfl))
        replace hs := Lib.hid hs
        clear hsr hr hmt'
        go_wp2_with fail
        go_meet
        exact ⟨_, hcells, hs.out⟩
  case rest =>
    clear hs0 hr
    obtain ⟨HH, hcells2, hs⟩ := hcut
    replace hs := Lib.hid hs
    go_upto_block 2 with fail
    go_cut [12] (fun v wc => FC2 w v wc)
    case first =>
      go_wp2_with fail
      go_loopw [12] (fun v wr => FR2 n HH w v wr) (fun v _ => n + 1 - (intOf v).toNat)
      case atStart => exact ⟨1, by omega, by omega, rfl, hs.out⟩
      case round =>
        clear hs
        obtain ⟨s, s1, s2, rfl, hs⟩ := hrel
        by_cases hsn : s ≤ n
        · as_aux_lemma =>
          have e1 : (s : Int) ≤ (n : Int) := by omega
          have e2 : (1 : Int) ≤ (s : Int) := by omega
          have e3 : (s : Int) < (n : Int) + 1 := by omega
          have e4 : (s : Int) < ((n + 1 : Nat) : Int) := by omega
          have rr := hcells2.out s s1 hsn _ hs.own
          go_wp2_with fail
          exact ⟨⟨s + 1, by omega, by omega, by go_num, hs⟩, by simp [intOf]; omega⟩
        · have e1 : (n : Int) < (s : Int) := by omega
          have e2 : (1 : Int) ≤ (s : Int) := by omega
          replace hs := Lib.hid hs
          go_wp2_with fail
          go_meet
          exact ⟨_, hs.out⟩
    case rest =>
      clear hs hcells2 hcn hgp hxn hor hro
      obtain ⟨HH, hs⟩ := hcut
      replace hs := Lib.hid hs
      obtain ⟨K, hK⟩ := Int.eq_ofNat_of_zero_le (show 0 ≤ k by omega)
      obtain ⟨P, hP⟩ : ∃ P, P = 2 ^ K := ⟨_, rfl⟩
      have hmf : Hid (∀ a b : Nat, 1 ≤ a → a < b → b ≤ P → b ≤ n → (q : Int) - k ≤ (meetN n a b : Int) ∧ (meetN n a b : Int) < (q : Int)) := by
        intro a b a1 ab bP bn
        have := hlt'.out a b K (by omega) a1 ab (by omega) bn
        omega
      have hPw : Hid (wrap64 (2 ^ k.toNat) = (P : Int)) := by
        show _ = _
        rw [hK, Int.toNat_natCast, pow_wrap K (by omega), hP]
      clear hlt' hK hP
      go_wp2_with fail
      go_loopw [13] (fun v wr => FR3 n P HH w v wr) (fun v _ => n + 1 - (intOf v).toNat)
      case atStart => exact ⟨1, by omega, by omega, by omega, rfl, hs.out⟩
      case round =>
        clear hs
        obtain ⟨a, a1, a2, a3, rfl, hs⟩ := hrel
        have d1 : (1 : Int) ≤ (a : Int) := by omega
        have d2 : (a : Int) ≤ (n : Int) + 1 := by omega
        replace hs := Lib.hid hs
        by_cases haP : a ≤ P
        · have d3 : (a : Int) ≤ wrap64 (2 ^ k.toNat) := by rw [hPw.out]; omega
          by_cases han : a ≤ n
          · have d4 : (a : Int) ≤ (n : Int) := by omega
            go_wp2_with fail
            go_loopw [14] (fun v wr => FR4 n P a HH w v wr) (fun v _ => n + 1 - (intOf v).toNat)
            case atStart => exact ⟨a + 1, by omega, by omega, by omega, by go_num, hs.out⟩
            case round =>
              clear hs
              obtain ⟨b, b1', b2', b3', rfl, hs⟩ := hrel
              have g1 : (1 : Int) ≤ (b : Int) := by omega
              have g2 : (b : Int) ≤ (n : Int) + 1 := by omega
              by_cases hbP : b ≤ P
              · have g3 : (b : Int) ≤ wrap64 (2 ^ k.toNat) := by rw [hPw.out]; omega
                by_cases hbn : b ≤ n
                · as_aux_lemma =>
                  have g4 : (b : Int) ≤ (n : Int) := by omega
                  obtain ⟨m1, m2⟩ := hmf.out a b a1 b1' hbP hbn
                  obtain ⟨X, hX⟩ : ∃ X, X = meetN n a b := ⟨_, rfl⟩
                  rw [← hX] at m1 m2
                  have hmm : Hid (∀ W, Calls Try.prog 9 #[.int .i64 n, .int .i64 a, .int .i64 b] W (MeetPost X 0 W)) := fun W => by rw [hX]; exact hmt.out a b W a1 b1' hbn
                  clear hX
                  go_wp2_with fail
                  refine (hmm.out _).mono ?_
                  rintro e w3 ⟨rfl, hs3⟩
                  have hs3 := hs.call0 hs3
                  rw [List.append_nil] at hs3
                  go_wp2_with fail
                  exact ⟨⟨b + 1, by omega, by omega, by omega, by go_num, hs3⟩, by simp [intOf]; omega⟩
                · as_aux_lemma =>
                  have g4 : (n : Int) < (b : Int) := by omega
                  go_wp2_with fail
                  exact ⟨⟨a + 1, by omega, by omega, by omega, by go_num, hs⟩, by simp [intOf]; omega⟩
              · have g3 : decide ((b : Int) ≤ wrap64 (2 ^ k.toNat)) = false := decide_eq_false (by rw [hPw.out]; omega)
                go_wp2_with fail
                exact ⟨⟨a + 1, by omega, by omega, by omega, by go_num, hs⟩, by simp [intOf]; omega⟩
          · as_aux_lemma =>
            have d4 : (n : Int) < (a : Int) := by omega
            go_wp2_with (go_at_call 7; refine (known_any _).mono ?_; rintro e w6 ⟨rfl, s6⟩)
            go_ret
            exact ⟨rfl, (hs.out.call0 s6).forget (A := [])⟩
        · have d3 : decide ((a : Int) ≤ wrap64 (2 ^ k.toNat)) = false := decide_eq_false (by rw [hPw.out]; omega)
          go_wp2_with (go_at_call 7; refine (known_any _).mono ?_; rintro e w6 ⟨rfl, s6⟩)
          go_ret
          exact ⟨rfl, (hs.out.call0 s6).forget (A := [])⟩
end Go.Proofs.Ytdikaeggildpnaa
