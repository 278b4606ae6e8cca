/- The reference's bracket: Report, New; and both held against each other. -/
import Derived.Test.YtdkjgkbddehaiaaBrZ
import Derived.Test.YtdkjgkbddehaiaaBrG
namespace Go.Proofs.Ytdkjgkbddehaiaa
open Go.RowKit
attribute [local go_sem ↓] Go.wp_at_zero Go.wp_at_succ

theorem Own.after {w w' : World} {H G : Heaplet} (o : Own w H) (s : Step w [] w' G) : Own w' H := o.eq fun b hb => s.frame b (o.lt b hb) (by simp [dom])
theorem Step.stay {w w' : World} {H : Heaplet} (s : Step w [] w' []) (o : Own w H) : Step w H w' H := Step.beside (H := []) (H' := []) (G := H) s o
theorem step_put {w w' : World} {K A Hs : Heaplet} {E g n c : Nat} {xs : List Value} (s : Step w K w' (A ++ Hs)) (h : SlRep E 1 (some ⟨g, 0, none⟩) n c xs Hs) (i : Nat) (v : Value) :
    ∃ H', SlRep E 1 (some ⟨g, 0, none⟩) n c (xs.set i v) H' ∧ Step w K (w'.setCell ⟨g, i, none⟩ v) (A ++ H') := by
  obtain ⟨hl, ⟨h1, _⟩ | ⟨g', cur, e, rfl, h2, h3, h4, h5⟩⟩ := h
  · cases h1
  · cases e
    refine ⟨[(g, .cells (cur.setIfInBounds i v) E (0, 0))], ⟨by simpa using hl, .inr ⟨g, _, rfl, rfl, h2, h3, by simpa using h4, ?_⟩⟩, Step.store v s⟩
    rw [Array.toList_setIfInBounds, List.take_set, h5]
theorem frz_sl {E g n c : Nat} {xs : List Value} {Hs : Heaplet} (h : SlRep E 1 (some ⟨g, 0, none⟩) n c xs Hs) {w : World} (o : Own w Hs) (i : Nat) : w.frozen? ⟨g, i, none⟩ = false := by
  obtain ⟨hl, ⟨h1, _⟩ | ⟨g', cur, e, rfl, h2, h3, h4, h5⟩⟩ := h
  · cases h1
  · cases e; exact frz_of o.h0
def RRepPost (b n : Nat) (l : List Nat) (W' : List Int) (x : Nat) (H : Heaplet) (w : World) (e : Ending) (w' : World) : Prop :=
  e = .returned (iv x) ∧ ∃ H', RfOwn w' b n l W' H' ∧ Step w H w' H'
set_option maxHeartbeats 1000000 in
set_option maxRecDepth 100000 in
theorem rreport_any (B : Br) (l : List Nat) (W : List Int) (b : Nat) (i k : Int) (H : Heaplet) (w : World) (hok : RfOk B l W) (hw : RfOwn w b B.n l W H) :
    Calls Try.prog 20 #[pt b, .int .i64 i, .int .i64 k] w (RRepPost b B.n l (wonTo B W i k) (B.report i k).1 H w) := by
  have hl := hok.inv.ok.len
  have h64 := hok.inv.ok.z64
  have hwl := hok.tie.len
  have b1 : (W.length : Int) ≤ 64 := by omega
  have ho : Own w H := by obtain ⟨_, _, _, _, _, _, _, _, o⟩ := hw; exact o
  obtain ⟨a1, k1, a2, k2, c0, c1, c2⟩ := hw.lens
  cases hi : B.has i
  · unfold wonTo
    rw [rep_no hi, if_neg (by simp)]
    have hg : (i < 0) ∨ (0 ≤ i ∧ (W.length : Int) ≤ i) := by
      by_cases h0 : 0 ≤ i
      · simp [Br.has, h0] at hi; omega
      · omega
    clear hi hl hwl
    rcases hg with g0 | ⟨g0, g1⟩
    all_goals
      go_enter Try.func20, Try.ntmps20
      go_wp2_with fail
      go_ret
      exact ⟨rfl, H, hw, Step.refl ho⟩
  · obtain ⟨j, m, rfl, hj, hm⟩ := has_of hi
    clear hi
    have g0 : (0 : Int) ≤ (j : Int) := by omega
    have g1 : (j : Int) < (W.length : Int) := by omega
    have hre := rep_at (k := k) hm
    by_cases hk : k ≠ 0 ∧ k ≠ 1
    · unfold wonTo
      rw [hre, if_pos hk, if_neg (by simp)]
      have q1 : (k != 0) = true := by rw [bne_iff_ne]; exact hk.1
      have q2 : (k != 1) = true := by rw [bne_iff_ne]; exact hk.2
      clear hre hm hk hl hwl
      go_enter Try.func20, Try.ntmps20
      go_wp2_with fail
      go_ret
      exact ⟨rfl, H, hw, Step.refl ho⟩
    rw [if_neg hk] at hre
    obtain ⟨q, rfl⟩ : ∃ q : Nat, k = q := ⟨k.toNat, by omega⟩
    have hq2 : q < 2 := by omega
    have hq : ((q : Int) != 0) = false ∨ (((q : Int) != 0) = true ∧ ((q : Int) != 1) = false) := by
      simp only [bne_iff_ne, bne_eq_false_iff_eq]; omega
    obtain ⟨y, hy, hy3, hy1, hy2⟩ := tie_sign hok.tie hm
    have hse := Lib.hid (fun H w hw => rseats_any B l W b j m H w hok hm hw)
    unfold RSeatsPost at hse
    unfold wonTo
    rw [hre]
    clear hre hk
    obtain ⟨m0, m1, mw, mb⟩ := m
    simp only at hse hy1 hy2 ⊢
    by_cases hs : m0 = 0 ∨ m1 = 0
    · rw [if_pos hs, if_neg (by simp)]
      have hs' : ((m0 : Int) == 0) = true ∨ (((m0 : Int) == 0) = false ∧ ((m1 : Int) == 0) = true) := by
        simp only [beq_iff_eq, beq_eq_false_iff_ne]; omega
      clear hs hy1 hy2 hy3 hy hm hl hwl
      rcases hq with q1 | ⟨q1, q2⟩
      all_goals
        rcases hs' with q3 | ⟨q3, q4⟩
        all_goals
          go_enter Try.func20, Try.ntmps20
          go_wp2_with fail
          refine (hse.out _ _ hw).mono ?_
          rintro e w1 ⟨rfl, hs1⟩
          have s1 := hs1.alloc (.cells #[iv m0, iv m1] 32)
          obtain ⟨d0, d1⟩ := cells2 s1.own.h0
          go_wp2_with fail
          go_ret
          exact ⟨rfl, H, hw.after s1.tail, s1.tail.stay ho⟩
    · rw [if_neg hs]
      have hs0 : ((m0 : Int) == 0) = false ∧ ((m1 : Int) == 0) = false := by
        simp only [beq_eq_false_iff_ne]; omega
      obtain ⟨q3, q4⟩ := hs0
      have hyw := hy1 (by omega) (by omega)
      clear hs hy1 hy2 hl hwl
      by_cases hmw : mw ≠ 0
      · rw [if_pos hmw, if_neg (by simp)]
        have q5 : (0 : Int) ≤ y := by omega
        clear hyw hmw hy3 hm
        replace hy := Lib.hid hy
        rcases hq with q1 | ⟨q1, q2⟩
        all_goals
          go_enter Try.func20, Try.ntmps20
          go_wp2_with fail
          refine (hse.out _ _ hw).mono ?_
          rintro e w1 ⟨rfl, hs1⟩
          have s1 := hs1.alloc (.cells #[iv m0, iv m1] 32)
          obtain ⟨d0, d1⟩ := cells2 s1.own.h0
          have hw1 := hw.after s1
          clear c0 c1 c2
          obtain ⟨g2, x2, c2, ck⟩ := hw1.won hy.out
          go_wp2_with fail
          go_ret
          exact ⟨rfl, H, hw.after s1.tail, s1.tail.stay ho⟩
      · rw [if_neg hmw, if_pos rfl, Int.toNat_natCast]
        have q5 : y < 0 := by omega
        clear hyw hmw hy3 hm
        replace hy := Lib.hid hy
        have b3 : (q : Int) ≤ 64 := by omega
        rcases hq with q1 | ⟨q1, q2⟩
        all_goals
          go_enter Try.func20, Try.ntmps20
          go_wp2_with fail
          refine (hse.out _ _ hw).mono ?_
          rintro e w1 ⟨rfl, hs1⟩
          have s1 := hs1.alloc (.cells #[iv m0, iv m1] 32)
          obtain ⟨d0, d1⟩ := cells2 s1.own.h0
          have hw1 := hw.after s1
          have s2 := s1.tail.stay ho
          clear c0 c1 c2
          obtain ⟨b1', x1, H1, b2', x2, H2, rfl, hr, ho1⟩ := hw1
          obtain ⟨c0, c1, c2⟩ := cells3 ho1.h0
          obtain ⟨g2, rfl, ck, _⟩ := slRep_at hr.won ho1.tail.right (i := j) (v := ii y) (by rw [List.getElem?_map, hy.out]; rfl)
          simp only [Nat.zero_add] at ck
          have fz := frz_sl hr.won ho1.tail.right j
          obtain ⟨H', hr', s3⟩ := step_put (A := _ :: H1) s2 hr.won j (ii q)
          rw [← List.map_set] at hr'
          go_wp2_with fail
          go_ret
          refine ⟨rfl, _, ⟨_, _, H1, _, _, H', rfl, ⟨hr.first, by rw [List.length_set]; exact hr'⟩, by rw [List.length_set]; exact s3.own⟩, ?_⟩
          rw [List.length_set]; exact s3

theorem rnew_no (n : Int) (w : World) (h : many n = false) : Calls Try.prog 19 #[.int .i64 n] w fun e w' => e = .returned (.tuple #[.pointer none, .int .i64 1]) ∧ w = w' := by
  go_enter Try.func19, Try.ntmps19
  go_wp2_with (go_at_call 28; refine (rorder_no n _ h).mono ?_; rintro e w' ⟨rfl, rfl⟩)
  go_ret2
  exact ⟨rfl, rfl⟩
def RNewPost (n : Nat) (w : World) (e : Ending) (w' : World) : Prop :=
  ∃ b H, e = .returned (.tuple #[pt b, .int .i64 0]) ∧ RfOwn w' b n (ordL n) (List.replicate ((ordL n).length - 1) (-1)) H ∧ Step w [] w' H
def RNewRel (b n : Nat) (a1 : Option Addr) (z c1 : Nat) (H1 : Heaplet) (w : World) (v : Value) (wr : World) : Prop :=
  ∃ k a2 c2 H2, k + 1 ≤ z ∧ v = .int .i64 (k : Nat) ∧ SlRep 3 1 a2 k c2 ((List.replicate k (-1)).map ii) H2 ∧ Step w [] wr (rfHead b n a1 z c1 a2 k c2 :: (H1 ++ H2))
set_option maxRecDepth 100000 in
theorem rnew_yes (n : Nat) (w : World) (h1 : 2 ≤ n) (h2 : n ≤ 64) : Calls Try.prog 19 #[.int .i64 n] w (RNewPost n w) := by
  have ho := Lib.hid (rorder_yes n w h1 h2)
  have hl := lg_le n h2
  obtain ⟨lo, hlo⟩ : ∃ l, l = ordL n := ⟨_, rfl⟩
  have hz64 : lo.length ≤ 64 := by rw [hlo, ordL_len]; exact Nat.pow_le_pow_right (by omega) hl
  have hz1 : 1 ≤ lo.length := by rw [hlo, ordL_len]; exact Nat.one_le_two_pow
  unfold OrdPost at ho
  unfold RNewPost
  rw [← hlo] at ho ⊢
  replace hlo := Lib.hid hlo
  have b1 : (n : Int) ≤ 64 := by omega
  have b2 : (lo.length : Int) ≤ 64 := by omega
  have b3 : (1 : Int) ≤ (lo.length : Int) := by omega
  suffices hP : Calls Try.prog 19 #[.int .i64 n] w (fun e w' => ∃ b H, e = .returned (.tuple #[pt b, .int .i64 0]) ∧ RfOwn w' b n lo (List.replicate (lo.length - 1) (-1)) H ∧ Step w [] w' H) from hP
  have hend : ∀ (b : Nat) (e : Ending) (w' : World) (H : Heaplet), e = .returned (.tuple #[pt b, .int .i64 0]) → RfOwn w' b n lo (List.replicate (lo.length - 1) (-1)) H → Step w [] w' H → (fun e w' => ∃ b H, e = .returned (.tuple #[pt b, .int .i64 0]) ∧ RfOwn w' b n lo (List.replicate (lo.length - 1) (-1)) H ∧ Step w [] w' H) e w' :=
    fun b e w' H x y z => ⟨b, H, x, y, z⟩
  generalize (fun (e : Ending) (w' : World) => ∃ b H, e = .returned (.tuple #[pt b, .int .i64 0]) ∧ RfOwn w' b n lo (List.replicate (lo.length - 1) (-1)) H ∧ Step w [] w' H) = R at hend ⊢
  replace hend := Lib.hid hend
  go_enter Try.func19, Try.ntmps19
  go_wp2_with fail
  refine ho.out.mono ?_
  rintro e w1 ⟨a, c, H, rfl, hr, hs⟩
  have s1 := hs.alloc (.cells #[iv n, .slice a lo.length c, .slice none 0 0] 65)
  go_wp2_with fail
  refine Step.gen s1 ?_
  intro W s1
  generalize w1.heap.size = M at s1 ⊢
  replace s1 := Lib.hid s1
  go_loopw [7] (fun v wr => RNewRel M n a lo.length c H w v wr) (fun v _ => lo.length - (intOf v).toNat)
  case atStart => exact ⟨0, none, 0, [], hz1, rfl, SlRep.nil _ _, by rw [List.append_nil]; exact s1.out⟩
  case round =>
    clear s1 hs
    obtain ⟨k, a2, c2, H2, hk, rfl, hr2, hs⟩ := hrel
    obtain ⟨x0, x1, x2⟩ := cells3 hs.own.h0
    have fz := fun i => frz_of (i := i) hs.own.h0
    have d1 : (0 : Int) ≤ (k : Int) := by omega
    by_cases hlt : k + 1 < lo.length
    · have d2 : (k : Int) < (lo.length : Int) - 1 := by omega
      replace hr2 := Lib.hid hr2
      go_wp2_with (at_builtin; refine wpList_app rfl st_int _ _ rfl (by rfl) (by rfl) hr2.out ((hs.alloc _).own.tail.tail.right) (rdCells_block (heap_alloc_new _ _) rfl (by simp [Value.oneCell'])) (by unfold maxLen; omega) (by omega) ?_; intro a6 c6 w6 H6 hr6 hst6; have sA := (Step.callR (R := _ :: rfHead M n a lo.length c a2 k c2 :: H) (hs.alloc _) hst6).tail; obtain ⟨y0, y1, y2⟩ := cells3 sA.own.h0; have fy := fun i => frz_of (i := i) sA.own.h0)
      have sB := Step.store0 (.slice a6 (k + 1) c6) (i := 2) sA
      exact ⟨⟨k + 1, a6, c6, H6, hlt, by go_num, by rw [List.replicate_succ', List.map_append]; exact hr6, sB⟩, by simp [intOf]; omega⟩
    · have d2 : (lo.length : Int) ≤ (k : Int) + 1 := by omega
      have d3 : decide ((k : Int) < (lo.length : Int) - 1) = false := decide_eq_false (by omega)
      have hkl : k = lo.length - 1 := by omega
      replace hkl := Lib.hid hkl
      go_wp2_with fail
      refine hend.out M _ _ _ rfl ⟨a, c, H, a2, c2, H2, rfl, ⟨hr, ?_⟩, ?_⟩ ?_
      · rw [List.length_replicate, ← hkl.out]; exact hr2
      · rw [List.length_replicate, ← hkl.out]; exact hs.own
      · rw [List.length_replicate, ← hkl.out]; exact hs
end Go.Proofs.Ytdkjgkbddehaiaa
