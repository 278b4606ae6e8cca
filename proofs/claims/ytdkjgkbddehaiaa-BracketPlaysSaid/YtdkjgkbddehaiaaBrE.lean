/- Ready, New. -/
import Derived.Test.YtdkjgkbddehaiaaBrD
namespace Go.Proofs.Ytdkjgkbddehaiaa
open Go.RowKit
attribute [local go_sem ↓] Go.wp_at_zero Go.wp_at_succ

def Mt.rdy (m : Mt) : Bool := decide (m.w = 0 ∧ m.s0 ≠ 0 ∧ m.s1 ≠ 0)
theorem ready_succ {B : Br} {k : Nat} {m : Mt} (hm : B.ms[k]? = some m) : B.ready (k + 1) = if m.rdy then B.ready k ++ [k] else B.ready k := by
  unfold Br.ready
  rw [List.range_succ, List.filter_append]
  simp only [List.filter_cons, List.filter_nil, hm]
  unfold Mt.rdy
  split <;> simp
theorem ready_len (B : Br) (k : Nat) : (B.ready k).length ≤ k := by
  unfold Br.ready; exact Nat.le_trans (List.length_filter_le _ _) (by simp)
def ReadyPost (B : Br) (w : World) (e : Ending) (w' : World) : Prop :=
  ∃ a c H, e = .returned (.slice a (B.ready B.ms.length).length c) ∧ SlRep 3 1 a (B.ready B.ms.length).length c ((B.ready B.ms.length).map iv) H ∧ Step w [] w' H
def RdyRel (B : Br) (w : World) (v3 v13 : Value) (wr : World) : Prop :=
  ∃ k a c H, k ≤ B.ms.length ∧ v13 = iv k ∧ v3 = .slice a (B.ready k).length c ∧ SlRep 3 1 a (B.ready k).length c ((B.ready k).map iv) H ∧ Step w [] wr H
theorem contains2 (W : World) (M x y : Nat) (hx : W.cell? ⟨M, 0, none⟩ = some (iv x)) (hy : W.cell? ⟨M, 1, none⟩ = some (iv y)) :
    Calls Try.prog 26 #[.slice (some ⟨M, 0, none⟩) 2 2, .int .i64 0] W fun e w' => e = .returned (.bool (decide (x = 0 ∨ y = 0))) ∧ W = w' :=
  (Try.slices_Contains_int M 0 2 2 [(x : Int), (y : Int)] 0 W (by simp) (by omega) (by
    intro j hj
    match j, hj with
    | 0, _ => exact hx
    | 1, _ => exact hy)).mono fun e w' ⟨h1, h2⟩ => ⟨by
      rw [h1]
      have : (([(x : Int), (y : Int)].take 2).contains 0) = decide (x = 0 ∨ y = 0) := by
        rw [Bool.eq_iff_iff]; simp
        omega
      rw [this], h2.symm⟩
set_option maxRecDepth 100000 in
set_option maxHeartbeats 1000000 in
theorem ready_any (b g h : Nat) (B : Br) (w : World) (hw : Own w (brH b g h B)) (hl : B.ms.length ≤ 64) :
    Calls Try.prog 12 #[pt b] w (ReadyPost B w) := by
  obtain ⟨c0, c1, c2, c3⟩ := cells4 hw.h0
  have b0 : (B.ms.length : Int) ≤ 64 := by omega
  go_enter Try.func12, Try.ntmps12
  go_wp2_with fail
  go_loopw [3, 13] (fun v3 v13 wr => RdyRel B w v3 v13 wr) (fun _ v _ => B.ms.length - (intOf v).toNat)
  case atStart => exact ⟨0, none, 0, [], Nat.zero_le _, rfl, rfl, SlRep.nil _ _, Step.refl (Own.nil _)⟩
  case round =>
    obtain ⟨k, a, c, H, hk, rfl, rfl, hr, hs⟩ := hrel
    clear c0 c1 c2 c3
    have d1 : (0 : Int) ≤ (k : Int) := by omega
    by_cases hlt : k < B.ms.length
    · obtain ⟨m, hm⟩ : ∃ m, B.ms[k]? = some m := ⟨_, List.getElem?_eq_getElem hlt⟩
      have d2 : (k : Int) < (B.ms.length : Int) := by omega
      have hwr := hw.eq (fun b hb => hs.frame b (hw.lt b hb) (by simp [dom]))
      have hrs := ready_succ hm
      have hrl := ready_len B k
      obtain ⟨ms0, ms1, mw, mb⟩ := m
      obtain ⟨m0, m1, m2, m3⟩ := ms_cell hwr hm
      simp only at m0 m1 m2 m3
      have s1 := hs.alloc (.cells #[iv ms0, iv ms1, iv mw, .bool mb] 57)
      obtain ⟨x0, x1, x2, x3⟩ := cells4 s1.own.h0
      have hcon := Lib.hid (fun W M hW => contains2 W M ms0 ms1 (cells4 (Own.h0 (B := H) hW)).1 (cells4 (v2 := iv mw) (v3 := .bool mb) (T := 57) (f := (0, 0)) (Own.h0 (B := H) hW)).2.1)
      replace hr := Lib.hid hr
      clear hwr hm
      cases e0 : ((mw : Int) == 0)
      · have hnr : Mt.rdy ⟨ms0, ms1, mw, mb⟩ = false := by
          simp at e0; simp [Mt.rdy, e0]
        rw [hnr, if_neg (by simp)] at hrs
        replace hrs := Lib.hid hrs
        replace hnr := Lib.hid hnr
        go_wp2_with fail
        exact ⟨⟨k + 1, a, c, H, by omega, by go_num, by rw [hrs.out], by rw [hrs.out]; exact hr.out, s1.tail⟩, by simp [intOf]; omega⟩
      · cases e1 : decide (ms0 = 0 ∨ ms1 = 0)
        · have hnr : Mt.rdy ⟨ms0, ms1, mw, mb⟩ = true := by
            simp at e0 e1; simp [Mt.rdy]; omega
          rw [hnr, if_pos rfl] at hrs
          rw [e1] at hcon
          replace hrs := Lib.hid hrs
          replace hnr := Lib.hid hnr
          clear e1
          go_wp2_with fail
          clear m0 m1 m2 m3 x0 x1 x2 x3
          refine Step.genC s1 ?_
          clear s1
          intro W s1
          generalize wr.heap.size = M at s1 ⊢
          refine (hcon.out W M s1.own).mono ?_
          rintro e w' ⟨rfl, rfl⟩
          go_wp2_with (at_builtin; refine wpList_app rfl st_int _ _ rfl (by rfl) (by rfl) hr.out ((s1.alloc _).own.tail.tail) (rdCells_block (heap_alloc_new _ _) rfl (by simp [Value.oneCell'])) (by unfold maxLen; omega) (by omega) ?_; intro a6 c6 w6 H6 hr6 hst6)
          exact ⟨⟨k + 1, a6, c6, H6, by omega, by go_num, by rw [hrs.out, List.length_append]; rfl, by rw [hrs.out, List.length_append, List.map_append]; exact hr6, (Step.callR (R := [_, _]) (s1.alloc _) hst6).tail.tail⟩, by simp [intOf]; omega⟩
        · have hnr : Mt.rdy ⟨ms0, ms1, mw, mb⟩ = false := by
            simp at e0 e1; simp [Mt.rdy]; omega
          rw [hnr, if_neg (by simp)] at hrs
          rw [e1] at hcon
          replace hrs := Lib.hid hrs
          replace hnr := Lib.hid hnr
          clear e1
          go_wp2_with fail
          clear m0 m1 m2 m3 x0 x1 x2 x3
          refine Step.genC s1 ?_
          clear s1
          intro W s1
          generalize wr.heap.size = M at s1 ⊢
          refine (hcon.out W M s1.own).mono ?_
          rintro e w' ⟨rfl, rfl⟩
          go_wp2_with fail
          exact ⟨⟨k + 1, a, c, H, by omega, by go_num, by rw [hrs.out], by rw [hrs.out]; exact hr.out, s1.tail⟩, by simp [intOf]; omega⟩
    · have hkl : k = B.ms.length := by omega
      replace hr := Lib.hid hr
      replace hkl := Lib.hid hkl
      have d2 : (B.ms.length : Int) ≤ (k : Int) := by omega
      go_wp2_with fail
      go_ret
      refine ⟨a, c, H, ?_, ?_, hs⟩
      · rw [← hkl.out]; rfl
      · rw [← hkl.out]; exact hr.out
end Go.Proofs.Ytdkjgkbddehaiaa
