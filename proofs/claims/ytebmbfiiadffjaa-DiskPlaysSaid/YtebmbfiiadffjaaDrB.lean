/- The reference's disk: may, did. -/
import Derived.Test.YtebmbfiiadffjaaDrA
namespace Go.Proofs.Ytebmbfiiadffjaa
open Go.RowKit
attribute [local go_sem ↓] Go.wp_at_zero Go.wp_at_succ

def MayRel (names : List Nm) (w : World) (v : Value) (wr : World) : Prop := ∃ i : Nat, v = iv i ∧ i ≤ names.length ∧ (∀ x ∈ names.take i, badN x = false) ∧ wr = w
set_option maxHeartbeats 2000000 in
set_option maxRecDepth 100000 in
theorem may_any (b : Nat) (k : Dk) (H : Heaplet) (ng nc : Nat) (names : List Nm) (w : World) (h : RkRep b k H) (hw : Own w H) (hg : RdStrs w ng names) (hn : names.length ≤ nc) (hc : nc ≤ 1000) :
    Calls Try.prog 54 #[pt b, .slice (some ⟨ng, 0, none⟩) names.length nc] w fun e w' => e = .returned (iv (mayN k names)) ∧ Step w [] w' [] := by
  obtain ⟨a, c, R, X, hr, hok, hk, hlf, rfl⟩ := h
  have ⟨c0, c1, c2⟩ := cells3 hw.h0
  have l0 : (names.length : Int) ≤ 1000 := by omega
  have l1 : (names.length : Int) ≤ (nc : Int) := by omega
  clear hr hok hk
  by_cases hl : k.left = some 0
  · have hmay : Hid (mayN k names = 9) := by show _ = _; unfold mayN; rw [if_pos hl]
    rw [hl] at c2
    have e0 : leftI (some 0) = 0 := rfl
    rw [e0] at c2
    clear hl hlf hw c0 c1 hg
    go_enter Try.func54, Try.ntmps54
    go_wp2
    go_ret
    rw [hmay.out]
    exact ⟨rfl, Step.refl (Own.nil _)⟩
  · have hmay : Hid (mayN k names = if names.any badN then 1 else 0) := by show _ = _; unfold mayN; rw [if_neg hl]
    have q0 : (leftI k.left == 0) = false := by
      refine beq_eq_false_iff_ne.2 fun e => hl ?_
      cases hle : k.left with
      | none => rw [hle] at e; cases e
      | some z => rw [hle] at e; simp only [leftI] at e; rw [show z = 0 by omega]
    generalize leftI k.left = lv at c2 q0
    replace hg := Lib.hid hg
    clear hl hlf hw c0 c1
    go_enter Try.func54, Try.ntmps54
    go_wp2_with fail
    go_loopw [5] (fun v wr => MayRel names w v wr) (fun v _ => names.length - (intOf v).toNat)
    case atStart => exact ⟨0, rfl, Nat.zero_le _, by simp, rfl⟩
    case round =>
      obtain ⟨i, rfl, hi, hgood, rfl⟩ := hrel
      replace hgood := Lib.hid hgood
      have d0 : (0 : Int) ≤ (i : Int) := by omega
      by_cases hlt : i < names.length
      · have d1 : (i : Int) < (names.length : Int) := by omega
        obtain ⟨x, hx'⟩ : ∃ x, names[i]? = some x := ⟨_, List.getElem?_eq_getElem hlt⟩
        have hcx := hg.out i x hx'
        have htk : Hid (names.take (i + 1) = names.take i ++ [x]) := by
          obtain ⟨_, e⟩ := List.getElem?_eq_some_iff.1 hx'
          show _ = _
          rw [List.take_succ_eq_append_getElem hlt, e]
        have hmem := Lib.hid (List.mem_of_getElem? hx')
        clear hx'
        by_cases hbad : badN x = true
        · have hfin : Hid (mayN k names = 1) := by show _ = _; rw [hmay.out, if_pos (List.any_eq_true.2 ⟨x, hmem.out, hbad⟩)]
          simp only [badN, Bool.or_eq_true, decide_eq_true_eq] at hbad
          rcases hbad with hb1 | hb1
          · have e : (x.length : Int) < 1 := by omega
            clear hb1
            go_wp2_with fail
            go_ret
            rw [hfin.out]
            exact ⟨rfl, Step.refl (Own.nil _)⟩
          · have e : ¬ ((x.length : Int) < 1) := by omega
            have e2 : (64 : Int) < (x.length : Int) := by omega
            clear hb1
            go_wp2_with fail
            go_ret
            rw [hfin.out]
            exact ⟨rfl, Step.refl (Own.nil _)⟩
        · have hgx : Hid (badN x = false) := (by simpa using hbad : badN x = false)
          simp only [badN, Bool.or_eq_true, decide_eq_true_eq, not_or] at hbad
          have e : ¬ ((x.length : Int) < 1) := by omega
          have e2 : ¬ ((64 : Int) < (x.length : Int)) := by omega
          clear hbad
          go_wp2_with fail
          refine ⟨⟨i + 1, by go_num, hlt, fun y hy => ?_, by first | rfl | trivial⟩, by simp [intOf]; omega⟩
          rw [htk.out] at hy
          rcases List.mem_append.1 hy with hy | hy
          · exact hgood.out y hy
          · rw [List.mem_singleton] at hy; subst hy; exact hgx.out
      · have hall : Hid (mayN k names = 0) := by
          have h1 : names.any badN = false := List.any_eq_false.2 (fun y hy => by
            have := hgood.out y (by rw [List.take_of_length_le (by omega)]; exact hy)
            simp [this])
          show _ = _
          rw [hmay.out, h1]; rfl
        have d1 : (names.length : Int) ≤ (i : Int) := by omega
        clear hgood hmay hg
        go_wp2_with fail
        go_ret
        rw [hall.out]
        exact ⟨rfl, Step.refl (Own.nil _)⟩
theorem did_any (b : Nat) (k : Dk) (H : Heaplet) (w : World) (h : RkRep b k H) (hw : Own w H) :
    Calls Try.prog 56 #[pt b] w (RkPost b (0, didN k) H w) := by
  have hrep := Lib.hid h
  obtain ⟨a, c, R, X, hr, hok, hk, hlf, rfl⟩ := h
  have ⟨c0, c1, c2⟩ := cells3 hw.h0
  have fz := fun i => frz_of (i := i) hw.h0
  have b0 := heap_lt hw.h0
  have s0 := Step.refl hw
  generalize hG : ((b, robj k.room a X.length c (leftI k.left)) :: (R ++ X.flatMap Re.H)) = G at s0 hrep ⊢
  by_cases hp : ∃ z, k.left = some (z + 1)
  · obtain ⟨z, hz⟩ := hp
    have hs : Hid (∀ W, Step w G W ((b, robj k.room a X.length c (z : Nat)) :: (R ++ X.flatMap Re.H)) → RkPost b (0, didN k) G w (.returned (ii 0)) W) := fun W s => by
      have hdl : (didN k).left = some z := by unfold didN; rw [hz]; rfl
      rw [hz] at hlf
      have e1 : leftI (some (z + 1)) = ((z + 1 : Nat) : Int) := rfl
      rw [e1] at hlf
      refine ⟨rfl, _, ⟨a, c, R, X, hr, hok, hk, ?_, rfl⟩, ?_⟩
      · show leftI (didN k).left ≤ _
        rw [hdl]; simp only [leftI]; omega
      · show Step w G W ((b, robj k.room a X.length c (leftI (didN k).left)) :: _)
        rw [hdl]; exact s
    have hs1 := Lib.hid (by rw [← hG] at s0 ⊢; exact s0.store0 (.int .i64 (z : Nat)) (i := 2) : Step w G (w.setCell ⟨b, 2, none⟩ (.int .i64 (z : Nat))) ((b, robj k.room a X.length c (z : Nat)) :: (R ++ X.flatMap Re.H)))
    have hz1 : (z : Int) ≤ 9223372036854775806 := by
      rw [hz] at hlf
      have e1 : leftI (some (z + 1)) = ((z + 1 : Nat) : Int) := rfl
      rw [e1] at hlf
      omega
    rw [hz] at c2
    have e1 : leftI (some (z + 1)) = ((z + 1 : Nat) : Int) := rfl
    rw [e1] at c2
    have e2 : (0 : Int) < ((z + 1 : Nat) : Int) := by omega
    replace hG := Lib.hid hG
    clear hr hok hk hlf hw s0 hz hrep
    go_enter Try.func56, Try.ntmps56
    go_wp2
    go_ret
    exact hs.out _ hs1.out
  · have hd : Hid (didN k = k) := by
      show _ = _
      obtain ⟨rm, L, left⟩ := k
      cases left with
      | none => rfl
      | some z =>
        cases z with
        | zero => rfl
        | succ z => exact absurd ⟨z, rfl⟩ hp
    have e2 : leftI k.left ≤ 0 := by
      cases hle : k.left with
      | none => decide
      | some z =>
        cases z with
        | zero => decide
        | succ z => exact absurd ⟨z, hle⟩ hp
    generalize leftI k.left = lv at c2 e2
    replace hG := Lib.hid hG
    clear hr hok hk hlf hw hp
    go_enter Try.func56, Try.ntmps56
    go_wp2
    go_ret
    rw [hd.out]
    exact ⟨rfl, _, hrep.out, s0⟩
end Go.Proofs.Ytebmbfiiadffjaa
