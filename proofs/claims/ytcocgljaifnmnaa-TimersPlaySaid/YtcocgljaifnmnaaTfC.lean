/- The reference of timers: Next. -/
import Derived.Test.YtcocgljaifnmnaaTfB
namespace Go.Proofs.Ytcocgljaifnmnaa
open Go.RowKit
attribute [local go_sem ↓] Go.wp_at_zero Go.wp_at_succ

def TfNextRel (L : List (Int × Int)) (g : Nat) (w : World) (v : Value) (wr : World) : Prop :=
  ∃ (k : Nat) (m : Int × Int), 1 ≤ k ∧ k ≤ L.length ∧ v = .int .i64 (k : Nat) ∧ m ∈ L.take k ∧ (∀ y ∈ L.take k, eLe m y) ∧ Step w [] wr [(g, .cells #[ii m.1, ii m.2] 59 (0, 0))]
theorem eLe_refl (x : Int × Int) : eLe x x := by unfold eLe; omega
theorem eLe_trans {x y z : Int × Int} (h : eLe x y) (k : eLe y z) : eLe x z := by unfold eLe at *; omega
set_option maxRecDepth 100000 in
set_option maxHeartbeats 2000000 in
theorem tfnext_any (b : Nat) (L : List (Int × Int)) (H : Heaplet) (w : World) (h : TfRep b L H) (hw : Own w H) (hl : L.length ≤ 4096) :
    Calls Try.prog 19 #[pt b] w (NextPost L w) := by
  obtain ⟨a, c, HA, rfl, hr⟩ := h
  have c0 := cells1 hw.h0
  obtain ⟨n, hn⟩ : ∃ n, n = L.length := ⟨_, rfl⟩
  have b1 : (n : Int) ≤ 4096 := by omega
  have hat := Lib.hid (fun W (hW : Own W HA) i x (hi : L[i]? = some x) => tf_at hr hW hi)
  have s0 := Step.refl (Own.nil w)
  replace hw := Lib.hid hw
  clear hr
  rw [← hn] at c0 hat
  by_cases h0 : n = 0
  · have e0 : ((n : Int) == 0) = true := by rw [h0]; rfl
    rw [h0] at hn
    replace h0 := Lib.hid h0
    replace hn := Lib.hid hn
    go_enter Try.func19, Try.ntmps19
    go_wp2_with fail
    go_ret3
    exact ⟨s0, .inl ⟨List.eq_nil_of_length_eq_zero hn.out.symm, rfl⟩⟩
  · have e0 : ((n : Int) == 0) = false := beq_eq_false_iff_ne.2 (by omega)
    have e1 : (0 : Int) < (n : Int) := by omega
    obtain ⟨⟨m1, m2⟩, hm⟩ : ∃ y, L[0]? = some y := ⟨_, List.getElem?_eq_getElem (by omega)⟩
    obtain ⟨gs, rfl, h2, h3, _, x0, x1⟩ := hat.out w hw.out.tail 0 _ hm
    rw [Nat.zero_mul] at x0 x1
    have s1 := s0.alloc (.cells #[ii m1, ii m2] 59 (0, 0))
    replace hn := Lib.hid hn
    replace hm := Lib.hid hm
    go_enter Try.func19, Try.ntmps19
    go_wp2_with fail
    generalize w.heap.size = g at s1 ⊢
    go_loopw [6] (fun v wr => TfNextRel L g w v wr) (fun v _ => n - (intOf v).toNat)
    case atStart => exact ⟨1, (m1, m2), Nat.le_refl _, by have := hn.out; omega, rfl, by rw [List.take_add_one, hm.out]; simp, by rw [List.take_add_one, hm.out]; simp [eLe_refl], s1⟩
    case round =>
      clear s1 x0 x1
      obtain ⟨k, ⟨z1, z2⟩, hk1, hk, rfl, hz, hmin, hs⟩ := hrel
      have d0 : (0 : Int) ≤ (k : Int) := by omega
      obtain ⟨z0, z1'⟩ := cells2 hs.own.h0
      have fz := fun i => frz_of (i := i) hs.own.h0
      have hwr := hw.out.after hs
      have c0 : wr.cell? ⟨b, 0, none⟩ = some (.slice (some ⟨gs, 0, none⟩) n c) := by rw [hn.out]; exact cells1 hwr.h0
      replace hz := Lib.hid hz
      replace hmin := Lib.hid hmin
      by_cases hlt : k < n
      · have d1 : (k : Int) < (n : Int) := by omega
        obtain ⟨⟨y1, y2⟩, hy⟩ : ∃ y, L[k]? = some y := ⟨_, List.getElem?_eq_getElem (by have := hn.out; omega)⟩
        obtain ⟨gs', e', _, _, _, x0, x1⟩ := hat.out wr hwr.tail k _ hy
        cases e'
        have htk : Hid (L.take (k + 1) = L.take k ++ [(y1, y2)]) := by show _ = _; rw [List.take_add_one, hy]; rfl
        have hkl : Hid (k + 1 ≤ L.length) := by show _ ≤ _; have := hn.out; omega
        have hstay : eLe (z1, z2) (y1, y2) → ∀ W, Step w [] W [(g, .cells #[ii z1, ii z2] 59 (0, 0))] → TfNextRel L g w (.int .i64 ((k + 1 : Nat) : Int)) W := fun hle W s => ⟨k + 1, (z1, z2), by omega, hkl.out, rfl, by rw [htk.out]; exact List.mem_append_left _ hz.out, fun y hy => by
          rw [htk.out] at hy
          rcases List.mem_append.1 hy with hy | hy
          · exact hmin.out y hy
          · simp at hy; subst hy; exact hle, s⟩
        have hnew : eLe (y1, y2) (z1, z2) → ∀ W, Step w [] W [(g, .cells #[ii y1, ii y2] 59 (0, 0))] → TfNextRel L g w (.int .i64 ((k + 1 : Nat) : Int)) W := fun hle W s => ⟨k + 1, (y1, y2), by omega, hkl.out, rfl, by rw [htk.out]; simp, fun y hy => by
          rw [htk.out] at hy
          rcases List.mem_append.1 hy with hy | hy
          · exact eLe_trans hle (hmin.out y hy)
          · simp at hy; subst hy; exact eLe_refl _, s⟩
        replace hstay := Lib.hid hstay
        replace hnew := Lib.hid hnew
        have hcase : (y2 < z2) ∨ (y2 = z2 ∧ y1 < z1) ∨ (y2 = z2 ∧ ¬ y1 < z1) ∨ (¬ y2 < z2 ∧ y2 ≠ z2) := by omega
        replace hy := Lib.hid hy
        have hk2 : k < n := hlt
        have c00 := Lib.hid (And.intro z0 z1')
        rcases hcase with q | ⟨q, r⟩ | ⟨q, r⟩ | ⟨q, r⟩
        · have g1 : decide (y2 < z2) = true := decide_eq_true q
          have hle : Hid (eLe (y1, y2) (z1, z2)) := by show eLe _ _; unfold eLe; simp only; omega
          replace q := Lib.hid q
          go_wp2_with fail
          go_quiet (fail)
          go_wp2_with fail
          have s2 := ((hs.drewN nq).store0 (B := []) (ii y1) (i := 0)).store0 (B := []) (ii y2) (i := 1)
          exact ⟨hnew.out hle.out _ s2, by simp [intOf]; omega⟩
        · have g1 : decide (y2 < z2) = false := decide_eq_false (by omega)
          have g2 : (y2 == z2) = true := by simpa using q
          have g3 : decide (y1 < z1) = true := decide_eq_true r
          have hle : Hid (eLe (y1, y2) (z1, z2)) := by show eLe _ _; unfold eLe; simp only; omega
          replace q := Lib.hid q
          replace r := Lib.hid r
          go_wp2_with fail
          go_quiet (fail)
          go_wp2_with fail
          have s2 := ((hs.drewN nq).store0 (B := []) (ii y1) (i := 0)).store0 (B := []) (ii y2) (i := 1)
          exact ⟨hnew.out hle.out _ s2, by simp [intOf]; omega⟩
        · have g1 : decide (y2 < z2) = false := decide_eq_false (by omega)
          have g2 : (y2 == z2) = true := by simpa using q
          have g3 : decide (y1 < z1) = false := decide_eq_false r
          have hle : Hid (eLe (z1, z2) (y1, y2)) := by show eLe _ _; unfold eLe; simp only; omega
          replace q := Lib.hid q
          replace r := Lib.hid r
          go_wp2_with fail
          go_quiet (fail)
          go_wp2_with fail
          exact ⟨hstay.out hle.out _ (hs.drewN nq), by simp [intOf]; omega⟩
        · have g1 : decide (y2 < z2) = false := decide_eq_false (by omega)
          have g2 : (y2 == z2) = false := by simpa using r
          have hle : Hid (eLe (z1, z2) (y1, y2)) := by show eLe _ _; unfold eLe; simp only; omega
          replace q := Lib.hid q
          replace r := Lib.hid r
          go_wp2_with fail
          go_quiet (fail)
          go_wp2_with fail
          exact ⟨hstay.out hle.out _ (hs.drewN nq), by simp [intOf]; omega⟩
      · have d1 : (n : Int) ≤ (k : Int) := by omega
        have hkn : k = L.length := by have := hn.out; omega
        have hfin : NextPost L w (.returned (.tuple #[ii z1, ii z2, .bool true])) wr := ⟨hs.tail, .inr ⟨(z1, z2), List.mem_of_mem_take hz.out, fun y hy => hmin.out y (by rw [hkn, List.take_length]; exact hy), rfl⟩⟩
        replace hkn := Lib.hid hkn
        replace hfin := Lib.hid hfin
        go_wp2_with fail
        go_quiet (fail)
        go_wp2_with fail
        go_ret3
        exact ⟨hfin.out.1.drewN _, hfin.out.2⟩
end Go.Proofs.Ytcocgljaifnmnaa
