/- The reference's disk: Names. -/
import Derived.Test.YtdolbeonpkanpaaGreatDoorDkN
import Derived.Test.YtdolbeonpkanpaaGreatDoorMDrA
set_option linter.unusedVariables false
set_option linter.unusedSimpArgs false
namespace Go.Proofs.YtdolbeonpkanpaaGreatDoor
open Go.RowKit
attribute [local go_sem ↓] Go.wp_at_zero Go.wp_at_succ

theorem rst_str : SlTy Tryz.prog 70 9 1 16 (.string ⟨#[]⟩) := ⟨by kernel_rfl, by kernel_rfl, rfl, by decide⟩
def RnmRel (L : List Fl) (w : World) (v3 v4 : Value) (wr : World) : Prop :=
  ∃ (i : Nat) (a : Option Addr) (c : Nat) (H : Heaplet), v4 = iv i ∧ v3 = .slice a i c ∧ i ≤ L.length ∧ SlRep 9 1 a i c ((L.take i).map fun e => strV e.1) H ∧ Step w [] wr H
set_option maxHeartbeats 2000000 in
set_option maxRecDepth 100000 in
theorem rnames (b : Nat) (k : Dk) (K : Heaplet) (w : World) (h : RkRep b k K) (hk : k.Ok) (hw : Own w K) :
    Calls Tryz.prog 55 #[pt b] w (NamesPost (k.L.map Prod.fst) w) := by
  obtain ⟨a, c, R, X, hr, hok, hkk, hlf, hK⟩ := h
  have hnn : Hid (X.length = k.L.length) := by show _ = _; rw [← hkk, List.length_map]
  obtain ⟨n, hn⟩ : ∃ n, n = k.L.length := ⟨_, rfl⟩
  have hn4 : n ≤ 4096 := by rw [hn]; exact hk.many
  have hrd : Hid (∀ W G, Step w [] W G → W.cell? ⟨b, 1, none⟩ = some (.slice a n c)) := fun W G s => by
    have h0 := (own_after hw s).own.left
    rw [hK] at h0
    have ⟨_, c1, _⟩ := cells3 h0.h0
    rw [hn, ← hnn.out]; exact c1
  have hrx : Hid (∀ W G i (x : Fl), Step w [] W G → k.L[i]? = some x → ∃ g, a = some ⟨g, 0, none⟩ ∧ n ≤ c ∧ W.cell? ⟨g, i * 3, none⟩ = some (strV x.1)) := fun W G i x s hx => by
    have h0 := (own_after hw s).own.left
    rw [hK] at h0
    rw [← hkk, List.getElem?_map] at hx
    obtain ⟨y, hy, rfl⟩ := Option.map_eq_some_iff.1 hx
    obtain ⟨g, e, k0, k1, r0, _⟩ := re_at hr h0.tail.left hy
    exact ⟨g, e, by rw [hn, ← hnn.out]; exact k0, r0⟩
  have hlm : Hid ((k.L.map Prod.fst).length = n) := by show _ = _; rw [List.length_map, hn]
  replace hn := Lib.hid hn
  clear hr hok hkk hlf hK
  go_enter Tryz.func55, Tryz.ntmps55
  go_wp2_with fail
  go_loopw [3, 4] (fun v3 v4 wr => RnmRel k.L w v3 v4 wr) (fun _ v _ => n - (intOf v).toNat)
  case atStart => exact ⟨0, none, 0, [], rfl, rfl, Nat.zero_le _, SlRep.nil _ _, Step.refl (Own.nil _)⟩
  case round =>
    obtain ⟨i, a1, c1, H1, rfl, rfl, hi, hv, hs⟩ := hrel
    have q0 := hrd.out _ _ hs
    have i0 : (0 : Int) ≤ (i : Int) := by omega
    rw [← hn.out] at hi
    by_cases hlt : i < n
    · obtain ⟨x, hx⟩ : ∃ x, k.L[i]? = some x := ⟨_, List.getElem?_eq_getElem (by rw [← hn.out]; exact hlt)⟩
      obtain ⟨g, rfl, k0, r0⟩ := hrx.out _ _ i x hs hx
      have i1 : (i : Int) < (n : Int) := by omega
      have i2 : (n : Int) ≤ (c : Int) := by omega
      have htk : Hid ((k.L.take (i + 1)).map (fun e => strV e.1) = (k.L.take i).map (fun e => strV e.1) ++ [strV x.1]) := by
        obtain ⟨hl, e⟩ := List.getElem?_eq_some_iff.1 hx
        show _ = _
        rw [List.take_succ_eq_append_getElem hl, e, List.map_append]; rfl
      have s2 := (Sp.of hs).alloc (.cells #[strV x.1] 9)
      clear hx
      replace hrx := Lib.hid hrx
      go_wp2_with (at_builtin; refine wpList_app rfl rst_str _ _ rfl (by rfl) (by rfl) hv (s2.own 0 rfl) (rdCells_block (heap_alloc_new _ _) rfl (by simp [Value.oneCell'])) (by unfold maxLen; omega) (by omega) ?_; intro a3 c3 w3 H3 hv3 hst3)
      have s3 := s2.put 0 rfl hst3
      simp only [List.set_cons_zero, List.cons_append, List.nil_append] at s3
      refine ⟨⟨i + 1, a3, c3, H3, by go_num, rfl, by rw [← hn.out]; exact hlt, by rw [htk.out]; exact hv3, s3.first⟩, by simp [intOf]; omega⟩
    · have i1 : (n : Int) ≤ (i : Int) := by omega
      have hie : i = n := by omega
      have hfin : Hid (NamesPost (k.L.map Prod.fst) w (.returned (.slice a1 i c1)) wr) := by
        refine ⟨a1, c1, H1, by rw [hlm.out, hie], ?_, hs⟩
        rw [hlm.out, ← hie, List.map_map]
        have := hv
        rw [List.take_of_length_le (by rw [← hn.out]; omega)] at this
        exact this
      clear hie hlt hv
      go_wp2_with fail
      go_ret
      exact hfin.out
end Go.Proofs.YtdolbeonpkanpaaGreatDoor
