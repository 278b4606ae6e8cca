/- The program's log: Names. -/
import Derived.Test.YtdolbeonpkanpaaGreatDoorDrI
import Derived.Test.YtdolbeonpkanpaaGreatDoorMSgC
set_option linter.unusedVariables false
set_option linter.unusedSimpArgs false
namespace Go.Proofs.YtdolbeonpkanpaaGreatDoor
open Go.RowKit
attribute [local go_sem ↓] Go.wp_at_zero Go.wp_at_succ

def lnames (p : Nm) (lg : Lg) : List Nm := lg.segs.map fun g => nameN p g.1
def LnRel (L : List Nm) (w : World) (v3 v13 : Value) (wr : World) : Prop :=
  ∃ (i : Nat) (a : Option Addr) (c : Nat) (H : Heaplet), v13 = iv i ∧ v3 = .slice a i c ∧ i ≤ L.length ∧ SlRep 9 1 a i c ((L.take i).map strV) H ∧ Step w [] wr H
set_option maxHeartbeats 2000000 in
set_option maxRecDepth 100000 in
theorem lnames_any (b d : Nat) (p : Nm) (lg : Lg) (B S E XH : Heaplet) (w w0 : World) (K : Heaplet) (h : LgIs b d p lg B S E XH) (D : Heaplet) (s : Sp w0 K w [D, B, S, E, XH]) (hk : lg.Ok) :
    Calls Tryz.prog 34 #[pt b] w (NamesPost (lnames p lg) w) := by
  obtain ⟨sa, ea, sc, ec, X, hs, hr, hd, rfl, rfl⟩ := h
  have hw1 := s.own 1 rfl
  obtain ⟨c0, c1, c2, c3, c4, c5⟩ := lobj_cells hw1
  have ow := s.own 2 rfl
  obtain ⟨n, hn⟩ : ∃ n, n = lg.segs.length := ⟨_, rfl⟩
  have hnl : Hid ((lnames p lg).length = n) := by show _ = _; rw [lnames, List.length_map, hn]
  have hn4 : n ≤ 4398046511104 := by rw [hn]; exact hk.msegs
  have hrx : Hid (∀ W G i, Step w [] W G → i < n → ∃ (g : Nat) (x : Nm) (y : Nat), (lnames p lg)[i]? = some x ∧ sa = some ⟨g, 0, none⟩ ∧ n ≤ sc ∧ W.cell? ⟨g, i * 2, none⟩ = some (strV x) ∧ W.cell? ⟨g, i * 2 + 1, none⟩ = some (iv y)) := fun W G i st hi => by
    have hx : lg.segs[i]? = some (lg.segs[i]'(by omega)) := List.getElem?_eq_getElem _
    obtain ⟨g, e, k0, _, r0, r1, _⟩ := sg_at hs (ow.after st) hx
    exact ⟨g, _, _, by rw [lnames, List.getElem?_map, hx]; rfl, e, by omega, r0, r1⟩
  rw [← hn] at c2
  replace hn := Lib.hid hn
  clear hs hr hd s
  generalize lnames p lg = L at *
  go_enter Tryz.func34, Tryz.ntmps34
  go_wp2_with fail
  go_loopw [3, 13] (fun v3 v13 wr => LnRel L w v3 v13 wr) (fun _ v _ => n - (intOf v).toNat)
  case atStart => exact ⟨0, none, 0, [], rfl, rfl, Nat.zero_le _, SlRep.nil _ _, Step.refl (Own.nil _)⟩
  case round =>
    clear c0 c1 c2 c3 c4 c5
    obtain ⟨i, a1, c1, H1, rfl, rfl, hi, hv, hs⟩ := hrel
    have i0 : (0 : Int) ≤ (i : Int) := by omega
    rw [hnl.out] at hi
    by_cases hlt : i < n
    · obtain ⟨g, x, y, hx, rfl, k0, r0, r1⟩ := hrx.out _ _ i hs hlt
      have i1 : (i : Int) < (n : Int) := by omega
      have i2 : (n : Int) ≤ (sc : Int) := by omega
      have htk : Hid ((L.take (i + 1)).map strV = (L.take i).map strV ++ [strV x]) := by
        obtain ⟨hl, e⟩ := List.getElem?_eq_some_iff.1 hx
        show _ = _
        rw [List.take_succ_eq_append_getElem hl, e, List.map_append]; rfl
      have s1 := (Sp.of hs).alloc (.cells #[strV x, iv y] 92)
      have s2 : Sp w [] ((wr.alloc (.cells #[strV x, iv y] 92)).alloc (.cells #[strV x] 9)) [H1, [], [(wr.heap.size + 1, .cells #[strV x] 9 (0, 0))]] := by
        have := (s1.forget 1 rfl).alloc (.cells #[strV x] 9)
        simpa using this
      clear hx s1
      replace hrx := Lib.hid hrx
      go_wp2_with (at_builtin; refine wpList_app rfl rst_str _ _ rfl (by rfl) (by rfl) hv (s2.own 0 rfl) (rdCells_new2 rfl (by simp [Value.oneCell'])) (by unfold maxLen; omega) (by omega) ?_; intro a3 c3 w3 H3 hv3 hst3)
      have s3 : Sp w [] w3 [H3, [], _] := s2.put 0 rfl hst3
      refine ⟨⟨i + 1, a3, c3, H3, by go_num, rfl, by rw [hnl.out]; exact hlt, by rw [htk.out]; exact hv3, s3.first⟩, by simp [intOf]; omega⟩
    · have i1 : (n : Int) ≤ (i : Int) := by omega
      have hie : i = n := by omega
      have hfin : Hid (NamesPost L w (.returned (.slice a1 i c1)) wr) := by
        refine ⟨a1, c1, H1, by rw [hnl.out, hie], ?_, hs⟩
        rw [hnl.out, ← hie]
        have := hv
        rw [List.take_of_length_le (by rw [hnl.out]; omega)] at this
        exact this
      clear hie hlt hv
      go_wp2_with fail
      go_ret
      exact hfin.out
end Go.Proofs.YtdolbeonpkanpaaGreatDoor
