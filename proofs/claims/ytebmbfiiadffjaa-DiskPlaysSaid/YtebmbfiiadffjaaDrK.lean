/- The reference's disk: Rename. -/
import Derived.Test.YtebmbfiiadffjaaDrG
import Derived.Test.YtebmbfiiadffjaaDrD
namespace Go.Proofs.Ytebmbfiiadffjaa
open Go.RowKit
attribute [local go_sem ↓] Go.wp_at_zero Go.wp_at_succ

theorem rk_ins {b i c n : Nat} {k : Dk} {a : Option Addr} {X : List Re} {R R0 H : Heaplet} {nm : Nm} {v : List UInt8 × Nat} {y : Re} {w wc : World} (hkk : X.map Re.key = k.L) (hie : i = spotN k.L nm) (hok : ∀ x ∈ X, x.ok) (hlf : leftI k.left ≤ 9223372036854775807) (hle : i ≤ X.length) (hn : n = X.length + 1) (hy : y.ok) (hyk : y.key = (nm, v))
    (hr : SlRep 77 3 a n c ((X.take i).flatMap Re.cells ++ y.cells ++ (X.drop i).flatMap Re.cells) R)
    (s : Sp w H wc [[(b, robj k.room a n c (leftI k.left))], R0, X.flatMap Re.H, R, y.H]) : ∃ H', RkRep b { k with L := insF k.L nm v } H' ∧ Step w H wc H' := by
  have hlen : (X.take i ++ y :: X.drop i).length = n := by simp; omega
  refine ⟨(b, robj k.room a n c (leftI k.left)) :: (R ++ (X.take i ++ y :: X.drop i).flatMap Re.H), ⟨a, c, R, X.take i ++ y :: X.drop i, ?_, fun z hz => ?_, ?_, hlf, by rw [hlen]⟩, ?_⟩
  · rw [hlen]
    simpa [List.flatMap_append] using hr
  · rcases List.mem_append.1 hz with hz | hz
    · exact hok z (List.mem_of_mem_take hz)
    · rcases List.mem_cons.1 hz with rfl | hz
      · exact hy
      · exact hok z (List.mem_of_mem_drop hz)
  · show _ = insF k.L nm v
    unfold insF
    rw [← hie, ← hkk, List.map_append, List.map_cons, List.map_take, List.map_drop, hyk]
  · have s2 := s.forget 1 rfl
    simp only [List.set_cons_succ, List.set_cons_zero] at s2
    refine (s2.perm (Gs := [_]) ?_).out (List.flatten_singleton ..)
    simp only [List.flatten_cons, List.flatten_nil, List.append_nil, List.cons_append, List.nil_append, List.flatMap_append, List.flatMap_cons]
    refine List.Perm.cons _ ?_
    have e : X.flatMap Re.H = (X.take i).flatMap Re.H ++ (X.drop i).flatMap Re.H := by rw [← List.flatMap_append, List.take_append_drop]
    rw [e]
    refine (List.perm_append_comm_assoc _ _ _).trans ?_
    refine List.Perm.append_left _ ?_
    rw [List.append_assoc]
    exact List.Perm.append_left _ List.perm_append_comm
set_option maxHeartbeats 4000000 in
set_option maxRecDepth 100000 in
theorem rrename_no (b : Nat) (k : Dk) (H : Heaplet) (old nm : Nm) (w : World) (h : RkRep b k H) (hk : k.Ok) (hw : Own w H) (hno : ¬ (mayN k [old, nm] = 0 ∧ isF k.L old = true ∧ old ≠ nm)) :
    Calls Try.prog 43 #[pt b, strV old, strV nm] w (RkPost b (gateN [old, nm] (rnI old nm) k) H w) := by
  have s1 := (Sp.start hw).alloc (.cells #[strV old, strV nm] 9)
  have hmy := Lib.hid (may_any b k H w.heap.size 2 [old, nm] _ h (s1.own 0 rfl) (rdStrs_two w old nm) (Nat.le_refl _) (by decide))
  have hsp := Lib.hid (fun W hW => spot_any b k H old W h hW (by have := hk.many; omega))
  have hmp := Lib.hid (fun hm W G (s : Step w H W (H ++ G)) => may_post (op := rnI old nm) (names := [old, nm]) h hm s)
  replace s1 := Lib.hid s1
  have hrep := Lib.hid h
  obtain ⟨m, hm⟩ : ∃ m, m = mayN k [old, nm] := ⟨_, rfl⟩
  rw [← hm] at hmy hmp hno
  by_cases hm0 : m = 0
  · subst hm0
    by_cases hi : isF k.L old = true
    · have hon : old = nm := by
        by_cases e : old = nm
        · exact e
        · exact absurd ⟨rfl, hi, e⟩ hno
      subst hon
      rw [hi] at hsp
      have hg : Hid (gateN [old, old] (rnI old old) k = (0, didN k)) := by
        refine gate_yes hm.symm ?_
        unfold rnI
        rw [if_pos hi, if_pos rfl]
      have hdid := Lib.hid (fun k' H W h hW => did_any b k' H W h hW)
      have d1 : (⟨old.toArray⟩ : ByteArray).toList = old := by rw [ByteArray.toList_eq]
      replace hm := Lib.hid hm
      clear hi h hno
      go_enter Try.func43, Try.ntmps43
      go_wp2_with fail
      refine hmy.out.mono ?_
      rintro e w2 ⟨rfl, hst⟩
      have s2 : Sp w H w2 [H] := (s1.out.still hst).forget 1 rfl |>.perm (by simp)
      clear hst
      go_wp2_with fail
      refine (hsp.out _ (s2.own 0 rfl)).mono ?_
      rintro e w3 ⟨rfl, hst⟩
      replace s2 := s2.still hst
      go_wp2_with fail
      refine (hdid.out _ _ _ hrep.out (s2.own 0 rfl)).mono ?_
      rintro e w4 ⟨rfl, H4, hr4, hst4⟩
      go_wp2_with fail
      go_ret
      rw [hg.out]
      exact ⟨rfl, H4, hr4, (s2.put 0 rfl hst4).out (by simp)⟩
    · have hnf : isF k.L old = false := by simpa using hi
      rw [hnf] at hsp
      have hg : Hid (gateN [old, nm] (rnI old nm) k = (7, k)) := gate_no hm.symm (by unfold rnI; rw [if_neg hi]) (by decide)
      replace hm := Lib.hid hm
      clear hi hnf h hno
      go_enter Try.func43, Try.ntmps43
      go_wp2_with fail
      refine hmy.out.mono ?_
      rintro e w2 ⟨rfl, hst⟩
      have s2 : Sp w H w2 [H] := (s1.out.still hst).forget 1 rfl |>.perm (by simp)
      clear hst
      go_wp2_with fail
      refine (hsp.out _ (s2.own 0 rfl)).mono ?_
      rintro e w3 ⟨rfl, hst⟩
      replace s2 := s2.still hst
      go_wp2_with fail
      go_ret
      rw [hg.out]
      exact ⟨rfl, H, hrep.out, s2.out (by simp)⟩
  · have q0 : ((m : Int) != 0) = true := by rw [bne_iff_ne]; omega
    have hm1 := Lib.hid hm0
    replace hm := Lib.hid hm
    clear hm0 h hno
    go_enter Try.func43, Try.ntmps43
    go_wp2_with fail
    refine hmy.out.mono ?_
    rintro e w2 ⟨rfl, hst⟩
    go_wp2_with fail
    go_ret
    have s2 := s1.out.still hst
    exact hmp.out hm1.out _ _ (s2.out (by simp; rfl))
end Go.Proofs.Ytebmbfiiadffjaa
