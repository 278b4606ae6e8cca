/- The reference's disk: Rename, whole. -/
import Derived.Test.YtebmbfiiadffjaaDrK
namespace Go.Proofs.Ytebmbfiiadffjaa
open Go.RowKit
attribute [local go_sem ↓] Go.wp_at_zero Go.wp_at_succ

set_option maxHeartbeats 4000000 in
set_option maxRecDepth 100000 in
theorem rrename_yes (b : Nat) (k : Dk) (H : Heaplet) (old nm : Nm) (w : World) (h : RkRep b k H) (hk : k.Ok) (hw : Own w H) (hm : mayN k [old, nm] = 0) (hi : isF k.L old = true) (hon : old ≠ nm) :
    Calls Try.prog 43 #[pt b, strV old, strV nm] w (RkPost b (gateN [old, nm] (rnI old nm) k) H w) := by
  have s1 := (Sp.start hw).alloc (.cells #[strV old, strV nm] 9)
  have hmy := Lib.hid (may_any b k H w.heap.size 2 [old, nm] _ h (s1.own 0 rfl) (rdStrs_two w old nm) (Nat.le_refl _) (by decide))
  rw [hm] at hmy
  have hsp := Lib.hid (fun W hW => spot_any b k H old W h hW (by have := hk.many; omega))
  rw [hi] at hsp
  replace s1 := Lib.hid s1
  have hg : Hid (gateN [old, nm] (rnI old nm) k = (0, didN { k with L := insF (delF (delF k.L old) nm) nm (getF k.L old) })) := by
    refine gate_yes hm ?_
    unfold rnI
    rw [if_pos hi, if_neg hon]
  have hdid := Lib.hid (fun k' H W h hW => did_any b k' H W h hW)
  have l1 : (delF k.L old).length ≤ 4096 := Nat.le_trans (del_sub _ _).length_le hk.many
  have l2 : (delF (delF k.L old) nm).length ≤ 4096 := Nat.le_trans (del_sub _ _).length_le l1
  have hdel2 : Hid (∀ H' W, RkRep b { k with L := delF k.L old } H' → Own W H' → Calls Try.prog 57 #[pt b, strV nm] W fun e w' => e = .returned (.tuple #[]) ∧ ∃ H'' J, RkRep b { k with L := delF (delF k.L old) nm } H'' ∧ Step W H' w' (H'' ++ J)) := fun H' W h hW => by
    obtain ⟨a, c, R, X, hr, hok, hkk, hlf, rfl⟩ := h
    refine (rdel b { k with L := delF k.L old } a c R X nm W hr hok hkk hlf l1 hW).mono ?_
    rintro e w' ⟨rfl, H', J, h1, h2, _⟩
    exact ⟨rfl, H', J, h1, h2⟩
  have hsp2 := Lib.hid (fun H' W h hW => spot_any b { k with L := delF (delF k.L old) nm } H' nm W h hW (Nat.le_trans l2 (by decide)))
  obtain ⟨a, c, R, X, hr, hok, hkk, hlf, hH⟩ := h
  obtain ⟨x, hx, hxn, hget⟩ := re_find hkk hi
  have hxo := hok x (List.mem_of_getElem? hx)
  obtain ⟨i, hie⟩ : ∃ i, i = spotN k.L old := ⟨_, rfl⟩
  have hdel1 : Hid (∀ W, Own W H → Calls Try.prog 57 #[pt b, strV old] W fun e w' => e = .returned (.tuple #[]) ∧ ∃ H', RkRep b { k with L := delF k.L old } H' ∧ Step W H w' (H' ++ x.H)) := fun W hW => by
    rw [hH] at hW ⊢
    refine (rdel b k a c R X old W hr hok hkk hlf hk.many hW).mono ?_
    rintro e w' ⟨rfl, H', J, h1, h2, h3⟩
    rw [h3 hi x hx] at h2
    exact ⟨rfl, H', h1, h2⟩
  have hcs : Hid (∀ W, Own W H → ∃ g n, a = some ⟨g, 0, none⟩ ∧ i < n ∧ n ≤ c ∧ W.cell? ⟨b, 1, none⟩ = some (.slice a n c) ∧ W.cell? ⟨g, i * 3, none⟩ = some (strV old) ∧ W.cell? ⟨g, i * 3 + 1, none⟩ = some (.slice x.a x.d.length x.c) ∧ W.cell? ⟨g, i * 3 + 2, none⟩ = some (iv x.n)) := fun W hW => by
    rw [hH] at hW
    have ⟨_, c1, _⟩ := cells3 hW.h0
    rw [← hie] at hx
    obtain ⟨g, e, k0, k1, r0, r1, r2, _⟩ := re_at hr hW.tail.left hx
    exact ⟨g, X.length, e, (List.getElem?_eq_some_iff.1 hx).1, k0, c1, by rw [← hxn]; exact r0, r1, r2⟩
  rw [← hie] at hsp
  have d1 : (⟨old.toArray⟩ : ByteArray).toList = old := by rw [ByteArray.toList_eq]
  have d2 : (⟨nm.toArray⟩ : ByteArray).toList = nm := by rw [ByteArray.toList_eq]
  have d3 : (old == nm) = false := beq_eq_false_iff_ne.2 hon
  replace hie := Lib.hid hie
  replace hH := Lib.hid hH
  replace hget := Lib.hid hget
  replace hxo := Lib.hid hxo
  clear hr hok hkk hx hxn hi hm hon
  go_enter Try.func43, Try.ntmps43
  go_wp2_with fail
  refine hmy.out.mono ?_
  rintro e w2 ⟨rfl, hst⟩
  have s2 : Sp w H w2 [H] := (s1.out.still hst).forget 1 rfl |>.perm (by simp)
  clear hst
  go_wp2_with fail
  refine (hsp.out _ (s2.own 0 rfl)).mono ?_
  rintro e w3 ⟨rfl, hst⟩
  replace s2 := s2.still hst
  clear hst
  obtain ⟨g, n, rfl, n0, n1, c1, r0, r1, r2⟩ := hcs.out _ (s2.own 0 rfl)
  have b0 := World.block_lt_of_cell? w3 _ c1
  have glt := World.block_lt_of_cell? w3 _ r0
  have i0 : (0 : Int) ≤ (i : Int) := by omega
  have i1 : (i : Int) < (n : Int) := by omega
  have i2 : (n : Int) ≤ (c : Int) := by omega
  go_upto_region 11 with fail
  have s4 : Sp w H _ [H, [(w3.heap.size, .cells #[strV nm, .slice x.a x.d.length x.c, iv x.n] 77)]] := s2.alloc (.cells #[strV nm, .slice x.a x.d.length x.c, iv x.n] 77)
  obtain ⟨fb, hfb⟩ : ∃ fb, fb = w3.heap.size := ⟨_, rfl⟩
  rw [← hfb] at s4 ⊢
  refine Sp.gen s4 ?_
  clear s4 hfb c1 r0 r1 r2 b0 glt
  intro W4 s4
  go_wp2_with fail
  refine (hdel1.out _ (s4.own 0 rfl)).mono ?_
  rintro e w5 ⟨rfl, H5, hr5, hst⟩
  have s5 : Sp w H w5 [H5, x.H, [(fb, .cells #[strV nm, .slice x.a x.d.length x.c, iv x.n] 77)]] := (s4.put 0 rfl hst).perm (by simp)
  clear s4 hst
  go_wp2_with fail
  refine (hdel2.out _ _ hr5 (s5.own 0 rfl)).mono ?_
  rintro e w6 ⟨rfl, H6, J, hr6, hst⟩
  have s6 := s5.put 0 rfl hst.forget
  simp only [List.set_cons_zero] at s6
  clear s5 hst hr5
  go_wp2_with fail
  refine (hsp2.out _ _ hr6 (s6.own 0 rfl)).mono ?_
  rintro e w7 ⟨rfl, hst⟩
  replace s6 := s6.still hst
  clear hst n0 n1 i0 i1 i2
  go_upto_region 14 with fail
  obtain ⟨a, c, R, X, hr, hok, hkk, hlf2, hH6⟩ := hr6
  obtain ⟨j, hj⟩ : ∃ j, j = spotN (delF (delF k.L old) nm) nm := ⟨_, rfl⟩
  obtain ⟨n2, hn2⟩ : ∃ n2, n2 = X.length := ⟨_, rfl⟩
  have hXl : X.length = (delF (delF k.L old) nm).length := by rw [← List.length_map (f := Re.key), hkk]
  have hjn : j ≤ n2 := by rw [hn2, hXl, hj]; exact spot_len _ _
  have hn4 : n2 ≤ 4096 := by omega
  have s8 : Sp w H w7 [[(b, robj k.room a n2 c (leftI k.left))], R, X.flatMap Re.H, x.H, [(fb, .cells #[strV nm, .slice x.a x.d.length x.c, iv x.n] 77)]] := s6.perm (by rw [hH6, hn2]; simp)
  simp only [← hj]
  have hins := Lib.hid (fun a9 c9 R9 W9 n9 hn9 hr9 s => rk_ins (b := b) (i := j) (c := c9) (n := n9) (k := { k with L := delF (delF k.L old) nm }) (a := a9) (X := X) (R := R9) (R0 := R) (H := H) (nm := nm) (v := getF k.L old) (y := ⟨nm, x.a, x.c, x.d, x.n, x.H⟩) (w := w) (wc := W9) hkk hj hok hlf2 (by omega) hn9 hxo.out (by rw [← hget.out]; rfl) hr9 s)
  have j0 : (0 : Int) ≤ (j : Int) := by omega
  have j1 : (j : Int) ≤ (n2 : Int) := by omega
  rw [← hn2] at hr
  have ha : (∃ g, a = some ⟨g, 0, none⟩ ∧ n2 ≤ c ∧ c ≤ maxLen) ∨ (a = none ∧ n2 = 0 ∧ c = 0) := by
    obtain ⟨_, ⟨h1, h2, h3, _⟩ | ⟨g, cur, h1, _, h2, h3, _⟩⟩ := hr
    · exact .inr ⟨h1, h2, h3⟩
    · exact .inl ⟨g, h1, h2, h3⟩
  clear s6 hok hkk hH6 hXl hlf2
  replace hj := Lib.hid hj
  rcases ha with ⟨g, rfl, k0, k1⟩ | ⟨rfl, n0, k0⟩
  · have hrd1 := Lib.hid (fun W (hW : Own W R) c' => slk_rd re_len re_one hr hn2 hW 0 j c' (by omega))
    have hrd2 : Hid (∀ W, Own W R → RdCells W (.slice (if c = j then some ⟨g, 0, none⟩ else some ⟨g, j * 3, none⟩) (n2 - j) (c - j)) (n2 - j) 3 (((X.drop j).take (n2 - j)).flatMap Re.cells)) := fun W hW => by
      have q := slk_rd re_len re_one hr hn2 hW j (n2 - j) (c - j) (by omega)
      split
      · have e0 : n2 - j = 0 := by omega
        rw [e0] at q ⊢
        exact ⟨by simp, by simp, .inr ⟨_, _, rfl, by simp⟩⟩
      · exact q
    have i2 : (n2 : Int) ≤ (c : Int) := by omega
    have i3 : (j : Int) ≤ (c : Int) := by omega
    have hrds : Hid (((X.drop 0).take j).flatMap Re.cells = (X.take j).flatMap Re.cells ∧ ((X.drop j).take (n2 - j)).flatMap Re.cells = (X.drop j).flatMap Re.cells) := by
      refine ⟨by rw [List.drop_zero], ?_⟩
      rw [List.take_of_length_le (by rw [List.length_drop]; omega)]
    clear hr
    replace hn2 := Lib.hid hn2
    have s9 := s8.alloc (.cells #[] 77 (0, 0))
    have ⟨c0, c1, c2⟩ := cells3 (s8.one 0 rfl)
    have ⟨f0, f1, f2⟩ := cells3 (s8.one 4 rfl)
    have b0 := heap_lt (s8.one 0 rfl)
    go_upto_region 15 with (at_builtin; refine wpList_app rfl st_file _ _ rfl (by rfl) (by rfl) (SlRep.made _ _ w7.heap.size) (s9.own 5 rfl) (hrd1.out _ (s9.own 1 rfl) _) (by unfold maxLen; omega) (by omega) ?_; intro a6 c6 w9 H9 hv9 hst9; rw [Nat.zero_add, List.nil_append] at hv9)
    have s10 := (s9.put 5 rfl hst9)
    simp only [List.cons_append, List.nil_append, List.set_cons_succ, List.set_cons_zero] at s10
    have ⟨f0, f1, f2⟩ := cells3 (s10.one 4 rfl)
    have s11 := s10.alloc (.cells #[strV nm, .slice x.a x.d.length x.c, iv x.n] 77)
    go_upto_region 16 with (at_builtin; refine wpList_app rfl st_file _ _ rfl (by rfl) (by rfl) hv9 (s11.own 5 rfl) (rdCells_block (heap_alloc_new _ _) rfl (by simp [Value.oneCell'])) (by unfold maxLen; omega) (by omega) ?_; intro a8 c8 w12 H12 hv12 hst12)
    have s12 := s11.put 5 rfl hst12
    simp only [List.cons_append, List.nil_append, List.set_cons_succ, List.set_cons_zero] at s12
    have ⟨c0, c1, c2⟩ := cells3 (s12.one 0 rfl)
    have b0 := heap_lt (s12.one 0 rfl)
    go_upto_region 17 with (at_builtin; refine wpList_app rfl st_file _ _ rfl (by rfl) (by rfl) hv12 (s12.own 5 rfl) (hrd2.out _ (s12.own 1 rfl)) (by unfold maxLen; omega) (by omega) ?_; intro a9 c9 w13 H13 hv13 hst13; have s13 := s12.put 5 rfl hst13; simp only [List.set_cons_succ, List.set_cons_zero] at s13; have ⟨c0, c1, c2⟩ := cells3 (s13.one 0 rfl); have b0 := heap_lt (s13.one 0 rfl); have fz := fun i => frz_of (i := i) (s13.one 0 rfl))
    all_goals
      have s14 := ((s13.store 0 (j := 1) rfl (.slice a9 (j + 1 + (n2 - j)) c9)).forget 4 rfl).forget 6 rfl
      simp only [List.set_cons_succ, List.set_cons_zero] at s14
      obtain ⟨H9, hrep9, s15⟩ := hins.out a9 c9 H13 _ (j + 1 + (n2 - j)) (by have := hn2.out; omega) (by have q := hv13; rw [hrds.out.1, hrds.out.2] at q; exact q) (s14.perm (by simp; exact List.Perm.append_left _ (List.Perm.append_left _ List.perm_append_comm)))
      go_wp2_with fail
      all_goals
        refine (hdid.out _ _ _ hrep9 s15.own).mono ?_
        rintro e w16 ⟨rfl, H16, hr16, hst16⟩
        go_wp2_with fail
        go_ret
        rw [hg.out]
        exact ⟨rfl, H16, hr16, s15.trans hst16⟩
  · have e0 : j = 0 := by omega
    have hX0 : Hid (X = []) := List.eq_nil_of_length_eq_zero (by omega)
    subst n0 k0 e0
    clear hr
    replace hn2 := Lib.hid hn2
    have s9 := s8.alloc (.cells #[] 77 (0, 0))
    have ⟨c0, c1, c2⟩ := cells3 (s8.one 0 rfl)
    have ⟨f0, f1, f2⟩ := cells3 (s8.one 4 rfl)
    have b0 := heap_lt (s8.one 0 rfl)
    go_upto_region 15 with (at_builtin; refine wpList_app rfl st_file _ _ rfl (by rfl) (by rfl) (SlRep.made _ _ w7.heap.size) (s9.own 5 rfl) (rd_nil _ _) (by unfold maxLen; omega) (by omega) ?_; intro a6 c6 w9 H9 hv9 hst9; rw [Nat.zero_add, List.nil_append] at hv9)
    have s10 := (s9.put 5 rfl hst9)
    simp only [List.cons_append, List.nil_append, List.set_cons_succ, List.set_cons_zero] at s10
    have ⟨f0, f1, f2⟩ := cells3 (s10.one 4 rfl)
    have s11 := s10.alloc (.cells #[strV nm, .slice x.a x.d.length x.c, iv x.n] 77)
    go_upto_region 16 with (at_builtin; refine wpList_app rfl st_file _ _ rfl (by rfl) (by rfl) hv9 (s11.own 5 rfl) (rdCells_block (heap_alloc_new _ _) rfl (by simp [Value.oneCell'])) (by unfold maxLen; omega) (by omega) ?_; intro a8 c8 w12 H12 hv12 hst12)
    have s12 := s11.put 5 rfl hst12
    simp only [List.cons_append, List.nil_append, List.set_cons_succ, List.set_cons_zero] at s12
    have ⟨c0, c1, c2⟩ := cells3 (s12.one 0 rfl)
    have b0 := heap_lt (s12.one 0 rfl)
    go_upto_region 17 with (at_builtin; refine wpList_app rfl st_file _ _ rfl (by rfl) (by rfl) hv12 (s12.own 5 rfl) (rd_nil _ _) (by unfold maxLen; omega) (by omega) ?_; intro a9 c9 w13 H13 hv13 hst13; have s13 := s12.put 5 rfl hst13; simp only [List.set_cons_succ, List.set_cons_zero] at s13; have ⟨c0, c1, c2⟩ := cells3 (s13.one 0 rfl); have b0 := heap_lt (s13.one 0 rfl); have fz := fun i => frz_of (i := i) (s13.one 0 rfl))
    all_goals
      have s14 := ((s13.store 0 (j := 1) rfl (.slice a9 1 c9)).forget 4 rfl).forget 6 rfl
      simp only [List.set_cons_succ, List.set_cons_zero] at s14
      obtain ⟨H9, hrep9, s15⟩ := hins.out a9 c9 H13 _ 1 (by have := hn2.out; omega) (by rw [hX0.out]; exact hv13) (s14.perm (by simp; exact List.Perm.append_left _ (List.Perm.append_left _ List.perm_append_comm)))
      go_wp2_with fail
      all_goals
        refine (hdid.out _ _ _ hrep9 s15.own).mono ?_
        rintro e w16 ⟨rfl, H16, hr16, hst16⟩
        go_wp2_with fail
        go_ret
        rw [hg.out]
        exact ⟨rfl, H16, hr16, s15.trans hst16⟩
theorem rrename (b : Nat) (k : Dk) (H : Heaplet) (old nm : Nm) (w : World) (h : RkRep b k H) (hk : k.Ok) (hw : Own w H) :
    Calls Try.prog 43 #[pt b, strV old, strV nm] w (RkPost b (gateN [old, nm] (rnI old nm) k) H w) := by
  by_cases hh : mayN k [old, nm] = 0 ∧ isF k.L old = true ∧ old ≠ nm
  · exact rrename_yes b k H old nm w h hk hw hh.1 hh.2.1 hh.2.2
  · exact rrename_no b k H old nm w h hk hw hh
end Go.Proofs.Ytebmbfiiadffjaa
