/- The reference's log: read. -/
import Derived.Test.YtdolbeonpkanpaaGreatDoorMFrC
import Derived.Test.YtdolbeonpkanpaaGreatDoorMOrB
import Derived.Test.YtdolbeonpkanpaaGreatDoorSrC
set_option linter.unusedVariables false
set_option linter.unusedSimpArgs false
namespace Go.Proofs.YtdolbeonpkanpaaGreatDoor
open Go.RowKit
attribute [local go_sem ↓] Go.wp_at_zero Go.wp_at_succ

/-- How many bytes records take. -/
def recsB (l : List (List UInt8)) : Nat := (l.map fun q => q.length + 12).sum
theorem recsB_snoc (l : List (List UInt8)) (q : List UInt8) : recsB (l ++ [q]) = recsB l + (q.length + 12) := by simp [recsB]
theorem recsB_take {l : List (List UInt8)} {i : Nat} {q : List UInt8} (h : l[i]? = some q) : recsB (l.take (i + 1)) = recsB (l.take i) + (q.length + 12) := by
  obtain ⟨hi, rfl⟩ := List.getElem?_eq_some_iff.1 h
  rw [List.take_succ_eq_append_getElem hi, recsB_snoc]
theorem recsB_le (l : List (List UInt8)) (i : Nat) : recsB (l.take i) ≤ recsB l := by
  have : recsB l = recsB (l.take i) + recsB (l.drop i) := by
    unfold recsB
    rw [← List.sum_append, ← List.map_append, List.take_append_drop]
  omega
theorem recsB_len : ∀ qs : List (List UInt8), qs.length * 12 ≤ recsB qs
  | [] => Nat.zero_le _
  | q :: qs => by have ih := recsB_len qs; simp only [recsB, List.map_cons, List.sum_cons, List.length_cons] at ih ⊢; omega
/-- The first i records are entries, es. -/
def RowsTo (qs : List (List UInt8)) (n i : Nat) (es : List (List UInt8)) : Prop :=
  es.length = i ∧ rdRows qs n = (es ++ (rdRows (qs.drop i) (n + i)).1, recsB (qs.take i) + (rdRows (qs.drop i) (n + i)).2)
theorem rowsTo_zero (qs : List (List UInt8)) (n : Nat) : RowsTo qs n 0 [] := ⟨rfl, by simp [recsB]⟩
theorem rowsTo_go {qs : List (List UInt8)} {n i : Nat} {es : List (List UInt8)} (h : RowsTo qs n i es) {q : List UInt8} (hq : qs[i]? = some q) (h1 : (rdNum q).1 = 0 ∧ (rdNum q).2.1 = ((n + i : Nat) : Int)) : RowsTo qs n (i + 1) (es ++ [(rdNum q).2.2]) := by
  obtain ⟨h2, h3⟩ := h
  obtain ⟨hi, hqe⟩ := List.getElem?_eq_some_iff.1 hq
  refine ⟨by rw [List.length_append, h2]; rfl, ?_⟩
  rw [h3, List.drop_eq_getElem_cons hi, hqe, rdRows, if_pos h1, recsB_take hq]
  simp only [List.append_assoc, List.singleton_append, Prod.mk.injEq]
  exact ⟨by rw [Nat.add_assoc], by rw [← Nat.add_assoc n]; omega⟩
theorem rowsTo_stop {qs : List (List UInt8)} {n i : Nat} {es : List (List UInt8)} (h : RowsTo qs n i es) {q : List UInt8} (hq : qs[i]? = some q) (h1 : ¬ ((rdNum q).1 = 0 ∧ (rdNum q).2.1 = ((n + i : Nat) : Int))) : rdRows qs n = (es, recsB (qs.take i)) ∧ recsB (qs.take i) + 12 ≤ recsB qs := by
  obtain ⟨h2, h3⟩ := h
  obtain ⟨hi, hqe⟩ := List.getElem?_eq_some_iff.1 hq
  have h4 := recsB_le qs (i + 1)
  rw [recsB_take hq] at h4
  refine ⟨?_, by omega⟩
  rw [h3, List.drop_eq_getElem_cons hi, hqe, rdRows, if_neg h1]
  simp
theorem rowsTo_end {qs : List (List UInt8)} {n i : Nat} {es : List (List UInt8)} (h : RowsTo qs n i es) (hi : qs.length ≤ i) : rdRows qs n = (es, recsB qs) := by
  obtain ⟨h2, h3⟩ := h
  rw [h3, List.drop_eq_nil_of_le hi, List.take_of_length_le hi, rdRows]
  simp
def R5Post (l : List UInt8) (n : Nat) (w : World) (e : Ending) (w' : World) : Prop :=
  ∃ (a : Option Addr) (c : Nat) (X : List Rw) (O : Heaplet), e = .returned (.tuple #[.slice a X.length c, iv (rdSeg l n).2, .bool (decide ((rdSeg l n).2 = l.length))]) ∧ rwD X = (rdSeg l n).1 ∧ RowsRep a c X O ∧ Sp w [] w' [O, rwH X]
def R5Rel (qs : List (List UInt8)) (n : Nat) (G XH : Heaplet) (w : World) (v9 v10 v11 : Value) (wr : World) : Prop :=
  ∃ (i : Nat) (es : List (List UInt8)) (a c : _) (X : List Rw) (O : Heaplet), v11 = iv i ∧ i ≤ qs.length ∧ RowsTo qs n i es ∧ v10 = iv (recsB (qs.take i)) ∧ v9 = .slice a i c ∧ rwD X = es ∧ RowsRep a c X O ∧ Sp w [] wr [G, XH, O, rwH X]
set_option maxHeartbeats 1000000 in
set_option maxRecDepth 100000 in
theorem read5_any (a : Option Addr) (c : Nat) (l : List UInt8) (n : Nat) (w : World) (h : RdBytes w a l.length c l) (hl : l.length ≤ 1073741824) (hn : n ≤ 4398046511104) :
    Calls Tryz.prog 58 #[.slice a l.length c, iv n] w (R5Post l n w) := by
  have hsc := Lib.hid (scan_any a l.length c l w h hl)
  have hle := scan_le _ l rfl
  obtain ⟨⟨qs, tt⟩, hq⟩ : ∃ r, r = scanN l := ⟨_, rfl⟩
  have hseg : Hid (rdSeg l n = rdRows qs n) := by show _ = _; unfold rdSeg; rw [← hq]
  rw [← hq] at hsc hle
  simp only at hle
  obtain ⟨ht, hts⟩ := hle
  have hts : recsB qs = tt := hts
  rw [← hts] at ht
  have hql := recsB_len qs
  clear hts
  replace hq := Lib.hid hq
  go_enter Tryz.func58, Tryz.ntmps58
  go_wp2_with fail
  refine hsc.out.mono ?_
  rintro e w1 ⟨a1, c1, X1, G, rfl, hX, hr, sp⟩
  simp only at hX
  have hXl : X1.length = qs.length := by rw [← hX, rwD_len]
  have hin : Hid (R5Rel qs n G (rwH X1) w (.slice none 0 0) (iv 0) (iv 0) w1) := ⟨0, [], none, 0, [], [], rfl, Nat.zero_le _, rowsTo_zero qs n, rfl, rfl, rfl, rowsRep_nil, sp.perm (by simp [rwH])⟩
  rw [hXl]
  replace hX := Lib.hid hX
  replace hXl := Lib.hid hXl
  clear sp
  go_wp2_with fail
  go_loopw [9, 10, 11] (fun v9 v10 v11 wr => R5Rel qs n G (rwH X1) w v9 v10 v11 wr) (fun _ _ v _ => qs.length - (intOf v).toNat)
  case atStart => exact hin.out
  case round =>
    clear hin
    obtain ⟨i, es, a2, c2, X2, O, rfl, hi, hto, rfl, rfl, hX2, hr2, sp⟩ := hrel
    have i0 : (0 : Int) ≤ (i : Int) := by omega
    by_cases hlt : i < qs.length
    · have i1 : (i : Int) < (qs.length : Int) := by omega
      obtain ⟨x, hx⟩ : ∃ x, X1[i]? = some x := ⟨_, List.getElem?_eq_getElem (by rw [hXl.out]; exact hlt)⟩
      have hqx : qs[i]? = some x.d := by rw [← hX.out]; unfold rwD; rw [List.getElem?_map, hx]; rfl
      obtain ⟨g, rfl, hcx, hc1⟩ := rows_at hr (sp.own 0 rfl) hx
      rw [hXl.out] at hc1
      have hc1i : (qs.length : Int) ≤ (c1 : Int) := by omega
      obtain ⟨rb, hrb⟩ : ∃ z, z = wr.heap.size := ⟨_, rfl⟩
      have s1 : Sp w [] _ [G, rwH X1, O, rwH X2, [(wr.heap.size, .cells #[.slice x.a x.d.length x.c, iv 0] 151 (0, 0))]] := sp.alloc _
      have hxo := hr.2 x (List.mem_of_getElem? hx)
      obtain ⟨A, B, hAB⟩ := rw_at hx
      have hnum := Lib.hid (fun V (sV : Sp w [] V [G, rwH X1, O, rwH X2, [(rb, .cells #[.slice x.a x.d.length x.c, iv 0] 151 (0, 0))]]) => rrnum_any rb x.d (OwnR x.H) [(rb, .cells #[.slice x.a x.d.length x.c, iv 0] 151 (0, 0))] V ⟨x.a, x.c, inB_sl hxo, rfl⟩ (sV.own 4 rfl) (fun w' H' st => by
        have := (sV.put 4 rfl st).own 1 rfl
        rw [hAB] at this
        exact this.right.left))
      have hxl : x.d.length ≤ 1073741824 := by
        have h1 := recsB_take hqx
        have h2 := recsB_le qs (i + 1)
        omega
      have hrl := (rdNum_suf x.d).2
      obtain ⟨⟨re, rv, rr⟩, hrn⟩ : ∃ r, r = rdNum x.d := ⟨_, rfl⟩
      rw [← hrn] at hnum hrl
      simp only at hrl
      have hq2 : IntKind.i64.wrap ((n : Int) + (i : Int)) = (n : Int) + (i : Int) := IntWalk.i64_in _ (by omega)
      rw [← hrb] at s1
      have glt := World.block_lt_of_cell? wr _ hcx
      replace hx := Lib.hid hx
      replace hAB := Lib.hid hAB
      replace hrn := Lib.hid hrn
      replace hqx := Lib.hid hqx
      replace hX2 := Lib.hid hX2
      replace hr2 := Lib.hid hr2
      go_upto_region 8 with fail
      refine Sp.gen s1 ?_
      rw [← hrb]
      clear s1 sp hcx glt hrb
      intro W s2
      go_wp2_with fail
      refine (hnum.out W s2).mono ?_
      rintro e w2 ⟨rfl, H', ⟨ar, cr, hinr, rfl⟩, st⟩
      simp only at hinr
      have s3 : Sp w [] w2 [G, rwH X1, O, rwH X2, [(rb, .cells #[.slice ar rr.length cr, iv re] 151 (0, 0))]] := s2.put 4 rfl st
      clear st s2 hnum
      have y0 : w2.cell? ⟨rb, 0, none⟩ = some (.slice ar rr.length cr) := cell_of (s3.own 4 rfl).h0 rfl
      have y1 : w2.cell? ⟨rb, 1, none⟩ = some (iv re) := cell_of (s3.own 4 rfl).h0 rfl
      have ylt := heap_lt (s3.own 4 rfl).h0
      by_cases hok : re = 0 ∧ rv = ((n + i : Nat) : Int)
      · obtain ⟨hre, hv⟩ := hok
        subst hre
        have q9 : (rv != (n : Int) + (i : Int)) = false := by rw [hv]; simp
        have hto2 := rowsTo_go hto hqx.out (by rw [← hrn.out]; exact ⟨rfl, hv⟩)
        rw [← hrn.out] at hto2
        simp only at hto2
        have hXi : X2.length = i := by rw [← rwD_len, hX2.out, hto.1]
        have hr2n : Hid (SlRep 23 1 a2 i c2 (X2.map Rw.val) O) := by rw [← hXi]; exact hr2.out.1
        have hcg : Hid (∀ V, Own V G → V.cell? ⟨g, i, none⟩ = some (.slice x.a x.d.length x.c)) := fun V o => by
          obtain ⟨g', e, z, _⟩ := rows_at hr o hx.out
          cases e
          exact z
        have hrb : Hid (∀ V, Own V (rwH X1) → RdBytes V ar rr.length cr rr) := fun V o => hinr.1 V (by have h2 := hAB.out; rw [h2] at o; exact o.right.left)
        obtain ⟨at1, hat⟩ : ∃ z, z = recsB (qs.take i) := ⟨_, rfl⟩
        have hat1 : recsB (qs.take (i + 1)) = at1 + (x.d.length + 12) := by rw [hat, recsB_take hqx.out]
        have hat2 := recsB_le qs (i + 1)
        have w1 : IntKind.i64.wrap ((at1 : Int) + (x.d.length : Int)) = (at1 : Int) + (x.d.length : Int) := IntWalk.i64_in _ (by omega)
        have w2' : IntKind.i64.wrap ((at1 : Int) + (x.d.length : Int) + 12) = (recsB (qs.take (i + 1)) : Int) := by rw [IntWalk.i64_in _ (by omega), hat1]; omega
        rw [← hat]
        replace hv := Lib.hid hv
        replace hat := Lib.hid hat
        replace hat1 := Lib.hid hat1
        replace hXi := Lib.hid hXi
        replace hto2 := Lib.hid hto2
        clear hto hat2
        go_upto_region 11 with fail
        refine Sp.gen s3 ?_
        clear s3 y0 y1 ylt
        intro W3 s3
        have y0 : W3.cell? ⟨rb, 0, none⟩ = some (.slice ar rr.length cr) := cell_of (s3.own 4 rfl).h0 rfl
        have ylt := heap_lt (s3.own 4 rfl).h0
        have s4 : Sp w [] _ [G, rwH X1, O, rwH X2, [(rb, .cells #[.slice ar rr.length cr, iv 0] 151 (0, 0))], [(W3.heap.size, .cells #[] 5 (0, 0))]] := s3.alloc _
        have flag1 : Hid True := trivial
        go_wp2_with (at_builtin; first
          | (clear flag1
             refine wpList_app rfl st_u8 _ _ rfl (by rfl) (by rfl) (SlRep.made _ _ _) (s4.own 5 rfl) (rdBytes_cells (hrb.out _ (s4.own 1 rfl))) (by unfold maxLen; omega) (by omega) ?_
             intro a5 c5 w5 H5 hv5 hst5
             have s5 : Sp w [] w5 [G, rwH X1, O, rwH X2, [(rb, .cells #[.slice ar rr.length cr, iv 0] 151 (0, 0))], H5] := s4.put 5 rfl hst5
             clear hst5 s4 s3 y0 ylt
             replace hv5 := Lib.hid hv5
             have s6 : Sp w [] _ [G, rwH X1, O, rwH X2, [(rb, .cells #[.slice ar rr.length cr, iv 0] 151 (0, 0))], H5, [(w5.heap.size, .cells #[.slice a5 (0 + rr.length) c5] 23 (0, 0))]] := s5.alloc _
             rw [Nat.zero_add] at s6)
          | (refine wpList_app rfl st_rows _ _ rfl (by rfl) (by rfl) hr2n.out (s6.own 2 rfl) (rdCells_block (s6.own 6 rfl).h0 rfl (by simp [Value.oneCell'])) (by unfold maxLen; omega) (by omega) ?_
             intro a9 c9 w9 H9 hv9 hst9
             have s9 : Sp w [] w9 [G, rwH X1, H9, rwH X2, [(rb, .cells #[.slice ar rr.length cr, iv 0] 151 (0, 0))], H5, _] := s6.put 2 rfl hst9
             clear hst9
             have hz := hcg.out _ (s9.own 0 rfl)
             replace hv9 := Lib.hid hv9))
        have hv5 := hv5.out
        rw [Nat.zero_add, List.nil_append] at hv5
        refine ⟨⟨i + 1, es ++ [rr], a9, c9, X2 ++ [⟨a5, c5, rr, H5⟩], H9, by go_num, hlt, hto2.out, rfl, rfl, by rw [rwD_snoc, hX2.out], rowsRep_snoc (x := ⟨a5, c5, rr, H5⟩) hv9.out (by rw [hXi.out]) hr2.out.2 hv5, ?_⟩, by simp [intOf]; omega⟩
        rw [rwH_snoc]
        have s10 : Sp w [] _ [G, rwH X1, H9, rwH X2, H5] := ((s9.forget 4 rfl).forget 6 rfl).perm (by simp)
        exact s10.perm (Gs := [G, rwH X1, H9, rwH X2 ++ H5]) (by simp)
      · have hstop := rowsTo_stop hto hqx.out (by rw [← hrn.out]; exact hok)
        have hXi : X2.length = i := by rw [← rwD_len, hX2.out, hto.1]
        have hfin : Hid (∀ V, Sp w [] V [G, rwH X1, O, rwH X2, [(rb, .cells #[.slice ar rr.length cr, iv re] 151 (0, 0))]] → R5Post l n w (.returned (.tuple #[.slice a2 i c2, iv (recsB (qs.take i)), .bool false])) V) := fun V sV => by
          refine ⟨a2, c2, X2, O, ?_, by rw [hseg.out, hstop.1]; exact hX2.out, hr2.out, (((sV.forget 0 rfl).forget 1 rfl).forget 4 rfl).perm (by simp)⟩
          rw [hseg.out, hstop.1, hXi, decide_eq_false (show ¬ recsB (qs.take i) = l.length by have := hstop.2; omega)]
        clear hstop hXi hto
        by_cases h0 : re = 0
        · have q9 : (rv != (n : Int) + (i : Int)) = true := by rw [bne_iff_ne]; intro e; exact hok ⟨h0, by rw [e]; omega⟩
          subst h0
          replace hok := Lib.hid hok
          go_wp2_with fail
          go_ret3
          exact hfin.out _ s3
        · have q8 : ((re : Int) != 0) = true := by rw [bne_iff_ne]; omega
          replace hok := Lib.hid hok
          replace h0 := Lib.hid h0
          go_wp2_with fail
          go_ret3
          exact hfin.out _ s3
    · have i1 : (qs.length : Int) ≤ (i : Int) := by omega
      have hii : i = qs.length := by omega
      have he := rowsTo_end hto (by omega)
      have htk : qs.take i = qs := List.take_of_length_le (by omega)
      have hXi : X2.length = i := by rw [← rwD_len, hX2, hto.1]
      have hfin : Hid (∀ V, Sp w [] V [G, rwH X1, O, rwH X2] → R5Post l n w (.returned (.tuple #[.slice a2 i c2, iv (recsB qs), .bool (decide (recsB qs = l.length))])) V) := fun V sV => by
        refine ⟨a2, c2, X2, O, by rw [hseg.out, he, hXi], by rw [hseg.out, he]; exact hX2, hr2, ?_⟩
        exact ((sV.forget 0 rfl).forget 1 rfl).perm (by simp)
      rw [htk]
      have hqd : ((recsB qs : Int) == (l.length : Int)) = decide (recsB qs = l.length) := by
        by_cases e : recsB qs = l.length
        · rw [e]; simp
        · rw [decide_eq_false e]; exact beq_eq_false_iff_ne.2 (by omega)
      clear hii hXi hX2 htk he hto
      go_wp2_with fail
      go_ret3
      exact hfin.out _ sp
end Go.Proofs.YtdolbeonpkanpaaGreatDoor
