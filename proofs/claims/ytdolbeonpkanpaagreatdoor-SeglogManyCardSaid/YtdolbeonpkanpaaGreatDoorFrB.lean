/- The program's frames: Decode. -/
import Derived.Test.YtdolbeonpkanpaaGreatDoorMOcD
import Derived.Laws.IdiomStrings
import Derived.Laws.BytesString
import Derived.Sort.Walk0
set_option linter.unusedVariables false
set_option linter.unusedSimpArgs false
namespace Go.Proofs.YtdolbeonpkanpaaGreatDoor
open Go.RowKit
attribute [local go_sem ↓] Go.wp_at_zero Go.wp_at_succ

/-- 'string(b)' of bytes that are read. -/
theorem conv_rd {w : World} {a : Option Addr} {n c : Nat} {l : List UInt8} (h : RdBytes w a n c l) : (convert 23 9 (.slice a n c)).run Tryz.prog w = .ok (strV l) w := by
  obtain ⟨rfl, ⟨rfl, rfl, rfl⟩ | ⟨ad, rfl, h1, h2, h3⟩⟩ := h
  · rw [run_convert_bytes_string w _ _ _ _ _ _ Tryz.underlying23 Tryz.underlying5 Tryz.underlying9]
    simp [Conv.bytesToString, loadCells]
    rfl
  · exact run_convert_bytes_back (P := Tryz.prog) w _ _ _ ad c l Tryz.underlying23 Tryz.underlying5 Tryz.underlying9 (fun j hj => h3 j _ (List.getElem?_eq_getElem hj))
set_option maxRecDepth 100000 in
theorem equal_any (a b : Option Addr) (n c m d : Nat) (la lb : List UInt8) (w : World) (ha : RdBytes w a n c la) (hb : RdBytes w b m d lb) :
    Calls Tryz.prog 113 #[.slice a n c, .slice b m d] w fun e w' => e = .returned (.bool (decide (la = lb))) ∧ Step w [] w' [] := by
  have k1 := conv_rd ha
  have k2 := conv_rd hb
  have d1 : (⟨la.toArray⟩ : ByteArray).toList = la := by rw [ByteArray.toList_eq]
  have d2 : (⟨lb.toArray⟩ : ByteArray).toList = lb := by rw [ByteArray.toList_eq]
  by_cases he : la = lb
  · subst he
    have q6 : (la == la) = true := by simp
    go_enter Tryz.func113, Tryz.ntmps113
    go_wp2
    go_ret
    exact ⟨by rw [decide_eq_true trivial]; rfl, Step.refl (Own.nil _)⟩
  · have q6 : (la == lb) = false := beq_eq_false_iff_ne.2 he
    have q7 : decide (la = lb) = false := decide_eq_false he
    replace he := Lib.hid he
    go_enter Tryz.func113, Tryz.ntmps113
    go_wp2
    go_ret
    exact ⟨by rw [q7]; rfl, Step.refl (Own.nil _)⟩
/-- The bytes that are read, as a place of their own. -/
theorem rd_in {w : World} {a : Option Addr} {n c : Nat} {l : List UInt8} (h : RdBytes w a n c l) (hl : l ≠ []) : ∃ g o, a = some ⟨g, o, none⟩ ∧ InB (fun W => RdBytes W a l.length c l) a c l ∧ l.length ≤ c := by
  obtain ⟨g, o, rfl, h1, h2, _⟩ := h.place hl
  obtain rfl := h.1
  exact ⟨g, o, rfl, ⟨fun W hW => hW, .inr ⟨g, o, rfl, h1, h2⟩⟩, h1⟩
def DecPost (r : Nat × List UInt8 × Nat) (w : World) (e : Ending) (w' : World) : Prop :=
  (r.1 ≠ 0 ∧ e = .returned (.tuple #[.slice none 0 0, iv 0, iv r.1]) ∧ Step w [] w' []) ∨
  (r.1 = 0 ∧ ∃ a c G, e = .returned (.tuple #[.slice a r.2.1.length c, iv r.2.2, iv 0]) ∧ SlRep 5 1 a r.2.1.length c (r.2.1.map u8) G ∧ Step w [] w' G)
set_option maxHeartbeats 2000000 in
set_option maxRecDepth 100000 in
theorem decode_any (a : Option Addr) (n c : Nat) (l : List UInt8) (w : World) (h : RdBytes w a n c l) (hl : l.length ≤ 140737488353000) :
    Calls Tryz.prog 88 #[.slice a n c] w (DecPost (decN l) w) := by
  obtain rfl := h.1
  have b1 : (l.length : Int) ≤ 140737488353000 := by omega
  by_cases h8 : l.length < 8
  · have d1 : (l.length : Int) < 8 := by omega
    have e1 : decN l = (2, [], 0) := by unfold decN; rw [if_pos h8]
    rw [e1]
    clear h
    go_enter Tryz.func88, Tryz.ntmps88
    go_wp2
    go_ret3
    exact .inl ⟨by decide, rfl, Step.refl (Own.nil _)⟩
  · have d1 : (8 : Int) ≤ (l.length : Int) := by omega
    obtain ⟨g, o, rfl, hin, hlc⟩ := rd_in h (by intro e; subst e; simp at h8)
    have d2 : (l.length : Int) ≤ (c : Int) := by omega
    have t8 : (l.take 8).length = 8 := by rw [List.length_take]; omega
    have r8 := Lib.hid ((inB_take hin 8).1 w h)
    rw [t8] at r8
    have hnr := Lib.hid (newReader_any (some ⟨g, o, none⟩) 8 c (l.take 8) w r8.out (by omega))
    obtain ⟨m, hm⟩ : ∃ m, m = rd4 (l.take 4) := ⟨_, rfl⟩
    have hm1 : m < 4294967296 := by rw [hm]; exact rd4_lt
    have hm2 : ((l.take 8).take 4) = l.take 4 := by rw [List.take_take]; rfl
    obtain ⟨r, hr⟩ : ∃ r, r = decN l := ⟨_, rfl⟩
    rw [← hr]
    unfold decN at hr
    rw [if_neg h8, ← hm] at hr
    have hh := Lib.hid (fun W => headOf_any m W hm1)
    replace hr := Lib.hid hr
    replace hm := Lib.hid hm
    replace hm2 := Lib.hid hm2
    have d3 : (8 : Int) ≤ (c : Int) := by omega
    replace hin := Lib.hid hin
    replace h := Lib.hid h
    go_enter Tryz.func88, Tryz.ntmps88
    go_wp2_with fail
    refine hnr.out.mono ?_
    rintro e w1 ⟨rb, G, RH, rfl, hrep, s⟩
    go_wp2_with fail
    refine (rfour_any rb (l.take 8) G RH w1 w hrep s (by omega)).mono ?_
    rintro e w2 ⟨rfl, H', hrep2, s⟩
    rw [hm2.out, ← hm.out]
    have s : Sp w [] w2 [] := ((s.forget 0 rfl).forget 1 rfl).perm (by simp)
    clear hrep hrep2 hnr
    go_upto_region 4 with fail
    replace s := s.drew
    by_cases hq : l.take 8 = hdN m
    · replace hr := hr
      refine wp_region_J 6 (fun _ => True) (by kernel_rfl) ?_ (fun hF => ?_)
      · (try dsimp only)
        all_goals (first | (simp [*, World.cell?_alloc_some, World.cell?_setCell_far]; done) | skip)
      refine tk0 (i := 0) (oi := ⟨some 16, .move (.tmp 0), 23, "frame.go:45", #[], none⟩) (v := ?_) rfl (by kernel_rfl) (fun _ _ _ h => h) (fun _ => hF) (fun w => ?_) (by rfl) ?_
      rotate_left
      · first | (go_simp; done) | (go_simp; with_reducible rfl) | (go_split_ands; go_simp; done)
      try simp only [Act.put, nrmA, nrmB, nrmC]
      refine tk0 (i := 1) (oi := ⟨some 17, .slice 23 (.tmp 16) none (some (.const (.int .i64 8))) none, 23, "frame.go:45", #[⟨0, .data⟩], none⟩) (v := ?_) rfl (by kernel_rfl) (fun _ _ _ h => h) (fun _ => hF) (fun w => ?_) (by rfl) ?_
      rotate_left
      · first | (go_simp; done) | (go_simp; with_reducible rfl) | (go_split_ands; go_simp; done)
      try simp only [Act.put, nrmA, nrmB, nrmC]
      refine tk0 (i := 2) (oi := ⟨some 18, .move (.tmp 5), 3, "frame.go:45", #[], none⟩) (v := ?_) rfl (by kernel_rfl) (fun _ _ _ h => h) (fun _ => hF) (fun w => ?_) (by rfl) ?_
      rotate_left
      · first | (go_simp; done) | (go_simp; with_reducible rfl) | (go_split_ands; go_simp; done)
      try simp only [Act.put, nrmA, nrmB, nrmC]
      refine wpAnyJ_ready (rs := [3]) (by kernel_rfl) (by simp) ?_
      refine AllJ.cons1 (o := ⟨some 19, .call { callee := .value (.func 75), args := #[.tmp 18], argTypes := #[3] }, 23, "frame.go:45", #[⟨2, .data⟩], none⟩) rfl (fun Kr hKr => ?_)
      go_simp; go_at_call 75; refine (hh.out _).mono ?_; rintro e w3 ⟨a3, c3, G3, rfl, r3, hst⟩; rw [hdN_len]
      have r3 : SlRep 5 1 a3 8 c3 ((hdN m).map u8) G3 := r3
      have s : Sp w [] w3 [G3] := (Sp.perm s (by simp) : Sp w [] _ []).fresh hst
      clear hst
      refine hKr.out _ _ (fun hJ => ?_) (fun hF => ?_)
      · first
        | exact absurd hJ (by decide)
        | (clear hJ; (try dsimp only); all_goals (first | (simp [*, World.cell?_alloc_some, World.cell?_setCell_far]; done) | skip))
      clear hKr
      try simp only [Act.put, nrmA, nrmB, nrmC]
      refine wpAnyJ_ready (rs := [4]) (by kernel_rfl) (by simp) ?_
      refine AllJ.cons1 (o := ⟨some 20, .call { callee := .value (.func 113), args := #[.tmp 17, .tmp 19], argTypes := #[23, 23] }, 4, "frame.go:45", #[⟨1, .data⟩, ⟨3, .data⟩, ⟨3, .chain⟩], none⟩) rfl (fun Kr hKr => ?_)
      go_simp; go_at_call 113; refine (equal_any _ _ _ _ _ _ (l.take 8) (hdN m) _ (r8.out.later (s.out rfl) (fun _ _ => by simp [dom])) (r3.rdBytes (s.own 0 rfl))).mono ?_; rintro e w4 ⟨rfl, hst⟩; rw [decide_eq_true hq]
      have s : Sp w [] w4 [] := ((s.still hst).forget 0 rfl).perm (by simp)
      clear hst
      refine hKr.out _ _ (fun hJ => ?_) (fun hF => ?_)
      · first
        | exact absurd hJ (by decide)
        | (clear hJ; (try dsimp only); all_goals (first | (simp [*, World.cell?_alloc_some, World.cell?_setCell_far]; done) | skip))
      clear hKr
      try simp only [Act.put, nrmA, nrmB, nrmC]
      refine tk0 (i := 5) (oi := ⟨some 21, .unOp .not 4 (.tmp 20), 4, "frame.go:45", #[⟨4, .data⟩], none⟩) (v := ?_) rfl (by kernel_rfl) (fun _ _ _ h => h) (fun _ => hF (by kernel_rfl)) (fun w => ?_) (by rfl) ?_
      rotate_left
      · first | (go_simp; done) | (go_simp; with_reducible rfl) | (go_split_ands; go_simp; done)
      try simp only [Act.put, nrmA, nrmB, nrmC]
      refine wpAnyJ_ready (rs := [6]) (by kernel_rfl) (by simp) ?_
      refine AllJ.cons1 (o := ⟨some 15, .assign (.tmp 21), 4, "frame.go:45", #[⟨5, .data⟩, ⟨4, .chain⟩], none⟩) rfl (fun Kr hKr => ?_)
      go_simp
      refine hKr.out _ _ (fun hJ => ?_) (fun hF => ?_)
      · first
        | exact absurd hJ (by decide)
        | (clear hJ; (try dsimp only); all_goals (first | (simp [*, World.cell?_alloc_some, World.cell?_setCell_far]; done) | skip))
      clear hKr
      try simp only [Act.put, nrmA, nrmB, nrmC]
      refine wpAnyJ_done (by kernel_rfl) ?_ _
      have hr := hr.out
      rw [if_neg (by simp [hq])] at hr
      by_cases hm5 : 65536 < m
      · have d5 : (65536 : Int) < (m : Int) := by omega
        rw [if_pos hm5] at hr
        go_wp2_with fail
        go_ret3
        rw [hr]
        exact .inl ⟨by decide, rfl, s.out rfl⟩
      · have d5 : (m : Int) ≤ 65536 := by omega
        rw [if_neg hm5] at hr
        by_cases hs : l.length < 12 + m
        · have d6 : (l.length : Int) - 8 - 4 < (m : Int) := by omega
          rw [if_pos hs] at hr
          go_wp2_with fail
          go_ret3
          rw [hr]
          exact .inl ⟨by decide, rfl, s.out rfl⟩
        · have d6 : (m : Int) ≤ (l.length : Int) - 8 - 4 := by omega
          rw [if_neg hs] at hr
          have d7 : (8 : Int) + (m : Int) ≤ (c : Int) := by omega
          have d8 : (12 : Int) + (m : Int) ≤ (c : Int) := by omega
          have d9 : ¬ c = 8 + m := by omega
          have d10 : ¬ c = 8 := by omega
          have hW := h.out.later (s.out rfl) (fun _ _ => by simp [dom])
          have hle : 8 + m ≤ l.length := by omega
          have tb : (l.take (8 + m)).length = 8 + m := by rw [List.length_take]; omega
          have ib := Lib.hid (inB_take hin.out (8 + m))
          have it := Lib.hid (inB_take (inB_drop hin.out hle (by omega)) 4)
          have ip := Lib.hid (inB_drop (inB_take hin.out (8 + m)) (n := 8) (by omega) (by omega))
          have tt : ((l.drop (8 + m)).take 4).length = 4 := by rw [List.length_take, List.length_drop]; omega
          have tp : ((l.take (8 + m)).drop 8).length = m := by rw [List.length_drop, tb]; omega
          have ep : (l.take (8 + m)).drop 8 = (l.drop 8).take m := by rw [List.drop_take]; congr 1; omega
          rw [← ep] at hr
          obtain ⟨t, ht⟩ : ∃ t, t = (l.drop (8 + m)).take 4 := ⟨_, rfl⟩
          obtain ⟨wh, hwh⟩ : ∃ wh, wh = l.take (8 + m) := ⟨_, rfl⟩
          rw [← ht] at hr it tt
          rw [← hwh] at hr ib ip tb tp
          obtain ⟨k, hk⟩ : ∃ k, k = 8 + m := ⟨_, rfl⟩
          replace ht := Lib.hid ht
          replace hwh := Lib.hid hwh
          replace ep := Lib.hid ep
          replace hr := Lib.hid hr
          replace hk := Lib.hid hk
          replace hW := Lib.hid hW
          clear hle
          have rt := it.out.1 w4 hW.out
          rw [tt] at rt
          have e4 : Hid (t.take 4 = t) := List.take_of_length_le (by omega)
          go_wp2_with fail
          refine (newReader_any _ 4 _ t w4 rt (by omega)).mono ?_
          rintro e w5 ⟨rb2, G2, RH2, rfl, hrep, s2⟩
          go_wp2_with fail
          refine (rfour_any rb2 t G2 RH2 w5 w4 hrep s2 (by omega)).mono ?_
          rintro e w6 ⟨rfl, H6, hrep2, s2⟩
          rw [e4.out]
          have s : Sp w [] w6 [] := s.still ((((s2.forget 0 rfl).forget 1 rfl).out (by simp) : Step w4 [] w6 []))
          clear hrep hrep2 s2 rt
          have hW := h.out.later (s.out rfl) (fun _ _ => by simp [dom])
          have rw6 := ib.out.1 w6 hW
          rw [tb] at rw6
          go_wp2_with fail
          refine (sum_any _ _ _ wh w6 rw6 (by omega)).mono ?_
          rintro e w7 ⟨rfl, hst⟩
          have s : Sp w [] w7 [] := s.still hst
          clear hst rw6 hW
          by_cases hsum : rd4 t = crcN wh
          · have q1 : ((rd4 t : Int) != (crcN wh : Int)) = false := by rw [hsum]; simp
            have hr := hr.out
            rw [if_neg (by simp [hsum])] at hr
            replace hsum := Lib.hid hsum
            generalize rd4 t = u at q1
            generalize crcN wh = v at q1
            have hW := h.out.later (s.out rfl) (fun _ _ => by simp [dom])
            have rp := ip.out.1 w7 hW
            rw [tp] at rp
            obtain ⟨p, hp⟩ : ∃ p, p = wh.drop 8 := ⟨_, rfl⟩
            rw [← hp] at hr rp tp
            have hr1 : r = (0, p, 12 + m) := hr
            subst hr1
            replace hp := Lib.hid hp
            clear hr hW
            go_wp2_with fail
            refine (clone_any _ _ _ p w7 rp (by omega)).mono ?_
            rintro e w8 ⟨a8, c8, G8, rfl, r8', hst⟩
            have s : Sp w [] w8 [G8] := s.fresh hst
            go_wp2_with fail
            go_ret3
            have e12 : (iv (12 + m)) = .int .i64 (8 + (m : Int) + 4) := congrArg (Value.int .i64) (show ((12 + m : Nat) : Int) = 8 + (m : Int) + 4 by omega)
            refine .inr ⟨rfl, a8, c8, G8, ?_, r8', s.out (by simp)⟩
            simp only [e12, tp]
            rfl
          · have q1 : ((rd4 t : Int) != (crcN wh : Int)) = true := by rw [bne_iff_ne]; omega
            have hr := hr.out
            rw [if_pos hsum] at hr
            replace hsum := Lib.hid hsum
            go_wp2_with fail
            go_ret3
            rw [hr]
            exact .inl ⟨by decide, rfl, s.out rfl⟩
    · replace hr := hr
      refine wp_region_J 6 (fun _ => True) (by kernel_rfl) ?_ (fun hF => ?_)
      · (try dsimp only)
        all_goals (first | (simp [*, World.cell?_alloc_some, World.cell?_setCell_far]; done) | skip)
      refine tk0 (i := 0) (oi := ⟨some 16, .move (.tmp 0), 23, "frame.go:45", #[], none⟩) (v := ?_) rfl (by kernel_rfl) (fun _ _ _ h => h) (fun _ => hF) (fun w => ?_) (by rfl) ?_
      rotate_left
      · first | (go_simp; done) | (go_simp; with_reducible rfl) | (go_split_ands; go_simp; done)
      try simp only [Act.put, nrmA, nrmB, nrmC]
      refine tk0 (i := 1) (oi := ⟨some 17, .slice 23 (.tmp 16) none (some (.const (.int .i64 8))) none, 23, "frame.go:45", #[⟨0, .data⟩], none⟩) (v := ?_) rfl (by kernel_rfl) (fun _ _ _ h => h) (fun _ => hF) (fun w => ?_) (by rfl) ?_
      rotate_left
      · first | (go_simp; done) | (go_simp; with_reducible rfl) | (go_split_ands; go_simp; done)
      try simp only [Act.put, nrmA, nrmB, nrmC]
      refine tk0 (i := 2) (oi := ⟨some 18, .move (.tmp 5), 3, "frame.go:45", #[], none⟩) (v := ?_) rfl (by kernel_rfl) (fun _ _ _ h => h) (fun _ => hF) (fun w => ?_) (by rfl) ?_
      rotate_left
      · first | (go_simp; done) | (go_simp; with_reducible rfl) | (go_split_ands; go_simp; done)
      try simp only [Act.put, nrmA, nrmB, nrmC]
      refine wpAnyJ_ready (rs := [3]) (by kernel_rfl) (by simp) ?_
      refine AllJ.cons1 (o := ⟨some 19, .call { callee := .value (.func 75), args := #[.tmp 18], argTypes := #[3] }, 23, "frame.go:45", #[⟨2, .data⟩], none⟩) rfl (fun Kr hKr => ?_)
      go_simp; go_at_call 75; refine (hh.out _).mono ?_; rintro e w3 ⟨a3, c3, G3, rfl, r3, hst⟩; rw [hdN_len]
      have r3 : SlRep 5 1 a3 8 c3 ((hdN m).map u8) G3 := r3
      have s : Sp w [] w3 [G3] := (Sp.perm s (by simp) : Sp w [] _ []).fresh hst
      clear hst
      refine hKr.out _ _ (fun hJ => ?_) (fun hF => ?_)
      · first
        | exact absurd hJ (by decide)
        | (clear hJ; (try dsimp only); all_goals (first | (simp [*, World.cell?_alloc_some, World.cell?_setCell_far]; done) | skip))
      clear hKr
      try simp only [Act.put, nrmA, nrmB, nrmC]
      refine wpAnyJ_ready (rs := [4]) (by kernel_rfl) (by simp) ?_
      refine AllJ.cons1 (o := ⟨some 20, .call { callee := .value (.func 113), args := #[.tmp 17, .tmp 19], argTypes := #[23, 23] }, 4, "frame.go:45", #[⟨1, .data⟩, ⟨3, .data⟩, ⟨3, .chain⟩], none⟩) rfl (fun Kr hKr => ?_)
      go_simp; go_at_call 113; refine (equal_any _ _ _ _ _ _ (l.take 8) (hdN m) _ (r8.out.later (s.out rfl) (fun _ _ => by simp [dom])) (r3.rdBytes (s.own 0 rfl))).mono ?_; rintro e w4 ⟨rfl, hst⟩; rw [decide_eq_false hq]
      have s : Sp w [] w4 [] := ((s.still hst).forget 0 rfl).perm (by simp)
      clear hst
      refine hKr.out _ _ (fun hJ => ?_) (fun hF => ?_)
      · first
        | exact absurd hJ (by decide)
        | (clear hJ; (try dsimp only); all_goals (first | (simp [*, World.cell?_alloc_some, World.cell?_setCell_far]; done) | skip))
      clear hKr
      try simp only [Act.put, nrmA, nrmB, nrmC]
      refine tk0 (i := 5) (oi := ⟨some 21, .unOp .not 4 (.tmp 20), 4, "frame.go:45", #[⟨4, .data⟩], none⟩) (v := ?_) rfl (by kernel_rfl) (fun _ _ _ h => h) (fun _ => hF (by kernel_rfl)) (fun w => ?_) (by rfl) ?_
      rotate_left
      · first | (go_simp; done) | (go_simp; with_reducible rfl) | (go_split_ands; go_simp; done)
      try simp only [Act.put, nrmA, nrmB, nrmC]
      refine wpAnyJ_ready (rs := [6]) (by kernel_rfl) (by simp) ?_
      refine AllJ.cons1 (o := ⟨some 15, .assign (.tmp 21), 4, "frame.go:45", #[⟨5, .data⟩, ⟨4, .chain⟩], none⟩) rfl (fun Kr hKr => ?_)
      go_simp
      refine hKr.out _ _ (fun hJ => ?_) (fun hF => ?_)
      · first
        | exact absurd hJ (by decide)
        | (clear hJ; (try dsimp only); all_goals (first | (simp [*, World.cell?_alloc_some, World.cell?_setCell_far]; done) | skip))
      clear hKr
      try simp only [Act.put, nrmA, nrmB, nrmC]
      refine wpAnyJ_done (by kernel_rfl) ?_ _
      have hr := hr.out
      rw [if_pos hq] at hr
      go_wp2_with fail
      go_ret3
      rw [hr]
      exact .inl ⟨by decide, rfl, s.out rfl⟩
end Go.Proofs.YtdolbeonpkanpaaGreatDoor
