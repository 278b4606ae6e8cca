/- The reference's frames: Encode, four, Decode. The reference's frames: Scan. -/
import Derived.Test.YtdolbeonpkanpaaGreatDoorFrB
import Derived.Test.YtdolbeonpkanpaaGreatDoorMOrB
set_option linter.unusedVariables false
set_option linter.unusedSimpArgs false
namespace Go.Proofs.YtdolbeonpkanpaaGreatDoor
open Go.RowKit
attribute [local go_sem ↓] Go.wp_at_zero Go.wp_at_succ

set_option maxHeartbeats 2000000 in
set_option maxRecDepth 100000 in
theorem rencode_any (a : Option Addr) (n c : Nat) (p : List UInt8) (w : World) (h : RdBytes w a n c p) (hp : p.length ≤ 65536) :
    Calls Tryz.prog 46 #[.slice a n c] w fun e w' => ∃ a' c' G, e = .returned (.tuple #[.slice a' (frN p).length c', iv 0]) ∧ SlRep 5 1 a' (frN p).length c' ((frN p).map u8) G ∧ Step w [] w' G := by
  obtain rfl := h.1
  replace h := Lib.hid h
  have d1 : (p.length : Int) ≤ 65536 := by omega
  have hrp : Hid (∀ W Hs, Sp w [] W Hs → RdBytes W a p.length c p) := fun W Hs s => h.out.later (s.out rfl) (fun _ _ => by simp [dom])
  have s0 := Sp.nil w
  go_enter Tryz.func46, Tryz.ntmps46
  go_wp2_with fail
  refine (rf4_any p.length w).mono ?_
  rintro e w1 ⟨a1, c1, G1, rfl, r1, hst⟩
  have r1 : SlRep 5 1 a1 4 c1 ((le4 p.length).map u8) G1 := r1
  rw [le4_len]
  have s : Sp w [] w1 [G1] := s0.fresh hst
  clear hst s0
  go_wp2_with fail
  refine (rsum_any a1 4 c1 (le4 p.length) w1 (r1.rdBytes (s.own 0 rfl)) (by rw [le4_len]; decide)).mono ?_
  rintro e w2 ⟨rfl, hst⟩
  have s : Sp w [] w2 [G1] := s.still hst
  clear hst
  go_wp2_with fail
  refine (rf4_any (crcN (le4 p.length)) w2).mono ?_
  rintro e w3 ⟨a2, c2, G2, rfl, r2, hst⟩
  have r2 : SlRep 5 1 a2 4 c2 ((le4 (crcN (le4 p.length))).map u8) G2 := r2
  rw [le4_len]
  have s : Sp w [] w3 [G1, G2] := s.fresh hst
  clear hst
  replace r1 := Lib.hid r1
  replace r2 := Lib.hid r2
  go_upto_region 5 with (at_builtin; refine wpList_app rfl st_u8 _ _ rfl (by rfl) (by rfl) r1.out (s.own 0 rfl) (rdBytes_cells (r2.out.rdBytes (s.own 1 rfl))) (by decide) (by decide) ?_; intro a3 c3 w4 H3 hr3 hst3; have s : Sp w [] w4 [H3, G2] := s.put 0 rfl hst3; replace hr3 := Lib.hid hr3)
  have hr3 : Hid (SlRep 5 1 a3 8 c3 ((hdN p.length).map u8) H3) := by
    show SlRep _ _ _ _ _ _ _
    rw [hdN, List.map_append]
    exact hr3.out
  go_upto_region 6 with (at_builtin; refine wpList_app rfl st_u8 _ _ rfl (by rfl) (by rfl) hr3.out (s.own 0 rfl) (rdBytes_cells (hrp.out _ _ s)) (by unfold maxLen; omega) (by omega) ?_; intro a4 c4 w5 H4 hr4 hst4; have s : Sp w [] w5 [H4, G2] := s.put 0 rfl hst4; replace hr4 := Lib.hid hr4)
  have hr4 : Hid (SlRep 5 1 a4 (8 + p.length) c4 ((frB p).map u8) H4) := by
    show SlRep _ _ _ _ _ _ _
    rw [frB, List.map_append]
    exact hr4.out
  go_wp2_with fail
  refine (rsum_any a4 (8 + p.length) c4 (frB p) w5 (hr4.out.rdBytes (s.own 0 rfl)) (by rw [frB_len]; omega)).mono ?_
  rintro e w6 ⟨rfl, hst⟩
  have s : Sp w [] w6 [H4, G2] := s.still hst
  clear hst
  go_wp2_with fail
  refine (rf4_any (crcN (frB p)) w6).mono ?_
  rintro e w7 ⟨a5, c5, G5, rfl, r5, hst⟩
  have r5 : SlRep 5 1 a5 4 c5 ((le4 (crcN (frB p))).map u8) G5 := r5
  rw [le4_len]
  have s : Sp w [] w7 [H4, G2, G5] := s.fresh hst
  clear hst
  replace r5 := Lib.hid r5
  go_wp2_with (at_builtin; refine wpList_app rfl st_u8 _ _ rfl (by rfl) (by rfl) hr4.out (s.own 0 rfl) (rdBytes_cells (r5.out.rdBytes (s.own 2 rfl))) (by unfold maxLen; omega) (by omega) ?_; intro a6 c6 w8 H6 hr6 hst6; have s : Sp w [] w8 [H6, G2, G5] := s.put 0 rfl hst6; replace hr6 := Lib.hid hr6)
  go_ret2
  have e : (frN p).length = 8 + p.length + 4 := by rw [frN_len]; omega
  refine ⟨a6, c6, H6, ?_, ?_, ((s.forget 1 rfl).forget 2 rfl).out (by simp)⟩
  · rw [e]
    rfl
  · rw [e, frN, List.map_append]
    exact hr6.out
set_option maxRecDepth 100000 in
theorem rfr4_any (a : Option Addr) (n c : Nat) (l : List UInt8) (w : World) (h : RdBytes w a n c l) (hl : 4 ≤ l.length) :
    Calls Tryz.prog 129 #[.slice a n c] w fun e w' => e = .returned (u32v (rd4 (l.take 4))) ∧ Step w [] w' [] := by
  obtain rfl := h.1
  obtain ⟨g, o, rfl, hin, hlc⟩ := rd_in h (by intro e; subst e; simp at hl)
  have s0 := (Step.refl (Own.nil w)).alloc (.cells #[.slice (some ⟨g, o, none⟩) l.length c, iv 0] 151)
  have hf := Lib.hid (rf4r_any w.heap.size l _ _ _ ⟨_, _, hin, rfl⟩ s0.own (fun w' H' s => h.later (s0.trans s) (fun _ _ => by simp [dom])) hl)
  replace h := Lib.hid h
  replace hin := Lib.hid hin
  go_enter Tryz.func129, Tryz.ntmps129
  go_wp2_with fail
  refine hf.out.mono ?_
  rintro e w1 ⟨rfl, H', _, hst⟩
  go_wp2
  go_ret
  exact ⟨rfl, (s0.trans hst).forget (A := [])⟩
set_option maxHeartbeats 4000000 in
set_option maxRecDepth 100000 in
theorem rdecode_any (a : Option Addr) (n c : Nat) (l : List UInt8) (w : World) (h : RdBytes w a n c l) (hl : l.length ≤ 140737488353000) :
    Calls Tryz.prog 117 #[.slice a n c] w (DecPost (decN l) w) := by
  obtain rfl := h.1
  have b1 : (l.length : Int) ≤ 140737488353000 := by omega
  by_cases h8 : l.length < 8
  · have d1 : (l.length : Int) < 8 := by omega
    have e1 : decN l = (2, [], 0) := by unfold decN; rw [if_pos h8]
    rw [e1]
    clear h
    go_enter Tryz.func117, Tryz.ntmps117
    go_wp2
    go_ret3
    exact .inl ⟨by decide, rfl, Step.refl (Own.nil _)⟩
  · have d1 : (8 : Int) ≤ (l.length : Int) := by omega
    obtain ⟨g, o, rfl, hin, hlc⟩ := rd_in h (by intro e; subst e; simp at h8)
    have d2 : (l.length : Int) ≤ (c : Int) := by omega
    have d3 : (8 : Int) ≤ (c : Int) := by omega
    have d4 : ¬ c = 4 := by omega
    have d12 : (4 : Int) ≤ (l.length : Int) := by omega
    have d13 : (4 : Int) ≤ (c : Int) := by omega
    have t4 : (l.take 4).length = 4 := by rw [List.length_take]; omega
    have u4 : (l.drop 4).length = l.length - 4 := by rw [List.length_drop]
    obtain ⟨m, hm⟩ : ∃ m, m = rd4 (l.take 4) := ⟨_, rfl⟩
    have hm1 : m < 4294967296 := by rw [hm]; exact rd4_lt
    obtain ⟨r, hr⟩ : ∃ r, r = decN l := ⟨_, rfl⟩
    rw [← hr]
    unfold decN at hr
    rw [if_neg h8, ← hm] at hr
    have hq := hd_sum (b := l) (by omega)
    rw [← hm] at hq
    have i4 := Lib.hid (inB_take hin 4)
    have j4 := Lib.hid (inB_drop hin (n := 4) (by omega) (by omega))
    have hW0 : Hid (∀ W Hs, Sp w [] W Hs → RdBytes W (some ⟨g, o, none⟩) l.length c l) := fun W Hs s => h.later (s.out rfl) (fun _ _ => by simp [dom])
    have f1 : Hid (∀ W Hs, Sp w [] W Hs → Calls Tryz.prog 129 #[.slice (some ⟨g, o + 4, none⟩) (l.length - 4) (c - 4)] W fun e w' => e = .returned (u32v (rd4 ((l.drop 4).take 4))) ∧ Step W [] w' []) := fun W Hs s => rfr4_any _ _ _ (l.drop 4) W (by rw [← u4]; exact j4.out.1 W (hW0.out W Hs s)) (by omega)
    have f2 : Hid (∀ W Hs, Sp w [] W Hs → Calls Tryz.prog 83 #[.slice (some ⟨g, o, none⟩) 4 c] W fun e w' => e = .returned (u32v (crcN (l.take 4))) ∧ Step W [] w' []) := fun W Hs s => rsum_any _ _ _ (l.take 4) W (by have := i4.out.1 W (hW0.out W Hs s); rwa [t4] at this) (by omega)
    have f3 : Hid (∀ W Hs, Sp w [] W Hs → Calls Tryz.prog 129 #[.slice (some ⟨g, o, none⟩) l.length c] W fun e w' => e = .returned (u32v m) ∧ Step W [] w' []) := fun W Hs s => by rw [hm]; exact rfr4_any _ _ _ l W (hW0.out W Hs s) (by omega)
    replace hr := Lib.hid hr
    replace hm := Lib.hid hm
    replace hin := Lib.hid hin
    replace h := Lib.hid h
    clear t4 u4 i4 j4
    have s := Sp.nil w
    go_enter Tryz.func117, Tryz.ntmps117
    go_upto_region 3 with fail
    replace s := s.drew
    obtain ⟨x, hx⟩ : ∃ x, x = rd4 ((l.drop 4).take 4) := ⟨_, rfl⟩
    obtain ⟨y, hy⟩ : ∃ y, y = crcN (l.take 4) := ⟨_, rfl⟩
    rw [← hx] at hq f1
    rw [← hy] at hq f2
    replace hx := Lib.hid hx
    replace hy := Lib.hid hy
    by_cases hxy : x = y
    · have q1 : ((x : Int) != (y : Int)) = false := by rw [hxy]; simp
      have hq1 := Lib.hid (hq.2 hxy)
      clear hq
      replace hxy := Lib.hid hxy
      refine wp_region_J 6 (fun _ => True) (by kernel_rfl) ?_ (fun hF => ?_)
      · (try dsimp only)
        all_goals (first | (simp [*, World.cell?_alloc_some, World.cell?_setCell_far]; done) | skip)
      refine tk0 (i := 0) (oi := ⟨some 9, .move (.tmp 0), 23, "frame.go:31", #[], none⟩) (v := ?_) rfl (by kernel_rfl) (fun _ _ _ h => h) (fun _ => hF) (fun w => ?_) (by rfl) ?_
      rotate_left
      · first | (go_simp; done) | (go_simp; with_reducible rfl) | (go_split_ands; go_simp; done)
      try simp only [Act.put, nrmA, nrmB, nrmC]
      refine tk0 (i := 1) (oi := ⟨some 10, .slice 23 (.tmp 9) (some (.const (.int .i64 4))) none none, 23, "frame.go:31", #[⟨0, .data⟩], none⟩) (v := ?_) rfl (by kernel_rfl) (fun _ _ _ h => h) (fun _ => hF) (fun w => ?_) (by rfl) ?_
      rotate_left
      · first | (go_simp; done) | (go_simp; with_reducible rfl) | (go_split_ands; go_simp; done)
      try simp only [Act.put, nrmA, nrmB, nrmC]
      refine tk0 (i := 3) (oi := ⟨some 12, .move (.tmp 0), 23, "frame.go:31", #[], none⟩) (v := ?_) rfl (by kernel_rfl) (fun _ _ _ h => h) (fun _ => hF) (fun w => ?_) (by rfl) ?_
      rotate_left
      · first | (go_simp; done) | (go_simp; with_reducible rfl) | (go_split_ands; go_simp; done)
      try simp only [Act.put, nrmA, nrmB, nrmC]
      refine tk0 (i := 4) (oi := ⟨some 13, .slice 23 (.tmp 12) none (some (.const (.int .i64 4))) none, 23, "frame.go:31", #[⟨3, .data⟩], none⟩) (v := ?_) rfl (by kernel_rfl) (fun _ _ _ h => h) (fun _ => hF) (fun w => ?_) (by rfl) ?_
      rotate_left
      · first | (go_simp; done) | (go_simp; with_reducible rfl) | (go_split_ands; go_simp; done)
      try simp only [Act.put, nrmA, nrmB, nrmC]
      refine wpAnyJ_ready (rs := [2]) (by kernel_rfl) (by simp) ?_
      refine AllJ.cons1 (o := ⟨some 11, .call { callee := .value (.func 129), args := #[.tmp 10], argTypes := #[23] }, 132, "frame.go:31", #[⟨1, .data⟩], none⟩) rfl (fun Kr hKr => ?_)
      go_simp; go_at_call 129; refine (f1.out _ _ s).mono ?_; rintro e w3 ⟨rfl, hst⟩
      have s : Sp w [] w3 [] := s.still hst
      clear hst
      refine hKr.out _ _ (fun hJ => ?_) (fun hF => ?_)
      · first
        | exact absurd hJ (by decide)
        | (clear hJ; (try dsimp only); all_goals (first | (simp [*, World.cell?_alloc_some, World.cell?_setCell_far]; done) | skip))
      clear hKr
      try simp only [Act.put, nrmA, nrmB, nrmC]
      refine wpAnyJ_ready (rs := [5]) (by kernel_rfl) (by simp) ?_
      refine AllJ.cons1 (o := ⟨some 14, .call { callee := .value (.func 83), args := #[.tmp 13], argTypes := #[23] }, 132, "frame.go:31", #[⟨4, .data⟩, ⟨2, .chain⟩], none⟩) rfl (fun Kr hKr => ?_)
      go_simp; go_at_call 83; refine (f2.out _ _ s).mono ?_; rintro e w4 ⟨rfl, hst⟩
      have s : Sp w [] w4 [] := s.still hst
      clear hst
      refine hKr.out _ _ (fun hJ => ?_) (fun hF => ?_)
      · first
        | exact absurd hJ (by decide)
        | (clear hJ; (try dsimp only); all_goals (first | (simp [*, World.cell?_alloc_some, World.cell?_setCell_far]; done) | skip))
      clear hKr
      try simp only [Act.put, nrmA, nrmB, nrmC]
      refine wpAnyJ_ready (rs := [6]) (by kernel_rfl) (by simp) ?_
      refine AllJ.cons1 (o := ⟨some 15, .binOp .neq 132 (.tmp 11) (.tmp 14) 132, 4, "frame.go:31", #[⟨2, .data⟩, ⟨5, .data⟩], none⟩) rfl (fun Kr hKr => ?_)
      go_simp
      refine hKr.out _ _ (fun hJ => ?_) (fun hF => ?_)
      · first
        | exact absurd hJ (by decide)
        | (clear hJ; (try dsimp only); all_goals (first | (simp [*, World.cell?_alloc_some, World.cell?_setCell_far]; done) | skip))
      clear hKr
      try simp only [Act.put, nrmA, nrmB, nrmC]
      refine wpAnyJ_done (by kernel_rfl) ?_ _
      have hr := hr.out
      rw [if_neg (by simp [hq1.out])] at hr
      replace hr := Lib.hid hr
      go_wp2_with fail
      refine (f3.out _ _ s).mono ?_
      rintro e w5 ⟨rfl, hst⟩
      replace hr := hr.out
      have s : Sp w [] w5 [] := s.still hst
      clear hst
      by_cases hm5 : 65536 < m
      · have d5 : (65536 : Int) < (m : Int) := by omega
        rw [if_pos hm5] at hr
        go_wp2_with fail
        go_ret3
        rw [hr]
        exact .inl ⟨by decide, rfl, s.out rfl⟩
      · have d5 : (m : Int) ≤ 65536 := by omega
        rw [if_neg hm5] at hr
        by_cases hs : l.length < 12 + m
        · have d6 : (l.length : Int) < 12 + (m : Int) := by omega
          rw [if_pos hs] at hr
          go_wp2_with fail
          go_ret3
          rw [hr]
          exact .inl ⟨by decide, rfl, s.out rfl⟩
        · have d6 : 12 + (m : Int) ≤ (l.length : Int) := by omega
          rw [if_neg hs] at hr
          have d7 : (8 : Int) + (m : Int) ≤ (c : Int) := by omega
          have d8 : (12 : Int) + (m : Int) ≤ (c : Int) := by omega
          have d9 : ¬ c = 8 + m := by omega
          have d10 : ¬ c = 8 := by omega
          have d11 : (8 : Int) + (m : Int) ≤ (l.length : Int) := by omega
          have hle : 8 + m ≤ l.length := by omega
          have tb : (l.take (8 + m)).length = 8 + m := by rw [List.length_take]; omega
          have ub : (l.drop (8 + m)).length = l.length - (8 + m) := by rw [List.length_drop]
          have ib := Lib.hid (inB_take hin.out (8 + m))
          have it := Lib.hid (inB_drop hin.out hle (by omega))
          have ip := Lib.hid (inB_drop (inB_take hin.out (8 + m)) (n := 8) (by omega) (by omega))
          have tp : ((l.take (8 + m)).drop 8).length = m := by rw [List.length_drop, tb]; omega
          have ep : (l.take (8 + m)).drop 8 = (l.drop 8).take m := by rw [List.drop_take]; congr 1; omega
          rw [← ep] at hr
          have f4 : Hid (∀ W Hs, Sp w [] W Hs → Calls Tryz.prog 129 #[.slice (some ⟨g, o + (8 + m), none⟩) (l.length - (8 + m)) (c - (8 + m))] W fun e w' => e = .returned (u32v (rd4 ((l.drop (8 + m)).take 4))) ∧ Step W [] w' []) := fun W Hs s => rfr4_any _ _ _ (l.drop (8 + m)) W (by rw [← ub]; exact it.out.1 W (hW0.out W Hs s)) (by omega)
          have f5 : Hid (∀ W Hs, Sp w [] W Hs → Calls Tryz.prog 83 #[.slice (some ⟨g, o, none⟩) (8 + m) c] W fun e w' => e = .returned (u32v (crcN (l.take (8 + m)))) ∧ Step W [] w' []) := fun W Hs s => rsum_any _ _ _ (l.take (8 + m)) W (by have := ib.out.1 W (hW0.out W Hs s); rwa [tb] at this) (by omega)
          obtain ⟨u, hu⟩ : ∃ u, u = rd4 ((l.drop (8 + m)).take 4) := ⟨_, rfl⟩
          obtain ⟨v, hv⟩ : ∃ v, v = crcN (l.take (8 + m)) := ⟨_, rfl⟩
          rw [← hu] at hr f4
          rw [← hv] at hr f5
          obtain ⟨p, hp⟩ : ∃ p, p = (l.take (8 + m)).drop 8 := ⟨_, rfl⟩
          rw [← hp] at hr tp ip
          replace hu := Lib.hid hu
          replace hv := Lib.hid hv
          replace hp := Lib.hid hp
          replace ep := Lib.hid ep
          replace hr := Lib.hid hr
          clear tb ub ib it
          go_upto_region 10 with fail
          have qk : IntKind.i64.wrap (8 + (m : Int)) = ((8 + m : Nat) : Int) := by rw [IntWalk.i64_in _ (by omega)]; omega
          have hk1 : 8 + m ≤ c := by omega
          have hk2 : ((8 + m : Nat) : Int) ≤ (l.length : Int) := by omega
          have hk3 : ((8 + m : Nat) : Int) ≤ (c : Int) := by omega
          have hk4 : (0 : Int) ≤ ((8 + m : Nat) : Int) := by omega
          replace s := s.drew
          by_cases huv : u = v
          · have q2 : ((u : Int) != (v : Int)) = false := by rw [huv]; simp
            have hr := hr.out
            rw [if_neg (by simp [huv])] at hr
            have hr1 : r = (0, p, 12 + m) := hr
            subst hr1
            clear hr
            replace huv := Lib.hid huv
            obtain ⟨k, hk⟩ : ∃ k, k = 8 + m := ⟨_, rfl⟩
            rw [← hk] at qk hk1 hk2 hk3 hk4 hle d9 f4 f5
            replace hk := Lib.hid hk
            replace d7 := Lib.hid d7
            replace d11 := Lib.hid d11
            refine wp_region_J 10 (fun _ => True) (by kernel_rfl) ?_ (fun hF => ?_)
            · (try dsimp only)
              all_goals (first | (simp [*, World.cell?_alloc_some, World.cell?_setCell_far]; done) | skip)
            refine tk0 (i := 0) (oi := ⟨some 26, .move (.tmp 0), 23, "frame.go:41", #[], none⟩) (v := ?_) rfl (by kernel_rfl) (fun _ _ _ h => h) (fun _ => hF) (fun w => ?_) (by rfl) ?_
            rotate_left
            · first | (go_simp; done) | (go_simp; with_reducible rfl) | (go_split_ands; go_simp; done)
            try simp only [Act.put, nrmA, nrmB, nrmC]
            refine tk0 (i := 1) (oi := ⟨some 27, .move (.tmp 5), 3, "frame.go:41", #[], none⟩) (v := ?_) rfl (by kernel_rfl) (fun _ _ _ h => h) (fun _ => hF) (fun w => ?_) (by rfl) ?_
            rotate_left
            · first | (go_simp; done) | (go_simp; with_reducible rfl) | (go_split_ands; go_simp; done)
            try simp only [Act.put, nrmA, nrmB, nrmC]
            refine tk0 (i := 2) (oi := ⟨some 28, .binOp .add 3 (.const (.int .i64 8)) (.tmp 27) 3, 3, "frame.go:41", #[⟨1, .data⟩], none⟩) (v := ?_) rfl (by kernel_rfl) (fun _ _ _ h => h) (fun _ => hF) (fun w => ?_) (by rfl) ?_
            rotate_left
            · first | (go_simp; done) | (go_simp; with_reducible rfl) | (go_split_ands; go_simp; done)
            try simp only [Act.put, nrmA, nrmB, nrmC]
            refine tk0 (i := 3) (oi := ⟨some 29, .slice 23 (.tmp 26) (some (.tmp 28)) none none, 23, "frame.go:41", #[⟨0, .data⟩, ⟨2, .data⟩], none⟩) (v := ?_) rfl (by kernel_rfl) (fun _ _ _ h => h) (fun _ => hF) (fun w => ?_) (by rfl) ?_
            rotate_left
            · first | (go_simp; done) | (go_simp; with_reducible rfl) | (go_split_ands; go_simp; done)
            try simp only [Act.put, nrmA, nrmB, nrmC]
            refine tk0 (i := 5) (oi := ⟨some 31, .move (.tmp 0), 23, "frame.go:41", #[], none⟩) (v := ?_) rfl (by kernel_rfl) (fun _ _ _ h => h) (fun _ => hF) (fun w => ?_) (by rfl) ?_
            rotate_left
            · first | (go_simp; done) | (go_simp; with_reducible rfl) | (go_split_ands; go_simp; done)
            try simp only [Act.put, nrmA, nrmB, nrmC]
            refine tk0 (i := 6) (oi := ⟨some 32, .move (.tmp 5), 3, "frame.go:41", #[], none⟩) (v := ?_) rfl (by kernel_rfl) (fun _ _ _ h => h) (fun _ => hF) (fun w => ?_) (by rfl) ?_
            rotate_left
            · first | (go_simp; done) | (go_simp; with_reducible rfl) | (go_split_ands; go_simp; done)
            try simp only [Act.put, nrmA, nrmB, nrmC]
            refine tk0 (i := 7) (oi := ⟨some 33, .binOp .add 3 (.const (.int .i64 8)) (.tmp 32) 3, 3, "frame.go:41", #[⟨6, .data⟩], none⟩) (v := ?_) rfl (by kernel_rfl) (fun _ _ _ h => h) (fun _ => hF) (fun w => ?_) (by rfl) ?_
            rotate_left
            · first | (go_simp; done) | (go_simp; with_reducible rfl) | (go_split_ands; go_simp; done)
            try simp only [Act.put, nrmA, nrmB, nrmC]
            refine tk0 (i := 8) (oi := ⟨some 34, .slice 23 (.tmp 31) none (some (.tmp 33)) none, 23, "frame.go:41", #[⟨5, .data⟩, ⟨7, .data⟩], none⟩) (v := ?_) rfl (by kernel_rfl) (fun _ _ _ h => h) (fun _ => hF) (fun w => ?_) (by rfl) ?_
            rotate_left
            · first | (go_simp; done) | (go_simp; with_reducible rfl) | (go_split_ands; go_simp; done)
            try simp only [Act.put, nrmA, nrmB, nrmC]
            refine wpAnyJ_ready (rs := [4]) (by kernel_rfl) (by simp) ?_
            refine AllJ.cons1 (o := ⟨some 30, .call { callee := .value (.func 129), args := #[.tmp 29], argTypes := #[23] }, 132, "frame.go:41", #[⟨3, .data⟩], none⟩) rfl (fun Kr hKr => ?_)
            go_simp; go_at_call 129; refine (f4.out _ _ s).mono ?_; rintro e w3 ⟨rfl, hst⟩
            have s : Sp w [] w3 [] := s.still hst
            clear hst
            refine hKr.out _ _ (fun hJ => ?_) (fun hF => ?_)
            · first
              | exact absurd hJ (by decide)
              | (clear hJ; (try dsimp only); all_goals (first | (simp [*, World.cell?_alloc_some, World.cell?_setCell_far]; done) | skip))
            clear hKr
            try simp only [Act.put, nrmA, nrmB, nrmC]
            refine wpAnyJ_ready (rs := [9]) (by kernel_rfl) (by simp) ?_
            refine AllJ.cons1 (o := ⟨some 35, .call { callee := .value (.func 83), args := #[.tmp 34], argTypes := #[23] }, 132, "frame.go:41", #[⟨8, .data⟩, ⟨4, .chain⟩], none⟩) rfl (fun Kr hKr => ?_)
            go_simp; go_at_call 83; refine (f5.out _ _ s).mono ?_; rintro e w4 ⟨rfl, hst⟩
            have s : Sp w [] w4 [] := s.still hst
            clear hst
            refine hKr.out _ _ (fun hJ => ?_) (fun hF => ?_)
            · first
              | exact absurd hJ (by decide)
              | (clear hJ; (try dsimp only); all_goals (first | (simp [*, World.cell?_alloc_some, World.cell?_setCell_far]; done) | skip))
            clear hKr
            try simp only [Act.put, nrmA, nrmB, nrmC]
            refine wpAnyJ_ready (rs := [10]) (by kernel_rfl) (by simp) ?_
            refine AllJ.cons1 (o := ⟨some 36, .binOp .neq 132 (.tmp 30) (.tmp 35) 132, 4, "frame.go:41", #[⟨4, .data⟩, ⟨9, .data⟩], none⟩) rfl (fun Kr hKr => ?_)
            go_simp
            refine hKr.out _ _ (fun hJ => ?_) (fun hF => ?_)
            · first
              | exact absurd hJ (by decide)
              | (clear hJ; (try dsimp only); all_goals (first | (simp [*, World.cell?_alloc_some, World.cell?_setCell_far]; done) | skip))
            clear hKr
            try simp only [Act.put, nrmA, nrmB, nrmC]
            refine wpAnyJ_done (by kernel_rfl) ?_ _
            replace d7 := d7.out
            clear qk hk1 hk2 hk3 hk4 d9
            have qm : 8 + m - 8 = m := by omega
            have rp := ip.out.1 _ (hW0.out _ _ s)
            rw [tp] at rp
            have s1 : Sp w [] _ [[(w4.heap.size, .cells #[] 5 (0, 0))]] := s.alloc _
            have rp := Lib.hid (rp.alloc (.cells #[] 5))
            go_wp2_with (at_builtin; rw [qm]; refine wpList_app rfl st_u8 _ _ rfl (by rfl) (by rfl) (SlRep.made _ _ w4.heap.size) (s1.own 0 rfl) (rdBytes_cells rp.out) (by unfold maxLen; omega) (by omega) ?_; intro a6 c6 w8 H6 hr6 hst6; have s2 : Sp w [] w8 [H6] := s1.put 0 rfl hst6; replace hr6 := Lib.hid hr6)
            go_ret3
            have hr6 := hr6.out
            rw [Nat.zero_add, List.nil_append] at hr6
            have e12 : (iv (12 + m)) = .int .i64 (12 + (m : Int)) := congrArg (Value.int .i64) (show ((12 + m : Nat) : Int) = 12 + (m : Int) by omega)
            refine .inr ⟨rfl, a6, c6, H6, ?_, by rw [tp]; exact hr6, s2.out (by simp)⟩
            simp only [e12, tp, Nat.zero_add]
            rfl
          · have q2 : ((u : Int) != (v : Int)) = true := by rw [bne_iff_ne]; omega
            have hr := hr.out
            rw [if_pos huv] at hr
            replace huv := Lib.hid huv
            obtain ⟨k, hk⟩ : ∃ k, k = 8 + m := ⟨_, rfl⟩
            rw [← hk] at qk hk1 hk2 hk3 hk4 hle d9 f4 f5
            replace hk := Lib.hid hk
            replace d7 := Lib.hid d7
            replace d11 := Lib.hid d11
            refine wp_region_J 10 (fun _ => True) (by kernel_rfl) ?_ (fun hF => ?_)
            · (try dsimp only)
              all_goals (first | (simp [*, World.cell?_alloc_some, World.cell?_setCell_far]; done) | skip)
            refine tk0 (i := 0) (oi := ⟨some 26, .move (.tmp 0), 23, "frame.go:41", #[], none⟩) (v := ?_) rfl (by kernel_rfl) (fun _ _ _ h => h) (fun _ => hF) (fun w => ?_) (by rfl) ?_
            rotate_left
            · first | (go_simp; done) | (go_simp; with_reducible rfl) | (go_split_ands; go_simp; done)
            try simp only [Act.put, nrmA, nrmB, nrmC]
            refine tk0 (i := 1) (oi := ⟨some 27, .move (.tmp 5), 3, "frame.go:41", #[], none⟩) (v := ?_) rfl (by kernel_rfl) (fun _ _ _ h => h) (fun _ => hF) (fun w => ?_) (by rfl) ?_
            rotate_left
            · first | (go_simp; done) | (go_simp; with_reducible rfl) | (go_split_ands; go_simp; done)
            try simp only [Act.put, nrmA, nrmB, nrmC]
            refine tk0 (i := 2) (oi := ⟨some 28, .binOp .add 3 (.const (.int .i64 8)) (.tmp 27) 3, 3, "frame.go:41", #[⟨1, .data⟩], none⟩) (v := ?_) rfl (by kernel_rfl) (fun _ _ _ h => h) (fun _ => hF) (fun w => ?_) (by rfl) ?_
            rotate_left
            · first | (go_simp; done) | (go_simp; with_reducible rfl) | (go_split_ands; go_simp; done)
            try simp only [Act.put, nrmA, nrmB, nrmC]
            refine tk0 (i := 3) (oi := ⟨some 29, .slice 23 (.tmp 26) (some (.tmp 28)) none none, 23, "frame.go:41", #[⟨0, .data⟩, ⟨2, .data⟩], none⟩) (v := ?_) rfl (by kernel_rfl) (fun _ _ _ h => h) (fun _ => hF) (fun w => ?_) (by rfl) ?_
            rotate_left
            · first | (go_simp; done) | (go_simp; with_reducible rfl) | (go_split_ands; go_simp; done)
            try simp only [Act.put, nrmA, nrmB, nrmC]
            refine tk0 (i := 5) (oi := ⟨some 31, .move (.tmp 0), 23, "frame.go:41", #[], none⟩) (v := ?_) rfl (by kernel_rfl) (fun _ _ _ h => h) (fun _ => hF) (fun w => ?_) (by rfl) ?_
            rotate_left
            · first | (go_simp; done) | (go_simp; with_reducible rfl) | (go_split_ands; go_simp; done)
            try simp only [Act.put, nrmA, nrmB, nrmC]
            refine tk0 (i := 6) (oi := ⟨some 32, .move (.tmp 5), 3, "frame.go:41", #[], none⟩) (v := ?_) rfl (by kernel_rfl) (fun _ _ _ h => h) (fun _ => hF) (fun w => ?_) (by rfl) ?_
            rotate_left
            · first | (go_simp; done) | (go_simp; with_reducible rfl) | (go_split_ands; go_simp; done)
            try simp only [Act.put, nrmA, nrmB, nrmC]
            refine tk0 (i := 7) (oi := ⟨some 33, .binOp .add 3 (.const (.int .i64 8)) (.tmp 32) 3, 3, "frame.go:41", #[⟨6, .data⟩], none⟩) (v := ?_) rfl (by kernel_rfl) (fun _ _ _ h => h) (fun _ => hF) (fun w => ?_) (by rfl) ?_
            rotate_left
            · first | (go_simp; done) | (go_simp; with_reducible rfl) | (go_split_ands; go_simp; done)
            try simp only [Act.put, nrmA, nrmB, nrmC]
            refine tk0 (i := 8) (oi := ⟨some 34, .slice 23 (.tmp 31) none (some (.tmp 33)) none, 23, "frame.go:41", #[⟨5, .data⟩, ⟨7, .data⟩], none⟩) (v := ?_) rfl (by kernel_rfl) (fun _ _ _ h => h) (fun _ => hF) (fun w => ?_) (by rfl) ?_
            rotate_left
            · first | (go_simp; done) | (go_simp; with_reducible rfl) | (go_split_ands; go_simp; done)
            try simp only [Act.put, nrmA, nrmB, nrmC]
            refine wpAnyJ_ready (rs := [4]) (by kernel_rfl) (by simp) ?_
            refine AllJ.cons1 (o := ⟨some 30, .call { callee := .value (.func 129), args := #[.tmp 29], argTypes := #[23] }, 132, "frame.go:41", #[⟨3, .data⟩], none⟩) rfl (fun Kr hKr => ?_)
            go_simp; go_at_call 129; refine (f4.out _ _ s).mono ?_; rintro e w3 ⟨rfl, hst⟩
            have s : Sp w [] w3 [] := s.still hst
            clear hst
            refine hKr.out _ _ (fun hJ => ?_) (fun hF => ?_)
            · first
              | exact absurd hJ (by decide)
              | (clear hJ; (try dsimp only); all_goals (first | (simp [*, World.cell?_alloc_some, World.cell?_setCell_far]; done) | skip))
            clear hKr
            try simp only [Act.put, nrmA, nrmB, nrmC]
            refine wpAnyJ_ready (rs := [9]) (by kernel_rfl) (by simp) ?_
            refine AllJ.cons1 (o := ⟨some 35, .call { callee := .value (.func 83), args := #[.tmp 34], argTypes := #[23] }, 132, "frame.go:41", #[⟨8, .data⟩, ⟨4, .chain⟩], none⟩) rfl (fun Kr hKr => ?_)
            go_simp; go_at_call 83; refine (f5.out _ _ s).mono ?_; rintro e w4 ⟨rfl, hst⟩
            have s : Sp w [] w4 [] := s.still hst
            clear hst
            refine hKr.out _ _ (fun hJ => ?_) (fun hF => ?_)
            · first
              | exact absurd hJ (by decide)
              | (clear hJ; (try dsimp only); all_goals (first | (simp [*, World.cell?_alloc_some, World.cell?_setCell_far]; done) | skip))
            clear hKr
            try simp only [Act.put, nrmA, nrmB, nrmC]
            refine wpAnyJ_ready (rs := [10]) (by kernel_rfl) (by simp) ?_
            refine AllJ.cons1 (o := ⟨some 36, .binOp .neq 132 (.tmp 30) (.tmp 35) 132, 4, "frame.go:41", #[⟨4, .data⟩, ⟨9, .data⟩], none⟩) rfl (fun Kr hKr => ?_)
            go_simp
            refine hKr.out _ _ (fun hJ => ?_) (fun hF => ?_)
            · first
              | exact absurd hJ (by decide)
              | (clear hJ; (try dsimp only); all_goals (first | (simp [*, World.cell?_alloc_some, World.cell?_setCell_far]; done) | skip))
            clear hKr
            try simp only [Act.put, nrmA, nrmB, nrmC]
            refine wpAnyJ_done (by kernel_rfl) ?_ _
            go_wp2_with fail
            go_ret3
            rw [hr]
            exact .inl ⟨by decide, rfl, s.out rfl⟩
    · have q1 : ((x : Int) != (y : Int)) = true := by rw [bne_iff_ne]; omega
      have hq1 := fun e => hxy (hq.1 e)
      have hr := hr.out
      rw [if_pos hq1] at hr
      clear hq
      replace hxy := Lib.hid hxy
      refine wp_region_J 6 (fun _ => True) (by kernel_rfl) ?_ (fun hF => ?_)
      · (try dsimp only)
        all_goals (first | (simp [*, World.cell?_alloc_some, World.cell?_setCell_far]; done) | skip)
      refine tk0 (i := 0) (oi := ⟨some 9, .move (.tmp 0), 23, "frame.go:31", #[], none⟩) (v := ?_) rfl (by kernel_rfl) (fun _ _ _ h => h) (fun _ => hF) (fun w => ?_) (by rfl) ?_
      rotate_left
      · first | (go_simp; done) | (go_simp; with_reducible rfl) | (go_split_ands; go_simp; done)
      try simp only [Act.put, nrmA, nrmB, nrmC]
      refine tk0 (i := 1) (oi := ⟨some 10, .slice 23 (.tmp 9) (some (.const (.int .i64 4))) none none, 23, "frame.go:31", #[⟨0, .data⟩], none⟩) (v := ?_) rfl (by kernel_rfl) (fun _ _ _ h => h) (fun _ => hF) (fun w => ?_) (by rfl) ?_
      rotate_left
      · first | (go_simp; done) | (go_simp; with_reducible rfl) | (go_split_ands; go_simp; done)
      try simp only [Act.put, nrmA, nrmB, nrmC]
      refine tk0 (i := 3) (oi := ⟨some 12, .move (.tmp 0), 23, "frame.go:31", #[], none⟩) (v := ?_) rfl (by kernel_rfl) (fun _ _ _ h => h) (fun _ => hF) (fun w => ?_) (by rfl) ?_
      rotate_left
      · first | (go_simp; done) | (go_simp; with_reducible rfl) | (go_split_ands; go_simp; done)
      try simp only [Act.put, nrmA, nrmB, nrmC]
      refine tk0 (i := 4) (oi := ⟨some 13, .slice 23 (.tmp 12) none (some (.const (.int .i64 4))) none, 23, "frame.go:31", #[⟨3, .data⟩], none⟩) (v := ?_) rfl (by kernel_rfl) (fun _ _ _ h => h) (fun _ => hF) (fun w => ?_) (by rfl) ?_
      rotate_left
      · first | (go_simp; done) | (go_simp; with_reducible rfl) | (go_split_ands; go_simp; done)
      try simp only [Act.put, nrmA, nrmB, nrmC]
      refine wpAnyJ_ready (rs := [2]) (by kernel_rfl) (by simp) ?_
      refine AllJ.cons1 (o := ⟨some 11, .call { callee := .value (.func 129), args := #[.tmp 10], argTypes := #[23] }, 132, "frame.go:31", #[⟨1, .data⟩], none⟩) rfl (fun Kr hKr => ?_)
      go_simp; go_at_call 129; refine (f1.out _ _ s).mono ?_; rintro e w3 ⟨rfl, hst⟩
      have s : Sp w [] w3 [] := s.still hst
      clear hst
      refine hKr.out _ _ (fun hJ => ?_) (fun hF => ?_)
      · first
        | exact absurd hJ (by decide)
        | (clear hJ; (try dsimp only); all_goals (first | (simp [*, World.cell?_alloc_some, World.cell?_setCell_far]; done) | skip))
      clear hKr
      try simp only [Act.put, nrmA, nrmB, nrmC]
      refine wpAnyJ_ready (rs := [5]) (by kernel_rfl) (by simp) ?_
      refine AllJ.cons1 (o := ⟨some 14, .call { callee := .value (.func 83), args := #[.tmp 13], argTypes := #[23] }, 132, "frame.go:31", #[⟨4, .data⟩, ⟨2, .chain⟩], none⟩) rfl (fun Kr hKr => ?_)
      go_simp; go_at_call 83; refine (f2.out _ _ s).mono ?_; rintro e w4 ⟨rfl, hst⟩
      have s : Sp w [] w4 [] := s.still hst
      clear hst
      refine hKr.out _ _ (fun hJ => ?_) (fun hF => ?_)
      · first
        | exact absurd hJ (by decide)
        | (clear hJ; (try dsimp only); all_goals (first | (simp [*, World.cell?_alloc_some, World.cell?_setCell_far]; done) | skip))
      clear hKr
      try simp only [Act.put, nrmA, nrmB, nrmC]
      refine wpAnyJ_ready (rs := [6]) (by kernel_rfl) (by simp) ?_
      refine AllJ.cons1 (o := ⟨some 15, .binOp .neq 132 (.tmp 11) (.tmp 14) 132, 4, "frame.go:31", #[⟨2, .data⟩, ⟨5, .data⟩], none⟩) rfl (fun Kr hKr => ?_)
      go_simp
      refine hKr.out _ _ (fun hJ => ?_) (fun hF => ?_)
      · first
        | exact absurd hJ (by decide)
        | (clear hJ; (try dsimp only); all_goals (first | (simp [*, World.cell?_alloc_some, World.cell?_setCell_far]; done) | skip))
      clear hKr
      try simp only [Act.put, nrmA, nrmB, nrmC]
      refine wpAnyJ_done (by kernel_rfl) ?_ _
      go_wp2_with fail
      go_ret3
      rw [hr]
      exact .inl ⟨by decide, rfl, s.out rfl⟩
end Go.Proofs.YtdolbeonpkanpaaGreatDoor
namespace Go.Proofs.YtdolbeonpkanpaaGreatDoor
open Go.RowKit
attribute [local go_sem ↓] Go.wp_at_zero Go.wp_at_succ

def ScanRel (l : List UInt8) (w : World) (v4 v5 : Value) (wr : World) : Prop :=
  ∃ (a : Option Addr) (c : Nat) (X : List Rw) (G : Heaplet) (i : Nat), v4 = .slice a X.length c ∧ v5 = iv i ∧ i ≤ l.length ∧ X.length ≤ i ∧ scanN l = (rwD X ++ (scanN (l.drop i)).1, i + (scanN (l.drop i)).2) ∧ RowsRep a c X G ∧ Sp w [] wr [G, rwH X]
def ScanPost (r : List (List UInt8) × Nat) (w : World) (e : Ending) (w' : World) : Prop :=
  ∃ (a : Option Addr) (c : Nat) (X : List Rw) (G : Heaplet), e = .returned (.tuple #[.slice a X.length c, iv r.2]) ∧ rwD X = r.1 ∧ RowsRep a c X G ∧ Sp w [] w' [G, rwH X]
set_option maxHeartbeats 2000000 in
set_option maxRecDepth 100000 in
theorem scan_any (a : Option Addr) (n c : Nat) (l : List UInt8) (w : World) (h : RdBytes w a n c l) (hl : l.length ≤ 1073741824) :
    Calls Tryz.prog 94 #[.slice a n c] w (ScanPost (scanN l) w) := by
  obtain rfl := h.1
  have b1 : (l.length : Int) ≤ 1073741824 := by omega
  have hin0 : Hid (ScanRel l w (.slice none 0 0) (iv 0) w) := ⟨none, 0, [], [], 0, rfl, rfl, Nat.zero_le _, Nat.zero_le _, by simp [rwD], rowsRep_nil, Sp.nilk 2 w⟩
  have hW0 : Hid (∀ W Hs, Sp w [] W Hs → RdBytes W a l.length c l) := fun W Hs s => h.later (s.out rfl) (fun _ _ => by simp [dom])
  replace h := Lib.hid h
  go_enter Tryz.func94, Tryz.ntmps94
  go_wp2_with fail
  go_loopw [4, 5] (fun v4 v5 wr => ScanRel l w v4 v5 wr) (fun _ v _ => l.length - (intOf v).toNat)
  case atStart => exact hin0.out
  case round =>
    clear hin0
    obtain ⟨a4, c4, X, G, i, rfl, rfl, hi, hXi, hsc, hr, s⟩ := hrel
    have d0 : (0 : Int) ≤ (i : Int) := by omega
    by_cases hlt : i < l.length
    · have d1 : (i : Int) < (l.length : Int) := by omega
      obtain ⟨g, o, rfl, hin, hlc⟩ := rd_in h.out (by intro e; subst e; simp at hlt)
      have d2 : (l.length : Int) ≤ (c : Int) := by omega
      have d3 : ¬ c = i := by omega
      have d4 : (i : Int) ≤ (l.length : Int) := by omega
      have hsub := (inB_drop hin (n := i) (by omega) (by omega)).1 wr (hW0.out wr _ s)
      rw [List.length_drop] at hsub
      have hdec := Lib.hid (rdecode_any _ _ _ _ wr hsub (by rw [List.length_drop]; omega))
      clear hsub
      by_cases he : (decN (l.drop i)).1 = 0
      · rw [scanN_go he] at hsc
        obtain ⟨_, hok1, _, hok3, hok4⟩ := decN_ok he
        have hok2 := (decN_ok he).1
        rw [List.length_drop] at hok2
        rw [List.drop_drop] at hsc
        obtain ⟨⟨e, p, m⟩, hd⟩ : ∃ d, d = decN (l.drop i) := ⟨_, rfl⟩
        rw [← hd] at hsc he hok3 hok4 hdec
        simp only at hsc he hok3 hok4
        subst he
        have hm1 : i + m ≤ l.length := by omega
        have hm2 : 0 < m := by omega
        have hm3 : m ≤ 65548 := by omega
        clear hok1 hok2 hok3 hok4
        replace hd := Lib.hid hd
        replace hr := Lib.hid hr
        replace hsc := Lib.hid hsc
        go_wp2_with fail
        refine hdec.out.mono ?_
        rintro e w1 (⟨h0, _⟩ | ⟨_, ap, cp, Gp, rfl, rp, hst⟩)
        · exact absurd rfl h0
        · have s1 : Sp w [] w1 [G, rwH X, Gp] := s.fresh hst
          clear hst s
          have s2 : Sp w [] _ [G, rwH X, Gp, [(w1.heap.size, .cells #[.slice ap p.length cp] 23 (0, 0))]] := s1.alloc _
          have rp : SlRep 5 1 ap p.length cp (p.map Go.Proofs.YtdolbeonpkanpaaGreatDoor.u8) Gp := rp
          replace rp := Lib.hid rp
          go_wp2_with (at_builtin; refine wpList_app rfl st_rows _ _ rfl (by rfl) (by rfl) hr.out.1 (s2.own 0 rfl) (rdCells_block (heap_alloc_new _ _) rfl (by simp [Value.oneCell'])) (by unfold maxLen; omega) (by omega) ?_; intro a6 c6 w8 H6 hr6 hst6; have s3 : Sp w [] w8 [H6, rwH X, Gp, _] := s2.put 0 rfl hst6; replace hr6 := Lib.hid hr6)
          refine ⟨⟨a6, c6, X ++ [⟨ap, cp, p, Gp⟩], H6, i + m, by rw [List.length_append]; rfl, by go_num, hm1, by rw [List.length_append, List.length_singleton]; omega, ?_, rowsRep_snoc (x := ⟨ap, cp, p, Gp⟩) hr6.out rfl hr.out.2 rp.out, ?_⟩, by simp [intOf]; omega⟩
          · rw [hsc.out, rwD_snoc]
            simp [Nat.add_assoc]
          · rw [rwH_snoc]
            exact (s3.forget 3 rfl).perm (by simp)
      · rw [scanN_stop he] at hsc
        obtain ⟨⟨e, p, m⟩, hd⟩ : ∃ d, d = decN (l.drop i) := ⟨_, rfl⟩
        rw [← hd] at he hdec
        simp only at he
        have q1 : ((e : Int) != 0) = true := by rw [bne_iff_ne]; omega
        replace hd := Lib.hid hd
        replace hr := Lib.hid hr
        replace hsc := Lib.hid hsc
        go_wp2_with fail
        refine hdec.out.mono ?_
        rintro e' w1 (⟨_, rfl, hst⟩ | ⟨h0, _⟩)
        · have s := s.still hst
          go_wp2_with fail
          go_ret2
          rw [hsc.out]
          exact ⟨a4, c4, X, G, rfl, by simp, hr.out, s⟩
        · exact absurd h0 he
    · have d1 : (l.length : Int) ≤ (i : Int) := by omega
      have he : (decN (l.drop i)).1 ≠ 0 := by
        rw [List.drop_eq_nil_of_le (by omega)]
        decide
      rw [scanN_stop he] at hsc
      replace hsc := Lib.hid hsc
      go_wp2_with fail
      go_ret2
      rw [hsc.out]
      exact ⟨a4, c4, X, G, rfl, by simp, hr, s⟩
end Go.Proofs.YtdolbeonpkanpaaGreatDoor
