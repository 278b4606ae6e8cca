/- The reference of timers: Cancel. -/
import Derived.Test.YtcocgljaifnmnaaTfA
namespace Go.Proofs.Ytcocgljaifnmnaa
open Go.RowKit
attribute [local go_sem ↓] Go.wp_at_zero Go.wp_at_succ

theorem cut_filter {L : List (Int × Int)} (hd : (L.map Prod.fst).Nodup) {i : Nat} {x : Int × Int} (hi : L[i]? = some x) : L.take i ++ L.drop (i + 1) = L.filter fun y => y.1 != x.1 := by
  obtain ⟨hil, e1⟩ := List.getElem?_eq_some_iff.1 hi
  have hL : L = L.take i ++ x :: L.drop (i + 1) := by
    rw [← e1, List.getElem_cons_drop hil, List.take_append_drop]
  rw [hL, List.map_append, List.map_cons, List.nodup_append, List.nodup_cons] at hd
  obtain ⟨_, ⟨h1, _⟩, h2⟩ := hd
  conv => rhs; rw [hL]
  rw [List.filter_append, List.filter_cons_of_neg (by simp)]
  congr 1
  · refine (List.filter_eq_self.2 fun y hy => ?_).symm
    simp only [bne_iff_ne]
    exact h2 y.1 (List.mem_map.2 ⟨y, hy, rfl⟩) x.1 (List.mem_cons_self ..)
  · refine (List.filter_eq_self.2 fun y hy => ?_).symm
    simp only [bne_iff_ne]
    exact fun e => h1 (e ▸ List.mem_map.2 ⟨y, hy, rfl⟩)
theorem filter_ids {S : List (Int × Int)} (h : (S.map Prod.fst).Nodup) (p : Int × Int → Bool) : ((S.filter p).map Prod.fst).Nodup := by
  exact List.Sublist.nodup (List.Sublist.map _ List.filter_sublist) h
def TfCancelPost (b : Nat) (S : List (Int × Int)) (id : Int) (H : Heaplet) (w : World) (e : Ending) (w' : World) : Prop :=
  (hasS S id = false ∧ e = .returned (.tuple #[ii 0, .bool false]) ∧ w = w') ∨ (∃ at', (id, at') ∈ S ∧ e = .returned (.tuple #[ii at', .bool true]) ∧ ∃ H', TfS b (S.filter fun x => x.1 != id) H' ∧ Step w H w' H')
set_option maxRecDepth 100000 in
set_option maxHeartbeats 2000000 in
theorem tfcancel_any (b : Nat) (L : List (Int × Int)) (id : Int) (H : Heaplet) (w : World) (h : TfS b L H) (hw : Own w H) (hl : L.length ≤ 4096) :
    Calls Try.prog 15 #[pt b, ii id] w (TfCancelPost b L id H w) := by
  obtain ⟨h, hd⟩ := h
  have hfi := Lib.hid (find_any b L id H w h hw (by omega))
  replace hd := Lib.hid hd
  obtain ⟨a, c, HA, rfl, hr⟩ := h
  unfold FindPost at hfi
  go_enter Try.func15, Try.ntmps15
  go_wp2_with fail
  refine hfi.out.mono ?_
  rintro e w1 ⟨rfl, ⟨hno, rfl⟩ | ⟨i, a0, hi, hx, rfl⟩⟩
  · replace hno := Lib.hid hno
    go_wp2_with fail
    go_ret2
    exact .inl ⟨hno.out, rfl, rfl⟩
  · have c0 := cells1 hw.h0
    have s0 := Step.refl hw
    have hr2 := hr
    obtain ⟨n, hn⟩ : ∃ n, n = L.length := ⟨_, rfl⟩
    obtain ⟨i1, hi1⟩ : ∃ i1, i1 = i + 1 := ⟨_, rfl⟩
    obtain ⟨g, rfl, h2, h3, fg, x0, x1⟩ := tf_at hr hw.tail hx
    unfold tfHead at s0
    rw [← hn] at c0 h2 hr s0 hi
    have d0 : (0 : Int) ≤ (i : Int) := by omega
    have d1 : (i : Int) < (n : Int) := by omega
    have d2 : (i : Int) ≤ (c : Int) := by omega
    have d3 : IntKind.i64.wrap ((i : Int) + 1) = (i1 : Int) := by rw [IntWalk.i64_in _ (by omega)]; omega
    have d4 : (0 : Int) ≤ (i1 : Int) := by omega
    have d5 : (i1 : Int) ≤ (n : Int) := by omega
    have d6 : (n : Int) ≤ (c : Int) := by omega
    have k1 : i ≤ c := by omega
    have k2 : i1 ≤ n := by omega
    have hcut := Lib.hid (cut_filter hd.out hx)
    have hids := Lib.hid (filter_ids hd.out (fun x => x.1 != id))
    have hln : Hid ((L.filter fun y => y.1 != id).length = i + (n - i1)) := by
      show _ = _
      rw [← hcut.out, List.length_append, List.length_take, List.length_drop]; omega
    have hrd := Lib.hid (fun W (hW : Own W HA) c' => slk_rd tc_len tc_one hr hn hW 0 i c' (by omega))
    have hrd2 : Hid (∀ W, Own W HA → RdCells W (.slice (if c = i1 then some ⟨g, 0, none⟩ else some ⟨g, i1 * 2, none⟩) (n - i1) (c - i1)) (n - i1) 2 (((L.drop i1).take (n - i1)).flatMap tc)) := fun W hW => by
      have q := slk_rd tc_len tc_one hr hn hW i1 (n - i1) (c - i1) (by omega)
      split
      · have e0 : n - i1 = 0 := by omega
        rw [e0] at q ⊢
        exact ⟨by simp, by simp, .inr ⟨_, _, rfl, by simp⟩⟩
      · exact q
    have hb : n ≤ 4096 := by omega
    replace hx := Lib.hid hx
    have hi1' := Lib.hid hi1
    replace hn := Lib.hid hn
    clear hi1 hr
    replace hr2 := Lib.hid hr2
    go_wp2_with fail
    refine wp_region_J 19 (fun w' => w'.cell? ⟨b, 0, none⟩ = some (.slice (some ⟨g, 0, none⟩) n c)) (by kernel_rfl) ?_ (fun hF => ?_)
    · (try dsimp only)
      all_goals (first | exact c0 | (simp [*, World.cell?_alloc_some]; done))
    refine wpAnyJ_take0 (i := 0) (oi := { dst := some 21, op := Go.Op.move (Go.Operand.tmp 0), type := 33, pos := "timers.go:43", after := #[], guard := none }) (v := ?_) rfl (by kernel_rfl) (by kernel_rfl) (by kernel_rfl) (by kernel_rfl) (fun _ _ _ h => h) (by first | exact fun _ => hF | exact fun _ => hF (by kernel_rfl)) (fun w => ?_) (by rfl) ?_
    rotate_left
    · first | (go_simp; done) | (go_simp; with_reducible rfl) | (go_split_ands; go_simp; done)
    try simp only [Act.put, List.setIfInBounds_toArray, List.set_cons_zero, List.set_cons_succ]
    refine wpAnyJ_take0 (i := 2) (oi := { dst := some 23, op := Go.Op.move (Go.Operand.tmp 0), type := 33, pos := "timers.go:43", after := #[], guard := none }) (v := ?_) rfl (by kernel_rfl) (by kernel_rfl) (by kernel_rfl) (by kernel_rfl) (fun _ _ _ h => h) (by first | exact fun _ => hF | exact fun _ => hF (by kernel_rfl)) (fun w => ?_) (by rfl) ?_
    rotate_left
    · first | (go_simp; done) | (go_simp; with_reducible rfl) | (go_split_ands; go_simp; done)
    try simp only [Act.put, List.setIfInBounds_toArray, List.set_cons_zero, List.set_cons_succ]
    refine wpAnyJ_take0 (i := 3) (oi := { dst := some 24, op := Go.Op.nilCheck (Go.Operand.tmp 23), type := 0, pos := "timers.go:43", after := #[{ on := 2, ground := Go.Ground.data }], guard := none }) (v := ?_) rfl (by kernel_rfl) (by kernel_rfl) (by kernel_rfl) (by kernel_rfl) (fun _ _ _ h => h) (by first | exact fun _ => hF | exact fun _ => hF (by kernel_rfl)) (fun w => ?_) (by rfl) ?_
    rotate_left
    · first | (go_simp; done) | (go_simp; with_reducible rfl) | (go_split_ands; go_simp; done)
    try simp only [Act.put, List.setIfInBounds_toArray, List.set_cons_zero, List.set_cons_succ]
    refine wpAnyJ_take0 (i := 4) (oi := { dst := some 25, op := Go.Op.fieldAddr 36 (Go.Operand.tmp 24) 0, type := 0, pos := "timers.go:43", after := #[{ on := 3, ground := Go.Ground.data }], guard := none }) (v := ?_) rfl (by kernel_rfl) (by kernel_rfl) (by kernel_rfl) (by kernel_rfl) (fun _ _ _ h => h) (by first | exact fun _ => hF | exact fun _ => hF (by kernel_rfl)) (fun w => ?_) (by rfl) ?_
    rotate_left
    · first | (go_simp; done) | (go_simp; with_reducible rfl) | (go_split_ands; go_simp; done)
    try simp only [Act.put, List.setIfInBounds_toArray, List.set_cons_zero, List.set_cons_succ]
    refine wpAnyJ_take (i := 5) (oi := { dst := some 26, op := Go.Op.load 34 (Go.Operand.tmp 25), type := 34, pos := "timers.go:43", after := #[{ on := 4, ground := Go.Ground.data }], guard := none }) (v := ?_) [19] rfl (by kernel_rfl) (by kernel_rfl) (by kernel_rfl) (by kernel_rfl) (by kernel_rfl) (fun _ _ _ h => h) (by first | exact hF | exact hF (by kernel_rfl)) (fun w hFw => ?_) (by rfl) ?_
    rotate_left
    · ((try dsimp only at hFw); first | (go_simp; done) | (go_simp; with_reducible rfl) | (go_split_ands; go_simp; done))
    try simp only [Act.put, List.setIfInBounds_toArray, List.set_cons_zero, List.set_cons_succ]
    refine wpAnyJ_take0 (i := 6) (oi := { dst := some 27, op := Go.Op.move (Go.Operand.tmp 6), type := 3, pos := "timers.go:43", after := #[], guard := none }) (v := ?_) rfl (by kernel_rfl) (by kernel_rfl) (by kernel_rfl) (by kernel_rfl) (fun _ _ _ h => h) (by first | exact fun _ => hF | exact fun _ => hF (by kernel_rfl)) (fun w => ?_) (by rfl) ?_
    rotate_left
    · first | (go_simp; done) | (go_simp; with_reducible rfl) | (go_split_ands; go_simp; done)
    try simp only [Act.put, List.setIfInBounds_toArray, List.set_cons_zero, List.set_cons_succ]
    refine wpAnyJ_take0 (i := 7) (oi := { dst := some 28, op := Go.Op.slice 34 (Go.Operand.tmp 26) none (some (Go.Operand.tmp 27)) none, type := 34, pos := "timers.go:43", after := #[{ on := 5, ground := Go.Ground.data }, { on := 6, ground := Go.Ground.data }], guard := none }) (v := ?_) rfl (by kernel_rfl) (by kernel_rfl) (by kernel_rfl) (by kernel_rfl) (fun _ _ _ h => h) (by first | exact fun _ => hF | exact fun _ => hF (by kernel_rfl)) (fun w => ?_) (by rfl) ?_
    rotate_left
    · first | (go_simp; done) | (go_simp; with_reducible rfl) | (go_split_ands; go_simp; done)
    try simp only [Act.put, List.setIfInBounds_toArray, List.set_cons_zero, List.set_cons_succ]
    refine wpAnyJ_take0 (i := 9) (oi := { dst := some 30, op := Go.Op.move (Go.Operand.tmp 0), type := 33, pos := "timers.go:43", after := #[], guard := none }) (v := ?_) rfl (by kernel_rfl) (by kernel_rfl) (by kernel_rfl) (by kernel_rfl) (fun _ _ _ h => h) (by first | exact fun _ => hF | exact fun _ => hF (by kernel_rfl)) (fun w => ?_) (by rfl) ?_
    rotate_left
    · first | (go_simp; done) | (go_simp; with_reducible rfl) | (go_split_ands; go_simp; done)
    try simp only [Act.put, List.setIfInBounds_toArray, List.set_cons_zero, List.set_cons_succ]
    refine wpAnyJ_take0 (i := 10) (oi := { dst := some 31, op := Go.Op.nilCheck (Go.Operand.tmp 30), type := 0, pos := "timers.go:43", after := #[{ on := 9, ground := Go.Ground.data }], guard := none }) (v := ?_) rfl (by kernel_rfl) (by kernel_rfl) (by kernel_rfl) (by kernel_rfl) (fun _ _ _ h => h) (by first | exact fun _ => hF | exact fun _ => hF (by kernel_rfl)) (fun w => ?_) (by rfl) ?_
    rotate_left
    · first | (go_simp; done) | (go_simp; with_reducible rfl) | (go_split_ands; go_simp; done)
    try simp only [Act.put, List.setIfInBounds_toArray, List.set_cons_zero, List.set_cons_succ]
    refine wpAnyJ_take0 (i := 11) (oi := { dst := some 32, op := Go.Op.fieldAddr 36 (Go.Operand.tmp 31) 0, type := 0, pos := "timers.go:43", after := #[{ on := 10, ground := Go.Ground.data }], guard := none }) (v := ?_) rfl (by kernel_rfl) (by kernel_rfl) (by kernel_rfl) (by kernel_rfl) (fun _ _ _ h => h) (by first | exact fun _ => hF | exact fun _ => hF (by kernel_rfl)) (fun w => ?_) (by rfl) ?_
    rotate_left
    · first | (go_simp; done) | (go_simp; with_reducible rfl) | (go_split_ands; go_simp; done)
    try simp only [Act.put, List.setIfInBounds_toArray, List.set_cons_zero, List.set_cons_succ]
    refine wpAnyJ_take (i := 12) (oi := { dst := some 33, op := Go.Op.load 34 (Go.Operand.tmp 32), type := 34, pos := "timers.go:43", after := #[{ on := 11, ground := Go.Ground.data }], guard := none }) (v := ?_) [19] rfl (by kernel_rfl) (by kernel_rfl) (by kernel_rfl) (by kernel_rfl) (by kernel_rfl) (fun _ _ _ h => h) (by first | exact hF | exact hF (by kernel_rfl)) (fun w hFw => ?_) (by rfl) ?_
    rotate_left
    · ((try dsimp only at hFw); first | (go_simp; done) | (go_simp; with_reducible rfl) | (go_split_ands; go_simp; done))
    try simp only [Act.put, List.setIfInBounds_toArray, List.set_cons_zero, List.set_cons_succ]
    refine wpAnyJ_take0 (i := 13) (oi := { dst := some 34, op := Go.Op.move (Go.Operand.tmp 6), type := 3, pos := "timers.go:43", after := #[], guard := none }) (v := ?_) rfl (by kernel_rfl) (by kernel_rfl) (by kernel_rfl) (by kernel_rfl) (fun _ _ _ h => h) (by first | exact fun _ => hF | exact fun _ => hF (by kernel_rfl)) (fun w => ?_) (by rfl) ?_
    rotate_left
    · first | (go_simp; done) | (go_simp; with_reducible rfl) | (go_split_ands; go_simp; done)
    try simp only [Act.put, List.setIfInBounds_toArray, List.set_cons_zero, List.set_cons_succ]
    refine wpAnyJ_take0 (i := 14) (oi := { dst := some 35, op := Go.Op.binOp Go.BinOp.add 3 (Go.Operand.tmp 34) (Go.Operand.const (Go.Value.int Go.IntKind.i64 1)) 3, type := 3, pos := "timers.go:43", after := #[{ on := 13, ground := Go.Ground.data }], guard := none }) (v := ?_) rfl (by kernel_rfl) (by kernel_rfl) (by kernel_rfl) (by kernel_rfl) (fun _ _ _ h => h) (by first | exact fun _ => hF | exact fun _ => hF (by kernel_rfl)) (fun w => ?_) (by rfl) ?_
    rotate_left
    · first | (go_simp; done) | (go_simp; with_reducible rfl) | (go_split_ands; go_simp; done)
    try simp only [Act.put, List.setIfInBounds_toArray, List.set_cons_zero, List.set_cons_succ]
    refine wpAnyJ_take0 (i := 15) (oi := { dst := some 36, op := Go.Op.slice 34 (Go.Operand.tmp 33) (some (Go.Operand.tmp 35)) none none, type := 34, pos := "timers.go:43", after := #[{ on := 12, ground := Go.Ground.data }, { on := 14, ground := Go.Ground.data }], guard := none }) (v := ?_) rfl (by kernel_rfl) (by kernel_rfl) (by kernel_rfl) (by kernel_rfl) (fun _ _ _ h => h) (by first | exact fun _ => hF | exact fun _ => hF (by kernel_rfl)) (fun w => ?_) (by rfl) ?_
    rotate_left
    · first | (go_simp; done) | (go_simp; with_reducible rfl) | (go_split_ands; go_simp; done)
    try simp only [Act.put, List.setIfInBounds_toArray, List.set_cons_zero, List.set_cons_succ]
    refine wpAnyJ_ready (rs := [1]) (by kernel_rfl) (by simp) ?_
    refine AllJ.cons (o := { dst := some 22, op := Go.Op.buildSlice 34 0 #[], type := 34, pos := "timers.go:43", after := #[], guard := none }) rfl (fun Kr hKr => ?_) ?_
    · go_simp
      refine hKr.out _ _ (fun hJ => ?_) (fun hF => ?_)
      · first
        | exact absurd hJ (by decide)
        | (clear hJ; (try dsimp only); all_goals (first | exact c0 | (simp [*, World.cell?_alloc_some]; done)))
      clear hKr
      try simp only [Act.put, List.setIfInBounds_toArray, List.set_cons_zero, List.set_cons_succ]
      refine wpAnyJ_ready (rs := [8]) (by kernel_rfl) (by simp) ?_
      refine AllJ.cons (o := { dst := some 29, op := Go.Op.call { callee := Go.Callee.builtin Go.Builtin.append, args := #[Go.Operand.tmp 22, Go.Operand.tmp 28], argTypes := #[34, 34] }, type := 34, pos := "timers.go:43", after := #[{ on := 1, ground := Go.Ground.data }, { on := 7, ground := Go.Ground.data }], guard := none }) rfl (fun Kr hKr => ?_) ?_
      · have s1 := s0.drew.alloc (.cells #[] 59 (0, 0))
        refine step_app rfl st_tf _ _ (by rfl) (by rfl) (by rfl) (SlRep.made _ _ _) (Own.left (A := [_]) s1.own) (hrd.out _ s1.own.tail.tail _) (by unfold maxLen; omega) (by omega) ?_
        intro a2 c2 w2 H2 hv2 hst2
        have s2 := Step.call (G := [_]) s1 hst2
        have c0 := cells1 s2.own.right.h0
        refine hKr.out _ _ (fun hJ => ?_) (fun hF => ?_)
        · first
          | exact absurd hJ (by decide)
          | (clear hJ; (try dsimp only); all_goals (first | exact c0 | (simp [*, World.cell?_alloc_some]; done)))
        clear hKr
        try simp only [Act.put, List.setIfInBounds_toArray, List.set_cons_zero, List.set_cons_succ]
        refine wpAnyJ_ready (rs := [16]) (by kernel_rfl) (by simp) ?_
        refine AllJ.cons (o := { dst := some 37, op := Go.Op.call { callee := Go.Callee.builtin Go.Builtin.append, args := #[Go.Operand.tmp 29, Go.Operand.tmp 36], argTypes := #[34, 34] }, type := 34, pos := "timers.go:43", after := #[{ on := 8, ground := Go.Ground.data }, { on := 15, ground := Go.Ground.data }, { on := 8, ground := Go.Ground.chain }], guard := none }) rfl (fun Kr hKr => ?_) ?_
        · refine step_app rfl st_tf _ _ (by rfl) (by rfl) (by rfl) hv2 s2.own.left (hrd2.out _ s2.own.right.tail) (by unfold maxLen; omega) (by omega) ?_
          intro a3 c3 w3 H3 hv3 hst3
          have s3 := Step.call s2 hst3
          have c0 := cells1 s3.own.right.h0
          have f0 := frz_of (i := 0) s3.own.right.h0
          refine hKr.out _ _ (fun hJ => ?_) (fun hF => ?_)
          · first
            | exact absurd hJ (by decide)
            | (clear hJ; (try dsimp only); all_goals (first | exact c0 | (simp [*, World.cell?_alloc_some]; done)))
          clear hKr
          try simp only [Act.put, List.setIfInBounds_toArray, List.set_cons_zero, List.set_cons_succ]
          refine wpAnyJ_take0 (i := 17) (oi := { dst := some 38, op := Go.Op.nilCheck (Go.Operand.tmp 21), type := 0, pos := "timers.go:43", after := #[{ on := 0, ground := Go.Ground.data }, { on := 0, ground := Go.Ground.phase }, { on := 1, ground := Go.Ground.phase }, { on := 2, ground := Go.Ground.phase }, { on := 3, ground := Go.Ground.phase }, { on := 4, ground := Go.Ground.phase }, { on := 5, ground := Go.Ground.phase }, { on := 6, ground := Go.Ground.phase }, { on := 7, ground := Go.Ground.phase }, { on := 8, ground := Go.Ground.phase }, { on := 9, ground := Go.Ground.phase }, { on := 10, ground := Go.Ground.phase }, { on := 11, ground := Go.Ground.phase }, { on := 12, ground := Go.Ground.phase }, { on := 13, ground := Go.Ground.phase }, { on := 14, ground := Go.Ground.phase }, { on := 15, ground := Go.Ground.phase }, { on := 16, ground := Go.Ground.phase }], guard := none }) (v := ?_) rfl (by kernel_rfl) (by kernel_rfl) (by kernel_rfl) (by kernel_rfl) (fun _ _ _ h => h) (by first | exact fun _ => hF | exact fun _ => hF (by kernel_rfl)) (fun w => ?_) (by rfl) ?_
          rotate_left
          · first | (go_simp; done) | (go_simp; with_reducible rfl) | (go_split_ands; go_simp; done)
          try simp only [Act.put, List.setIfInBounds_toArray, List.set_cons_zero, List.set_cons_succ]
          refine wpAnyJ_take0 (i := 18) (oi := { dst := some 39, op := Go.Op.fieldAddr 36 (Go.Operand.tmp 38) 0, type := 0, pos := "timers.go:43", after := #[{ on := 17, ground := Go.Ground.data }, { on := 0, ground := Go.Ground.phase }, { on := 1, ground := Go.Ground.phase }, { on := 2, ground := Go.Ground.phase }, { on := 3, ground := Go.Ground.phase }, { on := 4, ground := Go.Ground.phase }, { on := 5, ground := Go.Ground.phase }, { on := 6, ground := Go.Ground.phase }, { on := 7, ground := Go.Ground.phase }, { on := 8, ground := Go.Ground.phase }, { on := 9, ground := Go.Ground.phase }, { on := 10, ground := Go.Ground.phase }, { on := 11, ground := Go.Ground.phase }, { on := 12, ground := Go.Ground.phase }, { on := 13, ground := Go.Ground.phase }, { on := 14, ground := Go.Ground.phase }, { on := 15, ground := Go.Ground.phase }, { on := 16, ground := Go.Ground.phase }], guard := none }) (v := ?_) rfl (by kernel_rfl) (by kernel_rfl) (by kernel_rfl) (by kernel_rfl) (fun _ _ _ h => h) (by first | exact fun _ => hF | exact fun _ => hF (by kernel_rfl)) (fun w => ?_) (by rfl) ?_
          rotate_left
          · first | (go_simp; done) | (go_simp; with_reducible rfl) | (go_split_ands; go_simp; done)
          try simp only [Act.put, List.setIfInBounds_toArray, List.set_cons_zero, List.set_cons_succ]
          refine wpAnyJ_ready (rs := [19]) (by kernel_rfl) (by simp) ?_
          refine AllJ.cons (o := { dst := none, op := Go.Op.store 34 (Go.Operand.tmp 39) (Go.Operand.tmp 37), type := 0, pos := "timers.go:43", after := #[{ on := 18, ground := Go.Ground.data }, { on := 16, ground := Go.Ground.data }, { on := 16, ground := Go.Ground.chain }, { on := 0, ground := Go.Ground.phase }, { on := 1, ground := Go.Ground.phase }, { on := 2, ground := Go.Ground.phase }, { on := 3, ground := Go.Ground.phase }, { on := 4, ground := Go.Ground.phase }, { on := 5, ground := Go.Ground.phase }, { on := 6, ground := Go.Ground.phase }, { on := 7, ground := Go.Ground.phase }, { on := 8, ground := Go.Ground.phase }, { on := 9, ground := Go.Ground.phase }, { on := 10, ground := Go.Ground.phase }, { on := 11, ground := Go.Ground.phase }, { on := 12, ground := Go.Ground.phase }, { on := 13, ground := Go.Ground.phase }, { on := 14, ground := Go.Ground.phase }, { on := 15, ground := Go.Ground.phase }, { on := 16, ground := Go.Ground.phase }], guard := none }) rfl (fun Kr hKr => ?_) ?_
          · go_simp
            refine hKr.out _ _ (fun hJ => ?_) (fun hF => ?_)
            · first
              | exact absurd hJ (by decide)
              | (clear hJ; (try dsimp only); all_goals (first | exact c0 | (simp [*, World.cell?_alloc_some]; done)))
            clear hKr
            try simp only [Act.put, List.setIfInBounds_toArray, List.set_cons_zero, List.set_cons_succ]
            refine wpAnyJ_done (by kernel_rfl) ?_ _
            go_wp2_with fail
            all_goals
              go_ret2
              have s4 := Step.store0 (.slice a3 (0 + i + (n - i1)) c3) (i := 0) (B := H3 ++ HA) (s3.perm (List.Perm.refl _) List.perm_middle)
              refine .inr ⟨a0, List.mem_of_getElem? hx.out, rfl, _, ⟨⟨a3, c3, H3, rfl, ?_⟩, hids.out⟩, ?_⟩
              · rw [hln.out, ← hcut.out, List.flatMap_append]
                have hL := hn.out
                have q := hv3
                rw [Nat.zero_add, List.nil_append, List.drop_zero, List.take_of_length_le (l := L.drop i1) (by rw [List.length_drop]; omega), hi1'.out] at q
                rw [hi1'.out]
                exact q
              · rw [Nat.zero_add] at s4
                rw [hln.out]
                unfold tfHead
                rw [← hn.out]
                first
                  | exact s4.forget (A := _ :: H3)
                  | (rename_i hci; rw [← hci]; exact s4.forget (A := _ :: H3))
                  | (subst_vars; exact s4.forget (A := _ :: H3))
          exact AllJ.nil
        exact AllJ.nil
      exact AllJ.nil
    exact AllJ.nil
end Go.Proofs.Ytcocgljaifnmnaa
