import Derived.Test.YtliapfdbagcklaaNetG
namespace Go.Proofs.Ytliapfdbagcklaa
open Go.RowKit
attribute [local go_sem ↓] Go.wp_at_zero Go.wp_at_succ

def LatePost (bx b : Nat) (l : List It) (i : Nat) (w : World) (H : Heaplet) (e : Ending) (w' : World) : Prop :=
  ∃ (hi : i < l.length) (H' : Heaplet), e = .returned (.bool true) ∧ NetRep 55 b (l.eraseIdx i ++ [l[i]]) H' ∧
    Step w ((bx, .cells #[.pointer (some ⟨b, 0, none⟩)] 24 (0, 0)) :: H) w' ((bx, .cells #[.pointer (some ⟨b, 0, none⟩)] 24 (0, 0)) :: H')

theorem late_done {bx b m c2 : Nat} {a2 : Option Addr} {l : List It} {i : Nat} {w w' : World} {H0 R : Heaplet} (hi : i < l.length) (hm : m + (i + 1 - i) = l.length)
    (hr : SlRep 28 3 a2 (m + 1) c2 (((l.flatMap It.cells).take (i * 3) ++ (l.flatMap It.cells).drop ((i + 1) * 3)) ++ l[i].cells) R) (hok : ∀ x ∈ l, x.ok)
    (s : Step w ((bx, .cells #[.pointer (some ⟨b, 0, none⟩)] 24 (0, 0)) :: H0) w' ((bx, .cells #[.pointer (some ⟨b, 0, none⟩)] 24 (0, 0)) :: (b, .cells #[.slice a2 (m + 1) c2] 55 (0, 0)) :: (R ++ l.flatMap It.H))) :
    LatePost bx b l i w H0 (.returned (.bool true)) w' := by
  have e : m + 1 = (l.eraseIdx i ++ [l[i]]).length := by rw [List.length_append, List.length_eraseIdx]; simp [hi]; omega
  rw [flatMap_cells_erase l i hi, e] at hr
  rw [e] at s
  refine ⟨hi, _, rfl, ⟨a2, c2, R, by simpa [List.flatMap_append] using hr, rfl, fun x hx => ?_⟩, s.perm (List.Perm.refl _) ?_⟩
  · rcases List.mem_append.1 hx with h | h
    · exact hok x (List.mem_of_mem_eraseIdx h)
    · simp at h; subst h; exact hok _ (List.getElem_mem hi)
  · refine .cons _ (.cons _ ?_)
    have := (give_perm l i hi).append_left R
    simpa [List.flatMap_append] using this

set_option maxHeartbeats 400000 in
set_option maxRecDepth 100000 in
theorem late_closure (bx b : Nat) (l : List It) (i : Nat) (H : Heaplet) (w : World) (hn : NetRep 55 b l H) (hi : i < l.length) (hl : l.length ≤ 1024)
    (hw : Own w ((bx, .cells #[.pointer (some ⟨b, 0, none⟩)] 24 (0, 0)) :: H)) :
    Calls Try.prog 32 #[.int .i64 i, .pointer (some ⟨bx, 0, none⟩)] w (LatePost bx b l i w H) := by
  obtain ⟨a, c, R, hr, rfl, hok⟩ := hn
  obtain ⟨g, cur, rfl, rfl, m0, m1, m2⟩ := hr.msg hi
  have x0 := cells1 hw.h0
  have z0 := cells1 hw.h1
  have r0 := cell_of hw.h2 m0
  have r1 := cell_of hw.h2 m1
  have r2 := cell_of hw.h2 m2
  have fb := fun i => frz_of (i := i) hw.h1
  have b1 : (0 : Int) ≤ (i : Int) := by omega
  have b2 : (i : Int) < (l.length : Int) := by omega
  have b3 : (l.length : Int) ≤ 1024 := by omega
  replace hok := Lib.hid hok
  replace hr := Lib.hid hr
  clear m0 m1 m2
  go_enter Try.func32, Try.ntmps32
  go_wp2_with fail
  refine Step.gen ((Step.refl hw).alloc (.cells #[.int .i64 l[i].f, .int .i64 l[i].t, .slice l[i].a l[i].d.length l[i].c] 28)) ?_
  intro W s
  obtain ⟨M, hM⟩ : ∃ M, M = w.heap.size := ⟨_, rfl⟩
  rw [← hM] at s ⊢
  clear x0 z0 r0 r1 r2 fb hw hM
  have x0 := cells1 s.own.h1
  have z0 := cells1 s.own.h2
  have fb := fun i => frz_of (i := i) s.own.h2
  have ⟨y0, y1, y2⟩ := cells3 s.own.h0
  refine wp_region_J 14 (fun w' => w'.cell? ⟨bx, 0, none⟩ = some (.pointer (some ⟨b, 0, none⟩)) ∧ w'.cell? ⟨b, 0, none⟩ = some (.slice (some ⟨g, 0, none⟩) l.length c) ∧ w'.cell? ⟨M, 0, none⟩ = some (.int .i64 l[i].f) ∧ w'.cell? ⟨M, 1, none⟩ = some (.int .i64 l[i].t) ∧ w'.cell? ⟨M, 2, none⟩ = some (.slice l[i].a l[i].d.length l[i].c)) (by kernel_rfl) ?_ (fun hF => ?_)
  · (try dsimp only)
    all_goals (simp [*, World.cell?_alloc_some, World.cell?_setCell_far]; done)
  refine wpAnyJ_take (i := 0) (oi := { dst := some 12, op := Go.Op.load 24 (Go.Operand.tmp 1), type := 24, pos := "net.go:61", after := #[], guard := none }) (v := ?_) [14] rfl (by kernel_rfl) (by kernel_rfl) (by kernel_rfl) (by kernel_rfl) (by kernel_rfl) (fun _ _ _ h => h) (by first | exact hF | exact hF (by kernel_rfl)) (fun w hFw => ?_) (by rfl) ?_
  rotate_left
  · ((try dsimp only at hFw); first | (go_simp; done) | (go_simp; with_reducible rfl) | (go_split_ands; go_simp; done))
  try simp only [Act.put, List.setIfInBounds_toArray, List.set_cons_zero, List.set_cons_succ]
  refine wpAnyJ_take (i := 1) (oi := { dst := some 13, op := Go.Op.load 24 (Go.Operand.tmp 1), type := 24, pos := "net.go:61", after := #[], guard := none }) (v := ?_) [14] rfl (by kernel_rfl) (by kernel_rfl) (by kernel_rfl) (by kernel_rfl) (by kernel_rfl) (fun _ _ _ h => h) (by first | exact hF | exact hF (by kernel_rfl)) (fun w hFw => ?_) (by rfl) ?_
  rotate_left
  · ((try dsimp only at hFw); first | (go_simp; done) | (go_simp; with_reducible rfl) | (go_split_ands; go_simp; done))
  try simp only [Act.put, List.setIfInBounds_toArray, List.set_cons_zero, List.set_cons_succ]
  refine wpAnyJ_take0 (i := 2) (oi := { dst := some 14, op := Go.Op.nilCheck (Go.Operand.tmp 13), type := 0, pos := "net.go:61", after := #[{ on := 1, ground := Go.Ground.data }], guard := none }) (v := ?_) rfl (by kernel_rfl) (by kernel_rfl) (by kernel_rfl) (by kernel_rfl) (fun _ _ _ h => h) (by first | exact fun _ => hF | exact fun _ => hF (by kernel_rfl)) (fun w => ?_) (by rfl) ?_
  rotate_left
  · first | (go_simp; done) | (go_simp; with_reducible rfl) | (go_split_ands; go_simp; done)
  try simp only [Act.put, List.setIfInBounds_toArray, List.set_cons_zero, List.set_cons_succ]
  refine wpAnyJ_take0 (i := 3) (oi := { dst := some 15, op := Go.Op.fieldAddr 55 (Go.Operand.tmp 14) 0, type := 0, pos := "net.go:61", after := #[{ on := 2, ground := Go.Ground.data }], guard := none }) (v := ?_) rfl (by kernel_rfl) (by kernel_rfl) (by kernel_rfl) (by kernel_rfl) (fun _ _ _ h => h) (by first | exact fun _ => hF | exact fun _ => hF (by kernel_rfl)) (fun w => ?_) (by rfl) ?_
  rotate_left
  · first | (go_simp; done) | (go_simp; with_reducible rfl) | (go_split_ands; go_simp; done)
  try simp only [Act.put, List.setIfInBounds_toArray, List.set_cons_zero, List.set_cons_succ]
  refine wpAnyJ_take (i := 4) (oi := { dst := some 16, op := Go.Op.load 45 (Go.Operand.tmp 15), type := 45, pos := "net.go:61", after := #[{ on := 3, ground := Go.Ground.data }], guard := none }) (v := ?_) [14] rfl (by kernel_rfl) (by kernel_rfl) (by kernel_rfl) (by kernel_rfl) (by kernel_rfl) (fun _ _ _ h => h) (by first | exact hF | exact hF (by kernel_rfl)) (fun w hFw => ?_) (by rfl) ?_
  rotate_left
  · ((try dsimp only at hFw); first | (go_simp; done) | (go_simp; with_reducible rfl) | (go_split_ands; go_simp; done))
  try simp only [Act.put, List.setIfInBounds_toArray, List.set_cons_zero, List.set_cons_succ]
  refine wpAnyJ_take0 (i := 5) (oi := { dst := some 17, op := Go.Op.move (Go.Operand.tmp 0), type := 3, pos := "net.go:61", after := #[], guard := none }) (v := ?_) rfl (by kernel_rfl) (by kernel_rfl) (by kernel_rfl) (by kernel_rfl) (fun _ _ _ h => h) (by first | exact fun _ => hF | exact fun _ => hF (by kernel_rfl)) (fun w => ?_) (by rfl) ?_
  rotate_left
  · first | (go_simp; done) | (go_simp; with_reducible rfl) | (go_split_ands; go_simp; done)
  try simp only [Act.put, List.setIfInBounds_toArray, List.set_cons_zero, List.set_cons_succ]
  refine wpAnyJ_take0 (i := 6) (oi := { dst := some 18, op := Go.Op.move (Go.Operand.tmp 0), type := 3, pos := "net.go:61", after := #[], guard := none }) (v := ?_) rfl (by kernel_rfl) (by kernel_rfl) (by kernel_rfl) (by kernel_rfl) (fun _ _ _ h => h) (by first | exact fun _ => hF | exact fun _ => hF (by kernel_rfl)) (fun w => ?_) (by rfl) ?_
  rotate_left
  · first | (go_simp; done) | (go_simp; with_reducible rfl) | (go_split_ands; go_simp; done)
  try simp only [Act.put, List.setIfInBounds_toArray, List.set_cons_zero, List.set_cons_succ]
  refine wpAnyJ_take0 (i := 7) (oi := { dst := some 19, op := Go.Op.binOp Go.BinOp.add 3 (Go.Operand.tmp 18) (Go.Operand.const (Go.Value.int Go.IntKind.i64 1)) 3, type := 3, pos := "net.go:61", after := #[{ on := 6, ground := Go.Ground.data }], guard := none }) (v := ?_) rfl (by kernel_rfl) (by kernel_rfl) (by kernel_rfl) (by kernel_rfl) (fun _ _ _ h => h) (by first | exact fun _ => hF | exact fun _ => hF (by kernel_rfl)) (fun w => ?_) (by rfl) ?_
  rotate_left
  · first | (go_simp; done) | (go_simp; with_reducible rfl) | (go_split_ands; go_simp; done)
  try simp only [Act.put, List.setIfInBounds_toArray, List.set_cons_zero, List.set_cons_succ]
  refine wpAnyJ_take (i := 9) (oi := { dst := some 21, op := Go.Op.load 28 (Go.Operand.tmp 4), type := 28, pos := "net.go:61", after := #[], guard := none }) (v := ?_) [14] rfl (by kernel_rfl) (by kernel_rfl) (by kernel_rfl) (by kernel_rfl) (by kernel_rfl) (fun _ _ _ h => h) (by first | exact hF | exact hF (by kernel_rfl)) (fun w hFw => ?_) (by rfl) ?_
  rotate_left
  · ((try dsimp only at hFw); first | (go_simp; done) | (go_simp; with_reducible rfl) | (go_split_ands; go_simp; done))
  try simp only [Act.put, List.setIfInBounds_toArray, List.set_cons_zero, List.set_cons_succ]
  refine wpAnyJ_ready (rs := [8, 10]) (by kernel_rfl) (by simp) ?_
  refine AllJ.cons (o := { dst := some 20, op := Go.Op.call { callee := Go.Callee.value (Go.Operand.func 30), args := #[Go.Operand.tmp 16, Go.Operand.tmp 17, Go.Operand.tmp 19], argTypes := #[45, 3, 3] }, type := 45, pos := "net.go:61", after := #[{ on := 4, ground := Go.Ground.data }, { on := 5, ground := Go.Ground.data }, { on := 7, ground := Go.Ground.data }], guard := none }) rfl (fun Kr hKr => ?_) ?_
  · (go_simp; first | (refine (delete_msg_at g l.length c i (i + 1) _ _ (l.flatMap It.cells) [(g, .cells cur 28 (0, 0))] _ hr.out (Own.left (A := [(g, .cells cur 28 (0, 0))]) s.own.drew.tail.tail.tail) (one_cells l) (by omega) (by omega) (by go_arith) (by go_arith)).mono ?_; rintro e w1 ⟨m, R1, hm, rfl, hr1, hst1⟩; have s := Step.mid3 s.drew hst1; have x0 := cells1 s.own.h1; have z0 := cells1 s.own.h2; have fb := fun i => frz_of (i := i) s.own.h2; have ⟨y0, y1, y2⟩ := cells3 s.own.h0) | (refine (delete_msg_at g l.length c i (i + 1) _ _ (l.flatMap It.cells) [(g, .cells cur 28 (0, 0))] _ hr.out (Own.left (A := [(g, .cells cur 28 (0, 0))]) s.own.tail.tail.tail.tail) (one_cells l) (by omega) (by omega) (by go_arith) (by go_arith)).mono ?_; rintro e w1 ⟨m, R1, hm, rfl, hr1, hst1⟩; have s := Step.mid4 s hst1; have x0 := cells1 s.own.h2; have z0 := cells1 s.own.h3; have fb := fun i => frz_of (i := i) s.own.h3; have ⟨y0, y1, y2⟩ := cells3 s.own.h1))
    refine hKr.out _ _ (fun hJ => ?_) (fun hF => ?_)
    · first
      | exact absurd hJ (by decide)
      | (clear hJ; (try dsimp only); all_goals (simp [*, World.cell?_alloc_some, World.cell?_setCell_far]; done))
    clear hKr
    try simp only [Act.put, List.setIfInBounds_toArray, List.set_cons_zero, List.set_cons_succ]
    refine wpAnyJ_ready (rs := [10]) (by kernel_rfl) (by simp) ?_
    refine AllJ.cons (o := { dst := some 22, op := Go.Op.buildSlice 45 1 #[(0, Go.Operand.tmp 21)], type := 45, pos := "net.go:61", after := #[{ on := 9, ground := Go.Ground.data }], guard := none }) rfl (fun Kr hKr => ?_) ?_
    · (go_simp; first | (have s := s.alloc (.cells #[.int .i64 l[i].f, .int .i64 l[i].t, .slice l[i].a l[i].d.length l[i].c] 28); have _ := hst1) | (have s := s.drew.alloc (.cells #[.int .i64 l[i].f, .int .i64 l[i].t, .slice l[i].a l[i].d.length l[i].c] 28)))
      refine hKr.out _ _ (fun hJ => ?_) (fun hF => ?_)
      · first
        | exact absurd hJ (by decide)
        | (clear hJ; (try dsimp only); all_goals (simp [*, World.cell?_alloc_some, World.cell?_setCell_far]; done))
      clear hKr
      try simp only [Act.put, List.setIfInBounds_toArray, List.set_cons_zero, List.set_cons_succ]
      refine wpAnyJ_ready (rs := [11]) (by kernel_rfl) (by simp) ?_
      refine AllJ.cons (o := { dst := some 23, op := Go.Op.call { callee := Go.Callee.builtin Go.Builtin.append, args := #[Go.Operand.tmp 20, Go.Operand.tmp 22], argTypes := #[45, 45] }, type := 45, pos := "net.go:61", after := #[{ on := 8, ground := Go.Ground.data }, { on := 10, ground := Go.Ground.data }, { on := 8, ground := Go.Ground.chain }], guard := none }) rfl (fun Kr hKr => ?_) ?_
      · refine step_app rfl st_msg _ _ (by rfl) (by rfl) (by rfl) hr1 s.own.tail.tail.tail.tail.left (rdCells_block s.own.h0 rfl (by simp [Value.oneCell'])) (by have := hm.out; unfold maxLen; omega) (by have := hm.out; omega) ?_
        intro a2 c2 w2 R2 hr2 hst2
        have s := Step.mid4 s hst2
        have x0 := cells1 s.own.h2
        have z0 := cells1 s.own.h3
        have fb := fun i => frz_of (i := i) s.own.h3
        have ⟨y0, y1, y2⟩ := cells3 s.own.h1
        refine hKr.out _ _ (fun hJ => ?_) (fun hF => ?_)
        · first
          | exact absurd hJ (by decide)
          | (clear hJ; (try dsimp only); all_goals (simp [*, World.cell?_alloc_some, World.cell?_setCell_far]; done))
        clear hKr
        try simp only [Act.put, List.setIfInBounds_toArray, List.set_cons_zero, List.set_cons_succ]
        refine wpAnyJ_take0 (i := 12) (oi := { dst := some 24, op := Go.Op.nilCheck (Go.Operand.tmp 12), type := 0, pos := "net.go:61", after := #[{ on := 0, ground := Go.Ground.data }, { on := 0, ground := Go.Ground.phase }, { on := 1, ground := Go.Ground.phase }, { on := 2, ground := Go.Ground.phase }, { on := 3, ground := Go.Ground.phase }, { on := 4, ground := Go.Ground.phase }, { on := 5, ground := Go.Ground.phase }, { on := 6, ground := Go.Ground.phase }, { on := 7, ground := Go.Ground.phase }, { on := 8, ground := Go.Ground.phase }, { on := 9, ground := Go.Ground.phase }, { on := 10, ground := Go.Ground.phase }, { on := 11, ground := Go.Ground.phase }], guard := none }) (v := ?_) rfl (by kernel_rfl) (by kernel_rfl) (by kernel_rfl) (by kernel_rfl) (fun _ _ _ h => h) (by first | exact fun _ => hF | exact fun _ => hF (by kernel_rfl)) (fun w => ?_) (by rfl) ?_
        rotate_left
        · first | (go_simp; done) | (go_simp; with_reducible rfl) | (go_split_ands; go_simp; done)
        try simp only [Act.put, List.setIfInBounds_toArray, List.set_cons_zero, List.set_cons_succ]
        refine wpAnyJ_take0 (i := 13) (oi := { dst := some 25, op := Go.Op.fieldAddr 55 (Go.Operand.tmp 24) 0, type := 0, pos := "net.go:61", after := #[{ on := 12, ground := Go.Ground.data }, { on := 0, ground := Go.Ground.phase }, { on := 1, ground := Go.Ground.phase }, { on := 2, ground := Go.Ground.phase }, { on := 3, ground := Go.Ground.phase }, { on := 4, ground := Go.Ground.phase }, { on := 5, ground := Go.Ground.phase }, { on := 6, ground := Go.Ground.phase }, { on := 7, ground := Go.Ground.phase }, { on := 8, ground := Go.Ground.phase }, { on := 9, ground := Go.Ground.phase }, { on := 10, ground := Go.Ground.phase }, { on := 11, ground := Go.Ground.phase }], guard := none }) (v := ?_) rfl (by kernel_rfl) (by kernel_rfl) (by kernel_rfl) (by kernel_rfl) (fun _ _ _ h => h) (by first | exact fun _ => hF | exact fun _ => hF (by kernel_rfl)) (fun w => ?_) (by rfl) ?_
        rotate_left
        · first | (go_simp; done) | (go_simp; with_reducible rfl) | (go_split_ands; go_simp; done)
        try simp only [Act.put, List.setIfInBounds_toArray, List.set_cons_zero, List.set_cons_succ]
        refine wpAnyJ_ready (rs := [14]) (by kernel_rfl) (by simp) ?_
        refine AllJ.cons (o := { dst := none, op := Go.Op.store 45 (Go.Operand.tmp 25) (Go.Operand.tmp 23), type := 0, pos := "net.go:61", after := #[{ on := 13, ground := Go.Ground.data }, { on := 11, ground := Go.Ground.data }, { on := 11, ground := Go.Ground.chain }, { on := 0, ground := Go.Ground.phase }, { on := 1, ground := Go.Ground.phase }, { on := 2, ground := Go.Ground.phase }, { on := 3, ground := Go.Ground.phase }, { on := 4, ground := Go.Ground.phase }, { on := 5, ground := Go.Ground.phase }, { on := 6, ground := Go.Ground.phase }, { on := 7, ground := Go.Ground.phase }, { on := 8, ground := Go.Ground.phase }, { on := 9, ground := Go.Ground.phase }, { on := 10, ground := Go.Ground.phase }, { on := 11, ground := Go.Ground.phase }], guard := none }) rfl (fun Kr hKr => ?_) ?_
        · go_simp
          refine hKr.out _ _ (fun hJ => ?_) (fun hF => ?_)
          · first
            | exact absurd hJ (by decide)
            | (clear hJ; (try dsimp only); all_goals (simp [*, World.cell?_alloc_some, World.cell?_setCell_far]; done))
          clear hKr
          try simp only [Act.put, List.setIfInBounds_toArray, List.set_cons_zero, List.set_cons_succ]
          refine wpAnyJ_done (by kernel_rfl) ?_ _
          go_wp2
          go_ret
          exact late_done hi hm.out hr2 hok.out (s.store3 (i := 0) _).tail.tail
        exact AllJ.nil
      exact AllJ.nil
    exact AllJ.nil
  refine AllJ.cons (o := { dst := some 22, op := Go.Op.buildSlice 45 1 #[(0, Go.Operand.tmp 21)], type := 45, pos := "net.go:61", after := #[{ on := 9, ground := Go.Ground.data }], guard := none }) rfl (fun Kr hKr => ?_) ?_
  · (go_simp; first | (have s := s.alloc (.cells #[.int .i64 l[i].f, .int .i64 l[i].t, .slice l[i].a l[i].d.length l[i].c] 28); have _ := hst1) | (have s := s.drew.alloc (.cells #[.int .i64 l[i].f, .int .i64 l[i].t, .slice l[i].a l[i].d.length l[i].c] 28)))
    refine hKr.out _ _ (fun hJ => ?_) (fun hF => ?_)
    · first
      | exact absurd hJ (by decide)
      | (clear hJ; (try dsimp only); all_goals (simp [*, World.cell?_alloc_some, World.cell?_setCell_far]; done))
    clear hKr
    try simp only [Act.put, List.setIfInBounds_toArray, List.set_cons_zero, List.set_cons_succ]
    refine wpAnyJ_ready (rs := [8]) (by kernel_rfl) (by simp) ?_
    refine AllJ.cons (o := { dst := some 20, op := Go.Op.call { callee := Go.Callee.value (Go.Operand.func 30), args := #[Go.Operand.tmp 16, Go.Operand.tmp 17, Go.Operand.tmp 19], argTypes := #[45, 3, 3] }, type := 45, pos := "net.go:61", after := #[{ on := 4, ground := Go.Ground.data }, { on := 5, ground := Go.Ground.data }, { on := 7, ground := Go.Ground.data }], guard := none }) rfl (fun Kr hKr => ?_) ?_
    · (go_simp; first | (refine (delete_msg_at g l.length c i (i + 1) _ _ (l.flatMap It.cells) [(g, .cells cur 28 (0, 0))] _ hr.out (Own.left (A := [(g, .cells cur 28 (0, 0))]) s.own.drew.tail.tail.tail) (one_cells l) (by omega) (by omega) (by go_arith) (by go_arith)).mono ?_; rintro e w1 ⟨m, R1, hm, rfl, hr1, hst1⟩; have s := Step.mid3 s.drew hst1; have x0 := cells1 s.own.h1; have z0 := cells1 s.own.h2; have fb := fun i => frz_of (i := i) s.own.h2; have ⟨y0, y1, y2⟩ := cells3 s.own.h0) | (refine (delete_msg_at g l.length c i (i + 1) _ _ (l.flatMap It.cells) [(g, .cells cur 28 (0, 0))] _ hr.out (Own.left (A := [(g, .cells cur 28 (0, 0))]) s.own.tail.tail.tail.tail) (one_cells l) (by omega) (by omega) (by go_arith) (by go_arith)).mono ?_; rintro e w1 ⟨m, R1, hm, rfl, hr1, hst1⟩; have s := Step.mid4 s hst1; have x0 := cells1 s.own.h2; have z0 := cells1 s.own.h3; have fb := fun i => frz_of (i := i) s.own.h3; have ⟨y0, y1, y2⟩ := cells3 s.own.h1))
      refine hKr.out _ _ (fun hJ => ?_) (fun hF => ?_)
      · first
        | exact absurd hJ (by decide)
        | (clear hJ; (try dsimp only); all_goals (simp [*, World.cell?_alloc_some, World.cell?_setCell_far]; done))
      clear hKr
      try simp only [Act.put, List.setIfInBounds_toArray, List.set_cons_zero, List.set_cons_succ]
      refine wpAnyJ_ready (rs := [11]) (by kernel_rfl) (by simp) ?_
      refine AllJ.cons (o := { dst := some 23, op := Go.Op.call { callee := Go.Callee.builtin Go.Builtin.append, args := #[Go.Operand.tmp 20, Go.Operand.tmp 22], argTypes := #[45, 45] }, type := 45, pos := "net.go:61", after := #[{ on := 8, ground := Go.Ground.data }, { on := 10, ground := Go.Ground.data }, { on := 8, ground := Go.Ground.chain }], guard := none }) rfl (fun Kr hKr => ?_) ?_
      · refine step_app rfl st_msg _ _ (by rfl) (by rfl) (by rfl) hr1 s.own.tail.tail.tail.tail.left (rdCells_block s.own.h0 rfl (by simp [Value.oneCell'])) (by have := hm.out; unfold maxLen; omega) (by have := hm.out; omega) ?_
        intro a2 c2 w2 R2 hr2 hst2
        have s := Step.mid4 s hst2
        have x0 := cells1 s.own.h2
        have z0 := cells1 s.own.h3
        have fb := fun i => frz_of (i := i) s.own.h3
        have ⟨y0, y1, y2⟩ := cells3 s.own.h1
        refine hKr.out _ _ (fun hJ => ?_) (fun hF => ?_)
        · first
          | exact absurd hJ (by decide)
          | (clear hJ; (try dsimp only); all_goals (simp [*, World.cell?_alloc_some, World.cell?_setCell_far]; done))
        clear hKr
        try simp only [Act.put, List.setIfInBounds_toArray, List.set_cons_zero, List.set_cons_succ]
        refine wpAnyJ_take0 (i := 12) (oi := { dst := some 24, op := Go.Op.nilCheck (Go.Operand.tmp 12), type := 0, pos := "net.go:61", after := #[{ on := 0, ground := Go.Ground.data }, { on := 0, ground := Go.Ground.phase }, { on := 1, ground := Go.Ground.phase }, { on := 2, ground := Go.Ground.phase }, { on := 3, ground := Go.Ground.phase }, { on := 4, ground := Go.Ground.phase }, { on := 5, ground := Go.Ground.phase }, { on := 6, ground := Go.Ground.phase }, { on := 7, ground := Go.Ground.phase }, { on := 8, ground := Go.Ground.phase }, { on := 9, ground := Go.Ground.phase }, { on := 10, ground := Go.Ground.phase }, { on := 11, ground := Go.Ground.phase }], guard := none }) (v := ?_) rfl (by kernel_rfl) (by kernel_rfl) (by kernel_rfl) (by kernel_rfl) (fun _ _ _ h => h) (by first | exact fun _ => hF | exact fun _ => hF (by kernel_rfl)) (fun w => ?_) (by rfl) ?_
        rotate_left
        · first | (go_simp; done) | (go_simp; with_reducible rfl) | (go_split_ands; go_simp; done)
        try simp only [Act.put, List.setIfInBounds_toArray, List.set_cons_zero, List.set_cons_succ]
        refine wpAnyJ_take0 (i := 13) (oi := { dst := some 25, op := Go.Op.fieldAddr 55 (Go.Operand.tmp 24) 0, type := 0, pos := "net.go:61", after := #[{ on := 12, ground := Go.Ground.data }, { on := 0, ground := Go.Ground.phase }, { on := 1, ground := Go.Ground.phase }, { on := 2, ground := Go.Ground.phase }, { on := 3, ground := Go.Ground.phase }, { on := 4, ground := Go.Ground.phase }, { on := 5, ground := Go.Ground.phase }, { on := 6, ground := Go.Ground.phase }, { on := 7, ground := Go.Ground.phase }, { on := 8, ground := Go.Ground.phase }, { on := 9, ground := Go.Ground.phase }, { on := 10, ground := Go.Ground.phase }, { on := 11, ground := Go.Ground.phase }], guard := none }) (v := ?_) rfl (by kernel_rfl) (by kernel_rfl) (by kernel_rfl) (by kernel_rfl) (fun _ _ _ h => h) (by first | exact fun _ => hF | exact fun _ => hF (by kernel_rfl)) (fun w => ?_) (by rfl) ?_
        rotate_left
        · first | (go_simp; done) | (go_simp; with_reducible rfl) | (go_split_ands; go_simp; done)
        try simp only [Act.put, List.setIfInBounds_toArray, List.set_cons_zero, List.set_cons_succ]
        refine wpAnyJ_ready (rs := [14]) (by kernel_rfl) (by simp) ?_
        refine AllJ.cons (o := { dst := none, op := Go.Op.store 45 (Go.Operand.tmp 25) (Go.Operand.tmp 23), type := 0, pos := "net.go:61", after := #[{ on := 13, ground := Go.Ground.data }, { on := 11, ground := Go.Ground.data }, { on := 11, ground := Go.Ground.chain }, { on := 0, ground := Go.Ground.phase }, { on := 1, ground := Go.Ground.phase }, { on := 2, ground := Go.Ground.phase }, { on := 3, ground := Go.Ground.phase }, { on := 4, ground := Go.Ground.phase }, { on := 5, ground := Go.Ground.phase }, { on := 6, ground := Go.Ground.phase }, { on := 7, ground := Go.Ground.phase }, { on := 8, ground := Go.Ground.phase }, { on := 9, ground := Go.Ground.phase }, { on := 10, ground := Go.Ground.phase }, { on := 11, ground := Go.Ground.phase }], guard := none }) rfl (fun Kr hKr => ?_) ?_
        · go_simp
          refine hKr.out _ _ (fun hJ => ?_) (fun hF => ?_)
          · first
            | exact absurd hJ (by decide)
            | (clear hJ; (try dsimp only); all_goals (simp [*, World.cell?_alloc_some, World.cell?_setCell_far]; done))
          clear hKr
          try simp only [Act.put, List.setIfInBounds_toArray, List.set_cons_zero, List.set_cons_succ]
          refine wpAnyJ_done (by kernel_rfl) ?_ _
          go_wp2
          go_ret
          exact late_done hi hm.out hr2 hok.out (s.store3 (i := 0) _).tail.tail
        exact AllJ.nil
      exact AllJ.nil
    exact AllJ.nil
  exact AllJ.nil

theorem call_late (args : Array Value) (w : World) : (callFunc 32 args).run Try.prog w = .ok (.enter 32 args) w := by kernel_rfl
def LatedPost (b : Nat) (l : List It) (pick : Int) (w : World) (H : Heaplet) (e : Ending) (w' : World) : Prop :=
  (l = [] ∧ e = .returned (.bool false) ∧ Step w H w' H) ∨
  ∃ (i : Nat) (hi : i < l.length) (H' : Heaplet), i = pickOf l.length pick ∧ e = .returned (.bool true) ∧ NetRep 55 b (l.eraseIdx i ++ [l[i]]) H' ∧ Step w H w' H'
set_option maxRecDepth 100000 in
theorem late_any (b : Nat) (l : List It) (H : Heaplet) (pick : Int) (w : World) (hn : NetRep 55 b l H) (hw : Own w H) (hl : l.length ≤ 1024) (hp : pick ≤ 9223372036854775807) :
    Calls Try.prog 16 #[.pointer (some ⟨b, 0, none⟩), .int .i64 pick] w (LatedPost b l pick w H) := by
  by_cases h0 : l.length = 0
  · go_enter Try.func16, Try.ntmps16
    go_wp2_with fail
    refine (picked_none b l H pick _ _ _ hn ((Step.refl hw).alloc _).own.tail h0).mono ?_
    rintro e w1 ⟨rfl, rfl⟩
    go_wp2
    go_ret
    exact .inl ⟨List.length_eq_zero_iff.1 h0, rfl, ((Step.refl hw).alloc _).tail⟩
  · have hlt := pickOf_lt (show 0 < l.length by omega) pick
    go_enter Try.func16, Try.ntmps16
    go_wp2_with fail
    refine Step.genC ((Step.refl hw).alloc _) ?_
    intro W s1
    refine (picked_some b l H pick _ _ _ (fun x w' => x = true ∧ LatePost w.heap.size b l (pickOf l.length pick) W H (.returned (.bool true)) w') hn s1.own.tail (by omega) hl hp call_late ?_).mono ?_
    · refine (late_closure w.heap.size b l _ H W hn hlt hl s1.own).mono ?_
      rintro e w' ⟨h1, h2, rfl, h3⟩
      exact ⟨true, rfl, rfl, h1, h2, rfl, h3⟩
    · rintro e w2 ⟨x, rfl, rfl, hi, H2, _, hn2, s2⟩
      go_wp2
      go_ret
      exact .inr ⟨_, hlt, H2, rfl, rfl, hn2, (s1.trans s2).tail⟩
end Go.Proofs.Ytliapfdbagcklaa
