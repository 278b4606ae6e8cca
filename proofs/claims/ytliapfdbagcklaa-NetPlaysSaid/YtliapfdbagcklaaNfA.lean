/- The reference of net: own, Send, Give. -/
import Derived.Test.YtliapfdbagcklaaNetM
import Derived.Test.YtliapfdbagcklaaSlk
namespace Go.Proofs.Ytliapfdbagcklaa
open Go.RowKit
attribute [local go_sem ↓] Go.wp_at_zero Go.wp_at_succ

theorem ic_len (x : It) : x.cells.length = 3 := rfl
theorem ic_one (x : It) : ∀ u ∈ x.cells, u.oneCell' = true := by simp [It.cells, Value.oneCell']
theorem nf_at {a : Option Addr} {c : Nat} {l : List It} {R : Heaplet} (h : SlRep 28 3 a l.length c (l.flatMap It.cells) R) {w : World} (hw : Own w R) {i : Nat} {x : It} (hi : l[i]? = some x) :
    ∃ g, a = some ⟨g, 0, none⟩ ∧ l.length ≤ c ∧ c ≤ maxLen ∧ w.cell? ⟨g, i * 3, none⟩ = some (.int .i64 x.f) ∧ w.cell? ⟨g, i * 3 + 1, none⟩ = some (.int .i64 x.t) ∧ w.cell? ⟨g, i * 3 + 2, none⟩ = some (.slice x.a x.d.length x.c) := by
  obtain ⟨g, h1, h2, h3, h4, h5⟩ := slk_at ic_len h rfl hw hi (by decide)
  exact ⟨g, h1, h2, h3, h5 0 _ rfl, h5 1 _ rfl, h5 2 _ rfl⟩
set_option maxRecDepth 100000 in
theorem rown_any (f t : Int) (a : Option Addr) (n c : Nat) (l : List UInt8) (w : World) (h : RdBytes w a n c l) (hl : l.length ≤ 140737488355328) :
    Calls Try.prog 35 #[.agg #[.int .i64 f, .int .i64 t, .slice a n c]] w (OwnPost w f t l) := by
  have hn : n ≤ 140737488355328 := by have := h.1; omega
  replace h := Lib.hid h
  have s0 := (((Step.refl (Own.nil w)).alloc (.cells #[.int .i64 f, .int .i64 t, .slice a n c] 28)).alloc (.cells #[.int .i64 0, .int .i64 0, .slice none 0 0] 28)).alloc (.cells #[] 5)
  simp only [World.size_alloc] at s0
  go_enter Try.func35, Try.ntmps35
  go_wp2_with (at_builtin; refine wpList_app rfl st_u8 _ _ rfl (by rfl) (by rfl) (SlRep.made _ _ (w.heap.size + 1 + 1)) (Own.left (A := [_]) s0.own) (rdBytes_cells (((h.out.alloc _).alloc _).alloc _)) (by unfold maxLen; omega) (by omega) ?_; intro a1 k1 w1 H1 hr1 hst1; have s1 := (Step.call (G := [_]) s0 hst1).perm (List.Perm.refl _) (List.perm_append_comm (l₁ := H1) (l₂ := [_, _])); have e0 := cells3 s1.own.h0; have e1 := cells3 s1.own.h1; obtain ⟨d0, d1, d2⟩ := e0; obtain ⟨c0, c1, c2⟩ := e1; have fa := (fun i => frz_of (i := i) s1.own.h1); have fb := (fun i => frz_of (i := i) s1.own.h0))
  have hn := h.out.1
  subst hn
  rw [Nat.zero_add] at hr1
  refine bodyPost_ret (v := .agg #[.int .i64 f, .int .i64 t, .slice a1 l.length k1]) (by simp [results, Try.results35, go_sem, d0, d1, d2]) rfl ?_
  exact ⟨a1, k1, H1, rfl, by simpa using hr1, ((((s1.store1 _).store0 _).store0 _).store0 _).tail.tail⟩
set_option maxRecDepth 100000 in
theorem rsend_any (b : Nat) (l : List It) (H : Heaplet) (f t : Int) (av : Option Addr) (nv cv : Nat) (d : List UInt8) (w : World) (hn : NetRep 47 b l H) (hw : Own w H) (h : RdBytes w av nv cv d) (hl : d.length ≤ 140737488355328) :
    Calls Try.prog 19 #[.pointer (some ⟨b, 0, none⟩), .agg #[.int .i64 f, .int .i64 t, .slice av nv cv]] w (SendPost 47 b l f t d w H) := by
  obtain ⟨a, c, R, hr, rfl, hok⟩ := hn
  replace h := Lib.hid h
  replace hok := Lib.hid hok
  have c0 := cells1 hw.h0
  have f0 := frz_of (i := 0) hw.h0
  have b0 := heap_lt hw.h0
  by_cases hf : l.length < 1024
  · go_enter Try.func19, Try.ntmps19
    go_wp2
    refine wp_region_J 11 (fun w' => w'.cell? ⟨b, 0, none⟩ = some (.slice a l.length c) ∧ w'.cell? ⟨w.heap.size, 0, none⟩ = some (.int .i64 f) ∧ w'.cell? ⟨w.heap.size, 1, none⟩ = some (.int .i64 t) ∧ w'.cell? ⟨w.heap.size, 2, none⟩ = some (.slice av nv cv)) (by kernel_rfl) ?_ (fun hF => ?_)
    · (try dsimp only)
      all_goals ((simp [*, World.cell?_alloc_some, World.cell?_setCell_far]; done))
    refine wpAnyJ_take0 (i := 0) (oi := { dst := some 11, op := Go.Op.move (Go.Operand.tmp 0), type := 44, pos := "net.go:20", after := #[], guard := none }) (v := ?_) rfl (by kernel_rfl) (by kernel_rfl) (by kernel_rfl) (by kernel_rfl) (fun _ _ _ h => h) (by first | exact fun _ => hF | exact fun _ => hF (by kernel_rfl)) (fun w => ?_) (by rfl) ?_
    rotate_left
    · first | (go_simp; done) | (go_simp; with_reducible rfl) | (go_split_ands; go_simp; done)
    try simp only [Act.put, List.setIfInBounds_toArray, List.set_cons_zero, List.set_cons_succ]
    refine wpAnyJ_take0 (i := 1) (oi := { dst := some 12, op := Go.Op.move (Go.Operand.tmp 0), type := 44, pos := "net.go:20", after := #[], guard := none }) (v := ?_) rfl (by kernel_rfl) (by kernel_rfl) (by kernel_rfl) (by kernel_rfl) (fun _ _ _ h => h) (by first | exact fun _ => hF | exact fun _ => hF (by kernel_rfl)) (fun w => ?_) (by rfl) ?_
    rotate_left
    · first | (go_simp; done) | (go_simp; with_reducible rfl) | (go_split_ands; go_simp; done)
    try simp only [Act.put, List.setIfInBounds_toArray, List.set_cons_zero, List.set_cons_succ]
    refine wpAnyJ_take0 (i := 2) (oi := { dst := some 13, op := Go.Op.nilCheck (Go.Operand.tmp 12), type := 0, pos := "net.go:20", after := #[{ on := 1, ground := Go.Ground.data }], guard := none }) (v := ?_) rfl (by kernel_rfl) (by kernel_rfl) (by kernel_rfl) (by kernel_rfl) (fun _ _ _ h => h) (by first | exact fun _ => hF | exact fun _ => hF (by kernel_rfl)) (fun w => ?_) (by rfl) ?_
    rotate_left
    · first | (go_simp; done) | (go_simp; with_reducible rfl) | (go_split_ands; go_simp; done)
    try simp only [Act.put, List.setIfInBounds_toArray, List.set_cons_zero, List.set_cons_succ]
    refine wpAnyJ_take0 (i := 3) (oi := { dst := some 14, op := Go.Op.fieldAddr 47 (Go.Operand.tmp 13) 0, type := 0, pos := "net.go:20", after := #[{ on := 2, ground := Go.Ground.data }], guard := none }) (v := ?_) rfl (by kernel_rfl) (by kernel_rfl) (by kernel_rfl) (by kernel_rfl) (fun _ _ _ h => h) (by first | exact fun _ => hF | exact fun _ => hF (by kernel_rfl)) (fun w => ?_) (by rfl) ?_
    rotate_left
    · first | (go_simp; done) | (go_simp; with_reducible rfl) | (go_split_ands; go_simp; done)
    try simp only [Act.put, List.setIfInBounds_toArray, List.set_cons_zero, List.set_cons_succ]
    refine wpAnyJ_take (i := 4) (oi := { dst := some 15, op := Go.Op.load 45 (Go.Operand.tmp 14), type := 45, pos := "net.go:20", after := #[{ on := 3, ground := Go.Ground.data }], guard := none }) (v := ?_) [11] rfl (by kernel_rfl) (by kernel_rfl) (by kernel_rfl) (by kernel_rfl) (by kernel_rfl) (fun _ _ _ h => h) (by first | exact hF | exact hF (by kernel_rfl)) (fun w hFw => ?_) (by rfl) ?_
    rotate_left
    · ((try dsimp only at hFw); first | (go_simp; done) | (go_simp; with_reducible rfl) | (go_split_ands; go_simp; done))
    try simp only [Act.put, List.setIfInBounds_toArray, List.set_cons_zero, List.set_cons_succ]
    refine wpAnyJ_take (i := 5) (oi := { dst := some 16, op := Go.Op.load 28 (Go.Operand.tmp 3), type := 28, pos := "net.go:20", after := #[], guard := none }) (v := ?_) [11] rfl (by kernel_rfl) (by kernel_rfl) (by kernel_rfl) (by kernel_rfl) (by kernel_rfl) (fun _ _ _ h => h) (by first | exact hF | exact hF (by kernel_rfl)) (fun w hFw => ?_) (by rfl) ?_
    rotate_left
    · ((try dsimp only at hFw); first | (go_simp; done) | (go_simp; with_reducible rfl) | (go_split_ands; go_simp; done))
    try simp only [Act.put, List.setIfInBounds_toArray, List.set_cons_zero, List.set_cons_succ]
    refine wpAnyJ_ready (rs := [6]) (by kernel_rfl) (by simp) ?_
    refine AllJ.cons (o := { dst := some 17, op := Go.Op.call { callee := Go.Callee.value (Go.Operand.func 35), args := #[Go.Operand.tmp 16], argTypes := #[28] }, type := 28, pos := "net.go:20", after := #[{ on := 5, ground := Go.Ground.data }], guard := none }) rfl (fun Kr hKr => ?_) ?_
    · (go_simp; go_at_call 35; refine (rown_any f t av nv cv d _ ((h.out.alloc _).drew) hl).mono ?_; rintro e w1 ⟨a1, k1, H1, rfl, hr1, hst1⟩)
      have s1 := ((Step.refl hw).alloc _).drew.call0 hst1
      simp only [List.append_assoc, List.cons_append] at s1
      have ⟨c0, c1, c2⟩ := cells3 s1.own.h0
      have d0 := cells1 s1.own.h1
      have b1 := heap_lt s1.own.h1
      refine hKr.out _ _ (fun hJ => ?_) (fun hF => ?_)
      · first
        | exact absurd hJ (by decide)
        | (clear hJ; (try dsimp only); all_goals ((simp [*, World.cell?_alloc_some, World.cell?_setCell_far]; done)))
      clear hKr
      try simp only [Act.put, List.setIfInBounds_toArray, List.set_cons_zero, List.set_cons_succ]
      refine wpAnyJ_ready (rs := [7]) (by kernel_rfl) (by simp) ?_
      refine AllJ.cons (o := { dst := some 18, op := Go.Op.buildSlice 45 1 #[(0, Go.Operand.tmp 17)], type := 45, pos := "net.go:20", after := #[{ on := 6, ground := Go.Ground.data }], guard := none }) rfl (fun Kr hKr => ?_) ?_
      · go_simp
        refine hKr.out _ _ (fun hJ => ?_) (fun hF => ?_)
        · first
          | exact absurd hJ (by decide)
          | (clear hJ; (try dsimp only); all_goals ((simp [*, World.cell?_alloc_some, World.cell?_setCell_far]; done)))
        clear hKr
        try simp only [Act.put, List.setIfInBounds_toArray, List.set_cons_zero, List.set_cons_succ]
        refine wpAnyJ_ready (rs := [8]) (by kernel_rfl) (by simp) ?_
        refine AllJ.cons (o := { dst := some 19, op := Go.Op.call { callee := Go.Callee.builtin Go.Builtin.append, args := #[Go.Operand.tmp 15, Go.Operand.tmp 18], argTypes := #[45, 45] }, type := 45, pos := "net.go:20", after := #[{ on := 4, ground := Go.Ground.data }, { on := 7, ground := Go.Ground.data }, { on := 6, ground := Go.Ground.chain }], guard := none }) rfl (fun Kr hKr => ?_) ?_
        · refine step_app rfl st_msg _ _ (by rfl) (by rfl) (by rfl) hr ((s1.alloc _).own.tail.tail.tail.left) (rdCells_block (heap_alloc_new _ _) rfl (by simp [Value.oneCell'])) (by unfold maxLen; omega) (by omega) ?_
          intro a2 c2 w2 H2 hv2 hst2
          have s2 := Step.mid3 (s1.alloc _) hst2
          have ⟨c0, c1, c2⟩ := cells3 s2.own.h1
          have d0 := cells1 s2.own.h2
          have f0 := frz_of (i := 0) s2.own.h2
          refine hKr.out _ _ (fun hJ => ?_) (fun hF => ?_)
          · first
            | exact absurd hJ (by decide)
            | (clear hJ; (try dsimp only); all_goals ((simp [*, World.cell?_alloc_some, World.cell?_setCell_far]; done)))
          clear hKr
          try simp only [Act.put, List.setIfInBounds_toArray, List.set_cons_zero, List.set_cons_succ]
          refine wpAnyJ_take0 (i := 9) (oi := { dst := some 20, op := Go.Op.nilCheck (Go.Operand.tmp 11), type := 0, pos := "net.go:20", after := #[{ on := 0, ground := Go.Ground.data }, { on := 0, ground := Go.Ground.phase }, { on := 1, ground := Go.Ground.phase }, { on := 2, ground := Go.Ground.phase }, { on := 3, ground := Go.Ground.phase }, { on := 4, ground := Go.Ground.phase }, { on := 5, ground := Go.Ground.phase }, { on := 6, ground := Go.Ground.phase }, { on := 7, ground := Go.Ground.phase }, { on := 8, ground := Go.Ground.phase }], guard := none }) (v := ?_) rfl (by kernel_rfl) (by kernel_rfl) (by kernel_rfl) (by kernel_rfl) (fun _ _ _ h => h) (by first | exact fun _ => hF | exact fun _ => hF (by kernel_rfl)) (fun w => ?_) (by rfl) ?_
          rotate_left
          · first | (go_simp; done) | (go_simp; with_reducible rfl) | (go_split_ands; go_simp; done)
          try simp only [Act.put, List.setIfInBounds_toArray, List.set_cons_zero, List.set_cons_succ]
          refine wpAnyJ_take0 (i := 10) (oi := { dst := some 21, op := Go.Op.fieldAddr 47 (Go.Operand.tmp 20) 0, type := 0, pos := "net.go:20", after := #[{ on := 9, ground := Go.Ground.data }, { on := 0, ground := Go.Ground.phase }, { on := 1, ground := Go.Ground.phase }, { on := 2, ground := Go.Ground.phase }, { on := 3, ground := Go.Ground.phase }, { on := 4, ground := Go.Ground.phase }, { on := 5, ground := Go.Ground.phase }, { on := 6, ground := Go.Ground.phase }, { on := 7, ground := Go.Ground.phase }, { on := 8, ground := Go.Ground.phase }], guard := none }) (v := ?_) rfl (by kernel_rfl) (by kernel_rfl) (by kernel_rfl) (by kernel_rfl) (fun _ _ _ h => h) (by first | exact fun _ => hF | exact fun _ => hF (by kernel_rfl)) (fun w => ?_) (by rfl) ?_
          rotate_left
          · first | (go_simp; done) | (go_simp; with_reducible rfl) | (go_split_ands; go_simp; done)
          try simp only [Act.put, List.setIfInBounds_toArray, List.set_cons_zero, List.set_cons_succ]
          refine wpAnyJ_ready (rs := [11]) (by kernel_rfl) (by simp) ?_
          refine AllJ.cons (o := { dst := none, op := Go.Op.store 45 (Go.Operand.tmp 21) (Go.Operand.tmp 19), type := 0, pos := "net.go:20", after := #[{ on := 10, ground := Go.Ground.data }, { on := 8, ground := Go.Ground.data }, { on := 8, ground := Go.Ground.chain }, { on := 0, ground := Go.Ground.phase }, { on := 1, ground := Go.Ground.phase }, { on := 2, ground := Go.Ground.phase }, { on := 3, ground := Go.Ground.phase }, { on := 4, ground := Go.Ground.phase }, { on := 5, ground := Go.Ground.phase }, { on := 6, ground := Go.Ground.phase }, { on := 7, ground := Go.Ground.phase }, { on := 8, ground := Go.Ground.phase }], guard := none }) rfl (fun Kr hKr => ?_) ?_
          · go_simp
            refine hKr.out _ _ (fun hJ => ?_) (fun hF => ?_)
            · first
              | exact absurd hJ (by decide)
              | (clear hJ; (try dsimp only); all_goals ((simp [*, World.cell?_alloc_some, World.cell?_setCell_far]; done)))
            clear hKr
            try simp only [Act.put, List.setIfInBounds_toArray, List.set_cons_zero, List.set_cons_succ]
            refine wpAnyJ_done (by kernel_rfl) ?_ _
            go_wp2
            go_ret
            exact send_done hf rfl hok.out hr1 (by simpa using hv2) (s2.store2 _).tail.tail
          exact AllJ.nil
        exact AllJ.nil
      exact AllJ.nil
    exact AllJ.nil
  · go_enter Try.func19, Try.ntmps19
    go_wp2
    go_ret
    exact .inl ⟨by omega, rfl, _, ⟨a, c, R, hr, rfl, hok.out⟩, (Step.refl hw).junk _⟩
def RGivePost (b : Nat) (l : List It) (pick : Int) (w : World) (H : Heaplet) (e : Ending) (w' : World) : Prop :=
  (l = [] ∧ e = .returned (.tuple #[.agg #[.int .i64 0, .int .i64 0, .slice none 0 0], .bool false]) ∧ Step w H w' H) ∨
  ∃ (i : Nat) (x : It) (H' : Heaplet), i = pickOf l.length pick ∧ l[i]? = some x ∧ e = .returned (.tuple #[.agg #[.int .i64 x.f, .int .i64 x.t, .slice x.a x.d.length x.c], .bool true]) ∧ x.ok ∧ NetRep 47 b (l.eraseIdx i) H' ∧ Step w H w' (H' ++ x.H)
theorem gave_done {T b : Nat} {a3 : Option Addr} {c3 : Nat} {H3 R H0 : Heaplet} {l : List It} {i : Nat} {x : It} {w w' : World} (hx : l[i]? = some x) (hok : ∀ x ∈ l, x.ok)
    (hr : SlRep 28 3 a3 (i + (l.length - (i + 1))) c3 ((l.take i).flatMap It.cells ++ (l.drop (i + 1)).flatMap It.cells) H3)
    (s : Step w H0 w' ((b, .cells #[.slice a3 (i + (l.length - (i + 1))) c3] T (0, 0)) :: (H3 ++ (R ++ l.flatMap It.H)))) :
    ∃ H', x.ok ∧ NetRep T b (l.eraseIdx i) H' ∧ Step w H0 w' (H' ++ x.H) := by
  obtain ⟨hi, rfl⟩ := List.getElem?_eq_some_iff.1 hx
  have e : (l.eraseIdx i).length = i + (l.length - (i + 1)) := by rw [List.length_eraseIdx]; simp [hi]; omega
  rw [← List.flatMap_append, ← List.eraseIdx_eq_take_drop_succ, ← e] at hr
  rw [← e] at s
  refine ⟨_, hok _ (List.getElem_mem hi), ⟨a3, c3, H3, hr, rfl, fun y hy => hok y (List.mem_of_mem_eraseIdx hy)⟩, Step.forget (B := R) (s.perm (List.Perm.refl _) ?_)⟩
  simp only [List.cons_append, List.append_assoc]
  refine .cons _ (List.Perm.append_left _ ?_)
  refine List.perm_append_comm.trans ?_
  refine ((give_perm l i hi).append_right R).trans ?_
  rw [List.append_assoc]
set_option maxRecDepth 100000 in
set_option maxHeartbeats 2000000 in
theorem rgive_any (b : Nat) (l : List It) (H : Heaplet) (pick : Int) (w : World) (hn : NetRep 47 b l H) (hw : Own w H) (hl : l.length ≤ 1024) (hp : pick ≤ 9223372036854775807) :
    Calls Try.prog 22 #[.pointer (some ⟨b, 0, none⟩), .int .i64 pick] w (RGivePost b l pick w H) := by
  obtain ⟨a, c, R, hr, rfl, hok⟩ := hn
  replace hok := Lib.hid hok
  have c0 := cells1 hw.h0
  have b0 := heap_lt hw.h0
  obtain ⟨n, hn⟩ : ∃ n, n = l.length := ⟨_, rfl⟩
  have hr2 := Lib.hid hr
  have s0 := Step.refl hw
  rw [← hn] at c0 hr hl s0
  by_cases h0 : n = 0
  · have e0 : ((n : Int) == 0) = true := by rw [h0]; rfl
    replace hn := Lib.hid hn
    replace h0 := Lib.hid h0
    clear hr
    replace hw := Lib.hid hw
    go_enter Try.func22, Try.ntmps22
    go_wp2_with fail
    refine bodyPost_ret (v := .tuple #[.agg #[.int .i64 0, .int .i64 0, .slice none 0 0], .bool false]) (by simp [results, Try.results22, go_sem]) rfl ?_
    have hl0 := hn.out
    rw [h0.out] at hl0
    refine .inl ⟨List.length_eq_zero_iff.1 hl0.symm, rfl, (Step.refl hw.out).junk _⟩
  · have e0 : ((n : Int) == 0) = false := beq_eq_false_iff_ne.2 (by omega)
    have e1 : (0 : Int) < (n : Int) := by omega
    have e2 : (n : Int) ≤ 1024 := by omega
    obtain ⟨P, hP⟩ := Int.eq_ofNat_of_zero_le (show 0 ≤ max 0 pick by omega)
    have hrem := pickOf_rem (show 0 < n by omega) pick
    have hlt := pickOf_lt (show 0 < n by omega) pick
    obtain ⟨i, hi⟩ : ∃ i, i = pickOf n pick := ⟨_, rfl⟩
    rw [← hi] at hrem hlt
    obtain ⟨i1, hi1⟩ : ∃ i1, i1 = i + 1 := ⟨_, rfl⟩
    have hP9 : (P : Int) ≤ 9223372036854775807 := by omega
    rw [hP] at hrem
    have hcase0 : Hid (pick ≤ 0 → (i : Int) = 0) := fun hpk => by
      have : P = 0 := by omega
      rw [← hrem, this]; simp
    have hcase1 : Hid (0 ≤ pick → pick % (n : Int) = (i : Int)) := fun hpk => by
      have : (P : Int) = pick := by omega
      rw [← hrem, this, Int.tmod_eq_emod_of_nonneg hpk]
    clear hrem hP hP9
    obtain ⟨x, hx⟩ : ∃ x, l[i]? = some x := ⟨_, List.getElem?_eq_getElem (by omega)⟩
    obtain ⟨g, rfl, k0, k1, x0, x1, x2⟩ := nf_at hr2.out hw.tail.left hx
    rw [← hn] at k0
    have d0 : (0 : Int) ≤ (i : Int) := by omega
    have d1 : (i : Int) < (n : Int) := by omega
    have d2 : (i : Int) ≤ (c : Int) := by omega
    have d3 : IntKind.i64.wrap ((i : Int) + 1) = (i1 : Int) := by rw [IntWalk.i64_in _ (by omega)]; omega
    have d3' : IntKind.i64.wrap (i : Int) = (i : Int) := IntWalk.i64_in _ (by omega)
    have d4 : (0 : Int) ≤ (i1 : Int) := by omega
    have d5 : (i1 : Int) ≤ (n : Int) := by omega
    have d6 : (n : Int) ≤ (c : Int) := by omega
    have m1 : i ≤ c := by omega
    have m2 : i1 ≤ n := by omega
    have hrd := Lib.hid (fun W (hW : Own W R) c' => slk_rd ic_len ic_one hr hn hW 0 i c' (by omega))
    have hrd2 : Hid (∀ W, Own W R → RdCells W (.slice (if c = i1 then some ⟨g, 0, none⟩ else some ⟨g, i1 * 3, none⟩) (n - i1) (c - i1)) (n - i1) 3 (((l.drop i1).take (n - i1)).flatMap It.cells)) := fun W hW => by
      have q := slk_rd ic_len ic_one hr hn hW i1 (n - i1) (c - i1) (by omega)
      split
      · have e0 : n - i1 = 0 := by omega
        rw [e0] at q ⊢
        exact ⟨by simp, by simp, .inr ⟨_, _, rfl, by simp⟩⟩
      · exact q
    replace hx := Lib.hid hx
    replace hi := Lib.hid hi
    have hi1' := Lib.hid hi1
    replace hn := Lib.hid hn
    have hrds : Hid (((l.drop 0).take i).flatMap It.cells = (l.take i).flatMap It.cells ∧ ((l.drop i1).take (n - i1)).flatMap It.cells = (l.drop (i + 1)).flatMap It.cells) := by
      refine ⟨by rw [List.drop_zero], ?_⟩
      rw [List.take_of_length_le (by rw [List.length_drop, hn.out]; omega), hi1]
    clear hi1 hr
    have g0 : g < w.heap.size := World.block_lt_of_cell? w _ x0
    go_enter Try.func22, Try.ntmps22
    go_upto_region 3 with fail
    go_cut [6] (fun v wc => v = .int .i64 (i : Nat) ∧ wc = w.alloc (.cells #[.int .i64 0, .int .i64 0, .slice none 0 0] 28))
    case first =>
      by_cases hpk : pick ≤ 0
      · have hm : max 0 pick = 0 := by omega
        have e := hcase0.out hpk
        replace e := Lib.hid e
        go_wp2_with fail
        go_meet
        exact ⟨by rw [e.out], rfl⟩
      · have hm : max 0 pick = pick := by omega
        have hp0 : 0 ≤ pick := by omega
        clear hm
        go_wp2_with fail
        go_meet
        exact ⟨by rw [hcase1.out hp0], rfl⟩
    case rest =>
      obtain ⟨rfl, rfl⟩ := hcut
      go_wp2_with fail
      have s1 := (s0.alloc (.cells #[.int .i64 0, .int .i64 0, .slice none 0 0] 28)).alloc (.cells #[.int .i64 x.f, .int .i64 x.t, .slice x.a x.d.length x.c] 28)
      simp only [World.size_alloc] at s1
      refine Step.gen s1 ?_
      clear s1 x0 x1 x2
      intro W s1
      obtain ⟨M, hM⟩ : ∃ M, M = w.heap.size := ⟨_, rfl⟩
      rw [← hM] at s1 ⊢
      have b1 : b < M := by rw [hM]; exact b0
      have n1 : M + 1 ≠ b := by omega
      have n2 : b ≠ M + 1 := by omega
      have n3 : M ≠ b := by omega
      have n4 : b ≠ M := by omega
      replace hM := Lib.hid hM
      clear c0 b0
      have c0 := cells1 s1.own.h2
      refine wp_region_J 19 (fun w' => w'.cell? ⟨b, 0, none⟩ = some (.slice (some ⟨g, 0, none⟩) n c)) (by kernel_rfl) ?_ (fun hF => ?_)
      · (try dsimp only)
        all_goals (first | exact c0 | (have b0 := heap_lt s1.own.h2; simp [*, World.cell?_alloc_some]; done))
      refine wpAnyJ_take0 (i := 0) (oi := { dst := some 30, op := Go.Op.move (Go.Operand.tmp 0), type := 44, pos := "net.go:31", after := #[], guard := none }) (v := ?_) rfl (by kernel_rfl) (by kernel_rfl) (by kernel_rfl) (by kernel_rfl) (fun _ _ _ h => h) (by first | exact fun _ => hF | exact fun _ => hF (by kernel_rfl)) (fun w => ?_) (by rfl) ?_
      rotate_left
      · first | (go_simp; done) | (go_simp; with_reducible rfl) | (go_split_ands; go_simp; done)
      try simp only [Act.put, List.setIfInBounds_toArray, List.set_cons_zero, List.set_cons_succ]
      refine wpAnyJ_take0 (i := 2) (oi := { dst := some 32, op := Go.Op.move (Go.Operand.tmp 0), type := 44, pos := "net.go:31", after := #[], guard := none }) (v := ?_) rfl (by kernel_rfl) (by kernel_rfl) (by kernel_rfl) (by kernel_rfl) (fun _ _ _ h => h) (by first | exact fun _ => hF | exact fun _ => hF (by kernel_rfl)) (fun w => ?_) (by rfl) ?_
      rotate_left
      · first | (go_simp; done) | (go_simp; with_reducible rfl) | (go_split_ands; go_simp; done)
      try simp only [Act.put, List.setIfInBounds_toArray, List.set_cons_zero, List.set_cons_succ]
      refine wpAnyJ_take0 (i := 3) (oi := { dst := some 33, op := Go.Op.nilCheck (Go.Operand.tmp 32), type := 0, pos := "net.go:31", after := #[{ on := 2, ground := Go.Ground.data }], guard := none }) (v := ?_) rfl (by kernel_rfl) (by kernel_rfl) (by kernel_rfl) (by kernel_rfl) (fun _ _ _ h => h) (by first | exact fun _ => hF | exact fun _ => hF (by kernel_rfl)) (fun w => ?_) (by rfl) ?_
      rotate_left
      · first | (go_simp; done) | (go_simp; with_reducible rfl) | (go_split_ands; go_simp; done)
      try simp only [Act.put, List.setIfInBounds_toArray, List.set_cons_zero, List.set_cons_succ]
      refine wpAnyJ_take0 (i := 4) (oi := { dst := some 34, op := Go.Op.fieldAddr 47 (Go.Operand.tmp 33) 0, type := 0, pos := "net.go:31", after := #[{ on := 3, ground := Go.Ground.data }], guard := none }) (v := ?_) rfl (by kernel_rfl) (by kernel_rfl) (by kernel_rfl) (by kernel_rfl) (fun _ _ _ h => h) (by first | exact fun _ => hF | exact fun _ => hF (by kernel_rfl)) (fun w => ?_) (by rfl) ?_
      rotate_left
      · first | (go_simp; done) | (go_simp; with_reducible rfl) | (go_split_ands; go_simp; done)
      try simp only [Act.put, List.setIfInBounds_toArray, List.set_cons_zero, List.set_cons_succ]
      refine wpAnyJ_take (i := 5) (oi := { dst := some 35, op := Go.Op.load 45 (Go.Operand.tmp 34), type := 45, pos := "net.go:31", after := #[{ on := 4, ground := Go.Ground.data }], guard := none }) (v := ?_) [19] rfl (by kernel_rfl) (by kernel_rfl) (by kernel_rfl) (by kernel_rfl) (by kernel_rfl) (fun _ _ _ h => h) (by first | exact hF | exact hF (by kernel_rfl)) (fun w hFw => ?_) (by rfl) ?_
      rotate_left
      · ((try dsimp only at hFw); first | (go_simp; done) | (go_simp; with_reducible rfl) | (go_split_ands; go_simp; done))
      try simp only [Act.put, List.setIfInBounds_toArray, List.set_cons_zero, List.set_cons_succ]
      refine wpAnyJ_take0 (i := 6) (oi := { dst := some 36, op := Go.Op.move (Go.Operand.tmp 6), type := 3, pos := "net.go:31", after := #[], guard := none }) (v := ?_) rfl (by kernel_rfl) (by kernel_rfl) (by kernel_rfl) (by kernel_rfl) (fun _ _ _ h => h) (by first | exact fun _ => hF | exact fun _ => hF (by kernel_rfl)) (fun w => ?_) (by rfl) ?_
      rotate_left
      · first | (go_simp; done) | (go_simp; with_reducible rfl) | (go_split_ands; go_simp; done)
      try simp only [Act.put, List.setIfInBounds_toArray, List.set_cons_zero, List.set_cons_succ]
      refine wpAnyJ_take0 (i := 7) (oi := { dst := some 37, op := Go.Op.slice 45 (Go.Operand.tmp 35) none (some (Go.Operand.tmp 36)) none, type := 45, pos := "net.go:31", after := #[{ on := 5, ground := Go.Ground.data }, { on := 6, ground := Go.Ground.data }], guard := none }) (v := ?_) rfl (by kernel_rfl) (by kernel_rfl) (by kernel_rfl) (by kernel_rfl) (fun _ _ _ h => h) (by first | exact fun _ => hF | exact fun _ => hF (by kernel_rfl)) (fun w => ?_) (by rfl) ?_
      rotate_left
      · first | (go_simp; done) | (go_simp; with_reducible rfl) | (go_split_ands; go_simp; done)
      try simp only [Act.put, List.setIfInBounds_toArray, List.set_cons_zero, List.set_cons_succ]
      refine wpAnyJ_take0 (i := 9) (oi := { dst := some 39, op := Go.Op.move (Go.Operand.tmp 0), type := 44, pos := "net.go:31", after := #[], guard := none }) (v := ?_) rfl (by kernel_rfl) (by kernel_rfl) (by kernel_rfl) (by kernel_rfl) (fun _ _ _ h => h) (by first | exact fun _ => hF | exact fun _ => hF (by kernel_rfl)) (fun w => ?_) (by rfl) ?_
      rotate_left
      · first | (go_simp; done) | (go_simp; with_reducible rfl) | (go_split_ands; go_simp; done)
      try simp only [Act.put, List.setIfInBounds_toArray, List.set_cons_zero, List.set_cons_succ]
      refine wpAnyJ_take0 (i := 10) (oi := { dst := some 40, op := Go.Op.nilCheck (Go.Operand.tmp 39), type := 0, pos := "net.go:31", after := #[{ on := 9, ground := Go.Ground.data }], guard := none }) (v := ?_) rfl (by kernel_rfl) (by kernel_rfl) (by kernel_rfl) (by kernel_rfl) (fun _ _ _ h => h) (by first | exact fun _ => hF | exact fun _ => hF (by kernel_rfl)) (fun w => ?_) (by rfl) ?_
      rotate_left
      · first | (go_simp; done) | (go_simp; with_reducible rfl) | (go_split_ands; go_simp; done)
      try simp only [Act.put, List.setIfInBounds_toArray, List.set_cons_zero, List.set_cons_succ]
      refine wpAnyJ_take0 (i := 11) (oi := { dst := some 41, op := Go.Op.fieldAddr 47 (Go.Operand.tmp 40) 0, type := 0, pos := "net.go:31", after := #[{ on := 10, ground := Go.Ground.data }], guard := none }) (v := ?_) rfl (by kernel_rfl) (by kernel_rfl) (by kernel_rfl) (by kernel_rfl) (fun _ _ _ h => h) (by first | exact fun _ => hF | exact fun _ => hF (by kernel_rfl)) (fun w => ?_) (by rfl) ?_
      rotate_left
      · first | (go_simp; done) | (go_simp; with_reducible rfl) | (go_split_ands; go_simp; done)
      try simp only [Act.put, List.setIfInBounds_toArray, List.set_cons_zero, List.set_cons_succ]
      refine wpAnyJ_take (i := 12) (oi := { dst := some 42, op := Go.Op.load 45 (Go.Operand.tmp 41), type := 45, pos := "net.go:31", after := #[{ on := 11, ground := Go.Ground.data }], guard := none }) (v := ?_) [19] rfl (by kernel_rfl) (by kernel_rfl) (by kernel_rfl) (by kernel_rfl) (by kernel_rfl) (fun _ _ _ h => h) (by first | exact hF | exact hF (by kernel_rfl)) (fun w hFw => ?_) (by rfl) ?_
      rotate_left
      · ((try dsimp only at hFw); first | (go_simp; done) | (go_simp; with_reducible rfl) | (go_split_ands; go_simp; done))
      try simp only [Act.put, List.setIfInBounds_toArray, List.set_cons_zero, List.set_cons_succ]
      refine wpAnyJ_take0 (i := 13) (oi := { dst := some 43, op := Go.Op.move (Go.Operand.tmp 6), type := 3, pos := "net.go:31", after := #[], guard := none }) (v := ?_) rfl (by kernel_rfl) (by kernel_rfl) (by kernel_rfl) (by kernel_rfl) (fun _ _ _ h => h) (by first | exact fun _ => hF | exact fun _ => hF (by kernel_rfl)) (fun w => ?_) (by rfl) ?_
      rotate_left
      · first | (go_simp; done) | (go_simp; with_reducible rfl) | (go_split_ands; go_simp; done)
      try simp only [Act.put, List.setIfInBounds_toArray, List.set_cons_zero, List.set_cons_succ]
      refine wpAnyJ_take0 (i := 14) (oi := { dst := some 44, op := Go.Op.binOp Go.BinOp.add 3 (Go.Operand.tmp 43) (Go.Operand.const (Go.Value.int Go.IntKind.i64 1)) 3, type := 3, pos := "net.go:31", after := #[{ on := 13, ground := Go.Ground.data }], guard := none }) (v := ?_) rfl (by kernel_rfl) (by kernel_rfl) (by kernel_rfl) (by kernel_rfl) (fun _ _ _ h => h) (by first | exact fun _ => hF | exact fun _ => hF (by kernel_rfl)) (fun w => ?_) (by rfl) ?_
      rotate_left
      · first | (go_simp; done) | (go_simp; with_reducible rfl) | (go_split_ands; go_simp; done)
      try simp only [Act.put, List.setIfInBounds_toArray, List.set_cons_zero, List.set_cons_succ]
      refine wpAnyJ_take0 (i := 15) (oi := { dst := some 45, op := Go.Op.slice 45 (Go.Operand.tmp 42) (some (Go.Operand.tmp 44)) none none, type := 45, pos := "net.go:31", after := #[{ on := 12, ground := Go.Ground.data }, { on := 14, ground := Go.Ground.data }], guard := none }) (v := ?_) rfl (by kernel_rfl) (by kernel_rfl) (by kernel_rfl) (by kernel_rfl) (fun _ _ _ h => h) (by first | exact fun _ => hF | exact fun _ => hF (by kernel_rfl)) (fun w => ?_) (by rfl) ?_
      rotate_left
      · first | (go_simp; done) | (go_simp; with_reducible rfl) | (go_split_ands; go_simp; done)
      try simp only [Act.put, List.setIfInBounds_toArray, List.set_cons_zero, List.set_cons_succ]
      refine wpAnyJ_ready (rs := [1]) (by kernel_rfl) (by simp) ?_
      refine AllJ.cons (o := { dst := some 31, op := Go.Op.buildSlice 45 0 #[], type := 45, pos := "net.go:31", after := #[], guard := none }) rfl (fun Kr hKr => ?_) ?_
      · go_simp
        refine hKr.out _ _ (fun hJ => ?_) (fun hF => ?_)
        · first
          | exact absurd hJ (by decide)
          | (clear hJ; (try dsimp only); all_goals (first | exact c0 | (have b0 := heap_lt s1.own.h2; simp [*, World.cell?_alloc_some]; done)))
        clear hKr
        try simp only [Act.put, List.setIfInBounds_toArray, List.set_cons_zero, List.set_cons_succ]
        refine wpAnyJ_ready (rs := [8]) (by kernel_rfl) (by simp) ?_
        refine AllJ.cons (o := { dst := some 38, op := Go.Op.call { callee := Go.Callee.builtin Go.Builtin.append, args := #[Go.Operand.tmp 31, Go.Operand.tmp 37], argTypes := #[45, 45] }, type := 45, pos := "net.go:31", after := #[{ on := 1, ground := Go.Ground.data }, { on := 7, ground := Go.Ground.data }], guard := none }) rfl (fun Kr hKr => ?_) ?_
        · have s2 := s1.drew.alloc (.cells #[] 28 (0, 0))
          refine step_app rfl st_msg _ _ (by rfl) (by rfl) (by rfl) (SlRep.made _ _ _) (Own.left (A := [_]) s2.own) (hrd.out _ s2.own.tail.tail.tail.tail.left _) (by unfold maxLen; omega) (by omega) ?_
          intro a2 c2 w2 H2 hv2 hst2
          have s3 := Step.call (G := [_]) s2 hst2
          have c0 := cells1 s3.own.right.h2
          refine hKr.out _ _ (fun hJ => ?_) (fun hF => ?_)
          · first
            | exact absurd hJ (by decide)
            | (clear hJ; (try dsimp only); all_goals (first | exact c0 | (have b0 := heap_lt s1.own.h2; simp [*, World.cell?_alloc_some]; done)))
          clear hKr
          try simp only [Act.put, List.setIfInBounds_toArray, List.set_cons_zero, List.set_cons_succ]
          refine wpAnyJ_ready (rs := [16]) (by kernel_rfl) (by simp) ?_
          refine AllJ.cons (o := { dst := some 46, op := Go.Op.call { callee := Go.Callee.builtin Go.Builtin.append, args := #[Go.Operand.tmp 38, Go.Operand.tmp 45], argTypes := #[45, 45] }, type := 45, pos := "net.go:31", after := #[{ on := 8, ground := Go.Ground.data }, { on := 15, ground := Go.Ground.data }, { on := 8, ground := Go.Ground.chain }], guard := none }) rfl (fun Kr hKr => ?_) ?_
          · refine step_app rfl st_msg _ _ (by rfl) (by rfl) (by rfl) hv2 s3.own.left (hrd2.out _ s3.own.right.tail.tail.tail.left) (by unfold maxLen; omega) (by omega) ?_
            intro a3 c3 w3 H3 hv3 hst3
            have s4 := (Step.call s3 hst3).perm (List.Perm.refl _) (List.perm_append_comm_assoc H3 [_, _, _] _)
            have c0 := cells1 s4.own.h2
            have f0 := frz_of (i := 0) s4.own.h2
            obtain ⟨y0, y1, y2⟩ := cells3 s4.own.h0
            have fr := fun i => frz_of (i := i) s4.own.h1
            obtain ⟨z0, z1, z2⟩ := cells3 s4.own.h1
            refine hKr.out _ _ (fun hJ => ?_) (fun hF => ?_)
            · first
              | exact absurd hJ (by decide)
              | (clear hJ; (try dsimp only); all_goals (first | exact c0 | (have b0 := heap_lt s1.own.h2; simp [*, World.cell?_alloc_some]; done)))
            clear hKr
            try simp only [Act.put, List.setIfInBounds_toArray, List.set_cons_zero, List.set_cons_succ]
            refine wpAnyJ_take0 (i := 17) (oi := { dst := some 47, op := Go.Op.nilCheck (Go.Operand.tmp 30), type := 0, pos := "net.go:31", after := #[{ on := 0, ground := Go.Ground.data }, { on := 0, ground := Go.Ground.phase }, { on := 1, ground := Go.Ground.phase }, { on := 2, ground := Go.Ground.phase }, { on := 3, ground := Go.Ground.phase }, { on := 4, ground := Go.Ground.phase }, { on := 5, ground := Go.Ground.phase }, { on := 6, ground := Go.Ground.phase }, { on := 7, ground := Go.Ground.phase }, { on := 8, ground := Go.Ground.phase }, { on := 9, ground := Go.Ground.phase }, { on := 10, ground := Go.Ground.phase }, { on := 11, ground := Go.Ground.phase }, { on := 12, ground := Go.Ground.phase }, { on := 13, ground := Go.Ground.phase }, { on := 14, ground := Go.Ground.phase }, { on := 15, ground := Go.Ground.phase }, { on := 16, ground := Go.Ground.phase }], guard := none }) (v := ?_) rfl (by kernel_rfl) (by kernel_rfl) (by kernel_rfl) (by kernel_rfl) (fun _ _ _ h => h) (by first | exact fun _ => hF | exact fun _ => hF (by kernel_rfl)) (fun w => ?_) (by rfl) ?_
            rotate_left
            · first | (go_simp; done) | (go_simp; with_reducible rfl) | (go_split_ands; go_simp; done)
            try simp only [Act.put, List.setIfInBounds_toArray, List.set_cons_zero, List.set_cons_succ]
            refine wpAnyJ_take0 (i := 18) (oi := { dst := some 48, op := Go.Op.fieldAddr 47 (Go.Operand.tmp 47) 0, type := 0, pos := "net.go:31", after := #[{ on := 17, ground := Go.Ground.data }, { on := 0, ground := Go.Ground.phase }, { on := 1, ground := Go.Ground.phase }, { on := 2, ground := Go.Ground.phase }, { on := 3, ground := Go.Ground.phase }, { on := 4, ground := Go.Ground.phase }, { on := 5, ground := Go.Ground.phase }, { on := 6, ground := Go.Ground.phase }, { on := 7, ground := Go.Ground.phase }, { on := 8, ground := Go.Ground.phase }, { on := 9, ground := Go.Ground.phase }, { on := 10, ground := Go.Ground.phase }, { on := 11, ground := Go.Ground.phase }, { on := 12, ground := Go.Ground.phase }, { on := 13, ground := Go.Ground.phase }, { on := 14, ground := Go.Ground.phase }, { on := 15, ground := Go.Ground.phase }, { on := 16, ground := Go.Ground.phase }], guard := none }) (v := ?_) rfl (by kernel_rfl) (by kernel_rfl) (by kernel_rfl) (by kernel_rfl) (fun _ _ _ h => h) (by first | exact fun _ => hF | exact fun _ => hF (by kernel_rfl)) (fun w => ?_) (by rfl) ?_
            rotate_left
            · first | (go_simp; done) | (go_simp; with_reducible rfl) | (go_split_ands; go_simp; done)
            try simp only [Act.put, List.setIfInBounds_toArray, List.set_cons_zero, List.set_cons_succ]
            refine wpAnyJ_ready (rs := [19]) (by kernel_rfl) (by simp) ?_
            refine AllJ.cons (o := { dst := none, op := Go.Op.store 45 (Go.Operand.tmp 48) (Go.Operand.tmp 46), type := 0, pos := "net.go:31", after := #[{ on := 18, ground := Go.Ground.data }, { on := 16, ground := Go.Ground.data }, { on := 16, ground := Go.Ground.chain }, { on := 0, ground := Go.Ground.phase }, { on := 1, ground := Go.Ground.phase }, { on := 2, ground := Go.Ground.phase }, { on := 3, ground := Go.Ground.phase }, { on := 4, ground := Go.Ground.phase }, { on := 5, ground := Go.Ground.phase }, { on := 6, ground := Go.Ground.phase }, { on := 7, ground := Go.Ground.phase }, { on := 8, ground := Go.Ground.phase }, { on := 9, ground := Go.Ground.phase }, { on := 10, ground := Go.Ground.phase }, { on := 11, ground := Go.Ground.phase }, { on := 12, ground := Go.Ground.phase }, { on := 13, ground := Go.Ground.phase }, { on := 14, ground := Go.Ground.phase }, { on := 15, ground := Go.Ground.phase }, { on := 16, ground := Go.Ground.phase }], guard := none }) rfl (fun Kr hKr => ?_) ?_
            · go_simp
              refine hKr.out _ _ (fun hJ => ?_) (fun hF => ?_)
              · first
                | exact absurd hJ (by decide)
                | (clear hJ; (try dsimp only); all_goals (first | exact c0 | (have b0 := heap_lt s1.own.h2; simp [*, World.cell?_alloc_some]; done)))
              clear hKr
              try simp only [Act.put, List.setIfInBounds_toArray, List.set_cons_zero, List.set_cons_succ]
              refine wpAnyJ_done (by kernel_rfl) ?_ _
              go_wp2_with fail
              all_goals
                refine bodyPost_ret (v := .tuple #[.agg #[.int .i64 x.f, .int .i64 x.t, .slice x.a x.d.length x.c], .bool true]) (by simp [results, Try.results22, go_sem, *]) rfl ?_
                have s5 := ((((s4.store2 (.slice a3 (0 + i + (n - i1)) c3) (i := 0)).store1 (.int .i64 x.f) (i := 0)).store1 (.int .i64 x.t) (i := 1)).store1 (.slice x.a x.d.length x.c) (i := 2)).tail.tail
                have q := hv3
                rw [List.nil_append, hrds.out.1, hrds.out.2, Nat.zero_add, hi1'.out, hn.out] at q
                rw [Nat.zero_add, hi1'.out, hn.out] at s5
                obtain ⟨H', q1, q2, q3⟩ := gave_done hx.out hok.out q s5
                refine .inr ⟨i, x, H', by rw [← hn.out]; exact hi.out, hx.out, rfl, q1, q2, ?_⟩
                have ew : i + (n - i1) = i + (l.length - (i + 1)) := by rw [hn.out, hi1'.out]
                rw [ew]
                first
                  | exact q3
                  | (have hci := ‹c = i1›; rw [hci] at q3; exact q3)
            exact AllJ.nil
          exact AllJ.nil
        exact AllJ.nil
      exact AllJ.nil
end Go.Proofs.Ytliapfdbagcklaa
