import Derived.Test.YtliapfdbagcklaaNetA
import Derived.Test.YtliapfdbagcklaaReg
namespace Go.Proofs.Ytliapfdbagcklaa
open Go.RowKit
attribute [local go_sem ↓] Go.wp_at_zero Go.wp_at_succ

/-- A message in memory. -/
structure It where
  f : Int
  t : Int
  a : Option Addr
  c : Nat
  d : List UInt8
  H : Heaplet
def It.ok (x : It) : Prop := SlRep 5 1 x.a x.d.length x.c (x.d.map u8) x.H
def It.cells (x : It) : List Value := [.int .i64 x.f, .int .i64 x.t, .slice x.a x.d.length x.c]
/-- A Net (the program's) with the messages l: its block b, its row, its messages' bytes. -/
def NetRep (T b : Nat) (l : List It) (H : Heaplet) : Prop :=
  ∃ a c R, SlRep 28 3 a l.length c (l.flatMap It.cells) R ∧ H = (b, .cells #[.slice a l.length c] T (0, 0)) :: (R ++ l.flatMap It.H) ∧ ∀ x ∈ l, x.ok

def SendPost (T b : Nat) (l : List It) (f t : Int) (d : List UInt8) (w : World) (H : Heaplet) (e : Ending) (w' : World) : Prop :=
  (1024 ≤ l.length ∧ e = .returned (.bool false) ∧ ∃ H', NetRep T b l H' ∧ Step w H w' H') ∨
  (l.length < 1024 ∧ e = .returned (.bool true) ∧ ∃ x H', x.f = f ∧ x.t = t ∧ x.d = d ∧ NetRep T b (l ++ [x]) H' ∧ Step w H w' H')

theorem send_done {T b : Nat} {l : List It} {f t : Int} {d : List UInt8} {w w' : World} {H R H1 : Heaplet} {e : Ending} {a1 a2 : Option Addr} {k1 c2 : Nat} (hf : l.length < 1024) (he : e = .returned (.bool true)) (hok : ∀ x ∈ l, x.ok)
    (hr1 : SlRep 5 1 a1 d.length k1 (d.map u8) H1) (hv2 : SlRep 28 3 a2 (l.length + 1) c2 (l.flatMap It.cells ++ [.int .i64 f, .int .i64 t, .slice a1 d.length k1]) R)
    (hs : Step w H w' ((b, .cells #[.slice a2 (l.length + 1) c2] T (0, 0)) :: (R ++ (l.flatMap It.H ++ H1)))) : SendPost T b l f t d w H e w' := by
  refine .inr ⟨hf, he, ⟨f, t, a1, k1, d, H1⟩, _, rfl, rfl, rfl, ⟨a2, c2, R, by simpa [It.cells] using hv2, by simp, fun x hx => ?_⟩, hs⟩
  rcases List.mem_append.1 hx with h | h
  · exact hok x h
  · simp at h; subst h; exact hr1

set_option maxRecDepth 100000 in
theorem send_any (b : Nat) (l : List It) (H : Heaplet) (f t : Int) (av : Option Addr) (nv cv : Nat) (d : List UInt8) (w : World) (hn : NetRep 55 b l H) (hw : Own w H) (h : RdBytes w av nv cv d) (hl : d.length ≤ 140737488355328) :
    Calls Try.prog 10 #[.pointer (some ⟨b, 0, none⟩), .agg #[.int .i64 f, .int .i64 t, .slice av nv cv]] w (SendPost 55 b l f t d w H) := by
  obtain ⟨a, c, R, hr, rfl, hok⟩ := hn
  replace h := Lib.hid h
  replace hok := Lib.hid hok
  have c0 := cells1 hw.h0
  have f0 := frz_of (i := 0) hw.h0
  have b0 := heap_lt hw.h0
  by_cases hf : l.length < 1024
  · go_enter Try.func10, Try.ntmps10
    go_wp2
    refine wp_region_J 11 (fun w' => w'.cell? ⟨b, 0, none⟩ = some (.slice a l.length c) ∧ w'.cell? ⟨w.heap.size, 0, none⟩ = some (.int .i64 f) ∧ w'.cell? ⟨w.heap.size, 1, none⟩ = some (.int .i64 t) ∧ w'.cell? ⟨w.heap.size, 2, none⟩ = some (.slice av nv cv)) (by kernel_rfl) ?_ (fun hF => ?_)
    · (try dsimp only)
      all_goals ((simp [*, World.cell?_alloc_some, World.cell?_setCell_far]; done))
    refine wpAnyJ_take0 (i := 0) (oi := { dst := some 15, op := Go.Op.move (Go.Operand.tmp 0), type := 24, pos := "net.go:30", after := #[], guard := none }) (v := ?_) rfl (by kernel_rfl) (by kernel_rfl) (by kernel_rfl) (by kernel_rfl) (fun _ _ _ h => h) (by first | exact fun _ => hF | exact fun _ => hF (by kernel_rfl)) (fun w => ?_) (by rfl) ?_
    rotate_left
    · first | (go_simp; done) | (go_simp; with_reducible rfl) | (go_split_ands; go_simp; done)
    try simp only [Act.put, List.setIfInBounds_toArray, List.set_cons_zero, List.set_cons_succ]
    refine wpAnyJ_take0 (i := 1) (oi := { dst := some 16, op := Go.Op.move (Go.Operand.tmp 0), type := 24, pos := "net.go:30", after := #[], guard := none }) (v := ?_) rfl (by kernel_rfl) (by kernel_rfl) (by kernel_rfl) (by kernel_rfl) (fun _ _ _ h => h) (by first | exact fun _ => hF | exact fun _ => hF (by kernel_rfl)) (fun w => ?_) (by rfl) ?_
    rotate_left
    · first | (go_simp; done) | (go_simp; with_reducible rfl) | (go_split_ands; go_simp; done)
    try simp only [Act.put, List.setIfInBounds_toArray, List.set_cons_zero, List.set_cons_succ]
    refine wpAnyJ_take0 (i := 2) (oi := { dst := some 17, op := Go.Op.nilCheck (Go.Operand.tmp 16), type := 0, pos := "net.go:30", after := #[{ on := 1, ground := Go.Ground.data }], guard := none }) (v := ?_) rfl (by kernel_rfl) (by kernel_rfl) (by kernel_rfl) (by kernel_rfl) (fun _ _ _ h => h) (by first | exact fun _ => hF | exact fun _ => hF (by kernel_rfl)) (fun w => ?_) (by rfl) ?_
    rotate_left
    · first | (go_simp; done) | (go_simp; with_reducible rfl) | (go_split_ands; go_simp; done)
    try simp only [Act.put, List.setIfInBounds_toArray, List.set_cons_zero, List.set_cons_succ]
    refine wpAnyJ_take0 (i := 3) (oi := { dst := some 18, op := Go.Op.fieldAddr 55 (Go.Operand.tmp 17) 0, type := 0, pos := "net.go:30", after := #[{ on := 2, ground := Go.Ground.data }], guard := none }) (v := ?_) rfl (by kernel_rfl) (by kernel_rfl) (by kernel_rfl) (by kernel_rfl) (fun _ _ _ h => h) (by first | exact fun _ => hF | exact fun _ => hF (by kernel_rfl)) (fun w => ?_) (by rfl) ?_
    rotate_left
    · first | (go_simp; done) | (go_simp; with_reducible rfl) | (go_split_ands; go_simp; done)
    try simp only [Act.put, List.setIfInBounds_toArray, List.set_cons_zero, List.set_cons_succ]
    refine wpAnyJ_take (i := 4) (oi := { dst := some 19, op := Go.Op.load 45 (Go.Operand.tmp 18), type := 45, pos := "net.go:30", after := #[{ on := 3, ground := Go.Ground.data }], guard := none }) (v := ?_) [11] rfl (by kernel_rfl) (by kernel_rfl) (by kernel_rfl) (by kernel_rfl) (by kernel_rfl) (fun _ _ _ h => h) (by first | exact hF | exact hF (by kernel_rfl)) (fun w hFw => ?_) (by rfl) ?_
    rotate_left
    · ((try dsimp only at hFw); first | (go_simp; done) | (go_simp; with_reducible rfl) | (go_split_ands; go_simp; done))
    try simp only [Act.put, List.setIfInBounds_toArray, List.set_cons_zero, List.set_cons_succ]
    refine wpAnyJ_take (i := 5) (oi := { dst := some 20, op := Go.Op.load 28 (Go.Operand.tmp 3), type := 28, pos := "net.go:30", after := #[], guard := none }) (v := ?_) [11] rfl (by kernel_rfl) (by kernel_rfl) (by kernel_rfl) (by kernel_rfl) (by kernel_rfl) (fun _ _ _ h => h) (by first | exact hF | exact hF (by kernel_rfl)) (fun w hFw => ?_) (by rfl) ?_
    rotate_left
    · ((try dsimp only at hFw); first | (go_simp; done) | (go_simp; with_reducible rfl) | (go_split_ands; go_simp; done))
    try simp only [Act.put, List.setIfInBounds_toArray, List.set_cons_zero, List.set_cons_succ]
    refine wpAnyJ_ready (rs := [6]) (by kernel_rfl) (by simp) ?_
    refine AllJ.cons (o := { dst := some 21, op := Go.Op.call { callee := Go.Callee.value (Go.Operand.func 27), args := #[Go.Operand.tmp 20], argTypes := #[28] }, type := 28, pos := "net.go:30", after := #[{ on := 5, ground := Go.Ground.data }], guard := none }) rfl (fun Kr hKr => ?_) ?_
    · (go_simp; go_at_call 27; refine (own_any f t av nv cv d _ ((h.out.alloc _).drew) hl).mono ?_; rintro e w1 ⟨a1, k1, H1, rfl, hr1, hst1⟩)
      have s1 := ((Step.refl hw).alloc _).drew.call0 hst1
      simp only [List.append_assoc, List.cons_append] at s1
      have ⟨c0, c1, c2⟩ := cells3 s1.own.h0
      have d0 := cells1 s1.own.h1
      have b1 := heap_lt s1.own.h1
      refine hKr.out _ _ (fun hJ => ?_) (fun hF => ?_)
      · first
        | exact absurd hJ (by decide)
        | (clear hJ; (try dsimp only); all_goals ((simp [*, World.cell?_alloc_some, World.cell?_setCell_far]; done)))
      clear hKr
      try simp only [Act.put, List.setIfInBounds_toArray, List.set_cons_zero, List.set_cons_succ]
      refine wpAnyJ_ready (rs := [7]) (by kernel_rfl) (by simp) ?_
      refine AllJ.cons (o := { dst := some 22, op := Go.Op.buildSlice 45 1 #[(0, Go.Operand.tmp 21)], type := 45, pos := "net.go:30", after := #[{ on := 6, ground := Go.Ground.data }], guard := none }) rfl (fun Kr hKr => ?_) ?_
      · go_simp
        refine hKr.out _ _ (fun hJ => ?_) (fun hF => ?_)
        · first
          | exact absurd hJ (by decide)
          | (clear hJ; (try dsimp only); all_goals ((simp [*, World.cell?_alloc_some, World.cell?_setCell_far]; done)))
        clear hKr
        try simp only [Act.put, List.setIfInBounds_toArray, List.set_cons_zero, List.set_cons_succ]
        refine wpAnyJ_ready (rs := [8]) (by kernel_rfl) (by simp) ?_
        refine AllJ.cons (o := { dst := some 23, op := Go.Op.call { callee := Go.Callee.builtin Go.Builtin.append, args := #[Go.Operand.tmp 19, Go.Operand.tmp 22], argTypes := #[45, 45] }, type := 45, pos := "net.go:30", after := #[{ on := 4, ground := Go.Ground.data }, { on := 7, ground := Go.Ground.data }, { on := 6, ground := Go.Ground.chain }], guard := none }) rfl (fun Kr hKr => ?_) ?_
        · refine step_app rfl st_msg _ _ (by rfl) (by rfl) (by rfl) hr ((s1.alloc _).own.tail.tail.tail.left) (rdCells_block (heap_alloc_new _ _) rfl (by simp [Value.oneCell'])) (by unfold maxLen; omega) (by omega) ?_
          intro a2 c2 w2 H2 hv2 hst2
          have s2 := Step.mid3 (s1.alloc _) hst2
          have ⟨c0, c1, c2⟩ := cells3 s2.own.h1
          have d0 := cells1 s2.own.h2
          have f0 := frz_of (i := 0) s2.own.h2
          refine hKr.out _ _ (fun hJ => ?_) (fun hF => ?_)
          · first
            | exact absurd hJ (by decide)
            | (clear hJ; (try dsimp only); all_goals ((simp [*, World.cell?_alloc_some, World.cell?_setCell_far]; done)))
          clear hKr
          try simp only [Act.put, List.setIfInBounds_toArray, List.set_cons_zero, List.set_cons_succ]
          refine wpAnyJ_take0 (i := 9) (oi := { dst := some 24, op := Go.Op.nilCheck (Go.Operand.tmp 15), type := 0, pos := "net.go:30", after := #[{ on := 0, ground := Go.Ground.data }, { on := 0, ground := Go.Ground.phase }, { on := 1, ground := Go.Ground.phase }, { on := 2, ground := Go.Ground.phase }, { on := 3, ground := Go.Ground.phase }, { on := 4, ground := Go.Ground.phase }, { on := 5, ground := Go.Ground.phase }, { on := 6, ground := Go.Ground.phase }, { on := 7, ground := Go.Ground.phase }, { on := 8, ground := Go.Ground.phase }], guard := none }) (v := ?_) rfl (by kernel_rfl) (by kernel_rfl) (by kernel_rfl) (by kernel_rfl) (fun _ _ _ h => h) (by first | exact fun _ => hF | exact fun _ => hF (by kernel_rfl)) (fun w => ?_) (by rfl) ?_
          rotate_left
          · first | (go_simp; done) | (go_simp; with_reducible rfl) | (go_split_ands; go_simp; done)
          try simp only [Act.put, List.setIfInBounds_toArray, List.set_cons_zero, List.set_cons_succ]
          refine wpAnyJ_take0 (i := 10) (oi := { dst := some 25, op := Go.Op.fieldAddr 55 (Go.Operand.tmp 24) 0, type := 0, pos := "net.go:30", after := #[{ on := 9, ground := Go.Ground.data }, { on := 0, ground := Go.Ground.phase }, { on := 1, ground := Go.Ground.phase }, { on := 2, ground := Go.Ground.phase }, { on := 3, ground := Go.Ground.phase }, { on := 4, ground := Go.Ground.phase }, { on := 5, ground := Go.Ground.phase }, { on := 6, ground := Go.Ground.phase }, { on := 7, ground := Go.Ground.phase }, { on := 8, ground := Go.Ground.phase }], guard := none }) (v := ?_) rfl (by kernel_rfl) (by kernel_rfl) (by kernel_rfl) (by kernel_rfl) (fun _ _ _ h => h) (by first | exact fun _ => hF | exact fun _ => hF (by kernel_rfl)) (fun w => ?_) (by rfl) ?_
          rotate_left
          · first | (go_simp; done) | (go_simp; with_reducible rfl) | (go_split_ands; go_simp; done)
          try simp only [Act.put, List.setIfInBounds_toArray, List.set_cons_zero, List.set_cons_succ]
          refine wpAnyJ_ready (rs := [11]) (by kernel_rfl) (by simp) ?_
          refine AllJ.cons (o := { dst := none, op := Go.Op.store 45 (Go.Operand.tmp 25) (Go.Operand.tmp 23), type := 0, pos := "net.go:30", after := #[{ on := 10, ground := Go.Ground.data }, { on := 8, ground := Go.Ground.data }, { on := 8, ground := Go.Ground.chain }, { on := 0, ground := Go.Ground.phase }, { on := 1, ground := Go.Ground.phase }, { on := 2, ground := Go.Ground.phase }, { on := 3, ground := Go.Ground.phase }, { on := 4, ground := Go.Ground.phase }, { on := 5, ground := Go.Ground.phase }, { on := 6, ground := Go.Ground.phase }, { on := 7, ground := Go.Ground.phase }, { on := 8, ground := Go.Ground.phase }], guard := none }) rfl (fun Kr hKr => ?_) ?_
          · go_simp
            refine hKr.out _ _ (fun hJ => ?_) (fun hF => ?_)
            · first
              | exact absurd hJ (by decide)
              | (clear hJ; (try dsimp only); all_goals ((simp [*, World.cell?_alloc_some, World.cell?_setCell_far]; done)))
            clear hKr
            try simp only [Act.put, List.setIfInBounds_toArray, List.set_cons_zero, List.set_cons_succ]
            refine wpAnyJ_done (by kernel_rfl) ?_ _
            go_wp2
            go_ret
            exact send_done hf rfl hok.out hr1 (by simpa using hv2) (s2.store2 _).tail.tail
          exact AllJ.nil
        exact AllJ.nil
      exact AllJ.nil
    exact AllJ.nil
  · go_enter Try.func10, Try.ntmps10
    go_wp2
    go_ret
    exact .inl ⟨by omega, rfl, _, ⟨a, c, R, hr, rfl, hok.out⟩, (Step.refl hw).junk _⟩
theorem SendPost.bool {T b : Nat} {l : List It} {f t : Int} {d : List UInt8} {w w' : World} {H : Heaplet} {e : Ending} (h : SendPost T b l f t d w H e w') : ∃ x, e = .returned (.bool x) := by
  rcases h with ⟨_, h, _⟩ | ⟨_, h, _⟩ <;> exact ⟨_, h⟩
theorem SendPost.pre {T b : Nat} {l : List It} {f t : Int} {d : List UInt8} {w W w' : World} {H H0 : Heaplet} {e : Ending} (h : SendPost T b l f t d W H e w') (s : Step w H0 W H) : SendPost T b l f t d w H0 e w' := by
  rcases h with ⟨h1, h2, h3⟩ | ⟨h1, h2, x, H', a1, a2, a3, a4, a5⟩
  · obtain ⟨H', a1, a2⟩ := h3
    exact .inl ⟨h1, h2, H', a1, s.trans a2⟩
  · exact .inr ⟨h1, h2, x, H', a1, a2, a3, a4, s.trans a5⟩
end Go.Proofs.Ytliapfdbagcklaa
