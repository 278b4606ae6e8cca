import Derived.Test.YtliapfdbagcklaaNetF
namespace Go.Proofs.Ytliapfdbagcklaa
open Go.RowKit
attribute [local go_sem ↓] Go.wp_at_zero Go.wp_at_succ

def GivePost (b : Nat) (l : List It) (pick : Int) (w : World) (H : Heaplet) (e : Ending) (w' : World) : Prop :=
  (l = [] ∧ e = .returned (.tuple #[.agg #[.int .i64 0, .int .i64 0, .slice none 0 0], .bool false]) ∧ Step w H w' H) ∨
  ∃ (i : Nat) (hi : i < l.length) (H' : Heaplet), i = pickOf l.length pick ∧ e = .returned (.tuple #[.agg l[i].cells.toArray, .bool true]) ∧ NetRep 55 b (l.eraseIdx i) H' ∧ Step w H w' (H' ++ l[i].H)

theorem call_give (args : Array Value) (w : World) : (callFunc 29 args).run Try.prog w = .ok (.enter 29 args) w := by kernel_rfl

set_option maxRecDepth 100000 in
theorem give_any (b : Nat) (l : List It) (H : Heaplet) (pick : Int) (w : World) (hn : NetRep 55 b l H) (hw : Own w H) (hl : l.length ≤ 1024) (hp : pick ≤ 9223372036854775807) :
    Calls Try.prog 11 #[.pointer (some ⟨b, 0, none⟩), .int .i64 pick] w (GivePost b l pick w H) := by
  by_cases h0 : l.length = 0
  · go_enter Try.func11, Try.ntmps11
    go_wp2_with fail
    refine (picked_none b l H pick _ _ _ hn ?_ h0).mono ?_
    · exact (((Step.refl hw).alloc _).alloc _).own.tail.tail
    · rintro e w1 ⟨rfl, rfl⟩
      go_wp2_with fail
      refine bodyPost_ret (v := .tuple #[.agg #[.int .i64 0, .int .i64 0, .slice none 0 0], .bool false]) (by simp [results, Try.results11, go_sem]) rfl ?_
      exact .inl ⟨List.length_eq_zero_iff.1 h0, rfl, (((Step.refl hw).alloc _).alloc _).tail.tail⟩
  · have hlt := pickOf_lt (show 0 < l.length by omega) pick
    go_enter Try.func11, Try.ntmps11
    go_wp2_with fail
    refine Step.genC (((Step.refl hw).alloc _).alloc _) ?_
    intro W s1
    refine (picked_some b l H pick _ _ _ (fun x w' => x = true ∧ GivenPost w.heap.size (w.heap.size + 1) b l (pickOf l.length pick) W H (.returned (.bool true)) w') hn s1.own.tail.tail (by omega) hl hp call_give ?_).mono ?_
    · refine (give_closure w.heap.size (w.heap.size + 1) b l _ H W hn hlt hl ?_).mono ?_
      · simpa using s1.own.perm (List.Perm.swap _ _ _)
      · intro e w' h
        obtain ⟨h1, h2, rfl, h3⟩ := h
        exact ⟨true, rfl, rfl, h1, h2, rfl, h3⟩
    · rintro e w2 ⟨x, rfl, rfl, hi, H2, _, hn2, s2⟩
      have s3 := (s1.perm (List.Perm.refl _) (List.Perm.swap _ _ _)).trans (by simpa using s2)
      have ⟨y0, y1, y2⟩ := cells3 s3.own.h1
      have fy := fun i => frz_of (i := i) s3.own.h1
      go_wp2_with fail
      refine bodyPost_ret (v := .tuple #[.agg #[.int .i64 l[pickOf l.length pick].f, .int .i64 l[pickOf l.length pick].t, .slice l[pickOf l.length pick].a l[pickOf l.length pick].d.length l[pickOf l.length pick].c], .bool true]) (by simp [results, Try.results11, go_sem, *]) rfl ?_
      exact .inr ⟨_, hi, H2, rfl, rfl, hn2, (((s3.store1 _).store1 _).store1 _).tail.tail⟩

def TwiceNo (l : List It) : Prop := l = [] ∨ 1024 ≤ l.length
theorem RdBytes.of_item {l : List It} {i : Nat} (hi : i < l.length) (hok : ∀ x ∈ l, x.ok) {w : World} (hw : Own w (l.flatMap It.H)) : RdBytes w l[i].a l[i].d.length l[i].c l[i].d :=
  SlRep.rdBytes (hok _ (List.getElem_mem hi)) (hw.perm (give_perm l i hi)).right

set_option maxRecDepth 100000 in
theorem twice_closure (bx b : Nat) (l : List It) (i : Nat) (H : Heaplet) (w : World) (hn : NetRep 55 b l H) (hi : i < l.length) (hl : l.length ≤ 1024) (hd : l[i].d.length ≤ 140737488355328)
    (hw : Own w ((bx, .cells #[.pointer (some ⟨b, 0, none⟩)] 24 (0, 0)) :: H)) :
    Calls Try.prog 31 #[.int .i64 i, .pointer (some ⟨bx, 0, none⟩)] w (SendPost 55 b l l[i].f l[i].t l[i].d w H) := by
  obtain ⟨a, c, R, hr, rfl, hok⟩ := hn
  obtain ⟨g, cur, rfl, rfl, m0, m1, m2⟩ := hr.msg hi
  have hsend := Lib.hid (fun W (hW : Own W _) => send_any b l _ l[i].f l[i].t l[i].a l[i].d.length l[i].c l[i].d W ⟨_, c, _, hr, rfl, hok⟩ hW (RdBytes.of_item hi hok hW.tail.right) hd)
  have x0 := cells1 hw.h0
  have z0 := cells1 hw.h1
  have r0 := cell_of hw.h2 m0
  have r1 := cell_of hw.h2 m1
  have r2 := cell_of hw.h2 m2
  have b1 : (0 : Int) ≤ (i : Int) := by omega
  have b2 : (i : Int) < (l.length : Int) := by omega
  have b3 : (l.length : Int) ≤ 1024 := by omega
  replace hok := Lib.hid hok
  replace hr := Lib.hid hr
  clear m0 m1 m2
  go_enter Try.func31, Try.ntmps31
  go_wp2_with fail
  refine wp_region_J 8 (fun w' => w' = w.drew) (by kernel_rfl) ?_ (fun hF => ?_)
  · (try dsimp only)
    all_goals (rfl)
  refine wpAnyJ_take (i := 0) (oi := { dst := some 4, op := Go.Op.load 24 (Go.Operand.tmp 1), type := 24, pos := "net.go:54", after := #[], guard := none }) (v := ?_) [8] rfl (by kernel_rfl) (by kernel_rfl) (by kernel_rfl) (by kernel_rfl) (by kernel_rfl) (fun _ _ _ h => h) (by first | exact hF | exact hF (by kernel_rfl)) (fun w hFw => ?_) (by rfl) ?_
  rotate_left
  · ((try dsimp only at hFw); first | (go_simp; done) | (go_simp; with_reducible rfl) | (go_split_ands; go_simp; done))
  try simp only [Act.put, List.setIfInBounds_toArray, List.set_cons_zero, List.set_cons_succ]
  refine wpAnyJ_take (i := 1) (oi := { dst := some 5, op := Go.Op.load 24 (Go.Operand.tmp 1), type := 24, pos := "net.go:54", after := #[], guard := none }) (v := ?_) [2, 3, 4, 6, 7, 8] rfl (by kernel_rfl) (by kernel_rfl) (by kernel_rfl) (by kernel_rfl) (by kernel_rfl) (fun _ _ _ h => h) (by first | exact hF | exact hF (by kernel_rfl)) (fun w hFw => ?_) (by rfl) ?_
  rotate_left
  · ((try dsimp only at hFw); first | (go_simp; done) | (go_simp; with_reducible rfl) | (go_split_ands; go_simp; done))
  try simp only [Act.put, List.setIfInBounds_toArray, List.set_cons_zero, List.set_cons_succ]
  refine wpAnyJ_take0 (i := 2) (oi := { dst := some 6, op := Go.Op.nilCheck (Go.Operand.tmp 5), type := 0, pos := "net.go:54", after := #[{ on := 1, ground := Go.Ground.data }], guard := none }) (v := ?_) rfl (by kernel_rfl) (by kernel_rfl) (by kernel_rfl) (by kernel_rfl) (fun _ _ _ h => h) (by first | exact fun _ => hF | exact fun _ => hF (by kernel_rfl)) (fun w => ?_) (by rfl) ?_
  rotate_left
  · first | (go_simp; done) | (go_simp; with_reducible rfl) | (go_split_ands; go_simp; done)
  try simp only [Act.put, List.setIfInBounds_toArray, List.set_cons_zero, List.set_cons_succ]
  refine wpAnyJ_take0 (i := 3) (oi := { dst := some 7, op := Go.Op.fieldAddr 55 (Go.Operand.tmp 6) 0, type := 0, pos := "net.go:54", after := #[{ on := 2, ground := Go.Ground.data }], guard := none }) (v := ?_) rfl (by kernel_rfl) (by kernel_rfl) (by kernel_rfl) (by kernel_rfl) (fun _ _ _ h => h) (by first | exact fun _ => hF | exact fun _ => hF (by kernel_rfl)) (fun w => ?_) (by rfl) ?_
  rotate_left
  · first | (go_simp; done) | (go_simp; with_reducible rfl) | (go_split_ands; go_simp; done)
  try simp only [Act.put, List.setIfInBounds_toArray, List.set_cons_zero, List.set_cons_succ]
  refine wpAnyJ_take (i := 4) (oi := { dst := some 8, op := Go.Op.load 45 (Go.Operand.tmp 7), type := 45, pos := "net.go:54", after := #[{ on := 3, ground := Go.Ground.data }], guard := none }) (v := ?_) [6, 7, 8] rfl (by kernel_rfl) (by kernel_rfl) (by kernel_rfl) (by kernel_rfl) (by kernel_rfl) (fun _ _ _ h => h) (by first | exact hF | exact hF (by kernel_rfl)) (fun w hFw => ?_) (by rfl) ?_
  rotate_left
  · ((try dsimp only at hFw); first | (go_simp; done) | (go_simp; with_reducible rfl) | (go_split_ands; go_simp; done))
  try simp only [Act.put, List.setIfInBounds_toArray, List.set_cons_zero, List.set_cons_succ]
  refine wpAnyJ_take0 (i := 5) (oi := { dst := some 9, op := Go.Op.move (Go.Operand.tmp 0), type := 3, pos := "net.go:54", after := #[], guard := none }) (v := ?_) rfl (by kernel_rfl) (by kernel_rfl) (by kernel_rfl) (by kernel_rfl) (fun _ _ _ h => h) (by first | exact fun _ => hF | exact fun _ => hF (by kernel_rfl)) (fun w => ?_) (by rfl) ?_
  rotate_left
  · first | (go_simp; done) | (go_simp; with_reducible rfl) | (go_split_ands; go_simp; done)
  try simp only [Act.put, List.setIfInBounds_toArray, List.set_cons_zero, List.set_cons_succ]
  refine wpAnyJ_take0 (i := 6) (oi := { dst := some 10, op := Go.Op.indexAddr 45 (Go.Operand.tmp 8) (Go.Operand.tmp 9), type := 0, pos := "net.go:54", after := #[{ on := 4, ground := Go.Ground.data }, { on := 5, ground := Go.Ground.data }], guard := none }) (v := ?_) rfl (by kernel_rfl) (by kernel_rfl) (by kernel_rfl) (by kernel_rfl) (fun _ _ _ h => h) (by first | exact fun _ => hF | exact fun _ => hF (by kernel_rfl)) (fun w => ?_) (by rfl) ?_
  rotate_left
  · first | (go_simp; done) | (go_simp; with_reducible rfl) | (go_split_ands; go_simp; done)
  try simp only [Act.put, List.setIfInBounds_toArray, List.set_cons_zero, List.set_cons_succ]
  refine wpAnyJ_take (i := 7) (oi := { dst := some 11, op := Go.Op.load 28 (Go.Operand.tmp 10), type := 28, pos := "net.go:54", after := #[{ on := 6, ground := Go.Ground.data }], guard := none }) (v := ?_) [8] rfl (by kernel_rfl) (by kernel_rfl) (by kernel_rfl) (by kernel_rfl) (by kernel_rfl) (fun _ _ _ h => h) (by first | exact hF | exact hF (by kernel_rfl)) (fun w hFw => ?_) (by rfl) ?_
  rotate_left
  · ((try dsimp only at hFw); first | (go_simp; done) | (go_simp; with_reducible rfl) | (go_split_ands; go_simp; done))
  try simp only [Act.put, List.setIfInBounds_toArray, List.set_cons_zero, List.set_cons_succ]
  refine wpAnyJ_ready (rs := [8]) (by kernel_rfl) (by simp) ?_
  refine AllJ.cons (o := { dst := some 12, op := Go.Op.call { callee := Go.Callee.value (Go.Operand.func 10), args := #[Go.Operand.tmp 4, Go.Operand.tmp 11], argTypes := #[24, 28] }, type := 4, pos := "net.go:54", after := #[{ on := 0, ground := Go.Ground.data }, { on := 7, ground := Go.Ground.data }], guard := none }) rfl (fun Kr hKr => ?_) ?_
  · (go_simp; refine (hsend.out _ hw.tail.drew).mono ?_; intro e w1 hpost; obtain ⟨x, rfl⟩ := hpost.bool; replace hpost := Lib.hid (hpost.pre (Step.refl hw.tail).drew))
    refine hKr.out _ _ (fun hJ => ?_) (fun hF => ?_)
    · first
      | exact absurd hJ (by decide)
      | (clear hJ; (try dsimp only); all_goals (rfl))
    clear hKr
    try simp only [Act.put, List.setIfInBounds_toArray, List.set_cons_zero, List.set_cons_succ]
    refine wpAnyJ_ready (rs := [9]) (by kernel_rfl) (by simp) ?_
    refine AllJ.cons (o := { dst := some 3, op := Go.Op.assign (Go.Operand.tmp 12), type := 4, pos := "net.go:54", after := #[{ on := 8, ground := Go.Ground.data }, { on := 8, ground := Go.Ground.chain }, { on := 0, ground := Go.Ground.phase }, { on := 1, ground := Go.Ground.phase }, { on := 2, ground := Go.Ground.phase }, { on := 3, ground := Go.Ground.phase }, { on := 4, ground := Go.Ground.phase }, { on := 5, ground := Go.Ground.phase }, { on := 6, ground := Go.Ground.phase }, { on := 7, ground := Go.Ground.phase }, { on := 8, ground := Go.Ground.phase }], guard := none }) rfl (fun Kr hKr => ?_) ?_
    · go_simp
      refine hKr.out _ _ (fun hJ => ?_) (fun hF => ?_)
      · first
        | exact absurd hJ (by decide)
        | (clear hJ; (try dsimp only); all_goals (rfl))
      clear hKr
      try simp only [Act.put, List.setIfInBounds_toArray, List.set_cons_zero, List.set_cons_succ]
      refine wpAnyJ_done (by kernel_rfl) ?_ _
      go_wp2
      go_ret
      exact hpost.out
    exact AllJ.nil
  exact AllJ.nil

theorem call_twice (args : Array Value) (w : World) : (callFunc 31 args).run Try.prog w = .ok (.enter 31 args) w := by kernel_rfl
def TwicePost (b : Nat) (l : List It) (pick : Int) (w : World) (H : Heaplet) (e : Ending) (w' : World) : Prop :=
  (l = [] ∧ e = .returned (.bool false) ∧ ∃ H', NetRep 55 b l H' ∧ Step w H w' H') ∨
  ∃ (i : Nat) (hi : i < l.length), i = pickOf l.length pick ∧ SendPost 55 b l l[i].f l[i].t l[i].d w H e w'
set_option maxRecDepth 100000 in
theorem twice_any (b : Nat) (l : List It) (H : Heaplet) (pick : Int) (w : World) (hn : NetRep 55 b l H) (hw : Own w H) (hl : l.length ≤ 1024) (hp : pick ≤ 9223372036854775807) (hd : ∀ x ∈ l, x.d.length ≤ 140737488355328) :
    Calls Try.prog 15 #[.pointer (some ⟨b, 0, none⟩), .int .i64 pick] w (TwicePost b l pick w H) := by
  replace hd := Lib.hid hd
  by_cases h0 : l.length = 0
  · go_enter Try.func15, Try.ntmps15
    go_wp2_with fail
    refine (picked_none b l H pick _ _ _ hn ((Step.refl hw).alloc _).own.tail h0).mono ?_
    rintro e w1 ⟨rfl, rfl⟩
    go_wp2
    go_ret
    exact .inl ⟨List.length_eq_zero_iff.1 h0, rfl, H, hn, ((Step.refl hw).alloc _).tail⟩
  · have hlt := pickOf_lt (show 0 < l.length by omega) pick
    go_enter Try.func15, Try.ntmps15
    go_wp2_with fail
    refine Step.genC ((Step.refl hw).alloc _) ?_
    intro W s1
    refine (picked_some b l H pick _ _ _ (fun x w' => SendPost 55 b l l[pickOf l.length pick].f l[pickOf l.length pick].t l[pickOf l.length pick].d W H (.returned (.bool x)) w') hn s1.own.tail (by omega) hl hp call_twice ?_).mono ?_
    · refine (twice_closure w.heap.size b l _ H W hn hlt hl (hd.out _ (List.getElem_mem hlt)) s1.own).mono ?_
      intro e w' h
      obtain ⟨x, rfl⟩ := h.bool
      exact ⟨x, rfl, h⟩
    · rintro e w2 ⟨x, rfl, hs⟩
      replace hs := Lib.hid (hs.pre s1.tail)
      go_wp2
      go_ret
      exact .inr ⟨_, hlt, rfl, hs.out⟩

theorem len_any (b : Nat) (l : List It) (H : Heaplet) (w : World) (hn : NetRep 55 b l H) (hw : Own w H) :
    Calls Try.prog 13 #[.pointer (some ⟨b, 0, none⟩)] w fun e w' => e = .returned (.int .i64 l.length) ∧ w = w' := by
  obtain ⟨a, c, R, hr, rfl, hok⟩ := hn
  clear hok
  have c0 := cells1 hw.h0
  go_enter Try.func13, Try.ntmps13
  go_wp2
  go_ret
  exact ⟨rfl, rfl⟩
end Go.Proofs.Ytliapfdbagcklaa
