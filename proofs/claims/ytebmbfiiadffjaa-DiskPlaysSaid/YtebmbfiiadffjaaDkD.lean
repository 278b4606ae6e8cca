/- The program's disk: sync, cut, remove. -/
import Derived.Test.YtebmbfiiadffjaaDkC
namespace Go.Proofs.Ytebmbfiiadffjaa
open Go.RowKit
attribute [local go_sem ↓] Go.wp_at_zero Go.wp_at_succ

theorem fe_part (e0 e1 : Nat × Obj) (A : List Fe) (x : Fe) (B : List Fe) : e0 :: e1 :: (A ++ x :: B).flatMap Fe.all = (e0 :: e1 :: A.flatMap Fe.all) ++ (x.fb, fobj x.a x.d.length x.c x.n) :: (x.H ++ B.flatMap Fe.all) := by
  simp [Fe.all]
theorem fe_store {w W : World} {K : Heaplet} {e0 e1 : Nat × Obj} {A B : List Fe} {x : Fe} (s : Step w K W (e0 :: e1 :: (A ++ x :: B).flatMap Fe.all)) (n : Nat) :
    Step w K (W.setCell ⟨x.fb, 1, none⟩ (iv n)) (e0 :: e1 :: (A ++ { x with n := n } :: B).flatMap Fe.all) := by
  rw [fe_part] at s ⊢
  exact Step.store (iv n) s
theorem fe_store0 {w W : World} {K : Heaplet} {e0 e1 : Nat × Obj} {A B : List Fe} {x : Fe} (s : Step w K W (e0 :: e1 :: (A ++ x :: B).flatMap Fe.all)) (a : Option Addr) (d : List UInt8) (c l : Nat) (hl : d.length = l) :
    Step w K (W.setCell ⟨x.fb, 0, none⟩ (.slice a l c)) (e0 :: e1 :: (A ++ { x with a := a, d := d, c := c } :: B).flatMap Fe.all) := by
  subst hl
  rw [fe_part] at s ⊢
  exact Step.store (.slice a d.length c) s
theorem ents_put (A : List Fe) (x x' : Fe) (B : List Fe) (h1 : x'.nm = x.nm) (h2 : x'.fb = x.fb) : (A ++ x' :: B).map Fe.ent = (A ++ x :: B).map Fe.ent := by
  simp [Fe.ent, h1, h2]
theorem ok_put {A B : List Fe} {x x' : Fe} (h : ∀ y ∈ A ++ x :: B, y.ok) (h' : x'.ok) : ∀ y ∈ A ++ x' :: B, y.ok := by
  intro y hy
  rcases List.mem_append.1 hy with hy | hy
  · exact h y (List.mem_append_left _ hy)
  · rcases List.mem_cons.1 hy with rfl | hy
    · exact h'
    · exact h y (List.mem_append_right _ (List.mem_cons_of_mem _ hy))
set_option maxHeartbeats 2000000 in
set_option maxRecDepth 100000 in
theorem sync_any (b : Nat) (k : Dk) (H : Heaplet) (ng nc : Nat) (nm : Nm) (n : Int) (pa : Option Addr) (pn pc : Nat) (w : World) (h : DkRep b k H) (hk : k.Ok) (hw : Own w H) (hg : RdStrs w ng [nm]) (hc : 1 ≤ nc) :
    Calls Try.prog 31 #[pt b, .agg #[.slice (some ⟨ng, 0, none⟩) 1 nc, ii n, .slice pa pn pc]] w (DkPost b (syI nm k) H w) := by
  have hrep := Lib.hid h
  obtain ⟨r, o, fu, lf, X, hm, hok, hp, hf, rfl⟩ := h
  have s1 := (Sp.start hw).alloc (.cells #[.slice (some ⟨ng, 0, none⟩) 1 nc, ii n, .slice pa pn pc] 64)
  have hg1 := hg.later (Step.of_alloc w (.cells #[.slice (some ⟨ng, 0, none⟩) 1 nc, ii n, .slice pa pn pc] 64))
  go_enter Try.func31, Try.ntmps31
  go_upto_region 1 with fail
  generalize (w.alloc (.cells #[.slice (some ⟨ng, 0, none⟩) 1 nc, ii n, .slice pa pn pc] 64)) = W at s1 hg1 ⊢
  generalize w.heap.size = bx at s1 ⊢
  have g0 := hg1 0 nm rfl
  have hos := s1.own 0 rfl
  have ⟨c0, c1, c2, c3⟩ := cells4 hos.h0
  have ⟨d0, d1, d2⟩ := cells3 (s1.one 1 rfl)
  by_cases hi : isF k.L nm = true
  · obtain ⟨A, x, B, rfl, rfl, hget, hput, _⟩ := fe_find hp hk.sorted hi
    have hlk : ∀ nq, (Instr.lookup 58 (.map (some r)) (strV x.nm) false).run Try.prog (W.drewN nq) = .ok (pt x.fb) (W.drewN nq) := fun nq => look_yes hm (by exact hos.h1)
    have ⟨e0, e1⟩ := cells2 (fe_has (x := x) (by simp) hos.tail.tail)
    have fz := fun i => frz_of (i := i) (fe_has (x := x) (by simp) hos.tail.tail)
    have hr : Hid (syI x.nm k = (0, { k with L := setF k.L x.nm (x.d, x.d.length) })) := by show _ = _; unfold syI; rw [if_pos hi, ← hget]
    replace hm := Lib.hid hm
    replace hput := Lib.hid hput
    replace hok := Lib.hid hok
    replace hget := Lib.hid hget
    replace s1 := Lib.hid s1
    clear hos hg1 hg hp hi hw hrep
    go_quiet (fail)
    go_wp2
    go_ret
    rw [hr.out]
    have s2 := fe_store (s1.out.drewN nq).first x.d.length
    exact ⟨rfl, _, ⟨r, o, fu, lf, A ++ { x with n := x.d.length } :: B, by rw [ents_put A x { x with n := x.d.length } B rfl rfl]; exact hm.out, ok_put hok.out (hok.out x (by simp)), by rw [List.map_append, List.map_cons]; exact hput.out _, hf, rfl⟩, s2⟩
  · have hno : isF k.L nm = false := by simpa using hi
    have hr : Hid (syI nm k = (7, k)) := by show _ = _; unfold syI; rw [if_neg hi]
    have hlk : ∀ nq, (Instr.lookup 58 (.map (some r)) (strV nm) false).run Try.prog (W.drewN nq) = .ok (.pointer none) (W.drewN nq) := fun nq => look_no hm (by exact hos.h1) (fe_none hp hk.sorted hno)
    replace s1 := Lib.hid s1
    clear hos hg1 hg hp hi hw hm hno hok hf
    go_quiet (fail)
    go_wp2
    go_ret
    rw [hr.out]
    exact ⟨rfl, _, hrep.out, (s1.out.drewN nq).first⟩
set_option maxHeartbeats 2000000 in
set_option maxRecDepth 100000 in
theorem remove_any (b : Nat) (k : Dk) (H : Heaplet) (ng nc : Nat) (nm : Nm) (n : Int) (pa : Option Addr) (pn pc : Nat) (w : World) (h : DkRep b k H) (hk : k.Ok) (hw : Own w H) (hg : RdStrs w ng [nm]) (hc : 1 ≤ nc) :
    Calls Try.prog 33 #[pt b, .agg #[.slice (some ⟨ng, 0, none⟩) 1 nc, ii n, .slice pa pn pc]] w (DkPost b (rmI nm k) H w) := by
  have hrep := Lib.hid h
  obtain ⟨r, o, fu, lf, X, hm, hok, hp, hf, rfl⟩ := h
  have s1 := (Sp.start hw).alloc (.cells #[.slice (some ⟨ng, 0, none⟩) 1 nc, ii n, .slice pa pn pc] 64)
  have hg1 := hg.later (Step.of_alloc w (.cells #[.slice (some ⟨ng, 0, none⟩) 1 nc, ii n, .slice pa pn pc] 64))
  go_enter Try.func33, Try.ntmps33
  go_upto_region 1 with fail
  generalize (w.alloc (.cells #[.slice (some ⟨ng, 0, none⟩) 1 nc, ii n, .slice pa pn pc] 64)) = W at s1 hg1 ⊢
  generalize w.heap.size = bx at s1 ⊢
  have g0 := hg1 0 nm rfl
  have hos := s1.own 0 rfl
  have ⟨c0, c1, c2, c3⟩ := cells4 hos.h0
  have ⟨d0, d1, d2⟩ := cells3 (s1.one 1 rfl)
  by_cases hi : isF k.L nm = true
  · obtain ⟨A, x, B, rfl, rfl, hget, _, hdel⟩ := fe_find hp hk.sorted hi
    have hlk : ∀ nq, (Instr.lookup 58 (.map (some r)) (strV x.nm) false).run Try.prog (W.drewN nq) = .ok (pt x.fb) (W.drewN nq) := fun nq => look_yes hm (by exact hos.h1)
    have hr : Hid (rmI x.nm k = (0, { k with L := delF k.L x.nm })) := by show _ = _; unfold rmI; rw [if_pos hi]
    replace hok := Lib.hid hok
    replace hdel := Lib.hid hdel
    replace hget := Lib.hid hget
    replace hp := Lib.hid hp
    replace s1 := Lib.hid s1
    have hmm := Lib.hid hm
    clear hos hg1 hg hi hw hrep hm
    go_quiet (fail)
    clear hlk
    go_upto_region 3 with fail
    have s2 := s1.out.drewN nq
    obtain ⟨o', hrun, hm'⟩ := run_mdelete (P := Try.prog) Try.underlying58 Try.underlying9 (A := A.map Fe.ent) (B := B.map Fe.ent) (k := strV x.nm) (v0 := pt x.fb) (by simpa [Fe.ent] using hmm.out) (by exact trivial) (s2.drew.own 0 rfl).h1 0
    refine wp_region_J 8 (fun w' => w' = (W.drewN nq).drew) (by kernel_rfl) ?_ (fun hF => ?_)
    · (try dsimp only)
      all_goals (rfl)
    refine wpAnyJ_take0 (i := 0) (oi := { dst := some 15, op := Go.Op.move (Go.Operand.tmp 0), type := 25, pos := "disk.go:140", after := #[], guard := none }) (v := ?_) rfl (by kernel_rfl) (by kernel_rfl) (by kernel_rfl) (by kernel_rfl) (fun _ _ _ h => h) (by first | exact fun _ => hF | exact fun _ => hF (by kernel_rfl)) (fun w => ?_) (by rfl) ?_
    rotate_left
    · first | (go_simp; done) | (go_simp; with_reducible rfl) | (go_split_ands; go_simp; done)
    try simp only [Act.put, List.setIfInBounds_toArray, List.set_cons_zero, List.set_cons_succ]
    refine wpAnyJ_take0 (i := 1) (oi := { dst := some 16, op := Go.Op.nilCheck (Go.Operand.tmp 15), type := 0, pos := "disk.go:140", after := #[{ on := 0, ground := Go.Ground.data }], guard := none }) (v := ?_) rfl (by kernel_rfl) (by kernel_rfl) (by kernel_rfl) (by kernel_rfl) (fun _ _ _ h => h) (by first | exact fun _ => hF | exact fun _ => hF (by kernel_rfl)) (fun w => ?_) (by rfl) ?_
    rotate_left
    · first | (go_simp; done) | (go_simp; with_reducible rfl) | (go_split_ands; go_simp; done)
    try simp only [Act.put, List.setIfInBounds_toArray, List.set_cons_zero, List.set_cons_succ]
    refine wpAnyJ_take0 (i := 2) (oi := { dst := some 17, op := Go.Op.fieldAddr 60 (Go.Operand.tmp 16) 1, type := 0, pos := "disk.go:140", after := #[{ on := 1, ground := Go.Ground.data }], guard := none }) (v := ?_) rfl (by kernel_rfl) (by kernel_rfl) (by kernel_rfl) (by kernel_rfl) (fun _ _ _ h => h) (by first | exact fun _ => hF | exact fun _ => hF (by kernel_rfl)) (fun w => ?_) (by rfl) ?_
    rotate_left
    · first | (go_simp; done) | (go_simp; with_reducible rfl) | (go_split_ands; go_simp; done)
    try simp only [Act.put, List.setIfInBounds_toArray, List.set_cons_zero, List.set_cons_succ]
    refine wpAnyJ_take (i := 3) (oi := { dst := some 18, op := Go.Op.load 58 (Go.Operand.tmp 17), type := 58, pos := "disk.go:140", after := #[{ on := 2, ground := Go.Ground.data }], guard := none }) (v := ?_) [8] rfl (by kernel_rfl) (by kernel_rfl) (by kernel_rfl) (by kernel_rfl) (by kernel_rfl) (fun _ _ _ h => h) (by first | exact hF | exact hF (by kernel_rfl)) (fun w hFw => ?_) (by rfl) ?_
    rotate_left
    · ((try dsimp only at hFw); first | (go_simp; done) | (go_simp; with_reducible rfl) | (go_split_ands; go_simp; done))
    try simp only [Act.put, List.setIfInBounds_toArray, List.set_cons_zero, List.set_cons_succ]
    refine wpAnyJ_take0 (i := 4) (oi := { dst := some 19, op := Go.Op.fieldAddr 64 (Go.Operand.tmp 3) 0, type := 0, pos := "disk.go:140", after := #[], guard := none }) (v := ?_) rfl (by kernel_rfl) (by kernel_rfl) (by kernel_rfl) (by kernel_rfl) (fun _ _ _ h => h) (by first | exact fun _ => hF | exact fun _ => hF (by kernel_rfl)) (fun w => ?_) (by rfl) ?_
    rotate_left
    · first | (go_simp; done) | (go_simp; with_reducible rfl) | (go_split_ands; go_simp; done)
    try simp only [Act.put, List.setIfInBounds_toArray, List.set_cons_zero, List.set_cons_succ]
    refine wpAnyJ_take (i := 5) (oi := { dst := some 20, op := Go.Op.load 41 (Go.Operand.tmp 19), type := 41, pos := "disk.go:140", after := #[{ on := 4, ground := Go.Ground.data }], guard := none }) (v := ?_) [6, 7, 8] rfl (by kernel_rfl) (by kernel_rfl) (by kernel_rfl) (by kernel_rfl) (by kernel_rfl) (fun _ _ _ h => h) (by first | exact hF | exact hF (by kernel_rfl)) (fun w hFw => ?_) (by rfl) ?_
    rotate_left
    · ((try dsimp only at hFw); first | (go_simp; done) | (go_simp; with_reducible rfl) | (go_split_ands; go_simp; done))
    try simp only [Act.put, List.setIfInBounds_toArray, List.set_cons_zero, List.set_cons_succ]
    refine wpAnyJ_take0 (i := 6) (oi := { dst := some 21, op := Go.Op.indexAddr 41 (Go.Operand.tmp 20) (Go.Operand.const (Go.Value.int Go.IntKind.i64 0)), type := 0, pos := "disk.go:140", after := #[{ on := 5, ground := Go.Ground.data }], guard := none }) (v := ?_) rfl (by kernel_rfl) (by kernel_rfl) (by kernel_rfl) (by kernel_rfl) (fun _ _ _ h => h) (by first | exact fun _ => hF | exact fun _ => hF (by kernel_rfl)) (fun w => ?_) (by rfl) ?_
    rotate_left
    · first | (go_simp; done) | (go_simp; with_reducible rfl) | (go_split_ands; go_simp; done)
    try simp only [Act.put, List.setIfInBounds_toArray, List.set_cons_zero, List.set_cons_succ]
    refine wpAnyJ_take (i := 7) (oi := { dst := some 22, op := Go.Op.load 9 (Go.Operand.tmp 21), type := 9, pos := "disk.go:140", after := #[{ on := 6, ground := Go.Ground.data }], guard := none }) (v := ?_) [8] rfl (by kernel_rfl) (by kernel_rfl) (by kernel_rfl) (by kernel_rfl) (by kernel_rfl) (fun _ _ _ h => h) (by first | exact hF | exact hF (by kernel_rfl)) (fun w hFw => ?_) (by rfl) ?_
    rotate_left
    · ((try dsimp only at hFw); first | (go_simp; done) | (go_simp; with_reducible rfl) | (go_split_ands; go_simp; done))
    try simp only [Act.put, List.setIfInBounds_toArray, List.set_cons_zero, List.set_cons_succ]
    refine wpAnyJ_ready (rs := [8]) (by kernel_rfl) (by simp) ?_
    refine AllJ.cons (o := { dst := none, op := Go.Op.call { callee := Go.Callee.builtin Go.Builtin.delete, args := #[Go.Operand.tmp 18, Go.Operand.tmp 22], argTypes := #[58, 9] }, type := 0, pos := "disk.go:140", after := #[{ on := 3, ground := Go.Ground.data }, { on := 7, ground := Go.Ground.data }], guard := none }) rfl (fun Kr hKr => ?_) ?_
    · refine step_mdelete rfl _ _ _ _ rfl (by rfl) (by rfl) hrun ?_
      refine hKr.out _ _ (fun hJ => ?_) (fun hF => ?_)
      · first
        | exact absurd hJ (by decide)
        | (clear hJ; (try dsimp only); all_goals (rfl))
      clear hKr
      try simp only [Act.put, List.setIfInBounds_toArray, List.set_cons_zero, List.set_cons_succ]
      refine wpAnyJ_done (by kernel_rfl) ?_ _
      go_wp2
      go_ret
      rw [hr.out]
      have s4 := Step.putObj (A := [(b, dobj k.room r fu lf)]) (r := r) (o := o) (B := (A ++ x :: B).flatMap Fe.all) o' s2.drew.first
      refine ⟨rfl, _, ⟨r, o', fu, lf, A ++ B, by rw [List.map_append]; exact hm', fun y hy => hok.out y (by
        rcases List.mem_append.1 hy with hy | hy
        · exact List.mem_append_left _ hy
        · exact List.mem_append_right _ (List.mem_cons_of_mem _ hy)), hdel.out, hf, rfl⟩, Step.forget (B := (x.fb, fobj x.a x.d.length x.c x.n) :: x.H) (s4.perm (List.Perm.of_eq (by simp)) (.cons _ (.cons _ ((all_part A x B).trans ?_))))⟩
      exact (List.perm_append_comm (l₁ := _ :: x.H))
    exact AllJ.nil
  · have hno : isF k.L nm = false := by simpa using hi
    have hr : Hid (rmI nm k = (7, k)) := by show _ = _; unfold rmI; rw [if_neg hi]
    have hlk : ∀ nq, (Instr.lookup 58 (.map (some r)) (strV nm) false).run Try.prog (W.drewN nq) = .ok (.pointer none) (W.drewN nq) := fun nq => look_no hm (by exact hos.h1) (fe_none hp hk.sorted hno)
    replace s1 := Lib.hid s1
    clear hos hg1 hg hp hi hw hm hno hok hf
    go_quiet (fail)
    go_wp2
    go_ret
    rw [hr.out]
    exact ⟨rfl, _, hrep.out, (s1.out.drewN nq).first⟩
end Go.Proofs.Ytebmbfiiadffjaa
