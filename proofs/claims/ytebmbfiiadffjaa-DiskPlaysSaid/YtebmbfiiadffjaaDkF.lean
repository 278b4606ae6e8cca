/- The program's disk: rename. -/
import Derived.Test.YtebmbfiiadffjaaDkE
namespace Go.Proofs.Ytebmbfiiadffjaa
open Go.RowKit
attribute [local go_sem ↓] Go.wp_at_zero Go.wp_at_succ

theorem del_none {M : List Fl} {nm : Nm} (h : isF M nm = false) : delF M nm = M := by
  unfold delF; rw [if_neg (by rw [h]; simp)]
theorem ok_del {A B : List Fe} {x : Fe} (h : ∀ y ∈ A ++ x :: B, y.ok) : ∀ y ∈ A ++ B, y.ok := fun y hy => h y (by
  rcases List.mem_append.1 hy with hy | hy
  · exact List.mem_append_left _ hy
  · exact List.mem_append_right _ (List.mem_cons_of_mem _ hy))
/-- What the map holds when the file has its new name. -/
theorem ren_map {o1 : Obj} {w : World} {r : Nat} {L : List Fl} {Y : List Fe} {x : Fe} {old nm : Nm} (hm : MapObj .string o1 (Y.map Fe.ent)) (hb : w.heap[r]? = some o1) (hs : SortedF L) (hp : (Y.map Fe.key).Perm (delF L old)) (hok : ∀ y ∈ Y, y.ok) (hx : x.ok) (hi : isF L old = true) (hg : (x.d, x.n) = getF L old)
    (hperm : (x.key :: Y.map Fe.key).Perm L) (hnm : x.nm = old) :
    ∃ (o2 : Obj) (X' : List Fe), (Instr.mapUpdate 58 (.map (some r)) (strV nm) (pt x.fb)).run Try.prog w = .ok () (World.putObj w r o2) ∧ MapObj .string o2 (X'.map Fe.ent) ∧ (∀ y ∈ X', y.ok) ∧
      (X'.map Fe.key).Perm (if old = nm then L else insF (delF (delF L old) nm) nm (getF L old)) ∧ ∃ J : Heaplet, (((x.fb, fobj x.a x.d.length x.c x.n) :: x.H) ++ Y.flatMap Fe.all).Perm (X'.flatMap Fe.all ++ J) := by
  have s1 := sorted_del hs old
  obtain ⟨x', hx'⟩ : ∃ x' : Fe, x' = { x with nm := nm } := ⟨_, rfl⟩
  have hall : x'.all = (x.fb, fobj x.a x.d.length x.c x.n) :: x.H := by rw [hx']; rfl
  have hkey : x'.key = (nm, getF L old) := by rw [hx', ← hg]; rfl
  have hox : x'.ok := by rw [hx']; exact hx
  have hent : x'.ent = (strV nm, pt x.fb) := by rw [hx']; rfl
  cases hi1 : isF (delF L old) nm
  · obtain ⟨o2, hrun, hm2⟩ := run_mupdate_no (P := Try.prog) Try.underlying58 Try.underlying9 hm (k := strV nm) (by exact trivial) hb (fe_none hp s1 hi1) (pt x.fb)
    refine ⟨o2, Y ++ [x'], hrun, by rw [List.map_append, List.map_singleton, hent]; exact hm2, fun y hy => ?_, ?_, [], ?_⟩
    · rcases List.mem_append.1 hy with hy | hy
      · exact hok y hy
      · rw [List.mem_singleton] at hy; subst hy; exact hox
    · rw [List.map_append, List.map_singleton, hkey]
      split
      · rename_i e
        subst e
        refine List.perm_append_comm.trans ?_
        refine List.Perm.trans ?_ hperm
        rw [List.singleton_append, ← hg]
        unfold Fe.key
        rw [hnm]
      · rw [del_none hi1]
        refine List.perm_append_comm.trans ?_
        exact (hp.cons _).trans (ins_perm _ _ _).symm
    · rw [List.append_nil, List.flatMap_append, List.flatMap_singleton, hall]
      exact List.perm_append_comm
  · obtain ⟨C, y, D, rfl, rfl, hget, hput, hdel⟩ := fe_find hp s1 hi1
    obtain ⟨o2, hrun, hm2⟩ := run_mupdate (P := Try.prog) Try.underlying58 Try.underlying9 (A := C.map Fe.ent) (B := D.map Fe.ent) (v0 := pt y.fb) (by rw [List.map_append, List.map_cons] at hm; exact hm) (k := strV y.nm) (by exact trivial) hb (pt x.fb)
    have hne : old ≠ y.nm := fun e => by
      have := del_no hs old
      rw [e] at this hi1
      rw [this] at hi1; cases hi1
    refine ⟨o2, C ++ x' :: D, hrun, by rw [List.map_append, List.map_cons, hent]; exact hm2, ok_put hok hox, ?_, (y.fb, fobj y.a y.d.length y.c y.n) :: y.H, ?_⟩
    · rw [if_neg hne, List.map_append, List.map_cons, hkey]
      refine List.perm_middle.trans ?_
      rw [← List.map_append]
      exact (hdel.cons _).trans (ins_perm _ _ _).symm
    · refine ((all_part C y D).append_left _).trans ?_
      rw [← hall]
      refine List.Perm.trans ?_ (((all_part C x' D).symm.append_right ((y.fb, fobj y.a y.d.length y.c y.n) :: y.H)))
      have e : (x'.fb, fobj x'.a x'.d.length x'.c x'.n) :: (x'.H ++ (C ++ D).flatMap Fe.all) = x'.all ++ (C ++ D).flatMap Fe.all := rfl
      rw [e, List.append_assoc]
      refine List.Perm.append_left _ ?_
      exact List.perm_append_comm (l₁ := (y.fb, fobj y.a y.d.length y.c y.n) :: y.H)
set_option maxHeartbeats 4000000 in
set_option maxRecDepth 100000 in
theorem rename_any (b : Nat) (k : Dk) (H : Heaplet) (ng nc : Nat) (old nm : Nm) (n : Int) (pa : Option Addr) (pn pc : Nat) (w : World) (h : DkRep b k H) (hk : k.Ok) (hw : Own w H) (hg : RdStrs w ng [old, nm]) (hng : ng ∉ dom H) (hc : 2 ≤ nc) :
    Calls Try.prog 34 #[pt b, .agg #[.slice (some ⟨ng, 0, none⟩) 2 nc, ii n, .slice pa pn pc]] w (DkPost b (rnI old nm k) H w) := by
  have hrep := Lib.hid h
  obtain ⟨r, o, fu, lf, X, hm, hok, hp, hf, rfl⟩ := h
  have s1 := (Sp.start hw).alloc (.cells #[.slice (some ⟨ng, 0, none⟩) 2 nc, ii n, .slice pa pn pc] 64)
  have hg1 := hg.later (Step.of_alloc w (.cells #[.slice (some ⟨ng, 0, none⟩) 2 nc, ii n, .slice pa pn pc] 64))
  go_enter Try.func34, Try.ntmps34
  go_upto_region 1 with fail
  generalize (w.alloc (.cells #[.slice (some ⟨ng, 0, none⟩) 2 nc, ii n, .slice pa pn pc] 64)) = W at s1 hg1 ⊢
  generalize w.heap.size = bx at s1 ⊢
  have g0 := hg1 0 old rfl
  have g1 := hg1 1 nm rfl
  have hos := s1.own 0 rfl
  have ⟨c0, c1, c2, c3⟩ := cells4 hos.h0
  have ⟨d0, d1, d2⟩ := cells3 (s1.one 1 rfl)
  have l2 : (2 : Int) ≤ (nc : Int) := by omega
  have hg0 : Hid (∀ W' G, Step w _ W' G → W'.cell? ⟨ng, 1, none⟩ = some (strV nm)) := fun W' G s => s.keepOut (hg 1 nm rfl) hng
  by_cases hi : isF k.L old = true
  · obtain ⟨A, x, B, rfl, rfl, hget, _, hdel⟩ := fe_find hp hk.sorted hi
    have hlk : ∀ nq, (Instr.lookup 58 (.map (some r)) (strV x.nm) false).run Try.prog (W.drewN nq) = .ok (pt x.fb) (W.drewN nq) := fun nq => look_yes hm (by exact hos.h1)
    have hr : Hid (rnI x.nm nm k = (0, { k with L := if x.nm = nm then k.L else insF (delF (delF k.L x.nm) nm) nm (getF k.L x.nm) })) := by show _ = _; unfold rnI; rw [if_pos hi]
    have hpx : Hid ((x.key :: (A ++ B).map Fe.key).Perm k.L) := by
      show List.Perm _ _
      rw [List.map_append]
      rw [List.map_append, List.map_cons] at hp
      exact List.perm_middle.symm.trans hp
    replace hok := Lib.hid hok
    replace hdel := Lib.hid hdel
    replace hget := Lib.hid hget
    replace hp := Lib.hid hp
    replace s1 := Lib.hid s1
    replace hi := Lib.hid hi
    have hmm := Lib.hid hm
    clear hos hg1 hg hw hrep hm
    go_quiet (fail)
    clear hlk
    go_upto_region 4 with fail
    have s2 := s1.out.drewN nq
    obtain ⟨o1, hrun, hm1⟩ := run_mdelete (P := Try.prog) Try.underlying58 Try.underlying9 (A := A.map Fe.ent) (B := B.map Fe.ent) (k := strV x.nm) (v0 := pt x.fb) (by simpa [Fe.ent] using hmm.out) (by exact trivial) (s2.drew.own 0 rfl).h1 0
    have s4 := s2.drew.put 0 rfl (Step.putObj (A := [(b, dobj k.room r fu lf)]) (r := r) (o := o) (B := (A ++ x :: B).flatMap Fe.all) o1 (Step.refl (s2.drew.own 0 rfl)))
    rw [← List.map_append] at hm1
    have gk := hg0.out
    clear g1
    refine wp_region_J 8 (fun w' => w' = (W.drewN nq).drew) (by kernel_rfl) ?_ (fun hF => ?_)
    · (try dsimp only)
      all_goals (rfl)
    refine wpAnyJ_take0 (i := 0) (oi := { dst := some 17, op := Go.Op.move (Go.Operand.tmp 0), type := 25, pos := "disk.go:126", after := #[], guard := none }) (v := ?_) rfl (by kernel_rfl) (by kernel_rfl) (by kernel_rfl) (by kernel_rfl) (fun _ _ _ h => h) (by first | exact fun _ => hF | exact fun _ => hF (by kernel_rfl)) (fun w => ?_) (by rfl) ?_
    rotate_left
    · first | (go_simp; done) | (go_simp; with_reducible rfl) | (go_split_ands; go_simp; done)
    try simp only [Act.put, List.setIfInBounds_toArray, List.set_cons_zero, List.set_cons_succ]
    refine wpAnyJ_take0 (i := 1) (oi := { dst := some 18, op := Go.Op.nilCheck (Go.Operand.tmp 17), type := 0, pos := "disk.go:126", after := #[{ on := 0, ground := Go.Ground.data }], guard := none }) (v := ?_) rfl (by kernel_rfl) (by kernel_rfl) (by kernel_rfl) (by kernel_rfl) (fun _ _ _ h => h) (by first | exact fun _ => hF | exact fun _ => hF (by kernel_rfl)) (fun w => ?_) (by rfl) ?_
    rotate_left
    · first | (go_simp; done) | (go_simp; with_reducible rfl) | (go_split_ands; go_simp; done)
    try simp only [Act.put, List.setIfInBounds_toArray, List.set_cons_zero, List.set_cons_succ]
    refine wpAnyJ_take0 (i := 2) (oi := { dst := some 19, op := Go.Op.fieldAddr 60 (Go.Operand.tmp 18) 1, type := 0, pos := "disk.go:126", after := #[{ on := 1, ground := Go.Ground.data }], guard := none }) (v := ?_) rfl (by kernel_rfl) (by kernel_rfl) (by kernel_rfl) (by kernel_rfl) (fun _ _ _ h => h) (by first | exact fun _ => hF | exact fun _ => hF (by kernel_rfl)) (fun w => ?_) (by rfl) ?_
    rotate_left
    · first | (go_simp; done) | (go_simp; with_reducible rfl) | (go_split_ands; go_simp; done)
    try simp only [Act.put, List.setIfInBounds_toArray, List.set_cons_zero, List.set_cons_succ]
    refine wpAnyJ_take (i := 3) (oi := { dst := some 20, op := Go.Op.load 58 (Go.Operand.tmp 19), type := 58, pos := "disk.go:126", after := #[{ on := 2, ground := Go.Ground.data }], guard := none }) (v := ?_) [8] rfl (by kernel_rfl) (by kernel_rfl) (by kernel_rfl) (by kernel_rfl) (by kernel_rfl) (fun _ _ _ h => h) (by first | exact hF | exact hF (by kernel_rfl)) (fun w hFw => ?_) (by rfl) ?_
    rotate_left
    · ((try dsimp only at hFw); first | (go_simp; done) | (go_simp; with_reducible rfl) | (go_split_ands; go_simp; done))
    try simp only [Act.put, List.setIfInBounds_toArray, List.set_cons_zero, List.set_cons_succ]
    refine wpAnyJ_take0 (i := 4) (oi := { dst := some 21, op := Go.Op.fieldAddr 64 (Go.Operand.tmp 3) 0, type := 0, pos := "disk.go:126", after := #[], guard := none }) (v := ?_) rfl (by kernel_rfl) (by kernel_rfl) (by kernel_rfl) (by kernel_rfl) (fun _ _ _ h => h) (by first | exact fun _ => hF | exact fun _ => hF (by kernel_rfl)) (fun w => ?_) (by rfl) ?_
    rotate_left
    · first | (go_simp; done) | (go_simp; with_reducible rfl) | (go_split_ands; go_simp; done)
    try simp only [Act.put, List.setIfInBounds_toArray, List.set_cons_zero, List.set_cons_succ]
    refine wpAnyJ_take (i := 5) (oi := { dst := some 22, op := Go.Op.load 41 (Go.Operand.tmp 21), type := 41, pos := "disk.go:126", after := #[{ on := 4, ground := Go.Ground.data }], guard := none }) (v := ?_) [6, 7, 8] rfl (by kernel_rfl) (by kernel_rfl) (by kernel_rfl) (by kernel_rfl) (by kernel_rfl) (fun _ _ _ h => h) (by first | exact hF | exact hF (by kernel_rfl)) (fun w hFw => ?_) (by rfl) ?_
    rotate_left
    · ((try dsimp only at hFw); first | (go_simp; done) | (go_simp; with_reducible rfl) | (go_split_ands; go_simp; done))
    try simp only [Act.put, List.setIfInBounds_toArray, List.set_cons_zero, List.set_cons_succ]
    refine wpAnyJ_take0 (i := 6) (oi := { dst := some 23, op := Go.Op.indexAddr 41 (Go.Operand.tmp 22) (Go.Operand.const (Go.Value.int Go.IntKind.i64 0)), type := 0, pos := "disk.go:126", after := #[{ on := 5, ground := Go.Ground.data }], guard := none }) (v := ?_) rfl (by kernel_rfl) (by kernel_rfl) (by kernel_rfl) (by kernel_rfl) (fun _ _ _ h => h) (by first | exact fun _ => hF | exact fun _ => hF (by kernel_rfl)) (fun w => ?_) (by rfl) ?_
    rotate_left
    · first | (go_simp; done) | (go_simp; with_reducible rfl) | (go_split_ands; go_simp; done)
    try simp only [Act.put, List.setIfInBounds_toArray, List.set_cons_zero, List.set_cons_succ]
    refine wpAnyJ_take (i := 7) (oi := { dst := some 24, op := Go.Op.load 9 (Go.Operand.tmp 23), type := 9, pos := "disk.go:126", after := #[{ on := 6, ground := Go.Ground.data }], guard := none }) (v := ?_) [8] rfl (by kernel_rfl) (by kernel_rfl) (by kernel_rfl) (by kernel_rfl) (by kernel_rfl) (fun _ _ _ h => h) (by first | exact hF | exact hF (by kernel_rfl)) (fun w hFw => ?_) (by rfl) ?_
    rotate_left
    · ((try dsimp only at hFw); first | (go_simp; done) | (go_simp; with_reducible rfl) | (go_split_ands; go_simp; done))
    try simp only [Act.put, List.setIfInBounds_toArray, List.set_cons_zero, List.set_cons_succ]
    refine wpAnyJ_ready (rs := [8]) (by kernel_rfl) (by simp) ?_
    refine AllJ.cons (o := { dst := none, op := Go.Op.call { callee := Go.Callee.builtin Go.Builtin.delete, args := #[Go.Operand.tmp 20, Go.Operand.tmp 24], argTypes := #[58, 9] }, type := 0, pos := "disk.go:126", after := #[{ on := 3, ground := Go.Ground.data }, { on := 7, ground := Go.Ground.data }], guard := none }) rfl (fun Kr hKr => ?_) ?_
    · refine step_mdelete rfl _ _ _ _ rfl (by rfl) (by rfl) hrun ?_
      refine hKr.out _ _ (fun hJ => ?_) (fun hF => ?_)
      · first
        | exact absurd hJ (by decide)
        | (clear hJ; (try dsimp only); all_goals (rfl))
      clear hKr
      try simp only [Act.put, List.setIfInBounds_toArray, List.set_cons_zero, List.set_cons_succ]
      refine wpAnyJ_done (by kernel_rfl) ?_ _
      go_upto_region 5 with fail
      refine Sp.gen s4 ?_
      clear s4 s2 s1 c0 c1 c2 c3 d0 d1 d2 g0
      intro W4 s4
      simp only [List.cons_append, List.nil_append, List.set_cons_zero] at s4
      have g1 := gk _ _ s4
      clear gk hg0
      have hos := s4.own 0 rfl
      have ⟨c0, c1, c2, c3⟩ := cells4 hos.h0
      have ⟨d0, d1, d2⟩ := cells3 (s4.one 1 rfl)
      obtain ⟨o2, X', hrun2, hm2, hok2, hp2, J, hJ⟩ := ren_map (w := W4.drew) (r := r) hm1 hos.h1 hk.sorted hdel.out (ok_del hok.out) (hok.out x (by simp)) hi.out hget.out hpx.out rfl
      have s5 := s4.drew.put 0 rfl (Step.putObj (A := [(b, dobj k.room r fu lf)]) (r := r) (o := o1) (B := (A ++ x :: B).flatMap Fe.all) o2 (Step.refl (s4.drew.own 0 rfl)))
      replace hp2 := Lib.hid hp2
      replace hm2 := Lib.hid hm2
      replace hok2 := Lib.hid hok2
      replace hJ := Lib.hid hJ
      replace s5 := Lib.hid s5
      refine wp_region_J 9 (fun w' => w' = W4.drew) (by kernel_rfl) ?_ (fun hF => ?_)
      · (try dsimp only)
        all_goals (rfl)
      refine wpAnyJ_take0 (i := 0) (oi := { dst := some 25, op := Go.Op.move (Go.Operand.tmp 0), type := 25, pos := "disk.go:127", after := #[], guard := none }) (v := ?_) rfl (by kernel_rfl) (by kernel_rfl) (by kernel_rfl) (by kernel_rfl) (fun _ _ _ h => h) (by first | exact fun _ => hF | exact fun _ => hF (by kernel_rfl)) (fun w => ?_) (by rfl) ?_
      rotate_left
      · first | (go_simp; done) | (go_simp; with_reducible rfl) | (go_split_ands; go_simp; done)
      try simp only [Act.put, List.setIfInBounds_toArray, List.set_cons_zero, List.set_cons_succ]
      refine wpAnyJ_take0 (i := 1) (oi := { dst := some 26, op := Go.Op.nilCheck (Go.Operand.tmp 25), type := 0, pos := "disk.go:127", after := #[{ on := 0, ground := Go.Ground.data }], guard := none }) (v := ?_) rfl (by kernel_rfl) (by kernel_rfl) (by kernel_rfl) (by kernel_rfl) (fun _ _ _ h => h) (by first | exact fun _ => hF | exact fun _ => hF (by kernel_rfl)) (fun w => ?_) (by rfl) ?_
      rotate_left
      · first | (go_simp; done) | (go_simp; with_reducible rfl) | (go_split_ands; go_simp; done)
      try simp only [Act.put, List.setIfInBounds_toArray, List.set_cons_zero, List.set_cons_succ]
      refine wpAnyJ_take0 (i := 2) (oi := { dst := some 27, op := Go.Op.fieldAddr 60 (Go.Operand.tmp 26) 1, type := 0, pos := "disk.go:127", after := #[{ on := 1, ground := Go.Ground.data }], guard := none }) (v := ?_) rfl (by kernel_rfl) (by kernel_rfl) (by kernel_rfl) (by kernel_rfl) (fun _ _ _ h => h) (by first | exact fun _ => hF | exact fun _ => hF (by kernel_rfl)) (fun w => ?_) (by rfl) ?_
      rotate_left
      · first | (go_simp; done) | (go_simp; with_reducible rfl) | (go_split_ands; go_simp; done)
      try simp only [Act.put, List.setIfInBounds_toArray, List.set_cons_zero, List.set_cons_succ]
      refine wpAnyJ_take (i := 3) (oi := { dst := some 28, op := Go.Op.load 58 (Go.Operand.tmp 27), type := 58, pos := "disk.go:127", after := #[{ on := 2, ground := Go.Ground.data }], guard := none }) (v := ?_) [9] rfl (by kernel_rfl) (by kernel_rfl) (by kernel_rfl) (by kernel_rfl) (by kernel_rfl) (fun _ _ _ h => h) (by first | exact hF | exact hF (by kernel_rfl)) (fun w hFw => ?_) (by rfl) ?_
      rotate_left
      · ((try dsimp only at hFw); first | (go_simp; done) | (go_simp; with_reducible rfl) | (go_split_ands; go_simp; done))
      try simp only [Act.put, List.setIfInBounds_toArray, List.set_cons_zero, List.set_cons_succ]
      refine wpAnyJ_take0 (i := 4) (oi := { dst := some 29, op := Go.Op.fieldAddr 64 (Go.Operand.tmp 3) 0, type := 0, pos := "disk.go:127", after := #[], guard := none }) (v := ?_) rfl (by kernel_rfl) (by kernel_rfl) (by kernel_rfl) (by kernel_rfl) (fun _ _ _ h => h) (by first | exact fun _ => hF | exact fun _ => hF (by kernel_rfl)) (fun w => ?_) (by rfl) ?_
      rotate_left
      · first | (go_simp; done) | (go_simp; with_reducible rfl) | (go_split_ands; go_simp; done)
      try simp only [Act.put, List.setIfInBounds_toArray, List.set_cons_zero, List.set_cons_succ]
      refine wpAnyJ_take (i := 5) (oi := { dst := some 30, op := Go.Op.load 41 (Go.Operand.tmp 29), type := 41, pos := "disk.go:127", after := #[{ on := 4, ground := Go.Ground.data }], guard := none }) (v := ?_) [9] rfl (by kernel_rfl) (by kernel_rfl) (by kernel_rfl) (by kernel_rfl) (by kernel_rfl) (fun _ _ _ h => h) (by first | exact hF | exact hF (by kernel_rfl)) (fun w hFw => ?_) (by rfl) ?_
      rotate_left
      · ((try dsimp only at hFw); first | (go_simp; done) | (go_simp; with_reducible rfl) | (go_split_ands; go_simp; done))
      try simp only [Act.put, List.setIfInBounds_toArray, List.set_cons_zero, List.set_cons_succ]
      refine wpAnyJ_take0 (i := 6) (oi := { dst := some 31, op := Go.Op.indexAddr 41 (Go.Operand.tmp 30) (Go.Operand.const (Go.Value.int Go.IntKind.i64 1)), type := 0, pos := "disk.go:127", after := #[{ on := 5, ground := Go.Ground.data }], guard := none }) (v := ?_) rfl (by kernel_rfl) (by kernel_rfl) (by kernel_rfl) (by kernel_rfl) (fun _ _ _ h => h) (by first | exact fun _ => hF | exact fun _ => hF (by kernel_rfl)) (fun w => ?_) (by rfl) ?_
      rotate_left
      · first | (go_simp; done) | (go_simp; with_reducible rfl) | (go_split_ands; go_simp; done)
      try simp only [Act.put, List.setIfInBounds_toArray, List.set_cons_zero, List.set_cons_succ]
      refine wpAnyJ_take (i := 7) (oi := { dst := some 32, op := Go.Op.load 9 (Go.Operand.tmp 31), type := 9, pos := "disk.go:127", after := #[{ on := 6, ground := Go.Ground.data }], guard := none }) (v := ?_) [9] rfl (by kernel_rfl) (by kernel_rfl) (by kernel_rfl) (by kernel_rfl) (by kernel_rfl) (fun _ _ _ h => h) (by first | exact hF | exact hF (by kernel_rfl)) (fun w hFw => ?_) (by rfl) ?_
      rotate_left
      · ((try dsimp only at hFw); first | (go_simp; done) | (go_simp; with_reducible rfl) | (go_split_ands; go_simp; done))
      try simp only [Act.put, List.setIfInBounds_toArray, List.set_cons_zero, List.set_cons_succ]
      refine wpAnyJ_take0 (i := 8) (oi := { dst := some 33, op := Go.Op.move (Go.Operand.tmp 5), type := 65, pos := "disk.go:127", after := #[], guard := none }) (v := ?_) rfl (by kernel_rfl) (by kernel_rfl) (by kernel_rfl) (by kernel_rfl) (fun _ _ _ h => h) (by first | exact fun _ => hF | exact fun _ => hF (by kernel_rfl)) (fun w => ?_) (by rfl) ?_
      rotate_left
      · first | (go_simp; done) | (go_simp; with_reducible rfl) | (go_split_ands; go_simp; done)
      try simp only [Act.put, List.setIfInBounds_toArray, List.set_cons_zero, List.set_cons_succ]
      refine wpAnyJ_ready (rs := [9]) (by kernel_rfl) (by simp) ?_
      refine AllJ.cons (o := { dst := none, op := Go.Op.mapUpdate 58 (Go.Operand.tmp 28) (Go.Operand.tmp 32) (Go.Operand.tmp 33), type := 0, pos := "disk.go:127", after := #[{ on := 3, ground := Go.Ground.data }, { on := 7, ground := Go.Ground.data }, { on := 8, ground := Go.Ground.data }, { on := 0, ground := Go.Ground.phase }, { on := 1, ground := Go.Ground.phase }, { on := 2, ground := Go.Ground.phase }, { on := 3, ground := Go.Ground.phase }, { on := 4, ground := Go.Ground.phase }, { on := 5, ground := Go.Ground.phase }, { on := 6, ground := Go.Ground.phase }, { on := 7, ground := Go.Ground.phase }, { on := 8, ground := Go.Ground.phase }], guard := none }) rfl (fun Kr hKr => ?_) ?_
      · refine step_mupdate rfl _ _ _ _ rfl (by rfl) (by rfl) (by rfl) hrun2 ?_
        refine hKr.out _ _ (fun hJ => ?_) (fun hF => ?_)
        · first
          | exact absurd hJ (by decide)
          | (clear hJ; (try dsimp only); all_goals (rfl))
        clear hKr
        try simp only [Act.put, List.setIfInBounds_toArray, List.set_cons_zero, List.set_cons_succ]
        refine wpAnyJ_done (by kernel_rfl) ?_ _
        go_wp2
        go_ret
        rw [hr.out]
        refine ⟨rfl, _, ⟨r, o2, fu, lf, X', hm2.out, hok2.out, hp2.out, hf, rfl⟩, ?_⟩
        refine Step.forget (B := J) (s5.out.first.perm (List.Perm.of_eq (by simp)) (.cons _ (.cons _ ?_)))
        exact (all_part A x B).trans hJ.out
      exact AllJ.nil
    exact AllJ.nil
  · have hno : isF k.L old = false := by simpa using hi
    have hr : Hid (rnI old nm k = (7, k)) := by show _ = _; unfold rnI; rw [if_neg hi]
    have hlk : ∀ nq, (Instr.lookup 58 (.map (some r)) (strV old) false).run Try.prog (W.drewN nq) = .ok (.pointer none) (W.drewN nq) := fun nq => look_no hm (by exact hos.h1) (fe_none hp hk.sorted hno)
    replace s1 := Lib.hid s1
    clear hos hg1 hg hp hi hw hm hno hok hf
    go_quiet (fail)
    go_wp2
    go_ret
    rw [hr.out]
    exact ⟨rfl, _, hrep.out, (s1.out.drewN nq).first⟩
end Go.Proofs.Ytebmbfiiadffjaa
