/- The program's disk: Used. The program's disk: files found by name; write. The program's disk: sync, cut, remove. The program's disk: cut. The program's disk: rename. -/
import Derived.Test.YtdolbeonpkanpaaGreatDoorMDkA
import Derived.Test.YtdolbeonpkanpaaGreatDoorMapR
set_option linter.unusedVariables false
set_option linter.unusedSimpArgs false
namespace Go.Proofs.YtdolbeonpkanpaaGreatDoor
open Go.RowKit
attribute [local go_sem ↓] Go.wp_at_zero Go.wp_at_succ

theorem fe_has {X : List Fe} {x : Fe} (hx : x ∈ X) {W : World} (h : Own W (X.flatMap Fe.all)) : W.heap[x.fb]? = some (fobj x.a x.d.length x.c x.n) :=
  h.has (x.fb, fobj x.a x.d.length x.c x.n) (List.mem_flatMap.2 ⟨x, hx, List.mem_cons_self ..⟩)
theorem fe_used {X : List Fe} {L : List Fl} (hp : (X.map Fe.key).Perm L) {x : Fe} (hx : x ∈ X) : x.d.length ≤ usedF L := by
  have : Fe.key x ∈ L := hp.mem_iff.1 (List.mem_map.2 ⟨x, hx, rfl⟩)
  obtain ⟨A, B, rfl⟩ := List.append_of_mem this
  rw [used_app, used_cons]
  simp only [Fe.key]; omega
def UsedRel (k : Dk) (X : List Fe) (o : Obj) (r it : Nat) (H : Heaplet) (w : World) (v : Value) (wr : World) : Prop :=
  ∃ (Lf : List Fe) (oi : Obj) (n : Nat), v = iv n ∧ IterSt o oi r (Lf.map Fe.ent) ∧ n + usedF (Lf.map Fe.key) = usedF k.L ∧ (∀ x ∈ Lf, x ∈ X) ∧ Sp w H wr [H, [(it, oi)]]
set_option maxHeartbeats 2000000 in
set_option maxRecDepth 100000 in
theorem used_any (b : Nat) (k : Dk) (H : Heaplet) (w : World) (h : DkRep b k H) (hw : Own w H) (hu : usedF k.L ≤ 1073741824) :
    Calls Tryz.prog 98 #[pt b] w fun e w' => e = .returned (iv (usedF k.L)) ∧ Step w H w' H := by
  obtain ⟨r, o, fu, lf, X, hm, hok, hp, hf, rfl⟩ := h
  have ⟨c0, c1, c2, c3⟩ := cells4 hw.h0
  obtain ⟨oi, hit, hrun⟩ := iter_new hm r (P := Tryz.prog) Tryz.underlying78 hw.h1
  have s0 := (Sp.start hw).alloc oi
  have hin : Hid (UsedRel k X o r w.heap.size _ w (iv 0) (w.alloc oi)) := ⟨X, oi, 0, rfl, hit, by rw [Nat.zero_add]; exact used_perm hp, fun _ h => h, s0⟩
  have hrw : Hid (r < w.heap.size) := heap_lt hw.h1
  have hu' : (usedF k.L : Int) ≤ 1073741824 := by omega
  replace hm := Lib.hid hm
  replace hp := Lib.hid hp
  clear hok hf hit s0
  go_enter Tryz.func98, Tryz.ntmps98
  go_wp2_with (at_range; refine wpList_mrange rfl _ _ rfl (by rfl) hrun ?_)
  clear hrun
  go_frame
  generalize hHH : ((b, dobj k.room r fu lf) :: (r, o) :: X.flatMap Fe.all) = HH at hin
  replace hHH := Lib.hid hHH
  go_loopw [3] (fun v wr => UsedRel k X o r w.heap.size HH w v wr) (fun _ wr => iterLeft wr w.heap.size r)
  case atStart => exact hin.out
  case round =>
    clear hin c0 c1 c2 c3
    obtain ⟨Lf, oi, n, rfl, hit, hn, hX, hs⟩ := hrel
    have hoi := hs.one 1 rfl
    have hos := hs.own 0 rfl
    rw [← hHH.out] at hos
    have hml := Lib.hid (hit.left hoi hos.h1)
    rcases iter_step hm.out hit (P := Tryz.prog) hoi hos.h1 (by have := hrw.out; omega) with ⟨rfl, hnext⟩ | ⟨A, x, B, oi', w1, rfl, hw1, hnext, hit', hent⟩
    · have hn' : Hid (n = usedF k.L) := (by simpa [usedF] using hn : n = usedF k.L)
      clear hn hit hoi hos hX hml
      replace hs := Lib.hid hs
      go_wp2_with (at_next; refine wpList_mnext rfl _ rfl (by rfl) (hnext _) ?_)
      go_ret
      rw [hn'.out]
      refine ⟨rfl, ?_⟩
      have := (hs.out.forget 1 rfl).out (G := HH) (by simp)
      rw [← hHH.out] at this
      exact this
    · have hs1 : Sp w HH w1 [HH, [(w.heap.size, oi)]] := by
        rcases hw1 with rfl | rfl
        · exact hs
        · exact hs.drew
      have hs2 := Lib.hid (hs1.map 1 oi' rfl)
      have hos2 := hs2.out.own 0 rfl
      rw [← hHH.out] at hos2
      have he := hent _ (hs2.out.one 1 rfl) hos2.h1
      have hml2 := Lib.hid (hit'.left (hs2.out.one 1 rfl) hos2.h1)
      have ⟨d0, d1⟩ := cells2 (fe_has (hX x (by simp)) hos2.tail.tail)
      have hb : n + x.d.length ≤ usedF k.L := by
        rw [List.map_append, List.map_cons, used_app, used_cons] at hn
        simp only [Fe.key] at hn; omega
      have hnn := Lib.hid hn
      have hXX := Lib.hid hX
      have hb' : (n : Int) + (x.d.length : Int) ≤ 1073741824 := by omega
      replace hit' := Lib.hid hit'
      clear hs hs1 hn hX hit hoi hos hw1 hent hos2
      simp only [Fe.ent] at he hnext
      generalize World.putObj w1 w.heap.size oi' = W at hs2 he hml2 d0 d1 hnext
      go_wp2_with (at_next; refine wpList_mnext rfl _ rfl (by rfl) (hnext _) ?_)
      refine ⟨⟨A ++ B, oi', n + x.d.length, by go_num, hit'.out, ?_, fun y hy => hXX.out y ?_, hs2.out⟩, ?_⟩
      · have := hnn.out
        rw [List.map_append, List.map_cons, used_app, used_cons] at this
        rw [List.map_append, used_app]
        simp only [Fe.key] at this ⊢
        omega
      · rcases List.mem_append.1 hy with hy | hy
        · exact List.mem_append_left _ hy
        · exact List.mem_append_right _ (List.mem_cons_of_mem _ hy)
      · rw [hml2.out, hml.out]
        simp
end Go.Proofs.YtdolbeonpkanpaaGreatDoor
namespace Go.Proofs.YtdolbeonpkanpaaGreatDoor
open Go.RowKit
attribute [local go_sem ↓] Go.wp_at_zero Go.wp_at_succ

theorem exec_mlen {P : Program} {w : World} {o : Oper} {ev : Operand → Value} (m : Operand) (t : TypeId) (hop : o.op = Op.call { callee := Callee.builtin Builtin.len, args := #[m], argTypes := #[t] }) {mv v : Value} (hm : ev m = mv)
    (hrun : (Builtin.len_ #[t] o.type #[mv]).run P w = .ok v w) : (execOp ev o).run P w = .ok (.value v) w := by
  simp [execOp, hop, resolve, invoke, builtin, hm, hrun, Result.andThen]
theorem zero_file (w : World) : (zeroValue 102).run Tryz.prog w = .ok (.pointer none) w := by kernel_rfl
theorem perm_cancel {A B : List Fe} {x : Fe} {L l1 l2 : List Fl} (hp : ((A ++ x :: B).map Fe.key).Perm L) (hL : L = l1 ++ x.key :: l2) : ((A ++ B).map Fe.key).Perm (l1 ++ l2) := by
  rw [List.map_append, List.map_cons, hL] at hp
  have h1 := (List.perm_middle.symm.trans hp).trans List.perm_middle
  rw [List.map_append]
  exact h1.cons_inv
theorem perm_put {A B : List Fe} {l1 l2 : List Fl} (h : ((A ++ B).map Fe.key).Perm (l1 ++ l2)) (v : Fl) : (A.map Fe.key ++ v :: B.map Fe.key).Perm (l1 ++ v :: l2) := by
  rw [List.map_append] at h
  exact List.perm_middle.trans ((h.cons v).trans List.perm_middle.symm)
theorem fe_find {X : List Fe} {L : List Fl} {nm : Nm} (hp : (X.map Fe.key).Perm L) (hs : SortedF L) (h : isF L nm = true) :
    ∃ A x B, X = A ++ x :: B ∧ x.nm = nm ∧ (x.d, x.n) = getF L nm ∧ (∀ v, (A.map Fe.key ++ (nm, v) :: B.map Fe.key).Perm (setF L nm v)) ∧ ((A ++ B).map Fe.key).Perm (delF L nm) := by
  have hm := hp.mem_iff.2 (isF_mem h)
  obtain ⟨x, hx, e⟩ := List.mem_map.1 hm
  obtain ⟨A, B, rfl⟩ := List.append_of_mem hx
  obtain ⟨h1, h2, h3⟩ := partF h
  have hc := perm_cancel hp (by rw [e]; exact h1)
  have e1 : x.nm = nm := congrArg Prod.fst e
  have e2 : (x.d, x.n) = getF L nm := congrArg Prod.snd e
  exact ⟨A, x, B, rfl, e1, e2, fun v => by rw [h2]; exact perm_put hc _, by rw [h3]; exact hc⟩
theorem fe_none {X : List Fe} {L : List Fl} {nm : Nm} (hp : (X.map Fe.key).Perm L) (hs : SortedF L) (h : isF L nm = false) : ∀ p ∈ X.map Fe.ent, p.1 ≠ strV nm := by
  intro p hpm e
  obtain ⟨x, hx, rfl⟩ := List.mem_map.1 hpm
  exact isF_no hs h _ (hp.mem_iff.1 (List.mem_map.2 ⟨x, hx, rfl⟩)) (str_inj e)
/-- The heaplet parted at a file. -/
theorem all_part (A : List Fe) (x : Fe) (B : List Fe) : ((A ++ x :: B).flatMap Fe.all).Perm ((x.fb, fobj x.a x.d.length x.c x.n) :: (x.H ++ (A ++ B).flatMap Fe.all)) := by
  rw [List.flatMap_append, List.flatMap_cons, List.flatMap_append]
  refine (List.perm_append_comm_assoc _ _ _).trans ?_
  exact List.Perm.refl _
/-- The lookup of a name. -/
theorem look_yes {r : Nat} {o : Obj} {A B : List Fe} {x : Fe} {w : World} (hm : MapObj .string o ((A ++ x :: B).map Fe.ent)) (hb : w.heap[r]? = some o) : (Instr.lookup 78 (.map (some r)) (strV x.nm) false).run Tryz.prog w = .ok (pt x.fb) w := by
  have := run_mlookup (P := Tryz.prog) Tryz.underlying78 Tryz.underlying9 hm (k := strV x.nm) (by exact trivial) hb (v := pt x.fb) (by rw [List.map_append, List.map_cons]; exact List.mem_append_right _ (List.mem_cons_self ..)) false
  simpa using this
theorem look_no {r : Nat} {o : Obj} {D : List (Value × Value)} {nm : Nm} {w : World} (hm : MapObj .string o D) (hb : w.heap[r]? = some o) (hno : ∀ p ∈ D, p.1 ≠ strV nm) : (Instr.lookup 78 (.map (some r)) (strV nm) false).run Tryz.prog w = .ok (.pointer none) w := by
  have := run_mlookup_no (P := Tryz.prog) Tryz.underlying78 Tryz.underlying9 hm (k := strV nm) (by exact trivial) hb (zero_file w) hno false
  simpa using this
end Go.Proofs.YtdolbeonpkanpaaGreatDoor
namespace Go.Proofs.YtdolbeonpkanpaaGreatDoor
open Go.RowKit
attribute [local go_sem ↓] Go.wp_at_zero Go.wp_at_succ

theorem fe_part (e0 e1 : Nat × Obj) (A : List Fe) (x : Fe) (B : List Fe) : e0 :: e1 :: (A ++ x :: B).flatMap Fe.all = (e0 :: e1 :: A.flatMap Fe.all) ++ (x.fb, fobj x.a x.d.length x.c x.n) :: (x.H ++ B.flatMap Fe.all) := by
  simp [Fe.all]
theorem fe_store {w W : World} {K : Heaplet} {e0 e1 : Nat × Obj} {A B : List Fe} {x : Fe} (s : Step w K W (e0 :: e1 :: (A ++ x :: B).flatMap Fe.all)) (n : Nat) :
    Step w K (W.setCell ⟨x.fb, 1, none⟩ (iv n)) (e0 :: e1 :: (A ++ { x with n := n } :: B).flatMap Fe.all) := by
  rw [fe_part] at s ⊢
  exact Step.store (iv n) s
theorem fe_store0 {w W : World} {K : Heaplet} {e0 e1 : Nat × Obj} {A B : List Fe} {x : Fe} (s : Step w K W (e0 :: e1 :: (A ++ x :: B).flatMap Fe.all)) (a : Option Addr) (d : List UInt8) (c l : Nat) (hl : d.length = l) :
    Step w K (W.setCell ⟨x.fb, 0, none⟩ (.slice a l c)) (e0 :: e1 :: (A ++ { x with a := a, d := d, c := c } :: B).flatMap Fe.all) := by
  subst hl
  rw [fe_part] at s ⊢
  exact Step.store (.slice a d.length c) s
theorem ents_put (A : List Fe) (x x' : Fe) (B : List Fe) (h1 : x'.nm = x.nm) (h2 : x'.fb = x.fb) : (A ++ x' :: B).map Fe.ent = (A ++ x :: B).map Fe.ent := by
  simp [Fe.ent, h1, h2]
theorem ok_put {A B : List Fe} {x x' : Fe} (h : ∀ y ∈ A ++ x :: B, y.ok) (h' : x'.ok) : ∀ y ∈ A ++ x' :: B, y.ok := by
  intro y hy
  rcases List.mem_append.1 hy with hy | hy
  · exact h y (List.mem_append_left _ hy)
  · rcases List.mem_cons.1 hy with rfl | hy
    · exact h'
    · exact h y (List.mem_append_right _ (List.mem_cons_of_mem _ hy))
set_option maxHeartbeats 2000000 in
set_option maxRecDepth 100000 in
theorem sync_any (b : Nat) (k : Dk) (H : Heaplet) (ng nc : Nat) (nm : Nm) (n : Int) (pa : Option Addr) (pn pc : Nat) (w : World) (h : DkRep b k H) (hk : k.Ok) (hw : Own w H) (hg : RdStrs w ng [nm]) (hc : 1 ≤ nc) :
    Calls Tryz.prog 84 #[pt b, .agg #[.slice (some ⟨ng, 0, none⟩) 1 nc, ii n, .slice pa pn pc]] w (DkPost b (syI nm k) H w) := by
  have hrep := Lib.hid h
  obtain ⟨r, o, fu, lf, X, hm, hok, hp, hf, rfl⟩ := h
  have s1 := (Sp.start hw).alloc (.cells #[.slice (some ⟨ng, 0, none⟩) 1 nc, ii n, .slice pa pn pc] 125)
  have hg1 := hg.later (Step.of_alloc w (.cells #[.slice (some ⟨ng, 0, none⟩) 1 nc, ii n, .slice pa pn pc] 125))
  go_enter Tryz.func84, Tryz.ntmps84
  go_upto_region 1 with fail
  generalize (w.alloc (.cells #[.slice (some ⟨ng, 0, none⟩) 1 nc, ii n, .slice pa pn pc] 125)) = W at s1 hg1 ⊢
  generalize w.heap.size = bx at s1 ⊢
  have g0 := hg1 0 nm rfl
  have hos := s1.own 0 rfl
  have ⟨c0, c1, c2, c3⟩ := cells4 hos.h0
  have ⟨d0, d1, d2⟩ := cells3 (s1.one 1 rfl)
  by_cases hi : isF k.L nm = true
  · obtain ⟨A, x, B, rfl, rfl, hget, hput, _⟩ := fe_find hp hk.sorted hi
    have hlk : ∀ nq, (Instr.lookup 78 (.map (some r)) (strV x.nm) false).run Tryz.prog (W.drewN nq) = .ok (pt x.fb) (W.drewN nq) := fun nq => look_yes hm (by exact hos.h1)
    have ⟨e0, e1⟩ := cells2 (fe_has (x := x) (by simp) hos.tail.tail)
    have fz := fun i => frz_of (i := i) (fe_has (x := x) (by simp) hos.tail.tail)
    have hr : Hid (syI x.nm k = (0, { k with L := setF k.L x.nm (x.d, x.d.length) })) := by show _ = _; unfold syI; rw [if_pos hi, ← hget]
    replace hm := Lib.hid hm
    replace hput := Lib.hid hput
    replace hok := Lib.hid hok
    replace hget := Lib.hid hget
    replace s1 := Lib.hid s1
    clear hos hg1 hg hp hi hw hrep
    go_quiet (fail)
    go_wp2
    go_ret
    rw [hr.out]
    have s2 := fe_store (s1.out.drewN nq).first x.d.length
    exact ⟨rfl, _, ⟨r, o, fu, lf, A ++ { x with n := x.d.length } :: B, by rw [ents_put A x { x with n := x.d.length } B rfl rfl]; exact hm.out, ok_put hok.out (hok.out x (by simp)), by rw [List.map_append, List.map_cons]; exact hput.out _, hf, rfl⟩, s2⟩
  · have hno : isF k.L nm = false := by simpa using hi
    have hr : Hid (syI nm k = (7, k)) := by show _ = _; unfold syI; rw [if_neg hi]
    have hlk : ∀ nq, (Instr.lookup 78 (.map (some r)) (strV nm) false).run Tryz.prog (W.drewN nq) = .ok (.pointer none) (W.drewN nq) := fun nq => look_no hm (by exact hos.h1) (fe_none hp hk.sorted hno)
    replace s1 := Lib.hid s1
    clear hos hg1 hg hp hi hw hm hno hok hf
    go_quiet (fail)
    go_wp2
    go_ret
    rw [hr.out]
    exact ⟨rfl, _, hrep.out, (s1.out.drewN nq).first⟩
set_option maxHeartbeats 2000000 in
set_option maxRecDepth 100000 in
theorem remove_any (b : Nat) (k : Dk) (H : Heaplet) (ng nc : Nat) (nm : Nm) (n : Int) (pa : Option Addr) (pn pc : Nat) (w : World) (h : DkRep b k H) (hk : k.Ok) (hw : Own w H) (hg : RdStrs w ng [nm]) (hc : 1 ≤ nc) :
    Calls Tryz.prog 116 #[pt b, .agg #[.slice (some ⟨ng, 0, none⟩) 1 nc, ii n, .slice pa pn pc]] w (DkPost b (rmI nm k) H w) := by
  have hrep := Lib.hid h
  obtain ⟨r, o, fu, lf, X, hm, hok, hp, hf, rfl⟩ := h
  have s1 := (Sp.start hw).alloc (.cells #[.slice (some ⟨ng, 0, none⟩) 1 nc, ii n, .slice pa pn pc] 125)
  have hg1 := hg.later (Step.of_alloc w (.cells #[.slice (some ⟨ng, 0, none⟩) 1 nc, ii n, .slice pa pn pc] 125))
  go_enter Tryz.func116, Tryz.ntmps116
  go_upto_region 1 with fail
  generalize (w.alloc (.cells #[.slice (some ⟨ng, 0, none⟩) 1 nc, ii n, .slice pa pn pc] 125)) = W at s1 hg1 ⊢
  generalize w.heap.size = bx at s1 ⊢
  have g0 := hg1 0 nm rfl
  have hos := s1.own 0 rfl
  have ⟨c0, c1, c2, c3⟩ := cells4 hos.h0
  have ⟨d0, d1, d2⟩ := cells3 (s1.one 1 rfl)
  by_cases hi : isF k.L nm = true
  · obtain ⟨A, x, B, rfl, rfl, hget, _, hdel⟩ := fe_find hp hk.sorted hi
    have hlk : ∀ nq, (Instr.lookup 78 (.map (some r)) (strV x.nm) false).run Tryz.prog (W.drewN nq) = .ok (pt x.fb) (W.drewN nq) := fun nq => look_yes hm (by exact hos.h1)
    have hr : Hid (rmI x.nm k = (0, { k with L := delF k.L x.nm })) := by show _ = _; unfold rmI; rw [if_pos hi]
    replace hok := Lib.hid hok
    replace hdel := Lib.hid hdel
    replace hget := Lib.hid hget
    replace hp := Lib.hid hp
    replace s1 := Lib.hid s1
    have hmm := Lib.hid hm
    clear hos hg1 hg hi hw hrep hm
    go_quiet (fail)
    clear hlk
    go_upto_region 3 with fail
    have s2 := s1.out.drewN nq
    obtain ⟨o', hrun, hm'⟩ := run_mdelete (P := Tryz.prog) Tryz.underlying78 Tryz.underlying9 (A := A.map Fe.ent) (B := B.map Fe.ent) (k := strV x.nm) (v0 := pt x.fb) (by simpa [Fe.ent] using hmm.out) (by exact trivial) (s2.drew.own 0 rfl).h1 0
    refine wp_region_J 8 (fun w' => w' = (W.drewN nq).drew) (by kernel_rfl) ?_ (fun hF => ?_)
    · (try dsimp only)
      all_goals (rfl)
    refine tk0 (i := 0) (oi := ⟨some 15, .move (.tmp 0), 28, "disk.go:140", #[], none⟩) (v := ?_) rfl (by kernel_rfl) (fun _ _ _ h => h) (fun _ => hF) (fun w => ?_) (by rfl) ?_
    rotate_left
    · first | (go_simp; done) | (go_simp; with_reducible rfl) | (go_split_ands; go_simp; done)
    try simp only [Act.put, nrmA, nrmB, nrmC]
    refine tk0 (i := 1) (oi := ⟨some 16, .nilCheck (.tmp 15), 0, "disk.go:140", #[⟨0, .data⟩], none⟩) (v := ?_) rfl (by kernel_rfl) (fun _ _ _ h => h) (fun _ => hF) (fun w => ?_) (by rfl) ?_
    rotate_left
    · first | (go_simp; done) | (go_simp; with_reducible rfl) | (go_split_ands; go_simp; done)
    try simp only [Act.put, nrmA, nrmB, nrmC]
    refine tk0 (i := 2) (oi := ⟨some 17, .fieldAddr 80 (.tmp 16) 1, 0, "disk.go:140", #[⟨1, .data⟩], none⟩) (v := ?_) rfl (by kernel_rfl) (fun _ _ _ h => h) (fun _ => hF) (fun w => ?_) (by rfl) ?_
    rotate_left
    · first | (go_simp; done) | (go_simp; with_reducible rfl) | (go_split_ands; go_simp; done)
    try simp only [Act.put, nrmA, nrmB, nrmC]
    refine tk1 (i := 3) (oi := ⟨some 18, .load 78 (.tmp 17), 78, "disk.go:140", #[⟨2, .data⟩], none⟩) (v := ?_) [8] rfl (by kernel_rfl) (fun _ _ _ h => h) hF (fun w hFw => ?_) (by rfl) ?_
    rotate_left
    · ((try dsimp only at hFw); first | (go_simp; done) | (go_simp; with_reducible rfl) | (go_split_ands; go_simp; done))
    try simp only [Act.put, nrmA, nrmB, nrmC]
    refine tk0 (i := 4) (oi := ⟨some 19, .fieldAddr 125 (.tmp 3) 0, 0, "disk.go:140", #[], none⟩) (v := ?_) rfl (by kernel_rfl) (fun _ _ _ h => h) (fun _ => hF) (fun w => ?_) (by rfl) ?_
    rotate_left
    · first | (go_simp; done) | (go_simp; with_reducible rfl) | (go_split_ands; go_simp; done)
    try simp only [Act.put, nrmA, nrmB, nrmC]
    refine tk1 (i := 5) (oi := ⟨some 20, .load 70 (.tmp 19), 70, "disk.go:140", #[⟨4, .data⟩], none⟩) (v := ?_) [6, 7, 8] rfl (by kernel_rfl) (fun _ _ _ h => h) hF (fun w hFw => ?_) (by rfl) ?_
    rotate_left
    · ((try dsimp only at hFw); first | (go_simp; done) | (go_simp; with_reducible rfl) | (go_split_ands; go_simp; done))
    try simp only [Act.put, nrmA, nrmB, nrmC]
    refine tk0 (i := 6) (oi := ⟨some 21, .indexAddr 70 (.tmp 20) (.const (.int .i64 0)), 0, "disk.go:140", #[⟨5, .data⟩], none⟩) (v := ?_) rfl (by kernel_rfl) (fun _ _ _ h => h) (fun _ => hF) (fun w => ?_) (by rfl) ?_
    rotate_left
    · first | (go_simp; done) | (go_simp; with_reducible rfl) | (go_split_ands; go_simp; done)
    try simp only [Act.put, nrmA, nrmB, nrmC]
    refine tk1 (i := 7) (oi := ⟨some 22, .load 9 (.tmp 21), 9, "disk.go:140", #[⟨6, .data⟩], none⟩) (v := ?_) [8] rfl (by kernel_rfl) (fun _ _ _ h => h) hF (fun w hFw => ?_) (by rfl) ?_
    rotate_left
    · ((try dsimp only at hFw); first | (go_simp; done) | (go_simp; with_reducible rfl) | (go_split_ands; go_simp; done))
    try simp only [Act.put, nrmA, nrmB, nrmC]
    refine wpAnyJ_ready (rs := [8]) (by kernel_rfl) (by simp) ?_
    refine AllJ.cons1 (o := ⟨none, .call { callee := .builtin .delete, args := #[.tmp 18, .tmp 22], argTypes := #[78, 9] }, 0, "disk.go:140", #[⟨3, .data⟩, ⟨7, .data⟩], none⟩) rfl (fun Kr hKr => ?_)
    refine step_mdelete rfl _ _ _ _ rfl (by rfl) (by rfl) hrun ?_
    refine hKr.out _ _ (fun hJ => ?_) (fun hF => ?_)
    · first
      | exact absurd hJ (by decide)
      | (clear hJ; (try dsimp only); all_goals (rfl))
    clear hKr
    try simp only [Act.put, nrmA, nrmB, nrmC]
    refine wpAnyJ_done (by kernel_rfl) ?_ _
    go_wp2
    go_ret
    rw [hr.out]
    have s4 := Step.putObj (A := [(b, dobj k.room r fu lf)]) (r := r) (o := o) (B := (A ++ x :: B).flatMap Fe.all) o' s2.drew.first
    refine ⟨rfl, _, ⟨r, o', fu, lf, A ++ B, by rw [List.map_append]; exact hm', fun y hy => hok.out y (by
      rcases List.mem_append.1 hy with hy | hy
      · exact List.mem_append_left _ hy
      · exact List.mem_append_right _ (List.mem_cons_of_mem _ hy)), hdel.out, hf, rfl⟩, Step.forget (B := (x.fb, fobj x.a x.d.length x.c x.n) :: x.H) (s4.perm (List.Perm.of_eq (by simp)) (.cons _ (.cons _ ((all_part A x B).trans ?_))))⟩
    exact (List.perm_append_comm (l₁ := _ :: x.H))
  · have hno : isF k.L nm = false := by simpa using hi
    have hr : Hid (rmI nm k = (7, k)) := by show _ = _; unfold rmI; rw [if_neg hi]
    have hlk : ∀ nq, (Instr.lookup 78 (.map (some r)) (strV nm) false).run Tryz.prog (W.drewN nq) = .ok (.pointer none) (W.drewN nq) := fun nq => look_no hm (by exact hos.h1) (fe_none hp hk.sorted hno)
    replace s1 := Lib.hid s1
    clear hos hg1 hg hp hi hw hm hno hok hf
    go_quiet (fail)
    go_wp2
    go_ret
    rw [hr.out]
    exact ⟨rfl, _, hrep.out, (s1.out.drewN nq).first⟩
end Go.Proofs.YtdolbeonpkanpaaGreatDoor
namespace Go.Proofs.YtdolbeonpkanpaaGreatDoor
open Go.RowKit
attribute [local go_sem ↓] Go.wp_at_zero Go.wp_at_succ

set_option maxHeartbeats 4000000 in
set_option maxRecDepth 100000 in
theorem cut_any (b : Nat) (k : Dk) (H : Heaplet) (ng nc : Nat) (nm : Nm) (n : Int) (pa : Option Addr) (pn pc : Nat) (w : World) (h : DkRep b k H) (hk : k.Ok) (hw : Own w H) (hg : RdStrs w ng [nm]) (hc : 1 ≤ nc) :
    Calls Tryz.prog 97 #[pt b, .agg #[.slice (some ⟨ng, 0, none⟩) 1 nc, ii n, .slice pa pn pc]] w (DkPost b (cuI nm n k) H w) := by
  have hrep := Lib.hid h
  obtain ⟨r, o, fu, lf, X, hm, hok, hp, hf, rfl⟩ := h
  have s1 := (Sp.start hw).alloc (.cells #[.slice (some ⟨ng, 0, none⟩) 1 nc, ii n, .slice pa pn pc] 125)
  have hg1 := hg.later (Step.of_alloc w (.cells #[.slice (some ⟨ng, 0, none⟩) 1 nc, ii n, .slice pa pn pc] 125))
  go_enter Tryz.func97, Tryz.ntmps97
  go_upto_region 1 with fail
  generalize (w.alloc (.cells #[.slice (some ⟨ng, 0, none⟩) 1 nc, ii n, .slice pa pn pc] 125)) = W at s1 hg1 ⊢
  generalize w.heap.size = bx at s1 ⊢
  have g0 := hg1 0 nm rfl
  have hos := s1.own 0 rfl
  have ⟨c0, c1, c2, c3⟩ := cells4 hos.h0
  have ⟨d0, d1, d2⟩ := cells3 (s1.one 1 rfl)
  by_cases hi : isF k.L nm = true
  · obtain ⟨A, x, B, rfl, rfl, hget, hput, _⟩ := fe_find hp hk.sorted hi
    have hlk : ∀ nq, (Instr.lookup 78 (.map (some r)) (strV x.nm) false).run Tryz.prog (W.drewN nq) = .ok (pt x.fb) (W.drewN nq) := fun nq => look_yes hm (by exact hos.h1)
    have ⟨e0, e1⟩ := cells2 (fe_has (x := x) (by simp) hos.tail.tail)
    have fz := fun i => frz_of (i := i) (fe_has (x := x) (by simp) hos.tail.tail)
    have hxb := heap_lt (fe_has (x := x) (by simp) hos.tail.tail)
    have hxo := hok x (by simp)
    obtain ⟨q1, q2⟩ := hxo.le
    have hlx : x.n ≤ x.d.length := by have := get_lasts hk hi; rw [← hget] at this; exact this
    have hr : Hid (cuI x.nm n k = if n < 0 ∨ (x.d.length : Int) < n then (1, k) else (0, { k with L := setF k.L x.nm (x.d.take n.toNat, min x.n n.toNat) })) := by
      show _ = _; unfold cuI; rw [if_pos hi, ← hget]
    replace hm := Lib.hid hm
    replace hput := Lib.hid hput
    replace hok := Lib.hid hok
    replace hxo := Lib.hid hxo
    replace hget := Lib.hid hget
    replace s1 := Lib.hid s1
    clear hos hg1 hg hp hi hw
    by_cases n0 : n < 0
    · have hr' : Hid (cuI x.nm n k = (1, k)) := by show _ = _; rw [hr.out, if_pos (.inl n0)]
      clear hr
      go_quiet (fail)
      go_wp2_with fail
      go_quiet (fail)
      go_wp2_with fail
      go_ret
      rw [hr'.out]
      exact ⟨rfl, _, hrep.out, ((s1.out.drewN _).drewN _).first⟩
    · obtain ⟨m, rfl⟩ := Int.eq_ofNat_of_zero_le (show 0 ≤ n by omega)
      by_cases n1 : (x.d.length : Int) < (m : Int)
      · have hr' : Hid (cuI x.nm m k = (1, k)) := by show _ = _; rw [hr.out, if_pos (.inr n1)]
        clear hr n0
        have n0 : (0 : Int) ≤ (m : Int) := by omega
        go_quiet (fail)
        go_wp2_with fail
        go_quiet (fail)
        go_wp2_with fail
        go_ret
        rw [hr'.out]
        exact ⟨rfl, _, hrep.out, ((s1.out.drewN _).drewN _).first⟩
      · have hr' : Hid (cuI x.nm m k = (0, { k with L := setF k.L x.nm (x.d.take m, min x.n m) })) := by
          show _ = _; rw [hr.out, if_neg (by omega), Int.toNat_natCast]
        clear hr n0
        have n0 : (0 : Int) ≤ (m : Int) := by omega
        have n2 : (m : Int) ≤ (x.d.length : Int) := by omega
        have n3 : m ≤ x.d.length := by omega
        have n4 : m ≤ x.c := by omega
        have n5 : (m : Int) ≤ (x.c : Int) := by omega
        have hcut := Lib.hid (hxo.out.cut n3 (Nat.le_refl m) n4)
        clear n1 hrep
        go_quiet (fail)
        have s2 := s1.out.drewN nq
        go_wp2_with fail
        go_quiet (fail)
        go_wp2_with fail
        have s3 := s2.drewN nq
        refine Sp.gen s3 ?_
        clear s2 s3 s1 c0 c1 c2 c3 d0 d1 d2 e0 e1 fz hxb g0 hlk
        intro W3 s3
        have hos := s3.own 0 rfl
        have ⟨d0, d1, d2⟩ := cells3 (s3.one 1 rfl)
        have ⟨e0, e1⟩ := cells2 (fe_has (x := x) (by simp) hos.tail.tail)
        have fz := fun i => frz_of (i := i) (fe_has (x := x) (by simp) hos.tail.tail)
        have hxb := heap_lt (fe_has (x := x) (by simp) hos.tail.tail)
        clear hos
        have hl : (x.d.take m).length = m := by rw [List.length_take]; omega
        have s4 := s3.drew.put 0 rfl (fe_store0 (Step.refl (s3.drew.own 0 rfl)) x.a (x.d.take m) m m hl)
        replace s4 := Lib.hid s4
        replace hl := Lib.hid hl
        refine wp_region_J 12 (fun w' => w' = W3.drew) (by kernel_rfl) ?_ (fun hF => ?_)
        · (try dsimp only)
          all_goals (rfl)
        refine tk0 (i := 0) (oi := ⟨some 32, .move (.tmp 5), 102, "disk.go:111", #[], none⟩) (v := ?_) rfl (by kernel_rfl) (fun _ _ _ h => h) (fun _ => hF) (fun w => ?_) (by rfl) ?_
        rotate_left
        · first | (go_simp; done) | (go_simp; with_reducible rfl) | (go_split_ands; go_simp; done)
        try simp only [Act.put, nrmA, nrmB, nrmC]
        refine tk0 (i := 1) (oi := ⟨some 33, .move (.tmp 5), 102, "disk.go:111", #[], none⟩) (v := ?_) rfl (by kernel_rfl) (fun _ _ _ h => h) (fun _ => hF) (fun w => ?_) (by rfl) ?_
        rotate_left
        · first | (go_simp; done) | (go_simp; with_reducible rfl) | (go_split_ands; go_simp; done)
        try simp only [Act.put, nrmA, nrmB, nrmC]
        refine tk0 (i := 2) (oi := ⟨some 34, .nilCheck (.tmp 33), 0, "disk.go:111", #[⟨1, .data⟩], none⟩) (v := ?_) rfl (by kernel_rfl) (fun _ _ _ h => h) (fun _ => hF) (fun w => ?_) (by rfl) ?_
        rotate_left
        · first | (go_simp; done) | (go_simp; with_reducible rfl) | (go_split_ands; go_simp; done)
        try simp only [Act.put, nrmA, nrmB, nrmC]
        refine tk0 (i := 3) (oi := ⟨some 35, .fieldAddr 104 (.tmp 34) 0, 0, "disk.go:111", #[⟨2, .data⟩], none⟩) (v := ?_) rfl (by kernel_rfl) (fun _ _ _ h => h) (fun _ => hF) (fun w => ?_) (by rfl) ?_
        rotate_left
        · first | (go_simp; done) | (go_simp; with_reducible rfl) | (go_split_ands; go_simp; done)
        try simp only [Act.put, nrmA, nrmB, nrmC]
        refine tk1 (i := 4) (oi := ⟨some 36, .load 23 (.tmp 35), 23, "disk.go:111", #[⟨3, .data⟩], none⟩) (v := ?_) [12] rfl (by kernel_rfl) (fun _ _ _ h => h) hF (fun w hFw => ?_) (by rfl) ?_
        rotate_left
        · ((try dsimp only at hFw); first | (go_simp; done) | (go_simp; with_reducible rfl) | (go_split_ands; go_simp; done))
        try simp only [Act.put, nrmA, nrmB, nrmC]
        refine tk0 (i := 5) (oi := ⟨some 37, .fieldAddr 125 (.tmp 3) 1, 0, "disk.go:111", #[], none⟩) (v := ?_) rfl (by kernel_rfl) (fun _ _ _ h => h) (fun _ => hF) (fun w => ?_) (by rfl) ?_
        rotate_left
        · first | (go_simp; done) | (go_simp; with_reducible rfl) | (go_split_ands; go_simp; done)
        try simp only [Act.put, nrmA, nrmB, nrmC]
        refine tk1 (i := 6) (oi := ⟨some 38, .load 3 (.tmp 37), 3, "disk.go:111", #[⟨5, .data⟩], none⟩) (v := ?_) [12] rfl (by kernel_rfl) (fun _ _ _ h => h) hF (fun w hFw => ?_) (by rfl) ?_
        rotate_left
        · ((try dsimp only at hFw); first | (go_simp; done) | (go_simp; with_reducible rfl) | (go_split_ands; go_simp; done))
        try simp only [Act.put, nrmA, nrmB, nrmC]
        refine tk0 (i := 7) (oi := ⟨some 39, .fieldAddr 125 (.tmp 3) 1, 0, "disk.go:111", #[], none⟩) (v := ?_) rfl (by kernel_rfl) (fun _ _ _ h => h) (fun _ => hF) (fun w => ?_) (by rfl) ?_
        rotate_left
        · first | (go_simp; done) | (go_simp; with_reducible rfl) | (go_split_ands; go_simp; done)
        try simp only [Act.put, nrmA, nrmB, nrmC]
        refine tk1 (i := 8) (oi := ⟨some 40, .load 3 (.tmp 39), 3, "disk.go:111", #[⟨7, .data⟩], none⟩) (v := ?_) [12] rfl (by kernel_rfl) (fun _ _ _ h => h) hF (fun w hFw => ?_) (by rfl) ?_
        rotate_left
        · ((try dsimp only at hFw); first | (go_simp; done) | (go_simp; with_reducible rfl) | (go_split_ands; go_simp; done))
        try simp only [Act.put, nrmA, nrmB, nrmC]
        refine tk0 (i := 9) (oi := ⟨some 41, .slice 23 (.tmp 36) none (some (.tmp 38)) (some (.tmp 40)), 23, "disk.go:111", #[⟨4, .data⟩, ⟨6, .data⟩, ⟨8, .data⟩], none⟩) (v := ?_) rfl (by kernel_rfl) (fun _ _ _ h => h) (fun _ => hF) (fun w => ?_) (by rfl) ?_
        rotate_left
        · first | (go_simp; done) | (go_simp; with_reducible rfl) | (go_split_ands; go_simp; done)
        try simp only [Act.put, nrmA, nrmB, nrmC]
        refine tk0 (i := 10) (oi := ⟨some 42, .nilCheck (.tmp 32), 0, "disk.go:111", #[⟨0, .data⟩, ⟨0, .phase⟩, ⟨1, .phase⟩, ⟨2, .phase⟩, ⟨3, .phase⟩, ⟨4, .phase⟩, ⟨5, .phase⟩, ⟨6, .phase⟩, ⟨7, .phase⟩, ⟨8, .phase⟩, ⟨9, .phase⟩], none⟩) (v := ?_) rfl (by kernel_rfl) (fun _ _ _ h => h) (fun _ => hF) (fun w => ?_) (by rfl) ?_
        rotate_left
        · first | (go_simp; done) | (go_simp; with_reducible rfl) | (go_split_ands; go_simp; done)
        try simp only [Act.put, nrmA, nrmB, nrmC]
        refine tk0 (i := 11) (oi := ⟨some 43, .fieldAddr 104 (.tmp 42) 0, 0, "disk.go:111", #[⟨10, .data⟩, ⟨0, .phase⟩, ⟨1, .phase⟩, ⟨2, .phase⟩, ⟨3, .phase⟩, ⟨4, .phase⟩, ⟨5, .phase⟩, ⟨6, .phase⟩, ⟨7, .phase⟩, ⟨8, .phase⟩, ⟨9, .phase⟩], none⟩) (v := ?_) rfl (by kernel_rfl) (fun _ _ _ h => h) (fun _ => hF) (fun w => ?_) (by rfl) ?_
        rotate_left
        · first | (go_simp; done) | (go_simp; with_reducible rfl) | (go_split_ands; go_simp; done)
        try simp only [Act.put, nrmA, nrmB, nrmC]
        refine wpAnyJ_ready (rs := [12]) (by kernel_rfl) (by simp) ?_
        refine AllJ.cons1 (o := ⟨none, .store 23 (.tmp 43) (.tmp 41), 0, "disk.go:111", #[⟨11, .data⟩, ⟨9, .data⟩, ⟨0, .phase⟩, ⟨1, .phase⟩, ⟨2, .phase⟩, ⟨3, .phase⟩, ⟨4, .phase⟩, ⟨5, .phase⟩, ⟨6, .phase⟩, ⟨7, .phase⟩, ⟨8, .phase⟩, ⟨9, .phase⟩], none⟩) rfl (fun Kr hKr => ?_)
        go_simp
        refine hKr.out _ _ (fun hJ => ?_) (fun hF => ?_)
        · first
          | exact absurd hJ (by decide)
          | (clear hJ; (try dsimp only); all_goals (rfl))
        clear hKr
        try simp only [Act.put, nrmA, nrmB, nrmC]
        refine wpAnyJ_done (by kernel_rfl) ?_ _
        go_upto_region 7 with fail
        refine Sp.gen s4.out ?_
        clear s4 s3 d0 d1 d2 e0 e1 fz hxb
        intro W4 s4
        simp only [List.cons_append, List.nil_append, List.set_cons_zero] at s4
        have hos := s4.own 0 rfl
        have ⟨d0, d1, d2⟩ := cells3 (s4.one 1 rfl)
        have ⟨e0, e1⟩ := cells2 (fe_has (x := { x with a := x.a, d := x.d.take m, c := m }) (by simp) hos.tail.tail)
        have fz := fun i => frz_of (i := i) (fe_has (x := { x with a := x.a, d := x.d.take m, c := m }) (by simp) hos.tail.tail)
        have hxb := heap_lt (fe_has (x := { x with a := x.a, d := x.d.take m, c := m }) (by simp) hos.tail.tail)
        simp only at e0 e1 fz hxb
        clear hos
        have s5 := s4.drew.put 0 rfl (fe_store (Step.refl (s4.drew.own 0 rfl)) (min x.n m))
        replace s5 := Lib.hid s5
        refine wp_region_J 10 (fun w' => w' = W4.drew) (by kernel_rfl) ?_ (fun hF => ?_)
        · (try dsimp only)
          all_goals (rfl)
        refine tk0 (i := 0) (oi := ⟨some 44, .move (.tmp 5), 102, "disk.go:112", #[], none⟩) (v := ?_) rfl (by kernel_rfl) (fun _ _ _ h => h) (fun _ => hF) (fun w => ?_) (by rfl) ?_
        rotate_left
        · first | (go_simp; done) | (go_simp; with_reducible rfl) | (go_split_ands; go_simp; done)
        try simp only [Act.put, nrmA, nrmB, nrmC]
        refine tk0 (i := 1) (oi := ⟨some 45, .move (.tmp 5), 102, "disk.go:112", #[], none⟩) (v := ?_) rfl (by kernel_rfl) (fun _ _ _ h => h) (fun _ => hF) (fun w => ?_) (by rfl) ?_
        rotate_left
        · first | (go_simp; done) | (go_simp; with_reducible rfl) | (go_split_ands; go_simp; done)
        try simp only [Act.put, nrmA, nrmB, nrmC]
        refine tk0 (i := 2) (oi := ⟨some 46, .nilCheck (.tmp 45), 0, "disk.go:112", #[⟨1, .data⟩], none⟩) (v := ?_) rfl (by kernel_rfl) (fun _ _ _ h => h) (fun _ => hF) (fun w => ?_) (by rfl) ?_
        rotate_left
        · first | (go_simp; done) | (go_simp; with_reducible rfl) | (go_split_ands; go_simp; done)
        try simp only [Act.put, nrmA, nrmB, nrmC]
        refine tk0 (i := 3) (oi := ⟨some 47, .fieldAddr 104 (.tmp 46) 1, 0, "disk.go:112", #[⟨2, .data⟩], none⟩) (v := ?_) rfl (by kernel_rfl) (fun _ _ _ h => h) (fun _ => hF) (fun w => ?_) (by rfl) ?_
        rotate_left
        · first | (go_simp; done) | (go_simp; with_reducible rfl) | (go_split_ands; go_simp; done)
        try simp only [Act.put, nrmA, nrmB, nrmC]
        refine tk1 (i := 4) (oi := ⟨some 48, .load 3 (.tmp 47), 3, "disk.go:112", #[⟨3, .data⟩], none⟩) (v := ?_) [10] rfl (by kernel_rfl) (fun _ _ _ h => h) hF (fun w hFw => ?_) (by rfl) ?_
        rotate_left
        · ((try dsimp only at hFw); first | (go_simp; done) | (go_simp; with_reducible rfl) | (go_split_ands; go_simp; done))
        try simp only [Act.put, nrmA, nrmB, nrmC]
        refine tk0 (i := 5) (oi := ⟨some 49, .fieldAddr 125 (.tmp 3) 1, 0, "disk.go:112", #[], none⟩) (v := ?_) rfl (by kernel_rfl) (fun _ _ _ h => h) (fun _ => hF) (fun w => ?_) (by rfl) ?_
        rotate_left
        · first | (go_simp; done) | (go_simp; with_reducible rfl) | (go_split_ands; go_simp; done)
        try simp only [Act.put, nrmA, nrmB, nrmC]
        refine tk1 (i := 6) (oi := ⟨some 50, .load 3 (.tmp 49), 3, "disk.go:112", #[⟨5, .data⟩], none⟩) (v := ?_) [10] rfl (by kernel_rfl) (fun _ _ _ h => h) hF (fun w hFw => ?_) (by rfl) ?_
        rotate_left
        · ((try dsimp only at hFw); first | (go_simp; done) | (go_simp; with_reducible rfl) | (go_split_ands; go_simp; done))
        try simp only [Act.put, nrmA, nrmB, nrmC]
        refine tk1 (i := 7) (oi := ⟨some 51, .call { callee := .builtin .min, args := #[.tmp 48, .tmp 50], argTypes := #[3, 3] }, 3, "disk.go:112", #[⟨4, .data⟩, ⟨6, .data⟩], none⟩) (v := ?_) [10] rfl (by kernel_rfl) (fun _ _ _ h => h) hF (fun w hFw => ?_) (by rfl) ?_
        rotate_left
        · ((try dsimp only at hFw); first | (go_simp; done) | (go_simp; with_reducible rfl) | (go_split_ands; go_simp; done))
        try simp only [Act.put, nrmA, nrmB, nrmC]
        refine tk0 (i := 8) (oi := ⟨some 52, .nilCheck (.tmp 44), 0, "disk.go:112", #[⟨0, .data⟩, ⟨0, .phase⟩, ⟨1, .phase⟩, ⟨2, .phase⟩, ⟨3, .phase⟩, ⟨4, .phase⟩, ⟨5, .phase⟩, ⟨6, .phase⟩, ⟨7, .phase⟩], none⟩) (v := ?_) rfl (by kernel_rfl) (fun _ _ _ h => h) (fun _ => hF) (fun w => ?_) (by rfl) ?_
        rotate_left
        · first | (go_simp; done) | (go_simp; with_reducible rfl) | (go_split_ands; go_simp; done)
        try simp only [Act.put, nrmA, nrmB, nrmC]
        refine tk0 (i := 9) (oi := ⟨some 53, .fieldAddr 104 (.tmp 52) 1, 0, "disk.go:112", #[⟨8, .data⟩, ⟨0, .phase⟩, ⟨1, .phase⟩, ⟨2, .phase⟩, ⟨3, .phase⟩, ⟨4, .phase⟩, ⟨5, .phase⟩, ⟨6, .phase⟩, ⟨7, .phase⟩], none⟩) (v := ?_) rfl (by kernel_rfl) (fun _ _ _ h => h) (fun _ => hF) (fun w => ?_) (by rfl) ?_
        rotate_left
        · first | (go_simp; done) | (go_simp; with_reducible rfl) | (go_split_ands; go_simp; done)
        try simp only [Act.put, nrmA, nrmB, nrmC]
        refine wpAnyJ_ready (rs := [10]) (by kernel_rfl) (by simp) ?_
        refine AllJ.cons1 (o := ⟨none, .store 3 (.tmp 53) (.tmp 51), 0, "disk.go:112", #[⟨9, .data⟩, ⟨7, .data⟩, ⟨0, .phase⟩, ⟨1, .phase⟩, ⟨2, .phase⟩, ⟨3, .phase⟩, ⟨4, .phase⟩, ⟨5, .phase⟩, ⟨6, .phase⟩, ⟨7, .phase⟩], none⟩) rfl (fun Kr hKr => ?_)
        go_simp
        refine hKr.out _ _ (fun hJ => ?_) (fun hF => ?_)
        · first
          | exact absurd hJ (by decide)
          | (clear hJ; (try dsimp only); all_goals (rfl))
        clear hKr
        try simp only [Act.put, nrmA, nrmB, nrmC]
        refine wpAnyJ_done (by kernel_rfl) ?_ _
        rw [show (if m < x.n then (m : Int) else (x.n : Int)) = ((min x.n m : Nat) : Int) by split <;> omega]
        go_wp2
        go_ret
        rw [hr'.out]
        refine ⟨rfl, _, ⟨r, o, fu, lf, A ++ { nm := x.nm, fb := x.fb, a := x.a, c := m, d := x.d.take m, n := min x.n m, H := x.H } :: B, by rw [ents_put A x { nm := x.nm, fb := x.fb, a := x.a, c := m, d := x.d.take m, n := min x.n m, H := x.H } B rfl rfl]; exact hm.out, ok_put hok.out ?_, by rw [List.map_append, List.map_cons]; exact hput.out _, hf, rfl⟩, s5.out.first.perm (List.Perm.of_eq (by simp)) (List.Perm.refl _)⟩
        have := hcut.out
        rw [Nat.mul_one, ← List.map_take] at this
        unfold Fe.ok
        simp only [hl.out]
        exact this
  · have hno : isF k.L nm = false := by simpa using hi
    have hr : Hid (cuI nm n k = (7, k)) := by show _ = _; unfold cuI; rw [if_neg hi]
    have hlk : ∀ nq, (Instr.lookup 78 (.map (some r)) (strV nm) false).run Tryz.prog (W.drewN nq) = .ok (.pointer none) (W.drewN nq) := fun nq => look_no hm (by exact hos.h1) (fe_none hp hk.sorted hno)
    replace s1 := Lib.hid s1
    clear hos hg1 hg hp hi hw hm hno hok hf
    go_quiet (fail)
    go_wp2
    go_ret
    rw [hr.out]
    exact ⟨rfl, _, hrep.out, (s1.out.drewN nq).first⟩
end Go.Proofs.YtdolbeonpkanpaaGreatDoor
namespace Go.Proofs.YtdolbeonpkanpaaGreatDoor
open Go.RowKit
attribute [local go_sem ↓] Go.wp_at_zero Go.wp_at_succ

end Go.Proofs.YtdolbeonpkanpaaGreatDoor
