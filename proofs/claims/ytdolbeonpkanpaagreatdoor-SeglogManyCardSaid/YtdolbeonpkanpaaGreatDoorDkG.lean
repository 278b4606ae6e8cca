/- The program's disk: write. -/
import Derived.Test.YtdolbeonpkanpaaGreatDoorMDkB
set_option linter.unusedVariables false
set_option linter.unusedSimpArgs false
namespace Go.Proofs.YtdolbeonpkanpaaGreatDoor
open Go.RowKit
attribute [local go_sem ↓] Go.wp_at_zero Go.wp_at_succ

def putF (L : List Fl) (nm : Nm) (v : List UInt8 × Nat) : List Fl := if isF L nm then setF L nm v else insF L nm v
theorem getF_no {L : List Fl} {nm : Nm} (h : isF L nm = false) : getF L nm = ([], 0) := by
  unfold isF at h
  unfold getF
  split at h
  · rename_i e he
    have : ¬ e.1 = nm := by simpa using h
    rw [if_neg this]
  · rfl
theorem wrI_ok {k : Dk} {nm : Nm} {p : List UInt8} (h1 : ¬ k.room < usedF k.L + p.length) (h2 : ¬ (isF k.L nm = false ∧ 4096 ≤ k.L.length)) : wrI nm p k = (0, { k with L := putF k.L nm ((getF k.L nm).1 ++ p, (getF k.L nm).2) }) := by
  unfold wrI putF
  rw [if_neg (by rintro (h | h); exact h1 h; exact h2 h)]
  cases hi : isF k.L nm
  · rw [getF_no hi]; simp
  · simp
abbrev wobj (ng nc : Nat) (n : Int) (pa : Option Addr) (pn pc : Nat) : Obj := .cells #[.slice (some ⟨ng, 0, none⟩) 1 nc, ii n, .slice pa pn pc] 125 (0, 0)
/-- The disk parted at a file. -/
def Parted (b bx : Nat) (wo : Obj) (k : Dk) (nm : Nm) (fu : Bool) (lf : Int) (H0 : Heaplet) (w wc : World) (r : Nat) (o : Obj) (A : List Fe) (x : Fe) (B : List Fe) : Prop :=
  MapObj .string o ((A ++ x :: B).map Fe.ent) ∧ (∀ y ∈ A ++ x :: B, y.ok) ∧ x.nm = nm ∧ (x.d, x.n) = getF k.L nm ∧ (∀ v, (A.map Fe.key ++ (nm, v) :: B.map Fe.key).Perm (putF k.L nm v)) ∧
    Sp w H0 wc [[(b, dobj k.room r fu lf), (r, o)], [(x.fb, fobj x.a x.d.length x.c x.n)], x.H, (A ++ B).flatMap Fe.all, [(bx, wo)]]
theorem parted_of {b bx : Nat} {wo : Obj} {k : Dk} {fu : Bool} {lf : Int} {H0 : Heaplet} {w wc : World} {r : Nat} {o : Obj} {A B : List Fe} {x : Fe} {nm : Nm} (hm : MapObj .string o ((A ++ x :: B).map Fe.ent)) (hok : ∀ y ∈ A ++ x :: B, y.ok) (hi : isF k.L nm = true)
    (e1 : x.nm = nm) (e2 : (x.d, x.n) = getF k.L nm) (e3 : ∀ v, (A.map Fe.key ++ (nm, v) :: B.map Fe.key).Perm (setF k.L nm v))
    (s : Sp w H0 wc [(b, dobj k.room r fu lf) :: (r, o) :: (A ++ x :: B).flatMap Fe.all, [(bx, wo)]]) : Parted b bx wo k nm fu lf H0 w wc r o A x B := by
  refine ⟨hm, hok, e1, e2, fun v => by unfold putF; rw [if_pos hi]; exact e3 v, s.perm ?_⟩
  simp only [List.flatten_cons, List.flatten_nil, List.append_nil, List.cons_append, List.nil_append]
  refine .cons _ (.cons _ ?_)
  refine ((all_part A x B).append_right _).trans (List.Perm.of_eq ?_)
  simp
theorem parted_done {b bx : Nat} {wo : Obj} {k : Dk} {fu : Bool} {lf : Int} {H0 H6 : Heaplet} {w W : World} {r : Nat} {o : Obj} {A B : List Fe} {x : Fe} {nm : Nm} {p : List UInt8} {a2 : Option Addr} {c2 l : Nat} (hm : MapObj .string o ((A ++ x :: B).map Fe.ent)) (hok : ∀ y ∈ A ++ x :: B, y.ok) (e1 : x.nm = nm)
    (hput : ∀ v, (A.map Fe.key ++ (nm, v) :: B.map Fe.key).Perm (putF k.L nm v)) (hl : (x.d ++ p).length = l) (hv : SlAt 5 1 a2 l c2 ((x.d ++ p).map u8) H6) (hf : FuseIs k.left fu lf)
    (s : Sp w H0 W [[(b, dobj k.room r fu lf), (r, o)], [(x.fb, fobj a2 l c2 x.n)], H6, (A ++ B).flatMap Fe.all, [(bx, wo)]]) :
    ∃ H', DkRep b { k with L := putF k.L nm (x.d ++ p, x.n) } H' ∧ Step w H0 W H' := by
  subst hl
  obtain ⟨y, hy⟩ : ∃ y : Fe, y = { x with a := a2, c := c2, d := x.d ++ p, H := H6 } := ⟨_, rfl⟩
  have hyo : y.ok := by rw [hy]; exact hv
  have hyk : y.key = (nm, (x.d ++ p, x.n)) := by rw [hy, ← e1]; rfl
  refine ⟨_, ⟨r, o, fu, lf, A ++ y :: B, by rw [ents_put A x y B (by rw [hy]) (by rw [hy])]; exact hm, ok_put hok hyo, by rw [List.map_append, List.map_cons, hyk]; exact hput _, hf, rfl⟩, ?_⟩
  refine Step.forget (B := [(bx, wo)]) ((s.perm (Gs := [(b, dobj k.room r fu lf) :: (r, o) :: (A ++ y :: B).flatMap Fe.all, [(bx, wo)]]) ?_).out (by simp))
  simp only [List.flatten_cons, List.flatten_nil, List.append_nil, List.cons_append, List.nil_append]
  refine .cons _ (.cons _ ?_)
  refine List.Perm.trans (List.Perm.of_eq ?_) ((all_part A y B).symm.append_right _)
  rw [hy]; simp
theorem parted_new {b bx fx : Nat} {wo : Obj} {k : Dk} {fu : Bool} {lf : Int} {H0 : Heaplet} {w wc : World} {r : Nat} {o : Obj} {X : List Fe} {nm : Nm} (hm : MapObj .string o (X.map Fe.ent ++ [(strV nm, pt fx)])) (hok : ∀ x ∈ X, x.ok) (hp : (X.map Fe.key).Perm k.L) (hi : isF k.L nm = false)
    (s : Sp w H0 wc [(b, dobj k.room r fu lf) :: (r, o) :: X.flatMap Fe.all, [(bx, wo)], [(fx, fobj none 0 0 0)]]) : Parted b bx wo k nm fu lf H0 w wc r o X ⟨nm, fx, none, 0, [], 0, []⟩ [] := by
  refine ⟨by rw [List.map_append]; exact hm, fun y hy => ?_, rfl, (getF_no hi).symm, fun v => ?_, s.perm ?_⟩
  · rcases List.mem_append.1 hy with hy | hy
    · exact hok y hy
    · rw [List.mem_singleton] at hy; subst hy; exact SlAt.nil _ _
  · unfold putF
    rw [if_neg (by rw [hi]; simp)]
    refine List.perm_append_comm.trans ?_
    exact (hp.cons _).trans (ins_perm _ _ _).symm
  · simp only [List.flatten_cons, List.flatten_nil, List.append_nil, List.cons_append, List.nil_append]
    refine .cons _ (.cons _ ?_)
    have e : X.flatMap Fe.all ++ [(bx, wo), (fx, fobj none 0 0 0)] = (X.flatMap Fe.all ++ [(bx, wo)]) ++ [(fx, fobj none 0 0 0)] := by simp
    rw [e]
    exact List.perm_append_comm
theorem RdBytes.later' {w w' : World} {a : Option Addr} {n c : Nat} {l : List UInt8} (h : RdBytes w a n c l) {H H' : Heaplet} (s : Step w H w' H') (hn : l ≠ [] → ∀ x, a = some x → x.block ∉ dom H) : RdBytes w' a n c l := by
  by_cases hl : l = []
  · subst hl
    obtain ⟨h1, h2 | ⟨ad, h3, h4, h5, _⟩⟩ := h
    · exact ⟨h1, .inl h2⟩
    · exact ⟨h1, .inr ⟨ad, h3, h4, h5, by simp⟩⟩
  · exact h.later s (hn hl)
set_option maxHeartbeats 4000000 in
set_option maxRecDepth 100000 in
theorem write_any (b : Nat) (k : Dk) (H : Heaplet) (ng nc : Nat) (nm : Nm) (n : Int) (pa : Option Addr) (pn pc : Nat) (p : List UInt8) (w : World) (h : DkRep b k H) (hk : k.Ok) (hw : Own w H) (hg : RdStrs w ng [nm]) (hc : 1 ≤ nc)
    (hb : RdBytes w pa pn pc p) (hng : ng ∉ dom H) (hpb : p ≠ [] → ∀ x, pa = some x → x.block ∉ dom H) (hpl : p.length ≤ 140737488355328) :
    Calls Tryz.prog 69 #[pt b, .agg #[.slice (some ⟨ng, 0, none⟩) 1 nc, ii n, .slice pa pn pc]] w (DkPost b (wrI nm p k) H w) := by
  have hrep := Lib.hid h
  obtain ⟨r, o, fu, lf, X, hm, hok, hp, hf, hH⟩ := h
  have hpn := hb.1
  subst hpn
  have s1 : Sp w H (w.alloc (wobj ng nc n pa p.length pc)) [H, [(w.heap.size, wobj ng nc n pa p.length pc)]] := (Sp.start hw).alloc _
  have hg0 : Hid (∀ W' G, Step w H W' G → W'.cell? ⟨ng, 0, none⟩ = some (strV nm)) := fun W' G s => s.keepOut (hg 0 nm rfl) hng
  have hb0 : Hid (∀ W' G, Step w H W' G → RdBytes W' pa p.length pc p) := fun W' G s => hb.later' s hpb
  have hkf : Hid (∀ W' bx, Sp w H W' [H, [(bx, wobj ng nc n pa p.length pc)]] → (W'.cell? ⟨bx, 2, none⟩ = some (.slice pa p.length pc) ∧ W'.cell? ⟨b, 0, none⟩ = some (iv k.room) ∧ W'.cell? ⟨b, 1, none⟩ = some (.map (some r)) ∧ W'.heap[r]? = some o)) := fun W' bx s => by
    have h0 := s.own 0 rfl
    rw [hH] at h0
    obtain ⟨q0, q1, _, _⟩ := cells4 h0.h0
    exact ⟨(cells3 (s.one 1 rfl)).2.2, q0, q1, h0.h1⟩
  replace hH := Lib.hid hH
  have hus : Hid (∀ W, Own W H → Calls Tryz.prog 98 #[pt b] W fun e w' => e = .returned (iv (usedF k.L)) ∧ Step W H w' H) := fun W hW => used_any b k H W hrep.out hW (by have := hk.used; have := hk.room; omega)
  have hu1 : (usedF k.L : Int) ≤ (k.room : Int) := by have := hk.used; omega
  have hu2 : (k.room : Int) ≤ 1073741824 := by have := hk.room; omega
  have hu3 : IntKind.i64.wrap ((k.room : Int) - (usedF k.L : Int)) = (k.room : Int) - (usedF k.L : Int) := IntWalk.i64_in _ (by omega)
  have hlen : Hid (X.length = k.L.length) := by have := hp.length_eq; show _ = _; simpa using this
  clear hb hg
  go_enter Tryz.func69, Tryz.ntmps69
  go_upto_region 1 with fail
  generalize w.heap.size = bx at s1 ⊢
  refine Sp.gen s1 ?_
  clear s1
  intro W s1
  have g0 := hg0.out _ _ s1
  have ⟨d2, c0, c1, ho⟩ := hkf.out _ _ s1
  have ⟨d0, d1, _⟩ := cells3 (s1.one 1 rfl)
  obtain ⟨fv, hlk, hfv⟩ : ∃ fv, (∀ nq, (Instr.lookup 78 (.map (some r)) (strV nm) false).run Tryz.prog (W.drewN nq) = .ok fv (W.drewN nq)) ∧ Hid ((isF k.L nm = true ∧ ∃ A x B, X = A ++ x :: B ∧ x.nm = nm ∧ (x.d, x.n) = getF k.L nm ∧ (∀ v, (A.map Fe.key ++ (nm, v) :: B.map Fe.key).Perm (setF k.L nm v)) ∧ fv = pt x.fb) ∨ (isF k.L nm = false ∧ fv = .pointer none)) := by
    cases hi : isF k.L nm
    · exact ⟨_, fun nq => look_no hm (by exact ho) (fe_none hp hk.sorted hi), .inr ⟨rfl, rfl⟩⟩
    · obtain ⟨A, x, B, rfl, rfl, y1, y2, _⟩ := fe_find hp hk.sorted hi
      exact ⟨_, fun nq => look_yes hm (by exact ho), .inl ⟨rfl, A, x, B, rfl, rfl, y1, y2, rfl⟩⟩
  go_quiet (fail)
  have s2 := s1.drewN nq
  go_upto_region 2 with fail
  refine Sp.gen s2 ?_
  clear s1 s2 g0 d2 c0 c1 ho d0 d1 hlk
  intro W2 s2
  have hml : Hid (∀ (W' : World), W'.heap[r]? = some o → ∀ ty, (Builtin.len_ #[78] ty #[.map (some r)]).run Tryz.prog W' = .ok (.int .i64 (k.L.length : Nat)) W') := fun W' hW' ty => by
    have := run_mlen (P := Tryz.prog) Tryz.underlying78 hm hW' ty
    rwa [List.length_map, hlen.out] at this
  have kf := hkf.out _ bx s2.drew
  by_cases hA : k.room < usedF k.L + p.length
  · have hr : Hid (wrI nm p k = (6, k)) := by show _ = _; unfold wrI; rw [if_pos (.inl hA)]
    have a1 : (k.room : Int) - (usedF k.L : Int) < (p.length : Int) := by omega
    clear hA
    refine wp_region_J 22 (fun w' => w'.cell? ⟨bx, 2, none⟩ = some (.slice pa p.length pc) ∧ w'.cell? ⟨b, 0, none⟩ = some (iv k.room) ∧ w'.cell? ⟨b, 1, none⟩ = some (.map (some r)) ∧ w'.heap[r]? = some o) (by kernel_rfl) ?_ (fun hF => ?_)
    · (try dsimp only)
      all_goals (first | exact kf | exact hkf.out _ _ s3)
    refine tk0 (i := 0) (oi := ⟨some 15, .fieldAddr 125 (.tmp 3) 2, 0, "disk.go:73", #[], none⟩) (v := ?_) rfl (by kernel_rfl) (fun _ _ _ h => h) (fun _ => hF) (fun w => ?_) (by rfl) ?_
    rotate_left
    · first | (go_simp; done) | (go_simp; with_reducible rfl) | (go_split_ands; go_simp; done)
    try simp only [Act.put, nrmA, nrmB, nrmC]
    refine tk1 (i := 1) (oi := ⟨some 16, .load 23 (.tmp 15), 23, "disk.go:73", #[⟨0, .data⟩], none⟩) (v := ?_) [2, 10, 11, 22] rfl (by kernel_rfl) (fun _ _ _ h => h) hF (fun w hFw => ?_) (by rfl) ?_
    rotate_left
    · ((try dsimp only at hFw); first | (go_simp; done) | (go_simp; with_reducible rfl) | (go_split_ands; go_simp; done))
    try simp only [Act.put, nrmA, nrmB, nrmC]
    refine tk1 (i := 2) (oi := ⟨some 17, .call { callee := .builtin .len, args := #[.tmp 16], argTypes := #[23] }, 3, "disk.go:73", #[⟨1, .data⟩], none⟩) (v := ?_) [10, 11, 22] rfl (by kernel_rfl) (fun _ _ _ h => h) hF (fun w hFw => ?_) (by rfl) ?_
    rotate_left
    · ((try dsimp only at hFw); first | (go_simp; done) | (go_simp; with_reducible rfl) | (go_split_ands; go_simp; done))
    try simp only [Act.put, nrmA, nrmB, nrmC]
    refine tk0 (i := 3) (oi := ⟨some 18, .move (.tmp 0), 28, "disk.go:73", #[], none⟩) (v := ?_) rfl (by kernel_rfl) (fun _ _ _ h => h) (fun _ => hF) (fun w => ?_) (by rfl) ?_
    rotate_left
    · first | (go_simp; done) | (go_simp; with_reducible rfl) | (go_split_ands; go_simp; done)
    try simp only [Act.put, nrmA, nrmB, nrmC]
    refine tk0 (i := 4) (oi := ⟨some 19, .nilCheck (.tmp 18), 0, "disk.go:73", #[⟨3, .data⟩], none⟩) (v := ?_) rfl (by kernel_rfl) (fun _ _ _ h => h) (fun _ => hF) (fun w => ?_) (by rfl) ?_
    rotate_left
    · first | (go_simp; done) | (go_simp; with_reducible rfl) | (go_split_ands; go_simp; done)
    try simp only [Act.put, nrmA, nrmB, nrmC]
    refine tk0 (i := 5) (oi := ⟨some 20, .fieldAddr 80 (.tmp 19) 0, 0, "disk.go:73", #[⟨4, .data⟩], none⟩) (v := ?_) rfl (by kernel_rfl) (fun _ _ _ h => h) (fun _ => hF) (fun w => ?_) (by rfl) ?_
    rotate_left
    · first | (go_simp; done) | (go_simp; with_reducible rfl) | (go_split_ands; go_simp; done)
    try simp only [Act.put, nrmA, nrmB, nrmC]
    refine tk1 (i := 6) (oi := ⟨some 21, .load 3 (.tmp 20), 3, "disk.go:73", #[⟨5, .data⟩], none⟩) (v := ?_) [9, 10, 11, 22] rfl (by kernel_rfl) (fun _ _ _ h => h) hF (fun w hFw => ?_) (by rfl) ?_
    rotate_left
    · ((try dsimp only at hFw); first | (go_simp; done) | (go_simp; with_reducible rfl) | (go_split_ands; go_simp; done))
    try simp only [Act.put, nrmA, nrmB, nrmC]
    refine tk0 (i := 7) (oi := ⟨some 22, .move (.tmp 0), 28, "disk.go:73", #[], none⟩) (v := ?_) rfl (by kernel_rfl) (fun _ _ _ h => h) (fun _ => hF) (fun w => ?_) (by rfl) ?_
    rotate_left
    · first | (go_simp; done) | (go_simp; with_reducible rfl) | (go_split_ands; go_simp; done)
    try simp only [Act.put, nrmA, nrmB, nrmC]
    refine wpAnyJ_ready (rs := [8]) (by kernel_rfl) (by simp) ?_
    refine AllJ.cons1 (o := ⟨some 23, .call { callee := .value (.func 98), args := #[.tmp 22], argTypes := #[28] }, 3, "disk.go:73", #[⟨7, .data⟩], none⟩) rfl (fun Kr hKr => ?_)
    go_simp; go_at_call 98; refine (hus.out _ (s2.drew.own 0 rfl)).mono ?_; rintro e w4 ⟨rfl, hst⟩; have s3 := s2.drew.put 0 rfl hst; simp only [List.set_cons_zero] at s3
    refine hKr.out _ _ (fun hJ => ?_) (fun hF => ?_)
    · first
      | exact absurd hJ (by decide)
      | (clear hJ; (try dsimp only); all_goals (first | exact kf | exact hkf.out _ _ s3))
    clear hKr
    try simp only [Act.put, nrmA, nrmB, nrmC]
    refine tk0 (i := 9) (oi := ⟨some 24, .binOp .sub 3 (.tmp 21) (.tmp 23) 3, 3, "disk.go:73", #[⟨6, .data⟩, ⟨8, .data⟩], none⟩) (v := ?_) rfl (by kernel_rfl) (fun _ _ _ h => h) (fun _ => hF (by kernel_rfl)) (fun w => ?_) (by rfl) ?_
    rotate_left
    · first | (go_simp; done) | (go_simp; with_reducible rfl) | (go_split_ands; go_simp; done)
    try simp only [Act.put, nrmA, nrmB, nrmC]
    refine tk0 (i := 10) (oi := ⟨some 25, .binOp .gtr 3 (.tmp 17) (.tmp 24) 3, 4, "disk.go:73", #[⟨2, .data⟩, ⟨9, .data⟩], none⟩) (v := ?_) rfl (by kernel_rfl) (fun _ _ _ h => h) (fun _ => hF (by kernel_rfl)) (fun w => ?_) (by rfl) ?_
    rotate_left
    · first | (go_simp; done) | (go_simp; with_reducible rfl) | (go_split_ands; go_simp; done)
    try simp only [Act.put, nrmA, nrmB, nrmC]
    refine tk0 (i := 11) (oi := ⟨some 26, .move (.tmp 25), 4, "disk.go:73", #[⟨10, .data⟩, ⟨8, .chain⟩], none⟩) (v := ?_) rfl (by kernel_rfl) (fun _ _ _ h => h) (fun _ => hF (by kernel_rfl)) (fun w => ?_) (by rfl) ?_
    rotate_left
    · first | (go_simp; done) | (go_simp; with_reducible rfl) | (go_split_ands; go_simp; done)
    try simp only [Act.put, nrmA, nrmB, nrmC]
    first
    | refine sk0 (i := 12) (oi := ⟨some 27, .move (.tmp 5), 102, "disk.go:73", #[⟨11, .guard⟩], some (11, false)⟩) rfl (by kernel_rfl) (fun _ _ _ h => h) (fun _ => hF (by kernel_rfl)) (by rfl) ?_
    | (refine tk0 (i := 12) (oi := ⟨some 27, .move (.tmp 5), 102, "disk.go:73", #[⟨11, .guard⟩], some (11, false)⟩) (v := ?_) rfl (by kernel_rfl) (fun _ _ _ h => h) (fun _ => hF (by kernel_rfl)) (fun w => ?_) (by rfl) ?_
       rotate_left
       · first | (go_simp; done) | (go_simp; with_reducible rfl) | (go_split_ands; go_simp; done))
    try simp only [Act.put, nrmA, nrmB, nrmC]
    first
    | refine sk0 (i := 13) (oi := ⟨some 28, .binOp .eql 102 (.tmp 27) (.const (.pointer none)) 102, 4, "disk.go:73", #[⟨12, .data⟩, ⟨11, .guard⟩], some (11, false)⟩) rfl (by kernel_rfl) (fun _ _ _ h => h) (fun _ => hF (by kernel_rfl)) (by rfl) ?_
    | (refine tk0 (i := 13) (oi := ⟨some 28, .binOp .eql 102 (.tmp 27) (.const (.pointer none)) 102, 4, "disk.go:73", #[⟨12, .data⟩, ⟨11, .guard⟩], some (11, false)⟩) (v := ?_) rfl (by kernel_rfl) (fun _ _ _ h => h) (fun _ => hF (by kernel_rfl)) (fun w => ?_) (by rfl) ?_
       rotate_left
       · first | (go_simp; done) | (go_simp; with_reducible rfl) | (go_split_ands; go_simp; done))
    try simp only [Act.put, nrmA, nrmB, nrmC]
    first
    | refine sk0 (i := 14) (oi := ⟨some 29, .move (.tmp 28), 4, "disk.go:73", #[⟨13, .data⟩, ⟨11, .chain⟩, ⟨11, .guard⟩], some (11, false)⟩) rfl (by kernel_rfl) (fun _ _ _ h => h) (fun _ => hF (by kernel_rfl)) (by rfl) ?_
    | (refine tk0 (i := 14) (oi := ⟨some 29, .move (.tmp 28), 4, "disk.go:73", #[⟨13, .data⟩, ⟨11, .chain⟩, ⟨11, .guard⟩], some (11, false)⟩) (v := ?_) rfl (by kernel_rfl) (fun _ _ _ h => h) (fun _ => hF (by kernel_rfl)) (fun w => ?_) (by rfl) ?_
       rotate_left
       · first | (go_simp; done) | (go_simp; with_reducible rfl) | (go_split_ands; go_simp; done))
    try simp only [Act.put, nrmA, nrmB, nrmC]
    first
    | refine sk0 (i := 15) (oi := ⟨some 30, .move (.tmp 0), 28, "disk.go:73", #[⟨14, .guard⟩], some (14, true)⟩) rfl (by kernel_rfl) (fun _ _ _ h => h) (fun _ => hF (by kernel_rfl)) (by rfl) ?_
    | (refine tk0 (i := 15) (oi := ⟨some 30, .move (.tmp 0), 28, "disk.go:73", #[⟨14, .guard⟩], some (14, true)⟩) (v := ?_) rfl (by kernel_rfl) (fun _ _ _ h => h) (fun _ => hF (by kernel_rfl)) (fun w => ?_) (by rfl) ?_
       rotate_left
       · first | (go_simp; done) | (go_simp; with_reducible rfl) | (go_split_ands; go_simp; done))
    try simp only [Act.put, nrmA, nrmB, nrmC]
    first
    | refine sk0 (i := 16) (oi := ⟨some 31, .nilCheck (.tmp 30), 0, "disk.go:73", #[⟨15, .data⟩, ⟨14, .guard⟩], some (14, true)⟩) rfl (by kernel_rfl) (fun _ _ _ h => h) (fun _ => hF (by kernel_rfl)) (by rfl) ?_
    | (refine tk0 (i := 16) (oi := ⟨some 31, .nilCheck (.tmp 30), 0, "disk.go:73", #[⟨15, .data⟩, ⟨14, .guard⟩], some (14, true)⟩) (v := ?_) rfl (by kernel_rfl) (fun _ _ _ h => h) (fun _ => hF (by kernel_rfl)) (fun w => ?_) (by rfl) ?_
       rotate_left
       · first | (go_simp; done) | (go_simp; with_reducible rfl) | (go_split_ands; go_simp; done))
    try simp only [Act.put, nrmA, nrmB, nrmC]
    first
    | refine sk0 (i := 17) (oi := ⟨some 32, .fieldAddr 80 (.tmp 31) 1, 0, "disk.go:73", #[⟨16, .data⟩, ⟨14, .guard⟩], some (14, true)⟩) rfl (by kernel_rfl) (fun _ _ _ h => h) (fun _ => hF (by kernel_rfl)) (by rfl) ?_
    | (refine tk0 (i := 17) (oi := ⟨some 32, .fieldAddr 80 (.tmp 31) 1, 0, "disk.go:73", #[⟨16, .data⟩, ⟨14, .guard⟩], some (14, true)⟩) (v := ?_) rfl (by kernel_rfl) (fun _ _ _ h => h) (fun _ => hF (by kernel_rfl)) (fun w => ?_) (by rfl) ?_
       rotate_left
       · first | (go_simp; done) | (go_simp; with_reducible rfl) | (go_split_ands; go_simp; done))
    try simp only [Act.put, nrmA, nrmB, nrmC]
    first
    | refine sk0 (i := 18) (oi := ⟨some 33, .load 78 (.tmp 32), 78, "disk.go:73", #[⟨17, .data⟩, ⟨14, .guard⟩], some (14, true)⟩) rfl (by kernel_rfl) (fun _ _ _ h => h) (fun _ => hF (by kernel_rfl)) (by rfl) ?_
    | (refine tk1 (i := 18) (oi := ⟨some 33, .load 78 (.tmp 32), 78, "disk.go:73", #[⟨17, .data⟩, ⟨14, .guard⟩], some (14, true)⟩) (v := ?_) [19, 20, 21, 22] rfl (by kernel_rfl) (fun _ _ _ h => h) (hF (by kernel_rfl)) (fun w hFw => ?_) (by rfl) ?_
       rotate_left
       · ((try dsimp only at hFw); first | (go_simp; done) | (go_simp; with_reducible rfl) | (go_split_ands; go_simp; done)))
    try simp only [Act.put, nrmA, nrmB, nrmC]
    first
    | refine sk0 (i := 19) (oi := ⟨some 34, .call { callee := .builtin .len, args := #[.tmp 33], argTypes := #[78] }, 3, "disk.go:73", #[⟨18, .data⟩, ⟨14, .chain⟩, ⟨14, .guard⟩], some (14, true)⟩) rfl (by kernel_rfl) (fun _ _ _ h => h) (fun _ => hF (by kernel_rfl)) (by rfl) ?_
    | (refine tk1 (i := 19) (oi := ⟨some 34, .call { callee := .builtin .len, args := #[.tmp 33], argTypes := #[78] }, 3, "disk.go:73", #[⟨18, .data⟩, ⟨14, .chain⟩, ⟨14, .guard⟩], some (14, true)⟩) (v := (.int .i64 (k.L.length : Nat))) [20, 21, 22] rfl (by kernel_rfl) (fun _ _ _ h => h) (hF (by kernel_rfl)) (fun w hFw => ?_) (by rfl) ?_
       · ((try dsimp only at hFw); exact exec_mlen _ _ rfl (by rfl) (hml.out _ hFw.2.2.2 _)))
    try simp only [Act.put, nrmA, nrmB, nrmC]
    first
    | refine sk0 (i := 20) (oi := ⟨some 35, .binOp .geq 3 (.tmp 34) (.const (.int .i64 4096)) 3, 4, "disk.go:73", #[⟨19, .data⟩, ⟨14, .guard⟩], some (14, true)⟩) rfl (by kernel_rfl) (fun _ _ _ h => h) (fun _ => hF (by kernel_rfl)) (by rfl) ?_
    | (refine tk0 (i := 20) (oi := ⟨some 35, .binOp .geq 3 (.tmp 34) (.const (.int .i64 4096)) 3, 4, "disk.go:73", #[⟨19, .data⟩, ⟨14, .guard⟩], some (14, true)⟩) (v := ?_) rfl (by kernel_rfl) (fun _ _ _ h => h) (fun _ => hF (by kernel_rfl)) (fun w => ?_) (by rfl) ?_
       rotate_left
       · first | (go_simp; done) | (go_simp; with_reducible rfl) | (go_split_ands; go_simp; done))
    try simp only [Act.put, nrmA, nrmB, nrmC]
    first
    | refine sk0 (i := 21) (oi := ⟨some 36, .pick (.tmp 29) (.tmp 35) (.const (.bool false)), 4, "disk.go:73", #[⟨14, .data⟩, ⟨20, .data⟩, ⟨11, .guard⟩], some (11, false)⟩) rfl (by kernel_rfl) (fun _ _ _ h => h) (fun _ => hF (by kernel_rfl)) (by rfl) ?_
    | (refine tk0 (i := 21) (oi := ⟨some 36, .pick (.tmp 29) (.tmp 35) (.const (.bool false)), 4, "disk.go:73", #[⟨14, .data⟩, ⟨20, .data⟩, ⟨11, .guard⟩], some (11, false)⟩) (v := ?_) rfl (by kernel_rfl) (fun _ _ _ h => h) (fun _ => hF (by kernel_rfl)) (fun w => ?_) (by rfl) ?_
       rotate_left
       · first | (go_simp; done) | (go_simp; with_reducible rfl) | (go_split_ands; go_simp; done))
    try simp only [Act.put, nrmA, nrmB, nrmC]
    refine wpAnyJ_ready (rs := [22]) (by kernel_rfl) (by simp) ?_
    refine AllJ.cons1 (o := ⟨some 37, .pick (.tmp 26) (.const (.bool true)) (.tmp 36), 4, "disk.go:73", #[⟨11, .data⟩, ⟨21, .data⟩], none⟩) rfl (fun Kr hKr => ?_)
    go_simp
    refine hKr.out _ _ (fun hJ => ?_) (fun hF => ?_)
    · first
      | exact absurd hJ (by decide)
      | (clear hJ; (try dsimp only); all_goals (first | exact kf | exact hkf.out _ _ s3))
    clear hKr
    try simp only [Act.put, nrmA, nrmB, nrmC]
    refine wpAnyJ_done (by kernel_rfl) ?_ _
    go_wp2
    go_ret
    rw [hr.out]
    exact ⟨rfl, _, hrep.out, s3.first⟩
  · have a1 : ¬ ((k.room : Int) - (usedF k.L : Int) < (p.length : Int)) := by omega
    have a2 : (p.length : Int) ≤ (k.room : Int) - (usedF k.L : Int) := by omega
    have a3 : decide ((k.room : Int) - (usedF k.L : Int) < (p.length : Int)) = false := decide_eq_false a1
    clear a1
    rcases hfv.out with ⟨hi, A, x, B, hX, hxn, hget0, hput0, rfl⟩ | ⟨hi, rfl⟩
    · have hr : Hid (wrI nm p k = (0, { k with L := putF k.L nm ((getF k.L nm).1 ++ p, (getF k.L nm).2) })) := wrI_ok hA (by rw [hi]; simp)
      replace hi := Lib.hid hi
      replace hX := Lib.hid hX
      clear hfv
      replace hA := Lib.hid hA
      refine wp_region_J 22 (fun w' => w'.cell? ⟨bx, 2, none⟩ = some (.slice pa p.length pc) ∧ w'.cell? ⟨b, 0, none⟩ = some (iv k.room) ∧ w'.cell? ⟨b, 1, none⟩ = some (.map (some r)) ∧ w'.heap[r]? = some o) (by kernel_rfl) ?_ (fun hF => ?_)
      · (try dsimp only)
        all_goals (first | exact kf | exact hkf.out _ _ s3)
      refine tk0 (i := 0) (oi := ⟨some 15, .fieldAddr 125 (.tmp 3) 2, 0, "disk.go:73", #[], none⟩) (v := ?_) rfl (by kernel_rfl) (fun _ _ _ h => h) (fun _ => hF) (fun w => ?_) (by rfl) ?_
      rotate_left
      · first | (go_simp; done) | (go_simp; with_reducible rfl) | (go_split_ands; go_simp; done)
      try simp only [Act.put, nrmA, nrmB, nrmC]
      refine tk1 (i := 1) (oi := ⟨some 16, .load 23 (.tmp 15), 23, "disk.go:73", #[⟨0, .data⟩], none⟩) (v := ?_) [2, 10, 11, 22] rfl (by kernel_rfl) (fun _ _ _ h => h) hF (fun w hFw => ?_) (by rfl) ?_
      rotate_left
      · ((try dsimp only at hFw); first | (go_simp; done) | (go_simp; with_reducible rfl) | (go_split_ands; go_simp; done))
      try simp only [Act.put, nrmA, nrmB, nrmC]
      refine tk1 (i := 2) (oi := ⟨some 17, .call { callee := .builtin .len, args := #[.tmp 16], argTypes := #[23] }, 3, "disk.go:73", #[⟨1, .data⟩], none⟩) (v := ?_) [10, 11, 22] rfl (by kernel_rfl) (fun _ _ _ h => h) hF (fun w hFw => ?_) (by rfl) ?_
      rotate_left
      · ((try dsimp only at hFw); first | (go_simp; done) | (go_simp; with_reducible rfl) | (go_split_ands; go_simp; done))
      try simp only [Act.put, nrmA, nrmB, nrmC]
      refine tk0 (i := 3) (oi := ⟨some 18, .move (.tmp 0), 28, "disk.go:73", #[], none⟩) (v := ?_) rfl (by kernel_rfl) (fun _ _ _ h => h) (fun _ => hF) (fun w => ?_) (by rfl) ?_
      rotate_left
      · first | (go_simp; done) | (go_simp; with_reducible rfl) | (go_split_ands; go_simp; done)
      try simp only [Act.put, nrmA, nrmB, nrmC]
      refine tk0 (i := 4) (oi := ⟨some 19, .nilCheck (.tmp 18), 0, "disk.go:73", #[⟨3, .data⟩], none⟩) (v := ?_) rfl (by kernel_rfl) (fun _ _ _ h => h) (fun _ => hF) (fun w => ?_) (by rfl) ?_
      rotate_left
      · first | (go_simp; done) | (go_simp; with_reducible rfl) | (go_split_ands; go_simp; done)
      try simp only [Act.put, nrmA, nrmB, nrmC]
      refine tk0 (i := 5) (oi := ⟨some 20, .fieldAddr 80 (.tmp 19) 0, 0, "disk.go:73", #[⟨4, .data⟩], none⟩) (v := ?_) rfl (by kernel_rfl) (fun _ _ _ h => h) (fun _ => hF) (fun w => ?_) (by rfl) ?_
      rotate_left
      · first | (go_simp; done) | (go_simp; with_reducible rfl) | (go_split_ands; go_simp; done)
      try simp only [Act.put, nrmA, nrmB, nrmC]
      refine tk1 (i := 6) (oi := ⟨some 21, .load 3 (.tmp 20), 3, "disk.go:73", #[⟨5, .data⟩], none⟩) (v := ?_) [9, 10, 11, 22] rfl (by kernel_rfl) (fun _ _ _ h => h) hF (fun w hFw => ?_) (by rfl) ?_
      rotate_left
      · ((try dsimp only at hFw); first | (go_simp; done) | (go_simp; with_reducible rfl) | (go_split_ands; go_simp; done))
      try simp only [Act.put, nrmA, nrmB, nrmC]
      refine tk0 (i := 7) (oi := ⟨some 22, .move (.tmp 0), 28, "disk.go:73", #[], none⟩) (v := ?_) rfl (by kernel_rfl) (fun _ _ _ h => h) (fun _ => hF) (fun w => ?_) (by rfl) ?_
      rotate_left
      · first | (go_simp; done) | (go_simp; with_reducible rfl) | (go_split_ands; go_simp; done)
      try simp only [Act.put, nrmA, nrmB, nrmC]
      refine wpAnyJ_ready (rs := [8]) (by kernel_rfl) (by simp) ?_
      refine AllJ.cons1 (o := ⟨some 23, .call { callee := .value (.func 98), args := #[.tmp 22], argTypes := #[28] }, 3, "disk.go:73", #[⟨7, .data⟩], none⟩) rfl (fun Kr hKr => ?_)
      go_simp; go_at_call 98; refine (hus.out _ (s2.drew.own 0 rfl)).mono ?_; rintro e w4 ⟨rfl, hst⟩; have s3 := s2.drew.put 0 rfl hst; simp only [List.set_cons_zero] at s3
      refine hKr.out _ _ (fun hJ => ?_) (fun hF => ?_)
      · first
        | exact absurd hJ (by decide)
        | (clear hJ; (try dsimp only); all_goals (first | exact kf | exact hkf.out _ _ s3))
      clear hKr
      try simp only [Act.put, nrmA, nrmB, nrmC]
      refine tk0 (i := 9) (oi := ⟨some 24, .binOp .sub 3 (.tmp 21) (.tmp 23) 3, 3, "disk.go:73", #[⟨6, .data⟩, ⟨8, .data⟩], none⟩) (v := ?_) rfl (by kernel_rfl) (fun _ _ _ h => h) (fun _ => hF (by kernel_rfl)) (fun w => ?_) (by rfl) ?_
      rotate_left
      · first | (go_simp; done) | (go_simp; with_reducible rfl) | (go_split_ands; go_simp; done)
      try simp only [Act.put, nrmA, nrmB, nrmC]
      refine tk0 (i := 10) (oi := ⟨some 25, .binOp .gtr 3 (.tmp 17) (.tmp 24) 3, 4, "disk.go:73", #[⟨2, .data⟩, ⟨9, .data⟩], none⟩) (v := ?_) rfl (by kernel_rfl) (fun _ _ _ h => h) (fun _ => hF (by kernel_rfl)) (fun w => ?_) (by rfl) ?_
      rotate_left
      · first | (go_simp; done) | (go_simp; with_reducible rfl) | (go_split_ands; go_simp; done)
      try simp only [Act.put, nrmA, nrmB, nrmC]
      refine tk0 (i := 11) (oi := ⟨some 26, .move (.tmp 25), 4, "disk.go:73", #[⟨10, .data⟩, ⟨8, .chain⟩], none⟩) (v := ?_) rfl (by kernel_rfl) (fun _ _ _ h => h) (fun _ => hF (by kernel_rfl)) (fun w => ?_) (by rfl) ?_
      rotate_left
      · first | (go_simp; done) | (go_simp; with_reducible rfl) | (go_split_ands; go_simp; done)
      try simp only [Act.put, nrmA, nrmB, nrmC]
      first
      | refine sk0 (i := 12) (oi := ⟨some 27, .move (.tmp 5), 102, "disk.go:73", #[⟨11, .guard⟩], some (11, false)⟩) rfl (by kernel_rfl) (fun _ _ _ h => h) (fun _ => hF (by kernel_rfl)) (by rfl) ?_
      | (refine tk0 (i := 12) (oi := ⟨some 27, .move (.tmp 5), 102, "disk.go:73", #[⟨11, .guard⟩], some (11, false)⟩) (v := ?_) rfl (by kernel_rfl) (fun _ _ _ h => h) (fun _ => hF (by kernel_rfl)) (fun w => ?_) (by rfl) ?_
         rotate_left
         · first | (go_simp; done) | (go_simp; with_reducible rfl) | (go_split_ands; go_simp; done))
      try simp only [Act.put, nrmA, nrmB, nrmC]
      first
      | refine sk0 (i := 13) (oi := ⟨some 28, .binOp .eql 102 (.tmp 27) (.const (.pointer none)) 102, 4, "disk.go:73", #[⟨12, .data⟩, ⟨11, .guard⟩], some (11, false)⟩) rfl (by kernel_rfl) (fun _ _ _ h => h) (fun _ => hF (by kernel_rfl)) (by rfl) ?_
      | (refine tk0 (i := 13) (oi := ⟨some 28, .binOp .eql 102 (.tmp 27) (.const (.pointer none)) 102, 4, "disk.go:73", #[⟨12, .data⟩, ⟨11, .guard⟩], some (11, false)⟩) (v := ?_) rfl (by kernel_rfl) (fun _ _ _ h => h) (fun _ => hF (by kernel_rfl)) (fun w => ?_) (by rfl) ?_
         rotate_left
         · first | (go_simp; done) | (go_simp; with_reducible rfl) | (go_split_ands; go_simp; done))
      try simp only [Act.put, nrmA, nrmB, nrmC]
      first
      | refine sk0 (i := 14) (oi := ⟨some 29, .move (.tmp 28), 4, "disk.go:73", #[⟨13, .data⟩, ⟨11, .chain⟩, ⟨11, .guard⟩], some (11, false)⟩) rfl (by kernel_rfl) (fun _ _ _ h => h) (fun _ => hF (by kernel_rfl)) (by rfl) ?_
      | (refine tk0 (i := 14) (oi := ⟨some 29, .move (.tmp 28), 4, "disk.go:73", #[⟨13, .data⟩, ⟨11, .chain⟩, ⟨11, .guard⟩], some (11, false)⟩) (v := ?_) rfl (by kernel_rfl) (fun _ _ _ h => h) (fun _ => hF (by kernel_rfl)) (fun w => ?_) (by rfl) ?_
         rotate_left
         · first | (go_simp; done) | (go_simp; with_reducible rfl) | (go_split_ands; go_simp; done))
      try simp only [Act.put, nrmA, nrmB, nrmC]
      first
      | refine sk0 (i := 15) (oi := ⟨some 30, .move (.tmp 0), 28, "disk.go:73", #[⟨14, .guard⟩], some (14, true)⟩) rfl (by kernel_rfl) (fun _ _ _ h => h) (fun _ => hF (by kernel_rfl)) (by rfl) ?_
      | (refine tk0 (i := 15) (oi := ⟨some 30, .move (.tmp 0), 28, "disk.go:73", #[⟨14, .guard⟩], some (14, true)⟩) (v := ?_) rfl (by kernel_rfl) (fun _ _ _ h => h) (fun _ => hF (by kernel_rfl)) (fun w => ?_) (by rfl) ?_
         rotate_left
         · first | (go_simp; done) | (go_simp; with_reducible rfl) | (go_split_ands; go_simp; done))
      try simp only [Act.put, nrmA, nrmB, nrmC]
      first
      | refine sk0 (i := 16) (oi := ⟨some 31, .nilCheck (.tmp 30), 0, "disk.go:73", #[⟨15, .data⟩, ⟨14, .guard⟩], some (14, true)⟩) rfl (by kernel_rfl) (fun _ _ _ h => h) (fun _ => hF (by kernel_rfl)) (by rfl) ?_
      | (refine tk0 (i := 16) (oi := ⟨some 31, .nilCheck (.tmp 30), 0, "disk.go:73", #[⟨15, .data⟩, ⟨14, .guard⟩], some (14, true)⟩) (v := ?_) rfl (by kernel_rfl) (fun _ _ _ h => h) (fun _ => hF (by kernel_rfl)) (fun w => ?_) (by rfl) ?_
         rotate_left
         · first | (go_simp; done) | (go_simp; with_reducible rfl) | (go_split_ands; go_simp; done))
      try simp only [Act.put, nrmA, nrmB, nrmC]
      first
      | refine sk0 (i := 17) (oi := ⟨some 32, .fieldAddr 80 (.tmp 31) 1, 0, "disk.go:73", #[⟨16, .data⟩, ⟨14, .guard⟩], some (14, true)⟩) rfl (by kernel_rfl) (fun _ _ _ h => h) (fun _ => hF (by kernel_rfl)) (by rfl) ?_
      | (refine tk0 (i := 17) (oi := ⟨some 32, .fieldAddr 80 (.tmp 31) 1, 0, "disk.go:73", #[⟨16, .data⟩, ⟨14, .guard⟩], some (14, true)⟩) (v := ?_) rfl (by kernel_rfl) (fun _ _ _ h => h) (fun _ => hF (by kernel_rfl)) (fun w => ?_) (by rfl) ?_
         rotate_left
         · first | (go_simp; done) | (go_simp; with_reducible rfl) | (go_split_ands; go_simp; done))
      try simp only [Act.put, nrmA, nrmB, nrmC]
      first
      | refine sk0 (i := 18) (oi := ⟨some 33, .load 78 (.tmp 32), 78, "disk.go:73", #[⟨17, .data⟩, ⟨14, .guard⟩], some (14, true)⟩) rfl (by kernel_rfl) (fun _ _ _ h => h) (fun _ => hF (by kernel_rfl)) (by rfl) ?_
      | (refine tk1 (i := 18) (oi := ⟨some 33, .load 78 (.tmp 32), 78, "disk.go:73", #[⟨17, .data⟩, ⟨14, .guard⟩], some (14, true)⟩) (v := ?_) [19, 20, 21, 22] rfl (by kernel_rfl) (fun _ _ _ h => h) (hF (by kernel_rfl)) (fun w hFw => ?_) (by rfl) ?_
         rotate_left
         · ((try dsimp only at hFw); first | (go_simp; done) | (go_simp; with_reducible rfl) | (go_split_ands; go_simp; done)))
      try simp only [Act.put, nrmA, nrmB, nrmC]
      first
      | refine sk0 (i := 19) (oi := ⟨some 34, .call { callee := .builtin .len, args := #[.tmp 33], argTypes := #[78] }, 3, "disk.go:73", #[⟨18, .data⟩, ⟨14, .chain⟩, ⟨14, .guard⟩], some (14, true)⟩) rfl (by kernel_rfl) (fun _ _ _ h => h) (fun _ => hF (by kernel_rfl)) (by rfl) ?_
      | (refine tk1 (i := 19) (oi := ⟨some 34, .call { callee := .builtin .len, args := #[.tmp 33], argTypes := #[78] }, 3, "disk.go:73", #[⟨18, .data⟩, ⟨14, .chain⟩, ⟨14, .guard⟩], some (14, true)⟩) (v := (.int .i64 (k.L.length : Nat))) [20, 21, 22] rfl (by kernel_rfl) (fun _ _ _ h => h) (hF (by kernel_rfl)) (fun w hFw => ?_) (by rfl) ?_
         · ((try dsimp only at hFw); exact exec_mlen _ _ rfl (by rfl) (hml.out _ hFw.2.2.2 _)))
      try simp only [Act.put, nrmA, nrmB, nrmC]
      first
      | refine sk0 (i := 20) (oi := ⟨some 35, .binOp .geq 3 (.tmp 34) (.const (.int .i64 4096)) 3, 4, "disk.go:73", #[⟨19, .data⟩, ⟨14, .guard⟩], some (14, true)⟩) rfl (by kernel_rfl) (fun _ _ _ h => h) (fun _ => hF (by kernel_rfl)) (by rfl) ?_
      | (refine tk0 (i := 20) (oi := ⟨some 35, .binOp .geq 3 (.tmp 34) (.const (.int .i64 4096)) 3, 4, "disk.go:73", #[⟨19, .data⟩, ⟨14, .guard⟩], some (14, true)⟩) (v := ?_) rfl (by kernel_rfl) (fun _ _ _ h => h) (fun _ => hF (by kernel_rfl)) (fun w => ?_) (by rfl) ?_
         rotate_left
         · first | (go_simp; done) | (go_simp; with_reducible rfl) | (go_split_ands; go_simp; done))
      try simp only [Act.put, nrmA, nrmB, nrmC]
      first
      | refine sk0 (i := 21) (oi := ⟨some 36, .pick (.tmp 29) (.tmp 35) (.const (.bool false)), 4, "disk.go:73", #[⟨14, .data⟩, ⟨20, .data⟩, ⟨11, .guard⟩], some (11, false)⟩) rfl (by kernel_rfl) (fun _ _ _ h => h) (fun _ => hF (by kernel_rfl)) (by rfl) ?_
      | (refine tk0 (i := 21) (oi := ⟨some 36, .pick (.tmp 29) (.tmp 35) (.const (.bool false)), 4, "disk.go:73", #[⟨14, .data⟩, ⟨20, .data⟩, ⟨11, .guard⟩], some (11, false)⟩) (v := ?_) rfl (by kernel_rfl) (fun _ _ _ h => h) (fun _ => hF (by kernel_rfl)) (fun w => ?_) (by rfl) ?_
         rotate_left
         · first | (go_simp; done) | (go_simp; with_reducible rfl) | (go_split_ands; go_simp; done))
      try simp only [Act.put, nrmA, nrmB, nrmC]
      refine wpAnyJ_ready (rs := [22]) (by kernel_rfl) (by simp) ?_
      refine AllJ.cons1 (o := ⟨some 37, .pick (.tmp 26) (.const (.bool true)) (.tmp 36), 4, "disk.go:73", #[⟨11, .data⟩, ⟨21, .data⟩], none⟩) rfl (fun Kr hKr => ?_)
      go_simp
      refine hKr.out _ _ (fun hJ => ?_) (fun hF => ?_)
      · first
        | exact absurd hJ (by decide)
        | (clear hJ; (try dsimp only); all_goals (first | exact kf | exact hkf.out _ _ s3))
      clear hKr
      try simp only [Act.put, nrmA, nrmB, nrmC]
      refine wpAnyJ_done (by kernel_rfl) ?_ _
      have hP : Parted b bx (wobj ng nc n pa p.length pc) k nm fu lf H w w4 r o A x B := by
        have hXX := hX.out
        subst hXX
        exact parted_of hm hok hi.out hxn hget0 hput0 (by rw [← hH.out]; exact s3)
      replace hA := hA.out
      obtain ⟨hm2, hok2, hxn, hget, hput, s5⟩ := hP
      go_upto_region 7 with fail
      refine Sp.gen s5 ?_
      clear s5
      intro W5 s5
      have d2 := (cells3 (s5.one 4 rfl)).2.2
      have ⟨e0, e1⟩ := cells2 (s5.one 1 rfl)
      have hxo := Lib.hid (hok2 x (by simp))
      have hbd : x.d.length + p.length ≤ 1073741824 := by
        have h1 : x.d.length ≤ usedF k.L := by
          cases hi' : isF k.L nm
          · rw [getF_no hi'] at hget
            have : x.d = [] := congrArg Prod.fst hget
            rw [this]; exact Nat.zero_le _
          · have := used_get hi'
            rw [← hget] at this
            exact this
        have := hk.room
        omega
      have hgv : Hid ({ k with L := putF k.L nm ((getF k.L nm).1 ++ p, (getF k.L nm).2) } = { k with L := putF k.L nm (x.d ++ p, x.n) }) := by show _ = _; rw [← hget]
      have hl6 : Hid ((x.d ++ p).length = x.d.length + p.length) := List.length_append
      replace hm2 := Lib.hid hm2
      replace hok2 := Lib.hid hok2
      replace hput := Lib.hid hput
      replace hxn := Lib.hid hxn
      replace hget := Lib.hid hget
      replace hA := Lib.hid hA
      refine wp_region_J 7 (fun w' => w' = W5.drew) (by kernel_rfl) ?_ (fun hF => ?_)
      · (try dsimp only)
        all_goals (rfl)
      refine tk0 (i := 0) (oi := ⟨some 51, .move (.tmp 5), 102, "disk.go:80", #[], none⟩) (v := ?_) rfl (by kernel_rfl) (fun _ _ _ h => h) (fun _ => hF) (fun w => ?_) (by rfl) ?_
      rotate_left
      · first | (go_simp; done) | (go_simp; with_reducible rfl) | (go_split_ands; go_simp; done)
      try simp only [Act.put, nrmA, nrmB, nrmC]
      refine tk0 (i := 1) (oi := ⟨some 52, .move (.tmp 5), 102, "disk.go:80", #[], none⟩) (v := ?_) rfl (by kernel_rfl) (fun _ _ _ h => h) (fun _ => hF) (fun w => ?_) (by rfl) ?_
      rotate_left
      · first | (go_simp; done) | (go_simp; with_reducible rfl) | (go_split_ands; go_simp; done)
      try simp only [Act.put, nrmA, nrmB, nrmC]
      refine tk0 (i := 2) (oi := ⟨some 53, .nilCheck (.tmp 52), 0, "disk.go:80", #[⟨1, .data⟩], none⟩) (v := ?_) rfl (by kernel_rfl) (fun _ _ _ h => h) (fun _ => hF) (fun w => ?_) (by rfl) ?_
      rotate_left
      · first | (go_simp; done) | (go_simp; with_reducible rfl) | (go_split_ands; go_simp; done)
      try simp only [Act.put, nrmA, nrmB, nrmC]
      refine tk0 (i := 3) (oi := ⟨some 54, .fieldAddr 104 (.tmp 53) 0, 0, "disk.go:80", #[⟨2, .data⟩], none⟩) (v := ?_) rfl (by kernel_rfl) (fun _ _ _ h => h) (fun _ => hF) (fun w => ?_) (by rfl) ?_
      rotate_left
      · first | (go_simp; done) | (go_simp; with_reducible rfl) | (go_split_ands; go_simp; done)
      try simp only [Act.put, nrmA, nrmB, nrmC]
      refine tk1 (i := 4) (oi := ⟨some 55, .load 23 (.tmp 54), 23, "disk.go:80", #[⟨3, .data⟩], none⟩) (v := ?_) [7] rfl (by kernel_rfl) (fun _ _ _ h => h) hF (fun w hFw => ?_) (by rfl) ?_
      rotate_left
      · ((try dsimp only at hFw); first | (go_simp; done) | (go_simp; with_reducible rfl) | (go_split_ands; go_simp; done))
      try simp only [Act.put, nrmA, nrmB, nrmC]
      refine tk0 (i := 5) (oi := ⟨some 56, .fieldAddr 125 (.tmp 3) 2, 0, "disk.go:80", #[], none⟩) (v := ?_) rfl (by kernel_rfl) (fun _ _ _ h => h) (fun _ => hF) (fun w => ?_) (by rfl) ?_
      rotate_left
      · first | (go_simp; done) | (go_simp; with_reducible rfl) | (go_split_ands; go_simp; done)
      try simp only [Act.put, nrmA, nrmB, nrmC]
      refine tk1 (i := 6) (oi := ⟨some 57, .load 23 (.tmp 56), 23, "disk.go:80", #[⟨5, .data⟩], none⟩) (v := ?_) [7] rfl (by kernel_rfl) (fun _ _ _ h => h) hF (fun w hFw => ?_) (by rfl) ?_
      rotate_left
      · ((try dsimp only at hFw); first | (go_simp; done) | (go_simp; with_reducible rfl) | (go_split_ands; go_simp; done))
      try simp only [Act.put, nrmA, nrmB, nrmC]
      refine wpAnyJ_ready (rs := [7]) (by kernel_rfl) (by simp) ?_
      refine AllJ.cons1 (o := ⟨some 58, .call { callee := .builtin .append, args := #[.tmp 55, .tmp 57], argTypes := #[23, 23] }, 23, "disk.go:80", #[⟨4, .data⟩, ⟨6, .data⟩], none⟩) rfl (fun Kr hKr => ?_)
      refine step_appAt rfl st_u8 _ _ (by rfl) (by rfl) (by rfl) hxo.out (s5.drew.own 2 rfl) (rdBytes_cells (hb0.out _ _ s5.drew)) (by unfold maxLen; omega) (by omega) ?_
      intro a2 c2 w6 H6 hv6 hst6
      have s6 := s5.drew.put 2 rfl hst6
      simp only [List.set_cons_succ, List.set_cons_zero] at s6
      have ⟨e0, e1⟩ := cells2 (s6.one 1 rfl)
      have fz := fun i => frz_of (i := i) (s6.one 1 rfl)
      have xlt := heap_lt (s6.one 1 rfl)
      refine hKr.out _ _ (fun hJ => ?_) (fun hF => ?_)
      · first
        | exact absurd hJ (by decide)
        | (clear hJ; (try dsimp only); all_goals (rfl))
      clear hKr
      try simp only [Act.put, nrmA, nrmB, nrmC]
      refine tk0 (i := 8) (oi := ⟨some 59, .nilCheck (.tmp 51), 0, "disk.go:80", #[⟨0, .data⟩, ⟨0, .phase⟩, ⟨1, .phase⟩, ⟨2, .phase⟩, ⟨3, .phase⟩, ⟨4, .phase⟩, ⟨5, .phase⟩, ⟨6, .phase⟩, ⟨7, .phase⟩], none⟩) (v := ?_) rfl (by kernel_rfl) (fun _ _ _ h => h) (fun hJ => absurd hJ (by decide)) (fun w => ?_) (by rfl) ?_
      rotate_left
      · first | (go_simp; done) | (go_simp; with_reducible rfl) | (go_split_ands; go_simp; done)
      try simp only [Act.put, nrmA, nrmB, nrmC]
      refine tk0 (i := 9) (oi := ⟨some 60, .fieldAddr 104 (.tmp 59) 0, 0, "disk.go:80", #[⟨8, .data⟩, ⟨0, .phase⟩, ⟨1, .phase⟩, ⟨2, .phase⟩, ⟨3, .phase⟩, ⟨4, .phase⟩, ⟨5, .phase⟩, ⟨6, .phase⟩, ⟨7, .phase⟩], none⟩) (v := ?_) rfl (by kernel_rfl) (fun _ _ _ h => h) (fun hJ => absurd hJ (by decide)) (fun w => ?_) (by rfl) ?_
      rotate_left
      · first | (go_simp; done) | (go_simp; with_reducible rfl) | (go_split_ands; go_simp; done)
      try simp only [Act.put, nrmA, nrmB, nrmC]
      refine wpAnyJ_ready (rs := [10]) (by kernel_rfl) (by simp) ?_
      refine AllJ.cons1 (o := ⟨none, .store 23 (.tmp 60) (.tmp 58), 0, "disk.go:80", #[⟨9, .data⟩, ⟨7, .data⟩, ⟨7, .chain⟩, ⟨0, .phase⟩, ⟨1, .phase⟩, ⟨2, .phase⟩, ⟨3, .phase⟩, ⟨4, .phase⟩, ⟨5, .phase⟩, ⟨6, .phase⟩, ⟨7, .phase⟩], none⟩) rfl (fun Kr hKr => ?_)
      go_simp
      refine hKr.out _ _ (fun hJ => ?_) (fun hF => ?_)
      · first
        | exact absurd hJ (by decide)
        | (clear hJ; (try dsimp only); all_goals (rfl))
      clear hKr
      try simp only [Act.put, nrmA, nrmB, nrmC]
      refine wpAnyJ_done (by kernel_rfl) ?_ _
      go_wp2
      go_ret
      rw [hr.out, hgv.out]
      have s7 := s6.store 1 (j := 0) rfl (.slice a2 (x.d.length + p.length) c2)
      exact ⟨rfl, parted_done hm2.out hok2.out hxn.out hput.out hl6.out (by rw [List.map_append]; exact hv6) hf (by exact s7)⟩
    · by_cases hM : 4096 ≤ k.L.length
      · have hr : Hid (wrI nm p k = (6, k)) := by show _ = _; unfold wrI; rw [if_pos (.inr ⟨hi, hM⟩)]
        have m1 : (4096 : Int) ≤ (k.L.length : Int) := by omega
        have m2 : decide ((4096 : Int) ≤ (k.L.length : Int)) = true := decide_eq_true m1
        clear hA hM hi hfv
        refine wp_region_J 22 (fun w' => w'.cell? ⟨bx, 2, none⟩ = some (.slice pa p.length pc) ∧ w'.cell? ⟨b, 0, none⟩ = some (iv k.room) ∧ w'.cell? ⟨b, 1, none⟩ = some (.map (some r)) ∧ w'.heap[r]? = some o) (by kernel_rfl) ?_ (fun hF => ?_)
        · (try dsimp only)
          all_goals (first | exact kf | exact hkf.out _ _ s3)
        refine tk0 (i := 0) (oi := ⟨some 15, .fieldAddr 125 (.tmp 3) 2, 0, "disk.go:73", #[], none⟩) (v := ?_) rfl (by kernel_rfl) (fun _ _ _ h => h) (fun _ => hF) (fun w => ?_) (by rfl) ?_
        rotate_left
        · first | (go_simp; done) | (go_simp; with_reducible rfl) | (go_split_ands; go_simp; done)
        try simp only [Act.put, nrmA, nrmB, nrmC]
        refine tk1 (i := 1) (oi := ⟨some 16, .load 23 (.tmp 15), 23, "disk.go:73", #[⟨0, .data⟩], none⟩) (v := ?_) [2, 10, 11, 22] rfl (by kernel_rfl) (fun _ _ _ h => h) hF (fun w hFw => ?_) (by rfl) ?_
        rotate_left
        · ((try dsimp only at hFw); first | (go_simp; done) | (go_simp; with_reducible rfl) | (go_split_ands; go_simp; done))
        try simp only [Act.put, nrmA, nrmB, nrmC]
        refine tk1 (i := 2) (oi := ⟨some 17, .call { callee := .builtin .len, args := #[.tmp 16], argTypes := #[23] }, 3, "disk.go:73", #[⟨1, .data⟩], none⟩) (v := ?_) [10, 11, 22] rfl (by kernel_rfl) (fun _ _ _ h => h) hF (fun w hFw => ?_) (by rfl) ?_
        rotate_left
        · ((try dsimp only at hFw); first | (go_simp; done) | (go_simp; with_reducible rfl) | (go_split_ands; go_simp; done))
        try simp only [Act.put, nrmA, nrmB, nrmC]
        refine tk0 (i := 3) (oi := ⟨some 18, .move (.tmp 0), 28, "disk.go:73", #[], none⟩) (v := ?_) rfl (by kernel_rfl) (fun _ _ _ h => h) (fun _ => hF) (fun w => ?_) (by rfl) ?_
        rotate_left
        · first | (go_simp; done) | (go_simp; with_reducible rfl) | (go_split_ands; go_simp; done)
        try simp only [Act.put, nrmA, nrmB, nrmC]
        refine tk0 (i := 4) (oi := ⟨some 19, .nilCheck (.tmp 18), 0, "disk.go:73", #[⟨3, .data⟩], none⟩) (v := ?_) rfl (by kernel_rfl) (fun _ _ _ h => h) (fun _ => hF) (fun w => ?_) (by rfl) ?_
        rotate_left
        · first | (go_simp; done) | (go_simp; with_reducible rfl) | (go_split_ands; go_simp; done)
        try simp only [Act.put, nrmA, nrmB, nrmC]
        refine tk0 (i := 5) (oi := ⟨some 20, .fieldAddr 80 (.tmp 19) 0, 0, "disk.go:73", #[⟨4, .data⟩], none⟩) (v := ?_) rfl (by kernel_rfl) (fun _ _ _ h => h) (fun _ => hF) (fun w => ?_) (by rfl) ?_
        rotate_left
        · first | (go_simp; done) | (go_simp; with_reducible rfl) | (go_split_ands; go_simp; done)
        try simp only [Act.put, nrmA, nrmB, nrmC]
        refine tk1 (i := 6) (oi := ⟨some 21, .load 3 (.tmp 20), 3, "disk.go:73", #[⟨5, .data⟩], none⟩) (v := ?_) [9, 10, 11, 22] rfl (by kernel_rfl) (fun _ _ _ h => h) hF (fun w hFw => ?_) (by rfl) ?_
        rotate_left
        · ((try dsimp only at hFw); first | (go_simp; done) | (go_simp; with_reducible rfl) | (go_split_ands; go_simp; done))
        try simp only [Act.put, nrmA, nrmB, nrmC]
        refine tk0 (i := 7) (oi := ⟨some 22, .move (.tmp 0), 28, "disk.go:73", #[], none⟩) (v := ?_) rfl (by kernel_rfl) (fun _ _ _ h => h) (fun _ => hF) (fun w => ?_) (by rfl) ?_
        rotate_left
        · first | (go_simp; done) | (go_simp; with_reducible rfl) | (go_split_ands; go_simp; done)
        try simp only [Act.put, nrmA, nrmB, nrmC]
        refine wpAnyJ_ready (rs := [8]) (by kernel_rfl) (by simp) ?_
        refine AllJ.cons1 (o := ⟨some 23, .call { callee := .value (.func 98), args := #[.tmp 22], argTypes := #[28] }, 3, "disk.go:73", #[⟨7, .data⟩], none⟩) rfl (fun Kr hKr => ?_)
        go_simp; go_at_call 98; refine (hus.out _ (s2.drew.own 0 rfl)).mono ?_; rintro e w4 ⟨rfl, hst⟩; have s3 := s2.drew.put 0 rfl hst; simp only [List.set_cons_zero] at s3
        refine hKr.out _ _ (fun hJ => ?_) (fun hF => ?_)
        · first
          | exact absurd hJ (by decide)
          | (clear hJ; (try dsimp only); all_goals (first | exact kf | exact hkf.out _ _ s3))
        clear hKr
        try simp only [Act.put, nrmA, nrmB, nrmC]
        refine tk0 (i := 9) (oi := ⟨some 24, .binOp .sub 3 (.tmp 21) (.tmp 23) 3, 3, "disk.go:73", #[⟨6, .data⟩, ⟨8, .data⟩], none⟩) (v := ?_) rfl (by kernel_rfl) (fun _ _ _ h => h) (fun _ => hF (by kernel_rfl)) (fun w => ?_) (by rfl) ?_
        rotate_left
        · first | (go_simp; done) | (go_simp; with_reducible rfl) | (go_split_ands; go_simp; done)
        try simp only [Act.put, nrmA, nrmB, nrmC]
        refine tk0 (i := 10) (oi := ⟨some 25, .binOp .gtr 3 (.tmp 17) (.tmp 24) 3, 4, "disk.go:73", #[⟨2, .data⟩, ⟨9, .data⟩], none⟩) (v := ?_) rfl (by kernel_rfl) (fun _ _ _ h => h) (fun _ => hF (by kernel_rfl)) (fun w => ?_) (by rfl) ?_
        rotate_left
        · first | (go_simp; done) | (go_simp; with_reducible rfl) | (go_split_ands; go_simp; done)
        try simp only [Act.put, nrmA, nrmB, nrmC]
        refine tk0 (i := 11) (oi := ⟨some 26, .move (.tmp 25), 4, "disk.go:73", #[⟨10, .data⟩, ⟨8, .chain⟩], none⟩) (v := ?_) rfl (by kernel_rfl) (fun _ _ _ h => h) (fun _ => hF (by kernel_rfl)) (fun w => ?_) (by rfl) ?_
        rotate_left
        · first | (go_simp; done) | (go_simp; with_reducible rfl) | (go_split_ands; go_simp; done)
        try simp only [Act.put, nrmA, nrmB, nrmC]
        first
        | refine sk0 (i := 12) (oi := ⟨some 27, .move (.tmp 5), 102, "disk.go:73", #[⟨11, .guard⟩], some (11, false)⟩) rfl (by kernel_rfl) (fun _ _ _ h => h) (fun _ => hF (by kernel_rfl)) (by rfl) ?_
        | (refine tk0 (i := 12) (oi := ⟨some 27, .move (.tmp 5), 102, "disk.go:73", #[⟨11, .guard⟩], some (11, false)⟩) (v := ?_) rfl (by kernel_rfl) (fun _ _ _ h => h) (fun _ => hF (by kernel_rfl)) (fun w => ?_) (by rfl) ?_
           rotate_left
           · first | (go_simp; done) | (go_simp; with_reducible rfl) | (go_split_ands; go_simp; done))
        try simp only [Act.put, nrmA, nrmB, nrmC]
        first
        | refine sk0 (i := 13) (oi := ⟨some 28, .binOp .eql 102 (.tmp 27) (.const (.pointer none)) 102, 4, "disk.go:73", #[⟨12, .data⟩, ⟨11, .guard⟩], some (11, false)⟩) rfl (by kernel_rfl) (fun _ _ _ h => h) (fun _ => hF (by kernel_rfl)) (by rfl) ?_
        | (refine tk0 (i := 13) (oi := ⟨some 28, .binOp .eql 102 (.tmp 27) (.const (.pointer none)) 102, 4, "disk.go:73", #[⟨12, .data⟩, ⟨11, .guard⟩], some (11, false)⟩) (v := ?_) rfl (by kernel_rfl) (fun _ _ _ h => h) (fun _ => hF (by kernel_rfl)) (fun w => ?_) (by rfl) ?_
           rotate_left
           · first | (go_simp; done) | (go_simp; with_reducible rfl) | (go_split_ands; go_simp; done))
        try simp only [Act.put, nrmA, nrmB, nrmC]
        first
        | refine sk0 (i := 14) (oi := ⟨some 29, .move (.tmp 28), 4, "disk.go:73", #[⟨13, .data⟩, ⟨11, .chain⟩, ⟨11, .guard⟩], some (11, false)⟩) rfl (by kernel_rfl) (fun _ _ _ h => h) (fun _ => hF (by kernel_rfl)) (by rfl) ?_
        | (refine tk0 (i := 14) (oi := ⟨some 29, .move (.tmp 28), 4, "disk.go:73", #[⟨13, .data⟩, ⟨11, .chain⟩, ⟨11, .guard⟩], some (11, false)⟩) (v := ?_) rfl (by kernel_rfl) (fun _ _ _ h => h) (fun _ => hF (by kernel_rfl)) (fun w => ?_) (by rfl) ?_
           rotate_left
           · first | (go_simp; done) | (go_simp; with_reducible rfl) | (go_split_ands; go_simp; done))
        try simp only [Act.put, nrmA, nrmB, nrmC]
        first
        | refine sk0 (i := 15) (oi := ⟨some 30, .move (.tmp 0), 28, "disk.go:73", #[⟨14, .guard⟩], some (14, true)⟩) rfl (by kernel_rfl) (fun _ _ _ h => h) (fun _ => hF (by kernel_rfl)) (by rfl) ?_
        | (refine tk0 (i := 15) (oi := ⟨some 30, .move (.tmp 0), 28, "disk.go:73", #[⟨14, .guard⟩], some (14, true)⟩) (v := ?_) rfl (by kernel_rfl) (fun _ _ _ h => h) (fun _ => hF (by kernel_rfl)) (fun w => ?_) (by rfl) ?_
           rotate_left
           · first | (go_simp; done) | (go_simp; with_reducible rfl) | (go_split_ands; go_simp; done))
        try simp only [Act.put, nrmA, nrmB, nrmC]
        first
        | refine sk0 (i := 16) (oi := ⟨some 31, .nilCheck (.tmp 30), 0, "disk.go:73", #[⟨15, .data⟩, ⟨14, .guard⟩], some (14, true)⟩) rfl (by kernel_rfl) (fun _ _ _ h => h) (fun _ => hF (by kernel_rfl)) (by rfl) ?_
        | (refine tk0 (i := 16) (oi := ⟨some 31, .nilCheck (.tmp 30), 0, "disk.go:73", #[⟨15, .data⟩, ⟨14, .guard⟩], some (14, true)⟩) (v := ?_) rfl (by kernel_rfl) (fun _ _ _ h => h) (fun _ => hF (by kernel_rfl)) (fun w => ?_) (by rfl) ?_
           rotate_left
           · first | (go_simp; done) | (go_simp; with_reducible rfl) | (go_split_ands; go_simp; done))
        try simp only [Act.put, nrmA, nrmB, nrmC]
        first
        | refine sk0 (i := 17) (oi := ⟨some 32, .fieldAddr 80 (.tmp 31) 1, 0, "disk.go:73", #[⟨16, .data⟩, ⟨14, .guard⟩], some (14, true)⟩) rfl (by kernel_rfl) (fun _ _ _ h => h) (fun _ => hF (by kernel_rfl)) (by rfl) ?_
        | (refine tk0 (i := 17) (oi := ⟨some 32, .fieldAddr 80 (.tmp 31) 1, 0, "disk.go:73", #[⟨16, .data⟩, ⟨14, .guard⟩], some (14, true)⟩) (v := ?_) rfl (by kernel_rfl) (fun _ _ _ h => h) (fun _ => hF (by kernel_rfl)) (fun w => ?_) (by rfl) ?_
           rotate_left
           · first | (go_simp; done) | (go_simp; with_reducible rfl) | (go_split_ands; go_simp; done))
        try simp only [Act.put, nrmA, nrmB, nrmC]
        first
        | refine sk0 (i := 18) (oi := ⟨some 33, .load 78 (.tmp 32), 78, "disk.go:73", #[⟨17, .data⟩, ⟨14, .guard⟩], some (14, true)⟩) rfl (by kernel_rfl) (fun _ _ _ h => h) (fun _ => hF (by kernel_rfl)) (by rfl) ?_
        | (refine tk1 (i := 18) (oi := ⟨some 33, .load 78 (.tmp 32), 78, "disk.go:73", #[⟨17, .data⟩, ⟨14, .guard⟩], some (14, true)⟩) (v := ?_) [19, 20, 21, 22] rfl (by kernel_rfl) (fun _ _ _ h => h) (hF (by kernel_rfl)) (fun w hFw => ?_) (by rfl) ?_
           rotate_left
           · ((try dsimp only at hFw); first | (go_simp; done) | (go_simp; with_reducible rfl) | (go_split_ands; go_simp; done)))
        try simp only [Act.put, nrmA, nrmB, nrmC]
        first
        | refine sk0 (i := 19) (oi := ⟨some 34, .call { callee := .builtin .len, args := #[.tmp 33], argTypes := #[78] }, 3, "disk.go:73", #[⟨18, .data⟩, ⟨14, .chain⟩, ⟨14, .guard⟩], some (14, true)⟩) rfl (by kernel_rfl) (fun _ _ _ h => h) (fun _ => hF (by kernel_rfl)) (by rfl) ?_
        | (refine tk1 (i := 19) (oi := ⟨some 34, .call { callee := .builtin .len, args := #[.tmp 33], argTypes := #[78] }, 3, "disk.go:73", #[⟨18, .data⟩, ⟨14, .chain⟩, ⟨14, .guard⟩], some (14, true)⟩) (v := (.int .i64 (k.L.length : Nat))) [20, 21, 22] rfl (by kernel_rfl) (fun _ _ _ h => h) (hF (by kernel_rfl)) (fun w hFw => ?_) (by rfl) ?_
           · ((try dsimp only at hFw); exact exec_mlen _ _ rfl (by rfl) (hml.out _ hFw.2.2.2 _)))
        try simp only [Act.put, nrmA, nrmB, nrmC]
        first
        | refine sk0 (i := 20) (oi := ⟨some 35, .binOp .geq 3 (.tmp 34) (.const (.int .i64 4096)) 3, 4, "disk.go:73", #[⟨19, .data⟩, ⟨14, .guard⟩], some (14, true)⟩) rfl (by kernel_rfl) (fun _ _ _ h => h) (fun _ => hF (by kernel_rfl)) (by rfl) ?_
        | (refine tk0 (i := 20) (oi := ⟨some 35, .binOp .geq 3 (.tmp 34) (.const (.int .i64 4096)) 3, 4, "disk.go:73", #[⟨19, .data⟩, ⟨14, .guard⟩], some (14, true)⟩) (v := ?_) rfl (by kernel_rfl) (fun _ _ _ h => h) (fun _ => hF (by kernel_rfl)) (fun w => ?_) (by rfl) ?_
           rotate_left
           · first | (go_simp; done) | (go_simp; with_reducible rfl) | (go_split_ands; go_simp; done))
        try simp only [Act.put, nrmA, nrmB, nrmC]
        first
        | refine sk0 (i := 21) (oi := ⟨some 36, .pick (.tmp 29) (.tmp 35) (.const (.bool false)), 4, "disk.go:73", #[⟨14, .data⟩, ⟨20, .data⟩, ⟨11, .guard⟩], some (11, false)⟩) rfl (by kernel_rfl) (fun _ _ _ h => h) (fun _ => hF (by kernel_rfl)) (by rfl) ?_
        | (refine tk0 (i := 21) (oi := ⟨some 36, .pick (.tmp 29) (.tmp 35) (.const (.bool false)), 4, "disk.go:73", #[⟨14, .data⟩, ⟨20, .data⟩, ⟨11, .guard⟩], some (11, false)⟩) (v := ?_) rfl (by kernel_rfl) (fun _ _ _ h => h) (fun _ => hF (by kernel_rfl)) (fun w => ?_) (by rfl) ?_
           rotate_left
           · first | (go_simp; done) | (go_simp; with_reducible rfl) | (go_split_ands; go_simp; done))
        try simp only [Act.put, nrmA, nrmB, nrmC]
        refine wpAnyJ_ready (rs := [22]) (by kernel_rfl) (by simp) ?_
        refine AllJ.cons1 (o := ⟨some 37, .pick (.tmp 26) (.const (.bool true)) (.tmp 36), 4, "disk.go:73", #[⟨11, .data⟩, ⟨21, .data⟩], none⟩) rfl (fun Kr hKr => ?_)
        go_simp
        refine hKr.out _ _ (fun hJ => ?_) (fun hF => ?_)
        · first
          | exact absurd hJ (by decide)
          | (clear hJ; (try dsimp only); all_goals (first | exact kf | exact hkf.out _ _ s3))
        clear hKr
        try simp only [Act.put, nrmA, nrmB, nrmC]
        refine wpAnyJ_done (by kernel_rfl) ?_ _
        go_wp2
        go_ret
        rw [hr.out]
        exact ⟨rfl, _, hrep.out, s3.first⟩
      · have hr : Hid (wrI nm p k = (0, { k with L := putF k.L nm ((getF k.L nm).1 ++ p, (getF k.L nm).2) })) := wrI_ok hA (by omega)
        have m1 : (k.L.length : Int) < 4096 := by omega
        have m2 : decide ((4096 : Int) ≤ (k.L.length : Int)) = false := decide_eq_false (by omega)
        replace hi := Lib.hid hi
        clear hM hfv
        replace hA := Lib.hid hA
        refine wp_region_J 22 (fun w' => w'.cell? ⟨bx, 2, none⟩ = some (.slice pa p.length pc) ∧ w'.cell? ⟨b, 0, none⟩ = some (iv k.room) ∧ w'.cell? ⟨b, 1, none⟩ = some (.map (some r)) ∧ w'.heap[r]? = some o) (by kernel_rfl) ?_ (fun hF => ?_)
        · (try dsimp only)
          all_goals (first | exact kf | exact hkf.out _ _ s3)
        refine tk0 (i := 0) (oi := ⟨some 15, .fieldAddr 125 (.tmp 3) 2, 0, "disk.go:73", #[], none⟩) (v := ?_) rfl (by kernel_rfl) (fun _ _ _ h => h) (fun _ => hF) (fun w => ?_) (by rfl) ?_
        rotate_left
        · first | (go_simp; done) | (go_simp; with_reducible rfl) | (go_split_ands; go_simp; done)
        try simp only [Act.put, nrmA, nrmB, nrmC]
        refine tk1 (i := 1) (oi := ⟨some 16, .load 23 (.tmp 15), 23, "disk.go:73", #[⟨0, .data⟩], none⟩) (v := ?_) [2, 10, 11, 22] rfl (by kernel_rfl) (fun _ _ _ h => h) hF (fun w hFw => ?_) (by rfl) ?_
        rotate_left
        · ((try dsimp only at hFw); first | (go_simp; done) | (go_simp; with_reducible rfl) | (go_split_ands; go_simp; done))
        try simp only [Act.put, nrmA, nrmB, nrmC]
        refine tk1 (i := 2) (oi := ⟨some 17, .call { callee := .builtin .len, args := #[.tmp 16], argTypes := #[23] }, 3, "disk.go:73", #[⟨1, .data⟩], none⟩) (v := ?_) [10, 11, 22] rfl (by kernel_rfl) (fun _ _ _ h => h) hF (fun w hFw => ?_) (by rfl) ?_
        rotate_left
        · ((try dsimp only at hFw); first | (go_simp; done) | (go_simp; with_reducible rfl) | (go_split_ands; go_simp; done))
        try simp only [Act.put, nrmA, nrmB, nrmC]
        refine tk0 (i := 3) (oi := ⟨some 18, .move (.tmp 0), 28, "disk.go:73", #[], none⟩) (v := ?_) rfl (by kernel_rfl) (fun _ _ _ h => h) (fun _ => hF) (fun w => ?_) (by rfl) ?_
        rotate_left
        · first | (go_simp; done) | (go_simp; with_reducible rfl) | (go_split_ands; go_simp; done)
        try simp only [Act.put, nrmA, nrmB, nrmC]
        refine tk0 (i := 4) (oi := ⟨some 19, .nilCheck (.tmp 18), 0, "disk.go:73", #[⟨3, .data⟩], none⟩) (v := ?_) rfl (by kernel_rfl) (fun _ _ _ h => h) (fun _ => hF) (fun w => ?_) (by rfl) ?_
        rotate_left
        · first | (go_simp; done) | (go_simp; with_reducible rfl) | (go_split_ands; go_simp; done)
        try simp only [Act.put, nrmA, nrmB, nrmC]
        refine tk0 (i := 5) (oi := ⟨some 20, .fieldAddr 80 (.tmp 19) 0, 0, "disk.go:73", #[⟨4, .data⟩], none⟩) (v := ?_) rfl (by kernel_rfl) (fun _ _ _ h => h) (fun _ => hF) (fun w => ?_) (by rfl) ?_
        rotate_left
        · first | (go_simp; done) | (go_simp; with_reducible rfl) | (go_split_ands; go_simp; done)
        try simp only [Act.put, nrmA, nrmB, nrmC]
        refine tk1 (i := 6) (oi := ⟨some 21, .load 3 (.tmp 20), 3, "disk.go:73", #[⟨5, .data⟩], none⟩) (v := ?_) [9, 10, 11, 22] rfl (by kernel_rfl) (fun _ _ _ h => h) hF (fun w hFw => ?_) (by rfl) ?_
        rotate_left
        · ((try dsimp only at hFw); first | (go_simp; done) | (go_simp; with_reducible rfl) | (go_split_ands; go_simp; done))
        try simp only [Act.put, nrmA, nrmB, nrmC]
        refine tk0 (i := 7) (oi := ⟨some 22, .move (.tmp 0), 28, "disk.go:73", #[], none⟩) (v := ?_) rfl (by kernel_rfl) (fun _ _ _ h => h) (fun _ => hF) (fun w => ?_) (by rfl) ?_
        rotate_left
        · first | (go_simp; done) | (go_simp; with_reducible rfl) | (go_split_ands; go_simp; done)
        try simp only [Act.put, nrmA, nrmB, nrmC]
        refine wpAnyJ_ready (rs := [8]) (by kernel_rfl) (by simp) ?_
        refine AllJ.cons1 (o := ⟨some 23, .call { callee := .value (.func 98), args := #[.tmp 22], argTypes := #[28] }, 3, "disk.go:73", #[⟨7, .data⟩], none⟩) rfl (fun Kr hKr => ?_)
        go_simp; go_at_call 98; refine (hus.out _ (s2.drew.own 0 rfl)).mono ?_; rintro e w4 ⟨rfl, hst⟩; have s3 := s2.drew.put 0 rfl hst; simp only [List.set_cons_zero] at s3
        refine hKr.out _ _ (fun hJ => ?_) (fun hF => ?_)
        · first
          | exact absurd hJ (by decide)
          | (clear hJ; (try dsimp only); all_goals (first | exact kf | exact hkf.out _ _ s3))
        clear hKr
        try simp only [Act.put, nrmA, nrmB, nrmC]
        refine tk0 (i := 9) (oi := ⟨some 24, .binOp .sub 3 (.tmp 21) (.tmp 23) 3, 3, "disk.go:73", #[⟨6, .data⟩, ⟨8, .data⟩], none⟩) (v := ?_) rfl (by kernel_rfl) (fun _ _ _ h => h) (fun _ => hF (by kernel_rfl)) (fun w => ?_) (by rfl) ?_
        rotate_left
        · first | (go_simp; done) | (go_simp; with_reducible rfl) | (go_split_ands; go_simp; done)
        try simp only [Act.put, nrmA, nrmB, nrmC]
        refine tk0 (i := 10) (oi := ⟨some 25, .binOp .gtr 3 (.tmp 17) (.tmp 24) 3, 4, "disk.go:73", #[⟨2, .data⟩, ⟨9, .data⟩], none⟩) (v := ?_) rfl (by kernel_rfl) (fun _ _ _ h => h) (fun _ => hF (by kernel_rfl)) (fun w => ?_) (by rfl) ?_
        rotate_left
        · first | (go_simp; done) | (go_simp; with_reducible rfl) | (go_split_ands; go_simp; done)
        try simp only [Act.put, nrmA, nrmB, nrmC]
        refine tk0 (i := 11) (oi := ⟨some 26, .move (.tmp 25), 4, "disk.go:73", #[⟨10, .data⟩, ⟨8, .chain⟩], none⟩) (v := ?_) rfl (by kernel_rfl) (fun _ _ _ h => h) (fun _ => hF (by kernel_rfl)) (fun w => ?_) (by rfl) ?_
        rotate_left
        · first | (go_simp; done) | (go_simp; with_reducible rfl) | (go_split_ands; go_simp; done)
        try simp only [Act.put, nrmA, nrmB, nrmC]
        first
        | refine sk0 (i := 12) (oi := ⟨some 27, .move (.tmp 5), 102, "disk.go:73", #[⟨11, .guard⟩], some (11, false)⟩) rfl (by kernel_rfl) (fun _ _ _ h => h) (fun _ => hF (by kernel_rfl)) (by rfl) ?_
        | (refine tk0 (i := 12) (oi := ⟨some 27, .move (.tmp 5), 102, "disk.go:73", #[⟨11, .guard⟩], some (11, false)⟩) (v := ?_) rfl (by kernel_rfl) (fun _ _ _ h => h) (fun _ => hF (by kernel_rfl)) (fun w => ?_) (by rfl) ?_
           rotate_left
           · first | (go_simp; done) | (go_simp; with_reducible rfl) | (go_split_ands; go_simp; done))
        try simp only [Act.put, nrmA, nrmB, nrmC]
        first
        | refine sk0 (i := 13) (oi := ⟨some 28, .binOp .eql 102 (.tmp 27) (.const (.pointer none)) 102, 4, "disk.go:73", #[⟨12, .data⟩, ⟨11, .guard⟩], some (11, false)⟩) rfl (by kernel_rfl) (fun _ _ _ h => h) (fun _ => hF (by kernel_rfl)) (by rfl) ?_
        | (refine tk0 (i := 13) (oi := ⟨some 28, .binOp .eql 102 (.tmp 27) (.const (.pointer none)) 102, 4, "disk.go:73", #[⟨12, .data⟩, ⟨11, .guard⟩], some (11, false)⟩) (v := ?_) rfl (by kernel_rfl) (fun _ _ _ h => h) (fun _ => hF (by kernel_rfl)) (fun w => ?_) (by rfl) ?_
           rotate_left
           · first | (go_simp; done) | (go_simp; with_reducible rfl) | (go_split_ands; go_simp; done))
        try simp only [Act.put, nrmA, nrmB, nrmC]
        first
        | refine sk0 (i := 14) (oi := ⟨some 29, .move (.tmp 28), 4, "disk.go:73", #[⟨13, .data⟩, ⟨11, .chain⟩, ⟨11, .guard⟩], some (11, false)⟩) rfl (by kernel_rfl) (fun _ _ _ h => h) (fun _ => hF (by kernel_rfl)) (by rfl) ?_
        | (refine tk0 (i := 14) (oi := ⟨some 29, .move (.tmp 28), 4, "disk.go:73", #[⟨13, .data⟩, ⟨11, .chain⟩, ⟨11, .guard⟩], some (11, false)⟩) (v := ?_) rfl (by kernel_rfl) (fun _ _ _ h => h) (fun _ => hF (by kernel_rfl)) (fun w => ?_) (by rfl) ?_
           rotate_left
           · first | (go_simp; done) | (go_simp; with_reducible rfl) | (go_split_ands; go_simp; done))
        try simp only [Act.put, nrmA, nrmB, nrmC]
        first
        | refine sk0 (i := 15) (oi := ⟨some 30, .move (.tmp 0), 28, "disk.go:73", #[⟨14, .guard⟩], some (14, true)⟩) rfl (by kernel_rfl) (fun _ _ _ h => h) (fun _ => hF (by kernel_rfl)) (by rfl) ?_
        | (refine tk0 (i := 15) (oi := ⟨some 30, .move (.tmp 0), 28, "disk.go:73", #[⟨14, .guard⟩], some (14, true)⟩) (v := ?_) rfl (by kernel_rfl) (fun _ _ _ h => h) (fun _ => hF (by kernel_rfl)) (fun w => ?_) (by rfl) ?_
           rotate_left
           · first | (go_simp; done) | (go_simp; with_reducible rfl) | (go_split_ands; go_simp; done))
        try simp only [Act.put, nrmA, nrmB, nrmC]
        first
        | refine sk0 (i := 16) (oi := ⟨some 31, .nilCheck (.tmp 30), 0, "disk.go:73", #[⟨15, .data⟩, ⟨14, .guard⟩], some (14, true)⟩) rfl (by kernel_rfl) (fun _ _ _ h => h) (fun _ => hF (by kernel_rfl)) (by rfl) ?_
        | (refine tk0 (i := 16) (oi := ⟨some 31, .nilCheck (.tmp 30), 0, "disk.go:73", #[⟨15, .data⟩, ⟨14, .guard⟩], some (14, true)⟩) (v := ?_) rfl (by kernel_rfl) (fun _ _ _ h => h) (fun _ => hF (by kernel_rfl)) (fun w => ?_) (by rfl) ?_
           rotate_left
           · first | (go_simp; done) | (go_simp; with_reducible rfl) | (go_split_ands; go_simp; done))
        try simp only [Act.put, nrmA, nrmB, nrmC]
        first
        | refine sk0 (i := 17) (oi := ⟨some 32, .fieldAddr 80 (.tmp 31) 1, 0, "disk.go:73", #[⟨16, .data⟩, ⟨14, .guard⟩], some (14, true)⟩) rfl (by kernel_rfl) (fun _ _ _ h => h) (fun _ => hF (by kernel_rfl)) (by rfl) ?_
        | (refine tk0 (i := 17) (oi := ⟨some 32, .fieldAddr 80 (.tmp 31) 1, 0, "disk.go:73", #[⟨16, .data⟩, ⟨14, .guard⟩], some (14, true)⟩) (v := ?_) rfl (by kernel_rfl) (fun _ _ _ h => h) (fun _ => hF (by kernel_rfl)) (fun w => ?_) (by rfl) ?_
           rotate_left
           · first | (go_simp; done) | (go_simp; with_reducible rfl) | (go_split_ands; go_simp; done))
        try simp only [Act.put, nrmA, nrmB, nrmC]
        first
        | refine sk0 (i := 18) (oi := ⟨some 33, .load 78 (.tmp 32), 78, "disk.go:73", #[⟨17, .data⟩, ⟨14, .guard⟩], some (14, true)⟩) rfl (by kernel_rfl) (fun _ _ _ h => h) (fun _ => hF (by kernel_rfl)) (by rfl) ?_
        | (refine tk1 (i := 18) (oi := ⟨some 33, .load 78 (.tmp 32), 78, "disk.go:73", #[⟨17, .data⟩, ⟨14, .guard⟩], some (14, true)⟩) (v := ?_) [19, 20, 21, 22] rfl (by kernel_rfl) (fun _ _ _ h => h) (hF (by kernel_rfl)) (fun w hFw => ?_) (by rfl) ?_
           rotate_left
           · ((try dsimp only at hFw); first | (go_simp; done) | (go_simp; with_reducible rfl) | (go_split_ands; go_simp; done)))
        try simp only [Act.put, nrmA, nrmB, nrmC]
        first
        | refine sk0 (i := 19) (oi := ⟨some 34, .call { callee := .builtin .len, args := #[.tmp 33], argTypes := #[78] }, 3, "disk.go:73", #[⟨18, .data⟩, ⟨14, .chain⟩, ⟨14, .guard⟩], some (14, true)⟩) rfl (by kernel_rfl) (fun _ _ _ h => h) (fun _ => hF (by kernel_rfl)) (by rfl) ?_
        | (refine tk1 (i := 19) (oi := ⟨some 34, .call { callee := .builtin .len, args := #[.tmp 33], argTypes := #[78] }, 3, "disk.go:73", #[⟨18, .data⟩, ⟨14, .chain⟩, ⟨14, .guard⟩], some (14, true)⟩) (v := (.int .i64 (k.L.length : Nat))) [20, 21, 22] rfl (by kernel_rfl) (fun _ _ _ h => h) (hF (by kernel_rfl)) (fun w hFw => ?_) (by rfl) ?_
           · ((try dsimp only at hFw); exact exec_mlen _ _ rfl (by rfl) (hml.out _ hFw.2.2.2 _)))
        try simp only [Act.put, nrmA, nrmB, nrmC]
        first
        | refine sk0 (i := 20) (oi := ⟨some 35, .binOp .geq 3 (.tmp 34) (.const (.int .i64 4096)) 3, 4, "disk.go:73", #[⟨19, .data⟩, ⟨14, .guard⟩], some (14, true)⟩) rfl (by kernel_rfl) (fun _ _ _ h => h) (fun _ => hF (by kernel_rfl)) (by rfl) ?_
        | (refine tk0 (i := 20) (oi := ⟨some 35, .binOp .geq 3 (.tmp 34) (.const (.int .i64 4096)) 3, 4, "disk.go:73", #[⟨19, .data⟩, ⟨14, .guard⟩], some (14, true)⟩) (v := ?_) rfl (by kernel_rfl) (fun _ _ _ h => h) (fun _ => hF (by kernel_rfl)) (fun w => ?_) (by rfl) ?_
           rotate_left
           · first | (go_simp; done) | (go_simp; with_reducible rfl) | (go_split_ands; go_simp; done))
        try simp only [Act.put, nrmA, nrmB, nrmC]
        first
        | refine sk0 (i := 21) (oi := ⟨some 36, .pick (.tmp 29) (.tmp 35) (.const (.bool false)), 4, "disk.go:73", #[⟨14, .data⟩, ⟨20, .data⟩, ⟨11, .guard⟩], some (11, false)⟩) rfl (by kernel_rfl) (fun _ _ _ h => h) (fun _ => hF (by kernel_rfl)) (by rfl) ?_
        | (refine tk0 (i := 21) (oi := ⟨some 36, .pick (.tmp 29) (.tmp 35) (.const (.bool false)), 4, "disk.go:73", #[⟨14, .data⟩, ⟨20, .data⟩, ⟨11, .guard⟩], some (11, false)⟩) (v := ?_) rfl (by kernel_rfl) (fun _ _ _ h => h) (fun _ => hF (by kernel_rfl)) (fun w => ?_) (by rfl) ?_
           rotate_left
           · first | (go_simp; done) | (go_simp; with_reducible rfl) | (go_split_ands; go_simp; done))
        try simp only [Act.put, nrmA, nrmB, nrmC]
        refine wpAnyJ_ready (rs := [22]) (by kernel_rfl) (by simp) ?_
        refine AllJ.cons1 (o := ⟨some 37, .pick (.tmp 26) (.const (.bool true)) (.tmp 36), 4, "disk.go:73", #[⟨11, .data⟩, ⟨21, .data⟩], none⟩) rfl (fun Kr hKr => ?_)
        go_simp
        refine hKr.out _ _ (fun hJ => ?_) (fun hF => ?_)
        · first
          | exact absurd hJ (by decide)
          | (clear hJ; (try dsimp only); all_goals (first | exact kf | exact hkf.out _ _ s3))
        clear hKr
        try simp only [Act.put, nrmA, nrmB, nrmC]
        refine wpAnyJ_done (by kernel_rfl) ?_ _
        have s4 := s3.alloc (fobj none 0 0 0)
        go_upto_region 6 with fail
        refine Sp.gen s4 ?_
        clear s4
        generalize w4.heap.size = fx
        intro W4 s4
        have g0 := hg0.out _ _ s4
        have ⟨d0, d1, d2⟩ := cells3 (s4.one 1 rfl)
        have h5 := s4.own 0 rfl
        rw [hH.out] at h5
        have ⟨c0, c1, c2, c3⟩ := cells4 h5.h0
        obtain ⟨o1, hrun, hm1⟩ := run_mupdate_no (w := W4.drew) (P := Tryz.prog) Tryz.underlying78 Tryz.underlying9 hm (k := strV nm) (by exact trivial) (by exact h5.h1) (fe_none hp hk.sorted hi.out) (pt fx)
        have s4b : Sp w H W4.drew [(b, dobj k.room r fu lf) :: (r, o) :: X.flatMap Fe.all, [(bx, wobj ng nc n pa p.length pc)], [(fx, fobj none 0 0 0)]] := by rw [← hH.out]; exact s4.drew
        have s5 := s4b.put 0 rfl (Step.putObj (A := [(b, dobj k.room r fu lf)]) (r := r) (o := o) (B := X.flatMap Fe.all) o1 (Step.refl (s4b.own 0 rfl)))
        have hP : Parted b bx (wobj ng nc n pa p.length pc) k nm fu lf H w (World.putObj W4.drew r o1) r o1 X ⟨nm, fx, none, 0, [], 0, []⟩ [] := parted_new hm1 hok hp hi.out s5
        replace hP := Lib.hid hP
        obtain ⟨x, hx⟩ : ∃ x : Fe, x = ⟨nm, fx, none, 0, [], 0, []⟩ := ⟨_, rfl⟩
        have hfx : Hid (fx = x.fb) := by show _ = _; rw [hx]
        rw [← hx] at hP
        generalize ([] : List Fe) = B at hP
        generalize X = A at hP
        replace hx := Lib.hid hx
        refine wp_region_J 9 (fun w' => w' = W4.drew) (by kernel_rfl) ?_ (fun hF => ?_)
        · (try dsimp only)
          all_goals (rfl)
        refine tk0 (i := 0) (oi := ⟨some 42, .move (.tmp 0), 28, "disk.go:78", #[], none⟩) (v := ?_) rfl (by kernel_rfl) (fun _ _ _ h => h) (fun _ => hF) (fun w => ?_) (by rfl) ?_
        rotate_left
        · first | (go_simp; done) | (go_simp; with_reducible rfl) | (go_split_ands; go_simp; done)
        try simp only [Act.put, nrmA, nrmB, nrmC]
        refine tk0 (i := 1) (oi := ⟨some 43, .nilCheck (.tmp 42), 0, "disk.go:78", #[⟨0, .data⟩], none⟩) (v := ?_) rfl (by kernel_rfl) (fun _ _ _ h => h) (fun _ => hF) (fun w => ?_) (by rfl) ?_
        rotate_left
        · first | (go_simp; done) | (go_simp; with_reducible rfl) | (go_split_ands; go_simp; done)
        try simp only [Act.put, nrmA, nrmB, nrmC]
        refine tk0 (i := 2) (oi := ⟨some 44, .fieldAddr 80 (.tmp 43) 1, 0, "disk.go:78", #[⟨1, .data⟩], none⟩) (v := ?_) rfl (by kernel_rfl) (fun _ _ _ h => h) (fun _ => hF) (fun w => ?_) (by rfl) ?_
        rotate_left
        · first | (go_simp; done) | (go_simp; with_reducible rfl) | (go_split_ands; go_simp; done)
        try simp only [Act.put, nrmA, nrmB, nrmC]
        refine tk1 (i := 3) (oi := ⟨some 45, .load 78 (.tmp 44), 78, "disk.go:78", #[⟨2, .data⟩], none⟩) (v := ?_) [9] rfl (by kernel_rfl) (fun _ _ _ h => h) hF (fun w hFw => ?_) (by rfl) ?_
        rotate_left
        · ((try dsimp only at hFw); first | (go_simp; done) | (go_simp; with_reducible rfl) | (go_split_ands; go_simp; done))
        try simp only [Act.put, nrmA, nrmB, nrmC]
        refine tk0 (i := 4) (oi := ⟨some 46, .fieldAddr 125 (.tmp 3) 0, 0, "disk.go:78", #[], none⟩) (v := ?_) rfl (by kernel_rfl) (fun _ _ _ h => h) (fun _ => hF) (fun w => ?_) (by rfl) ?_
        rotate_left
        · first | (go_simp; done) | (go_simp; with_reducible rfl) | (go_split_ands; go_simp; done)
        try simp only [Act.put, nrmA, nrmB, nrmC]
        refine tk1 (i := 5) (oi := ⟨some 47, .load 70 (.tmp 46), 70, "disk.go:78", #[⟨4, .data⟩], none⟩) (v := ?_) [9] rfl (by kernel_rfl) (fun _ _ _ h => h) hF (fun w hFw => ?_) (by rfl) ?_
        rotate_left
        · ((try dsimp only at hFw); first | (go_simp; done) | (go_simp; with_reducible rfl) | (go_split_ands; go_simp; done))
        try simp only [Act.put, nrmA, nrmB, nrmC]
        refine tk0 (i := 6) (oi := ⟨some 48, .indexAddr 70 (.tmp 47) (.const (.int .i64 0)), 0, "disk.go:78", #[⟨5, .data⟩], none⟩) (v := ?_) rfl (by kernel_rfl) (fun _ _ _ h => h) (fun _ => hF) (fun w => ?_) (by rfl) ?_
        rotate_left
        · first | (go_simp; done) | (go_simp; with_reducible rfl) | (go_split_ands; go_simp; done)
        try simp only [Act.put, nrmA, nrmB, nrmC]
        refine tk1 (i := 7) (oi := ⟨some 49, .load 9 (.tmp 48), 9, "disk.go:78", #[⟨6, .data⟩], none⟩) (v := ?_) [9] rfl (by kernel_rfl) (fun _ _ _ h => h) hF (fun w hFw => ?_) (by rfl) ?_
        rotate_left
        · ((try dsimp only at hFw); first | (go_simp; done) | (go_simp; with_reducible rfl) | (go_split_ands; go_simp; done))
        try simp only [Act.put, nrmA, nrmB, nrmC]
        refine tk0 (i := 8) (oi := ⟨some 50, .move (.tmp 5), 102, "disk.go:78", #[], none⟩) (v := ?_) rfl (by kernel_rfl) (fun _ _ _ h => h) (fun _ => hF) (fun w => ?_) (by rfl) ?_
        rotate_left
        · first | (go_simp; done) | (go_simp; with_reducible rfl) | (go_split_ands; go_simp; done)
        try simp only [Act.put, nrmA, nrmB, nrmC]
        refine wpAnyJ_ready (rs := [9]) (by kernel_rfl) (by simp) ?_
        refine AllJ.cons1 (o := ⟨none, .mapUpdate 78 (.tmp 45) (.tmp 49) (.tmp 50), 0, "disk.go:78", #[⟨3, .data⟩, ⟨7, .data⟩, ⟨8, .data⟩, ⟨0, .phase⟩, ⟨1, .phase⟩, ⟨2, .phase⟩, ⟨3, .phase⟩, ⟨4, .phase⟩, ⟨5, .phase⟩, ⟨6, .phase⟩, ⟨7, .phase⟩, ⟨8, .phase⟩], none⟩) rfl (fun Kr hKr => ?_)
        refine step_mupdate rfl _ _ _ _ rfl (by rfl) (by rfl) (by rfl) hrun ?_
        refine hKr.out _ _ (fun hJ => ?_) (fun hF => ?_)
        · first
          | exact absurd hJ (by decide)
          | (clear hJ; (try dsimp only); all_goals (rfl))
        clear hKr
        try simp only [Act.put, nrmA, nrmB, nrmC]
        refine wpAnyJ_done (by kernel_rfl) ?_ _
        replace hP := hP.out
        replace hA := hA.out
        rw [hfx.out]
        obtain ⟨hm2, hok2, hxn, hget, hput, s5⟩ := hP
        go_upto_region 7 with fail
        refine Sp.gen s5 ?_
        clear s5
        intro W5 s5
        have d2 := (cells3 (s5.one 4 rfl)).2.2
        have ⟨e0, e1⟩ := cells2 (s5.one 1 rfl)
        have hxo := Lib.hid (hok2 x (by simp))
        have hbd : x.d.length + p.length ≤ 1073741824 := by
          have h1 : x.d.length ≤ usedF k.L := by
            cases hi' : isF k.L nm
            · rw [getF_no hi'] at hget
              have : x.d = [] := congrArg Prod.fst hget
              rw [this]; exact Nat.zero_le _
            · have := used_get hi'
              rw [← hget] at this
              exact this
          have := hk.room
          omega
        have hgv : Hid ({ k with L := putF k.L nm ((getF k.L nm).1 ++ p, (getF k.L nm).2) } = { k with L := putF k.L nm (x.d ++ p, x.n) }) := by show _ = _; rw [← hget]
        have hl6 : Hid ((x.d ++ p).length = x.d.length + p.length) := List.length_append
        replace hm2 := Lib.hid hm2
        replace hok2 := Lib.hid hok2
        replace hput := Lib.hid hput
        replace hxn := Lib.hid hxn
        replace hget := Lib.hid hget
        replace hA := Lib.hid hA
        refine wp_region_J 7 (fun w' => w' = W5.drew) (by kernel_rfl) ?_ (fun hF => ?_)
        · (try dsimp only)
          all_goals (rfl)
        refine tk0 (i := 0) (oi := ⟨some 51, .move (.tmp 5), 102, "disk.go:80", #[], none⟩) (v := ?_) rfl (by kernel_rfl) (fun _ _ _ h => h) (fun _ => hF) (fun w => ?_) (by rfl) ?_
        rotate_left
        · first | (go_simp; done) | (go_simp; with_reducible rfl) | (go_split_ands; go_simp; done)
        try simp only [Act.put, nrmA, nrmB, nrmC]
        refine tk0 (i := 1) (oi := ⟨some 52, .move (.tmp 5), 102, "disk.go:80", #[], none⟩) (v := ?_) rfl (by kernel_rfl) (fun _ _ _ h => h) (fun _ => hF) (fun w => ?_) (by rfl) ?_
        rotate_left
        · first | (go_simp; done) | (go_simp; with_reducible rfl) | (go_split_ands; go_simp; done)
        try simp only [Act.put, nrmA, nrmB, nrmC]
        refine tk0 (i := 2) (oi := ⟨some 53, .nilCheck (.tmp 52), 0, "disk.go:80", #[⟨1, .data⟩], none⟩) (v := ?_) rfl (by kernel_rfl) (fun _ _ _ h => h) (fun _ => hF) (fun w => ?_) (by rfl) ?_
        rotate_left
        · first | (go_simp; done) | (go_simp; with_reducible rfl) | (go_split_ands; go_simp; done)
        try simp only [Act.put, nrmA, nrmB, nrmC]
        refine tk0 (i := 3) (oi := ⟨some 54, .fieldAddr 104 (.tmp 53) 0, 0, "disk.go:80", #[⟨2, .data⟩], none⟩) (v := ?_) rfl (by kernel_rfl) (fun _ _ _ h => h) (fun _ => hF) (fun w => ?_) (by rfl) ?_
        rotate_left
        · first | (go_simp; done) | (go_simp; with_reducible rfl) | (go_split_ands; go_simp; done)
        try simp only [Act.put, nrmA, nrmB, nrmC]
        refine tk1 (i := 4) (oi := ⟨some 55, .load 23 (.tmp 54), 23, "disk.go:80", #[⟨3, .data⟩], none⟩) (v := ?_) [7] rfl (by kernel_rfl) (fun _ _ _ h => h) hF (fun w hFw => ?_) (by rfl) ?_
        rotate_left
        · ((try dsimp only at hFw); first | (go_simp; done) | (go_simp; with_reducible rfl) | (go_split_ands; go_simp; done))
        try simp only [Act.put, nrmA, nrmB, nrmC]
        refine tk0 (i := 5) (oi := ⟨some 56, .fieldAddr 125 (.tmp 3) 2, 0, "disk.go:80", #[], none⟩) (v := ?_) rfl (by kernel_rfl) (fun _ _ _ h => h) (fun _ => hF) (fun w => ?_) (by rfl) ?_
        rotate_left
        · first | (go_simp; done) | (go_simp; with_reducible rfl) | (go_split_ands; go_simp; done)
        try simp only [Act.put, nrmA, nrmB, nrmC]
        refine tk1 (i := 6) (oi := ⟨some 57, .load 23 (.tmp 56), 23, "disk.go:80", #[⟨5, .data⟩], none⟩) (v := ?_) [7] rfl (by kernel_rfl) (fun _ _ _ h => h) hF (fun w hFw => ?_) (by rfl) ?_
        rotate_left
        · ((try dsimp only at hFw); first | (go_simp; done) | (go_simp; with_reducible rfl) | (go_split_ands; go_simp; done))
        try simp only [Act.put, nrmA, nrmB, nrmC]
        refine wpAnyJ_ready (rs := [7]) (by kernel_rfl) (by simp) ?_
        refine AllJ.cons1 (o := ⟨some 58, .call { callee := .builtin .append, args := #[.tmp 55, .tmp 57], argTypes := #[23, 23] }, 23, "disk.go:80", #[⟨4, .data⟩, ⟨6, .data⟩], none⟩) rfl (fun Kr hKr => ?_)
        refine step_appAt rfl st_u8 _ _ (by rfl) (by rfl) (by rfl) hxo.out (s5.drew.own 2 rfl) (rdBytes_cells (hb0.out _ _ s5.drew)) (by unfold maxLen; omega) (by omega) ?_
        intro a2 c2 w6 H6 hv6 hst6
        have s6 := s5.drew.put 2 rfl hst6
        simp only [List.set_cons_succ, List.set_cons_zero] at s6
        have ⟨e0, e1⟩ := cells2 (s6.one 1 rfl)
        have fz := fun i => frz_of (i := i) (s6.one 1 rfl)
        have xlt := heap_lt (s6.one 1 rfl)
        refine hKr.out _ _ (fun hJ => ?_) (fun hF => ?_)
        · first
          | exact absurd hJ (by decide)
          | (clear hJ; (try dsimp only); all_goals (rfl))
        clear hKr
        try simp only [Act.put, nrmA, nrmB, nrmC]
        refine tk0 (i := 8) (oi := ⟨some 59, .nilCheck (.tmp 51), 0, "disk.go:80", #[⟨0, .data⟩, ⟨0, .phase⟩, ⟨1, .phase⟩, ⟨2, .phase⟩, ⟨3, .phase⟩, ⟨4, .phase⟩, ⟨5, .phase⟩, ⟨6, .phase⟩, ⟨7, .phase⟩], none⟩) (v := ?_) rfl (by kernel_rfl) (fun _ _ _ h => h) (fun hJ => absurd hJ (by decide)) (fun w => ?_) (by rfl) ?_
        rotate_left
        · first | (go_simp; done) | (go_simp; with_reducible rfl) | (go_split_ands; go_simp; done)
        try simp only [Act.put, nrmA, nrmB, nrmC]
        refine tk0 (i := 9) (oi := ⟨some 60, .fieldAddr 104 (.tmp 59) 0, 0, "disk.go:80", #[⟨8, .data⟩, ⟨0, .phase⟩, ⟨1, .phase⟩, ⟨2, .phase⟩, ⟨3, .phase⟩, ⟨4, .phase⟩, ⟨5, .phase⟩, ⟨6, .phase⟩, ⟨7, .phase⟩], none⟩) (v := ?_) rfl (by kernel_rfl) (fun _ _ _ h => h) (fun hJ => absurd hJ (by decide)) (fun w => ?_) (by rfl) ?_
        rotate_left
        · first | (go_simp; done) | (go_simp; with_reducible rfl) | (go_split_ands; go_simp; done)
        try simp only [Act.put, nrmA, nrmB, nrmC]
        refine wpAnyJ_ready (rs := [10]) (by kernel_rfl) (by simp) ?_
        refine AllJ.cons1 (o := ⟨none, .store 23 (.tmp 60) (.tmp 58), 0, "disk.go:80", #[⟨9, .data⟩, ⟨7, .data⟩, ⟨7, .chain⟩, ⟨0, .phase⟩, ⟨1, .phase⟩, ⟨2, .phase⟩, ⟨3, .phase⟩, ⟨4, .phase⟩, ⟨5, .phase⟩, ⟨6, .phase⟩, ⟨7, .phase⟩], none⟩) rfl (fun Kr hKr => ?_)
        go_simp
        refine hKr.out _ _ (fun hJ => ?_) (fun hF => ?_)
        · first
          | exact absurd hJ (by decide)
          | (clear hJ; (try dsimp only); all_goals (rfl))
        clear hKr
        try simp only [Act.put, nrmA, nrmB, nrmC]
        refine wpAnyJ_done (by kernel_rfl) ?_ _
        go_wp2
        go_ret
        rw [hr.out, hgv.out]
        have s7 := s6.store 1 (j := 0) rfl (.slice a2 (x.d.length + p.length) c2)
        exact ⟨rfl, parted_done hm2.out hok2.out hxn.out hput.out hl6.out (by rw [List.map_append]; exact hv6) hf (by exact s7)⟩
end Go.Proofs.YtdolbeonpkanpaaGreatDoor
