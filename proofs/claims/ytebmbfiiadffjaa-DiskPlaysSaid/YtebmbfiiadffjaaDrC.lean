/- The reference's disk: Sync. -/
import Derived.Test.YtebmbfiiadffjaaDrB
import Derived.Test.YtebmbfiiadffjaaDkH
namespace Go.Proofs.Ytebmbfiiadffjaa
open Go.RowKit
attribute [local go_sem ↓] Go.wp_at_zero Go.wp_at_succ

theorem Sp.putK {α : Type} {f : α → List Value} {k E : Nat} (hf : ∀ x, (f x).length = k) {w W : World} {K R : Heaplet} {Hs : List Heaplet} {g n c : Nat} {l : List α} (q : Nat) (s : Sp w K W Hs) (hq : Hs[q]? = some R) (h : SlRep E k (some ⟨g, 0, none⟩) n c (l.flatMap f) R) {i j : Nat} {x x' : α} {v : Value} (hi : l[i]? = some x) (hj : j < k) (hx : f x' = (f x).set j v) :
    ∃ R', SlRep E k (some ⟨g, 0, none⟩) n c ((l.set i x').flatMap f) R' ∧ Sp w K (W.setCell ⟨g, i * k + j, none⟩ v) (Hs.set q R') := by
  obtain ⟨R', h1, h2⟩ := slk_put hf (s.mid q hq) h hi hj hx
  refine ⟨R', h1, ?_⟩
  unfold Sp
  rw [sp_set hq, List.flatten_append, List.flatten_cons]
  exact h2
/-- The record of that name. -/
theorem re_find {X : List Re} {L : List Fl} {nm : Nm} (hk : X.map Re.key = L) (h : isF L nm = true) : ∃ x, X[spotN L nm]? = some x ∧ x.nm = nm ∧ (x.d, x.n) = getF L nm := by
  have h1 := isF_at h
  rw [← hk, List.getElem?_map] at h1
  obtain ⟨x, hx, e⟩ := Option.map_eq_some_iff.1 h1
  rw [hk] at hx
  refine ⟨x, hx, congrArg Prod.fst e, ?_⟩
  have := congrArg Prod.snd e
  rw [hk] at this
  exact this
theorem re_set {X : List Re} {L : List Fl} {nm : Nm} {x' : Re} (hk : X.map Re.key = L) (v : List UInt8 × Nat) (hx : x'.key = (nm, v)) : (X.set (spotN L nm) x').map Re.key = setF L nm v := by
  unfold setF
  rw [List.map_set, hk, hx]
theorem re_setH {X : List Re} {i : Nat} {x x' : Re} (hx : X[i]? = some x) (hH : x'.H = x.H) : (X.set i x').flatMap Re.H = X.flatMap Re.H := by
  rw [sp_set hx]
  conv => rhs; rw [sp_split hx]
  simp [hH]
theorem re_setOk {X : List Re} {i : Nat} {x' : Re} (h : ∀ y ∈ X, y.ok) (h' : x'.ok) : ∀ y ∈ X.set i x', y.ok := fun y hy => (List.mem_or_eq_of_mem_set hy).elim (h y) (fun e => e ▸ h')
theorem rk_put {b i c : Nat} {k : Dk} {a : Option Addr} {X : List Re} {R' : Heaplet} {y : Re} {nm : Nm} {v : List UInt8 × Nat} (hkk : X.map Re.key = k.L) (hie : i = spotN k.L nm) (hok : ∀ x ∈ X, x.ok) (hlf : leftI k.left ≤ 9223372036854775807) (hy : y.ok) (hyk : y.key = (nm, v))
    (hr : SlRep 77 3 a X.length c ((X.set i y).flatMap Re.cells) R') : RkRep b { k with L := setF k.L nm v } ((b, robj k.room a X.length c (leftI k.left)) :: (R' ++ (X.set i y).flatMap Re.H)) :=
  ⟨a, c, R', X.set i y, by rw [List.length_set]; exact hr, re_setOk hok hy, by rw [hie]; exact re_set hkk _ hyk, hlf, by rw [List.length_set]⟩
theorem re_swapH {X : List Re} {i : Nat} {x y : Re} (hx : X[i]? = some x) : (X.flatMap Re.H ++ y.H).Perm ((X.set i y).flatMap Re.H ++ x.H) := by
  rw [sp_set hx]
  conv => lhs; rw [sp_split hx]
  simp only [List.flatMap_append, List.flatMap_cons, List.append_assoc]
  refine List.Perm.append_left _ ?_
  refine (List.perm_append_comm (l₁ := x.H)).trans ?_
  simp only [List.append_assoc]
  refine List.Perm.trans ?_ (List.perm_append_comm_assoc _ _ _)
  refine List.Perm.append_left _ ?_
  exact List.Perm.refl _
theorem rk_start {b : Nat} {o : Obj} {R XH : Heaplet} {w : World} (hw : Own w ((b, o) :: (R ++ XH))) : Sp w ((b, o) :: (R ++ XH)) w [[(b, o)], R, XH] := (Sp.start hw).perm (by simp)
theorem may_post {b : Nat} {k : Dk} {names : List Nm} {op : Dk → Nat × Dk} {H G : Heaplet} {w W : World} (h : RkRep b k H) (hm : mayN k names ≠ 0) (s : Step w H W (H ++ G)) : RkPost b (gateN names op k) H w (.returned (iv (mayN k names))) W := by
  have hg : gateN names op k = (mayN k names, k) := by unfold gateN; rw [if_pos hm]
  rw [hg]
  exact ⟨rfl, H, h, s.forget⟩
theorem gate_no {k : Dk} {names : List Nm} {op : Dk → Nat × Dk} {n : Nat} (hm : mayN k names = 0) (h : op k = (n, k)) (hn : n ≠ 0) : gateN names op k = (n, k) := by unfold gateN; rw [hm, h]; simp [hn]
theorem gate_yes {k k' : Dk} {names : List Nm} {op : Dk → Nat × Dk} (hm : mayN k names = 0) (h : op k = (0, k')) : gateN names op k = (0, didN k') := by unfold gateN; rw [hm, h]; simp
set_option maxHeartbeats 2000000 in
set_option maxRecDepth 100000 in
theorem rsync (b : Nat) (k : Dk) (H : Heaplet) (nm : Nm) (w : World) (h : RkRep b k H) (hk : k.Ok) (hw : Own w H) :
    Calls Try.prog 41 #[pt b, strV nm] w (RkPost b (gateN [nm] (syI nm) k) H w) := by
  have s1 := (Sp.start hw).alloc (.cells #[strV nm] 9)
  have hmy := Lib.hid (may_any b k H w.heap.size 1 [nm] _ h (s1.own 0 rfl) (rdStrs_one w nm) (Nat.le_refl _) (by decide))
  have hsp := Lib.hid (fun W hW => spot_any b k H nm W h hW (by have := hk.many; omega))
  have hmp := Lib.hid (fun hm W G (s : Step w H W (H ++ G)) => may_post (op := syI nm) (names := [nm]) h hm s)
  replace s1 := Lib.hid s1
  obtain ⟨m, hm⟩ : ∃ m, m = mayN k [nm] := ⟨_, rfl⟩
  rw [← hm] at hmy hmp
  by_cases hm0 : m = 0
  · subst hm0
    by_cases hi : isF k.L nm = true
    · obtain ⟨a, c, R, X, hr, hok, hkk, hlf, rfl⟩ := h
      obtain ⟨x, hx, rfl, hget⟩ := re_find hkk hi
      rw [hi] at hsp
      have hg : Hid (gateN [x.nm] (syI x.nm) k = (0, didN { k with L := setF k.L x.nm (x.d, x.d.length) })) := by
        refine gate_yes hm.symm ?_
        unfold syI
        rw [if_pos hi, ← hget]
      obtain ⟨i, hie⟩ : ∃ i, i = spotN k.L x.nm := ⟨_, rfl⟩
      rw [← hie] at hx hsp
      have hxi : Hid (i < X.length ∧ X.length ≤ 4096) := ⟨(List.getElem?_eq_some_iff.1 hx).1, by have := hk.many; rw [← hkk, List.length_map] at this; exact this⟩
      obtain ⟨y, hy⟩ : ∃ y : Re, y = { x with n := x.d.length } := ⟨_, rfl⟩
      have hyo : y.ok := by rw [hy]; exact hok x (List.mem_of_getElem? hx)
      have hyk : y.key = (x.nm, (x.d, x.d.length)) := by rw [hy]; rfl
      have hyc : y.cells = x.cells.set 2 (iv x.d.length) := by rw [hy]; rfl
      have hyH : (X.set i y).flatMap Re.H = X.flatMap Re.H := re_setH hx (by rw [hy])
      have hput := Lib.hid (fun R' hr' => rk_put (b := b) (c := c) (a := a) (R' := R') hkk hie hok hlf hyo hyk hr')
      have hdid := Lib.hid (fun k' H W h hW => did_any b k' H W h hW)
      have s2 := (rk_start (s1.out.own 0 rfl)).perm (Gs := [[(b, robj k.room a X.length c (leftI k.left))], R, X.flatMap Re.H]) (List.Perm.refl _)
      replace hr := Lib.hid hr
      replace hx := Lib.hid hx
      replace hyc := Lib.hid hyc
      replace hyH := Lib.hid hyH
      clear hok hkk hget hi hlf hyo hyk s2
      replace hie := Lib.hid hie
      replace hm := Lib.hid hm
      replace hy := Lib.hid hy
      generalize hGG : ((b, robj k.room a X.length c (leftI k.left)) :: (R ++ X.flatMap Re.H)) = G at hmy hsp hmp s1 ⊢
      replace hGG := Lib.hid hGG
      go_enter Try.func41, Try.ntmps41
      go_wp2_with fail
      refine hmy.out.mono ?_
      rintro e w2 ⟨rfl, hst⟩
      have s2 : Sp w G w2 [G] := (s1.out.still hst).forget 1 rfl |>.perm (by simp)
      clear hst
      go_wp2_with fail
      refine (hsp.out _ (s2.own 0 rfl)).mono ?_
      rintro e w3 ⟨rfl, hst⟩
      replace s2 := s2.still hst
      clear hst
      go_upto_region 7 with fail
      have s3 : Sp w G w3 [[(b, robj k.room a X.length c (leftI k.left))], R, X.flatMap Re.H] := s2.perm (by rw [← hGG.out]; simp)
      have ⟨c0, c1, c2⟩ := cells3 (s3.one 0 rfl)
      obtain ⟨g, hga, k0, k1, r0, r1, r2, fz⟩ := re_at hr.out (s3.own 1 rfl) hx.out
      rw [hga] at c1
      have hr2 := hr.out
      rw [hga] at hr2
      obtain ⟨R', hr3, s4⟩ := s3.drew.putK re_len 1 rfl hr2 hx.out (by decide) hyc.out
      obtain ⟨n, hn⟩ : ∃ n, n = X.length := ⟨_, rfl⟩
      have hxn := hxi.out
      rw [← hn] at c1 k0 hxn
      have i0 : (0 : Int) ≤ (i : Int) := by omega
      have i1 : (i : Int) < (n : Int) := by omega
      have i2 : (n : Int) ≤ (c : Int) := by omega
      have glt := World.block_lt_of_cell? w3 _ r0
      have hrep2 := hput.out R' (by rw [hga]; exact hr3)
      rw [hyH.out] at hrep2
      have s5 := s4.out (G := (b, robj k.room a X.length c (leftI k.left)) :: (R' ++ X.flatMap Re.H)) (by simp)
      replace hga := Lib.hid hga
      replace hn := Lib.hid hn
      replace s5 := Lib.hid s5
      replace hrep2 := Lib.hid hrep2
      clear hr2 s2 s4 hr3
      refine wp_region_J 16 (fun w' => w' = w3.drew) (by kernel_rfl) ?_ (fun hF => ?_)
      · (try dsimp only)
        all_goals (rfl)
      refine wpAnyJ_take0 (i := 0) (oi := { dst := some 23, op := Go.Op.move (Go.Operand.tmp 0), type := 46, pos := "disk.go:96", after := #[], guard := none }) (v := ?_) rfl (by kernel_rfl) (by kernel_rfl) (by kernel_rfl) (by kernel_rfl) (fun _ _ _ h => h) (by first | exact fun _ => hF | exact fun _ => hF (by kernel_rfl)) (fun w => ?_) (by rfl) ?_
      rotate_left
      · first | (go_simp; done) | (go_simp; with_reducible rfl) | (go_split_ands; go_simp; done)
      try simp only [Act.put, List.setIfInBounds_toArray, List.set_cons_zero, List.set_cons_succ]
      refine wpAnyJ_take0 (i := 1) (oi := { dst := some 24, op := Go.Op.nilCheck (Go.Operand.tmp 23), type := 0, pos := "disk.go:96", after := #[{ on := 0, ground := Go.Ground.data }], guard := none }) (v := ?_) rfl (by kernel_rfl) (by kernel_rfl) (by kernel_rfl) (by kernel_rfl) (fun _ _ _ h => h) (by first | exact fun _ => hF | exact fun _ => hF (by kernel_rfl)) (fun w => ?_) (by rfl) ?_
      rotate_left
      · first | (go_simp; done) | (go_simp; with_reducible rfl) | (go_split_ands; go_simp; done)
      try simp only [Act.put, List.setIfInBounds_toArray, List.set_cons_zero, List.set_cons_succ]
      refine wpAnyJ_take0 (i := 2) (oi := { dst := some 25, op := Go.Op.fieldAddr 75 (Go.Operand.tmp 24) 1, type := 0, pos := "disk.go:96", after := #[{ on := 1, ground := Go.Ground.data }], guard := none }) (v := ?_) rfl (by kernel_rfl) (by kernel_rfl) (by kernel_rfl) (by kernel_rfl) (fun _ _ _ h => h) (by first | exact fun _ => hF | exact fun _ => hF (by kernel_rfl)) (fun w => ?_) (by rfl) ?_
      rotate_left
      · first | (go_simp; done) | (go_simp; with_reducible rfl) | (go_split_ands; go_simp; done)
      try simp only [Act.put, List.setIfInBounds_toArray, List.set_cons_zero, List.set_cons_succ]
      refine wpAnyJ_take (i := 3) (oi := { dst := some 26, op := Go.Op.load 73 (Go.Operand.tmp 25), type := 73, pos := "disk.go:96", after := #[{ on := 2, ground := Go.Ground.data }], guard := none }) (v := ?_) [16] rfl (by kernel_rfl) (by kernel_rfl) (by kernel_rfl) (by kernel_rfl) (by kernel_rfl) (fun _ _ _ h => h) (by first | exact hF | exact hF (by kernel_rfl)) (fun w hFw => ?_) (by rfl) ?_
      rotate_left
      · ((try dsimp only at hFw); first | (go_simp; done) | (go_simp; with_reducible rfl) | (go_split_ands; go_simp; done))
      try simp only [Act.put, List.setIfInBounds_toArray, List.set_cons_zero, List.set_cons_succ]
      refine wpAnyJ_take0 (i := 4) (oi := { dst := some 27, op := Go.Op.move (Go.Operand.tmp 6), type := 3, pos := "disk.go:96", after := #[], guard := none }) (v := ?_) rfl (by kernel_rfl) (by kernel_rfl) (by kernel_rfl) (by kernel_rfl) (fun _ _ _ h => h) (by first | exact fun _ => hF | exact fun _ => hF (by kernel_rfl)) (fun w => ?_) (by rfl) ?_
      rotate_left
      · first | (go_simp; done) | (go_simp; with_reducible rfl) | (go_split_ands; go_simp; done)
      try simp only [Act.put, List.setIfInBounds_toArray, List.set_cons_zero, List.set_cons_succ]
      refine wpAnyJ_take0 (i := 5) (oi := { dst := some 28, op := Go.Op.move (Go.Operand.tmp 0), type := 46, pos := "disk.go:96", after := #[], guard := none }) (v := ?_) rfl (by kernel_rfl) (by kernel_rfl) (by kernel_rfl) (by kernel_rfl) (fun _ _ _ h => h) (by first | exact fun _ => hF | exact fun _ => hF (by kernel_rfl)) (fun w => ?_) (by rfl) ?_
      rotate_left
      · first | (go_simp; done) | (go_simp; with_reducible rfl) | (go_split_ands; go_simp; done)
      try simp only [Act.put, List.setIfInBounds_toArray, List.set_cons_zero, List.set_cons_succ]
      refine wpAnyJ_take0 (i := 6) (oi := { dst := some 29, op := Go.Op.nilCheck (Go.Operand.tmp 28), type := 0, pos := "disk.go:96", after := #[{ on := 5, ground := Go.Ground.data }], guard := none }) (v := ?_) rfl (by kernel_rfl) (by kernel_rfl) (by kernel_rfl) (by kernel_rfl) (fun _ _ _ h => h) (by first | exact fun _ => hF | exact fun _ => hF (by kernel_rfl)) (fun w => ?_) (by rfl) ?_
      rotate_left
      · first | (go_simp; done) | (go_simp; with_reducible rfl) | (go_split_ands; go_simp; done)
      try simp only [Act.put, List.setIfInBounds_toArray, List.set_cons_zero, List.set_cons_succ]
      refine wpAnyJ_take0 (i := 7) (oi := { dst := some 30, op := Go.Op.fieldAddr 75 (Go.Operand.tmp 29) 1, type := 0, pos := "disk.go:96", after := #[{ on := 6, ground := Go.Ground.data }], guard := none }) (v := ?_) rfl (by kernel_rfl) (by kernel_rfl) (by kernel_rfl) (by kernel_rfl) (fun _ _ _ h => h) (by first | exact fun _ => hF | exact fun _ => hF (by kernel_rfl)) (fun w => ?_) (by rfl) ?_
      rotate_left
      · first | (go_simp; done) | (go_simp; with_reducible rfl) | (go_split_ands; go_simp; done)
      try simp only [Act.put, List.setIfInBounds_toArray, List.set_cons_zero, List.set_cons_succ]
      refine wpAnyJ_take (i := 8) (oi := { dst := some 31, op := Go.Op.load 73 (Go.Operand.tmp 30), type := 73, pos := "disk.go:96", after := #[{ on := 7, ground := Go.Ground.data }], guard := none }) (v := ?_) [16] rfl (by kernel_rfl) (by kernel_rfl) (by kernel_rfl) (by kernel_rfl) (by kernel_rfl) (fun _ _ _ h => h) (by first | exact hF | exact hF (by kernel_rfl)) (fun w hFw => ?_) (by rfl) ?_
      rotate_left
      · ((try dsimp only at hFw); first | (go_simp; done) | (go_simp; with_reducible rfl) | (go_split_ands; go_simp; done))
      try simp only [Act.put, List.setIfInBounds_toArray, List.set_cons_zero, List.set_cons_succ]
      refine wpAnyJ_take0 (i := 9) (oi := { dst := some 32, op := Go.Op.move (Go.Operand.tmp 6), type := 3, pos := "disk.go:96", after := #[], guard := none }) (v := ?_) rfl (by kernel_rfl) (by kernel_rfl) (by kernel_rfl) (by kernel_rfl) (fun _ _ _ h => h) (by first | exact fun _ => hF | exact fun _ => hF (by kernel_rfl)) (fun w => ?_) (by rfl) ?_
      rotate_left
      · first | (go_simp; done) | (go_simp; with_reducible rfl) | (go_split_ands; go_simp; done)
      try simp only [Act.put, List.setIfInBounds_toArray, List.set_cons_zero, List.set_cons_succ]
      refine wpAnyJ_take0 (i := 10) (oi := { dst := some 33, op := Go.Op.indexAddr 73 (Go.Operand.tmp 31) (Go.Operand.tmp 32), type := 0, pos := "disk.go:96", after := #[{ on := 8, ground := Go.Ground.data }, { on := 9, ground := Go.Ground.data }], guard := none }) (v := ?_) rfl (by kernel_rfl) (by kernel_rfl) (by kernel_rfl) (by kernel_rfl) (fun _ _ _ h => h) (by first | exact fun _ => hF | exact fun _ => hF (by kernel_rfl)) (fun w => ?_) (by rfl) ?_
      rotate_left
      · first | (go_simp; done) | (go_simp; with_reducible rfl) | (go_split_ands; go_simp; done)
      try simp only [Act.put, List.setIfInBounds_toArray, List.set_cons_zero, List.set_cons_succ]
      refine wpAnyJ_take0 (i := 11) (oi := { dst := some 34, op := Go.Op.fieldAddr 77 (Go.Operand.tmp 33) 1, type := 0, pos := "disk.go:96", after := #[{ on := 10, ground := Go.Ground.data }], guard := none }) (v := ?_) rfl (by kernel_rfl) (by kernel_rfl) (by kernel_rfl) (by kernel_rfl) (fun _ _ _ h => h) (by first | exact fun _ => hF | exact fun _ => hF (by kernel_rfl)) (fun w => ?_) (by rfl) ?_
      rotate_left
      · first | (go_simp; done) | (go_simp; with_reducible rfl) | (go_split_ands; go_simp; done)
      try simp only [Act.put, List.setIfInBounds_toArray, List.set_cons_zero, List.set_cons_succ]
      refine wpAnyJ_take (i := 12) (oi := { dst := some 35, op := Go.Op.load 23 (Go.Operand.tmp 34), type := 23, pos := "disk.go:96", after := #[{ on := 11, ground := Go.Ground.data }], guard := none }) (v := ?_) [16] rfl (by kernel_rfl) (by kernel_rfl) (by kernel_rfl) (by kernel_rfl) (by kernel_rfl) (fun _ _ _ h => h) (by first | exact hF | exact hF (by kernel_rfl)) (fun w hFw => ?_) (by rfl) ?_
      rotate_left
      · ((try dsimp only at hFw); first | (go_simp; done) | (go_simp; with_reducible rfl) | (go_split_ands; go_simp; done))
      try simp only [Act.put, List.setIfInBounds_toArray, List.set_cons_zero, List.set_cons_succ]
      refine wpAnyJ_take (i := 13) (oi := { dst := some 36, op := Go.Op.call { callee := Go.Callee.builtin Go.Builtin.len, args := #[Go.Operand.tmp 35], argTypes := #[23] }, type := 3, pos := "disk.go:96", after := #[{ on := 12, ground := Go.Ground.data }], guard := none }) (v := ?_) [16] rfl (by kernel_rfl) (by kernel_rfl) (by kernel_rfl) (by kernel_rfl) (by kernel_rfl) (fun _ _ _ h => h) (by first | exact hF | exact hF (by kernel_rfl)) (fun w hFw => ?_) (by rfl) ?_
      rotate_left
      · ((try dsimp only at hFw); first | (go_simp; done) | (go_simp; with_reducible rfl) | (go_split_ands; go_simp; done))
      try simp only [Act.put, List.setIfInBounds_toArray, List.set_cons_zero, List.set_cons_succ]
      refine wpAnyJ_take0 (i := 14) (oi := { dst := some 37, op := Go.Op.indexAddr 73 (Go.Operand.tmp 26) (Go.Operand.tmp 27), type := 0, pos := "disk.go:96", after := #[{ on := 3, ground := Go.Ground.data }, { on := 4, ground := Go.Ground.data }, { on := 0, ground := Go.Ground.phase }, { on := 1, ground := Go.Ground.phase }, { on := 2, ground := Go.Ground.phase }, { on := 3, ground := Go.Ground.phase }, { on := 4, ground := Go.Ground.phase }, { on := 5, ground := Go.Ground.phase }, { on := 6, ground := Go.Ground.phase }, { on := 7, ground := Go.Ground.phase }, { on := 8, ground := Go.Ground.phase }, { on := 9, ground := Go.Ground.phase }, { on := 10, ground := Go.Ground.phase }, { on := 11, ground := Go.Ground.phase }, { on := 12, ground := Go.Ground.phase }, { on := 13, ground := Go.Ground.phase }], guard := none }) (v := ?_) rfl (by kernel_rfl) (by kernel_rfl) (by kernel_rfl) (by kernel_rfl) (fun _ _ _ h => h) (by first | exact fun _ => hF | exact fun _ => hF (by kernel_rfl)) (fun w => ?_) (by rfl) ?_
      rotate_left
      · first | (go_simp; done) | (go_simp; with_reducible rfl) | (go_split_ands; go_simp; done)
      try simp only [Act.put, List.setIfInBounds_toArray, List.set_cons_zero, List.set_cons_succ]
      refine wpAnyJ_take0 (i := 15) (oi := { dst := some 38, op := Go.Op.fieldAddr 77 (Go.Operand.tmp 37) 2, type := 0, pos := "disk.go:96", after := #[{ on := 14, ground := Go.Ground.data }, { on := 0, ground := Go.Ground.phase }, { on := 1, ground := Go.Ground.phase }, { on := 2, ground := Go.Ground.phase }, { on := 3, ground := Go.Ground.phase }, { on := 4, ground := Go.Ground.phase }, { on := 5, ground := Go.Ground.phase }, { on := 6, ground := Go.Ground.phase }, { on := 7, ground := Go.Ground.phase }, { on := 8, ground := Go.Ground.phase }, { on := 9, ground := Go.Ground.phase }, { on := 10, ground := Go.Ground.phase }, { on := 11, ground := Go.Ground.phase }, { on := 12, ground := Go.Ground.phase }, { on := 13, ground := Go.Ground.phase }], guard := none }) (v := ?_) rfl (by kernel_rfl) (by kernel_rfl) (by kernel_rfl) (by kernel_rfl) (fun _ _ _ h => h) (by first | exact fun _ => hF | exact fun _ => hF (by kernel_rfl)) (fun w => ?_) (by rfl) ?_
      rotate_left
      · first | (go_simp; done) | (go_simp; with_reducible rfl) | (go_split_ands; go_simp; done)
      try simp only [Act.put, List.setIfInBounds_toArray, List.set_cons_zero, List.set_cons_succ]
      refine wpAnyJ_ready (rs := [16]) (by kernel_rfl) (by simp) ?_
      refine AllJ.cons (o := { dst := none, op := Go.Op.store 3 (Go.Operand.tmp 38) (Go.Operand.tmp 36), type := 0, pos := "disk.go:96", after := #[{ on := 15, ground := Go.Ground.data }, { on := 13, ground := Go.Ground.data }, { on := 0, ground := Go.Ground.phase }, { on := 1, ground := Go.Ground.phase }, { on := 2, ground := Go.Ground.phase }, { on := 3, ground := Go.Ground.phase }, { on := 4, ground := Go.Ground.phase }, { on := 5, ground := Go.Ground.phase }, { on := 6, ground := Go.Ground.phase }, { on := 7, ground := Go.Ground.phase }, { on := 8, ground := Go.Ground.phase }, { on := 9, ground := Go.Ground.phase }, { on := 10, ground := Go.Ground.phase }, { on := 11, ground := Go.Ground.phase }, { on := 12, ground := Go.Ground.phase }, { on := 13, ground := Go.Ground.phase }], guard := none }) rfl (fun Kr hKr => ?_) ?_
      · go_simp
        refine hKr.out _ _ (fun hJ => ?_) (fun hF => ?_)
        · first
          | exact absurd hJ (by decide)
          | (clear hJ; (try dsimp only); all_goals (rfl))
        clear hKr
        try simp only [Act.put, List.setIfInBounds_toArray, List.set_cons_zero, List.set_cons_succ]
        refine wpAnyJ_done (by kernel_rfl) ?_ _
        have s6 : Step w G ((w3.setCell ⟨g, i * 3 + 2, none⟩ (.int .i64 x.d.length)).drew) _ := s5.out
        go_wp2_with fail
        refine (hdid.out _ _ _ hrep2.out s6.own).mono ?_
        rintro e w4 ⟨rfl, H4, hr4, hst⟩
        go_wp2_with fail
        go_ret
        rw [hg.out]
        exact ⟨rfl, H4, hr4, s6.trans hst⟩
      exact AllJ.nil
    · have hno : isF k.L nm = false := by simpa using hi
      rw [hno] at hsp
      have hg : Hid (gateN [nm] (syI nm) k = (7, k)) := gate_no hm.symm (by unfold syI; rw [if_neg hi]) (by decide)
      have hrep := Lib.hid h
      replace hm := Lib.hid hm
      clear hi hno h
      go_enter Try.func41, Try.ntmps41
      go_wp2_with fail
      refine hmy.out.mono ?_
      rintro e w2 ⟨rfl, hst⟩
      have s2 : Sp w H w2 [H] := (s1.out.still hst).forget 1 rfl |>.perm (by simp)
      clear hst
      go_wp2_with fail
      refine (hsp.out _ (s2.own 0 rfl)).mono ?_
      rintro e w3 ⟨rfl, hst⟩
      replace s2 := s2.still hst
      go_wp2_with fail
      go_ret
      rw [hg.out]
      exact ⟨rfl, H, hrep.out, s2.out (by simp)⟩
  · have q0 : ((m : Int) != 0) = true := by rw [bne_iff_ne]; omega
    have hm1 := Lib.hid hm0
    replace hm := Lib.hid hm
    clear hm0 h
    go_enter Try.func41, Try.ntmps41
    go_wp2_with fail
    refine hmy.out.mono ?_
    rintro e w2 ⟨rfl, hst⟩
    go_wp2_with fail
    go_ret
    have s2 := s1.out.still hst
    exact hmp.out hm1.out _ _ (s2.out (by simp; rfl))
end Go.Proofs.Ytebmbfiiadffjaa
