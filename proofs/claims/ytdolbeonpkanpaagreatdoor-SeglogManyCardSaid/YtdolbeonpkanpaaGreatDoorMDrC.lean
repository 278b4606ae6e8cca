/- The reference's disk: Sync. The reference's disk: remove, Remove. -/
import Derived.Test.YtdolbeonpkanpaaGreatDoorMDkH
import Derived.Test.YtdolbeonpkanpaaGreatDoorMDrA
set_option linter.unusedVariables false
set_option linter.unusedSimpArgs false
namespace Go.Proofs.YtdolbeonpkanpaaGreatDoor
open Go.RowKit
attribute [local go_sem ↓] Go.wp_at_zero Go.wp_at_succ

theorem Sp.putK {α : Type} {f : α → List Value} {k E : Nat} (hf : ∀ x, (f x).length = k) {w W : World} {K R : Heaplet} {Hs : List Heaplet} {g n c : Nat} {l : List α} (q : Nat) (s : Sp w K W Hs) (hq : Hs[q]? = some R) (h : SlRep E k (some ⟨g, 0, none⟩) n c (l.flatMap f) R) {i j : Nat} {x x' : α} {v : Value} (hi : l[i]? = some x) (hj : j < k) (hx : f x' = (f x).set j v) :
    ∃ R', SlRep E k (some ⟨g, 0, none⟩) n c ((l.set i x').flatMap f) R' ∧ Sp w K (W.setCell ⟨g, i * k + j, none⟩ v) (Hs.set q R') := by
  obtain ⟨R', h1, h2⟩ := slk_put hf (s.mid q hq) h hi hj hx
  refine ⟨R', h1, ?_⟩
  unfold Sp
  rw [sp_set hq, List.flatten_append, List.flatten_cons]
  exact h2
/-- The record of that name. -/
theorem re_find {X : List Re} {L : List Fl} {nm : Nm} (hk : X.map Re.key = L) (h : isF L nm = true) : ∃ x, X[spotN L nm]? = some x ∧ x.nm = nm ∧ (x.d, x.n) = getF L nm := by
  have h1 := isF_at h
  rw [← hk, List.getElem?_map] at h1
  obtain ⟨x, hx, e⟩ := Option.map_eq_some_iff.1 h1
  rw [hk] at hx
  refine ⟨x, hx, congrArg Prod.fst e, ?_⟩
  have := congrArg Prod.snd e
  rw [hk] at this
  exact this
theorem re_set {X : List Re} {L : List Fl} {nm : Nm} {x' : Re} (hk : X.map Re.key = L) (v : List UInt8 × Nat) (hx : x'.key = (nm, v)) : (X.set (spotN L nm) x').map Re.key = setF L nm v := by
  unfold setF
  rw [List.map_set, hk, hx]
theorem re_setH {X : List Re} {i : Nat} {x x' : Re} (hx : X[i]? = some x) (hH : x'.H = x.H) : (X.set i x').flatMap Re.H = X.flatMap Re.H := by
  rw [sp_set hx]
  conv => rhs; rw [sp_split hx]
  simp [hH]
theorem re_setOk {X : List Re} {i : Nat} {x' : Re} (h : ∀ y ∈ X, y.ok) (h' : x'.ok) : ∀ y ∈ X.set i x', y.ok := fun y hy => (List.mem_or_eq_of_mem_set hy).elim (h y) (fun e => e ▸ h')
theorem rk_put {b i c : Nat} {k : Dk} {a : Option Addr} {X : List Re} {R' : Heaplet} {y : Re} {nm : Nm} {v : List UInt8 × Nat} (hkk : X.map Re.key = k.L) (hie : i = spotN k.L nm) (hok : ∀ x ∈ X, x.ok) (hlf : leftI k.left ≤ 9223372036854775807) (hy : y.ok) (hyk : y.key = (nm, v))
    (hr : SlRep 107 3 a X.length c ((X.set i y).flatMap Re.cells) R') : RkRep b { k with L := setF k.L nm v } ((b, robj k.room a X.length c (leftI k.left)) :: (R' ++ (X.set i y).flatMap Re.H)) :=
  ⟨a, c, R', X.set i y, by rw [List.length_set]; exact hr, re_setOk hok hy, by rw [hie]; exact re_set hkk _ hyk, hlf, by rw [List.length_set]⟩
theorem re_swapH {X : List Re} {i : Nat} {x y : Re} (hx : X[i]? = some x) : (X.flatMap Re.H ++ y.H).Perm ((X.set i y).flatMap Re.H ++ x.H) := by
  rw [sp_set hx]
  conv => lhs; rw [sp_split hx]
  simp only [List.flatMap_append, List.flatMap_cons, List.append_assoc]
  refine List.Perm.append_left _ ?_
  refine (List.perm_append_comm (l₁ := x.H)).trans ?_
  simp only [List.append_assoc]
  refine List.Perm.trans ?_ (List.perm_append_comm_assoc _ _ _)
  refine List.Perm.append_left _ ?_
  exact List.Perm.refl _
theorem rk_start {b : Nat} {o : Obj} {R XH : Heaplet} {w : World} (hw : Own w ((b, o) :: (R ++ XH))) : Sp w ((b, o) :: (R ++ XH)) w [[(b, o)], R, XH] := (Sp.start hw).perm (by simp)
theorem may_post {b : Nat} {k : Dk} {names : List Nm} {op : Dk → Nat × Dk} {H G : Heaplet} {w W : World} (h : RkRep b k H) (hm : mayN k names ≠ 0) (s : Step w H W (H ++ G)) : RkPost b (gateN names op k) H w (.returned (iv (mayN k names))) W := by
  have hg : gateN names op k = (mayN k names, k) := by unfold gateN; rw [if_pos hm]
  rw [hg]
  exact ⟨rfl, H, h, s.forget⟩
theorem gate_no {k : Dk} {names : List Nm} {op : Dk → Nat × Dk} {n : Nat} (hm : mayN k names = 0) (h : op k = (n, k)) (hn : n ≠ 0) : gateN names op k = (n, k) := by unfold gateN; rw [hm, h]; simp [hn]
theorem gate_yes {k k' : Dk} {names : List Nm} {op : Dk → Nat × Dk} (hm : mayN k names = 0) (h : op k = (0, k')) : gateN names op k = (0, didN k') := by unfold gateN; rw [hm, h]; simp
set_option maxHeartbeats 2000000 in
set_option maxRecDepth 100000 in
theorem rsync (b : Nat) (k : Dk) (H : Heaplet) (nm : Nm) (w : World) (h : RkRep b k H) (hk : k.Ok) (hw : Own w H) :
    Calls Tryz.prog 50 #[pt b, strV nm] w (RkPost b (gateN [nm] (syI nm) k) H w) := by
  have s1 := (Sp.start hw).alloc (.cells #[strV nm] 9)
  have hmy := Lib.hid (may_any b k H w.heap.size 1 [nm] _ h (s1.own 0 rfl) (rdStrs_one w nm) (Nat.le_refl _) (by decide))
  have hsp := Lib.hid (fun W hW => spot_any b k H nm W h hW (by have := hk.many; omega))
  have hmp := Lib.hid (fun hm W G (s : Step w H W (H ++ G)) => may_post (op := syI nm) (names := [nm]) h hm s)
  replace s1 := Lib.hid s1
  obtain ⟨m, hm⟩ : ∃ m, m = mayN k [nm] := ⟨_, rfl⟩
  rw [← hm] at hmy hmp
  by_cases hm0 : m = 0
  · subst hm0
    by_cases hi : isF k.L nm = true
    · obtain ⟨a, c, R, X, hr, hok, hkk, hlf, rfl⟩ := h
      obtain ⟨x, hx, rfl, hget⟩ := re_find hkk hi
      rw [hi] at hsp
      have hg : Hid (gateN [x.nm] (syI x.nm) k = (0, didN { k with L := setF k.L x.nm (x.d, x.d.length) })) := by
        refine gate_yes hm.symm ?_
        unfold syI
        rw [if_pos hi, ← hget]
      obtain ⟨i, hie⟩ : ∃ i, i = spotN k.L x.nm := ⟨_, rfl⟩
      rw [← hie] at hx hsp
      have hxi : Hid (i < X.length ∧ X.length ≤ 4096) := ⟨(List.getElem?_eq_some_iff.1 hx).1, by have := hk.many; rw [← hkk, List.length_map] at this; exact this⟩
      obtain ⟨y, hy⟩ : ∃ y : Re, y = { x with n := x.d.length } := ⟨_, rfl⟩
      have hyo : y.ok := by rw [hy]; exact hok x (List.mem_of_getElem? hx)
      have hyk : y.key = (x.nm, (x.d, x.d.length)) := by rw [hy]; rfl
      have hyc : y.cells = x.cells.set 2 (iv x.d.length) := by rw [hy]; rfl
      have hyH : (X.set i y).flatMap Re.H = X.flatMap Re.H := re_setH hx (by rw [hy])
      have hput := Lib.hid (fun R' hr' => rk_put (b := b) (c := c) (a := a) (R' := R') hkk hie hok hlf hyo hyk hr')
      have hdid := Lib.hid (fun k' H W h hW => did_any b k' H W h hW)
      have s2 := (rk_start (s1.out.own 0 rfl)).perm (Gs := [[(b, robj k.room a X.length c (leftI k.left))], R, X.flatMap Re.H]) (List.Perm.refl _)
      replace hr := Lib.hid hr
      replace hx := Lib.hid hx
      replace hyc := Lib.hid hyc
      replace hyH := Lib.hid hyH
      clear hok hkk hget hi hlf hyo hyk s2
      replace hie := Lib.hid hie
      replace hm := Lib.hid hm
      replace hy := Lib.hid hy
      generalize hGG : ((b, robj k.room a X.length c (leftI k.left)) :: (R ++ X.flatMap Re.H)) = G at hmy hsp hmp s1 ⊢
      replace hGG := Lib.hid hGG
      go_enter Tryz.func50, Tryz.ntmps50
      go_wp2_with fail
      refine hmy.out.mono ?_
      rintro e w2 ⟨rfl, hst⟩
      have s2 : Sp w G w2 [G] := (s1.out.still hst).forget 1 rfl |>.perm (by simp)
      clear hst
      go_wp2_with fail
      refine (hsp.out _ (s2.own 0 rfl)).mono ?_
      rintro e w3 ⟨rfl, hst⟩
      replace s2 := s2.still hst
      clear hst
      go_upto_region 7 with fail
      have s3 : Sp w G w3 [[(b, robj k.room a X.length c (leftI k.left))], R, X.flatMap Re.H] := s2.perm (by rw [← hGG.out]; simp)
      have ⟨c0, c1, c2⟩ := cells3 (s3.one 0 rfl)
      obtain ⟨g, hga, k0, k1, r0, r1, r2, fz⟩ := re_at hr.out (s3.own 1 rfl) hx.out
      rw [hga] at c1
      have hr2 := hr.out
      rw [hga] at hr2
      obtain ⟨R', hr3, s4⟩ := s3.drew.putK re_len 1 rfl hr2 hx.out (by decide) hyc.out
      obtain ⟨n, hn⟩ : ∃ n, n = X.length := ⟨_, rfl⟩
      have hxn := hxi.out
      rw [← hn] at c1 k0 hxn
      have i0 : (0 : Int) ≤ (i : Int) := by omega
      have i1 : (i : Int) < (n : Int) := by omega
      have i2 : (n : Int) ≤ (c : Int) := by omega
      have glt := World.block_lt_of_cell? w3 _ r0
      have hrep2 := hput.out R' (by rw [hga]; exact hr3)
      rw [hyH.out] at hrep2
      have s5 := s4.out (G := (b, robj k.room a X.length c (leftI k.left)) :: (R' ++ X.flatMap Re.H)) (by simp)
      replace hga := Lib.hid hga
      replace hn := Lib.hid hn
      replace s5 := Lib.hid s5
      replace hrep2 := Lib.hid hrep2
      clear hr2 s2 s4 hr3
      refine wp_region_J 16 (fun w' => w' = w3.drew) (by kernel_rfl) ?_ (fun hF => ?_)
      · (try dsimp only)
        all_goals (rfl)
      refine tk0 (i := 0) (oi := ⟨some 23, .move (.tmp 0), 29, "disk.go:96", #[], none⟩) (v := ?_) rfl (by kernel_rfl) (fun _ _ _ h => h) (fun _ => hF) (fun w => ?_) (by rfl) ?_
      rotate_left
      · first | (go_simp; done) | (go_simp; with_reducible rfl) | (go_split_ands; go_simp; done)
      try simp only [Act.put, nrmA, nrmB, nrmC]
      refine tk0 (i := 1) (oi := ⟨some 24, .nilCheck (.tmp 23), 0, "disk.go:96", #[⟨0, .data⟩], none⟩) (v := ?_) rfl (by kernel_rfl) (fun _ _ _ h => h) (fun _ => hF) (fun w => ?_) (by rfl) ?_
      rotate_left
      · first | (go_simp; done) | (go_simp; with_reducible rfl) | (go_split_ands; go_simp; done)
      try simp only [Act.put, nrmA, nrmB, nrmC]
      refine tk0 (i := 2) (oi := ⟨some 25, .fieldAddr 83 (.tmp 24) 1, 0, "disk.go:96", #[⟨1, .data⟩], none⟩) (v := ?_) rfl (by kernel_rfl) (fun _ _ _ h => h) (fun _ => hF) (fun w => ?_) (by rfl) ?_
      rotate_left
      · first | (go_simp; done) | (go_simp; with_reducible rfl) | (go_split_ands; go_simp; done)
      try simp only [Act.put, nrmA, nrmB, nrmC]
      refine tk1 (i := 3) (oi := ⟨some 26, .load 81 (.tmp 25), 81, "disk.go:96", #[⟨2, .data⟩], none⟩) (v := ?_) [16] rfl (by kernel_rfl) (fun _ _ _ h => h) hF (fun w hFw => ?_) (by rfl) ?_
      rotate_left
      · ((try dsimp only at hFw); first | (go_simp; done) | (go_simp; with_reducible rfl) | (go_split_ands; go_simp; done))
      try simp only [Act.put, nrmA, nrmB, nrmC]
      refine tk0 (i := 4) (oi := ⟨some 27, .move (.tmp 6), 3, "disk.go:96", #[], none⟩) (v := ?_) rfl (by kernel_rfl) (fun _ _ _ h => h) (fun _ => hF) (fun w => ?_) (by rfl) ?_
      rotate_left
      · first | (go_simp; done) | (go_simp; with_reducible rfl) | (go_split_ands; go_simp; done)
      try simp only [Act.put, nrmA, nrmB, nrmC]
      refine tk0 (i := 5) (oi := ⟨some 28, .move (.tmp 0), 29, "disk.go:96", #[], none⟩) (v := ?_) rfl (by kernel_rfl) (fun _ _ _ h => h) (fun _ => hF) (fun w => ?_) (by rfl) ?_
      rotate_left
      · first | (go_simp; done) | (go_simp; with_reducible rfl) | (go_split_ands; go_simp; done)
      try simp only [Act.put, nrmA, nrmB, nrmC]
      refine tk0 (i := 6) (oi := ⟨some 29, .nilCheck (.tmp 28), 0, "disk.go:96", #[⟨5, .data⟩], none⟩) (v := ?_) rfl (by kernel_rfl) (fun _ _ _ h => h) (fun _ => hF) (fun w => ?_) (by rfl) ?_
      rotate_left
      · first | (go_simp; done) | (go_simp; with_reducible rfl) | (go_split_ands; go_simp; done)
      try simp only [Act.put, nrmA, nrmB, nrmC]
      refine tk0 (i := 7) (oi := ⟨some 30, .fieldAddr 83 (.tmp 29) 1, 0, "disk.go:96", #[⟨6, .data⟩], none⟩) (v := ?_) rfl (by kernel_rfl) (fun _ _ _ h => h) (fun _ => hF) (fun w => ?_) (by rfl) ?_
      rotate_left
      · first | (go_simp; done) | (go_simp; with_reducible rfl) | (go_split_ands; go_simp; done)
      try simp only [Act.put, nrmA, nrmB, nrmC]
      refine tk1 (i := 8) (oi := ⟨some 31, .load 81 (.tmp 30), 81, "disk.go:96", #[⟨7, .data⟩], none⟩) (v := ?_) [16] rfl (by kernel_rfl) (fun _ _ _ h => h) hF (fun w hFw => ?_) (by rfl) ?_
      rotate_left
      · ((try dsimp only at hFw); first | (go_simp; done) | (go_simp; with_reducible rfl) | (go_split_ands; go_simp; done))
      try simp only [Act.put, nrmA, nrmB, nrmC]
      refine tk0 (i := 9) (oi := ⟨some 32, .move (.tmp 6), 3, "disk.go:96", #[], none⟩) (v := ?_) rfl (by kernel_rfl) (fun _ _ _ h => h) (fun _ => hF) (fun w => ?_) (by rfl) ?_
      rotate_left
      · first | (go_simp; done) | (go_simp; with_reducible rfl) | (go_split_ands; go_simp; done)
      try simp only [Act.put, nrmA, nrmB, nrmC]
      refine tk0 (i := 10) (oi := ⟨some 33, .indexAddr 81 (.tmp 31) (.tmp 32), 0, "disk.go:96", #[⟨8, .data⟩, ⟨9, .data⟩], none⟩) (v := ?_) rfl (by kernel_rfl) (fun _ _ _ h => h) (fun _ => hF) (fun w => ?_) (by rfl) ?_
      rotate_left
      · first | (go_simp; done) | (go_simp; with_reducible rfl) | (go_split_ands; go_simp; done)
      try simp only [Act.put, nrmA, nrmB, nrmC]
      refine tk0 (i := 11) (oi := ⟨some 34, .fieldAddr 107 (.tmp 33) 1, 0, "disk.go:96", #[⟨10, .data⟩], none⟩) (v := ?_) rfl (by kernel_rfl) (fun _ _ _ h => h) (fun _ => hF) (fun w => ?_) (by rfl) ?_
      rotate_left
      · first | (go_simp; done) | (go_simp; with_reducible rfl) | (go_split_ands; go_simp; done)
      try simp only [Act.put, nrmA, nrmB, nrmC]
      refine tk1 (i := 12) (oi := ⟨some 35, .load 23 (.tmp 34), 23, "disk.go:96", #[⟨11, .data⟩], none⟩) (v := ?_) [16] rfl (by kernel_rfl) (fun _ _ _ h => h) hF (fun w hFw => ?_) (by rfl) ?_
      rotate_left
      · ((try dsimp only at hFw); first | (go_simp; done) | (go_simp; with_reducible rfl) | (go_split_ands; go_simp; done))
      try simp only [Act.put, nrmA, nrmB, nrmC]
      refine tk1 (i := 13) (oi := ⟨some 36, .call { callee := .builtin .len, args := #[.tmp 35], argTypes := #[23] }, 3, "disk.go:96", #[⟨12, .data⟩], none⟩) (v := ?_) [16] rfl (by kernel_rfl) (fun _ _ _ h => h) hF (fun w hFw => ?_) (by rfl) ?_
      rotate_left
      · ((try dsimp only at hFw); first | (go_simp; done) | (go_simp; with_reducible rfl) | (go_split_ands; go_simp; done))
      try simp only [Act.put, nrmA, nrmB, nrmC]
      refine tk0 (i := 14) (oi := ⟨some 37, .indexAddr 81 (.tmp 26) (.tmp 27), 0, "disk.go:96", #[⟨3, .data⟩, ⟨4, .data⟩, ⟨0, .phase⟩, ⟨1, .phase⟩, ⟨2, .phase⟩, ⟨3, .phase⟩, ⟨4, .phase⟩, ⟨5, .phase⟩, ⟨6, .phase⟩, ⟨7, .phase⟩, ⟨8, .phase⟩, ⟨9, .phase⟩, ⟨10, .phase⟩, ⟨11, .phase⟩, ⟨12, .phase⟩, ⟨13, .phase⟩], none⟩) (v := ?_) rfl (by kernel_rfl) (fun _ _ _ h => h) (fun _ => hF) (fun w => ?_) (by rfl) ?_
      rotate_left
      · first | (go_simp; done) | (go_simp; with_reducible rfl) | (go_split_ands; go_simp; done)
      try simp only [Act.put, nrmA, nrmB, nrmC]
      refine tk0 (i := 15) (oi := ⟨some 38, .fieldAddr 107 (.tmp 37) 2, 0, "disk.go:96", #[⟨14, .data⟩, ⟨0, .phase⟩, ⟨1, .phase⟩, ⟨2, .phase⟩, ⟨3, .phase⟩, ⟨4, .phase⟩, ⟨5, .phase⟩, ⟨6, .phase⟩, ⟨7, .phase⟩, ⟨8, .phase⟩, ⟨9, .phase⟩, ⟨10, .phase⟩, ⟨11, .phase⟩, ⟨12, .phase⟩, ⟨13, .phase⟩], none⟩) (v := ?_) rfl (by kernel_rfl) (fun _ _ _ h => h) (fun _ => hF) (fun w => ?_) (by rfl) ?_
      rotate_left
      · first | (go_simp; done) | (go_simp; with_reducible rfl) | (go_split_ands; go_simp; done)
      try simp only [Act.put, nrmA, nrmB, nrmC]
      refine wpAnyJ_ready (rs := [16]) (by kernel_rfl) (by simp) ?_
      refine AllJ.cons1 (o := ⟨none, .store 3 (.tmp 38) (.tmp 36), 0, "disk.go:96", #[⟨15, .data⟩, ⟨13, .data⟩, ⟨0, .phase⟩, ⟨1, .phase⟩, ⟨2, .phase⟩, ⟨3, .phase⟩, ⟨4, .phase⟩, ⟨5, .phase⟩, ⟨6, .phase⟩, ⟨7, .phase⟩, ⟨8, .phase⟩, ⟨9, .phase⟩, ⟨10, .phase⟩, ⟨11, .phase⟩, ⟨12, .phase⟩, ⟨13, .phase⟩], none⟩) rfl (fun Kr hKr => ?_)
      go_simp
      refine hKr.out _ _ (fun hJ => ?_) (fun hF => ?_)
      · first
        | exact absurd hJ (by decide)
        | (clear hJ; (try dsimp only); all_goals (rfl))
      clear hKr
      try simp only [Act.put, nrmA, nrmB, nrmC]
      refine wpAnyJ_done (by kernel_rfl) ?_ _
      have s6 : Step w G ((w3.setCell ⟨g, i * 3 + 2, none⟩ (.int .i64 x.d.length)).drew) _ := s5.out
      go_wp2_with fail
      refine (hdid.out _ _ _ hrep2.out s6.own).mono ?_
      rintro e w4 ⟨rfl, H4, hr4, hst⟩
      go_wp2_with fail
      go_ret
      rw [hg.out]
      exact ⟨rfl, H4, hr4, s6.trans hst⟩
    · have hno : isF k.L nm = false := by simpa using hi
      rw [hno] at hsp
      have hg : Hid (gateN [nm] (syI nm) k = (7, k)) := gate_no hm.symm (by unfold syI; rw [if_neg hi]) (by decide)
      have hrep := Lib.hid h
      replace hm := Lib.hid hm
      clear hi hno h
      go_enter Tryz.func50, Tryz.ntmps50
      go_wp2_with fail
      refine hmy.out.mono ?_
      rintro e w2 ⟨rfl, hst⟩
      have s2 : Sp w H w2 [H] := (s1.out.still hst).forget 1 rfl |>.perm (by simp)
      clear hst
      go_wp2_with fail
      refine (hsp.out _ (s2.own 0 rfl)).mono ?_
      rintro e w3 ⟨rfl, hst⟩
      replace s2 := s2.still hst
      go_wp2_with fail
      go_ret
      rw [hg.out]
      exact ⟨rfl, H, hrep.out, s2.out (by simp)⟩
  · have q0 : ((m : Int) != 0) = true := by rw [bne_iff_ne]; omega
    have hm1 := Lib.hid hm0
    replace hm := Lib.hid hm
    clear hm0 h
    go_enter Tryz.func50, Tryz.ntmps50
    go_wp2_with fail
    refine hmy.out.mono ?_
    rintro e w2 ⟨rfl, hst⟩
    go_wp2_with fail
    go_ret
    have s2 := s1.out.still hst
    exact hmp.out hm1.out _ _ (s2.out (by simp; rfl))
end Go.Proofs.YtdolbeonpkanpaaGreatDoor
namespace Go.Proofs.YtdolbeonpkanpaaGreatDoor
open Go.RowKit
attribute [local go_sem ↓] Go.wp_at_zero Go.wp_at_succ

theorem re_eraseH {X : List Re} {i : Nat} {x : Re} (hx : X[i]? = some x) : (X.flatMap Re.H).Perm ((X.eraseIdx i).flatMap Re.H ++ x.H) := by
  rw [List.eraseIdx_eq_take_drop_succ]
  conv => lhs; rw [sp_split hx]
  simp only [List.flatMap_append, List.flatMap_cons, List.append_assoc]
  exact List.Perm.append_left _ List.perm_append_comm
theorem rk_gone {b i c n i1 : Nat} {k : Dk} {a : Option Addr} {X : List Re} {R' : Heaplet} {nm : Nm} (hkk : X.map Re.key = k.L) (hf : isF k.L nm = true) (hie : i = spotN k.L nm) (hok : ∀ x ∈ X, x.ok) (hlf : leftI k.left ≤ 9223372036854775807) (hn : n = X.length) (hi1 : i1 = i + 1) (hlt : i < X.length)
    (hr : SlRep 107 3 a (i + (n - i1)) c ([] ++ (X.take i).flatMap Re.cells ++ (X.drop (i + 1)).flatMap Re.cells) R') : RkRep b { k with L := delF k.L nm } ((b, robj k.room a (i + (n - i1)) c (leftI k.left)) :: (R' ++ (X.eraseIdx i).flatMap Re.H)) := by
  have hle : i + (n - i1) = (X.eraseIdx i).length := by rw [List.length_eraseIdx, if_pos hlt]; omega
  rw [hle] at hr ⊢
  refine ⟨a, c, R', X.eraseIdx i, ?_, fun y hy => hok y (List.mem_of_mem_eraseIdx hy), ?_, hlf, rfl⟩
  · rw [List.eraseIdx_eq_take_drop_succ, List.flatMap_append]
    rw [List.eraseIdx_eq_take_drop_succ] at hr
    simpa using hr
  · show _ = delF k.L nm
    unfold delF
    rw [if_pos hf, ← hie, ← hkk, List.eraseIdx_eq_take_drop_succ, List.eraseIdx_eq_take_drop_succ, List.map_append, List.map_take, List.map_drop]
theorem re_none {L : List Fl} {nm : Nm} (h : isF L nm = false) : delF L nm = L := by unfold delF; rw [h]; rfl
/-- What remove leaves: the disk without the file, and that file's bytes apart. -/
def RmPost (b : Nat) (k : Dk) (nm : Nm) (X : List Re) (H : Heaplet) (w : World) (e : Ending) (w' : World) : Prop :=
  e = .returned (.tuple #[]) ∧ ∃ H' J, RkRep b { k with L := delF k.L nm } H' ∧ Step w H w' (H' ++ J) ∧ (isF k.L nm = true → ∀ x, X[spotN k.L nm]? = some x → J = x.H)
set_option maxHeartbeats 2000000 in
set_option maxRecDepth 100000 in
theorem rdel (b : Nat) (k : Dk) (a : Option Addr) (c : Nat) (R : Heaplet) (X : List Re) (nm : Nm) (w : World) (hr : SlRep 107 3 a X.length c (X.flatMap Re.cells) R) (hok : ∀ x ∈ X, x.ok) (hkk : X.map Re.key = k.L) (hlf : leftI k.left ≤ 9223372036854775807) (hk : k.L.length ≤ 4096)
    (hw : Own w ((b, robj k.room a X.length c (leftI k.left)) :: (R ++ X.flatMap Re.H))) :
    Calls Tryz.prog 96 #[pt b, strV nm] w (RmPost b k nm X ((b, robj k.room a X.length c (leftI k.left)) :: (R ++ X.flatMap Re.H)) w) := by
  have h : RkRep b k ((b, robj k.room a X.length c (leftI k.left)) :: (R ++ X.flatMap Re.H)) := ⟨a, c, R, X, hr, hok, hkk, hlf, rfl⟩
  have hsp := Lib.hid (spot_any b k _ nm w h hw (by omega))
  have s1 := rk_start hw
  by_cases hi : isF k.L nm = true
  · obtain ⟨x, hx, rfl, hget⟩ := re_find hkk hi
    obtain ⟨i, hie⟩ : ∃ i, i = spotN k.L x.nm := ⟨_, rfl⟩
    have hfin : Hid (∀ i1 n a' c' R' W, n = X.length → i1 = i + 1 → SlRep 107 3 a' (i + (n - i1)) c' ([] ++ (X.take i).flatMap Re.cells ++ (X.drop (i + 1)).flatMap Re.cells) R' → Sp w ((b, robj k.room a X.length c (leftI k.left)) :: (R ++ X.flatMap Re.H)) W [[(b, robj k.room a' (i + (n - i1)) c' (leftI k.left))], R, X.flatMap Re.H, R'] →
        RmPost b k x.nm X ((b, robj k.room a X.length c (leftI k.left)) :: (R ++ X.flatMap Re.H)) w (.returned (.tuple #[])) W) := fun i1 n a' c' R' W hn h1 hr' s => by
      have hlt : i < X.length := by rw [hie]; exact (List.getElem?_eq_some_iff.1 hx).1
      refine ⟨rfl, _, x.H, rk_gone hkk hi hie hok hlf hn h1 hlt hr', ?_, fun _ y hy => by rw [hx] at hy; cases hy; rfl⟩
      have s2 := (s.forget 1 rfl)
      simp only [List.set_cons_succ, List.set_cons_zero] at s2
      refine s2.perm (Gs := [_]) ?_ |>.out (List.flatten_singleton ..)
      have hp := re_eraseH (by rw [hie]; exact hx : X[i]? = some x)
      simp only [List.flatten_cons, List.flatten_nil, List.append_nil, List.cons_append, List.nil_append]
      refine List.Perm.cons _ ((hp.append_right _).trans ?_)
      simp only [List.append_assoc]
      refine List.perm_append_comm.trans ?_
      simp only [List.append_assoc]
      exact (List.perm_append_comm (l₁ := x.H)).trans (by simp)
    rw [hi] at hsp
    rw [← hie] at hx hsp
    have hlt := (List.getElem?_eq_some_iff.1 hx).1
    obtain ⟨g, rfl, k0, k1, r0, r1, r2, fz⟩ := re_at hr (s1.own 1 rfl) hx
    obtain ⟨n, hn⟩ : ∃ n, n = X.length := ⟨_, rfl⟩
    have hn4 : n ≤ 4096 := by rw [hn, ← List.length_map (f := Re.key), hkk]; exact hk
    obtain ⟨i1, hi1⟩ : ∃ i1, i1 = i + 1 := ⟨_, rfl⟩
    have hrd := Lib.hid (fun W (hW : Own W R) c' => slk_rd re_len re_one hr rfl hW 0 i c' (by omega))
    have hrd2 : Hid (∀ W, Own W R → RdCells W (.slice (if c = i1 then some ⟨g, 0, none⟩ else some ⟨g, i1 * 3, none⟩) (n - i1) (c - i1)) (n - i1) 3 (((X.drop i1).take (n - i1)).flatMap Re.cells)) := fun W hW => by
      have q := slk_rd re_len re_one hr rfl hW i1 (n - i1) (c - i1) (by omega)
      split
      · have e0 : n - i1 = 0 := by omega
        rw [e0] at q ⊢
        exact ⟨by simp, by simp, .inr ⟨_, _, rfl, by simp⟩⟩
      · exact q
    have hrds : Hid (((X.drop 0).take i).flatMap Re.cells = (X.take i).flatMap Re.cells ∧ ((X.drop i1).take (n - i1)).flatMap Re.cells = (X.drop (i + 1)).flatMap Re.cells) := by
      refine ⟨by rw [List.drop_zero], ?_⟩
      rw [List.take_of_length_le (by rw [List.length_drop, hn]; omega), hi1]
    have d0 : (0 : Int) ≤ (i : Int) := by omega
    have d1 : (i : Int) < (n : Int) := by omega
    have d2 : (i : Int) ≤ (c : Int) := by omega
    have d3 : IntKind.i64.wrap ((i : Int) + 1) = (i1 : Int) := by rw [IntWalk.i64_in _ (by omega)]; omega
    have d4 : (0 : Int) ≤ (i1 : Int) := by omega
    have d5 : (i1 : Int) ≤ (n : Int) := by omega
    have d6 : (n : Int) ≤ (c : Int) := by omega
    have m1 : i ≤ c := by omega
    have m2 : i1 ≤ n := by omega
    have hni : Hid (n = X.length ∧ i1 = i + 1) := ⟨hn, hi1⟩
    clear r0 r1 r2 fz hr hok hkk hget h hi hw hk
    replace hx := Lib.hid hx
    replace hie := Lib.hid hie
    rw [← hn] at hlt k0
    replace hn := Lib.hid hn
    clear hi1
    generalize hGG : ((b, robj k.room (some ⟨g, 0, none⟩) X.length c (leftI k.left)) :: (R ++ X.flatMap Re.H)) = G at hsp hfin s1 ⊢
    replace hGG := Lib.hid hGG
    go_enter Tryz.func96, Tryz.ntmps96
    go_wp2_with fail
    refine hsp.out.mono ?_
    rintro e w3 ⟨rfl, hst⟩
    replace s1 := s1.still hst
    clear hst
    go_upto_region 2 with fail
    rw [← hn.out] at s1
    have ⟨c0, c1, c2⟩ := cells3 (s1.one 0 rfl)
    have b0 := heap_lt (s1.one 0 rfl)
    refine wp_region_J 19 (fun w' => w'.cell? ⟨b, 1, none⟩ = some (.slice (some ⟨g, 0, none⟩) n c)) (by kernel_rfl) ?_ (fun hF => ?_)
    · (try dsimp only)
      all_goals (first | exact c1 | (simp [*, World.cell?_alloc_some]; done))
    refine tk0 (i := 0) (oi := ⟨some 13, .move (.tmp 0), 29, "disk.go:122", #[], none⟩) (v := ?_) rfl (by kernel_rfl) (fun _ _ _ h => h) (fun _ => hF) (fun w => ?_) (by rfl) ?_
    rotate_left
    · first | (go_simp; done) | (go_simp; with_reducible rfl) | (go_split_ands; go_simp; done)
    try simp only [Act.put, nrmA, nrmB, nrmC]
    refine tk0 (i := 2) (oi := ⟨some 15, .move (.tmp 0), 29, "disk.go:122", #[], none⟩) (v := ?_) rfl (by kernel_rfl) (fun _ _ _ h => h) (fun _ => hF) (fun w => ?_) (by rfl) ?_
    rotate_left
    · first | (go_simp; done) | (go_simp; with_reducible rfl) | (go_split_ands; go_simp; done)
    try simp only [Act.put, nrmA, nrmB, nrmC]
    refine tk0 (i := 3) (oi := ⟨some 16, .nilCheck (.tmp 15), 0, "disk.go:122", #[⟨2, .data⟩], none⟩) (v := ?_) rfl (by kernel_rfl) (fun _ _ _ h => h) (fun _ => hF) (fun w => ?_) (by rfl) ?_
    rotate_left
    · first | (go_simp; done) | (go_simp; with_reducible rfl) | (go_split_ands; go_simp; done)
    try simp only [Act.put, nrmA, nrmB, nrmC]
    refine tk0 (i := 4) (oi := ⟨some 17, .fieldAddr 83 (.tmp 16) 1, 0, "disk.go:122", #[⟨3, .data⟩], none⟩) (v := ?_) rfl (by kernel_rfl) (fun _ _ _ h => h) (fun _ => hF) (fun w => ?_) (by rfl) ?_
    rotate_left
    · first | (go_simp; done) | (go_simp; with_reducible rfl) | (go_split_ands; go_simp; done)
    try simp only [Act.put, nrmA, nrmB, nrmC]
    refine tk1 (i := 5) (oi := ⟨some 18, .load 81 (.tmp 17), 81, "disk.go:122", #[⟨4, .data⟩], none⟩) (v := ?_) [19] rfl (by kernel_rfl) (fun _ _ _ h => h) hF (fun w hFw => ?_) (by rfl) ?_
    rotate_left
    · ((try dsimp only at hFw); first | (go_simp; done) | (go_simp; with_reducible rfl) | (go_split_ands; go_simp; done))
    try simp only [Act.put, nrmA, nrmB, nrmC]
    refine tk0 (i := 6) (oi := ⟨some 19, .move (.tmp 4), 3, "disk.go:122", #[], none⟩) (v := ?_) rfl (by kernel_rfl) (fun _ _ _ h => h) (fun _ => hF) (fun w => ?_) (by rfl) ?_
    rotate_left
    · first | (go_simp; done) | (go_simp; with_reducible rfl) | (go_split_ands; go_simp; done)
    try simp only [Act.put, nrmA, nrmB, nrmC]
    refine tk0 (i := 7) (oi := ⟨some 20, .slice 81 (.tmp 18) none (some (.tmp 19)) none, 81, "disk.go:122", #[⟨5, .data⟩, ⟨6, .data⟩], none⟩) (v := ?_) rfl (by kernel_rfl) (fun _ _ _ h => h) (fun _ => hF) (fun w => ?_) (by rfl) ?_
    rotate_left
    · first | (go_simp; done) | (go_simp; with_reducible rfl) | (go_split_ands; go_simp; done)
    try simp only [Act.put, nrmA, nrmB, nrmC]
    refine tk0 (i := 9) (oi := ⟨some 22, .move (.tmp 0), 29, "disk.go:122", #[], none⟩) (v := ?_) rfl (by kernel_rfl) (fun _ _ _ h => h) (fun _ => hF) (fun w => ?_) (by rfl) ?_
    rotate_left
    · first | (go_simp; done) | (go_simp; with_reducible rfl) | (go_split_ands; go_simp; done)
    try simp only [Act.put, nrmA, nrmB, nrmC]
    refine tk0 (i := 10) (oi := ⟨some 23, .nilCheck (.tmp 22), 0, "disk.go:122", #[⟨9, .data⟩], none⟩) (v := ?_) rfl (by kernel_rfl) (fun _ _ _ h => h) (fun _ => hF) (fun w => ?_) (by rfl) ?_
    rotate_left
    · first | (go_simp; done) | (go_simp; with_reducible rfl) | (go_split_ands; go_simp; done)
    try simp only [Act.put, nrmA, nrmB, nrmC]
    refine tk0 (i := 11) (oi := ⟨some 24, .fieldAddr 83 (.tmp 23) 1, 0, "disk.go:122", #[⟨10, .data⟩], none⟩) (v := ?_) rfl (by kernel_rfl) (fun _ _ _ h => h) (fun _ => hF) (fun w => ?_) (by rfl) ?_
    rotate_left
    · first | (go_simp; done) | (go_simp; with_reducible rfl) | (go_split_ands; go_simp; done)
    try simp only [Act.put, nrmA, nrmB, nrmC]
    refine tk1 (i := 12) (oi := ⟨some 25, .load 81 (.tmp 24), 81, "disk.go:122", #[⟨11, .data⟩], none⟩) (v := ?_) [19] rfl (by kernel_rfl) (fun _ _ _ h => h) hF (fun w hFw => ?_) (by rfl) ?_
    rotate_left
    · ((try dsimp only at hFw); first | (go_simp; done) | (go_simp; with_reducible rfl) | (go_split_ands; go_simp; done))
    try simp only [Act.put, nrmA, nrmB, nrmC]
    refine tk0 (i := 13) (oi := ⟨some 26, .move (.tmp 4), 3, "disk.go:122", #[], none⟩) (v := ?_) rfl (by kernel_rfl) (fun _ _ _ h => h) (fun _ => hF) (fun w => ?_) (by rfl) ?_
    rotate_left
    · first | (go_simp; done) | (go_simp; with_reducible rfl) | (go_split_ands; go_simp; done)
    try simp only [Act.put, nrmA, nrmB, nrmC]
    refine tk0 (i := 14) (oi := ⟨some 27, .binOp .add 3 (.tmp 26) (.const (.int .i64 1)) 3, 3, "disk.go:122", #[⟨13, .data⟩], none⟩) (v := ?_) rfl (by kernel_rfl) (fun _ _ _ h => h) (fun _ => hF) (fun w => ?_) (by rfl) ?_
    rotate_left
    · first | (go_simp; done) | (go_simp; with_reducible rfl) | (go_split_ands; go_simp; done)
    try simp only [Act.put, nrmA, nrmB, nrmC]
    refine tk0 (i := 15) (oi := ⟨some 28, .slice 81 (.tmp 25) (some (.tmp 27)) none none, 81, "disk.go:122", #[⟨12, .data⟩, ⟨14, .data⟩], none⟩) (v := ?_) rfl (by kernel_rfl) (fun _ _ _ h => h) (fun _ => hF) (fun w => ?_) (by rfl) ?_
    rotate_left
    · first | (go_simp; done) | (go_simp; with_reducible rfl) | (go_split_ands; go_simp; done)
    try simp only [Act.put, nrmA, nrmB, nrmC]
    refine wpAnyJ_ready (rs := [1]) (by kernel_rfl) (by simp) ?_
    refine AllJ.cons1 (o := ⟨some 14, .buildSlice 81 0 #[], 81, "disk.go:122", #[], none⟩) rfl (fun Kr hKr => ?_)
    go_simp
    refine hKr.out _ _ (fun hJ => ?_) (fun hF => ?_)
    · first
      | exact absurd hJ (by decide)
      | (clear hJ; (try dsimp only); all_goals (first | exact c1 | (simp [*, World.cell?_alloc_some]; done)))
    clear hKr
    try simp only [Act.put, nrmA, nrmB, nrmC]
    refine wpAnyJ_ready (rs := [8]) (by kernel_rfl) (by simp) ?_
    refine AllJ.cons1 (o := ⟨some 21, .call { callee := .builtin .append, args := #[.tmp 14, .tmp 20], argTypes := #[81, 81] }, 81, "disk.go:122", #[⟨1, .data⟩, ⟨7, .data⟩], none⟩) rfl (fun Kr hKr => ?_)
    have s2 := s1.drew.alloc (.cells #[] 107 (0, 0))
    refine step_app rfl st_file _ _ (by rfl) (by rfl) (by rfl) (SlRep.made _ _ _) (s2.own 3 rfl) (hrd.out _ (s2.own 1 rfl) _) (by unfold maxLen; omega) (by omega) ?_
    intro a2 c2 w2 H2 hv2 hst2
    have s3 := s2.put 3 rfl hst2
    simp only [List.cons_append, List.nil_append, List.set_cons_succ, List.set_cons_zero] at s3
    have ⟨c0, c1, _⟩ := cells3 (s3.one 0 rfl)
    refine hKr.out _ _ (fun hJ => ?_) (fun hF => ?_)
    · first
      | exact absurd hJ (by decide)
      | (clear hJ; (try dsimp only); all_goals (first | exact c1 | (simp [*, World.cell?_alloc_some]; done)))
    clear hKr
    try simp only [Act.put, nrmA, nrmB, nrmC]
    refine wpAnyJ_ready (rs := [16]) (by kernel_rfl) (by simp) ?_
    refine AllJ.cons1 (o := ⟨some 29, .call { callee := .builtin .append, args := #[.tmp 21, .tmp 28], argTypes := #[81, 81] }, 81, "disk.go:122", #[⟨8, .data⟩, ⟨15, .data⟩, ⟨8, .chain⟩], none⟩) rfl (fun Kr hKr => ?_)
    refine step_app rfl st_file _ _ (by rfl) (by rfl) (by rfl) hv2 (s3.own 3 rfl) (hrd2.out _ (s3.own 1 rfl)) (by unfold maxLen; omega) (by omega) ?_
    intro a3 c3 w4 H3 hv3 hst3
    have s4 := s3.put 3 rfl hst3
    simp only [List.set_cons_succ, List.set_cons_zero] at s4
    have ⟨c0, c1, _⟩ := cells3 (s4.one 0 rfl)
    have fz := fun i => frz_of (i := i) (s4.one 0 rfl)
    have b0 := heap_lt (s4.one 0 rfl)
    refine hKr.out _ _ (fun hJ => ?_) (fun hF => ?_)
    · first
      | exact absurd hJ (by decide)
      | (clear hJ; (try dsimp only); all_goals (first | exact c1 | (simp [*, World.cell?_alloc_some]; done)))
    clear hKr
    try simp only [Act.put, nrmA, nrmB, nrmC]
    refine tk0 (i := 17) (oi := ⟨some 30, .nilCheck (.tmp 13), 0, "disk.go:122", #[⟨0, .data⟩, ⟨0, .phase⟩, ⟨1, .phase⟩, ⟨2, .phase⟩, ⟨3, .phase⟩, ⟨4, .phase⟩, ⟨5, .phase⟩, ⟨6, .phase⟩, ⟨7, .phase⟩, ⟨8, .phase⟩, ⟨9, .phase⟩, ⟨10, .phase⟩, ⟨11, .phase⟩, ⟨12, .phase⟩, ⟨13, .phase⟩, ⟨14, .phase⟩, ⟨15, .phase⟩, ⟨16, .phase⟩], none⟩) (v := ?_) rfl (by kernel_rfl) (fun _ _ _ h => h) (fun _ => hF (by kernel_rfl)) (fun w => ?_) (by rfl) ?_
    rotate_left
    · first | (go_simp; done) | (go_simp; with_reducible rfl) | (go_split_ands; go_simp; done)
    try simp only [Act.put, nrmA, nrmB, nrmC]
    refine tk0 (i := 18) (oi := ⟨some 31, .fieldAddr 83 (.tmp 30) 1, 0, "disk.go:122", #[⟨17, .data⟩, ⟨0, .phase⟩, ⟨1, .phase⟩, ⟨2, .phase⟩, ⟨3, .phase⟩, ⟨4, .phase⟩, ⟨5, .phase⟩, ⟨6, .phase⟩, ⟨7, .phase⟩, ⟨8, .phase⟩, ⟨9, .phase⟩, ⟨10, .phase⟩, ⟨11, .phase⟩, ⟨12, .phase⟩, ⟨13, .phase⟩, ⟨14, .phase⟩, ⟨15, .phase⟩, ⟨16, .phase⟩], none⟩) (v := ?_) rfl (by kernel_rfl) (fun _ _ _ h => h) (fun _ => hF (by kernel_rfl)) (fun w => ?_) (by rfl) ?_
    rotate_left
    · first | (go_simp; done) | (go_simp; with_reducible rfl) | (go_split_ands; go_simp; done)
    try simp only [Act.put, nrmA, nrmB, nrmC]
    refine wpAnyJ_ready (rs := [19]) (by kernel_rfl) (by simp) ?_
    refine AllJ.cons1 (o := ⟨none, .store 81 (.tmp 31) (.tmp 29), 0, "disk.go:122", #[⟨18, .data⟩, ⟨16, .data⟩, ⟨16, .chain⟩, ⟨0, .phase⟩, ⟨1, .phase⟩, ⟨2, .phase⟩, ⟨3, .phase⟩, ⟨4, .phase⟩, ⟨5, .phase⟩, ⟨6, .phase⟩, ⟨7, .phase⟩, ⟨8, .phase⟩, ⟨9, .phase⟩, ⟨10, .phase⟩, ⟨11, .phase⟩, ⟨12, .phase⟩, ⟨13, .phase⟩, ⟨14, .phase⟩, ⟨15, .phase⟩, ⟨16, .phase⟩], none⟩) rfl (fun Kr hKr => ?_)
    go_simp
    refine hKr.out _ _ (fun hJ => ?_) (fun hF => ?_)
    · first
      | exact absurd hJ (by decide)
      | (clear hJ; (try dsimp only); all_goals (first | exact c1 | (simp [*, World.cell?_alloc_some]; done)))
    clear hKr
    try simp only [Act.put, nrmA, nrmB, nrmC]
    refine wpAnyJ_done (by kernel_rfl) ?_ _
    go_wp2_with fail
    all_goals go_end0
    all_goals
      have s5 := s4.store 0 (j := 1) rfl (.slice a3 (0 + i + (n - i1)) c3)
      try rw [Nat.zero_add] at s5
      have q := hv3
      rw [hrds.out.1, hrds.out.2] at q
      try rw [Nat.zero_add] at q
      refine hfin.out i1 n a3 c3 H3 _ hni.out.1 hni.out.2 q ?_
      exact s5
  · have hno : isF k.L nm = false := by simpa using hi
    rw [hno] at hsp
    have hfin : Hid (∀ W, Sp w ((b, robj k.room a X.length c (leftI k.left)) :: (R ++ X.flatMap Re.H)) W [[(b, robj k.room a X.length c (leftI k.left))], R, X.flatMap Re.H] → RmPost b k nm X ((b, robj k.room a X.length c (leftI k.left)) :: (R ++ X.flatMap Re.H)) w (.returned (.tuple #[])) W) := fun W s => by
      refine ⟨rfl, ((b, robj k.room a X.length c (leftI k.left)) :: (R ++ X.flatMap Re.H)), [], ?_, ?_, fun hh => absurd hh hi⟩
      · rw [re_none hno]; exact h
      · exact s.out (by simp)
    replace s1 := Lib.hid s1
    clear hr hok hkk h hi hno hw hk
    generalize hGG : ((b, robj k.room a X.length c (leftI k.left)) :: (R ++ X.flatMap Re.H)) = G at hsp hfin s1 ⊢
    replace hGG := Lib.hid hGG
    go_enter Tryz.func96, Tryz.ntmps96
    go_wp2_with fail
    refine hsp.out.mono ?_
    rintro e w3 ⟨rfl, hst⟩
    go_wp2_with fail
    go_end0
    exact hfin.out _ (s1.out.still hst)
set_option maxHeartbeats 2000000 in
set_option maxRecDepth 100000 in
theorem rremove (b : Nat) (k : Dk) (H : Heaplet) (nm : Nm) (w : World) (h : RkRep b k H) (hk : k.Ok) (hw : Own w H) :
    Calls Tryz.prog 59 #[pt b, strV nm] w (RkPost b (gateN [nm] (rmI nm) k) H w) := by
  have s1 := (Sp.start hw).alloc (.cells #[strV nm] 9)
  have hmy := Lib.hid (may_any b k H w.heap.size 1 [nm] _ h (s1.own 0 rfl) (rdStrs_one w nm) (Nat.le_refl _) (by decide))
  have hsp := Lib.hid (fun W hW => spot_any b k H nm W h hW (by have := hk.many; omega))
  have hmp := Lib.hid (fun hm W G (s : Step w H W (H ++ G)) => may_post (op := rmI nm) (names := [nm]) h hm s)
  replace s1 := Lib.hid s1
  obtain ⟨m, hm⟩ : ∃ m, m = mayN k [nm] := ⟨_, rfl⟩
  rw [← hm] at hmy hmp
  by_cases hm0 : m = 0
  · subst hm0
    by_cases hi : isF k.L nm = true
    · rw [hi] at hsp
      have hg : Hid (gateN [nm] (rmI nm) k = (0, didN { k with L := delF k.L nm })) := by
        refine gate_yes hm.symm ?_
        unfold rmI
        rw [if_pos hi]
      have hdel : Hid (∀ W, Own W H → Calls Tryz.prog 96 #[pt b, strV nm] W fun e w' => e = .returned (.tuple #[]) ∧ ∃ H' J, RkRep b { k with L := delF k.L nm } H' ∧ Step W H w' (H' ++ J)) := fun W hW => by
        obtain ⟨a, c, R, X, hr, hok, hkk, hlf, rfl⟩ := h
        refine (rdel b k a c R X nm W hr hok hkk hlf hk.many hW).mono ?_
        rintro e w' ⟨rfl, H', J, h1, h2, _⟩
        exact ⟨rfl, H', J, h1, h2⟩
      have hdid := Lib.hid (fun k' H W h hW => did_any b k' H W h hW)
      replace hm := Lib.hid hm
      clear hi h
      go_enter Tryz.func59, Tryz.ntmps59
      go_wp2_with fail
      refine hmy.out.mono ?_
      rintro e w2 ⟨rfl, hst⟩
      have s2 : Sp w H w2 [H] := (s1.out.still hst).forget 1 rfl |>.perm (by simp)
      clear hst
      go_wp2_with fail
      refine (hsp.out _ (s2.own 0 rfl)).mono ?_
      rintro e w3 ⟨rfl, hst⟩
      replace s2 := s2.still hst
      clear hst
      go_wp2_with fail
      refine (hdel.out _ (s2.own 0 rfl)).mono ?_
      rintro e w4 ⟨rfl, H', J, hr4, hst⟩
      have s3 : Step w H w4 (H' ++ J) := (s2.put 0 rfl hst).out (by simp)
      clear hst
      go_wp2_with fail
      refine (hdid.out _ _ _ hr4 s3.forget.own).mono ?_
      rintro e w5 ⟨rfl, H5, hr5, hst⟩
      go_wp2_with fail
      go_ret
      rw [hg.out]
      exact ⟨rfl, H5, hr5, s3.forget.trans hst⟩
    · have hno : isF k.L nm = false := by simpa using hi
      rw [hno] at hsp
      have hg : Hid (gateN [nm] (rmI nm) k = (7, k)) := gate_no hm.symm (by unfold rmI; rw [if_neg hi]) (by decide)
      have hrep := Lib.hid h
      replace hm := Lib.hid hm
      clear hi hno h
      go_enter Tryz.func59, Tryz.ntmps59
      go_wp2_with fail
      refine hmy.out.mono ?_
      rintro e w2 ⟨rfl, hst⟩
      have s2 : Sp w H w2 [H] := (s1.out.still hst).forget 1 rfl |>.perm (by simp)
      clear hst
      go_wp2_with fail
      refine (hsp.out _ (s2.own 0 rfl)).mono ?_
      rintro e w3 ⟨rfl, hst⟩
      replace s2 := s2.still hst
      go_wp2_with fail
      go_ret
      rw [hg.out]
      exact ⟨rfl, H, hrep.out, s2.out (by simp)⟩
  · have q0 : ((m : Int) != 0) = true := by rw [bne_iff_ne]; omega
    have hm1 := Lib.hid hm0
    replace hm := Lib.hid hm
    clear hm0 h
    go_enter Tryz.func59, Tryz.ntmps59
    go_wp2_with fail
    refine hmy.out.mono ?_
    rintro e w2 ⟨rfl, hst⟩
    go_wp2_with fail
    go_ret
    have s2 := s1.out.still hst
    exact hmp.out hm1.out _ _ (s2.out (by simp; rfl))
end Go.Proofs.YtdolbeonpkanpaaGreatDoor
