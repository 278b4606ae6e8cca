/- The reference's disk: Read, Cut. -/
import Derived.Test.YtdolbeonpkanpaaGreatDoorMDkH
import Derived.Test.YtdolbeonpkanpaaGreatDoorMDrC
set_option linter.unusedVariables false
set_option linter.unusedSimpArgs false
namespace Go.Proofs.YtdolbeonpkanpaaGreatDoor
open Go.RowKit
attribute [local go_sem ↓] Go.wp_at_zero Go.wp_at_succ

theorem re_bytes {X : List Re} {i : Nat} {x : Re} (hx : X[i]? = some x) (ho : x.ok) {W : World} (h : Own W (X.flatMap Re.H)) : RdBytes W x.a x.d.length x.c x.d := by
  rw [sp_split hx, List.flatMap_append, List.flatMap_cons] at h
  exact SlRep.rdBytes ho h.right.left
theorem rk_fin {b i c : Nat} {k : Dk} {a : Option Addr} {X : List Re} {R' G : Heaplet} {x y : Re} {M : List Fl} {w W : World} (hx : X[i]? = some x) (hok : ∀ x ∈ X, x.ok) (hy : y.ok) (hM : (X.set i y).map Re.key = M) (hlf : leftI k.left ≤ 9223372036854775807)
    (hr : SlRep 107 3 a X.length c ((X.set i y).flatMap Re.cells) R') (s : Sp w G W [[(b, robj k.room a X.length c (leftI k.left))], R', X.flatMap Re.H, y.H]) : ∃ H', RkRep b { k with L := M } H' ∧ Step w G W H' := by
  refine ⟨(b, robj k.room a X.length c (leftI k.left)) :: (R' ++ (X.set i y).flatMap Re.H), ⟨a, c, R', X.set i y, by rw [List.length_set]; exact hr, re_setOk hok hy, hM, hlf, by rw [List.length_set]⟩, ?_⟩
  have s2 := s.perm (Gs := [(b, robj k.room a X.length c (leftI k.left)) :: (R' ++ (X.set i y).flatMap Re.H), x.H]) (by
    simp only [List.flatten_cons, List.flatten_nil, List.append_nil, List.cons_append, List.nil_append, List.append_assoc]
    exact List.Perm.cons _ (List.Perm.append_left _ (re_swapH hx)))
  exact s2.first
set_option maxHeartbeats 2000000 in
set_option maxRecDepth 100000 in
theorem rread (b : Nat) (k : Dk) (H : Heaplet) (nm : Nm) (w : World) (h : RkRep b k H) (hk : k.Ok) (hw : Own w H) :
    Calls Tryz.prog 57 #[pt b, strV nm] w (RdPost (rdN nm k).1 (rdN nm k).2 w) := by
  have hsp := Lib.hid (spot_any b k H nm w h hw (by have := hk.many; omega))
  by_cases hi : isF k.L nm = true
  · obtain ⟨a, c, R, X, hr, hok, hkk, hlf, rfl⟩ := h
    have s1 := rk_start hw
    obtain ⟨x, hx, rfl, hget⟩ := re_find hkk hi
    rw [hi] at hsp
    have hg : Hid (rdN x.nm k = (x.d, 0)) := by show _ = _; unfold rdN; rw [if_pos hi, ← hget]
    have hdl : x.d.length ≤ 1073741824 := by
      have h1 := used_get hi
      rw [← hget] at h1
      have := hk.used
      have := hk.room
      simp only at h1
      omega
    obtain ⟨i, hie⟩ : ∃ i, i = spotN k.L x.nm := ⟨_, rfl⟩
    rw [← hie] at hx hsp
    have hlt := (List.getElem?_eq_some_iff.1 hx).1
    have hrb := Lib.hid (fun W (hW : Own W (X.flatMap Re.H)) => re_bytes hx (hok x (List.mem_of_getElem? hx)) hW)
    obtain ⟨n, hn⟩ : ∃ n, n = X.length := ⟨_, rfl⟩
    rw [← hn] at hlt
    have i0 : (0 : Int) ≤ (i : Int) := by omega
    have i1 : (i : Int) < (n : Int) := by omega
    replace hie := Lib.hid hie
    clear hok hkk hget hi hlf
    generalize hGG : ((b, robj k.room a X.length c (leftI k.left)) :: (R ++ X.flatMap Re.H)) = G at hsp s1 ⊢
    replace hGG := Lib.hid hGG
    have s0 := Lib.hid (Sp.nil w)
    go_enter Tryz.func57, Tryz.ntmps57
    go_wp2_with fail
    refine hsp.out.mono ?_
    rintro e w3 ⟨rfl, hst⟩
    replace s1 := s1.still hst
    go_upto_region 4 with fail
    rw [← hn] at s1
    have ⟨c0, c1, c2⟩ := cells3 (s1.one 0 rfl)
    have b0 := heap_lt (s1.one 0 rfl)
    obtain ⟨g, rfl, k0, k1, r0, r1, r2, fz⟩ := re_at hr (s1.own 1 rfl) hx
    have glt := World.block_lt_of_cell? w3 _ r0
    rw [← hn] at k0
    have i2 : (n : Int) ≤ (c : Int) := by omega
    have hrb3 := Lib.hid ((hrb.out _ (s1.own 2 rfl)).alloc (.cells #[] 5))
    replace hn := Lib.hid hn
    replace hx := Lib.hid hx
    replace hr := Lib.hid hr
    go_wp2_with (at_builtin; refine wpList_app rfl st_u8 _ _ rfl (by rfl) (by rfl) (SlRep.made _ _ w3.heap.size) (Own.one (heap_alloc_new w3 _)) (rdBytes_cells hrb3.out) (by unfold maxLen; omega) (by omega) ?_; intro a' c' w' H' hv' hst')
    go_ret2
    rw [hg.out]
    exact ⟨a', c', H', by simp, by simpa using hv', (hst.trans ((Step.refl (Own.nil _)).alloc _)).trans hst'⟩
  · have hno : isF k.L nm = false := by simpa using hi
    rw [hno] at hsp
    have hg : Hid (rdN nm k = ([], 7)) := by show _ = _; unfold rdN; rw [if_neg hi]
    clear h hi hno
    go_enter Tryz.func57, Tryz.ntmps57
    go_wp2_with fail
    refine hsp.out.mono ?_
    rintro e w3 ⟨rfl, hst⟩
    go_wp2_with fail
    go_ret2
    rw [hg.out]
    exact ⟨none, 0, [], rfl, SlRep.nil _ _, hst⟩
theorem RdBytes.pre {w : World} {a : Option Addr} {c q : Nat} {l : List UInt8} (h : RdBytes w a l.length c l) (hq : q ≤ l.length) : RdBytes w a q c (l.take q) := by
  obtain ⟨_, ⟨h1, h2, h3⟩ | ⟨ad, h1, h2, h3, h4⟩⟩ := h
  · exact ⟨by rw [List.length_take]; omega, .inl ⟨h1, h2, by rw [h3, List.take_nil]⟩⟩
  · refine ⟨by rw [List.length_take]; omega, .inr ⟨ad, h1, by omega, h3, fun i x hi => ?_⟩⟩
    rw [List.getElem?_take] at hi
    split at hi
    · exact h4 i x hi
    · cases hi
set_option maxHeartbeats 4000000 in
set_option maxRecDepth 100000 in
theorem rcut (b : Nat) (k : Dk) (H : Heaplet) (nm : Nm) (z : Int) (w : World) (h : RkRep b k H) (hk : k.Ok) (hw : Own w H) :
    Calls Tryz.prog 60 #[pt b, strV nm, ii z] w (RkPost b (gateN [nm] (cuI nm z) k) H w) := by
  have s1 := (Sp.start hw).alloc (.cells #[strV nm] 9)
  have hmy := Lib.hid (may_any b k H w.heap.size 1 [nm] _ h (s1.own 0 rfl) (rdStrs_one w nm) (Nat.le_refl _) (by decide))
  have hsp := Lib.hid (fun W hW => spot_any b k H nm W h hW (by have := hk.many; omega))
  have hmp := Lib.hid (fun hm W G (s : Step w H W (H ++ G)) => may_post (op := cuI nm z) (names := [nm]) h hm s)
  replace s1 := Lib.hid s1
  obtain ⟨m, hm⟩ : ∃ m, m = mayN k [nm] := ⟨_, rfl⟩
  rw [← hm] at hmy hmp
  by_cases hm0 : m = 0
  · subst hm0
    by_cases hi : isF k.L nm = true
    · have hrep := Lib.hid h
      obtain ⟨a, c, R, X, hr, hok, hkk, hlf, rfl⟩ := h
      obtain ⟨x, hx, rfl, hget⟩ := re_find hkk hi
      rw [hi] at hsp
      have hg : Hid (cuI x.nm z k = if z < 0 ∨ (x.d.length : Int) < z then (1, k) else (0, { k with L := setF k.L x.nm (x.d.take z.toNat, min x.n z.toNat) })) := by
        show _ = _
        unfold cuI
        rw [if_pos hi, ← hget]
      have hln : x.n ≤ x.d.length := by have := get_lasts hk hi; rw [← hget] at this; exact this
      have hdl : x.d.length ≤ 1073741824 := by
        have h1 := used_get hi
        rw [← hget] at h1
        have := hk.used
        have := hk.room
        simp only at h1
        omega
      obtain ⟨i, hie⟩ : ∃ i, i = spotN k.L x.nm := ⟨_, rfl⟩
      rw [← hie] at hx hsp
      have hxi : Hid (i < X.length ∧ X.length ≤ 4096) := ⟨(List.getElem?_eq_some_iff.1 hx).1, by have := hk.many; rw [← hkk, List.length_map] at this; exact this⟩
      have hrb := Lib.hid (fun W (hW : Own W (X.flatMap Re.H)) => re_bytes hx (hok x (List.mem_of_getElem? hx)) hW)
      have hset := Lib.hid (fun v y (hy : y.key = (x.nm, v)) => hie ▸ re_set (nm := x.nm) (x' := y) hkk v hy : ∀ v y, y.key = (x.nm, v) → (X.set i y).map Re.key = setF k.L x.nm v)
      have hfin := Lib.hid (fun (a : Option Addr) c R' G y M w W hy hM hr' s => rk_fin (b := b) (i := i) (c := c) (k := k) (a := a) (R' := R') (G := G) (y := y) (M := M) (w := w) (W := W) hx hok hy hM hlf hr' s)
      have hdid := Lib.hid (fun k' H W h hW => did_any b k' H W h hW)
      replace hr := Lib.hid hr
      replace hx := Lib.hid hx
      clear hok hkk hget hi hlf
      replace hie := Lib.hid hie
      replace hm := Lib.hid hm
      generalize hGG : ((b, robj k.room a X.length c (leftI k.left)) :: (R ++ X.flatMap Re.H)) = G at hmy hsp hmp s1 hrep ⊢
      replace hGG := Lib.hid hGG
      go_enter Tryz.func60, Tryz.ntmps60
      go_wp2_with fail
      refine hmy.out.mono ?_
      rintro e w2 ⟨rfl, hst⟩
      have s2 : Sp w G w2 [G] := (s1.out.still hst).forget 1 rfl |>.perm (by simp)
      clear hst
      go_wp2_with fail
      refine (hsp.out _ (s2.own 0 rfl)).mono ?_
      rintro e w3 ⟨rfl, hst⟩
      replace s2 := s2.still hst
      clear hst
      go_upto_region 7 with fail
      have s3 : Sp w G w3 [[(b, robj k.room a X.length c (leftI k.left))], R, X.flatMap Re.H] := s2.perm (by rw [← hGG.out]; simp)
      have ⟨c0, c1, c2⟩ := cells3 (s3.one 0 rfl)
      have b0 := heap_lt (s3.one 0 rfl)
      obtain ⟨g, hga, k0, k1, r0, r1, r2, fz⟩ := re_at hr.out (s3.own 1 rfl) hx.out
      rw [hga] at c1
      obtain ⟨n, hn⟩ : ∃ n, n = X.length := ⟨_, rfl⟩
      have hxn := hxi.out
      rw [← hn] at c1 k0 hxn
      have i0 : (0 : Int) ≤ (i : Int) := by omega
      have i1 : (i : Int) < (n : Int) := by omega
      have i2 : (n : Int) ≤ (c : Int) := by omega
      have glt := World.block_lt_of_cell? w3 _ r0
      replace hga := Lib.hid hga
      replace hn := Lib.hid hn
      replace s2 := Lib.hid s2
      have hbad : Hid ((z < 0 ∨ (x.d.length : Int) < z) → ∀ W n, W = w3.drewN n → RkPost b (gateN [x.nm] (cuI x.nm z) k) G w (.returned (ii 1)) W) := fun hz W n hW => by
        rw [gate_no hm.out.symm (by rw [hg.out, if_pos hz]) (by decide), hW]
        exact ⟨rfl, G, hrep.out, (s2.out.drewN n).out (by simp)⟩
      by_cases n0 : z < 0
      · clear hg
        go_wp2_with fail
        go_ret
        exact hbad.out (.inl n0) _ 0 rfl
      · by_cases n1 : (x.d.length : Int) < z
        · go_wp2_with fail
          go_ret
          exact hbad.out (.inr n1) _ 0 rfl
        · obtain ⟨q, rfl⟩ := Int.eq_ofNat_of_zero_le (show 0 ≤ z by omega)
          clear hbad
          have hgg : Hid (gateN [x.nm] (cuI x.nm q) k = (0, didN { k with L := setF k.L x.nm (x.d.take q, min x.n q) })) := by
            refine gate_yes hm.out.symm ?_
            rw [hg.out, if_neg (by omega), Int.toNat_natCast]
          have n2 : (0 : Int) ≤ (q : Int) := by omega
          have n3 : (q : Int) ≤ (x.d.length : Int) := by omega
          have n4 : q ≤ x.d.length := by omega
          have hrb3 := hrb.out _ (s3.own 2 rfl)
          have hxc : x.d.length ≤ x.c := by
            obtain ⟨_, ⟨_, e, e2⟩ | ⟨_, _, h, _⟩⟩ := hrb3
            · rw [e2]; exact Nat.zero_le _
            · exact h
          have n5 : (q : Int) ≤ (x.c : Int) := by omega
          go_upto_region 9 with fail
          have hr2 := hr.out
          rw [hga.out, ← hn.out] at hr2
          rw [hga.out, ← hn.out] at s3
          have hrx := Lib.hid hr2
          have hfin2 := Lib.hid (fun c R' G y M w W hy hM (hr' : SlRep 107 3 (some ⟨g, 0, none⟩) n c ((X.set i y).flatMap Re.cells) R') (s : Sp w G W [[(b, robj k.room (some ⟨g, 0, none⟩) n c (leftI k.left))], R', X.flatMap Re.H, y.H]) => hfin.out (some ⟨g, 0, none⟩) c R' G y M w W hy hM (by rw [← hn.out]; exact hr') (by rw [← hn.out]; exact s))
          have hql : (x.d.take q).length = q := by rw [List.length_take]; omega
          have hend : Hid (∀ a' c' H' R7 W, SlRep 5 1 a' (0 + q) c' ([] ++ (x.d.take q).map u8) H' → SlRep 107 3 (some ⟨g, 0, none⟩) n c (((X.set i ⟨x.nm, a', c', x.d.take q, x.n, H'⟩).set i ⟨x.nm, a', c', x.d.take q, min x.n q, H'⟩).flatMap Re.cells) R7 →
              Sp w G W [[(b, robj k.room (some ⟨g, 0, none⟩) n c (leftI k.left))], R7, X.flatMap Re.H, H'] → ∃ H8, RkRep b { k with L := setF k.L x.nm (x.d.take q, min x.n q) } H8 ∧ Step w G W H8) := fun a' c' H' R7 W hv hr s => by
            rw [List.set_set] at hr
            refine hfin2.out c R7 G ⟨x.nm, a', c', x.d.take q, min x.n q, H'⟩ _ w W ?_ (hset.out _ _ rfl) hr s
            unfold Re.ok
            rw [hql]
            simpa using hv
          have hyc : Hid (∀ a' c' H', (⟨x.nm, a', c', x.d.take q, x.n, H'⟩ : Re).cells = x.cells.set 1 (.slice a' q c')) := fun a' c' H' => by
            simp only [Re.cells, hql, List.set_cons_succ, List.set_cons_zero]
          have hat : Hid (∀ W c' a' H' R', Own W R' → SlRep 107 3 (some ⟨g, 0, none⟩) n c ((X.set i ⟨x.nm, a', c', x.d.take q, x.n, H'⟩).flatMap Re.cells) R' → W.cell? ⟨g, i * 3 + 2, none⟩ = some (iv x.n) ∧ ∀ j, W.frozen? ⟨g, j, none⟩ = false) := fun W c' a' H' R' hW h => by
            obtain ⟨g', e, _, _, _, _, r2, fz⟩ := re_at (by rw [List.length_set, ← hn.out]; exact h) hW (List.getElem?_set_self hxi.out.1 : (X.set i ⟨x.nm, a', c', x.d.take q, x.n, H'⟩)[i]? = some _)
            cases e
            exact ⟨r2, fz⟩
          have hxs := Lib.hid (fun a' c' H' => (List.getElem?_set_self hxi.out.1 : (X.set i ⟨x.nm, a', c', x.d.take q, x.n, H'⟩)[i]? = some _))
          replace hql := Lib.hid hql
          clear hr2
          have hrq := Lib.hid (fun W (hW : Own W (X.flatMap Re.H)) => (hrb.out W hW).pre n4)
          refine wp_region_J 19 (fun w' => w'.cell? ⟨b, 1, none⟩ = some (.slice (some ⟨g, 0, none⟩) n c) ∧ w'.cell? ⟨g, i * 3 + 1, none⟩ = some (.slice x.a x.d.length x.c)) (by kernel_rfl) ?_ (fun hF => ?_)
          · (try dsimp only)
            all_goals (first | exact ⟨c1, r1⟩ | (simp [*, World.cell?_alloc_some]; done))
          refine tk0 (i := 0) (oi := ⟨some 40, .move (.tmp 0), 29, "disk.go:113", #[], none⟩) (v := ?_) rfl (by kernel_rfl) (fun _ _ _ h => h) (fun _ => hF) (fun w => ?_) (by rfl) ?_
          rotate_left
          · first | (go_simp; done) | (go_simp; with_reducible rfl) | (go_split_ands; go_simp; done)
          try simp only [Act.put, nrmA, nrmB, nrmC]
          refine tk0 (i := 1) (oi := ⟨some 41, .nilCheck (.tmp 40), 0, "disk.go:113", #[⟨0, .data⟩], none⟩) (v := ?_) rfl (by kernel_rfl) (fun _ _ _ h => h) (fun _ => hF) (fun w => ?_) (by rfl) ?_
          rotate_left
          · first | (go_simp; done) | (go_simp; with_reducible rfl) | (go_split_ands; go_simp; done)
          try simp only [Act.put, nrmA, nrmB, nrmC]
          refine tk0 (i := 2) (oi := ⟨some 42, .fieldAddr 83 (.tmp 41) 1, 0, "disk.go:113", #[⟨1, .data⟩], none⟩) (v := ?_) rfl (by kernel_rfl) (fun _ _ _ h => h) (fun _ => hF) (fun w => ?_) (by rfl) ?_
          rotate_left
          · first | (go_simp; done) | (go_simp; with_reducible rfl) | (go_split_ands; go_simp; done)
          try simp only [Act.put, nrmA, nrmB, nrmC]
          refine tk1 (i := 3) (oi := ⟨some 43, .load 81 (.tmp 42), 81, "disk.go:113", #[⟨2, .data⟩], none⟩) (v := ?_) [19] rfl (by kernel_rfl) (fun _ _ _ h => h) hF (fun w hFw => ?_) (by rfl) ?_
          rotate_left
          · ((try dsimp only at hFw); first | (go_simp; done) | (go_simp; with_reducible rfl) | (go_split_ands; go_simp; done))
          try simp only [Act.put, nrmA, nrmB, nrmC]
          refine tk0 (i := 4) (oi := ⟨some 44, .move (.tmp 8), 3, "disk.go:113", #[], none⟩) (v := ?_) rfl (by kernel_rfl) (fun _ _ _ h => h) (fun _ => hF) (fun w => ?_) (by rfl) ?_
          rotate_left
          · first | (go_simp; done) | (go_simp; with_reducible rfl) | (go_split_ands; go_simp; done)
          try simp only [Act.put, nrmA, nrmB, nrmC]
          refine tk0 (i := 6) (oi := ⟨some 46, .move (.tmp 0), 29, "disk.go:113", #[], none⟩) (v := ?_) rfl (by kernel_rfl) (fun _ _ _ h => h) (fun _ => hF) (fun w => ?_) (by rfl) ?_
          rotate_left
          · first | (go_simp; done) | (go_simp; with_reducible rfl) | (go_split_ands; go_simp; done)
          try simp only [Act.put, nrmA, nrmB, nrmC]
          refine tk0 (i := 7) (oi := ⟨some 47, .nilCheck (.tmp 46), 0, "disk.go:113", #[⟨6, .data⟩], none⟩) (v := ?_) rfl (by kernel_rfl) (fun _ _ _ h => h) (fun _ => hF) (fun w => ?_) (by rfl) ?_
          rotate_left
          · first | (go_simp; done) | (go_simp; with_reducible rfl) | (go_split_ands; go_simp; done)
          try simp only [Act.put, nrmA, nrmB, nrmC]
          refine tk0 (i := 8) (oi := ⟨some 48, .fieldAddr 83 (.tmp 47) 1, 0, "disk.go:113", #[⟨7, .data⟩], none⟩) (v := ?_) rfl (by kernel_rfl) (fun _ _ _ h => h) (fun _ => hF) (fun w => ?_) (by rfl) ?_
          rotate_left
          · first | (go_simp; done) | (go_simp; with_reducible rfl) | (go_split_ands; go_simp; done)
          try simp only [Act.put, nrmA, nrmB, nrmC]
          refine tk1 (i := 9) (oi := ⟨some 49, .load 81 (.tmp 48), 81, "disk.go:113", #[⟨8, .data⟩], none⟩) (v := ?_) [19] rfl (by kernel_rfl) (fun _ _ _ h => h) hF (fun w hFw => ?_) (by rfl) ?_
          rotate_left
          · ((try dsimp only at hFw); first | (go_simp; done) | (go_simp; with_reducible rfl) | (go_split_ands; go_simp; done))
          try simp only [Act.put, nrmA, nrmB, nrmC]
          refine tk0 (i := 10) (oi := ⟨some 50, .move (.tmp 8), 3, "disk.go:113", #[], none⟩) (v := ?_) rfl (by kernel_rfl) (fun _ _ _ h => h) (fun _ => hF) (fun w => ?_) (by rfl) ?_
          rotate_left
          · first | (go_simp; done) | (go_simp; with_reducible rfl) | (go_split_ands; go_simp; done)
          try simp only [Act.put, nrmA, nrmB, nrmC]
          refine tk0 (i := 11) (oi := ⟨some 51, .indexAddr 81 (.tmp 49) (.tmp 50), 0, "disk.go:113", #[⟨9, .data⟩, ⟨10, .data⟩], none⟩) (v := ?_) rfl (by kernel_rfl) (fun _ _ _ h => h) (fun _ => hF) (fun w => ?_) (by rfl) ?_
          rotate_left
          · first | (go_simp; done) | (go_simp; with_reducible rfl) | (go_split_ands; go_simp; done)
          try simp only [Act.put, nrmA, nrmB, nrmC]
          refine tk0 (i := 12) (oi := ⟨some 52, .fieldAddr 107 (.tmp 51) 1, 0, "disk.go:113", #[⟨11, .data⟩], none⟩) (v := ?_) rfl (by kernel_rfl) (fun _ _ _ h => h) (fun _ => hF) (fun w => ?_) (by rfl) ?_
          rotate_left
          · first | (go_simp; done) | (go_simp; with_reducible rfl) | (go_split_ands; go_simp; done)
          try simp only [Act.put, nrmA, nrmB, nrmC]
          refine tk1 (i := 13) (oi := ⟨some 53, .load 23 (.tmp 52), 23, "disk.go:113", #[⟨12, .data⟩], none⟩) (v := ?_) [19] rfl (by kernel_rfl) (fun _ _ _ h => h) hF (fun w hFw => ?_) (by rfl) ?_
          rotate_left
          · ((try dsimp only at hFw); first | (go_simp; done) | (go_simp; with_reducible rfl) | (go_split_ands; go_simp; done))
          try simp only [Act.put, nrmA, nrmB, nrmC]
          refine tk0 (i := 14) (oi := ⟨some 54, .move (.tmp 2), 3, "disk.go:113", #[], none⟩) (v := ?_) rfl (by kernel_rfl) (fun _ _ _ h => h) (fun _ => hF) (fun w => ?_) (by rfl) ?_
          rotate_left
          · first | (go_simp; done) | (go_simp; with_reducible rfl) | (go_split_ands; go_simp; done)
          try simp only [Act.put, nrmA, nrmB, nrmC]
          refine tk0 (i := 15) (oi := ⟨some 55, .slice 23 (.tmp 53) none (some (.tmp 54)) none, 23, "disk.go:113", #[⟨13, .data⟩, ⟨14, .data⟩], none⟩) (v := ?_) rfl (by kernel_rfl) (fun _ _ _ h => h) (fun _ => hF) (fun w => ?_) (by rfl) ?_
          rotate_left
          · first | (go_simp; done) | (go_simp; with_reducible rfl) | (go_split_ands; go_simp; done)
          try simp only [Act.put, nrmA, nrmB, nrmC]
          refine wpAnyJ_ready (rs := [5]) (by kernel_rfl) (by simp) ?_
          refine AllJ.cons1 (o := ⟨some 45, .buildSlice 23 0 #[], 23, "disk.go:113", #[], none⟩) rfl (fun Kr hKr => ?_)
          go_simp
          refine hKr.out _ _ (fun hJ => ?_) (fun hF => ?_)
          · first
            | exact absurd hJ (by decide)
            | (clear hJ; (try dsimp only); all_goals (first | exact ⟨c1, r1⟩ | (simp [*, World.cell?_alloc_some]; done)))
          clear hKr
          try simp only [Act.put, nrmA, nrmB, nrmC]
          refine wpAnyJ_ready (rs := [16]) (by kernel_rfl) (by simp) ?_
          refine AllJ.cons1 (o := ⟨some 56, .call { callee := .builtin .append, args := #[.tmp 45, .tmp 55], argTypes := #[23, 23] }, 23, "disk.go:113", #[⟨5, .data⟩, ⟨15, .data⟩], none⟩) rfl (fun Kr hKr => ?_)
          have s4 := s3.drew.alloc (.cells #[] 5 (0, 0))
          refine step_app rfl st_u8 _ _ (by rfl) (by rfl) (by rfl) (SlRep.made _ _ _) (s4.own 3 rfl) (rdBytes_cells (hrq.out _ (s4.own 2 rfl))) (by unfold maxLen; omega) (by omega) ?_
          intro a5 c5 w5 H5 hv5 hst5
          have s5 := s4.put 3 rfl hst5
          simp only [List.cons_append, List.nil_append, List.set_cons_succ, List.set_cons_zero] at s5
          have ⟨_, c1, _⟩ := cells3 (s5.one 0 rfl)
          have hr2 := hrx.out
          rw [hn.out] at hr2
          obtain ⟨g', e, _, _, r0, r1, r2, fz⟩ := re_at hr2 (s5.own 1 rfl) hx.out
          cases e
          have glt := World.block_lt_of_cell? w5 _ r0
          clear hr2
          refine hKr.out _ _ (fun hJ => ?_) (fun hF => ?_)
          · first
            | exact absurd hJ (by decide)
            | (clear hJ; (try dsimp only); all_goals (first | exact ⟨c1, r1⟩ | (simp [*, World.cell?_alloc_some]; done)))
          clear hKr
          try simp only [Act.put, nrmA, nrmB, nrmC]
          refine tk0 (i := 17) (oi := ⟨some 57, .indexAddr 81 (.tmp 43) (.tmp 44), 0, "disk.go:113", #[⟨3, .data⟩, ⟨4, .data⟩, ⟨0, .phase⟩, ⟨1, .phase⟩, ⟨2, .phase⟩, ⟨3, .phase⟩, ⟨4, .phase⟩, ⟨5, .phase⟩, ⟨6, .phase⟩, ⟨7, .phase⟩, ⟨8, .phase⟩, ⟨9, .phase⟩, ⟨10, .phase⟩, ⟨11, .phase⟩, ⟨12, .phase⟩, ⟨13, .phase⟩, ⟨14, .phase⟩, ⟨15, .phase⟩, ⟨16, .phase⟩], none⟩) (v := ?_) rfl (by kernel_rfl) (fun _ _ _ h => h) (fun _ => hF (by kernel_rfl)) (fun w => ?_) (by rfl) ?_
          rotate_left
          · first | (go_simp; done) | (go_simp; with_reducible rfl) | (go_split_ands; go_simp; done)
          try simp only [Act.put, nrmA, nrmB, nrmC]
          refine tk0 (i := 18) (oi := ⟨some 58, .fieldAddr 107 (.tmp 57) 1, 0, "disk.go:113", #[⟨17, .data⟩, ⟨0, .phase⟩, ⟨1, .phase⟩, ⟨2, .phase⟩, ⟨3, .phase⟩, ⟨4, .phase⟩, ⟨5, .phase⟩, ⟨6, .phase⟩, ⟨7, .phase⟩, ⟨8, .phase⟩, ⟨9, .phase⟩, ⟨10, .phase⟩, ⟨11, .phase⟩, ⟨12, .phase⟩, ⟨13, .phase⟩, ⟨14, .phase⟩, ⟨15, .phase⟩, ⟨16, .phase⟩], none⟩) (v := ?_) rfl (by kernel_rfl) (fun _ _ _ h => h) (fun _ => hF (by kernel_rfl)) (fun w => ?_) (by rfl) ?_
          rotate_left
          · first | (go_simp; done) | (go_simp; with_reducible rfl) | (go_split_ands; go_simp; done)
          try simp only [Act.put, nrmA, nrmB, nrmC]
          refine wpAnyJ_ready (rs := [19]) (by kernel_rfl) (by simp) ?_
          refine AllJ.cons1 (o := ⟨none, .store 23 (.tmp 58) (.tmp 56), 0, "disk.go:113", #[⟨18, .data⟩, ⟨16, .data⟩, ⟨16, .chain⟩, ⟨0, .phase⟩, ⟨1, .phase⟩, ⟨2, .phase⟩, ⟨3, .phase⟩, ⟨4, .phase⟩, ⟨5, .phase⟩, ⟨6, .phase⟩, ⟨7, .phase⟩, ⟨8, .phase⟩, ⟨9, .phase⟩, ⟨10, .phase⟩, ⟨11, .phase⟩, ⟨12, .phase⟩, ⟨13, .phase⟩, ⟨14, .phase⟩, ⟨15, .phase⟩, ⟨16, .phase⟩], none⟩) rfl (fun Kr hKr => ?_)
          go_simp
          refine hKr.out _ _ (fun hJ => ?_) (fun hF => ?_)
          · first
            | exact absurd hJ (by decide)
            | (clear hJ; (try dsimp only); all_goals (first | exact ⟨c1, r1⟩ | (simp [*, World.cell?_alloc_some]; done)))
          clear hKr
          try simp only [Act.put, nrmA, nrmB, nrmC]
          refine wpAnyJ_done (by kernel_rfl) ?_ _
          go_upto_region 10 with fail
          obtain ⟨R6, hr6, s6⟩ := s5.putK re_len 1 rfl hrx.out hx.out (j := 1) (by decide) (hyc.out a5 c5 H5)
          simp only [List.set_cons_succ, List.set_cons_zero] at s6
          refine Sp.gen s6 ?_
          clear s6 s5 s4 c1 r0 r1 r2 fz glt hst5
          intro W6 s6
          have ⟨_, c1, _⟩ := cells3 (s6.one 0 rfl)
          obtain ⟨r2, fz⟩ := hat.out W6 c5 a5 H5 R6 (s6.own 1 rfl) hr6
          have glt := World.block_lt_of_cell? W6 _ r2
          obtain ⟨R7, hr7, s7⟩ := s6.drew.putK re_len 1 rfl hr6 (hxs.out a5 c5 H5) (j := 2) (by decide) (x' := ⟨x.nm, a5, c5, x.d.take q, min x.n q, H5⟩) (v := iv (min x.n q)) rfl
          simp only [List.set_cons_succ, List.set_cons_zero] at s7
          obtain ⟨H8, hrep8, s8⟩ := hend.out a5 c5 H5 R7 _ hv5 hr7 s7
          replace s8 := Lib.hid s8
          replace hrep8 := Lib.hid hrep8
          clear s7 hr7 hr6
          refine wp_region_J 17 (fun w' => w' = W6.drew) (by kernel_rfl) ?_ (fun hF => ?_)
          · (try dsimp only)
            all_goals (rfl)
          refine tk0 (i := 0) (oi := ⟨some 59, .move (.tmp 0), 29, "disk.go:114", #[], none⟩) (v := ?_) rfl (by kernel_rfl) (fun _ _ _ h => h) (fun _ => hF) (fun w => ?_) (by rfl) ?_
          rotate_left
          · first | (go_simp; done) | (go_simp; with_reducible rfl) | (go_split_ands; go_simp; done)
          try simp only [Act.put, nrmA, nrmB, nrmC]
          refine tk0 (i := 1) (oi := ⟨some 60, .nilCheck (.tmp 59), 0, "disk.go:114", #[⟨0, .data⟩], none⟩) (v := ?_) rfl (by kernel_rfl) (fun _ _ _ h => h) (fun _ => hF) (fun w => ?_) (by rfl) ?_
          rotate_left
          · first | (go_simp; done) | (go_simp; with_reducible rfl) | (go_split_ands; go_simp; done)
          try simp only [Act.put, nrmA, nrmB, nrmC]
          refine tk0 (i := 2) (oi := ⟨some 61, .fieldAddr 83 (.tmp 60) 1, 0, "disk.go:114", #[⟨1, .data⟩], none⟩) (v := ?_) rfl (by kernel_rfl) (fun _ _ _ h => h) (fun _ => hF) (fun w => ?_) (by rfl) ?_
          rotate_left
          · first | (go_simp; done) | (go_simp; with_reducible rfl) | (go_split_ands; go_simp; done)
          try simp only [Act.put, nrmA, nrmB, nrmC]
          refine tk1 (i := 3) (oi := ⟨some 62, .load 81 (.tmp 61), 81, "disk.go:114", #[⟨2, .data⟩], none⟩) (v := ?_) [17] rfl (by kernel_rfl) (fun _ _ _ h => h) hF (fun w hFw => ?_) (by rfl) ?_
          rotate_left
          · ((try dsimp only at hFw); first | (go_simp; done) | (go_simp; with_reducible rfl) | (go_split_ands; go_simp; done))
          try simp only [Act.put, nrmA, nrmB, nrmC]
          refine tk0 (i := 4) (oi := ⟨some 63, .move (.tmp 8), 3, "disk.go:114", #[], none⟩) (v := ?_) rfl (by kernel_rfl) (fun _ _ _ h => h) (fun _ => hF) (fun w => ?_) (by rfl) ?_
          rotate_left
          · first | (go_simp; done) | (go_simp; with_reducible rfl) | (go_split_ands; go_simp; done)
          try simp only [Act.put, nrmA, nrmB, nrmC]
          refine tk0 (i := 5) (oi := ⟨some 64, .move (.tmp 0), 29, "disk.go:114", #[], none⟩) (v := ?_) rfl (by kernel_rfl) (fun _ _ _ h => h) (fun _ => hF) (fun w => ?_) (by rfl) ?_
          rotate_left
          · first | (go_simp; done) | (go_simp; with_reducible rfl) | (go_split_ands; go_simp; done)
          try simp only [Act.put, nrmA, nrmB, nrmC]
          refine tk0 (i := 6) (oi := ⟨some 65, .nilCheck (.tmp 64), 0, "disk.go:114", #[⟨5, .data⟩], none⟩) (v := ?_) rfl (by kernel_rfl) (fun _ _ _ h => h) (fun _ => hF) (fun w => ?_) (by rfl) ?_
          rotate_left
          · first | (go_simp; done) | (go_simp; with_reducible rfl) | (go_split_ands; go_simp; done)
          try simp only [Act.put, nrmA, nrmB, nrmC]
          refine tk0 (i := 7) (oi := ⟨some 66, .fieldAddr 83 (.tmp 65) 1, 0, "disk.go:114", #[⟨6, .data⟩], none⟩) (v := ?_) rfl (by kernel_rfl) (fun _ _ _ h => h) (fun _ => hF) (fun w => ?_) (by rfl) ?_
          rotate_left
          · first | (go_simp; done) | (go_simp; with_reducible rfl) | (go_split_ands; go_simp; done)
          try simp only [Act.put, nrmA, nrmB, nrmC]
          refine tk1 (i := 8) (oi := ⟨some 67, .load 81 (.tmp 66), 81, "disk.go:114", #[⟨7, .data⟩], none⟩) (v := ?_) [17] rfl (by kernel_rfl) (fun _ _ _ h => h) hF (fun w hFw => ?_) (by rfl) ?_
          rotate_left
          · ((try dsimp only at hFw); first | (go_simp; done) | (go_simp; with_reducible rfl) | (go_split_ands; go_simp; done))
          try simp only [Act.put, nrmA, nrmB, nrmC]
          refine tk0 (i := 9) (oi := ⟨some 68, .move (.tmp 8), 3, "disk.go:114", #[], none⟩) (v := ?_) rfl (by kernel_rfl) (fun _ _ _ h => h) (fun _ => hF) (fun w => ?_) (by rfl) ?_
          rotate_left
          · first | (go_simp; done) | (go_simp; with_reducible rfl) | (go_split_ands; go_simp; done)
          try simp only [Act.put, nrmA, nrmB, nrmC]
          refine tk0 (i := 10) (oi := ⟨some 69, .indexAddr 81 (.tmp 67) (.tmp 68), 0, "disk.go:114", #[⟨8, .data⟩, ⟨9, .data⟩], none⟩) (v := ?_) rfl (by kernel_rfl) (fun _ _ _ h => h) (fun _ => hF) (fun w => ?_) (by rfl) ?_
          rotate_left
          · first | (go_simp; done) | (go_simp; with_reducible rfl) | (go_split_ands; go_simp; done)
          try simp only [Act.put, nrmA, nrmB, nrmC]
          refine tk0 (i := 11) (oi := ⟨some 70, .fieldAddr 107 (.tmp 69) 2, 0, "disk.go:114", #[⟨10, .data⟩], none⟩) (v := ?_) rfl (by kernel_rfl) (fun _ _ _ h => h) (fun _ => hF) (fun w => ?_) (by rfl) ?_
          rotate_left
          · first | (go_simp; done) | (go_simp; with_reducible rfl) | (go_split_ands; go_simp; done)
          try simp only [Act.put, nrmA, nrmB, nrmC]
          refine tk1 (i := 12) (oi := ⟨some 71, .load 3 (.tmp 70), 3, "disk.go:114", #[⟨11, .data⟩], none⟩) (v := ?_) [17] rfl (by kernel_rfl) (fun _ _ _ h => h) hF (fun w hFw => ?_) (by rfl) ?_
          rotate_left
          · ((try dsimp only at hFw); first | (go_simp; done) | (go_simp; with_reducible rfl) | (go_split_ands; go_simp; done))
          try simp only [Act.put, nrmA, nrmB, nrmC]
          refine tk0 (i := 13) (oi := ⟨some 72, .move (.tmp 2), 3, "disk.go:114", #[], none⟩) (v := ?_) rfl (by kernel_rfl) (fun _ _ _ h => h) (fun _ => hF) (fun w => ?_) (by rfl) ?_
          rotate_left
          · first | (go_simp; done) | (go_simp; with_reducible rfl) | (go_split_ands; go_simp; done)
          try simp only [Act.put, nrmA, nrmB, nrmC]
          refine tk1 (i := 14) (oi := ⟨some 73, .call { callee := .builtin .min, args := #[.tmp 71, .tmp 72], argTypes := #[3, 3] }, 3, "disk.go:114", #[⟨12, .data⟩, ⟨13, .data⟩], none⟩) (v := ?_) [17] rfl (by kernel_rfl) (fun _ _ _ h => h) hF (fun w hFw => ?_) (by rfl) ?_
          rotate_left
          · ((try dsimp only at hFw); first | (go_simp; done) | (go_simp; with_reducible rfl) | (go_split_ands; go_simp; done))
          try simp only [Act.put, nrmA, nrmB, nrmC]
          refine tk0 (i := 15) (oi := ⟨some 74, .indexAddr 81 (.tmp 62) (.tmp 63), 0, "disk.go:114", #[⟨3, .data⟩, ⟨4, .data⟩, ⟨0, .phase⟩, ⟨1, .phase⟩, ⟨2, .phase⟩, ⟨3, .phase⟩, ⟨4, .phase⟩, ⟨5, .phase⟩, ⟨6, .phase⟩, ⟨7, .phase⟩, ⟨8, .phase⟩, ⟨9, .phase⟩, ⟨10, .phase⟩, ⟨11, .phase⟩, ⟨12, .phase⟩, ⟨13, .phase⟩, ⟨14, .phase⟩], none⟩) (v := ?_) rfl (by kernel_rfl) (fun _ _ _ h => h) (fun _ => hF) (fun w => ?_) (by rfl) ?_
          rotate_left
          · first | (go_simp; done) | (go_simp; with_reducible rfl) | (go_split_ands; go_simp; done)
          try simp only [Act.put, nrmA, nrmB, nrmC]
          refine tk0 (i := 16) (oi := ⟨some 75, .fieldAddr 107 (.tmp 74) 2, 0, "disk.go:114", #[⟨15, .data⟩, ⟨0, .phase⟩, ⟨1, .phase⟩, ⟨2, .phase⟩, ⟨3, .phase⟩, ⟨4, .phase⟩, ⟨5, .phase⟩, ⟨6, .phase⟩, ⟨7, .phase⟩, ⟨8, .phase⟩, ⟨9, .phase⟩, ⟨10, .phase⟩, ⟨11, .phase⟩, ⟨12, .phase⟩, ⟨13, .phase⟩, ⟨14, .phase⟩], none⟩) (v := ?_) rfl (by kernel_rfl) (fun _ _ _ h => h) (fun _ => hF) (fun w => ?_) (by rfl) ?_
          rotate_left
          · first | (go_simp; done) | (go_simp; with_reducible rfl) | (go_split_ands; go_simp; done)
          try simp only [Act.put, nrmA, nrmB, nrmC]
          refine wpAnyJ_ready (rs := [17]) (by kernel_rfl) (by simp) ?_
          refine AllJ.cons1 (o := ⟨none, .store 3 (.tmp 75) (.tmp 73), 0, "disk.go:114", #[⟨16, .data⟩, ⟨14, .data⟩, ⟨0, .phase⟩, ⟨1, .phase⟩, ⟨2, .phase⟩, ⟨3, .phase⟩, ⟨4, .phase⟩, ⟨5, .phase⟩, ⟨6, .phase⟩, ⟨7, .phase⟩, ⟨8, .phase⟩, ⟨9, .phase⟩, ⟨10, .phase⟩, ⟨11, .phase⟩, ⟨12, .phase⟩, ⟨13, .phase⟩, ⟨14, .phase⟩], none⟩) rfl (fun Kr hKr => ?_)
          go_simp
          refine hKr.out _ _ (fun hJ => ?_) (fun hF => ?_)
          · first
            | exact absurd hJ (by decide)
            | (clear hJ; (try dsimp only); all_goals (rfl))
          clear hKr
          try simp only [Act.put, nrmA, nrmB, nrmC]
          refine wpAnyJ_done (by kernel_rfl) ?_ _
          rw [show (min (x.n : Int) (q : Int)) = ((min x.n q : Nat) : Int) by omega]
          have s9 : Step w G ((W6.setCell ⟨g, i * 3 + 2, none⟩ (iv (min x.n q))).drew) _ := s8.out
          go_wp2_with fail
          refine (hdid.out _ _ _ hrep8.out s9.own).mono ?_
          rintro e w9 ⟨rfl, H9, hr9, hst⟩
          go_wp2_with fail
          go_ret
          rw [hgg.out]
          exact ⟨rfl, H9, hr9, s9.trans hst⟩
    · have hno : isF k.L nm = false := by simpa using hi
      rw [hno] at hsp
      have hg : Hid (gateN [nm] (cuI nm z) k = (7, k)) := gate_no hm.symm (by unfold cuI; rw [if_neg hi]) (by decide)
      have hrep := Lib.hid h
      replace hm := Lib.hid hm
      clear hi hno h
      go_enter Tryz.func60, Tryz.ntmps60
      go_wp2_with fail
      refine hmy.out.mono ?_
      rintro e w2 ⟨rfl, hst⟩
      have s2 : Sp w H w2 [H] := (s1.out.still hst).forget 1 rfl |>.perm (by simp)
      clear hst
      go_wp2_with fail
      refine (hsp.out _ (s2.own 0 rfl)).mono ?_
      rintro e w3 ⟨rfl, hst⟩
      replace s2 := s2.still hst
      go_wp2_with fail
      go_ret
      rw [hg.out]
      exact ⟨rfl, H, hrep.out, s2.out (by simp)⟩
  · have q0 : ((m : Int) != 0) = true := by rw [bne_iff_ne]; omega
    have hm1 := Lib.hid hm0
    replace hm := Lib.hid hm
    clear hm0 h
    go_enter Tryz.func60, Tryz.ntmps60
    go_wp2_with fail
    refine hmy.out.mono ?_
    rintro e w2 ⟨rfl, hst⟩
    go_wp2_with fail
    go_ret
    have s2 := s1.out.still hst
    exact hmp.out hm1.out _ _ (s2.out (by simp; rfl))
end Go.Proofs.YtdolbeonpkanpaaGreatDoor
