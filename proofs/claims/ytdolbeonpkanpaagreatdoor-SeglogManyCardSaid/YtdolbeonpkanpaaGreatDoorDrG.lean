/- The reference's disk: Write. -/
import Derived.Test.YtdolbeonpkanpaaGreatDoorDrF
set_option linter.unusedVariables false
set_option linter.unusedSimpArgs false
namespace Go.Proofs.YtdolbeonpkanpaaGreatDoor
open Go.RowKit
attribute [local go_sem ↓] Go.wp_at_zero Go.wp_at_succ

/-- The file stands at i now. -/
def WrMid (b : Nat) (k : Dk) (nm : Nm) (i : Nat) (w : World) (H : Heaplet) (wc : World) : Prop :=
  ∃ (X : List Re) (x : Re) (a : Option Addr) (c : Nat) (R : Heaplet), X[i]? = some x ∧ (∀ y ∈ X, y.ok) ∧ X.length ≤ 4096 ∧ (x.d, x.n) = getF k.L nm ∧ x.nm = nm ∧ (∀ y : Re, ∀ v, y.key = (nm, v) → (X.set i y).map Re.key = putF k.L nm v) ∧
    SlRep 107 3 a X.length c (X.flatMap Re.cells) R ∧ Sp w H wc [[(b, robj k.room a X.length c (leftI k.left))], R, X.flatMap Re.H]
theorem wrMid_is {b i c : Nat} {k : Dk} {a : Option Addr} {X : List Re} {R H : Heaplet} {nm : Nm} {w wc : World} (hkk : X.map Re.key = k.L) (hi : isF k.L nm = true) (hie : i = spotN k.L nm) (hok : ∀ x ∈ X, x.ok) (hl : k.L.length ≤ 4096) (hr : SlRep 107 3 a X.length c (X.flatMap Re.cells) R)
    (s : Sp w H wc [[(b, robj k.room a X.length c (leftI k.left))], R, X.flatMap Re.H]) : WrMid b k nm i w H wc := by
  obtain ⟨x, hx, h1, h2⟩ := re_find hkk hi
  refine ⟨X, x, a, c, R, by rw [hie]; exact hx, hok, by rw [← hkk, List.length_map] at hl; exact hl, h2, h1, fun y v hy => ?_, hr, s⟩
  unfold putF
  rw [if_pos hi, hie]
  exact re_set hkk v hy
theorem wrMid_new {b i c n : Nat} {k : Dk} {a : Option Addr} {X : List Re} {R R0 H J : Heaplet} {nm : Nm} {w wc : World} (hkk : X.map Re.key = k.L) (hi : isF k.L nm = false) (hie : i = spotN k.L nm) (hok : ∀ x ∈ X, x.ok) (hl : k.L.length < 4096) (hle : i ≤ X.length) (hn : n = X.length + 1)
    (hr : SlRep 107 3 a n c ((X.take i).flatMap Re.cells ++ Re.cells ⟨nm, none, 0, [], 0, []⟩ ++ (X.drop i).flatMap Re.cells) R)
    (s : Sp w H wc [[(b, robj k.room a n c (leftI k.left))], R0, X.flatMap Re.H, R, J]) : WrMid b k nm i w H wc := by
  have hlen : (X.take i ++ (⟨nm, none, 0, [], 0, []⟩ : Re) :: X.drop i).length = n := by simp; omega
  have hti : (X.take i).length = i := by rw [List.length_take]; omega
  refine ⟨X.take i ++ ⟨nm, none, 0, [], 0, []⟩ :: X.drop i, ⟨nm, none, 0, [], 0, []⟩, a, c, R, ?_, fun y hy => ?_, ?_, (getF_no hi).symm, rfl, fun y v hy => ?_, ?_, ?_⟩
  · rw [List.getElem?_append_right (by omega), hti, Nat.sub_self]; rfl
  · rcases List.mem_append.1 hy with hy | hy
    · exact hok y (List.mem_of_mem_take hy)
    · rcases List.mem_cons.1 hy with rfl | hy
      · exact SlRep.nil _ _
      · exact hok y (List.mem_of_mem_drop hy)
  · rw [hlen, hn, ← List.length_map (f := Re.key), hkk]; omega
  · unfold putF
    rw [if_neg (by rw [hi]; simp)]
    unfold insF
    rw [← hie, ← hkk, List.set_append_right _ _ (by omega), hti, Nat.sub_self, List.set_cons_zero, List.map_append, List.map_cons, List.map_take, List.map_drop, hy]
  · rw [hlen]
    simpa [List.flatMap_append] using hr
  · rw [hlen]
    have hH : (X.take i ++ (⟨nm, none, 0, [], 0, []⟩ : Re) :: X.drop i).flatMap Re.H = X.flatMap Re.H := by
      rw [List.flatMap_append, List.flatMap_cons, List.nil_append, ← List.flatMap_append, List.take_append_drop]
    rw [hH]
    have s2 := (s.forget 1 rfl).forget 4 rfl
    simp only [List.set_cons_succ, List.set_cons_zero] at s2
    refine s2.perm ?_
    simp only [List.flatten_cons, List.flatten_nil, List.append_nil, List.cons_append, List.nil_append]
    exact List.Perm.cons _ List.perm_append_comm
theorem rd_nil (W : World) (k : Nat) : RdCells W (.slice none 0 0) 0 k [] := ⟨by simp, by simp, .inl ⟨rfl, rfl⟩⟩
set_option maxHeartbeats 4000000 in
set_option maxRecDepth 100000 in
theorem rwrite_ok (b : Nat) (k : Dk) (H : Heaplet) (nm : Nm) (pa : Option Addr) (pc : Nat) (p : List UInt8) (w : World) (h : RkRep b k H) (hk : k.Ok) (hw : Own w H)
    (hb : RdBytes w pa p.length pc p) (hpb : p ≠ [] → ∀ x, pa = some x → x.block ∉ dom H) (hpl : p.length ≤ 140737488355328) (hm : mayN k [nm] = 0)
    (hA : ¬ k.room < usedF k.L + p.length) (hB : ¬ (isF k.L nm = false ∧ 4096 ≤ k.L.length)) :
    Calls Tryz.prog 31 #[pt b, strV nm, .slice pa p.length pc] w (RkPost b (0, didN { k with L := putF k.L nm ((getF k.L nm).1 ++ p, (getF k.L nm).2) }) H w) := by
  have s1 := (Sp.start hw).alloc (.cells #[strV nm] 9)
  have hmy := Lib.hid (may_any b k H w.heap.size 1 [nm] _ h (s1.own 0 rfl) (rdStrs_one w nm) (Nat.le_refl _) (by decide))
  rw [hm] at hmy
  have hsp := Lib.hid (fun W hW => spot_any b k H nm W h hW (by have := hk.many; omega))
  have hus := Lib.hid (fun W hW => rused_any b k H W h hW (by have := hk.many; omega) (by have := hk.used; have := hk.room; omega))
  have hdid := Lib.hid (fun k' H W h hW => did_any b k' H W h hW)
  have hb0 : Hid (∀ W' G, Step w H W' G → RdBytes W' pa p.length pc p) := fun W' G s => hb.later' s hpb
  have hu2 : (k.room : Int) ≤ 1073741824 := by have := hk.room; omega
  have hl1 : (k.L.length : Int) ≤ 4096 := by have := hk.many; omega
  have hgl : (getF k.L nm).1.length + p.length ≤ 1073741824 := by
    have h1 : (getF k.L nm).1.length ≤ usedF k.L := by
      cases hi' : isF k.L nm
      · rw [getF_no hi']; exact Nat.zero_le _
      · exact used_get hi'
    have := hk.room
    omega
  obtain ⟨a, c, R, X, hr, hok, hkk, hlf, hH⟩ := h
  have hkf : Hid (∀ W', Own W' H → W'.cell? ⟨b, 0, none⟩ = some (iv k.room) ∧ W'.cell? ⟨b, 1, none⟩ = some (.slice a k.L.length c)) := fun W' hW => by
    rw [hH] at hW
    have ⟨c0, c1, _⟩ := cells3 hW.h0
    exact ⟨c0, by rw [← hkk, List.length_map]; exact c1⟩
  obtain ⟨i, hie⟩ : ∃ i, i = spotN k.L nm := ⟨_, rfl⟩
  rw [← hie] at hsp
  have hil : i ≤ k.L.length := by rw [hie]; exact spot_len _ _
  have hxl : X.length = k.L.length := by rw [← hkk, List.length_map]
  have hsplit : Hid (∀ W, Sp w H W [H] → Sp w H W [[(b, robj k.room a X.length c (leftI k.left))], R, X.flatMap Re.H]) := fun W s => s.perm (by rw [hH]; simp)
  have hmid1 := Lib.hid (fun hi wc s => wrMid_is (b := b) (w := w) (wc := wc) (H := H) hkk hi hie hok hk.many hr s)
  have hmid2 := Lib.hid (fun hi hl a c n R0 R J wc hn hr' s => wrMid_new (b := b) (w := w) (wc := wc) (H := H) (a := a) (c := c) (n := n) (R0 := R0) (R := R) (J := J) hkk hi hie hok hl (by omega) hn hr' s)
  replace s1 := Lib.hid s1
  replace hH := Lib.hid hH
  replace hr := Lib.hid hr
  replace hie := Lib.hid hie
  clear hok hkk hm hb hpb
  have hfin0 := Lib.hid (fun i (a : Option Addr) c (X : List Re) R' G x y M w W hx hok hy hM hr' s => rk_fin (b := b) (i := i) (c := c) (k := k) (a := a) (X := X) (R' := R') (G := G) (x := x) (y := y) (M := M) (w := w) (W := W) hx hok hy hM hlf hr' s)
  have w1 : IntKind.i64.wrap ((usedF k.L : Int) + (p.length : Int)) = (usedF k.L : Int) + (p.length : Int) := IntWalk.i64_in _ (by omega)
  have a1 : ¬ ((k.room : Int) < (usedF k.L : Int) + (p.length : Int)) := by omega
  have a2 : decide ((k.room : Int) < (usedF k.L : Int) + (p.length : Int)) = false := decide_eq_false a1
  obtain ⟨n, hn⟩ : ∃ n, n = k.L.length := ⟨_, rfl⟩
  rw [← hn] at hkf hl1 hB hil hxl
  obtain ⟨t, ht⟩ : ∃ t, t = isF k.L nm := ⟨_, rfl⟩
  rw [← ht] at hsp hB
  have ht2 : Hid (t = isF k.L nm) := ht
  have hm2 : t = true ∨ decide ((4096 : Int) ≤ (n : Int)) = false := by
    cases t
    · exact .inr (decide_eq_false (by simp at hB; omega))
    · exact .inl rfl
  have hB2 : Hid (t = false → n < 4096) := fun h => by simp [h] at hB; omega
  replace hn := Lib.hid hn
  clear hA hB ht
  go_enter Tryz.func31, Tryz.ntmps31
  go_wp2_with fail
  refine hmy.out.mono ?_
  rintro e w2 ⟨rfl, hst⟩
  have s2 : Sp w H w2 [H] := (s1.out.still hst).forget 1 rfl |>.perm (by simp)
  clear hst
  go_wp2_with fail
  refine (hsp.out _ (s2.own 0 rfl)).mono ?_
  rintro e w3 ⟨rfl, hst⟩
  replace s2 := s2.still hst
  clear hst
  go_upto_region 5 with fail
  have kf := hkf.out _ (s2.drew.own 0 rfl)
  have hboth : t = true ∨ t = false := by cases t <;> simp
  rcases hboth with rfl | rfl
  · clear hm2 hmid2
    refine wp_region_J 21 (fun w' => w'.cell? ⟨b, 0, none⟩ = some (iv k.room) ∧ w'.cell? ⟨b, 1, none⟩ = some (.slice a n c)) (by kernel_rfl) ?_ (fun hF => ?_)
    · (try dsimp only)
      all_goals (first | exact kf | exact hkf.out _ (s4.own 0 rfl))
    refine tk0 (i := 0) (oi := ⟨some 24, .move (.tmp 0), 29, "disk.go:74", #[], none⟩) (v := ?_) rfl (by kernel_rfl) (fun _ _ _ h => h) (fun _ => hF) (fun w => ?_) (by rfl) ?_
    rotate_left
    · first | (go_simp; done) | (go_simp; with_reducible rfl) | (go_split_ands; go_simp; done)
    try simp only [Act.put, nrmA, nrmB, nrmC]
    refine tk0 (i := 2) (oi := ⟨some 26, .move (.tmp 2), 23, "disk.go:74", #[], none⟩) (v := ?_) rfl (by kernel_rfl) (fun _ _ _ h => h) (fun _ => hF) (fun w => ?_) (by rfl) ?_
    rotate_left
    · first | (go_simp; done) | (go_simp; with_reducible rfl) | (go_split_ands; go_simp; done)
    try simp only [Act.put, nrmA, nrmB, nrmC]
    refine tk1 (i := 3) (oi := ⟨some 27, .call { callee := .builtin .len, args := #[.tmp 26], argTypes := #[23] }, 3, "disk.go:74", #[⟨2, .data⟩], none⟩) (v := ?_) [4, 9, 10, 21] rfl (by kernel_rfl) (fun _ _ _ h => h) hF (fun w hFw => ?_) (by rfl) ?_
    rotate_left
    · ((try dsimp only at hFw); first | (go_simp; done) | (go_simp; with_reducible rfl) | (go_split_ands; go_simp; done))
    try simp only [Act.put, nrmA, nrmB, nrmC]
    refine tk0 (i := 5) (oi := ⟨some 29, .move (.tmp 0), 29, "disk.go:74", #[], none⟩) (v := ?_) rfl (by kernel_rfl) (fun _ _ _ h => h) (fun _ => hF) (fun w => ?_) (by rfl) ?_
    rotate_left
    · first | (go_simp; done) | (go_simp; with_reducible rfl) | (go_split_ands; go_simp; done)
    try simp only [Act.put, nrmA, nrmB, nrmC]
    refine tk0 (i := 6) (oi := ⟨some 30, .nilCheck (.tmp 29), 0, "disk.go:74", #[⟨5, .data⟩], none⟩) (v := ?_) rfl (by kernel_rfl) (fun _ _ _ h => h) (fun _ => hF) (fun w => ?_) (by rfl) ?_
    rotate_left
    · first | (go_simp; done) | (go_simp; with_reducible rfl) | (go_split_ands; go_simp; done)
    try simp only [Act.put, nrmA, nrmB, nrmC]
    refine tk0 (i := 7) (oi := ⟨some 31, .fieldAddr 83 (.tmp 30) 0, 0, "disk.go:74", #[⟨6, .data⟩], none⟩) (v := ?_) rfl (by kernel_rfl) (fun _ _ _ h => h) (fun _ => hF) (fun w => ?_) (by rfl) ?_
    rotate_left
    · first | (go_simp; done) | (go_simp; with_reducible rfl) | (go_split_ands; go_simp; done)
    try simp only [Act.put, nrmA, nrmB, nrmC]
    refine tk1 (i := 8) (oi := ⟨some 32, .load 3 (.tmp 31), 3, "disk.go:74", #[⟨7, .data⟩], none⟩) (v := ?_) [9, 10, 21] rfl (by kernel_rfl) (fun _ _ _ h => h) hF (fun w hFw => ?_) (by rfl) ?_
    rotate_left
    · ((try dsimp only at hFw); first | (go_simp; done) | (go_simp; with_reducible rfl) | (go_split_ands; go_simp; done))
    try simp only [Act.put, nrmA, nrmB, nrmC]
    refine wpAnyJ_ready (rs := [1]) (by kernel_rfl) (by simp) ?_
    refine AllJ.cons1 (o := ⟨some 25, .call { callee := .value (.func 72), args := #[.tmp 24], argTypes := #[29] }, 3, "disk.go:74", #[⟨0, .data⟩], none⟩) rfl (fun Kr hKr => ?_)
    go_simp; go_at_call 72; refine (hus.out _ (s2.drew.own 0 rfl)).mono ?_; rintro e w4 ⟨rfl, hst⟩; have s4 := s2.drew.still hst
    refine hKr.out _ _ (fun hJ => ?_) (fun hF => ?_)
    · first
      | exact absurd hJ (by decide)
      | (clear hJ; (try dsimp only); all_goals (first | exact kf | exact hkf.out _ (s4.own 0 rfl)))
    clear hKr
    try simp only [Act.put, nrmA, nrmB, nrmC]
    refine tk0 (i := 4) (oi := ⟨some 28, .binOp .add 3 (.tmp 25) (.tmp 27) 3, 3, "disk.go:74", #[⟨1, .data⟩, ⟨3, .data⟩], none⟩) (v := ?_) rfl (by kernel_rfl) (fun _ _ _ h => h) (fun _ => hF (by kernel_rfl)) (fun w => ?_) (by rfl) ?_
    rotate_left
    · first | (go_simp; done) | (go_simp; with_reducible rfl) | (go_split_ands; go_simp; done)
    try simp only [Act.put, nrmA, nrmB, nrmC]
    refine tk0 (i := 9) (oi := ⟨some 33, .binOp .gtr 3 (.tmp 28) (.tmp 32) 3, 4, "disk.go:74", #[⟨4, .data⟩, ⟨8, .data⟩], none⟩) (v := ?_) rfl (by kernel_rfl) (fun _ _ _ h => h) (fun _ => hF (by kernel_rfl)) (fun w => ?_) (by rfl) ?_
    rotate_left
    · first | (go_simp; done) | (go_simp; with_reducible rfl) | (go_split_ands; go_simp; done)
    try simp only [Act.put, nrmA, nrmB, nrmC]
    refine tk0 (i := 10) (oi := ⟨some 34, .move (.tmp 33), 4, "disk.go:74", #[⟨9, .data⟩, ⟨1, .chain⟩], none⟩) (v := ?_) rfl (by kernel_rfl) (fun _ _ _ h => h) (fun _ => hF (by kernel_rfl)) (fun w => ?_) (by rfl) ?_
    rotate_left
    · first | (go_simp; done) | (go_simp; with_reducible rfl) | (go_split_ands; go_simp; done)
    try simp only [Act.put, nrmA, nrmB, nrmC]
    first
    | refine sk0 (i := 11) (oi := ⟨some 35, .move (.tmp 9), 4, "disk.go:74", #[⟨10, .guard⟩], some (10, false)⟩) rfl (by kernel_rfl) (fun _ _ _ h => h) (fun _ => hF (by kernel_rfl)) (by rfl) ?_
    | (refine tk0 (i := 11) (oi := ⟨some 35, .move (.tmp 9), 4, "disk.go:74", #[⟨10, .guard⟩], some (10, false)⟩) (v := ?_) rfl (by kernel_rfl) (fun _ _ _ h => h) (fun _ => hF (by kernel_rfl)) (fun w => ?_) (by rfl) ?_
       rotate_left
       · first | (go_simp; done) | (go_simp; with_reducible rfl) | (go_split_ands; go_simp; done))
    try simp only [Act.put, nrmA, nrmB, nrmC]
    first
    | refine sk0 (i := 12) (oi := ⟨some 36, .unOp .not 4 (.tmp 35), 4, "disk.go:74", #[⟨11, .data⟩, ⟨10, .guard⟩], some (10, false)⟩) rfl (by kernel_rfl) (fun _ _ _ h => h) (fun _ => hF (by kernel_rfl)) (by rfl) ?_
    | (refine tk0 (i := 12) (oi := ⟨some 36, .unOp .not 4 (.tmp 35), 4, "disk.go:74", #[⟨11, .data⟩, ⟨10, .guard⟩], some (10, false)⟩) (v := ?_) rfl (by kernel_rfl) (fun _ _ _ h => h) (fun _ => hF (by kernel_rfl)) (fun w => ?_) (by rfl) ?_
       rotate_left
       · first | (go_simp; done) | (go_simp; with_reducible rfl) | (go_split_ands; go_simp; done))
    try simp only [Act.put, nrmA, nrmB, nrmC]
    first
    | refine sk0 (i := 13) (oi := ⟨some 37, .move (.tmp 36), 4, "disk.go:74", #[⟨12, .data⟩, ⟨10, .chain⟩, ⟨10, .guard⟩], some (10, false)⟩) rfl (by kernel_rfl) (fun _ _ _ h => h) (fun _ => hF (by kernel_rfl)) (by rfl) ?_
    | (refine tk0 (i := 13) (oi := ⟨some 37, .move (.tmp 36), 4, "disk.go:74", #[⟨12, .data⟩, ⟨10, .chain⟩, ⟨10, .guard⟩], some (10, false)⟩) (v := ?_) rfl (by kernel_rfl) (fun _ _ _ h => h) (fun _ => hF (by kernel_rfl)) (fun w => ?_) (by rfl) ?_
       rotate_left
       · first | (go_simp; done) | (go_simp; with_reducible rfl) | (go_split_ands; go_simp; done))
    try simp only [Act.put, nrmA, nrmB, nrmC]
    first
    | refine sk0 (i := 14) (oi := ⟨some 38, .move (.tmp 0), 29, "disk.go:74", #[⟨13, .guard⟩], some (13, true)⟩) rfl (by kernel_rfl) (fun _ _ _ h => h) (fun _ => hF (by kernel_rfl)) (by rfl) ?_
    | (refine tk0 (i := 14) (oi := ⟨some 38, .move (.tmp 0), 29, "disk.go:74", #[⟨13, .guard⟩], some (13, true)⟩) (v := ?_) rfl (by kernel_rfl) (fun _ _ _ h => h) (fun _ => hF (by kernel_rfl)) (fun w => ?_) (by rfl) ?_
       rotate_left
       · first | (go_simp; done) | (go_simp; with_reducible rfl) | (go_split_ands; go_simp; done))
    try simp only [Act.put, nrmA, nrmB, nrmC]
    first
    | refine sk0 (i := 15) (oi := ⟨some 39, .nilCheck (.tmp 38), 0, "disk.go:74", #[⟨14, .data⟩, ⟨13, .guard⟩], some (13, true)⟩) rfl (by kernel_rfl) (fun _ _ _ h => h) (fun _ => hF (by kernel_rfl)) (by rfl) ?_
    | (refine tk0 (i := 15) (oi := ⟨some 39, .nilCheck (.tmp 38), 0, "disk.go:74", #[⟨14, .data⟩, ⟨13, .guard⟩], some (13, true)⟩) (v := ?_) rfl (by kernel_rfl) (fun _ _ _ h => h) (fun _ => hF (by kernel_rfl)) (fun w => ?_) (by rfl) ?_
       rotate_left
       · first | (go_simp; done) | (go_simp; with_reducible rfl) | (go_split_ands; go_simp; done))
    try simp only [Act.put, nrmA, nrmB, nrmC]
    first
    | refine sk0 (i := 16) (oi := ⟨some 40, .fieldAddr 83 (.tmp 39) 1, 0, "disk.go:74", #[⟨15, .data⟩, ⟨13, .guard⟩], some (13, true)⟩) rfl (by kernel_rfl) (fun _ _ _ h => h) (fun _ => hF (by kernel_rfl)) (by rfl) ?_
    | (refine tk0 (i := 16) (oi := ⟨some 40, .fieldAddr 83 (.tmp 39) 1, 0, "disk.go:74", #[⟨15, .data⟩, ⟨13, .guard⟩], some (13, true)⟩) (v := ?_) rfl (by kernel_rfl) (fun _ _ _ h => h) (fun _ => hF (by kernel_rfl)) (fun w => ?_) (by rfl) ?_
       rotate_left
       · first | (go_simp; done) | (go_simp; with_reducible rfl) | (go_split_ands; go_simp; done))
    try simp only [Act.put, nrmA, nrmB, nrmC]
    first
    | refine sk0 (i := 17) (oi := ⟨some 41, .load 81 (.tmp 40), 81, "disk.go:74", #[⟨16, .data⟩, ⟨13, .guard⟩], some (13, true)⟩) rfl (by kernel_rfl) (fun _ _ _ h => h) (fun _ => hF (by kernel_rfl)) (by rfl) ?_
    | (refine tk1 (i := 17) (oi := ⟨some 41, .load 81 (.tmp 40), 81, "disk.go:74", #[⟨16, .data⟩, ⟨13, .guard⟩], some (13, true)⟩) (v := ?_) [18, 19, 20, 21] rfl (by kernel_rfl) (fun _ _ _ h => h) (hF (by kernel_rfl)) (fun w hFw => ?_) (by rfl) ?_
       rotate_left
       · ((try dsimp only at hFw); first | (go_simp; done) | (go_simp; with_reducible rfl) | (go_split_ands; go_simp; done)))
    try simp only [Act.put, nrmA, nrmB, nrmC]
    first
    | refine sk0 (i := 18) (oi := ⟨some 42, .call { callee := .builtin .len, args := #[.tmp 41], argTypes := #[81] }, 3, "disk.go:74", #[⟨17, .data⟩, ⟨13, .guard⟩], some (13, true)⟩) rfl (by kernel_rfl) (fun _ _ _ h => h) (fun _ => hF (by kernel_rfl)) (by rfl) ?_
    | (refine tk1 (i := 18) (oi := ⟨some 42, .call { callee := .builtin .len, args := #[.tmp 41], argTypes := #[81] }, 3, "disk.go:74", #[⟨17, .data⟩, ⟨13, .guard⟩], some (13, true)⟩) (v := ?_) [19, 20, 21] rfl (by kernel_rfl) (fun _ _ _ h => h) (hF (by kernel_rfl)) (fun w hFw => ?_) (by rfl) ?_
       rotate_left
       · ((try dsimp only at hFw); first | (go_simp; done) | (go_simp; with_reducible rfl) | (go_split_ands; go_simp; done)))
    try simp only [Act.put, nrmA, nrmB, nrmC]
    first
    | refine sk0 (i := 19) (oi := ⟨some 43, .binOp .geq 3 (.tmp 42) (.const (.int .i64 4096)) 3, 4, "disk.go:74", #[⟨18, .data⟩, ⟨13, .guard⟩], some (13, true)⟩) rfl (by kernel_rfl) (fun _ _ _ h => h) (fun _ => hF (by kernel_rfl)) (by rfl) ?_
    | (refine tk0 (i := 19) (oi := ⟨some 43, .binOp .geq 3 (.tmp 42) (.const (.int .i64 4096)) 3, 4, "disk.go:74", #[⟨18, .data⟩, ⟨13, .guard⟩], some (13, true)⟩) (v := ?_) rfl (by kernel_rfl) (fun _ _ _ h => h) (fun _ => hF (by kernel_rfl)) (fun w => ?_) (by rfl) ?_
       rotate_left
       · first | (go_simp; done) | (go_simp; with_reducible rfl) | (go_split_ands; go_simp; done))
    try simp only [Act.put, nrmA, nrmB, nrmC]
    first
    | refine sk0 (i := 20) (oi := ⟨some 44, .pick (.tmp 37) (.tmp 43) (.const (.bool false)), 4, "disk.go:74", #[⟨13, .data⟩, ⟨19, .data⟩, ⟨10, .guard⟩], some (10, false)⟩) rfl (by kernel_rfl) (fun _ _ _ h => h) (fun _ => hF (by kernel_rfl)) (by rfl) ?_
    | (refine tk0 (i := 20) (oi := ⟨some 44, .pick (.tmp 37) (.tmp 43) (.const (.bool false)), 4, "disk.go:74", #[⟨13, .data⟩, ⟨19, .data⟩, ⟨10, .guard⟩], some (10, false)⟩) (v := ?_) rfl (by kernel_rfl) (fun _ _ _ h => h) (fun _ => hF (by kernel_rfl)) (fun w => ?_) (by rfl) ?_
       rotate_left
       · first | (go_simp; done) | (go_simp; with_reducible rfl) | (go_split_ands; go_simp; done))
    try simp only [Act.put, nrmA, nrmB, nrmC]
    refine wpAnyJ_ready (rs := [21]) (by kernel_rfl) (by simp) ?_
    refine AllJ.cons1 (o := ⟨some 45, .pick (.tmp 34) (.const (.bool true)) (.tmp 44), 4, "disk.go:74", #[⟨10, .data⟩, ⟨20, .data⟩], none⟩) rfl (fun Kr hKr => ?_)
    go_simp
    refine hKr.out _ _ (fun hJ => ?_) (fun hF => ?_)
    · first
      | exact absurd hJ (by decide)
      | (clear hJ; (try dsimp only); all_goals (first | exact kf | exact hkf.out _ (s4.own 0 rfl)))
    clear hKr
    try simp only [Act.put, nrmA, nrmB, nrmC]
    refine wpAnyJ_done (by kernel_rfl) ?_ _
    have hmid := hmid1.out ht2.out.symm _ (hsplit.out _ s4)
    go_upto_region 11 with fail
    obtain ⟨X2, x2, a', c', R2, hx2, hok2, hl2, hget2, hnm2, hput2, hr2, s5⟩ := hmid
    refine Sp.gen s5 ?_
    clear s5 s4 s2 kf hr hsplit hmid1 hus hsp hmy
    intro W5 s5
    have ⟨c0, c1, c2⟩ := cells3 (s5.one 0 rfl)
    have b0 := heap_lt (s5.one 0 rfl)
    obtain ⟨g, rfl, k0, k1, r0, r1, r2, fz⟩ := re_at hr2 (s5.own 1 rfl) hx2
    have glt := World.block_lt_of_cell? W5 _ r0
    have hlt := (List.getElem?_eq_some_iff.1 hx2).1
    have hgl2 : x2.d.length + p.length ≤ 1073741824 := by
      have e : x2.d = (getF k.L nm).1 := congrArg Prod.fst hget2
      rw [e]; exact hgl
    have hrb := Lib.hid (fun W (hW : Own W (X2.flatMap Re.H)) => re_bytes hx2 (hok2 x2 (List.mem_of_getElem? hx2)) hW)
    obtain ⟨n2, hn2⟩ : ∃ n2, n2 = X2.length := ⟨_, rfl⟩
    rw [← hn2] at c1 k0 hl2 hlt s5
    have hrr : Hid (∀ W, Own W R2 → W.cell? ⟨g, i * 3 + 1, none⟩ = some (.slice x2.a x2.d.length x2.c) ∧ ∀ j, W.frozen? ⟨g, j, none⟩ = false) := fun W hW => by
      obtain ⟨g', e, _, _, _, r1, _, fz⟩ := re_at hr2 hW hx2
      cases e
      exact ⟨r1, fz⟩
    have i0 : (0 : Int) ≤ (i : Int) := by omega
    have i1 : (i : Int) < (n2 : Int) := by omega
    have i2 : (n2 : Int) ≤ (c' : Int) := by omega
    have hend : Hid (∀ a8 c8 H8 R9 W, SlRep 5 1 a8 (0 + x2.d.length + p.length) c8 ([] ++ x2.d.map u8 ++ p.map u8) H8 → SlRep 107 3 (some ⟨g, 0, none⟩) n2 c' ((X2.set i ⟨x2.nm, a8, c8, x2.d ++ p, x2.n, H8⟩).flatMap Re.cells) R9 →
        Sp w H W [[(b, robj k.room (some ⟨g, 0, none⟩) n2 c' (leftI k.left))], R9, X2.flatMap Re.H, H8] → ∃ H9, RkRep b { k with L := putF k.L nm ((getF k.L nm).1 ++ p, (getF k.L nm).2) } H9 ∧ Step w H W H9) := fun a8 c8 H8 R9 W hv hr s => by
      refine hfin0.out i (some ⟨g, 0, none⟩) c' X2 R9 H x2 ⟨x2.nm, a8, c8, x2.d ++ p, x2.n, H8⟩ _ w W hx2 hok2 ?_ (hput2 _ _ ?_) (by rw [← hn2]; exact hr) (by rw [← hn2]; exact s)
      · unfold Re.ok
        rw [List.length_append, List.map_append]
        simpa using hv
      · rw [← hget2]; simp only [Re.key, hnm2]
    have hyc : Hid (∀ a8 c8 H8, (⟨x2.nm, a8, c8, x2.d ++ p, x2.n, H8⟩ : Re).cells = x2.cells.set 1 (.slice a8 (x2.d.length + p.length) c8)) := fun a8 c8 H8 => by
      simp only [Re.cells, List.length_append, List.set_cons_succ, List.set_cons_zero]
    replace hr2 := Lib.hid hr2
    replace hx2 := Lib.hid hx2
    replace hn2 := Lib.hid hn2
    clear hok2 hput2 hget2 hnm2 hfin0
    refine wp_region_J 19 (fun w' => w'.cell? ⟨b, 1, none⟩ = some (.slice (some ⟨g, 0, none⟩) n2 c') ∧ w'.cell? ⟨g, i * 3 + 1, none⟩ = some (.slice x2.a x2.d.length x2.c)) (by kernel_rfl) ?_ (fun hF => ?_)
    · (try dsimp only)
      all_goals (first | exact ⟨c1, r1⟩ | (simp [*, World.cell?_alloc_some]; done))
    refine tk0 (i := 0) (oi := ⟨some 72, .move (.tmp 0), 29, "disk.go:82", #[], none⟩) (v := ?_) rfl (by kernel_rfl) (fun _ _ _ h => h) (fun _ => hF) (fun w => ?_) (by rfl) ?_
    rotate_left
    · first | (go_simp; done) | (go_simp; with_reducible rfl) | (go_split_ands; go_simp; done)
    try simp only [Act.put, nrmA, nrmB, nrmC]
    refine tk0 (i := 1) (oi := ⟨some 73, .nilCheck (.tmp 72), 0, "disk.go:82", #[⟨0, .data⟩], none⟩) (v := ?_) rfl (by kernel_rfl) (fun _ _ _ h => h) (fun _ => hF) (fun w => ?_) (by rfl) ?_
    rotate_left
    · first | (go_simp; done) | (go_simp; with_reducible rfl) | (go_split_ands; go_simp; done)
    try simp only [Act.put, nrmA, nrmB, nrmC]
    refine tk0 (i := 2) (oi := ⟨some 74, .fieldAddr 83 (.tmp 73) 1, 0, "disk.go:82", #[⟨1, .data⟩], none⟩) (v := ?_) rfl (by kernel_rfl) (fun _ _ _ h => h) (fun _ => hF) (fun w => ?_) (by rfl) ?_
    rotate_left
    · first | (go_simp; done) | (go_simp; with_reducible rfl) | (go_split_ands; go_simp; done)
    try simp only [Act.put, nrmA, nrmB, nrmC]
    refine tk1 (i := 3) (oi := ⟨some 75, .load 81 (.tmp 74), 81, "disk.go:82", #[⟨2, .data⟩], none⟩) (v := ?_) [19] rfl (by kernel_rfl) (fun _ _ _ h => h) hF (fun w hFw => ?_) (by rfl) ?_
    rotate_left
    · ((try dsimp only at hFw); first | (go_simp; done) | (go_simp; with_reducible rfl) | (go_split_ands; go_simp; done))
    try simp only [Act.put, nrmA, nrmB, nrmC]
    refine tk0 (i := 4) (oi := ⟨some 76, .move (.tmp 8), 3, "disk.go:82", #[], none⟩) (v := ?_) rfl (by kernel_rfl) (fun _ _ _ h => h) (fun _ => hF) (fun w => ?_) (by rfl) ?_
    rotate_left
    · first | (go_simp; done) | (go_simp; with_reducible rfl) | (go_split_ands; go_simp; done)
    try simp only [Act.put, nrmA, nrmB, nrmC]
    refine tk0 (i := 6) (oi := ⟨some 78, .move (.tmp 0), 29, "disk.go:82", #[], none⟩) (v := ?_) rfl (by kernel_rfl) (fun _ _ _ h => h) (fun _ => hF) (fun w => ?_) (by rfl) ?_
    rotate_left
    · first | (go_simp; done) | (go_simp; with_reducible rfl) | (go_split_ands; go_simp; done)
    try simp only [Act.put, nrmA, nrmB, nrmC]
    refine tk0 (i := 7) (oi := ⟨some 79, .nilCheck (.tmp 78), 0, "disk.go:82", #[⟨6, .data⟩], none⟩) (v := ?_) rfl (by kernel_rfl) (fun _ _ _ h => h) (fun _ => hF) (fun w => ?_) (by rfl) ?_
    rotate_left
    · first | (go_simp; done) | (go_simp; with_reducible rfl) | (go_split_ands; go_simp; done)
    try simp only [Act.put, nrmA, nrmB, nrmC]
    refine tk0 (i := 8) (oi := ⟨some 80, .fieldAddr 83 (.tmp 79) 1, 0, "disk.go:82", #[⟨7, .data⟩], none⟩) (v := ?_) rfl (by kernel_rfl) (fun _ _ _ h => h) (fun _ => hF) (fun w => ?_) (by rfl) ?_
    rotate_left
    · first | (go_simp; done) | (go_simp; with_reducible rfl) | (go_split_ands; go_simp; done)
    try simp only [Act.put, nrmA, nrmB, nrmC]
    refine tk1 (i := 9) (oi := ⟨some 81, .load 81 (.tmp 80), 81, "disk.go:82", #[⟨8, .data⟩], none⟩) (v := ?_) [19] rfl (by kernel_rfl) (fun _ _ _ h => h) hF (fun w hFw => ?_) (by rfl) ?_
    rotate_left
    · ((try dsimp only at hFw); first | (go_simp; done) | (go_simp; with_reducible rfl) | (go_split_ands; go_simp; done))
    try simp only [Act.put, nrmA, nrmB, nrmC]
    refine tk0 (i := 10) (oi := ⟨some 82, .move (.tmp 8), 3, "disk.go:82", #[], none⟩) (v := ?_) rfl (by kernel_rfl) (fun _ _ _ h => h) (fun _ => hF) (fun w => ?_) (by rfl) ?_
    rotate_left
    · first | (go_simp; done) | (go_simp; with_reducible rfl) | (go_split_ands; go_simp; done)
    try simp only [Act.put, nrmA, nrmB, nrmC]
    refine tk0 (i := 11) (oi := ⟨some 83, .indexAddr 81 (.tmp 81) (.tmp 82), 0, "disk.go:82", #[⟨9, .data⟩, ⟨10, .data⟩], none⟩) (v := ?_) rfl (by kernel_rfl) (fun _ _ _ h => h) (fun _ => hF) (fun w => ?_) (by rfl) ?_
    rotate_left
    · first | (go_simp; done) | (go_simp; with_reducible rfl) | (go_split_ands; go_simp; done)
    try simp only [Act.put, nrmA, nrmB, nrmC]
    refine tk0 (i := 12) (oi := ⟨some 84, .fieldAddr 107 (.tmp 83) 1, 0, "disk.go:82", #[⟨11, .data⟩], none⟩) (v := ?_) rfl (by kernel_rfl) (fun _ _ _ h => h) (fun _ => hF) (fun w => ?_) (by rfl) ?_
    rotate_left
    · first | (go_simp; done) | (go_simp; with_reducible rfl) | (go_split_ands; go_simp; done)
    try simp only [Act.put, nrmA, nrmB, nrmC]
    refine tk1 (i := 13) (oi := ⟨some 85, .load 23 (.tmp 84), 23, "disk.go:82", #[⟨12, .data⟩], none⟩) (v := ?_) [19] rfl (by kernel_rfl) (fun _ _ _ h => h) hF (fun w hFw => ?_) (by rfl) ?_
    rotate_left
    · ((try dsimp only at hFw); first | (go_simp; done) | (go_simp; with_reducible rfl) | (go_split_ands; go_simp; done))
    try simp only [Act.put, nrmA, nrmB, nrmC]
    refine tk0 (i := 15) (oi := ⟨some 87, .move (.tmp 2), 23, "disk.go:82", #[], none⟩) (v := ?_) rfl (by kernel_rfl) (fun _ _ _ h => h) (fun _ => hF) (fun w => ?_) (by rfl) ?_
    rotate_left
    · first | (go_simp; done) | (go_simp; with_reducible rfl) | (go_split_ands; go_simp; done)
    try simp only [Act.put, nrmA, nrmB, nrmC]
    refine wpAnyJ_ready (rs := [5]) (by kernel_rfl) (by simp) ?_
    refine AllJ.cons1 (o := ⟨some 77, .buildSlice 23 0 #[], 23, "disk.go:82", #[], none⟩) rfl (fun Kr hKr => ?_)
    go_simp
    refine hKr.out _ _ (fun hJ => ?_) (fun hF => ?_)
    · first
      | exact absurd hJ (by decide)
      | (clear hJ; (try dsimp only); all_goals (first | exact ⟨c1, r1⟩ | (simp [*, World.cell?_alloc_some]; done)))
    clear hKr
    try simp only [Act.put, nrmA, nrmB, nrmC]
    refine wpAnyJ_ready (rs := [14]) (by kernel_rfl) (by simp) ?_
    refine AllJ.cons1 (o := ⟨some 86, .call { callee := .builtin .append, args := #[.tmp 77, .tmp 85], argTypes := #[23, 23] }, 23, "disk.go:82", #[⟨5, .data⟩, ⟨13, .data⟩], none⟩) rfl (fun Kr hKr => ?_)
    have s6 := s5.drew.alloc (.cells #[] 5 (0, 0))
    refine step_app rfl st_u8 _ _ (by rfl) (by rfl) (by rfl) (SlRep.made _ _ _) (s6.own 3 rfl) (rdBytes_cells (hrb.out _ (s6.own 2 rfl))) (by unfold maxLen; omega) (by omega) ?_
    intro a7 c7 w7 H7 hv7 hst7
    have s7 := s6.put 3 rfl hst7
    simp only [List.cons_append, List.nil_append, List.set_cons_succ, List.set_cons_zero] at s7
    have ⟨_, c1, _⟩ := cells3 (s7.one 0 rfl)
    obtain ⟨r1, fz⟩ := hrr.out _ (s7.own 1 rfl)
    refine hKr.out _ _ (fun hJ => ?_) (fun hF => ?_)
    · first
      | exact absurd hJ (by decide)
      | (clear hJ; (try dsimp only); all_goals (first | exact ⟨c1, r1⟩ | (simp [*, World.cell?_alloc_some]; done)))
    clear hKr
    try simp only [Act.put, nrmA, nrmB, nrmC]
    refine wpAnyJ_ready (rs := [16]) (by kernel_rfl) (by simp) ?_
    refine AllJ.cons1 (o := ⟨some 88, .call { callee := .builtin .append, args := #[.tmp 86, .tmp 87], argTypes := #[23, 23] }, 23, "disk.go:82", #[⟨14, .data⟩, ⟨15, .data⟩, ⟨14, .chain⟩], none⟩) rfl (fun Kr hKr => ?_)
    refine step_app rfl st_u8 _ _ (by rfl) (by rfl) (by rfl) hv7 (s7.own 3 rfl) (rdBytes_cells (hb0.out _ _ s7)) (by unfold maxLen; omega) (by omega) ?_
    intro a8 c8 w8 H8 hv8 hst8
    have s8 := s7.put 3 rfl hst8
    simp only [List.set_cons_succ, List.set_cons_zero] at s8
    have ⟨_, c1, _⟩ := cells3 (s8.one 0 rfl)
    obtain ⟨r1, fz⟩ := hrr.out _ (s8.own 1 rfl)
    have glt := World.block_lt_of_cell? w8 _ r1
    refine hKr.out _ _ (fun hJ => ?_) (fun hF => ?_)
    · first
      | exact absurd hJ (by decide)
      | (clear hJ; (try dsimp only); all_goals (first | exact ⟨c1, r1⟩ | (simp [*, World.cell?_alloc_some]; done)))
    clear hKr
    try simp only [Act.put, nrmA, nrmB, nrmC]
    refine tk0 (i := 17) (oi := ⟨some 89, .indexAddr 81 (.tmp 75) (.tmp 76), 0, "disk.go:82", #[⟨3, .data⟩, ⟨4, .data⟩, ⟨0, .phase⟩, ⟨1, .phase⟩, ⟨2, .phase⟩, ⟨3, .phase⟩, ⟨4, .phase⟩, ⟨5, .phase⟩, ⟨6, .phase⟩, ⟨7, .phase⟩, ⟨8, .phase⟩, ⟨9, .phase⟩, ⟨10, .phase⟩, ⟨11, .phase⟩, ⟨12, .phase⟩, ⟨13, .phase⟩, ⟨14, .phase⟩, ⟨15, .phase⟩, ⟨16, .phase⟩], none⟩) (v := ?_) rfl (by kernel_rfl) (fun _ _ _ h => h) (fun _ => hF (by kernel_rfl)) (fun w => ?_) (by rfl) ?_
    rotate_left
    · first | (go_simp; done) | (go_simp; with_reducible rfl) | (go_split_ands; go_simp; done)
    try simp only [Act.put, nrmA, nrmB, nrmC]
    refine tk0 (i := 18) (oi := ⟨some 90, .fieldAddr 107 (.tmp 89) 1, 0, "disk.go:82", #[⟨17, .data⟩, ⟨0, .phase⟩, ⟨1, .phase⟩, ⟨2, .phase⟩, ⟨3, .phase⟩, ⟨4, .phase⟩, ⟨5, .phase⟩, ⟨6, .phase⟩, ⟨7, .phase⟩, ⟨8, .phase⟩, ⟨9, .phase⟩, ⟨10, .phase⟩, ⟨11, .phase⟩, ⟨12, .phase⟩, ⟨13, .phase⟩, ⟨14, .phase⟩, ⟨15, .phase⟩, ⟨16, .phase⟩], none⟩) (v := ?_) rfl (by kernel_rfl) (fun _ _ _ h => h) (fun _ => hF (by kernel_rfl)) (fun w => ?_) (by rfl) ?_
    rotate_left
    · first | (go_simp; done) | (go_simp; with_reducible rfl) | (go_split_ands; go_simp; done)
    try simp only [Act.put, nrmA, nrmB, nrmC]
    refine wpAnyJ_ready (rs := [19]) (by kernel_rfl) (by simp) ?_
    refine AllJ.cons1 (o := ⟨none, .store 23 (.tmp 90) (.tmp 88), 0, "disk.go:82", #[⟨18, .data⟩, ⟨16, .data⟩, ⟨16, .chain⟩, ⟨0, .phase⟩, ⟨1, .phase⟩, ⟨2, .phase⟩, ⟨3, .phase⟩, ⟨4, .phase⟩, ⟨5, .phase⟩, ⟨6, .phase⟩, ⟨7, .phase⟩, ⟨8, .phase⟩, ⟨9, .phase⟩, ⟨10, .phase⟩, ⟨11, .phase⟩, ⟨12, .phase⟩, ⟨13, .phase⟩, ⟨14, .phase⟩, ⟨15, .phase⟩, ⟨16, .phase⟩], none⟩) rfl (fun Kr hKr => ?_)
    go_simp
    refine hKr.out _ _ (fun hJ => ?_) (fun hF => ?_)
    · first
      | exact absurd hJ (by decide)
      | (clear hJ; (try dsimp only); all_goals (first | exact ⟨c1, r1⟩ | (simp [*, World.cell?_alloc_some]; done)))
    clear hKr
    try simp only [Act.put, nrmA, nrmB, nrmC]
    refine wpAnyJ_done (by kernel_rfl) ?_ _
    go_upto_region 12 with fail
    obtain ⟨R9, hr9, s9⟩ := s8.putK re_len 1 rfl (by rw [hn2.out]; exact hr2.out : SlRep 107 3 (some ⟨g, 0, none⟩) n2 c' (X2.flatMap Re.cells) R2) hx2.out (j := 1) (by decide) (hyc.out a8 c8 H8)
    simp only [List.set_cons_succ, List.set_cons_zero] at s9
    obtain ⟨H9, hrep9, s9⟩ := hend.out a8 c8 H8 R9 _ hv8 hr9 s9
    go_wp2_with fail
    all_goals
      refine (hdid.out _ _ _ hrep9 s9.own).mono ?_
      rintro e w10 ⟨rfl, H10, hr10, hst⟩
      go_wp2_with fail
      go_ret
      exact ⟨rfl, H10, hr10, s9.trans hst⟩
  · have m3 : decide ((4096 : Int) ≤ (n : Int)) = false := hm2.resolve_left (by simp)
    have m4 : ¬ ((4096 : Int) ≤ (n : Int)) := of_decide_eq_false m3
    have m5 : (n : Int) < 4096 := by omega
    clear hm2 hmid1
    refine wp_region_J 21 (fun w' => w'.cell? ⟨b, 0, none⟩ = some (iv k.room) ∧ w'.cell? ⟨b, 1, none⟩ = some (.slice a n c)) (by kernel_rfl) ?_ (fun hF => ?_)
    · (try dsimp only)
      all_goals (first | exact kf | exact hkf.out _ (s4.own 0 rfl))
    refine tk0 (i := 0) (oi := ⟨some 24, .move (.tmp 0), 29, "disk.go:74", #[], none⟩) (v := ?_) rfl (by kernel_rfl) (fun _ _ _ h => h) (fun _ => hF) (fun w => ?_) (by rfl) ?_
    rotate_left
    · first | (go_simp; done) | (go_simp; with_reducible rfl) | (go_split_ands; go_simp; done)
    try simp only [Act.put, nrmA, nrmB, nrmC]
    refine tk0 (i := 2) (oi := ⟨some 26, .move (.tmp 2), 23, "disk.go:74", #[], none⟩) (v := ?_) rfl (by kernel_rfl) (fun _ _ _ h => h) (fun _ => hF) (fun w => ?_) (by rfl) ?_
    rotate_left
    · first | (go_simp; done) | (go_simp; with_reducible rfl) | (go_split_ands; go_simp; done)
    try simp only [Act.put, nrmA, nrmB, nrmC]
    refine tk1 (i := 3) (oi := ⟨some 27, .call { callee := .builtin .len, args := #[.tmp 26], argTypes := #[23] }, 3, "disk.go:74", #[⟨2, .data⟩], none⟩) (v := ?_) [4, 9, 10, 21] rfl (by kernel_rfl) (fun _ _ _ h => h) hF (fun w hFw => ?_) (by rfl) ?_
    rotate_left
    · ((try dsimp only at hFw); first | (go_simp; done) | (go_simp; with_reducible rfl) | (go_split_ands; go_simp; done))
    try simp only [Act.put, nrmA, nrmB, nrmC]
    refine tk0 (i := 5) (oi := ⟨some 29, .move (.tmp 0), 29, "disk.go:74", #[], none⟩) (v := ?_) rfl (by kernel_rfl) (fun _ _ _ h => h) (fun _ => hF) (fun w => ?_) (by rfl) ?_
    rotate_left
    · first | (go_simp; done) | (go_simp; with_reducible rfl) | (go_split_ands; go_simp; done)
    try simp only [Act.put, nrmA, nrmB, nrmC]
    refine tk0 (i := 6) (oi := ⟨some 30, .nilCheck (.tmp 29), 0, "disk.go:74", #[⟨5, .data⟩], none⟩) (v := ?_) rfl (by kernel_rfl) (fun _ _ _ h => h) (fun _ => hF) (fun w => ?_) (by rfl) ?_
    rotate_left
    · first | (go_simp; done) | (go_simp; with_reducible rfl) | (go_split_ands; go_simp; done)
    try simp only [Act.put, nrmA, nrmB, nrmC]
    refine tk0 (i := 7) (oi := ⟨some 31, .fieldAddr 83 (.tmp 30) 0, 0, "disk.go:74", #[⟨6, .data⟩], none⟩) (v := ?_) rfl (by kernel_rfl) (fun _ _ _ h => h) (fun _ => hF) (fun w => ?_) (by rfl) ?_
    rotate_left
    · first | (go_simp; done) | (go_simp; with_reducible rfl) | (go_split_ands; go_simp; done)
    try simp only [Act.put, nrmA, nrmB, nrmC]
    refine tk1 (i := 8) (oi := ⟨some 32, .load 3 (.tmp 31), 3, "disk.go:74", #[⟨7, .data⟩], none⟩) (v := ?_) [9, 10, 21] rfl (by kernel_rfl) (fun _ _ _ h => h) hF (fun w hFw => ?_) (by rfl) ?_
    rotate_left
    · ((try dsimp only at hFw); first | (go_simp; done) | (go_simp; with_reducible rfl) | (go_split_ands; go_simp; done))
    try simp only [Act.put, nrmA, nrmB, nrmC]
    refine wpAnyJ_ready (rs := [1]) (by kernel_rfl) (by simp) ?_
    refine AllJ.cons1 (o := ⟨some 25, .call { callee := .value (.func 72), args := #[.tmp 24], argTypes := #[29] }, 3, "disk.go:74", #[⟨0, .data⟩], none⟩) rfl (fun Kr hKr => ?_)
    go_simp; go_at_call 72; refine (hus.out _ (s2.drew.own 0 rfl)).mono ?_; rintro e w4 ⟨rfl, hst⟩; have s4 := s2.drew.still hst
    refine hKr.out _ _ (fun hJ => ?_) (fun hF => ?_)
    · first
      | exact absurd hJ (by decide)
      | (clear hJ; (try dsimp only); all_goals (first | exact kf | exact hkf.out _ (s4.own 0 rfl)))
    clear hKr
    try simp only [Act.put, nrmA, nrmB, nrmC]
    refine tk0 (i := 4) (oi := ⟨some 28, .binOp .add 3 (.tmp 25) (.tmp 27) 3, 3, "disk.go:74", #[⟨1, .data⟩, ⟨3, .data⟩], none⟩) (v := ?_) rfl (by kernel_rfl) (fun _ _ _ h => h) (fun _ => hF (by kernel_rfl)) (fun w => ?_) (by rfl) ?_
    rotate_left
    · first | (go_simp; done) | (go_simp; with_reducible rfl) | (go_split_ands; go_simp; done)
    try simp only [Act.put, nrmA, nrmB, nrmC]
    refine tk0 (i := 9) (oi := ⟨some 33, .binOp .gtr 3 (.tmp 28) (.tmp 32) 3, 4, "disk.go:74", #[⟨4, .data⟩, ⟨8, .data⟩], none⟩) (v := ?_) rfl (by kernel_rfl) (fun _ _ _ h => h) (fun _ => hF (by kernel_rfl)) (fun w => ?_) (by rfl) ?_
    rotate_left
    · first | (go_simp; done) | (go_simp; with_reducible rfl) | (go_split_ands; go_simp; done)
    try simp only [Act.put, nrmA, nrmB, nrmC]
    refine tk0 (i := 10) (oi := ⟨some 34, .move (.tmp 33), 4, "disk.go:74", #[⟨9, .data⟩, ⟨1, .chain⟩], none⟩) (v := ?_) rfl (by kernel_rfl) (fun _ _ _ h => h) (fun _ => hF (by kernel_rfl)) (fun w => ?_) (by rfl) ?_
    rotate_left
    · first | (go_simp; done) | (go_simp; with_reducible rfl) | (go_split_ands; go_simp; done)
    try simp only [Act.put, nrmA, nrmB, nrmC]
    first
    | refine sk0 (i := 11) (oi := ⟨some 35, .move (.tmp 9), 4, "disk.go:74", #[⟨10, .guard⟩], some (10, false)⟩) rfl (by kernel_rfl) (fun _ _ _ h => h) (fun _ => hF (by kernel_rfl)) (by rfl) ?_
    | (refine tk0 (i := 11) (oi := ⟨some 35, .move (.tmp 9), 4, "disk.go:74", #[⟨10, .guard⟩], some (10, false)⟩) (v := ?_) rfl (by kernel_rfl) (fun _ _ _ h => h) (fun _ => hF (by kernel_rfl)) (fun w => ?_) (by rfl) ?_
       rotate_left
       · first | (go_simp; done) | (go_simp; with_reducible rfl) | (go_split_ands; go_simp; done))
    try simp only [Act.put, nrmA, nrmB, nrmC]
    first
    | refine sk0 (i := 12) (oi := ⟨some 36, .unOp .not 4 (.tmp 35), 4, "disk.go:74", #[⟨11, .data⟩, ⟨10, .guard⟩], some (10, false)⟩) rfl (by kernel_rfl) (fun _ _ _ h => h) (fun _ => hF (by kernel_rfl)) (by rfl) ?_
    | (refine tk0 (i := 12) (oi := ⟨some 36, .unOp .not 4 (.tmp 35), 4, "disk.go:74", #[⟨11, .data⟩, ⟨10, .guard⟩], some (10, false)⟩) (v := ?_) rfl (by kernel_rfl) (fun _ _ _ h => h) (fun _ => hF (by kernel_rfl)) (fun w => ?_) (by rfl) ?_
       rotate_left
       · first | (go_simp; done) | (go_simp; with_reducible rfl) | (go_split_ands; go_simp; done))
    try simp only [Act.put, nrmA, nrmB, nrmC]
    first
    | refine sk0 (i := 13) (oi := ⟨some 37, .move (.tmp 36), 4, "disk.go:74", #[⟨12, .data⟩, ⟨10, .chain⟩, ⟨10, .guard⟩], some (10, false)⟩) rfl (by kernel_rfl) (fun _ _ _ h => h) (fun _ => hF (by kernel_rfl)) (by rfl) ?_
    | (refine tk0 (i := 13) (oi := ⟨some 37, .move (.tmp 36), 4, "disk.go:74", #[⟨12, .data⟩, ⟨10, .chain⟩, ⟨10, .guard⟩], some (10, false)⟩) (v := ?_) rfl (by kernel_rfl) (fun _ _ _ h => h) (fun _ => hF (by kernel_rfl)) (fun w => ?_) (by rfl) ?_
       rotate_left
       · first | (go_simp; done) | (go_simp; with_reducible rfl) | (go_split_ands; go_simp; done))
    try simp only [Act.put, nrmA, nrmB, nrmC]
    first
    | refine sk0 (i := 14) (oi := ⟨some 38, .move (.tmp 0), 29, "disk.go:74", #[⟨13, .guard⟩], some (13, true)⟩) rfl (by kernel_rfl) (fun _ _ _ h => h) (fun _ => hF (by kernel_rfl)) (by rfl) ?_
    | (refine tk0 (i := 14) (oi := ⟨some 38, .move (.tmp 0), 29, "disk.go:74", #[⟨13, .guard⟩], some (13, true)⟩) (v := ?_) rfl (by kernel_rfl) (fun _ _ _ h => h) (fun _ => hF (by kernel_rfl)) (fun w => ?_) (by rfl) ?_
       rotate_left
       · first | (go_simp; done) | (go_simp; with_reducible rfl) | (go_split_ands; go_simp; done))
    try simp only [Act.put, nrmA, nrmB, nrmC]
    first
    | refine sk0 (i := 15) (oi := ⟨some 39, .nilCheck (.tmp 38), 0, "disk.go:74", #[⟨14, .data⟩, ⟨13, .guard⟩], some (13, true)⟩) rfl (by kernel_rfl) (fun _ _ _ h => h) (fun _ => hF (by kernel_rfl)) (by rfl) ?_
    | (refine tk0 (i := 15) (oi := ⟨some 39, .nilCheck (.tmp 38), 0, "disk.go:74", #[⟨14, .data⟩, ⟨13, .guard⟩], some (13, true)⟩) (v := ?_) rfl (by kernel_rfl) (fun _ _ _ h => h) (fun _ => hF (by kernel_rfl)) (fun w => ?_) (by rfl) ?_
       rotate_left
       · first | (go_simp; done) | (go_simp; with_reducible rfl) | (go_split_ands; go_simp; done))
    try simp only [Act.put, nrmA, nrmB, nrmC]
    first
    | refine sk0 (i := 16) (oi := ⟨some 40, .fieldAddr 83 (.tmp 39) 1, 0, "disk.go:74", #[⟨15, .data⟩, ⟨13, .guard⟩], some (13, true)⟩) rfl (by kernel_rfl) (fun _ _ _ h => h) (fun _ => hF (by kernel_rfl)) (by rfl) ?_
    | (refine tk0 (i := 16) (oi := ⟨some 40, .fieldAddr 83 (.tmp 39) 1, 0, "disk.go:74", #[⟨15, .data⟩, ⟨13, .guard⟩], some (13, true)⟩) (v := ?_) rfl (by kernel_rfl) (fun _ _ _ h => h) (fun _ => hF (by kernel_rfl)) (fun w => ?_) (by rfl) ?_
       rotate_left
       · first | (go_simp; done) | (go_simp; with_reducible rfl) | (go_split_ands; go_simp; done))
    try simp only [Act.put, nrmA, nrmB, nrmC]
    first
    | refine sk0 (i := 17) (oi := ⟨some 41, .load 81 (.tmp 40), 81, "disk.go:74", #[⟨16, .data⟩, ⟨13, .guard⟩], some (13, true)⟩) rfl (by kernel_rfl) (fun _ _ _ h => h) (fun _ => hF (by kernel_rfl)) (by rfl) ?_
    | (refine tk1 (i := 17) (oi := ⟨some 41, .load 81 (.tmp 40), 81, "disk.go:74", #[⟨16, .data⟩, ⟨13, .guard⟩], some (13, true)⟩) (v := ?_) [18, 19, 20, 21] rfl (by kernel_rfl) (fun _ _ _ h => h) (hF (by kernel_rfl)) (fun w hFw => ?_) (by rfl) ?_
       rotate_left
       · ((try dsimp only at hFw); first | (go_simp; done) | (go_simp; with_reducible rfl) | (go_split_ands; go_simp; done)))
    try simp only [Act.put, nrmA, nrmB, nrmC]
    first
    | refine sk0 (i := 18) (oi := ⟨some 42, .call { callee := .builtin .len, args := #[.tmp 41], argTypes := #[81] }, 3, "disk.go:74", #[⟨17, .data⟩, ⟨13, .guard⟩], some (13, true)⟩) rfl (by kernel_rfl) (fun _ _ _ h => h) (fun _ => hF (by kernel_rfl)) (by rfl) ?_
    | (refine tk1 (i := 18) (oi := ⟨some 42, .call { callee := .builtin .len, args := #[.tmp 41], argTypes := #[81] }, 3, "disk.go:74", #[⟨17, .data⟩, ⟨13, .guard⟩], some (13, true)⟩) (v := ?_) [19, 20, 21] rfl (by kernel_rfl) (fun _ _ _ h => h) (hF (by kernel_rfl)) (fun w hFw => ?_) (by rfl) ?_
       rotate_left
       · ((try dsimp only at hFw); first | (go_simp; done) | (go_simp; with_reducible rfl) | (go_split_ands; go_simp; done)))
    try simp only [Act.put, nrmA, nrmB, nrmC]
    first
    | refine sk0 (i := 19) (oi := ⟨some 43, .binOp .geq 3 (.tmp 42) (.const (.int .i64 4096)) 3, 4, "disk.go:74", #[⟨18, .data⟩, ⟨13, .guard⟩], some (13, true)⟩) rfl (by kernel_rfl) (fun _ _ _ h => h) (fun _ => hF (by kernel_rfl)) (by rfl) ?_
    | (refine tk0 (i := 19) (oi := ⟨some 43, .binOp .geq 3 (.tmp 42) (.const (.int .i64 4096)) 3, 4, "disk.go:74", #[⟨18, .data⟩, ⟨13, .guard⟩], some (13, true)⟩) (v := ?_) rfl (by kernel_rfl) (fun _ _ _ h => h) (fun _ => hF (by kernel_rfl)) (fun w => ?_) (by rfl) ?_
       rotate_left
       · first | (go_simp; done) | (go_simp; with_reducible rfl) | (go_split_ands; go_simp; done))
    try simp only [Act.put, nrmA, nrmB, nrmC]
    first
    | refine sk0 (i := 20) (oi := ⟨some 44, .pick (.tmp 37) (.tmp 43) (.const (.bool false)), 4, "disk.go:74", #[⟨13, .data⟩, ⟨19, .data⟩, ⟨10, .guard⟩], some (10, false)⟩) rfl (by kernel_rfl) (fun _ _ _ h => h) (fun _ => hF (by kernel_rfl)) (by rfl) ?_
    | (refine tk0 (i := 20) (oi := ⟨some 44, .pick (.tmp 37) (.tmp 43) (.const (.bool false)), 4, "disk.go:74", #[⟨13, .data⟩, ⟨19, .data⟩, ⟨10, .guard⟩], some (10, false)⟩) (v := ?_) rfl (by kernel_rfl) (fun _ _ _ h => h) (fun _ => hF (by kernel_rfl)) (fun w => ?_) (by rfl) ?_
       rotate_left
       · first | (go_simp; done) | (go_simp; with_reducible rfl) | (go_split_ands; go_simp; done))
    try simp only [Act.put, nrmA, nrmB, nrmC]
    refine wpAnyJ_ready (rs := [21]) (by kernel_rfl) (by simp) ?_
    refine AllJ.cons1 (o := ⟨some 45, .pick (.tmp 34) (.const (.bool true)) (.tmp 44), 4, "disk.go:74", #[⟨10, .data⟩, ⟨20, .data⟩], none⟩) rfl (fun Kr hKr => ?_)
    go_simp
    refine hKr.out _ _ (fun hJ => ?_) (fun hF => ?_)
    · first
      | exact absurd hJ (by decide)
      | (clear hJ; (try dsimp only); all_goals (first | exact kf | exact hkf.out _ (s4.own 0 rfl)))
    clear hKr
    try simp only [Act.put, nrmA, nrmB, nrmC]
    refine wpAnyJ_done (by kernel_rfl) ?_ _
    have s5 := hsplit.out _ s4
    rw [hxl] at s5
    go_upto_region 7 with fail
    clear kf hus hsp hmy hsplit s4 s2 hst
    · skip
      have hrr := hr.out
      rw [hxl] at hrr
      have ha : (∃ g, a = some ⟨g, 0, none⟩ ∧ n ≤ c ∧ c ≤ maxLen) ∨ (a = none ∧ n = 0 ∧ c = 0) := by
        obtain ⟨_, ⟨h1, h2, h3, _⟩ | ⟨g, cur, h1, _, h2, h3, _⟩⟩ := hrr
        · exact .inr ⟨h1, h2, h3⟩
        · exact .inl ⟨g, h1, h2, h3⟩
      have i0 : (0 : Int) ≤ (i : Int) := by omega
      have i1 : (i : Int) ≤ (n : Int) := by omega
      rcases ha with ⟨g, rfl, k0, k1⟩ | ⟨rfl, n0, k0⟩
      · have hrd1 := Lib.hid (fun W (hW : Own W R) c' => slk_rd re_len re_one hrr hxl.symm hW 0 i c' (by omega))
        have hrd2 : Hid (∀ W, Own W R → RdCells W (.slice (if c = i then some ⟨g, 0, none⟩ else some ⟨g, i * 3, none⟩) (n - i) (c - i)) (n - i) 3 (((X.drop i).take (n - i)).flatMap Re.cells)) := fun W hW => by
          have q := slk_rd re_len re_one hrr hxl.symm hW i (n - i) (c - i) (by omega)
          split
          · have e0 : n - i = 0 := by omega
            rw [e0] at q ⊢
            exact ⟨by simp, by simp, .inr ⟨_, _, rfl, by simp⟩⟩
          · exact q
        have i2 : (n : Int) ≤ (c : Int) := by omega
        have i3 : (i : Int) ≤ (c : Int) := by omega
        have hrds : Hid (((X.drop 0).take i).flatMap Re.cells = (X.take i).flatMap Re.cells ∧ ((X.drop i).take (n - i)).flatMap Re.cells = (X.drop i).flatMap Re.cells) := by
          refine ⟨by rw [List.drop_zero], ?_⟩
          rw [List.take_of_length_le (by rw [List.length_drop]; omega)]
        clear hrr
        have s6 := s5.alloc (.cells #[] 107 (0, 0))
        have ⟨c0, c1, c2⟩ := cells3 (s5.one 0 rfl)
        have b0 := heap_lt (s5.one 0 rfl)
        go_upto_region 9 with (at_builtin; refine wpList_app rfl st_file _ _ rfl (by rfl) (by rfl) (SlRep.made _ _ w4.heap.size) (s6.own 3 rfl) (hrd1.out _ (s6.own 1 rfl) _) (by unfold maxLen; omega) (by omega) ?_; intro a6 c6 w6 H6 hv6 hst6; rw [Nat.zero_add, List.nil_append] at hv6)
        have s7 := (s6.put 3 rfl hst6).alloc (.cells #[strV nm, .slice none 0 0, .int .i64 0] 107)
        simp only [List.cons_append, List.nil_append, List.set_cons_succ, List.set_cons_zero] at s7
        go_upto_region 10 with (at_builtin; go_loud (refine wpList_app rfl st_file _ _ rfl (by rfl) (by rfl) hv6 (s7.own 3 rfl) (rdCells_block (heap_alloc_new _ _) rfl (by simp [Value.oneCell'])) (by unfold maxLen; omega) (by omega) ?_); intro a8 c8 w8 H8 hv8 hst8)
        have s8 := s7.put 3 rfl hst8
        simp only [List.set_cons_succ, List.set_cons_zero] at s8
        have ⟨c0, c1, c2⟩ := cells3 (s8.one 0 rfl)
        have b0 := heap_lt (s8.one 0 rfl)
        go_upto_region 11 with (at_builtin; refine wpList_app rfl st_file _ _ rfl (by rfl) (by rfl) hv8 (s8.own 3 rfl) (hrd2.out _ (s8.own 1 rfl)) (by unfold maxLen; omega) (by omega) ?_; intro a9 c9 w9 H9 hv9 hst9; have s9 := s8.put 3 rfl hst9; simp only [List.set_cons_succ, List.set_cons_zero] at s9; have ⟨c0, c1, c2⟩ := cells3 (s9.one 0 rfl); have b0 := heap_lt (s9.one 0 rfl); have fz := fun i => frz_of (i := i) (s9.one 0 rfl))
        all_goals
          have s10 := s9.store 0 (j := 1) rfl (.slice a9 (i + 1 + (n - i)) c9)
          simp only [List.set_cons_zero] at s10
          have hmid := hmid2.out ht2.out.symm (by rw [← hn.out]; omega) a9 c9 (i + 1 + (n - i)) R H9 _ _ (by omega) (by have q := hv9; rw [hrds.out.1, hrds.out.2] at q; exact q) s10
          obtain ⟨X2, x2, a', c', R2, hx2, hok2, hl2, hget2, hnm2, hput2, hr2, s5⟩ := hmid
          refine Sp.gen s5 ?_
          clear s5 s10 s9 s8 s7 s6 hr c0 c1 c2 b0 fz hmid2 hst9 hst8 hst6 hv9 hv8 hv6
          intro W5 s5
          have ⟨c0, c1, c2⟩ := cells3 (s5.one 0 rfl)
          have b0 := heap_lt (s5.one 0 rfl)
          obtain ⟨g, rfl, k0, k1, r0, r1, r2, fz⟩ := re_at hr2 (s5.own 1 rfl) hx2
          have glt := World.block_lt_of_cell? W5 _ r0
          have hlt := (List.getElem?_eq_some_iff.1 hx2).1
          have hgl2 : x2.d.length + p.length ≤ 1073741824 := by
            have e : x2.d = (getF k.L nm).1 := congrArg Prod.fst hget2
            rw [e]; exact hgl
          have hrb := Lib.hid (fun W (hW : Own W (X2.flatMap Re.H)) => re_bytes hx2 (hok2 x2 (List.mem_of_getElem? hx2)) hW)
          obtain ⟨n2, hn2⟩ : ∃ n2, n2 = X2.length := ⟨_, rfl⟩
          rw [← hn2] at c1 k0 hl2 hlt s5
          have hrr : Hid (∀ W, Own W R2 → W.cell? ⟨g, i * 3 + 1, none⟩ = some (.slice x2.a x2.d.length x2.c) ∧ ∀ j, W.frozen? ⟨g, j, none⟩ = false) := fun W hW => by
            obtain ⟨g', e, _, _, _, r1, _, fz⟩ := re_at hr2 hW hx2
            cases e
            exact ⟨r1, fz⟩
          have i0 : (0 : Int) ≤ (i : Int) := by omega
          have i1 : (i : Int) < (n2 : Int) := by omega
          have i2 : (n2 : Int) ≤ (c' : Int) := by omega
          have hend : Hid (∀ a8 c8 H8 R9 W, SlRep 5 1 a8 (0 + x2.d.length + p.length) c8 ([] ++ x2.d.map u8 ++ p.map u8) H8 → SlRep 107 3 (some ⟨g, 0, none⟩) n2 c' ((X2.set i ⟨x2.nm, a8, c8, x2.d ++ p, x2.n, H8⟩).flatMap Re.cells) R9 →
              Sp w H W [[(b, robj k.room (some ⟨g, 0, none⟩) n2 c' (leftI k.left))], R9, X2.flatMap Re.H, H8] → ∃ H9, RkRep b { k with L := putF k.L nm ((getF k.L nm).1 ++ p, (getF k.L nm).2) } H9 ∧ Step w H W H9) := fun a8 c8 H8 R9 W hv hr s => by
            refine hfin0.out i (some ⟨g, 0, none⟩) c' X2 R9 H x2 ⟨x2.nm, a8, c8, x2.d ++ p, x2.n, H8⟩ _ w W hx2 hok2 ?_ (hput2 _ _ ?_) (by rw [← hn2]; exact hr) (by rw [← hn2]; exact s)
            · unfold Re.ok
              rw [List.length_append, List.map_append]
              simpa using hv
            · rw [← hget2]; simp only [Re.key, hnm2]
          have hyc : Hid (∀ a8 c8 H8, (⟨x2.nm, a8, c8, x2.d ++ p, x2.n, H8⟩ : Re).cells = x2.cells.set 1 (.slice a8 (x2.d.length + p.length) c8)) := fun a8 c8 H8 => by
            simp only [Re.cells, List.length_append, List.set_cons_succ, List.set_cons_zero]
          replace hr2 := Lib.hid hr2
          replace hx2 := Lib.hid hx2
          replace hn2 := Lib.hid hn2
          clear hok2 hput2 hget2 hnm2 hfin0
          refine wp_region_J 19 (fun w' => w'.cell? ⟨b, 1, none⟩ = some (.slice (some ⟨g, 0, none⟩) n2 c') ∧ w'.cell? ⟨g, i * 3 + 1, none⟩ = some (.slice x2.a x2.d.length x2.c)) (by kernel_rfl) ?_ (fun hF => ?_)
          · (try dsimp only)
            all_goals (first | exact ⟨c1, r1⟩ | (simp [*, World.cell?_alloc_some]; done))
          refine tk0 (i := 0) (oi := ⟨some 72, .move (.tmp 0), 29, "disk.go:82", #[], none⟩) (v := ?_) rfl (by kernel_rfl) (fun _ _ _ h => h) (fun _ => hF) (fun w => ?_) (by rfl) ?_
          rotate_left
          · first | (go_simp; done) | (go_simp; with_reducible rfl) | (go_split_ands; go_simp; done)
          try simp only [Act.put, nrmA, nrmB, nrmC]
          refine tk0 (i := 1) (oi := ⟨some 73, .nilCheck (.tmp 72), 0, "disk.go:82", #[⟨0, .data⟩], none⟩) (v := ?_) rfl (by kernel_rfl) (fun _ _ _ h => h) (fun _ => hF) (fun w => ?_) (by rfl) ?_
          rotate_left
          · first | (go_simp; done) | (go_simp; with_reducible rfl) | (go_split_ands; go_simp; done)
          try simp only [Act.put, nrmA, nrmB, nrmC]
          refine tk0 (i := 2) (oi := ⟨some 74, .fieldAddr 83 (.tmp 73) 1, 0, "disk.go:82", #[⟨1, .data⟩], none⟩) (v := ?_) rfl (by kernel_rfl) (fun _ _ _ h => h) (fun _ => hF) (fun w => ?_) (by rfl) ?_
          rotate_left
          · first | (go_simp; done) | (go_simp; with_reducible rfl) | (go_split_ands; go_simp; done)
          try simp only [Act.put, nrmA, nrmB, nrmC]
          refine tk1 (i := 3) (oi := ⟨some 75, .load 81 (.tmp 74), 81, "disk.go:82", #[⟨2, .data⟩], none⟩) (v := ?_) [19] rfl (by kernel_rfl) (fun _ _ _ h => h) hF (fun w hFw => ?_) (by rfl) ?_
          rotate_left
          · ((try dsimp only at hFw); first | (go_simp; done) | (go_simp; with_reducible rfl) | (go_split_ands; go_simp; done))
          try simp only [Act.put, nrmA, nrmB, nrmC]
          refine tk0 (i := 4) (oi := ⟨some 76, .move (.tmp 8), 3, "disk.go:82", #[], none⟩) (v := ?_) rfl (by kernel_rfl) (fun _ _ _ h => h) (fun _ => hF) (fun w => ?_) (by rfl) ?_
          rotate_left
          · first | (go_simp; done) | (go_simp; with_reducible rfl) | (go_split_ands; go_simp; done)
          try simp only [Act.put, nrmA, nrmB, nrmC]
          refine tk0 (i := 6) (oi := ⟨some 78, .move (.tmp 0), 29, "disk.go:82", #[], none⟩) (v := ?_) rfl (by kernel_rfl) (fun _ _ _ h => h) (fun _ => hF) (fun w => ?_) (by rfl) ?_
          rotate_left
          · first | (go_simp; done) | (go_simp; with_reducible rfl) | (go_split_ands; go_simp; done)
          try simp only [Act.put, nrmA, nrmB, nrmC]
          refine tk0 (i := 7) (oi := ⟨some 79, .nilCheck (.tmp 78), 0, "disk.go:82", #[⟨6, .data⟩], none⟩) (v := ?_) rfl (by kernel_rfl) (fun _ _ _ h => h) (fun _ => hF) (fun w => ?_) (by rfl) ?_
          rotate_left
          · first | (go_simp; done) | (go_simp; with_reducible rfl) | (go_split_ands; go_simp; done)
          try simp only [Act.put, nrmA, nrmB, nrmC]
          refine tk0 (i := 8) (oi := ⟨some 80, .fieldAddr 83 (.tmp 79) 1, 0, "disk.go:82", #[⟨7, .data⟩], none⟩) (v := ?_) rfl (by kernel_rfl) (fun _ _ _ h => h) (fun _ => hF) (fun w => ?_) (by rfl) ?_
          rotate_left
          · first | (go_simp; done) | (go_simp; with_reducible rfl) | (go_split_ands; go_simp; done)
          try simp only [Act.put, nrmA, nrmB, nrmC]
          refine tk1 (i := 9) (oi := ⟨some 81, .load 81 (.tmp 80), 81, "disk.go:82", #[⟨8, .data⟩], none⟩) (v := ?_) [19] rfl (by kernel_rfl) (fun _ _ _ h => h) hF (fun w hFw => ?_) (by rfl) ?_
          rotate_left
          · ((try dsimp only at hFw); first | (go_simp; done) | (go_simp; with_reducible rfl) | (go_split_ands; go_simp; done))
          try simp only [Act.put, nrmA, nrmB, nrmC]
          refine tk0 (i := 10) (oi := ⟨some 82, .move (.tmp 8), 3, "disk.go:82", #[], none⟩) (v := ?_) rfl (by kernel_rfl) (fun _ _ _ h => h) (fun _ => hF) (fun w => ?_) (by rfl) ?_
          rotate_left
          · first | (go_simp; done) | (go_simp; with_reducible rfl) | (go_split_ands; go_simp; done)
          try simp only [Act.put, nrmA, nrmB, nrmC]
          refine tk0 (i := 11) (oi := ⟨some 83, .indexAddr 81 (.tmp 81) (.tmp 82), 0, "disk.go:82", #[⟨9, .data⟩, ⟨10, .data⟩], none⟩) (v := ?_) rfl (by kernel_rfl) (fun _ _ _ h => h) (fun _ => hF) (fun w => ?_) (by rfl) ?_
          rotate_left
          · first | (go_simp; done) | (go_simp; with_reducible rfl) | (go_split_ands; go_simp; done)
          try simp only [Act.put, nrmA, nrmB, nrmC]
          refine tk0 (i := 12) (oi := ⟨some 84, .fieldAddr 107 (.tmp 83) 1, 0, "disk.go:82", #[⟨11, .data⟩], none⟩) (v := ?_) rfl (by kernel_rfl) (fun _ _ _ h => h) (fun _ => hF) (fun w => ?_) (by rfl) ?_
          rotate_left
          · first | (go_simp; done) | (go_simp; with_reducible rfl) | (go_split_ands; go_simp; done)
          try simp only [Act.put, nrmA, nrmB, nrmC]
          refine tk1 (i := 13) (oi := ⟨some 85, .load 23 (.tmp 84), 23, "disk.go:82", #[⟨12, .data⟩], none⟩) (v := ?_) [19] rfl (by kernel_rfl) (fun _ _ _ h => h) hF (fun w hFw => ?_) (by rfl) ?_
          rotate_left
          · ((try dsimp only at hFw); first | (go_simp; done) | (go_simp; with_reducible rfl) | (go_split_ands; go_simp; done))
          try simp only [Act.put, nrmA, nrmB, nrmC]
          refine tk0 (i := 15) (oi := ⟨some 87, .move (.tmp 2), 23, "disk.go:82", #[], none⟩) (v := ?_) rfl (by kernel_rfl) (fun _ _ _ h => h) (fun _ => hF) (fun w => ?_) (by rfl) ?_
          rotate_left
          · first | (go_simp; done) | (go_simp; with_reducible rfl) | (go_split_ands; go_simp; done)
          try simp only [Act.put, nrmA, nrmB, nrmC]
          refine wpAnyJ_ready (rs := [5]) (by kernel_rfl) (by simp) ?_
          refine AllJ.cons1 (o := ⟨some 77, .buildSlice 23 0 #[], 23, "disk.go:82", #[], none⟩) rfl (fun Kr hKr => ?_)
          go_simp
          refine hKr.out _ _ (fun hJ => ?_) (fun hF => ?_)
          · first
            | exact absurd hJ (by decide)
            | (clear hJ; (try dsimp only); all_goals (first | exact ⟨c1, r1⟩ | (simp [*, World.cell?_alloc_some]; done)))
          clear hKr
          try simp only [Act.put, nrmA, nrmB, nrmC]
          refine wpAnyJ_ready (rs := [14]) (by kernel_rfl) (by simp) ?_
          refine AllJ.cons1 (o := ⟨some 86, .call { callee := .builtin .append, args := #[.tmp 77, .tmp 85], argTypes := #[23, 23] }, 23, "disk.go:82", #[⟨5, .data⟩, ⟨13, .data⟩], none⟩) rfl (fun Kr hKr => ?_)
          have s6 := s5.drew.alloc (.cells #[] 5 (0, 0))
          refine step_app rfl st_u8 _ _ (by rfl) (by rfl) (by rfl) (SlRep.made _ _ _) (s6.own 3 rfl) (rdBytes_cells (hrb.out _ (s6.own 2 rfl))) (by unfold maxLen; omega) (by omega) ?_
          intro a7 c7 w7 H7 hv7 hst7
          have s7 := s6.put 3 rfl hst7
          simp only [List.cons_append, List.nil_append, List.set_cons_succ, List.set_cons_zero] at s7
          have ⟨_, c1, _⟩ := cells3 (s7.one 0 rfl)
          obtain ⟨r1, fz⟩ := hrr.out _ (s7.own 1 rfl)
          refine hKr.out _ _ (fun hJ => ?_) (fun hF => ?_)
          · first
            | exact absurd hJ (by decide)
            | (clear hJ; (try dsimp only); all_goals (first | exact ⟨c1, r1⟩ | (simp [*, World.cell?_alloc_some]; done)))
          clear hKr
          try simp only [Act.put, nrmA, nrmB, nrmC]
          refine wpAnyJ_ready (rs := [16]) (by kernel_rfl) (by simp) ?_
          refine AllJ.cons1 (o := ⟨some 88, .call { callee := .builtin .append, args := #[.tmp 86, .tmp 87], argTypes := #[23, 23] }, 23, "disk.go:82", #[⟨14, .data⟩, ⟨15, .data⟩, ⟨14, .chain⟩], none⟩) rfl (fun Kr hKr => ?_)
          refine step_app rfl st_u8 _ _ (by rfl) (by rfl) (by rfl) hv7 (s7.own 3 rfl) (rdBytes_cells (hb0.out _ _ s7)) (by unfold maxLen; omega) (by omega) ?_
          intro a8 c8 w8 H8 hv8 hst8
          have s8 := s7.put 3 rfl hst8
          simp only [List.set_cons_succ, List.set_cons_zero] at s8
          have ⟨_, c1, _⟩ := cells3 (s8.one 0 rfl)
          obtain ⟨r1, fz⟩ := hrr.out _ (s8.own 1 rfl)
          have glt := World.block_lt_of_cell? w8 _ r1
          refine hKr.out _ _ (fun hJ => ?_) (fun hF => ?_)
          · first
            | exact absurd hJ (by decide)
            | (clear hJ; (try dsimp only); all_goals (first | exact ⟨c1, r1⟩ | (simp [*, World.cell?_alloc_some]; done)))
          clear hKr
          try simp only [Act.put, nrmA, nrmB, nrmC]
          refine tk0 (i := 17) (oi := ⟨some 89, .indexAddr 81 (.tmp 75) (.tmp 76), 0, "disk.go:82", #[⟨3, .data⟩, ⟨4, .data⟩, ⟨0, .phase⟩, ⟨1, .phase⟩, ⟨2, .phase⟩, ⟨3, .phase⟩, ⟨4, .phase⟩, ⟨5, .phase⟩, ⟨6, .phase⟩, ⟨7, .phase⟩, ⟨8, .phase⟩, ⟨9, .phase⟩, ⟨10, .phase⟩, ⟨11, .phase⟩, ⟨12, .phase⟩, ⟨13, .phase⟩, ⟨14, .phase⟩, ⟨15, .phase⟩, ⟨16, .phase⟩], none⟩) (v := ?_) rfl (by kernel_rfl) (fun _ _ _ h => h) (fun _ => hF (by kernel_rfl)) (fun w => ?_) (by rfl) ?_
          rotate_left
          · first | (go_simp; done) | (go_simp; with_reducible rfl) | (go_split_ands; go_simp; done)
          try simp only [Act.put, nrmA, nrmB, nrmC]
          refine tk0 (i := 18) (oi := ⟨some 90, .fieldAddr 107 (.tmp 89) 1, 0, "disk.go:82", #[⟨17, .data⟩, ⟨0, .phase⟩, ⟨1, .phase⟩, ⟨2, .phase⟩, ⟨3, .phase⟩, ⟨4, .phase⟩, ⟨5, .phase⟩, ⟨6, .phase⟩, ⟨7, .phase⟩, ⟨8, .phase⟩, ⟨9, .phase⟩, ⟨10, .phase⟩, ⟨11, .phase⟩, ⟨12, .phase⟩, ⟨13, .phase⟩, ⟨14, .phase⟩, ⟨15, .phase⟩, ⟨16, .phase⟩], none⟩) (v := ?_) rfl (by kernel_rfl) (fun _ _ _ h => h) (fun _ => hF (by kernel_rfl)) (fun w => ?_) (by rfl) ?_
          rotate_left
          · first | (go_simp; done) | (go_simp; with_reducible rfl) | (go_split_ands; go_simp; done)
          try simp only [Act.put, nrmA, nrmB, nrmC]
          refine wpAnyJ_ready (rs := [19]) (by kernel_rfl) (by simp) ?_
          refine AllJ.cons1 (o := ⟨none, .store 23 (.tmp 90) (.tmp 88), 0, "disk.go:82", #[⟨18, .data⟩, ⟨16, .data⟩, ⟨16, .chain⟩, ⟨0, .phase⟩, ⟨1, .phase⟩, ⟨2, .phase⟩, ⟨3, .phase⟩, ⟨4, .phase⟩, ⟨5, .phase⟩, ⟨6, .phase⟩, ⟨7, .phase⟩, ⟨8, .phase⟩, ⟨9, .phase⟩, ⟨10, .phase⟩, ⟨11, .phase⟩, ⟨12, .phase⟩, ⟨13, .phase⟩, ⟨14, .phase⟩, ⟨15, .phase⟩, ⟨16, .phase⟩], none⟩) rfl (fun Kr hKr => ?_)
          go_simp
          refine hKr.out _ _ (fun hJ => ?_) (fun hF => ?_)
          · first
            | exact absurd hJ (by decide)
            | (clear hJ; (try dsimp only); all_goals (first | exact ⟨c1, r1⟩ | (simp [*, World.cell?_alloc_some]; done)))
          clear hKr
          try simp only [Act.put, nrmA, nrmB, nrmC]
          refine wpAnyJ_done (by kernel_rfl) ?_ _
          go_upto_region 12 with fail
          obtain ⟨R9, hr9, s9⟩ := s8.putK re_len 1 rfl (by rw [hn2.out]; exact hr2.out : SlRep 107 3 (some ⟨g, 0, none⟩) n2 c' (X2.flatMap Re.cells) R2) hx2.out (j := 1) (by decide) (hyc.out a8 c8 H8)
          simp only [List.set_cons_succ, List.set_cons_zero] at s9
          obtain ⟨H9, hrep9, s9⟩ := hend.out a8 c8 H8 R9 _ hv8 hr9 s9
          go_wp2_with fail
          all_goals
            refine (hdid.out _ _ _ hrep9 s9.own).mono ?_
            rintro e w10 ⟨rfl, H10, hr10, hst⟩
            go_wp2_with fail
            go_ret
            exact ⟨rfl, H10, hr10, s9.trans hst⟩
      · have e0 : i = 0 := by omega
        have hX0 : Hid (X = []) := List.eq_nil_of_length_eq_zero (by omega)
        subst n0 k0 e0
        clear hrr
        have s6 := s5.alloc (.cells #[] 107 (0, 0))
        have ⟨c0, c1, c2⟩ := cells3 (s5.one 0 rfl)
        have b0 := heap_lt (s5.one 0 rfl)
        go_upto_region 9 with (at_builtin; refine wpList_app rfl st_file _ _ rfl (by rfl) (by rfl) (SlRep.made _ _ w4.heap.size) (s6.own 3 rfl) (rd_nil _ _) (by unfold maxLen; omega) (by omega) ?_; intro a6 c6 w6 H6 hv6 hst6; rw [Nat.zero_add, List.nil_append] at hv6)
        have s7 := (s6.put 3 rfl hst6).alloc (.cells #[strV nm, .slice none 0 0, .int .i64 0] 107)
        simp only [List.cons_append, List.nil_append, List.set_cons_succ, List.set_cons_zero] at s7
        go_upto_region 10 with (at_builtin; go_loud (refine wpList_app rfl st_file _ _ rfl (by rfl) (by rfl) hv6 (s7.own 3 rfl) (rdCells_block (heap_alloc_new _ _) rfl (by simp [Value.oneCell'])) (by unfold maxLen; omega) (by omega) ?_); intro a8 c8 w8 H8 hv8 hst8)
        have s8 := s7.put 3 rfl hst8
        simp only [List.set_cons_succ, List.set_cons_zero] at s8
        have ⟨c0, c1, c2⟩ := cells3 (s8.one 0 rfl)
        have b0 := heap_lt (s8.one 0 rfl)
        go_upto_region 11 with (at_builtin; refine wpList_app rfl st_file _ _ rfl (by rfl) (by rfl) hv8 (s8.own 3 rfl) (rd_nil _ _) (by unfold maxLen; omega) (by omega) ?_; intro a9 c9 w9 H9 hv9 hst9; have s9 := s8.put 3 rfl hst9; simp only [List.set_cons_succ, List.set_cons_zero] at s9; have ⟨c0, c1, c2⟩ := cells3 (s9.one 0 rfl); have b0 := heap_lt (s9.one 0 rfl); have fz := fun i => frz_of (i := i) (s9.one 0 rfl))
        all_goals
          have s10 := s9.store 0 (j := 1) rfl (.slice a9 1 c9)
          simp only [List.set_cons_zero] at s10
          have hmid := hmid2.out ht2.out.symm (by rw [← hn.out]; omega) a9 c9 1 R H9 _ _ (by omega) (by rw [hX0.out]; exact hv9) s10
          obtain ⟨X2, x2, a', c', R2, hx2, hok2, hl2, hget2, hnm2, hput2, hr2, s5⟩ := hmid
          refine Sp.gen s5 ?_
          clear s5 s10 s9 s8 s7 s6 hr c0 c1 c2 b0 fz hmid2 hst9 hst8 hst6 hv9 hv8 hv6
          intro W5 s5
          have ⟨c0, c1, c2⟩ := cells3 (s5.one 0 rfl)
          have b0 := heap_lt (s5.one 0 rfl)
          obtain ⟨g, rfl, k0, k1, r0, r1, r2, fz⟩ := re_at hr2 (s5.own 1 rfl) hx2
          simp only [Nat.zero_mul, Nat.zero_add] at r0 r1 r2
          have glt := World.block_lt_of_cell? W5 _ r0
          have hlt := (List.getElem?_eq_some_iff.1 hx2).1
          have hgl2 : x2.d.length + p.length ≤ 1073741824 := by
            have e : x2.d = (getF k.L nm).1 := congrArg Prod.fst hget2
            rw [e]; exact hgl
          have hrb := Lib.hid (fun W (hW : Own W (X2.flatMap Re.H)) => re_bytes hx2 (hok2 x2 (List.mem_of_getElem? hx2)) hW)
          obtain ⟨n2, hn2⟩ : ∃ n2, n2 = X2.length := ⟨_, rfl⟩
          rw [← hn2] at c1 k0 hl2 hlt s5
          have hrr : Hid (∀ W, Own W R2 → W.cell? ⟨g, 1, none⟩ = some (.slice x2.a x2.d.length x2.c) ∧ ∀ j, W.frozen? ⟨g, j, none⟩ = false) := fun W hW => by
            obtain ⟨g', e, _, _, _, r1, _, fz⟩ := re_at hr2 hW hx2
            cases e
            exact ⟨r1, fz⟩
          have i0 : (0 : Int) ≤ ((0 : Nat) : Int) := by omega
          have i1 : ((0 : Nat) : Int) < (n2 : Int) := by omega
          have i2 : (n2 : Int) ≤ (c' : Int) := by omega
          have hend : Hid (∀ a8 c8 H8 R9 W, SlRep 5 1 a8 (0 + x2.d.length + p.length) c8 ([] ++ x2.d.map u8 ++ p.map u8) H8 → SlRep 107 3 (some ⟨g, 0, none⟩) n2 c' ((X2.set 0 ⟨x2.nm, a8, c8, x2.d ++ p, x2.n, H8⟩).flatMap Re.cells) R9 →
              Sp w H W [[(b, robj k.room (some ⟨g, 0, none⟩) n2 c' (leftI k.left))], R9, X2.flatMap Re.H, H8] → ∃ H9, RkRep b { k with L := putF k.L nm ((getF k.L nm).1 ++ p, (getF k.L nm).2) } H9 ∧ Step w H W H9) := fun a8 c8 H8 R9 W hv hr s => by
            refine hfin0.out 0 (some ⟨g, 0, none⟩) c' X2 R9 H x2 ⟨x2.nm, a8, c8, x2.d ++ p, x2.n, H8⟩ _ w W hx2 hok2 ?_ (hput2 _ _ ?_) (by rw [← hn2]; exact hr) (by rw [← hn2]; exact s)
            · unfold Re.ok
              rw [List.length_append, List.map_append]
              simpa using hv
            · rw [← hget2]; simp only [Re.key, hnm2]
          have hyc : Hid (∀ a8 c8 H8, (⟨x2.nm, a8, c8, x2.d ++ p, x2.n, H8⟩ : Re).cells = x2.cells.set 1 (.slice a8 (x2.d.length + p.length) c8)) := fun a8 c8 H8 => by
            simp only [Re.cells, List.length_append, List.set_cons_succ, List.set_cons_zero]
          replace hr2 := Lib.hid hr2
          replace hx2 := Lib.hid hx2
          replace hn2 := Lib.hid hn2
          clear hok2 hput2 hget2 hnm2 hfin0
          refine wp_region_J 19 (fun w' => w'.cell? ⟨b, 1, none⟩ = some (.slice (some ⟨g, 0, none⟩) n2 c') ∧ w'.cell? ⟨g, 1, none⟩ = some (.slice x2.a x2.d.length x2.c)) (by kernel_rfl) ?_ (fun hF => ?_)
          · (try dsimp only)
            all_goals (first | exact ⟨c1, r1⟩ | (simp [*, World.cell?_alloc_some]; done))
          refine tk0 (i := 0) (oi := ⟨some 72, .move (.tmp 0), 29, "disk.go:82", #[], none⟩) (v := ?_) rfl (by kernel_rfl) (fun _ _ _ h => h) (fun _ => hF) (fun w => ?_) (by rfl) ?_
          rotate_left
          · first | (go_simp; done) | (go_simp; with_reducible rfl) | (go_split_ands; go_simp; done)
          try simp only [Act.put, nrmA, nrmB, nrmC]
          refine tk0 (i := 1) (oi := ⟨some 73, .nilCheck (.tmp 72), 0, "disk.go:82", #[⟨0, .data⟩], none⟩) (v := ?_) rfl (by kernel_rfl) (fun _ _ _ h => h) (fun _ => hF) (fun w => ?_) (by rfl) ?_
          rotate_left
          · first | (go_simp; done) | (go_simp; with_reducible rfl) | (go_split_ands; go_simp; done)
          try simp only [Act.put, nrmA, nrmB, nrmC]
          refine tk0 (i := 2) (oi := ⟨some 74, .fieldAddr 83 (.tmp 73) 1, 0, "disk.go:82", #[⟨1, .data⟩], none⟩) (v := ?_) rfl (by kernel_rfl) (fun _ _ _ h => h) (fun _ => hF) (fun w => ?_) (by rfl) ?_
          rotate_left
          · first | (go_simp; done) | (go_simp; with_reducible rfl) | (go_split_ands; go_simp; done)
          try simp only [Act.put, nrmA, nrmB, nrmC]
          refine tk1 (i := 3) (oi := ⟨some 75, .load 81 (.tmp 74), 81, "disk.go:82", #[⟨2, .data⟩], none⟩) (v := ?_) [19] rfl (by kernel_rfl) (fun _ _ _ h => h) hF (fun w hFw => ?_) (by rfl) ?_
          rotate_left
          · ((try dsimp only at hFw); first | (go_simp; done) | (go_simp; with_reducible rfl) | (go_split_ands; go_simp; done))
          try simp only [Act.put, nrmA, nrmB, nrmC]
          refine tk0 (i := 4) (oi := ⟨some 76, .move (.tmp 8), 3, "disk.go:82", #[], none⟩) (v := ?_) rfl (by kernel_rfl) (fun _ _ _ h => h) (fun _ => hF) (fun w => ?_) (by rfl) ?_
          rotate_left
          · first | (go_simp; done) | (go_simp; with_reducible rfl) | (go_split_ands; go_simp; done)
          try simp only [Act.put, nrmA, nrmB, nrmC]
          refine tk0 (i := 6) (oi := ⟨some 78, .move (.tmp 0), 29, "disk.go:82", #[], none⟩) (v := ?_) rfl (by kernel_rfl) (fun _ _ _ h => h) (fun _ => hF) (fun w => ?_) (by rfl) ?_
          rotate_left
          · first | (go_simp; done) | (go_simp; with_reducible rfl) | (go_split_ands; go_simp; done)
          try simp only [Act.put, nrmA, nrmB, nrmC]
          refine tk0 (i := 7) (oi := ⟨some 79, .nilCheck (.tmp 78), 0, "disk.go:82", #[⟨6, .data⟩], none⟩) (v := ?_) rfl (by kernel_rfl) (fun _ _ _ h => h) (fun _ => hF) (fun w => ?_) (by rfl) ?_
          rotate_left
          · first | (go_simp; done) | (go_simp; with_reducible rfl) | (go_split_ands; go_simp; done)
          try simp only [Act.put, nrmA, nrmB, nrmC]
          refine tk0 (i := 8) (oi := ⟨some 80, .fieldAddr 83 (.tmp 79) 1, 0, "disk.go:82", #[⟨7, .data⟩], none⟩) (v := ?_) rfl (by kernel_rfl) (fun _ _ _ h => h) (fun _ => hF) (fun w => ?_) (by rfl) ?_
          rotate_left
          · first | (go_simp; done) | (go_simp; with_reducible rfl) | (go_split_ands; go_simp; done)
          try simp only [Act.put, nrmA, nrmB, nrmC]
          refine tk1 (i := 9) (oi := ⟨some 81, .load 81 (.tmp 80), 81, "disk.go:82", #[⟨8, .data⟩], none⟩) (v := ?_) [19] rfl (by kernel_rfl) (fun _ _ _ h => h) hF (fun w hFw => ?_) (by rfl) ?_
          rotate_left
          · ((try dsimp only at hFw); first | (go_simp; done) | (go_simp; with_reducible rfl) | (go_split_ands; go_simp; done))
          try simp only [Act.put, nrmA, nrmB, nrmC]
          refine tk0 (i := 10) (oi := ⟨some 82, .move (.tmp 8), 3, "disk.go:82", #[], none⟩) (v := ?_) rfl (by kernel_rfl) (fun _ _ _ h => h) (fun _ => hF) (fun w => ?_) (by rfl) ?_
          rotate_left
          · first | (go_simp; done) | (go_simp; with_reducible rfl) | (go_split_ands; go_simp; done)
          try simp only [Act.put, nrmA, nrmB, nrmC]
          refine tk0 (i := 11) (oi := ⟨some 83, .indexAddr 81 (.tmp 81) (.tmp 82), 0, "disk.go:82", #[⟨9, .data⟩, ⟨10, .data⟩], none⟩) (v := ?_) rfl (by kernel_rfl) (fun _ _ _ h => h) (fun _ => hF) (fun w => ?_) (by rfl) ?_
          rotate_left
          · first | (go_simp; done) | (go_simp; with_reducible rfl) | (go_split_ands; go_simp; done)
          try simp only [Act.put, nrmA, nrmB, nrmC]
          refine tk0 (i := 12) (oi := ⟨some 84, .fieldAddr 107 (.tmp 83) 1, 0, "disk.go:82", #[⟨11, .data⟩], none⟩) (v := ?_) rfl (by kernel_rfl) (fun _ _ _ h => h) (fun _ => hF) (fun w => ?_) (by rfl) ?_
          rotate_left
          · first | (go_simp; done) | (go_simp; with_reducible rfl) | (go_split_ands; go_simp; done)
          try simp only [Act.put, nrmA, nrmB, nrmC]
          refine tk1 (i := 13) (oi := ⟨some 85, .load 23 (.tmp 84), 23, "disk.go:82", #[⟨12, .data⟩], none⟩) (v := ?_) [19] rfl (by kernel_rfl) (fun _ _ _ h => h) hF (fun w hFw => ?_) (by rfl) ?_
          rotate_left
          · ((try dsimp only at hFw); first | (go_simp; done) | (go_simp; with_reducible rfl) | (go_split_ands; go_simp; done))
          try simp only [Act.put, nrmA, nrmB, nrmC]
          refine tk0 (i := 15) (oi := ⟨some 87, .move (.tmp 2), 23, "disk.go:82", #[], none⟩) (v := ?_) rfl (by kernel_rfl) (fun _ _ _ h => h) (fun _ => hF) (fun w => ?_) (by rfl) ?_
          rotate_left
          · first | (go_simp; done) | (go_simp; with_reducible rfl) | (go_split_ands; go_simp; done)
          try simp only [Act.put, nrmA, nrmB, nrmC]
          refine wpAnyJ_ready (rs := [5]) (by kernel_rfl) (by simp) ?_
          refine AllJ.cons1 (o := ⟨some 77, .buildSlice 23 0 #[], 23, "disk.go:82", #[], none⟩) rfl (fun Kr hKr => ?_)
          go_simp
          refine hKr.out _ _ (fun hJ => ?_) (fun hF => ?_)
          · first
            | exact absurd hJ (by decide)
            | (clear hJ; (try dsimp only); all_goals (first | exact ⟨c1, r1⟩ | (simp [*, World.cell?_alloc_some]; done)))
          clear hKr
          try simp only [Act.put, nrmA, nrmB, nrmC]
          refine wpAnyJ_ready (rs := [14]) (by kernel_rfl) (by simp) ?_
          refine AllJ.cons1 (o := ⟨some 86, .call { callee := .builtin .append, args := #[.tmp 77, .tmp 85], argTypes := #[23, 23] }, 23, "disk.go:82", #[⟨5, .data⟩, ⟨13, .data⟩], none⟩) rfl (fun Kr hKr => ?_)
          have s6 := s5.drew.alloc (.cells #[] 5 (0, 0))
          refine step_app rfl st_u8 _ _ (by rfl) (by rfl) (by rfl) (SlRep.made _ _ _) (s6.own 3 rfl) (rdBytes_cells (hrb.out _ (s6.own 2 rfl))) (by unfold maxLen; omega) (by omega) ?_
          intro a7 c7 w7 H7 hv7 hst7
          have s7 := s6.put 3 rfl hst7
          simp only [List.cons_append, List.nil_append, List.set_cons_succ, List.set_cons_zero] at s7
          have ⟨_, c1, _⟩ := cells3 (s7.one 0 rfl)
          obtain ⟨r1, fz⟩ := hrr.out _ (s7.own 1 rfl)
          refine hKr.out _ _ (fun hJ => ?_) (fun hF => ?_)
          · first
            | exact absurd hJ (by decide)
            | (clear hJ; (try dsimp only); all_goals (first | exact ⟨c1, r1⟩ | (simp [*, World.cell?_alloc_some]; done)))
          clear hKr
          try simp only [Act.put, nrmA, nrmB, nrmC]
          refine wpAnyJ_ready (rs := [16]) (by kernel_rfl) (by simp) ?_
          refine AllJ.cons1 (o := ⟨some 88, .call { callee := .builtin .append, args := #[.tmp 86, .tmp 87], argTypes := #[23, 23] }, 23, "disk.go:82", #[⟨14, .data⟩, ⟨15, .data⟩, ⟨14, .chain⟩], none⟩) rfl (fun Kr hKr => ?_)
          refine step_app rfl st_u8 _ _ (by rfl) (by rfl) (by rfl) hv7 (s7.own 3 rfl) (rdBytes_cells (hb0.out _ _ s7)) (by unfold maxLen; omega) (by omega) ?_
          intro a8 c8 w8 H8 hv8 hst8
          have s8 := s7.put 3 rfl hst8
          simp only [List.set_cons_succ, List.set_cons_zero] at s8
          have ⟨_, c1, _⟩ := cells3 (s8.one 0 rfl)
          obtain ⟨r1, fz⟩ := hrr.out _ (s8.own 1 rfl)
          have glt := World.block_lt_of_cell? w8 _ r1
          refine hKr.out _ _ (fun hJ => ?_) (fun hF => ?_)
          · first
            | exact absurd hJ (by decide)
            | (clear hJ; (try dsimp only); all_goals (first | exact ⟨c1, r1⟩ | (simp [*, World.cell?_alloc_some]; done)))
          clear hKr
          try simp only [Act.put, nrmA, nrmB, nrmC]
          refine tk0 (i := 17) (oi := ⟨some 89, .indexAddr 81 (.tmp 75) (.tmp 76), 0, "disk.go:82", #[⟨3, .data⟩, ⟨4, .data⟩, ⟨0, .phase⟩, ⟨1, .phase⟩, ⟨2, .phase⟩, ⟨3, .phase⟩, ⟨4, .phase⟩, ⟨5, .phase⟩, ⟨6, .phase⟩, ⟨7, .phase⟩, ⟨8, .phase⟩, ⟨9, .phase⟩, ⟨10, .phase⟩, ⟨11, .phase⟩, ⟨12, .phase⟩, ⟨13, .phase⟩, ⟨14, .phase⟩, ⟨15, .phase⟩, ⟨16, .phase⟩], none⟩) (v := ?_) rfl (by kernel_rfl) (fun _ _ _ h => h) (fun _ => hF (by kernel_rfl)) (fun w => ?_) (by rfl) ?_
          rotate_left
          · first | (go_simp; done) | (go_simp; with_reducible rfl) | (go_split_ands; go_simp; done)
          try simp only [Act.put, nrmA, nrmB, nrmC]
          refine tk0 (i := 18) (oi := ⟨some 90, .fieldAddr 107 (.tmp 89) 1, 0, "disk.go:82", #[⟨17, .data⟩, ⟨0, .phase⟩, ⟨1, .phase⟩, ⟨2, .phase⟩, ⟨3, .phase⟩, ⟨4, .phase⟩, ⟨5, .phase⟩, ⟨6, .phase⟩, ⟨7, .phase⟩, ⟨8, .phase⟩, ⟨9, .phase⟩, ⟨10, .phase⟩, ⟨11, .phase⟩, ⟨12, .phase⟩, ⟨13, .phase⟩, ⟨14, .phase⟩, ⟨15, .phase⟩, ⟨16, .phase⟩], none⟩) (v := ?_) rfl (by kernel_rfl) (fun _ _ _ h => h) (fun _ => hF (by kernel_rfl)) (fun w => ?_) (by rfl) ?_
          rotate_left
          · first | (go_simp; done) | (go_simp; with_reducible rfl) | (go_split_ands; go_simp; done)
          try simp only [Act.put, nrmA, nrmB, nrmC]
          refine wpAnyJ_ready (rs := [19]) (by kernel_rfl) (by simp) ?_
          refine AllJ.cons1 (o := ⟨none, .store 23 (.tmp 90) (.tmp 88), 0, "disk.go:82", #[⟨18, .data⟩, ⟨16, .data⟩, ⟨16, .chain⟩, ⟨0, .phase⟩, ⟨1, .phase⟩, ⟨2, .phase⟩, ⟨3, .phase⟩, ⟨4, .phase⟩, ⟨5, .phase⟩, ⟨6, .phase⟩, ⟨7, .phase⟩, ⟨8, .phase⟩, ⟨9, .phase⟩, ⟨10, .phase⟩, ⟨11, .phase⟩, ⟨12, .phase⟩, ⟨13, .phase⟩, ⟨14, .phase⟩, ⟨15, .phase⟩, ⟨16, .phase⟩], none⟩) rfl (fun Kr hKr => ?_)
          go_simp
          refine hKr.out _ _ (fun hJ => ?_) (fun hF => ?_)
          · first
            | exact absurd hJ (by decide)
            | (clear hJ; (try dsimp only); all_goals (first | exact ⟨c1, r1⟩ | (simp [*, World.cell?_alloc_some]; done)))
          clear hKr
          try simp only [Act.put, nrmA, nrmB, nrmC]
          refine wpAnyJ_done (by kernel_rfl) ?_ _
          go_upto_region 12 with fail
          obtain ⟨R9, hr9, s9⟩ := s8.putK re_len 1 rfl (by rw [hn2.out]; exact hr2.out : SlRep 107 3 (some ⟨g, 0, none⟩) n2 c' (X2.flatMap Re.cells) R2) hx2.out (j := 1) (by decide) (hyc.out a8 c8 H8)
          simp only [List.set_cons_succ, List.set_cons_zero] at s9
          obtain ⟨H9, hrep9, s9⟩ := hend.out a8 c8 H8 R9 _ hv8 hr9 s9
          go_wp2_with fail
          all_goals
            refine (hdid.out _ _ _ hrep9 s9.own).mono ?_
            rintro e w10 ⟨rfl, H10, hr10, hst⟩
            go_wp2_with fail
            go_ret
            exact ⟨rfl, H10, hr10, s9.trans hst⟩
end Go.Proofs.YtdolbeonpkanpaaGreatDoor
