/- The reference's disk: remove, Remove. -/
import Derived.Test.YtebmbfiiadffjaaDrC
namespace Go.Proofs.Ytebmbfiiadffjaa
open Go.RowKit
attribute [local go_sem ↓] Go.wp_at_zero Go.wp_at_succ

theorem re_eraseH {X : List Re} {i : Nat} {x : Re} (hx : X[i]? = some x) : (X.flatMap Re.H).Perm ((X.eraseIdx i).flatMap Re.H ++ x.H) := by
  rw [List.eraseIdx_eq_take_drop_succ]
  conv => lhs; rw [sp_split hx]
  simp only [List.flatMap_append, List.flatMap_cons, List.append_assoc]
  exact List.Perm.append_left _ List.perm_append_comm
theorem rk_gone {b i c n i1 : Nat} {k : Dk} {a : Option Addr} {X : List Re} {R' : Heaplet} {nm : Nm} (hkk : X.map Re.key = k.L) (hf : isF k.L nm = true) (hie : i = spotN k.L nm) (hok : ∀ x ∈ X, x.ok) (hlf : leftI k.left ≤ 9223372036854775807) (hn : n = X.length) (hi1 : i1 = i + 1) (hlt : i < X.length)
    (hr : SlRep 77 3 a (i + (n - i1)) c ([] ++ (X.take i).flatMap Re.cells ++ (X.drop (i + 1)).flatMap Re.cells) R') : RkRep b { k with L := delF k.L nm } ((b, robj k.room a (i + (n - i1)) c (leftI k.left)) :: (R' ++ (X.eraseIdx i).flatMap Re.H)) := by
  have hle : i + (n - i1) = (X.eraseIdx i).length := by rw [List.length_eraseIdx, if_pos hlt]; omega
  rw [hle] at hr ⊢
  refine ⟨a, c, R', X.eraseIdx i, ?_, fun y hy => hok y (List.mem_of_mem_eraseIdx hy), ?_, hlf, rfl⟩
  · rw [List.eraseIdx_eq_take_drop_succ, List.flatMap_append]
    rw [List.eraseIdx_eq_take_drop_succ] at hr
    simpa using hr
  · show _ = delF k.L nm
    unfold delF
    rw [if_pos hf, ← hie, ← hkk, List.eraseIdx_eq_take_drop_succ, List.eraseIdx_eq_take_drop_succ, List.map_append, List.map_take, List.map_drop]
theorem re_none {L : List Fl} {nm : Nm} (h : isF L nm = false) : delF L nm = L := by unfold delF; rw [h]; rfl
/-- What remove leaves: the disk without the file, and that file's bytes apart. -/
def RmPost (b : Nat) (k : Dk) (nm : Nm) (X : List Re) (H : Heaplet) (w : World) (e : Ending) (w' : World) : Prop :=
  e = .returned (.tuple #[]) ∧ ∃ H' J, RkRep b { k with L := delF k.L nm } H' ∧ Step w H w' (H' ++ J) ∧ (isF k.L nm = true → ∀ x, X[spotN k.L nm]? = some x → J = x.H)
set_option maxHeartbeats 2000000 in
set_option maxRecDepth 100000 in
theorem rdel (b : Nat) (k : Dk) (a : Option Addr) (c : Nat) (R : Heaplet) (X : List Re) (nm : Nm) (w : World) (hr : SlRep 77 3 a X.length c (X.flatMap Re.cells) R) (hok : ∀ x ∈ X, x.ok) (hkk : X.map Re.key = k.L) (hlf : leftI k.left ≤ 9223372036854775807) (hk : k.L.length ≤ 4096)
    (hw : Own w ((b, robj k.room a X.length c (leftI k.left)) :: (R ++ X.flatMap Re.H))) :
    Calls Try.prog 57 #[pt b, strV nm] w (RmPost b k nm X ((b, robj k.room a X.length c (leftI k.left)) :: (R ++ X.flatMap Re.H)) w) := by
  have h : RkRep b k ((b, robj k.room a X.length c (leftI k.left)) :: (R ++ X.flatMap Re.H)) := ⟨a, c, R, X, hr, hok, hkk, hlf, rfl⟩
  have hsp := Lib.hid (spot_any b k _ nm w h hw (by omega))
  have s1 := rk_start hw
  by_cases hi : isF k.L nm = true
  · obtain ⟨x, hx, rfl, hget⟩ := re_find hkk hi
    obtain ⟨i, hie⟩ : ∃ i, i = spotN k.L x.nm := ⟨_, rfl⟩
    have hfin : Hid (∀ i1 n a' c' R' W, n = X.length → i1 = i + 1 → SlRep 77 3 a' (i + (n - i1)) c' ([] ++ (X.take i).flatMap Re.cells ++ (X.drop (i + 1)).flatMap Re.cells) R' → Sp w ((b, robj k.room a X.length c (leftI k.left)) :: (R ++ X.flatMap Re.H)) W [[(b, robj k.room a' (i + (n - i1)) c' (leftI k.left))], R, X.flatMap Re.H, R'] →
        RmPost b k x.nm X ((b, robj k.room a X.length c (leftI k.left)) :: (R ++ X.flatMap Re.H)) w (.returned (.tuple #[])) W) := fun i1 n a' c' R' W hn h1 hr' s => by
      have hlt : i < X.length := by rw [hie]; exact (List.getElem?_eq_some_iff.1 hx).1
      refine ⟨rfl, _, x.H, rk_gone hkk hi hie hok hlf hn h1 hlt hr', ?_, fun _ y hy => by rw [hx] at hy; cases hy; rfl⟩
      have s2 := (s.forget 1 rfl)
      simp only [List.set_cons_succ, List.set_cons_zero] at s2
      refine s2.perm (Gs := [_]) ?_ |>.out (List.flatten_singleton ..)
      have hp := re_eraseH (by rw [hie]; exact hx : X[i]? = some x)
      simp only [List.flatten_cons, List.flatten_nil, List.append_nil, List.cons_append, List.nil_append]
      refine List.Perm.cons _ ((hp.append_right _).trans ?_)
      simp only [List.append_assoc]
      refine List.perm_append_comm.trans ?_
      simp only [List.append_assoc]
      exact (List.perm_append_comm (l₁ := x.H)).trans (by simp)
    rw [hi] at hsp
    rw [← hie] at hx hsp
    have hlt := (List.getElem?_eq_some_iff.1 hx).1
    obtain ⟨g, rfl, k0, k1, r0, r1, r2, fz⟩ := re_at hr (s1.own 1 rfl) hx
    obtain ⟨n, hn⟩ : ∃ n, n = X.length := ⟨_, rfl⟩
    have hn4 : n ≤ 4096 := by rw [hn, ← List.length_map (f := Re.key), hkk]; exact hk
    obtain ⟨i1, hi1⟩ : ∃ i1, i1 = i + 1 := ⟨_, rfl⟩
    have hrd := Lib.hid (fun W (hW : Own W R) c' => slk_rd re_len re_one hr rfl hW 0 i c' (by omega))
    have hrd2 : Hid (∀ W, Own W R → RdCells W (.slice (if c = i1 then some ⟨g, 0, none⟩ else some ⟨g, i1 * 3, none⟩) (n - i1) (c - i1)) (n - i1) 3 (((X.drop i1).take (n - i1)).flatMap Re.cells)) := fun W hW => by
      have q := slk_rd re_len re_one hr rfl hW i1 (n - i1) (c - i1) (by omega)
      split
      · have e0 : n - i1 = 0 := by omega
        rw [e0] at q ⊢
        exact ⟨by simp, by simp, .inr ⟨_, _, rfl, by simp⟩⟩
      · exact q
    have hrds : Hid (((X.drop 0).take i).flatMap Re.cells = (X.take i).flatMap Re.cells ∧ ((X.drop i1).take (n - i1)).flatMap Re.cells = (X.drop (i + 1)).flatMap Re.cells) := by
      refine ⟨by rw [List.drop_zero], ?_⟩
      rw [List.take_of_length_le (by rw [List.length_drop, hn]; omega), hi1]
    have d0 : (0 : Int) ≤ (i : Int) := by omega
    have d1 : (i : Int) < (n : Int) := by omega
    have d2 : (i : Int) ≤ (c : Int) := by omega
    have d3 : IntKind.i64.wrap ((i : Int) + 1) = (i1 : Int) := by rw [IntWalk.i64_in _ (by omega)]; omega
    have d4 : (0 : Int) ≤ (i1 : Int) := by omega
    have d5 : (i1 : Int) ≤ (n : Int) := by omega
    have d6 : (n : Int) ≤ (c : Int) := by omega
    have m1 : i ≤ c := by omega
    have m2 : i1 ≤ n := by omega
    have hni : Hid (n = X.length ∧ i1 = i + 1) := ⟨hn, hi1⟩
    clear r0 r1 r2 fz hr hok hkk hget h hi hw hk
    replace hx := Lib.hid hx
    replace hie := Lib.hid hie
    rw [← hn] at hlt k0
    replace hn := Lib.hid hn
    clear hi1
    generalize hGG : ((b, robj k.room (some ⟨g, 0, none⟩) X.length c (leftI k.left)) :: (R ++ X.flatMap Re.H)) = G at hsp hfin s1 ⊢
    replace hGG := Lib.hid hGG
    go_enter Try.func57, Try.ntmps57
    go_wp2_with fail
    refine hsp.out.mono ?_
    rintro e w3 ⟨rfl, hst⟩
    replace s1 := s1.still hst
    clear hst
    go_upto_region 2 with fail
    rw [← hn.out] at s1
    have ⟨c0, c1, c2⟩ := cells3 (s1.one 0 rfl)
    have b0 := heap_lt (s1.one 0 rfl)
    refine wp_region_J 19 (fun w' => w'.cell? ⟨b, 1, none⟩ = some (.slice (some ⟨g, 0, none⟩) n c)) (by kernel_rfl) ?_ (fun hF => ?_)
    · (try dsimp only)
      all_goals (first | exact c1 | (simp [*, World.cell?_alloc_some]; done))
    refine wpAnyJ_take0 (i := 0) (oi := { dst := some 13, op := Go.Op.move (Go.Operand.tmp 0), type := 46, pos := "disk.go:122", after := #[], guard := none }) (v := ?_) rfl (by kernel_rfl) (by kernel_rfl) (by kernel_rfl) (by kernel_rfl) (fun _ _ _ h => h) (by first | exact fun _ => hF | exact fun _ => hF (by kernel_rfl)) (fun w => ?_) (by rfl) ?_
    rotate_left
    · first | (go_simp; done) | (go_simp; with_reducible rfl) | (go_split_ands; go_simp; done)
    try simp only [Act.put, List.setIfInBounds_toArray, List.set_cons_zero, List.set_cons_succ]
    refine wpAnyJ_take0 (i := 2) (oi := { dst := some 15, op := Go.Op.move (Go.Operand.tmp 0), type := 46, pos := "disk.go:122", after := #[], guard := none }) (v := ?_) rfl (by kernel_rfl) (by kernel_rfl) (by kernel_rfl) (by kernel_rfl) (fun _ _ _ h => h) (by first | exact fun _ => hF | exact fun _ => hF (by kernel_rfl)) (fun w => ?_) (by rfl) ?_
    rotate_left
    · first | (go_simp; done) | (go_simp; with_reducible rfl) | (go_split_ands; go_simp; done)
    try simp only [Act.put, List.setIfInBounds_toArray, List.set_cons_zero, List.set_cons_succ]
    refine wpAnyJ_take0 (i := 3) (oi := { dst := some 16, op := Go.Op.nilCheck (Go.Operand.tmp 15), type := 0, pos := "disk.go:122", after := #[{ on := 2, ground := Go.Ground.data }], guard := none }) (v := ?_) rfl (by kernel_rfl) (by kernel_rfl) (by kernel_rfl) (by kernel_rfl) (fun _ _ _ h => h) (by first | exact fun _ => hF | exact fun _ => hF (by kernel_rfl)) (fun w => ?_) (by rfl) ?_
    rotate_left
    · first | (go_simp; done) | (go_simp; with_reducible rfl) | (go_split_ands; go_simp; done)
    try simp only [Act.put, List.setIfInBounds_toArray, List.set_cons_zero, List.set_cons_succ]
    refine wpAnyJ_take0 (i := 4) (oi := { dst := some 17, op := Go.Op.fieldAddr 75 (Go.Operand.tmp 16) 1, type := 0, pos := "disk.go:122", after := #[{ on := 3, ground := Go.Ground.data }], guard := none }) (v := ?_) rfl (by kernel_rfl) (by kernel_rfl) (by kernel_rfl) (by kernel_rfl) (fun _ _ _ h => h) (by first | exact fun _ => hF | exact fun _ => hF (by kernel_rfl)) (fun w => ?_) (by rfl) ?_
    rotate_left
    · first | (go_simp; done) | (go_simp; with_reducible rfl) | (go_split_ands; go_simp; done)
    try simp only [Act.put, List.setIfInBounds_toArray, List.set_cons_zero, List.set_cons_succ]
    refine wpAnyJ_take (i := 5) (oi := { dst := some 18, op := Go.Op.load 73 (Go.Operand.tmp 17), type := 73, pos := "disk.go:122", after := #[{ on := 4, ground := Go.Ground.data }], guard := none }) (v := ?_) [19] rfl (by kernel_rfl) (by kernel_rfl) (by kernel_rfl) (by kernel_rfl) (by kernel_rfl) (fun _ _ _ h => h) (by first | exact hF | exact hF (by kernel_rfl)) (fun w hFw => ?_) (by rfl) ?_
    rotate_left
    · ((try dsimp only at hFw); first | (go_simp; done) | (go_simp; with_reducible rfl) | (go_split_ands; go_simp; done))
    try simp only [Act.put, List.setIfInBounds_toArray, List.set_cons_zero, List.set_cons_succ]
    refine wpAnyJ_take0 (i := 6) (oi := { dst := some 19, op := Go.Op.move (Go.Operand.tmp 4), type := 3, pos := "disk.go:122", after := #[], guard := none }) (v := ?_) rfl (by kernel_rfl) (by kernel_rfl) (by kernel_rfl) (by kernel_rfl) (fun _ _ _ h => h) (by first | exact fun _ => hF | exact fun _ => hF (by kernel_rfl)) (fun w => ?_) (by rfl) ?_
    rotate_left
    · first | (go_simp; done) | (go_simp; with_reducible rfl) | (go_split_ands; go_simp; done)
    try simp only [Act.put, List.setIfInBounds_toArray, List.set_cons_zero, List.set_cons_succ]
    refine wpAnyJ_take0 (i := 7) (oi := { dst := some 20, op := Go.Op.slice 73 (Go.Operand.tmp 18) none (some (Go.Operand.tmp 19)) none, type := 73, pos := "disk.go:122", after := #[{ on := 5, ground := Go.Ground.data }, { on := 6, ground := Go.Ground.data }], guard := none }) (v := ?_) rfl (by kernel_rfl) (by kernel_rfl) (by kernel_rfl) (by kernel_rfl) (fun _ _ _ h => h) (by first | exact fun _ => hF | exact fun _ => hF (by kernel_rfl)) (fun w => ?_) (by rfl) ?_
    rotate_left
    · first | (go_simp; done) | (go_simp; with_reducible rfl) | (go_split_ands; go_simp; done)
    try simp only [Act.put, List.setIfInBounds_toArray, List.set_cons_zero, List.set_cons_succ]
    refine wpAnyJ_take0 (i := 9) (oi := { dst := some 22, op := Go.Op.move (Go.Operand.tmp 0), type := 46, pos := "disk.go:122", after := #[], guard := none }) (v := ?_) rfl (by kernel_rfl) (by kernel_rfl) (by kernel_rfl) (by kernel_rfl) (fun _ _ _ h => h) (by first | exact fun _ => hF | exact fun _ => hF (by kernel_rfl)) (fun w => ?_) (by rfl) ?_
    rotate_left
    · first | (go_simp; done) | (go_simp; with_reducible rfl) | (go_split_ands; go_simp; done)
    try simp only [Act.put, List.setIfInBounds_toArray, List.set_cons_zero, List.set_cons_succ]
    refine wpAnyJ_take0 (i := 10) (oi := { dst := some 23, op := Go.Op.nilCheck (Go.Operand.tmp 22), type := 0, pos := "disk.go:122", after := #[{ on := 9, ground := Go.Ground.data }], guard := none }) (v := ?_) rfl (by kernel_rfl) (by kernel_rfl) (by kernel_rfl) (by kernel_rfl) (fun _ _ _ h => h) (by first | exact fun _ => hF | exact fun _ => hF (by kernel_rfl)) (fun w => ?_) (by rfl) ?_
    rotate_left
    · first | (go_simp; done) | (go_simp; with_reducible rfl) | (go_split_ands; go_simp; done)
    try simp only [Act.put, List.setIfInBounds_toArray, List.set_cons_zero, List.set_cons_succ]
    refine wpAnyJ_take0 (i := 11) (oi := { dst := some 24, op := Go.Op.fieldAddr 75 (Go.Operand.tmp 23) 1, type := 0, pos := "disk.go:122", after := #[{ on := 10, ground := Go.Ground.data }], guard := none }) (v := ?_) rfl (by kernel_rfl) (by kernel_rfl) (by kernel_rfl) (by kernel_rfl) (fun _ _ _ h => h) (by first | exact fun _ => hF | exact fun _ => hF (by kernel_rfl)) (fun w => ?_) (by rfl) ?_
    rotate_left
    · first | (go_simp; done) | (go_simp; with_reducible rfl) | (go_split_ands; go_simp; done)
    try simp only [Act.put, List.setIfInBounds_toArray, List.set_cons_zero, List.set_cons_succ]
    refine wpAnyJ_take (i := 12) (oi := { dst := some 25, op := Go.Op.load 73 (Go.Operand.tmp 24), type := 73, pos := "disk.go:122", after := #[{ on := 11, ground := Go.Ground.data }], guard := none }) (v := ?_) [19] rfl (by kernel_rfl) (by kernel_rfl) (by kernel_rfl) (by kernel_rfl) (by kernel_rfl) (fun _ _ _ h => h) (by first | exact hF | exact hF (by kernel_rfl)) (fun w hFw => ?_) (by rfl) ?_
    rotate_left
    · ((try dsimp only at hFw); first | (go_simp; done) | (go_simp; with_reducible rfl) | (go_split_ands; go_simp; done))
    try simp only [Act.put, List.setIfInBounds_toArray, List.set_cons_zero, List.set_cons_succ]
    refine wpAnyJ_take0 (i := 13) (oi := { dst := some 26, op := Go.Op.move (Go.Operand.tmp 4), type := 3, pos := "disk.go:122", after := #[], guard := none }) (v := ?_) rfl (by kernel_rfl) (by kernel_rfl) (by kernel_rfl) (by kernel_rfl) (fun _ _ _ h => h) (by first | exact fun _ => hF | exact fun _ => hF (by kernel_rfl)) (fun w => ?_) (by rfl) ?_
    rotate_left
    · first | (go_simp; done) | (go_simp; with_reducible rfl) | (go_split_ands; go_simp; done)
    try simp only [Act.put, List.setIfInBounds_toArray, List.set_cons_zero, List.set_cons_succ]
    refine wpAnyJ_take0 (i := 14) (oi := { dst := some 27, op := Go.Op.binOp Go.BinOp.add 3 (Go.Operand.tmp 26) (Go.Operand.const (Go.Value.int Go.IntKind.i64 1)) 3, type := 3, pos := "disk.go:122", after := #[{ on := 13, ground := Go.Ground.data }], guard := none }) (v := ?_) rfl (by kernel_rfl) (by kernel_rfl) (by kernel_rfl) (by kernel_rfl) (fun _ _ _ h => h) (by first | exact fun _ => hF | exact fun _ => hF (by kernel_rfl)) (fun w => ?_) (by rfl) ?_
    rotate_left
    · first | (go_simp; done) | (go_simp; with_reducible rfl) | (go_split_ands; go_simp; done)
    try simp only [Act.put, List.setIfInBounds_toArray, List.set_cons_zero, List.set_cons_succ]
    refine wpAnyJ_take0 (i := 15) (oi := { dst := some 28, op := Go.Op.slice 73 (Go.Operand.tmp 25) (some (Go.Operand.tmp 27)) none none, type := 73, pos := "disk.go:122", after := #[{ on := 12, ground := Go.Ground.data }, { on := 14, ground := Go.Ground.data }], guard := none }) (v := ?_) rfl (by kernel_rfl) (by kernel_rfl) (by kernel_rfl) (by kernel_rfl) (fun _ _ _ h => h) (by first | exact fun _ => hF | exact fun _ => hF (by kernel_rfl)) (fun w => ?_) (by rfl) ?_
    rotate_left
    · first | (go_simp; done) | (go_simp; with_reducible rfl) | (go_split_ands; go_simp; done)
    try simp only [Act.put, List.setIfInBounds_toArray, List.set_cons_zero, List.set_cons_succ]
    refine wpAnyJ_ready (rs := [1]) (by kernel_rfl) (by simp) ?_
    refine AllJ.cons (o := { dst := some 14, op := Go.Op.buildSlice 73 0 #[], type := 73, pos := "disk.go:122", after := #[], guard := none }) rfl (fun Kr hKr => ?_) ?_
    · go_simp
      refine hKr.out _ _ (fun hJ => ?_) (fun hF => ?_)
      · first
        | exact absurd hJ (by decide)
        | (clear hJ; (try dsimp only); all_goals (first | exact c1 | (simp [*, World.cell?_alloc_some]; done)))
      clear hKr
      try simp only [Act.put, List.setIfInBounds_toArray, List.set_cons_zero, List.set_cons_succ]
      refine wpAnyJ_ready (rs := [8]) (by kernel_rfl) (by simp) ?_
      refine AllJ.cons (o := { dst := some 21, op := Go.Op.call { callee := Go.Callee.builtin Go.Builtin.append, args := #[Go.Operand.tmp 14, Go.Operand.tmp 20], argTypes := #[73, 73] }, type := 73, pos := "disk.go:122", after := #[{ on := 1, ground := Go.Ground.data }, { on := 7, ground := Go.Ground.data }], guard := none }) rfl (fun Kr hKr => ?_) ?_
      · have s2 := s1.drew.alloc (.cells #[] 77 (0, 0))
        refine step_app rfl st_file _ _ (by rfl) (by rfl) (by rfl) (SlRep.made _ _ _) (s2.own 3 rfl) (hrd.out _ (s2.own 1 rfl) _) (by unfold maxLen; omega) (by omega) ?_
        intro a2 c2 w2 H2 hv2 hst2
        have s3 := s2.put 3 rfl hst2
        simp only [List.cons_append, List.nil_append, List.set_cons_succ, List.set_cons_zero] at s3
        have ⟨c0, c1, _⟩ := cells3 (s3.one 0 rfl)
        refine hKr.out _ _ (fun hJ => ?_) (fun hF => ?_)
        · first
          | exact absurd hJ (by decide)
          | (clear hJ; (try dsimp only); all_goals (first | exact c1 | (simp [*, World.cell?_alloc_some]; done)))
        clear hKr
        try simp only [Act.put, List.setIfInBounds_toArray, List.set_cons_zero, List.set_cons_succ]
        refine wpAnyJ_ready (rs := [16]) (by kernel_rfl) (by simp) ?_
        refine AllJ.cons (o := { dst := some 29, op := Go.Op.call { callee := Go.Callee.builtin Go.Builtin.append, args := #[Go.Operand.tmp 21, Go.Operand.tmp 28], argTypes := #[73, 73] }, type := 73, pos := "disk.go:122", after := #[{ on := 8, ground := Go.Ground.data }, { on := 15, ground := Go.Ground.data }, { on := 8, ground := Go.Ground.chain }], guard := none }) rfl (fun Kr hKr => ?_) ?_
        · refine step_app rfl st_file _ _ (by rfl) (by rfl) (by rfl) hv2 (s3.own 3 rfl) (hrd2.out _ (s3.own 1 rfl)) (by unfold maxLen; omega) (by omega) ?_
          intro a3 c3 w4 H3 hv3 hst3
          have s4 := s3.put 3 rfl hst3
          simp only [List.set_cons_succ, List.set_cons_zero] at s4
          have ⟨c0, c1, _⟩ := cells3 (s4.one 0 rfl)
          have fz := fun i => frz_of (i := i) (s4.one 0 rfl)
          have b0 := heap_lt (s4.one 0 rfl)
          refine hKr.out _ _ (fun hJ => ?_) (fun hF => ?_)
          · first
            | exact absurd hJ (by decide)
            | (clear hJ; (try dsimp only); all_goals (first | exact c1 | (simp [*, World.cell?_alloc_some]; done)))
          clear hKr
          try simp only [Act.put, List.setIfInBounds_toArray, List.set_cons_zero, List.set_cons_succ]
          refine wpAnyJ_take0 (i := 17) (oi := { dst := some 30, op := Go.Op.nilCheck (Go.Operand.tmp 13), type := 0, pos := "disk.go:122", after := #[{ on := 0, ground := Go.Ground.data }, { on := 0, ground := Go.Ground.phase }, { on := 1, ground := Go.Ground.phase }, { on := 2, ground := Go.Ground.phase }, { on := 3, ground := Go.Ground.phase }, { on := 4, ground := Go.Ground.phase }, { on := 5, ground := Go.Ground.phase }, { on := 6, ground := Go.Ground.phase }, { on := 7, ground := Go.Ground.phase }, { on := 8, ground := Go.Ground.phase }, { on := 9, ground := Go.Ground.phase }, { on := 10, ground := Go.Ground.phase }, { on := 11, ground := Go.Ground.phase }, { on := 12, ground := Go.Ground.phase }, { on := 13, ground := Go.Ground.phase }, { on := 14, ground := Go.Ground.phase }, { on := 15, ground := Go.Ground.phase }, { on := 16, ground := Go.Ground.phase }], guard := none }) (v := ?_) rfl (by kernel_rfl) (by kernel_rfl) (by kernel_rfl) (by kernel_rfl) (fun _ _ _ h => h) (by first | exact fun _ => hF | exact fun _ => hF (by kernel_rfl)) (fun w => ?_) (by rfl) ?_
          rotate_left
          · first | (go_simp; done) | (go_simp; with_reducible rfl) | (go_split_ands; go_simp; done)
          try simp only [Act.put, List.setIfInBounds_toArray, List.set_cons_zero, List.set_cons_succ]
          refine wpAnyJ_take0 (i := 18) (oi := { dst := some 31, op := Go.Op.fieldAddr 75 (Go.Operand.tmp 30) 1, type := 0, pos := "disk.go:122", after := #[{ on := 17, ground := Go.Ground.data }, { on := 0, ground := Go.Ground.phase }, { on := 1, ground := Go.Ground.phase }, { on := 2, ground := Go.Ground.phase }, { on := 3, ground := Go.Ground.phase }, { on := 4, ground := Go.Ground.phase }, { on := 5, ground := Go.Ground.phase }, { on := 6, ground := Go.Ground.phase }, { on := 7, ground := Go.Ground.phase }, { on := 8, ground := Go.Ground.phase }, { on := 9, ground := Go.Ground.phase }, { on := 10, ground := Go.Ground.phase }, { on := 11, ground := Go.Ground.phase }, { on := 12, ground := Go.Ground.phase }, { on := 13, ground := Go.Ground.phase }, { on := 14, ground := Go.Ground.phase }, { on := 15, ground := Go.Ground.phase }, { on := 16, ground := Go.Ground.phase }], guard := none }) (v := ?_) rfl (by kernel_rfl) (by kernel_rfl) (by kernel_rfl) (by kernel_rfl) (fun _ _ _ h => h) (by first | exact fun _ => hF | exact fun _ => hF (by kernel_rfl)) (fun w => ?_) (by rfl) ?_
          rotate_left
          · first | (go_simp; done) | (go_simp; with_reducible rfl) | (go_split_ands; go_simp; done)
          try simp only [Act.put, List.setIfInBounds_toArray, List.set_cons_zero, List.set_cons_succ]
          refine wpAnyJ_ready (rs := [19]) (by kernel_rfl) (by simp) ?_
          refine AllJ.cons (o := { dst := none, op := Go.Op.store 73 (Go.Operand.tmp 31) (Go.Operand.tmp 29), type := 0, pos := "disk.go:122", after := #[{ on := 18, ground := Go.Ground.data }, { on := 16, ground := Go.Ground.data }, { on := 16, ground := Go.Ground.chain }, { on := 0, ground := Go.Ground.phase }, { on := 1, ground := Go.Ground.phase }, { on := 2, ground := Go.Ground.phase }, { on := 3, ground := Go.Ground.phase }, { on := 4, ground := Go.Ground.phase }, { on := 5, ground := Go.Ground.phase }, { on := 6, ground := Go.Ground.phase }, { on := 7, ground := Go.Ground.phase }, { on := 8, ground := Go.Ground.phase }, { on := 9, ground := Go.Ground.phase }, { on := 10, ground := Go.Ground.phase }, { on := 11, ground := Go.Ground.phase }, { on := 12, ground := Go.Ground.phase }, { on := 13, ground := Go.Ground.phase }, { on := 14, ground := Go.Ground.phase }, { on := 15, ground := Go.Ground.phase }, { on := 16, ground := Go.Ground.phase }], guard := none }) rfl (fun Kr hKr => ?_) ?_
          · go_simp
            refine hKr.out _ _ (fun hJ => ?_) (fun hF => ?_)
            · first
              | exact absurd hJ (by decide)
              | (clear hJ; (try dsimp only); all_goals (first | exact c1 | (simp [*, World.cell?_alloc_some]; done)))
            clear hKr
            try simp only [Act.put, List.setIfInBounds_toArray, List.set_cons_zero, List.set_cons_succ]
            refine wpAnyJ_done (by kernel_rfl) ?_ _
            go_wp2_with fail
            all_goals go_end0
            all_goals
              have s5 := s4.store 0 (j := 1) rfl (.slice a3 (0 + i + (n - i1)) c3)
              try rw [Nat.zero_add] at s5
              have q := hv3
              rw [hrds.out.1, hrds.out.2] at q
              try rw [Nat.zero_add] at q
              refine hfin.out i1 n a3 c3 H3 _ hni.out.1 hni.out.2 q ?_
              exact s5
          exact AllJ.nil
        exact AllJ.nil
      exact AllJ.nil
    exact AllJ.nil
  · have hno : isF k.L nm = false := by simpa using hi
    rw [hno] at hsp
    have hfin : Hid (∀ W, Sp w ((b, robj k.room a X.length c (leftI k.left)) :: (R ++ X.flatMap Re.H)) W [[(b, robj k.room a X.length c (leftI k.left))], R, X.flatMap Re.H] → RmPost b k nm X ((b, robj k.room a X.length c (leftI k.left)) :: (R ++ X.flatMap Re.H)) w (.returned (.tuple #[])) W) := fun W s => by
      refine ⟨rfl, ((b, robj k.room a X.length c (leftI k.left)) :: (R ++ X.flatMap Re.H)), [], ?_, ?_, fun hh => absurd hh hi⟩
      · rw [re_none hno]; exact h
      · exact s.out (by simp)
    replace s1 := Lib.hid s1
    clear hr hok hkk h hi hno hw hk
    generalize hGG : ((b, robj k.room a X.length c (leftI k.left)) :: (R ++ X.flatMap Re.H)) = G at hsp hfin s1 ⊢
    replace hGG := Lib.hid hGG
    go_enter Try.func57, Try.ntmps57
    go_wp2_with fail
    refine hsp.out.mono ?_
    rintro e w3 ⟨rfl, hst⟩
    go_wp2_with fail
    go_end0
    exact hfin.out _ (s1.out.still hst)
set_option maxHeartbeats 2000000 in
set_option maxRecDepth 100000 in
theorem rremove (b : Nat) (k : Dk) (H : Heaplet) (nm : Nm) (w : World) (h : RkRep b k H) (hk : k.Ok) (hw : Own w H) :
    Calls Try.prog 44 #[pt b, strV nm] w (RkPost b (gateN [nm] (rmI nm) k) H w) := by
  have s1 := (Sp.start hw).alloc (.cells #[strV nm] 9)
  have hmy := Lib.hid (may_any b k H w.heap.size 1 [nm] _ h (s1.own 0 rfl) (rdStrs_one w nm) (Nat.le_refl _) (by decide))
  have hsp := Lib.hid (fun W hW => spot_any b k H nm W h hW (by have := hk.many; omega))
  have hmp := Lib.hid (fun hm W G (s : Step w H W (H ++ G)) => may_post (op := rmI nm) (names := [nm]) h hm s)
  replace s1 := Lib.hid s1
  obtain ⟨m, hm⟩ : ∃ m, m = mayN k [nm] := ⟨_, rfl⟩
  rw [← hm] at hmy hmp
  by_cases hm0 : m = 0
  · subst hm0
    by_cases hi : isF k.L nm = true
    · rw [hi] at hsp
      have hg : Hid (gateN [nm] (rmI nm) k = (0, didN { k with L := delF k.L nm })) := by
        refine gate_yes hm.symm ?_
        unfold rmI
        rw [if_pos hi]
      have hdel : Hid (∀ W, Own W H → Calls Try.prog 57 #[pt b, strV nm] W fun e w' => e = .returned (.tuple #[]) ∧ ∃ H' J, RkRep b { k with L := delF k.L nm } H' ∧ Step W H w' (H' ++ J)) := fun W hW => by
        obtain ⟨a, c, R, X, hr, hok, hkk, hlf, rfl⟩ := h
        refine (rdel b k a c R X nm W hr hok hkk hlf hk.many hW).mono ?_
        rintro e w' ⟨rfl, H', J, h1, h2, _⟩
        exact ⟨rfl, H', J, h1, h2⟩
      have hdid := Lib.hid (fun k' H W h hW => did_any b k' H W h hW)
      replace hm := Lib.hid hm
      clear hi h
      go_enter Try.func44, Try.ntmps44
      go_wp2_with fail
      refine hmy.out.mono ?_
      rintro e w2 ⟨rfl, hst⟩
      have s2 : Sp w H w2 [H] := (s1.out.still hst).forget 1 rfl |>.perm (by simp)
      clear hst
      go_wp2_with fail
      refine (hsp.out _ (s2.own 0 rfl)).mono ?_
      rintro e w3 ⟨rfl, hst⟩
      replace s2 := s2.still hst
      clear hst
      go_wp2_with fail
      refine (hdel.out _ (s2.own 0 rfl)).mono ?_
      rintro e w4 ⟨rfl, H', J, hr4, hst⟩
      have s3 : Step w H w4 (H' ++ J) := (s2.put 0 rfl hst).out (by simp)
      clear hst
      go_wp2_with fail
      refine (hdid.out _ _ _ hr4 s3.forget.own).mono ?_
      rintro e w5 ⟨rfl, H5, hr5, hst⟩
      go_wp2_with fail
      go_ret
      rw [hg.out]
      exact ⟨rfl, H5, hr5, s3.forget.trans hst⟩
    · have hno : isF k.L nm = false := by simpa using hi
      rw [hno] at hsp
      have hg : Hid (gateN [nm] (rmI nm) k = (7, k)) := gate_no hm.symm (by unfold rmI; rw [if_neg hi]) (by decide)
      have hrep := Lib.hid h
      replace hm := Lib.hid hm
      clear hi hno h
      go_enter Try.func44, Try.ntmps44
      go_wp2_with fail
      refine hmy.out.mono ?_
      rintro e w2 ⟨rfl, hst⟩
      have s2 : Sp w H w2 [H] := (s1.out.still hst).forget 1 rfl |>.perm (by simp)
      clear hst
      go_wp2_with fail
      refine (hsp.out _ (s2.own 0 rfl)).mono ?_
      rintro e w3 ⟨rfl, hst⟩
      replace s2 := s2.still hst
      go_wp2_with fail
      go_ret
      rw [hg.out]
      exact ⟨rfl, H, hrep.out, s2.out (by simp)⟩
  · have q0 : ((m : Int) != 0) = true := by rw [bne_iff_ne]; omega
    have hm1 := Lib.hid hm0
    replace hm := Lib.hid hm
    clear hm0 h
    go_enter Try.func44, Try.ntmps44
    go_wp2_with fail
    refine hmy.out.mono ?_
    rintro e w2 ⟨rfl, hst⟩
    go_wp2_with fail
    go_ret
    have s2 := s1.out.still hst
    exact hmp.out hm1.out _ _ (s2.out (by simp; rfl))
end Go.Proofs.Ytebmbfiiadffjaa
