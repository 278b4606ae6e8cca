/- The reference's disk: Copy. -/
import Derived.Test.YtebmbfiiadffjaaDrE
namespace Go.Proofs.Ytebmbfiiadffjaa
open Go.RowKit
attribute [local go_sem ↓] Go.wp_at_zero Go.wp_at_succ

def RcpRel (b0 : Nat) (k : Dk) (K : Heaplet) (w : World) (v4 : Value) (wr : World) : Prop :=
  ∃ (i : Nat) (a : Option Addr) (c : Nat) (R : Heaplet) (Y : List Re), v4 = iv i ∧ i ≤ k.L.length ∧ Y.map Re.key = k.L.take i ∧ (∀ y ∈ Y, y.ok) ∧ SlRep 77 3 a i c (Y.flatMap Re.cells) R ∧
    Sp w K wr [K, [(b0, robj k.room a i c (-1))], R, Y.flatMap Re.H]
set_option maxHeartbeats 2000000 in
set_option maxRecDepth 100000 in
theorem rcopy (b : Nat) (k : Dk) (K : Heaplet) (w : World) (h : RkRep b k K) (hk : k.Ok) (hw : Own w K) :
    Calls Try.prog 25 #[pt b] w fun e w' => ∃ (d : Nat) (H' : Heaplet), e = .returned (pt d) ∧ RkRep d (cpN k) H' ∧ Step w K w' (K ++ H') := by
  obtain ⟨a, c, R, X, hr, hok, hkk, hlf, hK⟩ := h
  have hnn : Hid (X.length = k.L.length) := by show _ = _; rw [← hkk, List.length_map]
  obtain ⟨n, hn⟩ : ∃ n, n = k.L.length := ⟨_, rfl⟩
  have hn4 : n ≤ 4096 := by rw [hn]; exact hk.many
  have hrd : Hid (∀ W, Own W K → W.cell? ⟨b, 0, none⟩ = some (iv k.room) ∧ W.cell? ⟨b, 1, none⟩ = some (.slice a n c)) := fun W h0 => by
    rw [hK] at h0
    have ⟨c0, c1, _⟩ := cells3 h0.h0
    refine ⟨c0, ?_⟩
    rw [hn, ← hnn.out]; exact c1
  have hrx : Hid (∀ i, i < n → ∃ x : Re, x.ok ∧ x.d.length ≤ 1073741824 ∧ k.L.take (i + 1) = k.L.take i ++ [x.key] ∧ ∀ W, Own W K → (∃ g, a = some ⟨g, 0, none⟩ ∧ n ≤ c ∧ W.cell? ⟨g, i * 3, none⟩ = some (strV x.nm) ∧ W.cell? ⟨g, i * 3 + 1, none⟩ = some (.slice x.a x.d.length x.c) ∧ W.cell? ⟨g, i * 3 + 2, none⟩ = some (iv x.n)) ∧ RdBytes W x.a x.d.length x.c x.d) := fun i hi => by
    have hiX : i < X.length := by rw [hnn.out, ← hn]; exact hi
    obtain ⟨x, hx⟩ : ∃ x, X[i]? = some x := ⟨_, List.getElem?_eq_getElem hiX⟩
    have hxk : k.L[i]? = some x.key := by rw [← hkk, List.getElem?_map, hx]; rfl
    obtain ⟨hl, e⟩ := List.getElem?_eq_some_iff.1 hxk
    refine ⟨x, hok x (List.mem_of_getElem? hx), ?_, by rw [List.take_succ_eq_append_getElem hl, e], fun W h0 => ?_⟩
    · have h1 : x.d.length ≤ usedF k.L := by
        have h2 := re_used hkk hx
        have h3 := used_take k.L (i + 1)
        omega
      have := hk.used
      have := hk.room
      omega
    · rw [hK] at h0
      obtain ⟨g, e, k0, k1, r0, r1, r2, _⟩ := re_at hr h0.tail.left hx
      exact ⟨⟨g, e, by rw [hn, ← hnn.out]; exact k0, r0, r1, r2⟩, re_bytes hx (hok x (List.mem_of_getElem? hx)) h0.tail.right⟩
  have hfin : Hid (∀ (b0 : Nat) (a : Option Addr) (c : Nat) (R : Heaplet) (Y : List Re) (W : World), Y.map Re.key = k.L.take n → (∀ y ∈ Y, y.ok) → SlRep 77 3 a n c (Y.flatMap Re.cells) R → Sp w K W [K, [(b0, robj k.room a n c (-1))], R, Y.flatMap Re.H] → ∃ (d : Nat) (H' : Heaplet), Ending.returned (pt b0) = .returned (pt d) ∧ RkRep d (cpN k) H' ∧ Step w K W (K ++ H')) := fun b0 a c R Y W hY hYo hR s => by
    have e : n = Y.length := by
      have := congrArg List.length hY
      rw [List.length_map, List.length_take, ← hn] at this
      omega
    subst e
    refine ⟨b0, (b0, robj k.room a Y.length c (-1)) :: (R ++ Y.flatMap Re.H), rfl, ⟨a, c, R, Y, hR, hYo, ?_, (by decide : (-1 : Int) ≤ 9223372036854775807), rfl⟩, s.out (by simp)⟩
    rw [hY, hn, List.take_length]; rfl
  have hos := Lib.hid hw
  have d0 := hrd.out w hw
  have b0 : b < w.heap.size := World.block_lt_of_cell? w _ d0.1
  obtain ⟨d0, d1⟩ := d0
  have s1 := Lib.hid ((Sp.start hw).alloc (robj k.room none 0 0 (-1)))
  replace hn := Lib.hid hn
  obtain ⟨M, hM⟩ : ∃ M, M = w.heap.size := ⟨_, rfl⟩
  replace hM := Lib.hid hM
  clear hr hok hkk hlf hK
  go_enter Try.func25, Try.ntmps25
  go_wp2_with fail
  rw [← hM.out] at s1 ⊢
  have hin : Hid (RcpRel M k K w (.int .i64 0) (w.alloc (robj k.room none 0 0 (-1)))) := ⟨0, none, 0, [], [], rfl, Nat.zero_le _, by simp, by simp, SlRep.nil _ _, s1.out.perm (by simp)⟩
  go_loopw [4, 5] (fun v4 _ wr => RcpRel M k K w v4 wr) (fun v _ _ => n - (intOf v).toNat)
  case atStart => exact hin.out
  case round =>
    clear hin s1 d0 d1 b0
    obtain ⟨i, a1, c1, R1, Y, rfl, hi, hY, hYo, hR, s⟩ := hrel
    rw [← hn.out] at hi
    obtain ⟨q0, q1⟩ := hrd.out _ (s.own 0 rfl)
    have b0 : b < wr.heap.size := World.block_lt_of_cell? wr _ q0
    have ⟨o0, o1, o2⟩ := cells3 (s.one 1 rfl)
    have i0 : (0 : Int) ≤ (i : Int) := by omega
    by_cases hlt : i < n
    · have i1 : (i : Int) < (n : Int) := by omega
      obtain ⟨x, hxo, hxl, hxt, hxw⟩ := hrx.out i hlt
      obtain ⟨⟨g, rfl, k0, r0, r1, r2⟩, _⟩ := hxw wr (s.own 0 rfl)
      have glt := World.block_lt_of_cell? wr _ r0
      have i2 : (n : Int) ≤ (c : Int) := by omega
      replace hxw := Lib.hid hxw
      replace hxo := Lib.hid hxo
      have s2 := s.alloc (.cells #[strV x.nm, .slice x.a x.d.length x.c, iv x.n] 77)
      have s3 := s2.alloc (.cells #[] 5 (0, 0))
      simp only [World.size_alloc, List.cons_append, List.nil_append] at s2 s3
      obtain ⟨fb, hfb⟩ : ∃ fb, fb = wr.heap.size := ⟨_, rfl⟩
      replace hrx := Lib.hid hrx
      replace hfin := Lib.hid hfin
      go_upto_region 6 with fail
      go_upto_region 7 with (at_builtin; refine wpList_app rfl st_u8 _ _ rfl (by rfl) (by rfl) (SlRep.made _ _ (wr.heap.size + 1)) (s3.own 5 rfl) (rdBytes_cells (hxw.out _ (s3.own 0 rfl)).2) (by unfold maxLen; omega) (by omega) ?_; intro a5 c5 w5 H5 hv5 hst5; rw [Nat.zero_add, List.nil_append] at hv5; have s5 := s3.put 5 rfl hst5; simp only [List.set_cons_succ, List.set_cons_zero] at s5; have ⟨f0, f1, f2⟩ := cells3 (s5.one 4 rfl); have ffz := fun i => frz_of (i := i) (s5.one 4 rfl); have fbl := heap_lt (s5.one 4 rfl))
      have s6 : Sp w K _ [K, [(M, robj k.room a1 i c1 (-1))], R1, Y.flatMap Re.H, [(wr.heap.size, .cells #[strV x.nm, .slice a5 x.d.length c5, iv x.n] 77)], H5] := s5.store 4 (j := 1) rfl (.slice a5 x.d.length c5)
      rw [← hfb] at s6 ⊢
      refine Sp.gen s6 ?_
      clear s6 s5 s3 s2 f0 f1 f2 ffz fbl o0 o1 o2 q0 q1 b0 r0 r1 r2 glt hst5
      replace hfb := Lib.hid hfb
      intro W6 s6
      have ⟨_, o1, _⟩ := cells3 (s6.one 1 rfl)
      have ⟨f0, f1, f2⟩ := cells3 (s6.one 4 rfl)
      refine wp_region_J 10 (fun w' => w'.cell? ⟨M, 1, none⟩ = some (.slice a1 i c1) ∧ w'.cell? ⟨fb, 0, none⟩ = some (strV x.nm) ∧ w'.cell? ⟨fb, 1, none⟩ = some (.slice a5 x.d.length c5) ∧ w'.cell? ⟨fb, 2, none⟩ = some (iv x.n)) (by kernel_rfl) ?_ (fun hF => ?_)
      · (try dsimp only)
        all_goals (first | exact ⟨o1, f0, f1, f2⟩ | (simp [*, World.cell?_alloc_some]; done))
      refine wpAnyJ_take0 (i := 0) (oi := { dst := some 33, op := Go.Op.move (Go.Operand.tmp 3), type := 46, pos := "disk.go:209", after := #[], guard := none }) (v := ?_) rfl (by kernel_rfl) (by kernel_rfl) (by kernel_rfl) (by kernel_rfl) (fun _ _ _ h => h) (by first | exact fun _ => hF | exact fun _ => hF (by kernel_rfl)) (fun w => ?_) (by rfl) ?_
      rotate_left
      · first | (go_simp; done) | (go_simp; with_reducible rfl) | (go_split_ands; go_simp; done)
      try simp only [Act.put, List.setIfInBounds_toArray, List.set_cons_zero, List.set_cons_succ]
      refine wpAnyJ_take0 (i := 1) (oi := { dst := some 34, op := Go.Op.move (Go.Operand.tmp 3), type := 46, pos := "disk.go:209", after := #[], guard := none }) (v := ?_) rfl (by kernel_rfl) (by kernel_rfl) (by kernel_rfl) (by kernel_rfl) (fun _ _ _ h => h) (by first | exact fun _ => hF | exact fun _ => hF (by kernel_rfl)) (fun w => ?_) (by rfl) ?_
      rotate_left
      · first | (go_simp; done) | (go_simp; with_reducible rfl) | (go_split_ands; go_simp; done)
      try simp only [Act.put, List.setIfInBounds_toArray, List.set_cons_zero, List.set_cons_succ]
      refine wpAnyJ_take0 (i := 2) (oi := { dst := some 35, op := Go.Op.nilCheck (Go.Operand.tmp 34), type := 0, pos := "disk.go:209", after := #[{ on := 1, ground := Go.Ground.data }], guard := none }) (v := ?_) rfl (by kernel_rfl) (by kernel_rfl) (by kernel_rfl) (by kernel_rfl) (fun _ _ _ h => h) (by first | exact fun _ => hF | exact fun _ => hF (by kernel_rfl)) (fun w => ?_) (by rfl) ?_
      rotate_left
      · first | (go_simp; done) | (go_simp; with_reducible rfl) | (go_split_ands; go_simp; done)
      try simp only [Act.put, List.setIfInBounds_toArray, List.set_cons_zero, List.set_cons_succ]
      refine wpAnyJ_take0 (i := 3) (oi := { dst := some 36, op := Go.Op.fieldAddr 75 (Go.Operand.tmp 35) 1, type := 0, pos := "disk.go:209", after := #[{ on := 2, ground := Go.Ground.data }], guard := none }) (v := ?_) rfl (by kernel_rfl) (by kernel_rfl) (by kernel_rfl) (by kernel_rfl) (fun _ _ _ h => h) (by first | exact fun _ => hF | exact fun _ => hF (by kernel_rfl)) (fun w => ?_) (by rfl) ?_
      rotate_left
      · first | (go_simp; done) | (go_simp; with_reducible rfl) | (go_split_ands; go_simp; done)
      try simp only [Act.put, List.setIfInBounds_toArray, List.set_cons_zero, List.set_cons_succ]
      refine wpAnyJ_take (i := 4) (oi := { dst := some 37, op := Go.Op.load 73 (Go.Operand.tmp 36), type := 73, pos := "disk.go:209", after := #[{ on := 3, ground := Go.Ground.data }], guard := none }) (v := ?_) [10] rfl (by kernel_rfl) (by kernel_rfl) (by kernel_rfl) (by kernel_rfl) (by kernel_rfl) (fun _ _ _ h => h) (by first | exact hF | exact hF (by kernel_rfl)) (fun w hFw => ?_) (by rfl) ?_
      rotate_left
      · ((try dsimp only at hFw); first | (go_simp; done) | (go_simp; with_reducible rfl) | (go_split_ands; go_simp; done))
      try simp only [Act.put, List.setIfInBounds_toArray, List.set_cons_zero, List.set_cons_succ]
      refine wpAnyJ_take (i := 5) (oi := { dst := some 38, op := Go.Op.load 77 (Go.Operand.tmp 5), type := 77, pos := "disk.go:209", after := #[], guard := none }) (v := ?_) [10] rfl (by kernel_rfl) (by kernel_rfl) (by kernel_rfl) (by kernel_rfl) (by kernel_rfl) (fun _ _ _ h => h) (by first | exact hF | exact hF (by kernel_rfl)) (fun w hFw => ?_) (by rfl) ?_
      rotate_left
      · ((try dsimp only at hFw); first | (go_simp; done) | (go_simp; with_reducible rfl) | (go_split_ands; go_simp; done))
      try simp only [Act.put, List.setIfInBounds_toArray, List.set_cons_zero, List.set_cons_succ]
      refine wpAnyJ_ready (rs := [6]) (by kernel_rfl) (by simp) ?_
      refine AllJ.cons (o := { dst := some 39, op := Go.Op.buildSlice 73 1 #[(0, Go.Operand.tmp 38)], type := 73, pos := "disk.go:209", after := #[{ on := 5, ground := Go.Ground.data }], guard := none }) rfl (fun Kr hKr => ?_) ?_
      · go_simp
        refine hKr.out _ _ (fun hJ => ?_) (fun hF => ?_)
        · first
          | exact absurd hJ (by decide)
          | (clear hJ; (try dsimp only); all_goals (first | exact ⟨o1, f0, f1, f2⟩ | (simp [*, World.cell?_alloc_some]; done)))
        clear hKr
        try simp only [Act.put, List.setIfInBounds_toArray, List.set_cons_zero, List.set_cons_succ]
        refine wpAnyJ_ready (rs := [7]) (by kernel_rfl) (by simp) ?_
        refine AllJ.cons (o := { dst := some 40, op := Go.Op.call { callee := Go.Callee.builtin Go.Builtin.append, args := #[Go.Operand.tmp 37, Go.Operand.tmp 39], argTypes := #[73, 73] }, type := 73, pos := "disk.go:209", after := #[{ on := 4, ground := Go.Ground.data }, { on := 6, ground := Go.Ground.data }], guard := none }) rfl (fun Kr hKr => ?_) ?_
        · have s7 := s6.drew.alloc (.cells #[strV x.nm, .slice a5 x.d.length c5, iv x.n] 77)
          refine step_app rfl st_file _ _ (by rfl) (by rfl) (by rfl) hR (s7.own 2 rfl) (rdCells_block (heap_alloc_new _ _) rfl (by simp [Value.oneCell'])) (by unfold maxLen; omega) (by omega) ?_
          intro a8 c8 w8 R8 hv8 hst8
          have s8 := s7.put 2 rfl hst8
          simp only [List.cons_append, List.nil_append, List.set_cons_succ, List.set_cons_zero] at s8
          have ⟨_, o1, _⟩ := cells3 (s8.one 1 rfl)
          have ⟨f0, f1, f2⟩ := cells3 (s8.one 4 rfl)
          have fz := fun i => frz_of (i := i) (s8.one 1 rfl)
          refine hKr.out _ _ (fun hJ => ?_) (fun hF => ?_)
          · first
            | exact absurd hJ (by decide)
            | (clear hJ; (try dsimp only); all_goals (first | exact ⟨o1, f0, f1, f2⟩ | (simp [*, World.cell?_alloc_some]; done)))
          clear hKr
          try simp only [Act.put, List.setIfInBounds_toArray, List.set_cons_zero, List.set_cons_succ]
          refine wpAnyJ_take0 (i := 8) (oi := { dst := some 41, op := Go.Op.nilCheck (Go.Operand.tmp 33), type := 0, pos := "disk.go:209", after := #[{ on := 0, ground := Go.Ground.data }, { on := 0, ground := Go.Ground.phase }, { on := 1, ground := Go.Ground.phase }, { on := 2, ground := Go.Ground.phase }, { on := 3, ground := Go.Ground.phase }, { on := 4, ground := Go.Ground.phase }, { on := 5, ground := Go.Ground.phase }, { on := 6, ground := Go.Ground.phase }, { on := 7, ground := Go.Ground.phase }], guard := none }) (v := ?_) rfl (by kernel_rfl) (by kernel_rfl) (by kernel_rfl) (by kernel_rfl) (fun _ _ _ h => h) (by first | exact fun _ => hF | exact fun _ => hF (by kernel_rfl)) (fun w => ?_) (by rfl) ?_
          rotate_left
          · first | (go_simp; done) | (go_simp; with_reducible rfl) | (go_split_ands; go_simp; done)
          try simp only [Act.put, List.setIfInBounds_toArray, List.set_cons_zero, List.set_cons_succ]
          refine wpAnyJ_take0 (i := 9) (oi := { dst := some 42, op := Go.Op.fieldAddr 75 (Go.Operand.tmp 41) 1, type := 0, pos := "disk.go:209", after := #[{ on := 8, ground := Go.Ground.data }, { on := 0, ground := Go.Ground.phase }, { on := 1, ground := Go.Ground.phase }, { on := 2, ground := Go.Ground.phase }, { on := 3, ground := Go.Ground.phase }, { on := 4, ground := Go.Ground.phase }, { on := 5, ground := Go.Ground.phase }, { on := 6, ground := Go.Ground.phase }, { on := 7, ground := Go.Ground.phase }], guard := none }) (v := ?_) rfl (by kernel_rfl) (by kernel_rfl) (by kernel_rfl) (by kernel_rfl) (fun _ _ _ h => h) (by first | exact fun _ => hF | exact fun _ => hF (by kernel_rfl)) (fun w => ?_) (by rfl) ?_
          rotate_left
          · first | (go_simp; done) | (go_simp; with_reducible rfl) | (go_split_ands; go_simp; done)
          try simp only [Act.put, List.setIfInBounds_toArray, List.set_cons_zero, List.set_cons_succ]
          refine wpAnyJ_ready (rs := [10]) (by kernel_rfl) (by simp) ?_
          refine AllJ.cons (o := { dst := none, op := Go.Op.store 73 (Go.Operand.tmp 42) (Go.Operand.tmp 40), type := 0, pos := "disk.go:209", after := #[{ on := 9, ground := Go.Ground.data }, { on := 7, ground := Go.Ground.data }, { on := 7, ground := Go.Ground.chain }, { on := 0, ground := Go.Ground.phase }, { on := 1, ground := Go.Ground.phase }, { on := 2, ground := Go.Ground.phase }, { on := 3, ground := Go.Ground.phase }, { on := 4, ground := Go.Ground.phase }, { on := 5, ground := Go.Ground.phase }, { on := 6, ground := Go.Ground.phase }, { on := 7, ground := Go.Ground.phase }], guard := none }) rfl (fun Kr hKr => ?_) ?_
          · go_simp
            refine hKr.out _ _ (fun hJ => ?_) (fun hF => ?_)
            · first
              | exact absurd hJ (by decide)
              | (clear hJ; (try dsimp only); all_goals (first | exact ⟨o1, f0, f1, f2⟩ | (simp [*, World.cell?_alloc_some]; done)))
            clear hKr
            try simp only [Act.put, List.setIfInBounds_toArray, List.set_cons_zero, List.set_cons_succ]
            refine wpAnyJ_done (by kernel_rfl) ?_ _
            go_wp2_with fail
            have s9 := ((s8.store 1 (j := 1) rfl (.slice a8 (i + 1) c8)).forget 4 rfl).forget 6 rfl
            refine ⟨⟨i + 1, a8, c8, R8, Y ++ [⟨x.nm, a5, c5, x.d, x.n, H5⟩], by go_num, by rw [← hn.out]; exact hlt, ?_, ?_, ?_, ?_⟩, by simp [intOf]; omega⟩
            · rw [List.map_append, hY, hxt]; rfl
            · intro y hy
              rcases List.mem_append.1 hy with hy | hy
              · exact hYo y hy
              · rw [List.mem_singleton] at hy; subst hy; exact hv5
            · rw [List.flatMap_append]; simpa [Re.cells] using hv8
            · refine s9.perm ?_
              rw [List.flatMap_append]
              simp
          exact AllJ.nil
        exact AllJ.nil
      exact AllJ.nil
    · have i1 : (n : Int) ≤ (i : Int) := by omega
      have hie : i = n := by omega
      have hend : Hid (∃ (d : Nat) (H' : Heaplet), Ending.returned (pt M) = .returned (pt d) ∧ RkRep d (cpN k) H' ∧ Step w K wr (K ++ H')) := by
        subst hie
        exact hfin.out M a1 c1 R1 Y wr hY hYo hR s
      clear hie hlt
      go_wp2_with fail
      go_ret
      exact hend.out
end Go.Proofs.Ytebmbfiiadffjaa
