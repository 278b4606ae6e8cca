import Derived.Test.YtdkjgkbddehaiaaSeedA
namespace Go.Proofs.Ytdkjgkbddehaiaa
open Go.RowKit
attribute [local go_sem ↓] Go.wp_at_zero Go.wp_at_succ

theorem order_no (n : Int) (w : World) (h : many n = false) : Calls Try.prog 23 #[.int .i64 n] w fun e w' => e = .returned (.tuple #[.slice none 0 0, .int .i64 1]) ∧ w = w' := by
  go_enter Try.func23, Try.ntmps23
  go_wp2_with (go_at_call 35; refine (isMany_any n _).mono ?_; rintro e w' ⟨rfl, rfl⟩)
  go_ret2
  exact ⟨rfl, rfl⟩

/-- What Order hands back: its row. -/
def OrdPost (l : List Nat) (w : World) (e : Ending) (w' : World) : Prop :=
  ∃ a c H, e = .returned (.tuple #[.slice a l.length c, .int .i64 0]) ∧ SlRep 3 1 a l.length c (l.map iv) H ∧ Step w [] w' H
theorem grown_at (l : List Nat) (m : Nat) (a : Option Addr) (c B : Nat) (H : Heaplet) (w : World) (hm : l.length = m) (hl : m ≤ 64) (hx : ∀ x ∈ l, 1 ≤ x ∧ x ≤ m) (hr : SlRep 3 1 a m c (l.map iv) H) (hw : Own w ((B, .cells #[.slice a m c] 22 (0, 0)) :: H)) :
    Calls Try.prog 37 #[.slice a m c, .func (.func 38) #[] #[.pointer (some ⟨B, 0, none⟩)]] w (GrowPost l w) := by
  subst hm; exact grown_any l a c B H w hl hx hr hw
theorem Step.keep1 {w w' : World} {H A B : Heaplet} {e : Nat × Obj} (h : Step w H w' (e :: (A ++ B))) : Step w H w' (e :: B) :=
  Step.forget (A := e :: B) (B := A) (h.perm (List.Perm.refl _) (List.Perm.cons _ List.perm_append_comm))
def OrdRel (n B : Nat) (w wr : World) : Prop :=
  ∃ j a m c H, j ≤ lg n ∧ (full j).length = m ∧ SlRep 3 1 a m c ((full j).map iv) H ∧ Step w [] wr ((B, .cells #[.slice a m c] 22 (0, 0)) :: H)
def lenAt (B : Nat) (w : World) : Nat := match w.cell? ⟨B, 0, none⟩ with | some (.slice _ n _) => n | _ => 0
theorem lenAt_of {B : Nat} {w : World} {a : Option Addr} {n c : Nat} (h : w.cell? ⟨B, 0, none⟩ = some (.slice a n c)) : lenAt B w = n := by unfold lenAt; rw [h]
/-- The first k places blanked where they lie above n. -/
def blank (n k : Nat) (l : List Nat) : List Nat := (l.take k).map (fun s => if s ≤ n then s else 0) ++ l.drop k
theorem blank_all {n : Nat} {l : List Nat} : blank n l.length l = l.map (fun s => if s ≤ n then s else 0) := by simp [blank]
theorem blank_len (n k : Nat) (l : List Nat) : (blank n k l).length = l.length := by simp [blank]; omega
theorem blank_get {n k : Nat} {l : List Nat} (h : k < l.length) : (blank n k l)[k]? = some l[k] := by
  unfold blank
  rw [List.getElem?_append_right (by simp [List.length_take]; omega)]
  simp [List.length_take, Nat.min_eq_left (Nat.le_of_lt h), List.getElem?_drop]
theorem blank_succ {n k : Nat} {l : List Nat} (h : k < l.length) : blank n (k + 1) l = (blank n k l).set k (if l[k] ≤ n then l[k] else 0) := by
  apply List.ext_getElem?
  intro j
  rw [List.getElem?_set]
  unfold blank
  simp only [List.length_append, List.length_map, List.length_take, List.length_drop]
  rcases Nat.lt_trichotomy j k with h1 | h1 | h1
  · rw [if_neg (by omega), List.getElem?_append_left (by simp; omega), List.getElem?_append_left (by simp; omega)]
    simp [List.getElem?_take, h1, show j < k + 1 by omega]
  · subst h1
    rw [if_pos rfl, if_pos (by omega), List.getElem?_append_left (by simp; omega)]
    simp [List.getElem?_take, h]
  · rw [if_neg (by omega), List.getElem?_append_right (by simp; omega), List.getElem?_append_right (by simp; omega)]
    simp only [List.length_map, List.length_take, List.getElem?_drop]
    congr 1; omega
theorem SlRep.setOne {E : Nat} {g n c : Nat} {xs : List Value} {H : Heaplet} (h : SlRep E 1 (some ⟨g, 0, none⟩) n c xs H) {i : Nat} (hi : i < n) (v : Value) :
    ∃ cur, H = [(g, .cells cur E (0, 0))] ∧ SlRep E 1 (some ⟨g, 0, none⟩) n c (xs.set i v) [(g, .cells (cur.setIfInBounds i v) E (0, 0))] := by
  obtain ⟨hl, ⟨h, _⟩ | ⟨g', cur, h, rfl, h2, h3, h4, h5⟩⟩ := h
  · cases h
  · cases h
    refine ⟨cur, rfl, by rw [List.length_set]; exact hl, .inr ⟨g, _, rfl, rfl, h2, h3, by simp [h4], ?_⟩⟩
    rw [Array.toList_setIfInBounds, ← h5, List.take_set]
theorem set_self_of {l : List Nat} {k x : Nat} (h : l[k]? = some x) : l.set k x = l := by
  apply List.ext_getElem?
  intro j
  rw [List.getElem?_set]
  split
  · rename_i e; subst e
    obtain ⟨hk, hx⟩ := List.getElem?_eq_some_iff.1 h
    rw [if_pos hk, h]
  · rfl
def BlRel (n B m : Nat) (L : List Nat) (a : Option Addr) (c : Nat) (w : World) (v : Value) (wr : World) : Prop :=
  ∃ k H, k ≤ m ∧ v = .int .i64 (k : Nat) ∧ SlRep 3 1 a m c ((blank n k L).map iv) H ∧ Step w [] wr ((B, .cells #[.slice a m c] 22 (0, 0)) :: H)
set_option maxHeartbeats 1000000 in
set_option maxRecDepth 100000 in
theorem order_yes (n : Nat) (w : World) (h1 : 2 ≤ n) (h2 : n ≤ 64) : Calls Try.prog 23 #[.int .i64 n] w (OrdPost (ordL n) w) := by
  have hm : many (n : Int) = true := by simp [many]; omega
  have hl := lg_le n h2
  have b2 : (n : Int) ≤ 64 := by omega
  go_enter Try.func23, Try.ntmps23
  go_wp2_with (go_at_call 35; refine (isMany_any n _).mono ?_; rintro e w' ⟨rfl, rfl⟩)
  clear hm
  have s0 := ((Step.refl (Own.nil w)).alloc (.cells #[.int .i64 1] 3)).alloc (.cells #[.slice (some ⟨w.heap.size, 0, none⟩) 1 1] 22)
  rw [World.size_alloc] at s0
  obtain ⟨B, hB⟩ : ∃ B, B = w.heap.size + 1 := ⟨_, rfl⟩
  rw [← hB] at s0 ⊢
  obtain ⟨S, hS⟩ : ∃ S, S = 2 ^ lg n := ⟨_, rfl⟩
  have hS6 : S ≤ 64 := by rw [hS]; exact Nat.pow_le_pow_right (by omega) hl
  replace hS := Lib.hid hS
  replace s0 := Lib.hid s0
  clear hB
  go_loopw [] (fun wr => OrdRel n B w wr) (fun wr => S - lenAt B wr)
  case atStart => exact ⟨0, _, 1, 1, _, Nat.zero_le _, rfl, ⟨rfl, .inr ⟨w.heap.size, #[.int .i64 1], rfl, rfl, Nat.le_refl _, by unfold maxLen; omega, rfl, rfl⟩⟩, s0.out⟩
  case round =>
    clear s0
    obtain ⟨j, a, m, c, H, hj, hm, hr, hs⟩ := hrel
    have hc := cells1 hs.own.h0
    have hmj : m = 2 ^ j := by rw [← hm, full_len]
    have hmS : m ≤ S := by rw [hmj, hS.out]; exact Nat.pow_le_pow_right (by omega) hj
    replace hm := Lib.hid hm
    replace hmj := Lib.hid hmj
    have fB := fun i => frz_of (i := i) hs.own.h0
    go_wp2_with fail
    by_cases hlt : m < S
    · have e1 : decide (m < S) = true := decide_eq_true hlt
      refine wp_region_J 4 (fun w' => w' = wr.drew) (by kernel_rfl) ?_ (fun hF => ?_)
      · (try dsimp only)
        all_goals (rfl)
      refine wpAnyJ_take (i := 0) (oi := { dst := some 11, op := Go.Op.load 22 (Go.Operand.tmp 4), type := 22, pos := "seeding.go:23", after := #[], guard := none }) (v := ?_) [1, 4] rfl (by kernel_rfl) (by kernel_rfl) (by kernel_rfl) (by kernel_rfl) (by kernel_rfl) (fun _ _ _ h => h) (by first | exact hF | exact hF (by kernel_rfl)) (fun w hFw => ?_) (by rfl) ?_
      rotate_left
      · (try dsimp only at hFw)
        first | (go_simp; done) | (go_simp; with_reducible rfl) | (go_split_ands; go_simp; done)
      try simp only [Act.put, List.setIfInBounds_toArray, List.set_cons_zero, List.set_cons_succ]
      refine wpAnyJ_take (i := 1) (oi := { dst := some 12, op := Go.Op.call { callee := Go.Callee.builtin Go.Builtin.len, args := #[Go.Operand.tmp 11], argTypes := #[22] }, type := 3, pos := "seeding.go:23", after := #[{ on := 0, ground := Go.Ground.data }], guard := none }) (v := ?_) [4] rfl (by kernel_rfl) (by kernel_rfl) (by kernel_rfl) (by kernel_rfl) (by kernel_rfl) (fun _ _ _ h => h) (by first | exact hF | exact hF (by kernel_rfl)) (fun w hFw => ?_) (by rfl) ?_
      rotate_left
      · (try dsimp only at hFw)
        first | (go_simp; done) | (go_simp; with_reducible rfl) | (go_split_ands; go_simp; done)
      try simp only [Act.put, List.setIfInBounds_toArray, List.set_cons_zero, List.set_cons_succ]
      refine wpAnyJ_take (i := 2) (oi := { dst := some 13, op := Go.Op.move (Go.Operand.tmp 0), type := 3, pos := "seeding.go:23", after := #[], guard := none }) (v := ?_) [3, 4] rfl (by kernel_rfl) (by kernel_rfl) (by kernel_rfl) (by kernel_rfl) (by kernel_rfl) (fun _ _ _ h => h) (by first | exact hF | exact hF (by kernel_rfl)) (fun w hFw => ?_) (by rfl) ?_
      rotate_left
      · (try dsimp only at hFw)
        first | (go_simp; done) | (go_simp; with_reducible rfl) | (go_split_ands; go_simp; done)
      try simp only [Act.put, List.setIfInBounds_toArray, List.set_cons_zero, List.set_cons_succ]
      refine wpAnyJ_ready (rs := [3]) (by kernel_rfl) (by simp) ?_
      refine AllJ.cons (o := { dst := some 14, op := Go.Op.call { callee := Go.Callee.value (Go.Operand.func 36), args := #[Go.Operand.tmp 13], argTypes := #[3] }, type := 3, pos := "seeding.go:23", after := #[{ on := 2, ground := Go.Ground.data }], guard := none }) rfl (fun Kr hKr => ?_) ?_
      · (go_simp; refine (size_any n S _ h1 h2 hS.out).mono ?_; rintro e w1 ⟨rfl, rfl⟩)
        refine hKr.out _ _ (fun hJ => ?_) (fun hF => ?_)
        · first
          | exact absurd hJ (by decide)
          | (clear hJ; (try dsimp only); all_goals (rfl))
        clear hKr
        try simp only [Act.put, List.setIfInBounds_toArray, List.set_cons_zero, List.set_cons_succ]
        refine wpAnyJ_ready (rs := [4]) (by kernel_rfl) (by simp) ?_
        refine AllJ.cons (o := { dst := some 15, op := Go.Op.binOp Go.BinOp.lss 3 (Go.Operand.tmp 12) (Go.Operand.tmp 14) 3, type := 4, pos := "seeding.go:23", after := #[{ on := 1, ground := Go.Ground.data }, { on := 3, ground := Go.Ground.data }], guard := none }) rfl (fun Kr hKr => ?_) ?_
        · go_simp
          refine hKr.out _ _ (fun hJ => ?_) (fun hF => ?_)
          · first
            | exact absurd hJ (by decide)
            | (clear hJ; (try dsimp only); all_goals (rfl))
          clear hKr
          try simp only [Act.put, List.setIfInBounds_toArray, List.set_cons_zero, List.set_cons_succ]
          refine wpAnyJ_done (by kernel_rfl) ?_ _
          go_wp2_with fail
          refine (grown_at (full j) m a c B H _ hm.out (by omega) (by have := full_le j (by omega); rw [← full_len j, hm.out] at this; exact this) hr hs.own.drew).mono ?_
          rintro e w1 ⟨a', c', H', rfl, hr', hst⟩
          have hs' := (hs.drew.call0 hst).store0 (i := 0) (.slice a' (grow (full j)).length c')
          have hc' := cells1 (hs.drew.call0 hst).own.h0
          have fB' := frz_of (i := 0) (hs.drew.call0 hst).own.h0
          have hs' := Lib.hid hs'.keep1
          have hj2 : j < lg n := by
            have h1 := hmj.out; have h2 := hS.out
            rw [h1, h2] at hlt
            exact (Nat.pow_lt_pow_iff_right (by omega)).1 hlt
          have hgl : (grow (full j)).length = 2 * m := by
            have := full_len (j + 1); rw [full, Nat.pow_succ] at this; rw [this, ← hmj.out]; omega
          rw [hgl] at hr' hs' ⊢
          replace hr' := Lib.hid hr'
          replace hgl := Lib.hid hgl
          go_wp2_with fail
          refine ⟨⟨j + 1, a', 2 * m, c', H', by omega, hgl.out, hr'.out, hs'.out⟩, ?_⟩
          rw [lenAt_of (cells1 hs'.out.own.h0), lenAt_of hc]
          have hm1 : 1 ≤ m := by rw [hmj.out]; exact Nat.one_le_two_pow
          omega
        exact AllJ.nil
      exact AllJ.nil
    · have e1 : decide (m < S) = false := decide_eq_false hlt
      refine wp_region_J 4 (fun w' => w' = wr.drew) (by kernel_rfl) ?_ (fun hF => ?_)
      · (try dsimp only)
        all_goals (rfl)
      refine wpAnyJ_take (i := 0) (oi := { dst := some 11, op := Go.Op.load 22 (Go.Operand.tmp 4), type := 22, pos := "seeding.go:23", after := #[], guard := none }) (v := ?_) [1, 4] rfl (by kernel_rfl) (by kernel_rfl) (by kernel_rfl) (by kernel_rfl) (by kernel_rfl) (fun _ _ _ h => h) (by first | exact hF | exact hF (by kernel_rfl)) (fun w hFw => ?_) (by rfl) ?_
      rotate_left
      · (try dsimp only at hFw)
        first | (go_simp; done) | (go_simp; with_reducible rfl) | (go_split_ands; go_simp; done)
      try simp only [Act.put, List.setIfInBounds_toArray, List.set_cons_zero, List.set_cons_succ]
      refine wpAnyJ_take (i := 1) (oi := { dst := some 12, op := Go.Op.call { callee := Go.Callee.builtin Go.Builtin.len, args := #[Go.Operand.tmp 11], argTypes := #[22] }, type := 3, pos := "seeding.go:23", after := #[{ on := 0, ground := Go.Ground.data }], guard := none }) (v := ?_) [4] rfl (by kernel_rfl) (by kernel_rfl) (by kernel_rfl) (by kernel_rfl) (by kernel_rfl) (fun _ _ _ h => h) (by first | exact hF | exact hF (by kernel_rfl)) (fun w hFw => ?_) (by rfl) ?_
      rotate_left
      · (try dsimp only at hFw)
        first | (go_simp; done) | (go_simp; with_reducible rfl) | (go_split_ands; go_simp; done)
      try simp only [Act.put, List.setIfInBounds_toArray, List.set_cons_zero, List.set_cons_succ]
      refine wpAnyJ_take (i := 2) (oi := { dst := some 13, op := Go.Op.move (Go.Operand.tmp 0), type := 3, pos := "seeding.go:23", after := #[], guard := none }) (v := ?_) [3, 4] rfl (by kernel_rfl) (by kernel_rfl) (by kernel_rfl) (by kernel_rfl) (by kernel_rfl) (fun _ _ _ h => h) (by first | exact hF | exact hF (by kernel_rfl)) (fun w hFw => ?_) (by rfl) ?_
      rotate_left
      · (try dsimp only at hFw)
        first | (go_simp; done) | (go_simp; with_reducible rfl) | (go_split_ands; go_simp; done)
      try simp only [Act.put, List.setIfInBounds_toArray, List.set_cons_zero, List.set_cons_succ]
      refine wpAnyJ_ready (rs := [3]) (by kernel_rfl) (by simp) ?_
      refine AllJ.cons (o := { dst := some 14, op := Go.Op.call { callee := Go.Callee.value (Go.Operand.func 36), args := #[Go.Operand.tmp 13], argTypes := #[3] }, type := 3, pos := "seeding.go:23", after := #[{ on := 2, ground := Go.Ground.data }], guard := none }) rfl (fun Kr hKr => ?_) ?_
      · (go_simp; refine (size_any n S _ h1 h2 hS.out).mono ?_; rintro e w1 ⟨rfl, rfl⟩)
        refine hKr.out _ _ (fun hJ => ?_) (fun hF => ?_)
        · first
          | exact absurd hJ (by decide)
          | (clear hJ; (try dsimp only); all_goals (rfl))
        clear hKr
        try simp only [Act.put, List.setIfInBounds_toArray, List.set_cons_zero, List.set_cons_succ]
        refine wpAnyJ_ready (rs := [4]) (by kernel_rfl) (by simp) ?_
        refine AllJ.cons (o := { dst := some 15, op := Go.Op.binOp Go.BinOp.lss 3 (Go.Operand.tmp 12) (Go.Operand.tmp 14) 3, type := 4, pos := "seeding.go:23", after := #[{ on := 1, ground := Go.Ground.data }, { on := 3, ground := Go.Ground.data }], guard := none }) rfl (fun Kr hKr => ?_) ?_
        · go_simp
          refine hKr.out _ _ (fun hJ => ?_) (fun hF => ?_)
          · first
            | exact absurd hJ (by decide)
            | (clear hJ; (try dsimp only); all_goals (rfl))
          clear hKr
          try simp only [Act.put, List.setIfInBounds_toArray, List.set_cons_zero, List.set_cons_succ]
          refine wpAnyJ_done (by kernel_rfl) ?_ _
          go_wp2_with fail
          have hjl : j = lg n := by
            have h1 := hmj.out; have h2 := hS.out
            rcases Nat.lt_or_eq_of_le hj with h | h
            · have := Nat.pow_lt_pow_right (a := 2) (by omega) h; omega
            · exact h
          subst hjl
          have hs0 := Lib.hid hs.drew
          have b3 : (m : Int) ≤ 64 := by omega
          clear hs hc fB hF
          go_loopw [21] (fun v wr' => BlRel n B m (full (lg n)) a c w v wr') (fun v _ => m - (intOf v).toNat)
          case atStart => exact ⟨0, H, Nat.zero_le _, rfl, by simpa [blank] using hr, hs0.out⟩
          case round =>
            clear hr hs0
            obtain ⟨k, H, hk, rfl, hr, hs⟩ := hrel
            have hc := cells1 hs.own.h0
            have b4 : (0 : Int) ≤ (k : Int) := by omega
            by_cases hkm : k < m
            · have hkl : k < (full (lg n)).length := by rw [hm.out]; exact hkm
              obtain ⟨g, rfl, hcg, -⟩ := slRep_at hr hs.own.tail (i := k) (v := .int .i64 ((full (lg n))[k] : Nat)) (by rw [List.getElem?_map, blank_get hkl]; rfl)
              have b5 : (k : Int) < (m : Int) := by omega
              simp only [Nat.zero_add] at hcg
              have hle := (full_le (lg n) hl _ (List.getElem_mem hkl)).2
              have h26 : 2 ^ lg n ≤ 64 := by rw [← hS.out]; exact hS6
              obtain ⟨x, hx⟩ : ∃ x, (full (lg n))[k] = x := ⟨_, rfl⟩
              rw [hx] at hcg hle
              have b6 : (x : Int) ≤ 64 := by omega
              replace hx := Lib.hid hx
              clear hle
              by_cases hxn : n < x
              · have b7 : (n : Int) < (x : Int) := by omega
                obtain ⟨cur, rfl, hr'⟩ := hr.setOne hkm (.int .i64 0)
                have hbs : Hid ((blank n k (full (lg n))).set k 0 = blank n (k + 1) (full (lg n))) := by
                  show _ = _
                  rw [blank_succ hkl, hx.out, if_neg (by omega)]
                have fg := fun i => frz_of (i := i) hs.own.h1
                replace hr' := Lib.hid hr'
                go_wp2_with fail
                refine ⟨⟨k + 1, _, by omega, by go_num, ?_, hs.store1 (i := k) _⟩, by simp [intOf]; omega⟩
                have := hr'.out
                rwa [show (Value.int .i64 0) = iv 0 from rfl, ← List.map_set, hbs.out] at this
              · have b7 : (x : Int) ≤ (n : Int) := by omega
                have hbs : Hid (blank n (k + 1) (full (lg n)) = blank n k (full (lg n))) := by
                  show _ = _
                  rw [blank_succ hkl, hx.out, if_pos (by omega), ← hx.out]
                  exact set_self_of (blank_get hkl)
                go_wp2_with fail
                exact ⟨⟨k + 1, H, by omega, by go_num, by rw [hbs.out]; exact hr, hs⟩, by simp [intOf]; omega⟩
            · have hkl : k = m := by omega
              have hbl : Hid (blank n k (full (lg n)) = ordL n) := by
                show _ = _
                rw [hkl, ← hm.out, blank_all]; rfl
              rw [hbl.out] at hr
              replace hkl := Lib.hid hkl
              go_wp2_with fail
              go_ret2
              have hln : (ordL n).length = m := by rw [ordL_len, ← hS.out]; omega
              refine ⟨a, c, H, by rw [hln]; rfl, by rw [hln]; exact hr, hs.tail⟩
        exact AllJ.nil
      exact AllJ.nil
end Go.Proofs.Ytdkjgkbddehaiaa
