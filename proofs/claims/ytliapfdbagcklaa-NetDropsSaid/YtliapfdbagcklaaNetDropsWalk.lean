import Derived.Test.YtliapfdbagcklaaNetTwiceWalk
namespace Go.Proofs.Ytliapfdbagcklaa
open Go.RowKit
attribute [local go_sem ↓] Go.wp_at_zero Go.wp_at_succ

theorem and_3 (x : Int) : bits .and .i64 x 3 = x % 4 := by
  show IntKind.i64.wrap ((BitVec.ofInt 64 x &&& BitVec.ofInt 64 3).toNat : Int) = _
  have h1 : (BitVec.ofInt 64 3).toNat = 2 ^ 2 - 1 := by decide
  rw [BitVec.toNat_and, h1, Nat.and_two_pow_sub_one_eq_mod, BitVec.toNat_ofInt, IntKind.wrap_i64]
  omega
theorem st_int : SlTy Try.prog 37 3 1 8 (.int .i64 0) := ⟨by kernel_rfl, by kernel_rfl, rfl, by decide⟩

abbrev Key := Int × Int × List UInt8
def keyIt (x : It) : Key := (x.f, x.t, x.d)
def keyAt (l : List Int) (j : Nat) : Key := (l.getD j 0 % 4, l.getD j 0 / 4 % 4, [UInt8.ofNat j])
def keyHit (node : Int) (k : Key) : Bool := !(k.1 == node || k.2.1 == node)
def stay (node : Int) (l : List Int) (k : Nat) : List Nat := (List.range k).filter (fun j => keyHit node (keyAt l j))
theorem stay_kept {node : Int} {l : List Int} {its : List It} {k : Nat} (h : its.map keyIt = (List.range k).map (keyAt l)) : (kept node its).map keyIt = (stay node l k).map (keyAt l) := by
  have e1 : kept node its = its.filter (keyHit node ∘ keyIt) := rfl
  have e2 : stay node l k = (List.range k).filter (keyHit node ∘ keyAt l) := rfl
  rw [e1, e2, ← List.filter_map, ← List.filter_map, h]
theorem stay_succ_yes {node : Int} {l : List Int} {k : Nat} (h : keyHit node (keyAt l k) = true) : stay node l (k + 1) = stay node l k ++ [k] := by
  unfold stay; rw [List.range_succ, List.filter_append]; simp [h]
theorem stay_succ_no {node : Int} {l : List Int} {k : Nat} (h : keyHit node (keyAt l k) = false) : stay node l (k + 1) = stay node l k := by
  unfold stay; rw [List.range_succ, List.filter_append]; simp [h]
theorem stay_lt {node : Int} {l : List Int} {k j : Nat} (h : j ∈ stay node l k) : j < k := by
  unfold stay at h; exact List.mem_range.1 (List.mem_filter.1 h).1
theorem stay_len (node : Int) (l : List Int) (k : Nat) : (stay node l k).length ≤ k := by
  unfold stay; exact Nat.le_trans (List.length_filter_le _ _) (by simp)
theorem rd_byte {W : World} {D k : Nat} {T : TypeId} {f : Nat × Nat} (h : W.heap[D]? = some (.cells #[.int .u8 k] T f)) (hk : k < 256) : RdBytes W (some ⟨D, 0, none⟩) 1 1 [UInt8.ofNat k] := by
  refine ⟨rfl, .inr ⟨_, rfl, Nat.le_refl _, by unfold maxLen; omega, fun i x hi => ?_⟩⟩
  match i with
  | 0 =>
    simp at hi; subst hi
    rw [Addr.add_zero', cells1 h]
    have : (UInt8.ofNat k).toNat = k := by rw [UInt8.toNat_ofNat']; exact Nat.mod_eq_of_lt hk
    unfold u8; rw [this]
  | i + 1 => simp at hi
def DropEqPost (b n m : Nat) (node : Int) (l : List It) (w : World) (H : Heaplet) (e : Ending) (w' : World) : Prop := ∃ H', e = .returned (.int .i64 ((n : Int) - m)) ∧ NetRep 55 b (kept node l) H' ∧ Step w H w' H'
theorem drop_eq (b : Nat) (l : List It) (H : Heaplet) (node : Int) (n m : Nat) (w : World) (hn : NetRep 55 b l H) (hw : Own w H) (hl : l.length = n) (hn1 : n ≤ 1024) (hk : (kept node l).length = m) :
    Calls Try.prog 17 #[.pointer (some ⟨b, 0, none⟩), .int .i64 node] w (DropEqPost b n m node l w H) := by
  subst hl hk
  exact (drop_any b l H node w hn hw hn1)
theorem slRep_at {E : Nat} {a : Option Addr} {n c : Nat} {xs : List Value} {H : Heaplet} (h : SlRep E 1 a n c xs H) {w : World} (hw : Own w H) {i : Nat} {v : Value} (hi : xs[i]? = some v) : ∃ g, a = some ⟨g, 0, none⟩ ∧ w.cell? ⟨g, 0 + i, none⟩ = some v ∧ n ≤ c := by
  obtain ⟨hl, ⟨rfl, rfl, rfl, rfl⟩ | ⟨g, cur, rfl, rfl, h2, h3, h4, h5⟩⟩ := h
  · simp at hl; subst hl; simp at hi
  · refine ⟨g, rfl, cell_of hw.head ?_, h2⟩
    rw [← h5, List.getElem?_take] at hi
    split at hi
    · simpa using hi
    · cases hi
theorem Step.drop_mid {w w' : World} {H A B C : Heaplet} (h : Step w H w' ((A ++ B) ++ C)) : Step w H w' (A ++ C) :=
  Step.forget (B := B) (h.perm (List.Perm.refl _) (by rw [List.append_assoc, List.append_assoc]; exact (List.perm_append_comm).append_left A))
def DrRel2 (node : Int) (l : List Int) (b : Nat) (Hw : Heaplet) (w : World) (v : Value) (wr : World) : Prop :=
  ∃ (k : Nat) (its : List It) (H : Heaplet), k ≤ (stay node l l.length).length ∧ v = .int .i64 k ∧ its.map keyIt = ((stay node l l.length).drop k).map (keyAt l) ∧ NetRep 55 b its H ∧ Step w [] wr (H ++ Hw)
def DrRel1 (node : Int) (l : List Int) (b : Nat) (w : World) (v6 v7 : Value) (wr : World) : Prop :=
  ∃ (k : Nat) (its : List It) (H Hw : Heaplet) (aw : Option Addr) (cw : Nat), k ≤ l.length ∧ v7 = .int .i64 k ∧ v6 = .slice aw (stay node l k).length cw ∧ its.map keyIt = (List.range k).map (keyAt l) ∧
    SlRep 3 1 aw (stay node l k).length cw ((stay node l k).map fun (j : Nat) => Value.int .i64 j) Hw ∧ NetRep 55 b its H ∧ Step w [] wr (H ++ Hw)

set_option maxHeartbeats 4000000 in
set_option maxRecDepth 100000 in
theorem netDrops_walk (a : Option Addr) (n c : Nat) (l : List Int) (node : Int) (w : World) (h : RdInts w a n c l) (_ : l.length * 8 ≤ 140737488351232) (_ : (Lit.int .i64 node).wf = true) :
    Calls Try.prog 5 #[.slice a n c, .int .i64 node] w fun e w' => e = .returned (.bool true) ∧ Below w.heap.size w w' := by
  suffices hs : Calls Try.prog 5 #[.slice a n c, .int .i64 node] w (LawPost w) from hs.mono fun e w' hp => ⟨hp.1, hp.2.nil_below⟩
  have hn := h.1
  subst hn
  replace h := Lib.hid h
  by_cases h1 : 100 < (l.length : Int)
  · go_enter Try.func5, Try.ntmps5
    go_wp2_with fail
    refine (known_any _).mono ?_
    rintro e w3 ⟨rfl, hs3⟩
    go_wp2
    go_ret
    exact ⟨rfl, hs3⟩
  · go_enter Try.func5, Try.ntmps5
    go_wp2_with fail
    refine (new_any _).mono ?_
    rintro e w1 ⟨rfl, rfl⟩
    go_wp2_with fail
    go_loopw [6, 7] (fun v6 v7 wr => DrRel1 node l w.heap.size w v6 v7 wr) (fun _ v _ => l.length - (intOf v).toNat)
    case atStart => exact ⟨0, [], _, [], none, 0, Nat.zero_le _, rfl, rfl, rfl, SlRep.nil _ _, netRep_new _ _, (Step.refl (Own.nil w)).alloc _⟩
    case round =>
      obtain ⟨k, its, H, Hw, aw, cw, hk, rfl, rfl, hkey, hrw, hn, hs⟩ := hrel
      have hil := Lib.hid (show its.length = k by simpa using congrArg List.length hkey)
      replace hkey := Lib.hid hkey
      have hsl := stay_len node l k
      have b1 : (0 : Int) ≤ (k : Int) := by omega
      by_cases hlt : k < l.length
      · obtain ⟨b, off, ha, hc, hb⟩ := h.out.at hs hlt
        subst ha
        have b2 : (k : Int) < (l.length : Int) := by omega
        have b3 : (k : Int) < 100 := by omega
        have e1 := and_3 l[k]
        have e2 := and_3 (l[k] / 4)
        have e3 : IntKind.u8.wrap (k : Int) = (k : Int) := by simp [IntKind.wrap, IntKind.bits, IntKind.signed]; omega
        have hka : keyAt l k = (l[k] % 4, l[k] / 4 % 4, [UInt8.ofNat k]) := by
          unfold keyAt; rw [List.getD_eq_getElem?_getD, List.getElem?_eq_getElem hlt]; rfl
        replace hka := Lib.hid hka
        go_wp2_with fail
        refine wp_region_J 16 (fun w' => w'.cell? ⟨b, off + k, none⟩ = some (.int .i64 l[k])) (by kernel_rfl) ?_ (fun hF => ?_)
        · (try dsimp only)
          all_goals (simp [*, World.cell?_alloc_some, World.cell?_setCell_far]; done)
        refine wpAnyJ_take (i := 0) (oi := { dst := some 25, op := Go.Op.move (Go.Operand.tmp 0), type := 37, pos := "parts.go:57", after := #[], guard := none }) (v := ?_) [16] rfl (by kernel_rfl) (by kernel_rfl) (by kernel_rfl) (by kernel_rfl) (by kernel_rfl) (fun _ _ _ h => h) (by first | exact hF | exact hF (by kernel_rfl)) (fun w hFw => ?_) (by rfl) ?_
        rotate_left
        · (try dsimp only at hFw)
          first | (go_simp; done) | (go_simp; with_reducible rfl) | (go_split_ands; go_simp; done)
        try simp only [Act.put, List.setIfInBounds_toArray, List.set_cons_zero, List.set_cons_succ]
        refine wpAnyJ_take (i := 1) (oi := { dst := some 26, op := Go.Op.move (Go.Operand.tmp 7), type := 3, pos := "parts.go:57", after := #[], guard := none }) (v := ?_) [16] rfl (by kernel_rfl) (by kernel_rfl) (by kernel_rfl) (by kernel_rfl) (by kernel_rfl) (fun _ _ _ h => h) (by first | exact hF | exact hF (by kernel_rfl)) (fun w hFw => ?_) (by rfl) ?_
        rotate_left
        · (try dsimp only at hFw)
          first | (go_simp; done) | (go_simp; with_reducible rfl) | (go_split_ands; go_simp; done)
        try simp only [Act.put, List.setIfInBounds_toArray, List.set_cons_zero, List.set_cons_succ]
        refine wpAnyJ_take (i := 2) (oi := { dst := some 27, op := Go.Op.indexAddr 37 (Go.Operand.tmp 25) (Go.Operand.tmp 26), type := 0, pos := "parts.go:57", after := #[{ on := 0, ground := Go.Ground.data }, { on := 1, ground := Go.Ground.data }], guard := none }) (v := ?_) [16] rfl (by kernel_rfl) (by kernel_rfl) (by kernel_rfl) (by kernel_rfl) (by kernel_rfl) (fun _ _ _ h => h) (by first | exact hF | exact hF (by kernel_rfl)) (fun w hFw => ?_) (by rfl) ?_
        rotate_left
        · (try dsimp only at hFw)
          first | (go_simp; done) | (go_simp; with_reducible rfl) | (go_split_ands; go_simp; done)
        try simp only [Act.put, List.setIfInBounds_toArray, List.set_cons_zero, List.set_cons_succ]
        refine wpAnyJ_take (i := 3) (oi := { dst := some 28, op := Go.Op.load 3 (Go.Operand.tmp 27), type := 3, pos := "parts.go:57", after := #[{ on := 2, ground := Go.Ground.data }], guard := none }) (v := ?_) [16] rfl (by kernel_rfl) (by kernel_rfl) (by kernel_rfl) (by kernel_rfl) (by kernel_rfl) (fun _ _ _ h => h) (by first | exact hF | exact hF (by kernel_rfl)) (fun w hFw => ?_) (by rfl) ?_
        rotate_left
        · (try dsimp only at hFw)
          first | (go_simp; done) | (go_simp; with_reducible rfl) | (go_split_ands; go_simp; done)
        try simp only [Act.put, List.setIfInBounds_toArray, List.set_cons_zero, List.set_cons_succ]
        refine wpAnyJ_take (i := 4) (oi := { dst := some 29, op := Go.Op.binOp Go.BinOp.and 3 (Go.Operand.tmp 28) (Go.Operand.const (Go.Value.int Go.IntKind.i64 3)) 3, type := 3, pos := "parts.go:57", after := #[{ on := 3, ground := Go.Ground.data }], guard := none }) (v := ?_) [16] rfl (by kernel_rfl) (by kernel_rfl) (by kernel_rfl) (by kernel_rfl) (by kernel_rfl) (fun _ _ _ h => h) (by first | exact hF | exact hF (by kernel_rfl)) (fun w hFw => ?_) (by rfl) ?_
        rotate_left
        · (try dsimp only at hFw)
          first | (go_simp; done) | (go_simp; with_reducible rfl) | (go_split_ands; go_simp; done)
        try simp only [Act.put, List.setIfInBounds_toArray, List.set_cons_zero, List.set_cons_succ]
        refine wpAnyJ_take (i := 5) (oi := { dst := some 30, op := Go.Op.move (Go.Operand.tmp 0), type := 37, pos := "parts.go:57", after := #[], guard := none }) (v := ?_) [16] rfl (by kernel_rfl) (by kernel_rfl) (by kernel_rfl) (by kernel_rfl) (by kernel_rfl) (fun _ _ _ h => h) (by first | exact hF | exact hF (by kernel_rfl)) (fun w hFw => ?_) (by rfl) ?_
        rotate_left
        · (try dsimp only at hFw)
          first | (go_simp; done) | (go_simp; with_reducible rfl) | (go_split_ands; go_simp; done)
        try simp only [Act.put, List.setIfInBounds_toArray, List.set_cons_zero, List.set_cons_succ]
        refine wpAnyJ_take (i := 6) (oi := { dst := some 31, op := Go.Op.move (Go.Operand.tmp 7), type := 3, pos := "parts.go:57", after := #[], guard := none }) (v := ?_) [16] rfl (by kernel_rfl) (by kernel_rfl) (by kernel_rfl) (by kernel_rfl) (by kernel_rfl) (fun _ _ _ h => h) (by first | exact hF | exact hF (by kernel_rfl)) (fun w hFw => ?_) (by rfl) ?_
        rotate_left
        · (try dsimp only at hFw)
          first | (go_simp; done) | (go_simp; with_reducible rfl) | (go_split_ands; go_simp; done)
        try simp only [Act.put, List.setIfInBounds_toArray, List.set_cons_zero, List.set_cons_succ]
        refine wpAnyJ_take (i := 7) (oi := { dst := some 32, op := Go.Op.indexAddr 37 (Go.Operand.tmp 30) (Go.Operand.tmp 31), type := 0, pos := "parts.go:57", after := #[{ on := 5, ground := Go.Ground.data }, { on := 6, ground := Go.Ground.data }], guard := none }) (v := ?_) [16] rfl (by kernel_rfl) (by kernel_rfl) (by kernel_rfl) (by kernel_rfl) (by kernel_rfl) (fun _ _ _ h => h) (by first | exact hF | exact hF (by kernel_rfl)) (fun w hFw => ?_) (by rfl) ?_
        rotate_left
        · (try dsimp only at hFw)
          first | (go_simp; done) | (go_simp; with_reducible rfl) | (go_split_ands; go_simp; done)
        try simp only [Act.put, List.setIfInBounds_toArray, List.set_cons_zero, List.set_cons_succ]
        refine wpAnyJ_take (i := 8) (oi := { dst := some 33, op := Go.Op.load 3 (Go.Operand.tmp 32), type := 3, pos := "parts.go:57", after := #[{ on := 7, ground := Go.Ground.data }], guard := none }) (v := ?_) [16] rfl (by kernel_rfl) (by kernel_rfl) (by kernel_rfl) (by kernel_rfl) (by kernel_rfl) (fun _ _ _ h => h) (by first | exact hF | exact hF (by kernel_rfl)) (fun w hFw => ?_) (by rfl) ?_
        rotate_left
        · (try dsimp only at hFw)
          first | (go_simp; done) | (go_simp; with_reducible rfl) | (go_split_ands; go_simp; done)
        try simp only [Act.put, List.setIfInBounds_toArray, List.set_cons_zero, List.set_cons_succ]
        refine wpAnyJ_take (i := 9) (oi := { dst := some 34, op := Go.Op.binOp Go.BinOp.shr 3 (Go.Operand.tmp 33) (Go.Operand.const (Go.Value.int Go.IntKind.u64 2)) 38, type := 3, pos := "parts.go:57", after := #[{ on := 8, ground := Go.Ground.data }], guard := none }) (v := ?_) [16] rfl (by kernel_rfl) (by kernel_rfl) (by kernel_rfl) (by kernel_rfl) (by kernel_rfl) (fun _ _ _ h => h) (by first | exact hF | exact hF (by kernel_rfl)) (fun w hFw => ?_) (by rfl) ?_
        rotate_left
        · (try dsimp only at hFw)
          first | (go_simp; done) | (go_simp; with_reducible rfl) | (go_split_ands; go_simp; done)
        try simp only [Act.put, List.setIfInBounds_toArray, List.set_cons_zero, List.set_cons_succ]
        refine wpAnyJ_take (i := 10) (oi := { dst := some 35, op := Go.Op.binOp Go.BinOp.and 3 (Go.Operand.tmp 34) (Go.Operand.const (Go.Value.int Go.IntKind.i64 3)) 3, type := 3, pos := "parts.go:57", after := #[{ on := 9, ground := Go.Ground.data }], guard := none }) (v := ?_) [16] rfl (by kernel_rfl) (by kernel_rfl) (by kernel_rfl) (by kernel_rfl) (by kernel_rfl) (fun _ _ _ h => h) (by first | exact hF | exact hF (by kernel_rfl)) (fun w hFw => ?_) (by rfl) ?_
        rotate_left
        · (try dsimp only at hFw)
          first | (go_simp; done) | (go_simp; with_reducible rfl) | (go_split_ands; go_simp; done)
        try simp only [Act.put, List.setIfInBounds_toArray, List.set_cons_zero, List.set_cons_succ]
        refine wpAnyJ_take (i := 11) (oi := { dst := some 36, op := Go.Op.move (Go.Operand.tmp 7), type := 3, pos := "parts.go:57", after := #[], guard := none }) (v := ?_) [16] rfl (by kernel_rfl) (by kernel_rfl) (by kernel_rfl) (by kernel_rfl) (by kernel_rfl) (fun _ _ _ h => h) (by first | exact hF | exact hF (by kernel_rfl)) (fun w hFw => ?_) (by rfl) ?_
        rotate_left
        · (try dsimp only at hFw)
          first | (go_simp; done) | (go_simp; with_reducible rfl) | (go_split_ands; go_simp; done)
        try simp only [Act.put, List.setIfInBounds_toArray, List.set_cons_zero, List.set_cons_succ]
        refine wpAnyJ_take (i := 12) (oi := { dst := some 37, op := Go.Op.convert 3 5 (Go.Operand.tmp 36), type := 5, pos := "parts.go:57", after := #[{ on := 11, ground := Go.Ground.data }], guard := none }) (v := ?_) [16] rfl (by kernel_rfl) (by kernel_rfl) (by kernel_rfl) (by kernel_rfl) (by kernel_rfl) (fun _ _ _ h => h) (by first | exact hF | exact hF (by kernel_rfl)) (fun w hFw => ?_) (by rfl) ?_
        rotate_left
        · (try dsimp only at hFw)
          first | (go_simp; done) | (go_simp; with_reducible rfl) | (go_split_ands; go_simp; done)
        try simp only [Act.put, List.setIfInBounds_toArray, List.set_cons_zero, List.set_cons_succ]
        refine wpAnyJ_ready (rs := [13, 15]) (by kernel_rfl) (by simp) ?_
        refine AllJ.cons (o := { dst := some 38, op := Go.Op.buildSlice 23 1 #[(0, Go.Operand.tmp 37)], type := 23, pos := "parts.go:57", after := #[{ on := 12, ground := Go.Ground.data }], guard := none }) rfl (fun Kr hKr => ?_) ?_
        · go_simp
          refine hKr.out _ _ (fun hJ => ?_) (fun hF => ?_)
          · first
            | exact absurd hJ (by decide)
            | (clear hJ; (try dsimp only); all_goals (simp [*, World.cell?_alloc_some, World.cell?_setCell_far]; done))
          clear hKr
          try simp only [Act.put, List.setIfInBounds_toArray, List.set_cons_zero, List.set_cons_succ]
          refine wpAnyJ_take (i := 14) (oi := { dst := some 39, op := Go.Op.build 28 #[(0, Go.Operand.tmp 29), (1, Go.Operand.tmp 35), (2, Go.Operand.tmp 38)], type := 28, pos := "parts.go:57", after := #[{ on := 4, ground := Go.Ground.data }, { on := 10, ground := Go.Ground.data }, { on := 13, ground := Go.Ground.data }], guard := none }) (v := ?_) [16] rfl (by kernel_rfl) (by kernel_rfl) (by kernel_rfl) (by kernel_rfl) (by kernel_rfl) (fun _ _ _ h => h) (by first | exact hF | exact hF (by kernel_rfl)) (fun w hFw => ?_) (by rfl) ?_
          rotate_left
          · (try dsimp only at hFw)
            first | (go_simp; done) | (go_simp; with_reducible rfl) | (go_split_ands; go_simp; done)
          try simp only [Act.put, List.setIfInBounds_toArray, List.set_cons_zero, List.set_cons_succ]
          refine wpAnyJ_ready (rs := [15]) (by kernel_rfl) (by simp) ?_
          refine AllJ.cons (o := { dst := some 8, op := Go.Op.alloc 28, type := 0, pos := "parts.go:57", after := #[], guard := none }) rfl (fun Kr hKr => ?_) ?_
          · go_simp
            refine hKr.out _ _ (fun hJ => ?_) (fun hF => ?_)
            · first
              | exact absurd hJ (by decide)
              | (clear hJ; (try dsimp only); all_goals (simp [*, World.cell?_alloc_some, World.cell?_setCell_far]; done))
            clear hKr
            try simp only [Act.put, List.setIfInBounds_toArray, List.set_cons_zero, List.set_cons_succ]
            refine wpAnyJ_ready (rs := [16]) (by kernel_rfl) (by simp) ?_
            refine AllJ.cons (o := { dst := none, op := Go.Op.store 28 (Go.Operand.tmp 8) (Go.Operand.tmp 39), type := 0, pos := "parts.go:57", after := #[{ on := 15, ground := Go.Ground.data }, { on := 14, ground := Go.Ground.data }, { on := 0, ground := Go.Ground.phase }, { on := 1, ground := Go.Ground.phase }, { on := 2, ground := Go.Ground.phase }, { on := 3, ground := Go.Ground.phase }, { on := 4, ground := Go.Ground.phase }, { on := 5, ground := Go.Ground.phase }, { on := 6, ground := Go.Ground.phase }, { on := 7, ground := Go.Ground.phase }, { on := 8, ground := Go.Ground.phase }, { on := 9, ground := Go.Ground.phase }, { on := 10, ground := Go.Ground.phase }, { on := 11, ground := Go.Ground.phase }, { on := 12, ground := Go.Ground.phase }, { on := 13, ground := Go.Ground.phase }, { on := 14, ground := Go.Ground.phase }, { on := 15, ground := Go.Ground.phase }], guard := none }) rfl (fun Kr hKr => ?_) ?_
            · go_simp
              refine hKr.out _ _ (fun hJ => ?_) (fun hF => ?_)
              · first
                | exact absurd hJ (by decide)
                | (clear hJ; (try dsimp only); all_goals (simp [*, World.cell?_alloc_some, World.cell?_setCell_far]; done))
              clear hKr
              try simp only [Act.put, List.setIfInBounds_toArray, List.set_cons_zero, List.set_cons_succ]
              refine wpAnyJ_done (by kernel_rfl) ?_ _
              clear e1 e2 e3 hF
              go_wp2_with fail
              refine Step.genC (Step.drew ((hs.alloc _).alloc _)) ?_
              intro W s
              rw [World.size_alloc] at s
              first
                | (have s' : Step w [] W ((wr.heap.size + 1, .cells #[.int .i64 (l[k] % 4), .int .i64 (l[k] / 4 % 4), .slice (some ⟨wr.heap.size, 0, none⟩) 1 1] 28 (0, 0)) :: (wr.heap.size, .cells #[.int .u8 k] 5 (0, 0)) :: (H ++ Hw)) := s
                   clear s hs hc
                   generalize wr.heap.size + 1 = M at s' ⊢
                   generalize wr.heap.size = D at s' ⊢)
                | (have s' : Step w [] W ((wr.heap.size, .cells #[.int .i64 (l[k] % 4), .int .i64 (l[k] / 4 % 4), .slice (some ⟨wr.heap.size + 1, 0, none⟩) 1 1] 28 (0, 0)) :: (wr.heap.size + 1, .cells #[.int .u8 k] 5 (0, 0)) :: (H ++ Hw)) := s.perm (List.Perm.refl _) (List.Perm.swap _ _ _)
                   clear s hs hc
                   generalize wr.heap.size + 1 = D at s' ⊢
                   generalize wr.heap.size = M at s' ⊢)
              refine (send_ok w.heap.size its H _ _ _ _ _ [UInt8.ofNat k] _ hn s'.own.tail.tail.left (rd_byte s'.own.h1 (by omega)) (by simp) (by have := hil.out; omega)).mono ?_
              rintro e w2 ⟨x, H2, rfl, hxf, hxt, hxd, hn2, hs2⟩
              replace s' := Step.mid2 s' hs2
              have hkx : keyIt x = keyAt l k := by rw [hka.out]; simp [keyIt, hxf, hxt, hxd]
              have hkey2 := Lib.hid (show (its ++ [x]).map keyIt = (List.range (k + 1)).map (keyAt l) by rw [List.range_succ, List.map_append, List.map_append, hkey.out]; simp [hkx])
              clear hxf hxt hxd hs2 hn hkx
              have ⟨y0, y1, y2⟩ := cells3 s'.own.h0
              cases g1 : (l[k] % 4 == node)
              · cases g2 : (l[k] / 4 % 4 == node)
                · have g3 : (l[k] % 4 != node) = true := by rw [bne, g1]; rfl
                  have g4 : (l[k] / 4 % 4 != node) = true := by rw [bne, g2]; rfl
                  have hh := Lib.hid (show keyHit node (keyAt l k) = true by rw [hka.out]; simp only [keyHit, g1, g2]; rfl)
                  clear g1 g2
                  go_wp2_with (at_builtin; refine wpList_app rfl st_int _ _ rfl (by rfl) (by rfl) hrw ((s'.alloc _).own.tail.tail.tail.right) (rdCells_block (heap_alloc_new _ _) rfl (by simp [Value.oneCell'])) (by unfold maxLen; omega) (by omega) ?_; intro a6 c6 w6 Hw6 hrw6 hst6)
                  refine ⟨⟨k + 1, its ++ [x], H2, Hw6, a6, c6, by omega, by go_num, ?_, hkey2.out, ?_, hn2, (Step.callR (R := _ :: _ :: _ :: H2) (s'.alloc _) hst6).tail.tail.tail⟩, by simp [intOf]; omega⟩
                  · rw [stay_succ_yes hh.out, List.length_append]; rfl
                  · rw [stay_succ_yes hh.out, List.length_append, List.map_append]; exact hrw6
                · have g3 : (l[k] % 4 != node) = true := by rw [bne, g1]; rfl
                  have g4 : (l[k] / 4 % 4 != node) = false := by rw [bne, g2]; rfl
                  have hh := Lib.hid (show keyHit node (keyAt l k) = false by rw [hka.out]; simp only [keyHit, g1, g2]; rfl)
                  clear g1 g2
                  go_wp2_with fail
                  exact ⟨⟨k + 1, its ++ [x], H2, Hw, aw, cw, by omega, by go_num, by rw [stay_succ_no hh.out], hkey2.out, by rw [stay_succ_no hh.out]; exact hrw, hn2, s'.tail.tail⟩, by simp [intOf]; omega⟩
              · have g3 : (l[k] % 4 != node) = false := by rw [bne, g1]; rfl
                have hh := Lib.hid (show keyHit node (keyAt l k) = false by rw [hka.out]; simp only [keyHit, g1]; rfl)
                clear g1
                go_wp2_with fail
                exact ⟨⟨k + 1, its ++ [x], H2, Hw, aw, cw, by omega, by go_num, by rw [stay_succ_no hh.out], hkey2.out, by rw [stay_succ_no hh.out]; exact hrw, hn2, s'.tail.tail⟩, by simp [intOf]; omega⟩
            exact AllJ.nil
          exact AllJ.nil
        refine AllJ.cons (o := { dst := some 8, op := Go.Op.alloc 28, type := 0, pos := "parts.go:57", after := #[], guard := none }) rfl (fun Kr hKr => ?_) ?_
        · go_simp
          refine hKr.out _ _ (fun hJ => ?_) (fun hF => ?_)
          · first
            | exact absurd hJ (by decide)
            | (clear hJ; (try dsimp only); all_goals (simp [*, World.cell?_alloc_some, World.cell?_setCell_far]; done))
          clear hKr
          try simp only [Act.put, List.setIfInBounds_toArray, List.set_cons_zero, List.set_cons_succ]
          refine wpAnyJ_ready (rs := [13]) (by kernel_rfl) (by simp) ?_
          refine AllJ.cons (o := { dst := some 38, op := Go.Op.buildSlice 23 1 #[(0, Go.Operand.tmp 37)], type := 23, pos := "parts.go:57", after := #[{ on := 12, ground := Go.Ground.data }], guard := none }) rfl (fun Kr hKr => ?_) ?_
          · go_simp
            refine hKr.out _ _ (fun hJ => ?_) (fun hF => ?_)
            · first
              | exact absurd hJ (by decide)
              | (clear hJ; (try dsimp only); all_goals (simp [*, World.cell?_alloc_some, World.cell?_setCell_far]; done))
            clear hKr
            try simp only [Act.put, List.setIfInBounds_toArray, List.set_cons_zero, List.set_cons_succ]
            refine wpAnyJ_take (i := 14) (oi := { dst := some 39, op := Go.Op.build 28 #[(0, Go.Operand.tmp 29), (1, Go.Operand.tmp 35), (2, Go.Operand.tmp 38)], type := 28, pos := "parts.go:57", after := #[{ on := 4, ground := Go.Ground.data }, { on := 10, ground := Go.Ground.data }, { on := 13, ground := Go.Ground.data }], guard := none }) (v := ?_) [16] rfl (by kernel_rfl) (by kernel_rfl) (by kernel_rfl) (by kernel_rfl) (by kernel_rfl) (fun _ _ _ h => h) (by first | exact hF | exact hF (by kernel_rfl)) (fun w hFw => ?_) (by rfl) ?_
            rotate_left
            · (try dsimp only at hFw)
              first | (go_simp; done) | (go_simp; with_reducible rfl) | (go_split_ands; go_simp; done)
            try simp only [Act.put, List.setIfInBounds_toArray, List.set_cons_zero, List.set_cons_succ]
            refine wpAnyJ_ready (rs := [16]) (by kernel_rfl) (by simp) ?_
            refine AllJ.cons (o := { dst := none, op := Go.Op.store 28 (Go.Operand.tmp 8) (Go.Operand.tmp 39), type := 0, pos := "parts.go:57", after := #[{ on := 15, ground := Go.Ground.data }, { on := 14, ground := Go.Ground.data }, { on := 0, ground := Go.Ground.phase }, { on := 1, ground := Go.Ground.phase }, { on := 2, ground := Go.Ground.phase }, { on := 3, ground := Go.Ground.phase }, { on := 4, ground := Go.Ground.phase }, { on := 5, ground := Go.Ground.phase }, { on := 6, ground := Go.Ground.phase }, { on := 7, ground := Go.Ground.phase }, { on := 8, ground := Go.Ground.phase }, { on := 9, ground := Go.Ground.phase }, { on := 10, ground := Go.Ground.phase }, { on := 11, ground := Go.Ground.phase }, { on := 12, ground := Go.Ground.phase }, { on := 13, ground := Go.Ground.phase }, { on := 14, ground := Go.Ground.phase }, { on := 15, ground := Go.Ground.phase }], guard := none }) rfl (fun Kr hKr => ?_) ?_
            · go_simp
              refine hKr.out _ _ (fun hJ => ?_) (fun hF => ?_)
              · first
                | exact absurd hJ (by decide)
                | (clear hJ; (try dsimp only); all_goals (simp [*, World.cell?_alloc_some, World.cell?_setCell_far]; done))
              clear hKr
              try simp only [Act.put, List.setIfInBounds_toArray, List.set_cons_zero, List.set_cons_succ]
              refine wpAnyJ_done (by kernel_rfl) ?_ _
              clear e1 e2 e3 hF
              go_wp2_with fail
              refine Step.genC (Step.drew ((hs.alloc _).alloc _)) ?_
              intro W s
              rw [World.size_alloc] at s
              first
                | (have s' : Step w [] W ((wr.heap.size + 1, .cells #[.int .i64 (l[k] % 4), .int .i64 (l[k] / 4 % 4), .slice (some ⟨wr.heap.size, 0, none⟩) 1 1] 28 (0, 0)) :: (wr.heap.size, .cells #[.int .u8 k] 5 (0, 0)) :: (H ++ Hw)) := s
                   clear s hs hc
                   generalize wr.heap.size + 1 = M at s' ⊢
                   generalize wr.heap.size = D at s' ⊢)
                | (have s' : Step w [] W ((wr.heap.size, .cells #[.int .i64 (l[k] % 4), .int .i64 (l[k] / 4 % 4), .slice (some ⟨wr.heap.size + 1, 0, none⟩) 1 1] 28 (0, 0)) :: (wr.heap.size + 1, .cells #[.int .u8 k] 5 (0, 0)) :: (H ++ Hw)) := s.perm (List.Perm.refl _) (List.Perm.swap _ _ _)
                   clear s hs hc
                   generalize wr.heap.size + 1 = D at s' ⊢
                   generalize wr.heap.size = M at s' ⊢)
              refine (send_ok w.heap.size its H _ _ _ _ _ [UInt8.ofNat k] _ hn s'.own.tail.tail.left (rd_byte s'.own.h1 (by omega)) (by simp) (by have := hil.out; omega)).mono ?_
              rintro e w2 ⟨x, H2, rfl, hxf, hxt, hxd, hn2, hs2⟩
              replace s' := Step.mid2 s' hs2
              have hkx : keyIt x = keyAt l k := by rw [hka.out]; simp [keyIt, hxf, hxt, hxd]
              have hkey2 := Lib.hid (show (its ++ [x]).map keyIt = (List.range (k + 1)).map (keyAt l) by rw [List.range_succ, List.map_append, List.map_append, hkey.out]; simp [hkx])
              clear hxf hxt hxd hs2 hn hkx
              have ⟨y0, y1, y2⟩ := cells3 s'.own.h0
              cases g1 : (l[k] % 4 == node)
              · cases g2 : (l[k] / 4 % 4 == node)
                · have g3 : (l[k] % 4 != node) = true := by rw [bne, g1]; rfl
                  have g4 : (l[k] / 4 % 4 != node) = true := by rw [bne, g2]; rfl
                  have hh := Lib.hid (show keyHit node (keyAt l k) = true by rw [hka.out]; simp only [keyHit, g1, g2]; rfl)
                  clear g1 g2
                  go_wp2_with (at_builtin; refine wpList_app rfl st_int _ _ rfl (by rfl) (by rfl) hrw ((s'.alloc _).own.tail.tail.tail.right) (rdCells_block (heap_alloc_new _ _) rfl (by simp [Value.oneCell'])) (by unfold maxLen; omega) (by omega) ?_; intro a6 c6 w6 Hw6 hrw6 hst6)
                  refine ⟨⟨k + 1, its ++ [x], H2, Hw6, a6, c6, by omega, by go_num, ?_, hkey2.out, ?_, hn2, (Step.callR (R := _ :: _ :: _ :: H2) (s'.alloc _) hst6).tail.tail.tail⟩, by simp [intOf]; omega⟩
                  · rw [stay_succ_yes hh.out, List.length_append]; rfl
                  · rw [stay_succ_yes hh.out, List.length_append, List.map_append]; exact hrw6
                · have g3 : (l[k] % 4 != node) = true := by rw [bne, g1]; rfl
                  have g4 : (l[k] / 4 % 4 != node) = false := by rw [bne, g2]; rfl
                  have hh := Lib.hid (show keyHit node (keyAt l k) = false by rw [hka.out]; simp only [keyHit, g1, g2]; rfl)
                  clear g1 g2
                  go_wp2_with fail
                  exact ⟨⟨k + 1, its ++ [x], H2, Hw, aw, cw, by omega, by go_num, by rw [stay_succ_no hh.out], hkey2.out, by rw [stay_succ_no hh.out]; exact hrw, hn2, s'.tail.tail⟩, by simp [intOf]; omega⟩
              · have g3 : (l[k] % 4 != node) = false := by rw [bne, g1]; rfl
                have hh := Lib.hid (show keyHit node (keyAt l k) = false by rw [hka.out]; simp only [keyHit, g1]; rfl)
                clear g1
                go_wp2_with fail
                exact ⟨⟨k + 1, its ++ [x], H2, Hw, aw, cw, by omega, by go_num, by rw [stay_succ_no hh.out], hkey2.out, by rw [stay_succ_no hh.out]; exact hrw, hn2, s'.tail.tail⟩, by simp [intOf]; omega⟩
            exact AllJ.nil
          exact AllJ.nil
        exact AllJ.nil
      · have hkl : k = l.length := by omega
        subst hkl
        have hk2 := stay_kept (node := node) hkey.out
        have hkl2 : (kept node its).length = (stay node l l.length).length := by simpa using congrArg List.length hk2
        have hw2 : ((stay node l l.length).length : Int) ≤ 100 := by omega
        have hw3 : (0 : Int) ≤ ((stay node l l.length).length : Int) := by omega
        replace hk2 := Lib.hid hk2
        replace hrw := Lib.hid hrw
        clear hsl
        generalize hS : (stay node l l.length).length = S at *
        replace hS := Lib.hid hS
        go_wp2_with fail
        refine (drop_eq w.heap.size its H node l.length S _ hn hs.own.left hil.out (by omega) hkl2).mono ?_
        rintro e w2 ⟨H2, rfl, hn2, hs2⟩
        have hs3 := Lib.hid (hs.call hs2)
        clear hs hs2 hn
        have hlS : (S : Int) ≤ (l.length : Int) := by have := hS.out; have := stay_len node l l.length; omega
        go_wp2_with fail
        refine (len_eq w.heap.size _ H2 _ S hn2 hs3.out.own.left hkl2).mono ?_
        rintro e w3 ⟨rfl, rfl⟩
        replace hkl2 := Lib.hid hkl2
        go_wp2_with fail
        go_loopw [9] (fun v wr => DrRel2 node l w.heap.size Hw w v wr) (fun v _ => S - (intOf v).toNat)
        case atStart => exact ⟨0, _, H2, Nat.zero_le _, rfl, by rw [List.drop_zero]; exact hk2.out, hn2, hs3.out⟩
        case round =>
          clear hs3 hn2 hkey hil hk2 hkl2
          obtain ⟨k, its, H, hk, rfl, hkey, hn, hs⟩ := hrel
          rw [hS.out] at hk
          have b1 : (0 : Int) ≤ (k : Int) := by omega
          have hil := Lib.hid (show its.length = S - k by have := congrArg List.length hkey; rw [List.length_map, List.length_map, List.length_drop, hS.out] at this; exact this)
          by_cases hlt : k < S
          · have b2 : (k : Int) < (S : Int) := by omega
            have hne : its ≠ [] := by intro e; have := hil.out; rw [e] at this; simp at this; omega
            replace hkey := Lib.hid hkey
            go_wp2_with fail
            refine (give_ok w.heap.size its _ 0 0 _ hn hs.own.left (by have := hil.out; omega) (by simp) hne (by simp [pickOf])).mono ?_
            rintro e w2 ⟨x, H2, hx, rfl, hxok, hn2, hs2⟩
            have hks : k < (stay node l l.length).length := by rw [hS.out]; exact hlt
            obtain ⟨j, hj⟩ : ∃ j, (stay node l l.length)[k]? = some j := ⟨_, List.getElem?_eq_getElem hks⟩
            have hjl : j < l.length := stay_lt (List.mem_of_getElem? hj)
            have hkx : keyIt x = keyAt l j := by
              have h1 : (its.map keyIt)[0]? = some (keyIt x) := by rw [List.getElem?_map, hx]; rfl
              rw [hkey.out, List.getElem?_map, List.getElem?_drop, Nat.add_zero, hj] at h1
              exact (Option.some.inj h1).symm
            have hkd : x.d = [UInt8.ofNat j] := congrArg (fun k : Key => k.2.2) hkx
            have hss := hs.call hs2
            obtain ⟨xf, xt, xa, xc, xd, xH⟩ := x
            simp only at hkd
            subst hkd
            have hrx : RdBytes w2 xa 1 xc [UInt8.ofNat j] := SlRep.rdBytes hxok hss.own.left.right
            obtain ⟨bx, ox, rfl, -, -, hcx⟩ := hrx.place (by simp)
            have hcx0 := hcx 0 (by simp)
            have hu : (UInt8.ofNat j).toNat = j := by rw [UInt8.toNat_ofNat']; exact Nat.mod_eq_of_lt (by omega)
            have hcx1 : w2.cell? ⟨bx, ox + 0, none⟩ = some (.int .u8 j) := by rw [hcx0]; show some (Value.int .u8 ((UInt8.ofNat j).toNat : Int)) = _; rw [hu]
            obtain ⟨gw, rfl, hcw, hnc⟩ := slRep_at hrw.out hss.own.right (i := k) (v := .int .i64 j) (by rw [List.getElem?_map, hj]; rfl)
            have e3 : IntKind.u8.wrap (j : Int) = (j : Int) := by simp [IntKind.wrap, IntKind.bits, IntKind.signed]; omega
            have hbx := World.block_lt_of_cell? _ _ hcx1
            have hbw := World.block_lt_of_cell? _ _ hcw
            have e4 : ((j : Int) != (j : Int)) = false := by simp
            have b3 : (k : Int) < (S : Int) := b2
            simp only [Nat.add_zero, Nat.zero_add] at hcx1 hcw
            clear hcx hcx0 hu hne hrx hkx hj hks
            replace hx := Lib.hid hx
            simp only [List.length_cons, List.length_nil, Nat.zero_add]
            go_wp2_with fail
            have ⟨y0, y1, y2⟩ := cells3 (heap_alloc_new w2 (.cells #[.int .i64 xf, .int .i64 xt, .slice (some ⟨bx, ox, none⟩) 1 xc] 28))
            refine wp_region_J 19 (fun w' => w'.cell? ⟨w2.heap.size, 0, none⟩ = some (.int .i64 xf) ∧ w'.cell? ⟨w2.heap.size, 2, none⟩ = some (.slice (some ⟨bx, ox, none⟩) 1 xc) ∧ w'.cell? ⟨bx, ox, none⟩ = some (.int .u8 j) ∧ w'.cell? ⟨gw, k, none⟩ = some (.int .i64 j)) (by kernel_rfl) ?_ (fun hF => ?_)
            · (try dsimp only)
              all_goals (simp [*, World.cell?_alloc_some, World.cell?_setCell_far]; done)
            refine wpAnyJ_take (i := 0) (oi := { dst := some 84, op := Go.Op.move (Go.Operand.tmp 11), type := 4, pos := "parts.go:68", after := #[], guard := none }) (v := ?_) [1, 2, 8, 19] rfl (by kernel_rfl) (by kernel_rfl) (by kernel_rfl) (by kernel_rfl) (by kernel_rfl) (fun _ _ _ h => h) (by first | exact hF | exact hF (by kernel_rfl)) (fun w hFw => ?_) (by rfl) ?_
            rotate_left
            · (try dsimp only at hFw)
              first | (go_simp; done) | (go_simp; with_reducible rfl) | (go_split_ands; go_simp; done)
            try simp only [Act.put, List.setIfInBounds_toArray, List.set_cons_zero, List.set_cons_succ]
            refine wpAnyJ_take (i := 1) (oi := { dst := some 85, op := Go.Op.unOp Go.UnOp.not 4 (Go.Operand.tmp 84), type := 4, pos := "parts.go:68", after := #[{ on := 0, ground := Go.Ground.data }], guard := none }) (v := ?_) [2, 8, 19] rfl (by kernel_rfl) (by kernel_rfl) (by kernel_rfl) (by kernel_rfl) (by kernel_rfl) (fun _ _ _ h => h) (by first | exact hF | exact hF (by kernel_rfl)) (fun w hFw => ?_) (by rfl) ?_
            rotate_left
            · (try dsimp only at hFw)
              first | (go_simp; done) | (go_simp; with_reducible rfl) | (go_split_ands; go_simp; done)
            try simp only [Act.put, List.setIfInBounds_toArray, List.set_cons_zero, List.set_cons_succ]
            refine wpAnyJ_take (i := 2) (oi := { dst := some 86, op := Go.Op.move (Go.Operand.tmp 85), type := 4, pos := "parts.go:68", after := #[{ on := 1, ground := Go.Ground.data }], guard := none }) (v := ?_) [8, 19] rfl (by kernel_rfl) (by kernel_rfl) (by kernel_rfl) (by kernel_rfl) (by kernel_rfl) (fun _ _ _ h => h) (by first | exact hF | exact hF (by kernel_rfl)) (fun w hFw => ?_) (by rfl) ?_
            rotate_left
            · (try dsimp only at hFw)
              first | (go_simp; done) | (go_simp; with_reducible rfl) | (go_split_ands; go_simp; done)
            try simp only [Act.put, List.setIfInBounds_toArray, List.set_cons_zero, List.set_cons_succ]
            refine wpAnyJ_take (i := 3) (oi := { dst := some 87, op := Go.Op.fieldAddr 28 (Go.Operand.tmp 10) 2, type := 0, pos := "parts.go:68", after := #[{ on := 2, ground := Go.Ground.guard }], guard := some (2, false) }) (v := ?_) [4, 5, 6, 7, 8, 19] rfl (by kernel_rfl) (by kernel_rfl) (by kernel_rfl) (by kernel_rfl) (by kernel_rfl) (fun _ _ _ h => h) (by first | exact hF | exact hF (by kernel_rfl)) (fun w hFw => ?_) (by rfl) ?_
            rotate_left
            · (try dsimp only at hFw)
              first | (go_simp; done) | (go_simp; with_reducible rfl) | (go_split_ands; go_simp; done)
            try simp only [Act.put, List.setIfInBounds_toArray, List.set_cons_zero, List.set_cons_succ]
            refine wpAnyJ_take (i := 4) (oi := { dst := some 88, op := Go.Op.load 23 (Go.Operand.tmp 87), type := 23, pos := "parts.go:68", after := #[{ on := 3, ground := Go.Ground.data }, { on := 2, ground := Go.Ground.guard }], guard := some (2, false) }) (v := ?_) [5, 6, 7, 8, 19] rfl (by kernel_rfl) (by kernel_rfl) (by kernel_rfl) (by kernel_rfl) (by kernel_rfl) (fun _ _ _ h => h) (by first | exact hF | exact hF (by kernel_rfl)) (fun w hFw => ?_) (by rfl) ?_
            rotate_left
            · (try dsimp only at hFw)
              first | (go_simp; done) | (go_simp; with_reducible rfl) | (go_split_ands; go_simp; done)
            try simp only [Act.put, List.setIfInBounds_toArray, List.set_cons_zero, List.set_cons_succ]
            refine wpAnyJ_take (i := 5) (oi := { dst := some 89, op := Go.Op.call { callee := Go.Callee.builtin Go.Builtin.len, args := #[Go.Operand.tmp 88], argTypes := #[23] }, type := 3, pos := "parts.go:68", after := #[{ on := 4, ground := Go.Ground.data }, { on := 2, ground := Go.Ground.guard }], guard := some (2, false) }) (v := ?_) [6, 7, 8, 19] rfl (by kernel_rfl) (by kernel_rfl) (by kernel_rfl) (by kernel_rfl) (by kernel_rfl) (fun _ _ _ h => h) (by first | exact hF | exact hF (by kernel_rfl)) (fun w hFw => ?_) (by rfl) ?_
            rotate_left
            · (try dsimp only at hFw)
              first | (go_simp; done) | (go_simp; with_reducible rfl) | (go_split_ands; go_simp; done)
            try simp only [Act.put, List.setIfInBounds_toArray, List.set_cons_zero, List.set_cons_succ]
            refine wpAnyJ_take (i := 6) (oi := { dst := some 90, op := Go.Op.binOp Go.BinOp.neq 3 (Go.Operand.tmp 89) (Go.Operand.const (Go.Value.int Go.IntKind.i64 1)) 3, type := 4, pos := "parts.go:68", after := #[{ on := 5, ground := Go.Ground.data }, { on := 2, ground := Go.Ground.guard }], guard := some (2, false) }) (v := ?_) [7, 8, 19] rfl (by kernel_rfl) (by kernel_rfl) (by kernel_rfl) (by kernel_rfl) (by kernel_rfl) (fun _ _ _ h => h) (by first | exact hF | exact hF (by kernel_rfl)) (fun w hFw => ?_) (by rfl) ?_
            rotate_left
            · (try dsimp only at hFw)
              first | (go_simp; done) | (go_simp; with_reducible rfl) | (go_split_ands; go_simp; done)
            try simp only [Act.put, List.setIfInBounds_toArray, List.set_cons_zero, List.set_cons_succ]
            refine wpAnyJ_take (i := 7) (oi := { dst := some 91, op := Go.Op.pick (Go.Operand.tmp 86) (Go.Operand.const (Go.Value.bool true)) (Go.Operand.tmp 90), type := 4, pos := "parts.go:68", after := #[{ on := 2, ground := Go.Ground.data }, { on := 6, ground := Go.Ground.data }], guard := none }) (v := ?_) [8, 19] rfl (by kernel_rfl) (by kernel_rfl) (by kernel_rfl) (by kernel_rfl) (by kernel_rfl) (fun _ _ _ h => h) (by first | exact hF | exact hF (by kernel_rfl)) (fun w hFw => ?_) (by rfl) ?_
            rotate_left
            · (try dsimp only at hFw)
              first | (go_simp; done) | (go_simp; with_reducible rfl) | (go_split_ands; go_simp; done)
            try simp only [Act.put, List.setIfInBounds_toArray, List.set_cons_zero, List.set_cons_succ]
            refine wpAnyJ_take (i := 8) (oi := { dst := some 92, op := Go.Op.move (Go.Operand.tmp 91), type := 4, pos := "parts.go:68", after := #[{ on := 7, ground := Go.Ground.data }, { on := 2, ground := Go.Ground.chain }], guard := none }) (v := ?_) [19] rfl (by kernel_rfl) (by kernel_rfl) (by kernel_rfl) (by kernel_rfl) (by kernel_rfl) (fun _ _ _ h => h) (by first | exact hF | exact hF (by kernel_rfl)) (fun w hFw => ?_) (by rfl) ?_
            rotate_left
            · (try dsimp only at hFw)
              first | (go_simp; done) | (go_simp; with_reducible rfl) | (go_split_ands; go_simp; done)
            try simp only [Act.put, List.setIfInBounds_toArray, List.set_cons_zero, List.set_cons_succ]
            refine wpAnyJ_take (i := 9) (oi := { dst := some 93, op := Go.Op.fieldAddr 28 (Go.Operand.tmp 10) 2, type := 0, pos := "parts.go:68", after := #[{ on := 8, ground := Go.Ground.guard }], guard := some (8, false) }) (v := ?_) [10, 11, 12, 18, 19] rfl (by kernel_rfl) (by kernel_rfl) (by kernel_rfl) (by kernel_rfl) (by kernel_rfl) (fun _ _ _ h => h) (by first | exact hF | exact hF (by kernel_rfl)) (fun w hFw => ?_) (by rfl) ?_
            rotate_left
            · (try dsimp only at hFw)
              first | (go_simp; done) | (go_simp; with_reducible rfl) | (go_split_ands; go_simp; done)
            try simp only [Act.put, List.setIfInBounds_toArray, List.set_cons_zero, List.set_cons_succ]
            refine wpAnyJ_take (i := 10) (oi := { dst := some 94, op := Go.Op.load 23 (Go.Operand.tmp 93), type := 23, pos := "parts.go:68", after := #[{ on := 9, ground := Go.Ground.data }, { on := 8, ground := Go.Ground.guard }], guard := some (8, false) }) (v := ?_) [11, 12, 18, 19] rfl (by kernel_rfl) (by kernel_rfl) (by kernel_rfl) (by kernel_rfl) (by kernel_rfl) (fun _ _ _ h => h) (by first | exact hF | exact hF (by kernel_rfl)) (fun w hFw => ?_) (by rfl) ?_
            rotate_left
            · (try dsimp only at hFw)
              first | (go_simp; done) | (go_simp; with_reducible rfl) | (go_split_ands; go_simp; done)
            try simp only [Act.put, List.setIfInBounds_toArray, List.set_cons_zero, List.set_cons_succ]
            refine wpAnyJ_take (i := 11) (oi := { dst := some 95, op := Go.Op.indexAddr 23 (Go.Operand.tmp 94) (Go.Operand.const (Go.Value.int Go.IntKind.i64 0)), type := 0, pos := "parts.go:68", after := #[{ on := 10, ground := Go.Ground.data }, { on := 8, ground := Go.Ground.guard }], guard := some (8, false) }) (v := ?_) [12, 18, 19] rfl (by kernel_rfl) (by kernel_rfl) (by kernel_rfl) (by kernel_rfl) (by kernel_rfl) (fun _ _ _ h => h) (by first | exact hF | exact hF (by kernel_rfl)) (fun w hFw => ?_) (by rfl) ?_
            rotate_left
            · (try dsimp only at hFw)
              first | (go_simp; done) | (go_simp; with_reducible rfl) | (go_split_ands; go_simp; done)
            try simp only [Act.put, List.setIfInBounds_toArray, List.set_cons_zero, List.set_cons_succ]
            refine wpAnyJ_take (i := 12) (oi := { dst := some 96, op := Go.Op.load 5 (Go.Operand.tmp 95), type := 5, pos := "parts.go:68", after := #[{ on := 11, ground := Go.Ground.data }, { on := 8, ground := Go.Ground.guard }], guard := some (8, false) }) (v := ?_) [18, 19] rfl (by kernel_rfl) (by kernel_rfl) (by kernel_rfl) (by kernel_rfl) (by kernel_rfl) (fun _ _ _ h => h) (by first | exact hF | exact hF (by kernel_rfl)) (fun w hFw => ?_) (by rfl) ?_
            rotate_left
            · (try dsimp only at hFw)
              first | (go_simp; done) | (go_simp; with_reducible rfl) | (go_split_ands; go_simp; done)
            try simp only [Act.put, List.setIfInBounds_toArray, List.set_cons_zero, List.set_cons_succ]
            refine wpAnyJ_take (i := 13) (oi := { dst := some 97, op := Go.Op.move (Go.Operand.tmp 6), type := 37, pos := "parts.go:68", after := #[{ on := 8, ground := Go.Ground.guard }], guard := some (8, false) }) (v := ?_) [15, 16, 17, 18, 19] rfl (by kernel_rfl) (by kernel_rfl) (by kernel_rfl) (by kernel_rfl) (by kernel_rfl) (fun _ _ _ h => h) (by first | exact hF | exact hF (by kernel_rfl)) (fun w hFw => ?_) (by rfl) ?_
            rotate_left
            · (try dsimp only at hFw)
              first | (go_simp; done) | (go_simp; with_reducible rfl) | (go_split_ands; go_simp; done)
            try simp only [Act.put, List.setIfInBounds_toArray, List.set_cons_zero, List.set_cons_succ]
            refine wpAnyJ_take (i := 14) (oi := { dst := some 98, op := Go.Op.move (Go.Operand.tmp 9), type := 3, pos := "parts.go:68", after := #[{ on := 8, ground := Go.Ground.guard }], guard := some (8, false) }) (v := ?_) [15, 16, 17, 18, 19] rfl (by kernel_rfl) (by kernel_rfl) (by kernel_rfl) (by kernel_rfl) (by kernel_rfl) (fun _ _ _ h => h) (by first | exact hF | exact hF (by kernel_rfl)) (fun w hFw => ?_) (by rfl) ?_
            rotate_left
            · (try dsimp only at hFw)
              first | (go_simp; done) | (go_simp; with_reducible rfl) | (go_split_ands; go_simp; done)
            try simp only [Act.put, List.setIfInBounds_toArray, List.set_cons_zero, List.set_cons_succ]
            refine wpAnyJ_take (i := 15) (oi := { dst := some 99, op := Go.Op.indexAddr 37 (Go.Operand.tmp 97) (Go.Operand.tmp 98), type := 0, pos := "parts.go:68", after := #[{ on := 13, ground := Go.Ground.data }, { on := 14, ground := Go.Ground.data }, { on := 8, ground := Go.Ground.guard }], guard := some (8, false) }) (v := ?_) [16, 17, 18, 19] rfl (by kernel_rfl) (by kernel_rfl) (by kernel_rfl) (by kernel_rfl) (by kernel_rfl) (fun _ _ _ h => h) (by first | exact hF | exact hF (by kernel_rfl)) (fun w hFw => ?_) (by rfl) ?_
            rotate_left
            · (try dsimp only at hFw)
              first | (go_simp; done) | (go_simp; with_reducible rfl) | (go_split_ands; go_simp; done)
            try simp only [Act.put, List.setIfInBounds_toArray, List.set_cons_zero, List.set_cons_succ]
            refine wpAnyJ_take (i := 16) (oi := { dst := some 100, op := Go.Op.load 3 (Go.Operand.tmp 99), type := 3, pos := "parts.go:68", after := #[{ on := 15, ground := Go.Ground.data }, { on := 8, ground := Go.Ground.guard }], guard := some (8, false) }) (v := ?_) [17, 18, 19] rfl (by kernel_rfl) (by kernel_rfl) (by kernel_rfl) (by kernel_rfl) (by kernel_rfl) (fun _ _ _ h => h) (by first | exact hF | exact hF (by kernel_rfl)) (fun w hFw => ?_) (by rfl) ?_
            rotate_left
            · (try dsimp only at hFw)
              first | (go_simp; done) | (go_simp; with_reducible rfl) | (go_split_ands; go_simp; done)
            try simp only [Act.put, List.setIfInBounds_toArray, List.set_cons_zero, List.set_cons_succ]
            refine wpAnyJ_take (i := 17) (oi := { dst := some 101, op := Go.Op.convert 3 5 (Go.Operand.tmp 100), type := 5, pos := "parts.go:68", after := #[{ on := 16, ground := Go.Ground.data }, { on := 8, ground := Go.Ground.guard }], guard := some (8, false) }) (v := ?_) [18, 19] rfl (by kernel_rfl) (by kernel_rfl) (by kernel_rfl) (by kernel_rfl) (by kernel_rfl) (fun _ _ _ h => h) (by first | exact hF | exact hF (by kernel_rfl)) (fun w hFw => ?_) (by rfl) ?_
            rotate_left
            · (try dsimp only at hFw)
              first | (go_simp; done) | (go_simp; with_reducible rfl) | (go_split_ands; go_simp; done)
            try simp only [Act.put, List.setIfInBounds_toArray, List.set_cons_zero, List.set_cons_succ]
            refine wpAnyJ_take (i := 18) (oi := { dst := some 102, op := Go.Op.binOp Go.BinOp.neq 5 (Go.Operand.tmp 96) (Go.Operand.tmp 101) 5, type := 4, pos := "parts.go:68", after := #[{ on := 12, ground := Go.Ground.data }, { on := 17, ground := Go.Ground.data }, { on := 8, ground := Go.Ground.guard }], guard := some (8, false) }) (v := ?_) [19] rfl (by kernel_rfl) (by kernel_rfl) (by kernel_rfl) (by kernel_rfl) (by kernel_rfl) (fun _ _ _ h => h) (by first | exact hF | exact hF (by kernel_rfl)) (fun w hFw => ?_) (by rfl) ?_
            rotate_left
            · (try dsimp only at hFw)
              first | (go_simp; done) | (go_simp; with_reducible rfl) | (go_split_ands; go_simp; done)
            try simp only [Act.put, List.setIfInBounds_toArray, List.set_cons_zero, List.set_cons_succ]
            refine wpAnyJ_ready (rs := [19]) (by kernel_rfl) (by simp) ?_
            refine AllJ.cons (o := { dst := some 103, op := Go.Op.pick (Go.Operand.tmp 92) (Go.Operand.const (Go.Value.bool true)) (Go.Operand.tmp 102), type := 4, pos := "parts.go:68", after := #[{ on := 8, ground := Go.Ground.data }, { on := 18, ground := Go.Ground.data }], guard := none }) rfl (fun Kr hKr => ?_) ?_
            · go_simp
              refine hKr.out _ _ (fun hJ => ?_) (fun hF => ?_)
              · first
                | exact absurd hJ (by decide)
                | (clear hJ; (try dsimp only); all_goals (simp [*, World.cell?_alloc_some, World.cell?_setCell_far]; done))
              clear hKr
              try simp only [Act.put, List.setIfInBounds_toArray, List.set_cons_zero, List.set_cons_succ]
              refine wpAnyJ_done (by kernel_rfl) ?_ _
              clear hF
              go_wp2
              exact ⟨⟨k + 1, its.eraseIdx 0, H2, by rw [hS.out]; omega, by go_num, by rw [map_erase, hkey.out, List.eraseIdx_zero, List.map_drop, List.tail_drop, ← List.map_drop], hn2, (hss.drop_mid.alloc _).tail.drew⟩, by simp [intOf]; omega⟩
            exact AllJ.nil
          · have hkS : ¬ (k : Int) < (S : Int) := by omega
            go_wp2_with fail
            refine (known_any _).mono ?_
            rintro e w3 ⟨rfl, hs3⟩
            go_wp2
            go_ret
            exact ⟨rfl, (hs.call0 hs3).forget (A := [])⟩
end Go.Proofs.Ytliapfdbagcklaa
