import Derived.Test.YtliapfdbagcklaaNetM
namespace Go.Proofs.Ytliapfdbagcklaa
open Go.RowKit
attribute [local go_sem ↓] Go.wp_at_zero Go.wp_at_succ

def tot (l : List (List UInt8)) : Nat := (l.map fun x => 5 + x.length).sum
theorem tot_take_succ {l : List (List UInt8)} {k : Nat} (h : k < l.length) : tot (l.take (k + 1)) = tot (l.take k) + 5 + l[k].length := by
  unfold tot; rw [List.take_succ_eq_append_getElem h, List.map_append, List.sum_append]; simp; omega
theorem tot_len (l : List (List UInt8)) : 5 * l.length ≤ tot l := by
  induction l with
  | nil => simp [tot]
  | cons x l ih => simp [tot] at *; omega
theorem tot_mem {l : List (List UInt8)} {x : List UInt8} (h : x ∈ l) : x.length ≤ tot l := by
  induction l with
  | nil => cases h
  | cons y l ih =>
    have e : tot (y :: l) = 5 + y.length + tot l := by simp [tot]
    rw [e]
    rcases List.mem_cons.1 h with h1 | h1
    · subst h1; omega
    · have := ih h1; omega

/-- The messages under way are l's from number k on. -/
def Sent (k : Nat) (l : List (List UInt8)) (its : List It) : Prop := ∀ j x, its[j]? = some x → x.f = ((k + j : Nat) : Int) ∧ l[k + j]? = some x.d
theorem Sent.snoc {l : List (List UInt8)} {its : List It} (h : Sent 0 l its) {x : It} {n : Nat} (hn : n < l.length) (hi : its.length = n) (hf : x.f = (n : Int)) (hd : x.d = l[n]) : Sent 0 l (its ++ [x]) := by
  subst hi
  intro j y hy
  rcases Nat.lt_or_ge j its.length with hj | hj
  · rw [List.getElem?_append_left hj] at hy; exact h j y hy
  · rw [List.getElem?_append_right hj] at hy
    have : j = its.length := by
      have := (List.getElem?_eq_some_iff.1 hy).1
      simp at this; omega
    subst this
    simp at hy
    subst hy
    exact ⟨by rw [hf]; simp, by rw [hd, Nat.zero_add]; exact List.getElem?_eq_getElem hn⟩
theorem Sent.tail {l : List (List UInt8)} {its : List It} {k : Nat} (h : Sent k l its) : Sent (k + 1) l (its.eraseIdx 0) := by
  intro j x hx
  have hx' : its[j + 1]? = some x := by
    cases its with
    | nil => simp at hx
    | cons y its => simpa using hx
  have := h (j + 1) x hx'
  rwa [show k + (j + 1) = k + 1 + j by omega] at this

def OrdRel2 (l : List (List UInt8)) (b : Nat) (w : World) (v : Value) (wr : World) : Prop :=
  ∃ (k : Nat) (its : List It) (H : Heaplet), k ≤ l.length ∧ v = .int .i64 k ∧ its.length = k ∧ Sent 0 l its ∧ NetRep 55 b its H ∧ Step w [] wr H
def OrdRel3 (l : List (List UInt8)) (b : Nat) (w : World) (v : Value) (wr : World) : Prop :=
  ∃ (k : Nat) (its : List It) (H : Heaplet), k ≤ l.length ∧ v = .int .i64 k ∧ its.length + k = l.length ∧ Sent k l its ∧ NetRep 55 b its H ∧ Step w [] wr H
def LawPost (w : World) (e : Ending) (w' : World) : Prop := e = .returned (.bool true) ∧ Step w [] w' []
theorem rows_at {w : World} {a : Option Addr} {n c : Nat} {l : List (List UInt8)} {A : Nat → Option Addr} {C : Nat → Nat} (h : RdRows w a n c l A C) {w' : World} {H : Heaplet} (s : Step w [] w' H) {k : Nat} (hk : k < l.length) :
    ∃ b off, a = some ⟨b, off, none⟩ ∧ w'.cell? ⟨b, off + k, none⟩ = some (.slice (A k) l[k].length (C k)) ∧ RdBytes w' (A k) l[k].length (C k) l[k] ∧ b < w.heap.size := by
  obtain ⟨_, _, _, h4⟩ := h
  obtain ⟨b, off, ha, hx⟩ := h4 (by intro e; subst e; simp at hk)
  have h1 := (hx k hk).1
  have hb := World.block_lt_of_cell? w _ h1
  exact ⟨b, off, ha, by rw [World.cell?_of_block (w := w) (s.frame b hb (by simp [dom]))]; exact h1, (hx k hk).2.later s (by simp [dom]), hb⟩

set_option maxHeartbeats 1000000 in
set_option maxRecDepth 100000 in
theorem netOrder_walk (a : Option Addr) (n c : Nat) (l : List (List UInt8)) (A : Nat → Option Addr) (C : Nat → Nat) (w : World) (h : RdRows w a n c l A C) (hr : ∀ x ∈ l, x.length ≤ 140737488351232) :
    Calls Try.prog 3 #[.slice a n c] w fun e w' => e = .returned (.bool true) ∧ Below w.heap.size w w' := by
  suffices hs : Calls Try.prog 3 #[.slice a n c] w (LawPost w) from hs.mono fun e w' hp => ⟨hp.1, hp.2.nil_below⟩
  have hn := h.1
  subst hn
  have hmax : l.length ≤ 9223372036854775807 := by have := h.2.1; have := h.2.2.1; unfold maxLen at this; omega
  replace h := Lib.hid h
  go_enter Try.func3, Try.ntmps3
  go_wp2_with fail
  go_loop [3, 4] (fun v3 v4 => ∃ k : Nat, k ≤ l.length ∧ v4 = .int .i64 k ∧ v3 = .int .i64 (tot (l.take k)) ∧ tot (l.take k) ≤ 5000) (fun _ v4 => l.length - (intOf v4).toNat)
  case atStart => exact ⟨0, Nat.zero_le _, rfl, rfl, by simp [tot]⟩
  case round =>
    obtain ⟨k, hk, rfl, rfl, ht⟩ := hrel
    have b1 : (0 : Int) ≤ (k : Int) := by omega
    by_cases hlt : k < l.length
    · obtain ⟨b, off, ha, hc, hrd, hb⟩ := rows_at h.out (Step.refl (Own.nil w)) hlt
      have hlen : l[k].length ≤ 140737488351232 := hr _ (List.getElem_mem hlt)
      have hts := Lib.hid (tot_take_succ hlt)
      subst ha
      have b2 : (k : Int) < (l.length : Int) := by omega
      clear hrd hr
      generalize hq : tot (l.take k) = q at *
      replace hq := Lib.hid hq
      by_cases hbig : q + 5 + l[k].length ≤ 5000
      · go_wp2_with fail
        exact ⟨⟨k + 1, by omega, by go_num, by rw [hts.out]; go_num, by rw [hts.out]; exact hbig⟩, by simp [intOf]; omega⟩
      · go_wp2_with fail
        go_ret
        exact ⟨rfl, Step.refl (Own.nil _)⟩
    · have hkl : k = l.length := by omega
      have htl : tot l ≤ 5000 := by rw [← List.take_length (l := l), ← hkl]; exact ht
      have hlen : l.length ≤ 1000 := by have := tot_len l; omega
      have hmem : Hid (∀ x ∈ l, x.length ≤ 5000) := fun x hx => Nat.le_trans (tot_mem hx) htl
      have hlen' : (l.length : Int) ≤ 1000 := by omega
      clear hr hkl ht htl hmax
      go_wp2_with fail
      refine (new_any _).mono ?_
      rintro e w1 ⟨rfl, rfl⟩
      go_wp2_with fail
      go_loopw [6] (fun v wr => OrdRel2 l w.heap.size w v wr) (fun v _ => l.length - (intOf v).toNat)
      case atStart => exact ⟨0, [], _, Nat.zero_le _, rfl, rfl, fun j x hx => by simp at hx, netRep_new _ _, (Step.refl (Own.nil w)).alloc _⟩
      case round =>
        obtain ⟨k, its, H, hk, rfl, hil, hsent, hn, hs⟩ := hrel
        replace hil := Lib.hid hil
        replace hsent := Lib.hid hsent
        have b1 : (0 : Int) ≤ (k : Int) := by omega
        by_cases hlt : k < l.length
        · obtain ⟨b, off, ha, hc, hrd, hb⟩ := rows_at h.out hs hlt
          subst ha
          have b2 : (k : Int) < (l.length : Int) := by omega
          replace hrd := Lib.hid hrd
          go_wp2_with fail
          refine (send_ok w.heap.size its _ _ 1 _ _ _ l[k] _ hn hs.own hrd.out (by have := hmem.out _ (List.getElem_mem hlt); omega) (by have := hil.out; omega)).mono ?_
          rintro e w2 ⟨x, H2, rfl, hxf, -, hxd, hn2, hs2⟩
          replace hxf := Lib.hid hxf
          replace hxd := Lib.hid hxd
          go_wp2_with fail
          exact ⟨⟨k + 1, its ++ [x], H2, by omega, by go_num, by rw [List.length_append, hil.out]; rfl, hsent.out.snoc hlt hil.out hxf.out hxd.out, hn2, hs.trans hs2⟩, by simp [intOf]; omega⟩
        · have hkl : its.length = l.length := by have := hil.out; omega
          go_wp2_with fail
          go_loopw [7] (fun v wr => OrdRel3 l w.heap.size w v wr) (fun v _ => l.length - (intOf v).toNat)
          case atStart => exact ⟨0, its, H, Nat.zero_le _, rfl, by omega, hsent.out, hn, hs⟩
          case round =>
            clear hkl hil hsent hn hs
            obtain ⟨k, its, H, hk, rfl, hil, hsent, hn, hs⟩ := hrel
            replace hil := Lib.hid hil
            replace hsent := Lib.hid hsent
            have b1 : (0 : Int) ≤ (k : Int) := by omega
            by_cases hlt : k < l.length
            · obtain ⟨b, off, ha, hc, hrd, hb⟩ := rows_at h.out hs hlt
              subst ha
              have b2 : (k : Int) < (l.length : Int) := by omega
              replace hrd := Lib.hid hrd
              go_wp2_with fail
              have hne : its ≠ [] := by intro e; have := hil.out; rw [e] at this; simp at this; omega
              refine (give_ok w.heap.size its _ 0 0 _ hn hs.own (by have := hil.out; omega) (by simp) hne (by simp [pickOf])).mono ?_
              rintro e w2 ⟨x, H2, hx, rfl, hxok, hn2, hs2⟩
              obtain ⟨hxf, hxd⟩ := hsent.out 0 x hx
              have hxf' : (x.f != (k : Int)) = false := by rw [hxf]; simp
              have hxd' : x.d = l[k] := by rw [Nat.add_zero, List.getElem?_eq_getElem hlt] at hxd; exact (Option.some.inj hxd).symm
              replace hxf := Lib.hid hxf
              replace hxd := Lib.hid hxd'
              replace hx := Lib.hid hx
              clear hxd' hne
              go_wp2_with fail
              refine Step.gen ((hs.trans hs2).alloc _) ?_
              intro W s
              obtain ⟨M, hM⟩ : ∃ M, M = w2.heap.size := ⟨_, rfl⟩
              rw [← hM] at s ⊢
              obtain ⟨b', off', ha', hc', hrd', hb'⟩ := rows_at h.out s hlt
              cases ha'
              clear hc hrd hs hs2 hM
              have ⟨y0, y1, y2⟩ := cells3 s.own.h0
              have hx2 := Lib.hid (SlRep.rdBytes hxok s.own.tail.right)
              replace hrd' := Lib.hid hrd'
              refine wp_region_J 15 (fun w' => w' = W.drew) (by kernel_rfl) ?_ (fun hF => ?_)
              · (try dsimp only)
                all_goals (rfl)
              refine wpAnyJ_take (i := 0) (oi := { dst := some 55, op := Go.Op.move (Go.Operand.tmp 9), type := 4, pos := "more.go:28", after := #[], guard := none }) (v := ?_) [1, 2, 8, 15] rfl (by kernel_rfl) (by kernel_rfl) (by kernel_rfl) (by kernel_rfl) (by kernel_rfl) (fun _ _ _ h => h) (by first | exact hF | exact hF (by kernel_rfl)) (fun w hFw => ?_) (by rfl) ?_
              rotate_left
              · (try dsimp only at hFw)
                first | (go_simp; done) | (go_simp; with_reducible rfl) | (go_split_ands; go_simp; done)
              try simp only [Act.put, List.setIfInBounds_toArray, List.set_cons_zero, List.set_cons_succ]
              refine wpAnyJ_take (i := 1) (oi := { dst := some 56, op := Go.Op.unOp Go.UnOp.not 4 (Go.Operand.tmp 55), type := 4, pos := "more.go:28", after := #[{ on := 0, ground := Go.Ground.data }], guard := none }) (v := ?_) [2, 8, 15] rfl (by kernel_rfl) (by kernel_rfl) (by kernel_rfl) (by kernel_rfl) (by kernel_rfl) (fun _ _ _ h => h) (by first | exact hF | exact hF (by kernel_rfl)) (fun w hFw => ?_) (by rfl) ?_
              rotate_left
              · (try dsimp only at hFw)
                first | (go_simp; done) | (go_simp; with_reducible rfl) | (go_split_ands; go_simp; done)
              try simp only [Act.put, List.setIfInBounds_toArray, List.set_cons_zero, List.set_cons_succ]
              refine wpAnyJ_take (i := 2) (oi := { dst := some 57, op := Go.Op.move (Go.Operand.tmp 56), type := 4, pos := "more.go:28", after := #[{ on := 1, ground := Go.Ground.data }], guard := none }) (v := ?_) [8, 15] rfl (by kernel_rfl) (by kernel_rfl) (by kernel_rfl) (by kernel_rfl) (by kernel_rfl) (fun _ _ _ h => h) (by first | exact hF | exact hF (by kernel_rfl)) (fun w hFw => ?_) (by rfl) ?_
              rotate_left
              · (try dsimp only at hFw)
                first | (go_simp; done) | (go_simp; with_reducible rfl) | (go_split_ands; go_simp; done)
              try simp only [Act.put, List.setIfInBounds_toArray, List.set_cons_zero, List.set_cons_succ]
              refine wpAnyJ_take (i := 3) (oi := { dst := some 58, op := Go.Op.fieldAddr 28 (Go.Operand.tmp 8) 0, type := 0, pos := "more.go:28", after := #[{ on := 2, ground := Go.Ground.guard }], guard := some (2, false) }) (v := ?_) [4, 6, 7, 8, 15] rfl (by kernel_rfl) (by kernel_rfl) (by kernel_rfl) (by kernel_rfl) (by kernel_rfl) (fun _ _ _ h => h) (by first | exact hF | exact hF (by kernel_rfl)) (fun w hFw => ?_) (by rfl) ?_
              rotate_left
              · (try dsimp only at hFw)
                first | (go_simp; done) | (go_simp; with_reducible rfl) | (go_split_ands; go_simp; done)
              try simp only [Act.put, List.setIfInBounds_toArray, List.set_cons_zero, List.set_cons_succ]
              refine wpAnyJ_take (i := 4) (oi := { dst := some 59, op := Go.Op.load 3 (Go.Operand.tmp 58), type := 3, pos := "more.go:28", after := #[{ on := 3, ground := Go.Ground.data }, { on := 2, ground := Go.Ground.guard }], guard := some (2, false) }) (v := ?_) [6, 7, 8, 15] rfl (by kernel_rfl) (by kernel_rfl) (by kernel_rfl) (by kernel_rfl) (by kernel_rfl) (fun _ _ _ h => h) (by first | exact hF | exact hF (by kernel_rfl)) (fun w hFw => ?_) (by rfl) ?_
              rotate_left
              · (try dsimp only at hFw)
                first | (go_simp; done) | (go_simp; with_reducible rfl) | (go_split_ands; go_simp; done)
              try simp only [Act.put, List.setIfInBounds_toArray, List.set_cons_zero, List.set_cons_succ]
              refine wpAnyJ_take (i := 5) (oi := { dst := some 60, op := Go.Op.move (Go.Operand.tmp 7), type := 3, pos := "more.go:28", after := #[{ on := 2, ground := Go.Ground.guard }], guard := some (2, false) }) (v := ?_) [6, 7, 8, 15] rfl (by kernel_rfl) (by kernel_rfl) (by kernel_rfl) (by kernel_rfl) (by kernel_rfl) (fun _ _ _ h => h) (by first | exact hF | exact hF (by kernel_rfl)) (fun w hFw => ?_) (by rfl) ?_
              rotate_left
              · (try dsimp only at hFw)
                first | (go_simp; done) | (go_simp; with_reducible rfl) | (go_split_ands; go_simp; done)
              try simp only [Act.put, List.setIfInBounds_toArray, List.set_cons_zero, List.set_cons_succ]
              refine wpAnyJ_take (i := 6) (oi := { dst := some 61, op := Go.Op.binOp Go.BinOp.neq 3 (Go.Operand.tmp 59) (Go.Operand.tmp 60) 3, type := 4, pos := "more.go:28", after := #[{ on := 4, ground := Go.Ground.data }, { on := 5, ground := Go.Ground.data }, { on := 2, ground := Go.Ground.guard }], guard := some (2, false) }) (v := ?_) [7, 8, 15] rfl (by kernel_rfl) (by kernel_rfl) (by kernel_rfl) (by kernel_rfl) (by kernel_rfl) (fun _ _ _ h => h) (by first | exact hF | exact hF (by kernel_rfl)) (fun w hFw => ?_) (by rfl) ?_
              rotate_left
              · (try dsimp only at hFw)
                first | (go_simp; done) | (go_simp; with_reducible rfl) | (go_split_ands; go_simp; done)
              try simp only [Act.put, List.setIfInBounds_toArray, List.set_cons_zero, List.set_cons_succ]
              refine wpAnyJ_take (i := 7) (oi := { dst := some 62, op := Go.Op.pick (Go.Operand.tmp 57) (Go.Operand.const (Go.Value.bool true)) (Go.Operand.tmp 61), type := 4, pos := "more.go:28", after := #[{ on := 2, ground := Go.Ground.data }, { on := 6, ground := Go.Ground.data }], guard := none }) (v := ?_) [8, 15] rfl (by kernel_rfl) (by kernel_rfl) (by kernel_rfl) (by kernel_rfl) (by kernel_rfl) (fun _ _ _ h => h) (by first | exact hF | exact hF (by kernel_rfl)) (fun w hFw => ?_) (by rfl) ?_
              rotate_left
              · (try dsimp only at hFw)
                first | (go_simp; done) | (go_simp; with_reducible rfl) | (go_split_ands; go_simp; done)
              try simp only [Act.put, List.setIfInBounds_toArray, List.set_cons_zero, List.set_cons_succ]
              refine wpAnyJ_take (i := 8) (oi := { dst := some 63, op := Go.Op.move (Go.Operand.tmp 62), type := 4, pos := "more.go:28", after := #[{ on := 7, ground := Go.Ground.data }, { on := 2, ground := Go.Ground.chain }], guard := none }) (v := ?_) [15] rfl (by kernel_rfl) (by kernel_rfl) (by kernel_rfl) (by kernel_rfl) (by kernel_rfl) (fun _ _ _ h => h) (by first | exact hF | exact hF (by kernel_rfl)) (fun w hFw => ?_) (by rfl) ?_
              rotate_left
              · (try dsimp only at hFw)
                first | (go_simp; done) | (go_simp; with_reducible rfl) | (go_split_ands; go_simp; done)
              try simp only [Act.put, List.setIfInBounds_toArray, List.set_cons_zero, List.set_cons_succ]
              refine wpAnyJ_take (i := 9) (oi := { dst := some 64, op := Go.Op.fieldAddr 28 (Go.Operand.tmp 8) 2, type := 0, pos := "more.go:28", after := #[{ on := 8, ground := Go.Ground.guard }], guard := some (8, false) }) (v := ?_) [10, 15] rfl (by kernel_rfl) (by kernel_rfl) (by kernel_rfl) (by kernel_rfl) (by kernel_rfl) (fun _ _ _ h => h) (by first | exact hF | exact hF (by kernel_rfl)) (fun w hFw => ?_) (by rfl) ?_
              rotate_left
              · (try dsimp only at hFw)
                first | (go_simp; done) | (go_simp; with_reducible rfl) | (go_split_ands; go_simp; done)
              try simp only [Act.put, List.setIfInBounds_toArray, List.set_cons_zero, List.set_cons_succ]
              refine wpAnyJ_take (i := 10) (oi := { dst := some 65, op := Go.Op.load 23 (Go.Operand.tmp 64), type := 23, pos := "more.go:28", after := #[{ on := 9, ground := Go.Ground.data }, { on := 8, ground := Go.Ground.guard }], guard := some (8, false) }) (v := ?_) [15] rfl (by kernel_rfl) (by kernel_rfl) (by kernel_rfl) (by kernel_rfl) (by kernel_rfl) (fun _ _ _ h => h) (by first | exact hF | exact hF (by kernel_rfl)) (fun w hFw => ?_) (by rfl) ?_
              rotate_left
              · (try dsimp only at hFw)
                first | (go_simp; done) | (go_simp; with_reducible rfl) | (go_split_ands; go_simp; done)
              try simp only [Act.put, List.setIfInBounds_toArray, List.set_cons_zero, List.set_cons_succ]
              refine wpAnyJ_take (i := 11) (oi := { dst := some 66, op := Go.Op.move (Go.Operand.tmp 0), type := 22, pos := "more.go:28", after := #[{ on := 8, ground := Go.Ground.guard }], guard := some (8, false) }) (v := ?_) [13, 14, 15] rfl (by kernel_rfl) (by kernel_rfl) (by kernel_rfl) (by kernel_rfl) (by kernel_rfl) (fun _ _ _ h => h) (by first | exact hF | exact hF (by kernel_rfl)) (fun w hFw => ?_) (by rfl) ?_
              rotate_left
              · (try dsimp only at hFw)
                first | (go_simp; done) | (go_simp; with_reducible rfl) | (go_split_ands; go_simp; done)
              try simp only [Act.put, List.setIfInBounds_toArray, List.set_cons_zero, List.set_cons_succ]
              refine wpAnyJ_take (i := 12) (oi := { dst := some 67, op := Go.Op.move (Go.Operand.tmp 7), type := 3, pos := "more.go:28", after := #[{ on := 8, ground := Go.Ground.guard }], guard := some (8, false) }) (v := ?_) [13, 14, 15] rfl (by kernel_rfl) (by kernel_rfl) (by kernel_rfl) (by kernel_rfl) (by kernel_rfl) (fun _ _ _ h => h) (by first | exact hF | exact hF (by kernel_rfl)) (fun w hFw => ?_) (by rfl) ?_
              rotate_left
              · (try dsimp only at hFw)
                first | (go_simp; done) | (go_simp; with_reducible rfl) | (go_split_ands; go_simp; done)
              try simp only [Act.put, List.setIfInBounds_toArray, List.set_cons_zero, List.set_cons_succ]
              refine wpAnyJ_take (i := 13) (oi := { dst := some 68, op := Go.Op.indexAddr 22 (Go.Operand.tmp 66) (Go.Operand.tmp 67), type := 0, pos := "more.go:28", after := #[{ on := 11, ground := Go.Ground.data }, { on := 12, ground := Go.Ground.data }, { on := 8, ground := Go.Ground.guard }], guard := some (8, false) }) (v := ?_) [14, 15] rfl (by kernel_rfl) (by kernel_rfl) (by kernel_rfl) (by kernel_rfl) (by kernel_rfl) (fun _ _ _ h => h) (by first | exact hF | exact hF (by kernel_rfl)) (fun w hFw => ?_) (by rfl) ?_
              rotate_left
              · (try dsimp only at hFw)
                first | (go_simp; done) | (go_simp; with_reducible rfl) | (go_split_ands; go_simp; done)
              try simp only [Act.put, List.setIfInBounds_toArray, List.set_cons_zero, List.set_cons_succ]
              refine wpAnyJ_take (i := 14) (oi := { dst := some 69, op := Go.Op.load 23 (Go.Operand.tmp 68), type := 23, pos := "more.go:28", after := #[{ on := 13, ground := Go.Ground.data }, { on := 8, ground := Go.Ground.guard }], guard := some (8, false) }) (v := ?_) [15] rfl (by kernel_rfl) (by kernel_rfl) (by kernel_rfl) (by kernel_rfl) (by kernel_rfl) (fun _ _ _ h => h) (by first | exact hF | exact hF (by kernel_rfl)) (fun w hFw => ?_) (by rfl) ?_
              rotate_left
              · (try dsimp only at hFw)
                first | (go_simp; done) | (go_simp; with_reducible rfl) | (go_split_ands; go_simp; done)
              try simp only [Act.put, List.setIfInBounds_toArray, List.set_cons_zero, List.set_cons_succ]
              refine wpAnyJ_ready (rs := [15]) (by kernel_rfl) (by simp) ?_
              refine AllJ.cons (o := { dst := some 70, op := Go.Op.call { callee := Go.Callee.value (Go.Operand.func 12), args := #[Go.Operand.tmp 65, Go.Operand.tmp 69], argTypes := #[23, 23] }, type := 4, pos := "more.go:28", after := #[{ on := 10, ground := Go.Ground.data }, { on := 14, ground := Go.Ground.data }, { on := 8, ground := Go.Ground.chain }, { on := 8, ground := Go.Ground.guard }], guard := some (8, false) }) rfl (fun Kr hKr => ?_) ?_
              · (go_simp; refine (same_any _ _ _ _ _ _ x.d l[k] _ hx2.out.drew hrd'.out.drew (by rw [hxd.out]; have := hmem.out _ (List.getElem_mem hlt); omega) (by have := hmem.out _ (List.getElem_mem hlt); omega)).mono ?_; rintro e w3 ⟨rfl, hs3⟩; have hdec : decide (x.d = l[k]) = true := decide_eq_true hxd.out)
                refine hKr.out _ _ (fun hJ => ?_) (fun hF => ?_)
                · first
                  | exact absurd hJ (by decide)
                  | (clear hJ; (try dsimp only); all_goals (rfl))
                clear hKr
                try simp only [Act.put, List.setIfInBounds_toArray, List.set_cons_zero, List.set_cons_succ]
                refine wpAnyJ_ready (rs := [16]) (by kernel_rfl) (by simp) ?_
                refine AllJ.cons (o := { dst := some 71, op := Go.Op.unOp Go.UnOp.not 4 (Go.Operand.tmp 70), type := 4, pos := "more.go:28", after := #[{ on := 15, ground := Go.Ground.data }, { on := 8, ground := Go.Ground.guard }], guard := some (8, false) }) rfl (fun Kr hKr => ?_) ?_
                · go_simp
                  refine hKr.out _ _ (fun hJ => ?_) (fun hF => ?_)
                  · first
                    | exact absurd hJ (by decide)
                    | (clear hJ; (try dsimp only); all_goals (rfl))
                  clear hKr
                  try simp only [Act.put, List.setIfInBounds_toArray, List.set_cons_zero, List.set_cons_succ]
                  refine wpAnyJ_ready (rs := [17]) (by kernel_rfl) (by simp) ?_
                  refine AllJ.cons (o := { dst := some 72, op := Go.Op.pick (Go.Operand.tmp 63) (Go.Operand.const (Go.Value.bool true)) (Go.Operand.tmp 71), type := 4, pos := "more.go:28", after := #[{ on := 8, ground := Go.Ground.data }, { on := 16, ground := Go.Ground.data }], guard := none }) rfl (fun Kr hKr => ?_) ?_
                  · go_simp
                    refine hKr.out _ _ (fun hJ => ?_) (fun hF => ?_)
                    · first
                      | exact absurd hJ (by decide)
                      | (clear hJ; (try dsimp only); all_goals (rfl))
                    clear hKr
                    try simp only [Act.put, List.setIfInBounds_toArray, List.set_cons_zero, List.set_cons_succ]
                    refine wpAnyJ_done (by kernel_rfl) ?_ _
                    go_wp2
                    exact ⟨⟨k + 1, its.eraseIdx 0, H2, by omega, by go_num, by rw [List.length_eraseIdx]; have := hil.out; split <;> omega, hsent.out.tail, hn2, (s.drew.call0 hs3).tail.forget.forget⟩, by simp [intOf]; omega⟩
                  exact AllJ.nil
                exact AllJ.nil
              exact AllJ.nil
            · have hkl : its = [] := by have := hil.out; exact List.length_eq_zero_iff.1 (by omega)
              go_wp2_with fail
              refine (len_any w.heap.size its H _ hn hs.own).mono ?_
              rintro e w2 ⟨rfl, rfl⟩
              have hk2 : ((its.length : Int) == 0) = true := by rw [hkl]; rfl
              replace hkl := Lib.hid hkl
              go_wp2_with fail
              refine (known_any _).mono ?_
              rintro e w3 ⟨rfl, hs3⟩
              go_wp2
              go_ret
              exact ⟨rfl, (hs.call0 hs3).forget (A := [])⟩
end Go.Proofs.Ytliapfdbagcklaa
