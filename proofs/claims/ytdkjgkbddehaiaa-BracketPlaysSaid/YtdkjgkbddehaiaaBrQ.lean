/- Both brackets held against each other. -/
import Derived.Test.YtdkjgkbddehaiaaBrP
import Derived.Deep.CutBlock
namespace Go.Proofs.Ytdkjgkbddehaiaa
open Go.RowKit
attribute [local go_sem ↓] Go.wp_at_zero Go.wp_at_succ

theorem RdNums.afterN {w w' : World} {a : Option Addr} {n : Nat} {l : List Int} (h : RdNums w a n l) {H : Heaplet} (s : Step w [] w' H) : RdNums w' a n l := h.later s
theorem ints_same (a b : Option Addr) (n c m d : Nat) (l : List Int) (w : World) (ha : RdNums w a n l) (hb : RdNums w b m l) (hl : l.length ≤ 140737488355328) :
    Calls Try.prog 22 #[.slice a n c, .slice b m d] w (LawPost w) :=
  (ints_any a b n c m d l l w ha hb hl hl).mono fun e w' h => ⟨by rw [h.1, decide_eq_true rfl], h.2⟩
def StRel (N : Nat) (c : Int) (G : Heaplet) (w : World) (v : Value) (wr : World) : Prop := ∃ k : Nat, k ≤ N ∧ v = .int .i64 ((k : Int) - 1) ∧ Step w [] wr G
theorem seats_le {B : Br} (h : B.Ok) (i : Int) : (B.seats i).1 ≤ 64 ∧ (B.seats i).2.1 ≤ 64 ∧ (B.seats i).2.2 ≤ 7 := by
  have := h.n64
  unfold Br.seats
  split
  · split
    · rename_i m hm
      have := h.le m (List.mem_of_getElem? hm)
      exact ⟨by simp only; omega, by simp only; omega, by simp⟩
    · simp
  · simp
set_option maxHeartbeats 4000000 in
set_option maxRecDepth 100000 in
theorem stood_any (B : Br) (l : List Nat) (W : List Int) (b g h r : Nat) (H : Heaplet) (w : World) (hok : RfOk B l W) (hb : Own w (brH b g h B)) (hw : RfOwn w r B.n l W H) :
    Calls Try.prog 21 #[pt b, pt r] w (LawPost w) := by
  have hl := hok.inv.ok.len
  have h64 := hok.inv.ok.z64
  have hn64 := hok.inv.ok.n64
  have hwl := hok.tie.len
  have hl64 : B.ms.length ≤ 64 := by omega
  have b1 : (W.length : Int) ≤ 64 := by omega
  have b2 : (B.n : Int) ≤ 64 := by omega
  have hma := Lib.hid (fun W hW => matches_any b g h B W hW)
  have hrd := Lib.hid (fun W hW => ready_any b g h B W hW hl64)
  have hrr := Lib.hid (fun H' w' hw' => rready_any B l W r H' w' hok hw')
  have hch := Lib.hid (fun W hW => champion_any b g h B W hW hl64)
  have hrc := Lib.hid (fun H' w' hw' => rchampion_any B l W r H' w' hok hw')
  have hsa := Lib.hid (fun i W hW => seats_any b g h B i W hW hl64)
  have hsb := Lib.hid (fun i H' w' hw' => rseatsf_any B l W r i H' w' hok hw')
  have hwa := Lib.hid (fun i W hW => winner_any b g h B i W hW hl64)
  have hwb := Lib.hid (fun i H' w' hw' => rwinner_any B l W r i H' w' hok hw')
  have hoa := Lib.hid (fun s W hW => out_any b g h B s W hW hok.inv.ok.outl hn64)
  have hob := Lib.hid (fun s H' w' hw' => rout_any B l W r s H' w' hok hw')
  have hsl := Lib.hid (fun i => seats_le hok.inv.ok i)
  unfold ReadyPost at hrd hrr
  rw [← hwl] at hma hrd hrr hch hrc hl64
  obtain ⟨L, hL⟩ : ∃ L, L = B.ready W.length := ⟨_, rfl⟩
  have hLl : L.length ≤ 64 := by rw [hL]; have := ready_len B W.length; omega
  rw [← hL] at hrd hrr
  unfold RWinPost at hrc hwb
  unfold OutPost at hob
  have q1 : ((W.length : Int) != (W.length : Int)) = false := by simp
  generalize B.winner ((W.length : Int) - 1) = C at *
  have q2 : ((C : Int) != (C : Int)) = false := by simp
  obtain ⟨a1, k1, a2, k2, c0, c1, c2⟩ := hw.lens
  clear hl hwl h64 hn64
  replace hL := Lib.hid hL
  go_enter Try.func21, Try.ntmps21
  go_upto_region 3 with fail
  go_cut [4, 33] (fun v4 v33 wc => v4 = .bool false ∧ v33 = .bool false ∧ Step w [] wc [])
  case first =>
    go_wp2_with fail
    have sL := (Step.refl (Own.nil w)).drew
    refine wp_region_J 22 (fun w' => w'.cell? ⟨r, 2, none⟩ = some (.slice a2 W.length k2)) (by kernel_rfl) ?_ (fun hF => ?_)
    · (try dsimp only)
      all_goals (exact sL.keepCell c2)
    refine wpAnyJ_take (i := 0) (oi := { dst := some 11, op := Go.Op.move (Go.Operand.tmp 0), type := 24, pos := "law.go:37", after := #[], guard := none }) (v := ?_) [1, 8, 13, 16, 22] rfl (by kernel_rfl) (by kernel_rfl) (by kernel_rfl) (by kernel_rfl) (by kernel_rfl) (fun _ _ _ h => h) (by first | exact hF | exact hF (by kernel_rfl)) (fun w hFw => ?_) (by rfl) ?_
    rotate_left
    · (try dsimp only at hFw)
      first | (go_simp; done) | (go_simp; with_reducible rfl) | (go_split_ands; go_simp; done)
    try simp only [Act.put, List.setIfInBounds_toArray, List.set_cons_zero, List.set_cons_succ]
    refine wpAnyJ_take (i := 2) (oi := { dst := some 13, op := Go.Op.move (Go.Operand.tmp 1), type := 38, pos := "law.go:37", after := #[], guard := none }) (v := ?_) [3, 4, 5, 6, 7, 8, 13, 16, 22] rfl (by kernel_rfl) (by kernel_rfl) (by kernel_rfl) (by kernel_rfl) (by kernel_rfl) (fun _ _ _ h => h) (by first | exact hF | exact hF (by kernel_rfl)) (fun w hFw => ?_) (by rfl) ?_
    rotate_left
    · (try dsimp only at hFw)
      first | (go_simp; done) | (go_simp; with_reducible rfl) | (go_split_ands; go_simp; done)
    try simp only [Act.put, List.setIfInBounds_toArray, List.set_cons_zero, List.set_cons_succ]
    refine wpAnyJ_take (i := 3) (oi := { dst := some 14, op := Go.Op.nilCheck (Go.Operand.tmp 13), type := 0, pos := "law.go:37", after := #[{ on := 2, ground := Go.Ground.data }], guard := none }) (v := ?_) [4, 5, 6, 7, 8, 13, 16, 22] rfl (by kernel_rfl) (by kernel_rfl) (by kernel_rfl) (by kernel_rfl) (by kernel_rfl) (fun _ _ _ h => h) (by first | exact hF | exact hF (by kernel_rfl)) (fun w hFw => ?_) (by rfl) ?_
    rotate_left
    · (try dsimp only at hFw)
      first | (go_simp; done) | (go_simp; with_reducible rfl) | (go_split_ands; go_simp; done)
    try simp only [Act.put, List.setIfInBounds_toArray, List.set_cons_zero, List.set_cons_succ]
    refine wpAnyJ_take (i := 4) (oi := { dst := some 15, op := Go.Op.fieldAddr 65 (Go.Operand.tmp 14) 2, type := 0, pos := "law.go:37", after := #[{ on := 3, ground := Go.Ground.data }], guard := none }) (v := ?_) [5, 6, 7, 8, 13, 16, 22] rfl (by kernel_rfl) (by kernel_rfl) (by kernel_rfl) (by kernel_rfl) (by kernel_rfl) (fun _ _ _ h => h) (by first | exact hF | exact hF (by kernel_rfl)) (fun w hFw => ?_) (by rfl) ?_
    rotate_left
    · (try dsimp only at hFw)
      first | (go_simp; done) | (go_simp; with_reducible rfl) | (go_split_ands; go_simp; done)
    try simp only [Act.put, List.setIfInBounds_toArray, List.set_cons_zero, List.set_cons_succ]
    refine wpAnyJ_take (i := 5) (oi := { dst := some 16, op := Go.Op.load 22 (Go.Operand.tmp 15), type := 22, pos := "law.go:37", after := #[{ on := 4, ground := Go.Ground.data }], guard := none }) (v := ?_) [6, 7, 8, 13, 16, 22] rfl (by kernel_rfl) (by kernel_rfl) (by kernel_rfl) (by kernel_rfl) (by kernel_rfl) (fun _ _ _ h => h) (by first | exact hF | exact hF (by kernel_rfl)) (fun w hFw => ?_) (by rfl) ?_
    rotate_left
    · (try dsimp only at hFw)
      first | (go_simp; done) | (go_simp; with_reducible rfl) | (go_split_ands; go_simp; done)
    try simp only [Act.put, List.setIfInBounds_toArray, List.set_cons_zero, List.set_cons_succ]
    refine wpAnyJ_take (i := 6) (oi := { dst := some 17, op := Go.Op.call { callee := Go.Callee.builtin Go.Builtin.len, args := #[Go.Operand.tmp 16], argTypes := #[22] }, type := 3, pos := "law.go:37", after := #[{ on := 5, ground := Go.Ground.data }], guard := none }) (v := ?_) [7, 8, 13, 16, 22] rfl (by kernel_rfl) (by kernel_rfl) (by kernel_rfl) (by kernel_rfl) (by kernel_rfl) (fun _ _ _ h => h) (by first | exact hF | exact hF (by kernel_rfl)) (fun w hFw => ?_) (by rfl) ?_
    rotate_left
    · (try dsimp only at hFw)
      first | (go_simp; done) | (go_simp; with_reducible rfl) | (go_split_ands; go_simp; done)
    try simp only [Act.put, List.setIfInBounds_toArray, List.set_cons_zero, List.set_cons_succ]
    refine wpAnyJ_ready (rs := [1]) (by kernel_rfl) (by simp) ?_
    refine AllJ.cons (o := { dst := some 12, op := Go.Op.call { callee := Go.Callee.value (Go.Operand.func 14), args := #[Go.Operand.tmp 11], argTypes := #[24] }, type := 3, pos := "law.go:37", after := #[{ on := 0, ground := Go.Ground.data }], guard := none }) rfl (fun Kr hKr => ?_) ?_
    · go_simp; go_at_call 14; refine (hma.out _ (hb.after sL)).mono ?_; rintro e w1 ⟨rfl, rfl⟩
      refine hKr.out _ _ (fun hJ => ?_) (fun hF => ?_)
      · first
        | exact absurd hJ (by decide)
        | (clear hJ; (try dsimp only); all_goals (exact sL.keepCell c2))
      clear hKr
      try simp only [Act.put, List.setIfInBounds_toArray, List.set_cons_zero, List.set_cons_succ]
      refine wpAnyJ_take (i := 7) (oi := { dst := some 18, op := Go.Op.binOp Go.BinOp.neq 3 (Go.Operand.tmp 12) (Go.Operand.tmp 17) 3, type := 4, pos := "law.go:37", after := #[{ on := 1, ground := Go.Ground.data }, { on := 6, ground := Go.Ground.data }], guard := none }) (v := ?_) [8, 13, 16, 22] rfl (by kernel_rfl) (by kernel_rfl) (by kernel_rfl) (by kernel_rfl) (by kernel_rfl) (fun _ _ _ h => h) (by first | exact hF | exact hF (by kernel_rfl)) (fun w hFw => ?_) (by rfl) ?_
      rotate_left
      · (try dsimp only at hFw)
        first | (go_simp; done) | (go_simp; with_reducible rfl) | (go_split_ands; go_simp; done)
      try simp only [Act.put, List.setIfInBounds_toArray, List.set_cons_zero, List.set_cons_succ]
      refine wpAnyJ_take (i := 8) (oi := { dst := some 19, op := Go.Op.move (Go.Operand.tmp 18), type := 4, pos := "law.go:37", after := #[{ on := 7, ground := Go.Ground.data }, { on := 1, ground := Go.Ground.chain }], guard := none }) (v := ?_) [13, 16, 22] rfl (by kernel_rfl) (by kernel_rfl) (by kernel_rfl) (by kernel_rfl) (by kernel_rfl) (fun _ _ _ h => h) (by first | exact hF | exact hF (by kernel_rfl)) (fun w hFw => ?_) (by rfl) ?_
      rotate_left
      · (try dsimp only at hFw)
        first | (go_simp; done) | (go_simp; with_reducible rfl) | (go_split_ands; go_simp; done)
      try simp only [Act.put, List.setIfInBounds_toArray, List.set_cons_zero, List.set_cons_succ]
      refine wpAnyJ_take (i := 9) (oi := { dst := some 20, op := Go.Op.move (Go.Operand.tmp 0), type := 24, pos := "law.go:37", after := #[{ on := 8, ground := Go.Ground.guard }], guard := some (8, false) }) (v := ?_) [10, 13, 16, 22] rfl (by kernel_rfl) (by kernel_rfl) (by kernel_rfl) (by kernel_rfl) (by kernel_rfl) (fun _ _ _ h => h) (by first | exact hF | exact hF (by kernel_rfl)) (fun w hFw => ?_) (by rfl) ?_
      rotate_left
      · (try dsimp only at hFw)
        first | (go_simp; done) | (go_simp; with_reducible rfl) | (go_split_ands; go_simp; done)
      try simp only [Act.put, List.setIfInBounds_toArray, List.set_cons_zero, List.set_cons_succ]
      refine wpAnyJ_take (i := 11) (oi := { dst := some 22, op := Go.Op.move (Go.Operand.tmp 1), type := 38, pos := "law.go:37", after := #[{ on := 8, ground := Go.Ground.guard }], guard := some (8, false) }) (v := ?_) [12, 13, 16, 22] rfl (by kernel_rfl) (by kernel_rfl) (by kernel_rfl) (by kernel_rfl) (by kernel_rfl) (fun _ _ _ h => h) (by first | exact hF | exact hF (by kernel_rfl)) (fun w hFw => ?_) (by rfl) ?_
      rotate_left
      · (try dsimp only at hFw)
        first | (go_simp; done) | (go_simp; with_reducible rfl) | (go_split_ands; go_simp; done)
      try simp only [Act.put, List.setIfInBounds_toArray, List.set_cons_zero, List.set_cons_succ]
      refine wpAnyJ_ready (rs := [10]) (by kernel_rfl) (by simp) ?_
      refine AllJ.cons (o := { dst := some 21, op := Go.Op.call { callee := Go.Callee.value (Go.Operand.func 12), args := #[Go.Operand.tmp 20], argTypes := #[24] }, type := 22, pos := "law.go:37", after := #[{ on := 9, ground := Go.Ground.data }, { on := 8, ground := Go.Ground.chain }, { on := 8, ground := Go.Ground.guard }], guard := some (8, false) }) rfl (fun Kr hKr => ?_) ?_
      · go_simp; go_at_call 12; refine (hrd.out _ (hb.after sL)).mono ?_; rintro e w1 ⟨ra, rc, rH, rfl, rr, hs1⟩
        have n1 := rr.nums hs1.own
        (try have n2 := n2.later hs1)
        have sL := (sL.call0 hs1).forget
        refine hKr.out _ _ (fun hJ => ?_) (fun hF => ?_)
        · first
          | exact absurd hJ (by decide)
          | (clear hJ; (try dsimp only); all_goals (exact sL.keepCell c2))
        clear hKr
        try simp only [Act.put, List.setIfInBounds_toArray, List.set_cons_zero, List.set_cons_succ]
        refine wpAnyJ_ready (rs := [12]) (by kernel_rfl) (by simp) ?_
        refine AllJ.cons (o := { dst := some 23, op := Go.Op.call { callee := Go.Callee.value (Go.Operand.func 30), args := #[Go.Operand.tmp 22], argTypes := #[38] }, type := 22, pos := "law.go:37", after := #[{ on := 11, ground := Go.Ground.data }, { on := 10, ground := Go.Ground.chain }, { on := 8, ground := Go.Ground.guard }], guard := some (8, false) }) rfl (fun Kr hKr => ?_) ?_
        · go_simp; go_at_call 30; refine (hrr.out _ _ (hw.after sL)).mono ?_; rintro e w1 ⟨sa, sc, sH, rfl, sr, hs1⟩
          have n2 := sr.nums hs1.own
          (try have n1 := n1.later hs1)
          have sL := (sL.call0 hs1).forget
          refine hKr.out _ _ (fun hJ => ?_) (fun hF => ?_)
          · first
            | exact absurd hJ (by decide)
            | (clear hJ; (try dsimp only); all_goals (exact sL.keepCell c2))
          clear hKr
          try simp only [Act.put, List.setIfInBounds_toArray, List.set_cons_zero, List.set_cons_succ]
          refine wpAnyJ_ready (rs := [13]) (by kernel_rfl) (by simp) ?_
          refine AllJ.cons (o := { dst := some 24, op := Go.Op.call { callee := Go.Callee.value (Go.Operand.func 22), args := #[Go.Operand.tmp 21, Go.Operand.tmp 23], argTypes := #[22, 22] }, type := 4, pos := "law.go:37", after := #[{ on := 10, ground := Go.Ground.data }, { on := 12, ground := Go.Ground.data }, { on := 12, ground := Go.Ground.chain }, { on := 8, ground := Go.Ground.guard }], guard := some (8, false) }) rfl (fun Kr hKr => ?_) ?_
          · go_simp; go_at_call 22; refine (ints_same _ _ _ _ _ _ _ _ n1 n2 (by simp; omega)).mono ?_; rintro e w1 ⟨rfl, hs1⟩
            have sL := sL.call0 hs1
            refine hKr.out _ _ (fun hJ => ?_) (fun hF => ?_)
            · first
              | exact absurd hJ (by decide)
              | (clear hJ; (try dsimp only); all_goals (exact sL.keepCell c2))
            clear hKr
            try simp only [Act.put, List.setIfInBounds_toArray, List.set_cons_zero, List.set_cons_succ]
            refine wpAnyJ_take (i := 14) (oi := { dst := some 25, op := Go.Op.unOp Go.UnOp.not 4 (Go.Operand.tmp 24), type := 4, pos := "law.go:37", after := #[{ on := 13, ground := Go.Ground.data }, { on := 8, ground := Go.Ground.guard }], guard := some (8, false) }) (v := ?_) [15, 16, 22] rfl (by kernel_rfl) (by kernel_rfl) (by kernel_rfl) (by kernel_rfl) (by kernel_rfl) (fun _ _ _ h => h) (by first | exact hF | exact hF (by kernel_rfl)) (fun w hFw => ?_) (by rfl) ?_
            rotate_left
            · (try dsimp only at hFw)
              first | (go_simp; done) | (go_simp; with_reducible rfl) | (go_split_ands; go_simp; done)
            try simp only [Act.put, List.setIfInBounds_toArray, List.set_cons_zero, List.set_cons_succ]
            refine wpAnyJ_take (i := 15) (oi := { dst := some 26, op := Go.Op.pick (Go.Operand.tmp 19) (Go.Operand.const (Go.Value.bool true)) (Go.Operand.tmp 25), type := 4, pos := "law.go:37", after := #[{ on := 8, ground := Go.Ground.data }, { on := 14, ground := Go.Ground.data }], guard := none }) (v := ?_) [16, 22] rfl (by kernel_rfl) (by kernel_rfl) (by kernel_rfl) (by kernel_rfl) (by kernel_rfl) (fun _ _ _ h => h) (by first | exact hF | exact hF (by kernel_rfl)) (fun w hFw => ?_) (by rfl) ?_
            rotate_left
            · (try dsimp only at hFw)
              first | (go_simp; done) | (go_simp; with_reducible rfl) | (go_split_ands; go_simp; done)
            try simp only [Act.put, List.setIfInBounds_toArray, List.set_cons_zero, List.set_cons_succ]
            refine wpAnyJ_take (i := 16) (oi := { dst := some 27, op := Go.Op.move (Go.Operand.tmp 26), type := 4, pos := "law.go:37", after := #[{ on := 15, ground := Go.Ground.data }, { on := 13, ground := Go.Ground.chain }], guard := none }) (v := ?_) [22] rfl (by kernel_rfl) (by kernel_rfl) (by kernel_rfl) (by kernel_rfl) (by kernel_rfl) (fun _ _ _ h => h) (by first | exact hF | exact hF (by kernel_rfl)) (fun w hFw => ?_) (by rfl) ?_
            rotate_left
            · (try dsimp only at hFw)
              first | (go_simp; done) | (go_simp; with_reducible rfl) | (go_split_ands; go_simp; done)
            try simp only [Act.put, List.setIfInBounds_toArray, List.set_cons_zero, List.set_cons_succ]
            refine wpAnyJ_take (i := 17) (oi := { dst := some 28, op := Go.Op.move (Go.Operand.tmp 0), type := 24, pos := "law.go:37", after := #[{ on := 16, ground := Go.Ground.guard }], guard := some (16, false) }) (v := ?_) [18, 21, 22] rfl (by kernel_rfl) (by kernel_rfl) (by kernel_rfl) (by kernel_rfl) (by kernel_rfl) (fun _ _ _ h => h) (by first | exact hF | exact hF (by kernel_rfl)) (fun w hFw => ?_) (by rfl) ?_
            rotate_left
            · (try dsimp only at hFw)
              first | (go_simp; done) | (go_simp; with_reducible rfl) | (go_split_ands; go_simp; done)
            try simp only [Act.put, List.setIfInBounds_toArray, List.set_cons_zero, List.set_cons_succ]
            refine wpAnyJ_take (i := 19) (oi := { dst := some 30, op := Go.Op.move (Go.Operand.tmp 1), type := 38, pos := "law.go:37", after := #[{ on := 16, ground := Go.Ground.guard }], guard := some (16, false) }) (v := ?_) [20, 21, 22] rfl (by kernel_rfl) (by kernel_rfl) (by kernel_rfl) (by kernel_rfl) (by kernel_rfl) (fun _ _ _ h => h) (by first | exact hF | exact hF (by kernel_rfl)) (fun w hFw => ?_) (by rfl) ?_
            rotate_left
            · (try dsimp only at hFw)
              first | (go_simp; done) | (go_simp; with_reducible rfl) | (go_split_ands; go_simp; done)
            try simp only [Act.put, List.setIfInBounds_toArray, List.set_cons_zero, List.set_cons_succ]
            refine wpAnyJ_ready (rs := [18]) (by kernel_rfl) (by simp) ?_
            refine AllJ.cons (o := { dst := some 29, op := Go.Op.call { callee := Go.Callee.value (Go.Operand.func 17), args := #[Go.Operand.tmp 28], argTypes := #[24] }, type := 3, pos := "law.go:37", after := #[{ on := 17, ground := Go.Ground.data }, { on := 16, ground := Go.Ground.chain }, { on := 16, ground := Go.Ground.guard }], guard := some (16, false) }) rfl (fun Kr hKr => ?_) ?_
            · go_simp; go_at_call 17; refine (hch.out _ (hb.after sL)).mono ?_; rintro e w1 ⟨rfl, rfl⟩
              refine hKr.out _ _ (fun hJ => ?_) (fun hF => ?_)
              · first
                | exact absurd hJ (by decide)
                | (clear hJ; (try dsimp only); all_goals (exact sL.keepCell c2))
              clear hKr
              try simp only [Act.put, List.setIfInBounds_toArray, List.set_cons_zero, List.set_cons_succ]
              refine wpAnyJ_ready (rs := [20]) (by kernel_rfl) (by simp) ?_
              refine AllJ.cons (o := { dst := some 31, op := Go.Op.call { callee := Go.Callee.value (Go.Operand.func 31), args := #[Go.Operand.tmp 30], argTypes := #[38] }, type := 3, pos := "law.go:37", after := #[{ on := 19, ground := Go.Ground.data }, { on := 18, ground := Go.Ground.chain }, { on := 16, ground := Go.Ground.guard }], guard := some (16, false) }) rfl (fun Kr hKr => ?_) ?_
              · go_simp; go_at_call 31; refine (hrc.out _ _ (hw.after sL)).mono ?_; rintro e w1 ⟨rfl, hs1⟩
                have sL := sL.call0 hs1
                refine hKr.out _ _ (fun hJ => ?_) (fun hF => ?_)
                · first
                  | exact absurd hJ (by decide)
                  | (clear hJ; (try dsimp only); all_goals (exact sL.keepCell c2))
                clear hKr
                try simp only [Act.put, List.setIfInBounds_toArray, List.set_cons_zero, List.set_cons_succ]
                refine wpAnyJ_take (i := 21) (oi := { dst := some 32, op := Go.Op.binOp Go.BinOp.neq 3 (Go.Operand.tmp 29) (Go.Operand.tmp 31) 3, type := 4, pos := "law.go:37", after := #[{ on := 18, ground := Go.Ground.data }, { on := 20, ground := Go.Ground.data }, { on := 16, ground := Go.Ground.guard }], guard := some (16, false) }) (v := ?_) [22] rfl (by kernel_rfl) (by kernel_rfl) (by kernel_rfl) (by kernel_rfl) (by kernel_rfl) (fun _ _ _ h => h) (by first | exact hF | exact hF (by kernel_rfl)) (fun w hFw => ?_) (by rfl) ?_
                rotate_left
                · (try dsimp only at hFw)
                  first | (go_simp; done) | (go_simp; with_reducible rfl) | (go_split_ands; go_simp; done)
                try simp only [Act.put, List.setIfInBounds_toArray, List.set_cons_zero, List.set_cons_succ]
                refine wpAnyJ_ready (rs := [22]) (by kernel_rfl) (by simp) ?_
                refine AllJ.cons (o := { dst := some 33, op := Go.Op.pick (Go.Operand.tmp 27) (Go.Operand.const (Go.Value.bool true)) (Go.Operand.tmp 32), type := 4, pos := "law.go:37", after := #[{ on := 16, ground := Go.Ground.data }, { on := 21, ground := Go.Ground.data }], guard := none }) rfl (fun Kr hKr => ?_) ?_
                · go_simp
                  refine hKr.out _ _ (fun hJ => ?_) (fun hF => ?_)
                  · first
                    | exact absurd hJ (by decide)
                    | (clear hJ; (try dsimp only); all_goals (exact sL.keepCell c2))
                  clear hKr
                  try simp only [Act.put, List.setIfInBounds_toArray, List.set_cons_zero, List.set_cons_succ]
                  refine wpAnyJ_done (by kernel_rfl) ?_ _
                  go_wp2_with fail
                  go_meet
                  exact ⟨rfl, rfl, sL⟩
                exact AllJ.nil
              exact AllJ.nil
            exact AllJ.nil
          exact AllJ.nil
        exact AllJ.nil
      exact AllJ.nil
    exact AllJ.nil
  case rest =>
    clear hma hrd hrr hch hrc q1 q2 c0 c1 c2
    obtain ⟨rfl, rfl, hs⟩ := hcut
    replace hs := Lib.hid hs
    go_upto_block 0 with fail
    go_cut [5] (fun _ wc => Step w [] wc [])
    case first =>
      go_wp2_with fail
      go_loopw [5] (fun v wr => StRel (W.length + 2) 0 [] w v wr) (fun v _ => ((W.length : Int) + 2 - intOf v).toNat)
      case atStart => exact ⟨0, by omega, rfl, hs.out⟩
      case round =>
        clear hs
        obtain ⟨k, hk, rfl, hs⟩ := hrel
        obtain ⟨a1, k1, a2, k2, c0, c1, c2⟩ := (hw.after hs).lens
        by_cases hlt : k < W.length + 2
        · have d2 : (k : Int) - 1 ≤ (W.length : Int) := by omega
          have hsa1 := Lib.hid (fun W hW => hsa.out ((k : Int) - 1) W hW)
          have hsb1 := Lib.hid (fun H' W hW => hsb.out ((k : Int) - 1) H' W hW)
          have hwa1 := Lib.hid (fun W hW => hwa.out ((k : Int) - 1) W hW)
          have hwb1 := Lib.hid (fun H' W hW => hwb.out ((k : Int) - 1) H' W hW)
          obtain ⟨l0, l1, l2⟩ := hsl.out ((k : Int) - 1)
          have e4 : IntKind.i64.wrap ((k : Int) - 1 + 1) = (k : Int) := by rw [IntWalk.i64_in _ (by omega)]; omega
          generalize B.seats ((k : Int) - 1) = X at *
          generalize B.winner ((k : Int) - 1) = V at *
          obtain ⟨x0, x1, x2⟩ := X
          simp only at l0 l1 l2
          unfold SeatsPost at hsa1 hsb1
          simp only at hsa1 hsb1
          have q3 : ((x2 : Int) != (x2 : Int)) = false := by simp
          have q4 : ((V : Int) != (V : Int)) = false := by simp
          have heq := fun W => run_eq2 W (x0 : Int) (x1 : Int) (x0 : Int) (x1 : Int)
          simp only [beq_self_eq_true, Bool.and_self] at heq
          obtain ⟨I, hI⟩ : ∃ I, I = (k : Int) - 1 := ⟨_, rfl⟩
          rw [← hI] at hsa1 hsb1 hwa1 hwb1 d2 e4 ⊢
          have i1 : -1 ≤ I := by omega
          have i2 : I ≤ 64 := by omega
          replace hI := Lib.hid hI
          clear e4
          go_wp2_with fail
          refine (hsa1.out _ (hb.after hs)).mono ?_
          rintro e w1 ⟨rfl, hs1⟩
          have sL := hs.call0 hs1
          have sL := sL.alloc (.cells #[iv x0, iv x1] 32)
          clear hs hs1
          go_wp2_with fail
          refine (hsb1.out _ _ (hw.after sL)).mono ?_
          rintro e w2 ⟨rfl, hs2⟩
          have sL := sL.call0 hs2
          have sM := sL.alloc (.cells #[iv x0, iv x1] 32)
          obtain ⟨y0, y1⟩ := cells2 sM.own.h0
          obtain ⟨z0, z1⟩ := cells2 sM.own.h1
          clear sL hs2
          go_wp2_with fail
          refine (hwa1.out _ (hb.after sM)).mono ?_
          rintro e w3 ⟨rfl, rfl⟩
          go_wp2_with fail
          refine (hwb1.out _ _ (hw.after sM)).mono ?_
          rintro e w3 ⟨rfl, hs3⟩
          have sM := sM.call0 hs3
          go_wp2_with fail
          refine ⟨⟨k + 1, by omega, ?_, sM.forget (A := [])⟩, ?_⟩
          · rw [hI.out]; go_num
          · simp only [intOf]; rw [hI.out]; omega
        · have d2 : (W.length : Int) < (k : Int) - 1 := by omega
          clear hsa hsb hwa hwb
          go_wp2_with fail
          go_meet
          exact hs
    case rest =>
      clear hs hsa hsb hwa hwb
      have hs := hcut
      clear hcut
      replace hs := Lib.hid hs
      go_wp2_with fail
      go_loopw [10] (fun v wr => StRel (B.n + 3) 0 [] w v wr) (fun v _ => ((B.n : Int) + 3 - intOf v).toNat)
      case atStart => exact ⟨0, by omega, rfl, hs.out⟩
      case round =>
        clear hs
        obtain ⟨k, hk, rfl, hs⟩ := hrel
        obtain ⟨a1, k1, a2, k2, c0, c1, c2⟩ := (hw.after hs).lens
        by_cases hlt : k < B.n + 3
        · have d2 : (k : Int) - 1 ≤ (B.n : Int) + 1 := by omega
          have hoa1 := Lib.hid (fun W hW => hoa.out ((k : Int) - 1) W hW)
          have hob1 := Lib.hid (fun H' W hW => hob.out ((k : Int) - 1) H' W hW)
          generalize B.isOut ((k : Int) - 1) = X at *
          obtain ⟨I, hI⟩ : ∃ I, I = (k : Int) - 1 := ⟨_, rfl⟩
          rw [← hI] at hoa1 hob1 d2 ⊢
          have i1 : -1 ≤ I := by omega
          have i2 : I ≤ 66 := by omega
          have q3 : (X != X) = false := by simp
          replace hI := Lib.hid hI
          go_wp2_with fail
          refine (hoa1.out _ (hb.after hs)).mono ?_
          rintro e w1 ⟨rfl, rfl⟩
          go_wp2_with fail
          refine (hob1.out _ _ (hw.after hs)).mono ?_
          rintro e w2 ⟨rfl, hs2⟩
          have sL := hs.call0 hs2
          go_wp2_with fail
          refine ⟨⟨k + 1, by omega, ?_, sL⟩, ?_⟩
          · rw [hI.out]; go_num
          · simp only [intOf]; rw [hI.out]; omega
        · have d2 : (B.n : Int) + 1 < (k : Int) - 1 := by omega
          clear hoa hob
          go_wp2_with fail
          go_ret
          exact ⟨rfl, hs⟩
end Go.Proofs.Ytdkjgkbddehaiaa
