/- BracketEnds. -/
import Derived.Test.YtdkjgkbddehaiaaBrV
import Derived.Deep.CutBlock
namespace Go.Proofs.Ytdkjgkbddehaiaa
open Go.RowKit
attribute [local go_sem ↓] Go.wp_at_zero Go.wp_at_succ

def EnRel (n b g h : Nat) (R : Heaplet) (w : World) (v7 v8 : Value) (wr : World) : Prop :=
  ∃ (k : Nat) (B : Br), k ≤ n ∧ v8 = .int .i64 (k : Nat) ∧ v7 = .int .i64 (k : Nat) ∧ B.Inv ∧ B.n = n ∧ B.outs n = k ∧ Step w [] wr (brH b g h B ++ R)
def EnCut (n b g h : Nat) (R : Heaplet) (w : World) (v7 : Value) (wc : World) : Prop :=
  ∃ B : Br, B.Inv ∧ B.n = n ∧ B.ready B.ms.length = [] ∧ v7 = .int .i64 ((n : Int) - 1) ∧ Step w [] wc (brH b g h B ++ R)
def EnRel2 (n : Nat) (B : Br) (H : Heaplet) (w : World) (v14 v15 : Value) (wr : World) : Prop :=
  ∃ s : Nat, s ≤ n ∧ v15 = .int .i64 ((s : Int) + 1) ∧ v14 = .int .i64 ((B.outs s : Nat) : Int) ∧ Step w [] wr H
set_option maxHeartbeats 8000000 in
set_option maxRecDepth 100000 in
theorem bracketEnds_walk (n : Int) (a : Option Addr) (nl cl : Nat) (pl : List Int) (w : World) (_ : (Lit.int .i64 n).wf = true) (h : RdInts w a nl cl pl) (_ : pl.length * 8 ≤ 140737488351232) :
    Calls Try.prog 7 #[.int .i64 n, .slice a nl cl] w fun e w' => e = .returned (.bool true) ∧ Below w.heap.size w w' := by
  suffices hs : Calls Try.prog 7 #[.int .i64 n, .slice a nl cl] w (LawPost w) from hs.mono fun e w' hp => ⟨hp.1, hp.2.nil_below⟩
  have hnl := h.1
  subst hnl
  have hwf := h.2.2.2.1
  replace h := Lib.hid h
  by_cases h1 : n < 2
  · go_enter Try.func7, Try.ntmps7
    go_wp2_with (go_at_call 9; refine (known_any _).mono ?_; rintro e w3 ⟨rfl, hs3⟩)
    go_ret
    exact ⟨rfl, hs3⟩
  by_cases h2 : 64 < n
  · go_enter Try.func7, Try.ntmps7
    go_wp2_with (go_at_call 9; refine (known_any _).mono ?_; rintro e w3 ⟨rfl, hs3⟩)
    go_ret
    exact ⟨rfl, hs3⟩
  obtain ⟨n, rfl⟩ := Int.eq_ofNat_of_zero_le (show 0 ≤ n by omega)
  have n1 : 2 ≤ n := by omega
  have n2 : n ≤ 64 := by omega
  have hi0 := newB_inv n1 n2
  have hn0 : (newB n).n = n := (newTo_keep n _).1
  have ho0 := newB_outs (n := n)
  rw [hn0] at ho0
  have hnew : Hid (Calls Try.prog 10 #[.int .i64 n] w (NewYes n (newB n) w)) := new_yes n w n1 n2
  generalize newB n = B0 at *
  replace hn0 := Lib.hid hn0
  replace ho0 := Lib.hid ho0
  replace hwf := Lib.hid hwf
  have b1 : (n : Int) ≤ 64 := by omega
  have b3 : (2 : Int) ≤ (n : Int) := by omega
  have b4 : (pl.length : Int) ≤ 140737488351232 := by omega
  go_enter Try.func7, Try.ntmps7
  go_wp2_with fail
  refine hnew.out.mono ?_
  rintro e w1 ⟨b, g, hh, R, rfl, hs⟩
  replace hs := Lib.hid hs
  go_upto_block 0 with fail
  go_cut [7, 8] (fun v7 _ wc => EnCut n b g hh R w v7 wc)
  case first =>
    go_wp2_with fail
    go_loopw [7, 8] (fun v7 v8 wr => EnRel n b g hh R w v7 v8 wr) (fun _ v _ => 100 - (intOf v).toNat)
    case atStart => exact ⟨0, B0, Nat.zero_le _, rfl, rfl, hi0, hn0.out, ho0.out, hs.out⟩
    case round =>
      clear hs hi0 hn0 ho0 hnew
      obtain ⟨k, B, hk, rfl, rfl, hinv, hn, ho, hs⟩ := hrel
      have d1 : (0 : Int) ≤ (k : Int) := by omega
      have d2 : (k : Int) < 100 := by omega
      have hl64 : B.ms.length ≤ 64 := by have := hinv.ok.len; have := hinv.ok.z64; omega
      have hrd := Lib.hid (fun W hW => ready_any b g hh B W hW hl64)
      unfold ReadyPost at hrd
      replace hn := Lib.hid hn
      replace ho := Lib.hid ho
      cases hre : B.ready B.ms.length with
      | nil =>
        rw [hre] at hrd
        have hoe := outs_end hinv hre
        rw [hn.out, ho.out] at hoe
        have hk1 : Hid ((k : Int) = (n : Int) - 1) := by show _ = _; omega
        replace hre := Lib.hid hre
        replace hoe := Lib.hid hoe
        go_wp2_with fail
        refine (hrd.out _ hs.own.left).mono ?_
        rintro e w2 ⟨a, c, H, rfl, hr, hs2⟩
        have sL := (hs.call0 hs2).forget
        clear hs hs2
        go_wp2_with fail
        go_meet
        exact ⟨B, hinv, hn.out, hre.out, by rw [hk1.out], sL⟩
      | cons i0 l0 =>
        rw [hre] at hrd
        obtain ⟨L, hL⟩ : ∃ L, L = (i0 :: l0).length := ⟨_, rfl⟩
        have hL1 : 1 ≤ L := by rw [hL]; simp
        have hL64 : L ≤ 64 := by have := ready_len B B.ms.length; rw [hre, ← hL] at this; omega
        rw [← hL] at hrd
        have hmem : ∀ j i, (i0 :: l0)[j]? = some i → ∃ m : Mt, B.ms[i]? = some m ∧ m.rdy = true := fun j i hj => ready_mem.1 (by rw [hre]; exact List.mem_of_getElem? hj)
        replace hre := Lib.hid hre
        generalize (i0 :: l0) = l at *
        have d3 : (1 : Int) ≤ (L : Int) := by omega
        have d4 : (L : Int) ≤ 64 := by omega
        have d5 : ((L : Int) == 0) = false := beq_eq_false_iff_ne.2 (by omega)
        have hp : ∃ P : Int, Hid (if k < pl.length then pl[k]? = some P else P = k) := by
          by_cases hkp : k < pl.length
          · exact ⟨pl[k], by show ite _ _ _; rw [if_pos hkp]; exact List.getElem?_eq_getElem hkp⟩
          · exact ⟨k, by show ite _ _ _; rw [if_neg hkp]⟩
        obtain ⟨P, hP⟩ := hp
        have e1 := and_1 P
        have e2 := and_1023 (P / 2)
        obtain ⟨X, hX⟩ := Int.eq_ofNat_of_zero_le (show 0 ≤ P / 2 % 1024 by omega)
        rw [hX] at e2
        have hX2 : X < 1024 := by omega
        obtain ⟨J, hJ⟩ : ∃ J, X % L = J := ⟨_, rfl⟩
        have hJL : J < L := by rw [← hJ]; exact Nat.mod_lt _ (by omega)
        have e3 : (X : Int) % (L : Int) = (J : Int) := by rw [← hJ]; omega
        have d6 : (X : Int) < 1024 := by omega
        have d7 : (0 : Int) ≤ (X : Int) := by omega
        have d8 : (J : Int) < (L : Int) := by omega
        have d9 : (0 : Int) ≤ (J : Int) := by omega
        obtain ⟨i, hi⟩ : ∃ i, l[J]? = some i := ⟨_, List.getElem?_eq_getElem (by rw [← hL]; exact hJL)⟩
        obtain ⟨m, hm, hrr⟩ := hmem J i hi
        have hst := Lib.hid (fun W hW => seats_any b g hh B i W hW hl64)
        rw [seats_at hm] at hst
        have hil := (List.getElem?_eq_some_iff.1 hm).1
        have hle := hinv.ok.le m (List.mem_of_getElem? hm)
        have hn64 := hinv.ok.n64
        have hrr' := hrr
        simp [Mt.rdy] at hrr'
        have hch := Lib.hid (fun W hW => champion_any b g hh B W hW hl64)
        rw [show B.winner ((B.ms.length : Int) - 1) = 0 from champ_zero hinv hm hrr'.1] at hch
        have hpar : P % 2 = 0 ∨ P % 2 = 1 := by omega
        clear hX hJ hmem hL
        replace hm := Lib.hid hm
        replace hrr := Lib.hid hrr
        replace hi := Lib.hid hi
        rcases hpar with hpar | hpar
        · rw [hpar] at e1
          clear hpar
          obtain ⟨m0, m1, mw, mb⟩ := m
          simp only at hst hle hrr'
          have hrp : Hid (∀ W, Own W (brH b g hh B) → Calls Try.prog 13 #[pt b, .int .i64 i, .int .i64 0] W (TolPost b g hh B (B.told i 0 ⟨m0, m1, mw, mb⟩) W)) := fun W hW => report_tol b g hh B i 0 _ W hW hinv.ok hm.out (by omega) hrr.out
          have hhas : Hid (∀ W, Own W (brH b g hh (B.told i 0 ⟨m0, m1, mw, mb⟩)) → Calls Try.prog 13 #[pt b, .int .i64 i, .int .i64 0] W (HasPost b g hh (B.told i 0 ⟨m0, m1, mw, mb⟩) W)) := fun W hW => told_has b g hh B i 0 _ W hinv hm.out (by omega) hrr.out hW
          have hinv' := told_inv (k := 0) hinv hm.out (by omega) hrr.out
          have hou := outs_told (k := 0) hinv hm.out (by omega) hrr.out
          rw [hn.out, ho.out] at hou
          have hl64' : (B.told i 0 ⟨m0, m1, mw, mb⟩).ms.length ≤ 64 := by have := hinv'.ok.len; have := hinv'.ok.z64; omega
          have hwi : Hid (∀ W, Own W (brH b g hh (B.told i 0 ⟨m0, m1, mw, mb⟩)) → Calls Try.prog 16 #[pt b, .int .i64 i] W fun e w' => e = .returned (.int .i64 (m0 : Nat)) ∧ W = w') := fun W hW => by
            have := winner_any b g hh (B.told i 0 ⟨m0, m1, mw, mb⟩) i W hW hl64'
            rwa [told_winner hinv hm.out] at this
          have hot : Hid (∀ W, Own W (brH b g hh (B.told i 0 ⟨m0, m1, mw, mb⟩)) → Calls Try.prog 18 #[pt b, .int .i64 (m1 : Nat)] W fun e w' => e = .returned (.bool true) ∧ W = w') := fun W hW => by
            have := out_any b g hh (B.told i 0 ⟨m0, m1, mw, mb⟩) (m1 : Nat) W hW hinv'.ok.outl hinv'.ok.n64
            have ht : (B.told i 0 ⟨m0, m1, mw, mb⟩).isOut ((m1 : Nat) : Int) = true := told_out (k := 0) hinv hm.out (by omega) hrr.out
            rwa [ht] at this
          have hn' : (B.told i 0 ⟨m0, m1, mw, mb⟩).n = n := hn.out
          have hkn : k + 1 ≤ n := by have := outs_le (B.told i 0 ⟨m0, m1, mw, mb⟩) n; omega
          generalize B.told i 0 ⟨m0, m1, mw, mb⟩ = B' at *
          replace hou := Lib.hid hou
          replace hn' := Lib.hid hn'
          replace hinv' := Lib.hid hinv'
          have c0 : ((m0 : Int) == 0) = false := beq_eq_false_iff_ne.2 (by omega)
          have c1 : ((m1 : Int) == 0) = false := beq_eq_false_iff_ne.2 (by omega)
          have c2 : (((m0 : Nat) : Int) != ((m0 : Nat) : Int)) = false := by simp
          have c3 : IntKind.i64.wrap 1 = 1 := by decide
          have c4 : IntKind.i64.wrap 0 = 0 := by decide
          have c5 : IntKind.i64.wrap (1 - 0) = 1 := by decide
          clear hrr' hle
          go_wp2_with fail
          refine (hrd.out _ hs.own.left).mono ?_
          rintro e w2 ⟨al, cl', H, rfl, hr, hs2⟩
          have sL := hs.call0 hs2
          obtain ⟨gr, rfl, hc0, hnc⟩ := slRep_at hr sL.own.right (i := J) (v := iv i) (by rw [List.getElem?_map, hi.out]; rfl)
          simp only [Nat.zero_add] at hc0
          clear hs hs2
          have hcase : (∃ ba oa, a = some ⟨ba, oa, none⟩ ∧ w2.cell? ⟨ba, oa + k, none⟩ = some (.int .i64 P) ∧ (k : Int) < (pl.length : Int)) ∨ ((pl.length : Int) ≤ (k : Int) ∧ P = (k : Int)) := by
            by_cases hkp : k < pl.length
            · have hPp : pl[k]? = some P := by have := hP.out; rwa [if_pos hkp] at this
              obtain ⟨hkp', hPe⟩ := List.getElem?_eq_some_iff.1 hPp
              obtain ⟨ba, oa, ea, hca, -⟩ := h.out.at sL hkp
              rw [hPe] at hca
              exact .inl ⟨ba, oa, ea, hca, by omega⟩
            · exact .inr ⟨by omega, by have := hP.out; rwa [if_neg hkp] at this⟩
          clear hP
          rcases hcase with ⟨ba, oa, rfl, hca, hkp⟩ | ⟨hkp, rfl⟩
          all_goals
            go_wp2_with fail
            refine (hst.out _ sL.own.left.left).mono ?_
            rintro e w3 ⟨rfl, hs3⟩
            have sL := sL.call0 hs3
            rw [List.append_nil, List.append_assoc] at sL
            have sL := sL.alloc (.cells #[iv m0, iv m1] 32)
            clear hs3 hc0
            try clear hca
            obtain ⟨x0, x1⟩ := cells2 sL.own.h0
            go_wp2_with fail
            refine Step.gen sL ?_
            intro W sL
            generalize w3.heap.size = M at sL ⊢
            have sL := sL.drew
            clear x0 x1
            refine wp_region_J 50 (fun w' => w'.cell? ⟨M, 0, none⟩ = some (iv m0) ∧ w'.cell? ⟨M, 1, none⟩ = some (iv m1)) (by kernel_rfl) ?_ (fun hF => ?_)
            · (try dsimp only)
              all_goals (exact cells2 sL.own.h0)
            refine wpAnyJ_take (i := 0) (oi := { dst := some 68, op := Go.Op.move (Go.Operand.tmp 5), type := 24, pos := "law.go:97", after := #[], guard := none }) (v := ?_) [1, 3, 7, 12, 17, 22, 25, 28, 35, 42, 45, 50] rfl (by kernel_rfl) (by kernel_rfl) (by kernel_rfl) (by kernel_rfl) (by kernel_rfl) (fun _ _ _ h => h) (by first | exact hF | exact hF (by kernel_rfl)) (fun w hFw => ?_) (by rfl) ?_
            rotate_left
            · (try dsimp only at hFw)
              first | (go_simp; done) | (go_simp; with_reducible rfl) | (go_split_ands; go_simp; done)
            try simp only [Act.put, List.setIfInBounds_toArray, List.set_cons_zero, List.set_cons_succ]
            refine wpAnyJ_ready (rs := [1]) (by kernel_rfl) (by simp) ?_
            refine AllJ.cons (o := { dst := some 69, op := Go.Op.call { callee := Go.Callee.value (Go.Operand.func 17), args := #[Go.Operand.tmp 68], argTypes := #[24] }, type := 3, pos := "law.go:97", after := #[{ on := 0, ground := Go.Ground.data }], guard := none }) rfl (fun Kr hKr => ?_) ?_
            · go_simp; go_at_call 17; refine (hch.out _ sL.own.tail.left).mono ?_; rintro e w4 ⟨rfl, rfl⟩
              refine hKr.out _ _ (fun hJ => ?_) (fun hF => ?_)
              · first
                | exact absurd hJ (by decide)
                | (clear hJ; (try dsimp only); all_goals (exact cells2 sL.own.h0))
              clear hKr
              try simp only [Act.put, List.setIfInBounds_toArray, List.set_cons_zero, List.set_cons_succ]
              refine wpAnyJ_take (i := 2) (oi := { dst := some 70, op := Go.Op.binOp Go.BinOp.neq 3 (Go.Operand.tmp 69) (Go.Operand.const (Go.Value.int Go.IntKind.i64 0)) 3, type := 4, pos := "law.go:97", after := #[{ on := 1, ground := Go.Ground.data }], guard := none }) (v := ?_) [3, 7, 12, 17, 22, 25, 28, 35, 42, 45, 50] rfl (by kernel_rfl) (by kernel_rfl) (by kernel_rfl) (by kernel_rfl) (by kernel_rfl) (fun _ _ _ h => h) (by first | exact hF | exact hF (by kernel_rfl)) (fun w hFw => ?_) (by rfl) ?_
              rotate_left
              · (try dsimp only at hFw)
                first | (go_simp; done) | (go_simp; with_reducible rfl) | (go_split_ands; go_simp; done)
              try simp only [Act.put, List.setIfInBounds_toArray, List.set_cons_zero, List.set_cons_succ]
              refine wpAnyJ_take (i := 3) (oi := { dst := some 71, op := Go.Op.move (Go.Operand.tmp 70), type := 4, pos := "law.go:97", after := #[{ on := 2, ground := Go.Ground.data }, { on := 1, ground := Go.Ground.chain }], guard := none }) (v := ?_) [7, 12, 17, 22, 25, 28, 35, 42, 45, 50] rfl (by kernel_rfl) (by kernel_rfl) (by kernel_rfl) (by kernel_rfl) (by kernel_rfl) (fun _ _ _ h => h) (by first | exact hF | exact hF (by kernel_rfl)) (fun w hFw => ?_) (by rfl) ?_
              rotate_left
              · (try dsimp only at hFw)
                first | (go_simp; done) | (go_simp; with_reducible rfl) | (go_split_ands; go_simp; done)
              try simp only [Act.put, List.setIfInBounds_toArray, List.set_cons_zero, List.set_cons_succ]
              refine wpAnyJ_take (i := 4) (oi := { dst := some 72, op := Go.Op.move (Go.Operand.tmp 13), type := 25, pos := "law.go:97", after := #[{ on := 3, ground := Go.Ground.guard }], guard := some (3, false) }) (v := ?_) [5, 6, 7, 12, 17, 22, 25, 28, 35, 42, 45, 50] rfl (by kernel_rfl) (by kernel_rfl) (by kernel_rfl) (by kernel_rfl) (by kernel_rfl) (fun _ _ _ h => h) (by first | exact hF | exact hF (by kernel_rfl)) (fun w hFw => ?_) (by rfl) ?_
              rotate_left
              · (try dsimp only at hFw)
                first | (go_simp; done) | (go_simp; with_reducible rfl) | (go_split_ands; go_simp; done)
              try simp only [Act.put, List.setIfInBounds_toArray, List.set_cons_zero, List.set_cons_succ]
              refine wpAnyJ_take (i := 5) (oi := { dst := some 73, op := Go.Op.binOp Go.BinOp.neq 25 (Go.Operand.tmp 72) (Go.Operand.const (Go.Value.int Go.IntKind.i64 0)) 25, type := 4, pos := "law.go:97", after := #[{ on := 4, ground := Go.Ground.data }, { on := 3, ground := Go.Ground.guard }], guard := some (3, false) }) (v := ?_) [6, 7, 12, 17, 22, 25, 28, 35, 42, 45, 50] rfl (by kernel_rfl) (by kernel_rfl) (by kernel_rfl) (by kernel_rfl) (by kernel_rfl) (fun _ _ _ h => h) (by first | exact hF | exact hF (by kernel_rfl)) (fun w hFw => ?_) (by rfl) ?_
              rotate_left
              · (try dsimp only at hFw)
                first | (go_simp; done) | (go_simp; with_reducible rfl) | (go_split_ands; go_simp; done)
              try simp only [Act.put, List.setIfInBounds_toArray, List.set_cons_zero, List.set_cons_succ]
              refine wpAnyJ_take (i := 6) (oi := { dst := some 74, op := Go.Op.pick (Go.Operand.tmp 71) (Go.Operand.const (Go.Value.bool true)) (Go.Operand.tmp 73), type := 4, pos := "law.go:97", after := #[{ on := 3, ground := Go.Ground.data }, { on := 5, ground := Go.Ground.data }], guard := none }) (v := ?_) [7, 12, 17, 22, 25, 28, 35, 42, 45, 50] rfl (by kernel_rfl) (by kernel_rfl) (by kernel_rfl) (by kernel_rfl) (by kernel_rfl) (fun _ _ _ h => h) (by first | exact hF | exact hF (by kernel_rfl)) (fun w hFw => ?_) (by rfl) ?_
              rotate_left
              · (try dsimp only at hFw)
                first | (go_simp; done) | (go_simp; with_reducible rfl) | (go_split_ands; go_simp; done)
              try simp only [Act.put, List.setIfInBounds_toArray, List.set_cons_zero, List.set_cons_succ]
              refine wpAnyJ_take (i := 7) (oi := { dst := some 75, op := Go.Op.move (Go.Operand.tmp 74), type := 4, pos := "law.go:97", after := #[{ on := 6, ground := Go.Ground.data }, { on := 3, ground := Go.Ground.chain }], guard := none }) (v := ?_) [12, 17, 22, 25, 28, 35, 42, 45, 50] rfl (by kernel_rfl) (by kernel_rfl) (by kernel_rfl) (by kernel_rfl) (by kernel_rfl) (fun _ _ _ h => h) (by first | exact hF | exact hF (by kernel_rfl)) (fun w hFw => ?_) (by rfl) ?_
              rotate_left
              · (try dsimp only at hFw)
                first | (go_simp; done) | (go_simp; with_reducible rfl) | (go_split_ands; go_simp; done)
              try simp only [Act.put, List.setIfInBounds_toArray, List.set_cons_zero, List.set_cons_succ]
              refine wpAnyJ_take (i := 8) (oi := { dst := some 76, op := Go.Op.indexAddr 32 (Go.Operand.tmp 12) (Go.Operand.const (Go.Value.int Go.IntKind.i64 0)), type := 0, pos := "law.go:97", after := #[{ on := 7, ground := Go.Ground.guard }], guard := some (7, false) }) (v := ?_) [9, 10, 11, 12, 17, 22, 25, 28, 35, 42, 45, 50] rfl (by kernel_rfl) (by kernel_rfl) (by kernel_rfl) (by kernel_rfl) (by kernel_rfl) (fun _ _ _ h => h) (by first | exact hF | exact hF (by kernel_rfl)) (fun w hFw => ?_) (by rfl) ?_
              rotate_left
              · (try dsimp only at hFw)
                first | (go_simp; done) | (go_simp; with_reducible rfl) | (go_split_ands; go_simp; done)
              try simp only [Act.put, List.setIfInBounds_toArray, List.set_cons_zero, List.set_cons_succ]
              refine wpAnyJ_take (i := 9) (oi := { dst := some 77, op := Go.Op.load 3 (Go.Operand.tmp 76), type := 3, pos := "law.go:97", after := #[{ on := 8, ground := Go.Ground.data }, { on := 7, ground := Go.Ground.guard }], guard := some (7, false) }) (v := ?_) [10, 11, 12, 17, 22, 25, 28, 35, 42, 45, 50] rfl (by kernel_rfl) (by kernel_rfl) (by kernel_rfl) (by kernel_rfl) (by kernel_rfl) (fun _ _ _ h => h) (by first | exact hF | exact hF (by kernel_rfl)) (fun w hFw => ?_) (by rfl) ?_
              rotate_left
              · (try dsimp only at hFw)
                first | (go_simp; done) | (go_simp; with_reducible rfl) | (go_split_ands; go_simp; done)
              try simp only [Act.put, List.setIfInBounds_toArray, List.set_cons_zero, List.set_cons_succ]
              refine wpAnyJ_take (i := 10) (oi := { dst := some 78, op := Go.Op.binOp Go.BinOp.eql 3 (Go.Operand.tmp 77) (Go.Operand.const (Go.Value.int Go.IntKind.i64 0)) 3, type := 4, pos := "law.go:97", after := #[{ on := 9, ground := Go.Ground.data }, { on := 7, ground := Go.Ground.guard }], guard := some (7, false) }) (v := ?_) [11, 12, 17, 22, 25, 28, 35, 42, 45, 50] rfl (by kernel_rfl) (by kernel_rfl) (by kernel_rfl) (by kernel_rfl) (by kernel_rfl) (fun _ _ _ h => h) (by first | exact hF | exact hF (by kernel_rfl)) (fun w hFw => ?_) (by rfl) ?_
              rotate_left
              · (try dsimp only at hFw)
                first | (go_simp; done) | (go_simp; with_reducible rfl) | (go_split_ands; go_simp; done)
              try simp only [Act.put, List.setIfInBounds_toArray, List.set_cons_zero, List.set_cons_succ]
              refine wpAnyJ_take (i := 11) (oi := { dst := some 79, op := Go.Op.pick (Go.Operand.tmp 75) (Go.Operand.const (Go.Value.bool true)) (Go.Operand.tmp 78), type := 4, pos := "law.go:97", after := #[{ on := 7, ground := Go.Ground.data }, { on := 10, ground := Go.Ground.data }], guard := none }) (v := ?_) [12, 17, 22, 25, 28, 35, 42, 45, 50] rfl (by kernel_rfl) (by kernel_rfl) (by kernel_rfl) (by kernel_rfl) (by kernel_rfl) (fun _ _ _ h => h) (by first | exact hF | exact hF (by kernel_rfl)) (fun w hFw => ?_) (by rfl) ?_
              rotate_left
              · (try dsimp only at hFw)
                first | (go_simp; done) | (go_simp; with_reducible rfl) | (go_split_ands; go_simp; done)
              try simp only [Act.put, List.setIfInBounds_toArray, List.set_cons_zero, List.set_cons_succ]
              refine wpAnyJ_take (i := 12) (oi := { dst := some 80, op := Go.Op.move (Go.Operand.tmp 79), type := 4, pos := "law.go:97", after := #[{ on := 11, ground := Go.Ground.data }, { on := 7, ground := Go.Ground.chain }], guard := none }) (v := ?_) [17, 22, 25, 28, 35, 42, 45, 50] rfl (by kernel_rfl) (by kernel_rfl) (by kernel_rfl) (by kernel_rfl) (by kernel_rfl) (fun _ _ _ h => h) (by first | exact hF | exact hF (by kernel_rfl)) (fun w hFw => ?_) (by rfl) ?_
              rotate_left
              · (try dsimp only at hFw)
                first | (go_simp; done) | (go_simp; with_reducible rfl) | (go_split_ands; go_simp; done)
              try simp only [Act.put, List.setIfInBounds_toArray, List.set_cons_zero, List.set_cons_succ]
              refine wpAnyJ_take (i := 13) (oi := { dst := some 81, op := Go.Op.indexAddr 32 (Go.Operand.tmp 12) (Go.Operand.const (Go.Value.int Go.IntKind.i64 1)), type := 0, pos := "law.go:97", after := #[{ on := 12, ground := Go.Ground.guard }], guard := some (12, false) }) (v := ?_) [14, 15, 16, 17, 22, 25, 28, 35, 42, 45, 50] rfl (by kernel_rfl) (by kernel_rfl) (by kernel_rfl) (by kernel_rfl) (by kernel_rfl) (fun _ _ _ h => h) (by first | exact hF | exact hF (by kernel_rfl)) (fun w hFw => ?_) (by rfl) ?_
              rotate_left
              · (try dsimp only at hFw)
                first | (go_simp; done) | (go_simp; with_reducible rfl) | (go_split_ands; go_simp; done)
              try simp only [Act.put, List.setIfInBounds_toArray, List.set_cons_zero, List.set_cons_succ]
              refine wpAnyJ_take (i := 14) (oi := { dst := some 82, op := Go.Op.load 3 (Go.Operand.tmp 81), type := 3, pos := "law.go:97", after := #[{ on := 13, ground := Go.Ground.data }, { on := 12, ground := Go.Ground.guard }], guard := some (12, false) }) (v := ?_) [15, 16, 17, 22, 25, 28, 35, 42, 45, 50] rfl (by kernel_rfl) (by kernel_rfl) (by kernel_rfl) (by kernel_rfl) (by kernel_rfl) (fun _ _ _ h => h) (by first | exact hF | exact hF (by kernel_rfl)) (fun w hFw => ?_) (by rfl) ?_
              rotate_left
              · (try dsimp only at hFw)
                first | (go_simp; done) | (go_simp; with_reducible rfl) | (go_split_ands; go_simp; done)
              try simp only [Act.put, List.setIfInBounds_toArray, List.set_cons_zero, List.set_cons_succ]
              refine wpAnyJ_take (i := 15) (oi := { dst := some 83, op := Go.Op.binOp Go.BinOp.eql 3 (Go.Operand.tmp 82) (Go.Operand.const (Go.Value.int Go.IntKind.i64 0)) 3, type := 4, pos := "law.go:97", after := #[{ on := 14, ground := Go.Ground.data }, { on := 12, ground := Go.Ground.guard }], guard := some (12, false) }) (v := ?_) [16, 17, 22, 25, 28, 35, 42, 45, 50] rfl (by kernel_rfl) (by kernel_rfl) (by kernel_rfl) (by kernel_rfl) (by kernel_rfl) (fun _ _ _ h => h) (by first | exact hF | exact hF (by kernel_rfl)) (fun w hFw => ?_) (by rfl) ?_
              rotate_left
              · (try dsimp only at hFw)
                first | (go_simp; done) | (go_simp; with_reducible rfl) | (go_split_ands; go_simp; done)
              try simp only [Act.put, List.setIfInBounds_toArray, List.set_cons_zero, List.set_cons_succ]
              refine wpAnyJ_take (i := 16) (oi := { dst := some 84, op := Go.Op.pick (Go.Operand.tmp 80) (Go.Operand.const (Go.Value.bool true)) (Go.Operand.tmp 83), type := 4, pos := "law.go:97", after := #[{ on := 12, ground := Go.Ground.data }, { on := 15, ground := Go.Ground.data }], guard := none }) (v := ?_) [17, 22, 25, 28, 35, 42, 45, 50] rfl (by kernel_rfl) (by kernel_rfl) (by kernel_rfl) (by kernel_rfl) (by kernel_rfl) (fun _ _ _ h => h) (by first | exact hF | exact hF (by kernel_rfl)) (fun w hFw => ?_) (by rfl) ?_
              rotate_left
              · (try dsimp only at hFw)
                first | (go_simp; done) | (go_simp; with_reducible rfl) | (go_split_ands; go_simp; done)
              try simp only [Act.put, List.setIfInBounds_toArray, List.set_cons_zero, List.set_cons_succ]
              refine wpAnyJ_take (i := 17) (oi := { dst := some 85, op := Go.Op.move (Go.Operand.tmp 84), type := 4, pos := "law.go:97", after := #[{ on := 16, ground := Go.Ground.data }, { on := 12, ground := Go.Ground.chain }], guard := none }) (v := ?_) [22, 25, 28, 35, 42, 45, 50] rfl (by kernel_rfl) (by kernel_rfl) (by kernel_rfl) (by kernel_rfl) (by kernel_rfl) (fun _ _ _ h => h) (by first | exact hF | exact hF (by kernel_rfl)) (fun w hFw => ?_) (by rfl) ?_
              rotate_left
              · (try dsimp only at hFw)
                first | (go_simp; done) | (go_simp; with_reducible rfl) | (go_split_ands; go_simp; done)
              try simp only [Act.put, List.setIfInBounds_toArray, List.set_cons_zero, List.set_cons_succ]
              refine wpAnyJ_take (i := 18) (oi := { dst := some 86, op := Go.Op.move (Go.Operand.tmp 5), type := 24, pos := "law.go:97", after := #[{ on := 17, ground := Go.Ground.guard }], guard := some (17, false) }) (v := ?_) [22, 25, 28, 35, 42, 45, 50] rfl (by kernel_rfl) (by kernel_rfl) (by kernel_rfl) (by kernel_rfl) (by kernel_rfl) (fun _ _ _ h => h) (by first | exact hF | exact hF (by kernel_rfl)) (fun w hFw => ?_) (by rfl) ?_
              rotate_left
              · (try dsimp only at hFw)
                first | (go_simp; done) | (go_simp; with_reducible rfl) | (go_split_ands; go_simp; done)
              try simp only [Act.put, List.setIfInBounds_toArray, List.set_cons_zero, List.set_cons_succ]
              refine wpAnyJ_take (i := 19) (oi := { dst := some 87, op := Go.Op.move (Go.Operand.tmp 11), type := 3, pos := "law.go:97", after := #[{ on := 17, ground := Go.Ground.guard }], guard := some (17, false) }) (v := ?_) [22, 25, 28, 35, 42, 45, 50] rfl (by kernel_rfl) (by kernel_rfl) (by kernel_rfl) (by kernel_rfl) (by kernel_rfl) (fun _ _ _ h => h) (by first | exact hF | exact hF (by kernel_rfl)) (fun w hFw => ?_) (by rfl) ?_
              rotate_left
              · (try dsimp only at hFw)
                first | (go_simp; done) | (go_simp; with_reducible rfl) | (go_split_ands; go_simp; done)
              try simp only [Act.put, List.setIfInBounds_toArray, List.set_cons_zero, List.set_cons_succ]
              refine wpAnyJ_take (i := 20) (oi := { dst := some 88, op := Go.Op.move (Go.Operand.tmp 10), type := 3, pos := "law.go:97", after := #[{ on := 17, ground := Go.Ground.guard }], guard := some (17, false) }) (v := ?_) [21, 22, 25, 28, 35, 42, 45, 50] rfl (by kernel_rfl) (by kernel_rfl) (by kernel_rfl) (by kernel_rfl) (by kernel_rfl) (fun _ _ _ h => h) (by first | exact hF | exact hF (by kernel_rfl)) (fun w hFw => ?_) (by rfl) ?_
              rotate_left
              · (try dsimp only at hFw)
                first | (go_simp; done) | (go_simp; with_reducible rfl) | (go_split_ands; go_simp; done)
              try simp only [Act.put, List.setIfInBounds_toArray, List.set_cons_zero, List.set_cons_succ]
              refine wpAnyJ_take (i := 21) (oi := { dst := some 89, op := Go.Op.binOp Go.BinOp.and 3 (Go.Operand.tmp 88) (Go.Operand.const (Go.Value.int Go.IntKind.i64 1)) 3, type := 3, pos := "law.go:97", after := #[{ on := 20, ground := Go.Ground.data }, { on := 17, ground := Go.Ground.guard }], guard := some (17, false) }) (v := ?_) [22, 25, 28, 35, 42, 45, 50] rfl (by kernel_rfl) (by kernel_rfl) (by kernel_rfl) (by kernel_rfl) (by kernel_rfl) (fun _ _ _ h => h) (by first | exact hF | exact hF (by kernel_rfl)) (fun w hFw => ?_) (by rfl) ?_
              rotate_left
              · (try dsimp only at hFw)
                first | (go_simp; done) | (go_simp; with_reducible rfl) | (go_split_ands; go_simp; done)
              try simp only [Act.put, List.setIfInBounds_toArray, List.set_cons_zero, List.set_cons_succ]
              refine wpAnyJ_ready (rs := [22]) (by kernel_rfl) (by simp) ?_
              refine AllJ.cons (o := { dst := some 90, op := Go.Op.call { callee := Go.Callee.value (Go.Operand.func 13), args := #[Go.Operand.tmp 86, Go.Operand.tmp 87, Go.Operand.tmp 89], argTypes := #[24, 3, 3] }, type := 25, pos := "law.go:97", after := #[{ on := 18, ground := Go.Ground.data }, { on := 19, ground := Go.Ground.data }, { on := 21, ground := Go.Ground.data }, { on := 17, ground := Go.Ground.chain }, { on := 17, ground := Go.Ground.guard }], guard := some (17, false) }) rfl (fun Kr hKr => ?_) ?_
              · go_simp; go_at_call 13; refine (hrp.out _ sL.own.tail.left).mono ?_; rintro e w4 ⟨rfl, hst3⟩
                have sL := Step.mid1 sL hst3
                refine hKr.out _ _ (fun hJ => ?_) (fun hF => ?_)
                · first
                  | exact absurd hJ (by decide)
                  | (clear hJ; (try dsimp only); all_goals (exact cells2 sL.own.h0))
                clear hKr
                try simp only [Act.put, List.setIfInBounds_toArray, List.set_cons_zero, List.set_cons_succ]
                refine wpAnyJ_take (i := 23) (oi := { dst := some 91, op := Go.Op.binOp Go.BinOp.neq 25 (Go.Operand.tmp 90) (Go.Operand.const (Go.Value.int Go.IntKind.i64 0)) 25, type := 4, pos := "law.go:97", after := #[{ on := 22, ground := Go.Ground.data }, { on := 17, ground := Go.Ground.guard }], guard := some (17, false) }) (v := ?_) [24, 25, 28, 35, 42, 45, 50] rfl (by kernel_rfl) (by kernel_rfl) (by kernel_rfl) (by kernel_rfl) (by kernel_rfl) (fun _ _ _ h => h) (by first | exact hF | exact hF (by kernel_rfl)) (fun w hFw => ?_) (by rfl) ?_
                rotate_left
                · (try dsimp only at hFw)
                  first | (go_simp; done) | (go_simp; with_reducible rfl) | (go_split_ands; go_simp; done)
                try simp only [Act.put, List.setIfInBounds_toArray, List.set_cons_zero, List.set_cons_succ]
                refine wpAnyJ_take (i := 24) (oi := { dst := some 92, op := Go.Op.pick (Go.Operand.tmp 85) (Go.Operand.const (Go.Value.bool true)) (Go.Operand.tmp 91), type := 4, pos := "law.go:97", after := #[{ on := 17, ground := Go.Ground.data }, { on := 23, ground := Go.Ground.data }], guard := none }) (v := ?_) [25, 28, 35, 42, 45, 50] rfl (by kernel_rfl) (by kernel_rfl) (by kernel_rfl) (by kernel_rfl) (by kernel_rfl) (fun _ _ _ h => h) (by first | exact hF | exact hF (by kernel_rfl)) (fun w hFw => ?_) (by rfl) ?_
                rotate_left
                · (try dsimp only at hFw)
                  first | (go_simp; done) | (go_simp; with_reducible rfl) | (go_split_ands; go_simp; done)
                try simp only [Act.put, List.setIfInBounds_toArray, List.set_cons_zero, List.set_cons_succ]
                refine wpAnyJ_take (i := 25) (oi := { dst := some 93, op := Go.Op.move (Go.Operand.tmp 92), type := 4, pos := "law.go:97", after := #[{ on := 24, ground := Go.Ground.data }, { on := 22, ground := Go.Ground.chain }], guard := none }) (v := ?_) [28, 35, 42, 45, 50] rfl (by kernel_rfl) (by kernel_rfl) (by kernel_rfl) (by kernel_rfl) (by kernel_rfl) (fun _ _ _ h => h) (by first | exact hF | exact hF (by kernel_rfl)) (fun w hFw => ?_) (by rfl) ?_
                rotate_left
                · (try dsimp only at hFw)
                  first | (go_simp; done) | (go_simp; with_reducible rfl) | (go_split_ands; go_simp; done)
                try simp only [Act.put, List.setIfInBounds_toArray, List.set_cons_zero, List.set_cons_succ]
                refine wpAnyJ_take (i := 26) (oi := { dst := some 94, op := Go.Op.move (Go.Operand.tmp 5), type := 24, pos := "law.go:97", after := #[{ on := 25, ground := Go.Ground.guard }], guard := some (25, false) }) (v := ?_) [28, 35, 42, 45, 50] rfl (by kernel_rfl) (by kernel_rfl) (by kernel_rfl) (by kernel_rfl) (by kernel_rfl) (fun _ _ _ h => h) (by first | exact hF | exact hF (by kernel_rfl)) (fun w hFw => ?_) (by rfl) ?_
                rotate_left
                · (try dsimp only at hFw)
                  first | (go_simp; done) | (go_simp; with_reducible rfl) | (go_split_ands; go_simp; done)
                try simp only [Act.put, List.setIfInBounds_toArray, List.set_cons_zero, List.set_cons_succ]
                refine wpAnyJ_take (i := 27) (oi := { dst := some 95, op := Go.Op.move (Go.Operand.tmp 11), type := 3, pos := "law.go:97", after := #[{ on := 25, ground := Go.Ground.guard }], guard := some (25, false) }) (v := ?_) [28, 35, 42, 45, 50] rfl (by kernel_rfl) (by kernel_rfl) (by kernel_rfl) (by kernel_rfl) (by kernel_rfl) (fun _ _ _ h => h) (by first | exact hF | exact hF (by kernel_rfl)) (fun w hFw => ?_) (by rfl) ?_
                rotate_left
                · (try dsimp only at hFw)
                  first | (go_simp; done) | (go_simp; with_reducible rfl) | (go_split_ands; go_simp; done)
                try simp only [Act.put, List.setIfInBounds_toArray, List.set_cons_zero, List.set_cons_succ]
                refine wpAnyJ_take (i := 29) (oi := { dst := some 97, op := Go.Op.move (Go.Operand.tmp 10), type := 3, pos := "law.go:97", after := #[{ on := 25, ground := Go.Ground.guard }], guard := some (25, false) }) (v := ?_) [30, 31, 32, 33, 34, 35, 42, 45, 50] rfl (by kernel_rfl) (by kernel_rfl) (by kernel_rfl) (by kernel_rfl) (by kernel_rfl) (fun _ _ _ h => h) (by first | exact hF | exact hF (by kernel_rfl)) (fun w hFw => ?_) (by rfl) ?_
                rotate_left
                · (try dsimp only at hFw)
                  first | (go_simp; done) | (go_simp; with_reducible rfl) | (go_split_ands; go_simp; done)
                try simp only [Act.put, List.setIfInBounds_toArray, List.set_cons_zero, List.set_cons_succ]
                refine wpAnyJ_take (i := 30) (oi := { dst := some 98, op := Go.Op.binOp Go.BinOp.and 3 (Go.Operand.tmp 97) (Go.Operand.const (Go.Value.int Go.IntKind.i64 1)) 3, type := 3, pos := "law.go:97", after := #[{ on := 29, ground := Go.Ground.data }, { on := 25, ground := Go.Ground.guard }], guard := some (25, false) }) (v := ?_) [31, 32, 33, 34, 35, 42, 45, 50] rfl (by kernel_rfl) (by kernel_rfl) (by kernel_rfl) (by kernel_rfl) (by kernel_rfl) (fun _ _ _ h => h) (by first | exact hF | exact hF (by kernel_rfl)) (fun w hFw => ?_) (by rfl) ?_
                rotate_left
                · (try dsimp only at hFw)
                  first | (go_simp; done) | (go_simp; with_reducible rfl) | (go_split_ands; go_simp; done)
                try simp only [Act.put, List.setIfInBounds_toArray, List.set_cons_zero, List.set_cons_succ]
                refine wpAnyJ_take (i := 31) (oi := { dst := some 99, op := Go.Op.indexAddr 32 (Go.Operand.tmp 12) (Go.Operand.tmp 98), type := 0, pos := "law.go:97", after := #[{ on := 30, ground := Go.Ground.data }, { on := 25, ground := Go.Ground.guard }], guard := some (25, false) }) (v := ?_) [32, 33, 34, 35, 42, 45, 50] rfl (by kernel_rfl) (by kernel_rfl) (by kernel_rfl) (by kernel_rfl) (by kernel_rfl) (fun _ _ _ h => h) (by first | exact hF | exact hF (by kernel_rfl)) (fun w hFw => ?_) (by rfl) ?_
                rotate_left
                · (try dsimp only at hFw)
                  first | (go_simp; done) | (go_simp; with_reducible rfl) | (go_split_ands; go_simp; done)
                try simp only [Act.put, List.setIfInBounds_toArray, List.set_cons_zero, List.set_cons_succ]
                refine wpAnyJ_take (i := 32) (oi := { dst := some 100, op := Go.Op.load 3 (Go.Operand.tmp 99), type := 3, pos := "law.go:97", after := #[{ on := 31, ground := Go.Ground.data }, { on := 25, ground := Go.Ground.guard }], guard := some (25, false) }) (v := ?_) [33, 34, 35, 42, 45, 50] rfl (by kernel_rfl) (by kernel_rfl) (by kernel_rfl) (by kernel_rfl) (by kernel_rfl) (fun _ _ _ h => h) (by first | exact hF | exact hF (by kernel_rfl)) (fun w hFw => ?_) (by rfl) ?_
                rotate_left
                · (try dsimp only at hFw)
                  first | (go_simp; done) | (go_simp; with_reducible rfl) | (go_split_ands; go_simp; done)
                try simp only [Act.put, List.setIfInBounds_toArray, List.set_cons_zero, List.set_cons_succ]
                refine wpAnyJ_ready (rs := [28]) (by kernel_rfl) (by simp) ?_
                refine AllJ.cons (o := { dst := some 96, op := Go.Op.call { callee := Go.Callee.value (Go.Operand.func 16), args := #[Go.Operand.tmp 94, Go.Operand.tmp 95], argTypes := #[24, 3] }, type := 3, pos := "law.go:97", after := #[{ on := 26, ground := Go.Ground.data }, { on := 27, ground := Go.Ground.data }, { on := 25, ground := Go.Ground.chain }, { on := 25, ground := Go.Ground.guard }], guard := some (25, false) }) rfl (fun Kr hKr => ?_) ?_
                · go_simp; go_at_call 16; refine (hwi.out _ sL.own.tail.left).mono ?_; rintro e w4 ⟨rfl, rfl⟩
                  refine hKr.out _ _ (fun hJ => ?_) (fun hF => ?_)
                  · first
                    | exact absurd hJ (by decide)
                    | (clear hJ; (try dsimp only); all_goals (exact cells2 sL.own.h0))
                  clear hKr
                  try simp only [Act.put, List.setIfInBounds_toArray, List.set_cons_zero, List.set_cons_succ]
                  refine wpAnyJ_take (i := 33) (oi := { dst := some 101, op := Go.Op.binOp Go.BinOp.neq 3 (Go.Operand.tmp 96) (Go.Operand.tmp 100) 3, type := 4, pos := "law.go:97", after := #[{ on := 28, ground := Go.Ground.data }, { on := 32, ground := Go.Ground.data }, { on := 25, ground := Go.Ground.guard }], guard := some (25, false) }) (v := ?_) [34, 35, 42, 45, 50] rfl (by kernel_rfl) (by kernel_rfl) (by kernel_rfl) (by kernel_rfl) (by kernel_rfl) (fun _ _ _ h => h) (by first | exact hF | exact hF (by kernel_rfl)) (fun w hFw => ?_) (by rfl) ?_
                  rotate_left
                  · (try dsimp only at hFw)
                    first | (go_simp; done) | (go_simp; with_reducible rfl) | (go_split_ands; go_simp; done)
                  try simp only [Act.put, List.setIfInBounds_toArray, List.set_cons_zero, List.set_cons_succ]
                  refine wpAnyJ_take (i := 34) (oi := { dst := some 102, op := Go.Op.pick (Go.Operand.tmp 93) (Go.Operand.const (Go.Value.bool true)) (Go.Operand.tmp 101), type := 4, pos := "law.go:97", after := #[{ on := 25, ground := Go.Ground.data }, { on := 33, ground := Go.Ground.data }], guard := none }) (v := ?_) [35, 42, 45, 50] rfl (by kernel_rfl) (by kernel_rfl) (by kernel_rfl) (by kernel_rfl) (by kernel_rfl) (fun _ _ _ h => h) (by first | exact hF | exact hF (by kernel_rfl)) (fun w hFw => ?_) (by rfl) ?_
                  rotate_left
                  · (try dsimp only at hFw)
                    first | (go_simp; done) | (go_simp; with_reducible rfl) | (go_split_ands; go_simp; done)
                  try simp only [Act.put, List.setIfInBounds_toArray, List.set_cons_zero, List.set_cons_succ]
                  refine wpAnyJ_take (i := 35) (oi := { dst := some 103, op := Go.Op.move (Go.Operand.tmp 102), type := 4, pos := "law.go:97", after := #[{ on := 34, ground := Go.Ground.data }, { on := 28, ground := Go.Ground.chain }], guard := none }) (v := ?_) [42, 45, 50] rfl (by kernel_rfl) (by kernel_rfl) (by kernel_rfl) (by kernel_rfl) (by kernel_rfl) (fun _ _ _ h => h) (by first | exact hF | exact hF (by kernel_rfl)) (fun w hFw => ?_) (by rfl) ?_
                  rotate_left
                  · (try dsimp only at hFw)
                    first | (go_simp; done) | (go_simp; with_reducible rfl) | (go_split_ands; go_simp; done)
                  try simp only [Act.put, List.setIfInBounds_toArray, List.set_cons_zero, List.set_cons_succ]
                  refine wpAnyJ_take (i := 36) (oi := { dst := some 104, op := Go.Op.move (Go.Operand.tmp 5), type := 24, pos := "law.go:97", after := #[{ on := 35, ground := Go.Ground.guard }], guard := some (35, false) }) (v := ?_) [42, 45, 50] rfl (by kernel_rfl) (by kernel_rfl) (by kernel_rfl) (by kernel_rfl) (by kernel_rfl) (fun _ _ _ h => h) (by first | exact hF | exact hF (by kernel_rfl)) (fun w hFw => ?_) (by rfl) ?_
                  rotate_left
                  · (try dsimp only at hFw)
                    first | (go_simp; done) | (go_simp; with_reducible rfl) | (go_split_ands; go_simp; done)
                  try simp only [Act.put, List.setIfInBounds_toArray, List.set_cons_zero, List.set_cons_succ]
                  refine wpAnyJ_take (i := 37) (oi := { dst := some 105, op := Go.Op.move (Go.Operand.tmp 10), type := 3, pos := "law.go:97", after := #[{ on := 35, ground := Go.Ground.guard }], guard := some (35, false) }) (v := ?_) [38, 39, 40, 41, 42, 45, 50] rfl (by kernel_rfl) (by kernel_rfl) (by kernel_rfl) (by kernel_rfl) (by kernel_rfl) (fun _ _ _ h => h) (by first | exact hF | exact hF (by kernel_rfl)) (fun w hFw => ?_) (by rfl) ?_
                  rotate_left
                  · (try dsimp only at hFw)
                    first | (go_simp; done) | (go_simp; with_reducible rfl) | (go_split_ands; go_simp; done)
                  try simp only [Act.put, List.setIfInBounds_toArray, List.set_cons_zero, List.set_cons_succ]
                  refine wpAnyJ_take (i := 38) (oi := { dst := some 106, op := Go.Op.binOp Go.BinOp.and 3 (Go.Operand.tmp 105) (Go.Operand.const (Go.Value.int Go.IntKind.i64 1)) 3, type := 3, pos := "law.go:97", after := #[{ on := 37, ground := Go.Ground.data }, { on := 35, ground := Go.Ground.guard }], guard := some (35, false) }) (v := ?_) [39, 40, 41, 42, 45, 50] rfl (by kernel_rfl) (by kernel_rfl) (by kernel_rfl) (by kernel_rfl) (by kernel_rfl) (fun _ _ _ h => h) (by first | exact hF | exact hF (by kernel_rfl)) (fun w hFw => ?_) (by rfl) ?_
                  rotate_left
                  · (try dsimp only at hFw)
                    first | (go_simp; done) | (go_simp; with_reducible rfl) | (go_split_ands; go_simp; done)
                  try simp only [Act.put, List.setIfInBounds_toArray, List.set_cons_zero, List.set_cons_succ]
                  refine wpAnyJ_take (i := 39) (oi := { dst := some 107, op := Go.Op.binOp Go.BinOp.sub 3 (Go.Operand.const (Go.Value.int Go.IntKind.i64 1)) (Go.Operand.tmp 106) 3, type := 3, pos := "law.go:97", after := #[{ on := 38, ground := Go.Ground.data }, { on := 35, ground := Go.Ground.guard }], guard := some (35, false) }) (v := ?_) [40, 41, 42, 45, 50] rfl (by kernel_rfl) (by kernel_rfl) (by kernel_rfl) (by kernel_rfl) (by kernel_rfl) (fun _ _ _ h => h) (by first | exact hF | exact hF (by kernel_rfl)) (fun w hFw => ?_) (by rfl) ?_
                  rotate_left
                  · (try dsimp only at hFw)
                    first | (go_simp; done) | (go_simp; with_reducible rfl) | (go_split_ands; go_simp; done)
                  try simp only [Act.put, List.setIfInBounds_toArray, List.set_cons_zero, List.set_cons_succ]
                  refine wpAnyJ_take (i := 40) (oi := { dst := some 108, op := Go.Op.indexAddr 32 (Go.Operand.tmp 12) (Go.Operand.tmp 107), type := 0, pos := "law.go:97", after := #[{ on := 39, ground := Go.Ground.data }, { on := 35, ground := Go.Ground.guard }], guard := some (35, false) }) (v := ?_) [41, 42, 45, 50] rfl (by kernel_rfl) (by kernel_rfl) (by kernel_rfl) (by kernel_rfl) (by kernel_rfl) (fun _ _ _ h => h) (by first | exact hF | exact hF (by kernel_rfl)) (fun w hFw => ?_) (by rfl) ?_
                  rotate_left
                  · (try dsimp only at hFw)
                    first | (go_simp; done) | (go_simp; with_reducible rfl) | (go_split_ands; go_simp; done)
                  try simp only [Act.put, List.setIfInBounds_toArray, List.set_cons_zero, List.set_cons_succ]
                  refine wpAnyJ_take (i := 41) (oi := { dst := some 109, op := Go.Op.load 3 (Go.Operand.tmp 108), type := 3, pos := "law.go:97", after := #[{ on := 40, ground := Go.Ground.data }, { on := 35, ground := Go.Ground.guard }], guard := some (35, false) }) (v := ?_) [42, 45, 50] rfl (by kernel_rfl) (by kernel_rfl) (by kernel_rfl) (by kernel_rfl) (by kernel_rfl) (fun _ _ _ h => h) (by first | exact hF | exact hF (by kernel_rfl)) (fun w hFw => ?_) (by rfl) ?_
                  rotate_left
                  · (try dsimp only at hFw)
                    first | (go_simp; done) | (go_simp; with_reducible rfl) | (go_split_ands; go_simp; done)
                  try simp only [Act.put, List.setIfInBounds_toArray, List.set_cons_zero, List.set_cons_succ]
                  refine wpAnyJ_ready (rs := [42]) (by kernel_rfl) (by simp) ?_
                  refine AllJ.cons (o := { dst := some 110, op := Go.Op.call { callee := Go.Callee.value (Go.Operand.func 18), args := #[Go.Operand.tmp 104, Go.Operand.tmp 109], argTypes := #[24, 3] }, type := 4, pos := "law.go:97", after := #[{ on := 36, ground := Go.Ground.data }, { on := 41, ground := Go.Ground.data }, { on := 35, ground := Go.Ground.chain }, { on := 35, ground := Go.Ground.guard }], guard := some (35, false) }) rfl (fun Kr hKr => ?_) ?_
                  · go_simp; go_at_call 18; refine (hot.out _ sL.own.tail.left).mono ?_; rintro e w4 ⟨rfl, rfl⟩
                    refine hKr.out _ _ (fun hJ => ?_) (fun hF => ?_)
                    · first
                      | exact absurd hJ (by decide)
                      | (clear hJ; (try dsimp only); all_goals (exact cells2 sL.own.h0))
                    clear hKr
                    try simp only [Act.put, List.setIfInBounds_toArray, List.set_cons_zero, List.set_cons_succ]
                    refine wpAnyJ_take (i := 43) (oi := { dst := some 111, op := Go.Op.unOp Go.UnOp.not 4 (Go.Operand.tmp 110), type := 4, pos := "law.go:97", after := #[{ on := 42, ground := Go.Ground.data }, { on := 35, ground := Go.Ground.guard }], guard := some (35, false) }) (v := ?_) [44, 45, 50] rfl (by kernel_rfl) (by kernel_rfl) (by kernel_rfl) (by kernel_rfl) (by kernel_rfl) (fun _ _ _ h => h) (by first | exact hF | exact hF (by kernel_rfl)) (fun w hFw => ?_) (by rfl) ?_
                    rotate_left
                    · (try dsimp only at hFw)
                      first | (go_simp; done) | (go_simp; with_reducible rfl) | (go_split_ands; go_simp; done)
                    try simp only [Act.put, List.setIfInBounds_toArray, List.set_cons_zero, List.set_cons_succ]
                    refine wpAnyJ_take (i := 44) (oi := { dst := some 112, op := Go.Op.pick (Go.Operand.tmp 103) (Go.Operand.const (Go.Value.bool true)) (Go.Operand.tmp 111), type := 4, pos := "law.go:97", after := #[{ on := 35, ground := Go.Ground.data }, { on := 43, ground := Go.Ground.data }], guard := none }) (v := ?_) [45, 50] rfl (by kernel_rfl) (by kernel_rfl) (by kernel_rfl) (by kernel_rfl) (by kernel_rfl) (fun _ _ _ h => h) (by first | exact hF | exact hF (by kernel_rfl)) (fun w hFw => ?_) (by rfl) ?_
                    rotate_left
                    · (try dsimp only at hFw)
                      first | (go_simp; done) | (go_simp; with_reducible rfl) | (go_split_ands; go_simp; done)
                    try simp only [Act.put, List.setIfInBounds_toArray, List.set_cons_zero, List.set_cons_succ]
                    refine wpAnyJ_take (i := 45) (oi := { dst := some 113, op := Go.Op.move (Go.Operand.tmp 112), type := 4, pos := "law.go:97", after := #[{ on := 44, ground := Go.Ground.data }, { on := 42, ground := Go.Ground.chain }], guard := none }) (v := ?_) [50] rfl (by kernel_rfl) (by kernel_rfl) (by kernel_rfl) (by kernel_rfl) (by kernel_rfl) (fun _ _ _ h => h) (by first | exact hF | exact hF (by kernel_rfl)) (fun w hFw => ?_) (by rfl) ?_
                    rotate_left
                    · (try dsimp only at hFw)
                      first | (go_simp; done) | (go_simp; with_reducible rfl) | (go_split_ands; go_simp; done)
                    try simp only [Act.put, List.setIfInBounds_toArray, List.set_cons_zero, List.set_cons_succ]
                    refine wpAnyJ_take (i := 46) (oi := { dst := some 114, op := Go.Op.move (Go.Operand.tmp 5), type := 24, pos := "law.go:97", after := #[{ on := 45, ground := Go.Ground.guard }], guard := some (45, false) }) (v := ?_) [48, 49, 50] rfl (by kernel_rfl) (by kernel_rfl) (by kernel_rfl) (by kernel_rfl) (by kernel_rfl) (fun _ _ _ h => h) (by first | exact hF | exact hF (by kernel_rfl)) (fun w hFw => ?_) (by rfl) ?_
                    rotate_left
                    · (try dsimp only at hFw)
                      first | (go_simp; done) | (go_simp; with_reducible rfl) | (go_split_ands; go_simp; done)
                    try simp only [Act.put, List.setIfInBounds_toArray, List.set_cons_zero, List.set_cons_succ]
                    refine wpAnyJ_take (i := 47) (oi := { dst := some 115, op := Go.Op.move (Go.Operand.tmp 11), type := 3, pos := "law.go:97", after := #[{ on := 45, ground := Go.Ground.guard }], guard := some (45, false) }) (v := ?_) [48, 49, 50] rfl (by kernel_rfl) (by kernel_rfl) (by kernel_rfl) (by kernel_rfl) (by kernel_rfl) (fun _ _ _ h => h) (by first | exact hF | exact hF (by kernel_rfl)) (fun w hFw => ?_) (by rfl) ?_
                    rotate_left
                    · (try dsimp only at hFw)
                      first | (go_simp; done) | (go_simp; with_reducible rfl) | (go_split_ands; go_simp; done)
                    try simp only [Act.put, List.setIfInBounds_toArray, List.set_cons_zero, List.set_cons_succ]
                    refine wpAnyJ_ready (rs := [48]) (by kernel_rfl) (by simp) ?_
                    refine AllJ.cons (o := { dst := some 116, op := Go.Op.call { callee := Go.Callee.value (Go.Operand.func 13), args := #[Go.Operand.tmp 114, Go.Operand.tmp 115, Go.Operand.const (Go.Value.int Go.IntKind.i64 0)], argTypes := #[24, 3, 3] }, type := 25, pos := "law.go:97", after := #[{ on := 46, ground := Go.Ground.data }, { on := 47, ground := Go.Ground.data }, { on := 45, ground := Go.Ground.chain }, { on := 45, ground := Go.Ground.guard }], guard := some (45, false) }) rfl (fun Kr hKr => ?_) ?_
                    · go_simp; go_at_call 13; refine (hhas.out _ sL.own.tail.left).mono ?_; rintro e w4 ⟨rfl, hst3⟩
                      have sL := Step.mid1 sL hst3
                      refine hKr.out _ _ (fun hJ => ?_) (fun hF => ?_)
                      · first
                        | exact absurd hJ (by decide)
                        | (clear hJ; (try dsimp only); all_goals (exact cells2 sL.own.h0))
                      clear hKr
                      try simp only [Act.put, List.setIfInBounds_toArray, List.set_cons_zero, List.set_cons_succ]
                      refine wpAnyJ_take (i := 49) (oi := { dst := some 117, op := Go.Op.binOp Go.BinOp.neq 25 (Go.Operand.tmp 116) (Go.Operand.const (Go.Value.int Go.IntKind.i64 8)) 25, type := 4, pos := "law.go:97", after := #[{ on := 48, ground := Go.Ground.data }, { on := 45, ground := Go.Ground.guard }], guard := some (45, false) }) (v := ?_) [50] rfl (by kernel_rfl) (by kernel_rfl) (by kernel_rfl) (by kernel_rfl) (by kernel_rfl) (fun _ _ _ h => h) (by first | exact hF | exact hF (by kernel_rfl)) (fun w hFw => ?_) (by rfl) ?_
                      rotate_left
                      · (try dsimp only at hFw)
                        first | (go_simp; done) | (go_simp; with_reducible rfl) | (go_split_ands; go_simp; done)
                      try simp only [Act.put, List.setIfInBounds_toArray, List.set_cons_zero, List.set_cons_succ]
                      refine wpAnyJ_ready (rs := [50]) (by kernel_rfl) (by simp) ?_
                      refine AllJ.cons (o := { dst := some 118, op := Go.Op.pick (Go.Operand.tmp 113) (Go.Operand.const (Go.Value.bool true)) (Go.Operand.tmp 117), type := 4, pos := "law.go:97", after := #[{ on := 45, ground := Go.Ground.data }, { on := 49, ground := Go.Ground.data }], guard := none }) rfl (fun Kr hKr => ?_) ?_
                      · go_simp
                        refine hKr.out _ _ (fun hJ => ?_) (fun hF => ?_)
                        · first
                          | exact absurd hJ (by decide)
                          | (clear hJ; (try dsimp only); all_goals (exact cells2 sL.own.h0))
                        clear hKr
                        try simp only [Act.put, List.setIfInBounds_toArray, List.set_cons_zero, List.set_cons_succ]
                        refine wpAnyJ_done (by kernel_rfl) ?_ _
                        go_wp2_with fail
                        have sL := sL.tail
                        rw [← List.append_assoc] at sL
                        have sL := sL.forget
                        exact ⟨⟨k + 1, B', hkn, by go_num, by go_num, hinv'.out, hn'.out, hou.out, sL⟩, by simp [intOf]; omega⟩
                      exact AllJ.nil
                    exact AllJ.nil
                  exact AllJ.nil
                exact AllJ.nil
              exact AllJ.nil
            exact AllJ.nil
        · rw [hpar] at e1
          clear hpar
          obtain ⟨m0, m1, mw, mb⟩ := m
          simp only at hst hle hrr'
          have hrp : Hid (∀ W, Own W (brH b g hh B) → Calls Try.prog 13 #[pt b, .int .i64 i, .int .i64 1] W (TolPost b g hh B (B.told i 1 ⟨m0, m1, mw, mb⟩) W)) := fun W hW => report_tol b g hh B i 1 _ W hW hinv.ok hm.out (by omega) hrr.out
          have hhas : Hid (∀ W, Own W (brH b g hh (B.told i 1 ⟨m0, m1, mw, mb⟩)) → Calls Try.prog 13 #[pt b, .int .i64 i, .int .i64 0] W (HasPost b g hh (B.told i 1 ⟨m0, m1, mw, mb⟩) W)) := fun W hW => told_has b g hh B i 1 _ W hinv hm.out (by omega) hrr.out hW
          have hinv' := told_inv (k := 1) hinv hm.out (by omega) hrr.out
          have hou := outs_told (k := 1) hinv hm.out (by omega) hrr.out
          rw [hn.out, ho.out] at hou
          have hl64' : (B.told i 1 ⟨m0, m1, mw, mb⟩).ms.length ≤ 64 := by have := hinv'.ok.len; have := hinv'.ok.z64; omega
          have hwi : Hid (∀ W, Own W (brH b g hh (B.told i 1 ⟨m0, m1, mw, mb⟩)) → Calls Try.prog 16 #[pt b, .int .i64 i] W fun e w' => e = .returned (.int .i64 (m1 : Nat)) ∧ W = w') := fun W hW => by
            have := winner_any b g hh (B.told i 1 ⟨m0, m1, mw, mb⟩) i W hW hl64'
            rwa [told_winner hinv hm.out] at this
          have hot : Hid (∀ W, Own W (brH b g hh (B.told i 1 ⟨m0, m1, mw, mb⟩)) → Calls Try.prog 18 #[pt b, .int .i64 (m0 : Nat)] W fun e w' => e = .returned (.bool true) ∧ W = w') := fun W hW => by
            have := out_any b g hh (B.told i 1 ⟨m0, m1, mw, mb⟩) (m0 : Nat) W hW hinv'.ok.outl hinv'.ok.n64
            have ht : (B.told i 1 ⟨m0, m1, mw, mb⟩).isOut ((m0 : Nat) : Int) = true := told_out (k := 1) hinv hm.out (by omega) hrr.out
            rwa [ht] at this
          have hn' : (B.told i 1 ⟨m0, m1, mw, mb⟩).n = n := hn.out
          have hkn : k + 1 ≤ n := by have := outs_le (B.told i 1 ⟨m0, m1, mw, mb⟩) n; omega
          generalize B.told i 1 ⟨m0, m1, mw, mb⟩ = B' at *
          replace hou := Lib.hid hou
          replace hn' := Lib.hid hn'
          replace hinv' := Lib.hid hinv'
          have c0 : ((m0 : Int) == 0) = false := beq_eq_false_iff_ne.2 (by omega)
          have c1 : ((m1 : Int) == 0) = false := beq_eq_false_iff_ne.2 (by omega)
          have c2 : (((m1 : Nat) : Int) != ((m1 : Nat) : Int)) = false := by simp
          have c3 : IntKind.i64.wrap 1 = 1 := by decide
          have c4 : IntKind.i64.wrap 0 = 0 := by decide
          have c5 : IntKind.i64.wrap (1 - 0) = 1 := by decide
          clear hrr' hle
          go_wp2_with fail
          refine (hrd.out _ hs.own.left).mono ?_
          rintro e w2 ⟨al, cl', H, rfl, hr, hs2⟩
          have sL := hs.call0 hs2
          obtain ⟨gr, rfl, hc0, hnc⟩ := slRep_at hr sL.own.right (i := J) (v := iv i) (by rw [List.getElem?_map, hi.out]; rfl)
          simp only [Nat.zero_add] at hc0
          clear hs hs2
          have hcase : (∃ ba oa, a = some ⟨ba, oa, none⟩ ∧ w2.cell? ⟨ba, oa + k, none⟩ = some (.int .i64 P) ∧ (k : Int) < (pl.length : Int)) ∨ ((pl.length : Int) ≤ (k : Int) ∧ P = (k : Int)) := by
            by_cases hkp : k < pl.length
            · have hPp : pl[k]? = some P := by have := hP.out; rwa [if_pos hkp] at this
              obtain ⟨hkp', hPe⟩ := List.getElem?_eq_some_iff.1 hPp
              obtain ⟨ba, oa, ea, hca, -⟩ := h.out.at sL hkp
              rw [hPe] at hca
              exact .inl ⟨ba, oa, ea, hca, by omega⟩
            · exact .inr ⟨by omega, by have := hP.out; rwa [if_neg hkp] at this⟩
          clear hP
          rcases hcase with ⟨ba, oa, rfl, hca, hkp⟩ | ⟨hkp, rfl⟩
          all_goals
            go_wp2_with fail
            refine (hst.out _ sL.own.left.left).mono ?_
            rintro e w3 ⟨rfl, hs3⟩
            have sL := sL.call0 hs3
            rw [List.append_nil, List.append_assoc] at sL
            have sL := sL.alloc (.cells #[iv m0, iv m1] 32)
            clear hs3 hc0
            try clear hca
            obtain ⟨x0, x1⟩ := cells2 sL.own.h0
            go_wp2_with fail
            refine Step.gen sL ?_
            intro W sL
            generalize w3.heap.size = M at sL ⊢
            have sL := sL.drew
            clear x0 x1
            refine wp_region_J 50 (fun w' => w'.cell? ⟨M, 0, none⟩ = some (iv m0) ∧ w'.cell? ⟨M, 1, none⟩ = some (iv m1)) (by kernel_rfl) ?_ (fun hF => ?_)
            · (try dsimp only)
              all_goals (exact cells2 sL.own.h0)
            refine wpAnyJ_take (i := 0) (oi := { dst := some 68, op := Go.Op.move (Go.Operand.tmp 5), type := 24, pos := "law.go:97", after := #[], guard := none }) (v := ?_) [1, 3, 7, 12, 17, 22, 25, 28, 35, 42, 45, 50] rfl (by kernel_rfl) (by kernel_rfl) (by kernel_rfl) (by kernel_rfl) (by kernel_rfl) (fun _ _ _ h => h) (by first | exact hF | exact hF (by kernel_rfl)) (fun w hFw => ?_) (by rfl) ?_
            rotate_left
            · (try dsimp only at hFw)
              first | (go_simp; done) | (go_simp; with_reducible rfl) | (go_split_ands; go_simp; done)
            try simp only [Act.put, List.setIfInBounds_toArray, List.set_cons_zero, List.set_cons_succ]
            refine wpAnyJ_ready (rs := [1]) (by kernel_rfl) (by simp) ?_
            refine AllJ.cons (o := { dst := some 69, op := Go.Op.call { callee := Go.Callee.value (Go.Operand.func 17), args := #[Go.Operand.tmp 68], argTypes := #[24] }, type := 3, pos := "law.go:97", after := #[{ on := 0, ground := Go.Ground.data }], guard := none }) rfl (fun Kr hKr => ?_) ?_
            · go_simp; go_at_call 17; refine (hch.out _ sL.own.tail.left).mono ?_; rintro e w4 ⟨rfl, rfl⟩
              refine hKr.out _ _ (fun hJ => ?_) (fun hF => ?_)
              · first
                | exact absurd hJ (by decide)
                | (clear hJ; (try dsimp only); all_goals (exact cells2 sL.own.h0))
              clear hKr
              try simp only [Act.put, List.setIfInBounds_toArray, List.set_cons_zero, List.set_cons_succ]
              refine wpAnyJ_take (i := 2) (oi := { dst := some 70, op := Go.Op.binOp Go.BinOp.neq 3 (Go.Operand.tmp 69) (Go.Operand.const (Go.Value.int Go.IntKind.i64 0)) 3, type := 4, pos := "law.go:97", after := #[{ on := 1, ground := Go.Ground.data }], guard := none }) (v := ?_) [3, 7, 12, 17, 22, 25, 28, 35, 42, 45, 50] rfl (by kernel_rfl) (by kernel_rfl) (by kernel_rfl) (by kernel_rfl) (by kernel_rfl) (fun _ _ _ h => h) (by first | exact hF | exact hF (by kernel_rfl)) (fun w hFw => ?_) (by rfl) ?_
              rotate_left
              · (try dsimp only at hFw)
                first | (go_simp; done) | (go_simp; with_reducible rfl) | (go_split_ands; go_simp; done)
              try simp only [Act.put, List.setIfInBounds_toArray, List.set_cons_zero, List.set_cons_succ]
              refine wpAnyJ_take (i := 3) (oi := { dst := some 71, op := Go.Op.move (Go.Operand.tmp 70), type := 4, pos := "law.go:97", after := #[{ on := 2, ground := Go.Ground.data }, { on := 1, ground := Go.Ground.chain }], guard := none }) (v := ?_) [7, 12, 17, 22, 25, 28, 35, 42, 45, 50] rfl (by kernel_rfl) (by kernel_rfl) (by kernel_rfl) (by kernel_rfl) (by kernel_rfl) (fun _ _ _ h => h) (by first | exact hF | exact hF (by kernel_rfl)) (fun w hFw => ?_) (by rfl) ?_
              rotate_left
              · (try dsimp only at hFw)
                first | (go_simp; done) | (go_simp; with_reducible rfl) | (go_split_ands; go_simp; done)
              try simp only [Act.put, List.setIfInBounds_toArray, List.set_cons_zero, List.set_cons_succ]
              refine wpAnyJ_take (i := 4) (oi := { dst := some 72, op := Go.Op.move (Go.Operand.tmp 13), type := 25, pos := "law.go:97", after := #[{ on := 3, ground := Go.Ground.guard }], guard := some (3, false) }) (v := ?_) [5, 6, 7, 12, 17, 22, 25, 28, 35, 42, 45, 50] rfl (by kernel_rfl) (by kernel_rfl) (by kernel_rfl) (by kernel_rfl) (by kernel_rfl) (fun _ _ _ h => h) (by first | exact hF | exact hF (by kernel_rfl)) (fun w hFw => ?_) (by rfl) ?_
              rotate_left
              · (try dsimp only at hFw)
                first | (go_simp; done) | (go_simp; with_reducible rfl) | (go_split_ands; go_simp; done)
              try simp only [Act.put, List.setIfInBounds_toArray, List.set_cons_zero, List.set_cons_succ]
              refine wpAnyJ_take (i := 5) (oi := { dst := some 73, op := Go.Op.binOp Go.BinOp.neq 25 (Go.Operand.tmp 72) (Go.Operand.const (Go.Value.int Go.IntKind.i64 0)) 25, type := 4, pos := "law.go:97", after := #[{ on := 4, ground := Go.Ground.data }, { on := 3, ground := Go.Ground.guard }], guard := some (3, false) }) (v := ?_) [6, 7, 12, 17, 22, 25, 28, 35, 42, 45, 50] rfl (by kernel_rfl) (by kernel_rfl) (by kernel_rfl) (by kernel_rfl) (by kernel_rfl) (fun _ _ _ h => h) (by first | exact hF | exact hF (by kernel_rfl)) (fun w hFw => ?_) (by rfl) ?_
              rotate_left
              · (try dsimp only at hFw)
                first | (go_simp; done) | (go_simp; with_reducible rfl) | (go_split_ands; go_simp; done)
              try simp only [Act.put, List.setIfInBounds_toArray, List.set_cons_zero, List.set_cons_succ]
              refine wpAnyJ_take (i := 6) (oi := { dst := some 74, op := Go.Op.pick (Go.Operand.tmp 71) (Go.Operand.const (Go.Value.bool true)) (Go.Operand.tmp 73), type := 4, pos := "law.go:97", after := #[{ on := 3, ground := Go.Ground.data }, { on := 5, ground := Go.Ground.data }], guard := none }) (v := ?_) [7, 12, 17, 22, 25, 28, 35, 42, 45, 50] rfl (by kernel_rfl) (by kernel_rfl) (by kernel_rfl) (by kernel_rfl) (by kernel_rfl) (fun _ _ _ h => h) (by first | exact hF | exact hF (by kernel_rfl)) (fun w hFw => ?_) (by rfl) ?_
              rotate_left
              · (try dsimp only at hFw)
                first | (go_simp; done) | (go_simp; with_reducible rfl) | (go_split_ands; go_simp; done)
              try simp only [Act.put, List.setIfInBounds_toArray, List.set_cons_zero, List.set_cons_succ]
              refine wpAnyJ_take (i := 7) (oi := { dst := some 75, op := Go.Op.move (Go.Operand.tmp 74), type := 4, pos := "law.go:97", after := #[{ on := 6, ground := Go.Ground.data }, { on := 3, ground := Go.Ground.chain }], guard := none }) (v := ?_) [12, 17, 22, 25, 28, 35, 42, 45, 50] rfl (by kernel_rfl) (by kernel_rfl) (by kernel_rfl) (by kernel_rfl) (by kernel_rfl) (fun _ _ _ h => h) (by first | exact hF | exact hF (by kernel_rfl)) (fun w hFw => ?_) (by rfl) ?_
              rotate_left
              · (try dsimp only at hFw)
                first | (go_simp; done) | (go_simp; with_reducible rfl) | (go_split_ands; go_simp; done)
              try simp only [Act.put, List.setIfInBounds_toArray, List.set_cons_zero, List.set_cons_succ]
              refine wpAnyJ_take (i := 8) (oi := { dst := some 76, op := Go.Op.indexAddr 32 (Go.Operand.tmp 12) (Go.Operand.const (Go.Value.int Go.IntKind.i64 0)), type := 0, pos := "law.go:97", after := #[{ on := 7, ground := Go.Ground.guard }], guard := some (7, false) }) (v := ?_) [9, 10, 11, 12, 17, 22, 25, 28, 35, 42, 45, 50] rfl (by kernel_rfl) (by kernel_rfl) (by kernel_rfl) (by kernel_rfl) (by kernel_rfl) (fun _ _ _ h => h) (by first | exact hF | exact hF (by kernel_rfl)) (fun w hFw => ?_) (by rfl) ?_
              rotate_left
              · (try dsimp only at hFw)
                first | (go_simp; done) | (go_simp; with_reducible rfl) | (go_split_ands; go_simp; done)
              try simp only [Act.put, List.setIfInBounds_toArray, List.set_cons_zero, List.set_cons_succ]
              refine wpAnyJ_take (i := 9) (oi := { dst := some 77, op := Go.Op.load 3 (Go.Operand.tmp 76), type := 3, pos := "law.go:97", after := #[{ on := 8, ground := Go.Ground.data }, { on := 7, ground := Go.Ground.guard }], guard := some (7, false) }) (v := ?_) [10, 11, 12, 17, 22, 25, 28, 35, 42, 45, 50] rfl (by kernel_rfl) (by kernel_rfl) (by kernel_rfl) (by kernel_rfl) (by kernel_rfl) (fun _ _ _ h => h) (by first | exact hF | exact hF (by kernel_rfl)) (fun w hFw => ?_) (by rfl) ?_
              rotate_left
              · (try dsimp only at hFw)
                first | (go_simp; done) | (go_simp; with_reducible rfl) | (go_split_ands; go_simp; done)
              try simp only [Act.put, List.setIfInBounds_toArray, List.set_cons_zero, List.set_cons_succ]
              refine wpAnyJ_take (i := 10) (oi := { dst := some 78, op := Go.Op.binOp Go.BinOp.eql 3 (Go.Operand.tmp 77) (Go.Operand.const (Go.Value.int Go.IntKind.i64 0)) 3, type := 4, pos := "law.go:97", after := #[{ on := 9, ground := Go.Ground.data }, { on := 7, ground := Go.Ground.guard }], guard := some (7, false) }) (v := ?_) [11, 12, 17, 22, 25, 28, 35, 42, 45, 50] rfl (by kernel_rfl) (by kernel_rfl) (by kernel_rfl) (by kernel_rfl) (by kernel_rfl) (fun _ _ _ h => h) (by first | exact hF | exact hF (by kernel_rfl)) (fun w hFw => ?_) (by rfl) ?_
              rotate_left
              · (try dsimp only at hFw)
                first | (go_simp; done) | (go_simp; with_reducible rfl) | (go_split_ands; go_simp; done)
              try simp only [Act.put, List.setIfInBounds_toArray, List.set_cons_zero, List.set_cons_succ]
              refine wpAnyJ_take (i := 11) (oi := { dst := some 79, op := Go.Op.pick (Go.Operand.tmp 75) (Go.Operand.const (Go.Value.bool true)) (Go.Operand.tmp 78), type := 4, pos := "law.go:97", after := #[{ on := 7, ground := Go.Ground.data }, { on := 10, ground := Go.Ground.data }], guard := none }) (v := ?_) [12, 17, 22, 25, 28, 35, 42, 45, 50] rfl (by kernel_rfl) (by kernel_rfl) (by kernel_rfl) (by kernel_rfl) (by kernel_rfl) (fun _ _ _ h => h) (by first | exact hF | exact hF (by kernel_rfl)) (fun w hFw => ?_) (by rfl) ?_
              rotate_left
              · (try dsimp only at hFw)
                first | (go_simp; done) | (go_simp; with_reducible rfl) | (go_split_ands; go_simp; done)
              try simp only [Act.put, List.setIfInBounds_toArray, List.set_cons_zero, List.set_cons_succ]
              refine wpAnyJ_take (i := 12) (oi := { dst := some 80, op := Go.Op.move (Go.Operand.tmp 79), type := 4, pos := "law.go:97", after := #[{ on := 11, ground := Go.Ground.data }, { on := 7, ground := Go.Ground.chain }], guard := none }) (v := ?_) [17, 22, 25, 28, 35, 42, 45, 50] rfl (by kernel_rfl) (by kernel_rfl) (by kernel_rfl) (by kernel_rfl) (by kernel_rfl) (fun _ _ _ h => h) (by first | exact hF | exact hF (by kernel_rfl)) (fun w hFw => ?_) (by rfl) ?_
              rotate_left
              · (try dsimp only at hFw)
                first | (go_simp; done) | (go_simp; with_reducible rfl) | (go_split_ands; go_simp; done)
              try simp only [Act.put, List.setIfInBounds_toArray, List.set_cons_zero, List.set_cons_succ]
              refine wpAnyJ_take (i := 13) (oi := { dst := some 81, op := Go.Op.indexAddr 32 (Go.Operand.tmp 12) (Go.Operand.const (Go.Value.int Go.IntKind.i64 1)), type := 0, pos := "law.go:97", after := #[{ on := 12, ground := Go.Ground.guard }], guard := some (12, false) }) (v := ?_) [14, 15, 16, 17, 22, 25, 28, 35, 42, 45, 50] rfl (by kernel_rfl) (by kernel_rfl) (by kernel_rfl) (by kernel_rfl) (by kernel_rfl) (fun _ _ _ h => h) (by first | exact hF | exact hF (by kernel_rfl)) (fun w hFw => ?_) (by rfl) ?_
              rotate_left
              · (try dsimp only at hFw)
                first | (go_simp; done) | (go_simp; with_reducible rfl) | (go_split_ands; go_simp; done)
              try simp only [Act.put, List.setIfInBounds_toArray, List.set_cons_zero, List.set_cons_succ]
              refine wpAnyJ_take (i := 14) (oi := { dst := some 82, op := Go.Op.load 3 (Go.Operand.tmp 81), type := 3, pos := "law.go:97", after := #[{ on := 13, ground := Go.Ground.data }, { on := 12, ground := Go.Ground.guard }], guard := some (12, false) }) (v := ?_) [15, 16, 17, 22, 25, 28, 35, 42, 45, 50] rfl (by kernel_rfl) (by kernel_rfl) (by kernel_rfl) (by kernel_rfl) (by kernel_rfl) (fun _ _ _ h => h) (by first | exact hF | exact hF (by kernel_rfl)) (fun w hFw => ?_) (by rfl) ?_
              rotate_left
              · (try dsimp only at hFw)
                first | (go_simp; done) | (go_simp; with_reducible rfl) | (go_split_ands; go_simp; done)
              try simp only [Act.put, List.setIfInBounds_toArray, List.set_cons_zero, List.set_cons_succ]
              refine wpAnyJ_take (i := 15) (oi := { dst := some 83, op := Go.Op.binOp Go.BinOp.eql 3 (Go.Operand.tmp 82) (Go.Operand.const (Go.Value.int Go.IntKind.i64 0)) 3, type := 4, pos := "law.go:97", after := #[{ on := 14, ground := Go.Ground.data }, { on := 12, ground := Go.Ground.guard }], guard := some (12, false) }) (v := ?_) [16, 17, 22, 25, 28, 35, 42, 45, 50] rfl (by kernel_rfl) (by kernel_rfl) (by kernel_rfl) (by kernel_rfl) (by kernel_rfl) (fun _ _ _ h => h) (by first | exact hF | exact hF (by kernel_rfl)) (fun w hFw => ?_) (by rfl) ?_
              rotate_left
              · (try dsimp only at hFw)
                first | (go_simp; done) | (go_simp; with_reducible rfl) | (go_split_ands; go_simp; done)
              try simp only [Act.put, List.setIfInBounds_toArray, List.set_cons_zero, List.set_cons_succ]
              refine wpAnyJ_take (i := 16) (oi := { dst := some 84, op := Go.Op.pick (Go.Operand.tmp 80) (Go.Operand.const (Go.Value.bool true)) (Go.Operand.tmp 83), type := 4, pos := "law.go:97", after := #[{ on := 12, ground := Go.Ground.data }, { on := 15, ground := Go.Ground.data }], guard := none }) (v := ?_) [17, 22, 25, 28, 35, 42, 45, 50] rfl (by kernel_rfl) (by kernel_rfl) (by kernel_rfl) (by kernel_rfl) (by kernel_rfl) (fun _ _ _ h => h) (by first | exact hF | exact hF (by kernel_rfl)) (fun w hFw => ?_) (by rfl) ?_
              rotate_left
              · (try dsimp only at hFw)
                first | (go_simp; done) | (go_simp; with_reducible rfl) | (go_split_ands; go_simp; done)
              try simp only [Act.put, List.setIfInBounds_toArray, List.set_cons_zero, List.set_cons_succ]
              refine wpAnyJ_take (i := 17) (oi := { dst := some 85, op := Go.Op.move (Go.Operand.tmp 84), type := 4, pos := "law.go:97", after := #[{ on := 16, ground := Go.Ground.data }, { on := 12, ground := Go.Ground.chain }], guard := none }) (v := ?_) [22, 25, 28, 35, 42, 45, 50] rfl (by kernel_rfl) (by kernel_rfl) (by kernel_rfl) (by kernel_rfl) (by kernel_rfl) (fun _ _ _ h => h) (by first | exact hF | exact hF (by kernel_rfl)) (fun w hFw => ?_) (by rfl) ?_
              rotate_left
              · (try dsimp only at hFw)
                first | (go_simp; done) | (go_simp; with_reducible rfl) | (go_split_ands; go_simp; done)
              try simp only [Act.put, List.setIfInBounds_toArray, List.set_cons_zero, List.set_cons_succ]
              refine wpAnyJ_take (i := 18) (oi := { dst := some 86, op := Go.Op.move (Go.Operand.tmp 5), type := 24, pos := "law.go:97", after := #[{ on := 17, ground := Go.Ground.guard }], guard := some (17, false) }) (v := ?_) [22, 25, 28, 35, 42, 45, 50] rfl (by kernel_rfl) (by kernel_rfl) (by kernel_rfl) (by kernel_rfl) (by kernel_rfl) (fun _ _ _ h => h) (by first | exact hF | exact hF (by kernel_rfl)) (fun w hFw => ?_) (by rfl) ?_
              rotate_left
              · (try dsimp only at hFw)
                first | (go_simp; done) | (go_simp; with_reducible rfl) | (go_split_ands; go_simp; done)
              try simp only [Act.put, List.setIfInBounds_toArray, List.set_cons_zero, List.set_cons_succ]
              refine wpAnyJ_take (i := 19) (oi := { dst := some 87, op := Go.Op.move (Go.Operand.tmp 11), type := 3, pos := "law.go:97", after := #[{ on := 17, ground := Go.Ground.guard }], guard := some (17, false) }) (v := ?_) [22, 25, 28, 35, 42, 45, 50] rfl (by kernel_rfl) (by kernel_rfl) (by kernel_rfl) (by kernel_rfl) (by kernel_rfl) (fun _ _ _ h => h) (by first | exact hF | exact hF (by kernel_rfl)) (fun w hFw => ?_) (by rfl) ?_
              rotate_left
              · (try dsimp only at hFw)
                first | (go_simp; done) | (go_simp; with_reducible rfl) | (go_split_ands; go_simp; done)
              try simp only [Act.put, List.setIfInBounds_toArray, List.set_cons_zero, List.set_cons_succ]
              refine wpAnyJ_take (i := 20) (oi := { dst := some 88, op := Go.Op.move (Go.Operand.tmp 10), type := 3, pos := "law.go:97", after := #[{ on := 17, ground := Go.Ground.guard }], guard := some (17, false) }) (v := ?_) [21, 22, 25, 28, 35, 42, 45, 50] rfl (by kernel_rfl) (by kernel_rfl) (by kernel_rfl) (by kernel_rfl) (by kernel_rfl) (fun _ _ _ h => h) (by first | exact hF | exact hF (by kernel_rfl)) (fun w hFw => ?_) (by rfl) ?_
              rotate_left
              · (try dsimp only at hFw)
                first | (go_simp; done) | (go_simp; with_reducible rfl) | (go_split_ands; go_simp; done)
              try simp only [Act.put, List.setIfInBounds_toArray, List.set_cons_zero, List.set_cons_succ]
              refine wpAnyJ_take (i := 21) (oi := { dst := some 89, op := Go.Op.binOp Go.BinOp.and 3 (Go.Operand.tmp 88) (Go.Operand.const (Go.Value.int Go.IntKind.i64 1)) 3, type := 3, pos := "law.go:97", after := #[{ on := 20, ground := Go.Ground.data }, { on := 17, ground := Go.Ground.guard }], guard := some (17, false) }) (v := ?_) [22, 25, 28, 35, 42, 45, 50] rfl (by kernel_rfl) (by kernel_rfl) (by kernel_rfl) (by kernel_rfl) (by kernel_rfl) (fun _ _ _ h => h) (by first | exact hF | exact hF (by kernel_rfl)) (fun w hFw => ?_) (by rfl) ?_
              rotate_left
              · (try dsimp only at hFw)
                first | (go_simp; done) | (go_simp; with_reducible rfl) | (go_split_ands; go_simp; done)
              try simp only [Act.put, List.setIfInBounds_toArray, List.set_cons_zero, List.set_cons_succ]
              refine wpAnyJ_ready (rs := [22]) (by kernel_rfl) (by simp) ?_
              refine AllJ.cons (o := { dst := some 90, op := Go.Op.call { callee := Go.Callee.value (Go.Operand.func 13), args := #[Go.Operand.tmp 86, Go.Operand.tmp 87, Go.Operand.tmp 89], argTypes := #[24, 3, 3] }, type := 25, pos := "law.go:97", after := #[{ on := 18, ground := Go.Ground.data }, { on := 19, ground := Go.Ground.data }, { on := 21, ground := Go.Ground.data }, { on := 17, ground := Go.Ground.chain }, { on := 17, ground := Go.Ground.guard }], guard := some (17, false) }) rfl (fun Kr hKr => ?_) ?_
              · go_simp; go_at_call 13; refine (hrp.out _ sL.own.tail.left).mono ?_; rintro e w4 ⟨rfl, hst3⟩
                have sL := Step.mid1 sL hst3
                refine hKr.out _ _ (fun hJ => ?_) (fun hF => ?_)
                · first
                  | exact absurd hJ (by decide)
                  | (clear hJ; (try dsimp only); all_goals (exact cells2 sL.own.h0))
                clear hKr
                try simp only [Act.put, List.setIfInBounds_toArray, List.set_cons_zero, List.set_cons_succ]
                refine wpAnyJ_take (i := 23) (oi := { dst := some 91, op := Go.Op.binOp Go.BinOp.neq 25 (Go.Operand.tmp 90) (Go.Operand.const (Go.Value.int Go.IntKind.i64 0)) 25, type := 4, pos := "law.go:97", after := #[{ on := 22, ground := Go.Ground.data }, { on := 17, ground := Go.Ground.guard }], guard := some (17, false) }) (v := ?_) [24, 25, 28, 35, 42, 45, 50] rfl (by kernel_rfl) (by kernel_rfl) (by kernel_rfl) (by kernel_rfl) (by kernel_rfl) (fun _ _ _ h => h) (by first | exact hF | exact hF (by kernel_rfl)) (fun w hFw => ?_) (by rfl) ?_
                rotate_left
                · (try dsimp only at hFw)
                  first | (go_simp; done) | (go_simp; with_reducible rfl) | (go_split_ands; go_simp; done)
                try simp only [Act.put, List.setIfInBounds_toArray, List.set_cons_zero, List.set_cons_succ]
                refine wpAnyJ_take (i := 24) (oi := { dst := some 92, op := Go.Op.pick (Go.Operand.tmp 85) (Go.Operand.const (Go.Value.bool true)) (Go.Operand.tmp 91), type := 4, pos := "law.go:97", after := #[{ on := 17, ground := Go.Ground.data }, { on := 23, ground := Go.Ground.data }], guard := none }) (v := ?_) [25, 28, 35, 42, 45, 50] rfl (by kernel_rfl) (by kernel_rfl) (by kernel_rfl) (by kernel_rfl) (by kernel_rfl) (fun _ _ _ h => h) (by first | exact hF | exact hF (by kernel_rfl)) (fun w hFw => ?_) (by rfl) ?_
                rotate_left
                · (try dsimp only at hFw)
                  first | (go_simp; done) | (go_simp; with_reducible rfl) | (go_split_ands; go_simp; done)
                try simp only [Act.put, List.setIfInBounds_toArray, List.set_cons_zero, List.set_cons_succ]
                refine wpAnyJ_take (i := 25) (oi := { dst := some 93, op := Go.Op.move (Go.Operand.tmp 92), type := 4, pos := "law.go:97", after := #[{ on := 24, ground := Go.Ground.data }, { on := 22, ground := Go.Ground.chain }], guard := none }) (v := ?_) [28, 35, 42, 45, 50] rfl (by kernel_rfl) (by kernel_rfl) (by kernel_rfl) (by kernel_rfl) (by kernel_rfl) (fun _ _ _ h => h) (by first | exact hF | exact hF (by kernel_rfl)) (fun w hFw => ?_) (by rfl) ?_
                rotate_left
                · (try dsimp only at hFw)
                  first | (go_simp; done) | (go_simp; with_reducible rfl) | (go_split_ands; go_simp; done)
                try simp only [Act.put, List.setIfInBounds_toArray, List.set_cons_zero, List.set_cons_succ]
                refine wpAnyJ_take (i := 26) (oi := { dst := some 94, op := Go.Op.move (Go.Operand.tmp 5), type := 24, pos := "law.go:97", after := #[{ on := 25, ground := Go.Ground.guard }], guard := some (25, false) }) (v := ?_) [28, 35, 42, 45, 50] rfl (by kernel_rfl) (by kernel_rfl) (by kernel_rfl) (by kernel_rfl) (by kernel_rfl) (fun _ _ _ h => h) (by first | exact hF | exact hF (by kernel_rfl)) (fun w hFw => ?_) (by rfl) ?_
                rotate_left
                · (try dsimp only at hFw)
                  first | (go_simp; done) | (go_simp; with_reducible rfl) | (go_split_ands; go_simp; done)
                try simp only [Act.put, List.setIfInBounds_toArray, List.set_cons_zero, List.set_cons_succ]
                refine wpAnyJ_take (i := 27) (oi := { dst := some 95, op := Go.Op.move (Go.Operand.tmp 11), type := 3, pos := "law.go:97", after := #[{ on := 25, ground := Go.Ground.guard }], guard := some (25, false) }) (v := ?_) [28, 35, 42, 45, 50] rfl (by kernel_rfl) (by kernel_rfl) (by kernel_rfl) (by kernel_rfl) (by kernel_rfl) (fun _ _ _ h => h) (by first | exact hF | exact hF (by kernel_rfl)) (fun w hFw => ?_) (by rfl) ?_
                rotate_left
                · (try dsimp only at hFw)
                  first | (go_simp; done) | (go_simp; with_reducible rfl) | (go_split_ands; go_simp; done)
                try simp only [Act.put, List.setIfInBounds_toArray, List.set_cons_zero, List.set_cons_succ]
                refine wpAnyJ_take (i := 29) (oi := { dst := some 97, op := Go.Op.move (Go.Operand.tmp 10), type := 3, pos := "law.go:97", after := #[{ on := 25, ground := Go.Ground.guard }], guard := some (25, false) }) (v := ?_) [30, 31, 32, 33, 34, 35, 42, 45, 50] rfl (by kernel_rfl) (by kernel_rfl) (by kernel_rfl) (by kernel_rfl) (by kernel_rfl) (fun _ _ _ h => h) (by first | exact hF | exact hF (by kernel_rfl)) (fun w hFw => ?_) (by rfl) ?_
                rotate_left
                · (try dsimp only at hFw)
                  first | (go_simp; done) | (go_simp; with_reducible rfl) | (go_split_ands; go_simp; done)
                try simp only [Act.put, List.setIfInBounds_toArray, List.set_cons_zero, List.set_cons_succ]
                refine wpAnyJ_take (i := 30) (oi := { dst := some 98, op := Go.Op.binOp Go.BinOp.and 3 (Go.Operand.tmp 97) (Go.Operand.const (Go.Value.int Go.IntKind.i64 1)) 3, type := 3, pos := "law.go:97", after := #[{ on := 29, ground := Go.Ground.data }, { on := 25, ground := Go.Ground.guard }], guard := some (25, false) }) (v := ?_) [31, 32, 33, 34, 35, 42, 45, 50] rfl (by kernel_rfl) (by kernel_rfl) (by kernel_rfl) (by kernel_rfl) (by kernel_rfl) (fun _ _ _ h => h) (by first | exact hF | exact hF (by kernel_rfl)) (fun w hFw => ?_) (by rfl) ?_
                rotate_left
                · (try dsimp only at hFw)
                  first | (go_simp; done) | (go_simp; with_reducible rfl) | (go_split_ands; go_simp; done)
                try simp only [Act.put, List.setIfInBounds_toArray, List.set_cons_zero, List.set_cons_succ]
                refine wpAnyJ_take (i := 31) (oi := { dst := some 99, op := Go.Op.indexAddr 32 (Go.Operand.tmp 12) (Go.Operand.tmp 98), type := 0, pos := "law.go:97", after := #[{ on := 30, ground := Go.Ground.data }, { on := 25, ground := Go.Ground.guard }], guard := some (25, false) }) (v := ?_) [32, 33, 34, 35, 42, 45, 50] rfl (by kernel_rfl) (by kernel_rfl) (by kernel_rfl) (by kernel_rfl) (by kernel_rfl) (fun _ _ _ h => h) (by first | exact hF | exact hF (by kernel_rfl)) (fun w hFw => ?_) (by rfl) ?_
                rotate_left
                · (try dsimp only at hFw)
                  first | (go_simp; done) | (go_simp; with_reducible rfl) | (go_split_ands; go_simp; done)
                try simp only [Act.put, List.setIfInBounds_toArray, List.set_cons_zero, List.set_cons_succ]
                refine wpAnyJ_take (i := 32) (oi := { dst := some 100, op := Go.Op.load 3 (Go.Operand.tmp 99), type := 3, pos := "law.go:97", after := #[{ on := 31, ground := Go.Ground.data }, { on := 25, ground := Go.Ground.guard }], guard := some (25, false) }) (v := ?_) [33, 34, 35, 42, 45, 50] rfl (by kernel_rfl) (by kernel_rfl) (by kernel_rfl) (by kernel_rfl) (by kernel_rfl) (fun _ _ _ h => h) (by first | exact hF | exact hF (by kernel_rfl)) (fun w hFw => ?_) (by rfl) ?_
                rotate_left
                · (try dsimp only at hFw)
                  first | (go_simp; done) | (go_simp; with_reducible rfl) | (go_split_ands; go_simp; done)
                try simp only [Act.put, List.setIfInBounds_toArray, List.set_cons_zero, List.set_cons_succ]
                refine wpAnyJ_ready (rs := [28]) (by kernel_rfl) (by simp) ?_
                refine AllJ.cons (o := { dst := some 96, op := Go.Op.call { callee := Go.Callee.value (Go.Operand.func 16), args := #[Go.Operand.tmp 94, Go.Operand.tmp 95], argTypes := #[24, 3] }, type := 3, pos := "law.go:97", after := #[{ on := 26, ground := Go.Ground.data }, { on := 27, ground := Go.Ground.data }, { on := 25, ground := Go.Ground.chain }, { on := 25, ground := Go.Ground.guard }], guard := some (25, false) }) rfl (fun Kr hKr => ?_) ?_
                · go_simp; go_at_call 16; refine (hwi.out _ sL.own.tail.left).mono ?_; rintro e w4 ⟨rfl, rfl⟩
                  refine hKr.out _ _ (fun hJ => ?_) (fun hF => ?_)
                  · first
                    | exact absurd hJ (by decide)
                    | (clear hJ; (try dsimp only); all_goals (exact cells2 sL.own.h0))
                  clear hKr
                  try simp only [Act.put, List.setIfInBounds_toArray, List.set_cons_zero, List.set_cons_succ]
                  refine wpAnyJ_take (i := 33) (oi := { dst := some 101, op := Go.Op.binOp Go.BinOp.neq 3 (Go.Operand.tmp 96) (Go.Operand.tmp 100) 3, type := 4, pos := "law.go:97", after := #[{ on := 28, ground := Go.Ground.data }, { on := 32, ground := Go.Ground.data }, { on := 25, ground := Go.Ground.guard }], guard := some (25, false) }) (v := ?_) [34, 35, 42, 45, 50] rfl (by kernel_rfl) (by kernel_rfl) (by kernel_rfl) (by kernel_rfl) (by kernel_rfl) (fun _ _ _ h => h) (by first | exact hF | exact hF (by kernel_rfl)) (fun w hFw => ?_) (by rfl) ?_
                  rotate_left
                  · (try dsimp only at hFw)
                    first | (go_simp; done) | (go_simp; with_reducible rfl) | (go_split_ands; go_simp; done)
                  try simp only [Act.put, List.setIfInBounds_toArray, List.set_cons_zero, List.set_cons_succ]
                  refine wpAnyJ_take (i := 34) (oi := { dst := some 102, op := Go.Op.pick (Go.Operand.tmp 93) (Go.Operand.const (Go.Value.bool true)) (Go.Operand.tmp 101), type := 4, pos := "law.go:97", after := #[{ on := 25, ground := Go.Ground.data }, { on := 33, ground := Go.Ground.data }], guard := none }) (v := ?_) [35, 42, 45, 50] rfl (by kernel_rfl) (by kernel_rfl) (by kernel_rfl) (by kernel_rfl) (by kernel_rfl) (fun _ _ _ h => h) (by first | exact hF | exact hF (by kernel_rfl)) (fun w hFw => ?_) (by rfl) ?_
                  rotate_left
                  · (try dsimp only at hFw)
                    first | (go_simp; done) | (go_simp; with_reducible rfl) | (go_split_ands; go_simp; done)
                  try simp only [Act.put, List.setIfInBounds_toArray, List.set_cons_zero, List.set_cons_succ]
                  refine wpAnyJ_take (i := 35) (oi := { dst := some 103, op := Go.Op.move (Go.Operand.tmp 102), type := 4, pos := "law.go:97", after := #[{ on := 34, ground := Go.Ground.data }, { on := 28, ground := Go.Ground.chain }], guard := none }) (v := ?_) [42, 45, 50] rfl (by kernel_rfl) (by kernel_rfl) (by kernel_rfl) (by kernel_rfl) (by kernel_rfl) (fun _ _ _ h => h) (by first | exact hF | exact hF (by kernel_rfl)) (fun w hFw => ?_) (by rfl) ?_
                  rotate_left
                  · (try dsimp only at hFw)
                    first | (go_simp; done) | (go_simp; with_reducible rfl) | (go_split_ands; go_simp; done)
                  try simp only [Act.put, List.setIfInBounds_toArray, List.set_cons_zero, List.set_cons_succ]
                  refine wpAnyJ_take (i := 36) (oi := { dst := some 104, op := Go.Op.move (Go.Operand.tmp 5), type := 24, pos := "law.go:97", after := #[{ on := 35, ground := Go.Ground.guard }], guard := some (35, false) }) (v := ?_) [42, 45, 50] rfl (by kernel_rfl) (by kernel_rfl) (by kernel_rfl) (by kernel_rfl) (by kernel_rfl) (fun _ _ _ h => h) (by first | exact hF | exact hF (by kernel_rfl)) (fun w hFw => ?_) (by rfl) ?_
                  rotate_left
                  · (try dsimp only at hFw)
                    first | (go_simp; done) | (go_simp; with_reducible rfl) | (go_split_ands; go_simp; done)
                  try simp only [Act.put, List.setIfInBounds_toArray, List.set_cons_zero, List.set_cons_succ]
                  refine wpAnyJ_take (i := 37) (oi := { dst := some 105, op := Go.Op.move (Go.Operand.tmp 10), type := 3, pos := "law.go:97", after := #[{ on := 35, ground := Go.Ground.guard }], guard := some (35, false) }) (v := ?_) [38, 39, 40, 41, 42, 45, 50] rfl (by kernel_rfl) (by kernel_rfl) (by kernel_rfl) (by kernel_rfl) (by kernel_rfl) (fun _ _ _ h => h) (by first | exact hF | exact hF (by kernel_rfl)) (fun w hFw => ?_) (by rfl) ?_
                  rotate_left
                  · (try dsimp only at hFw)
                    first | (go_simp; done) | (go_simp; with_reducible rfl) | (go_split_ands; go_simp; done)
                  try simp only [Act.put, List.setIfInBounds_toArray, List.set_cons_zero, List.set_cons_succ]
                  refine wpAnyJ_take (i := 38) (oi := { dst := some 106, op := Go.Op.binOp Go.BinOp.and 3 (Go.Operand.tmp 105) (Go.Operand.const (Go.Value.int Go.IntKind.i64 1)) 3, type := 3, pos := "law.go:97", after := #[{ on := 37, ground := Go.Ground.data }, { on := 35, ground := Go.Ground.guard }], guard := some (35, false) }) (v := ?_) [39, 40, 41, 42, 45, 50] rfl (by kernel_rfl) (by kernel_rfl) (by kernel_rfl) (by kernel_rfl) (by kernel_rfl) (fun _ _ _ h => h) (by first | exact hF | exact hF (by kernel_rfl)) (fun w hFw => ?_) (by rfl) ?_
                  rotate_left
                  · (try dsimp only at hFw)
                    first | (go_simp; done) | (go_simp; with_reducible rfl) | (go_split_ands; go_simp; done)
                  try simp only [Act.put, List.setIfInBounds_toArray, List.set_cons_zero, List.set_cons_succ]
                  refine wpAnyJ_take (i := 39) (oi := { dst := some 107, op := Go.Op.binOp Go.BinOp.sub 3 (Go.Operand.const (Go.Value.int Go.IntKind.i64 1)) (Go.Operand.tmp 106) 3, type := 3, pos := "law.go:97", after := #[{ on := 38, ground := Go.Ground.data }, { on := 35, ground := Go.Ground.guard }], guard := some (35, false) }) (v := ?_) [40, 41, 42, 45, 50] rfl (by kernel_rfl) (by kernel_rfl) (by kernel_rfl) (by kernel_rfl) (by kernel_rfl) (fun _ _ _ h => h) (by first | exact hF | exact hF (by kernel_rfl)) (fun w hFw => ?_) (by rfl) ?_
                  rotate_left
                  · (try dsimp only at hFw)
                    first | (go_simp; done) | (go_simp; with_reducible rfl) | (go_split_ands; go_simp; done)
                  try simp only [Act.put, List.setIfInBounds_toArray, List.set_cons_zero, List.set_cons_succ]
                  refine wpAnyJ_take (i := 40) (oi := { dst := some 108, op := Go.Op.indexAddr 32 (Go.Operand.tmp 12) (Go.Operand.tmp 107), type := 0, pos := "law.go:97", after := #[{ on := 39, ground := Go.Ground.data }, { on := 35, ground := Go.Ground.guard }], guard := some (35, false) }) (v := ?_) [41, 42, 45, 50] rfl (by kernel_rfl) (by kernel_rfl) (by kernel_rfl) (by kernel_rfl) (by kernel_rfl) (fun _ _ _ h => h) (by first | exact hF | exact hF (by kernel_rfl)) (fun w hFw => ?_) (by rfl) ?_
                  rotate_left
                  · (try dsimp only at hFw)
                    first | (go_simp; done) | (go_simp; with_reducible rfl) | (go_split_ands; go_simp; done)
                  try simp only [Act.put, List.setIfInBounds_toArray, List.set_cons_zero, List.set_cons_succ]
                  refine wpAnyJ_take (i := 41) (oi := { dst := some 109, op := Go.Op.load 3 (Go.Operand.tmp 108), type := 3, pos := "law.go:97", after := #[{ on := 40, ground := Go.Ground.data }, { on := 35, ground := Go.Ground.guard }], guard := some (35, false) }) (v := ?_) [42, 45, 50] rfl (by kernel_rfl) (by kernel_rfl) (by kernel_rfl) (by kernel_rfl) (by kernel_rfl) (fun _ _ _ h => h) (by first | exact hF | exact hF (by kernel_rfl)) (fun w hFw => ?_) (by rfl) ?_
                  rotate_left
                  · (try dsimp only at hFw)
                    first | (go_simp; done) | (go_simp; with_reducible rfl) | (go_split_ands; go_simp; done)
                  try simp only [Act.put, List.setIfInBounds_toArray, List.set_cons_zero, List.set_cons_succ]
                  refine wpAnyJ_ready (rs := [42]) (by kernel_rfl) (by simp) ?_
                  refine AllJ.cons (o := { dst := some 110, op := Go.Op.call { callee := Go.Callee.value (Go.Operand.func 18), args := #[Go.Operand.tmp 104, Go.Operand.tmp 109], argTypes := #[24, 3] }, type := 4, pos := "law.go:97", after := #[{ on := 36, ground := Go.Ground.data }, { on := 41, ground := Go.Ground.data }, { on := 35, ground := Go.Ground.chain }, { on := 35, ground := Go.Ground.guard }], guard := some (35, false) }) rfl (fun Kr hKr => ?_) ?_
                  · go_simp; go_at_call 18; refine (hot.out _ sL.own.tail.left).mono ?_; rintro e w4 ⟨rfl, rfl⟩
                    refine hKr.out _ _ (fun hJ => ?_) (fun hF => ?_)
                    · first
                      | exact absurd hJ (by decide)
                      | (clear hJ; (try dsimp only); all_goals (exact cells2 sL.own.h0))
                    clear hKr
                    try simp only [Act.put, List.setIfInBounds_toArray, List.set_cons_zero, List.set_cons_succ]
                    refine wpAnyJ_take (i := 43) (oi := { dst := some 111, op := Go.Op.unOp Go.UnOp.not 4 (Go.Operand.tmp 110), type := 4, pos := "law.go:97", after := #[{ on := 42, ground := Go.Ground.data }, { on := 35, ground := Go.Ground.guard }], guard := some (35, false) }) (v := ?_) [44, 45, 50] rfl (by kernel_rfl) (by kernel_rfl) (by kernel_rfl) (by kernel_rfl) (by kernel_rfl) (fun _ _ _ h => h) (by first | exact hF | exact hF (by kernel_rfl)) (fun w hFw => ?_) (by rfl) ?_
                    rotate_left
                    · (try dsimp only at hFw)
                      first | (go_simp; done) | (go_simp; with_reducible rfl) | (go_split_ands; go_simp; done)
                    try simp only [Act.put, List.setIfInBounds_toArray, List.set_cons_zero, List.set_cons_succ]
                    refine wpAnyJ_take (i := 44) (oi := { dst := some 112, op := Go.Op.pick (Go.Operand.tmp 103) (Go.Operand.const (Go.Value.bool true)) (Go.Operand.tmp 111), type := 4, pos := "law.go:97", after := #[{ on := 35, ground := Go.Ground.data }, { on := 43, ground := Go.Ground.data }], guard := none }) (v := ?_) [45, 50] rfl (by kernel_rfl) (by kernel_rfl) (by kernel_rfl) (by kernel_rfl) (by kernel_rfl) (fun _ _ _ h => h) (by first | exact hF | exact hF (by kernel_rfl)) (fun w hFw => ?_) (by rfl) ?_
                    rotate_left
                    · (try dsimp only at hFw)
                      first | (go_simp; done) | (go_simp; with_reducible rfl) | (go_split_ands; go_simp; done)
                    try simp only [Act.put, List.setIfInBounds_toArray, List.set_cons_zero, List.set_cons_succ]
                    refine wpAnyJ_take (i := 45) (oi := { dst := some 113, op := Go.Op.move (Go.Operand.tmp 112), type := 4, pos := "law.go:97", after := #[{ on := 44, ground := Go.Ground.data }, { on := 42, ground := Go.Ground.chain }], guard := none }) (v := ?_) [50] rfl (by kernel_rfl) (by kernel_rfl) (by kernel_rfl) (by kernel_rfl) (by kernel_rfl) (fun _ _ _ h => h) (by first | exact hF | exact hF (by kernel_rfl)) (fun w hFw => ?_) (by rfl) ?_
                    rotate_left
                    · (try dsimp only at hFw)
                      first | (go_simp; done) | (go_simp; with_reducible rfl) | (go_split_ands; go_simp; done)
                    try simp only [Act.put, List.setIfInBounds_toArray, List.set_cons_zero, List.set_cons_succ]
                    refine wpAnyJ_take (i := 46) (oi := { dst := some 114, op := Go.Op.move (Go.Operand.tmp 5), type := 24, pos := "law.go:97", after := #[{ on := 45, ground := Go.Ground.guard }], guard := some (45, false) }) (v := ?_) [48, 49, 50] rfl (by kernel_rfl) (by kernel_rfl) (by kernel_rfl) (by kernel_rfl) (by kernel_rfl) (fun _ _ _ h => h) (by first | exact hF | exact hF (by kernel_rfl)) (fun w hFw => ?_) (by rfl) ?_
                    rotate_left
                    · (try dsimp only at hFw)
                      first | (go_simp; done) | (go_simp; with_reducible rfl) | (go_split_ands; go_simp; done)
                    try simp only [Act.put, List.setIfInBounds_toArray, List.set_cons_zero, List.set_cons_succ]
                    refine wpAnyJ_take (i := 47) (oi := { dst := some 115, op := Go.Op.move (Go.Operand.tmp 11), type := 3, pos := "law.go:97", after := #[{ on := 45, ground := Go.Ground.guard }], guard := some (45, false) }) (v := ?_) [48, 49, 50] rfl (by kernel_rfl) (by kernel_rfl) (by kernel_rfl) (by kernel_rfl) (by kernel_rfl) (fun _ _ _ h => h) (by first | exact hF | exact hF (by kernel_rfl)) (fun w hFw => ?_) (by rfl) ?_
                    rotate_left
                    · (try dsimp only at hFw)
                      first | (go_simp; done) | (go_simp; with_reducible rfl) | (go_split_ands; go_simp; done)
                    try simp only [Act.put, List.setIfInBounds_toArray, List.set_cons_zero, List.set_cons_succ]
                    refine wpAnyJ_ready (rs := [48]) (by kernel_rfl) (by simp) ?_
                    refine AllJ.cons (o := { dst := some 116, op := Go.Op.call { callee := Go.Callee.value (Go.Operand.func 13), args := #[Go.Operand.tmp 114, Go.Operand.tmp 115, Go.Operand.const (Go.Value.int Go.IntKind.i64 0)], argTypes := #[24, 3, 3] }, type := 25, pos := "law.go:97", after := #[{ on := 46, ground := Go.Ground.data }, { on := 47, ground := Go.Ground.data }, { on := 45, ground := Go.Ground.chain }, { on := 45, ground := Go.Ground.guard }], guard := some (45, false) }) rfl (fun Kr hKr => ?_) ?_
                    · go_simp; go_at_call 13; refine (hhas.out _ sL.own.tail.left).mono ?_; rintro e w4 ⟨rfl, hst3⟩
                      have sL := Step.mid1 sL hst3
                      refine hKr.out _ _ (fun hJ => ?_) (fun hF => ?_)
                      · first
                        | exact absurd hJ (by decide)
                        | (clear hJ; (try dsimp only); all_goals (exact cells2 sL.own.h0))
                      clear hKr
                      try simp only [Act.put, List.setIfInBounds_toArray, List.set_cons_zero, List.set_cons_succ]
                      refine wpAnyJ_take (i := 49) (oi := { dst := some 117, op := Go.Op.binOp Go.BinOp.neq 25 (Go.Operand.tmp 116) (Go.Operand.const (Go.Value.int Go.IntKind.i64 8)) 25, type := 4, pos := "law.go:97", after := #[{ on := 48, ground := Go.Ground.data }, { on := 45, ground := Go.Ground.guard }], guard := some (45, false) }) (v := ?_) [50] rfl (by kernel_rfl) (by kernel_rfl) (by kernel_rfl) (by kernel_rfl) (by kernel_rfl) (fun _ _ _ h => h) (by first | exact hF | exact hF (by kernel_rfl)) (fun w hFw => ?_) (by rfl) ?_
                      rotate_left
                      · (try dsimp only at hFw)
                        first | (go_simp; done) | (go_simp; with_reducible rfl) | (go_split_ands; go_simp; done)
                      try simp only [Act.put, List.setIfInBounds_toArray, List.set_cons_zero, List.set_cons_succ]
                      refine wpAnyJ_ready (rs := [50]) (by kernel_rfl) (by simp) ?_
                      refine AllJ.cons (o := { dst := some 118, op := Go.Op.pick (Go.Operand.tmp 113) (Go.Operand.const (Go.Value.bool true)) (Go.Operand.tmp 117), type := 4, pos := "law.go:97", after := #[{ on := 45, ground := Go.Ground.data }, { on := 49, ground := Go.Ground.data }], guard := none }) rfl (fun Kr hKr => ?_) ?_
                      · go_simp
                        refine hKr.out _ _ (fun hJ => ?_) (fun hF => ?_)
                        · first
                          | exact absurd hJ (by decide)
                          | (clear hJ; (try dsimp only); all_goals (exact cells2 sL.own.h0))
                        clear hKr
                        try simp only [Act.put, List.setIfInBounds_toArray, List.set_cons_zero, List.set_cons_succ]
                        refine wpAnyJ_done (by kernel_rfl) ?_ _
                        go_wp2_with fail
                        have sL := sL.tail
                        rw [← List.append_assoc] at sL
                        have sL := sL.forget
                        exact ⟨⟨k + 1, B', hkn, by go_num, by go_num, hinv'.out, hn'.out, hou.out, sL⟩, by simp [intOf]; omega⟩
                      exact AllJ.nil
                    exact AllJ.nil
                  exact AllJ.nil
                exact AllJ.nil
              exact AllJ.nil
            exact AllJ.nil
  case rest =>
    clear hs hnew hi0 hn0 ho0
    obtain ⟨B, hinv, hn, hre, rfl, hs⟩ := hcut
    obtain ⟨f1, f2, f3⟩ := end_out hinv hre
    have f4 := outs_end hinv hre
    have hl64 : B.ms.length ≤ 64 := by have := hinv.ok.len; have := hinv.ok.z64; omega
    have hch := Lib.hid (fun W hW => champion_any b g hh B W hW hl64)
    rw [show B.winner ((B.ms.length : Int) - 1) = B.champ from rfl] at hch
    have hoa := Lib.hid (fun s W hW => out_any b g hh B s W hW hinv.ok.outl hinv.ok.n64)
    have hco : B.isOut (B.champ : Int) = false := by
      rw [isOut_get hinv.ok f1 f2]
      have := f3 B.champ f1 f2
      cases ho : B.out.getD B.champ false
      · rfl
      · exact absurd rfl (this.1 ho)
    generalize B.champ = C at *
    rw [hn] at f2 f3 f4
    have hisg := Lib.hid (fun s (s1 : 1 ≤ s) (s2 : s ≤ n) => isOut_get (s := s) hinv.ok s1 (by omega))
    clear f3 hre
    have g1 : (1 : Int) ≤ (C : Int) := by omega
    have g2 : (C : Int) ≤ (n : Int) := by omega
    replace f4 := Lib.hid f4
    replace hn := Lib.hid hn
    replace hco := Lib.hid hco
    replace hs := Lib.hid hs
    go_upto_block 2 with fail
    go_cut [14, 15] (fun v14 _ wc => v14 = .int .i64 ((n : Int) - 1) ∧ Step w [] wc (brH b g hh B ++ R))
    case first =>
      go_wp2_with fail
      go_loopw [14, 15] (fun v14 v15 wr => EnRel2 n B (brH b g hh B ++ R) w v14 v15 wr) (fun _ v _ => n + 1 - (intOf v).toNat)
      case atStart => exact ⟨0, Nat.zero_le _, by go_num, rfl, hs.out⟩
      case round =>
        clear hs
        obtain ⟨s, hsn, rfl, rfl, hs⟩ := hrel
        have d1 : (0 : Int) ≤ (s : Int) := by omega
        have hol := outs_le B s
        have d3 : ((B.outs s : Nat) : Int) ≤ 64 := by omega
        have d4 : (0 : Int) ≤ ((B.outs s : Nat) : Int) := by omega
        by_cases hlt : s < n
        · have d2 : (s : Int) < (n : Int) := by omega
          have hos := outs_succ B s
          have hoo : Hid (∀ W, Own W (brH b g hh B) → Calls Try.prog 18 #[pt b, .int .i64 ((s : Int) + 1)] W fun e w' => e = .returned (.bool (B.out.getD (s + 1) false)) ∧ W = w') := fun W hW => by
            have := hoa.out ((s + 1 : Nat) : Int) W hW
            rw [hisg.out (s + 1) (by omega) (by omega)] at this
            exact this
          cases hx : B.out.getD (s + 1) false
          all_goals
            rw [hx] at hos hoo
            replace hos := Lib.hid hos
            clear hx
            go_wp2_with fail
            refine (hoo.out _ hs.own.left).mono ?_
            rintro e w' ⟨rfl, rfl⟩
            go_wp2_with fail
            exact ⟨⟨s + 1, by omega, by go_num, by have hq := hos.out; simp at hq; rw [hq]; first | done | rfl | go_num, hs⟩, by simp [intOf]; omega⟩
        · have hsn' : s = n := by omega
          have d2 : (n : Int) < (s : Int) + 1 := by omega
          have hfin : Hid (((B.outs s : Nat) : Int) = (n : Int) - 1) := by
            show _ = _
            have := f4.out; rw [hsn']; omega
          replace hsn' := Lib.hid hsn'
          go_wp2_with fail
          go_meet
          exact ⟨by rw [hfin.out], hs⟩
    case rest =>
      clear hs
      obtain ⟨rfl, hs⟩ := hcut
      go_wp2_with fail
      refine (hch.out _ hs.own.left).mono ?_
      rintro e w' ⟨rfl, rfl⟩
      have hoc := Lib.hid (fun W hW => hoa.out (C : Int) W hW)
      rw [hco.out] at hoc
      go_wp2_with fail
      refine (hoc.out _ hs.own.left).mono ?_
      rintro e w' ⟨rfl, rfl⟩
      go_wp2_with fail
      refine (known_any _).mono ?_
      rintro e w3 ⟨rfl, hs3⟩
      have hs4 := hs.call0 hs3
      go_wp2
      go_ret
      exact ⟨rfl, hs4.forget (A := [])⟩
end Go.Proofs.Ytdkjgkbddehaiaa
