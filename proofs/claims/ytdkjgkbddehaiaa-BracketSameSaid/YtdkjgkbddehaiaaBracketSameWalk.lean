/- BracketSame. -/
import Derived.Test.YtdkjgkbddehaiaaBrW
import Derived.Test.YtdkjgkbddehaiaaArrEq
import Derived.Deep.CutBlock
namespace Go.Proofs.Ytdkjgkbddehaiaa
open Go.RowKit
attribute [local go_sem ↓] Go.wp_at_zero Go.wp_at_succ

def SaRel (n : Nat) (l : List Nat) (σ : Nat → Nat) (b g h : Nat) (G : Heaplet) (w : World) (v : Value) (wr : World) : Prop :=
  ∃ (k : Nat) (A : Br), k ≤ n ∧ v = .int .i64 (k : Nat) ∧ SaGood n l σ A ∧ A.outs n = k ∧ Step w [] wr (brH b g h A ++ G)
def SaCut (n : Nat) (l : List Nat) (σ : Nat → Nat) (b g h : Nat) (G : Heaplet) (w : World) (wc : World) : Prop :=
  ∃ A : Br, SaGood n l σ A ∧ A.ready A.ms.length = [] ∧ Step w [] wc (brH b g h A ++ G)
def SaRel3 (N : Nat) (H : Heaplet) (w : World) (v : Value) (wr : World) : Prop := ∃ k : Nat, k ≤ N ∧ v = .int .i64 (k : Nat) ∧ Step w [] wr H
theorem swap_own {A B T : Heaplet} : (A ++ (B ++ T)).Perm (B ++ (A ++ T)) := by
  rw [← List.append_assoc, ← List.append_assoc]; exact List.perm_append_comm.append_right _
theorem sa_laid {w w1 w2 : World} {e : Nat × Obj} {A B R R' : Heaplet} (h : Step w [] w2 (((e :: []) ++ (A ++ R)) ++ (B ++ R'))) : Step w [] w2 (A ++ (B ++ (e :: (R ++ R')))) := by
  refine h.perm (List.Perm.refl _) ?_
  have p1 : (([e] ++ (A ++ R)) ++ (B ++ R')).Perm (A ++ ([e] ++ R ++ (B ++ R'))) := by
    rw [List.append_assoc, List.append_assoc]; refine swap_own.trans ?_; simp
  refine p1.trans (List.Perm.append_left A ?_)
  have p2 : ([e] ++ R ++ (B ++ R')).Perm (B ++ ([e] ++ R ++ R')) := swap_own
  exact p2
set_option maxHeartbeats 8000000 in
set_option maxRecDepth 100000 in
theorem bracketSame_walk (n wins : Int) (a : Option Addr) (nl cl : Nat) (pl : List Int) (w : World) (_ : (Lit.int .i64 n).wf = true) (_ : (Lit.int .i64 wins).wf = true) (h : RdInts w a nl cl pl) (_ : pl.length * 8 ≤ 140737488351232) :
    Calls Try.prog 3 #[.int .i64 n, .int .i64 wins, .slice a nl cl] w fun e w' => e = .returned (.bool true) ∧ Below w.heap.size w w' := by
  suffices hs : Calls Try.prog 3 #[.int .i64 n, .int .i64 wins, .slice a nl cl] w (LawPost w) from hs.mono fun e w' hp => ⟨hp.1, hp.2.nil_below⟩
  have hnl := h.1
  subst hnl
  have hwf := h.2.2.2.1
  replace h := Lib.hid h
  by_cases h1 : n < 2
  · go_enter Try.func3, Try.ntmps3
    go_wp2_with (go_at_call 9; refine (known_any _).mono ?_; rintro e w3 ⟨rfl, hs3⟩)
    go_ret
    exact ⟨rfl, ((Step.refl (Own.nil w)).junk _).trans hs3⟩
  by_cases h2 : 64 < n
  · go_enter Try.func3, Try.ntmps3
    go_wp2_with (go_at_call 9; refine (known_any _).mono ?_; rintro e w3 ⟨rfl, hs3⟩)
    go_ret
    exact ⟨rfl, ((Step.refl (Own.nil w)).junk _).trans hs3⟩
  obtain ⟨n, rfl⟩ := Int.eq_ofNat_of_zero_le (show 0 ≤ n by omega)
  have n1 : 2 ≤ n := by omega
  have n2 : n ≤ 64 := by omega
  have hst := sa_start n1 n2 (sgm wins)
  have hnew : Hid (∀ W, Calls Try.prog 10 #[.int .i64 n] W (NewYes n (newB n) W)) := fun W => new_yes n W n1 n2
  generalize newB n = B0 at *
  generalize ordL n = lo at *
  have hsg := Lib.hid (sgm_lt wins)
  have hseat := Lib.hid (fun b m W hm hc => seat_any wins b m W hm hc)
  generalize sgm wins = σ at *
  replace hst := Lib.hid hst
  have b1 : (n : Int) ≤ 64 := by omega
  have b3 : (2 : Int) ≤ (n : Int) := by omega
  have b4 : (pl.length : Int) ≤ 140737488351232 := by omega
  obtain ⟨ow, how⟩ : ∃ o, o = Obj.cells #[.int .i64 wins] 3 (0, 0) := ⟨_, rfl⟩
  have s0 := (Step.refl (Own.nil w)).alloc (.cells #[.int .i64 wins] 3)
  rw [← how] at s0
  replace how := Lib.hid how
  replace hwf := Lib.hid hwf
  go_enter Try.func3, Try.ntmps3
  go_wp2_with fail
  rw [← how.out]
  refine (hnew.out _).mono ?_
  rintro e w1 ⟨ba, ga, ha, R, rfl, hs⟩
  replace hs := s0.call0 hs
  replace s0 := Lib.hid s0
  go_wp2_with fail
  refine (hnew.out _).mono ?_
  rintro e w2 ⟨bb, gb, hb, R', rfl, hs2⟩
  have hs := sa_laid (w1 := w) (hs.call0 hs2)
  clear s0 hs2
  generalize w.heap.size = bw at hs ⊢
  generalize R ++ R' = T at hs
  replace hs := Lib.hid hs
  go_upto_block 0 with fail
  go_cut [12, 13] (fun _ _ wc => SaCut n lo σ ba ga ha (brH bb gb hb B0 ++ ((bw, ow) :: T)) w wc)
  case first =>
    go_wp2_with fail
    go_loopw [12] (fun v wr => SaRel n lo σ ba ga ha (brH bb gb hb B0 ++ ((bw, ow) :: T)) w v wr) (fun v _ => 100 - (intOf v).toNat)
    case atStart => exact ⟨0, B0, Nat.zero_le _, rfl, hst.out.1, hst.out.2, hs.out⟩
    case round =>
      clear hs hst hnew
      obtain ⟨k, A, hk, rfl, hgd, ho, hs⟩ := hrel
      generalize brH bb gb hb B0 = BB at *
      have d1 : (0 : Int) ≤ (k : Int) := by omega
      have d2 : (k : Int) < 100 := by omega
      have hl64 : A.ms.length ≤ 64 := by have := hgd.inv.ok.len; have := hgd.inv.ok.z64; omega
      have hrd := Lib.hid (fun W hW => ready_any ba ga ha A W hW hl64)
      unfold ReadyPost at hrd
      replace ho := Lib.hid ho
      cases hre : A.ready A.ms.length with
      | nil =>
        rw [hre] at hrd
        replace hre := Lib.hid hre
        go_wp2_with fail
        refine (hrd.out _ hs.own.left).mono ?_
        rintro e w3 ⟨al, cl', H, rfl, hr, hs2⟩
        have sL := (hs.call0 hs2).forget
        clear hs hs2
        go_wp2_with fail
        go_meet
        exact ⟨A, hgd, hre.out, sL⟩
      | cons i l0 =>
        rw [hre] at hrd
        obtain ⟨m, hm, hrr⟩ := ready_mem.1 (by rw [hre]; exact List.mem_cons_self .. : i ∈ A.ready A.ms.length)
        have hil := (List.getElem?_eq_some_iff.1 hm).1
        have hi64 : i ≤ 64 := by omega
        have hstp := Lib.hid (sa_step hgd ho.out hm hrr (hsg.out i))
        have hrp : Hid (∀ W, Own W (brH ba ga ha A) → Calls Try.prog 13 #[pt ba, .int .i64 i, .int .i64 ((σ i : Nat) : Int)] W (TolPost ba ga ha A (A.told i (σ i) m) W)) := fun W hW => report_tol ba ga ha A i (σ i) m W hW hgd.inv.ok hm (hsg.out i) hrr
        have hlen : (i :: l0).length = l0.length + 1 := rfl
        rw [hlen] at hrd
        clear hre
        have d6 : (0 : Int) < ((l0.length : Int) + 1) := by omega
        replace hlen := Lib.hid hlen
        replace hm := Lib.hid hm
        replace hrr := Lib.hid hrr
        go_wp2_with fail
        refine (hrd.out _ hs.own.left).mono ?_
        rintro e w3 ⟨al, cl', H, rfl, hr, hs2⟩
        have sL := (hs.call0 hs2).forget
        clear hs hs2 hr
        go_wp2_with fail
        refine (hrd.out _ sL.own.left).mono ?_
        rintro e w4 ⟨al2, cl2, H2, rfl, hr, hs3⟩
        have sM := sL.call0 hs3
        clear sL hs3
        obtain ⟨gr, rfl, hc0, hnc⟩ := slRep_at hr sM.own.right (i := 0) (v := iv i) rfl
        simp only [Nat.add_zero] at hc0
        go_wp2_with fail
        refine (hseat.out bw i _ hi64 (cells1 (by rw [← how.out]; exact sM.own.left.right.right.h0))).mono ?_
        rintro e w5 ⟨rfl, rfl⟩
        clear hc0
        rw [List.append_assoc] at sM
        go_wp2_with fail
        refine (hrp.out _ sM.own.left).mono ?_
        rintro e w6 ⟨rfl, hst⟩
        have sM := sM.call hst
        rw [← List.append_assoc] at sM
        have sM := sM.forget
        go_wp2_with fail
        exact ⟨⟨k + 1, _, hstp.out.2.2, by go_num, hstp.out.1, hstp.out.2.1, sM⟩, by simp [intOf]; omega⟩
  case rest =>
    clear hs
    obtain ⟨A, hga, hra, hs⟩ := hcut
    replace hs := Lib.hid (hs.perm (List.Perm.refl _) swap_own)
    go_upto_block 2 with fail
    go_cut [14, 15, 16] (fun _ _ _ wc => SaCut n lo σ bb gb hb (brH ba ga ha A ++ ((bw, ow) :: T)) w wc)
    case first =>
      go_wp2_with fail
      go_loopw [14] (fun v wr => SaRel n lo σ bb gb hb (brH ba ga ha A ++ ((bw, ow) :: T)) w v wr) (fun v _ => 100 - (intOf v).toNat)
      case atStart => exact ⟨0, B0, Nat.zero_le _, rfl, hst.out.1, hst.out.2, hs.out⟩
      case round =>
        clear hs hst hnew
        obtain ⟨k, B, hk, rfl, hgd, ho, hs⟩ := hrel
        generalize brH ba ga ha A = BB at *
        have d1 : (0 : Int) ≤ (k : Int) := by omega
        have d2 : (k : Int) < 100 := by omega
        have hl64 : B.ms.length ≤ 64 := by have := hgd.inv.ok.len; have := hgd.inv.ok.z64; omega
        have hrd := Lib.hid (fun W hW => ready_any bb gb hb B W hW hl64)
        unfold ReadyPost at hrd
        replace ho := Lib.hid ho
        clear hga hra
        cases hre : B.ready B.ms.length with
        | nil =>
          rw [hre] at hrd
          replace hre := Lib.hid hre
          go_wp2_with fail
          refine (hrd.out _ hs.own.left).mono ?_
          rintro e w3 ⟨al, cl', H, rfl, hr, hs2⟩
          have sL := (hs.call0 hs2).forget
          clear hs hs2
          go_wp2_with fail
          go_meet
          exact ⟨B, hgd, hre.out, sL⟩
        | cons i0 l0 =>
          rw [hre] at hrd
          obtain ⟨L, hL⟩ : ∃ L, (i0 :: l0).length = L + 1 := ⟨l0.length, rfl⟩
          have hL64 : L + 1 ≤ 64 := by have := ready_len B B.ms.length; rw [hre, hL] at this; omega
          rw [hL] at hrd
          have hmem : ∀ j i, (i0 :: l0)[j]? = some i → ∃ m : Mt, B.ms[i]? = some m ∧ m.rdy = true := fun j i hj => ready_mem.1 (by rw [hre]; exact List.mem_of_getElem? hj)
          replace hre := Lib.hid hre
          generalize (i0 :: l0) = l at *
          have d3 : (0 : Int) < (L : Int) + 1 := by omega
          have d4 : (L : Int) ≤ 64 := by omega
          have hcase : ∃ J, J ≤ L ∧ ((∃ P : Int, pl[k]? = some P ∧ P % 1024 % (L + 1) = (J : Int) ∧ (k : Int) < (pl.length : Int)) ∨ ((pl.length : Int) ≤ (k : Int) ∧ J = L)) := by
            by_cases hkp : k < pl.length
            · have g1 := Int.emod_nonneg (pl[k] % 1024) (show (L : Int) + 1 ≠ 0 by omega)
              have g2 := Int.emod_lt_of_pos (pl[k] % 1024) (show (0 : Int) < (L : Int) + 1 by omega)
              refine ⟨(pl[k] % 1024 % (L + 1)).toNat, by omega, .inl ⟨pl[k], List.getElem?_eq_getElem hkp, by omega, by omega⟩⟩
            · exact ⟨L, Nat.le_refl _, .inr ⟨by omega, rfl⟩⟩
          obtain ⟨J, hJL, hcase⟩ := hcase
          obtain ⟨i, hi⟩ : ∃ i, l[J]? = some i := ⟨_, List.getElem?_eq_getElem (by omega)⟩
          obtain ⟨m, hm, hrr⟩ := hmem J i hi
          have hil := (List.getElem?_eq_some_iff.1 hm).1
          have hi64 : i ≤ 64 := by omega
          have hstp := Lib.hid (sa_step hgd ho.out hm hrr (hsg.out i))
          have hrp : Hid (∀ W, Own W (brH bb gb hb B) → Calls Try.prog 13 #[pt bb, .int .i64 i, .int .i64 ((σ i : Nat) : Int)] W (TolPost bb gb hb B (B.told i (σ i) m) W)) := fun W hW => report_tol bb gb hb B i (σ i) m W hW hgd.inv.ok hm (hsg.out i) hrr
          have d8 : (J : Int) ≤ (L : Int) := by omega
          have d9 : (0 : Int) ≤ (J : Int) := by omega
          have d10 : (J : Int) < (L : Int) + 1 := by omega
          clear hmem hre
          replace hL := Lib.hid hL
          replace hm := Lib.hid hm
          replace hrr := Lib.hid hrr
          replace hi := Lib.hid hi
          replace hcase := Lib.hid hcase
          go_wp2_with fail
          refine (hrd.out _ hs.own.left).mono ?_
          rintro e w3 ⟨al, cl', H, rfl, hr, hs2⟩
          have sL := (hs.call0 hs2).forget
          clear hs hs2 hr
          go_wp2_with fail
          refine (hrd.out _ sL.own.left).mono ?_
          rintro e w4 ⟨al2, cl2, H2, rfl, hr, hs3⟩
          have sM := sL.call0 hs3
          clear sL hs3
          obtain ⟨gr, rfl, hc0, hnc⟩ := slRep_at hr sM.own.right (i := J) (v := iv i) (by rw [List.getElem?_map, hi.out]; rfl)
          simp only [Nat.zero_add] at hc0
          have hcw : w4.cell? ⟨bw, 0, none⟩ = some (.int .i64 wins) := cells1 (by rw [← how.out]; exact sM.own.left.right.right.h0)
          rw [List.append_assoc] at sM
          rcases hcase.out with ⟨P, hP, hPJ, hkp⟩ | ⟨hkp, rfl⟩
          · obtain ⟨hkp', hPe⟩ := List.getElem?_eq_some_iff.1 hP
            obtain ⟨pb, po, rfl, hca, -⟩ := h.out.at sM hkp'
            rw [hPe] at hca
            have e1 := and_1023 P
            clear hP hPe
            obtain ⟨X, hX⟩ := Int.eq_ofNat_of_zero_le (show 0 ≤ P % 1024 by omega)
            rw [hX] at e1 hPJ
            have q1 : (X : Int) < 1024 := by omega
            have q2 : (0 : Int) ≤ (X : Int) := by omega
            clear hX
            go_wp2_with fail
            rw [hPJ]
            have sM := sM.drew
            refine wp_region_J 11 (fun w' => w'.cell? ⟨gr, J, none⟩ = some (iv i) ∧ w'.cell? ⟨bw, 0, none⟩ = some (.int .i64 wins)) (by kernel_rfl) ?_ (fun hF => ?_)
            · (try dsimp only)
              all_goals (exact ⟨hc0, hcw⟩)
            refine wpAnyJ_take (i := 0) (oi := { dst := some 101, op := Go.Op.move (Go.Operand.tmp 9), type := 24, pos := "law.go:133", after := #[], guard := none }) (v := ?_) [11] rfl (by kernel_rfl) (by kernel_rfl) (by kernel_rfl) (by kernel_rfl) (by kernel_rfl) (fun _ _ _ h => h) (by first | exact hF | exact hF (by kernel_rfl)) (fun w hFw => ?_) (by rfl) ?_
            rotate_left
            · (try dsimp only at hFw)
              first | (go_simp; done) | (go_simp; with_reducible rfl) | (go_split_ands; go_simp; done)
            try simp only [Act.put, List.setIfInBounds_toArray, List.set_cons_zero, List.set_cons_succ]
            refine wpAnyJ_take (i := 1) (oi := { dst := some 102, op := Go.Op.move (Go.Operand.tmp 15), type := 22, pos := "law.go:133", after := #[], guard := none }) (v := ?_) [3, 4, 11] rfl (by kernel_rfl) (by kernel_rfl) (by kernel_rfl) (by kernel_rfl) (by kernel_rfl) (fun _ _ _ h => h) (by first | exact hF | exact hF (by kernel_rfl)) (fun w hFw => ?_) (by rfl) ?_
            rotate_left
            · (try dsimp only at hFw)
              first | (go_simp; done) | (go_simp; with_reducible rfl) | (go_split_ands; go_simp; done)
            try simp only [Act.put, List.setIfInBounds_toArray, List.set_cons_zero, List.set_cons_succ]
            refine wpAnyJ_take (i := 2) (oi := { dst := some 103, op := Go.Op.move (Go.Operand.tmp 16), type := 3, pos := "law.go:133", after := #[], guard := none }) (v := ?_) [3, 4, 11] rfl (by kernel_rfl) (by kernel_rfl) (by kernel_rfl) (by kernel_rfl) (by kernel_rfl) (fun _ _ _ h => h) (by first | exact hF | exact hF (by kernel_rfl)) (fun w hFw => ?_) (by rfl) ?_
            rotate_left
            · (try dsimp only at hFw)
              first | (go_simp; done) | (go_simp; with_reducible rfl) | (go_split_ands; go_simp; done)
            try simp only [Act.put, List.setIfInBounds_toArray, List.set_cons_zero, List.set_cons_succ]
            refine wpAnyJ_take (i := 3) (oi := { dst := some 104, op := Go.Op.indexAddr 22 (Go.Operand.tmp 102) (Go.Operand.tmp 103), type := 0, pos := "law.go:133", after := #[{ on := 1, ground := Go.Ground.data }, { on := 2, ground := Go.Ground.data }], guard := none }) (v := ?_) [4, 11] rfl (by kernel_rfl) (by kernel_rfl) (by kernel_rfl) (by kernel_rfl) (by kernel_rfl) (fun _ _ _ h => h) (by first | exact hF | exact hF (by kernel_rfl)) (fun w hFw => ?_) (by rfl) ?_
            rotate_left
            · (try dsimp only at hFw)
              first | (go_simp; done) | (go_simp; with_reducible rfl) | (go_split_ands; go_simp; done)
            try simp only [Act.put, List.setIfInBounds_toArray, List.set_cons_zero, List.set_cons_succ]
            refine wpAnyJ_take (i := 4) (oi := { dst := some 105, op := Go.Op.load 3 (Go.Operand.tmp 104), type := 3, pos := "law.go:133", after := #[{ on := 3, ground := Go.Ground.data }], guard := none }) (v := ?_) [11] rfl (by kernel_rfl) (by kernel_rfl) (by kernel_rfl) (by kernel_rfl) (by kernel_rfl) (fun _ _ _ h => h) (by first | exact hF | exact hF (by kernel_rfl)) (fun w hFw => ?_) (by rfl) ?_
            rotate_left
            · (try dsimp only at hFw)
              first | (go_simp; done) | (go_simp; with_reducible rfl) | (go_split_ands; go_simp; done)
            try simp only [Act.put, List.setIfInBounds_toArray, List.set_cons_zero, List.set_cons_succ]
            refine wpAnyJ_take (i := 5) (oi := { dst := some 106, op := Go.Op.move (Go.Operand.tmp 11), type := 28, pos := "law.go:133", after := #[], guard := none }) (v := ?_) [10, 11] rfl (by kernel_rfl) (by kernel_rfl) (by kernel_rfl) (by kernel_rfl) (by kernel_rfl) (fun _ _ _ h => h) (by first | exact hF | exact hF (by kernel_rfl)) (fun w hFw => ?_) (by rfl) ?_
            rotate_left
            · (try dsimp only at hFw)
              first | (go_simp; done) | (go_simp; with_reducible rfl) | (go_split_ands; go_simp; done)
            try simp only [Act.put, List.setIfInBounds_toArray, List.set_cons_zero, List.set_cons_succ]
            refine wpAnyJ_take (i := 6) (oi := { dst := some 107, op := Go.Op.move (Go.Operand.tmp 15), type := 22, pos := "law.go:133", after := #[], guard := none }) (v := ?_) [8, 9, 10, 11] rfl (by kernel_rfl) (by kernel_rfl) (by kernel_rfl) (by kernel_rfl) (by kernel_rfl) (fun _ _ _ h => h) (by first | exact hF | exact hF (by kernel_rfl)) (fun w hFw => ?_) (by rfl) ?_
            rotate_left
            · (try dsimp only at hFw)
              first | (go_simp; done) | (go_simp; with_reducible rfl) | (go_split_ands; go_simp; done)
            try simp only [Act.put, List.setIfInBounds_toArray, List.set_cons_zero, List.set_cons_succ]
            refine wpAnyJ_take (i := 7) (oi := { dst := some 108, op := Go.Op.move (Go.Operand.tmp 16), type := 3, pos := "law.go:133", after := #[], guard := none }) (v := ?_) [8, 9, 10, 11] rfl (by kernel_rfl) (by kernel_rfl) (by kernel_rfl) (by kernel_rfl) (by kernel_rfl) (fun _ _ _ h => h) (by first | exact hF | exact hF (by kernel_rfl)) (fun w hFw => ?_) (by rfl) ?_
            rotate_left
            · (try dsimp only at hFw)
              first | (go_simp; done) | (go_simp; with_reducible rfl) | (go_split_ands; go_simp; done)
            try simp only [Act.put, List.setIfInBounds_toArray, List.set_cons_zero, List.set_cons_succ]
            refine wpAnyJ_take (i := 8) (oi := { dst := some 109, op := Go.Op.indexAddr 22 (Go.Operand.tmp 107) (Go.Operand.tmp 108), type := 0, pos := "law.go:133", after := #[{ on := 6, ground := Go.Ground.data }, { on := 7, ground := Go.Ground.data }], guard := none }) (v := ?_) [9, 10, 11] rfl (by kernel_rfl) (by kernel_rfl) (by kernel_rfl) (by kernel_rfl) (by kernel_rfl) (fun _ _ _ h => h) (by first | exact hF | exact hF (by kernel_rfl)) (fun w hFw => ?_) (by rfl) ?_
            rotate_left
            · (try dsimp only at hFw)
              first | (go_simp; done) | (go_simp; with_reducible rfl) | (go_split_ands; go_simp; done)
            try simp only [Act.put, List.setIfInBounds_toArray, List.set_cons_zero, List.set_cons_succ]
            refine wpAnyJ_take (i := 9) (oi := { dst := some 110, op := Go.Op.load 3 (Go.Operand.tmp 109), type := 3, pos := "law.go:133", after := #[{ on := 8, ground := Go.Ground.data }], guard := none }) (v := ?_) [10, 11] rfl (by kernel_rfl) (by kernel_rfl) (by kernel_rfl) (by kernel_rfl) (by kernel_rfl) (fun _ _ _ h => h) (by first | exact hF | exact hF (by kernel_rfl)) (fun w hFw => ?_) (by rfl) ?_
            rotate_left
            · (try dsimp only at hFw)
              first | (go_simp; done) | (go_simp; with_reducible rfl) | (go_split_ands; go_simp; done)
            try simp only [Act.put, List.setIfInBounds_toArray, List.set_cons_zero, List.set_cons_succ]
            refine wpAnyJ_ready (rs := [10]) (by kernel_rfl) (by simp) ?_
            refine AllJ.cons (o := { dst := some 111, op := Go.Op.call { callee := Go.Callee.value (Go.Operand.tmp 106), args := #[Go.Operand.tmp 110], argTypes := #[3] }, type := 3, pos := "law.go:133", after := #[{ on := 5, ground := Go.Ground.data }, { on := 9, ground := Go.Ground.data }], guard := none }) rfl (fun Kr hKr => ?_) ?_
            · go_simp; go_at_call 11; refine (hseat.out bw i _ hi64 hF.2).mono ?_; rintro e w5 ⟨rfl, rfl⟩
              refine hKr.out _ _ (fun hJ => ?_) (fun hF => ?_)
              · first
                | exact absurd hJ (by decide)
                | (clear hJ; (try dsimp only); all_goals (exact ⟨hc0, hcw⟩))
              clear hKr
              try simp only [Act.put, List.setIfInBounds_toArray, List.set_cons_zero, List.set_cons_succ]
              refine wpAnyJ_ready (rs := [11]) (by kernel_rfl) (by simp) ?_
              refine AllJ.cons (o := { dst := some 112, op := Go.Op.call { callee := Go.Callee.value (Go.Operand.func 13), args := #[Go.Operand.tmp 101, Go.Operand.tmp 105, Go.Operand.tmp 111], argTypes := #[24, 3, 3] }, type := 25, pos := "law.go:133", after := #[{ on := 0, ground := Go.Ground.data }, { on := 4, ground := Go.Ground.data }, { on := 10, ground := Go.Ground.data }, { on := 10, ground := Go.Ground.chain }], guard := none }) rfl (fun Kr hKr => ?_) ?_
              · go_simp; go_at_call 13; refine (hrp.out _ sM.own.left).mono ?_; rintro e w6 ⟨rfl, hst⟩
                have sM := sM.call hst
                refine hKr.out _ _ (fun hJ => ?_) (fun hF => ?_)
                · first
                  | exact absurd hJ (by decide)
                  | (clear hJ; (try dsimp only); all_goals (exact ⟨hc0, hcw⟩))
                clear hKr
                try simp only [Act.put, List.setIfInBounds_toArray, List.set_cons_zero, List.set_cons_succ]
                refine wpAnyJ_done (by kernel_rfl) ?_ _
                go_wp2_with fail
                rw [← List.append_assoc] at sM
                have sM := sM.forget
                exact ⟨⟨k + 1, _, hstp.out.2.2, by go_num, hstp.out.1, hstp.out.2.1, sM⟩, by simp [intOf]; omega⟩
              exact AllJ.nil
            exact AllJ.nil
          · go_wp2_with fail
            have sM := sM.drew
            refine wp_region_J 11 (fun w' => w'.cell? ⟨gr, J, none⟩ = some (iv i) ∧ w'.cell? ⟨bw, 0, none⟩ = some (.int .i64 wins)) (by kernel_rfl) ?_ (fun hF => ?_)
            · (try dsimp only)
              all_goals (exact ⟨hc0, hcw⟩)
            refine wpAnyJ_take (i := 0) (oi := { dst := some 101, op := Go.Op.move (Go.Operand.tmp 9), type := 24, pos := "law.go:133", after := #[], guard := none }) (v := ?_) [11] rfl (by kernel_rfl) (by kernel_rfl) (by kernel_rfl) (by kernel_rfl) (by kernel_rfl) (fun _ _ _ h => h) (by first | exact hF | exact hF (by kernel_rfl)) (fun w hFw => ?_) (by rfl) ?_
            rotate_left
            · (try dsimp only at hFw)
              first | (go_simp; done) | (go_simp; with_reducible rfl) | (go_split_ands; go_simp; done)
            try simp only [Act.put, List.setIfInBounds_toArray, List.set_cons_zero, List.set_cons_succ]
            refine wpAnyJ_take (i := 1) (oi := { dst := some 102, op := Go.Op.move (Go.Operand.tmp 15), type := 22, pos := "law.go:133", after := #[], guard := none }) (v := ?_) [3, 4, 11] rfl (by kernel_rfl) (by kernel_rfl) (by kernel_rfl) (by kernel_rfl) (by kernel_rfl) (fun _ _ _ h => h) (by first | exact hF | exact hF (by kernel_rfl)) (fun w hFw => ?_) (by rfl) ?_
            rotate_left
            · (try dsimp only at hFw)
              first | (go_simp; done) | (go_simp; with_reducible rfl) | (go_split_ands; go_simp; done)
            try simp only [Act.put, List.setIfInBounds_toArray, List.set_cons_zero, List.set_cons_succ]
            refine wpAnyJ_take (i := 2) (oi := { dst := some 103, op := Go.Op.move (Go.Operand.tmp 16), type := 3, pos := "law.go:133", after := #[], guard := none }) (v := ?_) [3, 4, 11] rfl (by kernel_rfl) (by kernel_rfl) (by kernel_rfl) (by kernel_rfl) (by kernel_rfl) (fun _ _ _ h => h) (by first | exact hF | exact hF (by kernel_rfl)) (fun w hFw => ?_) (by rfl) ?_
            rotate_left
            · (try dsimp only at hFw)
              first | (go_simp; done) | (go_simp; with_reducible rfl) | (go_split_ands; go_simp; done)
            try simp only [Act.put, List.setIfInBounds_toArray, List.set_cons_zero, List.set_cons_succ]
            refine wpAnyJ_take (i := 3) (oi := { dst := some 104, op := Go.Op.indexAddr 22 (Go.Operand.tmp 102) (Go.Operand.tmp 103), type := 0, pos := "law.go:133", after := #[{ on := 1, ground := Go.Ground.data }, { on := 2, ground := Go.Ground.data }], guard := none }) (v := ?_) [4, 11] rfl (by kernel_rfl) (by kernel_rfl) (by kernel_rfl) (by kernel_rfl) (by kernel_rfl) (fun _ _ _ h => h) (by first | exact hF | exact hF (by kernel_rfl)) (fun w hFw => ?_) (by rfl) ?_
            rotate_left
            · (try dsimp only at hFw)
              first | (go_simp; done) | (go_simp; with_reducible rfl) | (go_split_ands; go_simp; done)
            try simp only [Act.put, List.setIfInBounds_toArray, List.set_cons_zero, List.set_cons_succ]
            refine wpAnyJ_take (i := 4) (oi := { dst := some 105, op := Go.Op.load 3 (Go.Operand.tmp 104), type := 3, pos := "law.go:133", after := #[{ on := 3, ground := Go.Ground.data }], guard := none }) (v := ?_) [11] rfl (by kernel_rfl) (by kernel_rfl) (by kernel_rfl) (by kernel_rfl) (by kernel_rfl) (fun _ _ _ h => h) (by first | exact hF | exact hF (by kernel_rfl)) (fun w hFw => ?_) (by rfl) ?_
            rotate_left
            · (try dsimp only at hFw)
              first | (go_simp; done) | (go_simp; with_reducible rfl) | (go_split_ands; go_simp; done)
            try simp only [Act.put, List.setIfInBounds_toArray, List.set_cons_zero, List.set_cons_succ]
            refine wpAnyJ_take (i := 5) (oi := { dst := some 106, op := Go.Op.move (Go.Operand.tmp 11), type := 28, pos := "law.go:133", after := #[], guard := none }) (v := ?_) [10, 11] rfl (by kernel_rfl) (by kernel_rfl) (by kernel_rfl) (by kernel_rfl) (by kernel_rfl) (fun _ _ _ h => h) (by first | exact hF | exact hF (by kernel_rfl)) (fun w hFw => ?_) (by rfl) ?_
            rotate_left
            · (try dsimp only at hFw)
              first | (go_simp; done) | (go_simp; with_reducible rfl) | (go_split_ands; go_simp; done)
            try simp only [Act.put, List.setIfInBounds_toArray, List.set_cons_zero, List.set_cons_succ]
            refine wpAnyJ_take (i := 6) (oi := { dst := some 107, op := Go.Op.move (Go.Operand.tmp 15), type := 22, pos := "law.go:133", after := #[], guard := none }) (v := ?_) [8, 9, 10, 11] rfl (by kernel_rfl) (by kernel_rfl) (by kernel_rfl) (by kernel_rfl) (by kernel_rfl) (fun _ _ _ h => h) (by first | exact hF | exact hF (by kernel_rfl)) (fun w hFw => ?_) (by rfl) ?_
            rotate_left
            · (try dsimp only at hFw)
              first | (go_simp; done) | (go_simp; with_reducible rfl) | (go_split_ands; go_simp; done)
            try simp only [Act.put, List.setIfInBounds_toArray, List.set_cons_zero, List.set_cons_succ]
            refine wpAnyJ_take (i := 7) (oi := { dst := some 108, op := Go.Op.move (Go.Operand.tmp 16), type := 3, pos := "law.go:133", after := #[], guard := none }) (v := ?_) [8, 9, 10, 11] rfl (by kernel_rfl) (by kernel_rfl) (by kernel_rfl) (by kernel_rfl) (by kernel_rfl) (fun _ _ _ h => h) (by first | exact hF | exact hF (by kernel_rfl)) (fun w hFw => ?_) (by rfl) ?_
            rotate_left
            · (try dsimp only at hFw)
              first | (go_simp; done) | (go_simp; with_reducible rfl) | (go_split_ands; go_simp; done)
            try simp only [Act.put, List.setIfInBounds_toArray, List.set_cons_zero, List.set_cons_succ]
            refine wpAnyJ_take (i := 8) (oi := { dst := some 109, op := Go.Op.indexAddr 22 (Go.Operand.tmp 107) (Go.Operand.tmp 108), type := 0, pos := "law.go:133", after := #[{ on := 6, ground := Go.Ground.data }, { on := 7, ground := Go.Ground.data }], guard := none }) (v := ?_) [9, 10, 11] rfl (by kernel_rfl) (by kernel_rfl) (by kernel_rfl) (by kernel_rfl) (by kernel_rfl) (fun _ _ _ h => h) (by first | exact hF | exact hF (by kernel_rfl)) (fun w hFw => ?_) (by rfl) ?_
            rotate_left
            · (try dsimp only at hFw)
              first | (go_simp; done) | (go_simp; with_reducible rfl) | (go_split_ands; go_simp; done)
            try simp only [Act.put, List.setIfInBounds_toArray, List.set_cons_zero, List.set_cons_succ]
            refine wpAnyJ_take (i := 9) (oi := { dst := some 110, op := Go.Op.load 3 (Go.Operand.tmp 109), type := 3, pos := "law.go:133", after := #[{ on := 8, ground := Go.Ground.data }], guard := none }) (v := ?_) [10, 11] rfl (by kernel_rfl) (by kernel_rfl) (by kernel_rfl) (by kernel_rfl) (by kernel_rfl) (fun _ _ _ h => h) (by first | exact hF | exact hF (by kernel_rfl)) (fun w hFw => ?_) (by rfl) ?_
            rotate_left
            · (try dsimp only at hFw)
              first | (go_simp; done) | (go_simp; with_reducible rfl) | (go_split_ands; go_simp; done)
            try simp only [Act.put, List.setIfInBounds_toArray, List.set_cons_zero, List.set_cons_succ]
            refine wpAnyJ_ready (rs := [10]) (by kernel_rfl) (by simp) ?_
            refine AllJ.cons (o := { dst := some 111, op := Go.Op.call { callee := Go.Callee.value (Go.Operand.tmp 106), args := #[Go.Operand.tmp 110], argTypes := #[3] }, type := 3, pos := "law.go:133", after := #[{ on := 5, ground := Go.Ground.data }, { on := 9, ground := Go.Ground.data }], guard := none }) rfl (fun Kr hKr => ?_) ?_
            · go_simp; go_at_call 11; refine (hseat.out bw i _ hi64 hF.2).mono ?_; rintro e w5 ⟨rfl, rfl⟩
              refine hKr.out _ _ (fun hJ => ?_) (fun hF => ?_)
              · first
                | exact absurd hJ (by decide)
                | (clear hJ; (try dsimp only); all_goals (exact ⟨hc0, hcw⟩))
              clear hKr
              try simp only [Act.put, List.setIfInBounds_toArray, List.set_cons_zero, List.set_cons_succ]
              refine wpAnyJ_ready (rs := [11]) (by kernel_rfl) (by simp) ?_
              refine AllJ.cons (o := { dst := some 112, op := Go.Op.call { callee := Go.Callee.value (Go.Operand.func 13), args := #[Go.Operand.tmp 101, Go.Operand.tmp 105, Go.Operand.tmp 111], argTypes := #[24, 3, 3] }, type := 25, pos := "law.go:133", after := #[{ on := 0, ground := Go.Ground.data }, { on := 4, ground := Go.Ground.data }, { on := 10, ground := Go.Ground.data }, { on := 10, ground := Go.Ground.chain }], guard := none }) rfl (fun Kr hKr => ?_) ?_
              · go_simp; go_at_call 13; refine (hrp.out _ sM.own.left).mono ?_; rintro e w6 ⟨rfl, hst⟩
                have sM := sM.call hst
                refine hKr.out _ _ (fun hJ => ?_) (fun hF => ?_)
                · first
                  | exact absurd hJ (by decide)
                  | (clear hJ; (try dsimp only); all_goals (exact ⟨hc0, hcw⟩))
                clear hKr
                try simp only [Act.put, List.setIfInBounds_toArray, List.set_cons_zero, List.set_cons_succ]
                refine wpAnyJ_done (by kernel_rfl) ?_ _
                go_wp2_with fail
                rw [← List.append_assoc] at sM
                have sM := sM.forget
                exact ⟨⟨k + 1, _, hstp.out.2.2, by go_num, hstp.out.1, hstp.out.2.1, sM⟩, by simp [intOf]; omega⟩
              exact AllJ.nil
            exact AllJ.nil
    case rest =>
      clear hs hst hnew
      obtain ⟨B, hgb, hrb, hs⟩ := hcut
      have hsame := Lib.hid (fun j x y => sa_same (j := j) (a := x) (b := y) hga hgb hra hrb)
      have hla := hga.inv.ok.len
      have hlb := hgb.inv.ok.len
      rw [hga.z] at hla
      rw [hgb.z] at hlb
      have hl64 : A.ms.length ≤ 64 := by have := hga.inv.ok.len; have := hga.inv.ok.z64; omega
      have hl64' : B.ms.length ≤ 64 := by omega
      obtain ⟨N, hN⟩ : ∃ N, A.ms.length = N + 1 := ⟨A.ms.length - 1, by have := hga.inv.ok.len; have := hga.inv.ok.half; omega⟩
      have hNb : B.ms.length = N + 1 := by omega
      have hma := Lib.hid (fun W hW => matches_any ba ga ha A W hW)
      have hca := Lib.hid (fun W hW => champion_any ba ga ha A W hW hl64)
      have hcb := Lib.hid (fun W hW => champion_any bb gb hb B W hW hl64')
      have hsa := Lib.hid (fun i W hW => seats_any ba ga ha A i W hW hl64)
      have hsb := Lib.hid (fun i W hW => seats_any bb gb hb B i W hW hl64')
      have hwa := Lib.hid (fun i W hW => winner_any ba ga ha A i W hW hl64)
      have hwb := Lib.hid (fun i W hW => winner_any bb gb hb B i W hW hl64')
      rw [hN] at hma hca
      rw [hNb] at hcb
      clear hla hlb hgb hga hrb hra
      replace hs := Lib.hid hs
      have b5 : (N : Int) ≤ 64 := by omega
      go_wp2_with fail
      go_loopw [17] (fun v wr => SaRel3 (N + 1) (brH bb gb hb B ++ (brH ba ga ha A ++ ((bw, ow) :: T))) w v wr) (fun v _ => N + 1 - (intOf v).toNat)
      case atStart => exact ⟨0, Nat.zero_le _, rfl, hs.out⟩
      case round =>
        clear hs
        obtain ⟨k, hk, rfl, hs⟩ := hrel
        have d1 : (0 : Int) ≤ (k : Int) := by omega
        by_cases hlt : k < N + 1
        · have d2 : (k : Int) < (N : Int) + 1 := by omega
          obtain ⟨x, hx⟩ : ∃ x, A.ms[k]? = some x := ⟨_, List.getElem?_eq_getElem (by omega)⟩
          obtain ⟨y, hy⟩ : ∃ y, B.ms[k]? = some y := ⟨_, List.getElem?_eq_getElem (by omega)⟩
          obtain ⟨e0, e1, e2, e3⟩ := hsame.out k x y hx hy
          have hsa1 := Lib.hid (fun W hW => hsa.out k W hW)
          have hsb1 := Lib.hid (fun W hW => hsb.out k W hW)
          have hwa1 := Lib.hid (fun W hW => hwa.out k W hW)
          have hwb1 := Lib.hid (fun W hW => hwb.out k W hW)
          rw [seats_at hx] at hsa1
          rw [seats_at hy, ← e0, ← e1] at hsb1
          rw [winner_at hx] at hwa1
          rw [winner_at hy, ← e2] at hwb1
          obtain ⟨x0, x1, xw, xb⟩ := x
          simp only at hsa1 hsb1 hwa1 hwb1 e3
          clear e0 e1 e2 hx hy hsa hsb hwa hwb hsame
          have q1 : ((xw : Int) == 0) = false := beq_eq_false_iff_ne.2 (by omega)
          have q2 : ((xw : Int) != (xw : Int)) = false := by simp
          have heq := fun W => run_eq2 W (x0 : Int) (x1 : Int) (x0 : Int) (x1 : Int)
          simp only [beq_self_eq_true, Bool.and_self] at heq
          clear e3
          replace hN := Lib.hid hN
          replace hNb := Lib.hid hNb
          go_wp2_with fail
          refine (hma.out _ hs.own.right.left).mono ?_
          rintro e w3 ⟨rfl, rfl⟩
          go_wp2_with fail
          refine (hsa1.out _ hs.own.right.left).mono ?_
          rintro e w4 ⟨rfl, hs2⟩
          have sL := hs.call0 hs2
          rw [List.append_nil] at sL
          have sL := sL.alloc (.cells #[iv x0, iv x1] 32)
          clear hs hs2
          go_wp2_with fail
          refine (hsb1.out _ sL.own.tail.left).mono ?_
          rintro e w5 ⟨rfl, hs3⟩
          have sM := sL.call0 hs3
          rw [List.append_nil] at sM
          have sM := sM.alloc (.cells #[iv x0, iv x1] 32)
          obtain ⟨y0, y1⟩ := cells2 sM.own.h0
          obtain ⟨z0, z1⟩ := cells2 sM.own.h1
          clear sL hs3
          go_wp2_with fail
          refine (hwa1.out _ sM.own.tail.tail.right.left).mono ?_
          rintro e w6 ⟨rfl, rfl⟩
          go_wp2_with fail
          refine (hwb1.out _ sM.own.tail.tail.left).mono ?_
          rintro e w6 ⟨rfl, rfl⟩
          go_wp2_with fail
          refine (hwa1.out _ sM.own.tail.tail.right.left).mono ?_
          rintro e w6 ⟨rfl, rfl⟩
          go_wp2_with fail
          exact ⟨⟨k + 1, by omega, by go_num, sM.tail.tail⟩, by simp [intOf]; omega⟩
        · have d2 : (N : Int) + 1 ≤ (k : Int) := by omega
          obtain ⟨x, hx⟩ : ∃ x, A.ms[N]? = some x := ⟨_, List.getElem?_eq_getElem (by omega)⟩
          obtain ⟨y, hy⟩ : ∃ y, B.ms[N]? = some y := ⟨_, List.getElem?_eq_getElem (by omega)⟩
          obtain ⟨e0, e1, e2, e3⟩ := hsame.out N x y hx hy
          have en : (((N + 1 : Nat) : Int) - 1) = (N : Int) := by omega
          rw [en, winner_at hx] at hca
          rw [en, winner_at hy, ← e2] at hcb
          generalize x.w = X at *
          clear e0 e1 e2 hx hy en
          have q1 : ((X : Int) == (X : Int)) = true := by simp
          have q2 : ((X : Int) != 0) = true := by rw [bne_iff_ne]; omega
          replace hN := Lib.hid hN
          replace hNb := Lib.hid hNb
          go_wp2_with fail
          refine (hma.out _ hs.own.right.left).mono ?_
          rintro e w3 ⟨rfl, rfl⟩
          go_wp2_with fail
          refine (hca.out _ hs.own.right.left).mono ?_
          rintro e w3 ⟨rfl, rfl⟩
          go_wp2_with fail
          refine (hcb.out _ hs.own.left).mono ?_
          rintro e w3 ⟨rfl, rfl⟩
          go_wp2_with fail
          refine (hca.out _ hs.own.right.left).mono ?_
          rintro e w3 ⟨rfl, rfl⟩
          go_wp2_with fail
          refine (known_any _).mono ?_
          rintro e w3 ⟨rfl, hs3⟩
          have hs4 := hs.call0 hs3
          go_wp2
          go_ret
          exact ⟨rfl, hs4.forget (A := [])⟩
end Go.Proofs.Ytdkjgkbddehaiaa
