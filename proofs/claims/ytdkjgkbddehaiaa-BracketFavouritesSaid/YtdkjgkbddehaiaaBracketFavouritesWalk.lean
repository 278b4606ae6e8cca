/- BracketFavourites. -/
import Derived.Test.YtdkjgkbddehaiaaBrU
import Derived.Deep.CutBlock
namespace Go.Proofs.Ytdkjgkbddehaiaa
open Go.RowKit
attribute [local go_sem ↓] Go.wp_at_zero Go.wp_at_succ

def ToldPost (b g h : Nat) (B B' : Br) (w : World) (e : Ending) (w' : World) : Prop := e = .returned (.int .i64 0) ∧ Step w (brH b g h B) w' (brH b g h B')
theorem report_told (b g h : Nat) (B : Br) (i k : Nat) (m : Mt) (w : World) (hw : Own w (brH b g h B)) (hok : B.Ok) (hm : B.ms[i]? = some m) (hk : k < 2) (hr : m.rdy = true) :
    Calls Try.prog 13 #[pt b, .int .i64 i, .int .i64 k] w (ToldPost b g h B (B.told i k m) w) := by
  have hr' := hr
  simp [Mt.rdy] at hr
  have := report_ok b g h B i k m w hw hok hm (by omega) hr.2.1 hr.2.2 hr.1
  rwa [rep_ok hm hk hr'] at this
theorem fav_go {n k : Nat} (h1 : 2 ≤ n) (h2 : n ≤ 64) (h : (favs n k).1.ready (favs n k).1.ms.length ≠ []) : k < 65 := by
  have := fav_outs h1 h2 k h
  have := outs_le (favs n k).1 n
  omega
def FvRel (n b g h : Nat) (R : Heaplet) (w : World) (v5 v6 : Value) (wr : World) : Prop :=
  ∃ k, k ≤ 65 ∧ v6 = .int .i64 (k : Nat) ∧ v5 = .int .i64 ((favs n k).2 : Nat) ∧ Step w [] wr (brH b g h (favs n k).1 ++ R)
def FvCut (b g h : Nat) (R : Heaplet) (w : World) (v5 : Value) (wc : World) : Prop := ∃ B : Br, B.Inv ∧ B.champ = 1 ∧ v5 = .int .i64 2 ∧ Step w [] wc (brH b g h B ++ R)
set_option maxHeartbeats 8000000 in
set_option maxRecDepth 100000 in
theorem bracketFavourites_walk (n : Int) (w : World) (_ : (Lit.int .i64 n).wf = true) :
    Calls Try.prog 5 #[.int .i64 n] w fun e w' => e = .returned (.bool true) ∧ Below w.heap.size w w' := by
  suffices hs : Calls Try.prog 5 #[.int .i64 n] w (LawPost w) from hs.mono fun e w' hp => ⟨hp.1, hp.2.nil_below⟩
  by_cases h1 : n < 2
  · go_enter Try.func5, Try.ntmps5
    go_wp2_with (go_at_call 9; refine (known_any _).mono ?_; rintro e w3 ⟨rfl, hs3⟩)
    go_ret
    exact ⟨rfl, hs3⟩
  by_cases h2 : 64 < n
  · go_enter Try.func5, Try.ntmps5
    go_wp2_with (go_at_call 9; refine (known_any _).mono ?_; rintro e w3 ⟨rfl, hs3⟩)
    go_ret
    exact ⟨rfl, hs3⟩
  obtain ⟨n, rfl⟩ := Int.eq_ofNat_of_zero_le (show 0 ≤ n by omega)
  have n1 : 2 ≤ n := by omega
  have n2 : n ≤ 64 := by omega
  have hnew : Hid (Calls Try.prog 10 #[.int .i64 n] w (NewYes n (favs n 0).1 w)) := new_yes n w n1 n2
  have b1 : (n : Int) ≤ 64 := by omega
  have b3 : (2 : Int) ≤ (n : Int) := by omega
  go_enter Try.func5, Try.ntmps5
  go_wp2_with fail
  refine hnew.out.mono ?_
  rintro e w1 ⟨b, g, h, R, rfl, hs⟩
  replace hs := Lib.hid hs
  go_upto_block 0 with fail
  go_cut [5, 6] (fun v5 _ wc => FvCut b g h R w v5 wc)
  case first =>
    go_wp2_with fail
    go_loopw [5, 6] (fun v5 v6 wr => FvRel n b g h R w v5 v6 wr) (fun _ v _ => 100 - (intOf v).toNat)
    case atStart => exact ⟨0, Nat.zero_le _, rfl, rfl, hs.out⟩
    case round =>
      clear hs
      obtain ⟨k, hk, rfl, rfl, hs⟩ := hrel
      have d1 : (0 : Int) ≤ (k : Int) := by omega
      have d2 : (k : Int) < 100 := by omega
      have hfi := fav_inv n1 n2 k
      have hfs : favs n (k + 1) = favStep (favs n k) := rfl
      have hfe := Lib.hid (fun h => fav_end n1 n2 hfi h)
      have hfg := Lib.hid (fun h => fav_go (k := k) n1 n2 h)
      unfold favStep at hfs
      generalize favs n k = X at *
      obtain ⟨B, last⟩ := X
      have hinv := hfi.inv
      simp only at hfs hfe hfg hs hinv
      replace hfi := Lib.hid hfi
      have hl64 : B.ms.length ≤ 64 := by have := hinv.ok.len; have := hinv.ok.z64; omega
      have hrd := Lib.hid (fun W hW => ready_any b g h B W hW hl64)
      unfold ReadyPost at hrd
      cases hre : B.ready B.ms.length with
      | nil =>
        rw [hre] at hrd hfe
        obtain ⟨f1, f2⟩ := hfe.out rfl
        replace f1 := Lib.hid f1
        clear hfs hfg hfe hre
        subst f2
        go_wp2_with fail
        refine (hrd.out _ hs.own.left).mono ?_
        rintro e w2 ⟨a, c, H, rfl, hr, hs2⟩
        have sL := (hs.call0 hs2).forget
        go_wp2_with fail
        go_meet
        exact ⟨B, hinv, f1.out, rfl, sL⟩
      | cons i l =>
        rw [hre] at hrd hfs
        have hk64 : k < 65 := hfg.out (by rw [hre]; simp)
        obtain ⟨m, hm, hrr⟩ := ready_mem.1 (by rw [hre]; exact List.mem_cons_self .. : i ∈ B.ready B.ms.length)
        have hil := (List.getElem?_eq_some_iff.1 hm).1
        have d3 : (i : Int) ≤ 64 := by omega
        have hle := hinv.ok.le m (List.mem_of_getElem? hm)
        have hn64 := hinv.ok.n64
        have hst := Lib.hid (fun W hW => seats_any b g h B i W hW hl64)
        rw [seats_at hm] at hst
        have hrp := Lib.hid (fun kk hkk W hW => report_told b g h B i kk m W hW hinv.ok hm hkk hrr)
        simp only [hm] at hfs
        obtain ⟨m0, m1, mw, mb⟩ := m
        simp only at hst hle hfs
        clear hfg hfe hre hm hrr hil
        have d4 : (m0 : Int) ≤ 64 := by omega
        have d5 : (m1 : Int) ≤ 64 := by omega
        have hlen : (i :: l).length = l.length + 1 := rfl
        rw [hlen] at hrd
        have d6 : (0 : Int) < ((l.length : Int) + 1) := by omega
        have d7 : (((l.length + 1 : Nat) : Int) == 0) = false := beq_eq_false_iff_ne.2 (by omega)
        replace hlen := Lib.hid hlen
        by_cases hlt : m1 < m0
        · rw [if_pos hlt] at hfs
          have d8 : (m1 : Int) < (m0 : Int) := by omega
          replace hfs := Lib.hid hfs
          have hrk : Hid (∀ W, Own W (brH b g h B) → Calls Try.prog 13 #[pt b, .int .i64 i, .int .i64 1] W (ToldPost b g h B (B.told i 1 ⟨m0, m1, mw, mb⟩) W)) := fun W hW => hrp.out 1 (by omega) W hW
          go_wp2_with fail
          refine (hrd.out _ hs.own.left).mono ?_
          rintro e w2 ⟨a, c, H, rfl, hr, hs2⟩
          have sL := hs.call0 hs2
          obtain ⟨gr, rfl, hc0, hnc⟩ := slRep_at hr sL.own.right (i := 0) (v := iv i) rfl
          simp only [Nat.add_zero] at hc0
          clear hs hs2
          go_wp2_with fail
          refine (hst.out _ sL.own.left.left).mono ?_
          rintro e w3 ⟨rfl, hs3⟩
          have sL := sL.call0 hs3
          rw [List.append_nil, List.append_assoc] at sL
          have sL := sL.alloc (.cells #[iv m0, iv m1] 32)
          obtain ⟨x0, x1⟩ := cells2 sL.own.h0
          obtain ⟨gr', e, hc1, -⟩ := slRep_at hr sL.own.tail.right.right (i := 0) (v := iv i) rfl
          cases e
          simp only [Nat.add_zero] at hc1
          clear hs3
          go_wp2_with fail
          refine (hrk.out _ sL.own.tail.left).mono ?_
          rintro e w4 ⟨rfl, hs4⟩
          have sL := (Step.mid1 sL hs4).tail
          rw [← List.append_assoc] at sL
          have sL := sL.forget
          clear hs4 x0 x1 hc0 hc1
          go_wp2_with fail
          exact ⟨⟨k + 1, by omega, by go_num, by rw [hfs.out], by rw [hfs.out]; exact sL⟩, by simp [intOf]; omega⟩
        · rw [if_neg hlt] at hfs
          have d8 : (m0 : Int) ≤ (m1 : Int) := by omega
          replace hfs := Lib.hid hfs
          have hrk : Hid (∀ W, Own W (brH b g h B) → Calls Try.prog 13 #[pt b, .int .i64 i, .int .i64 0] W (ToldPost b g h B (B.told i 0 ⟨m0, m1, mw, mb⟩) W)) := fun W hW => hrp.out 0 (by omega) W hW
          go_wp2_with fail
          refine (hrd.out _ hs.own.left).mono ?_
          rintro e w2 ⟨a, c, H, rfl, hr, hs2⟩
          have sL := hs.call0 hs2
          obtain ⟨gr, rfl, hc0, hnc⟩ := slRep_at hr sL.own.right (i := 0) (v := iv i) rfl
          simp only [Nat.add_zero] at hc0
          clear hs hs2
          go_wp2_with fail
          refine (hst.out _ sL.own.left.left).mono ?_
          rintro e w3 ⟨rfl, hs3⟩
          have sL := sL.call0 hs3
          rw [List.append_nil, List.append_assoc] at sL
          have sL := sL.alloc (.cells #[iv m0, iv m1] 32)
          obtain ⟨x0, x1⟩ := cells2 sL.own.h0
          obtain ⟨gr', e, hc1, -⟩ := slRep_at hr sL.own.tail.right.right (i := 0) (v := iv i) rfl
          cases e
          simp only [Nat.add_zero] at hc1
          clear hs3
          go_wp2_with fail
          refine (hrk.out _ sL.own.tail.left).mono ?_
          rintro e w4 ⟨rfl, hs4⟩
          have sL := (Step.mid1 sL hs4).tail
          rw [← List.append_assoc] at sL
          have sL := sL.forget
          clear hs4 x0 x1 hc0 hc1
          go_wp2_with fail
          exact ⟨⟨k + 1, by omega, by go_num, by rw [hfs.out], by rw [hfs.out]; exact sL⟩, by simp [intOf]; omega⟩
  case rest =>
    clear hs
    obtain ⟨B, hinv, hc, rfl, hs⟩ := hcut
    have hl64 : B.ms.length ≤ 64 := by have := hinv.ok.len; have := hinv.ok.z64; omega
    have hch := Lib.hid (fun W hW => champion_any b g h B W hW hl64)
    rw [show B.winner ((B.ms.length : Int) - 1) = 1 from hc] at hch
    clear hc
    go_wp2_with fail
    refine (hch.out _ hs.own.left).mono ?_
    rintro e w2 ⟨rfl, rfl⟩
    go_wp2_with fail
    refine (known_any _).mono ?_
    rintro e w3 ⟨rfl, hs3⟩
    have hs4 := hs.call0 hs3
    go_wp2
    go_ret
    exact ⟨rfl, hs4.forget (A := [])⟩
end Go.Proofs.Ytdkjgkbddehaiaa
