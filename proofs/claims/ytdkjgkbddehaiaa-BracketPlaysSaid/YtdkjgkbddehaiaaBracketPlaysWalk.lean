/- BracketPlays. -/
import Derived.Test.YtdkjgkbddehaiaaBrQ
import Derived.Test.YtdkjgkbddehaiaaRecs
import Derived.Deep.CutBlock
import Derived.ChangeSame
namespace Go.Proofs.Ytdkjgkbddehaiaa
open Go.RowKit
attribute [local go_sem ↓] Go.wp_at_zero Go.wp_at_succ

theorem report_any (b g h : Nat) (B : Br) (i k : Int) (w : World) (hw : Own w (brH b g h B)) (hok : B.Ok) :
    Calls Try.prog 13 #[pt b, .int .i64 i, .int .i64 k] w (RepPost b g h B (B.report i k) w) := by
  cases hi : B.has i
  · exact report_no b g h B i k w hw hi
  · obtain ⟨j, m, rfl, hj, hm⟩ := has_of hi
    by_cases hk : k ≠ 0 ∧ k ≠ 1
    · exact report_arg b g h B j k m w hw hm hk
    · have hk' : k = 0 ∨ k = 1 := by omega
      by_cases hs : m.s0 = 0 ∨ m.s1 = 0
      · exact report_state b g h B j k m w hw hm hk' hs
      · by_cases hww : m.w = 0
        · obtain ⟨q, rfl⟩ : ∃ q : Nat, k = q := ⟨k.toNat, by omega⟩
          exact report_ok b g h B j q m w hw hok hm (by omega) (by omega) (by omega) hww
        · exact report_has b g h B j k m w hw hm hk' (by omega) (by omega) hww
theorem RfOwn.move {w w' : World} {b n : Nat} {l : List Nat} {W : List Int} {H : Heaplet} (h : RfOwn w b n l W H) (o : Own w' H) : RfOwn w' b n l W H := by
  obtain ⟨a1, c1, H1, a2, c2, H2, e, r, _⟩ := h
  exact ⟨a1, c1, H1, a2, c2, H2, e, r, o⟩
theorem rfok_report {B : Br} {l : List Nat} {W : List Int} (h : RfOk B l W) (i k : Int) : RfOk (B.report i k).2 l (wonTo B W i k) ∧ (B.report i k).2.n = B.n := by
  obtain ⟨t1, t2, t3, t4⟩ := tie_report h.tie h.inv i k
  refine ⟨⟨t2, t1, by rw [t4]; exact h.z, ?_⟩, t3⟩
  rcases rep_cases h.inv i k with ⟨_, e2⟩ | ⟨j, q, m, rfl, rfl, hq, hm, hr, e⟩
  · rw [e2]; exact h.first
  · rw [e]; exact told_first h.inv h.first hm
def toldCells (x : Int × Int) : List Value := [ii x.1, ii x.2]
def PlRel (n L : Nat) (lo : List Nat) (b g h r : Nat) (R : Heaplet) (w : World) (v : Value) (wr : World) : Prop :=
  ∃ (k : Nat) (B : Br) (W : List Int) (H : Heaplet), k ≤ 150 ∧ k ≤ L ∧ v = .int .i64 (k : Nat) ∧ RfOk B lo W ∧ B.n = n ∧ RfOwn wr r B.n lo W H ∧ Step w [] wr (brH b g h B ++ (H ++ R))
set_option maxHeartbeats 8000000 in
set_option maxRecDepth 100000 in
theorem bracketPlays_walk (n : Int) (a : Option Addr) (nl cl : Nat) (l : List (Int × Int)) (w : World) (_ : (Lit.int .i64 n).wf = true) (h : RdRecs w a nl cl 2 toldCells l) (hll : l.length * 16 ≤ 140737488351232) :
    Calls Try.prog 6 #[.int .i64 n, .slice a nl cl] w fun e w' => e = .returned (.bool true) ∧ Below w.heap.size w w' := by
  suffices hs : Calls Try.prog 6 #[.int .i64 n, .slice a nl cl] w (LawPost w) from hs.mono fun e w' hp => ⟨hp.1, hp.2.nil_below⟩
  have hnl := h.1
  subst hnl
  replace h := Lib.hid h
  cases hmn : many n
  · have g1 := Lib.hid (fun W => new_no n W hmn)
    have g2 := Lib.hid (fun W => rnew_no n W hmn)
    replace hmn := Lib.hid hmn
    go_enter Try.func6, Try.ntmps6
    go_wp2_with fail
    refine (g1.out _).mono ?_
    rintro e w1 ⟨rfl, rfl⟩
    go_wp2_with fail
    refine (g2.out _).mono ?_
    rintro e w1 ⟨rfl, rfl⟩
    go_wp2_with fail
    refine (known_any _).mono ?_
    rintro e w3 ⟨rfl, hs3⟩
    go_wp2_with fail
    go_ret
    exact ⟨rfl, hs3⟩
  · have hn12 : 2 ≤ n ∧ n ≤ 64 := by simpa [many] using hmn
    obtain ⟨n, rfl⟩ := Int.eq_ofNat_of_zero_le (show 0 ≤ n by omega)
    have n1 : 2 ≤ n := by omega
    have n2 : n ≤ 64 := by omega
    have hz0 := newB_nz (n := n)
    have hok0 : RfOk (newB n) (ordL n) (List.replicate ((ordL n).length - 1) (-1)) := ⟨newB_inv n1 n2, tie_start n1 n2, hz0.2.symm, newB_first n1 n2⟩
    have hnew : Hid (∀ W, Calls Try.prog 10 #[.int .i64 n] W (NewYes n (newB n) W)) := fun W => new_yes n W n1 n2
    have hrn := Lib.hid (fun W => rnew_yes n W n1 n2)
    unfold RNewPost at hrn
    generalize (List.replicate ((ordL n).length - 1) (-1) : List Int) = W0 at *
    have hn0 := hz0.1
    clear hz0 hmn hn12
    generalize newB n = B0 at *
    generalize ordL n = lo at *
    replace hn0 := Lib.hid hn0
    replace hok0 := Lib.hid hok0
    have b1 : (n : Int) ≤ 64 := by omega
    have b4 : (l.length : Int) ≤ 140737488351232 := by omega
    go_enter Try.func6, Try.ntmps6
    go_wp2_with fail
    refine (hnew.out _).mono ?_
    rintro e w1 ⟨b, g, hh, R, rfl, hs⟩
    go_wp2_with fail
    refine (hrn.out _).mono ?_
    rintro e w2 ⟨r, H, rfl, hrf, hs2⟩
    have hs := hs.call0 hs2
    rw [List.append_assoc] at hs
    have hs : Step w [] w2 (brH b g hh B0 ++ (H ++ R)) := hs.perm (List.Perm.refl _) (List.Perm.append_left _ List.perm_append_comm)
    clear hs2
    replace hs := Lib.hid hs
    replace hrf := Lib.hid hrf
    go_upto_block 0 with fail
    go_cut [9] (fun v wc => PlRel n l.length lo b g hh r R w v wc)
    case first =>
      go_wp2_with fail
      go_loopw [9] (fun v wr => PlRel n l.length lo b g hh r R w v wr) (fun v _ => 150 - (intOf v).toNat)
      case atStart => exact ⟨0, B0, W0, H, by omega, by omega, rfl, hok0.out, hn0.out, by rw [hn0.out]; exact hrf.out, hs.out⟩
      case round =>
        clear hs hrf hok0 hn0 hrn hnew
        obtain ⟨k, B, W, H, hk, hkl, rfl, hok, hn, hrf, hs⟩ := hrel
        have d1 : (0 : Int) ≤ (k : Int) := by omega
        by_cases hlt : k < l.length
        · have d2 : (k : Int) < (l.length : Int) := by omega
          by_cases h150 : k < 150
          · have d3 : (k : Int) < 150 := by omega
            obtain ⟨x, hx⟩ : ∃ x, l[k]? = some x := ⟨_, List.getElem?_eq_getElem hlt⟩
            obtain ⟨ab, ao, rfl, hc⟩ := h.out.at' hx
            have hc0 := hs.keepCell (hc 0 _ rfl)
            have hc1 := hs.keepCell (hc 1 _ rfl)
            simp only [Nat.add_zero] at hc0
            obtain ⟨xm, xs⟩ := x
            simp only at hc0 hc1
            have hrp := Lib.hid (fun w hw => report_any b g hh B xm xs w hw hok.inv.ok)
            have hrr := Lib.hid (fun H w hw => rreport_any B lo W r xm xs H w hok hw)
            obtain ⟨hok', t3⟩ := rfok_report hok xm xs
            unfold RepPost at hrp
            unfold RRepPost at hrr
            generalize B.report xm xs = BB at *
            generalize wonTo B W xm xs = WW at *
            obtain ⟨code, B'⟩ := BB
            simp only at hrp hrr hok' t3
            have q1 : ((code : Int) != (code : Int)) = false := by simp
            replace hn := Lib.hid hn
            replace t3 := Lib.hid t3
            clear hx
            have h7 : ((k : Int) % 7 == 0) = true ∨ ((k : Int) % 7 == 0) = false := by cases ((k : Int) % 7 == 0) <;> simp
            rcases h7 with h7 | h7
            ·
              go_wp2_with fail
              have sL := hs.drew
              refine wp_region_J 24 (fun w' => w'.cell? ⟨ab, ao + k * 2, none⟩ = some (ii xm) ∧ w'.cell? ⟨ab, ao + k * 2 + 1, none⟩ = some (ii xs)) (by kernel_rfl) ?_ (fun hF => ?_)
              · (try dsimp only)
                all_goals (exact ⟨by have := sL.keepCell (hc 0 _ rfl); simpa using this, sL.keepCell (hc 1 _ rfl)⟩)
              refine wpAnyJ_take (i := 0) (oi := { dst := some 43, op := Go.Op.move (Go.Operand.tmp 5), type := 24, pos := "law.go:66", after := #[], guard := none }) (v := ?_) [11, 24] rfl (by kernel_rfl) (by kernel_rfl) (by kernel_rfl) (by kernel_rfl) (by kernel_rfl) (fun _ _ _ h => h) (by first | exact hF | exact hF (by kernel_rfl)) (fun w hFw => ?_) (by rfl) ?_
              rotate_left
              · (try dsimp only at hFw)
                first | (go_simp; done) | (go_simp; with_reducible rfl) | (go_split_ands; go_simp; done)
              try simp only [Act.put, List.setIfInBounds_toArray, List.set_cons_zero, List.set_cons_succ]
              refine wpAnyJ_take (i := 1) (oi := { dst := some 44, op := Go.Op.move (Go.Operand.tmp 1), type := 37, pos := "law.go:66", after := #[], guard := none }) (v := ?_) [3, 4, 5, 11, 24] rfl (by kernel_rfl) (by kernel_rfl) (by kernel_rfl) (by kernel_rfl) (by kernel_rfl) (fun _ _ _ h => h) (by first | exact hF | exact hF (by kernel_rfl)) (fun w hFw => ?_) (by rfl) ?_
              rotate_left
              · (try dsimp only at hFw)
                first | (go_simp; done) | (go_simp; with_reducible rfl) | (go_split_ands; go_simp; done)
              try simp only [Act.put, List.setIfInBounds_toArray, List.set_cons_zero, List.set_cons_succ]
              refine wpAnyJ_take (i := 2) (oi := { dst := some 45, op := Go.Op.move (Go.Operand.tmp 9), type := 3, pos := "law.go:66", after := #[], guard := none }) (v := ?_) [3, 4, 5, 11, 24] rfl (by kernel_rfl) (by kernel_rfl) (by kernel_rfl) (by kernel_rfl) (by kernel_rfl) (fun _ _ _ h => h) (by first | exact hF | exact hF (by kernel_rfl)) (fun w hFw => ?_) (by rfl) ?_
              rotate_left
              · (try dsimp only at hFw)
                first | (go_simp; done) | (go_simp; with_reducible rfl) | (go_split_ands; go_simp; done)
              try simp only [Act.put, List.setIfInBounds_toArray, List.set_cons_zero, List.set_cons_succ]
              refine wpAnyJ_take (i := 3) (oi := { dst := some 46, op := Go.Op.indexAddr 37 (Go.Operand.tmp 44) (Go.Operand.tmp 45), type := 0, pos := "law.go:66", after := #[{ on := 1, ground := Go.Ground.data }, { on := 2, ground := Go.Ground.data }], guard := none }) (v := ?_) [4, 5, 11, 24] rfl (by kernel_rfl) (by kernel_rfl) (by kernel_rfl) (by kernel_rfl) (by kernel_rfl) (fun _ _ _ h => h) (by first | exact hF | exact hF (by kernel_rfl)) (fun w hFw => ?_) (by rfl) ?_
              rotate_left
              · (try dsimp only at hFw)
                first | (go_simp; done) | (go_simp; with_reducible rfl) | (go_split_ands; go_simp; done)
              try simp only [Act.put, List.setIfInBounds_toArray, List.set_cons_zero, List.set_cons_succ]
              refine wpAnyJ_take (i := 4) (oi := { dst := some 47, op := Go.Op.fieldAddr 42 (Go.Operand.tmp 46) 0, type := 0, pos := "law.go:66", after := #[{ on := 3, ground := Go.Ground.data }], guard := none }) (v := ?_) [5, 11, 24] rfl (by kernel_rfl) (by kernel_rfl) (by kernel_rfl) (by kernel_rfl) (by kernel_rfl) (fun _ _ _ h => h) (by first | exact hF | exact hF (by kernel_rfl)) (fun w hFw => ?_) (by rfl) ?_
              rotate_left
              · (try dsimp only at hFw)
                first | (go_simp; done) | (go_simp; with_reducible rfl) | (go_split_ands; go_simp; done)
              try simp only [Act.put, List.setIfInBounds_toArray, List.set_cons_zero, List.set_cons_succ]
              refine wpAnyJ_take (i := 5) (oi := { dst := some 48, op := Go.Op.load 3 (Go.Operand.tmp 47), type := 3, pos := "law.go:66", after := #[{ on := 4, ground := Go.Ground.data }], guard := none }) (v := ?_) [11, 24] rfl (by kernel_rfl) (by kernel_rfl) (by kernel_rfl) (by kernel_rfl) (by kernel_rfl) (fun _ _ _ h => h) (by first | exact hF | exact hF (by kernel_rfl)) (fun w hFw => ?_) (by rfl) ?_
              rotate_left
              · (try dsimp only at hFw)
                first | (go_simp; done) | (go_simp; with_reducible rfl) | (go_split_ands; go_simp; done)
              try simp only [Act.put, List.setIfInBounds_toArray, List.set_cons_zero, List.set_cons_succ]
              refine wpAnyJ_take (i := 6) (oi := { dst := some 49, op := Go.Op.move (Go.Operand.tmp 1), type := 37, pos := "law.go:66", after := #[], guard := none }) (v := ?_) [8, 9, 10, 11, 24] rfl (by kernel_rfl) (by kernel_rfl) (by kernel_rfl) (by kernel_rfl) (by kernel_rfl) (fun _ _ _ h => h) (by first | exact hF | exact hF (by kernel_rfl)) (fun w hFw => ?_) (by rfl) ?_
              rotate_left
              · (try dsimp only at hFw)
                first | (go_simp; done) | (go_simp; with_reducible rfl) | (go_split_ands; go_simp; done)
              try simp only [Act.put, List.setIfInBounds_toArray, List.set_cons_zero, List.set_cons_succ]
              refine wpAnyJ_take (i := 7) (oi := { dst := some 50, op := Go.Op.move (Go.Operand.tmp 9), type := 3, pos := "law.go:66", after := #[], guard := none }) (v := ?_) [8, 9, 10, 11, 24] rfl (by kernel_rfl) (by kernel_rfl) (by kernel_rfl) (by kernel_rfl) (by kernel_rfl) (fun _ _ _ h => h) (by first | exact hF | exact hF (by kernel_rfl)) (fun w hFw => ?_) (by rfl) ?_
              rotate_left
              · (try dsimp only at hFw)
                first | (go_simp; done) | (go_simp; with_reducible rfl) | (go_split_ands; go_simp; done)
              try simp only [Act.put, List.setIfInBounds_toArray, List.set_cons_zero, List.set_cons_succ]
              refine wpAnyJ_take (i := 8) (oi := { dst := some 51, op := Go.Op.indexAddr 37 (Go.Operand.tmp 49) (Go.Operand.tmp 50), type := 0, pos := "law.go:66", after := #[{ on := 6, ground := Go.Ground.data }, { on := 7, ground := Go.Ground.data }], guard := none }) (v := ?_) [9, 10, 11, 24] rfl (by kernel_rfl) (by kernel_rfl) (by kernel_rfl) (by kernel_rfl) (by kernel_rfl) (fun _ _ _ h => h) (by first | exact hF | exact hF (by kernel_rfl)) (fun w hFw => ?_) (by rfl) ?_
              rotate_left
              · (try dsimp only at hFw)
                first | (go_simp; done) | (go_simp; with_reducible rfl) | (go_split_ands; go_simp; done)
              try simp only [Act.put, List.setIfInBounds_toArray, List.set_cons_zero, List.set_cons_succ]
              refine wpAnyJ_take (i := 9) (oi := { dst := some 52, op := Go.Op.fieldAddr 42 (Go.Operand.tmp 51) 1, type := 0, pos := "law.go:66", after := #[{ on := 8, ground := Go.Ground.data }], guard := none }) (v := ?_) [10, 11, 24] rfl (by kernel_rfl) (by kernel_rfl) (by kernel_rfl) (by kernel_rfl) (by kernel_rfl) (fun _ _ _ h => h) (by first | exact hF | exact hF (by kernel_rfl)) (fun w hFw => ?_) (by rfl) ?_
              rotate_left
              · (try dsimp only at hFw)
                first | (go_simp; done) | (go_simp; with_reducible rfl) | (go_split_ands; go_simp; done)
              try simp only [Act.put, List.setIfInBounds_toArray, List.set_cons_zero, List.set_cons_succ]
              refine wpAnyJ_take (i := 10) (oi := { dst := some 53, op := Go.Op.load 3 (Go.Operand.tmp 52), type := 3, pos := "law.go:66", after := #[{ on := 9, ground := Go.Ground.data }], guard := none }) (v := ?_) [11, 24] rfl (by kernel_rfl) (by kernel_rfl) (by kernel_rfl) (by kernel_rfl) (by kernel_rfl) (fun _ _ _ h => h) (by first | exact hF | exact hF (by kernel_rfl)) (fun w hFw => ?_) (by rfl) ?_
              rotate_left
              · (try dsimp only at hFw)
                first | (go_simp; done) | (go_simp; with_reducible rfl) | (go_split_ands; go_simp; done)
              try simp only [Act.put, List.setIfInBounds_toArray, List.set_cons_zero, List.set_cons_succ]
              refine wpAnyJ_take (i := 12) (oi := { dst := some 55, op := Go.Op.move (Go.Operand.tmp 7), type := 38, pos := "law.go:66", after := #[], guard := none }) (v := ?_) [23, 24] rfl (by kernel_rfl) (by kernel_rfl) (by kernel_rfl) (by kernel_rfl) (by kernel_rfl) (fun _ _ _ h => h) (by first | exact hF | exact hF (by kernel_rfl)) (fun w hFw => ?_) (by rfl) ?_
              rotate_left
              · (try dsimp only at hFw)
                first | (go_simp; done) | (go_simp; with_reducible rfl) | (go_split_ands; go_simp; done)
              try simp only [Act.put, List.setIfInBounds_toArray, List.set_cons_zero, List.set_cons_succ]
              refine wpAnyJ_take (i := 13) (oi := { dst := some 56, op := Go.Op.move (Go.Operand.tmp 1), type := 37, pos := "law.go:66", after := #[], guard := none }) (v := ?_) [15, 16, 17, 23, 24] rfl (by kernel_rfl) (by kernel_rfl) (by kernel_rfl) (by kernel_rfl) (by kernel_rfl) (fun _ _ _ h => h) (by first | exact hF | exact hF (by kernel_rfl)) (fun w hFw => ?_) (by rfl) ?_
              rotate_left
              · (try dsimp only at hFw)
                first | (go_simp; done) | (go_simp; with_reducible rfl) | (go_split_ands; go_simp; done)
              try simp only [Act.put, List.setIfInBounds_toArray, List.set_cons_zero, List.set_cons_succ]
              refine wpAnyJ_take (i := 14) (oi := { dst := some 57, op := Go.Op.move (Go.Operand.tmp 9), type := 3, pos := "law.go:66", after := #[], guard := none }) (v := ?_) [15, 16, 17, 23, 24] rfl (by kernel_rfl) (by kernel_rfl) (by kernel_rfl) (by kernel_rfl) (by kernel_rfl) (fun _ _ _ h => h) (by first | exact hF | exact hF (by kernel_rfl)) (fun w hFw => ?_) (by rfl) ?_
              rotate_left
              · (try dsimp only at hFw)
                first | (go_simp; done) | (go_simp; with_reducible rfl) | (go_split_ands; go_simp; done)
              try simp only [Act.put, List.setIfInBounds_toArray, List.set_cons_zero, List.set_cons_succ]
              refine wpAnyJ_take (i := 15) (oi := { dst := some 58, op := Go.Op.indexAddr 37 (Go.Operand.tmp 56) (Go.Operand.tmp 57), type := 0, pos := "law.go:66", after := #[{ on := 13, ground := Go.Ground.data }, { on := 14, ground := Go.Ground.data }], guard := none }) (v := ?_) [16, 17, 23, 24] rfl (by kernel_rfl) (by kernel_rfl) (by kernel_rfl) (by kernel_rfl) (by kernel_rfl) (fun _ _ _ h => h) (by first | exact hF | exact hF (by kernel_rfl)) (fun w hFw => ?_) (by rfl) ?_
              rotate_left
              · (try dsimp only at hFw)
                first | (go_simp; done) | (go_simp; with_reducible rfl) | (go_split_ands; go_simp; done)
              try simp only [Act.put, List.setIfInBounds_toArray, List.set_cons_zero, List.set_cons_succ]
              refine wpAnyJ_take (i := 16) (oi := { dst := some 59, op := Go.Op.fieldAddr 42 (Go.Operand.tmp 58) 0, type := 0, pos := "law.go:66", after := #[{ on := 15, ground := Go.Ground.data }], guard := none }) (v := ?_) [17, 23, 24] rfl (by kernel_rfl) (by kernel_rfl) (by kernel_rfl) (by kernel_rfl) (by kernel_rfl) (fun _ _ _ h => h) (by first | exact hF | exact hF (by kernel_rfl)) (fun w hFw => ?_) (by rfl) ?_
              rotate_left
              · (try dsimp only at hFw)
                first | (go_simp; done) | (go_simp; with_reducible rfl) | (go_split_ands; go_simp; done)
              try simp only [Act.put, List.setIfInBounds_toArray, List.set_cons_zero, List.set_cons_succ]
              refine wpAnyJ_take (i := 17) (oi := { dst := some 60, op := Go.Op.load 3 (Go.Operand.tmp 59), type := 3, pos := "law.go:66", after := #[{ on := 16, ground := Go.Ground.data }], guard := none }) (v := ?_) [23, 24] rfl (by kernel_rfl) (by kernel_rfl) (by kernel_rfl) (by kernel_rfl) (by kernel_rfl) (fun _ _ _ h => h) (by first | exact hF | exact hF (by kernel_rfl)) (fun w hFw => ?_) (by rfl) ?_
              rotate_left
              · (try dsimp only at hFw)
                first | (go_simp; done) | (go_simp; with_reducible rfl) | (go_split_ands; go_simp; done)
              try simp only [Act.put, List.setIfInBounds_toArray, List.set_cons_zero, List.set_cons_succ]
              refine wpAnyJ_take (i := 18) (oi := { dst := some 61, op := Go.Op.move (Go.Operand.tmp 1), type := 37, pos := "law.go:66", after := #[], guard := none }) (v := ?_) [20, 21, 22, 23, 24] rfl (by kernel_rfl) (by kernel_rfl) (by kernel_rfl) (by kernel_rfl) (by kernel_rfl) (fun _ _ _ h => h) (by first | exact hF | exact hF (by kernel_rfl)) (fun w hFw => ?_) (by rfl) ?_
              rotate_left
              · (try dsimp only at hFw)
                first | (go_simp; done) | (go_simp; with_reducible rfl) | (go_split_ands; go_simp; done)
              try simp only [Act.put, List.setIfInBounds_toArray, List.set_cons_zero, List.set_cons_succ]
              refine wpAnyJ_take (i := 19) (oi := { dst := some 62, op := Go.Op.move (Go.Operand.tmp 9), type := 3, pos := "law.go:66", after := #[], guard := none }) (v := ?_) [20, 21, 22, 23, 24] rfl (by kernel_rfl) (by kernel_rfl) (by kernel_rfl) (by kernel_rfl) (by kernel_rfl) (fun _ _ _ h => h) (by first | exact hF | exact hF (by kernel_rfl)) (fun w hFw => ?_) (by rfl) ?_
              rotate_left
              · (try dsimp only at hFw)
                first | (go_simp; done) | (go_simp; with_reducible rfl) | (go_split_ands; go_simp; done)
              try simp only [Act.put, List.setIfInBounds_toArray, List.set_cons_zero, List.set_cons_succ]
              refine wpAnyJ_take (i := 20) (oi := { dst := some 63, op := Go.Op.indexAddr 37 (Go.Operand.tmp 61) (Go.Operand.tmp 62), type := 0, pos := "law.go:66", after := #[{ on := 18, ground := Go.Ground.data }, { on := 19, ground := Go.Ground.data }], guard := none }) (v := ?_) [21, 22, 23, 24] rfl (by kernel_rfl) (by kernel_rfl) (by kernel_rfl) (by kernel_rfl) (by kernel_rfl) (fun _ _ _ h => h) (by first | exact hF | exact hF (by kernel_rfl)) (fun w hFw => ?_) (by rfl) ?_
              rotate_left
              · (try dsimp only at hFw)
                first | (go_simp; done) | (go_simp; with_reducible rfl) | (go_split_ands; go_simp; done)
              try simp only [Act.put, List.setIfInBounds_toArray, List.set_cons_zero, List.set_cons_succ]
              refine wpAnyJ_take (i := 21) (oi := { dst := some 64, op := Go.Op.fieldAddr 42 (Go.Operand.tmp 63) 1, type := 0, pos := "law.go:66", after := #[{ on := 20, ground := Go.Ground.data }], guard := none }) (v := ?_) [22, 23, 24] rfl (by kernel_rfl) (by kernel_rfl) (by kernel_rfl) (by kernel_rfl) (by kernel_rfl) (fun _ _ _ h => h) (by first | exact hF | exact hF (by kernel_rfl)) (fun w hFw => ?_) (by rfl) ?_
              rotate_left
              · (try dsimp only at hFw)
                first | (go_simp; done) | (go_simp; with_reducible rfl) | (go_split_ands; go_simp; done)
              try simp only [Act.put, List.setIfInBounds_toArray, List.set_cons_zero, List.set_cons_succ]
              refine wpAnyJ_take (i := 22) (oi := { dst := some 65, op := Go.Op.load 3 (Go.Operand.tmp 64), type := 3, pos := "law.go:66", after := #[{ on := 21, ground := Go.Ground.data }], guard := none }) (v := ?_) [23, 24] rfl (by kernel_rfl) (by kernel_rfl) (by kernel_rfl) (by kernel_rfl) (by kernel_rfl) (fun _ _ _ h => h) (by first | exact hF | exact hF (by kernel_rfl)) (fun w hFw => ?_) (by rfl) ?_
              rotate_left
              · (try dsimp only at hFw)
                first | (go_simp; done) | (go_simp; with_reducible rfl) | (go_split_ands; go_simp; done)
              try simp only [Act.put, List.setIfInBounds_toArray, List.set_cons_zero, List.set_cons_succ]
              refine wpAnyJ_ready (rs := [11]) (by kernel_rfl) (by simp) ?_
              refine AllJ.cons (o := { dst := some 54, op := Go.Op.call { callee := Go.Callee.value (Go.Operand.func 13), args := #[Go.Operand.tmp 43, Go.Operand.tmp 48, Go.Operand.tmp 53], argTypes := #[24, 3, 3] }, type := 25, pos := "law.go:66", after := #[{ on := 0, ground := Go.Ground.data }, { on := 5, ground := Go.Ground.data }, { on := 10, ground := Go.Ground.data }], guard := none }) rfl (fun Kr hKr => ?_) ?_
              · go_simp; go_at_call 13; refine (hrp.out _ sL.own.left).mono ?_; rintro e w4 ⟨rfl, hst⟩
                have sL := sL.call hst
                refine hKr.out _ _ (fun hJ => ?_) (fun hF => ?_)
                · first
                  | exact absurd hJ (by decide)
                  | (clear hJ; (try dsimp only); all_goals (exact ⟨by have := sL.keepCell (hc 0 _ rfl); simpa using this, sL.keepCell (hc 1 _ rfl)⟩))
                clear hKr
                try simp only [Act.put, List.setIfInBounds_toArray, List.set_cons_zero, List.set_cons_succ]
                refine wpAnyJ_ready (rs := [23]) (by kernel_rfl) (by simp) ?_
                refine AllJ.cons (o := { dst := some 66, op := Go.Op.call { callee := Go.Callee.value (Go.Operand.func 20), args := #[Go.Operand.tmp 55, Go.Operand.tmp 60, Go.Operand.tmp 65], argTypes := #[38, 3, 3] }, type := 3, pos := "law.go:66", after := #[{ on := 12, ground := Go.Ground.data }, { on := 17, ground := Go.Ground.data }, { on := 22, ground := Go.Ground.data }, { on := 11, ground := Go.Ground.chain }], guard := none }) rfl (fun Kr hKr => ?_) ?_
                · go_simp; go_at_call 20; refine (hrr.out _ _ (hrf.move sL.own.right.left)).mono ?_; rintro e w4 ⟨rfl, H', hrf', hst⟩
                  have sL := Step.mid sL hst
                  refine hKr.out _ _ (fun hJ => ?_) (fun hF => ?_)
                  · first
                    | exact absurd hJ (by decide)
                    | (clear hJ; (try dsimp only); all_goals (exact ⟨by have := sL.keepCell (hc 0 _ rfl); simpa using this, sL.keepCell (hc 1 _ rfl)⟩))
                  clear hKr
                  try simp only [Act.put, List.setIfInBounds_toArray, List.set_cons_zero, List.set_cons_succ]
                  refine wpAnyJ_ready (rs := [24]) (by kernel_rfl) (by simp) ?_
                  refine AllJ.cons (o := { dst := some 67, op := Go.Op.binOp Go.BinOp.neq 3 (Go.Operand.tmp 54) (Go.Operand.tmp 66) 3, type := 4, pos := "law.go:66", after := #[{ on := 11, ground := Go.Ground.data }, { on := 23, ground := Go.Ground.data }], guard := none }) rfl (fun Kr hKr => ?_) ?_
                  · go_simp
                    refine hKr.out _ _ (fun hJ => ?_) (fun hF => ?_)
                    · first
                      | exact absurd hJ (by decide)
                      | (clear hJ; (try dsimp only); all_goals (exact ⟨by have := sL.keepCell (hc 0 _ rfl); simpa using this, sL.keepCell (hc 1 _ rfl)⟩))
                    clear hKr
                    try simp only [Act.put, List.setIfInBounds_toArray, List.set_cons_zero, List.set_cons_succ]
                    refine wpAnyJ_done (by kernel_rfl) ?_ _
                    go_wp2_with fail
                    have hrf2 : RfOwn w4 r B'.n lo WW H' := by rw [t3.out]; exact hrf'.move sL.own.right.left
                    refine (stood_any B' lo WW b g hh r H' _ hok' sL.own.left hrf2).mono ?_
                    rintro e w5 ⟨rfl, hs5⟩
                    have hrf3 := hrf2.later hs5
                    have sL := sL.call0 hs5
                    rw [List.append_nil] at sL
                    go_wp2_with fail
                    exact ⟨⟨k + 1, B', WW, H', by omega, by omega, by go_num, hok', t3.out.trans hn.out, hrf3, sL⟩, by simp [intOf]; omega⟩
                  exact AllJ.nil
                exact AllJ.nil
              exact AllJ.nil
            ·
              go_wp2_with fail
              have sL := hs.drew
              refine wp_region_J 24 (fun w' => w'.cell? ⟨ab, ao + k * 2, none⟩ = some (ii xm) ∧ w'.cell? ⟨ab, ao + k * 2 + 1, none⟩ = some (ii xs)) (by kernel_rfl) ?_ (fun hF => ?_)
              · (try dsimp only)
                all_goals (exact ⟨by have := sL.keepCell (hc 0 _ rfl); simpa using this, sL.keepCell (hc 1 _ rfl)⟩)
              refine wpAnyJ_take (i := 0) (oi := { dst := some 43, op := Go.Op.move (Go.Operand.tmp 5), type := 24, pos := "law.go:66", after := #[], guard := none }) (v := ?_) [11, 24] rfl (by kernel_rfl) (by kernel_rfl) (by kernel_rfl) (by kernel_rfl) (by kernel_rfl) (fun _ _ _ h => h) (by first | exact hF | exact hF (by kernel_rfl)) (fun w hFw => ?_) (by rfl) ?_
              rotate_left
              · (try dsimp only at hFw)
                first | (go_simp; done) | (go_simp; with_reducible rfl) | (go_split_ands; go_simp; done)
              try simp only [Act.put, List.setIfInBounds_toArray, List.set_cons_zero, List.set_cons_succ]
              refine wpAnyJ_take (i := 1) (oi := { dst := some 44, op := Go.Op.move (Go.Operand.tmp 1), type := 37, pos := "law.go:66", after := #[], guard := none }) (v := ?_) [3, 4, 5, 11, 24] rfl (by kernel_rfl) (by kernel_rfl) (by kernel_rfl) (by kernel_rfl) (by kernel_rfl) (fun _ _ _ h => h) (by first | exact hF | exact hF (by kernel_rfl)) (fun w hFw => ?_) (by rfl) ?_
              rotate_left
              · (try dsimp only at hFw)
                first | (go_simp; done) | (go_simp; with_reducible rfl) | (go_split_ands; go_simp; done)
              try simp only [Act.put, List.setIfInBounds_toArray, List.set_cons_zero, List.set_cons_succ]
              refine wpAnyJ_take (i := 2) (oi := { dst := some 45, op := Go.Op.move (Go.Operand.tmp 9), type := 3, pos := "law.go:66", after := #[], guard := none }) (v := ?_) [3, 4, 5, 11, 24] rfl (by kernel_rfl) (by kernel_rfl) (by kernel_rfl) (by kernel_rfl) (by kernel_rfl) (fun _ _ _ h => h) (by first | exact hF | exact hF (by kernel_rfl)) (fun w hFw => ?_) (by rfl) ?_
              rotate_left
              · (try dsimp only at hFw)
                first | (go_simp; done) | (go_simp; with_reducible rfl) | (go_split_ands; go_simp; done)
              try simp only [Act.put, List.setIfInBounds_toArray, List.set_cons_zero, List.set_cons_succ]
              refine wpAnyJ_take (i := 3) (oi := { dst := some 46, op := Go.Op.indexAddr 37 (Go.Operand.tmp 44) (Go.Operand.tmp 45), type := 0, pos := "law.go:66", after := #[{ on := 1, ground := Go.Ground.data }, { on := 2, ground := Go.Ground.data }], guard := none }) (v := ?_) [4, 5, 11, 24] rfl (by kernel_rfl) (by kernel_rfl) (by kernel_rfl) (by kernel_rfl) (by kernel_rfl) (fun _ _ _ h => h) (by first | exact hF | exact hF (by kernel_rfl)) (fun w hFw => ?_) (by rfl) ?_
              rotate_left
              · (try dsimp only at hFw)
                first | (go_simp; done) | (go_simp; with_reducible rfl) | (go_split_ands; go_simp; done)
              try simp only [Act.put, List.setIfInBounds_toArray, List.set_cons_zero, List.set_cons_succ]
              refine wpAnyJ_take (i := 4) (oi := { dst := some 47, op := Go.Op.fieldAddr 42 (Go.Operand.tmp 46) 0, type := 0, pos := "law.go:66", after := #[{ on := 3, ground := Go.Ground.data }], guard := none }) (v := ?_) [5, 11, 24] rfl (by kernel_rfl) (by kernel_rfl) (by kernel_rfl) (by kernel_rfl) (by kernel_rfl) (fun _ _ _ h => h) (by first | exact hF | exact hF (by kernel_rfl)) (fun w hFw => ?_) (by rfl) ?_
              rotate_left
              · (try dsimp only at hFw)
                first | (go_simp; done) | (go_simp; with_reducible rfl) | (go_split_ands; go_simp; done)
              try simp only [Act.put, List.setIfInBounds_toArray, List.set_cons_zero, List.set_cons_succ]
              refine wpAnyJ_take (i := 5) (oi := { dst := some 48, op := Go.Op.load 3 (Go.Operand.tmp 47), type := 3, pos := "law.go:66", after := #[{ on := 4, ground := Go.Ground.data }], guard := none }) (v := ?_) [11, 24] rfl (by kernel_rfl) (by kernel_rfl) (by kernel_rfl) (by kernel_rfl) (by kernel_rfl) (fun _ _ _ h => h) (by first | exact hF | exact hF (by kernel_rfl)) (fun w hFw => ?_) (by rfl) ?_
              rotate_left
              · (try dsimp only at hFw)
                first | (go_simp; done) | (go_simp; with_reducible rfl) | (go_split_ands; go_simp; done)
              try simp only [Act.put, List.setIfInBounds_toArray, List.set_cons_zero, List.set_cons_succ]
              refine wpAnyJ_take (i := 6) (oi := { dst := some 49, op := Go.Op.move (Go.Operand.tmp 1), type := 37, pos := "law.go:66", after := #[], guard := none }) (v := ?_) [8, 9, 10, 11, 24] rfl (by kernel_rfl) (by kernel_rfl) (by kernel_rfl) (by kernel_rfl) (by kernel_rfl) (fun _ _ _ h => h) (by first | exact hF | exact hF (by kernel_rfl)) (fun w hFw => ?_) (by rfl) ?_
              rotate_left
              · (try dsimp only at hFw)
                first | (go_simp; done) | (go_simp; with_reducible rfl) | (go_split_ands; go_simp; done)
              try simp only [Act.put, List.setIfInBounds_toArray, List.set_cons_zero, List.set_cons_succ]
              refine wpAnyJ_take (i := 7) (oi := { dst := some 50, op := Go.Op.move (Go.Operand.tmp 9), type := 3, pos := "law.go:66", after := #[], guard := none }) (v := ?_) [8, 9, 10, 11, 24] rfl (by kernel_rfl) (by kernel_rfl) (by kernel_rfl) (by kernel_rfl) (by kernel_rfl) (fun _ _ _ h => h) (by first | exact hF | exact hF (by kernel_rfl)) (fun w hFw => ?_) (by rfl) ?_
              rotate_left
              · (try dsimp only at hFw)
                first | (go_simp; done) | (go_simp; with_reducible rfl) | (go_split_ands; go_simp; done)
              try simp only [Act.put, List.setIfInBounds_toArray, List.set_cons_zero, List.set_cons_succ]
              refine wpAnyJ_take (i := 8) (oi := { dst := some 51, op := Go.Op.indexAddr 37 (Go.Operand.tmp 49) (Go.Operand.tmp 50), type := 0, pos := "law.go:66", after := #[{ on := 6, ground := Go.Ground.data }, { on := 7, ground := Go.Ground.data }], guard := none }) (v := ?_) [9, 10, 11, 24] rfl (by kernel_rfl) (by kernel_rfl) (by kernel_rfl) (by kernel_rfl) (by kernel_rfl) (fun _ _ _ h => h) (by first | exact hF | exact hF (by kernel_rfl)) (fun w hFw => ?_) (by rfl) ?_
              rotate_left
              · (try dsimp only at hFw)
                first | (go_simp; done) | (go_simp; with_reducible rfl) | (go_split_ands; go_simp; done)
              try simp only [Act.put, List.setIfInBounds_toArray, List.set_cons_zero, List.set_cons_succ]
              refine wpAnyJ_take (i := 9) (oi := { dst := some 52, op := Go.Op.fieldAddr 42 (Go.Operand.tmp 51) 1, type := 0, pos := "law.go:66", after := #[{ on := 8, ground := Go.Ground.data }], guard := none }) (v := ?_) [10, 11, 24] rfl (by kernel_rfl) (by kernel_rfl) (by kernel_rfl) (by kernel_rfl) (by kernel_rfl) (fun _ _ _ h => h) (by first | exact hF | exact hF (by kernel_rfl)) (fun w hFw => ?_) (by rfl) ?_
              rotate_left
              · (try dsimp only at hFw)
                first | (go_simp; done) | (go_simp; with_reducible rfl) | (go_split_ands; go_simp; done)
              try simp only [Act.put, List.setIfInBounds_toArray, List.set_cons_zero, List.set_cons_succ]
              refine wpAnyJ_take (i := 10) (oi := { dst := some 53, op := Go.Op.load 3 (Go.Operand.tmp 52), type := 3, pos := "law.go:66", after := #[{ on := 9, ground := Go.Ground.data }], guard := none }) (v := ?_) [11, 24] rfl (by kernel_rfl) (by kernel_rfl) (by kernel_rfl) (by kernel_rfl) (by kernel_rfl) (fun _ _ _ h => h) (by first | exact hF | exact hF (by kernel_rfl)) (fun w hFw => ?_) (by rfl) ?_
              rotate_left
              · (try dsimp only at hFw)
                first | (go_simp; done) | (go_simp; with_reducible rfl) | (go_split_ands; go_simp; done)
              try simp only [Act.put, List.setIfInBounds_toArray, List.set_cons_zero, List.set_cons_succ]
              refine wpAnyJ_take (i := 12) (oi := { dst := some 55, op := Go.Op.move (Go.Operand.tmp 7), type := 38, pos := "law.go:66", after := #[], guard := none }) (v := ?_) [23, 24] rfl (by kernel_rfl) (by kernel_rfl) (by kernel_rfl) (by kernel_rfl) (by kernel_rfl) (fun _ _ _ h => h) (by first | exact hF | exact hF (by kernel_rfl)) (fun w hFw => ?_) (by rfl) ?_
              rotate_left
              · (try dsimp only at hFw)
                first | (go_simp; done) | (go_simp; with_reducible rfl) | (go_split_ands; go_simp; done)
              try simp only [Act.put, List.setIfInBounds_toArray, List.set_cons_zero, List.set_cons_succ]
              refine wpAnyJ_take (i := 13) (oi := { dst := some 56, op := Go.Op.move (Go.Operand.tmp 1), type := 37, pos := "law.go:66", after := #[], guard := none }) (v := ?_) [15, 16, 17, 23, 24] rfl (by kernel_rfl) (by kernel_rfl) (by kernel_rfl) (by kernel_rfl) (by kernel_rfl) (fun _ _ _ h => h) (by first | exact hF | exact hF (by kernel_rfl)) (fun w hFw => ?_) (by rfl) ?_
              rotate_left
              · (try dsimp only at hFw)
                first | (go_simp; done) | (go_simp; with_reducible rfl) | (go_split_ands; go_simp; done)
              try simp only [Act.put, List.setIfInBounds_toArray, List.set_cons_zero, List.set_cons_succ]
              refine wpAnyJ_take (i := 14) (oi := { dst := some 57, op := Go.Op.move (Go.Operand.tmp 9), type := 3, pos := "law.go:66", after := #[], guard := none }) (v := ?_) [15, 16, 17, 23, 24] rfl (by kernel_rfl) (by kernel_rfl) (by kernel_rfl) (by kernel_rfl) (by kernel_rfl) (fun _ _ _ h => h) (by first | exact hF | exact hF (by kernel_rfl)) (fun w hFw => ?_) (by rfl) ?_
              rotate_left
              · (try dsimp only at hFw)
                first | (go_simp; done) | (go_simp; with_reducible rfl) | (go_split_ands; go_simp; done)
              try simp only [Act.put, List.setIfInBounds_toArray, List.set_cons_zero, List.set_cons_succ]
              refine wpAnyJ_take (i := 15) (oi := { dst := some 58, op := Go.Op.indexAddr 37 (Go.Operand.tmp 56) (Go.Operand.tmp 57), type := 0, pos := "law.go:66", after := #[{ on := 13, ground := Go.Ground.data }, { on := 14, ground := Go.Ground.data }], guard := none }) (v := ?_) [16, 17, 23, 24] rfl (by kernel_rfl) (by kernel_rfl) (by kernel_rfl) (by kernel_rfl) (by kernel_rfl) (fun _ _ _ h => h) (by first | exact hF | exact hF (by kernel_rfl)) (fun w hFw => ?_) (by rfl) ?_
              rotate_left
              · (try dsimp only at hFw)
                first | (go_simp; done) | (go_simp; with_reducible rfl) | (go_split_ands; go_simp; done)
              try simp only [Act.put, List.setIfInBounds_toArray, List.set_cons_zero, List.set_cons_succ]
              refine wpAnyJ_take (i := 16) (oi := { dst := some 59, op := Go.Op.fieldAddr 42 (Go.Operand.tmp 58) 0, type := 0, pos := "law.go:66", after := #[{ on := 15, ground := Go.Ground.data }], guard := none }) (v := ?_) [17, 23, 24] rfl (by kernel_rfl) (by kernel_rfl) (by kernel_rfl) (by kernel_rfl) (by kernel_rfl) (fun _ _ _ h => h) (by first | exact hF | exact hF (by kernel_rfl)) (fun w hFw => ?_) (by rfl) ?_
              rotate_left
              · (try dsimp only at hFw)
                first | (go_simp; done) | (go_simp; with_reducible rfl) | (go_split_ands; go_simp; done)
              try simp only [Act.put, List.setIfInBounds_toArray, List.set_cons_zero, List.set_cons_succ]
              refine wpAnyJ_take (i := 17) (oi := { dst := some 60, op := Go.Op.load 3 (Go.Operand.tmp 59), type := 3, pos := "law.go:66", after := #[{ on := 16, ground := Go.Ground.data }], guard := none }) (v := ?_) [23, 24] rfl (by kernel_rfl) (by kernel_rfl) (by kernel_rfl) (by kernel_rfl) (by kernel_rfl) (fun _ _ _ h => h) (by first | exact hF | exact hF (by kernel_rfl)) (fun w hFw => ?_) (by rfl) ?_
              rotate_left
              · (try dsimp only at hFw)
                first | (go_simp; done) | (go_simp; with_reducible rfl) | (go_split_ands; go_simp; done)
              try simp only [Act.put, List.setIfInBounds_toArray, List.set_cons_zero, List.set_cons_succ]
              refine wpAnyJ_take (i := 18) (oi := { dst := some 61, op := Go.Op.move (Go.Operand.tmp 1), type := 37, pos := "law.go:66", after := #[], guard := none }) (v := ?_) [20, 21, 22, 23, 24] rfl (by kernel_rfl) (by kernel_rfl) (by kernel_rfl) (by kernel_rfl) (by kernel_rfl) (fun _ _ _ h => h) (by first | exact hF | exact hF (by kernel_rfl)) (fun w hFw => ?_) (by rfl) ?_
              rotate_left
              · (try dsimp only at hFw)
                first | (go_simp; done) | (go_simp; with_reducible rfl) | (go_split_ands; go_simp; done)
              try simp only [Act.put, List.setIfInBounds_toArray, List.set_cons_zero, List.set_cons_succ]
              refine wpAnyJ_take (i := 19) (oi := { dst := some 62, op := Go.Op.move (Go.Operand.tmp 9), type := 3, pos := "law.go:66", after := #[], guard := none }) (v := ?_) [20, 21, 22, 23, 24] rfl (by kernel_rfl) (by kernel_rfl) (by kernel_rfl) (by kernel_rfl) (by kernel_rfl) (fun _ _ _ h => h) (by first | exact hF | exact hF (by kernel_rfl)) (fun w hFw => ?_) (by rfl) ?_
              rotate_left
              · (try dsimp only at hFw)
                first | (go_simp; done) | (go_simp; with_reducible rfl) | (go_split_ands; go_simp; done)
              try simp only [Act.put, List.setIfInBounds_toArray, List.set_cons_zero, List.set_cons_succ]
              refine wpAnyJ_take (i := 20) (oi := { dst := some 63, op := Go.Op.indexAddr 37 (Go.Operand.tmp 61) (Go.Operand.tmp 62), type := 0, pos := "law.go:66", after := #[{ on := 18, ground := Go.Ground.data }, { on := 19, ground := Go.Ground.data }], guard := none }) (v := ?_) [21, 22, 23, 24] rfl (by kernel_rfl) (by kernel_rfl) (by kernel_rfl) (by kernel_rfl) (by kernel_rfl) (fun _ _ _ h => h) (by first | exact hF | exact hF (by kernel_rfl)) (fun w hFw => ?_) (by rfl) ?_
              rotate_left
              · (try dsimp only at hFw)
                first | (go_simp; done) | (go_simp; with_reducible rfl) | (go_split_ands; go_simp; done)
              try simp only [Act.put, List.setIfInBounds_toArray, List.set_cons_zero, List.set_cons_succ]
              refine wpAnyJ_take (i := 21) (oi := { dst := some 64, op := Go.Op.fieldAddr 42 (Go.Operand.tmp 63) 1, type := 0, pos := "law.go:66", after := #[{ on := 20, ground := Go.Ground.data }], guard := none }) (v := ?_) [22, 23, 24] rfl (by kernel_rfl) (by kernel_rfl) (by kernel_rfl) (by kernel_rfl) (by kernel_rfl) (fun _ _ _ h => h) (by first | exact hF | exact hF (by kernel_rfl)) (fun w hFw => ?_) (by rfl) ?_
              rotate_left
              · (try dsimp only at hFw)
                first | (go_simp; done) | (go_simp; with_reducible rfl) | (go_split_ands; go_simp; done)
              try simp only [Act.put, List.setIfInBounds_toArray, List.set_cons_zero, List.set_cons_succ]
              refine wpAnyJ_take (i := 22) (oi := { dst := some 65, op := Go.Op.load 3 (Go.Operand.tmp 64), type := 3, pos := "law.go:66", after := #[{ on := 21, ground := Go.Ground.data }], guard := none }) (v := ?_) [23, 24] rfl (by kernel_rfl) (by kernel_rfl) (by kernel_rfl) (by kernel_rfl) (by kernel_rfl) (fun _ _ _ h => h) (by first | exact hF | exact hF (by kernel_rfl)) (fun w hFw => ?_) (by rfl) ?_
              rotate_left
              · (try dsimp only at hFw)
                first | (go_simp; done) | (go_simp; with_reducible rfl) | (go_split_ands; go_simp; done)
              try simp only [Act.put, List.setIfInBounds_toArray, List.set_cons_zero, List.set_cons_succ]
              refine wpAnyJ_ready (rs := [11]) (by kernel_rfl) (by simp) ?_
              refine AllJ.cons (o := { dst := some 54, op := Go.Op.call { callee := Go.Callee.value (Go.Operand.func 13), args := #[Go.Operand.tmp 43, Go.Operand.tmp 48, Go.Operand.tmp 53], argTypes := #[24, 3, 3] }, type := 25, pos := "law.go:66", after := #[{ on := 0, ground := Go.Ground.data }, { on := 5, ground := Go.Ground.data }, { on := 10, ground := Go.Ground.data }], guard := none }) rfl (fun Kr hKr => ?_) ?_
              · go_simp; go_at_call 13; refine (hrp.out _ sL.own.left).mono ?_; rintro e w4 ⟨rfl, hst⟩
                have sL := sL.call hst
                refine hKr.out _ _ (fun hJ => ?_) (fun hF => ?_)
                · first
                  | exact absurd hJ (by decide)
                  | (clear hJ; (try dsimp only); all_goals (exact ⟨by have := sL.keepCell (hc 0 _ rfl); simpa using this, sL.keepCell (hc 1 _ rfl)⟩))
                clear hKr
                try simp only [Act.put, List.setIfInBounds_toArray, List.set_cons_zero, List.set_cons_succ]
                refine wpAnyJ_ready (rs := [23]) (by kernel_rfl) (by simp) ?_
                refine AllJ.cons (o := { dst := some 66, op := Go.Op.call { callee := Go.Callee.value (Go.Operand.func 20), args := #[Go.Operand.tmp 55, Go.Operand.tmp 60, Go.Operand.tmp 65], argTypes := #[38, 3, 3] }, type := 3, pos := "law.go:66", after := #[{ on := 12, ground := Go.Ground.data }, { on := 17, ground := Go.Ground.data }, { on := 22, ground := Go.Ground.data }, { on := 11, ground := Go.Ground.chain }], guard := none }) rfl (fun Kr hKr => ?_) ?_
                · go_simp; go_at_call 20; refine (hrr.out _ _ (hrf.move sL.own.right.left)).mono ?_; rintro e w4 ⟨rfl, H', hrf', hst⟩
                  have sL := Step.mid sL hst
                  refine hKr.out _ _ (fun hJ => ?_) (fun hF => ?_)
                  · first
                    | exact absurd hJ (by decide)
                    | (clear hJ; (try dsimp only); all_goals (exact ⟨by have := sL.keepCell (hc 0 _ rfl); simpa using this, sL.keepCell (hc 1 _ rfl)⟩))
                  clear hKr
                  try simp only [Act.put, List.setIfInBounds_toArray, List.set_cons_zero, List.set_cons_succ]
                  refine wpAnyJ_ready (rs := [24]) (by kernel_rfl) (by simp) ?_
                  refine AllJ.cons (o := { dst := some 67, op := Go.Op.binOp Go.BinOp.neq 3 (Go.Operand.tmp 54) (Go.Operand.tmp 66) 3, type := 4, pos := "law.go:66", after := #[{ on := 11, ground := Go.Ground.data }, { on := 23, ground := Go.Ground.data }], guard := none }) rfl (fun Kr hKr => ?_) ?_
                  · go_simp
                    refine hKr.out _ _ (fun hJ => ?_) (fun hF => ?_)
                    · first
                      | exact absurd hJ (by decide)
                      | (clear hJ; (try dsimp only); all_goals (exact ⟨by have := sL.keepCell (hc 0 _ rfl); simpa using this, sL.keepCell (hc 1 _ rfl)⟩))
                    clear hKr
                    try simp only [Act.put, List.setIfInBounds_toArray, List.set_cons_zero, List.set_cons_succ]
                    refine wpAnyJ_done (by kernel_rfl) ?_ _
                    go_wp2_with fail
                    have hrf2 : RfOwn w4 r B'.n lo WW H' := by rw [t3.out]; exact hrf'.move sL.own.right.left
                    exact ⟨⟨k + 1, B', WW, H', by omega, by omega, by go_num, hok', t3.out.trans hn.out, hrf2, sL⟩, by simp [intOf]; omega⟩
                  exact AllJ.nil
                exact AllJ.nil
              exact AllJ.nil
          · have d3 : (150 : Int) ≤ (k : Int) := by omega
            go_wp2_with fail
            go_meet
            exact ⟨k, B, W, H, hk, hkl, rfl, hok, hn, hrf, hs⟩
        · have d2 : (l.length : Int) ≤ (k : Int) := by omega
          go_wp2_with fail
          go_meet
          exact ⟨k, B, W, H, hk, hkl, rfl, hok, hn, hrf, hs⟩
    case rest =>
      clear hs hrf hok0 hn0 hrn hnew
      obtain ⟨k, B, W, H, hk, hkl, rfl, hok, hn, hrf, hs⟩ := hcut
      replace hn := Lib.hid hn
      go_wp2_with fail
      refine (stood_any B lo W b g hh r H _ hok hs.own.left hrf).mono ?_
      rintro e w5 ⟨rfl, hs5⟩
      have sL := hs.call0 hs5
      go_wp2_with fail
      refine (known_any _).mono ?_
      rintro e w3 ⟨rfl, hs3⟩
      have hs4 := sL.call0 hs3
      go_wp2
      go_ret
      exact ⟨rfl, hs4.forget (A := [])⟩
end Go.Proofs.Ytdkjgkbddehaiaa
