/- ints of the law's package; known. -/
import Derived.Test.YtdkjgkbddehaiaaNums
import Derived.Test.YtdkjgkbddehaiaaBrE
import Derived.Test.YtdkjgkbddehaiaaBrF
namespace Go.Proofs.Ytdkjgkbddehaiaa
open Go.RowKit
attribute [local go_sem ↓] Go.wp_at_zero Go.wp_at_succ

def IntsRel (la lb : List Int) (w : World) (v : Value) (wr : World) : Prop := ∃ k : Nat, k ≤ la.length ∧ v = .int .i64 k ∧ la.take k = lb.take k ∧ Step w [] wr []
def IntsPost (la lb : List Int) (w : World) (e : Ending) (w' : World) : Prop := e = .returned (.bool (decide (la = lb))) ∧ Step w [] w' []
theorem takeI_snoc {la lb : List Int} {k : Nat} (ha : k < la.length) (hb : k < lb.length) (h : la.take k = lb.take k) (he : la[k] = lb[k]) : la.take (k + 1) = lb.take (k + 1) := by
  rw [List.take_succ_eq_append_getElem ha, List.take_succ_eq_append_getElem hb, h, he]
set_option maxRecDepth 100000 in
theorem ints_any (a b : Option Addr) (n c m d : Nat) (la lb : List Int) (w : World) (ha : RdNums w a n la) (hb : RdNums w b m lb) (hl : la.length ≤ 140737488355328) (hl' : lb.length ≤ 140737488355328) :
    Calls Try.prog 22 #[.slice a n c, .slice b m d] w (IntsPost la lb w) := by
  have hn := ha.1
  have hm := hb.1
  subst hn hm
  by_cases hlen : la.length = lb.length
  · have q1 : ((la.length : Int) != (lb.length : Int)) = false := by rw [hlen]; simp
    have q2 : (la.length : Int) ≤ 140737488355328 := by omega
    have q3 : (la.length : Int) ≤ (lb.length : Int) := by omega
    replace ha := Lib.hid ha
    replace hb := Lib.hid hb
    replace hlen := Lib.hid hlen
    go_enter Try.func22, Try.ntmps22
    go_wp2
    go_loopw [5] (fun v wr => IntsRel la lb w v wr) (fun v _ => la.length - (intOf v).toNat)
    case atStart => exact ⟨0, Nat.zero_le _, rfl, rfl, Step.refl (Own.nil _)⟩
    case round =>
      obtain ⟨k, hk, rfl, htk, hs⟩ := hrel
      replace htk := Lib.hid htk
      have b1 : (0 : Int) ≤ (k : Int) := by omega
      by_cases hlt : k < la.length
      · have b2 : (k : Int) < (la.length : Int) := by omega
        have b3 : (k : Int) < (lb.length : Int) := by omega
        have hkb : k < lb.length := by omega
        obtain ⟨ba, oa, ea, r1⟩ := (ha.out.later hs).2 k hlt
        obtain ⟨bb, ob, eb, r2⟩ := (hb.out.later hs).2 k hkb
        subst ea eb
        by_cases he : la[k] = lb[k]
        · have q4 : (la[k] != lb[k]) = false := by rw [he]; simp
          replace he := Lib.hid he
          go_wp2
          go_quiet (fail)
          go_wp2
          exact ⟨⟨k + 1, by omega, by go_num, takeI_snoc hlt hkb htk.out he.out, hs.drewN _⟩, by simp [intOf]; omega⟩
        · have q4 : (la[k] != lb[k]) = true := by rw [bne_iff_ne]; exact he
          replace he := Lib.hid he
          go_wp2
          go_quiet (fail)
          go_wp2
          go_ret
          refine ⟨?_, hs.drewN _⟩
          rw [decide_eq_false]
          · rfl
          · intro e; subst e; exact he.out rfl
      · go_wp2
        go_ret
        refine ⟨?_, hs⟩
        rw [decide_eq_true]
        · rfl
        · have := htk.out
          rwa [List.take_of_length_le (by omega), List.take_of_length_le (by have := hlen.out; omega)] at this
  · have q1 : ((la.length : Int) != (lb.length : Int)) = true := by rw [bne_iff_ne]; omega
    replace hlen := Lib.hid hlen
    clear ha hb
    go_enter Try.func22, Try.ntmps22
    go_wp2
    go_ret
    refine ⟨?_, Step.refl (Own.nil _)⟩
    rw [decide_eq_false]
    · rfl
    · intro e; subst e; exact hlen.out rfl


def NewYes (n : Nat) (B : Br) (w : World) (e : Ending) (w' : World) : Prop := ∃ b g h R, e = .returned (.tuple #[pt b, .int .i64 0]) ∧ Step w [] w' (brH b g h B ++ R)
def okB (B : Br) : Bool := [2, 4, 8, 16, 32, 64].contains B.z && (B.ms.length + 1 == B.z) && (B.out.length == B.n + 1) && decide (B.n ≤ 64) && B.ms.all fun m => decide (m.s0 ≤ B.n) && decide (m.s1 ≤ B.n) && decide (m.w ≤ B.n)
theorem okB_ok {B : Br} (h : okB B = true) : B.Ok := by
  simp only [okB, Bool.and_eq_true, List.all_eq_true, decide_eq_true_eq, beq_iff_eq] at h
  obtain ⟨⟨⟨⟨h1, h2⟩, h3⟩, h4⟩, h5⟩ := h
  refine ⟨?_, h2, h3, h4, fun m hm => ⟨(h5 m hm).1.1, (h5 m hm).1.2, (h5 m hm).2⟩⟩
  have : B.z = 2 ∨ B.z = 4 ∨ B.z = 8 ∨ B.z = 16 ∨ B.z = 32 ∨ B.z = 64 := by simpa using h1
  rcases this with h | h | h | h | h | h
  · exact ⟨0, by omega, h⟩
  · exact ⟨1, by omega, h⟩
  · exact ⟨2, by omega, h⟩
  · exact ⟨3, by omega, h⟩
  · exact ⟨4, by omega, h⟩
  · exact ⟨5, by omega, h⟩
theorem newB_ok0 : ((List.range 65).all fun n => n < 2 || okB (newB n)) = true := by decide +kernel
theorem newB_ok {n : Nat} (h1 : 2 ≤ n) (h2 : n ≤ 64) : (newB n).Ok := by
  have h := List.all_eq_true.1 newB_ok0 n (List.mem_range.2 (by omega))
  have h3 : ¬ n < 2 := by omega
  simp only [h3, decide_false, Bool.false_or] at h
  exact okB_ok h
theorem newB_3 : (newB 3).ms.length = 3 ∧ (newB 3).winner 0 = 1 ∧ (newB 3).ready 3 = [1] := by decide +kernel
set_option maxRecDepth 100000 in
theorem known_any (w : World) : Calls Try.prog 9 #[] w (LawPost w) := by
  have ho := Lib.hid (new_yes 3 w (by omega) (by omega))
  obtain ⟨n1, n2, n3⟩ := newB_3
  generalize hB : newB 3 = B at *
  have hB2 : newB 3 = B := hB
  have ho2 : Hid (Calls Try.prog 10 #[.int .i64 3] w (NewYes 3 B w)) := by
    have := ho.out; unfold NewPost at this; rw [hB2] at this; exact this
  have hl : B.ms.length ≤ 64 := by omega
  replace n1 := Lib.hid n1
  replace n2 := Lib.hid n2
  replace n3 := Lib.hid n3
  clear ho hB hB2
  go_enter Try.func9, Try.ntmps9
  go_wp2_with fail
  refine ho2.out.mono ?_
  rintro e w1 ⟨b, g, h, R, rfl, hs⟩
  go_wp2_with fail
  refine (winner_any b g h B 0 _ hs.own.left hl).mono ?_
  rintro e w2 ⟨rfl, rfl⟩
  rw [n2.out]
  go_wp2_with fail
  refine (ready_any b g h B _ hs.own.left hl).mono ?_
  rintro e w2 ⟨a, c, H, rfl, hr, hs2⟩
  rw [n1.out, n3.out] at hr ⊢
  have hs3 := hs.call0 hs2
  go_wp2_with fail
  have hal := hs3.alloc (.cells #[.int .i64 1] 3)
  refine (ints_any _ _ _ _ _ _ ([1].map fun (x : Nat) => (x : Int)) [1] _ (hr.nums hal.own.tail.right) ⟨rfl, fun i hi => ⟨w2.heap.size, 0, rfl, ?_⟩⟩ (by simp) (by simp)).mono ?_
  · have hb := heap_alloc_new w2 (.cells #[.int .i64 1] 3)
    have hi' : i = 0 := by simp at hi; omega
    subst hi'
    exact cells1 hb
  · rintro e w3 ⟨rfl, hs4⟩
    have hd : decide (([1].map fun (x : Nat) => (x : Int)) = [1]) = true := by decide
    rw [hd]
    have hs5 := hal.call0 hs4
    go_wp2_with fail
    refine (matches_any b g h B _ hs5.own.left.tail.left.left).mono ?_
    rintro e w2 ⟨rfl, rfl⟩
    rw [n1.out]
    go_wp2
    go_ret
    exact ⟨rfl, hs5.forget (A := [])⟩
end Go.Proofs.Ytdkjgkbddehaiaa
