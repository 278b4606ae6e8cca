import Derived.Test.YtliapfdbagcklaaNetK
import Derived.Test.YtliapfdbagcklaaPure
namespace Go.Proofs.Ytliapfdbagcklaa
open Go.RowKit
attribute [local go_sem ↓] Go.wp_at_zero Go.wp_at_succ

def SameRel (la lb : List UInt8) (w : World) (v : Value) (wr : World) : Prop := ∃ k : Nat, k ≤ la.length ∧ v = .int .i64 k ∧ la.take k = lb.take k ∧ Step w [] wr []
def SamePost (la lb : List UInt8) (w : World) (e : Ending) (w' : World) : Prop := e = .returned (.bool (decide (la = lb))) ∧ Step w [] w' []
theorem Step.drewN {w w' : World} {H H' : Heaplet} (h : Step w H w' H') (n : Nat) : Step w H (w'.drewN n) H' :=
  ⟨h.os, h.tape, h.output, h.size, h.frame, h.own.eq fun _ _ => rfl, h.keys⟩
theorem take_eq_snoc {la lb : List UInt8} {k : Nat} (ha : k < la.length) (hb : k < lb.length) (h : la.take k = lb.take k) (he : la[k] = lb[k]) : la.take (k + 1) = lb.take (k + 1) := by
  rw [List.take_succ_eq_append_getElem ha, List.take_succ_eq_append_getElem hb, h, he]
theorem u8_ne {x y : UInt8} (h : x ≠ y) : ((x.toNat : Int) != (y.toNat : Int)) = true := by
  rw [bne_iff_ne]; intro e; exact h (UInt8.toNat_inj.1 (by omega))
theorem u8_eq {x y : UInt8} (h : x = y) : ((x.toNat : Int) != (y.toNat : Int)) = false := by subst h; simp
set_option maxRecDepth 100000 in
theorem same_any (a b : Option Addr) (n c m d : Nat) (la lb : List UInt8) (w : World) (ha : RdBytes w a n c la) (hb : RdBytes w b m d lb) (hl : la.length ≤ 140737488355328) (hl' : lb.length ≤ 140737488355328) :
    Calls Try.prog 12 #[.slice a n c, .slice b m d] w (SamePost la lb w) := by
  have hn := ha.1
  have hm := hb.1
  subst hn hm
  by_cases hlen : la.length = lb.length
  · have q1 : ((la.length : Int) != (lb.length : Int)) = false := by rw [hlen]; simp
    have q2 : (la.length : Int) ≤ 140737488355328 := by omega
    have q3 : (la.length : Int) ≤ (lb.length : Int) := by omega
    replace ha := Lib.hid ha
    replace hb := Lib.hid hb
    replace hlen := Lib.hid hlen
    go_enter Try.func12, Try.ntmps12
    go_wp2
    go_loopw [5] (fun v wr => SameRel la lb w v wr) (fun v _ => la.length - (intOf v).toNat)
    case atStart => exact ⟨0, Nat.zero_le _, rfl, rfl, Step.refl (Own.nil _)⟩
    case round =>
      obtain ⟨k, hk, rfl, htk, hs⟩ := hrel
      replace htk := Lib.hid htk
      have b1 : (0 : Int) ≤ (k : Int) := by omega
      by_cases hlt : k < la.length
      · have b2 : (k : Int) < (la.length : Int) := by omega
        have b3 : (k : Int) < (lb.length : Int) := by omega
        have hkb : k < lb.length := by omega
        obtain ⟨ba, oa, ea, _, _, hca⟩ := (ha.out.later hs (by simp [dom])).place (by intro e; subst e; simp at hlt)
        obtain ⟨bb, ob, eb, _, _, hcb⟩ := (hb.out.later hs (by simp [dom])).place (by intro e; subst e; simp at hkb)
        subst ea eb
        have r1 := hca k hlt
        have r2 := hcb k hkb
        clear hca hcb
        by_cases he : la[k] = lb[k]
        · have q4 := u8_eq he
          replace he := Lib.hid he
          go_wp2
          go_quiet (fail)
          go_wp2
          exact ⟨⟨k + 1, by omega, by go_num, take_eq_snoc hlt hkb htk.out he.out, hs.drewN _⟩, by simp [intOf]; omega⟩
        · have q4 := u8_ne he
          replace he := Lib.hid he
          go_wp2
          go_quiet (fail)
          go_wp2
          go_ret
          refine ⟨?_, hs.drewN _⟩
          rw [decide_eq_false]
          · rfl
          · intro e; subst e; exact he.out rfl
      · go_wp2
        go_ret
        refine ⟨?_, hs⟩
        rw [decide_eq_true]
        · rfl
        · have := htk.out
          rwa [List.take_of_length_le (by omega), List.take_of_length_le (by have := hlen.out; omega)] at this
  · have q1 : ((la.length : Int) != (lb.length : Int)) = true := by rw [bne_iff_ne]; omega
    replace hlen := Lib.hid hlen
    clear ha hb
    go_enter Try.func12, Try.ntmps12
    go_wp2
    go_ret
    refine ⟨?_, Step.refl (Own.nil _)⟩
    rw [decide_eq_false]
    · rfl
    · intro e; subst e; exact hlen.out rfl
end Go.Proofs.Ytliapfdbagcklaa
