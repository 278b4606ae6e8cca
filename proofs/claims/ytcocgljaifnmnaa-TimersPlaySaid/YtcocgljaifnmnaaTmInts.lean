/- Two lists of numbers held against each other. -/
import Derived.Test.YtcocgljaifnmnaaMore
import Derived.Test.YtcocgljaifnmnaaReg
namespace Go.Proofs.Ytcocgljaifnmnaa
open Go.RowKit
attribute [local go_sem ↓] Go.wp_at_zero Go.wp_at_succ

/-- '.slice a n _' reads in w as the numbers l. -/
def RdNums (w : World) (a : Option Addr) (n : Nat) (l : List Int) : Prop := n = l.length ∧ ∀ i (hi : i < l.length), ∃ b off, a = some ⟨b, off, none⟩ ∧ w.cell? ⟨b, off + i, none⟩ = some (.int .i64 l[i])
theorem SlRep.nums {E : Nat} {a : Option Addr} {n c : Nat} {l : List Nat} {H : Heaplet} (h : SlRep E 1 a n c (l.map iv) H) {w : World} (hw : Own w H) : RdNums w a n (l.map fun (x : Nat) => (x : Int)) := by
  refine ⟨by have := h.1; simp at this ⊢; omega, fun i hi => ?_⟩
  have hi' : i < l.length := by simpa using hi
  obtain ⟨g, ha, hc, _⟩ := slRep_at h hw (i := i) (v := iv l[i]) (by rw [List.getElem?_map, List.getElem?_eq_getElem hi']; rfl)
  exact ⟨g, 0, ha, by rw [hc]; simp⟩
theorem RdNums.later {w w' : World} {a : Option Addr} {n : Nat} {l : List Int} (h : RdNums w a n l) {H : Heaplet} (s : Step w [] w' H) : RdNums w' a n l :=
  ⟨h.1, fun i hi => by
    obtain ⟨b, off, ha, hc⟩ := h.2 i hi
    exact ⟨b, off, ha, by rw [World.cell?_of_block (w := w) (s.frame b (World.block_lt_of_cell? w _ hc) (by simp [dom]))]; exact hc⟩⟩
theorem SlRep.numsI {E : Nat} {a : Option Addr} {n c : Nat} {l : List Int} {H : Heaplet} (h : SlRep E 1 a n c (l.map ii) H) {w : World} (hw : Own w H) : RdNums w a n l := by
  refine ⟨by have := h.1; simp at this ⊢; omega, fun i hi => ?_⟩
  obtain ⟨g, ha, hc, _⟩ := slRep_at h hw (i := i) (v := ii l[i]) (by rw [List.getElem?_map, List.getElem?_eq_getElem hi]; rfl)
  exact ⟨g, 0, ha, by rw [hc]⟩
def IntsRel (la lb : List Int) (w : World) (v : Value) (wr : World) : Prop := ∃ k : Nat, k ≤ la.length ∧ v = .int .i64 k ∧ la.take k = lb.take k ∧ Step w [] wr []
def IntsPost (la lb : List Int) (w : World) (e : Ending) (w' : World) : Prop := e = .returned (.bool (decide (la = lb))) ∧ Step w [] w' []
theorem takeI_snoc {la lb : List Int} {k : Nat} (ha : k < la.length) (hb : k < lb.length) (h : la.take k = lb.take k) (he : la[k] = lb[k]) : la.take (k + 1) = lb.take (k + 1) := by
  rw [List.take_succ_eq_append_getElem ha, List.take_succ_eq_append_getElem hb, h, he]
set_option maxRecDepth 100000 in
theorem ints_any (a b : Option Addr) (n c m d : Nat) (la lb : List Int) (w : World) (ha : RdNums w a n la) (hb : RdNums w b m lb) (hl : la.length ≤ 140737488355328) (hl' : lb.length ≤ 140737488355328) :
    Calls Try.prog 16 #[.slice a n c, .slice b m d] w (IntsPost la lb w) := by
  have hn := ha.1
  have hm := hb.1
  subst hn hm
  by_cases hlen : la.length = lb.length
  · have q1 : ((la.length : Int) != (lb.length : Int)) = false := by rw [hlen]; simp
    have q2 : (la.length : Int) ≤ 140737488355328 := by omega
    have q3 : (la.length : Int) ≤ (lb.length : Int) := by omega
    replace ha := Lib.hid ha
    replace hb := Lib.hid hb
    replace hlen := Lib.hid hlen
    go_enter Try.func16, Try.ntmps16
    go_wp2
    go_loopw [5] (fun v wr => IntsRel la lb w v wr) (fun v _ => la.length - (intOf v).toNat)
    case atStart => exact ⟨0, Nat.zero_le _, rfl, rfl, Step.refl (Own.nil _)⟩
    case round =>
      obtain ⟨k, hk, rfl, htk, hs⟩ := hrel
      replace htk := Lib.hid htk
      have b1 : (0 : Int) ≤ (k : Int) := by omega
      by_cases hlt : k < la.length
      · have b2 : (k : Int) < (la.length : Int) := by omega
        have b3 : (k : Int) < (lb.length : Int) := by omega
        have hkb : k < lb.length := by omega
        obtain ⟨ba, oa, ea, r1⟩ := (ha.out.later hs).2 k hlt
        obtain ⟨bb, ob, eb, r2⟩ := (hb.out.later hs).2 k hkb
        subst ea eb
        by_cases he : la[k] = lb[k]
        · have q4 : (la[k] != lb[k]) = false := by rw [he]; simp
          replace he := Lib.hid he
          go_wp2
          go_quiet (fail)
          go_wp2
          exact ⟨⟨k + 1, by omega, by go_num, takeI_snoc hlt hkb htk.out he.out, hs.drewN _⟩, by simp [intOf]; omega⟩
        · have q4 : (la[k] != lb[k]) = true := by rw [bne_iff_ne]; exact he
          replace he := Lib.hid he
          go_wp2
          go_quiet (fail)
          go_wp2
          go_ret
          refine ⟨?_, hs.drewN _⟩
          rw [decide_eq_false]
          · rfl
          · intro e; subst e; exact he.out rfl
      · go_wp2
        go_ret
        refine ⟨?_, hs⟩
        rw [decide_eq_true]
        · rfl
        · have := htk.out
          rwa [List.take_of_length_le (by omega), List.take_of_length_le (by have := hlen.out; omega)] at this
  · have q1 : ((la.length : Int) != (lb.length : Int)) = true := by rw [bne_iff_ne]; omega
    replace hlen := Lib.hid hlen
    clear ha hb
    go_enter Try.func16, Try.ntmps16
    go_wp2
    go_ret
    refine ⟨?_, Step.refl (Own.nil _)⟩
    rw [decide_eq_false]
    · rfl
    · intro e; subst e; exact hlen.out rfl


theorem ints_same (a b : Option Addr) (n c m d : Nat) (l : List Int) (w : World) (ha : RdNums w a n l) (hb : RdNums w b m l) (hl : l.length ≤ 140737488355328) :
    Calls Try.prog 16 #[.slice a n c, .slice b m d] w (LawPost w) :=
  (ints_any a b n c m d l l w ha hb hl hl).mono fun e w' h => ⟨by rw [h.1, decide_eq_true rfl], h.2⟩
end Go.Proofs.Ytcocgljaifnmnaa
