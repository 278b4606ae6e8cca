/- Two lists of texts. -/
import Derived.Test.YtdolbeonpkanpaaGreatDoorMDkU
import Derived.Test.YtdolbeonpkanpaaGreatDoorMPure
set_option linter.unusedVariables false
set_option linter.unusedSimpArgs false
namespace Go.Proofs.YtdolbeonpkanpaaGreatDoor
open Go.RowKit
attribute [local go_sem ↓] Go.wp_at_zero Go.wp_at_succ

def nmC (x : Nm) : List Value := [strV x]
abbrev RdNs (w : World) (a : Option Addr) (n c : Nat) (l : List Nm) : Prop := RdRecs w a n c 1 nmC l
theorem SlRep.rdNs {E : Nat} {a : Option Addr} {n c : Nat} {l : List Nm} {H : Heaplet} (h : SlRep E 1 a n c (l.map strV) H) {w : World} (hw : Own w H) : RdNs w a n c l := by
  obtain ⟨hl, h⟩ := h
  have hl' : n = l.length := by simpa using hl.symm
  rcases h with ⟨rfl, rfl, rfl, rfl⟩ | ⟨g, cur, rfl, rfl, h2, h3, h4, h5⟩
  · exact ⟨hl', Nat.le_refl _, Nat.zero_le _, fun hne => absurd (List.eq_nil_of_length_eq_zero hl'.symm) hne⟩
  · refine ⟨hl', h2, h3, fun _ => ⟨g, 0, rfl, fun i x hx j v hj => ?_⟩⟩
    have h0 : j = 0 := by have := (List.getElem?_eq_some_iff.1 hj).1; simp [nmC] at this; omega
    subst h0
    have hv : v = strV x := by simpa [nmC] using hj.symm
    subst hv
    refine cell_of hw.head ?_
    have : (cur.toList.take (n * 1))[i]? = some (strV x) := by rw [h5]; simp [hx]
    rw [List.getElem?_take] at this
    split at this
    · simpa using this
    · cases this
def TxRel (la lb : List Nm) (w : World) (v : Value) (wr : World) : Prop := ∃ k : Nat, k ≤ la.length ∧ v = .int .i64 k ∧ la.take k = lb.take k ∧ Step w [] wr []
set_option maxRecDepth 100000 in
theorem texts_any (a b : Option Addr) (n c m d : Nat) (la lb : List Nm) (w : World) (ha : RdNs w a n c la) (hb : RdNs w b m d lb) :
    Calls Tryz.prog 36 #[.slice a n c, .slice b m d] w fun e w' => e = .returned (.bool (decide (la = lb))) ∧ Step w [] w' [] := by
  have hn := ha.1
  have hm := hb.1
  subst hn hm
  by_cases hlen : la.length = lb.length
  · have q1 : ((la.length : Int) != (lb.length : Int)) = false := by rw [hlen]; simp
    have q2 : (la.length : Int) ≤ 9223372036854775807 := by have := ha.2.1; have := ha.2.2.1; unfold maxLen at this; omega
    have q3 : (la.length : Int) ≤ (lb.length : Int) := by omega
    have q4 : (la.length : Int) ≤ (c : Int) := by have := ha.2.1; omega
    have q5 : (lb.length : Int) ≤ (d : Int) := by have := hb.2.1; omega
    replace ha := Lib.hid ha
    replace hb := Lib.hid hb
    replace hlen := Lib.hid hlen
    go_enter Tryz.func36, Tryz.ntmps36
    go_wp2
    go_loopw [5] (fun v wr => TxRel la lb w v wr) (fun v _ => la.length - (intOf v).toNat)
    case atStart => exact ⟨0, Nat.zero_le _, rfl, rfl, Step.refl (Own.nil _)⟩
    case round =>
      obtain ⟨k, hk, rfl, htk, hs⟩ := hrel
      replace htk := Lib.hid htk
      have b1 : (0 : Int) ≤ (k : Int) := by omega
      by_cases hlt : k < la.length
      · have b2 : (k : Int) < (la.length : Int) := by omega
        have b3 : (k : Int) < (lb.length : Int) := by omega
        have hkb : k < lb.length := by omega
        obtain ⟨ba, oa, ea, hca⟩ := (ha.out.later hs).at' (List.getElem?_eq_getElem hlt)
        obtain ⟨bb, ob, eb, hcb⟩ := (hb.out.later hs).at' (List.getElem?_eq_getElem hkb)
        subst ea eb
        have r1 := hca 0 _ rfl
        have r2 := hcb 0 _ rfl
        simp only [Nat.mul_one, Nat.add_zero] at r1 r2
        clear hca hcb
        have e1 : la[k]'hlt = la[k]'hlt := rfl
        generalize hx : la[k]'hlt = x at r1
        generalize hy : lb[k]'hkb = y at r2
        have hxy : x = y → la.take (k + 1) = lb.take (k + 1) := fun e => by
          rw [List.take_succ_eq_append_getElem hlt, List.take_succ_eq_append_getElem hkb, htk.out, hx, hy, e]
        replace hxy := Lib.hid hxy
        replace hx := Lib.hid hx
        replace hy := Lib.hid hy
        have d1 : (⟨x.toArray⟩ : ByteArray).toList = x := by rw [ByteArray.toList_eq]
        have d2 : (⟨y.toArray⟩ : ByteArray).toList = y := by rw [ByteArray.toList_eq]
        by_cases he : x = y
        · subst he
          have q6 : (x == x) = true := by simp
          go_wp2
          go_quiet (fail)
          go_wp2
          exact ⟨⟨k + 1, by omega, by go_num, hxy.out (by first | rfl | trivial), hs.drewN _⟩, by simp [intOf]; omega⟩
        · have q6 : (x == y) = false := beq_eq_false_iff_ne.2 he
          replace he := Lib.hid he
          go_wp2
          go_quiet (fail)
          go_wp2
          go_ret
          refine ⟨?_, hs.drewN _⟩
          rw [decide_eq_false]
          · rfl
          · intro e
            subst e
            exact he.out (by rw [← hx.out, ← hy.out])
      · go_wp2
        go_ret
        refine ⟨?_, hs⟩
        rw [decide_eq_true]
        · rfl
        · have := htk.out
          rwa [List.take_of_length_le (by omega), List.take_of_length_le (by have := hlen.out; omega)] at this
  · have q1 : ((la.length : Int) != (lb.length : Int)) = true := by rw [bne_iff_ne]; omega
    replace hlen := Lib.hid hlen
    clear ha hb
    go_enter Tryz.func36, Tryz.ntmps36
    go_wp2
    go_ret
    refine ⟨?_, Step.refl (Own.nil _)⟩
    rw [decide_eq_false]
    · rfl
    · intro e; subst e; exact hlen.out rfl
end Go.Proofs.YtdolbeonpkanpaaGreatDoor
