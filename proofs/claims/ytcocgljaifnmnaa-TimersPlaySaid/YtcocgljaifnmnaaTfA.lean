/- The reference of timers: find, Set. -/
import Derived.Test.YtcocgljaifnmnaaTmR
import Derived.Test.YtcocgljaifnmnaaSlk
namespace Go.Proofs.Ytcocgljaifnmnaa
open Go.RowKit
attribute [local go_sem ↓] Go.wp_at_zero Go.wp_at_succ

def tc (x : Int × Int) : List Value := [ii x.1, ii x.2]
theorem tc_len (x : Int × Int) : (tc x).length = 2 := rfl
theorem tc_one (x : Int × Int) : ∀ u ∈ tc x, u.oneCell' = true := by simp [tc, Value.oneCell']
theorem st_tf : SlTy Try.prog 34 59 2 16 (.agg #[.int .i64 0, .int .i64 0]) := ⟨by kernel_rfl, by kernel_rfl, rfl, by decide⟩
def tfHead (b : Nat) (a : Option Addr) (n c : Nat) : Nat × Obj := (b, .cells #[.slice a n c] 36 (0, 0))
/-- The reference's timers with the things L, in their order. -/
def TfRep (b : Nat) (L : List (Int × Int)) (H : Heaplet) : Prop :=
  ∃ a c HA, H = tfHead b a L.length c :: HA ∧ SlRep 59 2 a L.length c (L.flatMap tc) HA
def TfS (b : Nat) (L : List (Int × Int)) (H : Heaplet) : Prop := TfRep b L H ∧ (L.map Prod.fst).Nodup
theorem tf_at {a : Option Addr} {c : Nat} {L : List (Int × Int)} {HA : Heaplet} (h : SlRep 59 2 a L.length c (L.flatMap tc) HA) {w : World} (hw : Own w HA) {i : Nat} {x : Int × Int} (hi : L[i]? = some x) :
    ∃ g, a = some ⟨g, 0, none⟩ ∧ L.length ≤ c ∧ c ≤ maxLen ∧ (∀ j, w.frozen? ⟨g, j, none⟩ = false) ∧ w.cell? ⟨g, i * 2, none⟩ = some (ii x.1) ∧ w.cell? ⟨g, i * 2 + 1, none⟩ = some (ii x.2) := by
  obtain ⟨g, h1, h2, h3, h4, h5⟩ := slk_at tc_len h rfl hw hi (by decide)
  exact ⟨g, h1, h2, h3, h4, h5 0 _ rfl, h5 1 _ rfl⟩
def FindPost (L : List (Int × Int)) (id : Int) (w : World) (e : Ending) (w' : World) : Prop :=
  w = w' ∧ ((hasS L id = false ∧ e = .returned (ii (-1))) ∨ ∃ i at', i < L.length ∧ L[i]? = some (id, at') ∧ e = .returned (iv i))
theorem find_any (b : Nat) (L : List (Int × Int)) (id : Int) (H : Heaplet) (w : World) (h : TfRep b L H) (hw : Own w H) (hl : L.length ≤ 5000) :
    Calls Try.prog 23 #[pt b, ii id] w (FindPost L id w) := by
  obtain ⟨a, c, HA, rfl, hr⟩ := h
  have c0 := cells1 hw.h0
  obtain ⟨n, hn⟩ : ∃ n, n = L.length := ⟨_, rfl⟩
  have b1 : (n : Int) ≤ 5000 := by omega
  have hat := Lib.hid (fun i x (hi : L[i]? = some x) => tf_at hr hw.tail hi)
  clear hr hw
  rw [← hn] at c0 hat
  replace hn := Lib.hid hn
  go_enter Try.func23, Try.ntmps23
  go_wp2_with fail
  go_loop [5] (fun v => ∃ k : Nat, k ≤ n ∧ v = .int .i64 (k : Nat) ∧ ∀ j x, j < k → L[j]? = some x → x.1 ≠ id) (fun v => n - (intOf v).toNat)
  case atStart => exact ⟨0, Nat.zero_le _, rfl, fun j x hj => absurd hj (Nat.not_lt_zero _)⟩
  case round =>
    obtain ⟨k, hk, rfl, hno⟩ := hrel
    have d0 : (0 : Int) ≤ (k : Int) := by omega
    replace hno := Lib.hid hno
    by_cases hlt : k < n
    · have d1 : (k : Int) < (n : Int) := by omega
      obtain ⟨⟨y1, y2⟩, hy⟩ : ∃ y, L[k]? = some y := ⟨_, List.getElem?_eq_getElem (by rw [← hn.out]; exact hlt)⟩
      obtain ⟨g, rfl, h2, h3, _, x0, x1⟩ := hat.out k _ hy
      replace hy := Lib.hid hy
      by_cases heq : y1 = id
      · subst heq
        go_wp2_with fail
        go_ret
        exact ⟨rfl, .inr ⟨k, y2, by rw [← hn.out]; exact hlt, hy.out, rfl⟩⟩
      · have e1 : (y1 == id) = false := beq_eq_false_iff_ne.2 heq
        replace heq := Lib.hid heq
        go_wp2_with fail
        refine ⟨⟨k + 1, by omega, by go_num, fun j x hj hx => ?_⟩, by simp [intOf]; omega⟩
        rcases Nat.lt_succ_iff_lt_or_eq.1 hj with hj | rfl
        · exact hno.out j x hj hx
        · have := hy.out
          rw [this] at hx
          cases hx
          exact heq.out
    · have d1 : (n : Int) ≤ (k : Int) := by omega
      go_wp2_with fail
      go_ret
      refine ⟨rfl, .inl ⟨?_, rfl⟩⟩
      rw [Bool.eq_false_iff]
      intro hh
      unfold hasS at hh
      obtain ⟨y, hy, e⟩ := List.any_eq_true.1 hh
      obtain ⟨j, hj, rfl⟩ := List.mem_iff_getElem.1 hy
      exact hno.out j _ (by rw [← hn.out] at hj; omega) (List.getElem?_eq_getElem hj) (by simpa using e)
theorem setS_ids {S : List (Int × Int)} (h : (S.map Prod.fst).Nodup) (id at' : Int) : ((setS S id at').2.map Prod.fst).Nodup := by
  unfold setS
  split
  · rename_i hh
    rw [List.map_map]
    have : (S.map (Prod.fst ∘ fun x => if x.1 = id then (id, at') else x)) = S.map Prod.fst := by
      apply List.map_congr_left
      intro x _
      simp only [Function.comp]
      split
      · rename_i e; exact e.symm
      · rfl
    rw [this]; exact h
  · rename_i hh
    split
    · exact h
    · rw [List.map_append, List.nodup_append]
      refine ⟨h, by simp, fun x hx y hy e => hh ?_⟩
      simp at hy
      subst hy e
      obtain ⟨z, hz, e⟩ := List.mem_map.1 hx
      unfold hasS
      exact List.any_eq_true.2 ⟨z, hz, by simpa using e⟩
/-- Found: its place is set anew. -/
theorem setS_found {L : List (Int × Int)} (hd : (L.map Prod.fst).Nodup) {i : Nat} {id a0 at' : Int} (hi : L[i]? = some (id, a0)) : setS L id at' = (true, L.set i (id, at')) := by
  unfold setS
  have hh : hasS L id = true := List.any_eq_true.2 ⟨_, List.mem_of_getElem? hi, by simp⟩
  rw [if_pos hh]
  congr 1
  apply List.ext_getElem?
  intro k
  rw [List.getElem?_map, List.getElem?_set]
  obtain ⟨hil, e1⟩ := List.getElem?_eq_some_iff.1 hi
  by_cases hki : i = k
  · subst hki
    rw [if_pos rfl, if_pos hil, hi]; simp
  · rw [if_neg hki]
    cases hx : L[k]? with
    | none => rfl
    | some x =>
      simp only [Option.map_some]
      rw [if_neg]
      intro e
      obtain ⟨hkl, e2⟩ := List.getElem?_eq_some_iff.1 hx
      have b := List.pairwise_iff_getElem.1 hd
      simp only [List.length_map, List.getElem_map] at b
      rcases Nat.lt_or_gt_of_ne hki with h | h
      · exact b i k hil hkl h (by rw [e1, e2]; exact e.symm)
      · exact b k i hkl hil h (by rw [e1, e2]; exact e)
def TfSetPost (b : Nat) (x : Bool × List (Int × Int)) (H : Heaplet) (w : World) (e : Ending) (w' : World) : Prop := e = .returned (.bool x.1) ∧ ∃ H', TfS b x.2 H' ∧ Step w H w' H'
set_option maxRecDepth 100000 in
set_option maxHeartbeats 1000000 in
theorem tfset_any (b : Nat) (L : List (Int × Int)) (id at' : Int) (H : Heaplet) (w : World) (h : TfS b L H) (hw : Own w H) (hl : L.length ≤ 4096) :
    Calls Try.prog 13 #[pt b, ii id, ii at'] w (TfSetPost b (setS L id at') H w) := by
  obtain ⟨h, hd⟩ := h
  have hfi := Lib.hid (find_any b L id H w h hw (by omega))
  have hids := Lib.hid (setS_ids hd id at')
  replace hd := Lib.hid hd
  obtain ⟨a, c, HA, rfl, hr⟩ := h
  have c0 := cells1 hw.h0
  have f0 := frz_of (i := 0) hw.h0
  have s0 := Step.refl hw
  obtain ⟨n, hn⟩ : ∃ n, n = L.length := ⟨_, rfl⟩
  have hr2 := Lib.hid hr
  unfold tfHead at s0
  unfold FindPost at hfi
  rw [← hn] at c0 hl hr s0
  have b1 : (n : Int) ≤ 4096 := by omega
  replace hn := Lib.hid hn
  generalize hP : setS L id at' = P at hids ⊢
  replace hP := Lib.hid hP
  go_enter Try.func13, Try.ntmps13
  go_wp2_with fail
  refine hfi.out.mono ?_
  rintro e w1 ⟨rfl, ⟨hno, rfl⟩ | ⟨i, a0, hi, hx, rfl⟩⟩
  · replace hno := Lib.hid hno
    by_cases hf : 4096 ≤ n
    · have g1 : (4096 : Int) ≤ (n : Int) := by omega
      have he : setS L id at' = (false, L) := by unfold setS; rw [hno.out, ← hn.out]; simp; omega
      rw [hP.out] at he
      subst he
      go_wp2_with fail
      go_ret
      exact ⟨rfl, _, ⟨⟨a, c, HA, rfl, hr2.out⟩, hd.out⟩, Step.refl hw⟩
    · have g1 : (n : Int) < 4096 := by omega
      have he : setS L id at' = (true, L ++ [(id, at')]) := by unfold setS; rw [hno.out, ← hn.out]; simp; omega
      rw [hP.out] at he
      subst he
      go_wp2_with (at_builtin; refine wpList_app rfl st_tf _ _ rfl (by rfl) (by rfl) hr ((s0.alloc _).own.tail.tail) (rdCells_block (heap_alloc_new _ _) rfl (by simp [Value.oneCell'])) (by unfold maxLen; omega) (by omega) ?_; intro a6 c6 w6 H6 hr6 hst6; have sA := (Step.callR (R := [_, _]) (s0.alloc _) hst6).tail; have y0 := cells1 sA.own.h0; have fy := frz_of (i := 0) sA.own.h0)
      have sB := Step.store0 (.slice a6 (n + 1) c6) (i := 0) sA
      go_ret
      refine ⟨rfl, _, ⟨⟨a6, c6, H6, rfl, ?_⟩, hids.out⟩, ?_⟩
      · rw [List.length_append, ← hn.out, List.flatMap_append]; exact hr6
      · rw [List.length_append, ← hn.out]
        unfold tfHead
        exact sB
  · have he := setS_found (at' := at') hd.out hx
    rw [hP.out] at he
    subst he
    obtain ⟨g, rfl, h2, h3, fg, x0, x1⟩ := tf_at hr2.out hw.tail hx
    have d0 : (0 : Int) ≤ (i : Int) := by omega
    have d1 : (i : Int) < (n : Int) := by have := hn.out; omega
    obtain ⟨H6, hr6, s6⟩ := slk_put (A := [_]) (B := []) tc_len (by rw [List.append_nil]; exact s0) hr2.out hx (j := 1) (x' := (id, at')) (v := ii at') (by decide) rfl
    rw [List.append_nil] at s6
    replace hx := Lib.hid hx
    go_wp2_with fail
    go_ret
    refine ⟨rfl, _, ⟨⟨_, c, H6, rfl, by rw [List.length_set]; exact hr6⟩, hids.out⟩, ?_⟩
    rw [List.length_set]
    unfold tfHead
    rw [← hn.out]
    exact s6
end Go.Proofs.Ytcocgljaifnmnaa
