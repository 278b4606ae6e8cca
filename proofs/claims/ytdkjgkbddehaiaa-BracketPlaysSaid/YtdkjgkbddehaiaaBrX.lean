/- The reference's bracket: what it holds, tied to the program's. -/
import Derived.Test.YtdkjgkbddehaiaaBrV
import Derived.Test.YtdkjgkbddehaiaaBrU
import Derived.Test.YtdkjgkbddehaiaaRefOrd
namespace Go.Proofs.Ytdkjgkbddehaiaa
open Go.RowKit

/-- W: of each match which seat won (-1: not yet). -/
structure Tie (B : Br) (W : List Int) : Prop where
  len : W.length = B.ms.length
  at' : ∀ (j : Nat) (m : Mt), B.ms[j]? = some m → (W[j]? = some (-1) ∧ (m.w = 0 ∨ (j < B.z / 2 ∧ (m.s0 = 0 ∨ m.s1 = 0)))) ∨ (∃ k : Nat, k < 2 ∧ W[j]? = some (k : Int) ∧ m.w = m.seat k ∧ m.s0 ≠ 0 ∧ m.s1 ≠ 0)
  out : ∀ s, 1 ≤ s → s ≤ B.n → (B.out.getD s false = true ↔ ∃ (j : Nat) (m : Mt) (k : Nat), B.ms[j]? = some m ∧ k < 2 ∧ W[j]? = some (k : Int) ∧ m.seat (1 - k) = s)
theorem tie_told {B : Br} {W : List Int} (h : Tie B W) (hi : B.Inv) {i k : Nat} {m : Mt} (hm : B.ms[i]? = some m) (hr : m.rdy = true) (hk : k < 2) : Tie (B.told i k m) (W.set i (k : Int)) := by
  have hr' := hr
  simp [Mt.rdy] at hr'
  obtain ⟨w0, h0, h1⟩ := hr'
  have hil := (List.getElem?_eq_some_iff.1 hm).1
  have hWi : W[i]? = some (-1) := by
    rcases h.at' i m hm with ⟨e, _⟩ | ⟨k', _, _, e, p, q⟩
    · exact e
    · exfalso; unfold Mt.seat at e; split at e <;> omega
  have hle := hi.ok.le m (List.mem_of_getElem? hm)
  have hsk : m.seat k ≠ 0 ∧ m.seat (1 - k) ≠ 0 ∧ m.seat (1 - k) ≤ B.n := by rcases seat_cases m hk with ⟨e, e'⟩ | ⟨e, e'⟩ <;> rw [e, e'] <;> omega
  -- what a match is behind the report
  have key : ∀ (j : Nat) (x : Mt), (B.told i k m).ms[j]? = some x → (i = j ∧ x = { m with w := m.seat k }) ∨ (i ≠ j ∧ B.ms[j]? = some x) ∨
      (i ≠ j ∧ i + 2 < B.z ∧ B.z / 2 + i / 2 = j ∧ W[j]? = some (-1) ∧ x.w = 0) := by
    intro j x hj
    rw [told_get hi hm] at hj
    obtain ⟨y, hy, e⟩ := Option.map_eq_some_iff.1 hj
    by_cases hij : i = j
    · subst hij; rw [if_pos rfl] at e; rw [hm] at hy; cases hy; exact .inl ⟨rfl, e.symm⟩
    · rw [if_neg hij] at e
      by_cases hp : i + 2 < B.z ∧ B.z / 2 + i / 2 = j
      · rw [if_pos hp] at e
        obtain ⟨y', hy', yw, ys0, ys1, _⟩ := hi.parent hm w0 hp.1
        rw [hp.2, hy] at hy'; cases hy'
        refine .inr (.inr ⟨hij, hp.1, hp.2, ?_, by rw [← e, (put_s _ _ _).1, yw]⟩)
        rcases h.at' j y hy with ⟨e, _⟩ | ⟨k', _, _, e, p, q⟩
        · exact e
        · exfalso; rw [yw] at e; unfold Mt.seat at e; split at e <;> omega
      · rw [if_neg hp] at e; subst e; exact .inr (.inl ⟨hij, hy⟩)
  refine ⟨?_, ?_, ?_⟩
  · rw [List.length_set, h.len]
    show B.ms.length = (B.win i _).ms.length
    rw [win_len]
  · intro j x hj
    show _ ∨ _
    rcases key j x hj with ⟨rfl, rfl⟩ | ⟨hij, hx⟩ | ⟨hij, hp1, hp2, hw, x0⟩
    · refine .inr ⟨k, hk, ?_, rfl, h0, h1⟩
      rw [List.getElem?_set, if_pos rfl, if_pos (by rw [h.len]; exact hil)]
    · rw [List.getElem?_set, if_neg hij]
      exact h.at' j x hx
    · rw [List.getElem?_set, if_neg hij]
      exact .inl ⟨hw, .inl x0⟩
  · intro s s1 s2
    show (B.out.set (m.seat (1 - k)) true).getD s false = true ↔ _
    have hol := hi.ok.outl
    rw [List.getD_eq_getElem?_getD, List.getElem?_set]
    by_cases hs : m.seat (1 - k) = s
    · rw [if_pos hs, if_pos (by have : s ≤ B.n := s2; omega)]
      refine ⟨fun _ => ⟨i, { m with w := m.seat k }, k, ?_, hk, ?_, hs⟩, fun _ => rfl⟩
      · rw [told_get hi hm, hm, Option.map_some, if_pos rfl]
      · rw [List.getElem?_set, if_pos rfl, if_pos (by rw [h.len]; exact hil)]
    · rw [if_neg hs, ← List.getD_eq_getElem?_getD, h.out s s1 s2]
      constructor
      · rintro ⟨j, x, k', hx, hk', hWj, hse⟩
        have hij : i ≠ j := fun e => by subst e; rw [hWi] at hWj; cases hWj
        have hgx : (B.told i k m).ms[j]? = some x := by
          rw [told_get hi hm, hx, Option.map_some, if_neg hij]
          by_cases hp : i + 2 < B.z ∧ B.z / 2 + i / 2 = j
          · exfalso
            obtain ⟨y', hy', yw, _⟩ := hi.parent hm w0 hp.1
            rw [hp.2, hx] at hy'; cases hy'
            rcases h.at' j x hx with ⟨e, _⟩ | ⟨k', _, _, e, p, q⟩
            · rw [hWj] at e; cases e
            · rw [yw] at e; unfold Mt.seat at e; split at e <;> omega
          · rw [if_neg hp]
        exact ⟨j, x, k', hgx, hk', by rw [List.getElem?_set, if_neg hij]; exact hWj, hse⟩
      · rintro ⟨j, x, k', hx, hk', hWj, hse⟩
        rcases key j x hx with ⟨rfl, rfl⟩ | ⟨hij, hx'⟩ | ⟨hij, hp1, hp2, hw, x0⟩
        · exfalso
          rw [List.getElem?_set, if_pos rfl, if_pos (by rw [h.len]; exact hil)] at hWj
          have : k' = k := by simp at hWj; omega
          subst this
          exact hs hse
        · rw [List.getElem?_set, if_neg hij] at hWj
          exact ⟨j, x, k', hx', hk', hWj, hse⟩
        · rw [List.getElem?_set, if_neg hij, hw] at hWj
          cases hWj
theorem tie_start {n : Nat} (h1 : 2 ≤ n) (h2 : n ≤ 64) : Tie (newB n) (List.replicate ((ordL n).length - 1) (-1)) := by
  have hin := newB_inv h1 h2
  have hkp := newTo_keep n ((ordL n).length / 2)
  have h := List.all_eq_true.1 start_ok0 n (List.mem_range.2 (by omega))
  have h3 : ¬ n < 2 := by omega
  simp only [h3, decide_false, Bool.false_or, startB, Bool.and_eq_true] at h
  have hlen : (newB n).ms.length = (ordL n).length - 1 := hkp.2.2.2
  refine ⟨by rw [List.length_replicate, hlen], fun j m hm => .inl ⟨?_, ?_⟩, fun s s1 s2 => ?_⟩
  · have := (List.getElem?_eq_some_iff.1 hm).1
    rw [List.getElem?_replicate, if_pos (by omega)]
  · have := List.all_eq_true.1 h.1 m (List.mem_of_getElem? hm)
    simp at this
    by_cases hw : m.w = 0
    · exact .inl hw
    · refine .inr ⟨?_, by omega⟩
      by_cases hj : j < (newB n).z / 2
      · exact hj
      · have := (hin.tree j m hm (by omega)).2 hw
        omega
  · rw [show (newB n).out = List.replicate (n + 1) false from hkp.2.2.1]
    constructor
    · intro e
      exfalso
      rw [List.getD_eq_getElem?_getD, List.getElem?_replicate] at e
      split at e <;> cases e
    · rintro ⟨j, m, k, _, _, e, _⟩
      exfalso
      rw [List.getElem?_replicate] at e
      split at e <;> cases e
/-- What the reference's Report answers, and what is then. -/
def wonTo (B : Br) (W : List Int) (i k : Int) : List Int := if (B.report i k).1 = 0 then W.set i.toNat k else W
theorem has_of_report {B : Br} {i : Int} (h : B.has i = true) : ∃ (k : Nat) (m : Mt), i = k ∧ B.ms[k]? = some m := by
  obtain ⟨k, m, a, _, b⟩ := has_of h; exact ⟨k, m, a, b⟩
theorem rep_cases {B : Br} (hi : B.Inv) (i k : Int) : ((B.report i k).1 ≠ 0 ∧ (B.report i k).2 = B) ∨ ∃ (j q : Nat) (m : Mt), i = j ∧ k = q ∧ q < 2 ∧ B.ms[j]? = some m ∧ m.rdy = true ∧ B.report i k = (0, B.told j q m) := by
  cases hh : B.has i
  · rw [rep_no hh]; exact .inl ⟨by simp, rfl⟩
  · obtain ⟨j, m, rfl, hm⟩ := has_of_report hh
    by_cases hk : k ≠ 0 ∧ k ≠ 1
    · rw [rep_at hm, if_pos hk]; exact .inl ⟨by simp, rfl⟩
    · by_cases hs : m.s0 = 0 ∨ m.s1 = 0
      · rw [rep_at hm, if_neg hk, if_pos hs]; exact .inl ⟨by simp, rfl⟩
      · by_cases hw : m.w ≠ 0
        · rw [rep_at hm, if_neg hk, if_neg hs, if_pos hw]; exact .inl ⟨by simp, rfl⟩
        · obtain ⟨q, rfl⟩ : ∃ q : Nat, k = q := ⟨k.toNat, by omega⟩
          have hr : m.rdy = true := by simp [Mt.rdy]; omega
          exact .inr ⟨j, q, m, rfl, rfl, by omega, hm, hr, rep_ok hm (by omega) hr⟩
theorem tie_report {B : Br} {W : List Int} (h : Tie B W) (hi : B.Inv) (i k : Int) : Tie (B.report i k).2 (wonTo B W i k) ∧ (B.report i k).2.Inv ∧ (B.report i k).2.n = B.n ∧ (B.report i k).2.z = B.z := by
  unfold wonTo
  rcases rep_cases hi i k with ⟨e1, e2⟩ | ⟨j, q, m, rfl, rfl, hq, hm, hr, e⟩
  · rw [if_neg e1, e2]; exact ⟨h, hi, rfl, rfl⟩
  · rw [e]
    exact ⟨tie_told h hi hm hr hq, told_inv hi hm hq hr, rfl, rfl⟩
end Go.Proofs.Ytdkjgkbddehaiaa
