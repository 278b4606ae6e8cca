/- Things that come round: the numbers. -/
import Derived.Test.YtcocgljaifnmnaaTmH
namespace Go.Proofs.Ytcocgljaifnmnaa
open Go.RowKit

/-- How often e has come round ahead of now; and when it comes next. -/
def cnt (e now : Nat) : Nat := (now - 1) / e
def nxt (e now : Nat) : Nat := e * (cnt e now + 1)
theorem nxt_ge {e now : Nat} (he : 1 ≤ e) : now ≤ nxt e now := by
  unfold nxt cnt
  have := Nat.lt_mul_div_succ (now - 1) (show 0 < e by omega)
  rw [Nat.mul_comm] at this
  have h2 : e * ((now - 1) / e + 1) = ((now - 1) / e + 1) * e := Nat.mul_comm _ _
  have h3 : now - 1 < e * ((now - 1) / e + 1) := Nat.lt_mul_div_succ (now - 1) (by omega)
  omega
theorem nxt_zero {e : Nat} (he : 1 ≤ e) : nxt e 0 = e ∧ cnt e 0 = 0 := by simp [nxt, cnt]
theorem nxt_due {e now : Nat} (he : 1 ≤ e) (h : nxt e now = now) : cnt e (now + 1) = cnt e now + 1 ∧ nxt e (now + 1) = now + e := by
  unfold nxt cnt at *
  rw [Nat.add_sub_cancel]
  obtain ⟨q, hq⟩ : ∃ q, q = (now - 1) / e := ⟨_, rfl⟩
  rw [← hq] at h ⊢
  have h1 : now / e = q + 1 := by rw [← h, Nat.mul_div_cancel_left _ (by omega)]
  rw [h1]
  refine ⟨rfl, ?_⟩
  rw [Nat.mul_succ, h]
theorem nxt_stay {e now : Nat} (he : 1 ≤ e) (h : now < nxt e now) : cnt e (now + 1) = cnt e now ∧ nxt e (now + 1) = nxt e now := by
  unfold nxt cnt at *
  rw [Nat.add_sub_cancel]
  have h1 : now / e = (now - 1) / e := by
    refine Nat.le_antisymm ?_ (Nat.div_le_div_right (by omega))
    rw [Nat.div_le_iff_le_mul_add_pred (by omega)]
    rw [Nat.mul_succ] at h
    omega
  rw [h1]
  exact ⟨rfl, rfl⟩
def eN (E : List Nat) (i : Nat) : Nat := E.getD i 1
/-- The things ahead of now. -/
def stS (E : List Nat) (now : Nat) : List (Int × Int) := (List.range E.length).map fun (i : Nat) => ((i : Int), ((nxt (eN E i) now : Nat) : Int))
theorem stS_ids (E : List Nat) (now : Nat) : ((stS E now).map Prod.fst).Nodup := by
  unfold stS
  rw [List.map_map, List.nodup_iff_pairwise_ne, List.pairwise_map]
  exact (List.nodup_iff_pairwise_ne.1 List.nodup_range).imp fun h e => h (by simp at e; omega)
theorem stS_mem {E : List Nat} {now : Nat} {x : Int × Int} (h : x ∈ stS E now) : ∃ i, i < E.length ∧ x = ((i : Int), ((nxt (eN E i) now : Nat) : Int)) := by
  obtain ⟨i, hi, rfl⟩ := List.mem_map.1 h
  exact ⟨i, List.mem_range.1 hi, rfl⟩
theorem stS_step (E : List Nat) (now : Nat) : stS E (now + 1) = (stS E now).map fun x => (x.1, ((nxt (eN E x.1.toNat) (now + 1) : Nat) : Int)) := by
  unfold stS; rw [List.map_map]; apply List.map_congr_left; intro i _; simp
/-- What is set anew. -/
def again (E : List Nat) (now : Nat) (x : Int × Int) : Int × Int := (x.1, (now : Int) + (eN E x.1.toNat : Nat))
theorem round_perm {E : List Nat} {now : Nat} (hE : ∀ i, i < E.length → 1 ≤ eN E i) {xs S' : List (Int × Int)} (hp : (xs ++ S').Perm (stS E now)) (h1 : ∀ x ∈ xs, x.2 ≤ now) (h2 : ∀ y ∈ S', (now : Int) < y.2) :
    (S' ++ xs.map (again E now)).Perm (stS E (now + 1)) := by
  rw [stS_step]
  refine List.Perm.trans ?_ (hp.map _)
  rw [List.map_append]
  have e1 : xs.map (fun x => (x.1, ((nxt (eN E x.1.toNat) (now + 1) : Nat) : Int))) = xs.map (again E now) := by
    apply List.map_congr_left
    intro x hx
    obtain ⟨i, hi, rfl⟩ := stS_mem (hp.mem_iff.1 (List.mem_append_left _ hx))
    have ha := h1 _ hx
    simp only at ha
    have hge := nxt_ge (now := now) (hE i hi)
    have := nxt_due (hE i hi) (now := now) (by omega)
    simp only [again, Int.toNat_natCast]
    rw [this.2]; simp
  have e2 : S'.map (fun x => (x.1, ((nxt (eN E x.1.toNat) (now + 1) : Nat) : Int))) = S' := by
    conv => rhs; rw [← List.map_id S']
    apply List.map_congr_left
    intro x hx
    obtain ⟨i, hi, rfl⟩ := stS_mem (hp.mem_iff.1 (List.mem_append_right _ hx))
    have ha := h2 _ hx
    simp only at ha
    have := nxt_stay (hE i hi) (now := now) (by omega)
    simp only [Int.toNat_natCast, id]
    rw [this.2]
  rw [e1, e2]
  exact List.perm_append_comm
/-- Of the popped: their numbers, in rising order. -/
theorem round_ids {E : List Nat} {now : Nat} (hE : ∀ i, i < E.length → 1 ≤ eN E i) {xs S' : List (Int × Int)} (hp : (xs ++ S').Perm (stS E now)) (hpw : xs.Pairwise eLe) (h1 : ∀ x ∈ xs, x.2 ≤ now) :
    (∀ x ∈ xs, ∃ i, i < E.length ∧ x = ((i : Int), (now : Int)) ∧ nxt (eN E i) now = now) ∧ ∀ j (x y : Int × Int), xs[j]? = some x → xs[j + 1]? = some y → x.1 < y.1 := by
  have hx0 : ∀ x ∈ xs, ∃ i, i < E.length ∧ x = ((i : Int), (now : Int)) ∧ nxt (eN E i) now = now := fun x hx => by
    obtain ⟨i, hi, rfl⟩ := stS_mem (hp.mem_iff.1 (List.mem_append_left _ hx))
    have ha := h1 _ hx
    simp only at ha
    have hge := nxt_ge (now := now) (hE i hi)
    have : nxt (eN E i) now = now := by omega
    exact ⟨i, hi, by rw [this], this⟩
  refine ⟨hx0, fun j x y hx hy => ?_⟩
  obtain ⟨hj, e1⟩ := List.getElem?_eq_some_iff.1 hx
  obtain ⟨hj2, e2⟩ := List.getElem?_eq_some_iff.1 hy
  have a := List.pairwise_iff_getElem.1 hpw j (j + 1) hj hj2 (by omega)
  have hn : ((xs ++ S').map Prod.fst).Nodup := ((hp.map Prod.fst).nodup_iff).2 (stS_ids E now)
  rw [List.map_append] at hn
  have b := List.pairwise_iff_getElem.1 (List.nodup_append.1 hn).1 j (j + 1) (by simpa using hj) (by simpa using hj2) (by omega)
  simp only [List.getElem_map] at b
  rw [e1, e2] at a b
  obtain ⟨i, _, ex, _⟩ := hx0 x (List.mem_of_getElem? hx)
  obtain ⟨i', _, ey, _⟩ := hx0 y (List.mem_of_getElem? hy)
  have q1 : x.2 = (now : Int) := by rw [ex]
  have q2 : y.2 = (now : Int) := by rw [ey]
  unfold eLe at a
  omega
theorem not_has {E : List Nat} {now : Nat} {xs S' : List (Int × Int)} (hp : (xs ++ S').Perm (stS E now)) {j : Nat} {x : Int × Int} (hx : xs[j]? = some x) : hasS (S' ++ (xs.take j).map (again E now)) x.1 = false := by
  rw [Bool.eq_false_iff]
  intro h
  unfold hasS at h
  obtain ⟨y, hy, e⟩ := List.any_eq_true.1 h
  have e : y.1 = x.1 := by simpa using e
  have hn : ((xs ++ S').map Prod.fst).Nodup := ((hp.map Prod.fst).nodup_iff).2 (stS_ids E now)
  rw [List.map_append] at hn
  obtain ⟨n1, _, n3⟩ := List.nodup_append.1 hn
  rcases List.mem_append.1 hy with hy | hy
  · exact n3 x.1 (List.mem_map.2 ⟨x, List.mem_of_getElem? hx, rfl⟩) y.1 (List.mem_map.2 ⟨y, hy, rfl⟩) e.symm
  · obtain ⟨z, hz, rfl⟩ := List.mem_map.1 hy
    obtain ⟨i, hi, e2⟩ := List.mem_iff_getElem.1 hz
    have hij : i < j ∧ i < xs.length := by rw [List.length_take] at hi; omega
    obtain ⟨hj, e1⟩ := List.getElem?_eq_some_iff.1 hx
    have b := List.pairwise_iff_getElem.1 n1 i j (by simpa using hij.2) (by simpa using hj) hij.1
    simp only [List.getElem_map] at b
    rw [List.getElem_take] at e2
    rw [e1, e2] at b
    exact b e
/-- The counts within a round: of those that came due, the first j were counted. -/
structure CtS (E : List Nat) (now : Nat) (xs : List (Int × Int)) (j : Nat) (cs : List Nat) : Prop where
  len : cs.length = E.length
  at' : ∀ i, i < E.length → cs.getD i 0 = cnt (eN E i) now + if ∃ x ∈ xs.take j, x.1 = (i : Int) then 1 else 0
theorem ct_start {E : List Nat} : CtS E 0 [] 0 (List.replicate E.length 0) := ⟨by simp, fun i hi => by simp [cnt, List.getD_eq_getElem?_getD, hi]⟩
theorem ct_any {E : List Nat} {now : Nat} {cs : List Nat} (h : CtS E now [] 0 cs) (xs : List (Int × Int)) : CtS E now xs 0 cs := ⟨h.len, fun i hi => by rw [h.at' i hi]; simp⟩
theorem ct_step {E : List Nat} {now : Nat} {xs S' : List (Int × Int)} (hp : (xs ++ S').Perm (stS E now)) {j : Nat} {cs : List Nat} (h : CtS E now xs j cs) {i : Nat} (hi : i < E.length) {a : Int} (hx : xs[j]? = some ((i : Int), a)) : CtS E now xs (j + 1) (cs.set i (cs.getD i 0 + 1)) := by
  obtain ⟨hj, e1⟩ := List.getElem?_eq_some_iff.1 hx
  have hn : ((xs ++ S').map Prod.fst).Nodup := ((hp.map Prod.fst).nodup_iff).2 (stS_ids E now)
  rw [List.map_append] at hn
  have n1 := (List.nodup_append.1 hn).1
  have hnot : ¬ ∃ x ∈ xs.take j, x.1 = (i : Int) := by
    rintro ⟨x, hx', e⟩
    obtain ⟨q, hq, e2⟩ := List.mem_iff_getElem.1 hx'
    have hqj : q < j ∧ q < xs.length := by rw [List.length_take] at hq; omega
    have b := List.pairwise_iff_getElem.1 n1 q j (by simpa using hqj.2) (by simpa using hj) hqj.1
    simp only [List.getElem_map] at b
    rw [List.getElem_take] at e2
    rw [e1, e2] at b
    exact b e
  refine ⟨by simp [h.len], fun k hk => ?_⟩
  have hl := h.len
  rw [List.take_succ_eq_append_getElem hj, e1]
  have ha := h.at' k hk
  simp only [List.getD_eq_getElem?_getD, List.getElem?_set] at ha ⊢
  by_cases hki : i = k
  · subst hki
    rw [if_pos rfl, if_pos (by omega)]
    rw [if_neg hnot] at ha
    rw [if_pos ⟨((i : Int), a), by simp, rfl⟩]
    simp only [Option.getD_some]
    omega
  · rw [if_neg hki, ha]
    congr 1
    have : (∃ x ∈ xs.take j ++ [((i : Int), a)], x.1 = (k : Int)) ↔ (∃ x ∈ xs.take j, x.1 = (k : Int)) := by
      constructor
      · rintro ⟨x, hx', e⟩
        rcases List.mem_append.1 hx' with hx' | hx'
        · exact ⟨x, hx', e⟩
        · rw [List.mem_singleton] at hx'; subst hx'; simp at e; omega
      · rintro ⟨x, hx', e⟩; exact ⟨x, List.mem_append_left _ hx', e⟩
    simp only [this]
theorem ct_end {E : List Nat} {now : Nat} (hE : ∀ i, i < E.length → 1 ≤ eN E i) {xs S' : List (Int × Int)} (hp : (xs ++ S').Perm (stS E now)) (h1 : ∀ x ∈ xs, x.2 ≤ now) (h2 : ∀ y ∈ S', (now : Int) < y.2) {cs : List Nat} (h : CtS E now xs xs.length cs) : CtS E (now + 1) [] 0 cs := by
  refine ⟨h.len, fun i hi => ?_⟩
  rw [h.at' i hi, List.take_length]
  simp only [List.take_nil, List.not_mem_nil, false_and, exists_false, if_false, Nat.add_zero]
  have hm : ((i : Int), ((nxt (eN E i) now : Nat) : Int)) ∈ xs ++ S' := hp.mem_iff.2 (List.mem_map.2 ⟨i, List.mem_range.2 hi, rfl⟩)
  have hge := nxt_ge (now := now) (hE i hi)
  rcases List.mem_append.1 hm with hm | hm
  · have := h1 _ hm
    simp only at this
    rw [if_pos ⟨_, hm, rfl⟩, (nxt_due (hE i hi) (by omega)).1]
  · have hlt := h2 _ hm
    simp only at hlt
    rw [if_neg, (nxt_stay (hE i hi) (by omega)).1]
    · rfl
    · rintro ⟨x, hx, e⟩
      obtain ⟨q, hq, rfl⟩ := stS_mem (hp.mem_iff.1 (List.mem_append_left _ hx))
      have hqi : q = i := by simp at e; omega
      subst hqi
      have := h1 _ hx
      simp only at this
      omega
end Go.Proofs.Ytcocgljaifnmnaa
