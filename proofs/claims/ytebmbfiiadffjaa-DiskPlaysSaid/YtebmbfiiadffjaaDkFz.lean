/- Rows that are written to one file behind a fuse: the plain law. -/
import Derived.Test.YtebmbfiiadffjaaDkPure
namespace Go.Proofs.Ytebmbfiiadffjaa

def wt (l : List (List UInt8)) : Nat := (l.map fun x => x.length + 1).sum
theorem wt_snoc (l : List (List UInt8)) {i : Nat} (h : i < l.length) : wt (l.take (i + 1)) = wt (l.take i) + 1 + (l[i]).length := by
  rw [List.take_succ_eq_append_getElem h]
  unfold wt
  rw [List.map_append, List.sum_append]
  simp; omega
theorem wt_all (l : List (List UInt8)) {i : Nat} (h : l.length ≤ i) : wt (l.take i) = wt l := by rw [List.take_of_length_le h]
theorem wt_le (l : List (List UInt8)) (i : Nat) : wt (l.take i) ≤ wt l := by
  induction l generalizing i with
  | nil => simp
  | cons x l ih =>
    cases i with
    | zero => simp [wt]
    | succ i =>
      have := ih i
      simp only [wt, List.take_succ_cons, List.map_cons, List.sum_cons] at this ⊢
      omega
theorem wt_len (l : List (List UInt8)) : l.length ≤ wt l := by
  induction l with
  | nil => simp
  | cons x l ih => simp only [wt, List.map_cons, List.sum_cons, List.length_cons] at ih ⊢; omega
theorem wt_mem {l : List (List UInt8)} {x : List UInt8} (h : x ∈ l) : x.length + 1 ≤ wt l := by
  induction l with
  | nil => cases h
  | cons y l ih =>
    simp only [wt, List.map_cons, List.sum_cons] at ih ⊢
    rcases List.mem_cons.1 h with rfl | h
    · omega
    · have := ih h; omega
/-- One file at most, of that name. -/
def OneF (nm : Nm) (L : List Fl) : Prop := L = [] ∨ ∃ v, L = [(nm, v)]
theorem oneF_len {nm : Nm} {L : List Fl} (h : OneF nm L) : L.length ≤ 1 := by rcases h with rfl | ⟨v, rfl⟩ <;> simp
theorem oneF_ins {nm : Nm} (v : List UInt8 × Nat) : insF [] nm v = [(nm, v)] := by simp [insF]
theorem oneF_wr {nm : Nm} {k : Dk} (h : OneF nm k.L) (p : List UInt8) (hr : usedF k.L + p.length ≤ k.room) : (wrI nm p k).1 = 0 ∧ OneF nm (wrI nm p k).2.L ∧ usedF (wrI nm p k).2.L = usedF k.L + p.length ∧ (wrI nm p k).2.room = k.room ∧ (wrI nm p k).2.left = k.left := by
  have hl := oneF_len h
  unfold wrI
  rw [if_neg (by omega)]
  cases hi : isF k.L nm
  · refine ⟨rfl, ?_, ?_, rfl, rfl⟩
    · rcases h with h | ⟨v, h⟩
      · simp only [Bool.false_eq_true, if_false, h]
        exact .inr ⟨_, oneF_ins _⟩
      · exfalso
        rw [h] at hi
        unfold isF spotN at hi
        simp only [List.takeWhile_cons, nm_irr, decide_false, List.length_nil] at hi
        simp at hi
    · simp only [Bool.false_eq_true, if_false]
      have := used_ins k.L nm (p, 0)
      simp only at this; omega
  · simp only [if_true]
    refine ⟨trivial, ?_, ?_, trivial, trivial⟩
    · obtain ⟨h1, h2, _⟩ := partF hi
      rcases h with h | ⟨v, h⟩
      · rw [h] at hi; simp [isF] at hi
      · right
        have hlen := len_set k.L nm ((getF k.L nm).1 ++ p, (getF k.L nm).2)
        rw [h] at hlen
        have hs : spotN k.L nm = 0 := by rw [h]; simp [spotN, nm_irr]
        refine ⟨((getF k.L nm).1 ++ p, (getF k.L nm).2), ?_⟩
        unfold setF
        rw [hs, h]
        rfl
    · have := used_set hi ((getF k.L nm).1 ++ p, (getF k.L nm).2)
      simp only [List.length_append] at this
      omega
/-- i rows have been tried, n things may be done. -/
structure FzInv (rows : List (List UInt8)) (n i : Nat) (k : Dk) : Prop where
  ok : k.Ok
  room : k.room = 1048576
  left : k.left = some (n - i)
  one : OneF [102] k.L
  used : usedF k.L ≤ wt (rows.take i)
theorem fz_start (rows : List (List UInt8)) (n : Int) (h : 0 ≤ n) : FzInv rows n.toNat 0 (fuN n ⟨1048576, [], none⟩) :=
  ⟨fu_ok (new_ok (by decide)) n, rfl, by simp [fuN, h], .inl rfl, by simp [fuN, usedF]⟩
theorem fz_step {rows : List (List UInt8)} {n i : Nat} {k : Dk} (h : FzInv rows n i k) (hi : i < rows.length) (hw : wt rows ≤ 8000) :
    (gateN [[102]] (wrI [102] rows[i]) k).1 = (if i < n then 0 else 9) ∧ FzInv rows n (i + 1) (gateN [[102]] (wrI [102] rows[i]) k).2 := by
  have hw1 := wt_le rows (i + 1)
  have hs := wt_snoc rows hi
  have hu := h.used
  obtain ⟨a, b, c, d, e⟩ := oneF_wr h.one rows[i] (by rw [h.room]; omega)
  have hok := gate_ok h.ok [[102]] (wrI [102] rows[i]) (fun _ => wr_ok h.ok _ (by decide) _)
  by_cases hn : i < n
  · have hm : mayN k [[102]] = 0 := by
      unfold mayN
      rw [h.left, if_neg (by simp; omega)]
      rfl
    have hg : gateN [[102]] (wrI [102] rows[i]) k = (0, didN (wrI [102] rows[i] k).2) := by
      unfold gateN
      rw [hm, if_neg (by simp), if_pos a]
    rw [hg] at hok ⊢
    refine ⟨by rw [if_pos hn], hok, d.trans h.room, ?_, b, ?_⟩
    · show (didN _).left = _
      unfold didN
      rw [e, h.left]
      simp; omega
    · show usedF (wrI [102] rows[i] k).2.L ≤ _
      omega
  · have hm : mayN k [[102]] = 9 := by
      unfold mayN
      rw [h.left, if_pos (by congr 1; omega)]
    have hg : gateN [[102]] (wrI [102] rows[i]) k = (9, k) := by
      unfold gateN
      rw [hm, if_pos (by simp)]
    rw [hg]
    exact ⟨by rw [if_neg hn], h.ok, h.room, by rw [h.left]; congr 1; omega, h.one, by simp only; omega⟩
theorem fz_remove {rows : List (List UInt8)} {n : Nat} {k : Dk} (h : FzInv rows n rows.length k) : (gateN [[110, 111, 110, 101]] (rmI [110, 111, 110, 101]) k).1 = (if rows.length < n then 7 else 9) ∧ (gateN [[110, 111, 110, 101]] (rmI [110, 111, 110, 101]) k).2 = k := by
  have hno : isF k.L [110, 111, 110, 101] = false := by
    rcases h.one with e | ⟨v, e⟩
    · rw [e]; rfl
    · rw [e]
      unfold isF spotN
      simp only [List.takeWhile_cons]
      rw [show decide (([102] : Nm) < [110, 111, 110, 101]) = true by decide]
      simp
  by_cases hn : rows.length < n
  · have hm : mayN k [[110, 111, 110, 101]] = 0 := by
      unfold mayN
      rw [h.left, if_neg (by simp; omega)]
      rfl
    unfold gateN rmI
    rw [hm, hno, if_pos hn]
    exact ⟨rfl, rfl⟩
  · have hm : mayN k [[110, 111, 110, 101]] = 9 := by
      unfold mayN
      rw [h.left, if_pos (by congr 1; omega)]
    unfold gateN rmI
    rw [hm, if_neg hn]
    exact ⟨rfl, rfl⟩
theorem fz_end {rows : List (List UInt8)} {n : Nat} {k : Dk} (h : FzInv rows n rows.length k) : (gateN [[122]] (wrI [122] []) (crN 0 0 k)).1 = 0 := by
  have hk := cr_ok h.ok 0 0
  have hu := hk.used
  have hl : (crN 0 0 k).L.length ≤ 1 := by have := oneF_len h.one; simpa [crN] using this
  have hm : mayN (crN 0 0 k) [[122]] = 0 := rfl
  have hw : (wrI [122] [] (crN 0 0 k)).1 = 0 := by
    unfold wrI
    rw [if_neg (by simp only [List.length_nil]; omega)]
    split <;> rfl
  unfold gateN
  rw [hm, if_neg (by simp), if_pos hw]
end Go.Proofs.Ytebmbfiiadffjaa
