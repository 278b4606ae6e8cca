/- Rows that are written, some of them synced, and a crash: the plain law. -/
import Derived.Test.YtebmbfiiadffjaaDkFz
import Derived.Test.YtebmbfiiadffjaaDkJ
namespace Go.Proofs.Ytebmbfiiadffjaa

def allK (l : List (List UInt8)) (i : Nat) : List UInt8 := (l.take i).flatten
theorem allK_snoc {l : List (List UInt8)} {i : Nat} (h : i < l.length) : allK l (i + 1) = allK l i ++ l[i] := by
  unfold allK
  rw [List.take_succ_eq_append_getElem h, List.flatten_append]
  simp
theorem allK_len (l : List (List UInt8)) (i : Nat) : (allK l i).length ≤ wt (l.take i) := by
  unfold allK
  generalize l.take i = m
  induction m with
  | nil => simp
  | cons x m ih => simp only [List.flatten_cons, List.length_append, wt, List.map_cons, List.sum_cons] at ih ⊢; omega
theorem allK_mono (l : List (List UInt8)) {i j : Nat} (h : i ≤ j) : ∃ r, allK l j = allK l i ++ r := by
  unfold allK
  refine ⟨((l.take j).drop i).flatten, ?_⟩
  have e : l.take i = (l.take j).take i := by rw [List.take_take, Nat.min_eq_left h]
  rw [e, ← List.flatten_append, List.take_append_drop]
structure KpInv (l : List (List UInt8)) (s i : Nat) (k : Dk) : Prop where
  ok : k.Ok
  room : k.room = 1048576
  left : k.left = none
  L : (i = 0 ∧ k.L = []) ∨ (0 < i ∧ k.L = [([102], allK l i, (allK l (min i s)).length)])
theorem kp_start (l : List (List UInt8)) (s : Nat) : KpInv l s 0 ⟨1048576, [], none⟩ := ⟨new_ok (by decide), rfl, rfl, .inl ⟨rfl, rfl⟩⟩
theorem is_one (nm : Nm) (v : List UInt8 × Nat) : isF [(nm, v)] nm = true := by simp [isF, spotN, nm_irr]
theorem get_one (nm : Nm) (v : List UInt8 × Nat) : getF [(nm, v)] nm = v := by simp [getF, spotN, nm_irr]
theorem set_one (nm : Nm) (v v' : List UInt8 × Nat) : setF [(nm, v)] nm v' = [(nm, v')] := by simp [setF, spotN, nm_irr]
theorem kp_write {l : List (List UInt8)} {s i : Nat} {k : Dk} (h : KpInv l s i k) (hi : i < l.length) (hw : wt l ≤ 8000) :
    gateN [[102]] (wrI [102] l[i]) k = (0, ⟨1048576, [([102], allK l (i + 1), (allK l (min i s)).length)], none⟩) := by
  have h1 := allK_len l (i + 1)
  have h2 := wt_le l (i + 1)
  have h3 := allK_snoc hi
  have h4 : (allK l (i + 1)).length = (allK l i).length + (l[i]).length := by rw [h3, List.length_append]
  obtain ⟨rm, L, left⟩ := k
  have hr := h.room
  have hl := h.left
  simp only at hr hl
  subst hr hl
  have hm : ∀ L, mayN ⟨1048576, L, none⟩ [[102]] = 0 := fun L => rfl
  rcases h.L with ⟨rfl, hL⟩ | ⟨hi0, hL⟩
  · simp only at hL
    subst hL
    have e0 : allK l 0 = [] := rfl
    have hw' : wrI [102] l[0] ⟨1048576, [], none⟩ = (0, ⟨1048576, [([102], l[0], 0)], none⟩) := by
      unfold wrI
      rw [if_neg (by simp [usedF]; omega)]
      rfl
    unfold gateN
    rw [hm, hw']
    simp [didN, h3, e0]
  · simp only at hL
    subst hL
    have hw' : wrI [102] l[i] ⟨1048576, [([102], allK l i, (allK l (min i s)).length)], none⟩ = (0, ⟨1048576, [([102], allK l i ++ l[i], (allK l (min i s)).length)], none⟩) := by
      unfold wrI
      rw [if_neg (by simp [usedF]; omega), if_pos (is_one _ _), get_one, set_one]
    unfold gateN
    rw [hm, hw']
    simp [didN, h3]
theorem kp_sync {l : List (List UInt8)} {n i : Nat} : gateN [[102]] (syI [102]) ⟨1048576, [([102], allK l i, n)], none⟩ = (0, ⟨1048576, [([102], allK l i, (allK l i).length)], none⟩) := by
  have hw' : syI [102] ⟨1048576, [([102], allK l i, n)], none⟩ = (0, ⟨1048576, [([102], allK l i, (allK l i).length)], none⟩) := by
    unfold syI
    rw [if_pos (is_one _ _), get_one, set_one]
  have hm : ∀ L, mayN ⟨1048576, L, none⟩ [[102]] = 0 := fun L => rfl
  unfold gateN
  rw [hm, hw']
  simp [didN]
theorem kp_no {l : List (List UInt8)} {s i : Nat} {k : Dk} (h : KpInv l s i k) (hi : i < l.length) (hw : wt l ≤ 8000) (hs : s ≤ i) (hok : (⟨1048576, [([102], allK l (i + 1), (allK l (min i s)).length)], none⟩ : Dk).Ok) : KpInv l s (i + 1) ⟨1048576, [([102], allK l (i + 1), (allK l (min i s)).length)], none⟩ :=
  ⟨hok, rfl, rfl, .inr ⟨by omega, by rw [show min (i + 1) s = min i s by omega]⟩⟩
theorem kp_yes {l : List (List UInt8)} {s i : Nat} (hs : i < s) (hok : (⟨1048576, [([102], allK l (i + 1), (allK l (i + 1)).length)], none⟩ : Dk).Ok) : KpInv l s (i + 1) ⟨1048576, [([102], allK l (i + 1), (allK l (i + 1)).length)], none⟩ :=
  ⟨hok, rfl, rfl, .inr ⟨by omega, by rw [show min (i + 1) s = i + 1 by omega]⟩⟩
/-- What is read behind the crash. -/
theorem kp_read {l : List (List UInt8)} {s : Nat} {k : Dk} (h : KpInv l s l.length k) (hl : l ≠ []) (keep : Int) (tear : UInt8) :
    ∃ st f : Nat, rdN [102] (crN keep tear k) = (xorFrom f tear ((allK l l.length).take st), 0) ∧ f = max (allK l (min l.length s)).length ((st - 1) / 32 * 32) ∧ (allK l (min l.length s)).length ≤ st ∧ st ≤ (allK l l.length).length := by
  have hpos : 0 < l.length := List.length_pos_iff.2 hl
  rcases h.L with ⟨h0, _⟩ | ⟨_, hL⟩
  · omega
  · have hla := h.ok.lasts ([102], allK l l.length, (allK l (min l.length s)).length) (by rw [hL]; simp)
    have hst := stays_le hla keep
    refine ⟨_, _, ?_, rfl, hst.1, hst.2⟩
    unfold rdN crN
    simp only [hL, List.map_cons, List.map_nil]
    have e : crF keep tear ([102], allK l l.length, (allK l (min l.length s)).length) = ([102], xorFrom (max (allK l (min l.length s)).length ((stays (allK l l.length).length (allK l (min l.length s)).length keep - 1) / 32 * 32)) tear ((allK l l.length).take (stays (allK l l.length).length (allK l (min l.length s)).length keep)), stays (allK l l.length).length (allK l (min l.length s)).length keep) := rfl
    rw [e, if_pos (is_one _ _), get_one]
theorem kp_read0 {l : List (List UInt8)} {s : Nat} {k : Dk} (h : KpInv l s l.length k) (hl : l = []) (keep : Int) (tear : UInt8) : rdN [102] (crN keep tear k) = ([], 7) := by
  subst hl
  rcases h.L with ⟨_, hL⟩ | ⟨h0, _⟩
  · unfold rdN crN
    simp only [hL, List.map_nil]
    rfl
  · simp at h0
/-- The byte at i, behind the crash. -/
theorem kp_byte {f i : Nat} {t : UInt8} {m : List UInt8} (hi : i < m.length) (hf : f ≤ m.length) : (xorFrom f t m)[i]? = some (if f ≤ i then m[i] ^^^ t else m[i]) := by
  have := @xr_end f t m
  rw [← this, xr_get hf (Nat.le_refl _)]
  by_cases h : f ≤ i
  · rw [if_pos ⟨h, hi⟩, if_pos h, List.getElem?_eq_getElem hi]; rfl
  · rw [if_neg (fun hh => h hh.1), if_neg h, List.getElem?_eq_getElem hi]
end Go.Proofs.Ytebmbfiiadffjaa
