/- Regions that draw their order: reads first, and what they read is asked to stay only till operation number J has come. -/
import Derived.Test.YtdolbeonpkanpaaGreatDoorMBase
set_option linter.unusedVariables false
set_option linter.unusedSimpArgs false
namespace Go.Proofs.YtdolbeonpkanpaaGreatDoor
open Go.RowKit
theorem nrmA {α : Type} (l : List α) (i : Nat) (a : α) : l.toArray.setIfInBounds i a = (l.set i a).toArray := by simp
theorem nrmB {α : Type} (x : α) (l : List α) (a : α) : (x :: l).set 0 a = a :: l := rfl
theorem nrmC {α : Type} (x : α) (l : List α) (i : Nat) (a : α) : (x :: l).set (i + 1) a = x :: l.set i a := rfl
section
variable {P : Program} {ops : Array Oper} {Q : Exit → Act → World → Prop} {md : Region.Mode} {J : Nat} {F : World → Prop}

def wpAnyJ (P : Program) (md : Region.Mode) (ops : Array Oper) (Q : Exit → Act → World → Prop) (J : Nat) (F : World → Prop) : Nat → Array Bool → Act → World → Prop
  | 0, L, a, w => Region.ready md ops L = [] ∧ Q .normal a w
  | fuel + 1, L, a, w =>
    (Region.ready md ops L = [] → Q .normal a w) ∧
    ∀ i ∈ Region.ready md ops L, wpOp P ops Q i (fun a' w' => ((L.setIfInBounds i true).getD J true = false → F w') ∧ wpAnyJ P md ops Q J F fuel (L.setIfInBounds i true) a' w') a w
theorem wpAny_of_J : ∀ (fuel : Nat) (L : Array Bool) (a : Act) (w : World), wpAnyJ P md ops Q J F fuel L a w → wpAny P md ops Q fuel L a w
  | 0, _, _, _, h => h
  | fuel + 1, _, _, _, h => ⟨h.1, fun i hi => wpOp_mono (fun a' w' h' => wpAny_of_J fuel _ a' w' h'.2) (h.2 i hi)⟩
theorem wpAnyJ_first {i : Nat} {oi : Oper} {v : Value} (N : Array Bool → Prop) (hNJ : ∀ L, N L → L.getD J true = false) (hNk : ∀ L k, N L → L.getD i true = false → k ∈ Region.ready md ops L → k ≠ i → k ≠ J ∧ N (L.setIfInBounds k true))
    (hi : ops[i]? = some oi) (hsel : ∀ (j : Nat) (o : Oper) cs b, ops[j]? = some o → o.op ≠ .select cs b)
    (hQ : ∀ c a w, Q (.panic c) (a.put oi.dst v) w → Q (.panic c) a w) (hiJ : i ≠ J) :
    ∀ (fuel : Nat) (L : Array Bool) (a : Act) (w : World),
      (∀ j oj, ops[j]? = some oj → j ≠ i → L.getD j true = false → (∀ e ∈ oj.after, Region.binds md e = true → e.on ≠ i) → oi.apart ops oj = true) →
      i ∈ Region.ready md ops L → YieldsIf P ops F oi v a → N L → F w →
      wpAnyJ P md ops Q J F fuel (L.setIfInBounds i true) (a.put oi.dst v) w → wpAnyJ P md ops Q J F (fuel + 1) L a w := by
  intro fuel
  induction fuel with
  | zero =>
    intro L a w _ hr hy hN hF H
    refine ⟨fun h => (by rw [h] at hr; cases hr), fun j hj => ?_⟩
    by_cases hji : j = i
    · subst hji; exact hy.wpOp hi hF ⟨fun _ => hF, H⟩
    · have := ready_mono hj hji
      rw [H.1] at this
      cases this
  | succ fuel ih =>
    intro L a w hfree hr hy hN hF H
    refine ⟨fun h => (by rw [h] at hr; cases hr), fun j hj => ?_⟩
    by_cases hji : j = i
    · subst hji; exact hy.wpOp hi hF ⟨fun _ => hF, H⟩
    · have h1 := H.2 j (ready_mono hj hji)
      obtain ⟨hjun, oj, hoj, hall⟩ := mem_ready.1 hj
      have hit := (mem_ready.1 hr).1
      have hi0 : L.getD i false = false := by
        rcases Nat.lt_or_ge i L.size with h' | h'
        · simp [h'] at hit ⊢; exact hit
        · simp [Array.getElem?_eq_none h'] at hit
      have hnot : ∀ e ∈ oj.after, Region.binds md e = true → e.on ≠ i := fun e he hb heq => by
        have h1 := hall e he hb
        rw [heq, hi0] at h1; cases h1
      obtain ⟨hjJ, hN'⟩ := hNk L j hN hit hj hji
      have h2 := wpOp_putIf hoj (hfree j oj hoj hji hjun hnot) (fun cs b => hsel i oi cs b hi) (fun cs b => hsel j oj cs b hoj) hQ hy h1
      have hfree' : ∀ k ok, ops[k]? = some ok → k ≠ i → (L.setIfInBounds j true).getD k true = false →
          (∀ e ∈ ok.after, Region.binds md e = true → e.on ≠ i) → oi.apart ops ok = true := fun k ok hk hki hun hno => by
        refine hfree k ok hk hki ?_ hno
        by_cases hjk : j = k
        · subst hjk; exact hjun
        · rw [getD_set_ne true hjk] at hun; exact hun
      refine wpOp_mono (fun a' w' h3 => ?_) h2
      have hLJ2 : ((L.setIfInBounds i true).setIfInBounds j true).getD J true = false := by rw [getD_set_ne true hjJ, getD_set_ne true hiJ]; exact hNJ L hN
      have hF' := h3.2.1 hLJ2
      refine ⟨fun _ => hF', ih (L.setIfInBounds j true) a' w' hfree' (ready_mono hr (Ne.symm hji)) h3.1 hN' hF' ?_⟩
      rw [Array.setIfInBounds_comm _ _ hji]
      exact h3.2.2
/-- A chain of operations from i to J, each of which waits for the one ahead of it. -/
def chainOk (md : Region.Mode) (ops : Array Oper) (J : Nat) : Nat → List Nat → Bool
  | i, [] => i == J
  | i, c :: cs => (match ops[c]? with | some o => o.after.any (fun e => Region.binds md e && e.on == i) | none => false) && chainOk md ops J c cs
def chainNew (L : Array Bool) (cs : List Nat) : Bool := cs.all fun c => !L.getD c true
theorem chain_ne {L : Array Bool} {k : Nat} (hk : k ∈ Region.ready md ops L) : ∀ (cs : List Nat) (i : Nat), chainOk md ops J i cs = true → L.getD i true = false → (∀ c ∈ cs, L.getD c true = false) → ∀ c ∈ cs, k ≠ c
  | [], _, _, _, _ => by simp
  | c :: cs, i, h, hi, hc => by
    simp only [chainOk, Bool.and_eq_true] at h
    intro x hx
    rcases List.mem_cons.1 hx with rfl | hx
    · intro e
      subst e
      obtain ⟨_, o, ho, hall⟩ := mem_ready.1 hk
      rw [ho] at h
      obtain ⟨m, hm, hb⟩ := Array.any_eq_true.1 h.1
      simp only [Bool.and_eq_true, beq_iff_eq] at hb
      have h1 := hall _ (Array.getElem_mem hm) hb.1
      rw [hb.2] at h1
      rcases Nat.lt_or_ge i L.size with h' | h'
      · simp [h'] at hi h1; rw [hi] at h1; cases h1
      · simp [Array.getElem?_eq_none h'] at hi
    · exact chain_ne hk cs c h.2 (hc c (List.mem_cons_self ..)) (fun y hy => hc y (List.mem_cons_of_mem _ hy)) x hx
theorem chain_last : ∀ (cs : List Nat) (i : Nat), chainOk md ops J i cs = true → i ≠ J → J ∈ cs
  | [], i, h, hn => absurd (by simpa [chainOk] using h) hn
  | c :: cs, i, h, hn => by
    simp only [chainOk, Bool.and_eq_true] at h
    by_cases e : c = J
    · subst e; exact List.mem_cons_self ..
    · exact List.mem_cons_of_mem _ (chain_last cs c h.2 e)
theorem wpAnyJ_take {i : Nat} {oi : Oper} {v : Value} {fuel : Nat} {L : Array Bool} {a : Act} {w : World} (cs : List Nat) (hi : ops[i]? = some oi)
    (hs : Region.noSelect ops = true) (hf : Region.free md ops L i = true) (hr : (Region.ready md ops L).contains i = true) (hw : (i != J && chainOk md ops J i cs) = true) (hL : chainNew L cs = true)
    (hQ : ∀ c a w, Q (.panic c) (a.put oi.dst v) w → Q (.panic c) a w) (hF : F w) (hy : ∀ w, F w → (execOp a.eval oi).run P w = .ok (.value v) w) (hg : Region.wanted oi (yielded ops a.tmps) = true)
    (h : wpAnyJ P md ops Q J F fuel (L.setIfInBounds i true) (a.put oi.dst v) w) : wpAnyJ P md ops Q J F (fuel + 1) L a w := by
  simp only [Bool.and_eq_true, bne_iff_ne] at hw
  refine wpAnyJ_first (fun L => ∀ c ∈ cs, L.getD c true = false) (fun L hN => hN J (chain_last cs i hw.2 hw.1)) (fun L k hN hLi hk hki => ?_) hi (Region.noSelect_spec hs) hQ hw.1 fuel L a w (Region.free_spec hi hf) (by simpa using hr) (.inl ⟨hg, hy⟩) (fun c hc => ?_) hF h
  · have hne := chain_ne hk cs i hw.2 hLi hN
    exact ⟨hne J (chain_last cs i hw.2 hw.1), fun c hc => by rw [getD_set_ne true (hne c hc)]; exact hN c hc⟩
  · have := List.all_eq_true.1 hL c hc
    simpa using this
/-- .. of an operation that looks at no memory: nothing is asked of the world. -/
theorem wpAnyJ_first0 {i : Nat} {oi : Oper} {v : Value} (hi : ops[i]? = some oi) (hsel : ∀ (j : Nat) (o : Oper) cs b, ops[j]? = some o → o.op ≠ .select cs b)
    (hQ : ∀ c a w, Q (.panic c) (a.put oi.dst v) w → Q (.panic c) a w) (hiJ : i ≠ J) :
    ∀ (fuel : Nat) (L : Array Bool) (a : Act) (w : World),
      (∀ j oj, ops[j]? = some oj → j ≠ i → L.getD j true = false → (∀ e ∈ oj.after, Region.binds md e = true → e.on ≠ i) → oi.apart ops oj = true) →
      i ∈ Region.ready md ops L → YieldsIf P ops (fun _ => True) oi v a → (L.getD J true = false → F w) →
      wpAnyJ P md ops Q J F fuel (L.setIfInBounds i true) (a.put oi.dst v) w → wpAnyJ P md ops Q J F (fuel + 1) L a w := by
  intro fuel
  induction fuel with
  | zero =>
    intro L a w _ hr hy hF H
    refine ⟨fun h => (by rw [h] at hr; cases hr), fun j hj => ?_⟩
    by_cases hji : j = i
    · subst hji; exact hy.wpOp hi trivial ⟨fun hJ => hF (by rwa [getD_set_ne true hiJ] at hJ), H⟩
    · have := ready_mono hj hji
      rw [H.1] at this
      cases this
  | succ fuel ih =>
    intro L a w hfree hr hy hF H
    refine ⟨fun h => (by rw [h] at hr; cases hr), fun j hj => ?_⟩
    by_cases hji : j = i
    · subst hji; exact hy.wpOp hi trivial ⟨fun hJ => hF (by rwa [getD_set_ne true hiJ] at hJ), H⟩
    · have h1 := H.2 j (ready_mono hj hji)
      obtain ⟨hjun, oj, hoj, hall⟩ := mem_ready.1 hj
      have hit := (mem_ready.1 hr).1
      have hi0 : L.getD i false = false := by
        rcases Nat.lt_or_ge i L.size with h' | h'
        · simp [h'] at hit ⊢; exact hit
        · simp [Array.getElem?_eq_none h'] at hit
      have hnot : ∀ e ∈ oj.after, Region.binds md e = true → e.on ≠ i := fun e he hb heq => by
        have h1 := hall e he hb
        rw [heq, hi0] at h1; cases h1
      have h2 := wpOp_putIf hoj (hfree j oj hoj hji hjun hnot) (fun cs b => hsel i oi cs b hi) (fun cs b => hsel j oj cs b hoj) hQ hy h1
      have hfree' : ∀ k ok, ops[k]? = some ok → k ≠ i → (L.setIfInBounds j true).getD k true = false →
          (∀ e ∈ ok.after, Region.binds md e = true → e.on ≠ i) → oi.apart ops ok = true := fun k ok hk hki hun hno => by
        refine hfree k ok hk hki ?_ hno
        by_cases hjk : j = k
        · subst hjk; exact hjun
        · rw [getD_set_ne true hjk] at hun; exact hun
      refine wpOp_mono (fun a' w' h3 => ?_) h2
      have hF' : (L.setIfInBounds j true).getD J true = false → F w' := fun hJ => h3.2.1 (by
        rw [Array.setIfInBounds_comm _ _ (Ne.symm hji), getD_set_ne true hiJ]; exact hJ)
      refine ⟨hF', ih (L.setIfInBounds j true) a' w' hfree' (ready_mono hr (Ne.symm hji)) h3.1 hF' ?_⟩
      rw [Array.setIfInBounds_comm _ _ hji]
      exact h3.2.2
theorem wpAnyJ_take0 {i : Nat} {oi : Oper} {v : Value} {fuel : Nat} {L : Array Bool} {a : Act} {w : World} (hi : ops[i]? = some oi)
    (hs : Region.noSelect ops = true) (hf : Region.free md ops L i = true) (hr : (Region.ready md ops L).contains i = true) (hw : (i != J) = true)
    (hQ : ∀ c a w, Q (.panic c) (a.put oi.dst v) w → Q (.panic c) a w) (hF : L.getD J true = false → F w) (hy : ∀ w, (execOp a.eval oi).run P w = .ok (.value v) w) (hg : Region.wanted oi (yielded ops a.tmps) = true)
    (h : wpAnyJ P md ops Q J F fuel (L.setIfInBounds i true) (a.put oi.dst v) w) : wpAnyJ P md ops Q J F (fuel + 1) L a w :=
  wpAnyJ_first0 hi (Region.noSelect_spec hs) hQ (by simpa using hw) fuel L a w (Region.free_spec hi hf) (by simpa using hr) (.inl ⟨hg, fun w _ => hy w⟩) hF h
theorem wpAnyJ_skip0 {i : Nat} {oi : Oper} {fuel : Nat} {L : Array Bool} {a : Act} {w : World} (hi : ops[i]? = some oi)
    (hs : Region.noSelect ops = true) (hf : Region.free md ops L i = true) (hr : (Region.ready md ops L).contains i = true) (hw : (i != J) = true)
    (hQ : ∀ c a w, Q (.panic c) (a.put oi.dst undef) w → Q (.panic c) a w) (hF : L.getD J true = false → F w) (hg : Region.wanted oi (yielded ops a.tmps) = false)
    (h : wpAnyJ P md ops Q J F fuel (L.setIfInBounds i true) (a.put oi.dst undef) w) : wpAnyJ P md ops Q J F (fuel + 1) L a w :=
  wpAnyJ_first0 hi (Region.noSelect_spec hs) hQ (by simpa using hw) fuel L a w (Region.free_spec hi hf) (by simpa using hr) (.inr ⟨hg, rfl⟩) hF h
/-- The same, its closed facts in one. -/
theorem tk1 {i : Nat} {oi : Oper} {v : Value} {fuel : Nat} {L : Array Bool} {a : Act} {w : World} (cs : List Nat) (hi : ops[i]? = some oi)
    (hb : (Region.noSelect ops && Region.free md ops L i && (Region.ready md ops L).contains i && (i != J && chainOk md ops J i cs) && chainNew L cs) = true)
    (hQ : ∀ c a w, Q (.panic c) (a.put oi.dst v) w → Q (.panic c) a w) (hF : F w) (hy : ∀ w, F w → (execOp a.eval oi).run P w = .ok (.value v) w) (hg : Region.wanted oi (yielded ops a.tmps) = true)
    (h : wpAnyJ P md ops Q J F fuel (L.setIfInBounds i true) (a.put oi.dst v) w) : wpAnyJ P md ops Q J F (fuel + 1) L a w := by
  rw [Bool.and_eq_true, Bool.and_eq_true, Bool.and_eq_true, Bool.and_eq_true] at hb
  exact wpAnyJ_take cs hi hb.1.1.1.1 hb.1.1.1.2 hb.1.1.2 hb.1.2 hb.2 hQ hF hy hg h
theorem tk0 {i : Nat} {oi : Oper} {v : Value} {fuel : Nat} {L : Array Bool} {a : Act} {w : World} (hi : ops[i]? = some oi)
    (hb : (Region.noSelect ops && Region.free md ops L i && (Region.ready md ops L).contains i && i != J) = true)
    (hQ : ∀ c a w, Q (.panic c) (a.put oi.dst v) w → Q (.panic c) a w) (hF : L.getD J true = false → F w) (hy : ∀ w, (execOp a.eval oi).run P w = .ok (.value v) w) (hg : Region.wanted oi (yielded ops a.tmps) = true)
    (h : wpAnyJ P md ops Q J F fuel (L.setIfInBounds i true) (a.put oi.dst v) w) : wpAnyJ P md ops Q J F (fuel + 1) L a w := by
  rw [Bool.and_eq_true, Bool.and_eq_true, Bool.and_eq_true] at hb
  exact wpAnyJ_take0 hi hb.1.1.1 hb.1.1.2 hb.1.2 hb.2 hQ hF hy hg h
theorem sk0 {i : Nat} {oi : Oper} {fuel : Nat} {L : Array Bool} {a : Act} {w : World} (hi : ops[i]? = some oi)
    (hb : (Region.noSelect ops && Region.free md ops L i && (Region.ready md ops L).contains i && i != J) = true)
    (hQ : ∀ c a w, Q (.panic c) (a.put oi.dst undef) w → Q (.panic c) a w) (hF : L.getD J true = false → F w) (hg : Region.wanted oi (yielded ops a.tmps) = false)
    (h : wpAnyJ P md ops Q J F fuel (L.setIfInBounds i true) (a.put oi.dst undef) w) : wpAnyJ P md ops Q J F (fuel + 1) L a w := by
  rw [Bool.and_eq_true, Bool.and_eq_true, Bool.and_eq_true] at hb
  exact wpAnyJ_skip0 hi hb.1.1.1 hb.1.1.2 hb.1.2 hb.2 hQ hF hg h
def AllJ (P : Program) (md : Region.Mode) (ops : Array Oper) (Q : Exit → Act → World → Prop) (J : Nat) (F : World → Prop) (fuel : Nat) (L : Array Bool) (a : Act) (w : World) (rs : List Nat) : Prop :=
  ∀ i ∈ rs, wpOp P ops Q i (fun a' w' => ((L.setIfInBounds i true).getD J true = false → F w') ∧ wpAnyJ P md ops Q J F fuel (L.setIfInBounds i true) a' w') a w
theorem AllJ.nil {fuel : Nat} {L : Array Bool} {a : Act} {w : World} : AllJ P md ops Q J F fuel L a w [] := fun _ h => by cases h
theorem AllJ.cons {fuel : Nat} {L : Array Bool} {a : Act} {w : World} {i : Nat} {o : Oper} {rs : List Nat} (ho : ops[i]? = some o)
    (h : ∀ K' : Act → World → Prop, Shut (∀ a w, ((L.setIfInBounds i true).getD J true = false → F w) → (((L.setIfInBounds i true).getD J true = false → F w) → wpAnyJ P md ops Q J F fuel (L.setIfInBounds i true) a w) → K' a w) →
      if Region.wanted o (yielded ops a.tmps) = true then Oper.wp P o a w K' Q else K' (a.put o.dst undef) w)
    (hs : AllJ P md ops Q J F fuel L a w rs) : AllJ P md ops Q J F fuel L a w (i :: rs) := fun j hj => by
  rcases List.mem_cons.1 hj with rfl | hj
  · exact wpOp_step ho (fun K' hK => h K' (fun a w hS hW => hK a w ⟨hS, hW hS⟩))
  · exact hs j hj
theorem AllJ.cons1 {fuel : Nat} {L : Array Bool} {a : Act} {w : World} {i : Nat} {o : Oper} (ho : ops[i]? = some o)
    (h : ∀ K' : Act → World → Prop, Shut (∀ a w, ((L.setIfInBounds i true).getD J true = false → F w) → (((L.setIfInBounds i true).getD J true = false → F w) → wpAnyJ P md ops Q J F fuel (L.setIfInBounds i true) a w) → K' a w) →
      if Region.wanted o (yielded ops a.tmps) = true then Oper.wp P o a w K' Q else K' (a.put o.dst undef) w) : AllJ P md ops Q J F fuel L a w [i] := AllJ.cons ho h AllJ.nil
theorem wpAnyJ_ready {rs : List Nat} {fuel : Nat} {L : Array Bool} {a : Act} {w : World} (hr : Region.ready md ops L = rs) (hne : rs ≠ [])
    (h : AllJ P md ops Q J F fuel L a w rs) : wpAnyJ P md ops Q J F (fuel + 1) L a w := ⟨fun h0 => absurd (hr ▸ h0) hne, hr ▸ h⟩
theorem wpAnyJ_done {L : Array Bool} {a : Act} {w : World} (hr : Region.ready md ops L = []) (h : Q .normal a w) : ∀ fuel, wpAnyJ P md ops Q J F fuel L a w
  | 0 => ⟨hr, h⟩
  | _ + 1 => ⟨fun _ => h, by rw [hr]; simp⟩
theorem wp_region_J (J : Nat) (F : World → Prop) {id : Nat} {a : Act} {w : World} (hm : P.follows .mixedOrders = true) (hF : F w.drew)
    (h : F w.drew → wpAnyJ P .any ops Q J F ops.size (Array.replicate ops.size false) a w.drew) : (Code.region id ops true).wp P Q a w :=
  wp_region_any hm (wpAny_of_J _ _ _ _ (h hF))
end
end Go.Proofs.YtdolbeonpkanpaaGreatDoor
