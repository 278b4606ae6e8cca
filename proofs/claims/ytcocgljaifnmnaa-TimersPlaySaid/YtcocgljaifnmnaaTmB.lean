/- The row of things in memory; Len, Less, Swap. -/
import Derived.Test.YtcocgljaifnmnaaTmA
import Derived.Test.YtcocgljaifnmnaaReg
import Derived.Deep.CutBlock
namespace Go.Proofs.Ytcocgljaifnmnaa
open Go.RowKit
attribute [local go_sem ↓] Go.wp_at_zero Go.wp_at_succ

def Th.obj (t : Th) (k : Nat) : Obj := .cells #[ii t.id, ii t.at', iv k] 52 (0, 0)
def thH (L : List Th) : Heaplet := L.zipIdx.map fun x => (x.1.p, x.1.obj x.2)
def tmHead (b : Nat) (a : Option Addr) (n c : Nat) (M : Value) : Nat × Obj := (b, .cells #[.slice a n c, M] 49 (0, 0))
/-- Timers at b with the row L (in the heap's order) and the map M. -/
def TmRep (b : Nat) (M : Value) (L : List Th) (H : Heaplet) : Prop :=
  ∃ a c HA, H = tmHead b a L.length c M :: (HA ++ thH L) ∧ SlRep 50 1 a L.length c (L.map fun t => pt t.p) HA
theorem thH_mem {L : List Th} {e : Nat × Obj} : e ∈ thH L ↔ ∃ k, k < L.length ∧ e = ((gt L k).p, (gt L k).obj k) := by
  unfold thH
  rw [List.mem_map]
  constructor
  · rintro ⟨⟨t, k⟩, h, rfl⟩
    have h := List.mem_zipIdx_iff_getElem?.1 h
    obtain ⟨hk, e⟩ := List.getElem?_eq_some_iff.1 h
    exact ⟨k, hk, by rw [gt_eq hk]; simp only at e ⊢; rw [e]⟩
  · rintro ⟨k, hk, rfl⟩
    exact ⟨(gt L k, k), List.mem_zipIdx_iff_getElem?.2 (gt_get hk), rfl⟩
theorem thH_dom (L : List Th) : dom (thH L) = L.map Th.p := by
  unfold dom thH
  rw [List.map_map]
  apply List.ext_getElem?
  intro i
  simp only [List.getElem?_map, List.getElem?_zipIdx]
  cases L[i]? <;> simp
theorem th_inj {w : World} {L : List Th} (o : Own w (thH L)) {i j : Nat} (hi : i < L.length) (hj : j < L.length) (h : (gt L i).p = (gt L j).p) : i = j := by
  have hn := o.nodup
  rw [thH_dom] at hn
  rw [gt_eq hi, gt_eq hj] at h
  have := List.pairwise_iff_getElem.1 hn
  rcases Nat.lt_trichotomy i j with hlt | e | hlt
  · exact absurd (by rw [List.getElem_map, List.getElem_map]; exact h) (this i j (by simpa using hi) (by simpa using hj) hlt)
  · exact e
  · exact absurd (by rw [List.getElem_map, List.getElem_map]; exact h.symm) (this j i (by simpa using hj) (by simpa using hi) hlt)
theorem th_obj {w : World} {L : List Th} (o : Own w (thH L)) {k : Nat} (hk : k < L.length) : w.heap[(gt L k).p]? = some ((gt L k).obj k) := o.has _ (thH_mem.2 ⟨k, hk, rfl⟩)
theorem th_cells {w : World} {L : List Th} (o : Own w (thH L)) {k : Nat} (hk : k < L.length) :
    w.cell? ⟨(gt L k).p, 0, none⟩ = some (ii (gt L k).id) ∧ w.cell? ⟨(gt L k).p, 1, none⟩ = some (ii (gt L k).at') ∧ w.cell? ⟨(gt L k).p, 2, none⟩ = some (iv k) := cells3 (th_obj o hk)
theorem row_at {a : Option Addr} {c : Nat} {L : List Th} {HA : Heaplet} {w : World} (h : SlRep 50 1 a L.length c (L.map fun t => pt t.p) HA) (o : Own w HA) {k : Nat} (hk : k < L.length) :
    ∃ g, a = some ⟨g, 0, none⟩ ∧ w.cell? ⟨g, k, none⟩ = some (pt (gt L k).p) := by
  obtain ⟨g, ha, hc, _⟩ := slRep_at h o (i := k) (v := pt (gt L k).p) (by rw [List.getElem?_map, gt_get hk]; rfl)
  exact ⟨g, ha, by simpa using hc⟩

theorem rlen_any (a : Option Addr) (n c : Nat) (w : World) : Calls Try.prog 43 #[.slice a n c] w fun e w' => e = .returned (iv n) ∧ w = w' := by
  go_enter Try.func43, Try.ntmps43
  go_wp2_with fail
  go_ret
  exact ⟨rfl, rfl⟩
def ltB (a b : Th) : Bool := decide (a.at' < b.at') || (decide (a.at' = b.at') && decide (a.id < b.id))
theorem ltB_iff {a b : Th} : ltB a b = true ↔ a.lt b := by simp [ltB, Th.lt]
def BoolPost (x : Bool) (w : World) (e : Ending) (w' : World) : Prop := e = .returned (.bool x) ∧ Step w [] w' []
set_option maxHeartbeats 1000000 in
set_option maxRecDepth 100000 in
theorem less_any (a : Option Addr) (c : Nat) (L : List Th) (HA : Heaplet) (i j : Nat) (w : World) (hr : SlRep 50 1 a L.length c (L.map fun t => pt t.p) HA) (hw : Own w (HA ++ thH L)) (hi : i < L.length) (hj : j < L.length) (hl : L.length ≤ 5000) :
    Calls Try.prog 44 #[.slice a L.length c, iv i, iv j] w (BoolPost (ltB (gt L i) (gt L j)) w) := by
  obtain ⟨g, rfl, ri⟩ := row_at hr hw.left hi
  obtain ⟨g', e, rj⟩ := row_at hr hw.left hj
  cases e
  obtain ⟨i0, i1, _⟩ := th_cells hw.right hi
  obtain ⟨j0, j1, _⟩ := th_cells hw.right hj
  have b1 : (0 : Int) ≤ (i : Int) := by omega
  have b2 : (0 : Int) ≤ (j : Int) := by omega
  have b3 : (i : Int) < (L.length : Int) := by omega
  have b4 : (j : Int) < (L.length : Int) := by omega
  generalize gt L i = x at *
  generalize gt L j = y at *
  obtain ⟨px, xi, xa⟩ := x
  obtain ⟨py, yi, ya⟩ := y
  simp only at ri rj i0 i1 j0 j1
  clear hr hw
  have hcase : (decide (xa < ya) = true ∧ ltB ⟨px, xi, xa⟩ ⟨py, yi, ya⟩ = true) ∨ (decide (xa < ya) = false ∧ (xa == ya) = false ∧ ltB ⟨px, xi, xa⟩ ⟨py, yi, ya⟩ = false) ∨
      (decide (xa < ya) = false ∧ (xa == ya) = true ∧ ∃ q, decide (xi < yi) = q ∧ ltB ⟨px, xi, xa⟩ ⟨py, yi, ya⟩ = q) := by
    by_cases h1 : xa < ya
    · exact .inl ⟨by simp [h1], by simp [ltB, h1]⟩
    · by_cases h2 : xa = ya
      · exact .inr (.inr ⟨by simp [h1], by simp [h2], _, rfl, by simp [ltB, h2]⟩)
      · exact .inr (.inl ⟨by simp [h1], by simp [h2], by simp [ltB, h1, h2]⟩)
  rcases hcase with ⟨q1, q2⟩ | ⟨q1, q3, q2⟩ | ⟨q1, q3, q, q4, q2⟩
  all_goals
    rw [q2]
    clear q2
    go_enter Try.func44, Try.ntmps44
    go_wp2_with fail
    go_quiet (fail)
    go_wp2_with fail
    go_ret
    exact ⟨rfl, (Step.refl (Own.nil w)).drewN _⟩

theorem swp_obj {L : List Th} {i j : Nat} (hi : i < L.length) (hj : j < L.length) : (swp L i j).map (fun t => pt t.p) = ((L.map fun t => pt t.p).set i (pt (gt L j).p)).set j (pt (gt L i).p) := by
  unfold swp
  rw [List.map_set, List.map_set]
/-- Behind a swap: the places are told anew. -/
theorem swap_done {w w2 w3 : World} {K A : Heaplet} {L : List Th} {i j : Nat} (hi : i < L.length) (hj : j < L.length) (s : Step w K w2 (A ++ thH L)) (e : w3 = (w2.setCell ⟨(gt L j).p, 2, none⟩ (iv i)).setCell ⟨(gt L i).p, 2, none⟩ (iv j)) : Step w K w3 (A ++ thH (swp L i j)) := by
  have oR := s.own.right
  have hap := s.own.apart
  have hpi := th_obj oR hi
  have hpj := th_obj oR hj
  have hdi : (gt L i).p ∈ dom (thH L) := by rw [thH_dom]; exact List.mem_map.2 ⟨_, List.mem_of_getElem? (gt_get hi), rfl⟩
  have hdj : (gt L j).p ∈ dom (thH L) := by rw [thH_dom]; exact List.mem_map.2 ⟨_, List.mem_of_getElem? (gt_get hj), rfl⟩
  have hdom : dom (A ++ thH (swp L i j)) = dom A ++ (swp L i j).map Th.p := by rw [dom_append, thH_dom]
  have hperm : (dom (A ++ thH (swp L i j))).Perm (dom (A ++ thH L)) := by
    rw [hdom, dom_append, thH_dom]
    exact List.Perm.append_left _ ((swp_perm hi hj).map _)
  have hoth : ∀ x, x ≠ (gt L i).p → x ≠ (gt L j).p → w3.heap[x]? = w2.heap[x]? := fun x h1 h2 => by
    rw [e, heap_set_other _ h1, heap_set_other _ h2]
  subst e
  refine s.recast rfl rfl rfl (by rw [size_setCell, size_setCell]) (fun x hx => hoth x (fun h => hx ?_) (fun h => hx ?_)) ⟨fun z hz => ?_, hperm.nodup_iff.2 s.own.nodup⟩ (fun x hx => hperm.mem_iff.1 hx)
  · rw [h, dom_append]; exact List.mem_append_right _ hdi
  · rw [h, dom_append]; exact List.mem_append_right _ hdj
  · rcases List.mem_append.1 hz with hz | hz
    · have hzA : z.1 ∈ dom A := List.mem_map.2 ⟨z, hz, rfl⟩
      rw [hoth z.1 (fun h => hap _ hzA (h ▸ hdi)) (fun h => hap _ hzA (h ▸ hdj))]
      exact s.own.has z (List.mem_append_left _ hz)
    · obtain ⟨k, hk, rfl⟩ := thH_mem.1 hz
      rw [swp_len] at hk
      have g := swp_get hi hj k
      rw [g]
      by_cases hkj : k = j
      · rw [if_pos hkj, hkj]
        have h1 : (w2.setCell ⟨(gt L j).p, 2, none⟩ (iv i)).heap[(gt L i).p]? = some (.cells #[ii (gt L i).id, ii (gt L i).at', if (gt L i).p = (gt L j).p then iv i else iv i] 52 (0, 0)) := by
          by_cases hij : (gt L i).p = (gt L j).p
          · rw [if_pos hij]
            have hije := th_inj oR hi hj hij
            subst hije
            rw [heap_set _ hpi]; rfl
          · rw [if_neg hij, heap_set_other _ hij]; exact hpi
        show (World.setCell _ _ _).heap[(gt L i).p]? = _
        rw [heap_set _ h1]
        rfl
      · rw [if_neg hkj]
        by_cases hki : k = i
        · rw [if_pos hki, hki]
          have hne : (gt L j).p ≠ (gt L i).p := fun h => hkj (hki.trans (th_inj oR hj hi h).symm)
          show (World.setCell _ _ _).heap[(gt L j).p]? = _
          rw [heap_set_other _ hne, heap_set _ hpj]
          rfl
        · rw [if_neg hki]
          show (World.setCell _ _ _).heap[(gt L k).p]? = _
          rw [hoth _ (fun h => hki (th_inj oR hk hi h)) (fun h => hkj (th_inj oR hk hj h))]
          exact th_obj oR hk
def SwapPost (b : Nat) (M : Value) (L : List Th) (H : Heaplet) (w : World) (e : Ending) (w' : World) : Prop := e = .returned (.tuple #[]) ∧ ∃ H', TmRep b M L H' ∧ Step w H w' H'
set_option maxHeartbeats 1000000 in
set_option maxRecDepth 100000 in
theorem swap_any (b : Nat) (M : Value) (a : Option Addr) (c : Nat) (L : List Th) (HA : Heaplet) (i j : Nat) (w : World) (hr : SlRep 50 1 a L.length c (L.map fun t => pt t.p) HA) (hw : Own w (tmHead b a L.length c M :: (HA ++ thH L))) (hi : i < L.length) (hj : j < L.length) (hl : L.length ≤ 5000) :
    Calls Try.prog 45 #[.slice a L.length c, iv i, iv j] w (SwapPost b M (swp L i j) (tmHead b a L.length c M :: (HA ++ thH L)) w) := by
  obtain ⟨g, rfl, ri⟩ := row_at hr hw.tail.left hi
  obtain ⟨g', e, rj⟩ := row_at hr hw.tail.left hj
  cases e
  have fz := fun i => frz_sl hr hw.tail.left i
  have s0 := Step.refl hw
  have b1 : (0 : Int) ≤ (i : Int) := by omega
  have b2 : (0 : Int) ≤ (j : Int) := by omega
  have b3 : (i : Int) < (L.length : Int) := by omega
  have b4 : (j : Int) < (L.length : Int) := by omega
  have hsw := Lib.hid (swp_obj hi hj)
  have hsl := Lib.hid (swp_len L i j)
  have hdone := Lib.hid (fun (w w2 w3 : World) (K A : Heaplet) s e => swap_done (w := w) (w2 := w2) (w3 := w3) (K := K) (A := A) hi hj s e)
  obtain ⟨pi, hpi⟩ : ∃ p, p = (gt L i).p := ⟨_, rfl⟩
  obtain ⟨pj, hpj⟩ : ∃ p, p = (gt L j).p := ⟨_, rfl⟩
  rw [← hpi] at ri hsw
  rw [← hpj] at rj hsw
  replace hpi := Lib.hid hpi
  replace hpj := Lib.hid hpj
  go_enter Try.func45, Try.ntmps45
  go_upto_region 1 with fail
  go_cut [6] (fun _ wc => ∃ HA2, SlRep 50 1 (some ⟨g, 0, none⟩) L.length c (((L.map fun t => pt t.p).set i (pt pj)).set j (pt pi)) HA2 ∧ Step w (tmHead b (some ⟨g, 0, none⟩) L.length c M :: (HA ++ thH L)) wc (tmHead b (some ⟨g, 0, none⟩) L.length c M :: (HA2 ++ thH L)))
  case first =>
    go_wp2_with fail
    refine wp_region_J 13 (fun w' => w'.cell? ⟨g, i, none⟩ = some (pt pi) ∧ w'.cell? ⟨g, j, none⟩ = some (pt pj)) (by kernel_rfl) ?_ (fun hF => ?_)
    · (try dsimp only)
      all_goals (exact ⟨ri, rj⟩)
    refine wpAnyJ_take0 (i := 0) (oi := { dst := some 6, op := Go.Op.move (Go.Operand.tmp 0), type := 47, pos := "timers.go:26", after := #[], guard := none }) (v := ?_) rfl (by kernel_rfl) (by kernel_rfl) (by kernel_rfl) (by kernel_rfl) (fun _ _ _ h => h) (by first | exact fun _ => hF | exact fun _ => hF (by kernel_rfl)) (fun w => ?_) (by rfl) ?_
    rotate_left
    · first | (go_simp; done) | (go_simp; with_reducible rfl) | (go_split_ands; go_simp; done)
    try simp only [Act.put, List.setIfInBounds_toArray, List.set_cons_zero, List.set_cons_succ]
    refine wpAnyJ_take0 (i := 1) (oi := { dst := some 7, op := Go.Op.move (Go.Operand.tmp 1), type := 3, pos := "timers.go:26", after := #[], guard := none }) (v := ?_) rfl (by kernel_rfl) (by kernel_rfl) (by kernel_rfl) (by kernel_rfl) (fun _ _ _ h => h) (by first | exact fun _ => hF | exact fun _ => hF (by kernel_rfl)) (fun w => ?_) (by rfl) ?_
    rotate_left
    · first | (go_simp; done) | (go_simp; with_reducible rfl) | (go_split_ands; go_simp; done)
    try simp only [Act.put, List.setIfInBounds_toArray, List.set_cons_zero, List.set_cons_succ]
    refine wpAnyJ_take0 (i := 2) (oi := { dst := some 8, op := Go.Op.move (Go.Operand.tmp 0), type := 47, pos := "timers.go:26", after := #[{ on := 13, ground := Go.Ground.gcOnly Go.Departure.lateStores }], guard := none }) (v := ?_) rfl (by kernel_rfl) (by kernel_rfl) (by kernel_rfl) (by kernel_rfl) (fun _ _ _ h => h) (by first | exact fun _ => hF | exact fun _ => hF (by kernel_rfl)) (fun w => ?_) (by rfl) ?_
    rotate_left
    · first | (go_simp; done) | (go_simp; with_reducible rfl) | (go_split_ands; go_simp; done)
    try simp only [Act.put, List.setIfInBounds_toArray, List.set_cons_zero, List.set_cons_succ]
    refine wpAnyJ_take0 (i := 3) (oi := { dst := some 9, op := Go.Op.move (Go.Operand.tmp 2), type := 3, pos := "timers.go:26", after := #[{ on := 13, ground := Go.Ground.gcOnly Go.Departure.lateStores }], guard := none }) (v := ?_) rfl (by kernel_rfl) (by kernel_rfl) (by kernel_rfl) (by kernel_rfl) (fun _ _ _ h => h) (by first | exact fun _ => hF | exact fun _ => hF (by kernel_rfl)) (fun w => ?_) (by rfl) ?_
    rotate_left
    · first | (go_simp; done) | (go_simp; with_reducible rfl) | (go_split_ands; go_simp; done)
    try simp only [Act.put, List.setIfInBounds_toArray, List.set_cons_zero, List.set_cons_succ]
    refine wpAnyJ_take0 (i := 4) (oi := { dst := some 10, op := Go.Op.move (Go.Operand.tmp 0), type := 47, pos := "timers.go:26", after := #[], guard := none }) (v := ?_) rfl (by kernel_rfl) (by kernel_rfl) (by kernel_rfl) (by kernel_rfl) (fun _ _ _ h => h) (by first | exact fun _ => hF | exact fun _ => hF (by kernel_rfl)) (fun w => ?_) (by rfl) ?_
    rotate_left
    · first | (go_simp; done) | (go_simp; with_reducible rfl) | (go_split_ands; go_simp; done)
    try simp only [Act.put, List.setIfInBounds_toArray, List.set_cons_zero, List.set_cons_succ]
    refine wpAnyJ_take0 (i := 5) (oi := { dst := some 11, op := Go.Op.move (Go.Operand.tmp 2), type := 3, pos := "timers.go:26", after := #[], guard := none }) (v := ?_) rfl (by kernel_rfl) (by kernel_rfl) (by kernel_rfl) (by kernel_rfl) (fun _ _ _ h => h) (by first | exact fun _ => hF | exact fun _ => hF (by kernel_rfl)) (fun w => ?_) (by rfl) ?_
    rotate_left
    · first | (go_simp; done) | (go_simp; with_reducible rfl) | (go_split_ands; go_simp; done)
    try simp only [Act.put, List.setIfInBounds_toArray, List.set_cons_zero, List.set_cons_succ]
    refine wpAnyJ_take0 (i := 6) (oi := { dst := some 12, op := Go.Op.indexAddr 47 (Go.Operand.tmp 10) (Go.Operand.tmp 11), type := 0, pos := "timers.go:26", after := #[{ on := 4, ground := Go.Ground.data }, { on := 5, ground := Go.Ground.data }], guard := none }) (v := ?_) rfl (by kernel_rfl) (by kernel_rfl) (by kernel_rfl) (by kernel_rfl) (fun _ _ _ h => h) (by first | exact fun _ => hF | exact fun _ => hF (by kernel_rfl)) (fun w => ?_) (by rfl) ?_
    rotate_left
    · first | (go_simp; done) | (go_simp; with_reducible rfl) | (go_split_ands; go_simp; done)
    try simp only [Act.put, List.setIfInBounds_toArray, List.set_cons_zero, List.set_cons_succ]
    refine wpAnyJ_take (i := 7) (oi := { dst := some 13, op := Go.Op.load 50 (Go.Operand.tmp 12), type := 50, pos := "timers.go:26", after := #[{ on := 6, ground := Go.Ground.data }], guard := none }) (v := ?_) [13] rfl (by kernel_rfl) (by kernel_rfl) (by kernel_rfl) (by kernel_rfl) (by kernel_rfl) (fun _ _ _ h => h) (by first | exact hF | exact hF (by kernel_rfl)) (fun w hFw => ?_) (by rfl) ?_
    rotate_left
    · ((try dsimp only at hFw); first | (go_simp; done) | (go_simp; with_reducible rfl) | (go_split_ands; go_simp; done))
    try simp only [Act.put, List.setIfInBounds_toArray, List.set_cons_zero, List.set_cons_succ]
    refine wpAnyJ_take0 (i := 8) (oi := { dst := some 14, op := Go.Op.move (Go.Operand.tmp 0), type := 47, pos := "timers.go:26", after := #[], guard := none }) (v := ?_) rfl (by kernel_rfl) (by kernel_rfl) (by kernel_rfl) (by kernel_rfl) (fun _ _ _ h => h) (by first | exact fun _ => hF | exact fun _ => hF (by kernel_rfl)) (fun w => ?_) (by rfl) ?_
    rotate_left
    · first | (go_simp; done) | (go_simp; with_reducible rfl) | (go_split_ands; go_simp; done)
    try simp only [Act.put, List.setIfInBounds_toArray, List.set_cons_zero, List.set_cons_succ]
    refine wpAnyJ_take0 (i := 9) (oi := { dst := some 15, op := Go.Op.move (Go.Operand.tmp 1), type := 3, pos := "timers.go:26", after := #[], guard := none }) (v := ?_) rfl (by kernel_rfl) (by kernel_rfl) (by kernel_rfl) (by kernel_rfl) (fun _ _ _ h => h) (by first | exact fun _ => hF | exact fun _ => hF (by kernel_rfl)) (fun w => ?_) (by rfl) ?_
    rotate_left
    · first | (go_simp; done) | (go_simp; with_reducible rfl) | (go_split_ands; go_simp; done)
    try simp only [Act.put, List.setIfInBounds_toArray, List.set_cons_zero, List.set_cons_succ]
    refine wpAnyJ_take0 (i := 10) (oi := { dst := some 16, op := Go.Op.indexAddr 47 (Go.Operand.tmp 14) (Go.Operand.tmp 15), type := 0, pos := "timers.go:26", after := #[{ on := 8, ground := Go.Ground.data }, { on := 9, ground := Go.Ground.data }], guard := none }) (v := ?_) rfl (by kernel_rfl) (by kernel_rfl) (by kernel_rfl) (by kernel_rfl) (fun _ _ _ h => h) (by first | exact fun _ => hF | exact fun _ => hF (by kernel_rfl)) (fun w => ?_) (by rfl) ?_
    rotate_left
    · first | (go_simp; done) | (go_simp; with_reducible rfl) | (go_split_ands; go_simp; done)
    try simp only [Act.put, List.setIfInBounds_toArray, List.set_cons_zero, List.set_cons_succ]
    refine wpAnyJ_take (i := 11) (oi := { dst := some 17, op := Go.Op.load 50 (Go.Operand.tmp 16), type := 50, pos := "timers.go:26", after := #[{ on := 10, ground := Go.Ground.data }], guard := none }) (v := ?_) [13] rfl (by kernel_rfl) (by kernel_rfl) (by kernel_rfl) (by kernel_rfl) (by kernel_rfl) (fun _ _ _ h => h) (by first | exact hF | exact hF (by kernel_rfl)) (fun w hFw => ?_) (by rfl) ?_
    rotate_left
    · ((try dsimp only at hFw); first | (go_simp; done) | (go_simp; with_reducible rfl) | (go_split_ands; go_simp; done))
    try simp only [Act.put, List.setIfInBounds_toArray, List.set_cons_zero, List.set_cons_succ]
    refine wpAnyJ_take0 (i := 12) (oi := { dst := some 18, op := Go.Op.indexAddr 47 (Go.Operand.tmp 6) (Go.Operand.tmp 7), type := 0, pos := "timers.go:26", after := #[{ on := 0, ground := Go.Ground.data }, { on := 1, ground := Go.Ground.data }, { on := 0, ground := Go.Ground.phase }, { on := 1, ground := Go.Ground.phase }, { on := 2, ground := Go.Ground.textOnly Go.Departure.lateStores }, { on := 3, ground := Go.Ground.textOnly Go.Departure.lateStores }, { on := 4, ground := Go.Ground.phase }, { on := 5, ground := Go.Ground.phase }, { on := 6, ground := Go.Ground.phase }, { on := 7, ground := Go.Ground.phase }, { on := 8, ground := Go.Ground.textOnly Go.Departure.lateStores }, { on := 9, ground := Go.Ground.textOnly Go.Departure.lateStores }, { on := 10, ground := Go.Ground.textOnly Go.Departure.lateStoresUnsure }, { on := 11, ground := Go.Ground.phase }], guard := none }) (v := ?_) rfl (by kernel_rfl) (by kernel_rfl) (by kernel_rfl) (by kernel_rfl) (fun _ _ _ h => h) (by first | exact fun _ => hF | exact fun _ => hF (by kernel_rfl)) (fun w => ?_) (by rfl) ?_
    rotate_left
    · first | (go_simp; done) | (go_simp; with_reducible rfl) | (go_split_ands; go_simp; done)
    try simp only [Act.put, List.setIfInBounds_toArray, List.set_cons_zero, List.set_cons_succ]
    refine wpAnyJ_ready (rs := [13]) (by kernel_rfl) (by simp) ?_
    refine AllJ.cons (o := { dst := none, op := Go.Op.store 50 (Go.Operand.tmp 18) (Go.Operand.tmp 13), type := 0, pos := "timers.go:26", after := #[{ on := 12, ground := Go.Ground.data }, { on := 7, ground := Go.Ground.data }, { on := 0, ground := Go.Ground.phase }, { on := 1, ground := Go.Ground.phase }, { on := 2, ground := Go.Ground.textOnly Go.Departure.lateStores }, { on := 3, ground := Go.Ground.textOnly Go.Departure.lateStores }, { on := 4, ground := Go.Ground.phase }, { on := 5, ground := Go.Ground.phase }, { on := 6, ground := Go.Ground.phase }, { on := 7, ground := Go.Ground.phase }, { on := 8, ground := Go.Ground.textOnly Go.Departure.lateStores }, { on := 9, ground := Go.Ground.textOnly Go.Departure.lateStores }, { on := 10, ground := Go.Ground.textOnly Go.Departure.lateStoresUnsure }, { on := 11, ground := Go.Ground.phase }], guard := none }) rfl (fun Kr hKr => ?_) ?_
    · go_simp
      obtain ⟨HA1, hr1, s1⟩ := step_put1 s0 hr i (pt pj)
      obtain ⟨vj, rj1⟩ := sl_some hr1 s1.own.tail.left hj
      refine hKr.out _ _ (fun hJ => ?_) (fun hF => ?_)
      · first
        | exact absurd hJ (by decide)
        | (clear hJ; (try dsimp only); all_goals (exact ⟨ri, rj⟩))
      clear hKr
      try simp only [Act.put, List.setIfInBounds_toArray, List.set_cons_zero, List.set_cons_succ]
      refine wpAnyJ_take0 (i := 14) (oi := { dst := some 19, op := Go.Op.indexAddr 47 (Go.Operand.tmp 8) (Go.Operand.tmp 9), type := 0, pos := "timers.go:26", after := #[{ on := 2, ground := Go.Ground.data }, { on := 3, ground := Go.Ground.data }, { on := 0, ground := Go.Ground.phase }, { on := 1, ground := Go.Ground.phase }, { on := 2, ground := Go.Ground.phase }, { on := 3, ground := Go.Ground.phase }, { on := 4, ground := Go.Ground.phase }, { on := 5, ground := Go.Ground.phase }, { on := 6, ground := Go.Ground.phase }, { on := 7, ground := Go.Ground.phase }, { on := 8, ground := Go.Ground.phase }, { on := 9, ground := Go.Ground.phase }, { on := 10, ground := Go.Ground.phase }, { on := 11, ground := Go.Ground.phase }, { on := 12, ground := Go.Ground.phase }, { on := 13, ground := Go.Ground.phase }], guard := none }) (v := ?_) rfl (by kernel_rfl) (by kernel_rfl) (by kernel_rfl) (by kernel_rfl) (fun _ _ _ h => h) (fun hJ => absurd hJ (by decide)) (fun w => ?_) (by rfl) ?_
      rotate_left
      · first | (go_simp; done) | (go_simp; with_reducible rfl) | (go_split_ands; go_simp; done)
      try simp only [Act.put, List.setIfInBounds_toArray, List.set_cons_zero, List.set_cons_succ]
      refine wpAnyJ_ready (rs := [15]) (by kernel_rfl) (by simp) ?_
      refine AllJ.cons (o := { dst := none, op := Go.Op.store 50 (Go.Operand.tmp 19) (Go.Operand.tmp 17), type := 0, pos := "timers.go:26", after := #[{ on := 14, ground := Go.Ground.data }, { on := 11, ground := Go.Ground.data }, { on := 13, ground := Go.Ground.chain }, { on := 0, ground := Go.Ground.phase }, { on := 1, ground := Go.Ground.phase }, { on := 2, ground := Go.Ground.phase }, { on := 3, ground := Go.Ground.phase }, { on := 4, ground := Go.Ground.phase }, { on := 5, ground := Go.Ground.phase }, { on := 6, ground := Go.Ground.phase }, { on := 7, ground := Go.Ground.phase }, { on := 8, ground := Go.Ground.phase }, { on := 9, ground := Go.Ground.phase }, { on := 10, ground := Go.Ground.phase }, { on := 11, ground := Go.Ground.phase }, { on := 12, ground := Go.Ground.phase }, { on := 13, ground := Go.Ground.phase }], guard := none }) rfl (fun Kr hKr => ?_) ?_
      · go_simp
        refine hKr.out _ _ (fun hJ => ?_) (fun hF => ?_)
        · first
          | exact absurd hJ (by decide)
          | (clear hJ; (try dsimp only); all_goals (exact ⟨ri, rj⟩))
        clear hKr
        try simp only [Act.put, List.setIfInBounds_toArray, List.set_cons_zero, List.set_cons_succ]
        refine wpAnyJ_done (by kernel_rfl) ?_ _
        skip
        obtain ⟨HA2, hr2, s2⟩ := step_put1 s1 hr1 j (pt pi)
        go_wp2_with fail
        go_meet
        exact ⟨HA2, hr2, s2.drew⟩
      exact AllJ.nil
    exact AllJ.nil
  case rest =>
    clear ri rj s0 fz hr hw
    obtain ⟨HA2, hr2, s2⟩ := hcut
    rw [← hsw.out] at hr2
    have hr3 : SlRep 50 1 (some ⟨g, 0, none⟩) (swp L i j).length c ((swp L i j).map fun t => pt t.p) HA2 := by rw [hsl.out]; exact hr2
    have ri : wc.cell? ⟨g, i, none⟩ = some (pt pj) := by
      obtain ⟨g', e, h1⟩ := row_at hr3 s2.own.tail.left (k := i) (by rw [hsl.out]; exact hi)
      cases e
      rw [h1, swp_get hi hj]
      split
      · rename_i h; subst h; rw [hpj.out]
      · rw [if_pos rfl, hpj.out]
    have rj : wc.cell? ⟨g, j, none⟩ = some (pt pi) := by
      obtain ⟨g', e, h1⟩ := row_at hr3 s2.own.tail.left (k := j) (by rw [hsl.out]; exact hj)
      cases e
      rw [h1, swp_get hi hj, if_pos rfl, hpi.out]
    have ti := (th_cells s2.own.tail.right hi).2.2
    have tj := (th_cells s2.own.tail.right hj).2.2
    rw [← hpi.out] at ti
    rw [← hpj.out] at tj
    have fi := fun i => frz_of (i := i) (th_obj s2.own.tail.right hi)
    have fj := fun i => frz_of (i := i) (th_obj s2.own.tail.right hj)
    rw [← hpi.out] at fi
    rw [← hpj.out] at fj
    have hij : pi = pj ∨ (pi ≠ pj ∧ pj ≠ pi) := by
      rcases Nat.decEq pi pj with h | h
      · exact .inr ⟨h, Ne.symm h⟩
      · exact .inl h
    rcases hij with rfl | ⟨hij, hji⟩
    ·
      go_wp2_with fail
      refine wp_region_J 12 (fun w' => w'.cell? ⟨g, i, none⟩ = some (pt pi) ∧ w'.cell? ⟨g, j, none⟩ = some (pt pi)) (by kernel_rfl) ?_ (fun hF => ?_)
      · (try dsimp only)
        all_goals (exact ⟨ri, rj⟩)
      refine wpAnyJ_take0 (i := 0) (oi := { dst := some 20, op := Go.Op.move (Go.Operand.tmp 0), type := 47, pos := "timers.go:27", after := #[], guard := none }) (v := ?_) rfl (by kernel_rfl) (by kernel_rfl) (by kernel_rfl) (by kernel_rfl) (fun _ _ _ h => h) (by first | exact fun _ => hF | exact fun _ => hF (by kernel_rfl)) (fun w => ?_) (by rfl) ?_
      rotate_left
      · first | (go_simp; done) | (go_simp; with_reducible rfl) | (go_split_ands; go_simp; done)
      try simp only [Act.put, List.setIfInBounds_toArray, List.set_cons_zero, List.set_cons_succ]
      refine wpAnyJ_take0 (i := 1) (oi := { dst := some 21, op := Go.Op.move (Go.Operand.tmp 1), type := 3, pos := "timers.go:27", after := #[], guard := none }) (v := ?_) rfl (by kernel_rfl) (by kernel_rfl) (by kernel_rfl) (by kernel_rfl) (fun _ _ _ h => h) (by first | exact fun _ => hF | exact fun _ => hF (by kernel_rfl)) (fun w => ?_) (by rfl) ?_
      rotate_left
      · first | (go_simp; done) | (go_simp; with_reducible rfl) | (go_split_ands; go_simp; done)
      try simp only [Act.put, List.setIfInBounds_toArray, List.set_cons_zero, List.set_cons_succ]
      refine wpAnyJ_take0 (i := 2) (oi := { dst := some 22, op := Go.Op.indexAddr 47 (Go.Operand.tmp 20) (Go.Operand.tmp 21), type := 0, pos := "timers.go:27", after := #[{ on := 0, ground := Go.Ground.data }, { on := 1, ground := Go.Ground.data }], guard := none }) (v := ?_) rfl (by kernel_rfl) (by kernel_rfl) (by kernel_rfl) (by kernel_rfl) (fun _ _ _ h => h) (by first | exact fun _ => hF | exact fun _ => hF (by kernel_rfl)) (fun w => ?_) (by rfl) ?_
      rotate_left
      · first | (go_simp; done) | (go_simp; with_reducible rfl) | (go_split_ands; go_simp; done)
      try simp only [Act.put, List.setIfInBounds_toArray, List.set_cons_zero, List.set_cons_succ]
      refine wpAnyJ_take (i := 3) (oi := { dst := some 23, op := Go.Op.load 50 (Go.Operand.tmp 22), type := 50, pos := "timers.go:27", after := #[{ on := 2, ground := Go.Ground.data }], guard := none }) (v := ?_) [12] rfl (by kernel_rfl) (by kernel_rfl) (by kernel_rfl) (by kernel_rfl) (by kernel_rfl) (fun _ _ _ h => h) (by first | exact hF | exact hF (by kernel_rfl)) (fun w hFw => ?_) (by rfl) ?_
      rotate_left
      · ((try dsimp only at hFw); first | (go_simp; done) | (go_simp; with_reducible rfl) | (go_split_ands; go_simp; done))
      try simp only [Act.put, List.setIfInBounds_toArray, List.set_cons_zero, List.set_cons_succ]
      refine wpAnyJ_take0 (i := 4) (oi := { dst := some 24, op := Go.Op.move (Go.Operand.tmp 0), type := 47, pos := "timers.go:27", after := #[], guard := none }) (v := ?_) rfl (by kernel_rfl) (by kernel_rfl) (by kernel_rfl) (by kernel_rfl) (fun _ _ _ h => h) (by first | exact fun _ => hF | exact fun _ => hF (by kernel_rfl)) (fun w => ?_) (by rfl) ?_
      rotate_left
      · first | (go_simp; done) | (go_simp; with_reducible rfl) | (go_split_ands; go_simp; done)
      try simp only [Act.put, List.setIfInBounds_toArray, List.set_cons_zero, List.set_cons_succ]
      refine wpAnyJ_take0 (i := 5) (oi := { dst := some 25, op := Go.Op.move (Go.Operand.tmp 2), type := 3, pos := "timers.go:27", after := #[], guard := none }) (v := ?_) rfl (by kernel_rfl) (by kernel_rfl) (by kernel_rfl) (by kernel_rfl) (fun _ _ _ h => h) (by first | exact fun _ => hF | exact fun _ => hF (by kernel_rfl)) (fun w => ?_) (by rfl) ?_
      rotate_left
      · first | (go_simp; done) | (go_simp; with_reducible rfl) | (go_split_ands; go_simp; done)
      try simp only [Act.put, List.setIfInBounds_toArray, List.set_cons_zero, List.set_cons_succ]
      refine wpAnyJ_take0 (i := 6) (oi := { dst := some 26, op := Go.Op.indexAddr 47 (Go.Operand.tmp 24) (Go.Operand.tmp 25), type := 0, pos := "timers.go:27", after := #[{ on := 4, ground := Go.Ground.data }, { on := 5, ground := Go.Ground.data }], guard := none }) (v := ?_) rfl (by kernel_rfl) (by kernel_rfl) (by kernel_rfl) (by kernel_rfl) (fun _ _ _ h => h) (by first | exact fun _ => hF | exact fun _ => hF (by kernel_rfl)) (fun w => ?_) (by rfl) ?_
      rotate_left
      · first | (go_simp; done) | (go_simp; with_reducible rfl) | (go_split_ands; go_simp; done)
      try simp only [Act.put, List.setIfInBounds_toArray, List.set_cons_zero, List.set_cons_succ]
      refine wpAnyJ_take (i := 7) (oi := { dst := some 27, op := Go.Op.load 50 (Go.Operand.tmp 26), type := 50, pos := "timers.go:27", after := #[{ on := 6, ground := Go.Ground.data }], guard := none }) (v := ?_) [12] rfl (by kernel_rfl) (by kernel_rfl) (by kernel_rfl) (by kernel_rfl) (by kernel_rfl) (fun _ _ _ h => h) (by first | exact hF | exact hF (by kernel_rfl)) (fun w hFw => ?_) (by rfl) ?_
      rotate_left
      · ((try dsimp only at hFw); first | (go_simp; done) | (go_simp; with_reducible rfl) | (go_split_ands; go_simp; done))
      try simp only [Act.put, List.setIfInBounds_toArray, List.set_cons_zero, List.set_cons_succ]
      refine wpAnyJ_take0 (i := 8) (oi := { dst := some 28, op := Go.Op.move (Go.Operand.tmp 1), type := 3, pos := "timers.go:27", after := #[], guard := none }) (v := ?_) rfl (by kernel_rfl) (by kernel_rfl) (by kernel_rfl) (by kernel_rfl) (fun _ _ _ h => h) (by first | exact fun _ => hF | exact fun _ => hF (by kernel_rfl)) (fun w => ?_) (by rfl) ?_
      rotate_left
      · first | (go_simp; done) | (go_simp; with_reducible rfl) | (go_split_ands; go_simp; done)
      try simp only [Act.put, List.setIfInBounds_toArray, List.set_cons_zero, List.set_cons_succ]
      refine wpAnyJ_take0 (i := 9) (oi := { dst := some 29, op := Go.Op.move (Go.Operand.tmp 2), type := 3, pos := "timers.go:27", after := #[{ on := 12, ground := Go.Ground.gcOnly Go.Departure.lateStores }], guard := none }) (v := ?_) rfl (by kernel_rfl) (by kernel_rfl) (by kernel_rfl) (by kernel_rfl) (fun _ _ _ h => h) (by first | exact fun _ => hF | exact fun _ => hF (by kernel_rfl)) (fun w => ?_) (by rfl) ?_
      rotate_left
      · first | (go_simp; done) | (go_simp; with_reducible rfl) | (go_split_ands; go_simp; done)
      try simp only [Act.put, List.setIfInBounds_toArray, List.set_cons_zero, List.set_cons_succ]
      refine wpAnyJ_take0 (i := 10) (oi := { dst := some 30, op := Go.Op.nilCheck (Go.Operand.tmp 23), type := 0, pos := "timers.go:27", after := #[{ on := 3, ground := Go.Ground.data }, { on := 0, ground := Go.Ground.phase }, { on := 1, ground := Go.Ground.phase }, { on := 2, ground := Go.Ground.phase }, { on := 3, ground := Go.Ground.phase }, { on := 4, ground := Go.Ground.textOnly Go.Departure.lateStores }, { on := 5, ground := Go.Ground.textOnly Go.Departure.lateStores }, { on := 6, ground := Go.Ground.textOnly Go.Departure.lateStoresUnsure }, { on := 7, ground := Go.Ground.phase }, { on := 8, ground := Go.Ground.phase }, { on := 9, ground := Go.Ground.textOnly Go.Departure.lateStores }], guard := none }) (v := ?_) rfl (by kernel_rfl) (by kernel_rfl) (by kernel_rfl) (by kernel_rfl) (fun _ _ _ h => h) (by first | exact fun _ => hF | exact fun _ => hF (by kernel_rfl)) (fun w => ?_) (by rfl) ?_
      rotate_left
      · first | (go_simp; done) | (go_simp; with_reducible rfl) | (go_split_ands; go_simp; done)
      try simp only [Act.put, List.setIfInBounds_toArray, List.set_cons_zero, List.set_cons_succ]
      refine wpAnyJ_take0 (i := 11) (oi := { dst := some 31, op := Go.Op.fieldAddr 52 (Go.Operand.tmp 30) 2, type := 0, pos := "timers.go:27", after := #[{ on := 10, ground := Go.Ground.data }, { on := 0, ground := Go.Ground.phase }, { on := 1, ground := Go.Ground.phase }, { on := 2, ground := Go.Ground.phase }, { on := 3, ground := Go.Ground.phase }, { on := 4, ground := Go.Ground.textOnly Go.Departure.lateStores }, { on := 5, ground := Go.Ground.textOnly Go.Departure.lateStores }, { on := 6, ground := Go.Ground.textOnly Go.Departure.lateStoresUnsure }, { on := 7, ground := Go.Ground.phase }, { on := 8, ground := Go.Ground.phase }, { on := 9, ground := Go.Ground.textOnly Go.Departure.lateStores }], guard := none }) (v := ?_) rfl (by kernel_rfl) (by kernel_rfl) (by kernel_rfl) (by kernel_rfl) (fun _ _ _ h => h) (by first | exact fun _ => hF | exact fun _ => hF (by kernel_rfl)) (fun w => ?_) (by rfl) ?_
      rotate_left
      · first | (go_simp; done) | (go_simp; with_reducible rfl) | (go_split_ands; go_simp; done)
      try simp only [Act.put, List.setIfInBounds_toArray, List.set_cons_zero, List.set_cons_succ]
      refine wpAnyJ_ready (rs := [12]) (by kernel_rfl) (by simp) ?_
      refine AllJ.cons (o := { dst := none, op := Go.Op.store 3 (Go.Operand.tmp 31) (Go.Operand.tmp 28), type := 0, pos := "timers.go:27", after := #[{ on := 11, ground := Go.Ground.data }, { on := 8, ground := Go.Ground.data }, { on := 0, ground := Go.Ground.phase }, { on := 1, ground := Go.Ground.phase }, { on := 2, ground := Go.Ground.phase }, { on := 3, ground := Go.Ground.phase }, { on := 4, ground := Go.Ground.textOnly Go.Departure.lateStores }, { on := 5, ground := Go.Ground.textOnly Go.Departure.lateStores }, { on := 6, ground := Go.Ground.textOnly Go.Departure.lateStoresUnsure }, { on := 7, ground := Go.Ground.phase }, { on := 8, ground := Go.Ground.phase }, { on := 9, ground := Go.Ground.textOnly Go.Departure.lateStores }], guard := none }) rfl (fun Kr hKr => ?_) ?_
      · go_simp
        refine hKr.out _ _ (fun hJ => ?_) (fun hF => ?_)
        · first
          | exact absurd hJ (by decide)
          | (clear hJ; (try dsimp only); all_goals (exact ⟨ri, rj⟩))
        clear hKr
        try simp only [Act.put, List.setIfInBounds_toArray, List.set_cons_zero, List.set_cons_succ]
        refine wpAnyJ_take0 (i := 13) (oi := { dst := some 32, op := Go.Op.nilCheck (Go.Operand.tmp 27), type := 0, pos := "timers.go:27", after := #[{ on := 7, ground := Go.Ground.data }, { on := 0, ground := Go.Ground.phase }, { on := 1, ground := Go.Ground.phase }, { on := 2, ground := Go.Ground.phase }, { on := 3, ground := Go.Ground.phase }, { on := 4, ground := Go.Ground.phase }, { on := 5, ground := Go.Ground.phase }, { on := 6, ground := Go.Ground.phase }, { on := 7, ground := Go.Ground.phase }, { on := 8, ground := Go.Ground.phase }, { on := 9, ground := Go.Ground.phase }, { on := 10, ground := Go.Ground.phase }, { on := 11, ground := Go.Ground.phase }, { on := 12, ground := Go.Ground.phase }], guard := none }) (v := ?_) rfl (by kernel_rfl) (by kernel_rfl) (by kernel_rfl) (by kernel_rfl) (fun _ _ _ h => h) (fun hJ => absurd hJ (by decide)) (fun w => ?_) (by rfl) ?_
        rotate_left
        · first | (go_simp; done) | (go_simp; with_reducible rfl) | (go_split_ands; go_simp; done)
        try simp only [Act.put, List.setIfInBounds_toArray, List.set_cons_zero, List.set_cons_succ]
        refine wpAnyJ_take0 (i := 14) (oi := { dst := some 33, op := Go.Op.fieldAddr 52 (Go.Operand.tmp 32) 2, type := 0, pos := "timers.go:27", after := #[{ on := 13, ground := Go.Ground.data }, { on := 0, ground := Go.Ground.phase }, { on := 1, ground := Go.Ground.phase }, { on := 2, ground := Go.Ground.phase }, { on := 3, ground := Go.Ground.phase }, { on := 4, ground := Go.Ground.phase }, { on := 5, ground := Go.Ground.phase }, { on := 6, ground := Go.Ground.phase }, { on := 7, ground := Go.Ground.phase }, { on := 8, ground := Go.Ground.phase }, { on := 9, ground := Go.Ground.phase }, { on := 10, ground := Go.Ground.phase }, { on := 11, ground := Go.Ground.phase }, { on := 12, ground := Go.Ground.phase }], guard := none }) (v := ?_) rfl (by kernel_rfl) (by kernel_rfl) (by kernel_rfl) (by kernel_rfl) (fun _ _ _ h => h) (fun hJ => absurd hJ (by decide)) (fun w => ?_) (by rfl) ?_
        rotate_left
        · first | (go_simp; done) | (go_simp; with_reducible rfl) | (go_split_ands; go_simp; done)
        try simp only [Act.put, List.setIfInBounds_toArray, List.set_cons_zero, List.set_cons_succ]
        refine wpAnyJ_ready (rs := [15]) (by kernel_rfl) (by simp) ?_
        refine AllJ.cons (o := { dst := none, op := Go.Op.store 3 (Go.Operand.tmp 33) (Go.Operand.tmp 29), type := 0, pos := "timers.go:27", after := #[{ on := 14, ground := Go.Ground.data }, { on := 9, ground := Go.Ground.data }, { on := 12, ground := Go.Ground.chain }, { on := 0, ground := Go.Ground.phase }, { on := 1, ground := Go.Ground.phase }, { on := 2, ground := Go.Ground.phase }, { on := 3, ground := Go.Ground.phase }, { on := 4, ground := Go.Ground.phase }, { on := 5, ground := Go.Ground.phase }, { on := 6, ground := Go.Ground.phase }, { on := 7, ground := Go.Ground.phase }, { on := 8, ground := Go.Ground.phase }, { on := 9, ground := Go.Ground.phase }, { on := 10, ground := Go.Ground.phase }, { on := 11, ground := Go.Ground.phase }, { on := 12, ground := Go.Ground.phase }], guard := none }) rfl (fun Kr hKr => ?_) ?_
        · go_simp
          refine hKr.out _ _ (fun hJ => ?_) (fun hF => ?_)
          · first
            | exact absurd hJ (by decide)
            | (clear hJ; (try dsimp only); all_goals (exact ⟨ri, rj⟩))
          clear hKr
          try simp only [Act.put, List.setIfInBounds_toArray, List.set_cons_zero, List.set_cons_succ]
          refine wpAnyJ_done (by kernel_rfl) ?_ _
          go_end0
          have s3 := (hdone.out _ _ _ _ (tmHead b (some ⟨g, 0, none⟩) L.length c M :: HA2) s2 (by rw [← hpi.out, ← hpj.out])).drew
          exact ⟨rfl, _, ⟨_, c, HA2, rfl, hr3⟩, by rw [hsl.out]; exact s3⟩
        exact AllJ.nil
      exact AllJ.nil
    ·
      go_wp2_with fail
      refine wp_region_J 12 (fun w' => w'.cell? ⟨g, i, none⟩ = some (pt pj) ∧ w'.cell? ⟨g, j, none⟩ = some (pt pi)) (by kernel_rfl) ?_ (fun hF => ?_)
      · (try dsimp only)
        all_goals (exact ⟨ri, rj⟩)
      refine wpAnyJ_take0 (i := 0) (oi := { dst := some 20, op := Go.Op.move (Go.Operand.tmp 0), type := 47, pos := "timers.go:27", after := #[], guard := none }) (v := ?_) rfl (by kernel_rfl) (by kernel_rfl) (by kernel_rfl) (by kernel_rfl) (fun _ _ _ h => h) (by first | exact fun _ => hF | exact fun _ => hF (by kernel_rfl)) (fun w => ?_) (by rfl) ?_
      rotate_left
      · first | (go_simp; done) | (go_simp; with_reducible rfl) | (go_split_ands; go_simp; done)
      try simp only [Act.put, List.setIfInBounds_toArray, List.set_cons_zero, List.set_cons_succ]
      refine wpAnyJ_take0 (i := 1) (oi := { dst := some 21, op := Go.Op.move (Go.Operand.tmp 1), type := 3, pos := "timers.go:27", after := #[], guard := none }) (v := ?_) rfl (by kernel_rfl) (by kernel_rfl) (by kernel_rfl) (by kernel_rfl) (fun _ _ _ h => h) (by first | exact fun _ => hF | exact fun _ => hF (by kernel_rfl)) (fun w => ?_) (by rfl) ?_
      rotate_left
      · first | (go_simp; done) | (go_simp; with_reducible rfl) | (go_split_ands; go_simp; done)
      try simp only [Act.put, List.setIfInBounds_toArray, List.set_cons_zero, List.set_cons_succ]
      refine wpAnyJ_take0 (i := 2) (oi := { dst := some 22, op := Go.Op.indexAddr 47 (Go.Operand.tmp 20) (Go.Operand.tmp 21), type := 0, pos := "timers.go:27", after := #[{ on := 0, ground := Go.Ground.data }, { on := 1, ground := Go.Ground.data }], guard := none }) (v := ?_) rfl (by kernel_rfl) (by kernel_rfl) (by kernel_rfl) (by kernel_rfl) (fun _ _ _ h => h) (by first | exact fun _ => hF | exact fun _ => hF (by kernel_rfl)) (fun w => ?_) (by rfl) ?_
      rotate_left
      · first | (go_simp; done) | (go_simp; with_reducible rfl) | (go_split_ands; go_simp; done)
      try simp only [Act.put, List.setIfInBounds_toArray, List.set_cons_zero, List.set_cons_succ]
      refine wpAnyJ_take (i := 3) (oi := { dst := some 23, op := Go.Op.load 50 (Go.Operand.tmp 22), type := 50, pos := "timers.go:27", after := #[{ on := 2, ground := Go.Ground.data }], guard := none }) (v := ?_) [12] rfl (by kernel_rfl) (by kernel_rfl) (by kernel_rfl) (by kernel_rfl) (by kernel_rfl) (fun _ _ _ h => h) (by first | exact hF | exact hF (by kernel_rfl)) (fun w hFw => ?_) (by rfl) ?_
      rotate_left
      · ((try dsimp only at hFw); first | (go_simp; done) | (go_simp; with_reducible rfl) | (go_split_ands; go_simp; done))
      try simp only [Act.put, List.setIfInBounds_toArray, List.set_cons_zero, List.set_cons_succ]
      refine wpAnyJ_take0 (i := 4) (oi := { dst := some 24, op := Go.Op.move (Go.Operand.tmp 0), type := 47, pos := "timers.go:27", after := #[], guard := none }) (v := ?_) rfl (by kernel_rfl) (by kernel_rfl) (by kernel_rfl) (by kernel_rfl) (fun _ _ _ h => h) (by first | exact fun _ => hF | exact fun _ => hF (by kernel_rfl)) (fun w => ?_) (by rfl) ?_
      rotate_left
      · first | (go_simp; done) | (go_simp; with_reducible rfl) | (go_split_ands; go_simp; done)
      try simp only [Act.put, List.setIfInBounds_toArray, List.set_cons_zero, List.set_cons_succ]
      refine wpAnyJ_take0 (i := 5) (oi := { dst := some 25, op := Go.Op.move (Go.Operand.tmp 2), type := 3, pos := "timers.go:27", after := #[], guard := none }) (v := ?_) rfl (by kernel_rfl) (by kernel_rfl) (by kernel_rfl) (by kernel_rfl) (fun _ _ _ h => h) (by first | exact fun _ => hF | exact fun _ => hF (by kernel_rfl)) (fun w => ?_) (by rfl) ?_
      rotate_left
      · first | (go_simp; done) | (go_simp; with_reducible rfl) | (go_split_ands; go_simp; done)
      try simp only [Act.put, List.setIfInBounds_toArray, List.set_cons_zero, List.set_cons_succ]
      refine wpAnyJ_take0 (i := 6) (oi := { dst := some 26, op := Go.Op.indexAddr 47 (Go.Operand.tmp 24) (Go.Operand.tmp 25), type := 0, pos := "timers.go:27", after := #[{ on := 4, ground := Go.Ground.data }, { on := 5, ground := Go.Ground.data }], guard := none }) (v := ?_) rfl (by kernel_rfl) (by kernel_rfl) (by kernel_rfl) (by kernel_rfl) (fun _ _ _ h => h) (by first | exact fun _ => hF | exact fun _ => hF (by kernel_rfl)) (fun w => ?_) (by rfl) ?_
      rotate_left
      · first | (go_simp; done) | (go_simp; with_reducible rfl) | (go_split_ands; go_simp; done)
      try simp only [Act.put, List.setIfInBounds_toArray, List.set_cons_zero, List.set_cons_succ]
      refine wpAnyJ_take (i := 7) (oi := { dst := some 27, op := Go.Op.load 50 (Go.Operand.tmp 26), type := 50, pos := "timers.go:27", after := #[{ on := 6, ground := Go.Ground.data }], guard := none }) (v := ?_) [12] rfl (by kernel_rfl) (by kernel_rfl) (by kernel_rfl) (by kernel_rfl) (by kernel_rfl) (fun _ _ _ h => h) (by first | exact hF | exact hF (by kernel_rfl)) (fun w hFw => ?_) (by rfl) ?_
      rotate_left
      · ((try dsimp only at hFw); first | (go_simp; done) | (go_simp; with_reducible rfl) | (go_split_ands; go_simp; done))
      try simp only [Act.put, List.setIfInBounds_toArray, List.set_cons_zero, List.set_cons_succ]
      refine wpAnyJ_take0 (i := 8) (oi := { dst := some 28, op := Go.Op.move (Go.Operand.tmp 1), type := 3, pos := "timers.go:27", after := #[], guard := none }) (v := ?_) rfl (by kernel_rfl) (by kernel_rfl) (by kernel_rfl) (by kernel_rfl) (fun _ _ _ h => h) (by first | exact fun _ => hF | exact fun _ => hF (by kernel_rfl)) (fun w => ?_) (by rfl) ?_
      rotate_left
      · first | (go_simp; done) | (go_simp; with_reducible rfl) | (go_split_ands; go_simp; done)
      try simp only [Act.put, List.setIfInBounds_toArray, List.set_cons_zero, List.set_cons_succ]
      refine wpAnyJ_take0 (i := 9) (oi := { dst := some 29, op := Go.Op.move (Go.Operand.tmp 2), type := 3, pos := "timers.go:27", after := #[{ on := 12, ground := Go.Ground.gcOnly Go.Departure.lateStores }], guard := none }) (v := ?_) rfl (by kernel_rfl) (by kernel_rfl) (by kernel_rfl) (by kernel_rfl) (fun _ _ _ h => h) (by first | exact fun _ => hF | exact fun _ => hF (by kernel_rfl)) (fun w => ?_) (by rfl) ?_
      rotate_left
      · first | (go_simp; done) | (go_simp; with_reducible rfl) | (go_split_ands; go_simp; done)
      try simp only [Act.put, List.setIfInBounds_toArray, List.set_cons_zero, List.set_cons_succ]
      refine wpAnyJ_take0 (i := 10) (oi := { dst := some 30, op := Go.Op.nilCheck (Go.Operand.tmp 23), type := 0, pos := "timers.go:27", after := #[{ on := 3, ground := Go.Ground.data }, { on := 0, ground := Go.Ground.phase }, { on := 1, ground := Go.Ground.phase }, { on := 2, ground := Go.Ground.phase }, { on := 3, ground := Go.Ground.phase }, { on := 4, ground := Go.Ground.textOnly Go.Departure.lateStores }, { on := 5, ground := Go.Ground.textOnly Go.Departure.lateStores }, { on := 6, ground := Go.Ground.textOnly Go.Departure.lateStoresUnsure }, { on := 7, ground := Go.Ground.phase }, { on := 8, ground := Go.Ground.phase }, { on := 9, ground := Go.Ground.textOnly Go.Departure.lateStores }], guard := none }) (v := ?_) rfl (by kernel_rfl) (by kernel_rfl) (by kernel_rfl) (by kernel_rfl) (fun _ _ _ h => h) (by first | exact fun _ => hF | exact fun _ => hF (by kernel_rfl)) (fun w => ?_) (by rfl) ?_
      rotate_left
      · first | (go_simp; done) | (go_simp; with_reducible rfl) | (go_split_ands; go_simp; done)
      try simp only [Act.put, List.setIfInBounds_toArray, List.set_cons_zero, List.set_cons_succ]
      refine wpAnyJ_take0 (i := 11) (oi := { dst := some 31, op := Go.Op.fieldAddr 52 (Go.Operand.tmp 30) 2, type := 0, pos := "timers.go:27", after := #[{ on := 10, ground := Go.Ground.data }, { on := 0, ground := Go.Ground.phase }, { on := 1, ground := Go.Ground.phase }, { on := 2, ground := Go.Ground.phase }, { on := 3, ground := Go.Ground.phase }, { on := 4, ground := Go.Ground.textOnly Go.Departure.lateStores }, { on := 5, ground := Go.Ground.textOnly Go.Departure.lateStores }, { on := 6, ground := Go.Ground.textOnly Go.Departure.lateStoresUnsure }, { on := 7, ground := Go.Ground.phase }, { on := 8, ground := Go.Ground.phase }, { on := 9, ground := Go.Ground.textOnly Go.Departure.lateStores }], guard := none }) (v := ?_) rfl (by kernel_rfl) (by kernel_rfl) (by kernel_rfl) (by kernel_rfl) (fun _ _ _ h => h) (by first | exact fun _ => hF | exact fun _ => hF (by kernel_rfl)) (fun w => ?_) (by rfl) ?_
      rotate_left
      · first | (go_simp; done) | (go_simp; with_reducible rfl) | (go_split_ands; go_simp; done)
      try simp only [Act.put, List.setIfInBounds_toArray, List.set_cons_zero, List.set_cons_succ]
      refine wpAnyJ_ready (rs := [12]) (by kernel_rfl) (by simp) ?_
      refine AllJ.cons (o := { dst := none, op := Go.Op.store 3 (Go.Operand.tmp 31) (Go.Operand.tmp 28), type := 0, pos := "timers.go:27", after := #[{ on := 11, ground := Go.Ground.data }, { on := 8, ground := Go.Ground.data }, { on := 0, ground := Go.Ground.phase }, { on := 1, ground := Go.Ground.phase }, { on := 2, ground := Go.Ground.phase }, { on := 3, ground := Go.Ground.phase }, { on := 4, ground := Go.Ground.textOnly Go.Departure.lateStores }, { on := 5, ground := Go.Ground.textOnly Go.Departure.lateStores }, { on := 6, ground := Go.Ground.textOnly Go.Departure.lateStoresUnsure }, { on := 7, ground := Go.Ground.phase }, { on := 8, ground := Go.Ground.phase }, { on := 9, ground := Go.Ground.textOnly Go.Departure.lateStores }], guard := none }) rfl (fun Kr hKr => ?_) ?_
      · go_simp
        refine hKr.out _ _ (fun hJ => ?_) (fun hF => ?_)
        · first
          | exact absurd hJ (by decide)
          | (clear hJ; (try dsimp only); all_goals (exact ⟨ri, rj⟩))
        clear hKr
        try simp only [Act.put, List.setIfInBounds_toArray, List.set_cons_zero, List.set_cons_succ]
        refine wpAnyJ_take0 (i := 13) (oi := { dst := some 32, op := Go.Op.nilCheck (Go.Operand.tmp 27), type := 0, pos := "timers.go:27", after := #[{ on := 7, ground := Go.Ground.data }, { on := 0, ground := Go.Ground.phase }, { on := 1, ground := Go.Ground.phase }, { on := 2, ground := Go.Ground.phase }, { on := 3, ground := Go.Ground.phase }, { on := 4, ground := Go.Ground.phase }, { on := 5, ground := Go.Ground.phase }, { on := 6, ground := Go.Ground.phase }, { on := 7, ground := Go.Ground.phase }, { on := 8, ground := Go.Ground.phase }, { on := 9, ground := Go.Ground.phase }, { on := 10, ground := Go.Ground.phase }, { on := 11, ground := Go.Ground.phase }, { on := 12, ground := Go.Ground.phase }], guard := none }) (v := ?_) rfl (by kernel_rfl) (by kernel_rfl) (by kernel_rfl) (by kernel_rfl) (fun _ _ _ h => h) (fun hJ => absurd hJ (by decide)) (fun w => ?_) (by rfl) ?_
        rotate_left
        · first | (go_simp; done) | (go_simp; with_reducible rfl) | (go_split_ands; go_simp; done)
        try simp only [Act.put, List.setIfInBounds_toArray, List.set_cons_zero, List.set_cons_succ]
        refine wpAnyJ_take0 (i := 14) (oi := { dst := some 33, op := Go.Op.fieldAddr 52 (Go.Operand.tmp 32) 2, type := 0, pos := "timers.go:27", after := #[{ on := 13, ground := Go.Ground.data }, { on := 0, ground := Go.Ground.phase }, { on := 1, ground := Go.Ground.phase }, { on := 2, ground := Go.Ground.phase }, { on := 3, ground := Go.Ground.phase }, { on := 4, ground := Go.Ground.phase }, { on := 5, ground := Go.Ground.phase }, { on := 6, ground := Go.Ground.phase }, { on := 7, ground := Go.Ground.phase }, { on := 8, ground := Go.Ground.phase }, { on := 9, ground := Go.Ground.phase }, { on := 10, ground := Go.Ground.phase }, { on := 11, ground := Go.Ground.phase }, { on := 12, ground := Go.Ground.phase }], guard := none }) (v := ?_) rfl (by kernel_rfl) (by kernel_rfl) (by kernel_rfl) (by kernel_rfl) (fun _ _ _ h => h) (fun hJ => absurd hJ (by decide)) (fun w => ?_) (by rfl) ?_
        rotate_left
        · first | (go_simp; done) | (go_simp; with_reducible rfl) | (go_split_ands; go_simp; done)
        try simp only [Act.put, List.setIfInBounds_toArray, List.set_cons_zero, List.set_cons_succ]
        refine wpAnyJ_ready (rs := [15]) (by kernel_rfl) (by simp) ?_
        refine AllJ.cons (o := { dst := none, op := Go.Op.store 3 (Go.Operand.tmp 33) (Go.Operand.tmp 29), type := 0, pos := "timers.go:27", after := #[{ on := 14, ground := Go.Ground.data }, { on := 9, ground := Go.Ground.data }, { on := 12, ground := Go.Ground.chain }, { on := 0, ground := Go.Ground.phase }, { on := 1, ground := Go.Ground.phase }, { on := 2, ground := Go.Ground.phase }, { on := 3, ground := Go.Ground.phase }, { on := 4, ground := Go.Ground.phase }, { on := 5, ground := Go.Ground.phase }, { on := 6, ground := Go.Ground.phase }, { on := 7, ground := Go.Ground.phase }, { on := 8, ground := Go.Ground.phase }, { on := 9, ground := Go.Ground.phase }, { on := 10, ground := Go.Ground.phase }, { on := 11, ground := Go.Ground.phase }, { on := 12, ground := Go.Ground.phase }], guard := none }) rfl (fun Kr hKr => ?_) ?_
        · go_simp
          refine hKr.out _ _ (fun hJ => ?_) (fun hF => ?_)
          · first
            | exact absurd hJ (by decide)
            | (clear hJ; (try dsimp only); all_goals (exact ⟨ri, rj⟩))
          clear hKr
          try simp only [Act.put, List.setIfInBounds_toArray, List.set_cons_zero, List.set_cons_succ]
          refine wpAnyJ_done (by kernel_rfl) ?_ _
          go_end0
          have s3 := (hdone.out _ _ _ _ (tmHead b (some ⟨g, 0, none⟩) L.length c M :: HA2) s2 (by rw [← hpi.out, ← hpj.out])).drew
          exact ⟨rfl, _, ⟨_, c, HA2, rfl, hr3⟩, by rw [hsl.out]; exact s3⟩
        exact AllJ.nil
      exact AllJ.nil

end Go.Proofs.Ytcocgljaifnmnaa
