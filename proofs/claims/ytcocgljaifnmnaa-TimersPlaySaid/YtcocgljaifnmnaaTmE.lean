/- Timers as a set of numbers and times; Set, Len, New. -/
import Derived.Test.YtcocgljaifnmnaaTmD
import Derived.Test.YtcocgljaifnmnaaMap
namespace Go.Proofs.Ytcocgljaifnmnaa
open Go.RowKit Go.MapKept
attribute [local go_sem ↓] Go.wp_at_zero Go.wp_at_succ

def Th.kv (t : Th) : Value × Value := (ii t.id, pt t.p)
def Th.e (t : Th) : Int × Int := (t.id, t.at')
/-- Timers at b with the things L (in the heap's order). -/
def TmIs (b : Nat) (L : List Th) (H : Heaplet) : Prop :=
  ∃ m o D HT, H = HT ++ [(m, o)] ∧ TmRep b (.map (some m)) L HT ∧ MapObj (.int .i64) o D ∧ D.Perm (L.map Th.kv) ∧ HOk L L.length
/-- .. as a set of numbers with their times (in whatever order). -/
def TmS (b : Nat) (S : List (Int × Int)) (H : Heaplet) : Prop := ∃ L, TmIs b L H ∧ (L.map Th.e).Perm S
theorem TmIs.ids {b : Nat} {L : List Th} {H : Heaplet} (h : TmIs b L H) : (L.map Th.id).Nodup := by
  obtain ⟨m, o, D, HT, -, -, hm, hp, -⟩ := h
  have h1 := (hp.map Prod.fst).nodup_iff.1 hm.nodup
  rw [List.map_map] at h1
  rw [List.nodup_iff_pairwise_ne, List.pairwise_map] at *
  exact h1.imp fun hne e => hne (by simp [Th.kv, e])
theorem thH_set {L : List Th} {i : Nat} (hi : i < L.length) : ∃ A B, thH L = A ++ ((gt L i).p, (gt L i).obj i) :: B ∧ ∀ t' : Th, t'.p = (gt L i).p → thH (L.set i t') = A ++ ((gt L i).p, t'.obj i) :: B := by
  have key : ∀ (L : List Th) (i k : Nat), i < L.length → ∃ A B, (L.zipIdx k).map (fun x => (x.1.p, x.1.obj x.2)) = A ++ ((gt L i).p, (gt L i).obj (k + i)) :: B ∧ ∀ t' : Th, t'.p = (gt L i).p → ((L.set i t').zipIdx k).map (fun x => (x.1.p, x.1.obj x.2)) = A ++ ((gt L i).p, t'.obj (k + i)) :: B := by
    intro L
    induction L with
    | nil => intro i k h; simp at h
    | cons x L ih =>
      intro i k h
      cases i with
      | zero => exact ⟨[], (L.zipIdx (k + 1)).map (fun x => (x.1.p, x.1.obj x.2)), by simp [gt, List.zipIdx_cons], fun t' ht => by simp [gt, List.zipIdx_cons] at ht ⊢; rw [ht]⟩
      | succ i =>
        obtain ⟨A, B, h1, h2⟩ := ih i (k + 1) (by simpa using h)
        have hg : gt (x :: L) (i + 1) = gt L i := by simp [gt]
        refine ⟨(x.p, x.obj k) :: A, B, ?_, fun t' ht => ?_⟩
        · rw [hg, List.zipIdx_cons, List.map_cons, h1, show k + (i + 1) = k + 1 + i by omega]; rfl
        · rw [hg] at ht ⊢
          rw [List.set_cons_succ, List.zipIdx_cons, List.map_cons, h2 t' ht, show k + (i + 1) = k + 1 + i by omega]; rfl
  obtain ⟨A, B, h1, h2⟩ := key L i 0 hi
  rw [Nat.zero_add] at h1 h2
  exact ⟨A, B, h1, h2⟩
theorem len_any (b : Nat) (M : Value) (L : List Th) (H : Heaplet) (w : World) (h : TmRep b M L H) (hw : Own w H) :
    Calls Try.prog 11 #[pt b] w fun e w' => e = .returned (iv L.length) ∧ w = w' := by
  obtain ⟨a, c, HA, rfl, hr⟩ := h
  obtain ⟨c0, c1⟩ := cells2 (Own.h0 hw)
  go_enter Try.func11, Try.ntmps11
  go_wp2_with fail
  go_ret
  exact ⟨rfl, rfl⟩
theorem tmrep_new (b m : Nat) : TmRep b (.map (some m)) [] [(b, .cells #[.slice none 0 0, .map (some m)] 49 (0, 0))] := ⟨none, 0, [], rfl, SlRep.nil _ _⟩
def NewPost (w : World) (e : Ending) (w' : World) : Prop := ∃ b H, e = .returned (pt b) ∧ TmS b [] H ∧ Step w [] w' H
theorem new_any (w : World) : Calls Try.prog 9 #[] w (NewPost w) := by
  have hmm := @run_makeMap Try.prog
  go_enter Try.func9, Try.ntmps9
  go_wp2_with fail
  go_ret
  have s := ((Step.refl (Own.nil w)).alloc (.map #[] 0)).alloc (.cells #[.slice none 0 0, .map (some w.heap.size)] 49)
  simp only [World.size_alloc] at s
  exact ⟨w.heap.size + 1, _, rfl, ⟨[], ⟨w.heap.size, _, [], _, rfl, tmrep_new _ _, mapObj_new _, List.Perm.refl _, fun k a b => absurd b (by simp)⟩, List.Perm.refl _⟩, s⟩
/-! ## Set -/
def hasS (S : List (Int × Int)) (id : Int) : Bool := S.any fun x => x.1 == id
def setS (S : List (Int × Int)) (id at' : Int) : Bool × List (Int × Int) :=
  if hasS S id then (true, S.map fun x => if x.1 = id then (id, at') else x) else if 4096 ≤ S.length then (false, S) else (true, S ++ [(id, at')])
theorem hasS_perm {S S' : List (Int × Int)} (h : S.Perm S') (id : Int) : hasS S id = hasS S' id := by
  unfold hasS; rw [Bool.eq_iff_iff, List.any_eq_true, List.any_eq_true]
  exact ⟨fun ⟨x, a, b⟩ => ⟨x, h.mem_iff.1 a, b⟩, fun ⟨x, a, b⟩ => ⟨x, h.mem_iff.2 a, b⟩⟩
theorem setS_perm {S S' : List (Int × Int)} (h : S.Perm S') (id at' : Int) : (setS S id at').1 = (setS S' id at').1 ∧ (setS S id at').2.Perm (setS S' id at').2 := by
  unfold setS
  rw [hasS_perm h, h.length_eq]
  split
  · exact ⟨rfl, h.map _⟩
  · split
    · exact ⟨rfl, h⟩
    · exact ⟨rfl, h.append_right _⟩
def SetPost (b : Nat) (x : Bool × List (Int × Int)) (H : Heaplet) (w : World) (e : Ending) (w' : World) : Prop := e = .returned (.bool x.1) ∧ ∃ H', TmS b x.2 H' ∧ Step w H w' H'
theorem hasS_of {L : List Th} {id : Int} (h : hasS (L.map Th.e) id = true) : ∃ i, i < L.length ∧ (gt L i).id = id := by
  unfold hasS at h
  rw [List.any_eq_true] at h
  obtain ⟨x, hx, he⟩ := h
  obtain ⟨t, ht, rfl⟩ := List.mem_map.1 hx
  obtain ⟨i, hi, e⟩ := List.mem_iff_getElem.1 ht
  exact ⟨i, hi, by rw [gt_eq hi, e]; simpa [Th.e] using he⟩
theorem hasS_no {L : List Th} {id : Int} (h : hasS (L.map Th.e) id = false) : ∀ t ∈ L, t.id ≠ id := by
  intro t ht e
  have : hasS (L.map Th.e) id = true := by
    unfold hasS; rw [List.any_eq_true]
    exact ⟨t.e, List.mem_map.2 ⟨t, ht, rfl⟩, by simp [Th.e, e]⟩
  rw [this] at h; cases h
theorem setS_at {L : List Th} {i : Nat} (hi : i < L.length) (hn : (L.map Th.id).Nodup) (at' : Int) :
    ((L.set i { gt L i with at' := at' }).map Th.e) = (L.map Th.e).map fun x => if x.1 = (gt L i).id then ((gt L i).id, at') else x := by
  apply List.ext_getElem?
  intro k
  simp only [List.getElem?_map, List.getElem?_set]
  by_cases hk : i = k
  · subst hk
    rw [if_pos rfl, if_pos hi, gt_get hi]
    simp [Th.e]
  · rw [if_neg hk]
    cases hL : L[k]? with
    | none => rfl
    | some t =>
      have hne : t.id ≠ (gt L i).id := fun e => by
        obtain ⟨hkl, hke⟩ := List.getElem?_eq_some_iff.1 hL
        have hp := List.pairwise_iff_getElem.1 hn
        rw [gt_eq hi] at e
        rcases Nat.lt_or_gt_of_ne hk with h | h
        · exact hp i k (by simpa using hi) (by simpa using hkl) h (by simp [hke, e])
        · exact hp k i (by simpa using hkl) (by simpa using hi) h (by simp [hke, e])
      simp [Th.e, hne]
theorem zero_ptr (w : World) : (zeroValue 50).run Try.prog w = .ok (.pointer none) w := by kernel_rfl

theorem fix_of_set {L : List Th} {i : Nat} (hi : i < L.length) (t' : Th) (ho : HOk L L.length) : HFix (L.set i t') L.length i := by
  have g : ∀ k, k ≠ i → gt (L.set i t') k = gt L k := fun k hk => by
    unfold gt; simp only [List.getD_eq_getElem?_getD]; rw [List.getElem?_set, if_neg (Ne.symm hk)]
  refine ⟨fun k h0 hk hki hp => ?_, fun k h0 hk hki hi0 => ?_⟩
  · rw [g _ hp, g _ hki]; exact ho k h0 hk
  · rw [g _ (by omega), g _ (by omega)]
    have h1 := ho i hi0 hi
    have h2 := ho k h0 hk
    rw [hki] at h2
    exact Th.le_trans h1 h2
theorem gt_perm_mem {L : List Th} {i : Nat} (hi : i < L.length) : gt L i ∈ L := List.mem_of_getElem? (gt_get hi)
theorem map_fits {L L' : List Th} {D : List (Value × Value)} (h : D.Perm (L.map Th.kv)) (hp : (L'.map Th.kv).Perm (L.map Th.kv)) : D.Perm (L'.map Th.kv) := h.trans hp.symm
set_option maxHeartbeats 2000000 in
set_option maxRecDepth 100000 in
/-- Set at a number that is there. -/
theorem set_has (b : Nat) (L : List Th) (i : Nat) (at' : Int) (H : Heaplet) (w : World) (h : TmIs b L H) (hw : Own w H) (hl : L.length ≤ 4096) (hi : i < L.length) :
    Calls Try.prog 10 #[pt b, ii (gt L i).id, ii at'] w (SetPost b (true, (L.map Th.e).map fun x => if x.1 = (gt L i).id then ((gt L i).id, at') else x) H w) := by
  have hse := Lib.hid (setS_at hi h.ids at')
  obtain ⟨m, o, D, HT, rfl, hr, hm, hp, hok⟩ := h
  have hr' := hr
  obtain ⟨a, c, HA, rfl, hsl⟩ := hr'
  obtain ⟨c0, c1⟩ := cells2 (Own.h0 hw)
  have hob : w.heap[m]? = some o := hw.right.h0
  have hmem : (ii (gt L i).id, pt (gt L i).p) ∈ D := hp.mem_iff.2 (List.mem_map.2 ⟨gt L i, gt_perm_mem hi, rfl⟩)
  have hlk := run_mlookup (P := Try.prog) Try.underlying45 Try.underlying3 hm (k := ii (gt L i).id) (by exact rfl) hob hmem false
  simp only [Bool.false_eq_true, if_false] at hlk
  obtain ⟨A, B, hT, hT'⟩ := thH_set hi
  have hT2 := hT' { gt L i with at' := at' } rfl
  have hth := th_cells hw.left.tail.right hi
  have fth := fun k => frz_of (i := k) (th_obj hw.left.tail.right hi)
  have hkv : ((L.set i { gt L i with at' := at' }).map Th.kv) = L.map Th.kv := by
    apply List.ext_getElem?
    intro k
    simp only [List.getElem?_map, List.getElem?_set]
    by_cases hk : i = k
    · subst hk; rw [if_pos rfl, if_pos hi, gt_get hi]; rfl
    · rw [if_neg hk]
  have hfx := fix_of_set hi { gt L i with at' := at' } hok
  have hlen : (L.set i { gt L i with at' := at' }).length = L.length := by simp
  have hptr : ((L.set i { gt L i with at' := at' }).map fun t => pt t.p) = L.map fun t => pt t.p := by
    apply List.ext_getElem?
    intro k
    simp only [List.getElem?_map, List.getElem?_set]
    by_cases hk : i = k
    · subst hk; rw [if_pos rfl, if_pos hi, gt_get hi]; rfl
    · rw [if_neg hk]
  have s1 : Step w (tmHead b a L.length c (.map (some m)) :: (HA ++ thH L) ++ [(m, o)]) (w.setCell ⟨(gt L i).p, 1, none⟩ (ii at')) (tmHead b a L.length c (.map (some m)) :: (HA ++ thH (L.set i { gt L i with at' := at' })) ++ [(m, o)]) := by
    have s0 := Step.refl hw
    rw [hT] at s0 ⊢
    rw [hT2]
    have s0' := Step.store (A := tmHead b a L.length c (.map (some m)) :: (HA ++ A)) (B := B ++ [(m, o)]) (ii at') (i := 1) (b := (gt L i).p) (c := #[ii (gt L i).id, ii (gt L i).at', iv i]) (T := 52) (f := (0, 0)) (s0.perm (List.Perm.refl _) (by simp [Th.obj]))
    exact s0'.perm (List.Perm.refl _) (by simp [Th.obj])
  have hr1 : TmRep b (.map (some m)) (L.set i { gt L i with at' := at' }) (tmHead b a L.length c (.map (some m)) :: (HA ++ thH (L.set i { gt L i with at' := at' }))) := ⟨a, c, HA, by rw [hlen], by rw [hlen, hptr]; exact hsl⟩
  have hfc := Lib.hid (fun W hW => hfix_any b (.map (some m)) (L.set i { gt L i with at' := at' }) i _ W hr1 hW (by rw [hlen]; omega) (by rw [hlen]; exact hi) (by rw [hlen]; exact hfx))
  unfold FixPost at hfc
  have hpl : (w.setCell ⟨(gt L i).p, 1, none⟩ (ii at')).cell? ⟨(gt L i).p, 2, none⟩ = some (iv i) := by
    have hi1 : i < (L.set i { gt L i with at' := at' }).length := by rw [hlen]; exact hi
    have h2 := (th_cells s1.own.left.tail.right hi1).2.2
    have h3 : (gt (L.set i { gt L i with at' := at' }) i).p = (gt L i).p := by unfold gt; simp [List.getD_eq_getElem?_getD, hi]
    rw [h3] at h2; exact h2
  have hfin : Hid (∀ (w' : World) (L' : List Th) (H' : Heaplet), L'.Perm (L.set i { gt L i with at' := at' }) → HOk L' L'.length → TmRep b (.map (some m)) L' H' → Step w (tmHead b a L.length c (.map (some m)) :: (HA ++ thH L) ++ [(m, o)]) w' (H' ++ [(m, o)]) →
      SetPost b (true, (L.map Th.e).map fun x => if x.1 = (gt L i).id then ((gt L i).id, at') else x) (tmHead b a L.length c (.map (some m)) :: (HA ++ thH L) ++ [(m, o)]) w (.returned (.bool true)) w') := fun w' L' H' p1 p2 p3 p4 =>
    ⟨rfl, _, ⟨L', ⟨m, o, D, H', rfl, p3, hm, map_fits hp (by rw [← hkv]; exact p1.map _), p2⟩, by rw [← hse.out]; exact p1.map _⟩, p4⟩
  generalize L.set i { gt L i with at' := at' } = L1 at *
  obtain ⟨x0, x1, x2⟩ := hth
  replace hp := Lib.hid hp
  replace hT := Lib.hid hT
  replace hT2 := Lib.hid hT2
  replace hkv := Lib.hid hkv
  replace hlen := Lib.hid hlen
  replace hptr := Lib.hid hptr
  replace hfin' := hfin
  clear hT' hfx hok hse hmem hr1
  generalize hGG : tmHead b a L.length c (.map (some m)) :: (HA ++ thH L) ++ [(m, o)] = GG at *
  replace hGG := Lib.hid hGG
  clear hr
  generalize (gt L i).p = p at *
  generalize (gt L i).id = id at *
  go_enter Try.func10, Try.ntmps10
  go_wp2_with fail
  have sd := s1.drew
  refine wp_region_J 8 (fun w' => w'.cell? ⟨p, 2, none⟩ = some (iv i)) (by kernel_rfl) ?_ (fun hF => ?_)
  · (try dsimp only)
    all_goals (exact hpl)
  refine wpAnyJ_take0 (i := 0) (oi := { dst := some 23, op := Go.Op.move (Go.Operand.tmp 0), type := 23, pos := "timers.go:60", after := #[], guard := none }) (v := ?_) rfl (by kernel_rfl) (by kernel_rfl) (by kernel_rfl) (by kernel_rfl) (fun _ _ _ h => h) (by first | exact fun _ => hF | exact fun _ => hF (by kernel_rfl)) (fun w => ?_) (by rfl) ?_
  rotate_left
  · first | (go_simp; done) | (go_simp; with_reducible rfl) | (go_split_ands; go_simp; done)
  try simp only [Act.put, List.setIfInBounds_toArray, List.set_cons_zero, List.set_cons_succ]
  refine wpAnyJ_take0 (i := 1) (oi := { dst := some 24, op := Go.Op.nilCheck (Go.Operand.tmp 23), type := 0, pos := "timers.go:60", after := #[{ on := 0, ground := Go.Ground.data }], guard := none }) (v := ?_) rfl (by kernel_rfl) (by kernel_rfl) (by kernel_rfl) (by kernel_rfl) (fun _ _ _ h => h) (by first | exact fun _ => hF | exact fun _ => hF (by kernel_rfl)) (fun w => ?_) (by rfl) ?_
  rotate_left
  · first | (go_simp; done) | (go_simp; with_reducible rfl) | (go_split_ands; go_simp; done)
  try simp only [Act.put, List.setIfInBounds_toArray, List.set_cons_zero, List.set_cons_succ]
  refine wpAnyJ_take0 (i := 2) (oi := { dst := some 25, op := Go.Op.fieldAddr 49 (Go.Operand.tmp 24) 0, type := 0, pos := "timers.go:60", after := #[{ on := 1, ground := Go.Ground.data }], guard := none }) (v := ?_) rfl (by kernel_rfl) (by kernel_rfl) (by kernel_rfl) (by kernel_rfl) (fun _ _ _ h => h) (by first | exact fun _ => hF | exact fun _ => hF (by kernel_rfl)) (fun w => ?_) (by rfl) ?_
  rotate_left
  · first | (go_simp; done) | (go_simp; with_reducible rfl) | (go_split_ands; go_simp; done)
  try simp only [Act.put, List.setIfInBounds_toArray, List.set_cons_zero, List.set_cons_succ]
  refine wpAnyJ_take0 (i := 3) (oi := { dst := some 26, op := Go.Op.makeInterface 54 (Go.Operand.tmp 25), type := 62, pos := "timers.go:60", after := #[{ on := 2, ground := Go.Ground.data }], guard := none }) (v := ?_) rfl (by kernel_rfl) (by kernel_rfl) (by kernel_rfl) (by kernel_rfl) (fun _ _ _ h => h) (by first | exact fun _ => hF | exact fun _ => hF (by kernel_rfl)) (fun w => ?_) (by rfl) ?_
  rotate_left
  · first | (go_simp; done) | (go_simp; with_reducible rfl) | (go_split_ands; go_simp; done)
  try simp only [Act.put, List.setIfInBounds_toArray, List.set_cons_zero, List.set_cons_succ]
  refine wpAnyJ_take0 (i := 4) (oi := { dst := some 27, op := Go.Op.move (Go.Operand.tmp 7), type := 50, pos := "timers.go:60", after := #[], guard := none }) (v := ?_) rfl (by kernel_rfl) (by kernel_rfl) (by kernel_rfl) (by kernel_rfl) (fun _ _ _ h => h) (by first | exact fun _ => hF | exact fun _ => hF (by kernel_rfl)) (fun w => ?_) (by rfl) ?_
  rotate_left
  · first | (go_simp; done) | (go_simp; with_reducible rfl) | (go_split_ands; go_simp; done)
  try simp only [Act.put, List.setIfInBounds_toArray, List.set_cons_zero, List.set_cons_succ]
  refine wpAnyJ_take0 (i := 5) (oi := { dst := some 28, op := Go.Op.nilCheck (Go.Operand.tmp 27), type := 0, pos := "timers.go:60", after := #[{ on := 4, ground := Go.Ground.data }], guard := none }) (v := ?_) rfl (by kernel_rfl) (by kernel_rfl) (by kernel_rfl) (by kernel_rfl) (fun _ _ _ h => h) (by first | exact fun _ => hF | exact fun _ => hF (by kernel_rfl)) (fun w => ?_) (by rfl) ?_
  rotate_left
  · first | (go_simp; done) | (go_simp; with_reducible rfl) | (go_split_ands; go_simp; done)
  try simp only [Act.put, List.setIfInBounds_toArray, List.set_cons_zero, List.set_cons_succ]
  refine wpAnyJ_take0 (i := 6) (oi := { dst := some 29, op := Go.Op.fieldAddr 52 (Go.Operand.tmp 28) 2, type := 0, pos := "timers.go:60", after := #[{ on := 5, ground := Go.Ground.data }], guard := none }) (v := ?_) rfl (by kernel_rfl) (by kernel_rfl) (by kernel_rfl) (by kernel_rfl) (fun _ _ _ h => h) (by first | exact fun _ => hF | exact fun _ => hF (by kernel_rfl)) (fun w => ?_) (by rfl) ?_
  rotate_left
  · first | (go_simp; done) | (go_simp; with_reducible rfl) | (go_split_ands; go_simp; done)
  try simp only [Act.put, List.setIfInBounds_toArray, List.set_cons_zero, List.set_cons_succ]
  refine wpAnyJ_take (i := 7) (oi := { dst := some 30, op := Go.Op.load 3 (Go.Operand.tmp 29), type := 3, pos := "timers.go:60", after := #[{ on := 6, ground := Go.Ground.data }], guard := none }) (v := ?_) [8] rfl (by kernel_rfl) (by kernel_rfl) (by kernel_rfl) (by kernel_rfl) (by kernel_rfl) (fun _ _ _ h => h) (by first | exact hF | exact hF (by kernel_rfl)) (fun w hFw => ?_) (by rfl) ?_
  rotate_left
  · ((try dsimp only at hFw); first | (go_simp; done) | (go_simp; with_reducible rfl) | (go_split_ands; go_simp; done))
  try simp only [Act.put, List.setIfInBounds_toArray, List.set_cons_zero, List.set_cons_succ]
  refine wpAnyJ_ready (rs := [8]) (by kernel_rfl) (by simp) ?_
  refine AllJ.cons (o := { dst := some 31, op := Go.Op.call { callee := Go.Callee.value (Go.Operand.func 20), args := #[Go.Operand.tmp 26, Go.Operand.tmp 30], argTypes := #[62, 3] }, type := 0, pos := "timers.go:60", after := #[{ on := 3, ground := Go.Ground.data }, { on := 7, ground := Go.Ground.data }], guard := none }) rfl (fun Kr hKr => ?_) ?_
  · go_simp; go_at_call 20; refine (hfc.out _ sd.own.left).mono ?_; rintro e w2 ⟨rfl, L', H', p1, p2, p3, p4⟩
    refine hKr.out _ _ (fun hJ => ?_) (fun hF => ?_)
    · first
      | exact absurd hJ (by decide)
      | (clear hJ; (try dsimp only); all_goals (exact hpl))
    clear hKr
    try simp only [Act.put, List.setIfInBounds_toArray, List.set_cons_zero, List.set_cons_succ]
    refine wpAnyJ_done (by kernel_rfl) ?_ _
    go_wp2_with fail
    go_ret
    exact hfin.out _ L' H' p1 p2 p3 (sd.call p4)
  exact AllJ.nil

theorem map_nil (m : Nat) (w : World) : (binOp .eql 45 (.map (some m)) (.map none)).run Try.prog w = .ok (.bool false) w := by kernel_rfl
theorem keys_no {L : List Th} {D : List (Value × Value)} {id : Int} (hp : D.Perm (L.map Th.kv)) (h : hasS (L.map Th.e) id = false) : ∀ p ∈ D, p.1 ≠ ii id := by
  intro p hpD e
  obtain ⟨t, ht, rfl⟩ := List.mem_map.1 (hp.mem_iff.1 hpD)
  refine hasS_no h t ht ?_
  simpa [Th.kv] using e
set_option maxHeartbeats 2000000 in
set_option maxRecDepth 100000 in
theorem set_full (b : Nat) (L : List Th) (id at' : Int) (H : Heaplet) (w : World) (h : TmIs b L H) (hw : Own w H) (hl : 4096 ≤ L.length) (hl5 : L.length ≤ 5000) (hno : hasS (L.map Th.e) id = false) :
    Calls Try.prog 10 #[pt b, ii id, ii at'] w (SetPost b (false, L.map Th.e) H w) := by
  have hfin : Hid (SetPost b (false, L.map Th.e) H w (.returned (.bool false)) w) := ⟨rfl, H, ⟨L, h, List.Perm.refl _⟩, Step.refl hw⟩
  obtain ⟨m, o, D, HT, rfl, hr, hm, hp, hok⟩ := h
  have hob : w.heap[m]? = some o := hw.right.h0
  obtain ⟨a, c, HA, rfl, hsl⟩ := hr
  obtain ⟨c0, c1⟩ := cells2 (Own.h0 hw)
  have hlk := run_mlookup_no (P := Try.prog) Try.underlying45 Try.underlying3 hm (k := ii id) (by exact rfl) hob (zero_ptr w) (keys_no hp hno) false
  simp only [Bool.false_eq_true, if_false] at hlk
  have b1 : (4096 : Int) ≤ (L.length : Int) := by omega
  clear hp hok hno hsl hm
  go_enter Try.func10, Try.ntmps10
  go_wp2_with fail
  go_ret
  exact hfin.out
set_option maxHeartbeats 2000000 in
set_option maxRecDepth 100000 in
theorem set_new (b : Nat) (L : List Th) (id at' : Int) (H : Heaplet) (w : World) (h : TmIs b L H) (hw : Own w H) (hl : L.length < 4096) (hno : hasS (L.map Th.e) id = false) :
    Calls Try.prog 10 #[pt b, ii id, ii at'] w (SetPost b (true, L.map Th.e ++ [(id, at')]) H w) := by
  obtain ⟨m, o, D, HT, rfl, hr, hm, hp, hok⟩ := h
  have hob : w.heap[m]? = some o := hw.right.h0
  have hlk := run_mlookup_no (P := Try.prog) Try.underlying45 Try.underlying3 hm (k := ii id) (by exact rfl) hob (zero_ptr w) (keys_no hp hno) false
  simp only [Bool.false_eq_true, if_false] at hlk
  obtain ⟨t, ht⟩ : ∃ t : Th, t = ⟨w.heap.size, id, at'⟩ := ⟨_, rfl⟩
  have s1 := (Step.refl hw).alloc (t.obj 0)
  have hob1 : (w.alloc (t.obj 0)).heap[m]? = some o := s1.own.tail.right.h0
  obtain ⟨o', hrun, hm'⟩ := run_mupdate_no (P := Try.prog) Try.underlying45 Try.underlying3 hm (k := ii id) (by exact rfl) hob1 (keys_no hp hno) (pt w.heap.size)
  have s2 := Step.putObj (A := (w.heap.size, t.obj 0) :: HT) (B := []) o' s1
  have s3 : Step w (HT ++ [(m, o)]) (World.putObj (w.alloc (t.obj 0)) m o') ((HT ++ [(t.p, t.obj 0)]) ++ [(m, o')]) := s2.perm (List.Perm.refl _) (by
    rw [ht]
    exact List.Perm.append_right _ (List.perm_append_comm (l₁ := [_]) (l₂ := HT)))
  have hpu := Lib.hid (fun W hW => hpush_any b (.map (some m)) L t 0 HT W hr hW (by omega) hok)
  unfold HeapPushPost at hpu
  have hfin : Hid (∀ (w' : World) (L' : List Th) (H' : Heaplet), L'.Perm (L ++ [t]) → HOk L' L'.length → TmRep b (.map (some m)) L' H' → Step w (HT ++ [(m, o)]) w' (H' ++ [(m, o')]) → SetPost b (true, L.map Th.e ++ [(id, at')]) (HT ++ [(m, o)]) w (.returned (.bool true)) w') := fun w' L' H' p1 p2 p3 p4 =>
    ⟨rfl, _, ⟨L', ⟨m, o', _, H', rfl, p3, hm', by
      refine (hp.append_right _).trans ?_
      have e : (L.map Th.kv ++ [(ii id, pt w.heap.size)]) = (L ++ [t]).map Th.kv := by rw [List.map_append, ht]; rfl
      rw [e]; exact (p1.map _).symm, p2⟩, by
      have e : (L.map Th.e ++ [(id, at')]) = (L ++ [t]).map Th.e := by rw [List.map_append, ht]; rfl
      rw [e]; exact p1.map _⟩, p4⟩
  generalize hGG : HT ++ [(m, o)] = GG at *
  obtain ⟨a, c, HA, hHT, hsl⟩ := hr
  have hw' : Own w (tmHead b a L.length c (.map (some m)) :: (HA ++ thH L) ++ [(m, o)]) := by rw [← hHT, hGG]; exact hw
  obtain ⟨c0, c1⟩ := cells2 (Own.h0 hw')
  clear hw'
  replace hHT := Lib.hid hHT
  replace hGG := Lib.hid hGG
  have hmn := map_nil m
  have hto : t.obj 0 = .cells #[ii id, ii at', ii 0] 52 := by rw [ht]; rfl
  have o1 : Own (w.alloc (.cells #[ii id, ii at', ii 0] 52)) (tmHead b a L.length c (.map (some m)) :: (HA ++ thH L) ++ [(m, o)]) := by
    rw [← hto, ← hHT.out, hGG.out]; exact s1.own.tail
  obtain ⟨e0, e1⟩ := cells2 o1.h0
  replace hto := Lib.hid hto
  have b1 : (L.length : Int) < 4096 := by omega
  have htp : Hid (t.p = w.heap.size ∧ t.id = id ∧ t.at' = at') := by rw [ht]; exact ⟨rfl, rfl, rfl⟩
  have hrun2 : (Instr.mapUpdate 45 (.map (some m)) (ii id) (pt w.heap.size)).run Try.prog (w.alloc (.cells #[ii id, ii at', ii 0] 52)) = .ok () (World.putObj (w.alloc (t.obj 0)) m o') := by
    have : t.obj 0 = .cells #[ii id, ii at', ii 0] 52 := by rw [ht]; rfl
    rw [← this]; exact hrun
  replace s3 := Lib.hid s3
  replace hrun2 := Lib.hid hrun2
  replace ht := Lib.hid ht
  clear hp hok hno hsl hm hm' hrun s1 s2 hob1 o1
  go_enter Try.func10, Try.ntmps10
  go_wp2_with (at_mapUpdate; refine wpList_mupdate rfl _ _ _ _ rfl (by rfl) (by rfl) (by rfl) hrun2.out ?_; obtain ⟨d0, d1⟩ := cells2 (b := b) (v0 := .slice a L.length c) (v1 := .map (some m)) (T := 49) (f := (0, 0)) (by have := s3.out.own.left.left; rw [hHT.out] at this; exact this.h0))
  refine Step.genC s3.out ?_
  intro W sW
  have hx := hpu.out W sW.own.left
  have hpp : pt t.p = pt w.heap.size := by rw [htp.out.1]
  rw [hpp] at hx
  clear hpp
  refine hx.mono ?_
  rintro e w2 ⟨rfl, L', H', p1, p2, p3, p4⟩
  have p5 := sW.call p4
  go_wp2_with fail
  go_ret
  exact hfin.out _ L' H' p1 p2 p3 p5
theorem SetPost.perm {b : Nat} {x y : Bool × List (Int × Int)} {H : Heaplet} {w w' : World} {e : Ending} (h : SetPost b x H w e w') (h1 : x.1 = y.1) (h2 : x.2.Perm y.2) : SetPost b y H w e w' := by
  obtain ⟨he, H', ⟨L, a, c⟩, d⟩ := h
  exact ⟨by rw [he, h1], H', ⟨L, a, c.trans h2⟩, d⟩
theorem set_any (b : Nat) (S : List (Int × Int)) (id at' : Int) (H : Heaplet) (w : World) (h : TmS b S H) (hw : Own w H) (hl : S.length ≤ 4096) :
    Calls Try.prog 10 #[pt b, ii id, ii at'] w (SetPost b (setS S id at') H w) := by
  obtain ⟨L, h, hp⟩ := h
  obtain ⟨q1, q2⟩ := setS_perm hp id at'
  have hLl : L.length ≤ 4096 := by rw [← hp.length_eq] at hl; simpa using hl
  refine Calls.mono ?_ (fun e w' hq => SetPost.perm (x := setS (L.map Th.e) id at') hq q1 q2)
  unfold setS
  cases hh : hasS (L.map Th.e) id
  · rw [if_neg (by simp)]
    by_cases hf : 4096 ≤ L.length
    · rw [if_pos (by simpa using hf)]
      exact set_full b L id at' H w h hw hf (by omega) hh
    · rw [if_neg (by simpa using hf)]
      exact set_new b L id at' H w h hw (by omega) hh
  · rw [if_pos rfl]
    obtain ⟨i, hi, rfl⟩ := hasS_of hh
    exact set_has b L i at' H w h hw (by omega) hi
theorem setS_len (S : List (Int × Int)) (id at' : Int) (h : S.length ≤ 4096) : (setS S id at').2.length ≤ 4096 := by
  unfold setS
  split
  · simpa using h
  · split
    · exact h
    · simp; omega
theorem lenS_any (b : Nat) (S : List (Int × Int)) (H : Heaplet) (w : World) (h : TmS b S H) (hw : Own w H) :
    Calls Try.prog 11 #[pt b] w fun e w' => e = .returned (iv S.length) ∧ w = w' := by
  obtain ⟨L, ⟨m, o, D, HT, rfl, hr, hm, hp, hok⟩, hpp⟩ := h
  rw [← hpp.length_eq, List.length_map]
  exact len_any b _ L HT w hr hw.left
end Go.Proofs.Ytcocgljaifnmnaa
