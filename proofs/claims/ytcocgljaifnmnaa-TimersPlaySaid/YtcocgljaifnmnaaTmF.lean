/- Timers: Next, Cancel, Due. -/
import Derived.Test.YtcocgljaifnmnaaTmE
namespace Go.Proofs.Ytcocgljaifnmnaa
open Go.RowKit Go.MapKept
attribute [local go_sem ↓] Go.wp_at_zero Go.wp_at_succ

def eLe (x y : Int × Int) : Prop := ¬ (y.2 < x.2 ∨ (y.2 = x.2 ∧ y.1 < x.1))
theorem le_e {a b : Th} : a.le b ↔ eLe a.e b.e := Iff.rfl
def NextPost (S : List (Int × Int)) (w : World) (e : Ending) (w' : World) : Prop :=
  Step w [] w' [] ∧ ((S = [] ∧ e = .returned (.tuple #[ii 0, ii 0, .bool false])) ∨ ∃ x ∈ S, (∀ y ∈ S, eLe x y) ∧ e = .returned (.tuple #[ii x.1, ii x.2, .bool true]))
/-- The first of the heap's order: the least. -/
theorem head_least {L : List Th} (ho : HOk L L.length) (h0 : 0 < L.length) : (gt L 0).e ∈ L.map Th.e ∧ ∀ y ∈ L.map Th.e, eLe (gt L 0).e y := by
  refine ⟨List.mem_map.2 ⟨_, gt_perm_mem h0, rfl⟩, fun y hy => ?_⟩
  obtain ⟨t, ht, rfl⟩ := List.mem_map.1 hy
  obtain ⟨k, hk, rfl⟩ := List.mem_iff_getElem.1 ht
  have := ok_min ho k hk
  rw [gt_eq hk] at this
  exact le_e.1 this
theorem nextL_any (b : Nat) (M : Value) (L : List Th) (H : Heaplet) (w : World) (h : TmRep b M L H) (hw : Own w H) (hl : L.length ≤ 5000) :
    Calls Try.prog 18 #[pt b] w fun e w' => Step w [] w' [] ∧ e = .returned (if L.length = 0 then .tuple #[ii 0, ii 0, .bool false] else .tuple #[ii (gt L 0).id, ii (gt L 0).at', .bool true]) := by
  have hla := Lib.hid (len_any b M L H w h hw)
  by_cases h0 : L.length = 0
  · rw [if_pos h0]
    rw [h0] at hla
    clear h hw
    go_enter Try.func18, Try.ntmps18
    go_wp2_with fail
    refine hla.out.mono ?_
    rintro e w' ⟨rfl, rfl⟩
    go_wp2_with fail
    go_ret3
    exact ⟨Step.refl (Own.nil _), rfl⟩
  · rw [if_neg h0]
    obtain ⟨a, c, HA, rfl, hr⟩ := h
    obtain ⟨c0, c1⟩ := cells2 (Own.h0 hw)
    obtain ⟨g, rfl, rg⟩ := row_at hr hw.tail.left (k := 0) (by omega)
    obtain ⟨t0, t1, t2⟩ := th_cells hw.tail.right (k := 0) (by omega)
    have b1 : ((L.length : Int) == 0) = false := beq_eq_false_iff_ne.2 (by omega)
    have b2 : (0 : Int) < (L.length : Int) := by omega
    clear hr hw
    go_enter Try.func18, Try.ntmps18
    go_wp2_with fail
    refine hla.out.mono ?_
    rintro e w' ⟨rfl, rfl⟩
    go_wp2_with fail
    go_quiet (fail)
    go_wp2_with fail
    go_ret3
    exact ⟨(Step.refl (Own.nil _)).drewN _, rfl⟩
theorem next_any (b : Nat) (S : List (Int × Int)) (H : Heaplet) (w : World) (h : TmS b S H) (hw : Own w H) (hl : S.length ≤ 4096) :
    Calls Try.prog 18 #[pt b] w (NextPost S w) := by
  obtain ⟨L, ⟨m, o, D, HT, rfl, hr, hm, hp, hok⟩, hpp⟩ := h
  have hll : L.length = S.length := by rw [← hpp.length_eq]; simp
  refine (nextL_any b _ L HT w hr hw.left (by omega)).mono fun e w' ⟨hs, he⟩ => ⟨hs, ?_⟩
  by_cases h0 : L.length = 0
  · rw [if_pos h0] at he
    exact .inl ⟨List.eq_nil_of_length_eq_zero (by omega), he⟩
  · rw [if_neg h0] at he
    obtain ⟨h1, h2⟩ := head_least hok (by omega)
    exact .inr ⟨_, hpp.mem_iff.1 h1, fun y hy => h2 y (hpp.mem_iff.2 hy), he⟩
theorem kv_out {D A B : List (Value × Value)} {L L' : List Th} {t : Th} (hD : D = A ++ t.kv :: B) (hp : D.Perm (L.map Th.kv)) (ho : (L' ++ [t]).Perm L) : (A ++ B).Perm (L'.map Th.kv) := by
  subst hD
  have h1 : (A ++ t.kv :: B).Perm (t.kv :: (A ++ B)) := List.perm_middle
  have h2 : (L.map Th.kv).Perm (t.kv :: L'.map Th.kv) := by
    refine ((ho.map Th.kv).symm).trans ?_
    rw [List.map_append]
    exact List.perm_append_comm
  exact (h1.symm.trans (hp.trans h2)).cons_inv
theorem kv_mem {D : List (Value × Value)} {L L' : List Th} {t : Th} (hp : D.Perm (L.map Th.kv)) (ho : (L' ++ [t]).Perm L) : ∃ A B, D = A ++ t.kv :: B := by
  have : t.kv ∈ D := hp.mem_iff.2 (List.mem_map.2 ⟨t, ho.mem_iff.1 (by simp), rfl⟩)
  exact List.append_of_mem this

theorem filter_out {L L' : List Th} {t : Th} {S : List (Int × Int)} (hn : (L.map Th.id).Nodup) (ho : (L' ++ [t]).Perm L) (hs : (L.map Th.e).Perm S) : (L'.map Th.e).Perm (S.filter fun x => x.1 != t.id) := by
  have hn2 : ((L' ++ [t]).map Th.id).Nodup := ((ho.map Th.id).nodup_iff).2 hn
  have h1 : ((L' ++ [t]).map Th.e).Perm S := (ho.map _).trans hs
  refine List.Perm.trans ?_ (h1.filter _)
  rw [List.map_append, List.filter_append]
  have e1 : (L'.map Th.e).filter (fun x => x.1 != t.id) = L'.map Th.e := by
    rw [List.filter_eq_self]
    intro x hx
    obtain ⟨u, hu, rfl⟩ := List.mem_map.1 hx
    rw [List.map_append] at hn2
    have := (List.nodup_append.1 hn2).2.2 u.id (List.mem_map.2 ⟨u, hu, rfl⟩) t.id (by simp)
    simpa [Th.e] using this
  rw [e1]
  simp [Th.e]
/-- A row whose thing t was taken out, and its map: as a whole. -/
theorem TmIs.outed {b m : Nat} {o' : Obj} {D A B : List (Value × Value)} {L L' : List Th} {t : Th} {H' : Heaplet} (hD : D = A ++ t.kv :: B) (hp : D.Perm (L.map Th.kv)) (ho : (L' ++ [t]).Perm L) (hok : HOk L' L'.length) (hr : TmRep b (.map (some m)) L' H') (hm : MapObj (.int .i64) o' (A ++ B)) : TmIs b L' (H' ++ [(m, o')]) :=
  ⟨m, o', A ++ B, H', rfl, hr, hm, kv_out hD hp ho, hok⟩
def CancelPost (b : Nat) (S : List (Int × Int)) (id : Int) (H : Heaplet) (w : World) (e : Ending) (w' : World) : Prop :=
  (hasS S id = false ∧ e = .returned (.tuple #[ii 0, .bool false]) ∧ w = w') ∨ (∃ at', (id, at') ∈ S ∧ e = .returned (.tuple #[ii at', .bool true]) ∧ ∃ H', TmS b (S.filter fun x => x.1 != id) H' ∧ Step w H w' H')
theorem cancel_no (b : Nat) (L : List Th) (id : Int) (H : Heaplet) (w : World) (h : TmIs b L H) (hw : Own w H) (hno : hasS (L.map Th.e) id = false) :
    Calls Try.prog 14 #[pt b, ii id] w fun e w' => e = .returned (.tuple #[ii 0, .bool false]) ∧ w = w' := by
  obtain ⟨m, o, D, HT, rfl, hr, hm, hp, hok⟩ := h
  have hob : w.heap[m]? = some o := hw.right.h0
  obtain ⟨a, c, HA, rfl, hsl⟩ := hr
  obtain ⟨c0, c1⟩ := cells2 (Own.h0 hw)
  have hlk := run_mlookup_no (P := Try.prog) Try.underlying45 Try.underlying3 hm (k := ii id) (by exact rfl) hob (zero_ptr w) (keys_no hp hno) false
  simp only [Bool.false_eq_true, if_false] at hlk
  clear hp hok hno hsl hm
  go_enter Try.func14, Try.ntmps14
  go_wp2_with fail
  go_ret2
  exact ⟨rfl, rfl⟩
def CancelYes (b : Nat) (L : List Th) (t : Th) (H : Heaplet) (w : World) (e : Ending) (w' : World) : Prop :=
  e = .returned (.tuple #[ii t.at', .bool true]) ∧ ∃ L' H', TmIs b L' H' ∧ (L' ++ [t]).Perm L ∧ Step w H w' H'
set_option maxHeartbeats 2000000 in
set_option maxRecDepth 100000 in
theorem cancel_yes (b : Nat) (L : List Th) (i : Nat) (H : Heaplet) (w : World) (h : TmIs b L H) (hw : Own w H) (hl : L.length ≤ 5000) (hi : i < L.length) :
    Calls Try.prog 14 #[pt b, ii (gt L i).id] w (CancelYes b L (gt L i) H w) := by
  obtain ⟨m, o, D, HT, rfl, hr, hm, hp, hok⟩ := h
  obtain ⟨n, hn⟩ : ∃ n, L.length = n + 1 := ⟨L.length - 1, by omega⟩
  have hob : w.heap[m]? = some o := hw.right.h0
  have hmem : (ii (gt L i).id, pt (gt L i).p) ∈ D := hp.mem_iff.2 (List.mem_map.2 ⟨gt L i, gt_perm_mem hi, rfl⟩)
  have hlk := run_mlookup (P := Try.prog) Try.underlying45 Try.underlying3 hm (k := ii (gt L i).id) (by exact rfl) hob hmem false
  simp only [Bool.false_eq_true, if_false] at hlk
  have hrm := Lib.hid (fun W hW => hremove_any b (.map (some m)) L i n HT W hr hW hl hn (by omega) hok)
  unfold OutedPost at hrm
  have s0 := Step.refl hw
  generalize hGG : HT ++ [(m, o)] = GG at *
  obtain ⟨a, c, HA, hHT, hsl⟩ := hr
  have hw' : Own w (tmHead b a L.length c (.map (some m)) :: (HA ++ thH L) ++ [(m, o)]) := by rw [← hHT, hGG]; exact hw
  obtain ⟨c0, c1⟩ := cells2 (Own.h0 hw')
  obtain ⟨t0, t1, t2⟩ := th_cells hw'.left.tail.right hi
  obtain ⟨t, ht⟩ : ∃ t, t = gt L i := ⟨_, rfl⟩
  rw [← ht] at hmem hlk hrm t0 t1 t2 ⊢
  rw [← hGG] at s0
  replace hp := Lib.hid hp
  replace hm := Lib.hid hm
  replace hHT := Lib.hid hHT
  replace hGG := Lib.hid hGG
  replace ht := Lib.hid ht
  replace hn := Lib.hid hn
  clear hw' hw hmem hsl hok hi
  go_enter Try.func14, Try.ntmps14
  go_wp2_with fail
  have sd := s0.drew
  refine wp_region_J 8 (fun w' => w'.cell? ⟨t.p, 2, none⟩ = some (iv i)) (by kernel_rfl) ?_ (fun hF => ?_)
  · (try dsimp only)
    all_goals (exact t2)
  refine wpAnyJ_take0 (i := 0) (oi := { dst := some 24, op := Go.Op.move (Go.Operand.tmp 0), type := 23, pos := "timers.go:81", after := #[], guard := none }) (v := ?_) rfl (by kernel_rfl) (by kernel_rfl) (by kernel_rfl) (by kernel_rfl) (fun _ _ _ h => h) (by first | exact fun _ => hF | exact fun _ => hF (by kernel_rfl)) (fun w => ?_) (by rfl) ?_
  rotate_left
  · first | (go_simp; done) | (go_simp; with_reducible rfl) | (go_split_ands; go_simp; done)
  try simp only [Act.put, List.setIfInBounds_toArray, List.set_cons_zero, List.set_cons_succ]
  refine wpAnyJ_take0 (i := 1) (oi := { dst := some 25, op := Go.Op.nilCheck (Go.Operand.tmp 24), type := 0, pos := "timers.go:81", after := #[{ on := 0, ground := Go.Ground.data }], guard := none }) (v := ?_) rfl (by kernel_rfl) (by kernel_rfl) (by kernel_rfl) (by kernel_rfl) (fun _ _ _ h => h) (by first | exact fun _ => hF | exact fun _ => hF (by kernel_rfl)) (fun w => ?_) (by rfl) ?_
  rotate_left
  · first | (go_simp; done) | (go_simp; with_reducible rfl) | (go_split_ands; go_simp; done)
  try simp only [Act.put, List.setIfInBounds_toArray, List.set_cons_zero, List.set_cons_succ]
  refine wpAnyJ_take0 (i := 2) (oi := { dst := some 26, op := Go.Op.fieldAddr 49 (Go.Operand.tmp 25) 0, type := 0, pos := "timers.go:81", after := #[{ on := 1, ground := Go.Ground.data }], guard := none }) (v := ?_) rfl (by kernel_rfl) (by kernel_rfl) (by kernel_rfl) (by kernel_rfl) (fun _ _ _ h => h) (by first | exact fun _ => hF | exact fun _ => hF (by kernel_rfl)) (fun w => ?_) (by rfl) ?_
  rotate_left
  · first | (go_simp; done) | (go_simp; with_reducible rfl) | (go_split_ands; go_simp; done)
  try simp only [Act.put, List.setIfInBounds_toArray, List.set_cons_zero, List.set_cons_succ]
  refine wpAnyJ_take0 (i := 3) (oi := { dst := some 27, op := Go.Op.makeInterface 54 (Go.Operand.tmp 26), type := 62, pos := "timers.go:81", after := #[{ on := 2, ground := Go.Ground.data }], guard := none }) (v := ?_) rfl (by kernel_rfl) (by kernel_rfl) (by kernel_rfl) (by kernel_rfl) (fun _ _ _ h => h) (by first | exact fun _ => hF | exact fun _ => hF (by kernel_rfl)) (fun w => ?_) (by rfl) ?_
  rotate_left
  · first | (go_simp; done) | (go_simp; with_reducible rfl) | (go_split_ands; go_simp; done)
  try simp only [Act.put, List.setIfInBounds_toArray, List.set_cons_zero, List.set_cons_succ]
  refine wpAnyJ_take0 (i := 4) (oi := { dst := some 28, op := Go.Op.move (Go.Operand.tmp 6), type := 50, pos := "timers.go:81", after := #[], guard := none }) (v := ?_) rfl (by kernel_rfl) (by kernel_rfl) (by kernel_rfl) (by kernel_rfl) (fun _ _ _ h => h) (by first | exact fun _ => hF | exact fun _ => hF (by kernel_rfl)) (fun w => ?_) (by rfl) ?_
  rotate_left
  · first | (go_simp; done) | (go_simp; with_reducible rfl) | (go_split_ands; go_simp; done)
  try simp only [Act.put, List.setIfInBounds_toArray, List.set_cons_zero, List.set_cons_succ]
  refine wpAnyJ_take0 (i := 5) (oi := { dst := some 29, op := Go.Op.nilCheck (Go.Operand.tmp 28), type := 0, pos := "timers.go:81", after := #[{ on := 4, ground := Go.Ground.data }], guard := none }) (v := ?_) rfl (by kernel_rfl) (by kernel_rfl) (by kernel_rfl) (by kernel_rfl) (fun _ _ _ h => h) (by first | exact fun _ => hF | exact fun _ => hF (by kernel_rfl)) (fun w => ?_) (by rfl) ?_
  rotate_left
  · first | (go_simp; done) | (go_simp; with_reducible rfl) | (go_split_ands; go_simp; done)
  try simp only [Act.put, List.setIfInBounds_toArray, List.set_cons_zero, List.set_cons_succ]
  refine wpAnyJ_take0 (i := 6) (oi := { dst := some 30, op := Go.Op.fieldAddr 52 (Go.Operand.tmp 29) 2, type := 0, pos := "timers.go:81", after := #[{ on := 5, ground := Go.Ground.data }], guard := none }) (v := ?_) rfl (by kernel_rfl) (by kernel_rfl) (by kernel_rfl) (by kernel_rfl) (fun _ _ _ h => h) (by first | exact fun _ => hF | exact fun _ => hF (by kernel_rfl)) (fun w => ?_) (by rfl) ?_
  rotate_left
  · first | (go_simp; done) | (go_simp; with_reducible rfl) | (go_split_ands; go_simp; done)
  try simp only [Act.put, List.setIfInBounds_toArray, List.set_cons_zero, List.set_cons_succ]
  refine wpAnyJ_take (i := 7) (oi := { dst := some 31, op := Go.Op.load 3 (Go.Operand.tmp 30), type := 3, pos := "timers.go:81", after := #[{ on := 6, ground := Go.Ground.data }], guard := none }) (v := ?_) [8] rfl (by kernel_rfl) (by kernel_rfl) (by kernel_rfl) (by kernel_rfl) (by kernel_rfl) (fun _ _ _ h => h) (by first | exact hF | exact hF (by kernel_rfl)) (fun w hFw => ?_) (by rfl) ?_
  rotate_left
  · ((try dsimp only at hFw); first | (go_simp; done) | (go_simp; with_reducible rfl) | (go_split_ands; go_simp; done))
  try simp only [Act.put, List.setIfInBounds_toArray, List.set_cons_zero, List.set_cons_succ]
  refine wpAnyJ_ready (rs := [8]) (by kernel_rfl) (by simp) ?_
  refine AllJ.cons (o := { dst := some 32, op := Go.Op.call { callee := Go.Callee.value (Go.Operand.func 24), args := #[Go.Operand.tmp 27, Go.Operand.tmp 31], argTypes := #[62, 3] }, type := 20, pos := "timers.go:81", after := #[{ on := 3, ground := Go.Ground.data }, { on := 7, ground := Go.Ground.data }], guard := none }) rfl (fun Kr hKr => ?_) ?_
  · go_simp; go_at_call 24; refine (hrm.out _ sd.own.left).mono ?_; rintro e w2 ⟨rfl, L', H', k, p1, p2, p3, p4⟩
    have s2 := sd.call p4
    refine hKr.out _ _ (fun hJ => ?_) (fun hF => ?_)
    · first
      | exact absurd hJ (by decide)
      | (clear hJ; (try dsimp only); all_goals (exact t2))
    clear hKr
    try simp only [Act.put, List.setIfInBounds_toArray, List.set_cons_zero, List.set_cons_succ]
    refine wpAnyJ_done (by kernel_rfl) ?_ _
    obtain ⟨A, B, hD⟩ := kv_mem hp.out p1
    have hm2 := hm.out
    rw [hD] at hm2
    have hob2 : w2.heap[m]? = some o := s2.own.right.h0
    obtain ⟨o', hrun, hm3⟩ := run_mdelete (P := Try.prog) Try.underlying45 Try.underlying3 hm2 (by exact rfl) hob2 0
    have s3 := Step.putObj (A := H' ++ [(t.p, t.obj k)]) (B := []) o' s2
    obtain ⟨a2, c2', HA2, hH2, hsl2⟩ := p3
    have x1 : w2.cell? ⟨b, 1, none⟩ = some (.map (some m)) := by
      have := s2.own.left.left
      rw [hH2] at this
      exact (cells2 this.h0).2
    have y1 : (World.putObj w2 m o').cell? ⟨t.p, 1, none⟩ = some (ii t.at') := (cells3 (T := 52) (f := (0, 0)) (v0 := ii t.id) (v2 := iv k) s3.own.left.right.h0).2.1
    have hfin : Hid (CancelYes b L t GG w (.returned (.tuple #[ii t.at', .bool true])) (World.putObj w2 m o')) := ⟨rfl, L', H' ++ [(m, o')], TmIs.outed hD hp.out p1 p2 ⟨a2, c2', HA2, hH2, hsl2⟩ hm3, p1, by
      have s4 := s3.perm (B' := (H' ++ [(m, o')]) ++ [(t.p, t.obj k)]) (List.Perm.refl _) (by rw [List.append_assoc, List.append_assoc]; exact List.Perm.append_left _ (List.Perm.swap _ _ _))
      rw [← hGG.out]; exact s4.forget⟩
    replace hD := Lib.hid hD
    clear hm2 hm3 s3 p1 p2 hsl2 hob2
    go_wp2_with (at_delete; refine wpList_mdelete rfl _ _ _ _ rfl (by rfl) (by rfl) hrun ?_)
    go_ret2
    exact hfin.out
  exact AllJ.nil
end Go.Proofs.Ytcocgljaifnmnaa
