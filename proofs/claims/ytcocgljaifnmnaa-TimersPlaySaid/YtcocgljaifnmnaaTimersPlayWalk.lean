/- TimersPlay. -/
import Derived.Test.YtcocgljaifnmnaaTfD
import Derived.Test.YtcocgljaifnmnaaRecs
import Derived.Deep.CutBlock
namespace Go.Proofs.Ytcocgljaifnmnaa
open Go.RowKit
attribute [local go_sem ↓] Go.wp_at_zero Go.wp_at_succ

theorem eLe_anti {S : List (Int × Int)} {x y : Int × Int} (h : eLe x y) (k : eLe y x) : x = y := by
  unfold eLe at *
  have h1 : x.1 = y.1 := by omega
  have h2 : x.2 = y.2 := by omega
  exact Prod.ext h1 h2
theorem eLe_total (x y : Int × Int) : eLe x y ∨ eLe y x := by unfold eLe; omega
/-- What came due is one list. -/
theorem due_one {S xs S1 ys S2 : List (Int × Int)} {now : Int} (h : (xs ++ S1).Perm S) (k : (ys ++ S2).Perm S) (hp : xs.Pairwise eLe) (kp : ys.Pairwise eLe) (h1 : ∀ x ∈ xs, x.2 ≤ now) (k1 : ∀ x ∈ ys, x.2 ≤ now) (h2 : ∀ y ∈ S1, now < y.2) (k2 : ∀ y ∈ S2, now < y.2) : xs = ys ∧ S1.Perm S2 := by
  have part : ∀ {xs S1 : List (Int × Int)}, (xs ++ S1).Perm S → (∀ x ∈ xs, x.2 ≤ now) → (∀ y ∈ S1, now < y.2) → xs.Perm (S.filter fun x => decide (x.2 ≤ now)) ∧ S1.Perm (S.filter fun x => decide (now < x.2)) := fun {xs S1} h h1 h2 => by
    constructor
    · refine List.Perm.trans ?_ (h.filter _)
      rw [List.filter_append, List.filter_eq_self.2 (fun x hx => by simpa using h1 x hx), List.filter_eq_nil_iff.2 (fun x hx => by have := h2 x hx; simp; omega), List.append_nil]
    · refine List.Perm.trans ?_ (h.filter _)
      have e1 : xs.filter (fun x => decide (now < x.2)) = [] := List.filter_eq_nil_iff.2 (fun x hx => by have := h1 x hx; simp; omega)
      have e2 : S1.filter (fun x => decide (now < x.2)) = S1 := List.filter_eq_self.2 (fun x hx => by simpa using h2 x hx)
      rw [List.filter_append, e1, e2, List.nil_append]
  obtain ⟨a1, a2⟩ := part h h1 h2
  obtain ⟨b1, b2⟩ := part k k1 k2
  exact ⟨List.Perm.eq_of_pairwise (fun a b _ _ h k => eLe_anti (S := []) h k) hp kp (a1.trans b1.symm), a2.trans b2.symm⟩
theorem ids_one {S : List (Int × Int)} (hd : (S.map Prod.fst).Nodup) {i a b : Int} (h : (i, a) ∈ S) (k : (i, b) ∈ S) : a = b := by
  obtain ⟨x, hx, e1⟩ := List.mem_iff_getElem.1 h
  obtain ⟨y, hy, e2⟩ := List.mem_iff_getElem.1 k
  rw [List.nodup_iff_pairwise_ne, List.pairwise_iff_getElem] at hd
  simp only [List.length_map, List.getElem_map] at hd
  rcases Nat.lt_trichotomy x y with q | q | q
  · exact absurd (by rw [e1, e2]) (hd x y hx hy q)
  · subst q; rw [e1] at e2; exact (Prod.mk.inj e2).2
  · exact absurd (by rw [e1, e2]) (hd y x hy hx q)
theorem setS_le (S : List (Int × Int)) (id at' : Int) : (setS S id at').2.length ≤ S.length + 1 := by
  unfold setS
  split
  · simp
  · split
    · simp
    · simp
theorem TmS.other {b : Nat} {S S' : List (Int × Int)} {H : Heaplet} (h : TmS b S H) (p : S.Perm S') : TmS b S' H := by
  obtain ⟨L, x, y⟩ := h; exact ⟨L, x, y.trans p⟩
theorem hasS_mem {S : List (Int × Int)} {id a : Int} (h : (id, a) ∈ S) : hasS S id = true := List.any_eq_true.2 ⟨_, h, by simp⟩
/-- Next tells one thing of a set. -/
theorem next_one (S : List (Int × Int)) : ∃ (n1 n2 : Int) (n3 : Bool), ∀ w e w', NextPost S w e w' → Step w [] w' [] ∧ e = .returned (.tuple #[ii n1, ii n2, .bool n3]) := by
  by_cases hex : ∃ x ∈ S, ∀ y ∈ S, eLe x y
  · obtain ⟨x, hx, hle⟩ := hex
    refine ⟨x.1, x.2, true, fun w e w' ⟨hs, h⟩ => ⟨hs, ?_⟩⟩
    rcases h with ⟨h, _⟩ | ⟨y, hy, hle2, he⟩
    · subst h; cases hx
    · have := eLe_anti (S := []) (hle y hy) (hle2 x hx)
      rw [this]; exact he
  · refine ⟨0, 0, false, fun w e w' ⟨hs, h⟩ => ⟨hs, ?_⟩⟩
    rcases h with ⟨_, h⟩ | ⟨y, hy, hle2, he⟩
    · exact h
    · exact absurd ⟨y, hy, hle2⟩ hex
def stepCells (x : Int × Int × Int) : List Value := [ii x.1, ii x.2.1, ii x.2.2]
def TpAt (b b2 k : Nat) (w : World) (wr : World) : Prop :=
  ∃ (S : List (Int × Int)) (H1 H2 : Heaplet), S.length ≤ k ∧ TmS b S H1 ∧ TfS b2 S H2 ∧ Step w [] wr (H1 ++ H2)
def TpRel (b b2 L : Nat) (w : World) (v : Value) (wr : World) : Prop := ∃ k : Nat, k ≤ 300 ∧ k ≤ L ∧ v = .int .i64 (k : Nat) ∧ TpAt b b2 k w wr
set_option maxHeartbeats 8000000 in
set_option maxRecDepth 100000 in
theorem timersPlay_walk (a : Option Addr) (nl cl : Nat) (l : List (Int × Int × Int)) (w : World) (h : RdRecs w a nl cl 3 stepCells l) (hll : l.length * 24 ≤ 140737488351232) :
    Calls Try.prog 5 #[.slice a nl cl] w fun e w' => e = .returned (.bool true) ∧ Below w.heap.size w w' := by
  suffices hs : Calls Try.prog 5 #[.slice a nl cl] w (LawPost w) from hs.mono fun e w' hp => ⟨hp.1, hp.2.nil_below⟩
  have hnl := h.1
  subst hnl
  replace h := Lib.hid h
  have b4 : (l.length : Int) ≤ 140737488351232 := by omega
  go_enter Try.func5, Try.ntmps5
  go_wp2_with fail
  refine (new_any _).mono ?_
  rintro e w1 ⟨b, H1, rfl, t1, s1⟩
  have s2 := s1.alloc (.cells #[.slice none 0 0] 36)
  have hin : TpAt b w1.heap.size 0 w (w1.alloc (.cells #[.slice none 0 0] 36)) := ⟨[], H1, _, Nat.le_refl _, t1, ⟨⟨none, 0, [], rfl, SlRep.nil _ _⟩, by simp⟩, s2.perm (List.Perm.refl _) (List.perm_append_comm (l₁ := [_]) (l₂ := H1))⟩
  clear t1 s1 s2
  replace hin := Lib.hid hin
  go_wp2_with fail
  generalize w1.heap.size = b2 at hin ⊢
  go_loopw [5] (fun v wr => TpRel b b2 l.length w v wr) (fun v _ => 300 - (intOf v).toNat)
  case atStart => exact ⟨0, by omega, by omega, rfl, hin.out⟩
  case round =>
    clear hin
    obtain ⟨k, hk, hkl, rfl, S, H1, H2, hSk, t1, t2, hs⟩ := hrel
    have d1 : (0 : Int) ≤ (k : Int) := by omega
    by_cases hlt : k < l.length
    · have d2 : (k : Int) < (l.length : Int) := by omega
      by_cases h300 : k < 300
      · have d3 : (k : Int) < 300 := by omega
        obtain ⟨x, hx⟩ : ∃ x, l[k]? = some x := ⟨_, List.getElem?_eq_getElem hlt⟩
        obtain ⟨ab, ao, rfl, hc⟩ := h.out.at' hx
        have hc0 := hs.keepCell (hc 0 _ rfl)
        have hc1 := hs.keepCell (hc 1 _ rfl)
        have hc2 := hs.keepCell (hc 2 _ rfl)
        simp only [Nat.add_zero] at hc0
        obtain ⟨K, id, at'⟩ := x
        simp only at hc0 hc1 hc2
        clear hx hc
        have hxs := hs.alloc (.cells #[ii K, ii id, ii at'] 38)
        have hd := t2.2
        replace t1 := Lib.hid t1
        replace t2 := Lib.hid t2
        go_upto_region 10 with fail
        generalize wr.heap.size = xb at hxs ⊢
        refine Step.gen hxs ?_
        clear hxs
        intro WL sL
        have sL : Step w [] WL (H1 ++ (H2 ++ [(xb, .cells #[ii K, ii id, ii at'] 38 (0, 0))])) := sL.perm (List.Perm.refl _) (by rw [← List.append_assoc]; exact List.perm_append_comm (l₁ := [_]) (l₂ := H1 ++ H2))
        clear hs hc0 hc1 hc2
        obtain ⟨y0, y1, y2⟩ := cells3 sL.own.right.right.h0
        go_upto_block 2 with fail
        go_cut [7] (fun v7 wc => v7 = .bool true ∧ TpAt b b2 (k + 1) w wc)
        case first =>
          have hK : K = 1 ∨ K = 2 ∨ K = 3 ∨ (K ≠ 1 ∧ K ≠ 2 ∧ K ≠ 3) := by omega
          rcases hK with rfl | rfl | rfl | ⟨k1, k2, k3⟩
          · have hp1 := Lib.hid (fun W hW => set_any b S id at' H1 W t1.out hW (by omega))
            have hp2 := Lib.hid (fun W hW => tfset_any b2 S id at' H2 W t2.out hW (by omega))
            have hle := setS_le S id at'
            unfold SetPost at hp1
            unfold TfSetPost at hp2
            generalize hP : setS S id at' = P at hp1 hp2 hle
            obtain ⟨p1, p2⟩ := P
            simp only at hp1 hp2 hle
            replace hP := Lib.hid hP
            have q1 : ((p1 : Bool) == p1) = true := by simp
            clear y0 y1 y2
            go_wp2_with fail
            have sL := sL.drew
            refine wp_region_J 13 (fun w' => w'.cell? ⟨xb, 1, none⟩ = some (ii id) ∧ w'.cell? ⟨xb, 2, none⟩ = some (ii at')) (by kernel_rfl) ?_ (fun hF => ?_)
            · (try dsimp only)
              all_goals (exact (cells3 sL.own.right.right.h0).2)
            refine wpAnyJ_take0 (i := 0) (oi := { dst := some 41, op := Go.Op.move (Go.Operand.tmp 3), type := 23, pos := "law.go:53", after := #[], guard := none }) (v := ?_) rfl (by kernel_rfl) (by kernel_rfl) (by kernel_rfl) (by kernel_rfl) (fun _ _ _ h => h) (by first | exact fun _ => hF | exact fun _ => hF (by kernel_rfl)) (fun w => ?_) (by rfl) ?_
            rotate_left
            · first | (go_simp; done) | (go_simp; with_reducible rfl) | (go_split_ands; go_simp; done)
            try simp only [Act.put, List.setIfInBounds_toArray, List.set_cons_zero, List.set_cons_succ]
            refine wpAnyJ_take0 (i := 1) (oi := { dst := some 42, op := Go.Op.fieldAddr 38 (Go.Operand.tmp 6) 1, type := 0, pos := "law.go:53", after := #[], guard := none }) (v := ?_) rfl (by kernel_rfl) (by kernel_rfl) (by kernel_rfl) (by kernel_rfl) (fun _ _ _ h => h) (by first | exact fun _ => hF | exact fun _ => hF (by kernel_rfl)) (fun w => ?_) (by rfl) ?_
            rotate_left
            · first | (go_simp; done) | (go_simp; with_reducible rfl) | (go_split_ands; go_simp; done)
            try simp only [Act.put, List.setIfInBounds_toArray, List.set_cons_zero, List.set_cons_succ]
            refine wpAnyJ_take (i := 2) (oi := { dst := some 43, op := Go.Op.load 3 (Go.Operand.tmp 42), type := 3, pos := "law.go:53", after := #[{ on := 1, ground := Go.Ground.data }], guard := none }) (v := ?_) [13] rfl (by kernel_rfl) (by kernel_rfl) (by kernel_rfl) (by kernel_rfl) (by kernel_rfl) (fun _ _ _ h => h) (by first | exact hF | exact hF (by kernel_rfl)) (fun w hFw => ?_) (by rfl) ?_
            rotate_left
            · ((try dsimp only at hFw); first | (go_simp; done) | (go_simp; with_reducible rfl) | (go_split_ands; go_simp; done))
            try simp only [Act.put, List.setIfInBounds_toArray, List.set_cons_zero, List.set_cons_succ]
            refine wpAnyJ_take0 (i := 3) (oi := { dst := some 44, op := Go.Op.fieldAddr 38 (Go.Operand.tmp 6) 2, type := 0, pos := "law.go:53", after := #[], guard := none }) (v := ?_) rfl (by kernel_rfl) (by kernel_rfl) (by kernel_rfl) (by kernel_rfl) (fun _ _ _ h => h) (by first | exact fun _ => hF | exact fun _ => hF (by kernel_rfl)) (fun w => ?_) (by rfl) ?_
            rotate_left
            · first | (go_simp; done) | (go_simp; with_reducible rfl) | (go_split_ands; go_simp; done)
            try simp only [Act.put, List.setIfInBounds_toArray, List.set_cons_zero, List.set_cons_succ]
            refine wpAnyJ_take (i := 4) (oi := { dst := some 45, op := Go.Op.load 3 (Go.Operand.tmp 44), type := 3, pos := "law.go:53", after := #[{ on := 3, ground := Go.Ground.data }], guard := none }) (v := ?_) [13] rfl (by kernel_rfl) (by kernel_rfl) (by kernel_rfl) (by kernel_rfl) (by kernel_rfl) (fun _ _ _ h => h) (by first | exact hF | exact hF (by kernel_rfl)) (fun w hFw => ?_) (by rfl) ?_
            rotate_left
            · ((try dsimp only at hFw); first | (go_simp; done) | (go_simp; with_reducible rfl) | (go_split_ands; go_simp; done))
            try simp only [Act.put, List.setIfInBounds_toArray, List.set_cons_zero, List.set_cons_succ]
            refine wpAnyJ_take0 (i := 6) (oi := { dst := some 47, op := Go.Op.move (Go.Operand.tmp 4), type := 33, pos := "law.go:53", after := #[], guard := none }) (v := ?_) rfl (by kernel_rfl) (by kernel_rfl) (by kernel_rfl) (by kernel_rfl) (fun _ _ _ h => h) (by first | exact fun _ => hF | exact fun _ => hF (by kernel_rfl)) (fun w => ?_) (by rfl) ?_
            rotate_left
            · first | (go_simp; done) | (go_simp; with_reducible rfl) | (go_split_ands; go_simp; done)
            try simp only [Act.put, List.setIfInBounds_toArray, List.set_cons_zero, List.set_cons_succ]
            refine wpAnyJ_take0 (i := 7) (oi := { dst := some 48, op := Go.Op.fieldAddr 38 (Go.Operand.tmp 6) 1, type := 0, pos := "law.go:53", after := #[], guard := none }) (v := ?_) rfl (by kernel_rfl) (by kernel_rfl) (by kernel_rfl) (by kernel_rfl) (fun _ _ _ h => h) (by first | exact fun _ => hF | exact fun _ => hF (by kernel_rfl)) (fun w => ?_) (by rfl) ?_
            rotate_left
            · first | (go_simp; done) | (go_simp; with_reducible rfl) | (go_split_ands; go_simp; done)
            try simp only [Act.put, List.setIfInBounds_toArray, List.set_cons_zero, List.set_cons_succ]
            refine wpAnyJ_take (i := 8) (oi := { dst := some 49, op := Go.Op.load 3 (Go.Operand.tmp 48), type := 3, pos := "law.go:53", after := #[{ on := 7, ground := Go.Ground.data }], guard := none }) (v := ?_) [13] rfl (by kernel_rfl) (by kernel_rfl) (by kernel_rfl) (by kernel_rfl) (by kernel_rfl) (fun _ _ _ h => h) (by first | exact hF | exact hF (by kernel_rfl)) (fun w hFw => ?_) (by rfl) ?_
            rotate_left
            · ((try dsimp only at hFw); first | (go_simp; done) | (go_simp; with_reducible rfl) | (go_split_ands; go_simp; done))
            try simp only [Act.put, List.setIfInBounds_toArray, List.set_cons_zero, List.set_cons_succ]
            refine wpAnyJ_take0 (i := 9) (oi := { dst := some 50, op := Go.Op.fieldAddr 38 (Go.Operand.tmp 6) 2, type := 0, pos := "law.go:53", after := #[], guard := none }) (v := ?_) rfl (by kernel_rfl) (by kernel_rfl) (by kernel_rfl) (by kernel_rfl) (fun _ _ _ h => h) (by first | exact fun _ => hF | exact fun _ => hF (by kernel_rfl)) (fun w => ?_) (by rfl) ?_
            rotate_left
            · first | (go_simp; done) | (go_simp; with_reducible rfl) | (go_split_ands; go_simp; done)
            try simp only [Act.put, List.setIfInBounds_toArray, List.set_cons_zero, List.set_cons_succ]
            refine wpAnyJ_take (i := 10) (oi := { dst := some 51, op := Go.Op.load 3 (Go.Operand.tmp 50), type := 3, pos := "law.go:53", after := #[{ on := 9, ground := Go.Ground.data }], guard := none }) (v := ?_) [13] rfl (by kernel_rfl) (by kernel_rfl) (by kernel_rfl) (by kernel_rfl) (by kernel_rfl) (fun _ _ _ h => h) (by first | exact hF | exact hF (by kernel_rfl)) (fun w hFw => ?_) (by rfl) ?_
            rotate_left
            · ((try dsimp only at hFw); first | (go_simp; done) | (go_simp; with_reducible rfl) | (go_split_ands; go_simp; done))
            try simp only [Act.put, List.setIfInBounds_toArray, List.set_cons_zero, List.set_cons_succ]
            refine wpAnyJ_ready (rs := [5]) (by kernel_rfl) (by simp) ?_
            refine AllJ.cons (o := { dst := some 46, op := Go.Op.call { callee := Go.Callee.value (Go.Operand.func 10), args := #[Go.Operand.tmp 41, Go.Operand.tmp 43, Go.Operand.tmp 45], argTypes := #[23, 3, 3] }, type := 4, pos := "law.go:53", after := #[{ on := 0, ground := Go.Ground.data }, { on := 2, ground := Go.Ground.data }, { on := 4, ground := Go.Ground.data }], guard := none }) rfl (fun Kr hKr => ?_) ?_
            · go_simp; go_at_call 10; refine (hp1.out _ sL.own.left).mono ?_; rintro e w4 ⟨rfl, H1', t1', hst⟩
              have sL := sL.call hst
              refine hKr.out _ _ (fun hJ => ?_) (fun hF => ?_)
              · first
                | exact absurd hJ (by decide)
                | (clear hJ; (try dsimp only); all_goals (exact (cells3 sL.own.right.right.h0).2))
              clear hKr
              try simp only [Act.put, List.setIfInBounds_toArray, List.set_cons_zero, List.set_cons_succ]
              refine wpAnyJ_ready (rs := [11]) (by kernel_rfl) (by simp) ?_
              refine AllJ.cons (o := { dst := some 52, op := Go.Op.call { callee := Go.Callee.value (Go.Operand.func 13), args := #[Go.Operand.tmp 47, Go.Operand.tmp 49, Go.Operand.tmp 51], argTypes := #[33, 3, 3] }, type := 4, pos := "law.go:53", after := #[{ on := 6, ground := Go.Ground.data }, { on := 8, ground := Go.Ground.data }, { on := 10, ground := Go.Ground.data }, { on := 5, ground := Go.Ground.chain }], guard := none }) rfl (fun Kr hKr => ?_) ?_
              · go_simp; go_at_call 13; refine (hp2.out _ sL.own.right.left).mono ?_; rintro e w5 ⟨rfl, H2', t2', hst2⟩
                have sL := Step.mid sL hst2
                refine hKr.out _ _ (fun hJ => ?_) (fun hF => ?_)
                · first
                  | exact absurd hJ (by decide)
                  | (clear hJ; (try dsimp only); all_goals (exact (cells3 sL.own.right.right.h0).2))
                clear hKr
                try simp only [Act.put, List.setIfInBounds_toArray, List.set_cons_zero, List.set_cons_succ]
                refine wpAnyJ_take0 (i := 12) (oi := { dst := some 53, op := Go.Op.binOp Go.BinOp.eql 4 (Go.Operand.tmp 46) (Go.Operand.tmp 52) 4, type := 4, pos := "law.go:53", after := #[{ on := 5, ground := Go.Ground.data }, { on := 11, ground := Go.Ground.data }], guard := none }) (v := ?_) rfl (by kernel_rfl) (by kernel_rfl) (by kernel_rfl) (by kernel_rfl) (fun _ _ _ h => h) (by first | exact fun _ => hF | exact fun _ => hF (by kernel_rfl)) (fun w => ?_) (by rfl) ?_
                rotate_left
                · first | (go_simp; done) | (go_simp; with_reducible rfl) | (go_split_ands; go_simp; done)
                try simp only [Act.put, List.setIfInBounds_toArray, List.set_cons_zero, List.set_cons_succ]
                refine wpAnyJ_ready (rs := [13]) (by kernel_rfl) (by simp) ?_
                refine AllJ.cons (o := { dst := some 7, op := Go.Op.assign (Go.Operand.tmp 53), type := 4, pos := "law.go:53", after := #[{ on := 12, ground := Go.Ground.data }, { on := 11, ground := Go.Ground.chain }, { on := 0, ground := Go.Ground.phase }, { on := 1, ground := Go.Ground.phase }, { on := 2, ground := Go.Ground.phase }, { on := 3, ground := Go.Ground.phase }, { on := 4, ground := Go.Ground.phase }, { on := 5, ground := Go.Ground.phase }, { on := 6, ground := Go.Ground.phase }, { on := 7, ground := Go.Ground.phase }, { on := 8, ground := Go.Ground.phase }, { on := 9, ground := Go.Ground.phase }, { on := 10, ground := Go.Ground.phase }, { on := 11, ground := Go.Ground.phase }, { on := 12, ground := Go.Ground.phase }], guard := none }) rfl (fun Kr hKr => ?_) ?_
                · go_simp
                  refine hKr.out _ _ (fun hJ => ?_) (fun hF => ?_)
                  · first
                    | exact absurd hJ (by decide)
                    | (clear hJ; (try dsimp only); all_goals (exact (cells3 sL.own.right.right.h0).2))
                  clear hKr
                  try simp only [Act.put, List.setIfInBounds_toArray, List.set_cons_zero, List.set_cons_succ]
                  refine wpAnyJ_done (by kernel_rfl) ?_ _
                  go_wp2_with fail
                  go_meet
                  exact ⟨rfl, p2, H1', H2', by omega, t1', t2', Step.forget (B := [_]) (by rw [List.append_assoc]; exact sL)⟩
                exact AllJ.nil
              exact AllJ.nil
            exact AllJ.nil
          · cases hh : hasS S id
            · have hp1 : Hid (∀ W, Own W H1 → Calls Try.prog 14 #[pt b, ii id] W fun e w' => e = .returned (.tuple #[ii 0, .bool false]) ∧ W = w') := fun W hW => (cancel_any b S id H1 W t1.out hW (by omega)).mono fun e w' hq => by
                rcases hq with ⟨_, he⟩ | ⟨at', hm, _⟩
                · exact he
                · rw [hasS_mem hm] at hh; cases hh
              have hp2 : Hid (∀ W, Own W H2 → Calls Try.prog 15 #[pt b2, ii id] W fun e w' => e = .returned (.tuple #[ii 0, .bool false]) ∧ W = w') := fun W hW => (tfcancel_any b2 S id H2 W t2.out hW (by omega)).mono fun e w' hq => by
                rcases hq with ⟨_, he⟩ | ⟨at', hm, _⟩
                · exact he
                · rw [hasS_mem hm] at hh; cases hh
              replace hh := Lib.hid hh
              go_wp2_with fail
              refine (hp1.out _ sL.own.left).mono ?_
              rintro e w4 ⟨rfl, rfl⟩
              go_wp2_with fail
              refine (hp2.out _ sL.own.right.left).mono ?_
              rintro e w4 ⟨rfl, rfl⟩
              go_wp2_with fail
              go_meet
              exact ⟨rfl, S, H1, H2, by omega, t1.out, t2.out, Step.forget (B := [_]) (by rw [List.append_assoc]; exact sL)⟩
            · obtain ⟨⟨id', a0⟩, hm0, e0⟩ := List.any_eq_true.1 hh
              obtain rfl : id' = id := by simpa using e0
              have hp1 : Hid (∀ W, Own W H1 → Calls Try.prog 14 #[pt b, ii id'] W fun e w' => e = .returned (.tuple #[ii a0, .bool true]) ∧ ∃ H', TmS b (S.filter fun x => x.1 != id') H' ∧ Step W H1 w' H') := fun W hW => (cancel_any b S id' H1 W t1.out hW (by omega)).mono fun e w' hq => by
                rcases hq with ⟨h0, _⟩ | ⟨at', hm, he⟩
                · rw [hh] at h0; cases h0
                · rw [ids_one hd hm0 hm]; exact he
              have hp2 : Hid (∀ W, Own W H2 → Calls Try.prog 15 #[pt b2, ii id'] W fun e w' => e = .returned (.tuple #[ii a0, .bool true]) ∧ ∃ H', TfS b2 (S.filter fun x => x.1 != id') H' ∧ Step W H2 w' H') := fun W hW => (tfcancel_any b2 S id' H2 W t2.out hW (by omega)).mono fun e w' hq => by
                rcases hq with ⟨h0, _⟩ | ⟨at', hm, he⟩
                · rw [hh] at h0; cases h0
                · rw [ids_one hd hm0 hm]; exact he
              have hle : (S.filter fun x => x.1 != id').length ≤ S.length := List.length_filter_le _ _
              replace hh := Lib.hid hh
              clear e0
              generalize (S.filter fun x => x.1 != id') = S' at hp1 hp2 hle
              go_wp2_with fail
              refine (hp1.out _ sL.own.left).mono ?_
              rintro e w4 ⟨rfl, H1', t1', hst⟩
              have sL := sL.call hst
              obtain ⟨y0, y1, y2⟩ := cells3 sL.own.right.right.h0
              go_wp2_with fail
              refine (hp2.out _ sL.own.right.left).mono ?_
              rintro e w5 ⟨rfl, H2', t2', hst2⟩
              have sL := Step.mid sL hst2
              replace t1' := Lib.hid t1'
              replace t2' := Lib.hid t2'
              go_wp2_with fail
              go_meet
              exact ⟨rfl, S', H1', H2', by omega, t1'.out, t2'.out, Step.forget (B := [_]) (by rw [List.append_assoc]; exact sL)⟩
          · have hp1 := Lib.hid (fun W hW => due_any b S at' H1 W t1.out hW (by omega))
            have hp2 := Lib.hid (fun W hW => tfdue_any b2 S at' H2 W t2.out hW (by omega))
            unfold DuePost at hp1
            unfold TfDuePost at hp2
            clear y0 y1 y2
            go_wp2_with fail
            have sL := sL.drew
            refine wp_region_J 9 (fun w' => w'.cell? ⟨xb, 2, none⟩ = some (ii at')) (by kernel_rfl) ?_ (fun hF => ?_)
            · (try dsimp only)
              all_goals (first | exact (cells3 sL.own.right.right.h0).2.2 | exact (cells3 sL.own.right.h0).2.2)
            refine wpAnyJ_take0 (i := 0) (oi := { dst := some 80, op := Go.Op.move (Go.Operand.tmp 3), type := 23, pos := "law.go:59", after := #[], guard := none }) (v := ?_) rfl (by kernel_rfl) (by kernel_rfl) (by kernel_rfl) (by kernel_rfl) (fun _ _ _ h => h) (by first | exact fun _ => hF | exact fun _ => hF (by kernel_rfl)) (fun w => ?_) (by rfl) ?_
            rotate_left
            · first | (go_simp; done) | (go_simp; with_reducible rfl) | (go_split_ands; go_simp; done)
            try simp only [Act.put, List.setIfInBounds_toArray, List.set_cons_zero, List.set_cons_succ]
            refine wpAnyJ_take0 (i := 1) (oi := { dst := some 81, op := Go.Op.fieldAddr 38 (Go.Operand.tmp 6) 2, type := 0, pos := "law.go:59", after := #[], guard := none }) (v := ?_) rfl (by kernel_rfl) (by kernel_rfl) (by kernel_rfl) (by kernel_rfl) (fun _ _ _ h => h) (by first | exact fun _ => hF | exact fun _ => hF (by kernel_rfl)) (fun w => ?_) (by rfl) ?_
            rotate_left
            · first | (go_simp; done) | (go_simp; with_reducible rfl) | (go_split_ands; go_simp; done)
            try simp only [Act.put, List.setIfInBounds_toArray, List.set_cons_zero, List.set_cons_succ]
            refine wpAnyJ_take (i := 2) (oi := { dst := some 82, op := Go.Op.load 3 (Go.Operand.tmp 81), type := 3, pos := "law.go:59", after := #[{ on := 1, ground := Go.Ground.data }], guard := none }) (v := ?_) [9] rfl (by kernel_rfl) (by kernel_rfl) (by kernel_rfl) (by kernel_rfl) (by kernel_rfl) (fun _ _ _ h => h) (by first | exact hF | exact hF (by kernel_rfl)) (fun w hFw => ?_) (by rfl) ?_
            rotate_left
            · ((try dsimp only at hFw); first | (go_simp; done) | (go_simp; with_reducible rfl) | (go_split_ands; go_simp; done))
            try simp only [Act.put, List.setIfInBounds_toArray, List.set_cons_zero, List.set_cons_succ]
            refine wpAnyJ_take0 (i := 4) (oi := { dst := some 84, op := Go.Op.move (Go.Operand.tmp 4), type := 33, pos := "law.go:59", after := #[], guard := none }) (v := ?_) rfl (by kernel_rfl) (by kernel_rfl) (by kernel_rfl) (by kernel_rfl) (fun _ _ _ h => h) (by first | exact fun _ => hF | exact fun _ => hF (by kernel_rfl)) (fun w => ?_) (by rfl) ?_
            rotate_left
            · first | (go_simp; done) | (go_simp; with_reducible rfl) | (go_split_ands; go_simp; done)
            try simp only [Act.put, List.setIfInBounds_toArray, List.set_cons_zero, List.set_cons_succ]
            refine wpAnyJ_take0 (i := 5) (oi := { dst := some 85, op := Go.Op.fieldAddr 38 (Go.Operand.tmp 6) 2, type := 0, pos := "law.go:59", after := #[], guard := none }) (v := ?_) rfl (by kernel_rfl) (by kernel_rfl) (by kernel_rfl) (by kernel_rfl) (fun _ _ _ h => h) (by first | exact fun _ => hF | exact fun _ => hF (by kernel_rfl)) (fun w => ?_) (by rfl) ?_
            rotate_left
            · first | (go_simp; done) | (go_simp; with_reducible rfl) | (go_split_ands; go_simp; done)
            try simp only [Act.put, List.setIfInBounds_toArray, List.set_cons_zero, List.set_cons_succ]
            refine wpAnyJ_take (i := 6) (oi := { dst := some 86, op := Go.Op.load 3 (Go.Operand.tmp 85), type := 3, pos := "law.go:59", after := #[{ on := 5, ground := Go.Ground.data }], guard := none }) (v := ?_) [9] rfl (by kernel_rfl) (by kernel_rfl) (by kernel_rfl) (by kernel_rfl) (by kernel_rfl) (fun _ _ _ h => h) (by first | exact hF | exact hF (by kernel_rfl)) (fun w hFw => ?_) (by rfl) ?_
            rotate_left
            · ((try dsimp only at hFw); first | (go_simp; done) | (go_simp; with_reducible rfl) | (go_split_ands; go_simp; done))
            try simp only [Act.put, List.setIfInBounds_toArray, List.set_cons_zero, List.set_cons_succ]
            refine wpAnyJ_ready (rs := [3]) (by kernel_rfl) (by simp) ?_
            refine AllJ.cons (o := { dst := some 83, op := Go.Op.call { callee := Go.Callee.value (Go.Operand.func 12), args := #[Go.Operand.tmp 80, Go.Operand.tmp 82], argTypes := #[23, 3] }, type := 28, pos := "law.go:59", after := #[{ on := 0, ground := Go.Ground.data }, { on := 2, ground := Go.Ground.data }], guard := none }) rfl (fun Kr hKr => ?_) ?_
            · go_simp; go_at_call 12; refine (hp1.out _ sL.own.left).mono ?_; rintro e w4 ⟨a1, c1, xs, S1, H1', R1, rfl, r1, pm1, pw1, u1, v1, t1', hst⟩
              have sL := sL.call hst
              have sL := sL.perm (List.Perm.refl _) (B' := (H1' ++ R1) ++ (H2 ++ [(xb, .cells #[ii 3, ii id, ii at'] 38 (0, 0))])) (List.Perm.refl _)
              refine hKr.out _ _ (fun hJ => ?_) (fun hF => ?_)
              · first
                | exact absurd hJ (by decide)
                | (clear hJ; (try dsimp only); all_goals (first | exact (cells3 sL.own.right.right.h0).2.2 | exact (cells3 sL.own.right.h0).2.2))
              clear hKr
              try simp only [Act.put, List.setIfInBounds_toArray, List.set_cons_zero, List.set_cons_succ]
              refine wpAnyJ_ready (rs := [7]) (by kernel_rfl) (by simp) ?_
              refine AllJ.cons (o := { dst := some 87, op := Go.Op.call { callee := Go.Callee.value (Go.Operand.func 17), args := #[Go.Operand.tmp 84, Go.Operand.tmp 86], argTypes := #[33, 3] }, type := 28, pos := "law.go:59", after := #[{ on := 4, ground := Go.Ground.data }, { on := 6, ground := Go.Ground.data }, { on := 3, ground := Go.Ground.chain }], guard := none }) rfl (fun Kr hKr => ?_) ?_
              · go_simp; go_at_call 17; refine (hp2.out _ sL.own.right.left).mono ?_; rintro e w5 ⟨a2, c2, ys, S2, H2', R2, rfl, r2, pm2, pw2, u2, v2, t2', hst2⟩
                have sL := Step.mid sL hst2
                obtain ⟨rfl, pp⟩ := due_one pm1 pm2 pw1 pw2 u1 u2 v1 v2
                have n1 := SlRep.numsI (l := xs.map Prod.fst) (by rw [List.map_map]; exact r1) sL.own.left.right
                have n2 := SlRep.numsI (l := xs.map Prod.fst) (by rw [List.map_map]; exact r2) sL.own.right.left.right
                refine hKr.out _ _ (fun hJ => ?_) (fun hF => ?_)
                · first
                  | exact absurd hJ (by decide)
                  | (clear hJ; (try dsimp only); all_goals (first | exact (cells3 sL.own.right.right.h0).2.2 | exact (cells3 sL.own.right.h0).2.2))
                clear hKr
                try simp only [Act.put, List.setIfInBounds_toArray, List.set_cons_zero, List.set_cons_succ]
                refine wpAnyJ_ready (rs := [8]) (by kernel_rfl) (by simp) ?_
                refine AllJ.cons (o := { dst := some 88, op := Go.Op.call { callee := Go.Callee.value (Go.Operand.func 16), args := #[Go.Operand.tmp 83, Go.Operand.tmp 87], argTypes := #[28, 28] }, type := 4, pos := "law.go:59", after := #[{ on := 3, ground := Go.Ground.data }, { on := 7, ground := Go.Ground.data }, { on := 7, ground := Go.Ground.chain }], guard := none }) rfl (fun Kr hKr => ?_) ?_
                · go_simp; go_at_call 16; refine (ints_same _ _ _ _ _ _ _ _ n1 n2 (by simp; have := pm1.length_eq; simp at this; omega)).mono ?_; rintro e w6 ⟨rfl, h6⟩
                  have sL := sL.call0 h6
                  rw [List.append_nil] at sL
                  refine hKr.out _ _ (fun hJ => ?_) (fun hF => ?_)
                  · first
                    | exact absurd hJ (by decide)
                    | (clear hJ; (try dsimp only); all_goals (first | exact (cells3 sL.own.right.right.h0).2.2 | exact (cells3 sL.own.right.h0).2.2))
                  clear hKr
                  try simp only [Act.put, List.setIfInBounds_toArray, List.set_cons_zero, List.set_cons_succ]
                  refine wpAnyJ_ready (rs := [9]) (by kernel_rfl) (by simp) ?_
                  refine AllJ.cons (o := { dst := some 7, op := Go.Op.assign (Go.Operand.tmp 88), type := 4, pos := "law.go:59", after := #[{ on := 8, ground := Go.Ground.data }, { on := 8, ground := Go.Ground.chain }, { on := 0, ground := Go.Ground.phase }, { on := 1, ground := Go.Ground.phase }, { on := 2, ground := Go.Ground.phase }, { on := 3, ground := Go.Ground.phase }, { on := 4, ground := Go.Ground.phase }, { on := 5, ground := Go.Ground.phase }, { on := 6, ground := Go.Ground.phase }, { on := 7, ground := Go.Ground.phase }, { on := 8, ground := Go.Ground.phase }], guard := none }) rfl (fun Kr hKr => ?_) ?_
                  · go_simp
                    refine hKr.out _ _ (fun hJ => ?_) (fun hF => ?_)
                    · first
                      | exact absurd hJ (by decide)
                      | (clear hJ; (try dsimp only); all_goals (first | exact (cells3 sL.own.right.right.h0).2.2 | exact (cells3 sL.own.right.h0).2.2))
                    clear hKr
                    try simp only [Act.put, List.setIfInBounds_toArray, List.set_cons_zero, List.set_cons_succ]
                    refine wpAnyJ_done (by kernel_rfl) ?_ _
                    go_wp2_with fail
                    go_meet
                    have hl1 := pm2.length_eq
                    rw [List.length_append] at hl1
                    exact ⟨rfl, S2, H1', H2', by omega, TmS.other t1' pp, t2', by
                      have q := sL.perm (B' := (H1' ++ H2') ++ (R1 ++ (R2 ++ [(xb, .cells #[ii 3, ii id, ii at'] 38 (0, 0))]))) (List.Perm.refl _) (by
                        simp only [List.append_assoc]
                        refine List.Perm.append_left _ ?_
                        rw [← List.append_assoc, ← List.append_assoc H2' R1]
                        exact List.Perm.append_right _ List.perm_append_comm)
                      exact q.forget⟩
                  exact AllJ.nil
                exact AllJ.nil
              exact AllJ.nil
            exact AllJ.nil
          · have q1 : (K == 1) = false := beq_eq_false_iff_ne.2 k1
            have q2 : (K == 2) = false := beq_eq_false_iff_ne.2 k2
            have q3 : (K == 3) = false := beq_eq_false_iff_ne.2 k3
            replace k1 := Lib.hid k1
            replace k2 := Lib.hid k2
            replace k3 := Lib.hid k3
            go_wp2_with fail
            go_meet
            exact ⟨rfl, S, H1, H2, by omega, t1.out, t2.out, Step.forget (B := [_]) (by rw [List.append_assoc]; exact sL)⟩
        case rest =>
          clear t1 t2 sL hd hSk y0 y1 y2
          obtain ⟨rfl, S, H1, H2, hSk, t1, t2, hs⟩ := hcut
          obtain ⟨n1, n2, n3, hn⟩ := next_one S
          have hp1 : Hid (∀ W, Own W H1 → Calls Try.prog 18 #[pt b] W fun e w' => Step W [] w' [] ∧ e = .returned (.tuple #[ii n1, ii n2, .bool n3])) := fun W hW => (next_any b S H1 W t1 hW (by omega)).mono (hn W)
          have hp2 : Hid (∀ W, Own W H2 → Calls Try.prog 19 #[pt b2] W fun e w' => Step W [] w' [] ∧ e = .returned (.tuple #[ii n1, ii n2, .bool n3])) := fun W hW => (tfnext_any b2 S H2 W t2.1 hW (by omega)).mono (hn W)
          have hp3 := Lib.hid (fun W hW => lenS_any b S H1 W t1 hW)
          have hfin : Hid (∀ W, Step w [] W (H1 ++ H2) → TpAt b b2 (k + 1) w W) := fun W s => ⟨S, H1, H2, hSk, t1, t2, s⟩
          obtain ⟨⟨a2, c2, HA, rfl, hr⟩, hd⟩ := t2
          clear hn hd hr t1
          generalize S.length = m at *
          go_wp2_with fail
          refine (hp1.out _ hs.own.left).mono ?_
          rintro e w4 ⟨h4, rfl⟩
          have hs := hs.call0 h4
          rw [List.append_nil] at hs
          go_wp2_with fail
          refine (hp2.out _ hs.own.right).mono ?_
          rintro e w5 ⟨h5, rfl⟩
          have hs := hs.call0 h5
          rw [List.append_nil] at hs
          have q1 : (n1 != n1) = false := by simp
          have q2 : (n2 != n2) = false := by simp
          have q3 : (n3 != n3) = false := by simp
          have q4 : ((m : Int) != (m : Int)) = false := by simp
          go_wp2_with fail
          have hs := hs.drew
          refine wp_region_J 26 (fun w' => w'.cell? ⟨b2, 0, none⟩ = some (.slice a2 m c2)) (by kernel_rfl) ?_ (fun hF => ?_)
          · (try dsimp only)
            all_goals (exact cells1 hs.own.right.h0)
          refine wpAnyJ_take0 (i := 0) (oi := { dst := some 101, op := Go.Op.move (Go.Operand.tmp 7), type := 4, pos := "law.go:63", after := #[], guard := none }) (v := ?_) rfl (by kernel_rfl) (by kernel_rfl) (by kernel_rfl) (by kernel_rfl) (fun _ _ _ h => h) (by first | exact fun _ => hF | exact fun _ => hF (by kernel_rfl)) (fun w => ?_) (by rfl) ?_
          rotate_left
          · first | (go_simp; done) | (go_simp; with_reducible rfl) | (go_split_ands; go_simp; done)
          try simp only [Act.put, List.setIfInBounds_toArray, List.set_cons_zero, List.set_cons_succ]
          refine wpAnyJ_take0 (i := 1) (oi := { dst := some 102, op := Go.Op.unOp Go.UnOp.not 4 (Go.Operand.tmp 101), type := 4, pos := "law.go:63", after := #[{ on := 0, ground := Go.Ground.data }], guard := none }) (v := ?_) rfl (by kernel_rfl) (by kernel_rfl) (by kernel_rfl) (by kernel_rfl) (fun _ _ _ h => h) (by first | exact fun _ => hF | exact fun _ => hF (by kernel_rfl)) (fun w => ?_) (by rfl) ?_
          rotate_left
          · first | (go_simp; done) | (go_simp; with_reducible rfl) | (go_split_ands; go_simp; done)
          try simp only [Act.put, List.setIfInBounds_toArray, List.set_cons_zero, List.set_cons_succ]
          refine wpAnyJ_take0 (i := 2) (oi := { dst := some 103, op := Go.Op.move (Go.Operand.tmp 102), type := 4, pos := "law.go:63", after := #[{ on := 1, ground := Go.Ground.data }], guard := none }) (v := ?_) rfl (by kernel_rfl) (by kernel_rfl) (by kernel_rfl) (by kernel_rfl) (fun _ _ _ h => h) (by first | exact fun _ => hF | exact fun _ => hF (by kernel_rfl)) (fun w => ?_) (by rfl) ?_
          rotate_left
          · first | (go_simp; done) | (go_simp; with_reducible rfl) | (go_split_ands; go_simp; done)
          try simp only [Act.put, List.setIfInBounds_toArray, List.set_cons_zero, List.set_cons_succ]
          first
          | refine wpAnyJ_skip0 (i := 3) (oi := { dst := some 104, op := Go.Op.move (Go.Operand.tmp 12), type := 3, pos := "law.go:63", after := #[{ on := 2, ground := Go.Ground.guard }], guard := some (2, false) }) rfl (by kernel_rfl) (by kernel_rfl) (by kernel_rfl) (by kernel_rfl) (fun _ _ _ h => h) (by first | exact fun _ => hF | exact fun _ => hF (by kernel_rfl)) (by rfl) ?_
          | (refine wpAnyJ_take0 (i := 3) (oi := { dst := some 104, op := Go.Op.move (Go.Operand.tmp 12), type := 3, pos := "law.go:63", after := #[{ on := 2, ground := Go.Ground.guard }], guard := some (2, false) }) (v := ?_) rfl (by kernel_rfl) (by kernel_rfl) (by kernel_rfl) (by kernel_rfl) (fun _ _ _ h => h) (by first | exact fun _ => hF | exact fun _ => hF (by kernel_rfl)) (fun w => ?_) (by rfl) ?_
             rotate_left
             · first | (go_simp; done) | (go_simp; with_reducible rfl) | (go_split_ands; go_simp; done))
          try simp only [Act.put, List.setIfInBounds_toArray, List.set_cons_zero, List.set_cons_succ]
          first
          | refine wpAnyJ_skip0 (i := 4) (oi := { dst := some 105, op := Go.Op.move (Go.Operand.tmp 15), type := 3, pos := "law.go:63", after := #[{ on := 2, ground := Go.Ground.guard }], guard := some (2, false) }) rfl (by kernel_rfl) (by kernel_rfl) (by kernel_rfl) (by kernel_rfl) (fun _ _ _ h => h) (by first | exact fun _ => hF | exact fun _ => hF (by kernel_rfl)) (by rfl) ?_
          | (refine wpAnyJ_take0 (i := 4) (oi := { dst := some 105, op := Go.Op.move (Go.Operand.tmp 15), type := 3, pos := "law.go:63", after := #[{ on := 2, ground := Go.Ground.guard }], guard := some (2, false) }) (v := ?_) rfl (by kernel_rfl) (by kernel_rfl) (by kernel_rfl) (by kernel_rfl) (fun _ _ _ h => h) (by first | exact fun _ => hF | exact fun _ => hF (by kernel_rfl)) (fun w => ?_) (by rfl) ?_
             rotate_left
             · first | (go_simp; done) | (go_simp; with_reducible rfl) | (go_split_ands; go_simp; done))
          try simp only [Act.put, List.setIfInBounds_toArray, List.set_cons_zero, List.set_cons_succ]
          first
          | refine wpAnyJ_skip0 (i := 5) (oi := { dst := some 106, op := Go.Op.binOp Go.BinOp.neq 3 (Go.Operand.tmp 104) (Go.Operand.tmp 105) 3, type := 4, pos := "law.go:63", after := #[{ on := 3, ground := Go.Ground.data }, { on := 4, ground := Go.Ground.data }, { on := 2, ground := Go.Ground.guard }], guard := some (2, false) }) rfl (by kernel_rfl) (by kernel_rfl) (by kernel_rfl) (by kernel_rfl) (fun _ _ _ h => h) (by first | exact fun _ => hF | exact fun _ => hF (by kernel_rfl)) (by rfl) ?_
          | (refine wpAnyJ_take0 (i := 5) (oi := { dst := some 106, op := Go.Op.binOp Go.BinOp.neq 3 (Go.Operand.tmp 104) (Go.Operand.tmp 105) 3, type := 4, pos := "law.go:63", after := #[{ on := 3, ground := Go.Ground.data }, { on := 4, ground := Go.Ground.data }, { on := 2, ground := Go.Ground.guard }], guard := some (2, false) }) (v := ?_) rfl (by kernel_rfl) (by kernel_rfl) (by kernel_rfl) (by kernel_rfl) (fun _ _ _ h => h) (by first | exact fun _ => hF | exact fun _ => hF (by kernel_rfl)) (fun w => ?_) (by rfl) ?_
             rotate_left
             · first | (go_simp; done) | (go_simp; with_reducible rfl) | (go_split_ands; go_simp; done))
          try simp only [Act.put, List.setIfInBounds_toArray, List.set_cons_zero, List.set_cons_succ]
          refine wpAnyJ_take0 (i := 6) (oi := { dst := some 107, op := Go.Op.pick (Go.Operand.tmp 103) (Go.Operand.const (Go.Value.bool true)) (Go.Operand.tmp 106), type := 4, pos := "law.go:63", after := #[{ on := 2, ground := Go.Ground.data }, { on := 5, ground := Go.Ground.data }], guard := none }) (v := ?_) rfl (by kernel_rfl) (by kernel_rfl) (by kernel_rfl) (by kernel_rfl) (fun _ _ _ h => h) (by first | exact fun _ => hF | exact fun _ => hF (by kernel_rfl)) (fun w => ?_) (by rfl) ?_
          rotate_left
          · first | (go_simp; done) | (go_simp; with_reducible rfl) | (go_split_ands; go_simp; done)
          try simp only [Act.put, List.setIfInBounds_toArray, List.set_cons_zero, List.set_cons_succ]
          refine wpAnyJ_take0 (i := 7) (oi := { dst := some 108, op := Go.Op.move (Go.Operand.tmp 107), type := 4, pos := "law.go:63", after := #[{ on := 6, ground := Go.Ground.data }, { on := 2, ground := Go.Ground.chain }], guard := none }) (v := ?_) rfl (by kernel_rfl) (by kernel_rfl) (by kernel_rfl) (by kernel_rfl) (fun _ _ _ h => h) (by first | exact fun _ => hF | exact fun _ => hF (by kernel_rfl)) (fun w => ?_) (by rfl) ?_
          rotate_left
          · first | (go_simp; done) | (go_simp; with_reducible rfl) | (go_split_ands; go_simp; done)
          try simp only [Act.put, List.setIfInBounds_toArray, List.set_cons_zero, List.set_cons_succ]
          first
          | refine wpAnyJ_skip0 (i := 8) (oi := { dst := some 109, op := Go.Op.move (Go.Operand.tmp 13), type := 3, pos := "law.go:63", after := #[{ on := 7, ground := Go.Ground.guard }], guard := some (7, false) }) rfl (by kernel_rfl) (by kernel_rfl) (by kernel_rfl) (by kernel_rfl) (fun _ _ _ h => h) (by first | exact fun _ => hF | exact fun _ => hF (by kernel_rfl)) (by rfl) ?_
          | (refine wpAnyJ_take0 (i := 8) (oi := { dst := some 109, op := Go.Op.move (Go.Operand.tmp 13), type := 3, pos := "law.go:63", after := #[{ on := 7, ground := Go.Ground.guard }], guard := some (7, false) }) (v := ?_) rfl (by kernel_rfl) (by kernel_rfl) (by kernel_rfl) (by kernel_rfl) (fun _ _ _ h => h) (by first | exact fun _ => hF | exact fun _ => hF (by kernel_rfl)) (fun w => ?_) (by rfl) ?_
             rotate_left
             · first | (go_simp; done) | (go_simp; with_reducible rfl) | (go_split_ands; go_simp; done))
          try simp only [Act.put, List.setIfInBounds_toArray, List.set_cons_zero, List.set_cons_succ]
          first
          | refine wpAnyJ_skip0 (i := 9) (oi := { dst := some 110, op := Go.Op.move (Go.Operand.tmp 16), type := 3, pos := "law.go:63", after := #[{ on := 7, ground := Go.Ground.guard }], guard := some (7, false) }) rfl (by kernel_rfl) (by kernel_rfl) (by kernel_rfl) (by kernel_rfl) (fun _ _ _ h => h) (by first | exact fun _ => hF | exact fun _ => hF (by kernel_rfl)) (by rfl) ?_
          | (refine wpAnyJ_take0 (i := 9) (oi := { dst := some 110, op := Go.Op.move (Go.Operand.tmp 16), type := 3, pos := "law.go:63", after := #[{ on := 7, ground := Go.Ground.guard }], guard := some (7, false) }) (v := ?_) rfl (by kernel_rfl) (by kernel_rfl) (by kernel_rfl) (by kernel_rfl) (fun _ _ _ h => h) (by first | exact fun _ => hF | exact fun _ => hF (by kernel_rfl)) (fun w => ?_) (by rfl) ?_
             rotate_left
             · first | (go_simp; done) | (go_simp; with_reducible rfl) | (go_split_ands; go_simp; done))
          try simp only [Act.put, List.setIfInBounds_toArray, List.set_cons_zero, List.set_cons_succ]
          first
          | refine wpAnyJ_skip0 (i := 10) (oi := { dst := some 111, op := Go.Op.binOp Go.BinOp.neq 3 (Go.Operand.tmp 109) (Go.Operand.tmp 110) 3, type := 4, pos := "law.go:63", after := #[{ on := 8, ground := Go.Ground.data }, { on := 9, ground := Go.Ground.data }, { on := 7, ground := Go.Ground.guard }], guard := some (7, false) }) rfl (by kernel_rfl) (by kernel_rfl) (by kernel_rfl) (by kernel_rfl) (fun _ _ _ h => h) (by first | exact fun _ => hF | exact fun _ => hF (by kernel_rfl)) (by rfl) ?_
          | (refine wpAnyJ_take0 (i := 10) (oi := { dst := some 111, op := Go.Op.binOp Go.BinOp.neq 3 (Go.Operand.tmp 109) (Go.Operand.tmp 110) 3, type := 4, pos := "law.go:63", after := #[{ on := 8, ground := Go.Ground.data }, { on := 9, ground := Go.Ground.data }, { on := 7, ground := Go.Ground.guard }], guard := some (7, false) }) (v := ?_) rfl (by kernel_rfl) (by kernel_rfl) (by kernel_rfl) (by kernel_rfl) (fun _ _ _ h => h) (by first | exact fun _ => hF | exact fun _ => hF (by kernel_rfl)) (fun w => ?_) (by rfl) ?_
             rotate_left
             · first | (go_simp; done) | (go_simp; with_reducible rfl) | (go_split_ands; go_simp; done))
          try simp only [Act.put, List.setIfInBounds_toArray, List.set_cons_zero, List.set_cons_succ]
          refine wpAnyJ_take0 (i := 11) (oi := { dst := some 112, op := Go.Op.pick (Go.Operand.tmp 108) (Go.Operand.const (Go.Value.bool true)) (Go.Operand.tmp 111), type := 4, pos := "law.go:63", after := #[{ on := 7, ground := Go.Ground.data }, { on := 10, ground := Go.Ground.data }], guard := none }) (v := ?_) rfl (by kernel_rfl) (by kernel_rfl) (by kernel_rfl) (by kernel_rfl) (fun _ _ _ h => h) (by first | exact fun _ => hF | exact fun _ => hF (by kernel_rfl)) (fun w => ?_) (by rfl) ?_
          rotate_left
          · first | (go_simp; done) | (go_simp; with_reducible rfl) | (go_split_ands; go_simp; done)
          try simp only [Act.put, List.setIfInBounds_toArray, List.set_cons_zero, List.set_cons_succ]
          refine wpAnyJ_take0 (i := 12) (oi := { dst := some 113, op := Go.Op.move (Go.Operand.tmp 112), type := 4, pos := "law.go:63", after := #[{ on := 11, ground := Go.Ground.data }, { on := 7, ground := Go.Ground.chain }], guard := none }) (v := ?_) rfl (by kernel_rfl) (by kernel_rfl) (by kernel_rfl) (by kernel_rfl) (fun _ _ _ h => h) (by first | exact fun _ => hF | exact fun _ => hF (by kernel_rfl)) (fun w => ?_) (by rfl) ?_
          rotate_left
          · first | (go_simp; done) | (go_simp; with_reducible rfl) | (go_split_ands; go_simp; done)
          try simp only [Act.put, List.setIfInBounds_toArray, List.set_cons_zero, List.set_cons_succ]
          first
          | refine wpAnyJ_skip0 (i := 13) (oi := { dst := some 114, op := Go.Op.move (Go.Operand.tmp 14), type := 4, pos := "law.go:63", after := #[{ on := 12, ground := Go.Ground.guard }], guard := some (12, false) }) rfl (by kernel_rfl) (by kernel_rfl) (by kernel_rfl) (by kernel_rfl) (fun _ _ _ h => h) (by first | exact fun _ => hF | exact fun _ => hF (by kernel_rfl)) (by rfl) ?_
          | (refine wpAnyJ_take0 (i := 13) (oi := { dst := some 114, op := Go.Op.move (Go.Operand.tmp 14), type := 4, pos := "law.go:63", after := #[{ on := 12, ground := Go.Ground.guard }], guard := some (12, false) }) (v := ?_) rfl (by kernel_rfl) (by kernel_rfl) (by kernel_rfl) (by kernel_rfl) (fun _ _ _ h => h) (by first | exact fun _ => hF | exact fun _ => hF (by kernel_rfl)) (fun w => ?_) (by rfl) ?_
             rotate_left
             · first | (go_simp; done) | (go_simp; with_reducible rfl) | (go_split_ands; go_simp; done))
          try simp only [Act.put, List.setIfInBounds_toArray, List.set_cons_zero, List.set_cons_succ]
          first
          | refine wpAnyJ_skip0 (i := 14) (oi := { dst := some 115, op := Go.Op.move (Go.Operand.tmp 17), type := 4, pos := "law.go:63", after := #[{ on := 12, ground := Go.Ground.guard }], guard := some (12, false) }) rfl (by kernel_rfl) (by kernel_rfl) (by kernel_rfl) (by kernel_rfl) (fun _ _ _ h => h) (by first | exact fun _ => hF | exact fun _ => hF (by kernel_rfl)) (by rfl) ?_
          | (refine wpAnyJ_take0 (i := 14) (oi := { dst := some 115, op := Go.Op.move (Go.Operand.tmp 17), type := 4, pos := "law.go:63", after := #[{ on := 12, ground := Go.Ground.guard }], guard := some (12, false) }) (v := ?_) rfl (by kernel_rfl) (by kernel_rfl) (by kernel_rfl) (by kernel_rfl) (fun _ _ _ h => h) (by first | exact fun _ => hF | exact fun _ => hF (by kernel_rfl)) (fun w => ?_) (by rfl) ?_
             rotate_left
             · first | (go_simp; done) | (go_simp; with_reducible rfl) | (go_split_ands; go_simp; done))
          try simp only [Act.put, List.setIfInBounds_toArray, List.set_cons_zero, List.set_cons_succ]
          first
          | refine wpAnyJ_skip0 (i := 15) (oi := { dst := some 116, op := Go.Op.binOp Go.BinOp.neq 4 (Go.Operand.tmp 114) (Go.Operand.tmp 115) 4, type := 4, pos := "law.go:63", after := #[{ on := 13, ground := Go.Ground.data }, { on := 14, ground := Go.Ground.data }, { on := 12, ground := Go.Ground.guard }], guard := some (12, false) }) rfl (by kernel_rfl) (by kernel_rfl) (by kernel_rfl) (by kernel_rfl) (fun _ _ _ h => h) (by first | exact fun _ => hF | exact fun _ => hF (by kernel_rfl)) (by rfl) ?_
          | (refine wpAnyJ_take0 (i := 15) (oi := { dst := some 116, op := Go.Op.binOp Go.BinOp.neq 4 (Go.Operand.tmp 114) (Go.Operand.tmp 115) 4, type := 4, pos := "law.go:63", after := #[{ on := 13, ground := Go.Ground.data }, { on := 14, ground := Go.Ground.data }, { on := 12, ground := Go.Ground.guard }], guard := some (12, false) }) (v := ?_) rfl (by kernel_rfl) (by kernel_rfl) (by kernel_rfl) (by kernel_rfl) (fun _ _ _ h => h) (by first | exact fun _ => hF | exact fun _ => hF (by kernel_rfl)) (fun w => ?_) (by rfl) ?_
             rotate_left
             · first | (go_simp; done) | (go_simp; with_reducible rfl) | (go_split_ands; go_simp; done))
          try simp only [Act.put, List.setIfInBounds_toArray, List.set_cons_zero, List.set_cons_succ]
          refine wpAnyJ_take0 (i := 16) (oi := { dst := some 117, op := Go.Op.pick (Go.Operand.tmp 113) (Go.Operand.const (Go.Value.bool true)) (Go.Operand.tmp 116), type := 4, pos := "law.go:63", after := #[{ on := 12, ground := Go.Ground.data }, { on := 15, ground := Go.Ground.data }], guard := none }) (v := ?_) rfl (by kernel_rfl) (by kernel_rfl) (by kernel_rfl) (by kernel_rfl) (fun _ _ _ h => h) (by first | exact fun _ => hF | exact fun _ => hF (by kernel_rfl)) (fun w => ?_) (by rfl) ?_
          rotate_left
          · first | (go_simp; done) | (go_simp; with_reducible rfl) | (go_split_ands; go_simp; done)
          try simp only [Act.put, List.setIfInBounds_toArray, List.set_cons_zero, List.set_cons_succ]
          refine wpAnyJ_take0 (i := 17) (oi := { dst := some 118, op := Go.Op.move (Go.Operand.tmp 117), type := 4, pos := "law.go:63", after := #[{ on := 16, ground := Go.Ground.data }, { on := 12, ground := Go.Ground.chain }], guard := none }) (v := ?_) rfl (by kernel_rfl) (by kernel_rfl) (by kernel_rfl) (by kernel_rfl) (fun _ _ _ h => h) (by first | exact fun _ => hF | exact fun _ => hF (by kernel_rfl)) (fun w => ?_) (by rfl) ?_
          rotate_left
          · first | (go_simp; done) | (go_simp; with_reducible rfl) | (go_split_ands; go_simp; done)
          try simp only [Act.put, List.setIfInBounds_toArray, List.set_cons_zero, List.set_cons_succ]
          first
          | refine wpAnyJ_skip0 (i := 18) (oi := { dst := some 119, op := Go.Op.move (Go.Operand.tmp 3), type := 23, pos := "law.go:63", after := #[{ on := 17, ground := Go.Ground.guard }], guard := some (17, false) }) rfl (by kernel_rfl) (by kernel_rfl) (by kernel_rfl) (by kernel_rfl) (fun _ _ _ h => h) (by first | exact fun _ => hF | exact fun _ => hF (by kernel_rfl)) (by rfl) ?_
          | (refine wpAnyJ_take0 (i := 18) (oi := { dst := some 119, op := Go.Op.move (Go.Operand.tmp 3), type := 23, pos := "law.go:63", after := #[{ on := 17, ground := Go.Ground.guard }], guard := some (17, false) }) (v := ?_) rfl (by kernel_rfl) (by kernel_rfl) (by kernel_rfl) (by kernel_rfl) (fun _ _ _ h => h) (by first | exact fun _ => hF | exact fun _ => hF (by kernel_rfl)) (fun w => ?_) (by rfl) ?_
             rotate_left
             · first | (go_simp; done) | (go_simp; with_reducible rfl) | (go_split_ands; go_simp; done))
          try simp only [Act.put, List.setIfInBounds_toArray, List.set_cons_zero, List.set_cons_succ]
          first
          | refine wpAnyJ_skip0 (i := 20) (oi := { dst := some 121, op := Go.Op.move (Go.Operand.tmp 4), type := 33, pos := "law.go:63", after := #[{ on := 17, ground := Go.Ground.guard }], guard := some (17, false) }) rfl (by kernel_rfl) (by kernel_rfl) (by kernel_rfl) (by kernel_rfl) (fun _ _ _ h => h) (by first | exact fun _ => hF | exact fun _ => hF (by kernel_rfl)) (by rfl) ?_
          | (refine wpAnyJ_take0 (i := 20) (oi := { dst := some 121, op := Go.Op.move (Go.Operand.tmp 4), type := 33, pos := "law.go:63", after := #[{ on := 17, ground := Go.Ground.guard }], guard := some (17, false) }) (v := ?_) rfl (by kernel_rfl) (by kernel_rfl) (by kernel_rfl) (by kernel_rfl) (fun _ _ _ h => h) (by first | exact fun _ => hF | exact fun _ => hF (by kernel_rfl)) (fun w => ?_) (by rfl) ?_
             rotate_left
             · first | (go_simp; done) | (go_simp; with_reducible rfl) | (go_split_ands; go_simp; done))
          try simp only [Act.put, List.setIfInBounds_toArray, List.set_cons_zero, List.set_cons_succ]
          first
          | refine wpAnyJ_skip0 (i := 21) (oi := { dst := some 122, op := Go.Op.nilCheck (Go.Operand.tmp 121), type := 0, pos := "law.go:63", after := #[{ on := 20, ground := Go.Ground.data }, { on := 17, ground := Go.Ground.guard }], guard := some (17, false) }) rfl (by kernel_rfl) (by kernel_rfl) (by kernel_rfl) (by kernel_rfl) (fun _ _ _ h => h) (by first | exact fun _ => hF | exact fun _ => hF (by kernel_rfl)) (by rfl) ?_
          | (refine wpAnyJ_take0 (i := 21) (oi := { dst := some 122, op := Go.Op.nilCheck (Go.Operand.tmp 121), type := 0, pos := "law.go:63", after := #[{ on := 20, ground := Go.Ground.data }, { on := 17, ground := Go.Ground.guard }], guard := some (17, false) }) (v := ?_) rfl (by kernel_rfl) (by kernel_rfl) (by kernel_rfl) (by kernel_rfl) (fun _ _ _ h => h) (by first | exact fun _ => hF | exact fun _ => hF (by kernel_rfl)) (fun w => ?_) (by rfl) ?_
             rotate_left
             · first | (go_simp; done) | (go_simp; with_reducible rfl) | (go_split_ands; go_simp; done))
          try simp only [Act.put, List.setIfInBounds_toArray, List.set_cons_zero, List.set_cons_succ]
          first
          | refine wpAnyJ_skip0 (i := 22) (oi := { dst := some 123, op := Go.Op.fieldAddr 36 (Go.Operand.tmp 122) 0, type := 0, pos := "law.go:63", after := #[{ on := 21, ground := Go.Ground.data }, { on := 17, ground := Go.Ground.guard }], guard := some (17, false) }) rfl (by kernel_rfl) (by kernel_rfl) (by kernel_rfl) (by kernel_rfl) (fun _ _ _ h => h) (by first | exact fun _ => hF | exact fun _ => hF (by kernel_rfl)) (by rfl) ?_
          | (refine wpAnyJ_take0 (i := 22) (oi := { dst := some 123, op := Go.Op.fieldAddr 36 (Go.Operand.tmp 122) 0, type := 0, pos := "law.go:63", after := #[{ on := 21, ground := Go.Ground.data }, { on := 17, ground := Go.Ground.guard }], guard := some (17, false) }) (v := ?_) rfl (by kernel_rfl) (by kernel_rfl) (by kernel_rfl) (by kernel_rfl) (fun _ _ _ h => h) (by first | exact fun _ => hF | exact fun _ => hF (by kernel_rfl)) (fun w => ?_) (by rfl) ?_
             rotate_left
             · first | (go_simp; done) | (go_simp; with_reducible rfl) | (go_split_ands; go_simp; done))
          try simp only [Act.put, List.setIfInBounds_toArray, List.set_cons_zero, List.set_cons_succ]
          first
          | refine wpAnyJ_skip0 (i := 23) (oi := { dst := some 124, op := Go.Op.load 34 (Go.Operand.tmp 123), type := 34, pos := "law.go:63", after := #[{ on := 22, ground := Go.Ground.data }, { on := 17, ground := Go.Ground.guard }], guard := some (17, false) }) rfl (by kernel_rfl) (by kernel_rfl) (by kernel_rfl) (by kernel_rfl) (fun _ _ _ h => h) (by first | exact fun _ => hF | exact fun _ => hF (by kernel_rfl)) (by rfl) ?_
          | (refine wpAnyJ_take (i := 23) (oi := { dst := some 124, op := Go.Op.load 34 (Go.Operand.tmp 123), type := 34, pos := "law.go:63", after := #[{ on := 22, ground := Go.Ground.data }, { on := 17, ground := Go.Ground.guard }], guard := some (17, false) }) (v := ?_) [24, 25, 26] rfl (by kernel_rfl) (by kernel_rfl) (by kernel_rfl) (by kernel_rfl) (by kernel_rfl) (fun _ _ _ h => h) (by first | exact hF | exact hF (by kernel_rfl)) (fun w hFw => ?_) (by rfl) ?_
             rotate_left
             · ((try dsimp only at hFw); first | (go_simp; done) | (go_simp; with_reducible rfl) | (go_split_ands; go_simp; done)))
          try simp only [Act.put, List.setIfInBounds_toArray, List.set_cons_zero, List.set_cons_succ]
          first
          | refine wpAnyJ_skip0 (i := 24) (oi := { dst := some 125, op := Go.Op.call { callee := Go.Callee.builtin Go.Builtin.len, args := #[Go.Operand.tmp 124], argTypes := #[34] }, type := 3, pos := "law.go:63", after := #[{ on := 23, ground := Go.Ground.data }, { on := 17, ground := Go.Ground.guard }], guard := some (17, false) }) rfl (by kernel_rfl) (by kernel_rfl) (by kernel_rfl) (by kernel_rfl) (fun _ _ _ h => h) (by first | exact fun _ => hF | exact fun _ => hF (by kernel_rfl)) (by rfl) ?_
          | (refine wpAnyJ_take (i := 24) (oi := { dst := some 125, op := Go.Op.call { callee := Go.Callee.builtin Go.Builtin.len, args := #[Go.Operand.tmp 124], argTypes := #[34] }, type := 3, pos := "law.go:63", after := #[{ on := 23, ground := Go.Ground.data }, { on := 17, ground := Go.Ground.guard }], guard := some (17, false) }) (v := ?_) [25, 26] rfl (by kernel_rfl) (by kernel_rfl) (by kernel_rfl) (by kernel_rfl) (by kernel_rfl) (fun _ _ _ h => h) (by first | exact hF | exact hF (by kernel_rfl)) (fun w hFw => ?_) (by rfl) ?_
             rotate_left
             · ((try dsimp only at hFw); first | (go_simp; done) | (go_simp; with_reducible rfl) | (go_split_ands; go_simp; done)))
          try simp only [Act.put, List.setIfInBounds_toArray, List.set_cons_zero, List.set_cons_succ]
          refine wpAnyJ_ready (rs := [19]) (by kernel_rfl) (by simp) ?_
          refine AllJ.cons (o := { dst := some 120, op := Go.Op.call { callee := Go.Callee.value (Go.Operand.func 11), args := #[Go.Operand.tmp 119], argTypes := #[23] }, type := 3, pos := "law.go:63", after := #[{ on := 18, ground := Go.Ground.data }, { on := 17, ground := Go.Ground.chain }, { on := 17, ground := Go.Ground.guard }], guard := some (17, false) }) rfl (fun Kr hKr => ?_) ?_
          · go_simp; go_at_call 11; refine (hp3.out _ hs.own.left).mono ?_; rintro e w6 ⟨rfl, rfl⟩
            refine hKr.out _ _ (fun hJ => ?_) (fun hF => ?_)
            · first
              | exact absurd hJ (by decide)
              | (clear hJ; (try dsimp only); all_goals (exact cells1 hs.own.right.h0))
            clear hKr
            try simp only [Act.put, List.setIfInBounds_toArray, List.set_cons_zero, List.set_cons_succ]
            first
            | refine wpAnyJ_skip0 (i := 25) (oi := { dst := some 126, op := Go.Op.binOp Go.BinOp.neq 3 (Go.Operand.tmp 120) (Go.Operand.tmp 125) 3, type := 4, pos := "law.go:63", after := #[{ on := 19, ground := Go.Ground.data }, { on := 24, ground := Go.Ground.data }, { on := 17, ground := Go.Ground.guard }], guard := some (17, false) }) rfl (by kernel_rfl) (by kernel_rfl) (by kernel_rfl) (by kernel_rfl) (fun _ _ _ h => h) (by first | exact fun _ => hF | exact fun _ => hF (by kernel_rfl)) (by rfl) ?_
            | (refine wpAnyJ_take0 (i := 25) (oi := { dst := some 126, op := Go.Op.binOp Go.BinOp.neq 3 (Go.Operand.tmp 120) (Go.Operand.tmp 125) 3, type := 4, pos := "law.go:63", after := #[{ on := 19, ground := Go.Ground.data }, { on := 24, ground := Go.Ground.data }, { on := 17, ground := Go.Ground.guard }], guard := some (17, false) }) (v := ?_) rfl (by kernel_rfl) (by kernel_rfl) (by kernel_rfl) (by kernel_rfl) (fun _ _ _ h => h) (by first | exact fun _ => hF | exact fun _ => hF (by kernel_rfl)) (fun w => ?_) (by rfl) ?_
               rotate_left
               · first | (go_simp; done) | (go_simp; with_reducible rfl) | (go_split_ands; go_simp; done))
            try simp only [Act.put, List.setIfInBounds_toArray, List.set_cons_zero, List.set_cons_succ]
            refine wpAnyJ_ready (rs := [26]) (by kernel_rfl) (by simp) ?_
            refine AllJ.cons (o := { dst := some 127, op := Go.Op.pick (Go.Operand.tmp 118) (Go.Operand.const (Go.Value.bool true)) (Go.Operand.tmp 126), type := 4, pos := "law.go:63", after := #[{ on := 17, ground := Go.Ground.data }, { on := 25, ground := Go.Ground.data }], guard := none }) rfl (fun Kr hKr => ?_) ?_
            · go_simp
              refine hKr.out _ _ (fun hJ => ?_) (fun hF => ?_)
              · first
                | exact absurd hJ (by decide)
                | (clear hJ; (try dsimp only); all_goals (exact cells1 hs.own.right.h0))
              clear hKr
              try simp only [Act.put, List.setIfInBounds_toArray, List.set_cons_zero, List.set_cons_succ]
              refine wpAnyJ_done (by kernel_rfl) ?_ _
              go_wp2_with fail
              exact ⟨⟨k + 1, by omega, by omega, by go_num, hfin.out _ hs⟩, by simp [intOf]; omega⟩
            exact AllJ.nil
          exact AllJ.nil
      · have d3 : (300 : Int) ≤ (k : Int) := by omega
        replace t1 := Lib.hid t1
        replace t2 := Lib.hid t2
        go_wp2_with fail
        refine (known_any _).mono ?_
        rintro e w3 ⟨rfl, hs3⟩
        go_wp2
        go_ret
        exact ⟨rfl, (hs.call0 hs3).forget (A := [])⟩
    · have d2 : (l.length : Int) ≤ (k : Int) := by omega
      replace t1 := Lib.hid t1
      replace t2 := Lib.hid t2
      go_wp2_with fail
      refine (known_any _).mono ?_
      rintro e w3 ⟨rfl, hs3⟩
      go_wp2
      go_ret
      exact ⟨rfl, (hs.call0 hs3).forget (A := [])⟩
end Go.Proofs.Ytcocgljaifnmnaa
