/- The program's log: ends. The program's log: Open. The program's log: Append, its closure. -/
import Derived.Test.YtdolbeonpkanpaaGreatDoorDkT
import Derived.Test.YtdolbeonpkanpaaGreatDoorSgF
set_option linter.unusedVariables false
set_option linter.unusedSimpArgs false
namespace Go.Proofs.YtdolbeonpkanpaaGreatDoor
open Go.RowKit
attribute [local go_sem ↓] Go.wp_at_zero Go.wp_at_succ

theorem rmAll_app : ∀ (l m : List Nm) (k : Dk), rmAll (l ++ m) k = if (rmAll l k).1 ≠ 0 then rmAll l k else rmAll m (rmAll l k).2
  | [], m, k => by simp [rmAll]
  | s :: l, m, k => by
    rw [List.cons_append, rmAll, rmAll]
    split
    · rename_i h; simp [h]
    · exact rmAll_app l m _
theorem rmAll_ok : ∀ (l : List Nm) (k : Dk), k.Ok → (rmAll l k).2.Ok
  | [], k, h => h
  | s :: l, k, h => by
    have h1 := gate_ok h [s] (rmI s) (fun _ => rm_ok h s)
    rw [rmAll]
    split
    · exact h1
    · exact rmAll_ok l _ h1
theorem rmI_err (nm : Nm) (k : Dk) : (rmI nm k).1 = 0 ∨ (rmI nm k).1 = 7 := by unfold rmI; split <;> simp
theorem grm_err (nm : Nm) (k : Dk) : (gateN [nm] (rmI nm) k).1 ≤ 9 := by
  have h1 := may_is k [nm]
  have h2 := rmI_err nm k
  rcases gate_is [nm] (rmI nm) k with ⟨h, e⟩ | ⟨h, _, e⟩ | ⟨h, _, e⟩ <;> rw [e] <;> (try simp only) <;> omega
theorem drop_rev {names : List Nm} {i : Nat} (h : i < names.length) : (names.drop i).reverse = (names.drop (i + 1)).reverse ++ [names[i]] := by
  rw [List.drop_eq_getElem_cons h, List.reverse_cons]
theorem tail_rev {names : List Nm} {i : Nat} (h : 0 < i) : names.tail.reverse = (names.drop i).reverse ++ ((names.take i).drop 1).reverse := by
  rw [← List.reverse_append, ← List.drop_one]
  congr 1
  conv => lhs; rw [← List.take_append_drop i names, List.drop_append]
  by_cases hl : i ≤ names.length
  · rw [List.length_take, Nat.min_eq_left hl, show 1 - i = 0 by omega, List.drop_zero]
  · rw [List.drop_eq_nil_of_le (show names.length ≤ i by omega)]; simp
def EndsRel (d : Nat) (k : Dk) (names : List Nm) (B S E XH N : Heaplet) (w0 : World) (K : Heaplet) (v : Value) (wr : World) : Prop :=
  ∃ (i : Nat) (k1 : Dk) (DH : Heaplet), v = iv i ∧ i < names.length ∧ DkRep d k1 DH ∧ k1.Ok ∧ rmAll (names.drop (i + 1)).reverse k = (0, k1) ∧ Sp w0 K wr [DH, B, S, E, XH, N]
def EndsPost (d : Nat) (r : Nat × Dk) (B S E XH N : Heaplet) (w0 : World) (K : Heaplet) (e : Ending) (w' : World) : Prop :=
  e = .returned (iv r.1) ∧ ∃ DH, DkRep d r.2 DH ∧ Sp w0 K w' [DH, B, S, E, XH, N]
set_option maxHeartbeats 4000000 in
set_option maxRecDepth 100000 in
theorem ends_any (b d : Nat) (p : Nm) (lg : Lg) (k : Dk) (DH B S E XH N : Heaplet) (w0 w : World) (K : Heaplet) (hd : DkRep d k DH) (hk : k.Ok) (h : LgIs b d p lg B S E XH) (sp : Sp w0 K w [DH, B, S, E, XH, N])
    (na : Option Addr) (nn nc : Nat) (names : List Nm) (hN : ∀ V, Own V N → RdNs V na nn nc names) (hne : names ≠ []) (good : Int) :
    Calls Tryz.prog 54 #[pt b, .slice na nn nc, ii good] w (EndsPost d (endsN names good k) B S E XH N w0 K) := by
  obtain ⟨sa, ea, sc, ec, X, _, _, _, rfl, rfl⟩ := h
  have hN0 := hN w (sp.own 5 rfl)
  have hnl := hN0.1
  subst hnl
  have hlc : (names.length : Int) ≤ (nc : Int) := by have := hN0.2.1; omega
  have hncm : (names.length : Int) ≤ 9223372036854775807 := by have h1 := hN0.2.1; have h2 := hN0.2.2.1; unfold maxLen at h2; omega
  obtain ⟨g, o, rfl, hcell⟩ : ∃ g o, na = some ⟨g, o, none⟩ ∧ ∀ V, Own V N → ∀ i (hi : i < names.length), V.cell? ⟨g, o + i, none⟩ = some (strV names[i]) := by
    obtain ⟨g, o, e, _⟩ := hN0.2.2.2 hne
    refine ⟨g, o, e, fun V hV i hi => ?_⟩
    obtain ⟨g', o', e', h2⟩ := (hN V hV).at' (List.getElem?_eq_getElem hi)
    rw [e] at e'
    cases e'
    have := h2 0 _ rfl
    simpa using this
  have hpos : 0 < names.length := List.length_pos_iff.2 hne
  obtain ⟨L, hL⟩ : ∃ L, names.length = L + 1 := ⟨names.length - 1, by omega⟩
  have hin : Hid (EndsRel d k names [(b, lobj d p sa lg.segs.length sc ea lg.L.length ec lg.synced lg.dead)] S E (rwH X) N w0 K (iv L) w) := ⟨L, k, DH, rfl, by omega, hd, hk, by rw [← hL, List.drop_length]; rfl, sp⟩
  obtain ⟨nn, hnn⟩ : ∃ nn, nn = names.length := ⟨_, rfl⟩
  have hLi : ((names.length : Nat) : Int) - 1 = (L : Int) := by omega
  replace hcell := Lib.hid hcell
  have hhd : Hid (endsN names good k = if (rmAll names.tail.reverse k).1 ≠ 0 then rmAll names.tail.reverse k else lastN (names[0]'hpos) good (rmAll names.tail.reverse k).2) := by
    cases names with
    | nil => exact absurd rfl hne
    | cons x r => rfl
  clear sp hd hN hN0 hne hk
  replace hL := Lib.hid hL
  go_enter Tryz.func54, Tryz.ntmps54
  go_wp2_with fail
  go_loopw [7] (fun v wr => EndsRel d k names [(b, lobj d p sa lg.segs.length sc ea lg.L.length ec lg.synced lg.dead)] S E (rwH X) N w0 K v wr) (fun v _ => (intOf v).toNat)
  case atStart => exact hin.out
  case round =>
    clear hin
    obtain ⟨i, k1, DH, rfl, hi, hd, hk, hrm, sp⟩ := hrel
    have d0 : (0 : Int) ≤ (i : Int) := by omega
    have d1 : (i : Int) < (names.length : Int) := by omega
    by_cases h0 : 0 < i
    · have d2 : (0 : Int) < (i : Int) := by omega
      obtain ⟨x, hx⟩ : ∃ x, x = names[i]'hi := ⟨_, rfl⟩
      have hcx : Hid (∀ V, Own V N → V.cell? ⟨g, o + i, none⟩ = some (strV x)) := fun V hV => by rw [hx]; exact hcell.out V hV i hi
      obtain ⟨r, hr⟩ : ∃ r, r = gateN [x] (rmI x) k1 := ⟨_, rfl⟩
      have hrm2 : Hid (rmAll (names.drop i).reverse k = r) := by
        show _ = _
        rw [drop_rev hi, rmAll_app, hrm, ← hx]
        simp only [ne_eq, not_true_eq_false, if_false]
        rw [rmAll, ← hr]
        split
        · rfl
        · rename_i h; cases r; simp only [ne_eq, Decidable.not_not] at h; subst h; rfl
      have herr : r.1 ≤ 9 := hr ▸ grm_err x k1
      have hok : r.2.Ok := by rw [hr]; exact gate_ok hk [x] (rmI x) (fun _ => rm_ok hk x)
      have hcall : Hid (∀ W, Own W DH → Calls Tryz.prog 93 #[pt d, strV x] W (DkPost d r DH W)) := fun W hW => by rw [hr]; exact dremove d k1 DH x W hd hk hW
      have htr : Hid (rmAll names.tail.reverse k = if r.1 ≠ 0 then r else rmAll ((names.take i).drop 1).reverse r.2) := by
        show _ = _
        rw [tail_rev h0, rmAll_app, hrm2.out]
      obtain ⟨x1, k2⟩ := r
      simp only at herr hok htr
      replace hr := Lib.hid hr
      replace hx := Lib.hid hx
      replace hrm := Lib.hid hrm
      go_upto_region 4 with fail
      replace sp := sp.drew
      refine wp_region_J 9 (fun w' => w'.cell? ⟨b, 0, none⟩ = some (pt d) ∧ w'.cell? ⟨g, o + i, none⟩ = some (strV x)) (by kernel_rfl) ?_ (fun hF => ?_)
      · (try dsimp only)
        all_goals (exact ⟨(lobj_cells (sp.own 1 rfl)).1, hcx.out _ (sp.own 5 rfl)⟩)
      refine tk0 (i := 0) (oi := ⟨some 16, .move (.tmp 0), 30, "seglog.go:115", #[], none⟩) (v := ?_) rfl (by kernel_rfl) (fun _ _ _ h => h) (fun _ => hF) (fun w => ?_) (by rfl) ?_
      rotate_left
      · first | (go_simp; done) | (go_simp; with_reducible rfl) | (go_split_ands; go_simp; done)
      try simp only [Act.put, nrmA, nrmB, nrmC]
      refine tk0 (i := 1) (oi := ⟨some 17, .nilCheck (.tmp 16), 0, "seglog.go:115", #[⟨0, .data⟩], none⟩) (v := ?_) rfl (by kernel_rfl) (fun _ _ _ h => h) (fun _ => hF) (fun w => ?_) (by rfl) ?_
      rotate_left
      · first | (go_simp; done) | (go_simp; with_reducible rfl) | (go_split_ands; go_simp; done)
      try simp only [Act.put, nrmA, nrmB, nrmC]
      refine tk0 (i := 2) (oi := ⟨some 18, .fieldAddr 86 (.tmp 17) 0, 0, "seglog.go:115", #[⟨1, .data⟩], none⟩) (v := ?_) rfl (by kernel_rfl) (fun _ _ _ h => h) (fun _ => hF) (fun w => ?_) (by rfl) ?_
      rotate_left
      · first | (go_simp; done) | (go_simp; with_reducible rfl) | (go_split_ands; go_simp; done)
      try simp only [Act.put, nrmA, nrmB, nrmC]
      refine tk1 (i := 3) (oi := ⟨some 19, .load 28 (.tmp 18), 28, "seglog.go:115", #[⟨2, .data⟩], none⟩) (v := ?_) [9] rfl (by kernel_rfl) (fun _ _ _ h => h) hF (fun w hFw => ?_) (by rfl) ?_
      rotate_left
      · ((try dsimp only at hFw); first | (go_simp; done) | (go_simp; with_reducible rfl) | (go_split_ands; go_simp; done))
      try simp only [Act.put, nrmA, nrmB, nrmC]
      refine tk0 (i := 4) (oi := ⟨some 20, .move (.tmp 1), 70, "seglog.go:115", #[], none⟩) (v := ?_) rfl (by kernel_rfl) (fun _ _ _ h => h) (fun _ => hF) (fun w => ?_) (by rfl) ?_
      rotate_left
      · first | (go_simp; done) | (go_simp; with_reducible rfl) | (go_split_ands; go_simp; done)
      try simp only [Act.put, nrmA, nrmB, nrmC]
      refine tk0 (i := 5) (oi := ⟨some 21, .move (.tmp 7), 3, "seglog.go:115", #[], none⟩) (v := ?_) rfl (by kernel_rfl) (fun _ _ _ h => h) (fun _ => hF) (fun w => ?_) (by rfl) ?_
      rotate_left
      · first | (go_simp; done) | (go_simp; with_reducible rfl) | (go_split_ands; go_simp; done)
      try simp only [Act.put, nrmA, nrmB, nrmC]
      refine tk0 (i := 6) (oi := ⟨some 22, .indexAddr 70 (.tmp 20) (.tmp 21), 0, "seglog.go:115", #[⟨4, .data⟩, ⟨5, .data⟩], none⟩) (v := ?_) rfl (by kernel_rfl) (fun _ _ _ h => h) (fun _ => hF) (fun w => ?_) (by rfl) ?_
      rotate_left
      · first | (go_simp; done) | (go_simp; with_reducible rfl) | (go_split_ands; go_simp; done)
      try simp only [Act.put, nrmA, nrmB, nrmC]
      refine tk1 (i := 7) (oi := ⟨some 23, .load 9 (.tmp 22), 9, "seglog.go:115", #[⟨6, .data⟩], none⟩) (v := ?_) [9] rfl (by kernel_rfl) (fun _ _ _ h => h) hF (fun w hFw => ?_) (by rfl) ?_
      rotate_left
      · ((try dsimp only at hFw); first | (go_simp; done) | (go_simp; with_reducible rfl) | (go_split_ands; go_simp; done))
      try simp only [Act.put, nrmA, nrmB, nrmC]
      refine wpAnyJ_ready (rs := [8]) (by kernel_rfl) (by simp) ?_
      refine AllJ.cons1 (o := ⟨some 24, .call { callee := .value (.func 93), args := #[.tmp 19, .tmp 23], argTypes := #[28, 9] }, 35, "seglog.go:115", #[⟨3, .data⟩, ⟨7, .data⟩], none⟩) rfl (fun Kr hKr => ?_)
      go_simp; go_at_call 93; refine (hcall.out _ (sp.own 0 rfl)).mono ?_; rintro e w4 ⟨rfl, DH', hd', hst⟩
      have sp : Sp w0 K w4 [DH', _, S, E, rwH X, N] := sp.put 0 rfl hst
      clear hst
      refine hKr.out _ _ (fun hJ => ?_) (fun hF => ?_)
      · first
        | exact absurd hJ (by decide)
        | (clear hJ; (try dsimp only); all_goals (exact ⟨(lobj_cells (sp.own 1 rfl)).1, hcx.out _ (sp.own 5 rfl)⟩))
      clear hKr
      try simp only [Act.put, nrmA, nrmB, nrmC]
      refine wpAnyJ_ready (rs := [9]) (by kernel_rfl) (by simp) ?_
      refine AllJ.cons1 (o := ⟨some 8, .assign (.tmp 24), 35, "seglog.go:115", #[⟨8, .data⟩, ⟨8, .chain⟩, ⟨0, .phase⟩, ⟨1, .phase⟩, ⟨2, .phase⟩, ⟨3, .phase⟩, ⟨4, .phase⟩, ⟨5, .phase⟩, ⟨6, .phase⟩, ⟨7, .phase⟩, ⟨8, .phase⟩], none⟩) rfl (fun Kr hKr => ?_)
      go_simp
      refine hKr.out _ _ (fun hJ => ?_) (fun hF => ?_)
      · first
        | exact absurd hJ (by decide)
        | (clear hJ; (try dsimp only); all_goals (exact ⟨(lobj_cells (sp.own 1 rfl)).1, hcx.out _ (sp.own 5 rfl)⟩))
      clear hKr
      try simp only [Act.put, nrmA, nrmB, nrmC]
      refine wpAnyJ_done (by kernel_rfl) ?_ _
      simp only at hd' ⊢
      by_cases hx0 : x1 = 0
      · subst hx0
        go_wp2_with fail
        refine ⟨⟨i - 1, k2, DH', ?_, by omega, hd', hok, by rw [show i - 1 + 1 = i by omega]; exact hrm2.out, sp⟩, by simp [intOf]; omega⟩
        exact congrArg (Value.int .i64) (show (i : Int) - 1 = ((i - 1 : Nat) : Int) by omega)
      · have q5 : ((x1 : Int) != 0) = true := by rw [bne_iff_ne]; omega
        have hfin : Hid (endsN names good k = (x1, k2)) := by
          show _ = _
          rw [hhd.out, htr.out, if_pos hx0, if_pos hx0]
        replace hx0 := Lib.hid hx0
        go_wp2_with fail
        go_ret
        rw [hfin.out]
        exact ⟨rfl, DH', hd', sp⟩
    · obtain rfl : i = 0 := by omega
      obtain ⟨x, hx⟩ : ∃ x, x = names[0]'hi := ⟨_, rfl⟩
      have hcx : Hid (∀ V, Own V N → V.cell? ⟨g, o, none⟩ = some (strV x)) := fun V hV => by rw [hx]; exact hcell.out V hV 0 hi
      have hfin : Hid (endsN names good k = lastN x good k1) := by
        show _ = _
        rw [hhd.out, ← List.drop_one, hrm, ← hx]
        simp
      replace hrm := Lib.hid hrm
      have hposi : (0 : Int) < (names.length : Int) := by omega
      by_cases hg : good ≤ 0
      · obtain ⟨r, hr⟩ : ∃ r, r = gateN [x] (rmI x) k1 := ⟨_, rfl⟩
        have hfin2 : Hid (endsN names good k = r) := by show _ = _; rw [hfin.out, lastN, if_pos hg, hr]
        have hcall : Hid (∀ W, Own W DH → Calls Tryz.prog 93 #[pt d, strV x] W (DkPost d r DH W)) := fun W hW => by rw [hr]; exact dremove d k1 DH x W hd hk hW
        replace hr := Lib.hid hr
        replace hx := Lib.hid hx
        go_upto_region 8 with fail
        replace sp := sp.drew
        refine wp_region_J 8 (fun w' => w'.cell? ⟨b, 0, none⟩ = some (pt d) ∧ w'.cell? ⟨g, o, none⟩ = some (strV x)) (by kernel_rfl) ?_ (fun hF => ?_)
        · (try dsimp only)
          all_goals (exact ⟨(lobj_cells (sp.own 1 rfl)).1, hcx.out _ (sp.own 5 rfl)⟩)
        refine tk0 (i := 0) (oi := ⟨some 30, .move (.tmp 0), 30, "seglog.go:120", #[], none⟩) (v := ?_) rfl (by kernel_rfl) (fun _ _ _ h => h) (fun _ => hF) (fun w => ?_) (by rfl) ?_
        rotate_left
        · first | (go_simp; done) | (go_simp; with_reducible rfl) | (go_split_ands; go_simp; done)
        try simp only [Act.put, nrmA, nrmB, nrmC]
        refine tk0 (i := 1) (oi := ⟨some 31, .nilCheck (.tmp 30), 0, "seglog.go:120", #[⟨0, .data⟩], none⟩) (v := ?_) rfl (by kernel_rfl) (fun _ _ _ h => h) (fun _ => hF) (fun w => ?_) (by rfl) ?_
        rotate_left
        · first | (go_simp; done) | (go_simp; with_reducible rfl) | (go_split_ands; go_simp; done)
        try simp only [Act.put, nrmA, nrmB, nrmC]
        refine tk0 (i := 2) (oi := ⟨some 32, .fieldAddr 86 (.tmp 31) 0, 0, "seglog.go:120", #[⟨1, .data⟩], none⟩) (v := ?_) rfl (by kernel_rfl) (fun _ _ _ h => h) (fun _ => hF) (fun w => ?_) (by rfl) ?_
        rotate_left
        · first | (go_simp; done) | (go_simp; with_reducible rfl) | (go_split_ands; go_simp; done)
        try simp only [Act.put, nrmA, nrmB, nrmC]
        refine tk1 (i := 3) (oi := ⟨some 33, .load 28 (.tmp 32), 28, "seglog.go:120", #[⟨2, .data⟩], none⟩) (v := ?_) [8] rfl (by kernel_rfl) (fun _ _ _ h => h) hF (fun w hFw => ?_) (by rfl) ?_
        rotate_left
        · ((try dsimp only at hFw); first | (go_simp; done) | (go_simp; with_reducible rfl) | (go_split_ands; go_simp; done))
        try simp only [Act.put, nrmA, nrmB, nrmC]
        refine tk0 (i := 4) (oi := ⟨some 34, .move (.tmp 1), 70, "seglog.go:120", #[], none⟩) (v := ?_) rfl (by kernel_rfl) (fun _ _ _ h => h) (fun _ => hF) (fun w => ?_) (by rfl) ?_
        rotate_left
        · first | (go_simp; done) | (go_simp; with_reducible rfl) | (go_split_ands; go_simp; done)
        try simp only [Act.put, nrmA, nrmB, nrmC]
        refine tk0 (i := 5) (oi := ⟨some 35, .indexAddr 70 (.tmp 34) (.const (.int .i64 0)), 0, "seglog.go:120", #[⟨4, .data⟩], none⟩) (v := ?_) rfl (by kernel_rfl) (fun _ _ _ h => h) (fun _ => hF) (fun w => ?_) (by rfl) ?_
        rotate_left
        · first | (go_simp; done) | (go_simp; with_reducible rfl) | (go_split_ands; go_simp; done)
        try simp only [Act.put, nrmA, nrmB, nrmC]
        refine tk1 (i := 6) (oi := ⟨some 36, .load 9 (.tmp 35), 9, "seglog.go:120", #[⟨5, .data⟩], none⟩) (v := ?_) [8] rfl (by kernel_rfl) (fun _ _ _ h => h) hF (fun w hFw => ?_) (by rfl) ?_
        rotate_left
        · ((try dsimp only at hFw); first | (go_simp; done) | (go_simp; with_reducible rfl) | (go_split_ands; go_simp; done))
        try simp only [Act.put, nrmA, nrmB, nrmC]
        refine wpAnyJ_ready (rs := [7]) (by kernel_rfl) (by simp) ?_
        refine AllJ.cons1 (o := ⟨some 37, .call { callee := .value (.func 93), args := #[.tmp 33, .tmp 36], argTypes := #[28, 9] }, 35, "seglog.go:120", #[⟨3, .data⟩, ⟨6, .data⟩], none⟩) rfl (fun Kr hKr => ?_)
        go_simp; go_at_call 93; refine (hcall.out _ (sp.own 0 rfl)).mono ?_; rintro e w4 ⟨rfl, DH', hd', hst⟩
        have sp : Sp w0 K w4 [DH', _, S, E, rwH X, N] := sp.put 0 rfl hst
        clear hst
        refine hKr.out _ _ (fun hJ => ?_) (fun hF => ?_)
        · first
          | exact absurd hJ (by decide)
          | (clear hJ; (try dsimp only); all_goals (exact ⟨(lobj_cells (sp.own 1 rfl)).1, hcx.out _ (sp.own 5 rfl)⟩))
        clear hKr
        try simp only [Act.put, nrmA, nrmB, nrmC]
        refine wpAnyJ_ready (rs := [8]) (by kernel_rfl) (by simp) ?_
        refine AllJ.cons1 (o := ⟨some 6, .assign (.tmp 37), 35, "seglog.go:120", #[⟨7, .data⟩, ⟨7, .chain⟩, ⟨0, .phase⟩, ⟨1, .phase⟩, ⟨2, .phase⟩, ⟨3, .phase⟩, ⟨4, .phase⟩, ⟨5, .phase⟩, ⟨6, .phase⟩, ⟨7, .phase⟩], none⟩) rfl (fun Kr hKr => ?_)
        go_simp
        refine hKr.out _ _ (fun hJ => ?_) (fun hF => ?_)
        · first
          | exact absurd hJ (by decide)
          | (clear hJ; (try dsimp only); all_goals (exact ⟨(lobj_cells (sp.own 1 rfl)).1, hcx.out _ (sp.own 5 rfl)⟩))
        clear hKr
        try simp only [Act.put, nrmA, nrmB, nrmC]
        refine wpAnyJ_done (by kernel_rfl) ?_ _
        go_wp2_with fail
        go_ret
        rw [hfin2.out]
        exact ⟨rfl, DH', hd', sp⟩
      · have hg1 : (0 : Int) < good := by omega
        obtain ⟨r, hr⟩ : ∃ r, r = gateN [x] (cuI x good) k1 := ⟨_, rfl⟩
        have hfin2 : Hid (endsN names good k = r) := by show _ = _; rw [hfin.out, lastN, if_neg hg, hr]
        have hcall : Hid (∀ W, Own W DH → Calls Tryz.prog 65 #[pt d, strV x, ii good] W (DkPost d r DH W)) := fun W hW => by rw [hr]; exact dcut d k1 DH x good W hd hk hW
        replace hr := Lib.hid hr
        replace hx := Lib.hid hx
        replace hg := Lib.hid hg
        go_upto_region 9 with fail
        replace sp := sp.drew
        refine wp_region_J 9 (fun w' => w'.cell? ⟨b, 0, none⟩ = some (pt d) ∧ w'.cell? ⟨g, o, none⟩ = some (strV x)) (by kernel_rfl) ?_ (fun hF => ?_)
        · (try dsimp only)
          all_goals (exact ⟨(lobj_cells (sp.own 1 rfl)).1, hcx.out _ (sp.own 5 rfl)⟩)
        refine tk0 (i := 0) (oi := ⟨some 38, .move (.tmp 0), 30, "seglog.go:122", #[], none⟩) (v := ?_) rfl (by kernel_rfl) (fun _ _ _ h => h) (fun _ => hF) (fun w => ?_) (by rfl) ?_
        rotate_left
        · first | (go_simp; done) | (go_simp; with_reducible rfl) | (go_split_ands; go_simp; done)
        try simp only [Act.put, nrmA, nrmB, nrmC]
        refine tk0 (i := 1) (oi := ⟨some 39, .nilCheck (.tmp 38), 0, "seglog.go:122", #[⟨0, .data⟩], none⟩) (v := ?_) rfl (by kernel_rfl) (fun _ _ _ h => h) (fun _ => hF) (fun w => ?_) (by rfl) ?_
        rotate_left
        · first | (go_simp; done) | (go_simp; with_reducible rfl) | (go_split_ands; go_simp; done)
        try simp only [Act.put, nrmA, nrmB, nrmC]
        refine tk0 (i := 2) (oi := ⟨some 40, .fieldAddr 86 (.tmp 39) 0, 0, "seglog.go:122", #[⟨1, .data⟩], none⟩) (v := ?_) rfl (by kernel_rfl) (fun _ _ _ h => h) (fun _ => hF) (fun w => ?_) (by rfl) ?_
        rotate_left
        · first | (go_simp; done) | (go_simp; with_reducible rfl) | (go_split_ands; go_simp; done)
        try simp only [Act.put, nrmA, nrmB, nrmC]
        refine tk1 (i := 3) (oi := ⟨some 41, .load 28 (.tmp 40), 28, "seglog.go:122", #[⟨2, .data⟩], none⟩) (v := ?_) [9] rfl (by kernel_rfl) (fun _ _ _ h => h) hF (fun w hFw => ?_) (by rfl) ?_
        rotate_left
        · ((try dsimp only at hFw); first | (go_simp; done) | (go_simp; with_reducible rfl) | (go_split_ands; go_simp; done))
        try simp only [Act.put, nrmA, nrmB, nrmC]
        refine tk0 (i := 4) (oi := ⟨some 42, .move (.tmp 1), 70, "seglog.go:122", #[], none⟩) (v := ?_) rfl (by kernel_rfl) (fun _ _ _ h => h) (fun _ => hF) (fun w => ?_) (by rfl) ?_
        rotate_left
        · first | (go_simp; done) | (go_simp; with_reducible rfl) | (go_split_ands; go_simp; done)
        try simp only [Act.put, nrmA, nrmB, nrmC]
        refine tk0 (i := 5) (oi := ⟨some 43, .indexAddr 70 (.tmp 42) (.const (.int .i64 0)), 0, "seglog.go:122", #[⟨4, .data⟩], none⟩) (v := ?_) rfl (by kernel_rfl) (fun _ _ _ h => h) (fun _ => hF) (fun w => ?_) (by rfl) ?_
        rotate_left
        · first | (go_simp; done) | (go_simp; with_reducible rfl) | (go_split_ands; go_simp; done)
        try simp only [Act.put, nrmA, nrmB, nrmC]
        refine tk1 (i := 6) (oi := ⟨some 44, .load 9 (.tmp 43), 9, "seglog.go:122", #[⟨5, .data⟩], none⟩) (v := ?_) [9] rfl (by kernel_rfl) (fun _ _ _ h => h) hF (fun w hFw => ?_) (by rfl) ?_
        rotate_left
        · ((try dsimp only at hFw); first | (go_simp; done) | (go_simp; with_reducible rfl) | (go_split_ands; go_simp; done))
        try simp only [Act.put, nrmA, nrmB, nrmC]
        refine tk0 (i := 7) (oi := ⟨some 45, .move (.tmp 2), 3, "seglog.go:122", #[], none⟩) (v := ?_) rfl (by kernel_rfl) (fun _ _ _ h => h) (fun _ => hF) (fun w => ?_) (by rfl) ?_
        rotate_left
        · first | (go_simp; done) | (go_simp; with_reducible rfl) | (go_split_ands; go_simp; done)
        try simp only [Act.put, nrmA, nrmB, nrmC]
        refine wpAnyJ_ready (rs := [8]) (by kernel_rfl) (by simp) ?_
        refine AllJ.cons1 (o := ⟨some 46, .call { callee := .value (.func 65), args := #[.tmp 41, .tmp 44, .tmp 45], argTypes := #[28, 9, 3] }, 35, "seglog.go:122", #[⟨3, .data⟩, ⟨6, .data⟩, ⟨7, .data⟩], none⟩) rfl (fun Kr hKr => ?_)
        go_simp; go_at_call 65; refine (hcall.out _ (sp.own 0 rfl)).mono ?_; rintro e w4 ⟨rfl, DH', hd', hst⟩
        have sp : Sp w0 K w4 [DH', _, S, E, rwH X, N] := sp.put 0 rfl hst
        clear hst
        refine hKr.out _ _ (fun hJ => ?_) (fun hF => ?_)
        · first
          | exact absurd hJ (by decide)
          | (clear hJ; (try dsimp only); all_goals (exact ⟨(lobj_cells (sp.own 1 rfl)).1, hcx.out _ (sp.own 5 rfl)⟩))
        clear hKr
        try simp only [Act.put, nrmA, nrmB, nrmC]
        refine wpAnyJ_ready (rs := [9]) (by kernel_rfl) (by simp) ?_
        refine AllJ.cons1 (o := ⟨some 6, .assign (.tmp 46), 35, "seglog.go:122", #[⟨8, .data⟩, ⟨8, .chain⟩, ⟨0, .phase⟩, ⟨1, .phase⟩, ⟨2, .phase⟩, ⟨3, .phase⟩, ⟨4, .phase⟩, ⟨5, .phase⟩, ⟨6, .phase⟩, ⟨7, .phase⟩, ⟨8, .phase⟩], none⟩) rfl (fun Kr hKr => ?_)
        go_simp
        refine hKr.out _ _ (fun hJ => ?_) (fun hF => ?_)
        · first
          | exact absurd hJ (by decide)
          | (clear hJ; (try dsimp only); all_goals (exact ⟨(lobj_cells (sp.own 1 rfl)).1, hcx.out _ (sp.own 5 rfl)⟩))
        clear hKr
        try simp only [Act.put, nrmA, nrmB, nrmC]
        refine wpAnyJ_done (by kernel_rfl) ?_ _
        go_wp2_with fail
        go_ret
        rw [hfin2.out]
        exact ⟨rfl, DH', hd', sp⟩
end Go.Proofs.YtdolbeonpkanpaaGreatDoor
namespace Go.Proofs.YtdolbeonpkanpaaGreatDoor
open Go.RowKit
attribute [local go_sem ↓] Go.wp_at_zero Go.wp_at_succ

def FiRel (d : Nat) (p : Nm) (k : Dk) (L : List Nm) (DH N0 : Heaplet) (w : World) (v6 v33 : Value) (wr : World) : Prop :=
  ∃ (i : Nat) (a : Option Addr) (c : Nat) (FH : Heaplet), v33 = iv i ∧ i ≤ L.length ∧ v6 = .slice a ((L.take i).filter (segN p)).length c ∧ SlRep 9 1 a ((L.take i).filter (segN p)).length c (((L.take i).filter (segN p)).map strV) FH ∧ Sp w DH wr [DH, N0, FH]
def FiCut (p : Nm) (L : List Nm) (DH N0 : Heaplet) (w : World) (v6 : Value) (wr : World) : Prop :=
  ∃ (a : Option Addr) (c : Nat) (FH : Heaplet), v6 = .slice a (L.filter (segN p)).length c ∧ SlRep 9 1 a (L.filter (segN p)).length c ((L.filter (segN p)).map strV) FH ∧ Sp w DH wr [DH, N0, FH]
def OpPost (d : Nat) (p : Nm) (r : Nat × Lg × Dk) (DH : Heaplet) (w : World) (e : Ending) (w' : World) : Prop :=
  (r.1 ≠ 0 ∧ e = .returned (.tuple #[.pointer none, iv r.1]) ∧ ∃ DH', DkRep d r.2.2 DH' ∧ Sp w DH w' [DH']) ∨
  (r.1 = 0 ∧ ∃ b DH' B S E XH, e = .returned (.tuple #[pt b, iv 0]) ∧ LgIs b d p r.2.1 B S E XH ∧ DkRep d r.2.2 DH' ∧ Sp w DH w' [DH', B, S, E, XH])
/-- Half-way through the names: what has been read. -/
structure Half (k : Dk) (p : Nm) (names : List Nm) (i : Nat) (lg : Lg) : Prop where
  walk : walkN k p names lg0 = walkN k p (names.drop i) lg
  many : lg.L.length ≤ i * 134217728
  msegs : lg.segs.length ≤ i
  ents : ∀ e ∈ lg.L, e.length ≤ 1073741824
  synced : lg.synced = 0
  dead : lg.dead = false
  segs : lg.segs = [] → lg.L = []
  bytes : ∀ g ∈ lg.segs, g.2 ≤ 1073741824 ∧ g.1 ≤ lg.L.length + 1
theorem rdN_le {k : Dk} (hk : k.Ok) {s : Nm} : (rdN s k).1.length ≤ 1073741824 := by
  unfold rdN
  split
  · rename_i h
    have := used_get h
    have := hk.used
    have := hk.room
    show (getF k.L s).1.length ≤ _
    omega
  · exact Nat.zero_le _
theorem half_read {k : Dk} (hk : k.Ok) {p : Nm} {names : List Nm} {i : Nat} {lg : Lg} (h : Half k p names i lg) (hi : i < names.length) :
    (readN p k lg names[i]).2.2.L.length ≤ (i + 1) * 134217728 ∧ (readN p k lg names[i]).2.2.segs.length ≤ i + 1 ∧ (∀ e ∈ (readN p k lg names[i]).2.2.L, e.length ≤ 1073741824) ∧
    (readN p k lg names[i]).2.2.synced = 0 ∧ (readN p k lg names[i]).2.2.dead = false ∧ ((readN p k lg names[i]).2.2.segs = [] → (readN p k lg names[i]).2.2.L = []) ∧ (∀ g ∈ (readN p k lg names[i]).2.2.segs, g.2 ≤ 1073741824 ∧ g.1 ≤ (readN p k lg names[i]).2.2.L.length + 1) ∧
    walkN k p names lg0 = if (readN p k lg names[i]).2.1 = true then walkN k p (names.drop (i + 1)) (readN p k lg names[i]).2.2 else ((readN p k lg names[i]).2.2, some (names.drop i, (readN p k lg names[i]).1)) := by
  have hw : walkN k p names lg0 = if (readN p k lg names[i]).2.1 = true then walkN k p (names.drop (i + 1)) (readN p k lg names[i]).2.2 else ((readN p k lg names[i]).2.2, some (names.drop i, (readN p k lg names[i]).1)) := by
    rw [h.walk, List.drop_eq_getElem_cons hi, walkN]
  have h1 := h.many
  have h2 := h.msegs
  refine ⟨?_, ?_, ?_, ?_, ?_, ?_, ?_, hw⟩
  all_goals
    clear hw
    unfold readN
    split
  · exact Nat.le_trans h1 (Nat.mul_le_mul_right _ (Nat.le_succ i))
  · have h3 := (rdSeg_le (rdN names[i] k).1 (lg.L.length + 1)).2.1
    have h4 := rdN_le hk (s := names[i])
    simp only [List.length_append]
    omega
  · show lg.segs.length ≤ _
    omega
  · simp only
    split
    · rw [List.length_append, List.length_singleton]; omega
    · omega
  · exact h.ents
  · intro e he
    simp only at he
    rcases List.mem_append.1 he with he | he
    · exact h.ents e he
    · have := (rdSeg_le (rdN names[i] k).1 (lg.L.length + 1)).2.2 e he
      have := rdN_le hk (s := names[i])
      omega
  · exact h.synced
  · exact h.synced
  · exact h.dead
  · exact h.dead
  · exact h.segs
  · simp only
    split
    · intro e; simp at e
    · rename_i hc
      intro e
      have h3 := (rdRows_len (scanN (rdN names[i] k).1).1 (lg.L.length + 1)).1
      have h4 : (rdSeg (rdN names[i] k).1 (lg.L.length + 1)).2 = 0 := by omega
      have h5 : (rdSeg (rdN names[i] k).1 (lg.L.length + 1)).1 = [] := by
        unfold rdSeg at h4 ⊢
        exact List.eq_nil_of_length_eq_zero (by omega)
      rw [h5, h.segs e]
      rfl
  · exact h.bytes
  · have h3 := (rdSeg_le (rdN names[i] k).1 (lg.L.length + 1)).1
    have h4 := rdN_le hk (s := names[i])
    intro g hg
    simp only [List.length_append] at hg ⊢
    split at hg
    · rcases List.mem_append.1 hg with hg | hg
      · have := h.bytes g hg; omega
      · rw [List.mem_singleton.1 hg]; simp only; omega
    · have := h.bytes g hg; omega
theorem half_start (k : Dk) (p : Nm) (names : List Nm) : Half k p names 0 lg0 := ⟨rfl, Nat.le_refl _, Nat.le_refl _, by simp [lg0], rfl, rfl, fun _ => rfl, by simp [lg0]⟩
end Go.Proofs.YtdolbeonpkanpaaGreatDoor
namespace Go.Proofs.YtdolbeonpkanpaaGreatDoor
open Go.RowKit
attribute [local go_sem ↓] Go.wp_at_zero Go.wp_at_succ

theorem call_acl (args : Array Value) (w : World) : (callFunc 42 args).run Tryz.prog w = .ok (.enter 42 args) w := by kernel_rfl
set_option maxRecDepth 100000 in
theorem acl_any (d g : Nat) (k : Dk) (H : Heaplet) (nm : Nm) (pa : Option Addr) (pc : Nat) (l : List UInt8) (w : World) (h : DkRep d k H) (hk : k.Ok) (hw : Own w H)
    (hc : w.cell? ⟨g, 0, none⟩ = some (.slice pa l.length pc)) (hb : RdBytes w pa l.length pc l) (hpb : l ≠ [] → ∀ x, pa = some x → x.block ∉ dom H) (hl : l.length ≤ 140737488355328) :
    Calls Tryz.prog 42 #[pt d, strV nm, pt g] w (DkPost d (gateN [nm] (wrI nm l) k) H w) := by
  have hd := Lib.hid (dwrite d k H nm pa l.length pc l w h hk hw hb hpb hl)
  clear hb hpb
  go_enter Tryz.func42, Tryz.ntmps42
  go_wp2_with fail
  refine hd.out.mono ?_
  rintro e w1 ⟨rfl, H', h1, hst⟩
  go_wp2_with fail
  go_ret
  exact ⟨rfl, H', h1, hst⟩
theorem mayN_len {k : Dk} {nm : Nm} (h : mayN k [nm] = 0) : nm.length ≤ 64 := (may_names h nm (List.mem_singleton.2 rfl)).2
theorem wrI_err (nm : Nm) (l : List UInt8) (k : Dk) : (wrI nm l k).1 = 0 ∨ (wrI nm l k).1 = 6 := by unfold wrI; split <;> (try split) <;> simp
theorem gwr_err (nm : Nm) (l : List UInt8) (k : Dk) : (gateN [nm] (wrI nm l) k).1 ≤ 9 := by
  have h1 := may_is k [nm]
  have h2 := wrI_err nm l k
  rcases gate_is [nm] (wrI nm l) k with ⟨h, e⟩ | ⟨h, _, e⟩ | ⟨h, _, e⟩ <;> rw [e] <;> (try simp only) <;> omega
theorem gwr_ok {k : Dk} (hk : k.Ok) (nm : Nm) (l : List UInt8) : (gateN [nm] (wrI nm l) k).2.Ok := gate_ok hk [nm] (wrI nm l) (fun h => wr_ok hk nm (mayN_len h) l)
theorem gsy_ok {k : Dk} (hk : k.Ok) (nm : Nm) : (gateN [nm] (syI nm) k).2.Ok := gate_ok hk [nm] (syI nm) (fun _ => sy_ok hk nm)
/-- Sync leaves entries and segments. -/
theorem lsync_same (p : Nm) (lg : Lg) (k : Dk) : (lsyncN p lg k).2.1.L = lg.L ∧ (lsyncN p lg k).2.1.segs = lg.segs ∧ (lg.synced ≤ lg.L.length → (lsyncN p lg k).2.1.synced ≤ lg.L.length) := by
  unfold lsyncN
  split
  · simp
  · split
    · simp
    · simp only
      split <;> simp
theorem lsync_ok (p : Nm) {lg : Lg} (k : Dk) (h : lg.Ok) : (lsyncN p lg k).2.1.Ok := by
  obtain ⟨h1, h2, h3⟩ := lsync_same p lg k
  exact ⟨by rw [h1, h2]; exact h.segs, by rw [h1]; exact h3 h.sync, by rw [h1]; exact h.many, by rw [h2]; exact h.msegs, by rw [h1, h2]; exact h.bytes, by rw [h1]; exact h.ents⟩
theorem lsync_dk (p : Nm) (lg : Lg) {k : Dk} (h : k.Ok) : (lsyncN p lg k).2.2.Ok := by
  unfold lsyncN
  split
  · exact h
  · split
    · exact h
    · simp only
      split <;> exact gsy_ok h _
theorem lsync_err (p : Nm) (lg : Lg) (k : Dk) : (lsyncN p lg k).1 ≤ 9 := by
  unfold lsyncN
  split
  · exact Nat.le_refl _
  · split
    · exact Nat.zero_le _
    · simp only
      split
      · exact (gsy_err _ k).1
      · exact Nat.zero_le _
theorem lsync_live (p : Nm) (lg : Lg) (k : Dk) (h : (lsyncN p lg k).1 = 0) : (lsyncN p lg k).2.1.dead = lg.dead := by
  unfold lsyncN at h ⊢
  split
  · rfl
  · split
    · rfl
    · rename_i h1 h2
      rw [if_neg h1, if_neg h2] at h
      simp only at h ⊢
      split
      · rename_i h3; rw [if_pos h3] at h; exact absurd h h3
      · rfl
theorem own_apart {w w0 : World} {K A B C D E' F : Heaplet} {R : List Heaplet} (s : Sp w0 K w (A :: B :: C :: D :: E' :: F :: R)) : ∀ b ∈ dom F, b ∉ dom A := fun b hb hA => by
  have h : Own w (A ++ (B :: C :: D :: E' :: F :: R).flatten) := by have := Step.own s; simpa using this
  have := h.apart b hA
  apply this
  simp only [List.flatten_cons, dom_append, List.mem_append]
  exact .inr (.inr (.inr (.inr (.inl hb))))
theorem Sp.putSlk {α : Type} {k : Nat} {f : α → List Value} (hf : ∀ x, (f x).length = k) {w W : World} {K G : Heaplet} {Hs : List Heaplet} {E g n c : Nat} {l : List α} (q : Nat) (s : Sp w K W Hs) (hq : Hs[q]? = some G) (h : SlRep E k (some ⟨g, 0, none⟩) n c (l.flatMap f) G) {i j : Nat} {x x' : α} {v : Value} (hi : l[i]? = some x) (hj : j < k) (hx : f x' = (f x).set j v) :
    ∃ H', SlRep E k (some ⟨g, 0, none⟩) n c ((l.set i x').flatMap f) H' ∧ Sp w K (W.setCell ⟨g, i * k + j, none⟩ v) (Hs.set q H') := by
  obtain ⟨H', h1, h2⟩ := slk_put hf (s.mid q hq) h hi hj hx
  refine ⟨H', h1, ?_⟩
  unfold Sp
  rw [sp_set hq]
  simpa using h2
theorem set_last {α : Type} (l : List α) (h : l ≠ []) (x : α) : l.set (l.length - 1) x = l.dropLast ++ [x] := by
  obtain ⟨a, y, rfl⟩ : ∃ a y, l = a ++ [y] := ⟨_, _, (List.dropLast_concat_getLast h).symm⟩
  simp [List.set_append]
def ApPost (b d : Nat) (p : Nm) (r : Nat × Nat × Lg × Dk) (w0 : World) (K : Heaplet) (e : Ending) (w' : World) : Prop :=
  e = .returned (.tuple #[iv r.1, iv r.2.1]) ∧ ∃ DH B S E XH, DkRep d r.2.2.2 DH ∧ LgIs b d p r.2.2.1 B S E XH ∧ Sp w0 K w' [DH, B, S, E, XH]
/-- Before an entry is written. -/
def ApCut (b d g : Nat) (p : Nm) (fresh : Bool) (e : List UInt8) (lg : Lg) (k : Dk) (G : Heaplet) (rec : Value) (w0 : World) (K : Heaplet) (wr : World) : Prop :=
  ∃ (lg1 : Lg) (k1 : Dk) (DH B S E XH : Heaplet), lappN p e lg k = putEN p fresh e lg1 k1 ∧ lg1.Ok ∧ k1.Ok ∧ lg1.dead = false ∧ (fresh = false → lg1.segs ≠ []) ∧ lg1.L.length = lg.L.length ∧ lg1.segs.length = lg.segs.length ∧ DkRep d k1 DH ∧ LgIs b d p lg1 B S E XH ∧
    Sp w0 K wr [DH, B, S, E, XH, G, [(g, .cells #[rec] 23 (0, 0))]]
end Go.Proofs.YtdolbeonpkanpaaGreatDoor
