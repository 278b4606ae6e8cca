/- The row through the interface heap.Interface; Push, Pop, up, down. -/
import Derived.Test.YtcocgljaifnmnaaTmB
namespace Go.Proofs.Ytcocgljaifnmnaa
open Go.RowKit
attribute [local go_sem ↓] Go.wp_at_zero Go.wp_at_succ

section
variable {P : Program}
theorem run_nilchk (t : TypeId) (b : Nat) (n : String) (w : World) : (Builtin.ssaWrapNilChk_ #[t] t #[pt b, strVal "", strVal n]).run P w = .ok (pt b) w := rfl
/-- A method by value behind a pointer that is no nil: the value is loaded. -/
theorem run_method_val {t e : TypeId} {name : String} {f : FuncId} {w : World} {b : Nat} {v : Value} (hm : (P.info? t).bind (fun i => (i.methods.find? (·.name == name)).map fun m => (m.path.size, m.func)) = some (0, some (f, false)))
    (hu : P.underlying t = some (.pointer e)) (ha : ∀ w, (isAgg e).run P w = .ok false w) (hc : w.cell? ⟨b, 0, none⟩ = some v) (k : Nat) : (method (k + 1) t (pt b) name).run P w = .ok (f, v) w := by
  obtain ⟨i, hi, hm⟩ := Option.bind_eq_some_iff.1 hm
  obtain ⟨m, hf, hm⟩ := Option.map_eq_some_iff.1 hm
  simp only [Prod.mk.injEq] at hm
  obtain ⟨h0, h1⟩ := hm
  have h0 : m.path = #[] := Array.eq_empty_of_size_eq_zero h0
  simp [method, typeInfo, hi, hf, h0, h1, follow, receiverAt, run_underlying hu, run_nilchk, Place.get, loadVar, ha, asAddr, run_load, hc, Result.andThen]
theorem run_method_ptr {t e : TypeId} {name : String} {f : FuncId} {w : World} {b : Nat} (hm : (P.info? t).bind (fun i => (i.methods.find? (·.name == name)).map fun m => (m.path.size, m.func)) = some (0, some (f, true)))
    (hu : P.underlying t = some (.pointer e)) (k : Nat) : (method (k + 1) t (pt b) name).run P w = .ok (f, pt b) w := by
  obtain ⟨i, hi, hm⟩ := Option.bind_eq_some_iff.1 hm
  obtain ⟨m, hf, hm⟩ := Option.map_eq_some_iff.1 hm
  simp only [Prod.mk.injEq] at hm
  obtain ⟨h0, h1⟩ := hm
  have h0 : m.path = #[] := Array.eq_empty_of_size_eq_zero h0
  simp [method, typeInfo, hi, hf, h0, h1, follow, receiverAt, run_underlying hu, Place.get, Result.andThen]
end
theorem agg_row (w : World) : (isAgg 47).run Try.prog w = .ok false w := by kernel_rfl
theorem m_len {w : World} {b : Nat} {v : Value} (hc : w.cell? ⟨b, 0, none⟩ = some v) (k : Nat) : (method (k + 1) 54 (pt b) "Len").run Try.prog w = .ok (43, v) w :=
  run_method_val (by kernel_rfl) Try.underlying54 agg_row hc k
theorem m_less {w : World} {b : Nat} {v : Value} (hc : w.cell? ⟨b, 0, none⟩ = some v) (k : Nat) : (method (k + 1) 54 (pt b) "Less").run Try.prog w = .ok (44, v) w :=
  run_method_val (by kernel_rfl) Try.underlying54 agg_row hc k
theorem m_swap {w : World} {b : Nat} {v : Value} (hc : w.cell? ⟨b, 0, none⟩ = some v) (k : Nat) : (method (k + 1) 54 (pt b) "Swap").run Try.prog w = .ok (45, v) w :=
  run_method_val (by kernel_rfl) Try.underlying54 agg_row hc k
theorem m_push (w : World) (b : Nat) (k : Nat) : (method (k + 1) 54 (pt b) "Push").run Try.prog w = .ok (47, pt b) w :=
  run_method_ptr (by kernel_rfl) Try.underlying54 k
theorem m_pop (w : World) (b : Nat) (k : Nat) : (method (k + 1) 54 (pt b) "Pop").run Try.prog w = .ok (46, pt b) w :=
  run_method_ptr (by kernel_rfl) Try.underlying54 k

abbrev rowI (b : Nat) : Value := .iface 54 (pt b)
/-- Behind climbing or sinking among the first n: the same things, in a heap; what stands beyond stays. -/
def UpPost (b : Nat) (M : Value) (L : List Th) (n : Nat) (H : Heaplet) (w : World) (e : Ending) (w' : World) : Prop :=
  e = .returned (.tuple #[]) ∧ ∃ L' H', L'.Perm L ∧ HOk L' n ∧ (∀ k, n ≤ k → gt L' k = gt L k) ∧ TmRep b M L' H' ∧ Step w H w' H'
def UpRel (b : Nat) (M : Value) (L : List Th) (n : Nat) (H : Heaplet) (w : World) (v : Value) (wr : World) : Prop :=
  ∃ (j : Nat) (L' : List Th) (H' : Heaplet), j < n ∧ v = .int .i64 (j : Nat) ∧ L'.Perm L ∧ HUp L' n j ∧ (∀ k, n ≤ k → gt L' k = gt L k) ∧ TmRep b M L' H' ∧ Step w H wr H'
set_option maxHeartbeats 1000000 in
set_option maxRecDepth 100000 in
theorem up_any (b : Nat) (M : Value) (L : List Th) (n j : Nat) (H : Heaplet) (w : World) (h : TmRep b M L H) (hw : Own w H) (hl : L.length ≤ 5000) (hn : n ≤ L.length) (hj : j < n) (hu : HUp L n j) :
    Calls Try.prog 26 #[rowI b, iv j] w (UpPost b M L n H w) := by
  have s0 := Lib.hid (Step.refl hw)
  replace hu := Lib.hid hu
  replace h := Lib.hid h
  go_enter Try.func26, Try.ntmps26
  go_wp2_with fail
  go_loopw [1] (fun v wr => UpRel b M L n H w v wr) (fun v _ => (intOf v).toNat)
  case atStart => exact ⟨j, L, H, hj, rfl, List.Perm.refl _, hu.out, fun _ _ => rfl, h.out, s0.out⟩
  case round =>
    clear h s0 hu hj
    obtain ⟨j, L', H', hj, rfl, hp, hu, hb, h, hs⟩ := hrel
    have hll := hp.length_eq
    replace hp := Lib.hid hp
    replace hb := Lib.hid hb
    obtain ⟨a, c, HA, rfl, hr⟩ := h
    have c0 := (cells2 hs.own.h0).1
    have ml := m_less c0
    by_cases hj0 : j = 0
    · subst hj0
      have hok := Lib.hid (up_done hu (.inl rfl))
      clear hu hll
      go_wp2_with fail
      go_end0
      exact ⟨rfl, L', _, hp.out, hok.out, hb.out, ⟨a, c, HA, rfl, hr⟩, hs⟩
    · obtain ⟨q, hq⟩ : ∃ q, j = q + 1 := ⟨j - 1, by omega⟩
      obtain ⟨i, hi⟩ : ∃ i, (j - 1) / 2 = i := ⟨_, rfl⟩
      have e0 : IntKind.i64.wrap ((j : Int) - 1) = (q : Int) := by rw [IntWalk.i64_in _ (by omega)]; omega
      have e1 : (q : Int) / 2 = (i : Int) := by omega
      have e2 : (j : Int) - 1 = (q : Int) := by omega
      have e3 : ((i : Int) == (j : Int)) = false := beq_eq_false_iff_ne.2 (by omega)
      have b1 : (1 : Int) ≤ (j : Int) := by omega
      have b2 : (j : Int) ≤ 5000 := by omega
      have b3 : (0 : Int) ≤ (q : Int) := by omega
      have hil : i < L'.length := by omega
      have hjl : j < L'.length := by omega
      have hls := Lib.hid (fun W hW => less_any a c L' HA j i W hr hW hjl hil (by omega))
      have hup := Lib.hid (fun hlt => up_swap hu (by omega) (by omega) hj hlt)
      have hdn := Lib.hid (fun hle => up_done hu (.inr hle))
      rw [hi] at hup hdn
      have hin : i < n := by omega
      have hsg := Lib.hid (fun k (hk : n ≤ k) => swp_get hil hjl k)
      have hij : i < j := by omega
      have hl' : L'.length ≤ 5000 := by omega
      unfold BoolPost at hls
      replace hll := Lib.hid hll
      replace hq := Lib.hid hq
      replace hi := Lib.hid hi
      clear hu
      cases hlt : ltB (gt L' j) (gt L' i)
      · rw [hlt] at hls
        have hok := Lib.hid (hdn.out (fun h => by rw [ltB_iff.2 h] at hlt; cases hlt))
        clear hlt hup hdn
        go_wp2_with fail
        refine (hls.out _ hs.own.tail).mono ?_
        rintro e w1 ⟨rfl, hs1⟩
        have s1 := hs.call0 hs1
        rw [List.append_nil] at s1
        go_wp2_with fail
        go_end0
        exact ⟨rfl, L', _, hp.out, hok.out, hb.out, ⟨a, c, HA, rfl, hr⟩, s1⟩
      · rw [hlt] at hls
        have hok := Lib.hid (hup.out (ltB_iff.1 hlt))
        clear hlt hup hdn
        go_wp2_with fail
        refine (hls.out _ hs.own.tail).mono ?_
        rintro e w1 ⟨rfl, hs1⟩
        have s1 := hs.call0 hs1
        rw [List.append_nil] at s1
        have c1 := (cells2 s1.own.h0).1
        have ms := m_swap c1
        go_wp2_with fail
        refine (swap_any b M a c L' HA i j w1 hr s1.own hil hjl hl').mono ?_
        rintro e w2 ⟨rfl, H2, hrep, hs2⟩
        have s2 := s1.trans hs2
        go_wp2_with fail
        refine ⟨⟨i, swp L' i j, H2, hin, rfl, (swp_perm hil hjl).trans hp.out, hok.out, fun k hk => ?_, hrep, s2⟩, by simp [intOf]; omega⟩
        rw [hsg.out k hk, if_neg (by omega), if_neg (by omega)]
        exact hb.out k hk

/-- What down answers, and what is then. -/
def DownPost (b : Nat) (M : Value) (L : List Th) (n i : Nat) (H : Heaplet) (w : World) (e : Ending) (w' : World) : Prop :=
  ∃ r L' H', e = .returned (.bool r) ∧ L'.Perm L ∧ (r = true → HOk L' n) ∧ (r = false → HUp L' n i) ∧ (∀ k, n ≤ k → gt L' k = gt L k) ∧ TmRep b M L' H' ∧ Step w H w' H'
def DownRel (b : Nat) (M : Value) (L : List Th) (n i0 : Nat) (H : Heaplet) (w : World) (v : Value) (wr : World) : Prop :=
  ∃ (i : Nat) (L' : List Th) (H' : Heaplet), i < n ∧ v = .int .i64 (i : Nat) ∧ i0 ≤ i ∧ L'.Perm L ∧ HFix L' n i ∧ (i ≠ i0 → HDown L' n i) ∧ (∀ k, n ≤ k → gt L' k = gt L k) ∧ TmRep b M L' H' ∧ Step w H wr H'
def DownCut (b : Nat) (M : Value) (L : List Th) (n i0 : Nat) (H : Heaplet) (w : World) (v : Value) (wc : World) : Prop :=
  ∃ (i : Nat) (L' : List Th) (H' : Heaplet), i < n ∧ v = .int .i64 (i : Nat) ∧ i0 ≤ i ∧ L'.Perm L ∧ (i ≠ i0 → HOk L' n) ∧ (i = i0 → HUp L' n i0) ∧ (∀ k, n ≤ k → gt L' k = gt L k) ∧ TmRep b M L' H' ∧ Step w H wc H'
theorem child_of {k i : Nat} (h0 : 0 < k) (h : (k - 1) / 2 = i) : k = 2 * i + 1 ∨ k = 2 * i + 2 := by omega
set_option maxHeartbeats 4000000 in
set_option maxRecDepth 100000 in
theorem down_any (b : Nat) (M : Value) (L : List Th) (n i0 : Nat) (H : Heaplet) (w : World) (h : TmRep b M L H) (hw : Own w H) (hl : L.length ≤ 5000) (hn : n ≤ L.length) (hi0 : i0 < n) (hu : HFix L n i0) :
    Calls Try.prog 25 #[rowI b, iv i0, iv n] w (DownPost b M L n i0 H w) := by
  have s0 := Lib.hid (Step.refl hw)
  replace hu := Lib.hid hu
  replace h := Lib.hid h
  have n5 : (n : Int) ≤ 5000 := by omega
  go_enter Try.func25, Try.ntmps25
  go_upto_block 0 with fail
  go_cut [7] (fun v wc => DownCut b M L n i0 H w v wc)
  case first =>
    go_wp2_with fail
    go_loopw [7] (fun v wr => DownRel b M L n i0 H w v wr) (fun v _ => n - (intOf v).toNat)
    case atStart => exact ⟨i0, L, H, hi0, rfl, Nat.le_refl _, List.Perm.refl _, hu.out, fun h => absurd rfl h, fun _ _ => rfl, h.out, s0.out⟩
    case round =>
      clear h s0 hu hi0
      obtain ⟨i, L', H', hi, rfl, hii, hp, hu, hd, hb, h, hs⟩ := hrel
      have hll := hp.length_eq
      have hl' : L'.length ≤ 5000 := by omega
      have hnl : n ≤ L'.length := by omega
      replace hp := Lib.hid hp
      replace hb := Lib.hid hb
      replace hll := Lib.hid hll
      obtain ⟨a, c, HA, rfl, hr⟩ := h
      have c0 := (cells2 hs.own.h0).1
      have ml := m_less c0
      have b0 : (0 : Int) ≤ (i : Int) := by omega
      have b1 : (i : Int) ≤ 5000 := by omega
      obtain ⟨j, hj⟩ : ∃ j, j = 2 * i + 1 := ⟨_, rfl⟩
      have e0 : 2 * (i : Int) + 1 = (j : Int) := by omega
      have b2 : (j : Int) ≤ 10001 := by omega
      have b3 : (0 : Int) ≤ (j : Int) := by omega
      have hstay : Hid ((∀ k, 0 < k → k < n → (k - 1) / 2 = i → (gt L' i).le (gt L' k)) → (i ≠ i0 → HOk L' n) ∧ (i = i0 → HUp L' n i0)) := fun hk => ⟨fun hne => down_done (hd hne) hk, fun e => by subst e; exact fix_stay hu hk⟩
      by_cases hjn : j < n
      · obtain ⟨j2, hj2⟩ : ∃ j2, j2 = j + 1 := ⟨_, rfl⟩
        have e1 : (j : Int) + 1 = (j2 : Int) := by omega
        have b4 : (j : Int) < (n : Int) := by omega
        have b5 : (j2 : Int) ≤ 10002 := by omega
        have hil : i < L'.length := by omega
        have hjl : j < L'.length := by omega
        have hls : Hid (∀ x y, x < L'.length → y < L'.length → ∀ W, Own W (HA ++ thH L') → Calls Try.prog 44 #[.slice a L'.length c, iv x, iv y] W (BoolPost (ltB (gt L' x) (gt L' y)) W)) := fun x y hx hy W hW => less_any a c L' HA x y W hr hW hx hy hl'
        -- m is the least child
        have hmain : ∃ m, m < L'.length ∧ Hid (Least L' n i m) ∧ (((j2 : Int) < (n : Int) ∧ ∃ q, Hid (j2 < L'.length) ∧ Hid (ltB (gt L' j2) (gt L' j) = q) ∧ ((q = true ∧ m = j2) ∨ (q = false ∧ m = j))) ∨ ((n : Int) ≤ (j2 : Int) ∧ m = j)) := by
          by_cases hj2n : j2 < n
          · obtain ⟨q, hq⟩ : ∃ q, ltB (gt L' j2) (gt L' j) = q := ⟨_, rfl⟩
            cases q
            · refine ⟨j, hjl, ⟨by omega, hjn, by omega, fun k h0 hk hki => ?_⟩, .inl ⟨by omega, false, by show _ < _; omega, hq, .inr ⟨rfl, rfl⟩⟩⟩
              rcases child_of h0 hki with e | e
              · rw [show k = j by omega]; exact Th.le_refl _
              · rw [show k = j2 by omega]; exact fun h => by rw [ltB_iff.2 h] at hq; cases hq
            · refine ⟨j2, by omega, ⟨by omega, hj2n, by omega, fun k h0 hk hki => ?_⟩, .inl ⟨by omega, true, by show _ < _; omega, hq, .inl ⟨rfl, rfl⟩⟩⟩
              rcases child_of h0 hki with e | e
              · rw [show k = j by omega]; exact Th.lt_le (ltB_iff.1 hq)
              · rw [show k = j2 by omega]; exact Th.le_refl _
          · refine ⟨j, hjl, ⟨by omega, hjn, by omega, fun k h0 hk hki => ?_⟩, .inr ⟨by omega, rfl⟩⟩
            rcases child_of h0 hki with e | e
            · rw [show k = j by omega]; exact Th.le_refl _
            · omega
        obtain ⟨m, hml, hleast, hcase⟩ := hmain
        have hmn : m < n := hleast.out.2.1
        have hmi : i < m := by have := hleast.out.2.2.1; have := hleast.out.1; omega
        have b6 : (m : Int) ≤ 10002 := by omega
        have hfs := Lib.hid (fun hlt => fix_swap hu hnl hleast.out hlt)
        have hsg := Lib.hid (fun k (hk : n ≤ k) => swp_get hil hml k)
        have hlm := Lib.hid (hls.out m i hml hil)
        have hstay2 : Hid (ltB (gt L' m) (gt L' i) = false → (i ≠ i0 → HOk L' n) ∧ (i = i0 → HUp L' n i0)) := fun hf => hstay.out (fun k h0 hk hki => Th.le_trans (fun h => by rw [ltB_iff.2 h] at hf; cases hf) (hleast.out.2.2.2 k h0 hk hki))
        unfold BoolPost at hls hlm
        clear hu hd hstay
        replace hj := Lib.hid hj
        replace hj2 := Lib.hid hj2
        rcases hcase with ⟨b7, q, hj2l, hq, hqm0⟩ | ⟨b7, rfl⟩
        · have hl2 := Lib.hid (hls.out j2 j hj2l.out hjl)
          rw [hq.out] at hl2
          clear hq
          rcases hqm0 with ⟨rfl, rfl⟩ | ⟨rfl, rfl⟩
          all_goals
            obtain ⟨qm, hqm⟩ : ∃ q, ltB (gt L' m) (gt L' i) = q := ⟨_, rfl⟩
            rw [hqm] at hlm
            go_wp2_with fail
            refine (hl2.out _ hs.own.tail).mono ?_
            rintro e w2 ⟨rfl, hs2⟩
            have sX := hs.call0 hs2
            rw [List.append_nil] at sX
            have cX := (cells2 sX.own.h0).1
            have mX := m_less cX
            go_wp2_with fail
            refine (hlm.out _ sX.own.tail).mono ?_
            rintro e w3 ⟨rfl, hs3⟩
            have s3 := sX.call0 hs3
            rw [List.append_nil] at s3
            cases qm
            · have hst := Lib.hid (hstay2.out hqm)
              go_wp2_with fail
              go_meet
              exact ⟨i, L', _, hi, rfl, hii, hp.out, hst.out.1, hst.out.2, hb.out, ⟨a, c, HA, rfl, hr⟩, s3⟩
            · have hdn := Lib.hid (hfs.out (ltB_iff.1 hqm))
              have c3 := (cells2 s3.own.h0).1
              have ms := m_swap c3
              go_wp2_with fail
              refine (swap_any b M a c L' HA i m w3 hr s3.own hil hml hl').mono ?_
              rintro e w4 ⟨rfl, H2, hrep, hs4⟩
              have s4 := s3.trans hs4
              go_wp2_with fail
              refine ⟨⟨m, swp L' i m, H2, hmn, rfl, by omega, (swp_perm hil hml).trans hp.out, down_fix hdn.out, fun _ => hdn.out, fun k hk => ?_, hrep, s4⟩, by simp [intOf]; omega⟩
              rw [hsg.out k hk, if_neg (by omega), if_neg (by omega)]
              exact hb.out k hk
        · 
          obtain ⟨qm, hqm⟩ : ∃ q, ltB (gt L' m) (gt L' i) = q := ⟨_, rfl⟩
          rw [hqm] at hlm
          go_wp2_with fail
          have sX := hs
          refine (hlm.out _ sX.own.tail).mono ?_
          rintro e w3 ⟨rfl, hs3⟩
          have s3 := sX.call0 hs3
          rw [List.append_nil] at s3
          cases qm
          · have hst := Lib.hid (hstay2.out hqm)
            go_wp2_with fail
            go_meet
            exact ⟨i, L', _, hi, rfl, hii, hp.out, hst.out.1, hst.out.2, hb.out, ⟨a, c, HA, rfl, hr⟩, s3⟩
          · have hdn := Lib.hid (hfs.out (ltB_iff.1 hqm))
            have c3 := (cells2 s3.own.h0).1
            have ms := m_swap c3
            go_wp2_with fail
            refine (swap_any b M a c L' HA i m w3 hr s3.own hil hml hl').mono ?_
            rintro e w4 ⟨rfl, H2, hrep, hs4⟩
            have s4 := s3.trans hs4
            go_wp2_with fail
            refine ⟨⟨m, swp L' i m, H2, hmn, rfl, by omega, (swp_perm hil hml).trans hp.out, down_fix hdn.out, fun _ => hdn.out, fun k hk => ?_, hrep, s4⟩, by simp [intOf]; omega⟩
            rw [hsg.out k hk, if_neg (by omega), if_neg (by omega)]
            exact hb.out k hk
      · have b4 : (n : Int) ≤ (j : Int) := by omega
        have hst := Lib.hid (hstay.out (fun k h0 hk hki => by rcases child_of h0 hki with e | e <;> omega))
        replace hj := Lib.hid hj
        clear hu hd hstay
        go_wp2_with fail
        go_meet
        exact ⟨i, L', _, hi, rfl, hii, hp.out, hst.out.1, hst.out.2, hb.out, ⟨a, c, HA, rfl, hr⟩, hs⟩
  case rest =>
    clear h s0 hu
    obtain ⟨i, L', H', hi, rfl, hii, hp, hk1, hk2, hb, h, hs⟩ := hcut
    have hpost : ∀ r, r = decide (i0 < i) → DownPost b M L n i0 H w (.returned (.bool r)) wc := fun r hr => ⟨r, L', H', rfl, hp, fun e => hk1 (by rw [hr] at e; simp at e; omega), fun e => hk2 (by rw [hr] at e; simp at e; omega), hb, h, hs⟩
    replace hpost := Lib.hid hpost
    replace hp := Lib.hid hp
    clear hk1 hk2 hb
    by_cases hlt : i0 < i
    · have b1 : (i0 : Int) < (i : Int) := by omega
      go_wp2_with fail
      go_ret
      exact hpost.out _ (by simp [hlt])
    · have b1 : (i : Int) ≤ (i0 : Int) := by omega
      go_wp2_with fail
      go_ret
      exact hpost.out _ (by simp [hlt])
end Go.Proofs.Ytcocgljaifnmnaa
