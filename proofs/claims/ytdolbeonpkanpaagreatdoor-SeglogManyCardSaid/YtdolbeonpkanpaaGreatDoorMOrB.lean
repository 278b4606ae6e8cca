/- The reference's Reader: raw, Byte, Four. The reference's Reader: Num. -/
import Derived.Test.YtdolbeonpkanpaaGreatDoorMOcD
set_option linter.unusedVariables false
set_option linter.unusedSimpArgs false
namespace Go.Proofs.YtdolbeonpkanpaaGreatDoor
open Go.RowKit
attribute [local go_sem ↓] Go.wp_at_zero Go.wp_at_succ

/-- The reference's Reader at b. -/
def OrRep (b : Nat) (l : List UInt8) (e : Nat) (R : World → Prop) (H : Heaplet) : Prop :=
  ∃ (a : Option Addr) (c : Nat), InB R a c l ∧ H = [(b, .cells #[.slice a l.length c, iv e] 151 (0, 0))]
def RawPost (b : Nat) (l : List UInt8) (e n : Nat) (R : World → Prop) (H : Heaplet) (w : World) (r : Ending) (w' : World) : Prop :=
  (e = 0 ∧ n ≤ l.length ∧ ∃ a c H', r = .returned (.slice a n c) ∧ InB R a c (l.take n) ∧ OrRep b (l.drop n) 0 R H' ∧ Step w H w' H') ∨
  ((e ≠ 0 ∨ l.length < n) ∧ ∃ g H', r = .returned (.slice (some ⟨g, 0, none⟩) n n) ∧ OrRep b [] (if e = 0 then 2 else e) R H' ∧ Sp w H w' [H', [(g, .cells (List.replicate n (.int .u8 0)).toArray 5 (0, 0))]])
set_option maxRecDepth 100000 in
theorem raw_any (b : Nat) (l : List UInt8) (e n : Nat) (R : World → Prop) (H : Heaplet) (w : World) (h : OrRep b l e R H) (hw : Own w H) (hn : n ≤ 32) :
    Calls Tryz.prog 130 #[pt b, iv n] w (RawPost b l e n R H w) := by
  obtain ⟨a, c, hin, rfl⟩ := h
  have ⟨c0, c1⟩ := cells2 hw.h0
  have b0 := heap_lt hw.h0
  have fz := fun i => frz_of (i := i) hw.h0
  have s0 := Step.refl hw
  have hn' : (n : Int) ≤ 32 := by omega
  by_cases he : e = 0
  · subst he
    by_cases hl : l.length < n
    · have d1 : (l.length : Int) < (n : Int) := by omega
      clear hin
      go_enter Tryz.func130, Tryz.ntmps130
      go_wp2_with (at_make; refine wpList_mk rfl st_u8 _ _ rfl n n (by rfl) (by rfl) (by omega) (by omega) (Nat.le_refl _) (by omega) (by unfold maxLen; omega) ?_)
      go_ret
      have s := ((Sp.of s0).store 0 (j := 1) rfl (.int .i64 2)).store 0 (j := 0) rfl (.slice none 0 0)
      have s := s.alloc (.cells (madeCells #[Value.int .u8 0] n) 5)
      rw [madeCells_one] at s ⊢
      refine .inr ⟨.inr hl, _, _, rfl, ⟨none, 0, inB_nil _, rfl⟩, ?_⟩
      rw [size_setCell, size_setCell] at s
      exact s
    · have d1 : (n : Int) ≤ (l.length : Int) := by omega
      have hin2 := Lib.hid hin
      obtain ⟨_, ⟨rfl, rfl, rfl⟩ | ⟨g, o, rfl, h3, h4⟩⟩ := hin
      · obtain rfl : n = 0 := by simpa using hl
        go_enter Tryz.func130, Tryz.ntmps130
        go_wp2
        go_ret
        exact .inl ⟨rfl, Nat.le_refl _, none, 0, _, rfl, inB_nil _, ⟨none, 0, inB_nil _, rfl⟩, s0.store0 (.slice none 0 0) (i := 0)⟩
      · have d2 : (n : Int) ≤ (c : Int) := by omega
        have hln : n ≤ l.length := by omega
        by_cases hcn : c = n
        · subst hcn
          go_enter Tryz.func130, Tryz.ntmps130
          go_wp2
          go_ret
          refine .inl ⟨rfl, hln, some ⟨g, o, none⟩, c, _, rfl, inB_take hin2.out c, ⟨some ⟨g, o, none⟩, 0, inB_drop_end hin2.out hln, rfl⟩, ?_⟩
          have e0 : l.length - c = 0 := by omega
          rw [List.length_drop, e0]
          exact s0.store0 (.slice (some ⟨g, o, none⟩) 0 0) (i := 0)
        · have hcn' : ¬ n = c := fun e => hcn e.symm
          go_enter Tryz.func130, Tryz.ntmps130
          go_wp2
          go_ret
          refine .inl ⟨rfl, hln, some ⟨g, o, none⟩, c, _, rfl, inB_take hin2.out n, ⟨some ⟨g, o + n, none⟩, c - n, inB_drop hin2.out hln hcn', rfl⟩, ?_⟩
          rw [List.length_drop]
          exact s0.store0 (.slice (some ⟨g, o + n, none⟩) (l.length - n) (c - n)) (i := 0)
  · have d1 : ((e : Int) != 0) = true := by rw [bne_iff_ne]; omega
    have d2 : ((e : Int) == 0) = false := beq_eq_false_iff_ne.2 (by omega)
    go_enter Tryz.func130, Tryz.ntmps130
    go_wp2_with (at_make; refine wpList_mk rfl st_u8 _ _ rfl n n (by rfl) (by rfl) (by omega) (by omega) (Nat.le_refl _) (by omega) (by unfold maxLen; omega) ?_)
    go_ret
    have s := (Sp.of s0).store 0 (j := 0) rfl (.slice none 0 0)
    have s := s.alloc (.cells (madeCells #[Value.int .u8 0] n) 5)
    rw [madeCells_one] at s ⊢
    refine .inr ⟨.inl he, _, _, rfl, ⟨none, 0, inB_nil _, rfl⟩, ?_⟩
    rw [if_neg he]
    rw [size_setCell] at s
    exact s
/-- A byte that is read: the error, the byte, what is left. -/
def byteN (e : Nat) (l : List UInt8) : Nat × UInt8 × List UInt8 := if e = 0 then (match l with | [] => (2, 0, []) | x :: r => (0, x, r)) else (e, 0, [])
set_option maxRecDepth 100000 in
theorem rbyte_any (b : Nat) (l : List UInt8) (e : Nat) (R : World → Prop) (H : Heaplet) (w : World) (h : OrRep b l e R H) (hw : Own w H) (hR : ∀ w' H', Step w H w' H' → R w') :
    Calls Tryz.prog 118 #[pt b] w fun r w' => r = .returned (u8 (byteN e l).2.1) ∧ ∃ H', OrRep b (byteN e l).2.2 (byteN e l).1 R H' ∧ Step w H w' H' := by
  go_enter Tryz.func118, Tryz.ntmps118
  go_wp2_with fail
  refine (raw_any b l e 1 R H w h hw (by decide)).mono ?_
  rintro r w1 (⟨rfl, h1, a, c, H', rfl, hin, hr', hst⟩ | ⟨h1, g, H', rfl, hr', hst⟩)
  · obtain ⟨x, r, rfl⟩ : ∃ x r, l = x :: r := by
      cases l with
      | nil => simp at h1
      | cons x r => exact ⟨x, r, rfl⟩
    · have hb := hin.1 w1 (hR w1 H' hst)
      obtain ⟨bg, og, rfl, hgc, _, hc⟩ := hb.place (by simp)
      have hc0 := hc 0 (by simp)
      simp only [List.take_succ_cons, List.getElem_cons_zero, Nat.add_zero] at hc0
      have hgc' : (1 : Int) ≤ (c : Int) := by have : 1 ≤ c := (by simpa using hgc); omega
      clear hc hgc hb hin
      go_wp2_with fail
      go_ret
      exact ⟨rfl, H', hr', hst⟩
  · have c0 := cells1 (hst.own 1 rfl).h0
    go_wp2_with fail
    go_ret
    have e1 : byteN e l = (if e = 0 then 2 else e, 0, []) := by
      unfold byteN
      by_cases he : e = 0
      · subst he
        have : l = [] := by
          rcases h1 with h1 | h1
          · exact absurd rfl h1
          · exact List.eq_nil_of_length_eq_zero (by omega)
        subst this
        rfl
      · rw [if_neg he, if_neg he]
    rw [e1]
    exact ⟨rfl, H', hr', hst.first⟩
theorem four_bits (x0 x1 x2 x3 : UInt8) : bits .or .u32 (bits .or .u32 (bits .or .u32 ((x0.toNat : Int) % 4294967296) ((x1.toNat : Int) % 4294967296 * 256 % 4294967296)) ((x2.toNat : Int) % 4294967296 * 65536 % 4294967296)) ((x3.toNat : Int) % 4294967296 * 16777216 % 4294967296) = (rd4 [x0, x1, x2, x3] : Int) := by
  have h0 := UInt8.toNat_lt x0
  have h1 := UInt8.toNat_lt x1
  have h2 := UInt8.toNat_lt x2
  have h3 := UInt8.toNat_lt x3
  have e0 : (x0.toNat : Int) % 4294967296 = (x0.toNat : Int) := by omega
  have q1 := low_bits x1 (i := 1) (n := x0.toNat) (by decide) (by omega)
  have q2 := low_bits x2 (i := 2) (n := x0.toNat + x1.toNat * 256 ^ 1) (by decide) (by omega)
  have q3 := low_bits x3 (i := 3) (n := x0.toNat + x1.toNat * 256 ^ 1 + x2.toNat * 256 ^ 2) (by decide) (by omega)
  have t1 : (2 : Int) ^ (8 * 1) = 256 := by decide
  have t2 : (2 : Int) ^ (8 * 2) = 65536 := by decide
  have t3 : (2 : Int) ^ (8 * 3) = 16777216 := by decide
  rw [t1] at q1
  rw [t2] at q2
  rw [t3] at q3
  rw [e0, q1, q2, q3]
  rfl
set_option maxRecDepth 100000 in
theorem rf4r_any (b : Nat) (l : List UInt8) (R : World → Prop) (H : Heaplet) (w : World) (h : OrRep b l 0 R H) (hw : Own w H) (hR : ∀ w' H', Step w H w' H' → R w') (hl : 4 ≤ l.length) :
    Calls Tryz.prog 148 #[pt b] w fun r w' => r = .returned (u32v (rd4 (l.take 4))) ∧ ∃ H', OrRep b (l.drop 4) 0 R H' ∧ Step w H w' H' := by
  obtain ⟨p, hp⟩ : ∃ p, p = l.take 4 := ⟨_, rfl⟩
  rw [← hp]
  go_enter Tryz.func148, Tryz.ntmps148
  go_wp2_with fail
  refine (raw_any b l 0 4 R H w h hw (by decide)).mono ?_
  rintro r w1 (⟨_, h1, a, c, H', rfl, hin, hr', hst⟩ | ⟨h1, _⟩)
  · have hb := hin.1 w1 (hR w1 H' hst)
    have h4 : p.length = 4 := by rw [hp, List.length_take]; omega
    rw [← hp] at hb
    obtain ⟨x0, x1, x2, x3, rfl⟩ : ∃ x0 x1 x2 x3, p = [x0, x1, x2, x3] := by
      match p, h4 with
      | [x0, x1, x2, x3], _ => exact ⟨x0, x1, x2, x3, rfl⟩
    obtain ⟨bg, og, rfl, hgc, _, hc⟩ := hb.place (by simp)
    have hc0 := hc 0 (by simp)
    have hc1 := hc 1 (by simp)
    have hc2 := hc 2 (by simp)
    have hc3 := hc 3 (by simp)
    simp only [List.getElem_cons_zero, List.getElem_cons_succ, Nat.add_zero] at hc0 hc1 hc2 hc3
    have hgc' : (4 : Int) ≤ (c : Int) := by have : 4 ≤ c := (by simpa using hgc); omega
    clear hc hgc hb hin
    replace hp := Lib.hid hp
    go_upto_region 2 with fail
    go_quiet (fail)
    go_wp2_with fail
    go_ret
    exact ⟨congrArg (fun z => Ending.returned (.int .u32 z)) (four_bits x0 x1 x2 x3), H', hr', hst.drewN _⟩
  · omega
end Go.Proofs.YtdolbeonpkanpaaGreatDoor
namespace Go.Proofs.YtdolbeonpkanpaaGreatDoor
open Go.RowKit
attribute [local go_sem ↓] Go.wp_at_zero Go.wp_at_succ

def RnumRel (b : Nat) (l : List UInt8) (R : World → Prop) (H0 : Heaplet) (w : World) (v3 v4 : Value) (wr : World) : Prop :=
  ∃ (i : Nat) (z : Int) (r : List UInt8) (H : Heaplet), v4 = iv i ∧ i ≤ 10 ∧ v3 = .int .u64 z ∧ (i < 10 → ∃ u : Nat, z = (u : Int) ∧ u < 128 ^ i ∧ rdVar (10 - i) i u r = rdVar 10 0 0 l) ∧ (i = 10 → rdVar 10 0 0 l = (3, 0, [])) ∧ OrRep b r 0 R H ∧ Step w H0 wr H
def RnumPost (b : Nat) (r : Nat × Int × List UInt8) (R : World → Prop) (H : Heaplet) (w : World) (e : Ending) (w' : World) : Prop :=
  e = .returned (ii r.2.1) ∧ ∃ H', OrRep b r.2.2 r.1 R H' ∧ Step w H w' H'
set_option maxHeartbeats 1000000 in
set_option maxRecDepth 100000 in
theorem rrnum_any (b : Nat) (l : List UInt8) (R : World → Prop) (H : Heaplet) (w : World) (h : OrRep b l 0 R H) (hw : Own w H) (hR : ∀ w' H', Step w H w' H' → R w') :
    Calls Tryz.prog 95 #[pt b] w (RnumPost b (rdNum l) R H w) := by
  have hin : Hid (RnumRel b l R H w (u64v 0) (iv 0) w) := ⟨0, 0, l, H, rfl, by omega, rfl, fun _ => ⟨0, rfl, by decide, rfl⟩, fun e => absurd e (by decide), h, Step.refl hw⟩
  replace hR := Lib.hid hR
  clear h hw
  go_enter Tryz.func95, Tryz.ntmps95
  go_wp2_with fail
  go_loopw [3, 4] (fun v3 v4 wr => RnumRel b l R H w v3 v4 wr) (fun _ v _ => 10 - (intOf v).toNat)
  case atStart => exact hin.out
  case round =>
    clear hin
    obtain ⟨i, z, r, H1, rfl, hi, rfl, hlo, hhi, hr, hs⟩ := hrel
    have d0 : (0 : Int) ≤ (i : Int) := by omega
    by_cases hlt : i < 10
    · have d1 : (i : Int) < 10 := by omega
      obtain ⟨u, rfl, hu, hrd⟩ := hlo hlt
      clear hhi hlo
      obtain ⟨f, hf⟩ : ∃ f, 10 - i = f + 1 := ⟨9 - i, by omega⟩
      rw [hf] at hrd
      have hby := Lib.hid (rbyte_any b r 0 R H1 wr hr hs.own (fun w' H' s => hR.out w' H' (hs.trans s)))
      cases r with
      | nil =>
        have e1 : Hid (rdNum l = (2, 0, [])) := by show _ = _; unfold rdNum; rw [← hrd]; rfl
        replace hrd := Lib.hid hrd
        go_wp2_with fail
        refine hby.out.mono ?_
        rintro e w1 ⟨rfl, H', hr', hst⟩
        have hr' : OrRep b [] 2 R H' := hr'
        replace hs := hs.trans hst
        clear hst
        have hrr := Lib.hid hr'
        obtain ⟨a1, c1, _, rfl⟩ := hr'
        obtain ⟨z0, z1⟩ := cells2 hs.own.h0
        go_wp2_with fail
        go_ret
        rw [e1.out]
        exact ⟨rfl, _, hrr.out, hs⟩
      | cons x r =>
        have hby : Hid (Calls Tryz.prog 118 #[pt b] wr fun e w' => e = .returned (.int .u8 (x.toNat : Int)) ∧ ∃ H', OrRep b r 0 R H' ∧ Step wr H1 w' H') := hby
        have hx := UInt8.toNat_lt x
        rw [rdVar] at hrd
        by_cases h128 : x.toNat < 128
        · have d2 : (x.toNat : Int) < 128 := by omega
          by_cases hbad : (i = 9 ∧ 1 < x.toNat) ∨ (0 < i ∧ x.toNat = 0)
          · rw [if_pos hbad] at hrd
            have e1 : Hid (rdNum l = (3, 0, [])) := by show _ = _; unfold rdNum; rw [← hrd]; rfl
            have hstop : ((((i : Int) == 9) = true ∧ (1 : Int) < (x.toNat : Int)) ∨ (((i : Int) == 9) = true ∧ (x.toNat : Int) ≤ 1 ∧ (0 : Int) < (i : Int) ∧ ((x.toNat : Int) == 0) = true) ∨ (((i : Int) == 9) = false ∧ (0 : Int) < (i : Int) ∧ ((x.toNat : Int) == 0) = true)) := by
              rcases hbad with ⟨h, h'⟩ | ⟨h, h'⟩
              · exact .inl ⟨beq_iff_eq.2 (by omega), by omega⟩
              · by_cases h9 : i = 9
                · exact .inr (.inl ⟨beq_iff_eq.2 (by omega), by omega, by omega, beq_iff_eq.2 (by omega)⟩)
                · exact .inr (.inr ⟨beq_eq_false_iff_ne.2 (by omega), by omega, beq_iff_eq.2 (by omega)⟩)
            clear hbad hx h128
            replace hrd := Lib.hid hrd
            go_upto_region 6 with fail
            refine hby.out.mono ?_
            rintro e w1 ⟨rfl, H', hr', hst⟩
            have hr' : OrRep b r 0 R H' := hr'
            replace hs := hs.trans hst
            clear hst
            obtain ⟨a1, c1, _, rfl⟩ := hr'
            obtain ⟨z0, z1⟩ := cells2 hs.own.h0
            have b0 := heap_lt hs.own.h0
            have fz := fun i => frz_of (i := i) hs.own.h0
            rcases hstop with ⟨e9, ex⟩ | ⟨e9, ex, e0, ey⟩ | ⟨e9, e0, ey⟩
            all_goals (go_wp2_with fail; go_ret; rw [e1.out]; exact ⟨rfl, _, ⟨none, 0, inB_nil _, rfl⟩, (hs.store0 (.int .i64 3) (i := 1)).store0 (.slice none 0 0) (i := 0)⟩)
          · rw [if_neg hbad, if_pos h128] at hrd
            obtain ⟨q1, q2⟩ := num_bits x hlt (by omega) hu
            have hstop : ((((i : Int) == 9) = true ∧ (x.toNat : Int) ≤ 1 ∧ (0 : Int) < (i : Int) ∧ ((x.toNat : Int) == 0) = false) ∨ (((i : Int) == 9) = false ∧ (0 : Int) < (i : Int) ∧ ((x.toNat : Int) == 0) = false) ∨ (((i : Int) == 9) = false ∧ (i : Int) ≤ 0)) := by
              rcases Nat.eq_zero_or_pos i with e | e
              · exact .inr (.inr ⟨beq_eq_false_iff_ne.2 (by omega), by omega⟩)
              · by_cases h9 : i = 9
                · exact .inl ⟨beq_iff_eq.2 (by omega), by omega, by omega, beq_eq_false_iff_ne.2 (by omega)⟩
                · exact .inr (.inl ⟨beq_eq_false_iff_ne.2 (by omega), by omega, beq_eq_false_iff_ne.2 (by omega)⟩)
            obtain ⟨v, hv⟩ : ∃ v, v = u + x.toNat % 128 * 128 ^ i := ⟨_, rfl⟩
            rw [← hv] at q1 q2
            have hm : x.toNat % 128 = x.toNat := Nat.mod_eq_of_lt h128
            rw [hm] at hv
            rw [← hv] at hrd
            have e1 : Hid (rdNum l = (0, zag v, r)) := by show _ = _; unfold rdNum; rw [← hrd]; rfl
            clear hm hx h128 hbad
            replace hv := Lib.hid hv
            replace hrd := Lib.hid hrd
            replace hu := Lib.hid hu
            go_upto_region 6 with fail
            refine hby.out.mono ?_
            rintro e w1 ⟨rfl, H', hr', hst⟩
            have hr' : OrRep b r 0 R H' := hr'
            replace hs := hs.trans hst
            clear hst
            have hrr := Lib.hid hr'
            obtain ⟨a1, c1, _, rfl⟩ := hr'
            obtain ⟨z0, z1⟩ := cells2 hs.own.h0
            rcases hstop with ⟨e9, ex, e0, ey⟩ | ⟨e9, e0, ey⟩ | ⟨e9, e0⟩
            all_goals
              go_upto_region 11 with fail
              have q5 : (v : Int).tdiv 2 = ((v / 2 : Nat) : Int) := by rw [Int.tdiv_eq_ediv_of_nonneg (by omega)]; omega
              have q4 : (v : Int).tmod 2 = ((v % 2 : Nat) : Int) := by rw [Int.tmod_eq_emod_of_nonneg (by omega)]; omega
              have q6 : ((v / 2 : Nat) : Int) < 9223372036854775808 := by omega
              have hzag : Hid (zag v = if v % 2 = 0 then ((v / 2 : Nat) : Int) else -((v / 2 : Nat) : Int) - 1) := rfl
              generalize v / 2 = y at hzag q5 q6
              rcases Nat.mod_two_eq_zero_or_one v with e | e
              · rw [e] at q4 hzag
                replace e := Lib.hid e
                go_wp2_with fail
                go_ret
                rw [e1.out, hzag.out]
                exact ⟨rfl, _, hrr.out, hs⟩
              · rw [e] at q4 hzag
                replace e := Lib.hid e
                go_wp2_with fail
                go_ret
                rw [e1.out, hzag.out]
                exact ⟨rfl, _, hrr.out, hs⟩
        · have d2 : (127 : Int) < (x.toNat : Int) := by omega
          by_cases h9 : i = 9
          · rw [if_pos (.inl ⟨h9, by omega⟩)] at hrd
            have e1 : Hid (rdVar 10 0 0 l = (3, 0, [])) := Lib.hid hrd.symm
            have d9 : (i : Int) = 9 := by omega
            replace hrd := Lib.hid hrd
            replace h9 := Lib.hid h9
            replace hu := Lib.hid hu
            clear hx h128
            go_upto_region 6 with fail
            refine hby.out.mono ?_
            rintro e w1 ⟨rfl, H', hr', hst⟩
            replace hs := hs.trans hst
            clear hst
            have hrr := Lib.hid hr'
            obtain ⟨a1, c1, _, rfl⟩ := hr'
            obtain ⟨z0, z1⟩ := cells2 hs.own.h0
            clear d9
            go_wp2_with fail
            refine ⟨⟨i + 1, _, r, _, by go_num, by omega, rfl, fun h => ?_, fun _ => e1.out, hrr.out, hs⟩, by simp [intOf]; omega⟩
            have := h9.out
            omega
          · rw [if_neg (by rintro (⟨h, _⟩ | ⟨_, h⟩) <;> omega), if_neg h128] at hrd
            obtain ⟨q1, q2⟩ := num_bits x hlt (by omega) hu
            have hu2 : x.toNat % 128 * 128 ^ i + u < 128 ^ (i + 1) := by
              rw [Nat.pow_succ]
              have : x.toNat % 128 + 1 ≤ 128 := Nat.mod_lt _ (by decide)
              have := Nat.mul_le_mul_right (128 ^ i) this
              rw [Nat.add_mul, Nat.one_mul] at this
              rw [Nat.mul_comm (128 ^ i)]
              omega
            rw [Nat.add_comm] at hu2
            obtain ⟨v, hv⟩ : ∃ v, v = u + x.toNat % 128 * 128 ^ i := ⟨_, rfl⟩
            rw [← hv] at q1 q2 hu2 hrd
            have hrd2 : Hid (rdVar (10 - (i + 1)) (i + 1) v r = rdVar 10 0 0 l) := by show _ = _; rw [← hrd]; congr 1; omega
            replace hv := Lib.hid hv
            replace hrd := Lib.hid hrd
            replace hu := Lib.hid hu
            replace hu2 := Lib.hid hu2
            clear hx h128
            go_upto_region 6 with fail
            refine hby.out.mono ?_
            rintro e w1 ⟨rfl, H', hr', hst⟩
            replace hs := hs.trans hst
            clear hst
            have hrr := Lib.hid hr'
            obtain ⟨a1, c1, _, rfl⟩ := hr'
            obtain ⟨z0, z1⟩ := cells2 hs.own.h0
            go_wp2_with fail
            refine ⟨⟨i + 1, (v : Int), r, _, by go_num, hlt, by first | rfl | go_num, fun _ => ⟨v, rfl, hu2.out, hrd2.out⟩, fun h => ?_, hrr.out, hs⟩, by simp [intOf]; omega⟩
            omega
    · have d1 : (10 : Int) ≤ (i : Int) := by omega
      obtain rfl : i = 10 := by omega
      have e1 : Hid (rdNum l = (3, 0, [])) := by show _ = _; unfold rdNum; rw [hhi rfl]; rfl
      clear hlo hhi
      obtain ⟨a1, c1, _, rfl⟩ := hr
      obtain ⟨z0, z1⟩ := cells2 hs.own.h0
      have b0 := heap_lt hs.own.h0
      have fz := fun i => frz_of (i := i) hs.own.h0
      go_wp2_with fail
      go_ret
      rw [e1.out]
      exact ⟨rfl, _, ⟨none, 0, inB_nil _, rfl⟩, (hs.store0 (.int .i64 3) (i := 1)).store0 (.slice none 0 0) (i := 0)⟩
end Go.Proofs.YtdolbeonpkanpaaGreatDoor
