/- The program's Reader: Num. The reference's octets: Sum, Four, Num. The program's frames: laid, headOf, Encode. -/
import Derived.Test.YtdolbeonpkanpaaGreatDoorMDkU
set_option linter.unusedVariables false
set_option linter.unusedSimpArgs false
namespace Go.Proofs.YtdolbeonpkanpaaGreatDoor
open Go.RowKit
attribute [local go_sem ↓] Go.wp_at_zero Go.wp_at_succ

theorem num_bits (x : UInt8) {i u : Nat} (hi : i < 10) (h9 : i = 9 → x.toNat ≤ 1) (hu : u < 128 ^ i) : bits .or .u64 (u : Int) (IntKind.u64.wrap (IntKind.u64.wrap (bits .and .u8 (x.toNat : Int) 127) * 2 ^ (7 * i))) = ((u + x.toNat % 128 * 128 ^ i : Nat) : Int) ∧ u + x.toNat % 128 * 128 ^ i < 18446744073709551616 := by
  have hx := UInt8.toNat_lt x
  have e : (128 : Nat) ^ i = 2 ^ (7 * i) := by rw [Nat.pow_mul]
  have e0 : bits .and .u8 (x.toNat : Int) 127 = ((x.toNat % 128 : Nat) : Int) := by
    rw [show (127 : Int) = ((127 : Nat) : Int) from rfl, u8_and_nat _ _ hx (by decide)]
    congr 1
    exact Nat.and_two_pow_sub_one_eq_mod x.toNat 7
  have ew : ∀ x : Int, IntKind.u64.wrap x = x % 18446744073709551616 := fun x => by simp [IntKind.wrap, IntKind.bits, IntKind.signed]
  rw [e0, ew, ew]
  have e1 : (((x.toNat % 128 : Nat) : Int) % 18446744073709551616 * 2 ^ (7 * i) % 18446744073709551616) = ((x.toNat % 128 * 2 ^ (7 * i) : Nat) : Int) ∧ u < 18446744073709551616 ∧ x.toNat % 128 * 2 ^ (7 * i) < 18446744073709551616 ∧ u + x.toNat % 128 * 2 ^ (7 * i) < 18446744073709551616 := by
    have h4 : i = 0 ∨ i = 1 ∨ i = 2 ∨ i = 3 ∨ i = 4 ∨ i = 5 ∨ i = 6 ∨ i = 7 ∨ i = 8 ∨ i = 9 := by omega
    clear e e0
    generalize x.toNat = z at hx h9 ⊢
    rcases h4 with rfl | rfl | rfl | rfl | rfl | rfl | rfl | rfl | rfl | rfl <;> simp at hu h9 ⊢ <;> omega
  obtain ⟨e1, h1, h2, h3⟩ := e1
  rw [e1, u64_or_nat _ _ h1 h2, e]
  rw [e] at hu
  rw [or_add _ hu]
  exact ⟨rfl, h3⟩
theorem zag_bits {u : Nat} (h : u < 18446744073709551616) : bits .xor .i64 ((u : Int) / 2) (wrap64 (-wrap64 (bits .and .u64 (u : Int) 1))) = zag u := by
  have e1 : bits .and .u64 (u : Int) 1 = ((u % 2 : Nat) : Int) := by
    rw [show (1 : Int) = ((1 : Nat) : Int) from rfl, u64_and_nat _ _ h (by decide), Nat.and_one_is_mod]
  have e5 : (u : Int) / 2 = ((u / 2 : Nat) : Int) := by omega
  have e6 : wrap64 ((u % 2 : Nat) : Int) = ((u % 2 : Nat) : Int) := by unfold wrap64; omega
  rw [e1, e5, e6]
  unfold zag
  have hu : u / 2 < 9223372036854775808 := by omega
  generalize u / 2 = y at hu
  rcases Nat.mod_two_eq_zero_or_one u with e | e
  · rw [e, if_pos rfl]
    show IntKind.i64.wrap ((BitVec.ofInt 64 (y : Int) ^^^ BitVec.ofInt 64 (wrap64 (-((0 : Nat) : Int)))).toNat : Int) = _
    have e2 : BitVec.ofInt 64 (wrap64 (-((0 : Nat) : Int))) = 0#64 := by decide +kernel
    rw [e2, BitVec.xor_zero, BitVec.ofInt_natCast, BitVec.toNat_ofNat, Nat.mod_eq_of_lt (by omega), IntWalk.i64_in _ (by omega)]
  · rw [e, if_neg (by decide)]
    show IntKind.i64.wrap ((BitVec.ofInt 64 (y : Int) ^^^ BitVec.ofInt 64 (wrap64 (-((1 : Nat) : Int)))).toNat : Int) = _
    have e2 : BitVec.ofInt 64 (wrap64 (-((1 : Nat) : Int))) = BitVec.allOnes 64 := by decide +kernel
    rw [e2, BitVec.xor_allOnes, BitVec.toNat_not, BitVec.ofInt_natCast, BitVec.toNat_ofNat, Nat.mod_eq_of_lt (by omega)]
    have e3 : ((2 ^ 64 - 1 - y : Nat) : Int) = 18446744073709551615 - (y : Int) := by omega
    rw [e3]
    simp only [IntKind.wrap, IntKind.bits, IntKind.signed]
    simp
    omega
def NumRel (b : Nat) (l : List UInt8) (G : Heaplet) (w0 : World) (v3 v7 : Value) (wr : World) : Prop :=
  ∃ (i u : Nat) (r : List UInt8) (H : Heaplet), v7 = iv i ∧ i ≤ 10 ∧ v3 = u64v u ∧ u < 128 ^ i ∧ rdVar (10 - i) i u r = rdVar 10 0 0 l ∧ OcRep b r 0 G H ∧ Sp w0 [] wr [G, H]
def NumPost (b : Nat) (r : Nat × Int × List UInt8) (G : Heaplet) (w0 : World) (e : Ending) (w' : World) : Prop :=
  e = .returned (ii r.2.1) ∧ ∃ H, OcRep b r.2.2 r.1 G H ∧ Sp w0 [] w' [G, H]
set_option maxRecDepth 100000 in
theorem rnum_any (b : Nat) (l : List UInt8) (G H : Heaplet) (w0 w : World) (h : OcRep b l 0 G H) (s : Sp w0 [] w [G, H]) :
    Calls Tryz.prog 90 #[pt b] w (NumPost b (rdNum l) G w0) := by
  have hin : Hid (NumRel b l G w0 (u64v 0) (iv 0) w) := ⟨0, 0, l, H, rfl, by omega, rfl, by decide, rfl, h, s⟩
  clear h s
  go_enter Tryz.func90, Tryz.ntmps90
  go_wp2_with fail
  go_loopw [3, 7] (fun v3 v7 wr => NumRel b l G w0 v3 v7 wr) (fun _ v _ => 10 - (intOf v).toNat)
  case atStart => exact hin.out
  case round =>
    clear hin
    obtain ⟨i, u, r, H, rfl, hi, rfl, hu, hrd, hr, s⟩ := hrel
    have d0 : (0 : Int) ≤ (i : Int) := by omega
    by_cases hlt : i < 10
    · have d1 : (i : Int) < 10 := by omega
      obtain ⟨f, hf⟩ : ∃ f, 10 - i = f + 1 := ⟨9 - i, by omega⟩
      rw [hf] at hrd
      go_wp2_with fail
      refine (take_any b r 0 1 G H wr hr (s.own 1 rfl) (by decide)).mono ?_
      rintro e w1 (⟨_, h1, a, c, H', rfl, hin, hr', hst⟩ | ⟨_, h1, H', rfl, hr', hst⟩ | ⟨h1, _⟩)
      · match r, h1 with
        | x :: r, _ =>
          have s : Sp w0 [] w1 [G, H'] := s.put 1 rfl hst
          have hb := hin.1 w1 (s.own 0 rfl)
          obtain ⟨bg, og, rfl, hgc, _, hc⟩ := hb.place (by simp)
          have hc0 := hc 0 (by simp)
          simp only [List.take_succ_cons, List.getElem_cons_zero, Nat.add_zero] at hc0
          have hgc' : (1 : Int) ≤ (c : Int) := by have : 1 ≤ c := (by simpa using hgc); omega
          have hx := UInt8.toNat_lt x
          rw [rdVar] at hrd
          clear hc hgc hb hin hst
          have hr' : OcRep b r 0 G H' := hr'
          have hfl := Lib.hid (fail_any b r 0 3 G H' w1 hr' (s.own 1 rfl))
          by_cases hbad : (i = 9 ∧ 1 < x.toNat) ∨ (0 < i ∧ x.toNat = 0)
          · rw [if_pos hbad] at hrd
            have e1 : Hid (rdNum l = (3, 0, [])) := by show _ = _; unfold rdNum; rw [← hrd]; rfl
            replace hrd := Lib.hid hrd
            replace hr' := Lib.hid hr'
            rcases hbad with ⟨rfl, hx1⟩ | ⟨hi0, hx0⟩
            · have q1 : (1 : Int) < (x.toNat : Int) := by omega
              go_wp2_with fail
              refine hfl.out.mono ?_
              rintro e w1 ⟨rfl, H', hr', hst⟩
              go_wp2_with fail
              go_ret
              rw [e1.out]
              exact ⟨rfl, H', hr', s.put 1 rfl hst⟩
            · have hc0 : w1.cell? ⟨bg, og, none⟩ = some (.int .u8 (x.toNat : Int)) := hc0
              rw [hx0] at hc0
              have q1 : (0 : Int) < (i : Int) := by omega
              by_cases h9 : i = 9
              · subst h9
                go_wp2_with fail
                refine hfl.out.mono ?_
                rintro e w1 ⟨rfl, H', hr', hst⟩
                go_wp2_with fail
                go_ret
                rw [e1.out]
                exact ⟨rfl, H', hr', s.put 1 rfl hst⟩
              · have q2 : ((i : Int) == 9) = false := beq_eq_false_iff_ne.2 (by omega)
                clear h9
                go_wp2_with fail
                refine hfl.out.mono ?_
                rintro e w1 ⟨rfl, H', hr', hst⟩
                go_wp2_with fail
                go_ret
                rw [e1.out]
                exact ⟨rfl, H', hr', s.put 1 rfl hst⟩
          · rw [if_neg hbad] at hrd
            obtain ⟨q1, q2⟩ := num_bits x hlt (by omega) hu
            have hstop : ((((i : Int) == 9) = true ∧ (x.toNat : Int) ≤ 1 ∧ (0 : Int) < (i : Int) ∧ ((x.toNat : Int) == 0) = false) ∨ (((i : Int) == 9) = false ∧ (0 : Int) < (i : Int) ∧ ((x.toNat : Int) == 0) = false) ∨ (((i : Int) == 9) = false ∧ (i : Int) ≤ 0)) := by
              rcases Nat.eq_zero_or_pos i with e | e
              · exact .inr (.inr ⟨beq_eq_false_iff_ne.2 (by omega), by omega⟩)
              · by_cases h9 : i = 9
                · exact .inl ⟨beq_iff_eq.2 (by omega), by omega, by omega, beq_eq_false_iff_ne.2 (by omega)⟩
                · exact .inr (.inl ⟨beq_eq_false_iff_ne.2 (by omega), by omega, beq_eq_false_iff_ne.2 (by omega)⟩)
            replace hfl := Lib.hid hfl
            clear hbad
            have hu2 : x.toNat % 128 * 128 ^ i + u < 128 ^ (i + 1) := by
              rw [Nat.pow_succ]
              have : x.toNat % 128 + 1 ≤ 128 := Nat.mod_lt _ (by decide)
              have := Nat.mul_le_mul_right (128 ^ i) this
              rw [Nat.add_mul, Nat.one_mul] at this
              rw [Nat.mul_comm (128 ^ i)]
              omega
            rw [Nat.add_comm] at hu2
            obtain ⟨v, hv⟩ : ∃ v, v = u + x.toNat % 128 * 128 ^ i := ⟨_, rfl⟩
            rw [← hv] at q1 q2 hu2
            have q3 := zag_bits q2
            by_cases h128 : x.toNat < 128
            · have hm : x.toNat % 128 = x.toNat := Nat.mod_eq_of_lt h128
              rw [hm] at hv
              rw [if_pos h128, ← hv] at hrd
              have e1 : Hid (rdNum l = (0, zag v, r)) := by show _ = _; unfold rdNum; rw [← hrd]; rfl
              have d2 : (x.toNat : Int) < 128 := by omega
              clear hm hx h128
              replace hv := Lib.hid hv
              replace hrd := Lib.hid hrd
              replace hr' := Lib.hid hr'
              replace hu := Lib.hid hu
              replace hu2 := Lib.hid hu2
              rcases hstop with ⟨e9, ex, e0, ey⟩ | ⟨e9, e0, ey⟩ | ⟨e9, e0⟩
              all_goals (go_wp2_with fail; go_ret; rw [e1.out]; exact ⟨rfl, H', hr'.out, s⟩)
            · rw [if_neg h128] at hrd
              have hi9 : ¬ i = 9 := by
                rintro rfl
                rcases hstop with ⟨_, e, _⟩ | ⟨e, _⟩ | ⟨e, _⟩
                · omega
                · exact absurd e (by decide)
                · exact absurd e (by decide)
              have d2 : (128 : Int) ≤ (x.toNat : Int) := by omega
              rw [← hv] at hrd
              have hrd2 : Hid (rdVar (10 - (i + 1)) (i + 1) v r = rdVar 10 0 0 l) := by show _ = _; rw [← hrd]; congr 1 <;> omega
              clear hx h128 q3
              replace hv := Lib.hid hv
              replace hrd := Lib.hid hrd
              replace hr' := Lib.hid hr'
              replace hu := Lib.hid hu
              replace hu2 := Lib.hid hu2
              rcases hstop with ⟨e9, ex, e0, ey⟩ | ⟨e9, e0, ey⟩ | ⟨e9, e0⟩
              all_goals (go_wp2_with fail; try exact ⟨⟨i + 1, v, r, H', by go_num, hlt, by first | rfl | go_num, hu2.out, hrd2.out, hr'.out, s⟩, by simp [intOf]; omega⟩)
      · obtain rfl : r = [] := List.eq_nil_of_length_eq_zero (by omega)
        have s : Sp w0 [] w1 [G, H'] := s.put 1 rfl hst
        go_wp2_with fail
        go_ret
        have e1 : rdNum l = (2, 0, []) := by unfold rdNum; rw [← hrd]; rfl
        rw [e1]
        exact ⟨rfl, H', hr', s⟩
      · exact absurd rfl h1
    · have d1 : (10 : Int) ≤ (i : Int) := by omega
      obtain rfl : i = 10 := by omega
      have hfl := Lib.hid (fail_any b r 0 3 G H wr hr (s.own 1 rfl))
      go_wp2_with fail
      refine hfl.out.mono ?_
      rintro e w1 ⟨rfl, H', hr', hst⟩
      go_wp2_with fail
      go_ret
      have e1 : rdNum l = (3, 0, []) := by unfold rdNum; rw [← hrd]; rfl
      rw [e1]
      exact ⟨rfl, H', hr', s.put 1 rfl hst⟩
end Go.Proofs.YtdolbeonpkanpaaGreatDoor
namespace Go.Proofs.YtdolbeonpkanpaaGreatDoor
open Go.RowKit
attribute [local go_sem ↓] Go.wp_at_zero Go.wp_at_succ

theorem crc_odd {y : Nat} (h : y < 4294967296) (e : y % 2 = 1) : bits .xor .u32 ((y : Int) / 2) 2197175160 = (crcS y : Int) := by
  have e3 : ((y : Int) / 2) = ((y / 2 : Nat) : Int) := by omega
  rw [e3, show (2197175160 : Int) = ((2197175160 : Nat) : Int) from rfl, u32_xor_nat _ _ (by omega) (by decide)]
  unfold crcS
  rw [if_pos e]
theorem crc_even {y : Nat} (e : y % 2 = 0) : (y : Int) / 2 = (crcS y : Int) := by
  unfold crcS
  rw [if_neg (by omega), Nat.xor_zero]
  omega
set_option maxRecDepth 100000 in
theorem rsum_any (a : Option Addr) (n c : Nat) (l : List UInt8) (w : World) (h : RdBytes w a n c l) (hl : l.length ≤ 140737488355328) :
    Calls Tryz.prog 83 #[.slice a n c] w fun e w' => e = .returned (u32v (crcN l)) ∧ Step w [] w' [] := by
  have hn := h.1
  subst hn
  have b1 : (l.length : Int) ≤ 140737488355328 := by omega
  replace h := Lib.hid h
  go_enter Tryz.func83, Tryz.ntmps83
  go_wp2
  go_loop [3, 4] (fun v3 v8 => SumRel l v3 v8) (fun _ v => l.length - (intOf v).toNat)
  case atStart => exact ⟨0, Nat.zero_le _, rfl, rfl⟩
  case round =>
    obtain ⟨i, hi, rfl, rfl⟩ := hrel
    have d0 : (0 : Int) ≤ (i : Int) := by omega
    by_cases hlt : i < l.length
    · have d2 : (i : Int) < (l.length : Int) := by omega
      obtain ⟨b, off, rfl, _, _, hc⟩ := h.out.place (by intro e; subst e; simp at hlt)
      have hci := hc i hlt
      have hs := crcL_snoc 4294967295 hlt
      have ht := crcL_lt (c := 4294967295) (by decide) (l.take i)
      generalize crcL 4294967295 (l.take i) = c at hs ht
      generalize l[i]'hlt = x at hs hci
      have hx := crcX_lt ht x
      have q1 : bits .xor .u32 (c : Int) ((x.toNat : Int) % 4294967296) = ((c ^^^ x.toNat : Nat) : Int) := by
        have e : ((x.toNat : Int) % 4294967296) = (x.toNat : Int) := by have := UInt8.toNat_lt x; omega
        rw [e, u32_xor_nat _ _ ht (by have := UInt8.toNat_lt x; omega)]
      clear hc
      replace hs := Lib.hid hs
      generalize c ^^^ x.toNat = c0 at hx hs q1
      replace ht := Lib.hid ht
      go_upto_region 6 with fail
      go_wp2_with fail
      go_loop [3, 5] (fun v3 v16 => SumIn c0 v3 v16) (fun _ v => 8 - (intOf v).toNat)
      case atStart => exact ⟨0, Nat.zero_le _, rfl, rfl⟩
      case round =>
        obtain ⟨k, hk, rfl, rfl⟩ := hrel
        have d4 : (0 : Int) ≤ (k : Int) := by omega
        by_cases hlt8 : k < 8
        · have d5 : (k : Int) < 8 := by omega
          have hy := crcK_lt hx k
          have hz : Hid (crcS (crcK k c0) = crcK (k + 1) c0) := rfl
          generalize crcK k c0 = y at hy hz
          have q3 : bits .and .u32 (y : Int) 1 = ((y % 2 : Nat) : Int) := by
            rw [show (1 : Int) = ((1 : Nat) : Int) from rfl, u32_and_nat _ _ hy (by decide), Nat.and_one_is_mod]
          rcases Nat.mod_two_eq_zero_or_one y with e | e
          · have q2 := crc_even e
            rw [e] at q3
            replace e := Lib.hid e
            go_wp2
            exact ⟨⟨k + 1, hlt8, by go_num, by rw [hz.out]⟩, by simp [intOf]; omega⟩
          · have q2 := crc_odd hy e
            rw [e] at q3
            replace e := Lib.hid e
            go_wp2
            exact ⟨⟨k + 1, hlt8, by go_num, by rw [hz.out]⟩, by simp [intOf]; omega⟩
        · have d5 : (8 : Int) ≤ (k : Int) := by omega
          obtain rfl : k = 8 := by omega
          go_wp2
          exact ⟨⟨i + 1, hlt, by go_num, by rw [hs.out]⟩, by simp [intOf]; omega⟩
    · have d2 : (l.length : Int) ≤ (i : Int) := by omega
      have hs := crcL_all 4294967295 (l := l) (i := i) (by omega)
      have ht := crcL_lt (c := 4294967295) (by decide) l
      have q2 := crc_not ht
      rw [hs]
      go_wp2
      go_ret
      exact ⟨rfl, Step.refl (Own.nil _)⟩
set_option maxRecDepth 100000 in
theorem rf4_any (n : Nat) (w : World) : Calls Tryz.prog 82 #[u32v n] w (ClonePost w (le4 n)) := by
  have hc := le4_cells n
  go_enter Tryz.func82, Tryz.ntmps82
  go_wp2_with fail
  go_ret
  have s := (Step.refl (Own.nil w)).alloc (.cells ((le4 n).map u8).toArray 5)
  rw [← hc] at s
  refine ⟨_, 4, _, rfl, ⟨rfl, .inr ⟨_, _, rfl, rfl, Nat.le_refl _, by decide, rfl, ?_⟩⟩, s⟩
  rw [hc]
  rfl
def RnRel (v : Nat) (w : World) (v3 v4 : Value) (wr : World) : Prop :=
  ∃ (u : Nat) (l1 : List UInt8) (a : Option Addr) (c : Nat) (G : Heaplet), v3 = u64v u ∧ u < 18446744073709551616 ∧ l1 ++ var u = var v ∧ v4 = .slice a l1.length c ∧ SlRep 5 1 a l1.length c (l1.map u8) G ∧ Step w [] wr G
set_option maxRecDepth 100000 in
theorem rnb_any (v : Int) (w : World) (h1 : -9223372036854775808 ≤ v) (h2 : v ≤ 9223372036854775807) : Calls Tryz.prog 47 #[ii v] w (ClonePost w (numB v)) := by
  have hz := zig_lt h1 h2
  have hll := zig_len h1 h2
  unfold numB at hll ⊢
  obtain ⟨z, hze⟩ : ∃ z, z = zig v := ⟨_, rfl⟩
  rw [← hze] at hz hll ⊢
  have hin : Hid (RnRel z w (u64v z) (.slice none 0 0) w) := ⟨_, [], none, 0, [], rfl, hz, rfl, rfl, SlRep.nil _ _, Step.refl (Own.nil _)⟩
  by_cases h0 : 0 ≤ v
  · have h3 : ¬ v < 0 := by omega
    have hzi : Hid (2 * v = (z : Int)) := by show _ = _; rw [hze]; unfold zig; rw [if_pos h0]; omega
    replace hze := Lib.hid hze
    go_enter Tryz.func47, Tryz.ntmps47
    go_wp2_with fail
    rw [hzi.out]
    go_loopw [3, 4] (fun v3 v4 wr => RnRel z w v3 v4 wr) (fun v _ _ => (intOf v).toNat)
    case atStart => exact hin.out
    case round =>
      clear hin
      obtain ⟨u, l1, a1, c1, G1, rfl, hu, hvar, rfl, hr, hs⟩ := hrel
      have hl1 : l1.length ≤ 10 := by have := congrArg List.length hvar; rw [List.length_append] at this; omega
      by_cases h128 : 128 ≤ u
      · have d1 : (128 : Int) ≤ (u : Int) := by omega
        have q0 : bits .and .u64 (u : Int) 127 = ((u % 128 : Nat) : Int) := by
          rw [show (127 : Int) = ((127 : Nat) : Int) from rfl, u64_and_nat _ _ hu (by decide)]
          congr 1
          exact Nat.and_two_pow_sub_one_eq_mod u 7
        have q1 : bits .or .u8 ((u : Int) % 128) 128 = ((u % 128 + 128 : Nat) : Int) := by
          have e1 : (u : Int) % 128 = ((u % 128 : Nat) : Int) % 256 := by omega
          rw [e1, low7]
          congr 1
          omega
        have hv2 : Hid ((l1 ++ [UInt8.ofNat (u % 128 + 128)]) ++ var (u / 128) = var z) := by
          show _ = _
          rw [← hvar, var_big h128]; simp
        have hu2 : u / 128 < u := by omega
        have hu3 : u / 128 < 18446744073709551616 := by omega
        have e2 : (u : Int) / 128 = ((u / 128 : Nat) : Int) := by omega
        have hcell : Value.int .u8 ((u % 128 + 128 : Nat) : Int) = u8 (UInt8.ofNat (u % 128 + 128)) := by simp [Go.Proofs.YtdolbeonpkanpaaGreatDoor.u8, UInt8.toNat_ofNat']; omega
        have hq : Hid (u % 128 + 128 < 256) := by show _ < _; omega
        generalize u % 128 + 128 = y at hv2 hcell q1 hq
        obtain ⟨u2, hh⟩ : ∃ u2, u2 = u / 128 := ⟨_, rfl⟩
        rw [← hh] at hv2 hu2 hu3 e2
        replace hh := Lib.hid hh
        replace hvar := Lib.hid hvar
        replace hr := Lib.hid hr
        replace hcell := Lib.hid hcell
        have s1 : Sp w [] _ [G1, [(wr.heap.size, .cells #[.int .u8 (y : Int)] 5 (0, 0))]] := (Sp.of hs).alloc _
        go_wp2_with (at_builtin; refine wpList_app rfl st_u8 _ _ rfl (by rfl) (by rfl) hr.out (s1.own 0 rfl) (rdCells_block (heap_alloc_new _ _) rfl (by simp [Value.oneCell'])) (by unfold maxLen; omega) (by omega) ?_; intro a4 c4 w4 H4 hr4 hst4; have s4 : Sp w [] w4 [H4, [(wr.heap.size, .cells #[.int .u8 (y : Int)] 5 (0, 0))]] := s1.put 0 rfl hst4; replace hr4 := Lib.hid hr4)
        refine ⟨⟨u2, l1 ++ [UInt8.ofNat y], a4, c4, H4, by first | rfl | go_num, hu3, hv2.out, by rw [List.length_append]; rfl, ?_, s4.first⟩, by simp [intOf]; omega⟩
        have := hr4.out
        rw [hcell.out] at this
        rw [List.length_append, List.map_append]
        exact this
      · have d1 : (u : Int) < 128 := by omega
        have hcell : Value.int .u8 (u : Int) = u8 (UInt8.ofNat u) := by simp [Go.Proofs.YtdolbeonpkanpaaGreatDoor.u8, UInt8.toNat_ofNat']; omega
        have hv2 : Hid (l1 ++ [UInt8.ofNat u] = var z) := by show _ = _; rw [← hvar, var_small (by omega)]
        replace hvar := Lib.hid hvar
        replace hr := Lib.hid hr
        replace hcell := Lib.hid hcell
        have s1 : Sp w [] _ [G1, [(wr.heap.size, .cells #[.int .u8 (u : Int)] 5 (0, 0))]] := (Sp.of hs).alloc _
        go_wp2_with (at_builtin; refine wpList_app rfl st_u8 _ _ rfl (by rfl) (by rfl) hr.out (s1.own 0 rfl) (rdCells_block (heap_alloc_new _ _) rfl (by simp [Value.oneCell'])) (by unfold maxLen; omega) (by omega) ?_; intro a4 c4 w4 H4 hr4 hst4; have s4 : Sp w [] w4 [H4, [(wr.heap.size, .cells #[.int .u8 (u : Int)] 5 (0, 0))]] := s1.put 0 rfl hst4; replace hr4 := Lib.hid hr4)
        go_ret
        rw [← hv2.out]
        refine ⟨a4, c4, H4, by rw [List.length_append]; rfl, ?_, s4.first⟩
        have := hr4.out
        rw [hcell.out] at this
        rw [List.length_append, List.map_append]
        exact this
  · have h3 : v < 0 := by omega
    have hzi : Hid (2 * -(v + 1) + 1 = (z : Int)) := by show _ = _; rw [hze]; unfold zig; rw [if_neg h0]; omega
    replace hze := Lib.hid hze
    go_enter Tryz.func47, Tryz.ntmps47
    go_wp2_with fail
    rw [hzi.out]
    go_loopw [3, 4] (fun v3 v4 wr => RnRel z w v3 v4 wr) (fun v _ _ => (intOf v).toNat)
    case atStart => exact hin.out
    case round =>
      clear hin
      obtain ⟨u, l1, a1, c1, G1, rfl, hu, hvar, rfl, hr, hs⟩ := hrel
      have hl1 : l1.length ≤ 10 := by have := congrArg List.length hvar; rw [List.length_append] at this; omega
      by_cases h128 : 128 ≤ u
      · have d1 : (128 : Int) ≤ (u : Int) := by omega
        have q0 : bits .and .u64 (u : Int) 127 = ((u % 128 : Nat) : Int) := by
          rw [show (127 : Int) = ((127 : Nat) : Int) from rfl, u64_and_nat _ _ hu (by decide)]
          congr 1
          exact Nat.and_two_pow_sub_one_eq_mod u 7
        have q1 : bits .or .u8 ((u : Int) % 128) 128 = ((u % 128 + 128 : Nat) : Int) := by
          have e1 : (u : Int) % 128 = ((u % 128 : Nat) : Int) % 256 := by omega
          rw [e1, low7]
          congr 1
          omega
        have hv2 : Hid ((l1 ++ [UInt8.ofNat (u % 128 + 128)]) ++ var (u / 128) = var z) := by
          show _ = _
          rw [← hvar, var_big h128]; simp
        have hu2 : u / 128 < u := by omega
        have hu3 : u / 128 < 18446744073709551616 := by omega
        have e2 : (u : Int) / 128 = ((u / 128 : Nat) : Int) := by omega
        have hcell : Value.int .u8 ((u % 128 + 128 : Nat) : Int) = u8 (UInt8.ofNat (u % 128 + 128)) := by simp [Go.Proofs.YtdolbeonpkanpaaGreatDoor.u8, UInt8.toNat_ofNat']; omega
        have hq : Hid (u % 128 + 128 < 256) := by show _ < _; omega
        generalize u % 128 + 128 = y at hv2 hcell q1 hq
        obtain ⟨u2, hh⟩ : ∃ u2, u2 = u / 128 := ⟨_, rfl⟩
        rw [← hh] at hv2 hu2 hu3 e2
        replace hh := Lib.hid hh
        replace hvar := Lib.hid hvar
        replace hr := Lib.hid hr
        replace hcell := Lib.hid hcell
        have s1 : Sp w [] _ [G1, [(wr.heap.size, .cells #[.int .u8 (y : Int)] 5 (0, 0))]] := (Sp.of hs).alloc _
        go_wp2_with (at_builtin; refine wpList_app rfl st_u8 _ _ rfl (by rfl) (by rfl) hr.out (s1.own 0 rfl) (rdCells_block (heap_alloc_new _ _) rfl (by simp [Value.oneCell'])) (by unfold maxLen; omega) (by omega) ?_; intro a4 c4 w4 H4 hr4 hst4; have s4 : Sp w [] w4 [H4, [(wr.heap.size, .cells #[.int .u8 (y : Int)] 5 (0, 0))]] := s1.put 0 rfl hst4; replace hr4 := Lib.hid hr4)
        refine ⟨⟨u2, l1 ++ [UInt8.ofNat y], a4, c4, H4, by first | rfl | go_num, hu3, hv2.out, by rw [List.length_append]; rfl, ?_, s4.first⟩, by simp [intOf]; omega⟩
        have := hr4.out
        rw [hcell.out] at this
        rw [List.length_append, List.map_append]
        exact this
      · have d1 : (u : Int) < 128 := by omega
        have hcell : Value.int .u8 (u : Int) = u8 (UInt8.ofNat u) := by simp [Go.Proofs.YtdolbeonpkanpaaGreatDoor.u8, UInt8.toNat_ofNat']; omega
        have hv2 : Hid (l1 ++ [UInt8.ofNat u] = var z) := by show _ = _; rw [← hvar, var_small (by omega)]
        replace hvar := Lib.hid hvar
        replace hr := Lib.hid hr
        replace hcell := Lib.hid hcell
        have s1 : Sp w [] _ [G1, [(wr.heap.size, .cells #[.int .u8 (u : Int)] 5 (0, 0))]] := (Sp.of hs).alloc _
        go_wp2_with (at_builtin; refine wpList_app rfl st_u8 _ _ rfl (by rfl) (by rfl) hr.out (s1.own 0 rfl) (rdCells_block (heap_alloc_new _ _) rfl (by simp [Value.oneCell'])) (by unfold maxLen; omega) (by omega) ?_; intro a4 c4 w4 H4 hr4 hst4; have s4 : Sp w [] w4 [H4, [(wr.heap.size, .cells #[.int .u8 (u : Int)] 5 (0, 0))]] := s1.put 0 rfl hst4; replace hr4 := Lib.hid hr4)
        go_ret
        rw [← hv2.out]
        refine ⟨a4, c4, H4, by rw [List.length_append]; rfl, ?_, s4.first⟩
        have := hr4.out
        rw [hcell.out] at this
        rw [List.length_append, List.map_append]
        exact this
end Go.Proofs.YtdolbeonpkanpaaGreatDoor
namespace Go.Proofs.YtdolbeonpkanpaaGreatDoor
open Go.RowKit
attribute [local go_sem ↓] Go.wp_at_zero Go.wp_at_succ

set_option maxRecDepth 100000 in
theorem laid_any (fn : FuncId) (hfn : ∀ (args : Array Value) (w : World), (callFunc fn args).run Tryz.prog w = .ok (.enter fn args) w) (cap : Value) (l : List UInt8) (hl : l.length ≤ 140737488354000) (w : World)
    (hd : ∀ W b H, WrRep b [] H → Step w [] W H → Calls Tryz.prog fn #[pt b, cap] W (WrPost b l H W)) :
    Calls Tryz.prog 76 #[.func (.func fn) #[] #[cap]] w (ClonePost w l) := by
  have s1 := (Step.refl (Own.nil w)).alloc (.cells #[.slice none 0 0] 88)
  have h1 := Lib.hid (hd _ _ _ (wrRep_new w.heap.size) s1)
  clear hd
  go_enter Tryz.func76, Tryz.ntmps76
  go_wp2_with fail
  refine h1.out.mono ?_
  rintro e w1 ⟨rfl, H, hr, hst⟩
  have s := s1.trans hst
  clear s1 hst
  go_wp2_with fail
  refine (wout_any _ l H w1 hr s.own hl).mono ?_
  rintro e w2 ⟨a, c, G, rfl, h3, hst⟩
  go_wp2
  go_ret
  exact ⟨a, c, G, rfl, h3, ((s.call0 hst).perm (List.Perm.refl _) List.perm_append_comm).forget⟩
theorem call_h1 (args : Array Value) (w : World) : (callFunc 99 args).run Tryz.prog w = .ok (.enter 99 args) w := by kernel_rfl
theorem call_h2 (args : Array Value) (w : World) : (callFunc 100 args).run Tryz.prog w = .ok (.enter 100 args) w := by kernel_rfl
theorem call_e1 (args : Array Value) (w : World) : (callFunc 77 args).run Tryz.prog w = .ok (.enter 77 args) w := by kernel_rfl
set_option maxRecDepth 100000 in
theorem headOf1 (b bn n : Nat) (H : Heaplet) (w : World) (h : WrRep b [] H) (hw : Own w H) (hn : w.cell? ⟨bn, 0, none⟩ = some (iv n)) (hn1 : n < 4294967296) :
    Calls Tryz.prog 99 #[pt b, pt bn] w (WrPost b (le4 n) H w) := by
  have h1 := Lib.hid (wfour_any b [] H n w h hw (by decide))
  go_enter Tryz.func99, Tryz.ntmps99
  go_wp2_with fail
  refine h1.out.mono ?_
  rintro e w1 ⟨rfl, H', hr, hst⟩
  go_wp2
  go_end0
  exact ⟨rfl, H', hr, hst⟩
/-- The sum of bytes that a variable holds, laid. -/
def SumsIn (w : World) (bs : Nat) (l : List UInt8) : Prop := ∃ a c, w.cell? ⟨bs, 0, none⟩ = some (.slice a l.length c) ∧ RdBytes w a l.length c l
theorem SumsIn.later {w w' : World} {bs : Nat} {l : List UInt8} (h : SumsIn w bs l) {H : Heaplet} (s : Step w [] w' H) : SumsIn w' bs l := by
  obtain ⟨a, c, h1, h2⟩ := h
  exact ⟨a, c, s.keepCell h1, h2.later s (fun _ _ => by simp [dom])⟩
set_option maxRecDepth 100000 in
theorem headOf2 (b bs : Nat) (l : List UInt8) (H : Heaplet) (w : World) (h : WrRep b [] H) (hw : Own w H) (hs : SumsIn w bs l) (hl : l.length ≤ 140737488354000) :
    Calls Tryz.prog 100 #[pt b, pt bs] w (WrPost b (le4 (crcN l)) H w) := by
  obtain ⟨a, c, h1, h2⟩ := hs
  have h3 := Lib.hid (sum_any a l.length c l w h2 (by omega))
  go_enter Tryz.func100, Tryz.ntmps100
  go_wp2_with fail
  refine h3.out.mono ?_
  rintro e w1 ⟨rfl, hst⟩
  have s1 := hst.stay hw
  go_wp2_with fail
  refine (wfour_any b [] H (crcN l) w1 h s1.own (by decide)).mono ?_
  rintro e w2 ⟨rfl, H', hr, hst2⟩
  go_wp2
  go_end0
  exact ⟨rfl, H', hr, s1.trans hst2⟩
set_option maxRecDepth 100000 in
theorem encode1 (b bs : Nat) (l : List UInt8) (H : Heaplet) (w : World) (h : WrRep b [] H) (hw : Own w H) (hs : SumsIn w bs l) (hl : l.length ≤ 140737488354000) :
    Calls Tryz.prog 77 #[pt b, pt bs] w (WrPost b (le4 (crcN l)) H w) := by
  obtain ⟨a, c, h1, h2⟩ := hs
  have h3 := Lib.hid (sum_any a l.length c l w h2 (by omega))
  go_enter Tryz.func77, Tryz.ntmps77
  go_wp2_with fail
  refine h3.out.mono ?_
  rintro e w1 ⟨rfl, hst⟩
  have s1 := hst.stay hw
  go_wp2_with fail
  refine (wfour_any b [] H (crcN l) w1 h s1.own (by decide)).mono ?_
  rintro e w2 ⟨rfl, H', hr, hst2⟩
  go_wp2
  go_end0
  exact ⟨rfl, H', hr, s1.trans hst2⟩
set_option maxHeartbeats 1000000 in
set_option maxRecDepth 100000 in
theorem headOf_any (n : Nat) (w : World) (hn : n < 4294967296) : Calls Tryz.prog 75 #[iv n] w (ClonePost w (hdN n)) := by
  have s1 : Sp w [] _ [[(w.heap.size, .cells #[iv n] 3 (0, 0))]] := (Sp.nil w).alloc _
  go_enter Tryz.func75, Tryz.ntmps75
  go_wp2_with fail
  refine (laid_any _ call_h1 (pt w.heap.size) (le4 n) (by rw [le4_len]; decide) _ (fun W b H h s => headOf1 b w.heap.size n H W h s.own (s.keepCell (cells1 (s1.own 0 rfl).h0)) hn)).mono ?_
  rintro e w1 ⟨a1, c1, G1, rfl, r1, hst⟩
  have s2 : Sp w [] _ [[(w.heap.size, .cells #[iv n] 3 (0, 0))], G1] := s1.fresh hst
  have s4 : Sp w [] _ [[(w.heap.size, .cells #[iv n] 3 (0, 0))], G1, [(w1.heap.size, .cells #[.slice a1 4 c1] 23 (0, 0))]] := s2.alloc _
  clear hst s1 s2
  rw [le4_len]
  have r1 : SlRep 5 1 a1 4 c1 ((le4 n).map u8) G1 := r1
  replace r1 := Lib.hid r1
  go_upto_region 2 with fail
  generalize w1.heap.size = bs at s4 ⊢
  generalize w.heap.size = bn at s4
  refine Sp.gen s4 ?_
  clear s4
  intro W s
  have hsi : Hid (∀ V, Own V G1 → V.cell? ⟨bs, 0, none⟩ = some (.slice a1 4 c1) → SumsIn V bs (le4 n)) := fun V hV h0 => ⟨a1, c1, h0, r1.out.rdBytes hV⟩
  replace s := s.drew
  refine wp_region_J 4 (fun w' => w'.cell? ⟨bs, 0, none⟩ = some (.slice a1 4 c1)) (by kernel_rfl) ?_ (fun hF => ?_)
  · (try dsimp only)
    all_goals (exact cells1 (s.own 2 rfl).h0)
  refine tk1 (i := 0) (oi := ⟨some 6, .load 23 (.tmp 3), 23, "frame.go:26", #[], none⟩) (v := ?_) [4] rfl (by kernel_rfl) (fun _ _ _ h => h) hF (fun w hFw => ?_) (by rfl) ?_
  rotate_left
  · ((try dsimp only at hFw); first | (go_simp; done) | (go_simp; with_reducible rfl) | (go_split_ands; go_simp; done))
  try simp only [Act.put, nrmA, nrmB, nrmC]
  refine tk0 (i := 1) (oi := ⟨some 7, .makeFunc (Go.Fn.func 100) #[] #[.tmp 3], 134, "frame.go:26", #[], none⟩) (v := ?_) rfl (by kernel_rfl) (fun _ _ _ h => h) (fun _ => hF) (fun w => ?_) (by rfl) ?_
  rotate_left
  · first | (go_simp; done) | (go_simp; with_reducible rfl) | (go_split_ands; go_simp; done)
  try simp only [Act.put, nrmA, nrmB, nrmC]
  refine wpAnyJ_ready (rs := [2]) (by kernel_rfl) (by simp) ?_
  refine AllJ.cons1 (o := ⟨some 8, .call { callee := .value (.func 76), args := #[.tmp 7], argTypes := #[134] }, 23, "frame.go:26", #[⟨1, .data⟩], none⟩) rfl (fun Kr hKr => ?_)
  go_simp; go_at_call 76; refine (laid_any _ call_h2 (pt bs) (le4 (crcN (le4 n))) (by rw [le4_len]; decide) _ (fun V b H h s' => headOf2 b bs (le4 n) H V h s'.own ((hsi.out _ (s.own 1 rfl) (cells1 (s.own 2 rfl).h0)).later s') (by rw [le4_len]; decide))).mono ?_; rintro e w4 ⟨a2, c2, G2, rfl, r2, hst⟩; rw [le4_len]
  have s : Sp w [] w4 [_, G1, _, G2] := s.fresh hst
  have r2 : SlRep 5 1 a2 4 c2 ((le4 (crcN (le4 n))).map u8) G2 := r2
  replace r2 := Lib.hid r2
  refine hKr.out _ _ (fun hJ => ?_) (fun hF => ?_)
  · first
    | exact absurd hJ (by decide)
    | (clear hJ; (try dsimp only); all_goals (exact cells1 (s.own 2 rfl).h0))
  clear hKr
  try simp only [Act.put, nrmA, nrmB, nrmC]
  refine wpAnyJ_ready (rs := [3]) (by kernel_rfl) (by simp) ?_
  refine AllJ.cons1 (o := ⟨some 9, .call { callee := .builtin .append, args := #[.tmp 6, .tmp 8], argTypes := #[23, 23] }, 23, "frame.go:26", #[⟨0, .data⟩, ⟨2, .data⟩, ⟨2, .chain⟩], none⟩) rfl (fun Kr hKr => ?_)
  refine step_app rfl st_u8 _ _ (by rfl) (by rfl) (by rfl) r1.out (s.own 1 rfl) (rdBytes_cells (r2.out.rdBytes (s.own 3 rfl))) (by decide) (by omega) ?_
  intro a5 c5 w5 H5 hv5 hst5
  have s : Sp w [] w5 [_, H5, _, G2] := s.put 1 rfl hst5
  refine hKr.out _ _ (fun hJ => ?_) (fun hF => ?_)
  · first
    | exact absurd hJ (by decide)
    | (clear hJ; (try dsimp only); all_goals (exact cells1 (s.own 2 rfl).h0))
  clear hKr
  try simp only [Act.put, nrmA, nrmB, nrmC]
  refine wpAnyJ_ready (rs := [4]) (by kernel_rfl) (by simp) ?_
  refine AllJ.cons1 (o := ⟨some 2, .assign (.tmp 9), 23, "frame.go:26", #[⟨3, .data⟩, ⟨3, .chain⟩, ⟨0, .phase⟩, ⟨1, .phase⟩, ⟨2, .phase⟩, ⟨3, .phase⟩], none⟩) rfl (fun Kr hKr => ?_)
  go_simp
  refine hKr.out _ _ (fun hJ => ?_) (fun hF => ?_)
  · first
    | exact absurd hJ (by decide)
    | (clear hJ; (try dsimp only); all_goals (exact cells1 (s.own 2 rfl).h0))
  clear hKr
  try simp only [Act.put, nrmA, nrmB, nrmC]
  refine wpAnyJ_done (by kernel_rfl) ?_ _
  go_wp2_with fail
  go_ret
  refine ⟨a5, c5, H5, rfl, ?_, (((s.forget 0 rfl).forget 2 rfl).forget 3 rfl).out (by simp)⟩
  rw [hdN, List.map_append]
  exact hv5
set_option maxHeartbeats 2000000 in
set_option maxRecDepth 100000 in
theorem encode_any (a : Option Addr) (n c : Nat) (p : List UInt8) (w : World) (h : RdBytes w a n c p) (hp : p.length ≤ 65536) :
    Calls Tryz.prog 39 #[.slice a n c] w fun e w' => ∃ a' c' G, e = .returned (.tuple #[.slice a' (frN p).length c', iv 0]) ∧ SlRep 5 1 a' (frN p).length c' ((frN p).map u8) G ∧ Step w [] w' G := by
  obtain rfl := h.1
  replace h := Lib.hid h
  have d1 : (p.length : Int) ≤ 65536 := by omega
  have hh := Lib.hid (headOf_any p.length w (by omega))
  go_enter Tryz.func39, Tryz.ntmps39
  go_wp2_with fail
  refine hh.out.mono ?_
  rintro e w1 ⟨a1, c1, G1, rfl, r1, hst⟩
  have r1 : SlRep 5 1 a1 8 c1 ((hdN p.length).map u8) G1 := r1
  rw [hdN_len]
  have s1 : Sp w [] w1 [G1] := (Sp.nil w).fresh hst
  have hrd := Lib.hid (h.out.later hst (fun _ _ => by simp [dom]))
  clear hst
  replace r1 := Lib.hid r1
  go_upto_region 4 with (at_builtin; refine wpList_app rfl st_u8 _ _ rfl (by rfl) (by rfl) r1.out (s1.own 0 rfl) (rdBytes_cells hrd.out) (by unfold maxLen; omega) (by omega) ?_; intro a2 c2 w2 H2 hr2 hst2; have s2 : Sp w [] w2 [H2] := s1.put 0 rfl hst2; replace hr2 := Lib.hid hr2)
  have s4 : Sp w [] _ [H2, [(w2.heap.size, .cells #[.slice a2 (8 + p.length) c2] 23 (0, 0))]] := s2.alloc _
  clear s2 s1 hst2
  have hr2 : Hid (SlRep 5 1 a2 (frB p).length c2 ((frB p).map u8) H2) := by
    show SlRep _ _ _ _ _ _ _
    rw [frB_len, frB, List.map_append]
    exact hr2.out
  generalize w2.heap.size = bs at s4 ⊢
  refine Sp.gen s4 ?_
  clear s4
  intro W s
  rw [frB_len] at hr2
  have hsi : Hid (∀ V, Own V H2 → V.cell? ⟨bs, 0, none⟩ = some (.slice a2 (8 + p.length) c2) → SumsIn V bs (frB p)) := fun V hV h0 => ⟨a2, c2, by rw [frB_len]; exact h0, by rw [frB_len]; exact hr2.out.rdBytes hV⟩
  replace s := s.drew
  refine wp_region_J 5 (fun w' => w'.cell? ⟨bs, 0, none⟩ = some (.slice a2 (8 + p.length) c2)) (by kernel_rfl) ?_ (fun hF => ?_)
  · (try dsimp only)
    all_goals (exact cells1 (s.own 1 rfl).h0)
  refine tk1 (i := 0) (oi := ⟨some 13, .load 23 (.tmp 4), 23, "frame.go:35", #[], none⟩) (v := ?_) [5] rfl (by kernel_rfl) (fun _ _ _ h => h) hF (fun w hFw => ?_) (by rfl) ?_
  rotate_left
  · ((try dsimp only at hFw); first | (go_simp; done) | (go_simp; with_reducible rfl) | (go_split_ands; go_simp; done))
  try simp only [Act.put, nrmA, nrmB, nrmC]
  refine tk0 (i := 1) (oi := ⟨some 14, .makeFunc (Go.Fn.func 77) #[] #[.tmp 4], 134, "frame.go:35", #[], none⟩) (v := ?_) rfl (by kernel_rfl) (fun _ _ _ h => h) (fun _ => hF) (fun w => ?_) (by rfl) ?_
  rotate_left
  · first | (go_simp; done) | (go_simp; with_reducible rfl) | (go_split_ands; go_simp; done)
  try simp only [Act.put, nrmA, nrmB, nrmC]
  refine wpAnyJ_ready (rs := [2]) (by kernel_rfl) (by simp) ?_
  refine AllJ.cons1 (o := ⟨some 15, .call { callee := .value (.func 76), args := #[.tmp 14], argTypes := #[134] }, 23, "frame.go:35", #[⟨1, .data⟩], none⟩) rfl (fun Kr hKr => ?_)
  go_simp; go_at_call 76; refine (laid_any _ call_e1 (pt bs) (le4 (crcN (frB p))) (by rw [le4_len]; decide) _ (fun V b H h s' => encode1 b bs (frB p) H V h s'.own ((hsi.out _ (s.own 0 rfl) (cells1 (s.own 1 rfl).h0)).later s') (by rw [frB_len]; omega))).mono ?_; rintro e w4 ⟨a3, c3, G3, rfl, r3, hst⟩; rw [le4_len]
  have s : Sp w [] w4 [H2, _, G3] := s.fresh hst
  have r3 : SlRep 5 1 a3 4 c3 ((le4 (crcN (frB p))).map u8) G3 := r3
  replace r3 := Lib.hid r3
  refine hKr.out _ _ (fun hJ => ?_) (fun hF => ?_)
  · first
    | exact absurd hJ (by decide)
    | (clear hJ; (try dsimp only); all_goals (exact cells1 (s.own 1 rfl).h0))
  clear hKr
  try simp only [Act.put, nrmA, nrmB, nrmC]
  refine wpAnyJ_ready (rs := [3]) (by kernel_rfl) (by simp) ?_
  refine AllJ.cons1 (o := ⟨some 16, .call { callee := .builtin .append, args := #[.tmp 13, .tmp 15], argTypes := #[23, 23] }, 23, "frame.go:35", #[⟨0, .data⟩, ⟨2, .data⟩, ⟨2, .chain⟩], none⟩) rfl (fun Kr hKr => ?_)
  refine step_app rfl st_u8 _ _ (by rfl) (by rfl) (by rfl) hr2.out (s.own 0 rfl) (rdBytes_cells (r3.out.rdBytes (s.own 2 rfl))) (by unfold maxLen; omega) (by omega) ?_
  intro a5 c5 w5 H5 hv5 hst5
  have s : Sp w [] w5 [H5, _, G3] := s.put 0 rfl hst5
  refine hKr.out _ _ (fun hJ => ?_) (fun hF => ?_)
  · first
    | exact absurd hJ (by decide)
    | (clear hJ; (try dsimp only); all_goals (exact cells1 (s.own 1 rfl).h0))
  clear hKr
  try simp only [Act.put, nrmA, nrmB, nrmC]
  refine wpAnyJ_ready (rs := [4]) (by kernel_rfl) (by simp) ?_
  refine AllJ.cons1 (o := ⟨some 2, .assign (.tmp 16), 23, "frame.go:35", #[⟨3, .data⟩, ⟨3, .chain⟩, ⟨0, .phase⟩, ⟨1, .phase⟩, ⟨2, .phase⟩, ⟨3, .phase⟩], none⟩) rfl (fun Kr hKr => ?_)
  go_simp
  refine hKr.out _ _ (fun hJ => ?_) (fun hF => ?_)
  · first
    | exact absurd hJ (by decide)
    | (clear hJ; (try dsimp only); all_goals (exact cells1 (s.own 1 rfl).h0))
  clear hKr
  try simp only [Act.put, nrmA, nrmB, nrmC]
  refine wpAnyJ_ready (rs := [5]) (by kernel_rfl) (by simp) ?_
  refine AllJ.cons1 (o := ⟨some 3, .assign (.const (.int .i64 0)), 35, "frame.go:35", #[⟨4, .chain⟩, ⟨0, .phase⟩, ⟨1, .phase⟩, ⟨2, .phase⟩, ⟨3, .phase⟩, ⟨4, .phase⟩], none⟩) rfl (fun Kr hKr => ?_)
  go_simp
  refine hKr.out _ _ (fun hJ => ?_) (fun hF => ?_)
  · first
    | exact absurd hJ (by decide)
    | (clear hJ; (try dsimp only); all_goals (exact cells1 (s.own 1 rfl).h0))
  clear hKr
  try simp only [Act.put, nrmA, nrmB, nrmC]
  refine wpAnyJ_done (by kernel_rfl) ?_ _
  go_wp2_with fail
  go_ret2
  refine ⟨a5, c5, H5, ?_, ?_, ((s.forget 1 rfl).forget 2 rfl).out (by simp)⟩
  · have e : (frN p).length = 8 + p.length + 4 := by rw [frN_len]; omega
    rw [e]
    rfl
  · have e : (frN p).length = 8 + p.length + 4 := by rw [frN_len]; omega
    rw [e, frN, List.map_append]
    exact hv5
end Go.Proofs.YtdolbeonpkanpaaGreatDoor
