/- SeglogAnyBytes: the walk. -/
import Derived.Test.YtdolbeonpkanpaaGreatDoorRowsAt
import Derived.Test.YtdolbeonpkanpaaGreatDoorMSvF
set_option linter.unusedVariables false
set_option linter.unusedSimpArgs false
namespace Go.Proofs.YtdolbeonpkanpaaGreatDoor
open Go.RowKit
attribute [local go_sem ↓] Go.wp_at_zero Go.wp_at_succ

theorem and_run (n : Int) : ∃ m : Nat, m ≤ 255 ∧ bits .and .i64 n 255 = (m : Int) := by
  have h : (BitVec.ofInt 64 n &&& BitVec.ofInt 64 255).toNat ≤ 255 := by
    rw [BitVec.toNat_and]
    exact Nat.le_trans Nat.and_le_right (by decide)
  refine ⟨(BitVec.ofInt 64 n &&& BitVec.ofInt 64 255).toNat, h, ?_⟩
  show IntKind.i64.wrap (((BitVec.ofInt 64 n &&& BitVec.ofInt 64 255).toNat : Nat) : Int) = _
  exact IntWalk.i64_in _ (by omega)
theorem wrg_left (nm : Nm) (l : List UInt8) {k : Dk} (h : k.left = none) : (gateN [nm] (wrI nm l) k).2.left = none := by
  have hcl : (wrI nm l k).2.left = k.left := by unfold wrI; split <;> (try split) <;> rfl
  rcases gate_is [nm] (wrI nm l) k with ⟨h, e⟩ | ⟨h, _, e⟩ | ⟨h, _, e⟩ <;> rw [e]
  · assumption
  · show (didN (wrI nm l k).2).left = none
    unfold didN
    simp_all
  · rw [hcl]; assumption
section
variable {pb d r b c : Nat} {p : Nm} {lg lg' : Lg} {k k' : Dk} {Rs : List Heaplet} {w0 W : World}
theorem ps_write (h : PrS pb d r b c p lg k lg' k' Rs w0 [] W) (hk : k.Ok) (nm : Nm) {pa : Option Addr} {pn pc : Nat} {l : List UInt8} (hr : RdBytes w0 pa pn pc l) (hl : l.length ≤ 140737488300000) :
    Calls Tryz.prog 30 #[pt d, strV nm, .slice pa pn pc] W fun e w' => e = .returned (iv (gateN [nm] (wrI nm l) k).1) ∧ PrS pb d r b c p lg (gateN [nm] (wrI nm l) k).2 lg' k' Rs w0 [] w' := by
  obtain ⟨DH, B, S, E, XH, DR, B2, S2, E2, XH2, h1, h2, h3, h4, s⟩ := h
  refine (dwrite d k DH nm pa pn pc l W h1 hk (s.own 1 rfl) (old_rd hr s) (fun hne => RdBytes.old s (q := 1) rfl hr hne) (by omega)).mono ?_
  rintro e w' ⟨he, H, g1, hst⟩
  exact ⟨he, PrS.dput h2 h3 h4 s g1 hst⟩
theorem psr_write (h : PrS pb d r b c p lg k lg' k' Rs w0 [] W) (hk : k'.Ok) (nm : Nm) {pa : Option Addr} {pn pc : Nat} {l : List UInt8} (hr : RdBytes w0 pa pn pc l) (hl : l.length ≤ 140737488300000) :
    Calls Tryz.prog 31 #[pt r, strV nm, .slice pa pn pc] W fun e w' => e = .returned (iv (gateN [nm] (wrI nm l) k').1) ∧ PrS pb d r b c p lg k lg' (gateN [nm] (wrI nm l) k').2 Rs w0 [] w' := by
  obtain ⟨DH, B, S, E, XH, DR, B2, S2, E2, XH2, h1, h2, h3, h4, s⟩ := h
  refine (rwrite r k' DR nm pa pn pc l W h2 hk (s.own 6 rfl) (old_rd hr s) (fun hne => RdBytes.old s (q := 6) rfl hr hne) (by omega)).mono ?_
  rintro e w' ⟨he, H, g1, hst⟩
  exact ⟨he, PrS.rput h1 h3 h4 s g1 hst⟩
theorem PrS.base {w1 : World} {G : Heaplet} (h : PrS pb d r b c p lg k lg' k' Rs w1 [] W) (s : Step w0 [] w1 G) : PrS pb d r b c p lg k lg' k' Rs w0 [] W := by
  obtain ⟨DH, B, S, E, XH, DR, B2, S2, E2, XH2, h1, h2, h3, h4, t⟩ := h
  exact ⟨DH, B, S, E, XH, DR, B2, S2, E2, XH2, h1, h2, h3, h4, Step.trans (Step.forget (A := []) s) t⟩
end
def AbRel (l : List (List UInt8)) (v5 v6 : Value) : Prop := ∃ k s : Nat, v5 = iv s ∧ v6 = iv k ∧ k ≤ l.length ∧ s ≤ 140737488370000 ∧ (∀ i x, i < k → l[i]? = some x → x.length ≤ s)
def AbLoop (pb d r b c n : Nat) (w : World) (v9 : Value) (wr : World) : Prop := ∃ (i : Nat) (k : Dk), v9 = iv i ∧ i ≤ n ∧ k.Ok ∧ k.left = none ∧ PrS pb d r b c [97] lg0 k lg0 k [] w [] wr
set_option maxHeartbeats 2000000 in
set_option maxRecDepth 100000 in
theorem seglogAnyBytes_walk (a0 : Option Addr) (n0 c0 : Nat) (li : List Int) (a1 : Option Addr) (n1 c1 : Nat) (l : List (List UInt8)) (A : Nat → Option Addr) (C : Nat → Nat) (w : World) (hi : RdInts w a0 n0 c0 li) (hli : li.length * 8 ≤ 140737488351232) (h : RdRows w a1 n1 c1 l A C) (hl : ∀ x ∈ l, x.length ≤ 140737488351232) (hT : Tab w) :
    Calls Tryz.prog 7 #[.slice a0 n0 c0, .slice a1 n1 c1] w fun e w' => e = .returned (.bool true) ∧ Below w.heap.size w w' := by
  suffices hs : Calls Tryz.prog 7 #[.slice a0 n0 c0, .slice a1 n1 c1] w (KnownPost w) from hs.mono fun e w' hp => ⟨hp.1, hp.2.nil_below⟩
  have hln := h.1
  have hin := hi.1
  subst hln hin
  have b0 : (l.length : Int) ≤ (c1 : Int) := by have := h.2.1; omega
  have b1 : (c1 : Int) ≤ 9223372036854775807 := by have := h.2.2.1; unfold maxLen at this; omega
  have b2 : (li.length : Int) ≤ (c0 : Int) := by have := hi.2.1; omega
  have b3 : (c0 : Int) ≤ 9223372036854775807 := by have := hi.2.2.1; unfold maxLen at this; omega
  have hT0 := tabK_nil hT
  have hkn : Hid (∀ W G, Step w [] W G → Calls Tryz.prog 10 #[] W (KnownPost W)) := fun W G s => known_any W (hT.later s)
  replace h := Lib.hid h
  replace hl := Lib.hid hl
  replace hi := Lib.hid hi
  replace hT := Lib.hid hT
  replace hT0 := Lib.hid hT0
  go_enter Tryz.func7, Tryz.ntmps7
  go_upto_block 0 with fail
  go_cut [5] (fun v wc => w = wc ∧ ∃ q, v = iv q ∧ q ≤ 140737488370000 ∧ (12000 < q ∨ ∀ x ∈ l, x.length ≤ 12000))
  case first =>
    go_wp2_with fail
    go_loop [5, 6] (fun v5 v6 => AbRel l v5 v6) (fun _ v6 => l.length - (intOf v6).toNat)
    case atStart => exact ⟨0, 0, rfl, rfl, Nat.zero_le _, Nat.zero_le _, fun i x hi => absurd hi (Nat.not_lt_zero _)⟩
    case round =>
      obtain ⟨i, q, rfl, rfl, hil, hq, hall⟩ := hrel
      have d0 : (0 : Int) ≤ (i : Int) := by omega
      by_cases hlt : i < l.length
      · have d1 : (i : Int) < (l.length : Int) := by omega
        by_cases h8 : q ≤ 12000
        · have d2 : (q : Int) ≤ 12000 := by omega
          obtain ⟨ab, ao, rfl, hc, _⟩ := h.out.at' hlt
          have hlx := hl.out _ (List.getElem_mem hlt)
          have hx : l[i]? = some l[i] := List.getElem?_eq_getElem hlt
          generalize l[i] = x at hc hlx hx
          obtain ⟨q1, hq1⟩ : ∃ s1, s1 = q + 5 := ⟨_, rfl⟩
          obtain ⟨q2, hq2⟩ : ∃ s2, s2 = q1 + x.length := ⟨_, rfl⟩
          have w1 : IntKind.i64.wrap ((q : Int) + 5) = (q1 : Int) := by rw [IntWalk.i64_in _ (by omega)]; omega
          have w2 : IntKind.i64.wrap ((q1 : Int) + (x.length : Int)) = (q2 : Int) := by rw [IntWalk.i64_in _ (by omega)]; omega
          have hb : q2 ≤ 140737488370000 := by omega
          have hall2 := Lib.hid (show ∀ j y, j < i + 1 → l[j]? = some y → y.length ≤ q2 from fun j y hj hy => by
            by_cases e : j = i
            · subst e; rw [hx] at hy; cases hy; omega
            · have := hall j y (by omega) hy; omega)
          clear hall hx
          replace hq1 := Lib.hid hq1
          replace hq2 := Lib.hid hq2
          go_wp2_with fail
          exact ⟨⟨i + 1, q2, rfl, by go_num, hlt, hb, hall2.out⟩, by simp [intOf]; omega⟩
        · have d2 : (12000 : Int) < (q : Int) := by omega
          replace hall := Lib.hid hall
          go_wp2_with fail
          go_meet
          exact ⟨rfl, q, rfl, hq, .inl (by omega)⟩
      · have d1 : (l.length : Int) ≤ (i : Int) := by omega
        by_cases h8 : q ≤ 12000
        · have hall2 := Lib.hid (show ∀ x ∈ l, x.length ≤ 12000 from fun x hx => by
            obtain ⟨j, hj, rfl⟩ := List.getElem_of_mem hx
            exact Nat.le_trans (hall j _ (by omega) (List.getElem?_eq_getElem hj)) h8)
          clear hall
          go_wp2_with fail
          go_meet
          exact ⟨rfl, q, rfl, hq, .inr hall2.out⟩
        · replace hall := Lib.hid hall
          go_wp2_with fail
          go_meet
          exact ⟨rfl, q, rfl, hq, .inl (by omega)⟩
  case rest =>
    obtain ⟨rfl, q, rfl, hq0, hq⟩ := hcut
    have hknow : Hid (∀ W, W = w → Calls Tryz.prog 10 #[] W (KnownPost w)) := fun W e => by subst e; exact hkn.out _ _ (Step.refl (Own.nil _))
    by_cases h8 : 12000 < q
    · have d1 : (12000 : Int) < (q : Int) := by omega
      clear hq
      go_wp2_with fail
      refine (hknow.out _ rfl).mono ?_
      rintro e w1 ⟨rfl, h1⟩
      go_wp2_with fail
      go_ret
      exact ⟨rfl, h1⟩
    · have d1 : (q : Int) ≤ 12000 := by omega
      have hall := Lib.hid (hq.resolve_left h8)
      clear hq h8
      by_cases h30 : 30 < l.length
      · have d2 : (30 : Int) < (l.length : Int) := by omega
        go_wp2_with fail
        refine (hknow.out _ rfl).mono ?_
        rintro e w1 ⟨rfl, h1⟩
        go_wp2_with fail
        go_ret
        exact ⟨rfl, h1⟩
      · have d2 : (l.length : Int) ≤ 30 := by omega
        by_cases hnl : li.length < l.length
        · have d3 : (li.length : Int) < (l.length : Int) := by omega
          go_wp2_with fail
          refine (hknow.out _ rfl).mono ?_
          rintro e w1 ⟨rfl, h1⟩
          go_wp2_with fail
          go_ret
          exact ⟨rfl, h1⟩
        · have d3 : (l.length : Int) ≤ (li.length : Int) := by omega
          have hsa := Lib.hid (start_any 1048576 w (by decide) hT.out)
          go_wp2_with fail
          refine hsa.out.mono ?_
          rintro e w2 ⟨pb, d, r, b, c, rfl, hp⟩
          clear hsa
          have hok0 : (⟨1048576, [], none⟩ : Dk).Ok := new_ok (by decide)
          have hin : Hid (AbLoop pb d r b c l.length w (iv 0) w2) := ⟨0, _, rfl, Nat.zero_le _, hok0, rfl, hp⟩
          clear hp
          go_upto_block 2 with fail
          go_cut [9] (fun _ wr => ∃ k, k.Ok ∧ k.left = none ∧ PrS pb d r b c [97] lg0 k lg0 k [] w [] wr)
          case first =>
            go_wp2_with fail
            go_loopw [9] (fun v9 wr => AbLoop pb d r b c l.length w v9 wr) (fun v _ => l.length - (intOf v).toNat)
            case atStart => exact hin.out
            case round =>
              clear hin
              obtain ⟨i, k, rfl, hil, hk, hlf, hp⟩ := hrel
              have d0 : (0 : Int) ≤ (i : Int) := by omega
              by_cases hlt : i < l.length
              · have d1 : (i : Int) < (l.length : Int) := by omega
                have d4 : (i : Int) < (li.length : Int) := by omega
                obtain ⟨G, hG⟩ := hp.step
                obtain ⟨ib, io, rfl, hc0, _⟩ := hi.out.at hG (k := i) (by omega)
                obtain ⟨ab, ao, rfl, hcr, hrd⟩ := h.out.at' hlt
                have hxl := hall.out _ (List.getElem_mem hlt)
                have hcrow : Hid (∀ W b c k k', PrS pb d r b c [97] lg0 k lg0 k' [] w [] W → W.cell? ⟨ab, ao + i, none⟩ = some (.slice (A i) l[i].length (C i))) := fun W b c k k' hp => by
                  obtain ⟨G, hG⟩ := hp.step
                  obtain ⟨ab', ao', e, hc', _⟩ := (h.out.step hG).at' hlt
                  cases e
                  exact hc'
                generalize l[i] = x at hcr hrd hxl hcrow
                generalize li[i] = nn at hc0
                obtain ⟨m, hm, hand⟩ := and_run nn
                have hnm := Lib.hid (fun W => rname_any [97] m (by decide) (by omega) W)
                obtain ⟨nm, hnme⟩ : ∃ nm, nm = nameN [97] m := ⟨_, rfl⟩
                rw [← hnme] at hnm
                have hwA := Lib.hid (fun W (h : PrS pb d r b c [97] lg0 k lg0 k [] w [] W) => ps_write h hk nm hrd (by omega))
                have hwB := Lib.hid (fun W (h : PrS pb d r b c [97] lg0 (gateN [nm] (wrI nm x) k).2 lg0 k [] w [] W) => psr_write h hk nm hrd (by omega))
                have hk2 := gwr_ok hk nm x
                have hlf2 := wrg_left nm x hlf
                obtain ⟨⟨v, k2⟩, hv⟩ : ∃ z, z = gateN [nm] (wrI nm x) k := ⟨_, rfl⟩
                rw [← hv] at hwA hwB hk2 hlf2
                simp only at hwA hwB hk2 hlf2
                replace hv := Lib.hid hv
                replace hnme := Lib.hid hnme
                replace hrd := Lib.hid hrd
                clear hcr hG
                replace hp := Lib.hid hp
                go_wp2_with fail
                refine (hnm.out _).mono ?_
                rintro e w4 ⟨rfl, hst⟩
                have hp := hp.out.still hst
                clear hst hc0
                go_upto_region 15 with fail
                replace hp := hp.drew
                refine wp_region_J 9 (fun w' => w'.cell? ⟨pb, 0, none⟩ = some (pt d) ∧ w'.cell? ⟨ab, ao + i, none⟩ = some (.slice (A i) x.length (C i))) (by kernel_rfl) ?_ (fun hF => ?_)
                · (try dsimp only)
                  all_goals (exact ⟨hp.cells.1, hcrow.out _ _ _ _ _ hp⟩)
                refine tk0 (i := 0) (oi := ⟨some 62, .move (.tmp 7), 25, "law.go:320", #[], none⟩) (v := ?_) rfl (by kernel_rfl) (fun _ _ _ h => h) (fun _ => hF) (fun w => ?_) (by rfl) ?_
                rotate_left
                · first | (go_simp; done) | (go_simp; with_reducible rfl) | (go_split_ands; go_simp; done)
                try simp only [Act.put, nrmA, nrmB, nrmC]
                refine tk0 (i := 1) (oi := ⟨some 63, .nilCheck (.tmp 62), 0, "law.go:320", #[⟨0, .data⟩], none⟩) (v := ?_) rfl (by kernel_rfl) (fun _ _ _ h => h) (fun _ => hF) (fun w => ?_) (by rfl) ?_
                rotate_left
                · first | (go_simp; done) | (go_simp; with_reducible rfl) | (go_split_ands; go_simp; done)
                try simp only [Act.put, nrmA, nrmB, nrmC]
                refine tk0 (i := 2) (oi := ⟨some 64, .fieldAddr 33 (.tmp 63) 0, 0, "law.go:320", #[⟨1, .data⟩], none⟩) (v := ?_) rfl (by kernel_rfl) (fun _ _ _ h => h) (fun _ => hF) (fun w => ?_) (by rfl) ?_
                rotate_left
                · first | (go_simp; done) | (go_simp; with_reducible rfl) | (go_split_ands; go_simp; done)
                try simp only [Act.put, nrmA, nrmB, nrmC]
                refine tk1 (i := 3) (oi := ⟨some 65, .load 28 (.tmp 64), 28, "law.go:320", #[⟨2, .data⟩], none⟩) (v := ?_) [9] rfl (by kernel_rfl) (fun _ _ _ h => h) hF (fun w hFw => ?_) (by rfl) ?_
                rotate_left
                · ((try dsimp only at hFw); first | (go_simp; done) | (go_simp; with_reducible rfl) | (go_split_ands; go_simp; done))
                try simp only [Act.put, nrmA, nrmB, nrmC]
                refine tk0 (i := 4) (oi := ⟨some 66, .move (.tmp 10), 9, "law.go:320", #[], none⟩) (v := ?_) rfl (by kernel_rfl) (fun _ _ _ h => h) (fun _ => hF) (fun w => ?_) (by rfl) ?_
                rotate_left
                · first | (go_simp; done) | (go_simp; with_reducible rfl) | (go_split_ands; go_simp; done)
                try simp only [Act.put, nrmA, nrmB, nrmC]
                refine tk0 (i := 5) (oi := ⟨some 67, .move (.tmp 1), 22, "law.go:320", #[], none⟩) (v := ?_) rfl (by kernel_rfl) (fun _ _ _ h => h) (fun _ => hF) (fun w => ?_) (by rfl) ?_
                rotate_left
                · first | (go_simp; done) | (go_simp; with_reducible rfl) | (go_split_ands; go_simp; done)
                try simp only [Act.put, nrmA, nrmB, nrmC]
                refine tk0 (i := 6) (oi := ⟨some 68, .move (.tmp 9), 3, "law.go:320", #[], none⟩) (v := ?_) rfl (by kernel_rfl) (fun _ _ _ h => h) (fun _ => hF) (fun w => ?_) (by rfl) ?_
                rotate_left
                · first | (go_simp; done) | (go_simp; with_reducible rfl) | (go_split_ands; go_simp; done)
                try simp only [Act.put, nrmA, nrmB, nrmC]
                refine tk0 (i := 7) (oi := ⟨some 69, .indexAddr 22 (.tmp 67) (.tmp 68), 0, "law.go:320", #[⟨5, .data⟩, ⟨6, .data⟩], none⟩) (v := ?_) rfl (by kernel_rfl) (fun _ _ _ h => h) (fun _ => hF) (fun w => ?_) (by rfl) ?_
                rotate_left
                · first | (go_simp; done) | (go_simp; with_reducible rfl) | (go_split_ands; go_simp; done)
                try simp only [Act.put, nrmA, nrmB, nrmC]
                refine tk1 (i := 8) (oi := ⟨some 70, .load 23 (.tmp 69), 23, "law.go:320", #[⟨7, .data⟩], none⟩) (v := ?_) [9] rfl (by kernel_rfl) (fun _ _ _ h => h) hF (fun w hFw => ?_) (by rfl) ?_
                rotate_left
                · ((try dsimp only at hFw); first | (go_simp; done) | (go_simp; with_reducible rfl) | (go_split_ands; go_simp; done))
                try simp only [Act.put, nrmA, nrmB, nrmC]
                refine wpAnyJ_ready (rs := [9]) (by kernel_rfl) (by simp) ?_
                refine AllJ.cons1 (o := ⟨some 71, .call { callee := .value (.func 30), args := #[.tmp 65, .tmp 66, .tmp 70], argTypes := #[28, 9, 23] }, 35, "law.go:320", #[⟨3, .data⟩, ⟨4, .data⟩, ⟨8, .data⟩], none⟩) rfl (fun Kr hKr => ?_)
                go_simp; go_at_call 30; refine (hwA.out _ hp).mono ?_; rintro e w5 ⟨rfl, hp⟩
                refine hKr.out _ _ (fun hJ => ?_) (fun hF => ?_)
                · first
                  | exact absurd hJ (by decide)
                  | (clear hJ; (try dsimp only); all_goals (exact ⟨hp.cells.1, hcrow.out _ _ _ _ _ hp⟩))
                clear hKr
                try simp only [Act.put, nrmA, nrmB, nrmC]
                refine wpAnyJ_done (by kernel_rfl) ?_ _
                go_upto_region 16 with fail
                replace hp := hp.drew
                refine wp_region_J 9 (fun w' => w'.cell? ⟨pb, 1, none⟩ = some (pt r) ∧ w'.cell? ⟨ab, ao + i, none⟩ = some (.slice (A i) x.length (C i))) (by kernel_rfl) ?_ (fun hF => ?_)
                · (try dsimp only)
                  all_goals (exact ⟨hp.cells.2.1, hcrow.out _ _ _ _ _ hp⟩)
                refine tk0 (i := 0) (oi := ⟨some 72, .move (.tmp 7), 25, "law.go:321", #[], none⟩) (v := ?_) rfl (by kernel_rfl) (fun _ _ _ h => h) (fun _ => hF) (fun w => ?_) (by rfl) ?_
                rotate_left
                · first | (go_simp; done) | (go_simp; with_reducible rfl) | (go_split_ands; go_simp; done)
                try simp only [Act.put, nrmA, nrmB, nrmC]
                refine tk0 (i := 1) (oi := ⟨some 73, .nilCheck (.tmp 72), 0, "law.go:321", #[⟨0, .data⟩], none⟩) (v := ?_) rfl (by kernel_rfl) (fun _ _ _ h => h) (fun _ => hF) (fun w => ?_) (by rfl) ?_
                rotate_left
                · first | (go_simp; done) | (go_simp; with_reducible rfl) | (go_split_ands; go_simp; done)
                try simp only [Act.put, nrmA, nrmB, nrmC]
                refine tk0 (i := 2) (oi := ⟨some 74, .fieldAddr 33 (.tmp 73) 1, 0, "law.go:321", #[⟨1, .data⟩], none⟩) (v := ?_) rfl (by kernel_rfl) (fun _ _ _ h => h) (fun _ => hF) (fun w => ?_) (by rfl) ?_
                rotate_left
                · first | (go_simp; done) | (go_simp; with_reducible rfl) | (go_split_ands; go_simp; done)
                try simp only [Act.put, nrmA, nrmB, nrmC]
                refine tk1 (i := 3) (oi := ⟨some 75, .load 29 (.tmp 74), 29, "law.go:321", #[⟨2, .data⟩], none⟩) (v := ?_) [9] rfl (by kernel_rfl) (fun _ _ _ h => h) hF (fun w hFw => ?_) (by rfl) ?_
                rotate_left
                · ((try dsimp only at hFw); first | (go_simp; done) | (go_simp; with_reducible rfl) | (go_split_ands; go_simp; done))
                try simp only [Act.put, nrmA, nrmB, nrmC]
                refine tk0 (i := 4) (oi := ⟨some 76, .move (.tmp 10), 9, "law.go:321", #[], none⟩) (v := ?_) rfl (by kernel_rfl) (fun _ _ _ h => h) (fun _ => hF) (fun w => ?_) (by rfl) ?_
                rotate_left
                · first | (go_simp; done) | (go_simp; with_reducible rfl) | (go_split_ands; go_simp; done)
                try simp only [Act.put, nrmA, nrmB, nrmC]
                refine tk0 (i := 5) (oi := ⟨some 77, .move (.tmp 1), 22, "law.go:321", #[], none⟩) (v := ?_) rfl (by kernel_rfl) (fun _ _ _ h => h) (fun _ => hF) (fun w => ?_) (by rfl) ?_
                rotate_left
                · first | (go_simp; done) | (go_simp; with_reducible rfl) | (go_split_ands; go_simp; done)
                try simp only [Act.put, nrmA, nrmB, nrmC]
                refine tk0 (i := 6) (oi := ⟨some 78, .move (.tmp 9), 3, "law.go:321", #[], none⟩) (v := ?_) rfl (by kernel_rfl) (fun _ _ _ h => h) (fun _ => hF) (fun w => ?_) (by rfl) ?_
                rotate_left
                · first | (go_simp; done) | (go_simp; with_reducible rfl) | (go_split_ands; go_simp; done)
                try simp only [Act.put, nrmA, nrmB, nrmC]
                refine tk0 (i := 7) (oi := ⟨some 79, .indexAddr 22 (.tmp 77) (.tmp 78), 0, "law.go:321", #[⟨5, .data⟩, ⟨6, .data⟩], none⟩) (v := ?_) rfl (by kernel_rfl) (fun _ _ _ h => h) (fun _ => hF) (fun w => ?_) (by rfl) ?_
                rotate_left
                · first | (go_simp; done) | (go_simp; with_reducible rfl) | (go_split_ands; go_simp; done)
                try simp only [Act.put, nrmA, nrmB, nrmC]
                refine tk1 (i := 8) (oi := ⟨some 80, .load 23 (.tmp 79), 23, "law.go:321", #[⟨7, .data⟩], none⟩) (v := ?_) [9] rfl (by kernel_rfl) (fun _ _ _ h => h) hF (fun w hFw => ?_) (by rfl) ?_
                rotate_left
                · ((try dsimp only at hFw); first | (go_simp; done) | (go_simp; with_reducible rfl) | (go_split_ands; go_simp; done))
                try simp only [Act.put, nrmA, nrmB, nrmC]
                refine wpAnyJ_ready (rs := [9]) (by kernel_rfl) (by simp) ?_
                refine AllJ.cons1 (o := ⟨some 81, .call { callee := .value (.func 31), args := #[.tmp 75, .tmp 76, .tmp 80], argTypes := #[29, 9, 23] }, 3, "law.go:321", #[⟨3, .data⟩, ⟨4, .data⟩, ⟨8, .data⟩], none⟩) rfl (fun Kr hKr => ?_)
                go_simp; go_at_call 31; refine (hwB.out _ hp).mono ?_; rintro e w6 ⟨rfl, hp⟩
                refine hKr.out _ _ (fun hJ => ?_) (fun hF => ?_)
                · first
                  | exact absurd hJ (by decide)
                  | (clear hJ; (try dsimp only); all_goals (exact ⟨hp.cells.2.1, hcrow.out _ _ _ _ _ hp⟩))
                clear hKr
                try simp only [Act.put, nrmA, nrmB, nrmC]
                refine wpAnyJ_done (by kernel_rfl) ?_ _
                go_wp2_with fail
                exact ⟨⟨i + 1, k2, by go_num, hlt, hk2, hlf2, hp⟩, by simp [intOf]; omega⟩
              · have d1 : (l.length : Int) ≤ (i : Int) := by omega
                go_wp2_with fail
                go_meet
                exact ⟨k, hk, hlf, hp⟩
          case rest =>
            clear hin
            obtain ⟨k, hk, hlf, hp⟩ := hcut
            obtain ⟨lg1, k1, e1, hI1, hlf1, _, _⟩ := open_free (p := [97]) hk hlf
            obtain ⟨lg2, k2, e2, hI2, hlf2, _, _⟩ := open_free (p := [97]) hI1.dk hlf1
            have g1 := Lib.hid (open_any hp.pd hk hlf hT0.out)
            rw [e1] at g1
            have g2 := Lib.hid (fun W b c (h : PrS pb d r b c [97] lg1 k1 lg1 k1 [] w [] W) => stood_any h hI1 (by decide))
            have g3 := Lib.hid (fun W b c (h : PrS pb d r b c [97] lg1 k1 lg1 k1 [] w [] W) => open_any h.pd hI1.dk hlf1 hT0.out)
            rw [e2] at g3
            have g4 := Lib.hid (fun W b c (h : PrS pb d r b c [97] lg2 k2 lg2 k2 [] w [] W) => stood_any h hI2 (by decide))
            replace e1 := Lib.hid e1
            replace e2 := Lib.hid e2
            clear hp hk hlf hI1 hI2 hlf1 hlf2
            go_wp2_with fail
            refine g1.out.mono ?_
            rintro e w4 ⟨rfl, b, c, _, _, he, hp⟩
            cases he
            go_wp2_with fail
            refine (g2.out _ _ _ hp).mono ?_
            rintro e w5 ⟨rfl, hp⟩
            go_wp2_with fail
            refine (g3.out _ _ _ hp).mono ?_
            rintro e w6 ⟨rfl, b, c, _, _, he, hp⟩
            cases he
            go_wp2_with fail
            refine (g4.out _ _ _ hp).mono ?_
            rintro e w7 ⟨rfl, hp⟩
            have hd := hp.done
            go_wp2_with fail
            refine (hkn.out _ _ hd).mono ?_
            rintro e w8 ⟨rfl, hst⟩
            go_wp2_with fail
            go_ret
            exact ⟨rfl, hd.trans hst⟩
end Go.Proofs.YtdolbeonpkanpaaGreatDoor
