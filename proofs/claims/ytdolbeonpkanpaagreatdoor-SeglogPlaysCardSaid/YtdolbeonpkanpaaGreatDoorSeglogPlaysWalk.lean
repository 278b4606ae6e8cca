/- SeglogPlays: the walk. -/
import Derived.Test.YtdolbeonpkanpaaGreatDoorMSvF
namespace Go.Proofs.YtdolbeonpkanpaaGreatDoor
open Go.RowKit
attribute [local go_sem ↓] Go.wp_at_zero Go.wp_at_succ

def SpRelP (pb d r n : Nat) (w : World) (v7 : Value) (wr : World) : Prop :=
  ∃ (i b c : Nat) (lg : Lg) (k : Dk), v7 = iv i ∧ i ≤ n ∧ i ≤ 100 ∧ LInv (89478485 + i) [97] lg k ∧ PrS pb d r b c [97] lg k lg k [] w [] wr
set_option maxHeartbeats 2000000 in
set_option maxRecDepth 100000 in
theorem seglogPlays_walk (room : Int) (a : Option Addr) (nl cl : Nat) (l : List Sq) (w : World) (_ : (Lit.int .i64 room).wf = true) (h : RdRecs w a nl cl 4 sqCells l) (hq : ∀ x ∈ l, Sq.ok w x) (hll : l.length * 48 ≤ 140737488351232) (hT : Tab w) :
    Calls Tryz.prog 5 #[ii room, .slice a nl cl] w fun e w' => e = .returned (.bool true) ∧ Below w.heap.size w w' := by
  suffices hs : Calls Tryz.prog 5 #[ii room, .slice a nl cl] w (KnownPost w) from hs.mono fun e w' hp => ⟨hp.1, hp.2.nil_below⟩
  have hnl := h.1
  subst hnl
  have hhv := Lib.hid (heavy_any a l.length cl l w h hq (by omega))
  have hlc : (l.length : Int) ≤ (cl : Int) := by have := h.2.1; omega
  have hT0 := tabK_nil hT
  have hkn : Hid (∀ W G, Step w [] W G → Calls Tryz.prog 10 #[] W (KnownPost W)) := fun W G s => known_any W (hT.later s)
  replace h := Lib.hid h
  replace hq := Lib.hid hq
  have b4 : (l.length : Int) ≤ 140737488351232 := by omega
  replace hT := Lib.hid hT
  replace hT0 := Lib.hid hT0
  go_enter Tryz.func5, Tryz.ntmps5
  go_wp2_with fail
  refine hhv.out.mono ?_
  rintro e w1 ⟨⟨t, rfl, hlight⟩, hst⟩
  clear hhv
  cases t with
  | true =>
    replace hlight := Lib.hid hlight
    go_wp2_with fail
    refine (hkn.out _ _ hst).mono ?_
    rintro e w2 ⟨rfl, hst2⟩
    go_wp2_with fail
    go_ret
    exact ⟨rfl, hst.trans hst2⟩
  | false =>
    replace hlight := Lib.hid (hlight rfl)
    by_cases hr0 : room < 0
    · go_wp2_with fail
      refine (hkn.out _ _ hst).mono ?_
      rintro e w2 ⟨rfl, hst2⟩
      go_wp2_with fail
      go_ret
      exact ⟨rfl, hst.trans hst2⟩
    · by_cases hr1 : 1048576 < room
      · have hr0' : 0 ≤ room := by omega
        go_wp2_with fail
        refine (hkn.out _ _ hst).mono ?_
        rintro e w2 ⟨rfl, hst2⟩
        go_wp2_with fail
        go_ret
        exact ⟨rfl, hst.trans hst2⟩
      · obtain ⟨rm, rfl⟩ : ∃ rm : Nat, room = (rm : Int) := ⟨room.toNat, by omega⟩
        have hrm : rm ≤ 1048576 := by omega
        have hr0' : (0 : Int) ≤ (rm : Int) := by omega
        have hr1' : (rm : Int) ≤ 1048576 := by omega
        have hsa := Lib.hid ((start_any rm w1 (by omega) (hT.out.later hst)).mono (R' := fun e w' => ∃ pb d r b c, e = .returned (.tuple #[pt pb, .bool true]) ∧ PrS pb d r b c [97] lg0 ⟨rm, [], none⟩ lg0 ⟨rm, [], none⟩ [] w [] w') (fun e w' ⟨pb, d, r, b, c, he, DH, B, S, E, XH, DR, B2, S2, E2, XH2, g1, g2, g3, g4, s⟩ => ⟨pb, d, r, b, c, he, DH, B, S, E, XH, DR, B2, S2, E2, XH2, g1, g2, g3, g4, Step.trans hst s⟩))
        have hI0 := Lib.hid (linv0 rm (by omega))
        clear hr0 hr1 hst
        go_wp2_with fail
        refine hsa.out.mono ?_
        rintro e w2 ⟨pb, d, r, b, c, rfl, hp⟩
        clear hsa
        have hin : Hid (SpRelP pb d r l.length w (iv 0) w2) := ⟨0, b, c, lg0, _, rfl, Nat.zero_le _, Nat.zero_le _, hI0.out, hp⟩
        clear hp hI0
        go_wp2_with fail
        go_loopw [7] (fun v7 wr => SpRelP pb d r l.length w v7 wr) (fun v _ => 100 - (intOf v).toNat)
        case atStart => exact hin.out
        case round =>
          clear hin
          obtain ⟨i, b, c, lg, k, rfl, hi, hi2, hI, hp⟩ := hrel
          have d0 : (0 : Int) ≤ (i : Int) := by omega
          by_cases hlt : i < l.length
          · have d2 : (i : Int) < (l.length : Int) := by omega
            by_cases h120 : i < 100
            · have d3 : (i : Int) < 100 := by omega
              obtain ⟨x, hx⟩ : ∃ x, l[i]? = some x := ⟨_, List.getElem?_eq_getElem hlt⟩
              obtain ⟨G, hG⟩ := hp.step
              obtain ⟨ab, ao, rfl, hc⟩ := (h.out.later hG).at' hx
              have hxo := hq.out x (List.mem_of_getElem? hx)
              have hxl := hlight.out i x h120 hx
              have hbig : x.big w [] := ⟨fun V F s => old_rd hxo.1 s, by omega, hxo.2.2⟩
              have c0 := hc 0 _ rfl
              have c1 := hc 1 _ rfl
              have c2 := hc 2 _ rfl
              have c3 := hc 3 _ rfl
              simp only [Nat.add_zero] at c0
              obtain ⟨z0, z1, z2, z3⟩ := hp.cells
              obtain ⟨_, _, _, _, _, _, _, x5⟩ := hp.xcells
              by_cases hdead : lg.dead = true ∧ x.kind ≠ 3
              · obtain ⟨hd1, hd2⟩ := hdead
                rw [hd1] at x5
                replace hp := Lib.hid hp
                have hI2 := Lib.hid (hI.mono (show 89478485 + i ≤ 89478485 + (i + 1) by omega))
                obtain ⟨K, N, ba, bn, bc, xd, tear⟩ := x
                simp only at hd2 c0 c1 c2 c3
                clear hx hxo hxl hbig hI hG hc hd1
                go_wp2_with fail
                exact ⟨⟨i + 1, b, c, lg, k, by go_num, by omega, by omega, hI2.out, hp.out⟩, by simp [intOf]; omega⟩
              · have g1 := Lib.hid (does_any x hp hI (by omega) hT0.out hbig)
                have hI2 := linv_step (s := (lg, k)) x hI (by omega) (by omega)
                obtain ⟨⟨lg2, k2⟩, hs2⟩ : ∃ s, s = stepS x (lg, k) := ⟨_, rfl⟩
                rw [← hs2] at g1 hI2
                simp only at hI2
                have g2 := Lib.hid (fun W b c (h : PrS pb d r b c [97] lg2 k2 lg2 k2 [] w [] W) => stood_any h hI2 (by omega))
                replace hs2 := Lib.hid hs2
                replace hp := Lib.hid hp
                replace hI2 := Lib.hid hI2
                obtain ⟨K, N, ba, bn, bc, xd, tear⟩ := x
                simp only at hdead c0 c1 c2 c3
                have g1 : Hid (Calls Tryz.prog 26 #[pt pb, .agg #[ii K, ii N, .slice ba bn bc, u8 tear]] wr (DoP pb d r (lg2, k2) w [])) := g1
                clear hx hxo hxl hbig hI hG hc
                cases hdd : lg.dead with
                | false =>
                  rw [hdd] at x5
                  replace hdd := Lib.hid hdd
                  clear hdead
                  go_wp2_with fail
                  refine g1.out.mono ?_
                  rintro e w4 ⟨rfl, b2, c2', hp2⟩
                  simp only at hp2
                  go_wp2_with fail
                  refine (g2.out _ _ _ hp2).mono ?_
                  rintro e w5 ⟨rfl, hp3⟩
                  go_wp2_with fail
                  exact ⟨⟨i + 1, b2, c2', lg2, k2, by go_num, by omega, by omega, hI2.out, hp3⟩, by simp [intOf]; omega⟩
                | true =>
                  have hk3 : K = 3 := Classical.byContradiction fun e => hdead ⟨hdd, e⟩
                  subst hk3
                  rw [hdd] at x5
                  replace hdd := Lib.hid hdd
                  clear hdead
                  go_wp2_with fail
                  refine g1.out.mono ?_
                  rintro e w4 ⟨rfl, b2, c2', hp2⟩
                  simp only at hp2
                  go_wp2_with fail
                  refine (g2.out _ _ _ hp2).mono ?_
                  rintro e w5 ⟨rfl, hp3⟩
                  go_wp2_with fail
                  exact ⟨⟨i + 1, b2, c2', lg2, k2, by go_num, by omega, by omega, hI2.out, hp3⟩, by simp [intOf]; omega⟩
            · have d3 : (100 : Int) ≤ (i : Int) := by omega
              have hd := hp.done
              go_wp2_with fail
              refine (hkn.out _ _ hd).mono ?_
              rintro e w2 ⟨rfl, hst2⟩
              go_wp2_with fail
              go_ret
              exact ⟨rfl, hd.trans hst2⟩
          · have d2 : (l.length : Int) ≤ (i : Int) := by omega
            have hd := hp.done
            go_wp2_with fail
            refine (hkn.out _ _ hd).mono ?_
            rintro e w2 ⟨rfl, hst2⟩
            go_wp2_with fail
            go_ret
            exact ⟨rfl, hd.trans hst2⟩
end Go.Proofs.YtdolbeonpkanpaaGreatDoor
