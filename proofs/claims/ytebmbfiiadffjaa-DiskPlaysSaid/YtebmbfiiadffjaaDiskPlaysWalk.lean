/- DiskPlays. -/
import Derived.Test.YtebmbfiiadffjaaDpD
import Derived.Test.YtebmbfiiadffjaaDpE
import Derived.Test.YtebmbfiiadffjaaDkO
import Derived.Test.YtebmbfiiadffjaaDrJ
namespace Go.Proofs.Ytebmbfiiadffjaa
open Go.RowKit
attribute [local go_sem ↓] Go.wp_at_zero Go.wp_at_succ

def DpRel (n : Nat) (w : World) (v5 v7 v9 : Value) (wr : World) : Prop :=
  ∃ (i d r : Nat) (k : Dk) (H1 H2 : Heaplet), v9 = iv i ∧ i ≤ n ∧ v5 = pt d ∧ v7 = pt r ∧ k.Ok ∧ DkRep d k H1 ∧ RkRep r k H2 ∧ Sp w [] wr [H1, H2]
set_option maxHeartbeats 8000000 in
set_option maxRecDepth 100000 in
theorem diskPlays_walk (room : Int) (a : Option Addr) (nl cl : Nat) (l : List Stq) (w : World) (_ : (Lit.int .i64 room).wf = true) (h : RdRecs w a nl cl 6 stqCells l) (hq : ∀ x ∈ l, Stq.ok w x) (hll : l.length * 80 ≤ 140737488351232) :
    Calls Try.prog 7 #[ii room, .slice a nl cl] w fun e w' => e = .returned (.bool true) ∧ Below w.heap.size w w' := by
  suffices hs : Calls Try.prog 7 #[ii room, .slice a nl cl] w (KnownPost w) from hs.mono fun e w' hp => ⟨hp.1, hp.2.nil_below⟩
  have hnl := h.1
  subst hnl
  have hhv := Lib.hid (heavy_any a l.length cl l w h (fun x hx => (hq x hx).1) (by omega))
  have hlc : (l.length : Int) ≤ (cl : Int) := by have := h.2.1; omega
  replace h := Lib.hid h
  replace hq := Lib.hid hq
  have b4 : (l.length : Int) ≤ 140737488351232 := by omega
  go_enter Try.func7, Try.ntmps7
  go_wp2_with fail
  refine hhv.out.mono ?_
  rintro e w1 ⟨⟨t, rfl⟩, hst⟩
  have s : Sp w [] w1 [] := (Sp.nil w).still hst
  clear hst hhv
  cases t
  · go_wp2_with fail
    refine (dnew_any room w1).mono ?_
    rintro e w2 (⟨hro, rfl, hst⟩ | ⟨d, H1, hr0, hr1, rfl, hd, hst⟩)
    · have s : Sp w [] w2 [] := s.still hst
      clear hst
      go_wp2_with fail
      refine (rnew_any room w2).mono ?_
      rintro e w3 (⟨_, rfl, hst⟩ | ⟨r, H2, hr0, hr1, rfl, hr, hst⟩)
      · have s : Sp w [] w3 [] := s.still hst
        clear hst
        go_wp2_with fail
        refine (known_any _).mono ?_
        rintro e w18 ⟨rfl, hst18⟩
        go_wp2_with fail
        go_ret
        exact ⟨rfl, (s.still hst18).out (by simp)⟩
      · exfalso; omega
    · have s : Sp w [] w2 [H1] := s.fresh hst
      clear hst
      go_wp2_with fail
      refine (rnew_any room w2).mono ?_
      rintro e w3 (⟨hro, rfl, hst⟩ | ⟨r, H2, _, _, rfl, hr, hst⟩)
      · exfalso; omega
      · have s : Sp w [] w3 [H1, H2] := s.fresh hst
        clear hst
        have hk : (⟨room.toNat, [], none⟩ : Dk).Ok := new_ok (by omega)
        have hin : DpRel l.length w (pt d) (pt r) (iv 0) w3 := ⟨0, d, r, _, H1, H2, rfl, Nat.zero_le _, rfl, rfl, hk, hd, hr, s⟩
        clear s hk hd hr
        replace hin := Lib.hid hin
        have np := fun w b => nil_ptr w b
        have kc := fun (w : World) (C : Array Value) (n c : Nat) => Lib.run_convert_bytes_const (P := Try.prog) w 23 5 C n c Try.underlying23 Try.underlying5
        go_upto_region 9 with fail
        go_wp2_with fail
        go_loopw [5, 7, 9] (fun v5 v7 v9 wr => DpRel l.length w v5 v7 v9 wr) (fun _ _ v _ => 120 - (intOf v).toNat)
        case atStart => exact hin.out
        case round =>
          clear hin hr0 hr1
          obtain ⟨i, d, r, k, H1, H2, rfl, hi, rfl, rfl, hk, hd, hr, s⟩ := hrel
          have d0 : (0 : Int) ≤ (i : Int) := by omega
          by_cases hlt : i < l.length
          · have d2 : (i : Int) < (l.length : Int) := by omega
            by_cases h120 : i < 120
            · have d3 : (i : Int) < 120 := by omega
              obtain ⟨x, hx⟩ : ∃ x, l[i]? = some x := ⟨_, List.getElem?_eq_getElem hlt⟩
              obtain ⟨ab, ao, rfl, hc⟩ := (h.out.later (s.out rfl)).at' hx
              have hxo := hq.out x (List.mem_of_getElem? hx)
              have c0 := hc 0 _ rfl
              simp only [Nat.add_zero] at c0
              by_cases h8 : x.kind = 8
              · obtain ⟨K, N, A, B, ba, bn, bc, xd, tear⟩ := x
                simp only at h8
                subst h8
                have hk1 := cp_ok hk
                obtain ⟨⟨m, k2⟩, hv⟩ : ∃ v, v = gateN [[115, 112, 111, 105, 108, 116]] (wrI [115, 112, 111, 105, 108, 116] [120]) k := ⟨_, rfl⟩
                have hk2 : k2.Ok := by have := gate_ok hk [[115, 112, 111, 105, 108, 116]] (wrI [115, 112, 111, 105, 108, 116] [120]) (fun _ => wr_ok hk _ (by decide) _); rw [← hv] at this; exact this
                have g1 := Lib.hid (fun W H h hW => dcopy d k H W h hk hW)
                have g2 := Lib.hid (fun W H h hW => rcopy r k H W h hk hW)
                have g3 := Lib.hid (fun H W h hW => dwrite_lit d k H [115, 112, 111, 105, 108, 116] [120] _ rfl W h hk hW (by decide) _ hv.symm 1 rfl (1, 2))
                have g4 := Lib.hid (fun H W h hW => dcrash d k2 0 1 H W h hk2 hW (by decide))
                replace hv := Lib.hid hv
                clear hc hx hxo hk hk2
                go_upto_region 12 with fail
                go_wp2_with fail
                refine (g1.out _ H1 hd (s.own 0 rfl)).mono ?_
                rintro e w4 ⟨d', H1', rfl, hd', hst⟩
                have s : Sp w [] w4 [H1, H2, H1'] := (s.put 0 rfl hst).split 0 rfl
                clear hst c0
                go_wp2_with fail
                refine (g2.out _ H2 hr (s.own 1 rfl)).mono ?_
                rintro e w5 ⟨r', H2', rfl, hr', hst⟩
                have s : Sp w [] w5 [H1, H2, H1', H2'] := (s.put 1 rfl hst).split 1 rfl
                clear hst hr
                go_wp2_with fail
                refine (g3.out H1 w5 hd (s.own 0 rfl)).mono ?_
                rintro e w6 ⟨rfl, H1b, hdb, hst⟩
                have s : Sp w [] w6 [H1b, H2, H1', H2'] := s.put 0 rfl hst
                clear hst hd
                go_wp2_with fail
                refine (g4.out H1b w6 hdb (s.own 0 rfl)).mono ?_
                rintro e w7 ⟨rfl, H1c, hdc, hst⟩
                have s : Sp w [] w7 [H1c, H2, H1', H2'] := s.put 0 rfl hst
                clear hst hdb
                go_wp2_with fail
                exact ⟨⟨i + 1, d', r', _, H1', H2', by go_num, by omega, rfl, rfl, hk1, hd', hr', ((s.forget 0 rfl).forget 1 rfl).perm (by simp)⟩, by simp [intOf]; omega⟩
              · have c1 := hc 1 _ rfl
                have c2 := hc 2 _ rfl
                have c3 := hc 3 _ rfl
                have c4 := hc 4 _ rfl
                have c5 := hc 5 _ rfl
                have g1 := Lib.hid (fun W s => does_any d r k x H1 H2 w W hd hr hk s hxo.2)
                have hk2 := step_ok hk x
                obtain ⟨K, N, A, B, ba, bn, bc, xd, tear⟩ := x
                generalize stepN ⟨K, N, A, B, ba, bn, bc, xd, tear⟩ k = k2 at g1 hk2
                simp only at h8 c0 c1 c2 c3 c4 c5
                have g2 := Lib.hid (fun W H1 H2 hd hr s => stood_any d r k2 H1 H2 W hd hr hk2 w s)
                clear hc hx hxo hk hd hr
                go_wp2_with fail
                refine (g1.out _ s).mono ?_
                rintro e w4 ⟨rfl, H1', H2', hd', hr', s⟩
                go_wp2_with fail
                refine (g2.out _ H1' H2' hd' hr' s).mono ?_
                rintro e w5 ⟨rfl, s⟩
                go_wp2_with fail
                exact ⟨⟨i + 1, d, r, _, H1', H2', by go_num, by omega, rfl, rfl, hk2, hd', hr', s⟩, by simp [intOf]; omega⟩
            · have d3 : (120 : Int) ≤ (i : Int) := by omega
              go_wp2_with fail
              refine (known_any _).mono ?_
              rintro e w18 ⟨rfl, hst18⟩
              go_wp2_with fail
              go_ret
              exact ⟨rfl, ((s.still hst18).forget 0 rfl).forget 1 rfl |>.out (by simp)⟩
          · have d2 : (l.length : Int) ≤ (i : Int) := by omega
            go_wp2_with fail
            refine (known_any _).mono ?_
            rintro e w18 ⟨rfl, hst18⟩
            go_wp2_with fail
            go_ret
            exact ⟨rfl, ((s.still hst18).forget 0 rfl).forget 1 rfl |>.out (by simp)⟩
  · go_wp2_with fail
    refine (known_any _).mono ?_
    rintro e w18 ⟨rfl, hst18⟩
    go_wp2_with fail
    go_ret
    exact ⟨rfl, (s.still hst18).out (by simp)⟩
end Go.Proofs.Ytebmbfiiadffjaa
