/- NetPlays. -/
import Derived.Test.YtliapfdbagcklaaNfD
import Derived.Deep.CutBlock
namespace Go.Proofs.Ytliapfdbagcklaa
open Go.RowKit
attribute [local go_sem ↓] Go.wp_at_zero Go.wp_at_succ

def NpAt (b b2 : Nat) (w : World) (wr : World) : Prop :=
  ∃ (ks : List Key) (la lb : List It) (H1 H2 : Heaplet), KOk ks ∧ la.map It.key = ks ∧ lb.map It.key = ks ∧ NetRep 55 b la H1 ∧ NetRep 47 b2 lb H2 ∧ Step w [] wr (H1 ++ H2)
def NpRel (b b2 L : Nat) (w : World) (v : Value) (wr : World) : Prop := ∃ k : Nat, k ≤ L ∧ v = .int .i64 (k : Nat) ∧ NpAt b b2 w wr
def lenAt (b2 : Nat) (w : World) : Nat := match w.cell? ⟨b2, 0, none⟩ with | some (.slice _ n _) => n | _ => 0
theorem lenAt_rep {T b : Nat} {l : List It} {H : Heaplet} (hn : NetRep T b l H) {w : World} (hw : Own w H) : lenAt b w = l.length := by
  obtain ⟨a, c, R, _, rfl, _⟩ := hn
  unfold lenAt
  rw [cells1 hw.h0]
def NSum (L : Nat) (v3 v4 : Value) : Prop := ∃ k s : Nat, k ≤ L ∧ v4 = .int .i64 (k : Nat) ∧ v3 = .int .i64 (s : Nat) ∧ s ≤ 5000
def GaveC (T b : Nat) (f t : Int) (d : List UInt8) (ok : Bool) (ks : List Key) (H : Heaplet) (w : World) (e : Ending) (w' : World) : Prop :=
  ∃ (a : Option Addr) (c : Nat) (l' : List It) (H' HX : Heaplet), e = .returned (.tuple #[.agg #[.int .i64 f, .int .i64 t, .slice a d.length c], .bool ok]) ∧ SlRep 5 1 a d.length c (d.map u8) HX ∧ NetRep T b l' H' ∧ l'.map It.key = ks ∧ Step w H w' (H' ++ HX)
set_option maxHeartbeats 8000000 in
set_option maxRecDepth 100000 in
theorem netPlays_walk (a : Option Addr) (nl cl : Nat) (l : List Stp) (w : World) (h : RdRecs w a nl cl 5 stpCells l) (hq : ∀ x ∈ l, Stp.ok w x) (hll : l.length * 56 ≤ 140737488351232) :
    Calls Try.prog 6 #[.slice a nl cl] w fun e w' => e = .returned (.bool true) ∧ Below w.heap.size w w' := by
  suffices hs : Calls Try.prog 6 #[.slice a nl cl] w (KnownPost w) from hs.mono fun e w' hp => ⟨hp.1, hp.2.nil_below⟩
  have hnl := h.1
  subst hnl
  replace h := Lib.hid h
  replace hq := Lib.hid hq
  have b4 : (l.length : Int) ≤ 140737488351232 := by omega
  go_enter Try.func6, Try.ntmps6
  go_upto_block 0 with fail
  go_cut [4] (fun _ wc => wc = w)
  case first =>
    go_wp2_with fail
    go_loop [3, 4] (fun v3 v4 => NSum l.length v3 v4) (fun _ v4 => 200 - (intOf v4).toNat)
    case atStart => exact ⟨0, 0, Nat.zero_le _, rfl, rfl, by omega⟩
    case round =>
      obtain ⟨k, s, hk, rfl, rfl, hs⟩ := hrel
      have d0 : (0 : Int) ≤ (k : Int) := by omega
      have d1 : (s : Int) ≤ 5000 := by omega
      by_cases hlt : k < l.length
      · have d2 : (k : Int) < (l.length : Int) := by omega
        by_cases h200 : k < 200
        · have d3 : (k : Int) < 200 := by omega
          obtain ⟨x, hx⟩ : ∃ x, l[k]? = some x := ⟨_, List.getElem?_eq_getElem hlt⟩
          obtain ⟨ab, ao, rfl, hc⟩ := h.out.at' hx
          have hc4 := hc 4 _ rfl
          have hc4' : w.cell? ⟨ab, ao + k * 5 + 2 + 2, none⟩ = some (.slice x.a x.n x.c) := hc4
          have hxo := hq.out x (List.mem_of_getElem? hx)
          obtain ⟨m, hm⟩ : ∃ m, m = x.n := ⟨_, rfl⟩
          have hm2 : (m : Int) ≤ 140737488351232 := by
            have := hxo.2.1.1
            have := hxo.2.2
            omega
          rw [← hm] at hc4 hc4'
          clear hc hx hxo
          replace hm := Lib.hid hm
          by_cases hbig : 5000 < (s : Int) + (m : Int)
          · go_wp2_with fail
            go_ret
            exact ⟨rfl, Step.refl (Own.nil _)⟩
          · go_wp2_with fail
            exact ⟨⟨k + 1, s + m, hlt, by go_num, by go_num, by omega⟩, by simp [intOf]; omega⟩
        · have d3 : (200 : Int) ≤ (k : Int) := by omega
          go_wp2_with fail
          go_meet
          exact rfl
      · have d2 : (l.length : Int) ≤ (k : Int) := by omega
        go_wp2_with fail
        go_meet
        exact rfl
  case rest =>
    subst hcut
    obtain ⟨W0, hW0⟩ : ∃ W0, W0 = wc := ⟨_, rfl⟩
    subst hW0
    go_wp2_with fail
    refine (new_any _).mono ?_
    rintro e w1 ⟨rfl, rfl⟩
    have s2 := ((Step.refl (Own.nil W0)).alloc (.cells #[.slice none 0 0] 55)).alloc (.cells #[.slice none 0 0] 47)
    simp only [World.size_alloc] at s2
    have hin : NpAt W0.heap.size (W0.heap.size + 1) W0 ((W0.alloc (.cells #[.slice none 0 0] 55)).alloc (.cells #[.slice none 0 0] 47)) :=
      ⟨[], [], [], _, _, ⟨by simp, by simp⟩, rfl, rfl, netRep_new _ _, netRep_new _ _, s2.perm (List.Perm.refl _) (List.Perm.swap _ _ _)⟩
    clear s2
    replace hin := Lib.hid hin
    go_upto_block 2 with fail
    obtain ⟨b, hb⟩ : ∃ b, b = W0.heap.size := ⟨_, rfl⟩
    rw [← hb] at hin ⊢
    replace hb := Lib.hid hb
    obtain ⟨b2, hb2⟩ : ∃ b2, b2 = b + 1 := ⟨_, rfl⟩
    rw [← hb2] at hin ⊢
    replace hb2 := Lib.hid hb2
    go_cut [7] (fun _ w' => NpAt b b2 W0 w')
    case first =>
      go_wp2_with fail
      go_loopw [7] (fun v wr => NpRel b b2 l.length W0 v wr) (fun v _ => 200 - (intOf v).toNat)
      case atStart => exact ⟨0, Nat.zero_le _, rfl, hin.out⟩
      case round =>
        clear hin
        obtain ⟨k, hk, rfl, ks, la, lb, H1, H2, hko, ka, kb, na, nb, hs⟩ := hrel
        have d0 : (0 : Int) ≤ (k : Int) := by omega
        by_cases hlt : k < l.length
        · have d2 : (k : Int) < (l.length : Int) := by omega
          by_cases h200 : k < 200
          · have d3 : (k : Int) < 200 := by omega
            obtain ⟨x, hx⟩ : ∃ x, l[k]? = some x := ⟨_, List.getElem?_eq_getElem hlt⟩
            obtain ⟨ab, ao, rfl, hc⟩ := (h.out.later hs).at' hx
            have hxo := hq.out x (List.mem_of_getElem? hx)
            obtain ⟨K, N, F, T, xa, xn, xc, d⟩ := x
            have hc0 := hc 0 _ rfl
            have hc1 := hc 1 _ rfl
            have hc2 := hc 2 _ rfl
            have hc3 := hc 3 _ rfl
            have hc4 := hc 4 _ rfl
            simp only [Nat.add_zero] at hc0 hc1 hc2 hc3 hc4
            obtain ⟨wN, hrd, hdl⟩ := hxo
            simp only at wN hrd hdl
            obtain rfl := hrd.1
            have hN : N ≤ 9223372036854775807 := by
              have := wN
              simp [Lit.wf, IntKind.min, IntKind.max, IntKind.bits, IntKind.signed] at this
              omega
            replace hrd := Lib.hid hrd
            clear hc hx wN
            have hxs := hs.alloc (.cells #[.int .i64 K, .int .i64 N, .int .i64 F, .int .i64 T, .slice xa d.length xc] 43)
            replace ka := Lib.hid ka
            replace kb := Lib.hid kb
            replace na := Lib.hid na
            replace nb := Lib.hid nb
            replace hko := Lib.hid hko
            go_upto_region 17 with fail
            generalize wr.heap.size = xb at hxs ⊢
            refine Step.gen hxs ?_
            clear hxs
            intro WL sL
            have sL : Step W0 [] WL (H1 ++ (H2 ++ [(xb, .cells #[.int .i64 K, .int .i64 N, .int .i64 F, .int .i64 T, .slice xa d.length xc] 43 (0, 0))])) := sL.perm (List.Perm.refl _) (by rw [← List.append_assoc]; exact List.perm_append_comm (l₁ := [_]) (l₂ := H1 ++ H2))
            clear hs hc0 hc1 hc2 hc3 hc4
            obtain ⟨y0, y1, y2, y3, y4⟩ := cells5 sL.own.right.right.h0
            go_upto_block 4 with fail
            go_cut [9] (fun v9 w' => v9 = .bool true ∧ NpAt b b2 W0 w')
            case first =>
              have hK : K = 1 ∨ K = 2 ∨ K = 3 ∨ K = 4 ∨ K = 5 ∨ (K ≠ 1 ∧ K ≠ 2 ∧ K ≠ 3 ∧ K ≠ 4 ∧ K ≠ 5) := by omega
              rcases hK with rfl | rfl | rfl | rfl | rfl | ⟨k1, k2, k3, k4, k5⟩
              · have hp1 : Hid (∀ (rg rc : Nat) W, Own W H1 → RdBytes W (some ⟨rg, 0, none⟩) d.length rc d → Calls Try.prog 10 #[.pointer (some ⟨b, 0, none⟩), .agg #[.int .i64 F, .int .i64 T, .slice (some ⟨rg, 0, none⟩) d.length rc]] W (OneB 55 b (decide (ks.length < 1024)) (sentK ks (F, T, d)) H1 W)) :=
                  fun rg rc W hW hR => (send_any b la H1 F T _ _ _ d W na.out hW hR (by omega)).mono fun e w' hq => send_one hq ka.out
                have hp2 : Hid (∀ W, Own W H2 → RdBytes W xa d.length xc d → Calls Try.prog 19 #[.pointer (some ⟨b2, 0, none⟩), .agg #[.int .i64 F, .int .i64 T, .slice xa d.length xc]] W (OneB 47 b2 (decide (ks.length < 1024)) (sentK ks (F, T, d)) H2 W)) :=
                  fun W hW hR => (rsend_any b2 lb H2 F T _ _ _ d W nb.out hW hR (by omega)).mono fun e w' hq => send_one hq kb.out
                have hok2 := Lib.hid (kok_sent hko.out (k := (F, T, d)) hdl)
                generalize decide (ks.length < 1024) = r at hp1 hp2
                generalize sentK ks (F, T, d) = ks' at hp1 hp2 hok2
                unfold OneB at hp1 hp2
                have q1 : (r == r) = true := by simp
                have e0 : (d.length : Int) ≤ 140737488351232 := by omega
                go_wp2_with fail
                refine (roomy_any xa d.length xc d _ (hrd.out.later sL (by simp [dom])) hdl).mono ?_
                rintro e w3 ⟨rg, rc, RH, rfl, hcap, hrr, hst3⟩
                have sL : Step W0 [] w3 (H1 ++ (H2 ++ ((xb, .cells #[.int .i64 1, .int .i64 N, .int .i64 F, .int .i64 T, .slice xa d.length xc] 43 (0, 0)) :: RH))) := (sL.call0 hst3).perm (List.Perm.refl _) (List.Perm.of_eq (by simp))
                have e1 : (d.length : Int) + 2 ≤ (rc : Int) := by omega
                have e2 : d.length ≤ rc := by omega
                replace hrr := Lib.hid hrr
                clear y0 y1 y2 y3 y4 hst3
                go_wp2_with fail
                have sL := sL.drew
                refine wp_region_J 27 (fun w' => w'.cell? ⟨xb, 2, none⟩ = some (.int .i64 F) ∧ w'.cell? ⟨xb, 3, none⟩ = some (.int .i64 T) ∧ w'.cell? ⟨xb, 4, none⟩ = some (.slice xa d.length xc)) (by kernel_rfl) ?_ (fun hF => ?_)
                · (try dsimp only)
                  all_goals (exact (cells5 sL.own.right.right.h0).2.2)
                refine wpAnyJ_take0 (i := 0) (oi := { dst := some 67, op := Go.Op.move (Go.Operand.tmp 5), type := 24, pos := "law.go:90", after := #[], guard := none }) (v := ?_) rfl (by kernel_rfl) (by kernel_rfl) (by kernel_rfl) (by kernel_rfl) (fun _ _ _ h => h) (by first | exact fun _ => hF | exact fun _ => hF (by kernel_rfl)) (fun w => ?_) (by rfl) ?_
                rotate_left
                · first | (go_simp; done) | (go_simp; with_reducible rfl) | (go_split_ands; go_simp; done)
                try simp only [Act.put, List.setIfInBounds_toArray, List.set_cons_zero, List.set_cons_succ]
                refine wpAnyJ_take0 (i := 1) (oi := { dst := some 68, op := Go.Op.fieldAddr 43 (Go.Operand.tmp 8) 2, type := 0, pos := "law.go:90", after := #[], guard := none }) (v := ?_) rfl (by kernel_rfl) (by kernel_rfl) (by kernel_rfl) (by kernel_rfl) (fun _ _ _ h => h) (by first | exact fun _ => hF | exact fun _ => hF (by kernel_rfl)) (fun w => ?_) (by rfl) ?_
                rotate_left
                · first | (go_simp; done) | (go_simp; with_reducible rfl) | (go_split_ands; go_simp; done)
                try simp only [Act.put, List.setIfInBounds_toArray, List.set_cons_zero, List.set_cons_succ]
                refine wpAnyJ_take0 (i := 2) (oi := { dst := some 69, op := Go.Op.fieldAddr 28 (Go.Operand.tmp 68) 0, type := 0, pos := "law.go:90", after := #[{ on := 1, ground := Go.Ground.data }], guard := none }) (v := ?_) rfl (by kernel_rfl) (by kernel_rfl) (by kernel_rfl) (by kernel_rfl) (fun _ _ _ h => h) (by first | exact fun _ => hF | exact fun _ => hF (by kernel_rfl)) (fun w => ?_) (by rfl) ?_
                rotate_left
                · first | (go_simp; done) | (go_simp; with_reducible rfl) | (go_split_ands; go_simp; done)
                try simp only [Act.put, List.setIfInBounds_toArray, List.set_cons_zero, List.set_cons_succ]
                refine wpAnyJ_take (i := 3) (oi := { dst := some 70, op := Go.Op.load 3 (Go.Operand.tmp 69), type := 3, pos := "law.go:90", after := #[{ on := 2, ground := Go.Ground.data }], guard := none }) (v := ?_) [27] rfl (by kernel_rfl) (by kernel_rfl) (by kernel_rfl) (by kernel_rfl) (by kernel_rfl) (fun _ _ _ h => h) (by first | exact hF | exact hF (by kernel_rfl)) (fun w hFw => ?_) (by rfl) ?_
                rotate_left
                · ((try dsimp only at hFw); first | (go_simp; done) | (go_simp; with_reducible rfl) | (go_split_ands; go_simp; done))
                try simp only [Act.put, List.setIfInBounds_toArray, List.set_cons_zero, List.set_cons_succ]
                refine wpAnyJ_take0 (i := 4) (oi := { dst := some 71, op := Go.Op.fieldAddr 43 (Go.Operand.tmp 8) 2, type := 0, pos := "law.go:90", after := #[], guard := none }) (v := ?_) rfl (by kernel_rfl) (by kernel_rfl) (by kernel_rfl) (by kernel_rfl) (fun _ _ _ h => h) (by first | exact fun _ => hF | exact fun _ => hF (by kernel_rfl)) (fun w => ?_) (by rfl) ?_
                rotate_left
                · first | (go_simp; done) | (go_simp; with_reducible rfl) | (go_split_ands; go_simp; done)
                try simp only [Act.put, List.setIfInBounds_toArray, List.set_cons_zero, List.set_cons_succ]
                refine wpAnyJ_take0 (i := 5) (oi := { dst := some 72, op := Go.Op.fieldAddr 28 (Go.Operand.tmp 71) 1, type := 0, pos := "law.go:90", after := #[{ on := 4, ground := Go.Ground.data }], guard := none }) (v := ?_) rfl (by kernel_rfl) (by kernel_rfl) (by kernel_rfl) (by kernel_rfl) (fun _ _ _ h => h) (by first | exact fun _ => hF | exact fun _ => hF (by kernel_rfl)) (fun w => ?_) (by rfl) ?_
                rotate_left
                · first | (go_simp; done) | (go_simp; with_reducible rfl) | (go_split_ands; go_simp; done)
                try simp only [Act.put, List.setIfInBounds_toArray, List.set_cons_zero, List.set_cons_succ]
                refine wpAnyJ_take (i := 6) (oi := { dst := some 73, op := Go.Op.load 3 (Go.Operand.tmp 72), type := 3, pos := "law.go:90", after := #[{ on := 5, ground := Go.Ground.data }], guard := none }) (v := ?_) [27] rfl (by kernel_rfl) (by kernel_rfl) (by kernel_rfl) (by kernel_rfl) (by kernel_rfl) (fun _ _ _ h => h) (by first | exact hF | exact hF (by kernel_rfl)) (fun w hFw => ?_) (by rfl) ?_
                rotate_left
                · ((try dsimp only at hFw); first | (go_simp; done) | (go_simp; with_reducible rfl) | (go_split_ands; go_simp; done))
                try simp only [Act.put, List.setIfInBounds_toArray, List.set_cons_zero, List.set_cons_succ]
                refine wpAnyJ_take0 (i := 7) (oi := { dst := some 74, op := Go.Op.move (Go.Operand.tmp 10), type := 23, pos := "law.go:90", after := #[], guard := none }) (v := ?_) rfl (by kernel_rfl) (by kernel_rfl) (by kernel_rfl) (by kernel_rfl) (fun _ _ _ h => h) (by first | exact fun _ => hF | exact fun _ => hF (by kernel_rfl)) (fun w => ?_) (by rfl) ?_
                rotate_left
                · first | (go_simp; done) | (go_simp; with_reducible rfl) | (go_split_ands; go_simp; done)
                try simp only [Act.put, List.setIfInBounds_toArray, List.set_cons_zero, List.set_cons_succ]
                refine wpAnyJ_take0 (i := 8) (oi := { dst := some 75, op := Go.Op.fieldAddr 43 (Go.Operand.tmp 8) 2, type := 0, pos := "law.go:90", after := #[], guard := none }) (v := ?_) rfl (by kernel_rfl) (by kernel_rfl) (by kernel_rfl) (by kernel_rfl) (fun _ _ _ h => h) (by first | exact fun _ => hF | exact fun _ => hF (by kernel_rfl)) (fun w => ?_) (by rfl) ?_
                rotate_left
                · first | (go_simp; done) | (go_simp; with_reducible rfl) | (go_split_ands; go_simp; done)
                try simp only [Act.put, List.setIfInBounds_toArray, List.set_cons_zero, List.set_cons_succ]
                refine wpAnyJ_take0 (i := 9) (oi := { dst := some 76, op := Go.Op.fieldAddr 28 (Go.Operand.tmp 75) 2, type := 0, pos := "law.go:90", after := #[{ on := 8, ground := Go.Ground.data }], guard := none }) (v := ?_) rfl (by kernel_rfl) (by kernel_rfl) (by kernel_rfl) (by kernel_rfl) (fun _ _ _ h => h) (by first | exact fun _ => hF | exact fun _ => hF (by kernel_rfl)) (fun w => ?_) (by rfl) ?_
                rotate_left
                · first | (go_simp; done) | (go_simp; with_reducible rfl) | (go_split_ands; go_simp; done)
                try simp only [Act.put, List.setIfInBounds_toArray, List.set_cons_zero, List.set_cons_succ]
                refine wpAnyJ_take (i := 10) (oi := { dst := some 77, op := Go.Op.load 23 (Go.Operand.tmp 76), type := 23, pos := "law.go:90", after := #[{ on := 9, ground := Go.Ground.data }], guard := none }) (v := ?_) [27] rfl (by kernel_rfl) (by kernel_rfl) (by kernel_rfl) (by kernel_rfl) (by kernel_rfl) (fun _ _ _ h => h) (by first | exact hF | exact hF (by kernel_rfl)) (fun w hFw => ?_) (by rfl) ?_
                rotate_left
                · ((try dsimp only at hFw); first | (go_simp; done) | (go_simp; with_reducible rfl) | (go_split_ands; go_simp; done))
                try simp only [Act.put, List.setIfInBounds_toArray, List.set_cons_zero, List.set_cons_succ]
                refine wpAnyJ_take (i := 11) (oi := { dst := some 78, op := Go.Op.call { callee := Go.Callee.builtin Go.Builtin.len, args := #[Go.Operand.tmp 77], argTypes := #[23] }, type := 3, pos := "law.go:90", after := #[{ on := 10, ground := Go.Ground.data }], guard := none }) (v := ?_) [27] rfl (by kernel_rfl) (by kernel_rfl) (by kernel_rfl) (by kernel_rfl) (by kernel_rfl) (fun _ _ _ h => h) (by first | exact hF | exact hF (by kernel_rfl)) (fun w hFw => ?_) (by rfl) ?_
                rotate_left
                · ((try dsimp only at hFw); first | (go_simp; done) | (go_simp; with_reducible rfl) | (go_split_ands; go_simp; done))
                try simp only [Act.put, List.setIfInBounds_toArray, List.set_cons_zero, List.set_cons_succ]
                refine wpAnyJ_take0 (i := 12) (oi := { dst := some 79, op := Go.Op.slice 23 (Go.Operand.tmp 74) none (some (Go.Operand.tmp 78)) none, type := 23, pos := "law.go:90", after := #[{ on := 7, ground := Go.Ground.data }, { on := 11, ground := Go.Ground.data }], guard := none }) (v := ?_) rfl (by kernel_rfl) (by kernel_rfl) (by kernel_rfl) (by kernel_rfl) (fun _ _ _ h => h) (by first | exact fun _ => hF | exact fun _ => hF (by kernel_rfl)) (fun w => ?_) (by rfl) ?_
                rotate_left
                · first | (go_simp; done) | (go_simp; with_reducible rfl) | (go_split_ands; go_simp; done)
                try simp only [Act.put, List.setIfInBounds_toArray, List.set_cons_zero, List.set_cons_succ]
                refine wpAnyJ_take0 (i := 13) (oi := { dst := some 80, op := Go.Op.build 28 #[(0, Go.Operand.tmp 70), (1, Go.Operand.tmp 73), (2, Go.Operand.tmp 79)], type := 28, pos := "law.go:90", after := #[{ on := 3, ground := Go.Ground.data }, { on := 6, ground := Go.Ground.data }, { on := 12, ground := Go.Ground.data }], guard := none }) (v := ?_) rfl (by kernel_rfl) (by kernel_rfl) (by kernel_rfl) (by kernel_rfl) (fun _ _ _ h => h) (by first | exact fun _ => hF | exact fun _ => hF (by kernel_rfl)) (fun w => ?_) (by rfl) ?_
                rotate_left
                · first | (go_simp; done) | (go_simp; with_reducible rfl) | (go_split_ands; go_simp; done)
                try simp only [Act.put, List.setIfInBounds_toArray, List.set_cons_zero, List.set_cons_succ]
                refine wpAnyJ_take0 (i := 15) (oi := { dst := some 82, op := Go.Op.move (Go.Operand.tmp 6), type := 44, pos := "law.go:90", after := #[], guard := none }) (v := ?_) rfl (by kernel_rfl) (by kernel_rfl) (by kernel_rfl) (by kernel_rfl) (fun _ _ _ h => h) (by first | exact fun _ => hF | exact fun _ => hF (by kernel_rfl)) (fun w => ?_) (by rfl) ?_
                rotate_left
                · first | (go_simp; done) | (go_simp; with_reducible rfl) | (go_split_ands; go_simp; done)
                try simp only [Act.put, List.setIfInBounds_toArray, List.set_cons_zero, List.set_cons_succ]
                refine wpAnyJ_take0 (i := 16) (oi := { dst := some 83, op := Go.Op.fieldAddr 43 (Go.Operand.tmp 8) 2, type := 0, pos := "law.go:90", after := #[], guard := none }) (v := ?_) rfl (by kernel_rfl) (by kernel_rfl) (by kernel_rfl) (by kernel_rfl) (fun _ _ _ h => h) (by first | exact fun _ => hF | exact fun _ => hF (by kernel_rfl)) (fun w => ?_) (by rfl) ?_
                rotate_left
                · first | (go_simp; done) | (go_simp; with_reducible rfl) | (go_split_ands; go_simp; done)
                try simp only [Act.put, List.setIfInBounds_toArray, List.set_cons_zero, List.set_cons_succ]
                refine wpAnyJ_take (i := 17) (oi := { dst := some 84, op := Go.Op.load 28 (Go.Operand.tmp 83), type := 28, pos := "law.go:90", after := #[{ on := 16, ground := Go.Ground.data }], guard := none }) (v := ?_) [27] rfl (by kernel_rfl) (by kernel_rfl) (by kernel_rfl) (by kernel_rfl) (by kernel_rfl) (fun _ _ _ h => h) (by first | exact hF | exact hF (by kernel_rfl)) (fun w hFw => ?_) (by rfl) ?_
                rotate_left
                · ((try dsimp only at hFw); first | (go_simp; done) | (go_simp; with_reducible rfl) | (go_split_ands; go_simp; done))
                try simp only [Act.put, List.setIfInBounds_toArray, List.set_cons_zero, List.set_cons_succ]
                refine wpAnyJ_ready (rs := [14]) (by kernel_rfl) (by simp) ?_
                refine AllJ.cons (o := { dst := some 81, op := Go.Op.call { callee := Go.Callee.value (Go.Operand.func 10), args := #[Go.Operand.tmp 67, Go.Operand.tmp 80], argTypes := #[24, 28] }, type := 4, pos := "law.go:90", after := #[{ on := 0, ground := Go.Ground.data }, { on := 13, ground := Go.Ground.data }], guard := none }) rfl (fun Kr hKr => ?_) ?_
                · go_simp; go_at_call 10; refine (hp1.out rg rc _ sL.own.left (room_rd hrr.out sL.own.right.right.tail)).mono ?_; rintro e w4 ⟨rfl, la', H1', na', ka', hst⟩
                  have sL := sL.call hst
                  refine hKr.out _ _ (fun hJ => ?_) (fun hF => ?_)
                  · first
                    | exact absurd hJ (by decide)
                    | (clear hJ; (try dsimp only); all_goals (exact (cells5 sL.own.right.right.h0).2.2))
                  clear hKr
                  try simp only [Act.put, List.setIfInBounds_toArray, List.set_cons_zero, List.set_cons_succ]
                  refine wpAnyJ_ready (rs := [18]) (by kernel_rfl) (by simp) ?_
                  refine AllJ.cons (o := { dst := some 85, op := Go.Op.call { callee := Go.Callee.value (Go.Operand.func 19), args := #[Go.Operand.tmp 82, Go.Operand.tmp 84], argTypes := #[44, 28] }, type := 4, pos := "law.go:90", after := #[{ on := 15, ground := Go.Ground.data }, { on := 17, ground := Go.Ground.data }, { on := 14, ground := Go.Ground.chain }], guard := none }) rfl (fun Kr hKr => ?_) ?_
                  · go_simp; go_at_call 19; refine (hp2.out _ sL.own.right.left (hrd.out.later sL (by simp [dom]))).mono ?_; rintro e w5 ⟨rfl, lb', H2', nb', kb', hst2⟩
                    have sL := Step.mid sL hst2
                    refine hKr.out _ _ (fun hJ => ?_) (fun hF => ?_)
                    · first
                      | exact absurd hJ (by decide)
                      | (clear hJ; (try dsimp only); all_goals (exact (cells5 sL.own.right.right.h0).2.2))
                    clear hKr
                    try simp only [Act.put, List.setIfInBounds_toArray, List.set_cons_zero, List.set_cons_succ]
                    refine wpAnyJ_take0 (i := 19) (oi := { dst := some 86, op := Go.Op.binOp Go.BinOp.eql 4 (Go.Operand.tmp 81) (Go.Operand.tmp 85) 4, type := 4, pos := "law.go:90", after := #[{ on := 14, ground := Go.Ground.data }, { on := 18, ground := Go.Ground.data }], guard := none }) (v := ?_) rfl (by kernel_rfl) (by kernel_rfl) (by kernel_rfl) (by kernel_rfl) (fun _ _ _ h => h) (by first | exact fun _ => hF | exact fun _ => hF (by kernel_rfl)) (fun w => ?_) (by rfl) ?_
                    rotate_left
                    · first | (go_simp; done) | (go_simp; with_reducible rfl) | (go_split_ands; go_simp; done)
                    try simp only [Act.put, List.setIfInBounds_toArray, List.set_cons_zero, List.set_cons_succ]
                    refine wpAnyJ_take0 (i := 20) (oi := { dst := some 87, op := Go.Op.move (Go.Operand.tmp 86), type := 4, pos := "law.go:90", after := #[{ on := 19, ground := Go.Ground.data }, { on := 18, ground := Go.Ground.chain }], guard := none }) (v := ?_) rfl (by kernel_rfl) (by kernel_rfl) (by kernel_rfl) (by kernel_rfl) (fun _ _ _ h => h) (by first | exact fun _ => hF | exact fun _ => hF (by kernel_rfl)) (fun w => ?_) (by rfl) ?_
                    rotate_left
                    · first | (go_simp; done) | (go_simp; with_reducible rfl) | (go_split_ands; go_simp; done)
                    try simp only [Act.put, List.setIfInBounds_toArray, List.set_cons_zero, List.set_cons_succ]
                    first
                    | refine wpAnyJ_skip0 (i := 21) (oi := { dst := some 88, op := Go.Op.move (Go.Operand.tmp 10), type := 23, pos := "law.go:90", after := #[{ on := 20, ground := Go.Ground.guard }], guard := some (20, true) }) rfl (by kernel_rfl) (by kernel_rfl) (by kernel_rfl) (by kernel_rfl) (fun _ _ _ h => h) (by first | exact fun _ => hF | exact fun _ => hF (by kernel_rfl)) (by rfl) ?_
                    | (refine wpAnyJ_take0 (i := 21) (oi := { dst := some 88, op := Go.Op.move (Go.Operand.tmp 10), type := 23, pos := "law.go:90", after := #[{ on := 20, ground := Go.Ground.guard }], guard := some (20, true) }) (v := ?_) rfl (by kernel_rfl) (by kernel_rfl) (by kernel_rfl) (by kernel_rfl) (fun _ _ _ h => h) (by first | exact fun _ => hF | exact fun _ => hF (by kernel_rfl)) (fun w => ?_) (by rfl) ?_
                       rotate_left
                       · first | (go_simp; done) | (go_simp; with_reducible rfl) | (go_split_ands; go_simp; done))
                    try simp only [Act.put, List.setIfInBounds_toArray, List.set_cons_zero, List.set_cons_succ]
                    first
                    | refine wpAnyJ_skip0 (i := 22) (oi := { dst := some 89, op := Go.Op.fieldAddr 43 (Go.Operand.tmp 8) 2, type := 0, pos := "law.go:90", after := #[{ on := 20, ground := Go.Ground.guard }], guard := some (20, true) }) rfl (by kernel_rfl) (by kernel_rfl) (by kernel_rfl) (by kernel_rfl) (fun _ _ _ h => h) (by first | exact fun _ => hF | exact fun _ => hF (by kernel_rfl)) (by rfl) ?_
                    | (refine wpAnyJ_take0 (i := 22) (oi := { dst := some 89, op := Go.Op.fieldAddr 43 (Go.Operand.tmp 8) 2, type := 0, pos := "law.go:90", after := #[{ on := 20, ground := Go.Ground.guard }], guard := some (20, true) }) (v := ?_) rfl (by kernel_rfl) (by kernel_rfl) (by kernel_rfl) (by kernel_rfl) (fun _ _ _ h => h) (by first | exact fun _ => hF | exact fun _ => hF (by kernel_rfl)) (fun w => ?_) (by rfl) ?_
                       rotate_left
                       · first | (go_simp; done) | (go_simp; with_reducible rfl) | (go_split_ands; go_simp; done))
                    try simp only [Act.put, List.setIfInBounds_toArray, List.set_cons_zero, List.set_cons_succ]
                    first
                    | refine wpAnyJ_skip0 (i := 23) (oi := { dst := some 90, op := Go.Op.fieldAddr 28 (Go.Operand.tmp 89) 2, type := 0, pos := "law.go:90", after := #[{ on := 22, ground := Go.Ground.data }, { on := 20, ground := Go.Ground.guard }], guard := some (20, true) }) rfl (by kernel_rfl) (by kernel_rfl) (by kernel_rfl) (by kernel_rfl) (fun _ _ _ h => h) (by first | exact fun _ => hF | exact fun _ => hF (by kernel_rfl)) (by rfl) ?_
                    | (refine wpAnyJ_take0 (i := 23) (oi := { dst := some 90, op := Go.Op.fieldAddr 28 (Go.Operand.tmp 89) 2, type := 0, pos := "law.go:90", after := #[{ on := 22, ground := Go.Ground.data }, { on := 20, ground := Go.Ground.guard }], guard := some (20, true) }) (v := ?_) rfl (by kernel_rfl) (by kernel_rfl) (by kernel_rfl) (by kernel_rfl) (fun _ _ _ h => h) (by first | exact fun _ => hF | exact fun _ => hF (by kernel_rfl)) (fun w => ?_) (by rfl) ?_
                       rotate_left
                       · first | (go_simp; done) | (go_simp; with_reducible rfl) | (go_split_ands; go_simp; done))
                    try simp only [Act.put, List.setIfInBounds_toArray, List.set_cons_zero, List.set_cons_succ]
                    first
                    | refine wpAnyJ_skip0 (i := 24) (oi := { dst := some 91, op := Go.Op.load 23 (Go.Operand.tmp 90), type := 23, pos := "law.go:90", after := #[{ on := 23, ground := Go.Ground.data }, { on := 20, ground := Go.Ground.guard }], guard := some (20, true) }) rfl (by kernel_rfl) (by kernel_rfl) (by kernel_rfl) (by kernel_rfl) (fun _ _ _ h => h) (by first | exact fun _ => hF | exact fun _ => hF (by kernel_rfl)) (by rfl) ?_
                    | (refine wpAnyJ_take (i := 24) (oi := { dst := some 91, op := Go.Op.load 23 (Go.Operand.tmp 90), type := 23, pos := "law.go:90", after := #[{ on := 23, ground := Go.Ground.data }, { on := 20, ground := Go.Ground.guard }], guard := some (20, true) }) (v := ?_) [27] rfl (by kernel_rfl) (by kernel_rfl) (by kernel_rfl) (by kernel_rfl) (by kernel_rfl) (fun _ _ _ h => h) (by first | exact hF | exact hF (by kernel_rfl)) (fun w hFw => ?_) (by rfl) ?_
                       rotate_left
                       · ((try dsimp only at hFw); first | (go_simp; done) | (go_simp; with_reducible rfl) | (go_split_ands; go_simp; done)))
                    try simp only [Act.put, List.setIfInBounds_toArray, List.set_cons_zero, List.set_cons_succ]
                    refine wpAnyJ_ready (rs := [25]) (by kernel_rfl) (by simp) ?_
                    refine AllJ.cons (o := { dst := some 92, op := Go.Op.call { callee := Go.Callee.value (Go.Operand.func 20), args := #[Go.Operand.tmp 88, Go.Operand.tmp 91], argTypes := #[23, 23] }, type := 4, pos := "law.go:90", after := #[{ on := 21, ground := Go.Ground.data }, { on := 24, ground := Go.Ground.data }, { on := 20, ground := Go.Ground.chain }, { on := 20, ground := Go.Ground.guard }], guard := some (20, true) }) rfl (fun Kr hKr => ?_) ?_
                    · go_simp; go_at_call 20; refine (stands_any rg rc xa d.length xc d RH _ hrr.out sL.own.right.right.tail (hrd.out.later sL (by simp [dom])) hdl).mono ?_; rintro e w6 ⟨rfl, h6⟩
                      have sL := sL.call0 h6
                      rw [List.append_nil] at sL
                      refine hKr.out _ _ (fun hJ => ?_) (fun hF => ?_)
                      · first
                        | exact absurd hJ (by decide)
                        | (clear hJ; (try dsimp only); all_goals (exact (cells5 sL.own.right.right.h0).2.2))
                      clear hKr
                      try simp only [Act.put, List.setIfInBounds_toArray, List.set_cons_zero, List.set_cons_succ]
                      refine wpAnyJ_take0 (i := 26) (oi := { dst := some 93, op := Go.Op.pick (Go.Operand.tmp 87) (Go.Operand.tmp 92) (Go.Operand.const (Go.Value.bool false)), type := 4, pos := "law.go:90", after := #[{ on := 20, ground := Go.Ground.data }, { on := 25, ground := Go.Ground.data }], guard := none }) (v := ?_) rfl (by kernel_rfl) (by kernel_rfl) (by kernel_rfl) (by kernel_rfl) (fun _ _ _ h => h) (by first | exact fun _ => hF | exact fun _ => hF (by kernel_rfl)) (fun w => ?_) (by rfl) ?_
                      rotate_left
                      · first | (go_simp; done) | (go_simp; with_reducible rfl) | (go_split_ands; go_simp; done)
                      try simp only [Act.put, List.setIfInBounds_toArray, List.set_cons_zero, List.set_cons_succ]
                      refine wpAnyJ_ready (rs := [27]) (by kernel_rfl) (by simp) ?_
                      refine AllJ.cons (o := { dst := some 9, op := Go.Op.assign (Go.Operand.tmp 93), type := 4, pos := "law.go:90", after := #[{ on := 26, ground := Go.Ground.data }, { on := 25, ground := Go.Ground.chain }, { on := 0, ground := Go.Ground.phase }, { on := 1, ground := Go.Ground.phase }, { on := 2, ground := Go.Ground.phase }, { on := 3, ground := Go.Ground.phase }, { on := 4, ground := Go.Ground.phase }, { on := 5, ground := Go.Ground.phase }, { on := 6, ground := Go.Ground.phase }, { on := 7, ground := Go.Ground.phase }, { on := 8, ground := Go.Ground.phase }, { on := 9, ground := Go.Ground.phase }, { on := 10, ground := Go.Ground.phase }, { on := 11, ground := Go.Ground.phase }, { on := 12, ground := Go.Ground.phase }, { on := 13, ground := Go.Ground.phase }, { on := 14, ground := Go.Ground.phase }, { on := 15, ground := Go.Ground.phase }, { on := 16, ground := Go.Ground.phase }, { on := 17, ground := Go.Ground.phase }, { on := 18, ground := Go.Ground.phase }, { on := 19, ground := Go.Ground.phase }, { on := 20, ground := Go.Ground.phase }, { on := 21, ground := Go.Ground.phase }, { on := 22, ground := Go.Ground.phase }, { on := 23, ground := Go.Ground.phase }, { on := 24, ground := Go.Ground.phase }, { on := 25, ground := Go.Ground.phase }, { on := 26, ground := Go.Ground.phase }], guard := none }) rfl (fun Kr hKr => ?_) ?_
                      · go_simp
                        refine hKr.out _ _ (fun hJ => ?_) (fun hF => ?_)
                        · first
                          | exact absurd hJ (by decide)
                          | (clear hJ; (try dsimp only); all_goals (exact (cells5 sL.own.right.right.h0).2.2))
                        clear hKr
                        try simp only [Act.put, List.setIfInBounds_toArray, List.set_cons_zero, List.set_cons_succ]
                        refine wpAnyJ_done (by kernel_rfl) ?_ _
                        replace ka' := Lib.hid ka'
                        replace kb' := Lib.hid kb'
                        go_wp2_with fail
                        refine (spoil_any (some ⟨rg, 0, none⟩) (d.length + 1) rc _ RH _ (SlRep.upto hrr.out (i := d.length + 1) (by omega)) sL.own.right.right.tail (by omega)).mono ?_
                        rintro e w7 ⟨rfl, RH2, h7⟩
                        have sM := Step.callR (R := H1' ++ (H2' ++ [(xb, .cells #[.int .i64 1, .int .i64 N, .int .i64 F, .int .i64 T, .slice xa d.length xc] 43 (0, 0))])) (sL.perm (List.Perm.refl _) (List.Perm.of_eq (by simp))) h7
                        go_wp2_with fail
                        go_meet
                        exact ⟨rfl, ks', la', lb', H1', H2', hok2.out, ka'.out, kb'.out, na', nb', Step.forget (B := [_]) (by rw [List.append_assoc]; exact sM.forget)⟩
                      exact AllJ.nil
                    exact AllJ.nil
                  exact AllJ.nil
                exact AllJ.nil
              ·
                obtain ⟨⟨⟨f, t, dd⟩, ok⟩, hv⟩ : ∃ v, v = giveV ks (pickOf ks.length N) := ⟨_, rfl⟩
                have hg1 := fun W hW => give_one b la H1 N W na.out hW ka.out hko.out.1 hN
                have hg2 := fun W hW => rgive_one b2 lb H2 N W nb.out hW kb.out hko.out.1 hN
                have hdd := give_ok_d hko.out (pickOf ks.length N)
                have hok2 := Lib.hid (kok_erase hko.out (pickOf ks.length N))
                rw [← hv] at hg1 hg2 hdd
                unfold GiveOne at hg1 hg2
                simp only at hg1 hg2 hdd
                generalize ks.eraseIdx (pickOf ks.length N) = ks' at hg1 hg2 hok2
                replace hv := Lib.hid hv
                replace hg1 := Lib.hid hg1
                replace hg2 := Lib.hid hg2
                have q1 : (ok == ok) = true := by simp
                clear y0 y2 y3 y4
                go_wp2_with fail
                refine (hg1.out _ sL.own.left).mono ?_
                rintro e w4 ⟨a1, c1, la', H1', X1, rfl, r1, na', ka', hst⟩
                have sL : Step W0 [] w4 (H1' ++ (X1 ++ (H2 ++ [(xb, .cells #[.int .i64 2, .int .i64 N, .int .i64 F, .int .i64 T, .slice xa d.length xc] 43 (0, 0))]))) := (sL.call hst).perm (List.Perm.refl _) (List.Perm.of_eq (by simp))
                replace ka' := Lib.hid ka'
                replace r1 := Lib.hid r1
                replace na' := Lib.hid na'
                have sM := sL.alloc (.cells #[.int .i64 f, .int .i64 t, .slice a1 dd.length c1] 28)
                have y1 := (cells5 sL.own.right.right.right.h0).2.1
                have xlt := heap_lt sL.own.right.right.right.h0
                clear hst
                go_wp2_with fail
                refine (hg2.out _ sM.own.tail.right.right.left).mono ?_
                rintro e w5 ⟨a2, c2, lb', H2', X2, rfl, r2, nb', kb', hst2⟩
                have sN : Step W0 [] w5 ((w4.heap.size, .cells #[.int .i64 f, .int .i64 t, .slice a1 dd.length c1] 28 (0, 0)) :: (H1' ++ (X1 ++ (H2' ++ (X2 ++ [(xb, .cells #[.int .i64 2, .int .i64 N, .int .i64 F, .int .i64 T, .slice xa d.length xc] 43 (0, 0))]))))) :=
                  (Step.mid (A := (w4.heap.size, .cells #[.int .i64 f, .int .i64 t, .slice a1 dd.length c1] 28 (0, 0)) :: (H1' ++ X1)) (B := [(xb, .cells #[.int .i64 2, .int .i64 N, .int .i64 F, .int .i64 T, .slice xa d.length xc] 43 (0, 0))]) (sM.perm (List.Perm.refl _) (List.Perm.of_eq (by simp))) hst2).perm (List.Perm.refl _) (List.Perm.of_eq (by simp))
                replace kb' := Lib.hid kb'
                replace r2 := Lib.hid r2
                replace nb' := Lib.hid nb'
                generalize w4.heap.size = g1 at sN ⊢
                obtain ⟨z0, z1, z2⟩ := cells3 sN.own.h0
                have glt := heap_lt sN.own.h0
                have sO := sN.alloc (.cells #[.int .i64 f, .int .i64 t, .slice a2 dd.length c2] 28)
                clear hst2 sM y1 xlt sL
                go_wp2_with fail
                refine (messages_same f t a1 a2 dd.length c1 dd.length c2 dd _ (SlRep.rdBytes r1.out sO.own.tail.tail.right.left) (SlRep.rdBytes r2.out sO.own.tail.tail.right.right.right.left) (by omega)).mono ?_
                rintro e w6 ⟨rfl, h6⟩
                have sO := sO.call0 h6
                rw [List.append_nil] at sO
                clear z0 z1 z2 glt h6 sN
                obtain ⟨z0, z1, z2⟩ := cells3 sO.own.h1
                go_wp2_with fail
                refine (spoil_any a1 dd.length c1 _ X1 _ r1.out sO.own.tail.tail.right.left (by omega)).mono ?_
                rintro e w7 ⟨rfl, X1', h7⟩
                have sP := (Step.mid (A := _ :: _ :: H1') sO h7).tail.tail
                go_wp2_with fail
                go_meet
                exact ⟨rfl, ks', la', lb', H1', H2', hok2.out, ka'.out, kb'.out, na'.out, nb'.out, Step.forget (sP.perm (List.Perm.refl _) (B' := (H1' ++ H2') ++ (X1' ++ _)) (by rw [List.append_assoc]; exact List.Perm.append_left _ (List.perm_append_comm_assoc X1' H2' _)))⟩
              · have hp1 := Lib.hid (fun W hW => twice_one b la H1 N W na.out hW ka.out hko.out.1 hN hko.out.2)
                have hp2 := Lib.hid (fun W hW => rtwice_one b2 lb H2 N W nb.out hW kb.out hko.out.1 hN hko.out.2)
                have hok2 := Lib.hid (kok_tw hko.out (pickOf ks.length N))
                generalize (twV ks (pickOf ks.length N)) = P at hp1 hp2 hok2
                obtain ⟨r, ks'⟩ := P
                unfold OneB at hp1 hp2
                simp only at hp1 hp2 hok2
                have q1 : (r == r) = true := by simp
                clear y0 y1 y2 y3 y4
                go_wp2_with fail
                have sL := sL.drew
                refine wp_region_J 9 (fun w' => w'.cell? ⟨xb, 1, none⟩ = some (.int .i64 N)) (by kernel_rfl) ?_ (fun hF => ?_)
                · (try dsimp only)
                  all_goals (exact (cells5 sL.own.right.right.h0).2.1)
                refine wpAnyJ_take0 (i := 0) (oi := { dst := some 125, op := Go.Op.move (Go.Operand.tmp 5), type := 24, pos := "law.go:98", after := #[], guard := none }) (v := ?_) rfl (by kernel_rfl) (by kernel_rfl) (by kernel_rfl) (by kernel_rfl) (fun _ _ _ h => h) (by first | exact fun _ => hF | exact fun _ => hF (by kernel_rfl)) (fun w => ?_) (by rfl) ?_
                rotate_left
                · first | (go_simp; done) | (go_simp; with_reducible rfl) | (go_split_ands; go_simp; done)
                try simp only [Act.put, List.setIfInBounds_toArray, List.set_cons_zero, List.set_cons_succ]
                refine wpAnyJ_take0 (i := 1) (oi := { dst := some 126, op := Go.Op.fieldAddr 43 (Go.Operand.tmp 8) 1, type := 0, pos := "law.go:98", after := #[], guard := none }) (v := ?_) rfl (by kernel_rfl) (by kernel_rfl) (by kernel_rfl) (by kernel_rfl) (fun _ _ _ h => h) (by first | exact fun _ => hF | exact fun _ => hF (by kernel_rfl)) (fun w => ?_) (by rfl) ?_
                rotate_left
                · first | (go_simp; done) | (go_simp; with_reducible rfl) | (go_split_ands; go_simp; done)
                try simp only [Act.put, List.setIfInBounds_toArray, List.set_cons_zero, List.set_cons_succ]
                refine wpAnyJ_take (i := 2) (oi := { dst := some 127, op := Go.Op.load 3 (Go.Operand.tmp 126), type := 3, pos := "law.go:98", after := #[{ on := 1, ground := Go.Ground.data }], guard := none }) (v := ?_) [9] rfl (by kernel_rfl) (by kernel_rfl) (by kernel_rfl) (by kernel_rfl) (by kernel_rfl) (fun _ _ _ h => h) (by first | exact hF | exact hF (by kernel_rfl)) (fun w hFw => ?_) (by rfl) ?_
                rotate_left
                · ((try dsimp only at hFw); first | (go_simp; done) | (go_simp; with_reducible rfl) | (go_split_ands; go_simp; done))
                try simp only [Act.put, List.setIfInBounds_toArray, List.set_cons_zero, List.set_cons_succ]
                refine wpAnyJ_take0 (i := 4) (oi := { dst := some 129, op := Go.Op.move (Go.Operand.tmp 6), type := 44, pos := "law.go:98", after := #[], guard := none }) (v := ?_) rfl (by kernel_rfl) (by kernel_rfl) (by kernel_rfl) (by kernel_rfl) (fun _ _ _ h => h) (by first | exact fun _ => hF | exact fun _ => hF (by kernel_rfl)) (fun w => ?_) (by rfl) ?_
                rotate_left
                · first | (go_simp; done) | (go_simp; with_reducible rfl) | (go_split_ands; go_simp; done)
                try simp only [Act.put, List.setIfInBounds_toArray, List.set_cons_zero, List.set_cons_succ]
                refine wpAnyJ_take0 (i := 5) (oi := { dst := some 130, op := Go.Op.fieldAddr 43 (Go.Operand.tmp 8) 1, type := 0, pos := "law.go:98", after := #[], guard := none }) (v := ?_) rfl (by kernel_rfl) (by kernel_rfl) (by kernel_rfl) (by kernel_rfl) (fun _ _ _ h => h) (by first | exact fun _ => hF | exact fun _ => hF (by kernel_rfl)) (fun w => ?_) (by rfl) ?_
                rotate_left
                · first | (go_simp; done) | (go_simp; with_reducible rfl) | (go_split_ands; go_simp; done)
                try simp only [Act.put, List.setIfInBounds_toArray, List.set_cons_zero, List.set_cons_succ]
                refine wpAnyJ_take (i := 6) (oi := { dst := some 131, op := Go.Op.load 3 (Go.Operand.tmp 130), type := 3, pos := "law.go:98", after := #[{ on := 5, ground := Go.Ground.data }], guard := none }) (v := ?_) [9] rfl (by kernel_rfl) (by kernel_rfl) (by kernel_rfl) (by kernel_rfl) (by kernel_rfl) (fun _ _ _ h => h) (by first | exact hF | exact hF (by kernel_rfl)) (fun w hFw => ?_) (by rfl) ?_
                rotate_left
                · ((try dsimp only at hFw); first | (go_simp; done) | (go_simp; with_reducible rfl) | (go_split_ands; go_simp; done))
                try simp only [Act.put, List.setIfInBounds_toArray, List.set_cons_zero, List.set_cons_succ]
                refine wpAnyJ_ready (rs := [3]) (by kernel_rfl) (by simp) ?_
                refine AllJ.cons (o := { dst := some 128, op := Go.Op.call { callee := Go.Callee.value (Go.Operand.func 15), args := #[Go.Operand.tmp 125, Go.Operand.tmp 127], argTypes := #[24, 3] }, type := 4, pos := "law.go:98", after := #[{ on := 0, ground := Go.Ground.data }, { on := 2, ground := Go.Ground.data }], guard := none }) rfl (fun Kr hKr => ?_) ?_
                · go_simp; go_at_call 15; refine (hp1.out _ sL.own.left).mono ?_; rintro e w4 ⟨rfl, la', H1', na', ka', hst⟩
                  have sL := sL.call hst
                  refine hKr.out _ _ (fun hJ => ?_) (fun hF => ?_)
                  · first
                    | exact absurd hJ (by decide)
                    | (clear hJ; (try dsimp only); all_goals (exact (cells5 sL.own.right.right.h0).2.1))
                  clear hKr
                  try simp only [Act.put, List.setIfInBounds_toArray, List.set_cons_zero, List.set_cons_succ]
                  refine wpAnyJ_ready (rs := [7]) (by kernel_rfl) (by simp) ?_
                  refine AllJ.cons (o := { dst := some 132, op := Go.Op.call { callee := Go.Callee.value (Go.Operand.func 24), args := #[Go.Operand.tmp 129, Go.Operand.tmp 131], argTypes := #[44, 3] }, type := 4, pos := "law.go:98", after := #[{ on := 4, ground := Go.Ground.data }, { on := 6, ground := Go.Ground.data }, { on := 3, ground := Go.Ground.chain }], guard := none }) rfl (fun Kr hKr => ?_) ?_
                  · go_simp; go_at_call 24; refine (hp2.out _ sL.own.right.left).mono ?_; rintro e w5 ⟨rfl, lb', H2', nb', kb', hst2⟩
                    have sL := Step.mid sL hst2
                    refine hKr.out _ _ (fun hJ => ?_) (fun hF => ?_)
                    · first
                      | exact absurd hJ (by decide)
                      | (clear hJ; (try dsimp only); all_goals (exact (cells5 sL.own.right.right.h0).2.1))
                    clear hKr
                    try simp only [Act.put, List.setIfInBounds_toArray, List.set_cons_zero, List.set_cons_succ]
                    refine wpAnyJ_take0 (i := 8) (oi := { dst := some 133, op := Go.Op.binOp Go.BinOp.eql 4 (Go.Operand.tmp 128) (Go.Operand.tmp 132) 4, type := 4, pos := "law.go:98", after := #[{ on := 3, ground := Go.Ground.data }, { on := 7, ground := Go.Ground.data }], guard := none }) (v := ?_) rfl (by kernel_rfl) (by kernel_rfl) (by kernel_rfl) (by kernel_rfl) (fun _ _ _ h => h) (by first | exact fun _ => hF | exact fun _ => hF (by kernel_rfl)) (fun w => ?_) (by rfl) ?_
                    rotate_left
                    · first | (go_simp; done) | (go_simp; with_reducible rfl) | (go_split_ands; go_simp; done)
                    try simp only [Act.put, List.setIfInBounds_toArray, List.set_cons_zero, List.set_cons_succ]
                    refine wpAnyJ_ready (rs := [9]) (by kernel_rfl) (by simp) ?_
                    refine AllJ.cons (o := { dst := some 9, op := Go.Op.assign (Go.Operand.tmp 133), type := 4, pos := "law.go:98", after := #[{ on := 8, ground := Go.Ground.data }, { on := 7, ground := Go.Ground.chain }, { on := 0, ground := Go.Ground.phase }, { on := 1, ground := Go.Ground.phase }, { on := 2, ground := Go.Ground.phase }, { on := 3, ground := Go.Ground.phase }, { on := 4, ground := Go.Ground.phase }, { on := 5, ground := Go.Ground.phase }, { on := 6, ground := Go.Ground.phase }, { on := 7, ground := Go.Ground.phase }, { on := 8, ground := Go.Ground.phase }], guard := none }) rfl (fun Kr hKr => ?_) ?_
                    · go_simp
                      refine hKr.out _ _ (fun hJ => ?_) (fun hF => ?_)
                      · first
                        | exact absurd hJ (by decide)
                        | (clear hJ; (try dsimp only); all_goals (exact (cells5 sL.own.right.right.h0).2.1))
                      clear hKr
                      try simp only [Act.put, List.setIfInBounds_toArray, List.set_cons_zero, List.set_cons_succ]
                      refine wpAnyJ_done (by kernel_rfl) ?_ _
                      replace ka' := Lib.hid ka'
                      replace kb' := Lib.hid kb'
                      go_wp2_with fail
                      go_meet
                      exact ⟨rfl, ks', la', lb', H1', H2', hok2.out, ka'.out, kb'.out, na', nb', Step.forget (B := [_]) (by rw [List.append_assoc]; exact sL)⟩
                    exact AllJ.nil
                  exact AllJ.nil
                exact AllJ.nil
              · have hp1 := Lib.hid (fun W hW => late_one b la H1 N W na.out hW ka.out hko.out.1 hN)
                have hp2 := Lib.hid (fun W hW => rlate_one b2 lb H2 N W nb.out hW kb.out hko.out.1 hN)
                have hok2 := Lib.hid (kok_la hko.out (pickOf ks.length N))
                generalize (laV ks (pickOf ks.length N)) = P at hp1 hp2 hok2
                obtain ⟨r, ks'⟩ := P
                unfold OneB at hp1 hp2
                simp only at hp1 hp2 hok2
                have q1 : (r == r) = true := by simp
                clear y0 y1 y2 y3 y4
                go_wp2_with fail
                have sL := sL.drew
                refine wp_region_J 9 (fun w' => w'.cell? ⟨xb, 1, none⟩ = some (.int .i64 N)) (by kernel_rfl) ?_ (fun hF => ?_)
                · (try dsimp only)
                  all_goals (exact (cells5 sL.own.right.right.h0).2.1)
                refine wpAnyJ_take0 (i := 0) (oi := { dst := some 136, op := Go.Op.move (Go.Operand.tmp 5), type := 24, pos := "law.go:100", after := #[], guard := none }) (v := ?_) rfl (by kernel_rfl) (by kernel_rfl) (by kernel_rfl) (by kernel_rfl) (fun _ _ _ h => h) (by first | exact fun _ => hF | exact fun _ => hF (by kernel_rfl)) (fun w => ?_) (by rfl) ?_
                rotate_left
                · first | (go_simp; done) | (go_simp; with_reducible rfl) | (go_split_ands; go_simp; done)
                try simp only [Act.put, List.setIfInBounds_toArray, List.set_cons_zero, List.set_cons_succ]
                refine wpAnyJ_take0 (i := 1) (oi := { dst := some 137, op := Go.Op.fieldAddr 43 (Go.Operand.tmp 8) 1, type := 0, pos := "law.go:100", after := #[], guard := none }) (v := ?_) rfl (by kernel_rfl) (by kernel_rfl) (by kernel_rfl) (by kernel_rfl) (fun _ _ _ h => h) (by first | exact fun _ => hF | exact fun _ => hF (by kernel_rfl)) (fun w => ?_) (by rfl) ?_
                rotate_left
                · first | (go_simp; done) | (go_simp; with_reducible rfl) | (go_split_ands; go_simp; done)
                try simp only [Act.put, List.setIfInBounds_toArray, List.set_cons_zero, List.set_cons_succ]
                refine wpAnyJ_take (i := 2) (oi := { dst := some 138, op := Go.Op.load 3 (Go.Operand.tmp 137), type := 3, pos := "law.go:100", after := #[{ on := 1, ground := Go.Ground.data }], guard := none }) (v := ?_) [9] rfl (by kernel_rfl) (by kernel_rfl) (by kernel_rfl) (by kernel_rfl) (by kernel_rfl) (fun _ _ _ h => h) (by first | exact hF | exact hF (by kernel_rfl)) (fun w hFw => ?_) (by rfl) ?_
                rotate_left
                · ((try dsimp only at hFw); first | (go_simp; done) | (go_simp; with_reducible rfl) | (go_split_ands; go_simp; done))
                try simp only [Act.put, List.setIfInBounds_toArray, List.set_cons_zero, List.set_cons_succ]
                refine wpAnyJ_take0 (i := 4) (oi := { dst := some 140, op := Go.Op.move (Go.Operand.tmp 6), type := 44, pos := "law.go:100", after := #[], guard := none }) (v := ?_) rfl (by kernel_rfl) (by kernel_rfl) (by kernel_rfl) (by kernel_rfl) (fun _ _ _ h => h) (by first | exact fun _ => hF | exact fun _ => hF (by kernel_rfl)) (fun w => ?_) (by rfl) ?_
                rotate_left
                · first | (go_simp; done) | (go_simp; with_reducible rfl) | (go_split_ands; go_simp; done)
                try simp only [Act.put, List.setIfInBounds_toArray, List.set_cons_zero, List.set_cons_succ]
                refine wpAnyJ_take0 (i := 5) (oi := { dst := some 141, op := Go.Op.fieldAddr 43 (Go.Operand.tmp 8) 1, type := 0, pos := "law.go:100", after := #[], guard := none }) (v := ?_) rfl (by kernel_rfl) (by kernel_rfl) (by kernel_rfl) (by kernel_rfl) (fun _ _ _ h => h) (by first | exact fun _ => hF | exact fun _ => hF (by kernel_rfl)) (fun w => ?_) (by rfl) ?_
                rotate_left
                · first | (go_simp; done) | (go_simp; with_reducible rfl) | (go_split_ands; go_simp; done)
                try simp only [Act.put, List.setIfInBounds_toArray, List.set_cons_zero, List.set_cons_succ]
                refine wpAnyJ_take (i := 6) (oi := { dst := some 142, op := Go.Op.load 3 (Go.Operand.tmp 141), type := 3, pos := "law.go:100", after := #[{ on := 5, ground := Go.Ground.data }], guard := none }) (v := ?_) [9] rfl (by kernel_rfl) (by kernel_rfl) (by kernel_rfl) (by kernel_rfl) (by kernel_rfl) (fun _ _ _ h => h) (by first | exact hF | exact hF (by kernel_rfl)) (fun w hFw => ?_) (by rfl) ?_
                rotate_left
                · ((try dsimp only at hFw); first | (go_simp; done) | (go_simp; with_reducible rfl) | (go_split_ands; go_simp; done))
                try simp only [Act.put, List.setIfInBounds_toArray, List.set_cons_zero, List.set_cons_succ]
                refine wpAnyJ_ready (rs := [3]) (by kernel_rfl) (by simp) ?_
                refine AllJ.cons (o := { dst := some 139, op := Go.Op.call { callee := Go.Callee.value (Go.Operand.func 16), args := #[Go.Operand.tmp 136, Go.Operand.tmp 138], argTypes := #[24, 3] }, type := 4, pos := "law.go:100", after := #[{ on := 0, ground := Go.Ground.data }, { on := 2, ground := Go.Ground.data }], guard := none }) rfl (fun Kr hKr => ?_) ?_
                · go_simp; go_at_call 16; refine (hp1.out _ sL.own.left).mono ?_; rintro e w4 ⟨rfl, la', H1', na', ka', hst⟩
                  have sL := sL.call hst
                  refine hKr.out _ _ (fun hJ => ?_) (fun hF => ?_)
                  · first
                    | exact absurd hJ (by decide)
                    | (clear hJ; (try dsimp only); all_goals (exact (cells5 sL.own.right.right.h0).2.1))
                  clear hKr
                  try simp only [Act.put, List.setIfInBounds_toArray, List.set_cons_zero, List.set_cons_succ]
                  refine wpAnyJ_ready (rs := [7]) (by kernel_rfl) (by simp) ?_
                  refine AllJ.cons (o := { dst := some 143, op := Go.Op.call { callee := Go.Callee.value (Go.Operand.func 25), args := #[Go.Operand.tmp 140, Go.Operand.tmp 142], argTypes := #[44, 3] }, type := 4, pos := "law.go:100", after := #[{ on := 4, ground := Go.Ground.data }, { on := 6, ground := Go.Ground.data }, { on := 3, ground := Go.Ground.chain }], guard := none }) rfl (fun Kr hKr => ?_) ?_
                  · go_simp; go_at_call 25; refine (hp2.out _ sL.own.right.left).mono ?_; rintro e w5 ⟨rfl, lb', H2', nb', kb', hst2⟩
                    have sL := Step.mid sL hst2
                    refine hKr.out _ _ (fun hJ => ?_) (fun hF => ?_)
                    · first
                      | exact absurd hJ (by decide)
                      | (clear hJ; (try dsimp only); all_goals (exact (cells5 sL.own.right.right.h0).2.1))
                    clear hKr
                    try simp only [Act.put, List.setIfInBounds_toArray, List.set_cons_zero, List.set_cons_succ]
                    refine wpAnyJ_take0 (i := 8) (oi := { dst := some 144, op := Go.Op.binOp Go.BinOp.eql 4 (Go.Operand.tmp 139) (Go.Operand.tmp 143) 4, type := 4, pos := "law.go:100", after := #[{ on := 3, ground := Go.Ground.data }, { on := 7, ground := Go.Ground.data }], guard := none }) (v := ?_) rfl (by kernel_rfl) (by kernel_rfl) (by kernel_rfl) (by kernel_rfl) (fun _ _ _ h => h) (by first | exact fun _ => hF | exact fun _ => hF (by kernel_rfl)) (fun w => ?_) (by rfl) ?_
                    rotate_left
                    · first | (go_simp; done) | (go_simp; with_reducible rfl) | (go_split_ands; go_simp; done)
                    try simp only [Act.put, List.setIfInBounds_toArray, List.set_cons_zero, List.set_cons_succ]
                    refine wpAnyJ_ready (rs := [9]) (by kernel_rfl) (by simp) ?_
                    refine AllJ.cons (o := { dst := some 9, op := Go.Op.assign (Go.Operand.tmp 144), type := 4, pos := "law.go:100", after := #[{ on := 8, ground := Go.Ground.data }, { on := 7, ground := Go.Ground.chain }, { on := 0, ground := Go.Ground.phase }, { on := 1, ground := Go.Ground.phase }, { on := 2, ground := Go.Ground.phase }, { on := 3, ground := Go.Ground.phase }, { on := 4, ground := Go.Ground.phase }, { on := 5, ground := Go.Ground.phase }, { on := 6, ground := Go.Ground.phase }, { on := 7, ground := Go.Ground.phase }, { on := 8, ground := Go.Ground.phase }], guard := none }) rfl (fun Kr hKr => ?_) ?_
                    · go_simp
                      refine hKr.out _ _ (fun hJ => ?_) (fun hF => ?_)
                      · first
                        | exact absurd hJ (by decide)
                        | (clear hJ; (try dsimp only); all_goals (exact (cells5 sL.own.right.right.h0).2.1))
                      clear hKr
                      try simp only [Act.put, List.setIfInBounds_toArray, List.set_cons_zero, List.set_cons_succ]
                      refine wpAnyJ_done (by kernel_rfl) ?_ _
                      replace ka' := Lib.hid ka'
                      replace kb' := Lib.hid kb'
                      go_wp2_with fail
                      go_meet
                      exact ⟨rfl, ks', la', lb', H1', H2', hok2.out, ka'.out, kb'.out, na', nb', Step.forget (B := [_]) (by rw [List.append_assoc]; exact sL)⟩
                    exact AllJ.nil
                  exact AllJ.nil
                exact AllJ.nil
              · have hp1 := Lib.hid (fun W hW => drop_one b la H1 N W na.out hW ka.out hko.out.1)
                have hp2 := Lib.hid (fun W hW => rdrop_one b2 lb H2 N W nb.out hW kb.out hko.out.1)
                have hok2 := Lib.hid (kok_dr hko.out N)
                generalize ((ks.length : Int) - ((drK N ks).length : Int)) = r at hp1 hp2
                generalize (drK N ks) = ks' at hp1 hp2 hok2
                unfold DropOne at hp1 hp2
                have q1 : (r == r) = true := by simp
                clear y0 y1 y2 y3 y4
                go_wp2_with fail
                have sL := sL.drew
                refine wp_region_J 9 (fun w' => w'.cell? ⟨xb, 1, none⟩ = some (.int .i64 N)) (by kernel_rfl) ?_ (fun hF => ?_)
                · (try dsimp only)
                  all_goals (exact (cells5 sL.own.right.right.h0).2.1)
                refine wpAnyJ_take0 (i := 0) (oi := { dst := some 147, op := Go.Op.move (Go.Operand.tmp 5), type := 24, pos := "law.go:102", after := #[], guard := none }) (v := ?_) rfl (by kernel_rfl) (by kernel_rfl) (by kernel_rfl) (by kernel_rfl) (fun _ _ _ h => h) (by first | exact fun _ => hF | exact fun _ => hF (by kernel_rfl)) (fun w => ?_) (by rfl) ?_
                rotate_left
                · first | (go_simp; done) | (go_simp; with_reducible rfl) | (go_split_ands; go_simp; done)
                try simp only [Act.put, List.setIfInBounds_toArray, List.set_cons_zero, List.set_cons_succ]
                refine wpAnyJ_take0 (i := 1) (oi := { dst := some 148, op := Go.Op.fieldAddr 43 (Go.Operand.tmp 8) 1, type := 0, pos := "law.go:102", after := #[], guard := none }) (v := ?_) rfl (by kernel_rfl) (by kernel_rfl) (by kernel_rfl) (by kernel_rfl) (fun _ _ _ h => h) (by first | exact fun _ => hF | exact fun _ => hF (by kernel_rfl)) (fun w => ?_) (by rfl) ?_
                rotate_left
                · first | (go_simp; done) | (go_simp; with_reducible rfl) | (go_split_ands; go_simp; done)
                try simp only [Act.put, List.setIfInBounds_toArray, List.set_cons_zero, List.set_cons_succ]
                refine wpAnyJ_take (i := 2) (oi := { dst := some 149, op := Go.Op.load 3 (Go.Operand.tmp 148), type := 3, pos := "law.go:102", after := #[{ on := 1, ground := Go.Ground.data }], guard := none }) (v := ?_) [9] rfl (by kernel_rfl) (by kernel_rfl) (by kernel_rfl) (by kernel_rfl) (by kernel_rfl) (fun _ _ _ h => h) (by first | exact hF | exact hF (by kernel_rfl)) (fun w hFw => ?_) (by rfl) ?_
                rotate_left
                · ((try dsimp only at hFw); first | (go_simp; done) | (go_simp; with_reducible rfl) | (go_split_ands; go_simp; done))
                try simp only [Act.put, List.setIfInBounds_toArray, List.set_cons_zero, List.set_cons_succ]
                refine wpAnyJ_take0 (i := 4) (oi := { dst := some 151, op := Go.Op.move (Go.Operand.tmp 6), type := 44, pos := "law.go:102", after := #[], guard := none }) (v := ?_) rfl (by kernel_rfl) (by kernel_rfl) (by kernel_rfl) (by kernel_rfl) (fun _ _ _ h => h) (by first | exact fun _ => hF | exact fun _ => hF (by kernel_rfl)) (fun w => ?_) (by rfl) ?_
                rotate_left
                · first | (go_simp; done) | (go_simp; with_reducible rfl) | (go_split_ands; go_simp; done)
                try simp only [Act.put, List.setIfInBounds_toArray, List.set_cons_zero, List.set_cons_succ]
                refine wpAnyJ_take0 (i := 5) (oi := { dst := some 152, op := Go.Op.fieldAddr 43 (Go.Operand.tmp 8) 1, type := 0, pos := "law.go:102", after := #[], guard := none }) (v := ?_) rfl (by kernel_rfl) (by kernel_rfl) (by kernel_rfl) (by kernel_rfl) (fun _ _ _ h => h) (by first | exact fun _ => hF | exact fun _ => hF (by kernel_rfl)) (fun w => ?_) (by rfl) ?_
                rotate_left
                · first | (go_simp; done) | (go_simp; with_reducible rfl) | (go_split_ands; go_simp; done)
                try simp only [Act.put, List.setIfInBounds_toArray, List.set_cons_zero, List.set_cons_succ]
                refine wpAnyJ_take (i := 6) (oi := { dst := some 153, op := Go.Op.load 3 (Go.Operand.tmp 152), type := 3, pos := "law.go:102", after := #[{ on := 5, ground := Go.Ground.data }], guard := none }) (v := ?_) [9] rfl (by kernel_rfl) (by kernel_rfl) (by kernel_rfl) (by kernel_rfl) (by kernel_rfl) (fun _ _ _ h => h) (by first | exact hF | exact hF (by kernel_rfl)) (fun w hFw => ?_) (by rfl) ?_
                rotate_left
                · ((try dsimp only at hFw); first | (go_simp; done) | (go_simp; with_reducible rfl) | (go_split_ands; go_simp; done))
                try simp only [Act.put, List.setIfInBounds_toArray, List.set_cons_zero, List.set_cons_succ]
                refine wpAnyJ_ready (rs := [3]) (by kernel_rfl) (by simp) ?_
                refine AllJ.cons (o := { dst := some 150, op := Go.Op.call { callee := Go.Callee.value (Go.Operand.func 17), args := #[Go.Operand.tmp 147, Go.Operand.tmp 149], argTypes := #[24, 3] }, type := 3, pos := "law.go:102", after := #[{ on := 0, ground := Go.Ground.data }, { on := 2, ground := Go.Ground.data }], guard := none }) rfl (fun Kr hKr => ?_) ?_
                · go_simp; go_at_call 17; refine (hp1.out _ sL.own.left).mono ?_; rintro e w4 ⟨rfl, la', H1', na', ka', hst⟩
                  have sL := sL.call hst
                  refine hKr.out _ _ (fun hJ => ?_) (fun hF => ?_)
                  · first
                    | exact absurd hJ (by decide)
                    | (clear hJ; (try dsimp only); all_goals (exact (cells5 sL.own.right.right.h0).2.1))
                  clear hKr
                  try simp only [Act.put, List.setIfInBounds_toArray, List.set_cons_zero, List.set_cons_succ]
                  refine wpAnyJ_ready (rs := [7]) (by kernel_rfl) (by simp) ?_
                  refine AllJ.cons (o := { dst := some 154, op := Go.Op.call { callee := Go.Callee.value (Go.Operand.func 26), args := #[Go.Operand.tmp 151, Go.Operand.tmp 153], argTypes := #[44, 3] }, type := 3, pos := "law.go:102", after := #[{ on := 4, ground := Go.Ground.data }, { on := 6, ground := Go.Ground.data }, { on := 3, ground := Go.Ground.chain }], guard := none }) rfl (fun Kr hKr => ?_) ?_
                  · go_simp; go_at_call 26; refine (hp2.out _ sL.own.right.left).mono ?_; rintro e w5 ⟨rfl, lb', H2', nb', kb', hst2⟩
                    have sL := Step.mid sL hst2
                    refine hKr.out _ _ (fun hJ => ?_) (fun hF => ?_)
                    · first
                      | exact absurd hJ (by decide)
                      | (clear hJ; (try dsimp only); all_goals (exact (cells5 sL.own.right.right.h0).2.1))
                    clear hKr
                    try simp only [Act.put, List.setIfInBounds_toArray, List.set_cons_zero, List.set_cons_succ]
                    refine wpAnyJ_take0 (i := 8) (oi := { dst := some 155, op := Go.Op.binOp Go.BinOp.eql 3 (Go.Operand.tmp 150) (Go.Operand.tmp 154) 3, type := 4, pos := "law.go:102", after := #[{ on := 3, ground := Go.Ground.data }, { on := 7, ground := Go.Ground.data }], guard := none }) (v := ?_) rfl (by kernel_rfl) (by kernel_rfl) (by kernel_rfl) (by kernel_rfl) (fun _ _ _ h => h) (by first | exact fun _ => hF | exact fun _ => hF (by kernel_rfl)) (fun w => ?_) (by rfl) ?_
                    rotate_left
                    · first | (go_simp; done) | (go_simp; with_reducible rfl) | (go_split_ands; go_simp; done)
                    try simp only [Act.put, List.setIfInBounds_toArray, List.set_cons_zero, List.set_cons_succ]
                    refine wpAnyJ_ready (rs := [9]) (by kernel_rfl) (by simp) ?_
                    refine AllJ.cons (o := { dst := some 9, op := Go.Op.assign (Go.Operand.tmp 155), type := 4, pos := "law.go:102", after := #[{ on := 8, ground := Go.Ground.data }, { on := 7, ground := Go.Ground.chain }, { on := 0, ground := Go.Ground.phase }, { on := 1, ground := Go.Ground.phase }, { on := 2, ground := Go.Ground.phase }, { on := 3, ground := Go.Ground.phase }, { on := 4, ground := Go.Ground.phase }, { on := 5, ground := Go.Ground.phase }, { on := 6, ground := Go.Ground.phase }, { on := 7, ground := Go.Ground.phase }, { on := 8, ground := Go.Ground.phase }], guard := none }) rfl (fun Kr hKr => ?_) ?_
                    · go_simp
                      refine hKr.out _ _ (fun hJ => ?_) (fun hF => ?_)
                      · first
                        | exact absurd hJ (by decide)
                        | (clear hJ; (try dsimp only); all_goals (exact (cells5 sL.own.right.right.h0).2.1))
                      clear hKr
                      try simp only [Act.put, List.setIfInBounds_toArray, List.set_cons_zero, List.set_cons_succ]
                      refine wpAnyJ_done (by kernel_rfl) ?_ _
                      replace ka' := Lib.hid ka'
                      replace kb' := Lib.hid kb'
                      go_wp2_with fail
                      go_meet
                      exact ⟨rfl, ks', la', lb', H1', H2', hok2.out, ka'.out, kb'.out, na', nb', Step.forget (B := [_]) (by rw [List.append_assoc]; exact sL)⟩
                    exact AllJ.nil
                  exact AllJ.nil
                exact AllJ.nil
              · have q1 : (K == 1) = false := beq_eq_false_iff_ne.2 k1
                have q2 : (K == 2) = false := beq_eq_false_iff_ne.2 k2
                have q3 : (K == 3) = false := beq_eq_false_iff_ne.2 k3
                have q4 : (K == 4) = false := beq_eq_false_iff_ne.2 k4
                have q5 : (K == 5) = false := beq_eq_false_iff_ne.2 k5
                replace k1 := Lib.hid k1
                replace k2 := Lib.hid k2
                replace k3 := Lib.hid k3
                replace k4 := Lib.hid k4
                replace k5 := Lib.hid k5
                go_wp2_with fail
                go_meet
                exact ⟨rfl, ks, la, lb, H1, H2, hko.out, ka.out, kb.out, na.out, nb.out, Step.forget (B := [_]) (by rw [List.append_assoc]; exact sL)⟩
            case rest =>
              clear ka kb na nb hko sL hrd y0 y1 y2 y3 y4
              obtain ⟨rfl, ks, la, lb, H1, H2, hko, ka, kb, na, nb, hs⟩ := hcut
              have hfin : Hid (∀ W, Step W0 [] W (H1 ++ H2) → NpAt b b2 W0 W) := fun W s => ⟨ks, la, lb, H1, H2, hko, ka, kb, na, nb, s⟩
              obtain ⟨m, hm⟩ : ∃ m, m = ks.length := ⟨_, rfl⟩
              have hla : la.length = m := by rw [hm, ← ka, List.length_map]
              have hlb : lb.length = m := by rw [hm, ← kb, List.length_map]
              have hp3 := Lib.hid (fun W hW => len_eq b la H1 W m na hW hla)
              obtain ⟨a2, c2, R2, hr2, rfl, _⟩ := nb
              rw [hlb] at hs hfin
              clear hr2 hla hlb hm ka kb na hko
              have q4 : ((m : Int) != (m : Int)) = false := by simp
              go_wp2_with fail
              have hs := hs.drew
              refine wp_region_J 11 (fun w' => w'.cell? ⟨b2, 0, none⟩ = some (.slice a2 m c2)) (by kernel_rfl) ?_ (fun hF => ?_)
              · (try dsimp only)
                all_goals (exact cells1 hs.own.right.h0)
              refine wpAnyJ_take0 (i := 0) (oi := { dst := some 156, op := Go.Op.move (Go.Operand.tmp 9), type := 4, pos := "law.go:104", after := #[], guard := none }) (v := ?_) rfl (by kernel_rfl) (by kernel_rfl) (by kernel_rfl) (by kernel_rfl) (fun _ _ _ h => h) (by first | exact fun _ => hF | exact fun _ => hF (by kernel_rfl)) (fun w => ?_) (by rfl) ?_
              rotate_left
              · first | (go_simp; done) | (go_simp; with_reducible rfl) | (go_split_ands; go_simp; done)
              try simp only [Act.put, List.setIfInBounds_toArray, List.set_cons_zero, List.set_cons_succ]
              refine wpAnyJ_take0 (i := 1) (oi := { dst := some 157, op := Go.Op.unOp Go.UnOp.not 4 (Go.Operand.tmp 156), type := 4, pos := "law.go:104", after := #[{ on := 0, ground := Go.Ground.data }], guard := none }) (v := ?_) rfl (by kernel_rfl) (by kernel_rfl) (by kernel_rfl) (by kernel_rfl) (fun _ _ _ h => h) (by first | exact fun _ => hF | exact fun _ => hF (by kernel_rfl)) (fun w => ?_) (by rfl) ?_
              rotate_left
              · first | (go_simp; done) | (go_simp; with_reducible rfl) | (go_split_ands; go_simp; done)
              try simp only [Act.put, List.setIfInBounds_toArray, List.set_cons_zero, List.set_cons_succ]
              refine wpAnyJ_take0 (i := 2) (oi := { dst := some 158, op := Go.Op.move (Go.Operand.tmp 157), type := 4, pos := "law.go:104", after := #[{ on := 1, ground := Go.Ground.data }], guard := none }) (v := ?_) rfl (by kernel_rfl) (by kernel_rfl) (by kernel_rfl) (by kernel_rfl) (fun _ _ _ h => h) (by first | exact fun _ => hF | exact fun _ => hF (by kernel_rfl)) (fun w => ?_) (by rfl) ?_
              rotate_left
              · first | (go_simp; done) | (go_simp; with_reducible rfl) | (go_split_ands; go_simp; done)
              try simp only [Act.put, List.setIfInBounds_toArray, List.set_cons_zero, List.set_cons_succ]
              first
              | refine wpAnyJ_skip0 (i := 3) (oi := { dst := some 159, op := Go.Op.move (Go.Operand.tmp 5), type := 24, pos := "law.go:104", after := #[{ on := 2, ground := Go.Ground.guard }], guard := some (2, false) }) rfl (by kernel_rfl) (by kernel_rfl) (by kernel_rfl) (by kernel_rfl) (fun _ _ _ h => h) (by first | exact fun _ => hF | exact fun _ => hF (by kernel_rfl)) (by rfl) ?_
              | (refine wpAnyJ_take0 (i := 3) (oi := { dst := some 159, op := Go.Op.move (Go.Operand.tmp 5), type := 24, pos := "law.go:104", after := #[{ on := 2, ground := Go.Ground.guard }], guard := some (2, false) }) (v := ?_) rfl (by kernel_rfl) (by kernel_rfl) (by kernel_rfl) (by kernel_rfl) (fun _ _ _ h => h) (by first | exact fun _ => hF | exact fun _ => hF (by kernel_rfl)) (fun w => ?_) (by rfl) ?_
                 rotate_left
                 · first | (go_simp; done) | (go_simp; with_reducible rfl) | (go_split_ands; go_simp; done))
              try simp only [Act.put, List.setIfInBounds_toArray, List.set_cons_zero, List.set_cons_succ]
              first
              | refine wpAnyJ_skip0 (i := 5) (oi := { dst := some 161, op := Go.Op.move (Go.Operand.tmp 6), type := 44, pos := "law.go:104", after := #[{ on := 2, ground := Go.Ground.guard }], guard := some (2, false) }) rfl (by kernel_rfl) (by kernel_rfl) (by kernel_rfl) (by kernel_rfl) (fun _ _ _ h => h) (by first | exact fun _ => hF | exact fun _ => hF (by kernel_rfl)) (by rfl) ?_
              | (refine wpAnyJ_take0 (i := 5) (oi := { dst := some 161, op := Go.Op.move (Go.Operand.tmp 6), type := 44, pos := "law.go:104", after := #[{ on := 2, ground := Go.Ground.guard }], guard := some (2, false) }) (v := ?_) rfl (by kernel_rfl) (by kernel_rfl) (by kernel_rfl) (by kernel_rfl) (fun _ _ _ h => h) (by first | exact fun _ => hF | exact fun _ => hF (by kernel_rfl)) (fun w => ?_) (by rfl) ?_
                 rotate_left
                 · first | (go_simp; done) | (go_simp; with_reducible rfl) | (go_split_ands; go_simp; done))
              try simp only [Act.put, List.setIfInBounds_toArray, List.set_cons_zero, List.set_cons_succ]
              first
              | refine wpAnyJ_skip0 (i := 6) (oi := { dst := some 162, op := Go.Op.nilCheck (Go.Operand.tmp 161), type := 0, pos := "law.go:104", after := #[{ on := 5, ground := Go.Ground.data }, { on := 2, ground := Go.Ground.guard }], guard := some (2, false) }) rfl (by kernel_rfl) (by kernel_rfl) (by kernel_rfl) (by kernel_rfl) (fun _ _ _ h => h) (by first | exact fun _ => hF | exact fun _ => hF (by kernel_rfl)) (by rfl) ?_
              | (refine wpAnyJ_take0 (i := 6) (oi := { dst := some 162, op := Go.Op.nilCheck (Go.Operand.tmp 161), type := 0, pos := "law.go:104", after := #[{ on := 5, ground := Go.Ground.data }, { on := 2, ground := Go.Ground.guard }], guard := some (2, false) }) (v := ?_) rfl (by kernel_rfl) (by kernel_rfl) (by kernel_rfl) (by kernel_rfl) (fun _ _ _ h => h) (by first | exact fun _ => hF | exact fun _ => hF (by kernel_rfl)) (fun w => ?_) (by rfl) ?_
                 rotate_left
                 · first | (go_simp; done) | (go_simp; with_reducible rfl) | (go_split_ands; go_simp; done))
              try simp only [Act.put, List.setIfInBounds_toArray, List.set_cons_zero, List.set_cons_succ]
              first
              | refine wpAnyJ_skip0 (i := 7) (oi := { dst := some 163, op := Go.Op.fieldAddr 47 (Go.Operand.tmp 162) 0, type := 0, pos := "law.go:104", after := #[{ on := 6, ground := Go.Ground.data }, { on := 2, ground := Go.Ground.guard }], guard := some (2, false) }) rfl (by kernel_rfl) (by kernel_rfl) (by kernel_rfl) (by kernel_rfl) (fun _ _ _ h => h) (by first | exact fun _ => hF | exact fun _ => hF (by kernel_rfl)) (by rfl) ?_
              | (refine wpAnyJ_take0 (i := 7) (oi := { dst := some 163, op := Go.Op.fieldAddr 47 (Go.Operand.tmp 162) 0, type := 0, pos := "law.go:104", after := #[{ on := 6, ground := Go.Ground.data }, { on := 2, ground := Go.Ground.guard }], guard := some (2, false) }) (v := ?_) rfl (by kernel_rfl) (by kernel_rfl) (by kernel_rfl) (by kernel_rfl) (fun _ _ _ h => h) (by first | exact fun _ => hF | exact fun _ => hF (by kernel_rfl)) (fun w => ?_) (by rfl) ?_
                 rotate_left
                 · first | (go_simp; done) | (go_simp; with_reducible rfl) | (go_split_ands; go_simp; done))
              try simp only [Act.put, List.setIfInBounds_toArray, List.set_cons_zero, List.set_cons_succ]
              first
              | refine wpAnyJ_skip0 (i := 8) (oi := { dst := some 164, op := Go.Op.load 45 (Go.Operand.tmp 163), type := 45, pos := "law.go:104", after := #[{ on := 7, ground := Go.Ground.data }, { on := 2, ground := Go.Ground.guard }], guard := some (2, false) }) rfl (by kernel_rfl) (by kernel_rfl) (by kernel_rfl) (by kernel_rfl) (fun _ _ _ h => h) (by first | exact fun _ => hF | exact fun _ => hF (by kernel_rfl)) (by rfl) ?_
              | (refine wpAnyJ_take (i := 8) (oi := { dst := some 164, op := Go.Op.load 45 (Go.Operand.tmp 163), type := 45, pos := "law.go:104", after := #[{ on := 7, ground := Go.Ground.data }, { on := 2, ground := Go.Ground.guard }], guard := some (2, false) }) (v := ?_) [9, 10, 11] rfl (by kernel_rfl) (by kernel_rfl) (by kernel_rfl) (by kernel_rfl) (by kernel_rfl) (fun _ _ _ h => h) (by first | exact hF | exact hF (by kernel_rfl)) (fun w hFw => ?_) (by rfl) ?_
                 rotate_left
                 · ((try dsimp only at hFw); first | (go_simp; done) | (go_simp; with_reducible rfl) | (go_split_ands; go_simp; done)))
              try simp only [Act.put, List.setIfInBounds_toArray, List.set_cons_zero, List.set_cons_succ]
              first
              | refine wpAnyJ_skip0 (i := 9) (oi := { dst := some 165, op := Go.Op.call { callee := Go.Callee.builtin Go.Builtin.len, args := #[Go.Operand.tmp 164], argTypes := #[45] }, type := 3, pos := "law.go:104", after := #[{ on := 8, ground := Go.Ground.data }, { on := 2, ground := Go.Ground.guard }], guard := some (2, false) }) rfl (by kernel_rfl) (by kernel_rfl) (by kernel_rfl) (by kernel_rfl) (fun _ _ _ h => h) (by first | exact fun _ => hF | exact fun _ => hF (by kernel_rfl)) (by rfl) ?_
              | (refine wpAnyJ_take (i := 9) (oi := { dst := some 165, op := Go.Op.call { callee := Go.Callee.builtin Go.Builtin.len, args := #[Go.Operand.tmp 164], argTypes := #[45] }, type := 3, pos := "law.go:104", after := #[{ on := 8, ground := Go.Ground.data }, { on := 2, ground := Go.Ground.guard }], guard := some (2, false) }) (v := ?_) [10, 11] rfl (by kernel_rfl) (by kernel_rfl) (by kernel_rfl) (by kernel_rfl) (by kernel_rfl) (fun _ _ _ h => h) (by first | exact hF | exact hF (by kernel_rfl)) (fun w hFw => ?_) (by rfl) ?_
                 rotate_left
                 · ((try dsimp only at hFw); first | (go_simp; done) | (go_simp; with_reducible rfl) | (go_split_ands; go_simp; done)))
              try simp only [Act.put, List.setIfInBounds_toArray, List.set_cons_zero, List.set_cons_succ]
              refine wpAnyJ_ready (rs := [4]) (by kernel_rfl) (by simp) ?_
              refine AllJ.cons (o := { dst := some 160, op := Go.Op.call { callee := Go.Callee.value (Go.Operand.func 13), args := #[Go.Operand.tmp 159], argTypes := #[24] }, type := 3, pos := "law.go:104", after := #[{ on := 3, ground := Go.Ground.data }, { on := 2, ground := Go.Ground.chain }, { on := 2, ground := Go.Ground.guard }], guard := some (2, false) }) rfl (fun Kr hKr => ?_) ?_
              · go_simp; go_at_call 13; refine (hp3.out _ hs.own.left).mono ?_; rintro e w6 ⟨rfl, rfl⟩
                refine hKr.out _ _ (fun hJ => ?_) (fun hF => ?_)
                · first
                  | exact absurd hJ (by decide)
                  | (clear hJ; (try dsimp only); all_goals (exact cells1 hs.own.right.h0))
                clear hKr
                try simp only [Act.put, List.setIfInBounds_toArray, List.set_cons_zero, List.set_cons_succ]
                first
                | refine wpAnyJ_skip0 (i := 10) (oi := { dst := some 166, op := Go.Op.binOp Go.BinOp.neq 3 (Go.Operand.tmp 160) (Go.Operand.tmp 165) 3, type := 4, pos := "law.go:104", after := #[{ on := 4, ground := Go.Ground.data }, { on := 9, ground := Go.Ground.data }, { on := 2, ground := Go.Ground.guard }], guard := some (2, false) }) rfl (by kernel_rfl) (by kernel_rfl) (by kernel_rfl) (by kernel_rfl) (fun _ _ _ h => h) (by first | exact fun _ => hF | exact fun _ => hF (by kernel_rfl)) (by rfl) ?_
                | (refine wpAnyJ_take0 (i := 10) (oi := { dst := some 166, op := Go.Op.binOp Go.BinOp.neq 3 (Go.Operand.tmp 160) (Go.Operand.tmp 165) 3, type := 4, pos := "law.go:104", after := #[{ on := 4, ground := Go.Ground.data }, { on := 9, ground := Go.Ground.data }, { on := 2, ground := Go.Ground.guard }], guard := some (2, false) }) (v := ?_) rfl (by kernel_rfl) (by kernel_rfl) (by kernel_rfl) (by kernel_rfl) (fun _ _ _ h => h) (by first | exact fun _ => hF | exact fun _ => hF (by kernel_rfl)) (fun w => ?_) (by rfl) ?_
                   rotate_left
                   · first | (go_simp; done) | (go_simp; with_reducible rfl) | (go_split_ands; go_simp; done))
                try simp only [Act.put, List.setIfInBounds_toArray, List.set_cons_zero, List.set_cons_succ]
                refine wpAnyJ_ready (rs := [11]) (by kernel_rfl) (by simp) ?_
                refine AllJ.cons (o := { dst := some 167, op := Go.Op.pick (Go.Operand.tmp 158) (Go.Operand.const (Go.Value.bool true)) (Go.Operand.tmp 166), type := 4, pos := "law.go:104", after := #[{ on := 2, ground := Go.Ground.data }, { on := 10, ground := Go.Ground.data }], guard := none }) rfl (fun Kr hKr => ?_) ?_
                · go_simp
                  refine hKr.out _ _ (fun hJ => ?_) (fun hF => ?_)
                  · first
                    | exact absurd hJ (by decide)
                    | (clear hJ; (try dsimp only); all_goals (exact cells1 hs.own.right.h0))
                  clear hKr
                  try simp only [Act.put, List.setIfInBounds_toArray, List.set_cons_zero, List.set_cons_succ]
                  refine wpAnyJ_done (by kernel_rfl) ?_ _
                  go_wp2_with fail
                  exact ⟨⟨k + 1, by omega, by go_num, hfin.out _ hs⟩, by simp [intOf]; omega⟩
                exact AllJ.nil
              exact AllJ.nil
          · have d3 : (200 : Int) ≤ (k : Int) := by omega
            have hfin : Hid (NpAt b b2 W0 wr) := ⟨ks, la, lb, H1, H2, hko, ka, kb, na, nb, hs⟩
            clear ka kb na nb hko hs
            go_wp2_with fail
            go_meet
            exact hfin.out
        · have d2 : (l.length : Int) ≤ (k : Int) := by omega
          have hfin : Hid (NpAt b b2 W0 wr) := ⟨ks, la, lb, H1, H2, hko, ka, kb, na, nb, hs⟩
          clear ka kb na nb hko hs
          go_wp2_with fail
          go_meet
          exact hfin.out
    case rest =>
      clear hin
      go_wp2_with fail
      go_loopw [16] (fun _ wr => NpAt b b2 W0 wr) (fun _ wr => lenAt b2 wr)
      case atStart => exact hcut
      case round =>
        clear hcut
        obtain ⟨ks, la, lb, H1, H2, hko, ka, kb, na, nb, hs⟩ := hrel
        have hl1 : Hid (lenAt b2 wr = ks.length) := by show _ = _; rw [lenAt_rep nb hs.own.right, ← kb, List.length_map]
        replace ka := Lib.hid ka
        replace kb := Lib.hid kb
        replace na := Lib.hid na
        replace nb := Lib.hid nb
        replace hko := Lib.hid hko
        obtain ⟨⟨⟨f, t, dd⟩, ok⟩, hv⟩ : ∃ v, v = giveV ks (pickOf ks.length 0) := ⟨_, rfl⟩
        have hg1 := fun W hW => give_one b la H1 0 W na.out hW ka.out hko.out.1 (by omega)
        have hg2 := fun W hW => rgive_one b2 lb H2 0 W nb.out hW kb.out hko.out.1 (by omega)
        have hdd := give_ok_d hko.out (pickOf ks.length 0)
        have hok2 := Lib.hid (kok_erase hko.out (pickOf ks.length 0))
        rw [← hv] at hg1 hg2 hdd
        unfold GiveOne at hg1 hg2
        simp only at hg1 hg2 hdd
        have hdec : Hid (ok = true → (ks.eraseIdx (pickOf ks.length 0)).length < ks.length) := fun ho => by
          subst ho
          unfold giveV at hv
          split at hv
          · rename_i kk hkk
            obtain ⟨hi, _⟩ := List.getElem?_eq_some_iff.1 hkk
            rw [List.length_eraseIdx]; simp [hi]; omega
          · cases hv
        generalize ks.eraseIdx (pickOf ks.length 0) = ks' at hg1 hg2 hok2 hdec
        replace hv := Lib.hid hv
        replace hg1 := Lib.hid hg1
        replace hg2 := Lib.hid hg2
        have q1 : (ok == ok) = true := by simp
        have q2 : (ok != ok) = false := by simp
        go_wp2_with fail
        refine (hg1.out _ hs.own.left).mono ?_
        rintro e w4 ⟨a1, c1, la', H1', X1, rfl, r1, na', ka', hst⟩
        have sL : Step W0 [] w4 (H1' ++ (X1 ++ H2)) := (hs.call hst).perm (List.Perm.refl _) (List.Perm.of_eq (by simp))
        replace ka' := Lib.hid ka'
        replace r1 := Lib.hid r1
        replace na' := Lib.hid na'
        have sM := sL.alloc (.cells #[.int .i64 f, .int .i64 t, .slice a1 dd.length c1] 28)
        clear hst
        go_wp2_with fail
        refine (hg2.out _ sM.own.tail.right.right).mono ?_
        rintro e w5 ⟨a2, c2, lb', H2', X2, rfl, r2, nb', kb', hst2⟩
        have sN : Step W0 [] w5 ((w4.heap.size, .cells #[.int .i64 f, .int .i64 t, .slice a1 dd.length c1] 28 (0, 0)) :: (H1' ++ (X1 ++ (H2' ++ X2)))) :=
          (Step.callR (R := (w4.heap.size, .cells #[.int .i64 f, .int .i64 t, .slice a1 dd.length c1] 28 (0, 0)) :: (H1' ++ X1)) (sM.perm (List.Perm.refl _) (List.Perm.of_eq (by simp))) hst2).perm (List.Perm.refl _) (List.Perm.of_eq (by simp))
        replace kb' := Lib.hid kb'
        replace r2 := Lib.hid r2
        replace nb' := Lib.hid nb'
        generalize w4.heap.size = g1 at sN ⊢
        obtain ⟨z0, z1, z2⟩ := cells3 sN.own.h0
        have glt := heap_lt sN.own.h0
        have sO := sN.alloc (.cells #[.int .i64 f, .int .i64 t, .slice a2 dd.length c2] 28)
        clear hst2 sM sL
        go_wp2_with fail
        refine (messages_same f t a1 a2 dd.length c1 dd.length c2 dd _ (SlRep.rdBytes r1.out sO.own.tail.tail.right.left) (SlRep.rdBytes r2.out sO.own.tail.tail.right.right.right) (by omega)).mono ?_
        rintro e w6 ⟨rfl, h6⟩
        have sO := sO.call0 h6
        rw [List.append_nil] at sO
        clear z0 z1 z2 glt h6 sN
        have sP : Step W0 [] w6 (H1' ++ H2') := Step.forget (sO.tail.tail.perm (List.Perm.refl _) (B' := (H1' ++ H2') ++ (X1 ++ X2)) (by rw [List.append_assoc]; exact List.Perm.append_left _ (List.perm_append_comm_assoc X1 H2' _)))
        have hl2 : Hid (lenAt b2 w6 = ks'.length) := by show _ = _; rw [lenAt_rep nb'.out sP.own.right, ← kb'.out, List.length_map]
        cases ok
        · go_wp2_with fail
          refine (known_any _).mono ?_
          rintro e w8 ⟨rfl, h8⟩
          go_wp2
          go_ret
          exact ⟨rfl, (sP.call0 h8).forget (A := [])⟩
        · go_wp2_with fail
          exact ⟨⟨ks', la', lb', H1', H2', hok2.out, ka'.out, kb'.out, na'.out, nb'.out, sP⟩, by rw [hl1.out, hl2.out]; exact hdec.out (by first | rfl | trivial)⟩
end Go.Proofs.Ytliapfdbagcklaa
