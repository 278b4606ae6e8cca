/- DiskRoom. -/
import Derived.Test.YtebmbfiiadffjaaDkRows
import Derived.Test.YtebmbfiiadffjaaDkRm
namespace Go.Proofs.Ytebmbfiiadffjaa
open Go.RowKit
attribute [local go_sem ↓] Go.wp_at_zero Go.wp_at_succ

def nmR (i : Nat) : Nm := [102, UInt8.ofNat (i % 3)]
def RmRel (l : List (List UInt8)) (room b : Nat) (w : World) (v : Value) (wr : World) : Prop := ∃ (i : Nat) (k : Dk) (H : Heaplet), i ≤ l.length ∧ v = iv i ∧ RmInv room i k ∧ DkRep b k H ∧ Sp w [] wr [H]
theorem name_run (w : World) (r : Nat) (hr : r < 3) : (convert 23 9 (.slice (some ⟨w.heap.size, 0, none⟩) 2 2)).run Try.prog (w.alloc (.cells #[.int .u8 102, .int .u8 (r : Nat)] 5 (0, 0))) = .ok (strV [102, UInt8.ofNat r]) (w.alloc (.cells #[.int .u8 102, .int .u8 (r : Nat)] 5 (0, 0))) := by
  have h := run_convert_bytes_back (P := Try.prog) (w.alloc (.cells #[.int .u8 102, .int .u8 (r : Nat)] 5 (0, 0))) 23 9 5 ⟨w.heap.size, 0, none⟩ 2 [102, UInt8.ofNat r] Try.underlying23 Try.underlying5 Try.underlying9 (fun j hj => by
    rw [Addr.add_lit]
    refine cell_of (heap_alloc_new _ _) ?_
    have : (UInt8.ofNat r).toNat = r := by rw [UInt8.toNat_ofNat']; omega
    match j, hj with
    | 0, _ => rfl
    | 1, _ => simp [this])
  exact h
set_option maxHeartbeats 8000000 in
set_option maxRecDepth 100000 in
theorem diskRoom_walk (room : Int) (a : Option Addr) (ln c : Nat) (l : List (List UInt8)) (A : Nat → Option Addr) (C : Nat → Nat) (w : World) (wn : (Lit.int .i64 room).wf = true) (h : RdRows w a ln c l A C) (hl : ∀ x ∈ l, x.length ≤ 140737488351232) :
    Calls Try.prog 4 #[.int .i64 room, .slice a ln c] w fun e w' => e = .returned (.bool true) ∧ Below w.heap.size w w' := by
  suffices hs : Calls Try.prog 4 #[.int .i64 room, .slice a ln c] w (KnownPost w) from hs.mono fun e w' hp => ⟨hp.1, hp.2.nil_below⟩
  have hln := h.1
  subst hln
  have b0 : (l.length : Int) ≤ (c : Int) := by have := h.2.1; omega
  have b1 : (c : Int) ≤ 9223372036854775807 := by have := h.2.2.1; unfold maxLen at this; omega
  replace h := Lib.hid h
  replace hl := Lib.hid hl
  clear wn
  go_enter Try.func4, Try.ntmps4
  go_upto_block 0 with fail
  go_cut [5] (fun v wc => wc = w ∧ ∃ q, v = iv q ∧ q ≤ 140737488360000 ∧ (8000 < q ∨ q = wt l))
  case first =>
    go_wp2_with fail
    go_loop [5, 6] (fun v5 v6 => WtRel l v5 v6) (fun _ v6 => l.length - (intOf v6).toNat)
    case atStart => exact ⟨0, Nat.zero_le _, rfl, rfl, by simp [wt]⟩
    case round =>
      obtain ⟨i, hi, rfl, rfl, hq⟩ := hrel
      have d0 : (0 : Int) ≤ (i : Int) := by omega
      by_cases hlt : i < l.length
      · have d1 : (i : Int) < (l.length : Int) := by omega
        obtain ⟨q, hqe⟩ : ∃ q, q = wt (l.take i) := ⟨_, rfl⟩
        rw [← hqe] at hq ⊢
        by_cases h8 : q ≤ 8000
        · have d2 : (q : Int) ≤ 8000 := by omega
          obtain ⟨ab, ao, rfl, hc, _⟩ := h.out.at' hlt
          have hlx := hl.out _ (List.getElem_mem hlt)
          have hs := wt_snoc l hlt
          rw [← hqe] at hs
          generalize l[i].length = m at hc hlx hs
          have d3 : (m : Int) ≤ 140737488351232 := by omega
          replace hs := Lib.hid hs
          replace hqe := Lib.hid hqe
          go_wp2_with fail
          exact ⟨⟨i + 1, hlt, by go_num, by rw [hs.out]; go_num, by rw [hs.out]; omega⟩, by simp [intOf]; omega⟩
        · have d2 : (8000 : Int) < (q : Int) := by omega
          replace hqe := Lib.hid hqe
          go_wp2_with fail
          go_meet
          exact ⟨rfl, q, rfl, hq, .inl (by omega)⟩
      · have d1 : (l.length : Int) ≤ (i : Int) := by omega
        have hw := Lib.hid (wt_all l (i := i) (by omega))
        go_wp2_with fail
        go_meet
        exact ⟨rfl, _, rfl, hq, .inr hw.out⟩
  case rest =>
    obtain ⟨rfl, q, rfl, hq0, hq⟩ := hcut
    by_cases hout : 8000 < q ∨ room < 0 ∨ 5000 < room ∨ 60 < l.length
    · have hk := Lib.hid (known_any wc)
      have c1 : (8000 : Int) < (q : Int) ∨ (q : Int) ≤ 8000 := by omega
      have c2 : room < 0 ∨ 0 ≤ room := by omega
      have c3 : 5000 < room ∨ room ≤ 5000 := by omega
      have c4 : (60 : Int) < (l.length : Int) ∨ (l.length : Int) ≤ 60 := by omega
      clear hq
      rcases c1 with c1 | c1
      · clear c2 c3 c4 hout
        go_wp2_with fail
        refine hk.out.mono ?_
        rintro e w1 ⟨rfl, h1⟩
        go_wp2_with fail
        go_ret
        exact ⟨rfl, h1⟩
      · rcases c2 with c2 | c2
        · clear c3 c4 hout
          go_wp2_with fail
          refine hk.out.mono ?_
          rintro e w1 ⟨rfl, h1⟩
          go_wp2_with fail
          go_ret
          exact ⟨rfl, h1⟩
        · rcases c3 with c3 | c3
          · clear c4 hout
            go_wp2_with fail
            refine hk.out.mono ?_
            rintro e w1 ⟨rfl, h1⟩
            go_wp2_with fail
            go_ret
            exact ⟨rfl, h1⟩
          · rcases c4 with c4 | c4
            · clear hout
              go_wp2_with fail
              refine hk.out.mono ?_
              rintro e w1 ⟨rfl, h1⟩
              go_wp2_with fail
              go_ret
              exact ⟨rfl, h1⟩
            · exfalso; omega
    · have d1 : (q : Int) ≤ 8000 := by omega
      obtain ⟨m, rfl⟩ := Int.eq_ofNat_of_zero_le (show 0 ≤ room by omega)
      have d2 : (0 : Int) ≤ (m : Int) := by omega
      have d3 : (m : Int) ≤ 5000 := by omega
      have d4 : (l.length : Int) ≤ 60 := by omega
      have hqw : Hid (wt l ≤ 8000) := by show _ ≤ _; omega
      have hm5 : m ≤ 5000 := by omega
      clear hq hout hq0
      go_wp2_with fail
      refine (dnew_ok m m rfl (by omega) wc).mono ?_
      rintro e w1 ⟨b, H, rfl, hr, hs⟩
      have hin : Hid (RmRel l m b wc (iv 0) w1) := ⟨0, _, H, Nat.zero_le _, rfl, rm_start m hm5, hr, Sp.of hs⟩
      clear hs hr
      go_wp2_with fail
      go_loopw [9] (fun v wr => RmRel l m b wc v wr) (fun v _ => l.length - (intOf v).toNat)
      case atStart => exact hin.out
      case round =>
        clear hin
        obtain ⟨i, k, H, hi, rfl, hiv, hr, hs⟩ := hrel
        have e0 : (0 : Int) ≤ (i : Int) := by omega
        by_cases hlt : i < l.length
        · have e1 : (i : Int) < (l.length : Int) := by omega
          obtain ⟨ab, ao, rfl, hc, hrd⟩ := (h.out.step hs).at' hlt
          have hlx := hl.out _ (List.getElem_mem hlt)
          have hwm : Hid (l[i].length + 1 ≤ wt l) := wt_mem (List.getElem_mem hlt)
          have hnl : (nmR i).length = 2 := rfl
          obtain ⟨x, hx⟩ : ∃ x, x = l[i] := ⟨_, rfl⟩
          rw [← hx] at hc hrd hlx hwm
          have hold : x ≠ [] → ∀ q (G : Heaplet) (W : World) Fs, Sp wc [] W Fs → Fs[q]? = some G → ∀ y, A i = some y → y.block ∉ dom G := fun hne q G W Fs hS hq => by
            obtain ⟨_, _, _, _, hrd0⟩ := h.out.at' hlt
            rw [← hx] at hrd0
            exact hrd0.old hS hq hne
          have hrow : Hid (∀ W Fs, Sp wc [] W Fs → RdBytes W (A i) x.length (C i) x ∧ W.cell? ⟨ab, ao + i, none⟩ = some (.slice (A i) x.length (C i))) := fun W Fs hS => by
            obtain ⟨ab', ao', e, hc', hrd'⟩ := (h.out.step hS).at' hlt
            cases e
            rw [← hx] at hc' hrd'
            exact ⟨hrd', hc'⟩
          clear hrd
          replace hold := Lib.hid hold
          replace hx := Lib.hid hx
          go_upto_region 14 with fail
          go_cut [10] (fun v wx => v = strV (nmR i) ∧ Sp wc [] wx [H])
          case first =>
            obtain ⟨r, hr3⟩ : ∃ r, r = i % 3 := ⟨_, rfl⟩
            have r1 : (i : Int) % 3 = (r : Int) := by omega
            have r2 : (r : Int) % 256 = (r : Int) := by omega
            have hnm := name_run wr r (by omega)
            have hnr : Hid (nmR i = [102, UInt8.ofNat r]) := by show _ = _; rw [hr3]; rfl
            replace hr3 := Lib.hid hr3
            go_wp2_with fail
            go_meet
            exact ⟨by rw [hnr.out], ((hs.alloc (.cells #[.int .u8 102, .int .u8 (r : Nat)] 5 (0, 0))).forget 1 rfl).perm (by simp)⟩
          case rest =>
            obtain ⟨rfl, hs⟩ := hcut
            obtain ⟨p1, p2⟩ := rm_step hiv (by omega) (nmR i) hnl x
            generalize nmR i = nm at p1 p2 hnl ⊢
            have hrd1 := Lib.hid (fun W hW => dread b k H nm W hr hiv.ok hW)
            have hus := Lib.hid (fun W hW => used_any b k H W hr hW (by have := hiv.ok.used; have := hiv.ok.room; omega))
            have hwr := Lib.hid (fun (W : World) Fs (hS : Sp _ [] W Fs) (hq : Fs[0]? = some H) => dwrite b k H nm (A i) x.length (C i) x W hr hiv.ok (hS.own 0 hq) (hrow.out W Fs hS).1 (fun hne => hold.out hne 0 H W Fs hS hq) (by omega))
            obtain ⟨u, hu⟩ : ∃ u, u = usedF k.L := ⟨_, rfl⟩
            rw [← hu] at p1 p2 hus
            have hum : u ≤ m := by rw [hu, ← hiv.room]; exact hiv.ok.used
            have u1 : (u : Int) ≤ (m : Int) := by omega
            have u2 : (x.length : Int) ≤ 8000 := by have := hwm.out; have := hqw.out; omega
            obtain ⟨⟨was, ew⟩, hwas⟩ : ∃ v, v = rdN nm k := ⟨_, rfl⟩
            rw [← hwas] at hrd1 p1
            simp only at hrd1 p1
            replace hs := Lib.hid hs
            replace hu := Lib.hid hu
            clear hold hr
            by_cases hfit : u + x.length ≤ m
            · obtain ⟨k', q1, q2, q3, q4⟩ := p1 hfit
              have f1 : (u : Int) + (x.length : Int) ≤ (m : Int) := by omega
              have hrd2 := Lib.hid (fun H W hr hW => dread b k' H nm W hr q2.ok hW)
              rw [q3] at hrd2
              have hus2 := Lib.hid (fun H W hr hW => used_any b k' H W hr hW (by have := q2.ok.used; have := q2.ok.room; omega))
              obtain ⟨u2, hu2⟩ : ∃ u2, u2 = u + x.length := ⟨_, rfl⟩
              rw [q4, ← hu2] at hus2
              have f2 : ¬ ((m : Int) < (u2 : Int)) := by omega
              have f3 : decide ((m : Int) < (u2 : Int)) = false := decide_eq_false f2
              have f4 : decide (m < u2) = false := decide_eq_false (by omega)
              have hwl : was.length ≤ 5000 := by
                have h1 := congrArg (fun z => z.1.length) hwas
                simp only at h1
                rw [rd_get] at h1
                have h2 : (getF k.L nm).1.length ≤ usedF k.L := by
                  cases hi' : isF k.L nm
                  · rw [getF_no hi']; exact Nat.zero_le _
                  · exact used_get hi'
                rw [h1]
                have := hiv.ok.used
                rw [hiv.room] at this
                omega
              replace q1 := Lib.hid q1
              replace q2 := Lib.hid q2
              replace hwas := Lib.hid hwas
              replace hu2 := Lib.hid hu2
              clear p1 p2 hfit q3 q4 hiv f2
              go_wp2_with fail
              refine (hrd1.out _ (hs.out.own 0 rfl)).mono ?_
              rintro e w2 ⟨a1, c1, H1, rfl, hr1, hst1⟩
              have s1 := hs.out.fresh hst1
              simp only [List.cons_append, List.nil_append] at s1
              clear hst1
              go_wp2_with fail
              refine (hus.out _ (s1.own 0 rfl)).mono ?_
              rintro e w3 ⟨rfl, hst2⟩
              have s2 := s1.put 0 rfl hst2
              simp only [List.set_cons_zero] at s2
              have hc2 := (hrow.out _ _ s2).2
              clear hst2 s1
              go_wp2_with fail
              refine (hwr.out _ _ s2 rfl).mono ?_
              intro e w4 hpost
              rw [q1.out] at hpost
              obtain ⟨rfl, H3, hr3, hst3⟩ := hpost
              have s3 := s2.put 0 rfl hst3
              simp only [List.set_cons_zero] at s3
              clear hst3 s2 hc2
              go_wp2_with fail
              refine (hrd2.out _ _ hr3 (s3.own 0 rfl)).mono ?_
              rintro e w5 ⟨a2, c2, H2, rfl, hr2, hst4⟩
              have s4 := s3.fresh hst4
              simp only [List.cons_append, List.nil_append] at s4
              have hc4 := (hrow.out _ _ s4).2
              clear hst4 s3 hc
              go_upto_region 20 with fail
              refine wp_region_J 37 (fun w' => w'.cell? ⟨ab, ao + i, none⟩ = some (.slice (A i) x.length (C i))) (by kernel_rfl) ?_ (fun hF => ?_)
              · (try dsimp only)
                all_goals (first | exact hc4 | exact hc5 | exact hc6 | exact hc7)
              refine wpAnyJ_take0 (i := 0) (oi := { dst := some 104, op := Go.Op.move (Go.Operand.tmp 14), type := 26, pos := "more.go:28", after := #[], guard := none }) (v := ?_) rfl (by kernel_rfl) (by kernel_rfl) (by kernel_rfl) (by kernel_rfl) (fun _ _ _ h => h) (by first | exact fun _ => hF | exact fun _ => hF (by kernel_rfl)) (fun w => ?_) (by rfl) ?_
              rotate_left
              · first | (go_simp; done) | (go_simp; with_reducible rfl) | (go_split_ands; go_simp; done)
              try simp only [Act.put, List.setIfInBounds_toArray, List.set_cons_zero, List.set_cons_succ]
              refine wpAnyJ_take0 (i := 1) (oi := { dst := some 105, op := Go.Op.binOp Go.BinOp.eql 26 (Go.Operand.tmp 104) (Go.Operand.const (Go.Value.int Go.IntKind.i64 0)) 26, type := 4, pos := "more.go:28", after := #[{ on := 0, ground := Go.Ground.data }], guard := none }) (v := ?_) rfl (by kernel_rfl) (by kernel_rfl) (by kernel_rfl) (by kernel_rfl) (fun _ _ _ h => h) (by first | exact fun _ => hF | exact fun _ => hF (by kernel_rfl)) (fun w => ?_) (by rfl) ?_
              rotate_left
              · first | (go_simp; done) | (go_simp; with_reducible rfl) | (go_split_ands; go_simp; done)
              try simp only [Act.put, List.setIfInBounds_toArray, List.set_cons_zero, List.set_cons_succ]
              refine wpAnyJ_take0 (i := 2) (oi := { dst := some 106, op := Go.Op.move (Go.Operand.tmp 17), type := 4, pos := "more.go:28", after := #[], guard := none }) (v := ?_) rfl (by kernel_rfl) (by kernel_rfl) (by kernel_rfl) (by kernel_rfl) (fun _ _ _ h => h) (by first | exact fun _ => hF | exact fun _ => hF (by kernel_rfl)) (fun w => ?_) (by rfl) ?_
              rotate_left
              · first | (go_simp; done) | (go_simp; with_reducible rfl) | (go_split_ands; go_simp; done)
              try simp only [Act.put, List.setIfInBounds_toArray, List.set_cons_zero, List.set_cons_succ]
              refine wpAnyJ_take0 (i := 3) (oi := { dst := some 107, op := Go.Op.binOp Go.BinOp.neq 4 (Go.Operand.tmp 105) (Go.Operand.tmp 106) 4, type := 4, pos := "more.go:28", after := #[{ on := 1, ground := Go.Ground.data }, { on := 2, ground := Go.Ground.data }], guard := none }) (v := ?_) rfl (by kernel_rfl) (by kernel_rfl) (by kernel_rfl) (by kernel_rfl) (fun _ _ _ h => h) (by first | exact fun _ => hF | exact fun _ => hF (by kernel_rfl)) (fun w => ?_) (by rfl) ?_
              rotate_left
              · first | (go_simp; done) | (go_simp; with_reducible rfl) | (go_split_ands; go_simp; done)
              try simp only [Act.put, List.setIfInBounds_toArray, List.set_cons_zero, List.set_cons_succ]
              refine wpAnyJ_take0 (i := 4) (oi := { dst := some 108, op := Go.Op.move (Go.Operand.tmp 107), type := 4, pos := "more.go:28", after := #[{ on := 3, ground := Go.Ground.data }], guard := none }) (v := ?_) rfl (by kernel_rfl) (by kernel_rfl) (by kernel_rfl) (by kernel_rfl) (fun _ _ _ h => h) (by first | exact fun _ => hF | exact fun _ => hF (by kernel_rfl)) (fun w => ?_) (by rfl) ?_
              rotate_left
              · first | (go_simp; done) | (go_simp; with_reducible rfl) | (go_split_ands; go_simp; done)
              try simp only [Act.put, List.setIfInBounds_toArray, List.set_cons_zero, List.set_cons_succ]
              first
              | refine wpAnyJ_skip0 (i := 5) (oi := { dst := some 109, op := Go.Op.move (Go.Operand.tmp 7), type := 25, pos := "more.go:28", after := #[{ on := 4, ground := Go.Ground.guard }], guard := some (4, false) }) rfl (by kernel_rfl) (by kernel_rfl) (by kernel_rfl) (by kernel_rfl) (fun _ _ _ h => h) (by first | exact fun _ => hF | exact fun _ => hF (by kernel_rfl)) (by rfl) ?_
              | (refine wpAnyJ_take0 (i := 5) (oi := { dst := some 109, op := Go.Op.move (Go.Operand.tmp 7), type := 25, pos := "more.go:28", after := #[{ on := 4, ground := Go.Ground.guard }], guard := some (4, false) }) (v := ?_) rfl (by kernel_rfl) (by kernel_rfl) (by kernel_rfl) (by kernel_rfl) (fun _ _ _ h => h) (by first | exact fun _ => hF | exact fun _ => hF (by kernel_rfl)) (fun w => ?_) (by rfl) ?_
                 rotate_left
                 · first | (go_simp; done) | (go_simp; with_reducible rfl) | (go_split_ands; go_simp; done))
              try simp only [Act.put, List.setIfInBounds_toArray, List.set_cons_zero, List.set_cons_succ]
              first
              | refine wpAnyJ_skip0 (i := 7) (oi := { dst := some 111, op := Go.Op.move (Go.Operand.tmp 0), type := 3, pos := "more.go:28", after := #[{ on := 4, ground := Go.Ground.guard }], guard := some (4, false) }) rfl (by kernel_rfl) (by kernel_rfl) (by kernel_rfl) (by kernel_rfl) (fun _ _ _ h => h) (by first | exact fun _ => hF | exact fun _ => hF (by kernel_rfl)) (by rfl) ?_
              | (refine wpAnyJ_take0 (i := 7) (oi := { dst := some 111, op := Go.Op.move (Go.Operand.tmp 0), type := 3, pos := "more.go:28", after := #[{ on := 4, ground := Go.Ground.guard }], guard := some (4, false) }) (v := ?_) rfl (by kernel_rfl) (by kernel_rfl) (by kernel_rfl) (by kernel_rfl) (fun _ _ _ h => h) (by first | exact fun _ => hF | exact fun _ => hF (by kernel_rfl)) (fun w => ?_) (by rfl) ?_
                 rotate_left
                 · first | (go_simp; done) | (go_simp; with_reducible rfl) | (go_split_ands; go_simp; done))
              try simp only [Act.put, List.setIfInBounds_toArray, List.set_cons_zero, List.set_cons_succ]
              refine wpAnyJ_ready (rs := [6]) (by kernel_rfl) (by simp) ?_
              refine AllJ.cons (o := { dst := some 110, op := Go.Op.call { callee := Go.Callee.value (Go.Operand.func 15), args := #[Go.Operand.tmp 109], argTypes := #[25] }, type := 3, pos := "more.go:28", after := #[{ on := 5, ground := Go.Ground.data }, { on := 4, ground := Go.Ground.chain }, { on := 4, ground := Go.Ground.guard }], guard := some (4, false) }) rfl (fun Kr hKr => ?_) ?_
              · go_simp; go_at_call 15; refine (hus2.out _ _ hr3 (s4.drew.own 0 rfl)).mono ?_; rintro e w6 ⟨rfl, hst6⟩
                have s5 := s4.drew.put 0 rfl hst6
                simp only [List.set_cons_zero] at s5
                have hc5 := (hrow.out _ _ s5).2
                refine hKr.out _ _ (fun hJ => ?_) (fun hF => ?_)
                · first
                  | exact absurd hJ (by decide)
                  | (clear hJ; (try dsimp only); all_goals (first | exact hc4 | exact hc5 | exact hc6 | exact hc7))
                clear hKr
                try simp only [Act.put, List.setIfInBounds_toArray, List.set_cons_zero, List.set_cons_succ]
                first
                | refine wpAnyJ_skip0 (i := 8) (oi := { dst := some 112, op := Go.Op.binOp Go.BinOp.gtr 3 (Go.Operand.tmp 110) (Go.Operand.tmp 111) 3, type := 4, pos := "more.go:28", after := #[{ on := 6, ground := Go.Ground.data }, { on := 7, ground := Go.Ground.data }, { on := 4, ground := Go.Ground.guard }], guard := some (4, false) }) rfl (by kernel_rfl) (by kernel_rfl) (by kernel_rfl) (by kernel_rfl) (fun _ _ _ h => h) (by first | exact fun _ => hF | exact fun _ => hF (by kernel_rfl)) (by rfl) ?_
                | (refine wpAnyJ_take0 (i := 8) (oi := { dst := some 112, op := Go.Op.binOp Go.BinOp.gtr 3 (Go.Operand.tmp 110) (Go.Operand.tmp 111) 3, type := 4, pos := "more.go:28", after := #[{ on := 6, ground := Go.Ground.data }, { on := 7, ground := Go.Ground.data }, { on := 4, ground := Go.Ground.guard }], guard := some (4, false) }) (v := ?_) rfl (by kernel_rfl) (by kernel_rfl) (by kernel_rfl) (by kernel_rfl) (fun _ _ _ h => h) (by first | exact fun _ => hF | exact fun _ => hF (by kernel_rfl)) (fun w => ?_) (by rfl) ?_
                   rotate_left
                   · first | (go_simp; done) | (go_simp; with_reducible rfl) | (go_split_ands; go_simp; done))
                try simp only [Act.put, List.setIfInBounds_toArray, List.set_cons_zero, List.set_cons_succ]
                refine wpAnyJ_take0 (i := 9) (oi := { dst := some 113, op := Go.Op.pick (Go.Operand.tmp 108) (Go.Operand.const (Go.Value.bool true)) (Go.Operand.tmp 112), type := 4, pos := "more.go:28", after := #[{ on := 4, ground := Go.Ground.data }, { on := 8, ground := Go.Ground.data }], guard := none }) (v := ?_) rfl (by kernel_rfl) (by kernel_rfl) (by kernel_rfl) (by kernel_rfl) (fun _ _ _ h => h) (by first | exact fun _ => hF | exact fun _ => hF (by kernel_rfl)) (fun w => ?_) (by rfl) ?_
                rotate_left
                · first | (go_simp; done) | (go_simp; with_reducible rfl) | (go_split_ands; go_simp; done)
                try simp only [Act.put, List.setIfInBounds_toArray, List.set_cons_zero, List.set_cons_succ]
                refine wpAnyJ_take0 (i := 10) (oi := { dst := some 114, op := Go.Op.move (Go.Operand.tmp 113), type := 4, pos := "more.go:28", after := #[{ on := 9, ground := Go.Ground.data }, { on := 6, ground := Go.Ground.chain }], guard := none }) (v := ?_) rfl (by kernel_rfl) (by kernel_rfl) (by kernel_rfl) (by kernel_rfl) (fun _ _ _ h => h) (by first | exact fun _ => hF | exact fun _ => hF (by kernel_rfl)) (fun w => ?_) (by rfl) ?_
                rotate_left
                · first | (go_simp; done) | (go_simp; with_reducible rfl) | (go_split_ands; go_simp; done)
                try simp only [Act.put, List.setIfInBounds_toArray, List.set_cons_zero, List.set_cons_succ]
                first
                | refine wpAnyJ_skip0 (i := 11) (oi := { dst := some 115, op := Go.Op.move (Go.Operand.tmp 17), type := 4, pos := "more.go:28", after := #[{ on := 10, ground := Go.Ground.guard }], guard := some (10, false) }) rfl (by kernel_rfl) (by kernel_rfl) (by kernel_rfl) (by kernel_rfl) (fun _ _ _ h => h) (by first | exact fun _ => hF | exact fun _ => hF (by kernel_rfl)) (by rfl) ?_
                | (refine wpAnyJ_take0 (i := 11) (oi := { dst := some 115, op := Go.Op.move (Go.Operand.tmp 17), type := 4, pos := "more.go:28", after := #[{ on := 10, ground := Go.Ground.guard }], guard := some (10, false) }) (v := ?_) rfl (by kernel_rfl) (by kernel_rfl) (by kernel_rfl) (by kernel_rfl) (fun _ _ _ h => h) (by first | exact fun _ => hF | exact fun _ => hF (by kernel_rfl)) (fun w => ?_) (by rfl) ?_
                   rotate_left
                   · first | (go_simp; done) | (go_simp; with_reducible rfl) | (go_split_ands; go_simp; done))
                try simp only [Act.put, List.setIfInBounds_toArray, List.set_cons_zero, List.set_cons_succ]
                first
                | refine wpAnyJ_skip0 (i := 12) (oi := { dst := some 116, op := Go.Op.unOp Go.UnOp.not 4 (Go.Operand.tmp 115), type := 4, pos := "more.go:28", after := #[{ on := 11, ground := Go.Ground.data }, { on := 10, ground := Go.Ground.guard }], guard := some (10, false) }) rfl (by kernel_rfl) (by kernel_rfl) (by kernel_rfl) (by kernel_rfl) (fun _ _ _ h => h) (by first | exact fun _ => hF | exact fun _ => hF (by kernel_rfl)) (by rfl) ?_
                | (refine wpAnyJ_take0 (i := 12) (oi := { dst := some 116, op := Go.Op.unOp Go.UnOp.not 4 (Go.Operand.tmp 115), type := 4, pos := "more.go:28", after := #[{ on := 11, ground := Go.Ground.data }, { on := 10, ground := Go.Ground.guard }], guard := some (10, false) }) (v := ?_) rfl (by kernel_rfl) (by kernel_rfl) (by kernel_rfl) (by kernel_rfl) (fun _ _ _ h => h) (by first | exact fun _ => hF | exact fun _ => hF (by kernel_rfl)) (fun w => ?_) (by rfl) ?_
                   rotate_left
                   · first | (go_simp; done) | (go_simp; with_reducible rfl) | (go_split_ands; go_simp; done))
                try simp only [Act.put, List.setIfInBounds_toArray, List.set_cons_zero, List.set_cons_succ]
                first
                | refine wpAnyJ_skip0 (i := 13) (oi := { dst := some 117, op := Go.Op.move (Go.Operand.tmp 116), type := 4, pos := "more.go:28", after := #[{ on := 12, ground := Go.Ground.data }, { on := 10, ground := Go.Ground.chain }, { on := 10, ground := Go.Ground.guard }], guard := some (10, false) }) rfl (by kernel_rfl) (by kernel_rfl) (by kernel_rfl) (by kernel_rfl) (fun _ _ _ h => h) (by first | exact fun _ => hF | exact fun _ => hF (by kernel_rfl)) (by rfl) ?_
                | (refine wpAnyJ_take0 (i := 13) (oi := { dst := some 117, op := Go.Op.move (Go.Operand.tmp 116), type := 4, pos := "more.go:28", after := #[{ on := 12, ground := Go.Ground.data }, { on := 10, ground := Go.Ground.chain }, { on := 10, ground := Go.Ground.guard }], guard := some (10, false) }) (v := ?_) rfl (by kernel_rfl) (by kernel_rfl) (by kernel_rfl) (by kernel_rfl) (fun _ _ _ h => h) (by first | exact fun _ => hF | exact fun _ => hF (by kernel_rfl)) (fun w => ?_) (by rfl) ?_
                   rotate_left
                   · first | (go_simp; done) | (go_simp; with_reducible rfl) | (go_split_ands; go_simp; done))
                try simp only [Act.put, List.setIfInBounds_toArray, List.set_cons_zero, List.set_cons_succ]
                first
                | refine wpAnyJ_skip0 (i := 14) (oi := { dst := some 118, op := Go.Op.move (Go.Operand.tmp 15), type := 23, pos := "more.go:28", after := #[{ on := 13, ground := Go.Ground.guard }], guard := some (13, true) }) rfl (by kernel_rfl) (by kernel_rfl) (by kernel_rfl) (by kernel_rfl) (fun _ _ _ h => h) (by first | exact fun _ => hF | exact fun _ => hF (by kernel_rfl)) (by rfl) ?_
                | (refine wpAnyJ_take0 (i := 14) (oi := { dst := some 118, op := Go.Op.move (Go.Operand.tmp 15), type := 23, pos := "more.go:28", after := #[{ on := 13, ground := Go.Ground.guard }], guard := some (13, true) }) (v := ?_) rfl (by kernel_rfl) (by kernel_rfl) (by kernel_rfl) (by kernel_rfl) (fun _ _ _ h => h) (by first | exact fun _ => hF | exact fun _ => hF (by kernel_rfl)) (fun w => ?_) (by rfl) ?_
                   rotate_left
                   · first | (go_simp; done) | (go_simp; with_reducible rfl) | (go_split_ands; go_simp; done))
                try simp only [Act.put, List.setIfInBounds_toArray, List.set_cons_zero, List.set_cons_succ]
                first
                | refine wpAnyJ_skip0 (i := 15) (oi := { dst := some 119, op := Go.Op.move (Go.Operand.tmp 11), type := 23, pos := "more.go:28", after := #[{ on := 13, ground := Go.Ground.guard }], guard := some (13, true) }) rfl (by kernel_rfl) (by kernel_rfl) (by kernel_rfl) (by kernel_rfl) (fun _ _ _ h => h) (by first | exact fun _ => hF | exact fun _ => hF (by kernel_rfl)) (by rfl) ?_
                | (refine wpAnyJ_take0 (i := 15) (oi := { dst := some 119, op := Go.Op.move (Go.Operand.tmp 11), type := 23, pos := "more.go:28", after := #[{ on := 13, ground := Go.Ground.guard }], guard := some (13, true) }) (v := ?_) rfl (by kernel_rfl) (by kernel_rfl) (by kernel_rfl) (by kernel_rfl) (fun _ _ _ h => h) (by first | exact fun _ => hF | exact fun _ => hF (by kernel_rfl)) (fun w => ?_) (by rfl) ?_
                   rotate_left
                   · first | (go_simp; done) | (go_simp; with_reducible rfl) | (go_split_ands; go_simp; done))
                try simp only [Act.put, List.setIfInBounds_toArray, List.set_cons_zero, List.set_cons_succ]
                refine wpAnyJ_ready (rs := [16]) (by kernel_rfl) (by simp) ?_
                refine AllJ.cons (o := { dst := some 120, op := Go.Op.call { callee := Go.Callee.value (Go.Operand.func 16), args := #[Go.Operand.tmp 118, Go.Operand.tmp 119], argTypes := #[23, 23] }, type := 4, pos := "more.go:28", after := #[{ on := 14, ground := Go.Ground.data }, { on := 15, ground := Go.Ground.data }, { on := 13, ground := Go.Ground.chain }, { on := 13, ground := Go.Ground.guard }], guard := some (13, true) }) rfl (fun Kr hKr => ?_) ?_
                · go_simp
                  refine hKr.out _ _ (fun hJ => ?_) (fun hF => ?_)
                  · first
                    | exact absurd hJ (by decide)
                    | (clear hJ; (try dsimp only); all_goals (first | exact hc4 | exact hc5 | exact hc6 | exact hc7))
                  clear hKr
                  try simp only [Act.put, List.setIfInBounds_toArray, List.set_cons_zero, List.set_cons_succ]
                  first
                  | refine wpAnyJ_skip0 (i := 17) (oi := { dst := some 121, op := Go.Op.unOp Go.UnOp.not 4 (Go.Operand.tmp 120), type := 4, pos := "more.go:28", after := #[{ on := 16, ground := Go.Ground.data }, { on := 13, ground := Go.Ground.guard }], guard := some (13, true) }) rfl (by kernel_rfl) (by kernel_rfl) (by kernel_rfl) (by kernel_rfl) (fun _ _ _ h => h) (by first | exact fun _ => hF | exact fun _ => hF (by kernel_rfl)) (by rfl) ?_
                  | (refine wpAnyJ_take0 (i := 17) (oi := { dst := some 121, op := Go.Op.unOp Go.UnOp.not 4 (Go.Operand.tmp 120), type := 4, pos := "more.go:28", after := #[{ on := 16, ground := Go.Ground.data }, { on := 13, ground := Go.Ground.guard }], guard := some (13, true) }) (v := ?_) rfl (by kernel_rfl) (by kernel_rfl) (by kernel_rfl) (by kernel_rfl) (fun _ _ _ h => h) (by first | exact fun _ => hF | exact fun _ => hF (by kernel_rfl)) (fun w => ?_) (by rfl) ?_
                     rotate_left
                     · first | (go_simp; done) | (go_simp; with_reducible rfl) | (go_split_ands; go_simp; done))
                  try simp only [Act.put, List.setIfInBounds_toArray, List.set_cons_zero, List.set_cons_succ]
                  first
                  | refine wpAnyJ_skip0 (i := 18) (oi := { dst := some 122, op := Go.Op.move (Go.Operand.tmp 121), type := 4, pos := "more.go:28", after := #[{ on := 17, ground := Go.Ground.data }, { on := 16, ground := Go.Ground.chain }, { on := 13, ground := Go.Ground.guard }], guard := some (13, true) }) rfl (by kernel_rfl) (by kernel_rfl) (by kernel_rfl) (by kernel_rfl) (fun _ _ _ h => h) (by first | exact fun _ => hF | exact fun _ => hF (by kernel_rfl)) (by rfl) ?_
                  | (refine wpAnyJ_take0 (i := 18) (oi := { dst := some 122, op := Go.Op.move (Go.Operand.tmp 121), type := 4, pos := "more.go:28", after := #[{ on := 17, ground := Go.Ground.data }, { on := 16, ground := Go.Ground.chain }, { on := 13, ground := Go.Ground.guard }], guard := some (13, true) }) (v := ?_) rfl (by kernel_rfl) (by kernel_rfl) (by kernel_rfl) (by kernel_rfl) (fun _ _ _ h => h) (by first | exact fun _ => hF | exact fun _ => hF (by kernel_rfl)) (fun w => ?_) (by rfl) ?_
                     rotate_left
                     · first | (go_simp; done) | (go_simp; with_reducible rfl) | (go_split_ands; go_simp; done))
                  try simp only [Act.put, List.setIfInBounds_toArray, List.set_cons_zero, List.set_cons_succ]
                  first
                  | refine wpAnyJ_skip0 (i := 19) (oi := { dst := some 123, op := Go.Op.move (Go.Operand.tmp 7), type := 25, pos := "more.go:28", after := #[{ on := 18, ground := Go.Ground.guard }], guard := some (18, false) }) rfl (by kernel_rfl) (by kernel_rfl) (by kernel_rfl) (by kernel_rfl) (fun _ _ _ h => h) (by first | exact fun _ => hF | exact fun _ => hF (by kernel_rfl)) (by rfl) ?_
                  | (refine wpAnyJ_take0 (i := 19) (oi := { dst := some 123, op := Go.Op.move (Go.Operand.tmp 7), type := 25, pos := "more.go:28", after := #[{ on := 18, ground := Go.Ground.guard }], guard := some (18, false) }) (v := ?_) rfl (by kernel_rfl) (by kernel_rfl) (by kernel_rfl) (by kernel_rfl) (fun _ _ _ h => h) (by first | exact fun _ => hF | exact fun _ => hF (by kernel_rfl)) (fun w => ?_) (by rfl) ?_
                     rotate_left
                     · first | (go_simp; done) | (go_simp; with_reducible rfl) | (go_split_ands; go_simp; done))
                  try simp only [Act.put, List.setIfInBounds_toArray, List.set_cons_zero, List.set_cons_succ]
                  first
                  | refine wpAnyJ_skip0 (i := 21) (oi := { dst := some 125, op := Go.Op.move (Go.Operand.tmp 13), type := 3, pos := "more.go:28", after := #[{ on := 18, ground := Go.Ground.guard }], guard := some (18, false) }) rfl (by kernel_rfl) (by kernel_rfl) (by kernel_rfl) (by kernel_rfl) (fun _ _ _ h => h) (by first | exact fun _ => hF | exact fun _ => hF (by kernel_rfl)) (by rfl) ?_
                  | (refine wpAnyJ_take0 (i := 21) (oi := { dst := some 125, op := Go.Op.move (Go.Operand.tmp 13), type := 3, pos := "more.go:28", after := #[{ on := 18, ground := Go.Ground.guard }], guard := some (18, false) }) (v := ?_) rfl (by kernel_rfl) (by kernel_rfl) (by kernel_rfl) (by kernel_rfl) (fun _ _ _ h => h) (by first | exact fun _ => hF | exact fun _ => hF (by kernel_rfl)) (fun w => ?_) (by rfl) ?_
                     rotate_left
                     · first | (go_simp; done) | (go_simp; with_reducible rfl) | (go_split_ands; go_simp; done))
                  try simp only [Act.put, List.setIfInBounds_toArray, List.set_cons_zero, List.set_cons_succ]
                  refine wpAnyJ_ready (rs := [20]) (by kernel_rfl) (by simp) ?_
                  refine AllJ.cons (o := { dst := some 124, op := Go.Op.call { callee := Go.Callee.value (Go.Operand.func 15), args := #[Go.Operand.tmp 123], argTypes := #[25] }, type := 3, pos := "more.go:28", after := #[{ on := 19, ground := Go.Ground.data }, { on := 18, ground := Go.Ground.chain }, { on := 18, ground := Go.Ground.guard }], guard := some (18, false) }) rfl (fun Kr hKr => ?_) ?_
                  · go_simp
                    refine hKr.out _ _ (fun hJ => ?_) (fun hF => ?_)
                    · first
                      | exact absurd hJ (by decide)
                      | (clear hJ; (try dsimp only); all_goals (first | exact hc4 | exact hc5 | exact hc6 | exact hc7))
                    clear hKr
                    try simp only [Act.put, List.setIfInBounds_toArray, List.set_cons_zero, List.set_cons_succ]
                    first
                    | refine wpAnyJ_skip0 (i := 22) (oi := { dst := some 126, op := Go.Op.binOp Go.BinOp.neq 3 (Go.Operand.tmp 124) (Go.Operand.tmp 125) 3, type := 4, pos := "more.go:28", after := #[{ on := 20, ground := Go.Ground.data }, { on := 21, ground := Go.Ground.data }, { on := 18, ground := Go.Ground.guard }], guard := some (18, false) }) rfl (by kernel_rfl) (by kernel_rfl) (by kernel_rfl) (by kernel_rfl) (fun _ _ _ h => h) (by first | exact fun _ => hF | exact fun _ => hF (by kernel_rfl)) (by rfl) ?_
                    | (refine wpAnyJ_take0 (i := 22) (oi := { dst := some 126, op := Go.Op.binOp Go.BinOp.neq 3 (Go.Operand.tmp 124) (Go.Operand.tmp 125) 3, type := 4, pos := "more.go:28", after := #[{ on := 20, ground := Go.Ground.data }, { on := 21, ground := Go.Ground.data }, { on := 18, ground := Go.Ground.guard }], guard := some (18, false) }) (v := ?_) rfl (by kernel_rfl) (by kernel_rfl) (by kernel_rfl) (by kernel_rfl) (fun _ _ _ h => h) (by first | exact fun _ => hF | exact fun _ => hF (by kernel_rfl)) (fun w => ?_) (by rfl) ?_
                       rotate_left
                       · first | (go_simp; done) | (go_simp; with_reducible rfl) | (go_split_ands; go_simp; done))
                    try simp only [Act.put, List.setIfInBounds_toArray, List.set_cons_zero, List.set_cons_succ]
                    first
                    | refine wpAnyJ_skip0 (i := 23) (oi := { dst := some 127, op := Go.Op.pick (Go.Operand.tmp 122) (Go.Operand.const (Go.Value.bool true)) (Go.Operand.tmp 126), type := 4, pos := "more.go:28", after := #[{ on := 18, ground := Go.Ground.data }, { on := 22, ground := Go.Ground.data }, { on := 13, ground := Go.Ground.guard }], guard := some (13, true) }) rfl (by kernel_rfl) (by kernel_rfl) (by kernel_rfl) (by kernel_rfl) (fun _ _ _ h => h) (by first | exact fun _ => hF | exact fun _ => hF (by kernel_rfl)) (by rfl) ?_
                    | (refine wpAnyJ_take0 (i := 23) (oi := { dst := some 127, op := Go.Op.pick (Go.Operand.tmp 122) (Go.Operand.const (Go.Value.bool true)) (Go.Operand.tmp 126), type := 4, pos := "more.go:28", after := #[{ on := 18, ground := Go.Ground.data }, { on := 22, ground := Go.Ground.data }, { on := 13, ground := Go.Ground.guard }], guard := some (13, true) }) (v := ?_) rfl (by kernel_rfl) (by kernel_rfl) (by kernel_rfl) (by kernel_rfl) (fun _ _ _ h => h) (by first | exact fun _ => hF | exact fun _ => hF (by kernel_rfl)) (fun w => ?_) (by rfl) ?_
                       rotate_left
                       · first | (go_simp; done) | (go_simp; with_reducible rfl) | (go_split_ands; go_simp; done))
                    try simp only [Act.put, List.setIfInBounds_toArray, List.set_cons_zero, List.set_cons_succ]
                    first
                    | refine wpAnyJ_skip0 (i := 24) (oi := { dst := some 128, op := Go.Op.pick (Go.Operand.tmp 117) (Go.Operand.tmp 127) (Go.Operand.const (Go.Value.bool false)), type := 4, pos := "more.go:28", after := #[{ on := 13, ground := Go.Ground.data }, { on := 23, ground := Go.Ground.data }, { on := 10, ground := Go.Ground.guard }], guard := some (10, false) }) rfl (by kernel_rfl) (by kernel_rfl) (by kernel_rfl) (by kernel_rfl) (fun _ _ _ h => h) (by first | exact fun _ => hF | exact fun _ => hF (by kernel_rfl)) (by rfl) ?_
                    | (refine wpAnyJ_take0 (i := 24) (oi := { dst := some 128, op := Go.Op.pick (Go.Operand.tmp 117) (Go.Operand.tmp 127) (Go.Operand.const (Go.Value.bool false)), type := 4, pos := "more.go:28", after := #[{ on := 13, ground := Go.Ground.data }, { on := 23, ground := Go.Ground.data }, { on := 10, ground := Go.Ground.guard }], guard := some (10, false) }) (v := ?_) rfl (by kernel_rfl) (by kernel_rfl) (by kernel_rfl) (by kernel_rfl) (fun _ _ _ h => h) (by first | exact fun _ => hF | exact fun _ => hF (by kernel_rfl)) (fun w => ?_) (by rfl) ?_
                       rotate_left
                       · first | (go_simp; done) | (go_simp; with_reducible rfl) | (go_split_ands; go_simp; done))
                    try simp only [Act.put, List.setIfInBounds_toArray, List.set_cons_zero, List.set_cons_succ]
                    refine wpAnyJ_take0 (i := 25) (oi := { dst := some 129, op := Go.Op.pick (Go.Operand.tmp 114) (Go.Operand.const (Go.Value.bool true)) (Go.Operand.tmp 128), type := 4, pos := "more.go:28", after := #[{ on := 10, ground := Go.Ground.data }, { on := 24, ground := Go.Ground.data }], guard := none }) (v := ?_) rfl (by kernel_rfl) (by kernel_rfl) (by kernel_rfl) (by kernel_rfl) (fun _ _ _ h => h) (by first | exact fun _ => hF | exact fun _ => hF (by kernel_rfl)) (fun w => ?_) (by rfl) ?_
                    rotate_left
                    · first | (go_simp; done) | (go_simp; with_reducible rfl) | (go_split_ands; go_simp; done)
                    try simp only [Act.put, List.setIfInBounds_toArray, List.set_cons_zero, List.set_cons_succ]
                    refine wpAnyJ_take0 (i := 26) (oi := { dst := some 130, op := Go.Op.move (Go.Operand.tmp 129), type := 4, pos := "more.go:28", after := #[{ on := 25, ground := Go.Ground.data }, { on := 20, ground := Go.Ground.chain }], guard := none }) (v := ?_) rfl (by kernel_rfl) (by kernel_rfl) (by kernel_rfl) (by kernel_rfl) (fun _ _ _ h => h) (by first | exact fun _ => hF | exact fun _ => hF (by kernel_rfl)) (fun w => ?_) (by rfl) ?_
                    rotate_left
                    · first | (go_simp; done) | (go_simp; with_reducible rfl) | (go_split_ands; go_simp; done)
                    try simp only [Act.put, List.setIfInBounds_toArray, List.set_cons_zero, List.set_cons_succ]
                    first
                    | refine wpAnyJ_skip0 (i := 27) (oi := { dst := some 131, op := Go.Op.move (Go.Operand.tmp 17), type := 4, pos := "more.go:28", after := #[{ on := 26, ground := Go.Ground.guard }], guard := some (26, false) }) rfl (by kernel_rfl) (by kernel_rfl) (by kernel_rfl) (by kernel_rfl) (fun _ _ _ h => h) (by first | exact fun _ => hF | exact fun _ => hF (by kernel_rfl)) (by rfl) ?_
                    | (refine wpAnyJ_take0 (i := 27) (oi := { dst := some 131, op := Go.Op.move (Go.Operand.tmp 17), type := 4, pos := "more.go:28", after := #[{ on := 26, ground := Go.Ground.guard }], guard := some (26, false) }) (v := ?_) rfl (by kernel_rfl) (by kernel_rfl) (by kernel_rfl) (by kernel_rfl) (fun _ _ _ h => h) (by first | exact fun _ => hF | exact fun _ => hF (by kernel_rfl)) (fun w => ?_) (by rfl) ?_
                       rotate_left
                       · first | (go_simp; done) | (go_simp; with_reducible rfl) | (go_split_ands; go_simp; done))
                    try simp only [Act.put, List.setIfInBounds_toArray, List.set_cons_zero, List.set_cons_succ]
                    first
                    | refine wpAnyJ_skip0 (i := 28) (oi := { dst := some 132, op := Go.Op.move (Go.Operand.tmp 131), type := 4, pos := "more.go:28", after := #[{ on := 27, ground := Go.Ground.data }, { on := 26, ground := Go.Ground.chain }, { on := 26, ground := Go.Ground.guard }], guard := some (26, false) }) rfl (by kernel_rfl) (by kernel_rfl) (by kernel_rfl) (by kernel_rfl) (fun _ _ _ h => h) (by first | exact fun _ => hF | exact fun _ => hF (by kernel_rfl)) (by rfl) ?_
                    | (refine wpAnyJ_take0 (i := 28) (oi := { dst := some 132, op := Go.Op.move (Go.Operand.tmp 131), type := 4, pos := "more.go:28", after := #[{ on := 27, ground := Go.Ground.data }, { on := 26, ground := Go.Ground.chain }, { on := 26, ground := Go.Ground.guard }], guard := some (26, false) }) (v := ?_) rfl (by kernel_rfl) (by kernel_rfl) (by kernel_rfl) (by kernel_rfl) (fun _ _ _ h => h) (by first | exact fun _ => hF | exact fun _ => hF (by kernel_rfl)) (fun w => ?_) (by rfl) ?_
                       rotate_left
                       · first | (go_simp; done) | (go_simp; with_reducible rfl) | (go_split_ands; go_simp; done))
                    try simp only [Act.put, List.setIfInBounds_toArray, List.set_cons_zero, List.set_cons_succ]
                    first
                    | refine wpAnyJ_skip0 (i := 29) (oi := { dst := some 133, op := Go.Op.move (Go.Operand.tmp 15), type := 23, pos := "more.go:28", after := #[{ on := 28, ground := Go.Ground.guard }], guard := some (28, true) }) rfl (by kernel_rfl) (by kernel_rfl) (by kernel_rfl) (by kernel_rfl) (fun _ _ _ h => h) (by first | exact fun _ => hF | exact fun _ => hF (by kernel_rfl)) (by rfl) ?_
                    | (refine wpAnyJ_take0 (i := 29) (oi := { dst := some 133, op := Go.Op.move (Go.Operand.tmp 15), type := 23, pos := "more.go:28", after := #[{ on := 28, ground := Go.Ground.guard }], guard := some (28, true) }) (v := ?_) rfl (by kernel_rfl) (by kernel_rfl) (by kernel_rfl) (by kernel_rfl) (fun _ _ _ h => h) (by first | exact fun _ => hF | exact fun _ => hF (by kernel_rfl)) (fun w => ?_) (by rfl) ?_
                       rotate_left
                       · first | (go_simp; done) | (go_simp; with_reducible rfl) | (go_split_ands; go_simp; done))
                    try simp only [Act.put, List.setIfInBounds_toArray, List.set_cons_zero, List.set_cons_succ]
                    first
                    | refine wpAnyJ_skip0 (i := 31) (oi := { dst := some 135, op := Go.Op.move (Go.Operand.tmp 11), type := 23, pos := "more.go:28", after := #[{ on := 28, ground := Go.Ground.guard }], guard := some (28, true) }) rfl (by kernel_rfl) (by kernel_rfl) (by kernel_rfl) (by kernel_rfl) (fun _ _ _ h => h) (by first | exact fun _ => hF | exact fun _ => hF (by kernel_rfl)) (by rfl) ?_
                    | (refine wpAnyJ_take0 (i := 31) (oi := { dst := some 135, op := Go.Op.move (Go.Operand.tmp 11), type := 23, pos := "more.go:28", after := #[{ on := 28, ground := Go.Ground.guard }], guard := some (28, true) }) (v := ?_) rfl (by kernel_rfl) (by kernel_rfl) (by kernel_rfl) (by kernel_rfl) (fun _ _ _ h => h) (by first | exact fun _ => hF | exact fun _ => hF (by kernel_rfl)) (fun w => ?_) (by rfl) ?_
                       rotate_left
                       · first | (go_simp; done) | (go_simp; with_reducible rfl) | (go_split_ands; go_simp; done))
                    try simp only [Act.put, List.setIfInBounds_toArray, List.set_cons_zero, List.set_cons_succ]
                    first
                    | refine wpAnyJ_skip0 (i := 33) (oi := { dst := some 137, op := Go.Op.move (Go.Operand.tmp 1), type := 22, pos := "more.go:28", after := #[{ on := 28, ground := Go.Ground.guard }], guard := some (28, true) }) rfl (by kernel_rfl) (by kernel_rfl) (by kernel_rfl) (by kernel_rfl) (fun _ _ _ h => h) (by first | exact fun _ => hF | exact fun _ => hF (by kernel_rfl)) (by rfl) ?_
                    | (refine wpAnyJ_take0 (i := 33) (oi := { dst := some 137, op := Go.Op.move (Go.Operand.tmp 1), type := 22, pos := "more.go:28", after := #[{ on := 28, ground := Go.Ground.guard }], guard := some (28, true) }) (v := ?_) rfl (by kernel_rfl) (by kernel_rfl) (by kernel_rfl) (by kernel_rfl) (fun _ _ _ h => h) (by first | exact fun _ => hF | exact fun _ => hF (by kernel_rfl)) (fun w => ?_) (by rfl) ?_
                       rotate_left
                       · first | (go_simp; done) | (go_simp; with_reducible rfl) | (go_split_ands; go_simp; done))
                    try simp only [Act.put, List.setIfInBounds_toArray, List.set_cons_zero, List.set_cons_succ]
                    first
                    | refine wpAnyJ_skip0 (i := 34) (oi := { dst := some 138, op := Go.Op.move (Go.Operand.tmp 9), type := 3, pos := "more.go:28", after := #[{ on := 28, ground := Go.Ground.guard }], guard := some (28, true) }) rfl (by kernel_rfl) (by kernel_rfl) (by kernel_rfl) (by kernel_rfl) (fun _ _ _ h => h) (by first | exact fun _ => hF | exact fun _ => hF (by kernel_rfl)) (by rfl) ?_
                    | (refine wpAnyJ_take0 (i := 34) (oi := { dst := some 138, op := Go.Op.move (Go.Operand.tmp 9), type := 3, pos := "more.go:28", after := #[{ on := 28, ground := Go.Ground.guard }], guard := some (28, true) }) (v := ?_) rfl (by kernel_rfl) (by kernel_rfl) (by kernel_rfl) (by kernel_rfl) (fun _ _ _ h => h) (by first | exact fun _ => hF | exact fun _ => hF (by kernel_rfl)) (fun w => ?_) (by rfl) ?_
                       rotate_left
                       · first | (go_simp; done) | (go_simp; with_reducible rfl) | (go_split_ands; go_simp; done))
                    try simp only [Act.put, List.setIfInBounds_toArray, List.set_cons_zero, List.set_cons_succ]
                    first
                    | refine wpAnyJ_skip0 (i := 35) (oi := { dst := some 139, op := Go.Op.indexAddr 22 (Go.Operand.tmp 137) (Go.Operand.tmp 138), type := 0, pos := "more.go:28", after := #[{ on := 33, ground := Go.Ground.data }, { on := 34, ground := Go.Ground.data }, { on := 28, ground := Go.Ground.guard }], guard := some (28, true) }) rfl (by kernel_rfl) (by kernel_rfl) (by kernel_rfl) (by kernel_rfl) (fun _ _ _ h => h) (by first | exact fun _ => hF | exact fun _ => hF (by kernel_rfl)) (by rfl) ?_
                    | (refine wpAnyJ_take0 (i := 35) (oi := { dst := some 139, op := Go.Op.indexAddr 22 (Go.Operand.tmp 137) (Go.Operand.tmp 138), type := 0, pos := "more.go:28", after := #[{ on := 33, ground := Go.Ground.data }, { on := 34, ground := Go.Ground.data }, { on := 28, ground := Go.Ground.guard }], guard := some (28, true) }) (v := ?_) rfl (by kernel_rfl) (by kernel_rfl) (by kernel_rfl) (by kernel_rfl) (fun _ _ _ h => h) (by first | exact fun _ => hF | exact fun _ => hF (by kernel_rfl)) (fun w => ?_) (by rfl) ?_
                       rotate_left
                       · first | (go_simp; done) | (go_simp; with_reducible rfl) | (go_split_ands; go_simp; done))
                    try simp only [Act.put, List.setIfInBounds_toArray, List.set_cons_zero, List.set_cons_succ]
                    first
                    | refine wpAnyJ_skip0 (i := 36) (oi := { dst := some 140, op := Go.Op.load 23 (Go.Operand.tmp 139), type := 23, pos := "more.go:28", after := #[{ on := 35, ground := Go.Ground.data }, { on := 28, ground := Go.Ground.guard }], guard := some (28, true) }) rfl (by kernel_rfl) (by kernel_rfl) (by kernel_rfl) (by kernel_rfl) (fun _ _ _ h => h) (by first | exact fun _ => hF | exact fun _ => hF (by kernel_rfl)) (by rfl) ?_
                    | (refine wpAnyJ_take (i := 36) (oi := { dst := some 140, op := Go.Op.load 23 (Go.Operand.tmp 139), type := 23, pos := "more.go:28", after := #[{ on := 35, ground := Go.Ground.data }, { on := 28, ground := Go.Ground.guard }], guard := some (28, true) }) (v := ?_) [37] rfl (by kernel_rfl) (by kernel_rfl) (by kernel_rfl) (by kernel_rfl) (by kernel_rfl) (fun _ _ _ h => h) (by first | exact hF | exact hF (by kernel_rfl)) (fun w hFw => ?_) (by rfl) ?_
                       rotate_left
                       · ((try dsimp only at hFw); first | (go_simp; done) | (go_simp; with_reducible rfl) | (go_split_ands; go_simp; done)))
                    try simp only [Act.put, List.setIfInBounds_toArray, List.set_cons_zero, List.set_cons_succ]
                    refine wpAnyJ_ready (rs := [30]) (by kernel_rfl) (by simp) ?_
                    refine AllJ.cons (o := { dst := some 134, op := Go.Op.buildSlice 23 0 #[], type := 23, pos := "more.go:28", after := #[{ on := 28, ground := Go.Ground.guard }], guard := some (28, true) }) rfl (fun Kr hKr => ?_) ?_
                    · go_simp
                      have s6 := s5.alloc (.cells #[] 5 (0, 0))
                      simp only [List.cons_append, List.nil_append] at s6
                      have hc6 := (hrow.out _ _ s6).2
                      refine hKr.out _ _ (fun hJ => ?_) (fun hF => ?_)
                      · first
                        | exact absurd hJ (by decide)
                        | (clear hJ; (try dsimp only); all_goals (first | exact hc4 | exact hc5 | exact hc6 | exact hc7))
                      clear hKr
                      try simp only [Act.put, List.setIfInBounds_toArray, List.set_cons_zero, List.set_cons_succ]
                      refine wpAnyJ_ready (rs := [32]) (by kernel_rfl) (by simp) ?_
                      refine AllJ.cons (o := { dst := some 136, op := Go.Op.call { callee := Go.Callee.builtin Go.Builtin.append, args := #[Go.Operand.tmp 134, Go.Operand.tmp 135], argTypes := #[23, 23] }, type := 23, pos := "more.go:28", after := #[{ on := 30, ground := Go.Ground.data }, { on := 31, ground := Go.Ground.data }, { on := 28, ground := Go.Ground.chain }, { on := 28, ground := Go.Ground.guard }], guard := some (28, true) }) rfl (fun Kr hKr => ?_) ?_
                      · rw [if_pos (by rfl)]; refine wp_app st_u8 _ _ rfl (by rfl) (by rfl) (SlRep.made _ _ w6.heap.size) (s6.own 3 rfl) (rdBytes_cells (hr1.rdBytes (s6.own 1 rfl))) (by unfold maxLen; omega) (by omega) ?_; intro a7 c7 w7 H7 hv7 hst7
                        have s7 := s6.put 3 rfl hst7
                        simp only [List.set_cons_succ, List.set_cons_zero] at s7
                        have hc7 := (hrow.out _ _ s7).2
                        simp only [Nat.zero_add] at hv7 ⊢
                        refine hKr.out _ _ (fun hJ => ?_) (fun hF => ?_)
                        · first
                          | exact absurd hJ (by decide)
                          | (clear hJ; (try dsimp only); all_goals (first | exact hc4 | exact hc5 | exact hc6 | exact hc7))
                        clear hKr
                        try simp only [Act.put, List.setIfInBounds_toArray, List.set_cons_zero, List.set_cons_succ]
                        refine wpAnyJ_ready (rs := [37]) (by kernel_rfl) (by simp) ?_
                        refine AllJ.cons (o := { dst := some 141, op := Go.Op.call { callee := Go.Callee.builtin Go.Builtin.append, args := #[Go.Operand.tmp 136, Go.Operand.tmp 140], argTypes := #[23, 23] }, type := 23, pos := "more.go:28", after := #[{ on := 32, ground := Go.Ground.data }, { on := 36, ground := Go.Ground.data }, { on := 32, ground := Go.Ground.chain }, { on := 28, ground := Go.Ground.guard }], guard := some (28, true) }) rfl (fun Kr hKr => ?_) ?_
                        · rw [if_pos (by rfl)]; refine wp_app st_u8 _ _ rfl (by rfl) (by rfl) hv7 (s7.own 3 rfl) (rdBytes_cells (hrow.out _ _ s7).1) (by unfold maxLen; omega) (by omega) ?_; intro a8 c8 w8 H8 hv8 hst8
                          have s8 := s7.put 3 rfl hst8
                          simp only [List.set_cons_succ, List.set_cons_zero] at s8
                          refine hKr.out _ _ (fun hJ => ?_) (fun hF => ?_)
                          · first
                            | exact absurd hJ (by decide)
                            | (clear hJ; (try dsimp only); all_goals (first | exact hc4 | exact hc5 | exact hc6 | exact hc7))
                          clear hKr
                          try simp only [Act.put, List.setIfInBounds_toArray, List.set_cons_zero, List.set_cons_succ]
                          refine wpAnyJ_ready (rs := [38]) (by kernel_rfl) (by simp) ?_
                          refine AllJ.cons (o := { dst := some 142, op := Go.Op.call { callee := Go.Callee.value (Go.Operand.func 16), args := #[Go.Operand.tmp 133, Go.Operand.tmp 141], argTypes := #[23, 23] }, type := 4, pos := "more.go:28", after := #[{ on := 29, ground := Go.Ground.data }, { on := 37, ground := Go.Ground.data }, { on := 37, ground := Go.Ground.chain }, { on := 28, ground := Go.Ground.guard }], guard := some (28, true) }) rfl (fun Kr hKr => ?_) ?_
                          · go_simp; go_at_call 16; refine (same_any _ _ _ _ _ _ (was ++ x) (was ++ x) w8 (by have := hr2.rdBytes (s8.own 2 rfl); rwa [List.length_append] at this) (by have h9 := SlRep.rdBytes (l := was ++ x) (by rw [List.map_append]; exact hv8) (s8.own 3 rfl); exact h9) (by rw [List.length_append]; omega) (by rw [List.length_append]; omega)).mono ?_; rintro e w9 ⟨rfl, hst9⟩; rw [decide_eq_true (rfl : was ++ x = was ++ x)]
                            have s9 := s8.still hst9
                            refine hKr.out _ _ (fun hJ => ?_) (fun hF => ?_)
                            · first
                              | exact absurd hJ (by decide)
                              | (clear hJ; (try dsimp only); all_goals (first | exact hc4 | exact hc5 | exact hc6 | exact hc7))
                            clear hKr
                            try simp only [Act.put, List.setIfInBounds_toArray, List.set_cons_zero, List.set_cons_succ]
                            first
                            | refine wpAnyJ_skip0 (i := 39) (oi := { dst := some 143, op := Go.Op.unOp Go.UnOp.not 4 (Go.Operand.tmp 142), type := 4, pos := "more.go:28", after := #[{ on := 38, ground := Go.Ground.data }, { on := 28, ground := Go.Ground.guard }], guard := some (28, true) }) rfl (by kernel_rfl) (by kernel_rfl) (by kernel_rfl) (by kernel_rfl) (fun _ _ _ h => h) (fun hJ => absurd hJ (by decide)) (by rfl) ?_
                            | (refine wpAnyJ_take0 (i := 39) (oi := { dst := some 143, op := Go.Op.unOp Go.UnOp.not 4 (Go.Operand.tmp 142), type := 4, pos := "more.go:28", after := #[{ on := 38, ground := Go.Ground.data }, { on := 28, ground := Go.Ground.guard }], guard := some (28, true) }) (v := ?_) rfl (by kernel_rfl) (by kernel_rfl) (by kernel_rfl) (by kernel_rfl) (fun _ _ _ h => h) (fun hJ => absurd hJ (by decide)) (fun w => ?_) (by rfl) ?_
                               rotate_left
                               · first | (go_simp; done) | (go_simp; with_reducible rfl) | (go_split_ands; go_simp; done))
                            try simp only [Act.put, List.setIfInBounds_toArray, List.set_cons_zero, List.set_cons_succ]
                            first
                            | refine wpAnyJ_skip0 (i := 40) (oi := { dst := some 144, op := Go.Op.pick (Go.Operand.tmp 132) (Go.Operand.tmp 143) (Go.Operand.const (Go.Value.bool false)), type := 4, pos := "more.go:28", after := #[{ on := 28, ground := Go.Ground.data }, { on := 39, ground := Go.Ground.data }, { on := 26, ground := Go.Ground.guard }], guard := some (26, false) }) rfl (by kernel_rfl) (by kernel_rfl) (by kernel_rfl) (by kernel_rfl) (fun _ _ _ h => h) (fun hJ => absurd hJ (by decide)) (by rfl) ?_
                            | (refine wpAnyJ_take0 (i := 40) (oi := { dst := some 144, op := Go.Op.pick (Go.Operand.tmp 132) (Go.Operand.tmp 143) (Go.Operand.const (Go.Value.bool false)), type := 4, pos := "more.go:28", after := #[{ on := 28, ground := Go.Ground.data }, { on := 39, ground := Go.Ground.data }, { on := 26, ground := Go.Ground.guard }], guard := some (26, false) }) (v := ?_) rfl (by kernel_rfl) (by kernel_rfl) (by kernel_rfl) (by kernel_rfl) (fun _ _ _ h => h) (fun hJ => absurd hJ (by decide)) (fun w => ?_) (by rfl) ?_
                               rotate_left
                               · first | (go_simp; done) | (go_simp; with_reducible rfl) | (go_split_ands; go_simp; done))
                            try simp only [Act.put, List.setIfInBounds_toArray, List.set_cons_zero, List.set_cons_succ]
                            refine wpAnyJ_take0 (i := 41) (oi := { dst := some 145, op := Go.Op.pick (Go.Operand.tmp 130) (Go.Operand.const (Go.Value.bool true)) (Go.Operand.tmp 144), type := 4, pos := "more.go:28", after := #[{ on := 26, ground := Go.Ground.data }, { on := 40, ground := Go.Ground.data }], guard := none }) (v := ?_) rfl (by kernel_rfl) (by kernel_rfl) (by kernel_rfl) (by kernel_rfl) (fun _ _ _ h => h) (fun hJ => absurd hJ (by decide)) (fun w => ?_) (by rfl) ?_
                            rotate_left
                            · first | (go_simp; done) | (go_simp; with_reducible rfl) | (go_split_ands; go_simp; done)
                            try simp only [Act.put, List.setIfInBounds_toArray, List.set_cons_zero, List.set_cons_succ]
                            refine wpAnyJ_done (by kernel_rfl) ?_ _
                            go_wp2_with fail
                            exact ⟨⟨i + 1, k', H3, hlt, by go_num, q2.out, hr3, Sp.of s9.first⟩, by simp [intOf]; omega⟩
                          exact AllJ.nil
                        exact AllJ.nil
                      exact AllJ.nil
                    exact AllJ.nil
                  exact AllJ.nil
                exact AllJ.nil
              exact AllJ.nil
            · obtain ⟨q1, q2⟩ := p2 (by omega)
              have f1 : (m : Int) < (u : Int) + (x.length : Int) := by omega
              have f3 : decide ((m : Int) < (u : Int)) = false := decide_eq_false (by omega)
              have f5 : decide ((u : Int) + (x.length : Int) ≤ (m : Int)) = false := decide_eq_false (by omega)
              have f6 : decide (u + x.length ≤ m) = false := decide_eq_false (by omega)
              have f4 : decide (m < u) = false := decide_eq_false (by omega)
              have hwl : was.length ≤ 5000 := by
                have h1 := congrArg (fun z => z.1.length) hwas
                simp only at h1
                rw [rd_get] at h1
                have h2 : (getF k.L nm).1.length ≤ usedF k.L := by
                  cases hi' : isF k.L nm
                  · rw [getF_no hi']; exact Nat.zero_le _
                  · exact used_get hi'
                rw [h1]
                have := hiv.ok.used
                rw [hiv.room] at this
                omega
              have hrd2 := Lib.hid (fun H W hr hW => dread b k H nm W hr hiv.ok hW)
              rw [← hwas] at hrd2
              have hus2 := Lib.hid (fun H W hr hW => used_any b k H W hr hW (by have := hiv.ok.used; have := hiv.ok.room; omega))
              rw [← hu.out] at hus2
              replace q1 := Lib.hid q1
              replace q2 := Lib.hid q2
              replace hwas := Lib.hid hwas
              clear p1 p2 hfit hiv
              go_wp2_with fail
              refine (hrd1.out _ (hs.out.own 0 rfl)).mono ?_
              rintro e w2 ⟨a1, c1, H1, rfl, hr1, hst1⟩
              have s1 := hs.out.fresh hst1
              simp only [List.cons_append, List.nil_append] at s1
              clear hst1
              go_wp2_with fail
              refine (hus.out _ (s1.own 0 rfl)).mono ?_
              rintro e w3 ⟨rfl, hst2⟩
              have s2 := s1.put 0 rfl hst2
              simp only [List.set_cons_zero] at s2
              have hc2 := (hrow.out _ _ s2).2
              clear hst2 s1
              go_wp2_with fail
              refine (hwr.out _ _ s2 rfl).mono ?_
              intro e w4 hpost
              rw [q1.out] at hpost
              obtain ⟨rfl, H3, hr3, hst3⟩ := hpost
              have s3 := s2.put 0 rfl hst3
              simp only [List.set_cons_zero] at s3
              clear hst3 s2 hc2
              go_wp2_with fail
              refine (hrd2.out _ _ hr3 (s3.own 0 rfl)).mono ?_
              rintro e w5 ⟨a2, c2, H2, rfl, hr2, hst4⟩
              have s4 := s3.fresh hst4
              simp only [List.cons_append, List.nil_append] at s4
              have hc4 := (hrow.out _ _ s4).2
              clear hst4 s3 hc
              go_upto_region 20 with fail
              refine wp_region_J 37 (fun w' => w'.cell? ⟨ab, ao + i, none⟩ = some (.slice (A i) x.length (C i))) (by kernel_rfl) ?_ (fun hF => ?_)
              · (try dsimp only)
                all_goals (first | exact hc4 | exact hc5 | exact hc6 | exact hc7)
              refine wpAnyJ_take0 (i := 0) (oi := { dst := some 104, op := Go.Op.move (Go.Operand.tmp 14), type := 26, pos := "more.go:28", after := #[], guard := none }) (v := ?_) rfl (by kernel_rfl) (by kernel_rfl) (by kernel_rfl) (by kernel_rfl) (fun _ _ _ h => h) (by first | exact fun _ => hF | exact fun _ => hF (by kernel_rfl)) (fun w => ?_) (by rfl) ?_
              rotate_left
              · first | (go_simp; done) | (go_simp; with_reducible rfl) | (go_split_ands; go_simp; done)
              try simp only [Act.put, List.setIfInBounds_toArray, List.set_cons_zero, List.set_cons_succ]
              refine wpAnyJ_take0 (i := 1) (oi := { dst := some 105, op := Go.Op.binOp Go.BinOp.eql 26 (Go.Operand.tmp 104) (Go.Operand.const (Go.Value.int Go.IntKind.i64 0)) 26, type := 4, pos := "more.go:28", after := #[{ on := 0, ground := Go.Ground.data }], guard := none }) (v := ?_) rfl (by kernel_rfl) (by kernel_rfl) (by kernel_rfl) (by kernel_rfl) (fun _ _ _ h => h) (by first | exact fun _ => hF | exact fun _ => hF (by kernel_rfl)) (fun w => ?_) (by rfl) ?_
              rotate_left
              · first | (go_simp; done) | (go_simp; with_reducible rfl) | (go_split_ands; go_simp; done)
              try simp only [Act.put, List.setIfInBounds_toArray, List.set_cons_zero, List.set_cons_succ]
              refine wpAnyJ_take0 (i := 2) (oi := { dst := some 106, op := Go.Op.move (Go.Operand.tmp 17), type := 4, pos := "more.go:28", after := #[], guard := none }) (v := ?_) rfl (by kernel_rfl) (by kernel_rfl) (by kernel_rfl) (by kernel_rfl) (fun _ _ _ h => h) (by first | exact fun _ => hF | exact fun _ => hF (by kernel_rfl)) (fun w => ?_) (by rfl) ?_
              rotate_left
              · first | (go_simp; done) | (go_simp; with_reducible rfl) | (go_split_ands; go_simp; done)
              try simp only [Act.put, List.setIfInBounds_toArray, List.set_cons_zero, List.set_cons_succ]
              refine wpAnyJ_take0 (i := 3) (oi := { dst := some 107, op := Go.Op.binOp Go.BinOp.neq 4 (Go.Operand.tmp 105) (Go.Operand.tmp 106) 4, type := 4, pos := "more.go:28", after := #[{ on := 1, ground := Go.Ground.data }, { on := 2, ground := Go.Ground.data }], guard := none }) (v := ?_) rfl (by kernel_rfl) (by kernel_rfl) (by kernel_rfl) (by kernel_rfl) (fun _ _ _ h => h) (by first | exact fun _ => hF | exact fun _ => hF (by kernel_rfl)) (fun w => ?_) (by rfl) ?_
              rotate_left
              · first | (go_simp; done) | (go_simp; with_reducible rfl) | (go_split_ands; go_simp; done)
              try simp only [Act.put, List.setIfInBounds_toArray, List.set_cons_zero, List.set_cons_succ]
              refine wpAnyJ_take0 (i := 4) (oi := { dst := some 108, op := Go.Op.move (Go.Operand.tmp 107), type := 4, pos := "more.go:28", after := #[{ on := 3, ground := Go.Ground.data }], guard := none }) (v := ?_) rfl (by kernel_rfl) (by kernel_rfl) (by kernel_rfl) (by kernel_rfl) (fun _ _ _ h => h) (by first | exact fun _ => hF | exact fun _ => hF (by kernel_rfl)) (fun w => ?_) (by rfl) ?_
              rotate_left
              · first | (go_simp; done) | (go_simp; with_reducible rfl) | (go_split_ands; go_simp; done)
              try simp only [Act.put, List.setIfInBounds_toArray, List.set_cons_zero, List.set_cons_succ]
              first
              | refine wpAnyJ_skip0 (i := 5) (oi := { dst := some 109, op := Go.Op.move (Go.Operand.tmp 7), type := 25, pos := "more.go:28", after := #[{ on := 4, ground := Go.Ground.guard }], guard := some (4, false) }) rfl (by kernel_rfl) (by kernel_rfl) (by kernel_rfl) (by kernel_rfl) (fun _ _ _ h => h) (by first | exact fun _ => hF | exact fun _ => hF (by kernel_rfl)) (by rfl) ?_
              | (refine wpAnyJ_take0 (i := 5) (oi := { dst := some 109, op := Go.Op.move (Go.Operand.tmp 7), type := 25, pos := "more.go:28", after := #[{ on := 4, ground := Go.Ground.guard }], guard := some (4, false) }) (v := ?_) rfl (by kernel_rfl) (by kernel_rfl) (by kernel_rfl) (by kernel_rfl) (fun _ _ _ h => h) (by first | exact fun _ => hF | exact fun _ => hF (by kernel_rfl)) (fun w => ?_) (by rfl) ?_
                 rotate_left
                 · first | (go_simp; done) | (go_simp; with_reducible rfl) | (go_split_ands; go_simp; done))
              try simp only [Act.put, List.setIfInBounds_toArray, List.set_cons_zero, List.set_cons_succ]
              first
              | refine wpAnyJ_skip0 (i := 7) (oi := { dst := some 111, op := Go.Op.move (Go.Operand.tmp 0), type := 3, pos := "more.go:28", after := #[{ on := 4, ground := Go.Ground.guard }], guard := some (4, false) }) rfl (by kernel_rfl) (by kernel_rfl) (by kernel_rfl) (by kernel_rfl) (fun _ _ _ h => h) (by first | exact fun _ => hF | exact fun _ => hF (by kernel_rfl)) (by rfl) ?_
              | (refine wpAnyJ_take0 (i := 7) (oi := { dst := some 111, op := Go.Op.move (Go.Operand.tmp 0), type := 3, pos := "more.go:28", after := #[{ on := 4, ground := Go.Ground.guard }], guard := some (4, false) }) (v := ?_) rfl (by kernel_rfl) (by kernel_rfl) (by kernel_rfl) (by kernel_rfl) (fun _ _ _ h => h) (by first | exact fun _ => hF | exact fun _ => hF (by kernel_rfl)) (fun w => ?_) (by rfl) ?_
                 rotate_left
                 · first | (go_simp; done) | (go_simp; with_reducible rfl) | (go_split_ands; go_simp; done))
              try simp only [Act.put, List.setIfInBounds_toArray, List.set_cons_zero, List.set_cons_succ]
              refine wpAnyJ_ready (rs := [6]) (by kernel_rfl) (by simp) ?_
              refine AllJ.cons (o := { dst := some 110, op := Go.Op.call { callee := Go.Callee.value (Go.Operand.func 15), args := #[Go.Operand.tmp 109], argTypes := #[25] }, type := 3, pos := "more.go:28", after := #[{ on := 5, ground := Go.Ground.data }, { on := 4, ground := Go.Ground.chain }, { on := 4, ground := Go.Ground.guard }], guard := some (4, false) }) rfl (fun Kr hKr => ?_) ?_
              · go_simp; go_at_call 15; refine (hus2.out _ _ hr3 (s4.drew.own 0 rfl)).mono ?_; rintro e w6 ⟨rfl, hst6⟩
                have s5 := s4.drew.put 0 rfl hst6
                simp only [List.set_cons_zero] at s5
                have hc5 := (hrow.out _ _ s5).2
                refine hKr.out _ _ (fun hJ => ?_) (fun hF => ?_)
                · first
                  | exact absurd hJ (by decide)
                  | (clear hJ; (try dsimp only); all_goals (first | exact hc4 | exact hc5 | exact hc6 | exact hc7))
                clear hKr
                try simp only [Act.put, List.setIfInBounds_toArray, List.set_cons_zero, List.set_cons_succ]
                first
                | refine wpAnyJ_skip0 (i := 8) (oi := { dst := some 112, op := Go.Op.binOp Go.BinOp.gtr 3 (Go.Operand.tmp 110) (Go.Operand.tmp 111) 3, type := 4, pos := "more.go:28", after := #[{ on := 6, ground := Go.Ground.data }, { on := 7, ground := Go.Ground.data }, { on := 4, ground := Go.Ground.guard }], guard := some (4, false) }) rfl (by kernel_rfl) (by kernel_rfl) (by kernel_rfl) (by kernel_rfl) (fun _ _ _ h => h) (by first | exact fun _ => hF | exact fun _ => hF (by kernel_rfl)) (by rfl) ?_
                | (refine wpAnyJ_take0 (i := 8) (oi := { dst := some 112, op := Go.Op.binOp Go.BinOp.gtr 3 (Go.Operand.tmp 110) (Go.Operand.tmp 111) 3, type := 4, pos := "more.go:28", after := #[{ on := 6, ground := Go.Ground.data }, { on := 7, ground := Go.Ground.data }, { on := 4, ground := Go.Ground.guard }], guard := some (4, false) }) (v := ?_) rfl (by kernel_rfl) (by kernel_rfl) (by kernel_rfl) (by kernel_rfl) (fun _ _ _ h => h) (by first | exact fun _ => hF | exact fun _ => hF (by kernel_rfl)) (fun w => ?_) (by rfl) ?_
                   rotate_left
                   · first | (go_simp; done) | (go_simp; with_reducible rfl) | (go_split_ands; go_simp; done))
                try simp only [Act.put, List.setIfInBounds_toArray, List.set_cons_zero, List.set_cons_succ]
                refine wpAnyJ_take0 (i := 9) (oi := { dst := some 113, op := Go.Op.pick (Go.Operand.tmp 108) (Go.Operand.const (Go.Value.bool true)) (Go.Operand.tmp 112), type := 4, pos := "more.go:28", after := #[{ on := 4, ground := Go.Ground.data }, { on := 8, ground := Go.Ground.data }], guard := none }) (v := ?_) rfl (by kernel_rfl) (by kernel_rfl) (by kernel_rfl) (by kernel_rfl) (fun _ _ _ h => h) (by first | exact fun _ => hF | exact fun _ => hF (by kernel_rfl)) (fun w => ?_) (by rfl) ?_
                rotate_left
                · first | (go_simp; done) | (go_simp; with_reducible rfl) | (go_split_ands; go_simp; done)
                try simp only [Act.put, List.setIfInBounds_toArray, List.set_cons_zero, List.set_cons_succ]
                refine wpAnyJ_take0 (i := 10) (oi := { dst := some 114, op := Go.Op.move (Go.Operand.tmp 113), type := 4, pos := "more.go:28", after := #[{ on := 9, ground := Go.Ground.data }, { on := 6, ground := Go.Ground.chain }], guard := none }) (v := ?_) rfl (by kernel_rfl) (by kernel_rfl) (by kernel_rfl) (by kernel_rfl) (fun _ _ _ h => h) (by first | exact fun _ => hF | exact fun _ => hF (by kernel_rfl)) (fun w => ?_) (by rfl) ?_
                rotate_left
                · first | (go_simp; done) | (go_simp; with_reducible rfl) | (go_split_ands; go_simp; done)
                try simp only [Act.put, List.setIfInBounds_toArray, List.set_cons_zero, List.set_cons_succ]
                first
                | refine wpAnyJ_skip0 (i := 11) (oi := { dst := some 115, op := Go.Op.move (Go.Operand.tmp 17), type := 4, pos := "more.go:28", after := #[{ on := 10, ground := Go.Ground.guard }], guard := some (10, false) }) rfl (by kernel_rfl) (by kernel_rfl) (by kernel_rfl) (by kernel_rfl) (fun _ _ _ h => h) (by first | exact fun _ => hF | exact fun _ => hF (by kernel_rfl)) (by rfl) ?_
                | (refine wpAnyJ_take0 (i := 11) (oi := { dst := some 115, op := Go.Op.move (Go.Operand.tmp 17), type := 4, pos := "more.go:28", after := #[{ on := 10, ground := Go.Ground.guard }], guard := some (10, false) }) (v := ?_) rfl (by kernel_rfl) (by kernel_rfl) (by kernel_rfl) (by kernel_rfl) (fun _ _ _ h => h) (by first | exact fun _ => hF | exact fun _ => hF (by kernel_rfl)) (fun w => ?_) (by rfl) ?_
                   rotate_left
                   · first | (go_simp; done) | (go_simp; with_reducible rfl) | (go_split_ands; go_simp; done))
                try simp only [Act.put, List.setIfInBounds_toArray, List.set_cons_zero, List.set_cons_succ]
                first
                | refine wpAnyJ_skip0 (i := 12) (oi := { dst := some 116, op := Go.Op.unOp Go.UnOp.not 4 (Go.Operand.tmp 115), type := 4, pos := "more.go:28", after := #[{ on := 11, ground := Go.Ground.data }, { on := 10, ground := Go.Ground.guard }], guard := some (10, false) }) rfl (by kernel_rfl) (by kernel_rfl) (by kernel_rfl) (by kernel_rfl) (fun _ _ _ h => h) (by first | exact fun _ => hF | exact fun _ => hF (by kernel_rfl)) (by rfl) ?_
                | (refine wpAnyJ_take0 (i := 12) (oi := { dst := some 116, op := Go.Op.unOp Go.UnOp.not 4 (Go.Operand.tmp 115), type := 4, pos := "more.go:28", after := #[{ on := 11, ground := Go.Ground.data }, { on := 10, ground := Go.Ground.guard }], guard := some (10, false) }) (v := ?_) rfl (by kernel_rfl) (by kernel_rfl) (by kernel_rfl) (by kernel_rfl) (fun _ _ _ h => h) (by first | exact fun _ => hF | exact fun _ => hF (by kernel_rfl)) (fun w => ?_) (by rfl) ?_
                   rotate_left
                   · first | (go_simp; done) | (go_simp; with_reducible rfl) | (go_split_ands; go_simp; done))
                try simp only [Act.put, List.setIfInBounds_toArray, List.set_cons_zero, List.set_cons_succ]
                first
                | refine wpAnyJ_skip0 (i := 13) (oi := { dst := some 117, op := Go.Op.move (Go.Operand.tmp 116), type := 4, pos := "more.go:28", after := #[{ on := 12, ground := Go.Ground.data }, { on := 10, ground := Go.Ground.chain }, { on := 10, ground := Go.Ground.guard }], guard := some (10, false) }) rfl (by kernel_rfl) (by kernel_rfl) (by kernel_rfl) (by kernel_rfl) (fun _ _ _ h => h) (by first | exact fun _ => hF | exact fun _ => hF (by kernel_rfl)) (by rfl) ?_
                | (refine wpAnyJ_take0 (i := 13) (oi := { dst := some 117, op := Go.Op.move (Go.Operand.tmp 116), type := 4, pos := "more.go:28", after := #[{ on := 12, ground := Go.Ground.data }, { on := 10, ground := Go.Ground.chain }, { on := 10, ground := Go.Ground.guard }], guard := some (10, false) }) (v := ?_) rfl (by kernel_rfl) (by kernel_rfl) (by kernel_rfl) (by kernel_rfl) (fun _ _ _ h => h) (by first | exact fun _ => hF | exact fun _ => hF (by kernel_rfl)) (fun w => ?_) (by rfl) ?_
                   rotate_left
                   · first | (go_simp; done) | (go_simp; with_reducible rfl) | (go_split_ands; go_simp; done))
                try simp only [Act.put, List.setIfInBounds_toArray, List.set_cons_zero, List.set_cons_succ]
                first
                | refine wpAnyJ_skip0 (i := 14) (oi := { dst := some 118, op := Go.Op.move (Go.Operand.tmp 15), type := 23, pos := "more.go:28", after := #[{ on := 13, ground := Go.Ground.guard }], guard := some (13, true) }) rfl (by kernel_rfl) (by kernel_rfl) (by kernel_rfl) (by kernel_rfl) (fun _ _ _ h => h) (by first | exact fun _ => hF | exact fun _ => hF (by kernel_rfl)) (by rfl) ?_
                | (refine wpAnyJ_take0 (i := 14) (oi := { dst := some 118, op := Go.Op.move (Go.Operand.tmp 15), type := 23, pos := "more.go:28", after := #[{ on := 13, ground := Go.Ground.guard }], guard := some (13, true) }) (v := ?_) rfl (by kernel_rfl) (by kernel_rfl) (by kernel_rfl) (by kernel_rfl) (fun _ _ _ h => h) (by first | exact fun _ => hF | exact fun _ => hF (by kernel_rfl)) (fun w => ?_) (by rfl) ?_
                   rotate_left
                   · first | (go_simp; done) | (go_simp; with_reducible rfl) | (go_split_ands; go_simp; done))
                try simp only [Act.put, List.setIfInBounds_toArray, List.set_cons_zero, List.set_cons_succ]
                first
                | refine wpAnyJ_skip0 (i := 15) (oi := { dst := some 119, op := Go.Op.move (Go.Operand.tmp 11), type := 23, pos := "more.go:28", after := #[{ on := 13, ground := Go.Ground.guard }], guard := some (13, true) }) rfl (by kernel_rfl) (by kernel_rfl) (by kernel_rfl) (by kernel_rfl) (fun _ _ _ h => h) (by first | exact fun _ => hF | exact fun _ => hF (by kernel_rfl)) (by rfl) ?_
                | (refine wpAnyJ_take0 (i := 15) (oi := { dst := some 119, op := Go.Op.move (Go.Operand.tmp 11), type := 23, pos := "more.go:28", after := #[{ on := 13, ground := Go.Ground.guard }], guard := some (13, true) }) (v := ?_) rfl (by kernel_rfl) (by kernel_rfl) (by kernel_rfl) (by kernel_rfl) (fun _ _ _ h => h) (by first | exact fun _ => hF | exact fun _ => hF (by kernel_rfl)) (fun w => ?_) (by rfl) ?_
                   rotate_left
                   · first | (go_simp; done) | (go_simp; with_reducible rfl) | (go_split_ands; go_simp; done))
                try simp only [Act.put, List.setIfInBounds_toArray, List.set_cons_zero, List.set_cons_succ]
                refine wpAnyJ_ready (rs := [16]) (by kernel_rfl) (by simp) ?_
                refine AllJ.cons (o := { dst := some 120, op := Go.Op.call { callee := Go.Callee.value (Go.Operand.func 16), args := #[Go.Operand.tmp 118, Go.Operand.tmp 119], argTypes := #[23, 23] }, type := 4, pos := "more.go:28", after := #[{ on := 14, ground := Go.Ground.data }, { on := 15, ground := Go.Ground.data }, { on := 13, ground := Go.Ground.chain }, { on := 13, ground := Go.Ground.guard }], guard := some (13, true) }) rfl (fun Kr hKr => ?_) ?_
                · go_simp; go_at_call 16; refine (same_any _ _ _ _ _ _ was was _ (hr2.rdBytes (s5.own 2 rfl)) (hr1.rdBytes (s5.own 1 rfl)) (by omega) (by omega)).mono ?_; rintro e w7 ⟨rfl, hst7⟩; rw [decide_eq_true (rfl : was = was)]
                  have s6 := s5.still hst7
                  have hc6 := (hrow.out _ _ s6).2
                  refine hKr.out _ _ (fun hJ => ?_) (fun hF => ?_)
                  · first
                    | exact absurd hJ (by decide)
                    | (clear hJ; (try dsimp only); all_goals (first | exact hc4 | exact hc5 | exact hc6 | exact hc7))
                  clear hKr
                  try simp only [Act.put, List.setIfInBounds_toArray, List.set_cons_zero, List.set_cons_succ]
                  first
                  | refine wpAnyJ_skip0 (i := 17) (oi := { dst := some 121, op := Go.Op.unOp Go.UnOp.not 4 (Go.Operand.tmp 120), type := 4, pos := "more.go:28", after := #[{ on := 16, ground := Go.Ground.data }, { on := 13, ground := Go.Ground.guard }], guard := some (13, true) }) rfl (by kernel_rfl) (by kernel_rfl) (by kernel_rfl) (by kernel_rfl) (fun _ _ _ h => h) (by first | exact fun _ => hF | exact fun _ => hF (by kernel_rfl)) (by rfl) ?_
                  | (refine wpAnyJ_take0 (i := 17) (oi := { dst := some 121, op := Go.Op.unOp Go.UnOp.not 4 (Go.Operand.tmp 120), type := 4, pos := "more.go:28", after := #[{ on := 16, ground := Go.Ground.data }, { on := 13, ground := Go.Ground.guard }], guard := some (13, true) }) (v := ?_) rfl (by kernel_rfl) (by kernel_rfl) (by kernel_rfl) (by kernel_rfl) (fun _ _ _ h => h) (by first | exact fun _ => hF | exact fun _ => hF (by kernel_rfl)) (fun w => ?_) (by rfl) ?_
                     rotate_left
                     · first | (go_simp; done) | (go_simp; with_reducible rfl) | (go_split_ands; go_simp; done))
                  try simp only [Act.put, List.setIfInBounds_toArray, List.set_cons_zero, List.set_cons_succ]
                  first
                  | refine wpAnyJ_skip0 (i := 18) (oi := { dst := some 122, op := Go.Op.move (Go.Operand.tmp 121), type := 4, pos := "more.go:28", after := #[{ on := 17, ground := Go.Ground.data }, { on := 16, ground := Go.Ground.chain }, { on := 13, ground := Go.Ground.guard }], guard := some (13, true) }) rfl (by kernel_rfl) (by kernel_rfl) (by kernel_rfl) (by kernel_rfl) (fun _ _ _ h => h) (by first | exact fun _ => hF | exact fun _ => hF (by kernel_rfl)) (by rfl) ?_
                  | (refine wpAnyJ_take0 (i := 18) (oi := { dst := some 122, op := Go.Op.move (Go.Operand.tmp 121), type := 4, pos := "more.go:28", after := #[{ on := 17, ground := Go.Ground.data }, { on := 16, ground := Go.Ground.chain }, { on := 13, ground := Go.Ground.guard }], guard := some (13, true) }) (v := ?_) rfl (by kernel_rfl) (by kernel_rfl) (by kernel_rfl) (by kernel_rfl) (fun _ _ _ h => h) (by first | exact fun _ => hF | exact fun _ => hF (by kernel_rfl)) (fun w => ?_) (by rfl) ?_
                     rotate_left
                     · first | (go_simp; done) | (go_simp; with_reducible rfl) | (go_split_ands; go_simp; done))
                  try simp only [Act.put, List.setIfInBounds_toArray, List.set_cons_zero, List.set_cons_succ]
                  first
                  | refine wpAnyJ_skip0 (i := 19) (oi := { dst := some 123, op := Go.Op.move (Go.Operand.tmp 7), type := 25, pos := "more.go:28", after := #[{ on := 18, ground := Go.Ground.guard }], guard := some (18, false) }) rfl (by kernel_rfl) (by kernel_rfl) (by kernel_rfl) (by kernel_rfl) (fun _ _ _ h => h) (by first | exact fun _ => hF | exact fun _ => hF (by kernel_rfl)) (by rfl) ?_
                  | (refine wpAnyJ_take0 (i := 19) (oi := { dst := some 123, op := Go.Op.move (Go.Operand.tmp 7), type := 25, pos := "more.go:28", after := #[{ on := 18, ground := Go.Ground.guard }], guard := some (18, false) }) (v := ?_) rfl (by kernel_rfl) (by kernel_rfl) (by kernel_rfl) (by kernel_rfl) (fun _ _ _ h => h) (by first | exact fun _ => hF | exact fun _ => hF (by kernel_rfl)) (fun w => ?_) (by rfl) ?_
                     rotate_left
                     · first | (go_simp; done) | (go_simp; with_reducible rfl) | (go_split_ands; go_simp; done))
                  try simp only [Act.put, List.setIfInBounds_toArray, List.set_cons_zero, List.set_cons_succ]
                  first
                  | refine wpAnyJ_skip0 (i := 21) (oi := { dst := some 125, op := Go.Op.move (Go.Operand.tmp 13), type := 3, pos := "more.go:28", after := #[{ on := 18, ground := Go.Ground.guard }], guard := some (18, false) }) rfl (by kernel_rfl) (by kernel_rfl) (by kernel_rfl) (by kernel_rfl) (fun _ _ _ h => h) (by first | exact fun _ => hF | exact fun _ => hF (by kernel_rfl)) (by rfl) ?_
                  | (refine wpAnyJ_take0 (i := 21) (oi := { dst := some 125, op := Go.Op.move (Go.Operand.tmp 13), type := 3, pos := "more.go:28", after := #[{ on := 18, ground := Go.Ground.guard }], guard := some (18, false) }) (v := ?_) rfl (by kernel_rfl) (by kernel_rfl) (by kernel_rfl) (by kernel_rfl) (fun _ _ _ h => h) (by first | exact fun _ => hF | exact fun _ => hF (by kernel_rfl)) (fun w => ?_) (by rfl) ?_
                     rotate_left
                     · first | (go_simp; done) | (go_simp; with_reducible rfl) | (go_split_ands; go_simp; done))
                  try simp only [Act.put, List.setIfInBounds_toArray, List.set_cons_zero, List.set_cons_succ]
                  refine wpAnyJ_ready (rs := [20]) (by kernel_rfl) (by simp) ?_
                  refine AllJ.cons (o := { dst := some 124, op := Go.Op.call { callee := Go.Callee.value (Go.Operand.func 15), args := #[Go.Operand.tmp 123], argTypes := #[25] }, type := 3, pos := "more.go:28", after := #[{ on := 19, ground := Go.Ground.data }, { on := 18, ground := Go.Ground.chain }, { on := 18, ground := Go.Ground.guard }], guard := some (18, false) }) rfl (fun Kr hKr => ?_) ?_
                  · go_simp; go_at_call 15; refine (hus2.out _ _ hr3 (s6.own 0 rfl)).mono ?_; rintro e w8 ⟨rfl, hst8⟩
                    have s7 := s6.put 0 rfl hst8
                    simp only [List.set_cons_zero] at s7
                    have hc7 := (hrow.out _ _ s7).2
                    refine hKr.out _ _ (fun hJ => ?_) (fun hF => ?_)
                    · first
                      | exact absurd hJ (by decide)
                      | (clear hJ; (try dsimp only); all_goals (first | exact hc4 | exact hc5 | exact hc6 | exact hc7))
                    clear hKr
                    try simp only [Act.put, List.setIfInBounds_toArray, List.set_cons_zero, List.set_cons_succ]
                    first
                    | refine wpAnyJ_skip0 (i := 22) (oi := { dst := some 126, op := Go.Op.binOp Go.BinOp.neq 3 (Go.Operand.tmp 124) (Go.Operand.tmp 125) 3, type := 4, pos := "more.go:28", after := #[{ on := 20, ground := Go.Ground.data }, { on := 21, ground := Go.Ground.data }, { on := 18, ground := Go.Ground.guard }], guard := some (18, false) }) rfl (by kernel_rfl) (by kernel_rfl) (by kernel_rfl) (by kernel_rfl) (fun _ _ _ h => h) (by first | exact fun _ => hF | exact fun _ => hF (by kernel_rfl)) (by rfl) ?_
                    | (refine wpAnyJ_take0 (i := 22) (oi := { dst := some 126, op := Go.Op.binOp Go.BinOp.neq 3 (Go.Operand.tmp 124) (Go.Operand.tmp 125) 3, type := 4, pos := "more.go:28", after := #[{ on := 20, ground := Go.Ground.data }, { on := 21, ground := Go.Ground.data }, { on := 18, ground := Go.Ground.guard }], guard := some (18, false) }) (v := ?_) rfl (by kernel_rfl) (by kernel_rfl) (by kernel_rfl) (by kernel_rfl) (fun _ _ _ h => h) (by first | exact fun _ => hF | exact fun _ => hF (by kernel_rfl)) (fun w => ?_) (by rfl) ?_
                       rotate_left
                       · first | (go_simp; done) | (go_simp; with_reducible rfl) | (go_split_ands; go_simp; done))
                    try simp only [Act.put, List.setIfInBounds_toArray, List.set_cons_zero, List.set_cons_succ]
                    first
                    | refine wpAnyJ_skip0 (i := 23) (oi := { dst := some 127, op := Go.Op.pick (Go.Operand.tmp 122) (Go.Operand.const (Go.Value.bool true)) (Go.Operand.tmp 126), type := 4, pos := "more.go:28", after := #[{ on := 18, ground := Go.Ground.data }, { on := 22, ground := Go.Ground.data }, { on := 13, ground := Go.Ground.guard }], guard := some (13, true) }) rfl (by kernel_rfl) (by kernel_rfl) (by kernel_rfl) (by kernel_rfl) (fun _ _ _ h => h) (by first | exact fun _ => hF | exact fun _ => hF (by kernel_rfl)) (by rfl) ?_
                    | (refine wpAnyJ_take0 (i := 23) (oi := { dst := some 127, op := Go.Op.pick (Go.Operand.tmp 122) (Go.Operand.const (Go.Value.bool true)) (Go.Operand.tmp 126), type := 4, pos := "more.go:28", after := #[{ on := 18, ground := Go.Ground.data }, { on := 22, ground := Go.Ground.data }, { on := 13, ground := Go.Ground.guard }], guard := some (13, true) }) (v := ?_) rfl (by kernel_rfl) (by kernel_rfl) (by kernel_rfl) (by kernel_rfl) (fun _ _ _ h => h) (by first | exact fun _ => hF | exact fun _ => hF (by kernel_rfl)) (fun w => ?_) (by rfl) ?_
                       rotate_left
                       · first | (go_simp; done) | (go_simp; with_reducible rfl) | (go_split_ands; go_simp; done))
                    try simp only [Act.put, List.setIfInBounds_toArray, List.set_cons_zero, List.set_cons_succ]
                    first
                    | refine wpAnyJ_skip0 (i := 24) (oi := { dst := some 128, op := Go.Op.pick (Go.Operand.tmp 117) (Go.Operand.tmp 127) (Go.Operand.const (Go.Value.bool false)), type := 4, pos := "more.go:28", after := #[{ on := 13, ground := Go.Ground.data }, { on := 23, ground := Go.Ground.data }, { on := 10, ground := Go.Ground.guard }], guard := some (10, false) }) rfl (by kernel_rfl) (by kernel_rfl) (by kernel_rfl) (by kernel_rfl) (fun _ _ _ h => h) (by first | exact fun _ => hF | exact fun _ => hF (by kernel_rfl)) (by rfl) ?_
                    | (refine wpAnyJ_take0 (i := 24) (oi := { dst := some 128, op := Go.Op.pick (Go.Operand.tmp 117) (Go.Operand.tmp 127) (Go.Operand.const (Go.Value.bool false)), type := 4, pos := "more.go:28", after := #[{ on := 13, ground := Go.Ground.data }, { on := 23, ground := Go.Ground.data }, { on := 10, ground := Go.Ground.guard }], guard := some (10, false) }) (v := ?_) rfl (by kernel_rfl) (by kernel_rfl) (by kernel_rfl) (by kernel_rfl) (fun _ _ _ h => h) (by first | exact fun _ => hF | exact fun _ => hF (by kernel_rfl)) (fun w => ?_) (by rfl) ?_
                       rotate_left
                       · first | (go_simp; done) | (go_simp; with_reducible rfl) | (go_split_ands; go_simp; done))
                    try simp only [Act.put, List.setIfInBounds_toArray, List.set_cons_zero, List.set_cons_succ]
                    refine wpAnyJ_take0 (i := 25) (oi := { dst := some 129, op := Go.Op.pick (Go.Operand.tmp 114) (Go.Operand.const (Go.Value.bool true)) (Go.Operand.tmp 128), type := 4, pos := "more.go:28", after := #[{ on := 10, ground := Go.Ground.data }, { on := 24, ground := Go.Ground.data }], guard := none }) (v := ?_) rfl (by kernel_rfl) (by kernel_rfl) (by kernel_rfl) (by kernel_rfl) (fun _ _ _ h => h) (by first | exact fun _ => hF | exact fun _ => hF (by kernel_rfl)) (fun w => ?_) (by rfl) ?_
                    rotate_left
                    · first | (go_simp; done) | (go_simp; with_reducible rfl) | (go_split_ands; go_simp; done)
                    try simp only [Act.put, List.setIfInBounds_toArray, List.set_cons_zero, List.set_cons_succ]
                    refine wpAnyJ_take0 (i := 26) (oi := { dst := some 130, op := Go.Op.move (Go.Operand.tmp 129), type := 4, pos := "more.go:28", after := #[{ on := 25, ground := Go.Ground.data }, { on := 20, ground := Go.Ground.chain }], guard := none }) (v := ?_) rfl (by kernel_rfl) (by kernel_rfl) (by kernel_rfl) (by kernel_rfl) (fun _ _ _ h => h) (by first | exact fun _ => hF | exact fun _ => hF (by kernel_rfl)) (fun w => ?_) (by rfl) ?_
                    rotate_left
                    · first | (go_simp; done) | (go_simp; with_reducible rfl) | (go_split_ands; go_simp; done)
                    try simp only [Act.put, List.setIfInBounds_toArray, List.set_cons_zero, List.set_cons_succ]
                    first
                    | refine wpAnyJ_skip0 (i := 27) (oi := { dst := some 131, op := Go.Op.move (Go.Operand.tmp 17), type := 4, pos := "more.go:28", after := #[{ on := 26, ground := Go.Ground.guard }], guard := some (26, false) }) rfl (by kernel_rfl) (by kernel_rfl) (by kernel_rfl) (by kernel_rfl) (fun _ _ _ h => h) (by first | exact fun _ => hF | exact fun _ => hF (by kernel_rfl)) (by rfl) ?_
                    | (refine wpAnyJ_take0 (i := 27) (oi := { dst := some 131, op := Go.Op.move (Go.Operand.tmp 17), type := 4, pos := "more.go:28", after := #[{ on := 26, ground := Go.Ground.guard }], guard := some (26, false) }) (v := ?_) rfl (by kernel_rfl) (by kernel_rfl) (by kernel_rfl) (by kernel_rfl) (fun _ _ _ h => h) (by first | exact fun _ => hF | exact fun _ => hF (by kernel_rfl)) (fun w => ?_) (by rfl) ?_
                       rotate_left
                       · first | (go_simp; done) | (go_simp; with_reducible rfl) | (go_split_ands; go_simp; done))
                    try simp only [Act.put, List.setIfInBounds_toArray, List.set_cons_zero, List.set_cons_succ]
                    first
                    | refine wpAnyJ_skip0 (i := 28) (oi := { dst := some 132, op := Go.Op.move (Go.Operand.tmp 131), type := 4, pos := "more.go:28", after := #[{ on := 27, ground := Go.Ground.data }, { on := 26, ground := Go.Ground.chain }, { on := 26, ground := Go.Ground.guard }], guard := some (26, false) }) rfl (by kernel_rfl) (by kernel_rfl) (by kernel_rfl) (by kernel_rfl) (fun _ _ _ h => h) (by first | exact fun _ => hF | exact fun _ => hF (by kernel_rfl)) (by rfl) ?_
                    | (refine wpAnyJ_take0 (i := 28) (oi := { dst := some 132, op := Go.Op.move (Go.Operand.tmp 131), type := 4, pos := "more.go:28", after := #[{ on := 27, ground := Go.Ground.data }, { on := 26, ground := Go.Ground.chain }, { on := 26, ground := Go.Ground.guard }], guard := some (26, false) }) (v := ?_) rfl (by kernel_rfl) (by kernel_rfl) (by kernel_rfl) (by kernel_rfl) (fun _ _ _ h => h) (by first | exact fun _ => hF | exact fun _ => hF (by kernel_rfl)) (fun w => ?_) (by rfl) ?_
                       rotate_left
                       · first | (go_simp; done) | (go_simp; with_reducible rfl) | (go_split_ands; go_simp; done))
                    try simp only [Act.put, List.setIfInBounds_toArray, List.set_cons_zero, List.set_cons_succ]
                    first
                    | refine wpAnyJ_skip0 (i := 29) (oi := { dst := some 133, op := Go.Op.move (Go.Operand.tmp 15), type := 23, pos := "more.go:28", after := #[{ on := 28, ground := Go.Ground.guard }], guard := some (28, true) }) rfl (by kernel_rfl) (by kernel_rfl) (by kernel_rfl) (by kernel_rfl) (fun _ _ _ h => h) (by first | exact fun _ => hF | exact fun _ => hF (by kernel_rfl)) (by rfl) ?_
                    | (refine wpAnyJ_take0 (i := 29) (oi := { dst := some 133, op := Go.Op.move (Go.Operand.tmp 15), type := 23, pos := "more.go:28", after := #[{ on := 28, ground := Go.Ground.guard }], guard := some (28, true) }) (v := ?_) rfl (by kernel_rfl) (by kernel_rfl) (by kernel_rfl) (by kernel_rfl) (fun _ _ _ h => h) (by first | exact fun _ => hF | exact fun _ => hF (by kernel_rfl)) (fun w => ?_) (by rfl) ?_
                       rotate_left
                       · first | (go_simp; done) | (go_simp; with_reducible rfl) | (go_split_ands; go_simp; done))
                    try simp only [Act.put, List.setIfInBounds_toArray, List.set_cons_zero, List.set_cons_succ]
                    first
                    | refine wpAnyJ_skip0 (i := 31) (oi := { dst := some 135, op := Go.Op.move (Go.Operand.tmp 11), type := 23, pos := "more.go:28", after := #[{ on := 28, ground := Go.Ground.guard }], guard := some (28, true) }) rfl (by kernel_rfl) (by kernel_rfl) (by kernel_rfl) (by kernel_rfl) (fun _ _ _ h => h) (by first | exact fun _ => hF | exact fun _ => hF (by kernel_rfl)) (by rfl) ?_
                    | (refine wpAnyJ_take0 (i := 31) (oi := { dst := some 135, op := Go.Op.move (Go.Operand.tmp 11), type := 23, pos := "more.go:28", after := #[{ on := 28, ground := Go.Ground.guard }], guard := some (28, true) }) (v := ?_) rfl (by kernel_rfl) (by kernel_rfl) (by kernel_rfl) (by kernel_rfl) (fun _ _ _ h => h) (by first | exact fun _ => hF | exact fun _ => hF (by kernel_rfl)) (fun w => ?_) (by rfl) ?_
                       rotate_left
                       · first | (go_simp; done) | (go_simp; with_reducible rfl) | (go_split_ands; go_simp; done))
                    try simp only [Act.put, List.setIfInBounds_toArray, List.set_cons_zero, List.set_cons_succ]
                    first
                    | refine wpAnyJ_skip0 (i := 33) (oi := { dst := some 137, op := Go.Op.move (Go.Operand.tmp 1), type := 22, pos := "more.go:28", after := #[{ on := 28, ground := Go.Ground.guard }], guard := some (28, true) }) rfl (by kernel_rfl) (by kernel_rfl) (by kernel_rfl) (by kernel_rfl) (fun _ _ _ h => h) (by first | exact fun _ => hF | exact fun _ => hF (by kernel_rfl)) (by rfl) ?_
                    | (refine wpAnyJ_take0 (i := 33) (oi := { dst := some 137, op := Go.Op.move (Go.Operand.tmp 1), type := 22, pos := "more.go:28", after := #[{ on := 28, ground := Go.Ground.guard }], guard := some (28, true) }) (v := ?_) rfl (by kernel_rfl) (by kernel_rfl) (by kernel_rfl) (by kernel_rfl) (fun _ _ _ h => h) (by first | exact fun _ => hF | exact fun _ => hF (by kernel_rfl)) (fun w => ?_) (by rfl) ?_
                       rotate_left
                       · first | (go_simp; done) | (go_simp; with_reducible rfl) | (go_split_ands; go_simp; done))
                    try simp only [Act.put, List.setIfInBounds_toArray, List.set_cons_zero, List.set_cons_succ]
                    first
                    | refine wpAnyJ_skip0 (i := 34) (oi := { dst := some 138, op := Go.Op.move (Go.Operand.tmp 9), type := 3, pos := "more.go:28", after := #[{ on := 28, ground := Go.Ground.guard }], guard := some (28, true) }) rfl (by kernel_rfl) (by kernel_rfl) (by kernel_rfl) (by kernel_rfl) (fun _ _ _ h => h) (by first | exact fun _ => hF | exact fun _ => hF (by kernel_rfl)) (by rfl) ?_
                    | (refine wpAnyJ_take0 (i := 34) (oi := { dst := some 138, op := Go.Op.move (Go.Operand.tmp 9), type := 3, pos := "more.go:28", after := #[{ on := 28, ground := Go.Ground.guard }], guard := some (28, true) }) (v := ?_) rfl (by kernel_rfl) (by kernel_rfl) (by kernel_rfl) (by kernel_rfl) (fun _ _ _ h => h) (by first | exact fun _ => hF | exact fun _ => hF (by kernel_rfl)) (fun w => ?_) (by rfl) ?_
                       rotate_left
                       · first | (go_simp; done) | (go_simp; with_reducible rfl) | (go_split_ands; go_simp; done))
                    try simp only [Act.put, List.setIfInBounds_toArray, List.set_cons_zero, List.set_cons_succ]
                    first
                    | refine wpAnyJ_skip0 (i := 35) (oi := { dst := some 139, op := Go.Op.indexAddr 22 (Go.Operand.tmp 137) (Go.Operand.tmp 138), type := 0, pos := "more.go:28", after := #[{ on := 33, ground := Go.Ground.data }, { on := 34, ground := Go.Ground.data }, { on := 28, ground := Go.Ground.guard }], guard := some (28, true) }) rfl (by kernel_rfl) (by kernel_rfl) (by kernel_rfl) (by kernel_rfl) (fun _ _ _ h => h) (by first | exact fun _ => hF | exact fun _ => hF (by kernel_rfl)) (by rfl) ?_
                    | (refine wpAnyJ_take0 (i := 35) (oi := { dst := some 139, op := Go.Op.indexAddr 22 (Go.Operand.tmp 137) (Go.Operand.tmp 138), type := 0, pos := "more.go:28", after := #[{ on := 33, ground := Go.Ground.data }, { on := 34, ground := Go.Ground.data }, { on := 28, ground := Go.Ground.guard }], guard := some (28, true) }) (v := ?_) rfl (by kernel_rfl) (by kernel_rfl) (by kernel_rfl) (by kernel_rfl) (fun _ _ _ h => h) (by first | exact fun _ => hF | exact fun _ => hF (by kernel_rfl)) (fun w => ?_) (by rfl) ?_
                       rotate_left
                       · first | (go_simp; done) | (go_simp; with_reducible rfl) | (go_split_ands; go_simp; done))
                    try simp only [Act.put, List.setIfInBounds_toArray, List.set_cons_zero, List.set_cons_succ]
                    first
                    | refine wpAnyJ_skip0 (i := 36) (oi := { dst := some 140, op := Go.Op.load 23 (Go.Operand.tmp 139), type := 23, pos := "more.go:28", after := #[{ on := 35, ground := Go.Ground.data }, { on := 28, ground := Go.Ground.guard }], guard := some (28, true) }) rfl (by kernel_rfl) (by kernel_rfl) (by kernel_rfl) (by kernel_rfl) (fun _ _ _ h => h) (by first | exact fun _ => hF | exact fun _ => hF (by kernel_rfl)) (by rfl) ?_
                    | (refine wpAnyJ_take (i := 36) (oi := { dst := some 140, op := Go.Op.load 23 (Go.Operand.tmp 139), type := 23, pos := "more.go:28", after := #[{ on := 35, ground := Go.Ground.data }, { on := 28, ground := Go.Ground.guard }], guard := some (28, true) }) (v := ?_) [37] rfl (by kernel_rfl) (by kernel_rfl) (by kernel_rfl) (by kernel_rfl) (by kernel_rfl) (fun _ _ _ h => h) (by first | exact hF | exact hF (by kernel_rfl)) (fun w hFw => ?_) (by rfl) ?_
                       rotate_left
                       · ((try dsimp only at hFw); first | (go_simp; done) | (go_simp; with_reducible rfl) | (go_split_ands; go_simp; done)))
                    try simp only [Act.put, List.setIfInBounds_toArray, List.set_cons_zero, List.set_cons_succ]
                    refine wpAnyJ_ready (rs := [30]) (by kernel_rfl) (by simp) ?_
                    refine AllJ.cons (o := { dst := some 134, op := Go.Op.buildSlice 23 0 #[], type := 23, pos := "more.go:28", after := #[{ on := 28, ground := Go.Ground.guard }], guard := some (28, true) }) rfl (fun Kr hKr => ?_) ?_
                    · go_simp
                      refine hKr.out _ _ (fun hJ => ?_) (fun hF => ?_)
                      · first
                        | exact absurd hJ (by decide)
                        | (clear hJ; (try dsimp only); all_goals (first | exact hc4 | exact hc5 | exact hc6 | exact hc7))
                      clear hKr
                      try simp only [Act.put, List.setIfInBounds_toArray, List.set_cons_zero, List.set_cons_succ]
                      refine wpAnyJ_ready (rs := [32]) (by kernel_rfl) (by simp) ?_
                      refine AllJ.cons (o := { dst := some 136, op := Go.Op.call { callee := Go.Callee.builtin Go.Builtin.append, args := #[Go.Operand.tmp 134, Go.Operand.tmp 135], argTypes := #[23, 23] }, type := 23, pos := "more.go:28", after := #[{ on := 30, ground := Go.Ground.data }, { on := 31, ground := Go.Ground.data }, { on := 28, ground := Go.Ground.chain }, { on := 28, ground := Go.Ground.guard }], guard := some (28, true) }) rfl (fun Kr hKr => ?_) ?_
                      · go_simp
                        refine hKr.out _ _ (fun hJ => ?_) (fun hF => ?_)
                        · first
                          | exact absurd hJ (by decide)
                          | (clear hJ; (try dsimp only); all_goals (first | exact hc4 | exact hc5 | exact hc6 | exact hc7))
                        clear hKr
                        try simp only [Act.put, List.setIfInBounds_toArray, List.set_cons_zero, List.set_cons_succ]
                        refine wpAnyJ_ready (rs := [37]) (by kernel_rfl) (by simp) ?_
                        refine AllJ.cons (o := { dst := some 141, op := Go.Op.call { callee := Go.Callee.builtin Go.Builtin.append, args := #[Go.Operand.tmp 136, Go.Operand.tmp 140], argTypes := #[23, 23] }, type := 23, pos := "more.go:28", after := #[{ on := 32, ground := Go.Ground.data }, { on := 36, ground := Go.Ground.data }, { on := 32, ground := Go.Ground.chain }, { on := 28, ground := Go.Ground.guard }], guard := some (28, true) }) rfl (fun Kr hKr => ?_) ?_
                        · go_simp
                          refine hKr.out _ _ (fun hJ => ?_) (fun hF => ?_)
                          · first
                            | exact absurd hJ (by decide)
                            | (clear hJ; (try dsimp only); all_goals (first | exact hc4 | exact hc5 | exact hc6 | exact hc7))
                          clear hKr
                          try simp only [Act.put, List.setIfInBounds_toArray, List.set_cons_zero, List.set_cons_succ]
                          refine wpAnyJ_ready (rs := [38]) (by kernel_rfl) (by simp) ?_
                          refine AllJ.cons (o := { dst := some 142, op := Go.Op.call { callee := Go.Callee.value (Go.Operand.func 16), args := #[Go.Operand.tmp 133, Go.Operand.tmp 141], argTypes := #[23, 23] }, type := 4, pos := "more.go:28", after := #[{ on := 29, ground := Go.Ground.data }, { on := 37, ground := Go.Ground.data }, { on := 37, ground := Go.Ground.chain }, { on := 28, ground := Go.Ground.guard }], guard := some (28, true) }) rfl (fun Kr hKr => ?_) ?_
                          · go_simp
                            refine hKr.out _ _ (fun hJ => ?_) (fun hF => ?_)
                            · first
                              | exact absurd hJ (by decide)
                              | (clear hJ; (try dsimp only); all_goals (first | exact hc4 | exact hc5 | exact hc6 | exact hc7))
                            clear hKr
                            try simp only [Act.put, List.setIfInBounds_toArray, List.set_cons_zero, List.set_cons_succ]
                            first
                            | refine wpAnyJ_skip0 (i := 39) (oi := { dst := some 143, op := Go.Op.unOp Go.UnOp.not 4 (Go.Operand.tmp 142), type := 4, pos := "more.go:28", after := #[{ on := 38, ground := Go.Ground.data }, { on := 28, ground := Go.Ground.guard }], guard := some (28, true) }) rfl (by kernel_rfl) (by kernel_rfl) (by kernel_rfl) (by kernel_rfl) (fun _ _ _ h => h) (fun hJ => absurd hJ (by decide)) (by rfl) ?_
                            | (refine wpAnyJ_take0 (i := 39) (oi := { dst := some 143, op := Go.Op.unOp Go.UnOp.not 4 (Go.Operand.tmp 142), type := 4, pos := "more.go:28", after := #[{ on := 38, ground := Go.Ground.data }, { on := 28, ground := Go.Ground.guard }], guard := some (28, true) }) (v := ?_) rfl (by kernel_rfl) (by kernel_rfl) (by kernel_rfl) (by kernel_rfl) (fun _ _ _ h => h) (fun hJ => absurd hJ (by decide)) (fun w => ?_) (by rfl) ?_
                               rotate_left
                               · first | (go_simp; done) | (go_simp; with_reducible rfl) | (go_split_ands; go_simp; done))
                            try simp only [Act.put, List.setIfInBounds_toArray, List.set_cons_zero, List.set_cons_succ]
                            first
                            | refine wpAnyJ_skip0 (i := 40) (oi := { dst := some 144, op := Go.Op.pick (Go.Operand.tmp 132) (Go.Operand.tmp 143) (Go.Operand.const (Go.Value.bool false)), type := 4, pos := "more.go:28", after := #[{ on := 28, ground := Go.Ground.data }, { on := 39, ground := Go.Ground.data }, { on := 26, ground := Go.Ground.guard }], guard := some (26, false) }) rfl (by kernel_rfl) (by kernel_rfl) (by kernel_rfl) (by kernel_rfl) (fun _ _ _ h => h) (fun hJ => absurd hJ (by decide)) (by rfl) ?_
                            | (refine wpAnyJ_take0 (i := 40) (oi := { dst := some 144, op := Go.Op.pick (Go.Operand.tmp 132) (Go.Operand.tmp 143) (Go.Operand.const (Go.Value.bool false)), type := 4, pos := "more.go:28", after := #[{ on := 28, ground := Go.Ground.data }, { on := 39, ground := Go.Ground.data }, { on := 26, ground := Go.Ground.guard }], guard := some (26, false) }) (v := ?_) rfl (by kernel_rfl) (by kernel_rfl) (by kernel_rfl) (by kernel_rfl) (fun _ _ _ h => h) (fun hJ => absurd hJ (by decide)) (fun w => ?_) (by rfl) ?_
                               rotate_left
                               · first | (go_simp; done) | (go_simp; with_reducible rfl) | (go_split_ands; go_simp; done))
                            try simp only [Act.put, List.setIfInBounds_toArray, List.set_cons_zero, List.set_cons_succ]
                            refine wpAnyJ_take0 (i := 41) (oi := { dst := some 145, op := Go.Op.pick (Go.Operand.tmp 130) (Go.Operand.const (Go.Value.bool true)) (Go.Operand.tmp 144), type := 4, pos := "more.go:28", after := #[{ on := 26, ground := Go.Ground.data }, { on := 40, ground := Go.Ground.data }], guard := none }) (v := ?_) rfl (by kernel_rfl) (by kernel_rfl) (by kernel_rfl) (by kernel_rfl) (fun _ _ _ h => h) (fun hJ => absurd hJ (by decide)) (fun w => ?_) (by rfl) ?_
                            rotate_left
                            · first | (go_simp; done) | (go_simp; with_reducible rfl) | (go_split_ands; go_simp; done)
                            try simp only [Act.put, List.setIfInBounds_toArray, List.set_cons_zero, List.set_cons_succ]
                            refine wpAnyJ_done (by kernel_rfl) ?_ _
                            go_wp2_with fail
                            exact ⟨⟨i + 1, k, H3, hlt, by go_num, q2.out, hr3, Sp.of s7.first⟩, by simp [intOf]; omega⟩
                          exact AllJ.nil
                        exact AllJ.nil
                      exact AllJ.nil
                    exact AllJ.nil
                  exact AllJ.nil
                exact AllJ.nil
              exact AllJ.nil
        · obtain rfl : i = l.length := by omega
          clear hlt hr hiv
          replace hs := Lib.hid hs
          go_wp2_with fail
          refine (known_any _).mono ?_
          rintro e w6 ⟨rfl, h6⟩
          go_wp2_with fail
          go_ret
          exact ⟨rfl, (hs.out.still h6).first.forget (A := [])⟩
end Go.Proofs.Ytebmbfiiadffjaa
