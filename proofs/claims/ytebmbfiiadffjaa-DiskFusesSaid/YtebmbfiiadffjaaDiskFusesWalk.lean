/- DiskFuses. -/
import Derived.Test.YtebmbfiiadffjaaDkKn
import Derived.Test.YtebmbfiiadffjaaDkFz
import Derived.Test.YtebmbfiiadffjaaPure
namespace Go.Proofs.Ytebmbfiiadffjaa
open Go.RowKit
attribute [local go_sem ↓] Go.wp_at_zero Go.wp_at_succ

theorem RdRows.at' {w : World} {a : Option Addr} {n c : Nat} {l : List (List UInt8)} {A : Nat → Option Addr} {C : Nat → Nat} (h : RdRows w a n c l A C) {i : Nat} (hi : i < l.length) :
    ∃ b off, a = some ⟨b, off, none⟩ ∧ w.cell? ⟨b, off + i, none⟩ = some (.slice (A i) l[i].length (C i)) ∧ RdBytes w (A i) l[i].length (C i) l[i] := by
  obtain ⟨b, off, h1, h2⟩ := h.2.2.2 (by intro e; subst e; simp at hi)
  exact ⟨b, off, h1, (h2 i hi).1, (h2 i hi).2⟩
theorem RdRows.step {w w' : World} {a : Option Addr} {n c : Nat} {l : List (List UInt8)} {A : Nat → Option Addr} {C : Nat → Nat} (h : RdRows w a n c l A C) {G : Heaplet} (s : Step w [] w' G) : RdRows w' a n c l A C :=
  h.later fun b hb => s.frame b hb (by simp [dom])
/-- What is owned is news. -/
theorem Sp.news {w W : World} {Hs : List Heaplet} (s : Sp w [] W Hs) {q : Nat} {G : Heaplet} (hq : Hs[q]? = some G) : ∀ b ∈ dom G, w.heap.size ≤ b := by
  intro b hb
  have hm : b ∈ dom Hs.flatten := by
    have := List.mem_of_getElem? hq
    obtain ⟨o, ho⟩ := mem_dom.1 hb
    exact mem_dom.2 ⟨o, List.mem_flatten.2 ⟨G, this, ho⟩⟩
  exact (Step.keys s b hm).elim (by simp [dom]) id
theorem RdBytes.old {w W : World} {Hs : List Heaplet} (s : Sp w [] W Hs) {q : Nat} {G : Heaplet} (hq : Hs[q]? = some G) {a : Option Addr} {n c : Nat} {l : List UInt8} (h : RdBytes w a n c l) (hl : l ≠ []) : ∀ x, a = some x → x.block ∉ dom G := by
  intro x hx hd
  obtain ⟨b, off, ha, _, _, hc⟩ := h.place hl
  rw [ha] at hx
  cases hx
  have h1 := World.block_lt_of_cell? w _ (hc 0 (List.length_pos_iff.2 hl))
  have h2 := s.news hq _ hd
  simp only at h1 h2
  omega
def WtRel (l : List (List UInt8)) (vn vi : Value) : Prop := ∃ i, i ≤ l.length ∧ vi = iv i ∧ vn = iv (wt (l.take i)) ∧ wt (l.take i) ≤ 140737488360000
def FzRel (l : List (List UInt8)) (n b : Nat) (w : World) (v : Value) (wr : World) : Prop := ∃ (i : Nat) (k : Dk) (H : Heaplet), i ≤ l.length ∧ v = iv i ∧ FzInv l n i k ∧ DkRep b k H ∧ Sp w [] wr [H]
set_option maxHeartbeats 8000000 in
set_option maxRecDepth 100000 in
theorem diskFuses_walk (n : Int) (a : Option Addr) (ln c : Nat) (l : List (List UInt8)) (A : Nat → Option Addr) (C : Nat → Nat) (w : World) (wn : (Lit.int .i64 n).wf = true) (h : RdRows w a ln c l A C) (hl : ∀ x ∈ l, x.length ≤ 140737488351232) :
    Calls Try.prog 5 #[.int .i64 n, .slice a ln c] w fun e w' => e = .returned (.bool true) ∧ Below w.heap.size w w' := by
  suffices hs : Calls Try.prog 5 #[.int .i64 n, .slice a ln c] w (KnownPost w) from hs.mono fun e w' hp => ⟨hp.1, hp.2.nil_below⟩
  have hln := h.1
  subst hln
  have b0 : (l.length : Int) ≤ (c : Int) := by have := h.2.1; omega
  have b1 : (c : Int) ≤ 9223372036854775807 := by have := h.2.2.1; unfold maxLen at this; omega
  replace h := Lib.hid h
  replace hl := Lib.hid hl
  replace wn := Lib.hid wn
  go_enter Try.func5, Try.ntmps5
  go_upto_block 0 with fail
  go_cut [5] (fun v wc => wc = w ∧ ∃ q, v = iv q ∧ q ≤ 140737488360000 ∧ (8000 < q ∨ q = wt l))
  case first =>
    go_wp2_with fail
    go_loop [5, 6] (fun v5 v6 => WtRel l v5 v6) (fun _ v6 => l.length - (intOf v6).toNat)
    case atStart => exact ⟨0, Nat.zero_le _, rfl, rfl, by simp [wt]⟩
    case round =>
      obtain ⟨i, hi, rfl, rfl, hq⟩ := hrel
      have d0 : (0 : Int) ≤ (i : Int) := by omega
      by_cases hlt : i < l.length
      · have d1 : (i : Int) < (l.length : Int) := by omega
        obtain ⟨q, hqe⟩ : ∃ q, q = wt (l.take i) := ⟨_, rfl⟩
        rw [← hqe] at hq ⊢
        by_cases h8 : q ≤ 8000
        · have d2 : (q : Int) ≤ 8000 := by omega
          obtain ⟨ab, ao, rfl, hc, _⟩ := h.out.at' hlt
          have hlx := hl.out _ (List.getElem_mem hlt)
          have hs := wt_snoc l hlt
          rw [← hqe] at hs
          generalize l[i].length = m at hc hlx hs
          have d3 : (m : Int) ≤ 140737488351232 := by omega
          replace hs := Lib.hid hs
          replace hqe := Lib.hid hqe
          go_wp2_with fail
          exact ⟨⟨i + 1, hlt, by go_num, by rw [hs.out]; go_num, by rw [hs.out]; omega⟩, by simp [intOf]; omega⟩
        · have d2 : (8000 : Int) < (q : Int) := by omega
          replace hqe := Lib.hid hqe
          go_wp2_with fail
          go_meet
          exact ⟨rfl, q, rfl, hq, .inl (by omega)⟩
      · have d1 : (l.length : Int) ≤ (i : Int) := by omega
        have hw := Lib.hid (wt_all l (i := i) (by omega))
        go_wp2_with fail
        go_meet
        exact ⟨rfl, _, rfl, hq, .inr hw.out⟩
  case rest =>
    obtain ⟨rfl, q, rfl, hq0, hq⟩ := hcut
    by_cases hout : 8000 < q ∨ n < 0 ∨ 1000 < n
    · have hk := Lib.hid (known_any wc)
      clear hq
      rcases hout with h1 | h1 | h1
      · have d1 : (8000 : Int) < (q : Int) := by omega
        go_wp2_with fail
        refine hk.out.mono ?_
        rintro e w1 ⟨rfl, h1⟩
        go_wp2_with fail
        go_ret
        exact ⟨rfl, h1⟩
      · by_cases h2 : 8000 < q
        · have d1 : (8000 : Int) < (q : Int) := by omega
          go_wp2_with fail
          refine hk.out.mono ?_
          rintro e w1 ⟨rfl, h1⟩
          go_wp2_with fail
          go_ret
          exact ⟨rfl, h1⟩
        · have d1 : (q : Int) ≤ 8000 := by omega
          go_wp2_with fail
          refine hk.out.mono ?_
          rintro e w1 ⟨rfl, h1⟩
          go_wp2_with fail
          go_ret
          exact ⟨rfl, h1⟩
      · have d0 : 0 ≤ n := by omega
        by_cases h2 : 8000 < q
        · have d1 : (8000 : Int) < (q : Int) := by omega
          go_wp2_with fail
          refine hk.out.mono ?_
          rintro e w1 ⟨rfl, h1⟩
          go_wp2_with fail
          go_ret
          exact ⟨rfl, h1⟩
        · have d1 : (q : Int) ≤ 8000 := by omega
          go_wp2_with fail
          refine hk.out.mono ?_
          rintro e w1 ⟨rfl, h1⟩
          go_wp2_with fail
          go_ret
          exact ⟨rfl, h1⟩
    · have d1 : (q : Int) ≤ 8000 := by omega
      obtain ⟨m, rfl⟩ := Int.eq_ofNat_of_zero_le (show 0 ≤ n by omega)
      have d2 : (0 : Int) ≤ (m : Int) := by omega
      have d3 : (m : Int) ≤ 1000 := by omega
      have hqw : Hid (wt l ≤ 8000) := by show _ ≤ _; omega
      have hll : l.length ≤ 8000 := Nat.le_trans (wt_len l) hqw.out
      have hll' : (l.length : Int) ≤ 8000 := by omega
      clear hq hout hq0
      go_wp2_with fail
      refine (dnew_ok 1048576 1048576 rfl (by decide) wc).mono ?_
      rintro e w1 ⟨b, H, rfl, hr, hs⟩
      have hfu := Lib.hid (fuse_any b _ m H w1 hr hs.own (by omega))
      go_wp2_with fail
      refine hfu.out.mono ?_
      rintro e w2 ⟨rfl, H2, hr2, hst⟩
      have s2 := Sp.of (hs.trans hst)
      have hin : Hid (FzRel l m b wc (iv 0) w2) := ⟨0, _, H2, Nat.zero_le _, rfl, by have := fz_start l (m : Int) d2; rwa [Int.toNat_natCast] at this, hr2, s2⟩
      clear hfu hs hst hr hr2 s2
      go_upto_block 2 with fail
      go_cut [9] (fun v wr => v = iv l.length ∧ ∃ (k : Dk) (H : Heaplet), FzInv l m l.length k ∧ DkRep b k H ∧ Sp wc [] wr [H])
      case first =>
        go_wp2_with fail
        go_loopw [9] (fun v wr => FzRel l m b wc v wr) (fun v _ => l.length - (intOf v).toNat)
        case atStart => exact hin.out
        case round =>
          clear hin
          obtain ⟨i, k, H, hi, rfl, hiv, hr, hs⟩ := hrel
          have e0 : (0 : Int) ≤ (i : Int) := by omega
          by_cases hlt : i < l.length
          · have e1 : (i : Int) < (l.length : Int) := by omega
            obtain ⟨ab, ao, rfl, hc, hrd⟩ := (h.out.step hs).at' hlt
            obtain ⟨p1, p2⟩ := fz_step hiv hlt hqw.out
            have hlx := hl.out _ (List.getElem_mem hlt)
            obtain ⟨x, hx⟩ : ∃ x, x = l[i] := ⟨_, rfl⟩
            rw [← hx] at hc hrd p1 p2 hlx
            have hwr : Hid (Calls Try.prog 11 #[pt b, strV [102], .slice (A i) x.length (C i)] wr (DkPost b (gateN [[102]] (wrI [102] x) k) H wr)) := by
              refine dwrite b k H [102] (A i) x.length (C i) x wr hr hiv.ok (hs.own 0 rfl) hrd (fun hne => ?_) (by omega)
              have h0 := (h.out.at' hlt)
              obtain ⟨_, _, _, _, hrd0⟩ := h0
              rw [← hx] at hrd0
              exact hrd0.old hs (q := 0) rfl hne
            generalize gateN [[102]] (wrI [102] x) k = G at hwr p1 p2
            obtain ⟨g1, g2⟩ := G
            simp only at p1 p2
            replace hx := Lib.hid hx
            replace p2 := Lib.hid p2
            replace hs := Lib.hid hs
            clear hr hiv hrd
            by_cases him : i < m
            · rw [if_pos him] at p1
              subst p1
              have e2 : (i : Int) < (m : Int) := by omega
              clear him
              go_wp2_with fail
              refine hwr.out.mono ?_
              rintro e w3 ⟨rfl, H3, hr3, hst⟩
              have s3 := Lib.hid (hs.out.put 0 rfl hst)
              replace hr3 := Lib.hid hr3
              clear hst
              go_wp2_with fail
              exact ⟨⟨i + 1, g2, H3, hlt, by go_num, p2.out, hr3.out, s3.out⟩, by simp [intOf]; omega⟩
            · rw [if_neg him] at p1
              subst p1
              have e2 : (m : Int) ≤ (i : Int) := by omega
              clear him
              go_wp2_with fail
              refine hwr.out.mono ?_
              rintro e w3 ⟨rfl, H3, hr3, hst⟩
              have s3 := Lib.hid (hs.out.put 0 rfl hst)
              replace hr3 := Lib.hid hr3
              clear hst
              go_wp2_with fail
              exact ⟨⟨i + 1, g2, H3, hlt, by go_num, p2.out, hr3.out, s3.out⟩, by simp [intOf]; omega⟩
          · obtain rfl : i = l.length := by omega
            replace hs := Lib.hid hs
            replace hr := Lib.hid hr
            replace hiv := Lib.hid hiv
            clear hlt
            go_wp2_with fail
            go_meet
            exact ⟨rfl, k, H, hiv.out, hr.out, hs.out⟩
      case rest =>
        clear hin
        obtain ⟨rfl, k, H, hiv, hr, hs⟩ := hcut
        obtain ⟨p1, p2⟩ := fz_remove hiv
        have hrm := Lib.hid (dremove b k H [110, 111, 110, 101] _ hr hiv.ok (hs.own 0 rfl))
        have hcr := Lib.hid (fun H W hr hW => dcrash b k 0 0 H W hr hiv.ok hW (by decide))
        have hwz := Lib.hid (fun H W hr hW => dwrite b (crN 0 0 k) H [122] none 0 0 [] W hr (cr_ok hiv.ok 0 0) hW (rdBytes_none _) (fun h => absurd rfl h) (by simp))
        have hz := fz_end hiv
        generalize gateN [[110, 111, 110, 101]] (rmI [110, 111, 110, 101]) k = G at hrm p1 p2
        obtain ⟨g1, g2⟩ := G
        simp only at p1 p2
        subst p2
        generalize gateN [[122]] (wrI [122] []) (crN 0 0 g2) = Z at hwz hz
        obtain ⟨z1, z2⟩ := Z
        simp only at hz
        subst hz
        replace hs := Lib.hid hs
        clear hr hiv
        by_cases hlm : l.length < m
        · rw [if_pos hlm] at p1
          subst p1
          have e2 : (l.length : Int) < (m : Int) := by omega
          clear hlm
          go_wp2_with fail
          refine hrm.out.mono ?_
          rintro e w3 ⟨rfl, H3, hr3, hst⟩
          have s3 := hs.out.put 0 rfl hst
          go_wp2_with fail
          refine (hcr.out H3 w3 hr3 (s3.own 0 rfl)).mono ?_
          rintro e w4 ⟨rfl, H4, hr4, hst4⟩
          have s4 := s3.put 0 rfl hst4
          go_wp2_with fail
          refine (hwz.out H4 w4 hr4 (s4.own 0 rfl)).mono ?_
          rintro e w5 ⟨rfl, H5, hr5, hst5⟩
          have s5 := s4.put 0 rfl hst5
          go_wp2_with fail
          refine (known_any _).mono ?_
          rintro e w6 ⟨rfl, h6⟩
          go_wp2_with fail
          go_ret
          exact ⟨rfl, ((s5.still h6).first).forget (A := [])⟩
        · rw [if_neg hlm] at p1
          subst p1
          have e2 : (m : Int) ≤ (l.length : Int) := by omega
          clear hlm
          go_wp2_with fail
          refine hrm.out.mono ?_
          rintro e w3 ⟨rfl, H3, hr3, hst⟩
          have s3 := hs.out.put 0 rfl hst
          go_wp2_with fail
          refine (hcr.out H3 w3 hr3 (s3.own 0 rfl)).mono ?_
          rintro e w4 ⟨rfl, H4, hr4, hst4⟩
          have s4 := s3.put 0 rfl hst4
          go_wp2_with fail
          refine (hwz.out H4 w4 hr4 (s4.own 0 rfl)).mono ?_
          rintro e w5 ⟨rfl, H5, hr5, hst5⟩
          have s5 := s4.put 0 rfl hst5
          go_wp2_with fail
          refine (known_any _).mono ?_
          rintro e w6 ⟨rfl, h6⟩
          go_wp2_with fail
          go_ret
          exact ⟨rfl, ((s5.still h6).first).forget (A := [])⟩
end Go.Proofs.Ytebmbfiiadffjaa
