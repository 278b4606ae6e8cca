/- TimersFull. -/
import Derived.Test.YtcocgljaifnmnaaTmH
namespace Go.Proofs.Ytcocgljaifnmnaa
open Go.RowKit
attribute [local go_sem ↓] Go.wp_at_zero Go.wp_at_succ

def fills (k : Nat) : List (Int × Int) := (List.range k).map fun (i : Nat) => ((i : Int), (5 : Int))
theorem fills_len (k : Nat) : (fills k).length = k := by simp [fills]
theorem fills_has (k : Nat) (x : Int) : hasS (fills k) x = (decide (0 ≤ x) && decide (x < k)) := by
  rw [Bool.eq_iff_iff]
  unfold hasS fills
  rw [List.any_eq_true]
  simp only [Bool.and_eq_true, decide_eq_true_eq]
  constructor
  · rintro ⟨y, hy, e⟩
    obtain ⟨i, hi, rfl⟩ := List.mem_map.1 hy
    have := List.mem_range.1 hi
    simp at e; omega
  · rintro ⟨h0, h1⟩
    exact ⟨((x.toNat : Nat), 5), List.mem_map.2 ⟨x.toNat, List.mem_range.2 (by omega), rfl⟩, by simp; omega⟩
theorem fills_set {k : Nat} (h : k < 4096) : setS (fills k) k 5 = (true, fills (k + 1)) := by
  unfold setS
  rw [fills_has, fills_len]
  simp
  rw [if_neg (by omega)]
  simp [fills, List.range_succ]
def FullRel (b : Nat) (w : World) (v : Value) (wr : World) : Prop := ∃ (k : Nat) (H : Heaplet), k ≤ 4096 ∧ v = .int .i64 (k : Nat) ∧ TmS b (fills k) H ∧ Step w [] wr H
set_option maxHeartbeats 4000000 in
set_option maxRecDepth 100000 in
theorem timersFull_walk (id at' : Int) (w : World) (_ : (Lit.int .i64 id).wf = true) (_ : (Lit.int .i64 at').wf = true) :
    Calls Try.prog 6 #[.int .i64 id, .int .i64 at'] w fun e w' => e = .returned (.bool true) ∧ Below w.heap.size w w' := by
  suffices hs : Calls Try.prog 6 #[.int .i64 id, .int .i64 at'] w (LawPost w) from hs.mono fun e w' hp => ⟨hp.1, hp.2.nil_below⟩
  by_cases h1 : id < 0
  · go_enter Try.func6, Try.ntmps6
    go_wp2_with (go_at_call 8; refine (known_any _).mono ?_; rintro e w3 ⟨rfl, hs3⟩)
    go_ret
    exact ⟨rfl, hs3⟩
  by_cases h2 : 4000 < id
  · go_enter Try.func6, Try.ntmps6
    go_wp2_with (go_at_call 8; refine (known_any _).mono ?_; rintro e w3 ⟨rfl, hs3⟩)
    go_ret
    exact ⟨rfl, hs3⟩
  have hs1 : setS (fills 4096) 4096 1 = (false, fills 4096) := by
    unfold setS
    rw [fills_has, fills_len]
    simp
  have hs2 : setS (fills 4096) id at' = (true, (fills 4096).map fun x => if x.1 = id then (id, at') else x) := by
    unfold setS
    rw [fills_has, if_pos (by simp; omega)]
  obtain ⟨S2, hS2⟩ : ∃ S2, S2 = (fills 4096).map fun x => if x.1 = id then (id, at') else x := ⟨_, rfl⟩
  rw [← hS2] at hs2
  have hl2 : S2.length = 4096 := by rw [hS2, List.length_map, fills_len]
  have hmem : ∀ a, (id, a) ∈ S2 → a = at' := fun a ha => by
    rw [hS2] at ha
    obtain ⟨x, _, e⟩ := List.mem_map.1 ha
    split at e
    · exact (Prod.mk.inj e).2.symm
    · rename_i hne; exact absurd (by rw [e]) hne
  have hhas : hasS S2 id = true := by
    unfold hasS; rw [List.any_eq_true]
    refine ⟨(id, at'), ?_, by simp⟩
    rw [hS2]
    exact List.mem_map.2 ⟨((id.toNat : Nat), 5), List.mem_map.2 ⟨id.toNat, List.mem_range.2 (by omega), rfl⟩, by rw [if_pos (by simp; omega)]⟩
  have hlf : (S2.filter fun x => x.1 != id).length < 4096 := by
    rw [← hl2]
    unfold hasS at hhas
    obtain ⟨x, hx, he⟩ := List.any_eq_true.1 hhas
    have := List.length_filter_lt_length_iff_exists (p := fun (x : Int × Int) => x.1 != id) (l := S2)
    exact this.2 ⟨x, hx, by simpa using he⟩
  have hno4 : hasS (S2.filter fun x => x.1 != id) 4096 = false := by
    rw [Bool.eq_false_iff]
    intro h
    unfold hasS at h
    obtain ⟨x, hx, he⟩ := List.any_eq_true.1 h
    have hx2 := (List.mem_filter.1 hx).1
    rw [hS2] at hx2
    obtain ⟨y, hy, e⟩ := List.mem_map.1 hx2
    obtain ⟨i, hi, rfl⟩ := List.mem_map.1 hy
    have := List.mem_range.1 hi
    simp at he
    split at e <;> subst e <;> simp at he <;> omega
  have hs3 : setS (S2.filter fun x => x.1 != id) 4096 1 = (true, (S2.filter fun x => x.1 != id) ++ [(4096, 1)]) := by
    unfold setS
    rw [hno4]
    simp only [Bool.false_eq_true, if_false]
    rw [if_neg (by omega)]
  replace hs1 := Lib.hid hs1
  replace hs2 := Lib.hid hs2
  replace hs3 := Lib.hid hs3
  replace hl2 := Lib.hid hl2
  replace hmem := Lib.hid hmem
  replace hhas := Lib.hid hhas
  clear hS2 hno4
  replace hlf := Lib.hid hlf
  go_enter Try.func6, Try.ntmps6
  go_wp2_with fail
  refine (new_any _).mono ?_
  rintro e w1 ⟨b, H1, rfl, t1, s1⟩
  replace t1 := Lib.hid t1
  replace s1 := Lib.hid s1
  go_wp2_with fail
  go_loopw [6] (fun v wr => FullRel b w v wr) (fun v _ => 4096 - (intOf v).toNat)
  case atStart => exact ⟨0, H1, by omega, rfl, t1.out, s1.out⟩
  case round =>
    clear t1 s1
    obtain ⟨k, H, hk, rfl, ht, hs⟩ := hrel
    have d1 : (0 : Int) ≤ (k : Int) := by omega
    by_cases hlt : k < 4096
    · have d2 : (k : Int) < 4096 := by omega
      have hx := Lib.hid (set_any b (fills k) k 5 H wr ht hs.own (by rw [fills_len]; omega))
      rw [fills_set hlt] at hx
      go_wp2_with fail
      refine hx.out.mono ?_
      rintro e w2 ⟨rfl, H2, t2, h2⟩
      go_wp2_with fail
      exact ⟨⟨k + 1, H2, by omega, by go_num, t2, hs.trans h2⟩, by simp [intOf]; omega⟩
    · have hk4 : k = 4096 := by omega
      have ht4 : TmS b (fills 4096) H := by rw [← hk4]; exact ht
      have d2 : (4096 : Int) ≤ (k : Int) := by omega
      replace hk4 := Lib.hid hk4
      clear ht hlt
      have x1 := Lib.hid (set_any b (fills 4096) 4096 1 H wr ht4 hs.own (by rw [fills_len]; omega))
      rw [hs1.out] at x1
      go_wp2_with fail
      refine x1.out.mono ?_
      rintro e w2 ⟨rfl, H2, t2, h2⟩
      have s2 := hs.trans h2
      have x2 := Lib.hid (set_any b (fills 4096) id at' H2 w2 t2 s2.own (by rw [fills_len]; omega))
      rw [hs2.out] at x2
      go_wp2_with fail
      refine x2.out.mono ?_
      rintro e w3 ⟨rfl, H3, t3, h3⟩
      have s3 := s2.trans h3
      have x3 := Lib.hid (lenS_any b S2 H3 w3 t3 s3.own)
      rw [hl2.out] at x3
      go_wp2_with fail
      refine x3.out.mono ?_
      rintro e w4 ⟨rfl, rfl⟩
      have x4 := Lib.hid (cancel_any b S2 id H3 w3 t3 s3.own (by rw [hl2.out]; omega))
      go_wp2_with fail
      refine x4.out.mono ?_
      intro e w5 hq
      rcases hq with ⟨hn, _⟩ | ⟨a, ha, rfl, H5, t5, h5⟩
      · rw [hhas.out] at hn; cases hn
      · have hae := hmem.out a ha
        subst hae
        have s5 := s3.trans h5
        have x5 := Lib.hid (set_any b _ 4096 1 H5 w5 t5 s5.own (by have := hlf.out; omega))
        rw [hs3.out] at x5
        have q1 : (a == a) = true := by simp
        clear ha
        go_wp2_with fail
        refine x5.out.mono ?_
        rintro e w6 ⟨rfl, H6, t6, h6⟩
        have s6 := s5.trans h6
        go_wp2_with fail
        refine (known_any _).mono ?_
        rintro e w7 ⟨rfl, hs7⟩
        go_wp2
        go_ret
        exact ⟨rfl, (s6.call0 hs7).forget (A := [])⟩
end Go.Proofs.Ytcocgljaifnmnaa
