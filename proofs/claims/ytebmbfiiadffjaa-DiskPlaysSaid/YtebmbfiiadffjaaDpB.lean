/- DiskPlays: heavy. -/
import Derived.Test.YtebmbfiiadffjaaDpA
import Derived.Test.YtebmbfiiadffjaaRecs
import Derived.Test.YtebmbfiiadffjaaSp
namespace Go.Proofs.Ytebmbfiiadffjaa
open Go.RowKit
attribute [local go_sem ↓] Go.wp_at_zero Go.wp_at_succ

def Stq.small (x : Stq) : Prop := x.a.length ≤ 140737488355328 ∧ x.b.length ≤ 140737488355328 ∧ x.bn ≤ 140737488355328
set_option maxHeartbeats 2000000 in
set_option maxRecDepth 100000 in
theorem heavy_any (a : Option Addr) (nl cl : Nat) (l : List Stq) (w : World) (h : RdRecs w a nl cl 6 stqCells l) (hb : ∀ x ∈ l, x.small) (hll : l.length ≤ 140737488355328) :
    Calls Try.prog 22 #[.slice a nl cl] w fun e w' => (∃ t, e = .returned (.bool t)) ∧ Step w [] w' [] := by
  have hnl := h.1
  subst hnl
  have hlc : (l.length : Int) ≤ (cl : Int) := by have := h.2.1; omega
  have b4 : (l.length : Int) ≤ 140737488355328 := by omega
  replace h := Lib.hid h
  replace hb := Lib.hid hb
  go_enter Try.func22, Try.ntmps22
  go_wp2_with fail
  go_loopw [3, 4] (fun v3 v4 wr => ∃ k s : Nat, v3 = iv s ∧ v4 = iv k ∧ k ≤ l.length ∧ s ≤ 8000 ∧ Step w [] wr []) (fun _ v _ => l.length - (intOf v).toNat)
  case atStart => exact ⟨0, 0, rfl, rfl, Nat.zero_le _, Nat.zero_le _, Step.refl (Own.nil _)⟩
  case round =>
    obtain ⟨k, s, rfl, rfl, hk, hs, hst⟩ := hrel
    have d0 : (0 : Int) ≤ (k : Int) := by omega
    by_cases hlt : k < l.length
    · have d2 : (k : Int) < (l.length : Int) := by omega
      by_cases h120 : k < 120
      · have d3 : (k : Int) < 120 := by omega
        obtain ⟨x, hx⟩ : ∃ x, l[k]? = some x := ⟨_, List.getElem?_eq_getElem hlt⟩
        obtain ⟨ab, ao, rfl, hc⟩ := (h.out.later hst).at' hx
        have e2 := hc 2 _ rfl
        have e3 := hc 3 _ rfl
        have e4 := hc 4 _ rfl
        obtain ⟨m1, m2, m3⟩ := hb.out x (List.mem_of_getElem? hx)
        obtain ⟨s1, hs1⟩ : ∃ s1, s1 = s + x.a.length := ⟨_, rfl⟩
        obtain ⟨s2, hs2⟩ : ∃ s2, s2 = s1 + x.b.length := ⟨_, rfl⟩
        obtain ⟨s3, hs3⟩ : ∃ s3, s3 = s2 + x.bn := ⟨_, rfl⟩
        have q1 : IntKind.i64.wrap ((s : Int) + (x.a.length : Int)) = (s1 : Int) := by rw [IntWalk.i64_in _ (by omega)]; omega
        have q2 : IntKind.i64.wrap ((s1 : Int) + (x.b.length : Int)) = (s2 : Int) := by rw [IntWalk.i64_in _ (by omega)]; omega
        have q3 : IntKind.i64.wrap ((s2 : Int) + (x.bn : Int)) = (s3 : Int) := by rw [IntWalk.i64_in _ (by omega)]; omega
        have q1' : (s : Int) + (x.a.length : Int) = (s1 : Int) := by omega
        have q2' : (s1 : Int) + (x.b.length : Int) = (s2 : Int) := by omega
        have q3' : (s2 : Int) + (x.bn : Int) = (s3 : Int) := by omega
        clear hc hx
        replace hs1 := Lib.hid hs1
        replace hs2 := Lib.hid hs2
        replace hs3 := Lib.hid hs3
        replace hst := Lib.hid hst
        go_upto_region 5 with fail
        go_quiet (fail)
        by_cases hbig : 8000 < s3
        · have g1 : (8000 : Int) < (s3 : Int) := by omega
          clear hbig
          go_wp2_with fail
          go_ret
          exact ⟨⟨_, rfl⟩, hst.out.drewN _⟩
        · have g1 : (s3 : Int) ≤ 8000 := by omega
          clear hbig
          go_wp2_with fail
          exact ⟨⟨k + 1, s3, rfl, by go_num, hlt, by omega, hst.out.drewN _⟩, by simp [intOf]; omega⟩
      · have d3 : (120 : Int) ≤ (k : Int) := by omega
        clear h120
        go_wp2_with fail
        go_ret
        exact ⟨⟨_, rfl⟩, hst⟩
    · have d2 : (l.length : Int) ≤ (k : Int) := by omega
      clear hlt
      go_wp2_with fail
      go_ret
      exact ⟨⟨_, rfl⟩, hst⟩
end Go.Proofs.Ytebmbfiiadffjaa
