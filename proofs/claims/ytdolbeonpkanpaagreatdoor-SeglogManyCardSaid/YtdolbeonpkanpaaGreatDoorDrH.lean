/- The reference's disk: Write, whole; Names. -/
import Derived.Test.YtdolbeonpkanpaaGreatDoorDkN
import Derived.Test.YtdolbeonpkanpaaGreatDoorDrG
set_option linter.unusedVariables false
set_option linter.unusedSimpArgs false
namespace Go.Proofs.YtdolbeonpkanpaaGreatDoor
open Go.RowKit
attribute [local go_sem ↓] Go.wp_at_zero Go.wp_at_succ

set_option maxHeartbeats 2000000 in
set_option maxRecDepth 100000 in
theorem rwrite (b : Nat) (k : Dk) (H : Heaplet) (nm : Nm) (pa : Option Addr) (pn pc : Nat) (p : List UInt8) (w : World) (h : RkRep b k H) (hk : k.Ok) (hw : Own w H)
    (hb : RdBytes w pa pn pc p) (hpb : p ≠ [] → ∀ x, pa = some x → x.block ∉ dom H) (hpl : p.length ≤ 140737488355328) :
    Calls Tryz.prog 31 #[pt b, strV nm, .slice pa pn pc] w (RkPost b (gateN [nm] (wrI nm p) k) H w) := by
  have hpn := hb.1
  subst hpn
  by_cases hm : mayN k [nm] = 0
  · by_cases hA : k.room < usedF k.L + p.length ∨ (isF k.L nm = false ∧ 4096 ≤ k.L.length)
    · rw [gate_no hm (n := 6) (by unfold wrI; rw [if_pos hA]) (by decide)]
      exact rwrite_full b k H nm pa pc p w h hk hw hpl hm hA
    · have h1 : ¬ k.room < usedF k.L + p.length := fun h => hA (.inl h)
      have h2 : ¬ (isF k.L nm = false ∧ 4096 ≤ k.L.length) := fun h => hA (.inr h)
      rw [gate_yes hm (wrI_ok h1 h2)]
      exact rwrite_ok b k H nm pa pc p w h hk hw hb hpb hpl hm h1 h2
  · have s1 := (Sp.start hw).alloc (.cells #[strV nm] 9)
    have hmy := Lib.hid (may_any b k H w.heap.size 1 [nm] _ h (s1.own 0 rfl) (rdStrs_one w nm) (Nat.le_refl _) (by decide))
    have hmp := Lib.hid (fun hm W G (s : Step w H W (H ++ G)) => may_post (op := wrI nm p) (names := [nm]) h hm s)
    replace s1 := Lib.hid s1
    obtain ⟨m, hmm⟩ : ∃ m, m = mayN k [nm] := ⟨_, rfl⟩
    rw [← hmm] at hmy hmp hm
    have q0 : ((m : Int) != 0) = true := by rw [bne_iff_ne]; omega
    have hm1 := Lib.hid hm
    replace hmm := Lib.hid hmm
    clear hm h hb hpb
    go_enter Tryz.func31, Tryz.ntmps31
    go_wp2_with fail
    refine hmy.out.mono ?_
    rintro e w2 ⟨rfl, hst⟩
    go_wp2_with fail
    go_ret
    have s2 := s1.out.still hst
    exact hmp.out hm1.out _ _ (s2.out (by simp; rfl))
end Go.Proofs.YtdolbeonpkanpaaGreatDoor
