/- DiskOfNothing. -/
import Derived.Test.YtebmbfiiadffjaaDkKn
import Derived.Test.YtebmbfiiadffjaaPure
namespace Go.Proofs.Ytebmbfiiadffjaa
open Go.RowKit
attribute [local go_sem ↓] Go.wp_at_zero Go.wp_at_succ

theorem nil_Fuse (n : Int) (w : World) : Calls Try.prog 17 #[.pointer none, ii n] w fun e w' => e = .returned (.tuple #[]) ∧ Step w [] w' [] := by
  go_enter Try.func17, Try.ntmps17
  go_wp2
  go_end0
  exact ⟨rfl, Step.refl (Own.nil _)⟩
theorem nil_Crash (n : Int) (t : Value) (w : World) : Calls Try.prog 13 #[.pointer none, ii n, t] w fun e w' => e = .returned (.tuple #[]) ∧ Step w [] w' [] := by
  go_enter Try.func13, Try.ntmps13
  go_wp2
  (try simp only [Exit.inBlock, Exit.then])
  refine bodyPost_ret (results_none rfl _ _ _) rfl ?_
  exact ⟨rfl, Step.refl (Own.nil _)⟩
theorem nil_Names (w : World) : Calls Try.prog 21 #[.pointer none] w fun e w' => e = .returned (.slice none 0 0) ∧ Step w [] w' [] := by
  go_enter Try.func21, Try.ntmps21
  go_wp2
  go_ret
  exact ⟨rfl, Step.refl (Own.nil _)⟩
theorem nil_Used (w : World) : Calls Try.prog 15 #[.pointer none] w fun e w' => e = .returned (ii 0) ∧ Step w [] w' [] := by
  go_enter Try.func15, Try.ntmps15
  go_wp2
  go_ret
  exact ⟨rfl, Step.refl (Own.nil _)⟩
theorem nil_Copy (w : World) : Calls Try.prog 24 #[.pointer none] w fun e w' => e = .returned (.pointer none) ∧ Step w [] w' [] := by
  go_enter Try.func24, Try.ntmps24
  go_wp2
  go_ret
  exact ⟨rfl, Step.refl (Own.nil _)⟩
set_option maxHeartbeats 4000000 in
set_option maxRecDepth 100000 in
theorem diskOfNothing_walk (nm : Nm) (a : Option Addr) (n c : Nat) (l : List UInt8) (x : Int) (w : World) (_ : nm.length ≤ 140737488351232) (h : RdBytes w a n c l) (hl : l.length ≤ 140737488351232) (_ : (Lit.int .i64 x).wf = true) :
    Calls Try.prog 8 #[strV nm, .slice a n c, .int .i64 x] w fun e w' => e = .returned (.bool true) ∧ Below w.heap.size w w' := by
  suffices hs : Calls Try.prog 8 #[strV nm, .slice a n c, .int .i64 x] w (KnownPost w) from hs.mono fun e w' hp => ⟨hp.1, hp.2.nil_below⟩
  have hn := h.1
  subst hn
  have b1 : (l.length : Int) ≤ 140737488351232 := by omega
  have b2 : (nm.length : Int) ≤ 140737488351232 := by omega
  clear h
  by_cases hbig : 8000 < (nm.length : Int) + (l.length : Int)
  · go_enter Try.func8, Try.ntmps8
    go_wp2_with fail
    go_ret
    exact ⟨rfl, Step.refl (Own.nil _)⟩
  · have b3 : (nm.length : Int) + (l.length : Int) ≤ 8000 := by omega
    clear hbig
    go_enter Try.func8, Try.ntmps8
    go_wp2_with fail
    refine (nil_Fuse _ _).mono ?_
    rintro e w1 ⟨rfl, s1⟩
    go_wp2_with fail
    refine (nil_Crash _ _ _).mono ?_
    rintro e w2 ⟨rfl, h2⟩
    replace s1 := s1.trans h2
    go_wp2_with fail
    refine (dread_nil _ _).mono ?_
    rintro e w3 ⟨rfl, h2⟩
    replace s1 := s1.trans h2
    go_wp2_with fail
    refine (nil_Write _ _ _ _ _).mono ?_
    rintro e w4 ⟨rfl, h2⟩
    replace s1 := s1.trans h2
    go_wp2_with fail
    refine (nil_Sync _ _).mono ?_
    rintro e w5 ⟨rfl, h2⟩
    replace s1 := s1.trans h2
    go_wp2_with fail
    refine (nil_Cut _ _ _).mono ?_
    rintro e w6 ⟨rfl, h2⟩
    replace s1 := s1.trans h2
    go_wp2_with fail
    refine (nil_Rename _ _ _).mono ?_
    rintro e w7 ⟨rfl, h2⟩
    replace s1 := s1.trans h2
    go_wp2_with fail
    refine (nil_Remove _ _).mono ?_
    rintro e w8 ⟨rfl, h2⟩
    replace s1 := s1.trans h2
    go_wp2_with fail
    refine (nil_Names _).mono ?_
    rintro e w9 ⟨rfl, h2⟩
    replace s1 := s1.trans h2
    go_wp2_with fail
    refine (nil_Used _).mono ?_
    rintro e w10 ⟨rfl, h2⟩
    replace s1 := s1.trans h2
    go_wp2_with fail
    refine (nil_Copy _).mono ?_
    rintro e w11 ⟨rfl, h2⟩
    replace s1 := s1.trans h2
    go_wp2_with fail
    refine (known_any _).mono ?_
    rintro e w12 ⟨rfl, h2⟩
    replace s1 := s1.trans h2
    go_wp2_with fail
    go_ret
    exact ⟨rfl, s1⟩
end Go.Proofs.Ytebmbfiiadffjaa
