import Derived.Test.YtliapfdbagcklaaNetOrderWalk
namespace Go.Proofs.Ytliapfdbagcklaa
open Go.RowKit
attribute [local go_sem ↓] Go.wp_at_zero Go.wp_at_succ

set_option maxHeartbeats 2000000 in
set_option maxRecDepth 100000 in
theorem netOfNothing_walk (f t : Int) (a : Option Addr) (n c : Nat) (d : List UInt8) (pick : Int) (w : World) (h : RdBytes w a n c d) (_ : d.length ≤ 140737488351232) (_ : (Lit.int .i64 pick).wf = true) :
    Calls Try.prog 8 #[.agg #[.int .i64 f, .int .i64 t, .slice a n c], .int .i64 pick] w fun e w' => e = .returned (.bool true) ∧ Below w.heap.size w w' := by
  suffices hs : Calls Try.prog 8 #[.agg #[.int .i64 f, .int .i64 t, .slice a n c], .int .i64 pick] w (LawPost w) from hs.mono fun e w' hp => ⟨hp.1, hp.2.nil_below⟩
  have hn := h.1
  subst hn
  clear h
  by_cases h1 : 1000 < (d.length : Int)
  · go_enter Try.func8, Try.ntmps8
    go_wp2_with fail
    go_ret
    exact ⟨rfl, (Step.refl (Own.nil w)).junk _⟩
  · go_enter Try.func8, Try.ntmps8
    go_wp2_with (first | (go_at_call 12; refine (same_any none none 0 0 0 0 [] [] _ (rd_nil _) (rd_nil _) (by simp) (by simp)).mono ?_; rintro e w1 ⟨rfl, hs1⟩; have hb1 : Below w.heap.size w w1 := Below.trans (by go_grown) (hs1.nil_below.mono (by simp; omega)); have hz1 := hb1.size; clear hs1) | (go_at_call 14; refine (known_any _).mono ?_; rintro e w2 ⟨rfl, hs2⟩; have hb2 : Below w.heap.size w w2 := Below.trans (by go_grown) (hs2.nil_below.mono (by have := hb1.size; simp; omega)); clear hs2) | go_in)
    go_ret
    exact ⟨rfl, Step.of_below hb2⟩
end Go.Proofs.Ytliapfdbagcklaa
