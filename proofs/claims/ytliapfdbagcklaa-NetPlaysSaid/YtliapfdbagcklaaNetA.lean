import Derived.Test.YtliapfdbagcklaaBase
namespace Go.Proofs.Ytliapfdbagcklaa
open Go.RowKit

@[go_sem] theorem sn_u8 (w : World) (a : Option Addr) (n c n' c' : Nat) : (binOp .eql 23 (.slice a n c) (.slice none n' c')).run Try.prog w = .ok (.bool a.isNone) w := Lib.run_eql_slice_nil w _ _ a n c n' c' Try.underlying23
theorem st_u8 : SlTy Try.prog 23 5 1 1 (.int .u8 0) := ⟨by kernel_rfl, by kernel_rfl, rfl, by decide⟩
theorem st_msg : SlTy Try.prog 45 28 3 40 (.agg #[.int .i64 0, .int .i64 0, .slice none 0 0]) := ⟨by kernel_rfl, by kernel_rfl, rfl, by decide⟩

/-- What clone hands back: bytes in memory of its own. -/
def ClonePost (w : World) (l : List UInt8) (e : Ending) (w' : World) : Prop :=
  ∃ a c H, e = .returned (.slice a l.length c) ∧ SlRep 5 1 a l.length c (l.map u8) H ∧ Step w [] w' H

theorem clone_any (a : Option Addr) (n c : Nat) (l : List UInt8) (w : World) (h : RdBytes w a n c l) (hl : l.length ≤ 140737488355328) :
    Calls Try.prog 36 #[.slice a n c] w (ClonePost w l) := by
  cases a with
  | none =>
    obtain ⟨rfl, ⟨_, rfl, rfl⟩ | ⟨_, h, _⟩⟩ := h
    · go_enter Try.func36, Try.ntmps36
      go_wp2
      go_ret
      exact ⟨_, _, [], rfl, SlRep.nil _ _, Step.refl (Own.nil _)⟩
    · cases h
  | some x =>
    replace h := Lib.hid (h.alloc (.cells #[] 5))
    have hn : n ≤ 140737488355328 := by have := h.out.1; omega
    go_enter Try.func36, Try.ntmps36
    go_wp2_with (at_builtin; refine wpList_app rfl st_u8 _ _ rfl (by rfl) (by rfl) (SlRep.made _ _ w.heap.size) (Own.one (heap_alloc_new w _)) (rdBytes_cells h.out) (by unfold maxLen; omega) (by omega) ?_; intro a' c' w' H' hv' hst)
    go_ret
    have hn := h.out.1
    subst hn
    exact ⟨a', c', H', by simp, by simpa using hv', ((Step.refl (Own.nil w)).alloc _).trans hst⟩

theorem new_any (w : World) : Calls Try.prog 9 #[] w fun e w' => e = .returned (.pointer (some ⟨w.heap.size, 0, none⟩)) ∧ w' = w.alloc (.cells #[.slice none 0 0] 55) := by
  go_enter Try.func9, Try.ntmps9
  go_wp2
  go_ret
  exact ⟨rfl, rfl⟩

def OwnPost (w : World) (f t : Int) (l : List UInt8) (e : Ending) (w' : World) : Prop :=
  ∃ a c H, e = .returned (.agg #[.int .i64 f, .int .i64 t, .slice a l.length c]) ∧ SlRep 5 1 a l.length c (l.map u8) H ∧ Step w [] w' H
theorem own_any (f t : Int) (a : Option Addr) (n c : Nat) (l : List UInt8) (w : World) (h : RdBytes w a n c l) (hl : l.length ≤ 140737488355328) :
    Calls Try.prog 27 #[.agg #[.int .i64 f, .int .i64 t, .slice a n c]] w (OwnPost w f t l) := by
  replace h := Lib.hid h
  go_enter Try.func27, Try.ntmps27
  go_wp2_with fail
  refine (clone_any _ _ _ l _ ((h.out.alloc _).alloc _) hl).mono ?_
  rintro e w1 ⟨a1, k1, H1, rfl, hr1, hst1⟩
  have s1 := (((Step.refl (Own.nil w)).alloc _).alloc _).call0 hst1
  simp only [World.size_alloc] at s1
  obtain ⟨c0, c1, c2⟩ := cells3 s1.own.h1
  obtain ⟨d0, d1, d2⟩ := cells3 s1.own.h0
  have fa := fun i => frz_of (i := i) s1.own.h1
  have fb := fun i => frz_of (i := i) s1.own.h0
  go_wp2
  refine bodyPost_ret (v := .agg #[.int .i64 f, .int .i64 t, .slice a1 l.length k1]) (by simp [results, Try.results27, go_sem, d0, d1, d2]) rfl ?_
  exact ⟨_, _, H1, rfl, hr1, ((((s1.store1 _).store0 _).store0 _).store0 _).tail.tail⟩
end Go.Proofs.Ytliapfdbagcklaa
