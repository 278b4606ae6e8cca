/- The program's disk: Read. -/
import Derived.Test.YtebmbfiiadffjaaDkH
namespace Go.Proofs.Ytebmbfiiadffjaa
open Go.RowKit
attribute [local go_sem ↓] Go.wp_at_zero Go.wp_at_succ

/-- What clone hands back: bytes in memory of its own. -/
def ClonePost (w : World) (l : List UInt8) (e : Ending) (w' : World) : Prop :=
  ∃ a c H, e = .returned (.slice a l.length c) ∧ SlRep 5 1 a l.length c (l.map u8) H ∧ Step w [] w' H

theorem clone_any (a : Option Addr) (n c : Nat) (l : List UInt8) (w : World) (h : RdBytes w a n c l) (hl : l.length ≤ 140737488355328) :
    Calls Try.prog 32 #[.slice a n c] w (ClonePost w l) := by
  cases a with
  | none =>
    obtain ⟨rfl, ⟨_, rfl, rfl⟩ | ⟨_, h, _⟩⟩ := h
    · go_enter Try.func32, Try.ntmps32
      go_wp2
      go_ret
      exact ⟨_, _, [], rfl, SlRep.nil _ _, Step.refl (Own.nil _)⟩
    · cases h
  | some x =>
    replace h := Lib.hid (h.alloc (.cells #[] 5))
    have hn : n ≤ 140737488355328 := by have := h.out.1; omega
    go_enter Try.func32, Try.ntmps32
    go_wp2_with (at_builtin; refine wpList_app rfl st_u8 _ _ rfl (by rfl) (by rfl) (SlRep.made _ _ w.heap.size) (Own.one (heap_alloc_new w _)) (rdBytes_cells h.out) (by unfold maxLen; omega) (by omega) ?_; intro a' c' w' H' hv' hst)
    go_ret
    have hn := h.out.1
    subst hn
    exact ⟨a', c', H', by simp, by simpa using hv', ((Step.refl (Own.nil w)).alloc _).trans hst⟩

theorem own_after {H G : Heaplet} {w w' : World} (o : Own w H) (s : Step w [] w' G) : Step w H w' (H ++ G) := Step.beside (H := []) (H' := G) (G := H) s o |>.perm (List.Perm.refl _) List.perm_append_comm
def RdPost (l : List UInt8) (n : Nat) (w : World) (e : Ending) (w' : World) : Prop := ∃ a c H, e = .returned (.tuple #[.slice a l.length c, iv n]) ∧ SlRep 5 1 a l.length c (l.map u8) H ∧ Step w [] w' H
theorem fe_bytes {X : List Fe} {x : Fe} (hx : x ∈ X) (ho : x.ok) {W : World} (h : Own W (X.flatMap Fe.all)) : RdBytes W x.a x.d.length x.c x.d := by
  obtain ⟨A, B, rfl⟩ := List.append_of_mem hx
  have h2 := (h.perm (all_part A x B)).tail.left
  exact SlAt.rdBytes ho h2
set_option maxHeartbeats 2000000 in
theorem dread (b : Nat) (k : Dk) (H : Heaplet) (nm : Nm) (w : World) (h : DkRep b k H) (hk : k.Ok) (hw : Own w H) :
    Calls Try.prog 14 #[pt b, strV nm] w (RdPost (rdN nm k).1 (rdN nm k).2 w) := by
  obtain ⟨r, o, fu, lf, X, hm, hok, hp, hf, rfl⟩ := h
  have ⟨c0, c1, c2, c3⟩ := cells4 hw.h0
  cases hi : isF k.L nm
  · have hlk := look_no hm hw.h1 (fe_none hp hk.sorted hi)
    have hr : Hid (rdN nm k = ([], 7)) := by show _ = _; unfold rdN; rw [if_neg (by rw [hi]; simp)]
    clear hi hok hm hp hf
    go_enter Try.func14, Try.ntmps14
    go_wp2
    go_ret2
    rw [hr.out]
    exact ⟨none, 0, [], rfl, SlRep.nil _ _, Step.refl (Own.nil _)⟩
  · obtain ⟨A, x, B, rfl, rfl, hget, _, _⟩ := fe_find hp hk.sorted hi
    have hlk := look_yes hm hw.h1
    have ⟨e0, e1⟩ := cells2 (fe_has (x := x) (by simp) hw.tail.tail)
    have hr : Hid (rdN x.nm k = (x.d, 0)) := by show _ = _; unfold rdN; rw [if_pos hi, ← hget]
    have hcl := Lib.hid (clone_any x.a x.d.length x.c x.d w (fe_bytes (by simp) (hok x (by simp)) hw.tail.tail) (by
      have h1 := used_get hi
      rw [← hget] at h1
      have := hk.used
      have := hk.room
      simp only at h1
      omega))
    clear hi hok hm hp hf hget
    go_enter Try.func14, Try.ntmps14
    go_wp2_with fail
    refine hcl.out.mono ?_
    rintro e w2 ⟨a, c, H2, rfl, h1, h2⟩
    go_wp2
    go_ret2
    rw [hr.out]
    exact ⟨a, c, H2, rfl, h1, h2⟩
theorem dread_nil (nm : Nm) (w : World) : Calls Try.prog 14 #[.pointer none, strV nm] w fun e w' => e = .returned (.tuple #[.slice none 0 0, ii 7]) ∧ Step w [] w' [] := by
  go_enter Try.func14, Try.ntmps14
  go_wp2
  go_ret2
  exact ⟨rfl, Step.refl (Own.nil _)⟩
end Go.Proofs.Ytebmbfiiadffjaa
