import Derived.Test.YtliapfdbagcklaaNetJ
namespace Go.Proofs.Ytliapfdbagcklaa
open Go.RowKit
attribute [local go_sem ↓] Go.wp_at_zero Go.wp_at_succ

def DropPost (b : Nat) (node : Int) (l : List It) (w : World) (H : Heaplet) (e : Ending) (w' : World) : Prop :=
  ∃ H', e = .returned (.int .i64 ((l.length : Int) - (kept node l).length)) ∧ NetRep 55 b (kept node l) H' ∧ Step w H w' H'
theorem drop_perm (node : Int) (l : List It) : (l.flatMap It.H).Perm ((kept node l).flatMap It.H ++ (l.filter (It.hits node)).flatMap It.H) := by
  rw [← List.flatMap_append]
  refine List.Perm.flatMap_right It.H ?_
  have := (List.filter_append_perm (fun x => !It.hits node x) l).symm
  simpa [kept] using this
theorem drop_done {b c : Nat} {a : Option Addr} {node : Int} {l : List It} {w w' : World} {H0 R : Heaplet} (hok : ∀ x ∈ l, x.ok) (hr : SlRep 28 3 a (kept node l).length c ((kept node l).flatMap It.cells) R)
    (s : Step w H0 w' ((b, .cells #[.slice a (kept node l).length c] 55 (0, 0)) :: (R ++ l.flatMap It.H))) :
    ∃ H', NetRep 55 b (kept node l) H' ∧ Step w H0 w' H' := by
  refine ⟨_, ⟨a, c, R, hr, rfl, fun x hx => hok x (List.mem_filter.1 hx).1⟩, ?_⟩
  refine Step.forget (B := (l.filter (It.hits node)).flatMap It.H) (s.perm (List.Perm.refl _) ?_)
  have := (drop_perm node l).append_left R
  simpa using this

theorem cons_rot (a b c d : Nat × Obj) (l : Heaplet) : (a :: b :: c :: l).Perm (b :: c :: a :: l) := (List.Perm.swap b a _).trans (.cons _ (List.Perm.swap c a _))
set_option maxRecDepth 100000 in
theorem drop_any (b : Nat) (l : List It) (H : Heaplet) (node : Int) (w : World) (hn : NetRep 55 b l H) (hw : Own w H) (hl : l.length ≤ 1024) :
    Calls Try.prog 17 #[.pointer (some ⟨b, 0, none⟩), .int .i64 node] w (DropPost b node l w H) := by
  by_cases h0 : l.length = 0
  · have hb0 : ¬ (0 : Int) < (l.length : Int) := by omega
    have e0 : l = [] := List.length_eq_zero_iff.1 h0
    clear h0
    replace e0 := Lib.hid e0
    go_enter Try.func17, Try.ntmps17
    go_wp2_with (go_at_call 13; refine (len_any b l H _ hn ((Step.refl hw).alloc _).own.tail).mono ?_; rintro e w1 ⟨rfl, rfl⟩)
    go_ret
    have e1 := e0.out
    subst e1
    exact ⟨H, rfl, hn, (Step.refl hw).junk _⟩
  · obtain ⟨a, c, R, hr, rfl, hok⟩ := hn
    obtain ⟨g, cur, rfl, rfl, _, _, _⟩ := hr.msg (i := 0) (by omega)
    have hn0 : NetRep 55 b l ((b, .cells #[.slice (some ⟨g, 0, none⟩) l.length c] 55 (0, 0)) :: ([(g, .cells cur 28 (0, 0))] ++ l.flatMap It.H)) := ⟨_, c, _, hr, rfl, hok⟩
    replace hok := Lib.hid hok
    replace hr := Lib.hid hr
    have hb0 : (0 : Int) < (l.length : Int) := by omega
    have hb1 : (l.length : Int) ≤ 1024 := by omega
    have c0 := cells1 hw.h0
    have k0 := heap_lt hw.h0
    go_enter Try.func17, Try.ntmps17
    go_wp2_with fail
    refine (len_any b l _ _ hn0 ((Step.refl hw).alloc _).own.tail).mono ?_
    rintro e w1 ⟨rfl, rfl⟩
    have s := (Step.refl hw).alloc (.cells #[.int .i64 node] 3)
    have hMg : w.heap.size ≠ g := fun e => by have := s.own.nodup; simp [dom, e] at this
    replace hMg := Lib.hid hMg
    have hdf := Lib.hid (fun W (s : Own W ((w.heap.size, .cells #[.int .i64 node] 3 (0, 0)) :: (b, .cells #[.slice (some ⟨g, 0, none⟩) l.length c] 55 (0, 0)) :: ([(g, .cells cur 28 (0, 0))] ++ l.flatMap It.H))) => deletefunc_any node l g c w.heap.size cur W hl hr.out s.h2 (cells1 s.h0) hMg.out)
    replace s := Lib.hid s
    go_wp2_with (go_at_call 33; refine (hdf.out _ s.out.own).mono ?_; rintro e w1 ⟨R1, rfl, hr1, hst1⟩; replace s := Step.mid2 s.out hst1; have z1 := cells1 s.own.h1; have fb := fun i => frz_of (i := i) s.own.h1)
    obtain ⟨H', hn', hs'⟩ := drop_done hok.out hr1 (s.store1 (i := 0) (.slice (some ⟨g, 0, none⟩) (kept node l).length c)).tail
    refine (len_any b _ _ _ hn' hs'.own).mono ?_
    rintro e w2 ⟨rfl, rfl⟩
    have hk : (kept node l).length ≤ l.length := List.length_filter_le _ _
    have hk2 : ((kept node l).length : Int) ≤ (l.length : Int) := by omega
    go_wp2
    go_ret
    exact ⟨H', rfl, hn', hs'⟩
end Go.Proofs.Ytliapfdbagcklaa
