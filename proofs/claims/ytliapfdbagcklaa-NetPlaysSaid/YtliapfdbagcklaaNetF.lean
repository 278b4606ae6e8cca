import Derived.Test.YtliapfdbagcklaaNetE
namespace Go.Proofs.Ytliapfdbagcklaa
open Go.RowKit
attribute [local go_sem ↓] Go.wp_at_zero Go.wp_at_succ

def GivenPost (bx bm b : Nat) (l : List It) (i : Nat) (w : World) (H : Heaplet) (e : Ending) (w' : World) : Prop :=
  ∃ (hi : i < l.length) (H' : Heaplet), e = .returned (.bool true) ∧ NetRep 55 b (l.eraseIdx i) H' ∧
    Step w ((bx, .cells #[.pointer (some ⟨b, 0, none⟩)] 24 (0, 0)) :: (bm, .cells #[.int .i64 0, .int .i64 0, .slice none 0 0] 28 (0, 0)) :: H) w'
      ((bx, .cells #[.pointer (some ⟨b, 0, none⟩)] 24 (0, 0)) :: (bm, .cells l[i].cells.toArray 28 (0, 0)) :: (H' ++ l[i].H))

theorem given_done {bx bm b m : Nat} {l : List It} {i c g : Nat} {w w' : World} {H R : Heaplet} (hi : i < l.length) (hm : m + (i + 1 - i) = l.length) (hr : SlRep 28 3 (some ⟨g, 0, none⟩) m c ((l.flatMap It.cells).take (i * 3) ++ (l.flatMap It.cells).drop ((i + 1) * 3)) R) (hok : ∀ x ∈ l, x.ok)
    (s : Step w ((bx, .cells #[.pointer (some ⟨b, 0, none⟩)] 24 (0, 0)) :: (bm, .cells #[.int .i64 0, .int .i64 0, .slice none 0 0] 28 (0, 0)) :: H) w'
      ((bx, .cells #[.pointer (some ⟨b, 0, none⟩)] 24 (0, 0)) :: (bm, .cells #[.int .i64 l[i].f, .int .i64 l[i].t, .slice l[i].a l[i].d.length l[i].c] 28 (0, 0)) :: (b, .cells #[.slice (some ⟨g, 0, none⟩) m c] 55 (0, 0)) :: (R ++ l.flatMap It.H))) :
    GivenPost bx bm b l i w H (.returned (.bool true)) w' := by
  have e : m = (l.eraseIdx i).length := by rw [List.length_eraseIdx]; simp [hi]; omega
  rw [flatMap_cells_erase l i hi, e] at hr
  rw [e] at s
  refine ⟨hi, _, rfl, ⟨_, c, R, hr, rfl, fun x hx => hok x (List.mem_of_mem_eraseIdx hx)⟩, s.perm (List.Perm.refl _) ?_⟩
  refine .cons _ (.cons _ ?_)
  simp only [List.cons_append, List.append_assoc]
  exact .cons _ ((give_perm l i hi).append_left R)

set_option maxRecDepth 100000 in
theorem give_closure (bx bm b : Nat) (l : List It) (i : Nat) (H : Heaplet) (w : World) (hn : NetRep 55 b l H) (hi : i < l.length) (hl : l.length ≤ 1024)
    (hw : Own w ((bx, .cells #[.pointer (some ⟨b, 0, none⟩)] 24 (0, 0)) :: (bm, .cells #[.int .i64 0, .int .i64 0, .slice none 0 0] 28 (0, 0)) :: H)) :
    Calls Try.prog 29 #[.int .i64 i, .pointer (some ⟨bx, 0, none⟩), .pointer (some ⟨bm, 0, none⟩)] w (GivenPost bx bm b l i w H) := by
  obtain ⟨a, c, R, hr, rfl, hok⟩ := hn
  obtain ⟨g, cur, rfl, rfl, m0, m1, m2⟩ := hr.msg hi
  have x0 := cells1 hw.h0
  have ⟨y0, y1, y2⟩ := cells3 hw.h1
  have z0 := cells1 hw.h2
  have r0 := cell_of hw.h3 m0
  have r1 := cell_of hw.h3 m1
  have r2 := cell_of hw.h3 m2
  have fm := fun i => frz_of (i := i) hw.h1
  have fb := fun i => frz_of (i := i) hw.h2
  have b1 : (0 : Int) ≤ (i : Int) := by omega
  have b2 : (i : Int) < (l.length : Int) := by omega
  have b3 : (l.length : Int) ≤ 1024 := by omega
  replace hok := Lib.hid hok
  replace hr := Lib.hid hr
  clear m0 m1 m2
  go_enter Try.func29, Try.ntmps29
  go_wp2_with fail
  refine Step.gen ((((Step.refl hw).store1 _).store1 _).store1 _) ?_
  intro W s1
  clear x0 y0 y1 y2 z0 r0 r1 r2 fm fb hw
  have x0 := cells1 s1.own.h0
  have z0 := cells1 s1.own.h2
  have fb := fun i => frz_of (i := i) s1.own.h2
  go_region_law
    (first
      | (go_simp; go_at_call 30; refine (delete_msg_at g l.length c i (i + 1) _ _ (l.flatMap It.cells) [(g, .cells cur 28 (0, 0))] W.drew hr.out (Own.drew s1.own.tail.tail.tail.left) (one_cells l) (by omega) (by omega) (by go_arith) (by go_arith)).mono ?_; rintro e w1 ⟨m, R1, hm, rfl, hr1, hst1⟩; have s2 := Step.mid3 s1.drew hst1; have x0 := cells1 s2.own.h0; have z0 := cells1 s2.own.h2; have fb := fun i => frz_of (i := i) s2.own.h2))
  all_goals
    go_wp2
    go_ret
    exact given_done hi hm.out hr1 hok.out (s2.store2 (i := 0) _)
end Go.Proofs.Ytliapfdbagcklaa
