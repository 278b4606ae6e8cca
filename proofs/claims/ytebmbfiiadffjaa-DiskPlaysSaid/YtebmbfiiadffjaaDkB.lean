/- The program's disk: Used. -/
import Derived.Test.YtebmbfiiadffjaaDkA
import Derived.Test.YtebmbfiiadffjaaMapR
namespace Go.Proofs.Ytebmbfiiadffjaa
open Go.RowKit
attribute [local go_sem ↓] Go.wp_at_zero Go.wp_at_succ

theorem fe_has {X : List Fe} {x : Fe} (hx : x ∈ X) {W : World} (h : Own W (X.flatMap Fe.all)) : W.heap[x.fb]? = some (fobj x.a x.d.length x.c x.n) :=
  h.has (x.fb, fobj x.a x.d.length x.c x.n) (List.mem_flatMap.2 ⟨x, hx, List.mem_cons_self ..⟩)
theorem fe_used {X : List Fe} {L : List Fl} (hp : (X.map Fe.key).Perm L) {x : Fe} (hx : x ∈ X) : x.d.length ≤ usedF L := by
  have : Fe.key x ∈ L := hp.mem_iff.1 (List.mem_map.2 ⟨x, hx, rfl⟩)
  obtain ⟨A, B, rfl⟩ := List.append_of_mem this
  rw [used_app, used_cons]
  simp only [Fe.key]; omega
def UsedRel (k : Dk) (X : List Fe) (o : Obj) (r it : Nat) (H : Heaplet) (w : World) (v : Value) (wr : World) : Prop :=
  ∃ (Lf : List Fe) (oi : Obj) (n : Nat), v = iv n ∧ IterSt o oi r (Lf.map Fe.ent) ∧ n + usedF (Lf.map Fe.key) = usedF k.L ∧ (∀ x ∈ Lf, x ∈ X) ∧ Sp w H wr [H, [(it, oi)]]
set_option maxHeartbeats 2000000 in
set_option maxRecDepth 100000 in
theorem used_any (b : Nat) (k : Dk) (H : Heaplet) (w : World) (h : DkRep b k H) (hw : Own w H) (hu : usedF k.L ≤ 1073741824) :
    Calls Try.prog 15 #[pt b] w fun e w' => e = .returned (iv (usedF k.L)) ∧ Step w H w' H := by
  obtain ⟨r, o, fu, lf, X, hm, hok, hp, hf, rfl⟩ := h
  have ⟨c0, c1, c2, c3⟩ := cells4 hw.h0
  obtain ⟨oi, hit, hrun⟩ := iter_new hm r (P := Try.prog) Try.underlying58 hw.h1
  have s0 := (Sp.start hw).alloc oi
  have hin : Hid (UsedRel k X o r w.heap.size _ w (iv 0) (w.alloc oi)) := ⟨X, oi, 0, rfl, hit, by rw [Nat.zero_add]; exact used_perm hp, fun _ h => h, s0⟩
  have hrw : Hid (r < w.heap.size) := heap_lt hw.h1
  have hu' : (usedF k.L : Int) ≤ 1073741824 := by omega
  replace hm := Lib.hid hm
  replace hp := Lib.hid hp
  clear hok hf hit s0
  go_enter Try.func15, Try.ntmps15
  go_wp2_with (at_range; refine wpList_mrange rfl _ _ rfl (by rfl) hrun ?_)
  clear hrun
  go_frame
  generalize hHH : ((b, dobj k.room r fu lf) :: (r, o) :: X.flatMap Fe.all) = HH at hin
  replace hHH := Lib.hid hHH
  go_loopw [3] (fun v wr => UsedRel k X o r w.heap.size HH w v wr) (fun _ wr => iterLeft wr w.heap.size r)
  case atStart => exact hin.out
  case round =>
    clear hin c0 c1 c2 c3
    obtain ⟨Lf, oi, n, rfl, hit, hn, hX, hs⟩ := hrel
    have hoi := hs.one 1 rfl
    have hos := hs.own 0 rfl
    rw [← hHH.out] at hos
    have hml := Lib.hid (hit.left hoi hos.h1)
    rcases iter_step hm.out hit (P := Try.prog) hoi hos.h1 (by have := hrw.out; omega) with ⟨rfl, hnext⟩ | ⟨A, x, B, oi', w1, rfl, hw1, hnext, hit', hent⟩
    · have hn' : Hid (n = usedF k.L) := (by simpa [usedF] using hn : n = usedF k.L)
      clear hn hit hoi hos hX hml
      replace hs := Lib.hid hs
      go_wp2_with (at_next; refine wpList_mnext rfl _ rfl (by rfl) (hnext _) ?_)
      go_ret
      rw [hn'.out]
      refine ⟨rfl, ?_⟩
      have := (hs.out.forget 1 rfl).out (G := HH) (by simp)
      rw [← hHH.out] at this
      exact this
    · have hs1 : Sp w HH w1 [HH, [(w.heap.size, oi)]] := by
        rcases hw1 with rfl | rfl
        · exact hs
        · exact hs.drew
      have hs2 := Lib.hid (hs1.map 1 oi' rfl)
      have hos2 := hs2.out.own 0 rfl
      rw [← hHH.out] at hos2
      have he := hent _ (hs2.out.one 1 rfl) hos2.h1
      have hml2 := Lib.hid (hit'.left (hs2.out.one 1 rfl) hos2.h1)
      have ⟨d0, d1⟩ := cells2 (fe_has (hX x (by simp)) hos2.tail.tail)
      have hb : n + x.d.length ≤ usedF k.L := by
        rw [List.map_append, List.map_cons, used_app, used_cons] at hn
        simp only [Fe.key] at hn; omega
      have hnn := Lib.hid hn
      have hXX := Lib.hid hX
      have hb' : (n : Int) + (x.d.length : Int) ≤ 1073741824 := by omega
      replace hit' := Lib.hid hit'
      clear hs hs1 hn hX hit hoi hos hw1 hent hos2
      simp only [Fe.ent] at he hnext
      generalize World.putObj w1 w.heap.size oi' = W at hs2 he hml2 d0 d1 hnext
      go_wp2_with (at_next; refine wpList_mnext rfl _ rfl (by rfl) (hnext _) ?_)
      refine ⟨⟨A ++ B, oi', n + x.d.length, by go_num, hit'.out, ?_, fun y hy => hXX.out y ?_, hs2.out⟩, ?_⟩
      · have := hnn.out
        rw [List.map_append, List.map_cons, used_app, used_cons] at this
        rw [List.map_append, used_app]
        simp only [Fe.key] at this ⊢
        omega
      · rcases List.mem_append.1 hy with hy | hy
        · exact List.mem_append_left _ hy
        · exact List.mem_append_right _ (List.mem_cons_of_mem _ hy)
      · rw [hml2.out, hml.out]
        simp
end Go.Proofs.Ytebmbfiiadffjaa
