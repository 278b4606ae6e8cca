/- DiskPlays: all files in both disks. -/
import Derived.Test.YtebmbfiiadffjaaDkT
import Derived.Test.YtebmbfiiadffjaaDkN
import Derived.Test.YtebmbfiiadffjaaDrI
import Derived.Test.YtebmbfiiadffjaaDrE
namespace Go.Proofs.Ytebmbfiiadffjaa
open Go.RowKit
attribute [local go_sem ↓] Go.wp_at_zero Go.wp_at_succ

theorem rdN_at {k : Dk} (hk : k.Ok) {i : Nat} {nm : Nm} (h : (k.L.map Prod.fst)[i]? = some nm) : ∃ l, rdN nm k = (l, 0) ∧ l.length ≤ 1073741824 := by
  rw [List.getElem?_map] at h
  obtain ⟨e, he, rfl⟩ := Option.map_eq_some_iff.1 h
  have hi : isF k.L e.1 = true := (isF_iff hk.sorted).2 ⟨e, List.mem_of_getElem? he, rfl⟩
  refine ⟨(getF k.L e.1).1, by unfold rdN; rw [if_pos hi], ?_⟩
  have := used_get hi
  have := hk.used
  have := hk.room
  omega
def StRel (n : Nat) (w : World) (H1 H2 Hn : Heaplet) (v : Value) (wr : World) : Prop := ∃ i : Nat, v = iv i ∧ i ≤ n ∧ Sp w [] wr [H1, H2, Hn]
set_option maxHeartbeats 4000000 in
set_option maxRecDepth 100000 in
theorem stood_any (d r : Nat) (k : Dk) (H1 H2 : Heaplet) (w : World) (h1 : DkRep d k H1) (h2 : RkRep r k H2) (hk : k.Ok) (w0 : World) (s : Sp w0 [] w [H1, H2]) :
    Calls Try.prog 27 #[pt d, pt r] w fun e w' => e = .returned (.bool true) ∧ Sp w0 [] w' [H1, H2] := by
  have p1 := Lib.hid (fun W hW => rnames r k H2 W h2 hk hW)
  have p2 := Lib.hid (fun W hW => dnames d k H1 W h1 hk hW)
  have p3 := Lib.hid (fun W hW => used_any d k H1 W h1 hW (Nat.le_trans hk.used hk.room))
  have p4 := Lib.hid (fun W hW => rused_any r k H2 W h2 hW (by have := hk.many; omega) (Nat.le_trans hk.used hk.room))
  have p5 := Lib.hid (fun nm W hW => dread d k H1 nm W h1 hk hW)
  have p6 := Lib.hid (fun nm W hW => rread r k H2 nm W h2 hk hW)
  have q5 := Lib.hid (fun i nm h => rdN_at hk (i := i) (nm := nm) h)
  have hn : (k.L.map Prod.fst).length ≤ 4096 := by rw [List.length_map]; exact hk.many
  clear h1 h2 hk
  generalize k.L.map Prod.fst = ns at *
  generalize usedF k.L = us at *
  have hn' : (ns.length : Int) ≤ 4096 := by omega
  have hu : ((us : Int) != (us : Int)) = false := by simp
  go_enter Try.func27, Try.ntmps27
  go_wp2_with fail
  refine (p1.out w (s.own 1 rfl)).mono ?_
  rintro e w1 ⟨a1, c1, N1, rfl, r1, hst⟩
  have s : Sp w0 [] w1 [H1, H2, N1] := s.fresh hst
  clear hst
  go_wp2_with fail
  refine (p2.out _ (s.own 0 rfl)).mono ?_
  rintro e w2 ⟨a2, c2, N2, rfl, r2, hst⟩
  have s : Sp w0 [] w2 [H1, H2, N1, N2] := s.fresh hst
  clear hst
  go_wp2_with fail
  refine (texts_any a2 a1 ns.length c2 ns.length c1 ns ns _ (r2.rdNs (s.own 3 rfl)) (r1.rdNs (s.own 2 rfl))).mono ?_
  rintro e w3 ⟨rfl, hst⟩
  rw [decide_eq_true (rfl : ns = ns)]
  have s : Sp w0 [] w3 [H1, H2, N1, N2] := s.still hst
  clear hst
  go_wp2_with fail
  refine (p3.out _ (s.own 0 rfl)).mono ?_
  rintro e w4 ⟨rfl, hst⟩
  have s : Sp w0 [] w4 [H1, H2, N1, N2] := s.put 0 rfl hst
  clear hst
  go_wp2_with fail
  refine (p4.out _ (s.own 1 rfl)).mono ?_
  rintro e w5 ⟨rfl, hst⟩
  have s : Sp w0 [] w5 [H1, H2, N1, N2] := s.still hst
  have s : Sp w0 [] w5 [H1, H2, N1] := (s.forget 3 rfl).perm (by simp)
  clear hst r2
  replace r1 := Lib.hid r1
  have c1l : (ns.length : Int) ≤ (c1 : Int) := by have := (r1.out.rdNs (s.own 2 rfl)).2.1; omega
  replace s := Lib.hid s
  go_upto_region 4 with fail
  go_wp2_with fail
  go_loopw [6] (fun v wr => StRel ns.length w0 H1 H2 N1 v wr) (fun v _ => ns.length - (intOf v).toNat)
  case atStart => exact ⟨0, rfl, Nat.zero_le _, s.out⟩
  case round =>
    clear s
    obtain ⟨i, rfl, hi, s⟩ := hrel
    have d0 : (0 : Int) ≤ (i : Int) := by omega
    by_cases hlt : i < ns.length
    · have d2 : (i : Int) < (ns.length : Int) := by omega
      have hx := List.getElem?_eq_getElem hlt
      generalize ns[i]'hlt = nm at hx
      obtain ⟨l, hl, hlen⟩ := q5.out i nm hx
      have p5 := Lib.hid (p5.out nm)
      have p6 := Lib.hid (p6.out nm)
      rw [hl] at p5 p6
      replace hl := Lib.hid hl
      obtain ⟨ab, ao, ea, hc⟩ := (r1.out.rdNs (s.own 2 rfl)).at' hx
      subst ea
      have hc := hc 0 _ rfl
      simp only [Nat.mul_one, Nat.add_zero] at hc
      go_wp2_with fail
      refine (p5.out _ (s.own 0 rfl)).mono ?_
      rintro e w4 ⟨a1, c1, X1, rfl, r1, hst⟩
      have hc := hst.keepCell hc
      have s : Sp w0 [] w4 [H1, H2, N1, X1] := s.fresh hst
      clear hst
      go_wp2_with fail
      refine (p6.out _ (s.own 1 rfl)).mono ?_
      rintro e w5 ⟨a2, c2, X2, rfl, r2, hst⟩
      have s : Sp w0 [] w5 [H1, H2, N1, X1, X2] := s.fresh hst
      clear hst
      go_wp2_with fail
      refine (same_any a1 a2 l.length c1 l.length c2 l l _ (r1.rdBytes (s.own 3 rfl)) (r2.rdBytes (s.own 4 rfl)) (by omega) (by omega)).mono ?_
      rintro e w6 ⟨rfl, h6⟩
      rw [decide_eq_true (rfl : l = l)]
      have s : Sp w0 [] w6 [H1, H2, N1] := (((s.still h6).forget 3 rfl).forget 4 rfl).perm (by simp)
      clear h6
      go_wp2_with fail
      exact ⟨⟨i + 1, by go_num, by omega, s⟩, by simp [intOf]; omega⟩
    · have d2 : (ns.length : Int) ≤ (i : Int) := by omega
      go_wp2_with fail
      go_ret
      exact ⟨rfl, (s.forget 2 rfl).perm (by simp)⟩
end Go.Proofs.Ytebmbfiiadffjaa
