/- The reference of timers: Due. -/
import Derived.Test.YtcocgljaifnmnaaTfC
namespace Go.Proofs.Ytcocgljaifnmnaa
open Go.RowKit
attribute [local go_sem ↓] Go.wp_at_zero Go.wp_at_succ

theorem filter_perm {L : List (Int × Int)} (hd : (L.map Prod.fst).Nodup) {x : Int × Int} (hx : x ∈ L) : (x :: L.filter fun y => y.1 != x.1).Perm L := by
  obtain ⟨i, hi⟩ := List.getElem?_of_mem hx
  rw [← cut_filter hd hi]
  obtain ⟨hil, e1⟩ := List.getElem?_eq_some_iff.1 hi
  have hL : L = L.take i ++ x :: L.drop (i + 1) := by
    rw [← e1, List.getElem_cons_drop hil, List.take_append_drop]
  exact List.perm_middle.symm.trans (List.Perm.of_eq hL.symm)
def TfDuePost (b : Nat) (S : List (Int × Int)) (now : Int) (H : Heaplet) (w : World) (e : Ending) (w' : World) : Prop :=
  ∃ a c xs S' H' HR, e = .returned (.slice a xs.length c) ∧ SlRep 3 1 a xs.length c (xs.map fun (x : Int × Int) => ii x.1) HR ∧ (xs ++ S').Perm S ∧ xs.Pairwise eLe ∧ (∀ x ∈ xs, x.2 ≤ now) ∧ (∀ y ∈ S', now < y.2) ∧ TfS b S' H' ∧ Step w H w' (H' ++ HR)
def TfDueRel (b : Nat) (S : List (Int × Int)) (now : Int) (H : Heaplet) (w : World) (v5 : Value) (wr : World) : Prop :=
  ∃ a c xs L H' HR, v5 = .slice a xs.length c ∧ SlRep 3 1 a xs.length c (xs.map fun (x : Int × Int) => ii x.1) HR ∧ (xs ++ L).Perm S ∧ xs.Pairwise eLe ∧ (∀ x ∈ xs, ∀ y ∈ L, eLe x y) ∧ (∀ x ∈ xs, x.2 ≤ now) ∧ TfS b L H' ∧ Step w H wr (H' ++ HR)
set_option maxHeartbeats 4000000 in
set_option maxRecDepth 100000 in
theorem tfdue_any (b : Nat) (S : List (Int × Int)) (now : Int) (H : Heaplet) (w : World) (h : TfS b S H) (hw : Own w H) (hl : S.length ≤ 4096) :
    Calls Try.prog 17 #[pt b, ii now] w (TfDuePost b S now H w) := by
  have s0 := Lib.hid (Step.refl hw)
  replace h := Lib.hid h
  go_enter Try.func17, Try.ntmps17
  go_wp2_with fail
  go_loopw [5] (fun v5 wr => TfDueRel b S now H w v5 wr) (fun v5 _ => S.length - sLen v5)
  case atStart => exact ⟨none, 0, [], S, H, [], rfl, SlRep.nil _ _, List.Perm.refl _, List.Pairwise.nil, by simp, by simp, h.out, by rw [List.append_nil]; exact s0.out⟩
  case round =>
    clear h s0
    obtain ⟨a, c, xs, L, H', HR, rfl, hr, hp, hpw, hle, hno, ht, hs⟩ := hrel
    have hpl := hp.length_eq
    rw [List.length_append] at hpl
    have hx1 : xs.length ≤ 4096 := by omega
    have hnx := Lib.hid (tfnext_any b L H' wr ht.1 hs.own.left (by omega))
    unfold NextPost at hnx
    replace hp := Lib.hid hp
    replace hr := Lib.hid hr
    replace hpw := Lib.hid hpw
    replace hle := Lib.hid hle
    replace hno := Lib.hid hno
    replace ht := Lib.hid ht
    go_wp2_with fail
    refine hnx.out.mono ?_
    rintro e w1 ⟨hs1, ⟨rfl, rfl⟩ | ⟨⟨x1, x2⟩, hx, hleast, rfl⟩⟩
    · have s1 := hs.call0 hs1
      rw [List.append_nil] at s1
      have hfin : Hid (TfDuePost b S now H w (.returned (.slice a xs.length c)) w1) := ⟨a, c, xs, [], H', HR, rfl, hr.out, hp.out, hpw.out, hno.out, by simp, ht.out, s1⟩
      go_wp2_with fail
      go_ret
      exact hfin.out
    · have s1 := hs.call0 hs1
      rw [List.append_nil] at s1
      by_cases hdue : x2 ≤ now
      · have hd : decide (now < x2) = false := decide_eq_false (by omega)
        have hcn := Lib.hid (tfcancel_any b L x1 H' w1 ht.out s1.own.left (by omega))
        unfold TfCancelPost at hcn
        have hpL := filter_perm ht.out.2 hx
        replace hx := Lib.hid hx
        replace hleast := Lib.hid hleast
        clear hnx
        replace hdue := Lib.hid hdue
        go_wp2_with fail
        refine hcn.out.mono ?_
        rintro e w2 (⟨hno2, _⟩ | ⟨at', hat, rfl, H2, t2, h2⟩)
        · have : hasS L x1 = true := List.any_eq_true.2 ⟨_, hx.out, by simp⟩
          rw [this] at hno2; cases hno2
        have s2 := s1.call h2
        have hmem : ∀ u ∈ L.filter (fun y => y.1 != x1), u ∈ L := fun u hu => (List.mem_filter.1 hu).1
        have hperm : Hid (((xs ++ [(x1, x2)]) ++ L.filter (fun y => y.1 != x1)).Perm S) := by
          refine List.Perm.trans ?_ hp.out
          rw [List.append_assoc]
          exact List.Perm.append_left _ hpL
        have hpw' : Hid ((xs ++ [(x1, x2)]).Pairwise eLe) := List.pairwise_append.2 ⟨hpw.out, by simp, fun x hx' y hy => by rw [List.mem_singleton] at hy; subst hy; exact hle.out x hx' _ hx.out⟩
        have hle' : Hid (∀ x ∈ xs ++ [(x1, x2)], ∀ u ∈ L.filter (fun y => y.1 != x1), eLe x u) := fun x hx' u hu => by
          rcases List.mem_append.1 hx' with hx' | hx'
          · exact hle.out x hx' u (hmem u hu)
          · rw [List.mem_singleton] at hx'; subst hx'; exact hleast.out _ (hmem u hu)
        have hno' : Hid (∀ x ∈ xs ++ [(x1, x2)], x.2 ≤ now) := fun x hx' => by
          rcases List.mem_append.1 hx' with hx' | hx'
          · exact hno.out x hx'
          · rw [List.mem_singleton] at hx'; subst hx'; exact hdue.out
        have hlen : Hid (xs.length + 1 ≤ S.length) := by
          have := hpL.length_eq
          simp at this
          show _ ≤ _
          omega
        replace t2 := Lib.hid t2
        clear hcn hmem hpL hat
        go_wp2_with (at_builtin; refine wpList_app rfl st_int _ _ rfl (by rfl) (by rfl) hr.out ((s2.alloc _).own.tail.right) (rdCells_block (heap_alloc_new _ _) rfl (by simp [Value.oneCell'])) (by unfold maxLen; omega) (by omega) ?_; intro a6 c6 w6 H6 hr6 hst6)
        have s4 : Step w H w6 (H2 ++ H6) := (Step.callR (R := _ :: H2) (s2.alloc _) hst6).tail
        refine ⟨⟨a6, c6, xs ++ [(x1, x2)], _, H2, H6, by rw [List.length_append]; rfl, by rw [List.length_append, List.map_append]; exact hr6, hperm.out, hpw'.out, hle'.out, hno'.out, t2.out, s4⟩, ?_⟩
        simp only [sLen]
        have := hlen.out
        omega
      · have hd : decide (now < x2) = true := decide_eq_true (by omega)
        have hfin : Hid (TfDuePost b S now H w (.returned (.slice a xs.length c)) w1) := ⟨a, c, xs, L, H', HR, rfl, hr.out, hp.out, hpw.out, hno.out, fun y hy => by have := hleast y hy; unfold eLe at this; simp only at this; omega, ht.out, s1⟩
        clear hnx hleast
        go_wp2_with fail
        go_ret
        exact hfin.out
end Go.Proofs.Ytcocgljaifnmnaa
