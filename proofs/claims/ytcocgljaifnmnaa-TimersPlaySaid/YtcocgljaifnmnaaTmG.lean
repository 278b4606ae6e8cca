/- Timers: Cancel as a whole, Due. -/
import Derived.Test.YtcocgljaifnmnaaTmF
namespace Go.Proofs.Ytcocgljaifnmnaa
open Go.RowKit Go.MapKept
attribute [local go_sem ↓] Go.wp_at_zero Go.wp_at_succ

theorem st_int : SlTy Try.prog 28 3 1 8 (.int .i64 0) := ⟨by kernel_rfl, by kernel_rfl, rfl, by decide⟩
theorem cancel_any (b : Nat) (S : List (Int × Int)) (id : Int) (H : Heaplet) (w : World) (h : TmS b S H) (hw : Own w H) (hl : S.length ≤ 4096) :
    Calls Try.prog 14 #[pt b, ii id] w (CancelPost b S id H w) := by
  obtain ⟨L, h, hp⟩ := h
  have hll : L.length = S.length := by rw [← hp.length_eq]; simp
  cases hh : hasS (L.map Th.e) id
  · exact (cancel_no b L id H w h hw hh).mono fun e w' hq => .inl ⟨by rw [← hasS_perm hp]; exact hh, hq⟩
  · obtain ⟨i, hi, rfl⟩ := hasS_of hh
    refine (cancel_yes b L i H w h hw (by omega) hi).mono fun e w' hq => ?_
    obtain ⟨he, L', H', g1, g2, g3⟩ := hq
    exact .inr ⟨(gt L i).at', hp.mem_iff.1 (List.mem_map.2 ⟨_, gt_perm_mem hi, rfl⟩), he, H', ⟨L', g1, filter_out h.ids g2 hp⟩, g3⟩
def sLen : Value → Nat | .slice _ n _ => n | _ => 0
def DuePost (b : Nat) (S : List (Int × Int)) (now : Int) (H : Heaplet) (w : World) (e : Ending) (w' : World) : Prop :=
  ∃ a c xs S' H' HR, e = .returned (.slice a xs.length c) ∧ SlRep 3 1 a xs.length c (xs.map fun (x : Int × Int) => ii x.1) HR ∧ (xs ++ S').Perm S ∧ xs.Pairwise eLe ∧ (∀ x ∈ xs, x.2 ≤ now) ∧ (∀ y ∈ S', now < y.2) ∧ TmS b S' H' ∧ Step w H w' (H' ++ HR)
/-- What Next tells of the things L. -/
def nextV (L : List Th) : Value × Value × Value := if L.length = 0 then (ii 0, ii 0, .bool false) else (ii (gt L 0).id, ii (gt L 0).at', .bool true)
def DueRel (b : Nat) (S : List (Int × Int)) (now : Int) (H : Heaplet) (w : World) (v5 v6 v7 v8 : Value) (wr : World) : Prop :=
  ∃ a c xs L H' HR, v5 = .slice a xs.length c ∧ (v6, v7, v8) = nextV L ∧ SlRep 3 1 a xs.length c (xs.map fun (x : Int × Int) => ii x.1) HR ∧ (xs ++ L.map Th.e).Perm S ∧ xs.Pairwise eLe ∧ (∀ x ∈ xs, ∀ t ∈ L, eLe x t.e) ∧ (∀ x ∈ xs, x.2 ≤ now) ∧ TmIs b L H' ∧ Step w H wr (H' ++ HR)
theorem next_is (b : Nat) (L : List Th) (H : Heaplet) (w : World) (h : TmIs b L H) (hw : Own w H) (hl : L.length ≤ 5000) :
    Calls Try.prog 18 #[pt b] w fun e w' => Step w [] w' [] ∧ e = .returned (.tuple #[(nextV L).1, (nextV L).2.1, (nextV L).2.2]) := by
  obtain ⟨m, o, D, HT, rfl, hr, hm, hp, hok⟩ := h
  refine (nextL_any b _ L HT w hr hw.left hl).mono fun e w' ⟨hs, he⟩ => ⟨hs, ?_⟩
  rw [he]; unfold nextV
  split <;> rfl
set_option maxHeartbeats 4000000 in
set_option maxRecDepth 100000 in
theorem due_any (b : Nat) (S : List (Int × Int)) (now : Int) (H : Heaplet) (w : World) (h : TmS b S H) (hw : Own w H) (hl : S.length ≤ 4096) :
    Calls Try.prog 12 #[pt b, ii now] w (DuePost b S now H w) := by
  obtain ⟨L, h, hp⟩ := h
  have hll : L.length = S.length := by rw [← hp.length_eq]; simp
  have hn0 := Lib.hid (next_is b L H w h hw (by omega))
  have s0 := Lib.hid (Step.refl hw)
  replace h := Lib.hid h
  replace hp := Lib.hid hp
  obtain ⟨N, hN⟩ : ∃ N, N = nextV L := ⟨_, rfl⟩
  rw [← hN] at hn0
  obtain ⟨n6, n7, n8⟩ := N
  simp only at hn0
  replace hN := Lib.hid hN
  go_enter Try.func12, Try.ntmps12
  go_wp2_with fail
  refine hn0.out.mono ?_
  rintro e w1 ⟨hs1, rfl⟩
  have s1 := Lib.hid (s0.out.call0 hs1)
  go_wp2_with fail
  go_loopw [5, 6, 7, 8] (fun v5 v6 v7 v8 wr => DueRel b S now H w v5 v6 v7 v8 wr) (fun v5 _ _ _ _ => S.length - sLen v5)
  case atStart => exact ⟨none, 0, [], L, H, [], rfl, hN.out, SlRep.nil _ _, hp.out, List.Pairwise.nil, by simp, by simp, h.out, s1.out⟩
  case round =>
    clear h hp hn0 s0 s1 hN hs1 hll
    obtain ⟨a, c, xs, L, H', HR, rfl, hv, hr, hp, hpw, hle, hno, h, hs⟩ := hrel
    have hpl := hp.length_eq
    rw [List.length_append, List.length_map] at hpl
    have hx1 : xs.length ≤ 4096 := by omega
    replace hp := Lib.hid hp
    replace hr := Lib.hid hr
    by_cases h0 : L.length = 0
    · have hL : L = [] := List.eq_nil_of_length_eq_zero h0
      subst hL
      unfold nextV at hv
      simp only [List.length_nil, if_true, Prod.mk.injEq] at hv
      obtain ⟨rfl, rfl, rfl⟩ := hv
      have hfin : Hid (DuePost b S now H w (.returned (.slice a xs.length c)) wr) := ⟨a, c, xs, [], H', HR, rfl, hr.out, by have := hp.out; simpa using this, hpw, hno, by simp, ⟨[], h, List.Perm.refl _⟩, hs⟩
      clear hle hno hpw
      go_wp2_with fail
      go_ret
      exact hfin.out
    · unfold nextV at hv
      rw [if_neg h0] at hv
      simp only [Prod.mk.injEq] at hv
      obtain ⟨rfl, rfl, rfl⟩ := hv
      have hids := h.ids
      obtain ⟨m, o, D, HT, rfl, hrt, hm, hpd, hok⟩ := h
      obtain ⟨hmemL, hleast⟩ := head_least hok (by omega)
      obtain ⟨n, hn⟩ : ∃ n, L.length = n + 1 := ⟨L.length - 1, by omega⟩
      have hpp := Lib.hid (fun W hW => hpop_any b (.map (some m)) L n HT W hrt hW (by omega) hn hok)
      unfold OutedPost at hpp
      obtain ⟨t, ht⟩ : ∃ t, t = gt L 0 := ⟨_, rfl⟩
      rw [← ht] at hpp hmemL hleast ⊢
      replace ht := Lib.hid ht
      by_cases hdue : t.at' ≤ now
      · have hd : decide (t.at' ≤ now) = true := decide_eq_true hdue
        have hcall : Step w H wr (HT ++ ([(m, o)] ++ HR)) := by rw [← List.append_assoc]; exact hs
        have hnl : L.length = n + 1 := hn
        replace hn := Lib.hid hn
        clear hs
        go_wp2_with fail
        refine (hpp.out _ hcall.own.left).mono ?_
        rintro e w2 ⟨rfl, L', HT', k, p1, p2, p3, p4⟩
        have s2 := hcall.call p4
        obtain ⟨A, B, hD⟩ := kv_mem hpd p1
        have hm2 := hm
        rw [hD] at hm2
        have hob2 : w2.heap[m]? = some o := s2.own.right.h0
        obtain ⟨o', hrun, hm3⟩ := run_mdelete (P := Try.prog) Try.underlying45 Try.underlying3 hm2 (by exact rfl) hob2 0
        have hti := TmIs.outed hD hpd p1 p2 p3 hm3
        obtain ⟨a2, c2', HA2, hH2, hsl2⟩ := p3
        have x1 : w2.cell? ⟨b, 1, none⟩ = some (.map (some m)) := by
          have := s2.own.left.left
          rw [hH2] at this
          exact (cells2 this.h0).2
        have s3 := Step.putObj (A := HT' ++ [(t.p, t.obj k)]) (B := HR) o' s2
        have s3 : Step w H (World.putObj w2 m o') ((HT' ++ [(m, o')]) ++ HR) := by
          have q := s3.perm (B' := ((HT' ++ [(m, o')]) ++ HR) ++ [(t.p, t.obj k)]) (List.Perm.refl _) (by
            rw [List.append_assoc, List.append_assoc, List.append_assoc]
            refine List.Perm.append_left _ ?_
            exact (List.perm_append_comm (l₁ := [(t.p, t.obj k)]) (l₂ := (m, o') :: HR)).trans (by simp))
          exact q.forget
        -- what is then
        have hids2 : ((L' ++ [t]).map Th.id).Nodup := ((p1.map Th.id).nodup_iff).2 hids
        have hLlen : L'.length = n := by have := p1.length_eq; simp at this; omega
        have hperm : ((xs ++ [t.e]) ++ L'.map Th.e).Perm S := by
          refine List.Perm.trans ?_ hp.out
          rw [List.append_assoc]
          refine List.Perm.append_left _ ?_
          refine List.Perm.trans ?_ (p1.map Th.e)
          rw [List.map_append]
          exact List.perm_append_comm (l₁ := [t.e]) (l₂ := L'.map Th.e)
        have hmem' : ∀ u ∈ L', u ∈ L := fun u hu => p1.mem_iff.1 (List.mem_append_left _ hu)
        have htl : t ∈ L := p1.mem_iff.1 (by simp)
        have hpw' : (xs ++ [t.e]).Pairwise eLe := List.pairwise_append.2 ⟨hpw, by simp, fun x hx y hy => by rw [List.mem_singleton] at hy; subst hy; exact hle x hx t htl⟩
        have hle' : ∀ x ∈ xs ++ [t.e], ∀ u ∈ L', eLe x u.e := fun x hx u hu => by
          rcases List.mem_append.1 hx with hx | hx
          · exact hle x hx u (hmem' u hu)
          · rw [List.mem_singleton] at hx; subst hx; exact hleast _ (List.mem_map.2 ⟨u, hmem' u hu, rfl⟩)
        have hno' : ∀ x ∈ xs ++ [t.e], x.2 ≤ now := fun x hx => by
          rcases List.mem_append.1 hx with hx | hx
          · exact hno x hx
          · rw [List.mem_singleton] at hx; subst hx; exact hdue
        have hnx := Lib.hid (fun W hW => next_is b L' (HT' ++ [(m, o')]) W hti hW (by omega))
        obtain ⟨N, hN⟩ : ∃ N, N = nextV L' := ⟨_, rfl⟩
        rw [← hN] at hnx
        obtain ⟨n6, n7, n8⟩ := N
        simp only at hnx
        replace hN := Lib.hid hN
        replace hperm := Lib.hid hperm
        replace hpw' := Lib.hid hpw'
        replace hle' := Lib.hid hle'
        replace hno' := Lib.hid hno'
        replace hti := Lib.hid hti
        replace hLlen := Lib.hid hLlen
        clear hpw hle hno hleast hmemL hids2 hmem' htl p1 p2 hm2 hm3 hob2 hD hids hpd hm hcall s2 hrt hpp hok hsl2 hH2 p4
        go_wp2_with (first | (at_delete; refine wpList_mdelete rfl _ _ _ _ rfl (by rfl) (by rfl) hrun ?_) | (at_builtin; refine wpList_app rfl st_int _ _ rfl (by rfl) (by rfl) hr.out ((s3.alloc _).own.tail.right) (rdCells_block (heap_alloc_new _ _) rfl (by simp [Value.oneCell'])) (by unfold maxLen; omega) (by omega) ?_; intro a6 c6 w6 H6 hr6 hst6))
        have s4 : Step w H w6 ((HT' ++ [(m, o')]) ++ H6) := (Step.callR (R := _ :: (HT' ++ [(m, o')])) (s3.alloc _) hst6).tail
        refine (hnx.out _ s4.own.left).mono ?_
        rintro e w7 ⟨hs7, rfl⟩
        have s7 := s4.call0 hs7
        rw [List.append_nil] at s7
        go_wp2_with fail
        refine ⟨⟨a6, c6, xs ++ [t.e], L', HT' ++ [(m, o')], H6, by rw [List.length_append]; rfl, hN.out, by rw [List.length_append, List.map_append]; exact hr6, hperm.out, hpw'.out, hle'.out, hno'.out, hti.out, s7⟩, ?_⟩
        simp only [sLen]
        omega
      · have hd : decide (t.at' ≤ now) = false := decide_eq_false hdue
        have hfin : Hid (DuePost b S now H w (.returned (.slice a xs.length c)) wr) := ⟨a, c, xs, L.map Th.e, _, HR, rfl, hr.out, hp.out, hpw, hno, fun y hy => by have := hleast y hy; unfold eLe Th.e at this; simp only at this; omega, ⟨L, ⟨m, o, D, HT, rfl, hrt, hm, hpd, hok⟩, List.Perm.refl _⟩, hs⟩
        clear hle hno hpw hleast hmemL hok hpd hm hrt
        go_wp2_with fail
        go_ret
        exact hfin.out
end Go.Proofs.Ytcocgljaifnmnaa
