/- The row's Push and Pop; heap.Push, Pop, Fix, Remove. -/
import Derived.Test.YtcocgljaifnmnaaTmC
namespace Go.Proofs.Ytcocgljaifnmnaa
open Go.RowKit
attribute [local go_sem ↓] Go.wp_at_zero Go.wp_at_succ

theorem st_row : SlTy Try.prog 47 50 1 8 (.pointer none) := ⟨by kernel_rfl, by kernel_rfl, rfl, by decide⟩
theorem thH_snoc (L : List Th) (t : Th) : thH (L ++ [t]) = thH L ++ [(t.p, t.obj L.length)] := by
  unfold thH; rw [List.zipIdx_append, List.map_append]; simp
theorem assert_thing (v : Value) (w : World) : (Instr.typeAssert (.iface 50 v) 20 50 false).run Try.prog w = .ok v w := by kernel_rfl
def PushPost (b : Nat) (M : Value) (L : List Th) (G : Heaplet) (w : World) (e : Ending) (w' : World) : Prop := e = .returned (.tuple #[]) ∧ ∃ H', TmRep b M L H' ∧ Step w G w' H'
set_option maxHeartbeats 1000000 in
set_option maxRecDepth 100000 in
theorem rpush_any (b : Nat) (M : Value) (L : List Th) (t : Th) (k0 : Nat) (H : Heaplet) (w : World) (h : TmRep b M L H) (hw : Own w (H ++ [(t.p, t.obj k0)])) (hl : L.length ≤ 4999) :
    Calls Try.prog 47 #[pt b, .iface 50 (pt t.p)] w (PushPost b M (L ++ [t]) (H ++ [(t.p, t.obj k0)]) w) := by
  obtain ⟨a, c, HA, rfl, hr⟩ := h
  obtain ⟨c0, c1⟩ := cells2 (Own.h0 hw)
  have fb := fun i => frz_of (i := i) (Own.h0 hw)
  have ht : w.heap[t.p]? = some (t.obj k0) := hw.right.h0
  obtain ⟨t0, t1, t2⟩ := cells3 ht
  have ft := fun i => frz_of (i := i) ht
  have hbt : b ≠ t.p ∧ t.p ≠ b := by
    have := hw.apart b (by simp [dom, tmHead])
    simp [dom] at this
    exact ⟨this, Ne.symm this⟩
  have s0 := Step.refl hw
  have s1 := Step.store (A := tmHead b a L.length c M :: (HA ++ thH L)) (B := []) (iv L.length) (i := 2) s0
  obtain ⟨n, hn⟩ : ∃ n, n = L.length := ⟨_, rfl⟩
  have hsn := Lib.hid (thH_snoc L t)
  have s1' : Step w (tmHead b a L.length c M :: (HA ++ thH L) ++ [(t.p, t.obj k0)]) (w.setCell ⟨t.p, 2, none⟩ (iv L.length)) (tmHead b a L.length c M :: (HA ++ (thH L ++ [(t.p, t.obj L.length)]))) := by
    rw [← List.append_assoc HA]; exact s1
  have b1 : (L.length : Int) ≤ 4999 := by omega
  obtain ⟨hb1, hb2⟩ := hbt
  replace hn := Lib.hid hn
  clear s0 s1
  have has := assert_thing (pt t.p)
  obtain ⟨d0, d1⟩ := cells2 s1'.own.h0
  have fd := fun i => frz_of (i := i) s1'.own.h0
  go_enter Try.func47, Try.ntmps47
  go_wp2_with (at_builtin; refine wpList_app rfl st_row _ _ rfl (by rfl) (by rfl) hr ((s1'.alloc _).own.tail.tail.left) (rdCells_newset rfl (by simp [Value.oneCell'])) (by unfold maxLen; omega) (by omega) ?_; intro a6 c6 w6 H6 hr6 hst6; have sA := (Step.mid (A := [_, _]) (s1'.alloc _) hst6).tail; obtain ⟨y0, y1⟩ := cells2 sA.own.h0; have fy := fun i => frz_of (i := i) sA.own.h0)
  have sB := Step.store0 (.slice a6 (L.length + 1) c6) (i := 0) sA
  have sB := sB.perm (B := tmHead b a L.length c M :: (HA ++ (thH L ++ [(t.p, t.obj k0)]))) (by simp) (List.Perm.refl _)
  go_end0
  refine ⟨rfl, _, ⟨a6, c6, H6, rfl, ?_⟩, ?_⟩
  · rw [List.length_append, List.map_append]; exact hr6
  · rw [List.length_append, hsn.out]; exact sB

def PopPost (b : Nat) (M : Value) (L : List Th) (t : Th) (H : Heaplet) (w : World) (e : Ending) (w' : World) : Prop :=
  e = .returned (.iface 50 (pt t.p)) ∧ ∃ H' k, TmRep b M L H' ∧ Step w H w' (H' ++ [(t.p, t.obj k)])
set_option maxHeartbeats 1000000 in
set_option maxRecDepth 100000 in
theorem rpop_any (b : Nat) (M : Value) (L : List Th) (t : Th) (H : Heaplet) (w : World) (h : TmRep b M (L ++ [t]) H) (hw : Own w H) (hl : L.length ≤ 5000) :
    Calls Try.prog 46 #[pt b] w (PopPost b M L t H w) := by
  obtain ⟨a, c, HA, rfl, hr⟩ := h
  have hlen : (L ++ [t]).length = L.length + 1 := by simp
  have hgt : gt (L ++ [t]) L.length = t := by simp [gt]
  obtain ⟨g, rfl, rl⟩ := row_at hr hw.tail.left (k := L.length) (by rw [hlen]; omega)
  rw [hgt] at rl
  have hsn := Lib.hid (thH_snoc L t)
  rw [hlen] at hr hw ⊢
  have s0 := Step.refl hw
  obtain ⟨c0, c1⟩ := cells2 (Own.h0 hw)
  have fb := fun i => frz_of (i := i) (Own.h0 hw)
  have fg := fun i => frz_sl hr hw.tail.left i
  obtain ⟨HA1, hr1, s1⟩ := step_put1 s0 hr L.length (.pointer none)
  obtain ⟨d0, d1⟩ := cells2 s1.own.h0
  have fd := fun i => frz_of (i := i) s1.own.h0
  have b1 : (L.length : Int) ≤ 5000 := by omega
  have b0 : (0 : Int) ≤ (L.length : Int) := by omega
  have hcap : L.length + 1 ≤ c := by
    obtain ⟨_, ⟨e, _⟩ | ⟨g', cur, e, _, h2, _⟩⟩ := hr
    · cases e
    · exact h2
  have hbg : b ≠ g ∧ g ≠ b := by
    have := hw.nodup
    obtain ⟨_, ⟨e, _⟩ | ⟨g', cur, e, rfl, _⟩⟩ := hr
    · cases e
    · cases e
      simp [dom, tmHead] at this
      exact ⟨this.1.1, Ne.symm this.1.1⟩
  obtain ⟨hbg1, hbg2⟩ := hbg
  have sF := Step.store0 (.slice (some ⟨g, 0, none⟩) L.length c) (i := 0) s1
  have hr2 := SlRep.upto hr1 (i := L.length) (by omega)
  have hr3 : SlRep 50 1 (some ⟨g, 0, none⟩) L.length c (L.map fun t => pt t.p) HA1 := by
    have e : (((L ++ [t]).map fun t => pt t.p).set L.length (.pointer none)).take (L.length * 1) = L.map fun t => pt t.p := by
      rw [Nat.mul_one, List.take_set_of_le (Nat.le_refl _), List.map_append]
      have : L.length = (L.map fun t => pt t.p).length := by simp
      rw [this, List.take_left]
    rw [e] at hr2
    exact hr2
  rw [hsn.out] at sF
  replace hlen := Lib.hid hlen
  replace hgt := Lib.hid hgt
  clear s0 s1 hr hr1 hr2 hw
  go_enter Try.func46, Try.ntmps46
  go_wp2_with fail
  go_ret
  refine ⟨rfl, tmHead b (some ⟨g, 0, none⟩) L.length c M :: (HA1 ++ thH L), L.length, ⟨_, c, HA1, rfl, hr3⟩, ?_⟩
  rw [hsn.out, List.cons_append, List.append_assoc]
  exact sF

/-! ## container/heap -/
theorem gt_append {L : List Th} {t : Th} {k : Nat} (h : k < L.length) : gt (L ++ [t]) k = gt L k := by simp [gt, List.getD_eq_getElem?_getD, List.getElem?_append_left h]
def HeapPushPost (b : Nat) (M : Value) (L : List Th) (t : Th) (G : Heaplet) (w : World) (e : Ending) (w' : World) : Prop :=
  e = .returned (.tuple #[]) ∧ ∃ L' H', L'.Perm (L ++ [t]) ∧ HOk L' L'.length ∧ TmRep b M L' H' ∧ Step w G w' H'
theorem hpush_any (b : Nat) (M : Value) (L : List Th) (t : Th) (k0 : Nat) (H : Heaplet) (w : World) (h : TmRep b M L H) (hw : Own w (H ++ [(t.p, t.obj k0)])) (hl : L.length ≤ 4999) (ho : HOk L L.length) :
    Calls Try.prog 21 #[rowI b, .iface 50 (pt t.p)] w (HeapPushPost b M L t (H ++ [(t.p, t.obj k0)]) w) := by
  have hpu := Lib.hid (rpush_any b M L t k0 H w h hw hl)
  have mp := m_push w b
  have hlen : (L ++ [t]).length = L.length + 1 := by simp
  have hup : HUp (L ++ [t]) (L ++ [t]).length L.length := by
    refine ⟨fun k h0 hk hne => ?_, fun k h0 hk hkp h00 => ?_⟩
    · rw [hlen] at hk
      rw [gt_append (by omega), gt_append (by omega)]
      exact ho k h0 (by omega)
    · rw [hlen] at hk; omega
  have hua := Lib.hid (fun H' W (hr : TmRep b M (L ++ [t]) H') hW => up_any b M (L ++ [t]) (L ++ [t]).length L.length H' W hr hW (by rw [hlen]; omega) (Nat.le_refl _) (by rw [hlen]; omega) hup)
  have b1 : (L.length : Int) ≤ 4999 := by omega
  have hll := Lib.hid hlen
  have hrl := Lib.hid (fun a c W => rlen_any a (L ++ [t]).length c W)
  rw [hlen] at hrl
  clear ho hup hlen h hw
  unfold PushPost at hpu
  unfold UpPost at hua
  generalize hG : H ++ [(t.p, t.obj k0)] = G at *
  clear hG
  go_enter Try.func21, Try.ntmps21
  go_wp2_with fail
  refine hpu.out.mono ?_
  rintro e w1 ⟨rfl, H1, hr1, s1⟩
  have hr1' := hr1
  obtain ⟨a, c, HA, rfl, hr⟩ := hr1
  have c0 := (cells2 s1.own.h0).1
  have ml := m_len c0
  go_wp2_with fail
  refine (rlen_any _ _ _ _).mono ?_
  rintro e w2 ⟨rfl, rfl⟩
  go_wp2_with fail
  refine (hua.out _ _ hr1' s1.own).mono ?_
  rintro e w3 ⟨rfl, L', H', hp, hok, -, hr', s2⟩
  go_wp2_with fail
  go_end0
  exact ⟨rfl, L', H', hp, by rw [hp.length_eq]; exact hok, hr', s1.trans s2⟩
def FixPost (b : Nat) (M : Value) (L : List Th) (H : Heaplet) (w : World) (e : Ending) (w' : World) : Prop :=
  e = .returned (.tuple #[]) ∧ ∃ L' H', L'.Perm L ∧ HOk L' L'.length ∧ TmRep b M L' H' ∧ Step w H w' H'
theorem hfix_any (b : Nat) (M : Value) (L : List Th) (i : Nat) (H : Heaplet) (w : World) (h : TmRep b M L H) (hw : Own w H) (hl : L.length ≤ 5000) (hi : i < L.length) (hf : HFix L L.length i) :
    Calls Try.prog 20 #[rowI b, iv i] w (FixPost b M L H w) := by
  have hd := Lib.hid (down_any b M L L.length i H w h hw hl (Nat.le_refl _) hi hf)
  have hua := Lib.hid (fun L' H' W (hp : L'.Perm L) (hr : TmRep b M L' H') hW (hup : HUp L' L.length i) => up_any b M L' L.length i H' W hr hW (by rw [hp.length_eq]; exact hl) (by rw [hp.length_eq]; exact Nat.le_refl _) hi hup)
  have h' := h
  obtain ⟨a, c, HA, rfl, hr⟩ := h'
  have c0 := (cells2 hw.h0).1
  have ml := m_len c0
  unfold DownPost at hd
  unfold UpPost at hua
  go_enter Try.func20, Try.ntmps20
  go_wp2_with fail
  refine (rlen_any _ _ _ _).mono ?_
  rintro e w2 ⟨rfl, rfl⟩
  go_wp2_with fail
  refine hd.out.mono ?_
  rintro e w1 ⟨r, L1, H1, rfl, hp, h1, h2, -, hr1, s1⟩
  replace hp := Lib.hid hp
  cases r
  · have hup := Lib.hid (h2 rfl)
    clear h1 h2
    go_wp2_with fail
    refine (hua.out L1 H1 _ hp.out hr1 s1.own hup.out).mono ?_
    rintro e w3 ⟨rfl, L', H', hp2, hok, -, hr', s2⟩
    go_wp2_with fail
    go_end0
    have hp3 := hp2.trans hp.out
    exact ⟨rfl, L', H', hp3, by rw [hp3.length_eq]; exact hok, hr', s1.trans s2⟩
  · have hok := Lib.hid (h1 rfl)
    clear h1 h2
    go_wp2_with fail
    go_end0
    exact ⟨rfl, L1, H1, hp.out, by rw [hp.out.length_eq]; exact hok.out, hr1, s1⟩

theorem down_none (b i0 : Nat) (w : World) (hi : i0 ≤ 5000) : Calls Try.prog 25 #[rowI b, iv i0, iv 0] w fun e w' => e = .returned (.bool false) ∧ w = w' := by
  have b1 : (i0 : Int) ≤ 5000 := by omega
  have b0 : (0 : Int) ≤ (i0 : Int) := by omega
  go_enter Try.func25, Try.ntmps25
  go_wp2_with fail
  go_loop [7] (fun v => v = .int .i64 (i0 : Nat)) (fun _ => 0)
  case atStart => rfl
  case round =>
    subst hrel
    go_wp2_with fail
    go_ret
    exact ⟨rfl, rfl⟩
theorem drop_last {L : List Th} {n : Nat} (h : L.length = n + 1) : L = L.dropLast ++ [gt L n] := by
  have hne : L ≠ [] := by intro e; subst e; simp at h
  conv => lhs; rw [← List.dropLast_concat_getLast hne]
  congr 1
  rw [List.getLast_eq_getElem, gt_eq (by omega)]
  simp [h]
theorem gt_dropLast {L : List Th} {n k : Nat} (h : L.length = n + 1) (hk : k < n) : gt L.dropLast k = gt L k := by
  conv => rhs; rw [drop_last h]
  rw [gt_append (by simp; omega)]
theorem ok_dropLast {L : List Th} {n : Nat} (h : L.length = n + 1) (ho : HOk L n) : HOk L.dropLast L.dropLast.length := by
  intro k h0 hk
  have hl : L.dropLast.length = n := by simp [h]
  rw [hl] at hk
  rw [gt_dropLast h (by omega), gt_dropLast h hk]
  exact ho k h0 hk
/-- What Pop and Remove leave: t is out. -/
def OutedPost (b : Nat) (M : Value) (L : List Th) (t : Th) (H : Heaplet) (w : World) (e : Ending) (w' : World) : Prop :=
  e = .returned (.iface 50 (pt t.p)) ∧ ∃ L' H' k, (L' ++ [t]).Perm L ∧ HOk L' L'.length ∧ TmRep b M L' H' ∧ Step w H w' (H' ++ [(t.p, t.obj k)])
theorem outed_of {b : Nat} {M : Value} {L L2 : List Th} {t : Th} {n : Nat} {H H2 : Heaplet} {w W w' : World} {e : Ending} (hl2 : L2.length = n + 1) (hp : L2.Perm L) (ht : gt L2 n = t) (ho : HOk L2 n) (s : Step w H W H2) (hq : PopPost b M L2.dropLast t H2 W e w') : OutedPost b M L t H w e w' := by
  obtain ⟨rfl, H', k, hr, s2⟩ := hq
  refine ⟨rfl, L2.dropLast, H', k, ?_, ok_dropLast hl2 ho, hr, s.trans s2⟩
  rw [← ht, ← drop_last hl2]; exact hp
set_option maxHeartbeats 1000000 in
theorem hpop_any (b : Nat) (M : Value) (L : List Th) (n : Nat) (H : Heaplet) (w : World) (h : TmRep b M L H) (hw : Own w H) (hl : L.length ≤ 5000) (hn : L.length = n + 1) (ho : HOk L L.length) :
    Calls Try.prog 22 #[rowI b] w (OutedPost b M L (gt L 0) H w) := by
  obtain ⟨a, c, HA, rfl, hr⟩ := h
  have c0 := (cells2 hw.h0).1
  have ml := m_len c0
  have ms := m_swap c0
  have hsw := Lib.hid (swap_any b M a c L HA 0 n w hr hw (by omega) (by omega) hl)
  have hsl := Lib.hid (swp_len L 0 n)
  have hsp := Lib.hid (swp_perm (L := L) (i := 0) (j := n) (by omega) (by omega))
  have hsn : Hid (gt (swp L 0 n) n = gt L 0) := by show _ = _; rw [swp_get (by omega) (by omega), if_pos rfl]
  have hfx : Hid (0 < n → HFix (swp L 0 n) n 0) := fun h0 => by
    refine ⟨fun k k0 hk hk0 hp => ?_, fun k _ _ _ h => absurd h (by omega)⟩
    rw [swp_get (by omega) (by omega), swp_get (by omega) (by omega), if_neg (by omega), if_neg (by omega), if_neg (by omega), if_neg (by omega)]
    exact ho k k0 (by omega)
  unfold SwapPost at hsw
  have b1 : (n : Int) ≤ 5000 := by omega
  have b0 : (0 : Int) ≤ (n : Int) := by omega
  generalize swp L 0 n = L1 at *
  have hl1 : L1.length = n + 1 := by rw [hsl.out, hn]
  have hlL : Hid (((L.length : Nat) : Int) = (n : Int) + 1) := by show _ = _; omega
  have hrl := Lib.hid (fun W => rlen_any a L.length c W)
  unfold iv at hrl
  rw [hlL.out] at hrl
  have hlt : Hid (L1.length ≤ 5000) := by show _ ≤ _; omega
  replace hn := Lib.hid hn
  replace hl1 := Lib.hid hl1
  clear ho
  go_enter Try.func22, Try.ntmps22
  go_wp2_with fail
  refine (hrl.out _).mono ?_
  rintro e w2 ⟨rfl, rfl⟩
  go_wp2_with fail
  refine hsw.out.mono ?_
  rintro e w1 ⟨rfl, H1, hr1, s1⟩
  by_cases h0 : 0 < n
  · have hd := Lib.hid (down_any b M L1 n 0 H1 w1 hr1 s1.own hlt.out (by rw [hl1.out]; omega) h0 (hfx.out h0))
    unfold DownPost at hd
    go_wp2_with fail
    refine hd.out.mono ?_
    rintro e w3 ⟨r, L2, H2, rfl, hp, g1, g2, hb, hr2, s2⟩
    have hok : Hid (HOk L2 n) := by
      cases r
      · exact up_done (g2 rfl) (.inl rfl)
      · exact g1 rfl
    have hl2 : Hid (L2.length = n + 1) := by show _ = _; rw [hp.length_eq, hl1.out]
    have ht2 : Hid (gt L2 n = gt L 0) := by show _ = _; rw [hb n (Nat.le_refl _), hsn.out]
    have hp2 := Lib.hid (hp.trans hsp.out)
    clear g1 g2 hp hb
    have mp := m_pop w3 b
    have hpp := Lib.hid (rpop_any b M L2.dropLast (gt L 0) H2 w3 (by have := hr2; rw [drop_last hl2.out, ht2.out] at this; exact this) s2.own (by simp; rw [hl2.out]; omega))
    go_wp2_with fail
    refine hpp.out.mono ?_
    intro e w4 hq
    have hfin := outed_of hl2.out hp2.out ht2.out hok.out (s1.trans s2) hq
    have he := hfin.1
    subst he
    go_wp2_with fail
    go_ret
    exact hfin
  · have h0' : n = 0 := by omega
    subst h0'
    have mp := m_pop w1 b
    have hpp := Lib.hid (rpop_any b M L1.dropLast (gt L 0) H1 w1 (by have := hr1; rw [drop_last hl1.out, hsn.out] at this; exact this) s1.own (by simp; rw [hl1.out]; omega))
    go_wp2_with fail
    refine (down_none b 0 _ (by omega)).mono ?_
    rintro e w3 ⟨rfl, rfl⟩
    go_wp2_with fail
    refine hpp.out.mono ?_
    intro e w4 hq
    have hfin := outed_of hl1.out hsp.out hsn.out (fun k a b => absurd b (by omega)) s1 hq
    have he := hfin.1
    subst he
    go_wp2_with fail
    go_ret
    exact hfin

theorem fix_of_swap {L : List Th} {i n : Nat} (hn : L.length = n + 1) (hi : i < n) (ho : HOk L L.length) : HFix (swp L i n) n i := by
  refine ⟨fun k k0 hk hki hp => ?_, fun k k0 hk hki hi0 => ?_⟩
  · rw [swp_get (by omega) (by omega), swp_get (by omega) (by omega), if_neg (by omega), if_neg hp, if_neg (by omega), if_neg hki]
    exact ho k k0 (by omega)
  · rw [swp_get (by omega) (by omega), swp_get (by omega) (by omega), if_neg (by omega), if_neg (by omega), if_neg (by omega), if_neg (by omega)]
    have h1 := ho i hi0 (by omega)
    have h2 := ho k k0 (by omega)
    rw [hki] at h2
    exact Th.le_trans h1 h2
set_option maxHeartbeats 2000000 in
theorem hremove_any (b : Nat) (M : Value) (L : List Th) (i n : Nat) (H : Heaplet) (w : World) (h : TmRep b M L H) (hw : Own w H) (hl : L.length ≤ 5000) (hn : L.length = n + 1) (hi : i ≤ n) (ho : HOk L L.length) :
    Calls Try.prog 24 #[rowI b, iv i] w (OutedPost b M L (gt L i) H w) := by
  have h' := h
  obtain ⟨a, c, HA, rfl, hr⟩ := h
  have c0 := (cells2 hw.h0).1
  have ml := m_len c0
  have hn5 : n + 1 ≤ 5000 := by omega
  have b1 : (n : Int) ≤ 5000 := by omega
  have b0 : (0 : Int) ≤ (n : Int) := by omega
  have b2 : (i : Int) ≤ (n : Int) := by omega
  have hlL : Hid (((L.length : Nat) : Int) = (n : Int) + 1) := by show _ = _; omega
  have hrl := Lib.hid (fun W => rlen_any a L.length c W)
  unfold iv at hrl
  rw [hlL.out] at hrl
  by_cases hin : i < n
  · have ms := m_swap c0
    have hsw := Lib.hid (swap_any b M a c L HA i n w hr hw (by omega) (by omega) hl)
    have hsl := Lib.hid (swp_len L i n)
    have hsp := Lib.hid (swp_perm (L := L) (i := i) (j := n) (by omega) (by omega))
    have hsn : Hid (gt (swp L i n) n = gt L i) := by show _ = _; rw [swp_get (by omega) (by omega), if_pos rfl]
    have hfx := Lib.hid (fix_of_swap hn hin ho)
    unfold SwapPost at hsw
    generalize swp L i n = L1 at *
    have hl1 : L1.length = n + 1 := by rw [hsl.out, hn]
    have hlt : Hid (L1.length ≤ 5000) := by show _ ≤ _; omega
    have b3 : ((n : Int) != (i : Int)) = true := by rw [bne_iff_ne]; omega
    replace hn := Lib.hid hn
    replace hl1 := Lib.hid hl1
    clear ho
    go_enter Try.func24, Try.ntmps24
    go_wp2_with fail
    refine (hrl.out _).mono ?_
    rintro e w2 ⟨rfl, rfl⟩
    go_wp2_with fail
    refine hsw.out.mono ?_
    rintro e w1 ⟨rfl, H1, hr1, s1⟩
    have hd := Lib.hid (down_any b M L1 n i H1 w1 hr1 s1.own hlt.out (by rw [hl1.out]; omega) hin hfx.out)
    unfold DownPost at hd
    go_wp2_with fail
    refine hd.out.mono ?_
    rintro e w3 ⟨r, L2, H2, rfl, hp, g1, g2, hb, hr2, s2⟩
    have hl2 : Hid (L2.length = n + 1) := by show _ = _; rw [hp.length_eq, hl1.out]
    have ht2 : Hid (gt L2 n = gt L i) := by show _ = _; rw [hb n (Nat.le_refl _), hsn.out]
    have hp2 := Lib.hid (hp.trans hsp.out)
    cases r
    · have hup := Lib.hid (up_any b M L2 n i H2 w3 hr2 s2.own (by rw [hl2.out]; omega) (by rw [hl2.out]; omega) hin (g2 rfl))
      unfold UpPost at hup
      clear g1 g2 hp hb
      go_wp2_with fail
      refine hup.out.mono ?_
      rintro e w4 ⟨rfl, L3, H3, hp3, hok, hb3, hr3, s3⟩
      have hl3 : Hid (L3.length = n + 1) := by show _ = _; rw [hp3.length_eq, hl2.out]
      have ht3 : Hid (gt L3 n = gt L i) := by show _ = _; rw [hb3 n (Nat.le_refl _), ht2.out]
      have hp4 := Lib.hid (hp3.trans hp2.out)
      replace hok := Lib.hid hok
      clear hp3 hb3
      have mp := m_pop w4 b
      have hpp := Lib.hid (rpop_any b M L3.dropLast (gt L i) H3 w4 (by have := hr3; rw [drop_last hl3.out, ht3.out] at this; exact this) s3.own (by simp; rw [hl3.out]; omega))
      go_wp2_with fail
      refine hpp.out.mono ?_
      intro e w5 hq
      have hfin := outed_of hl3.out hp4.out ht3.out hok.out ((s1.trans s2).trans s3) hq
      have he := hfin.1
      subst he
      go_wp2_with fail
      go_ret
      exact hfin
    · have hok := Lib.hid (g1 rfl)
      clear g1 g2 hp hb
      have mp := m_pop w3 b
      have hpp := Lib.hid (rpop_any b M L2.dropLast (gt L i) H2 w3 (by have := hr2; rw [drop_last hl2.out, ht2.out] at this; exact this) s2.own (by simp; rw [hl2.out]; omega))
      go_wp2_with fail
      refine hpp.out.mono ?_
      intro e w4 hq
      have hfin := outed_of hl2.out hp2.out ht2.out hok.out (s1.trans s2) hq
      have he := hfin.1
      subst he
      go_wp2_with fail
      go_ret
      exact hfin
  · have hie : i = n := by omega
    subst hie
    have hok : Hid (HOk L i) := fun k a b => ho k a (by omega)
    have mp := m_pop w b
    have hpp := Lib.hid (rpop_any b M L.dropLast (gt L i) _ w (by rw [← drop_last hn]; exact h') hw (by simp; omega))
    have b3 : ((i : Int) != (i : Int)) = false := by simp
    replace hn := Lib.hid hn
    clear ho
    go_enter Try.func24, Try.ntmps24
    go_wp2_with fail
    refine (hrl.out _).mono ?_
    rintro e w2 ⟨rfl, rfl⟩
    go_wp2_with fail
    refine hpp.out.mono ?_
    intro e w4 hq
    have hfin := outed_of hn.out (List.Perm.refl _) rfl hok.out (Step.refl hw) hq
    have he := hfin.1
    subst he
    go_wp2_with fail
    go_ret
    exact hfin
end Go.Proofs.Ytcocgljaifnmnaa
