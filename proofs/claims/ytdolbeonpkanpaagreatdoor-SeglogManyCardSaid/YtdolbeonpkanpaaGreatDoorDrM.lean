/- The reference's disk: Crash. -/
import Derived.Test.YtdolbeonpkanpaaGreatDoorMDkH
import Derived.Test.YtdolbeonpkanpaaGreatDoorDrE
set_option linter.unusedVariables false
set_option linter.unusedSimpArgs false
namespace Go.Proofs.YtdolbeonpkanpaaGreatDoor
open Go.RowKit
attribute [local go_sem ↓] Go.wp_at_zero Go.wp_at_succ

/-- i files are crashed. -/
def RcrRel (b : Nat) (k : Dk) (keep : Int) (tear : UInt8) (a : Option Addr) (c n : Nat) (K : Heaplet) (w : World) (v : Value) (wr : World) : Prop :=
  ∃ (i : Nat) (R : Heaplet) (Y : List Re), v = iv i ∧ i ≤ n ∧ Y.length = n ∧ Y.map Re.key = (k.L.take i).map (crF keep tear) ++ k.L.drop i ∧ (∀ y ∈ Y, y.ok) ∧ SlRep 107 3 a n c (Y.flatMap Re.cells) R ∧
    Sp w K wr [[(b, robj k.room a n c (leftI k.left))], R, Y.flatMap Re.H]
/-- The inner loop: j is reached. -/
def RinRel (b i : Nat) (k : Dk) (tear : UInt8) (g c n : Nat) (Y : List Re) (x : Re) (a5 : Option Addr) (c5 st f : Nat) (R : Heaplet) (K : Heaplet) (w : World) (v : Value) (wr : World) : Prop :=
  ∃ (j : Nat) (Hx : Heaplet), v = iv j ∧ f ≤ j ∧ j ≤ st ∧ SlRep 5 1 a5 st c5 ((xr f j tear (x.d.take st)).map u8) Hx ∧
    Sp w K wr [[(b, robj k.room (some ⟨g, 0, none⟩) n c (leftI k.left))], R, Y.flatMap Re.H, Hx]
theorem rcr_at {i n : Nat} {k : Dk} {keep : Int} {tear : UInt8} {Y : List Re} (hY : Y.map Re.key = (k.L.take i).map (crF keep tear) ++ k.L.drop i) (hn : k.L.length = n) (hi : i < n) : ∃ x : Re, Y[i]? = some x ∧ k.L[i]? = some x.key := by
  have hl : ((k.L.take i).map (crF keep tear)).length = i := by rw [List.length_map, List.length_take]; omega
  have h1 : (Y.map Re.key)[i]? = k.L[i]? := by rw [hY, List.getElem?_append_right (by omega), hl, Nat.sub_self, List.getElem?_drop]; rfl
  rw [List.getElem?_map] at h1
  have h2 : k.L[i]? = some k.L[i] := List.getElem?_eq_getElem (by omega)
  rw [h2] at h1
  obtain ⟨x, hx, e⟩ := Option.map_eq_some_iff.1 h1
  exact ⟨x, hx, by rw [h2, e]⟩
theorem rcr_next {i n : Nat} {k : Dk} {keep : Int} {tear : UInt8} {Y : List Re} {x y : Re} (hY : Y.map Re.key = (k.L.take i).map (crF keep tear) ++ k.L.drop i) (hn : k.L.length = n) (hi : i < n) (hx : k.L[i]? = some x.key) (hy : y.key = crF keep tear x.key) :
    (Y.set i y).map Re.key = (k.L.take (i + 1)).map (crF keep tear) ++ k.L.drop (i + 1) := by
  have hl : ((k.L.take i).map (crF keep tear)).length = i := by rw [List.length_map, List.length_take]; omega
  obtain ⟨hlt, e⟩ := List.getElem?_eq_some_iff.1 hx
  rw [List.map_set, hY, List.set_append_right _ _ (by omega), hl, Nat.sub_self, List.drop_eq_getElem_cons hlt, List.set_cons_zero, List.take_succ_eq_append_getElem hlt, List.map_append, e, hy]
  simp
theorem rcr_xor {f st : Nat} {tear : UInt8} {l : List UInt8} (hl : l.length = st) (h : ¬ (0 < st ∧ tear ≠ 0)) : xorFrom f tear l = l := by
  by_cases h0 : st = 0
  · have : l = [] := List.eq_nil_of_length_eq_zero (by omega)
    subst this; simp [xorFrom]
  · have ht : tear = 0 := by
      by_cases e : tear = 0
      · exact e
      · exact absurd ⟨by omega, e⟩ h
    subst ht
    have e : (fun x : UInt8 => x ^^^ 0) = id := by funext x; simp
    unfold xorFrom
    rw [e, List.map_id, List.take_append_drop]
theorem rcr_done {b i c n g st f : Nat} {k : Dk} {keep : Int} {tear : UInt8} {Y : List Re} {x : Re} {R7 Hx K : Heaplet} {a5 : Option Addr} {c5 : Nat} {w W : World} (hx : Y[i]? = some x) (hxk : k.L[i]? = some x.key) (hY : Y.map Re.key = (k.L.take i).map (crF keep tear) ++ k.L.drop i) (hYn : Y.length = n) (hn : k.L.length = n) (hi : i < n) (hYo : ∀ y ∈ Y, y.ok)
    (hst : st = stays x.d.length x.n keep) (hsl : st ≤ x.d.length) (hf : f = max x.n ((st - 1) / 32 * 32)) {l : List UInt8} (hll : l = xorFrom f tear (x.d.take st))
    (hv : SlRep 5 1 a5 st c5 (l.map u8) Hx) (hr : SlRep 107 3 (some ⟨g, 0, none⟩) n c (((Y.set i ⟨x.nm, a5, c5, l, x.n, Hx⟩).set i ⟨x.nm, a5, c5, l, st, Hx⟩).flatMap Re.cells) R7)
    (s : Sp w K W [[(b, robj k.room (some ⟨g, 0, none⟩) n c (leftI k.left))], R7, Y.flatMap Re.H, Hx]) : RcrRel b k keep tear (some ⟨g, 0, none⟩) c n K w (iv (i + 1)) W := by
  have hl : l.length = st := by rw [hll, xor_len, List.length_take]; omega
  rw [List.set_set] at hr
  refine ⟨i + 1, R7, Y.set i ⟨x.nm, a5, c5, l, st, Hx⟩, rfl, hi, by rw [List.length_set]; exact hYn, rcr_next hY hn hi hxk ?_, re_setOk hYo ?_, hr, ?_⟩
  · simp only [Re.key, crF, ← hst, ← hf, hll]
  · unfold Re.ok
    simp only [hl]
    exact hv
  · have s2 := s.perm (Gs := [[(b, robj k.room (some ⟨g, 0, none⟩) n c (leftI k.left))], R7, (Y.set i ⟨x.nm, a5, c5, l, st, Hx⟩).flatMap Re.H, x.H]) (by
      simp only [List.flatten_cons, List.flatten_nil, List.append_nil, List.cons_append, List.nil_append]
      exact List.Perm.cons _ (List.Perm.append_left _ (re_swapH (y := ⟨x.nm, a5, c5, l, st, Hx⟩) hx)))
    exact (s2.forget 3 rfl).perm (by simp)
theorem map_u8_fm (l : List UInt8) : l.flatMap (fun v => [u8 v]) = l.map u8 := by induction l <;> simp_all
theorem Sp.put8 {w W : World} {K R : Heaplet} {Hs : List Heaplet} {E g n c : Nat} {l : List UInt8} (q : Nat) (s : Sp w K W Hs) (hq : Hs[q]? = some R) (h : SlRep E 1 (some ⟨g, 0, none⟩) n c (l.map u8) R) {j : Nat} {x x' : UInt8} (hj : l[j]? = some x) :
    ∃ R', SlRep E 1 (some ⟨g, 0, none⟩) n c ((l.set j x').map u8) R' ∧ Sp w K (W.setCell ⟨g, j, none⟩ (u8 x')) (Hs.set q R') := by
  rw [← map_u8_fm] at h
  obtain ⟨R', h1, h2⟩ := s.putK (f := fun v => [u8 v]) (fun _ => rfl) q hq h hj (j := 0) (x' := x') (v := u8 x') (by decide) rfl
  rw [map_u8_fm] at h1
  refine ⟨R', h1, ?_⟩
  rw [Nat.mul_one, Nat.add_zero] at h2
  exact h2
theorem re_same {Y : List Re} {i st : Nat} {x : Re} (hx : Y[i]? = some x) {nm : Nm} {a : Option Addr} {c m : Nat} {l l' : List UInt8} {H H' : Heaplet} (hl : l.length = st) (hl' : l'.length = st) : (Y.set i ⟨nm, a, c, l, m, H⟩).flatMap Re.cells = (Y.set i ⟨nm, a, c, l', m, H'⟩).flatMap Re.cells := by
  rw [sp_set hx, sp_set hx, List.flatMap_append, List.flatMap_append, List.flatMap_cons, List.flatMap_cons]
  simp only [Re.cells, hl, hl']
set_option maxHeartbeats 4000000 in
set_option maxRecDepth 100000 in
theorem rcrash (b : Nat) (k : Dk) (keep : Int) (tear : UInt8) (K : Heaplet) (w : World) (h : RkRep b k K) (hk : k.Ok) (hw : Own w K) (hkeep : keep ≤ 9223372036854775807) :
    Calls Tryz.prog 19 #[pt b, ii keep, u8 tear] w fun e w' => e = .returned (.tuple #[]) ∧ ∃ H', RkRep b (crN keep tear k) H' ∧ Step w K w' H' := by
  obtain ⟨a, c, R0, X, hr, hok, hkk, hlf, hK⟩ := h
  have hXn : X.length = k.L.length := by rw [← hkk, List.length_map]
  obtain ⟨n, hn⟩ : ∃ n, k.L.length = n := ⟨_, rfl⟩
  have hn4 : n ≤ 4096 := by rw [← hn]; exact hk.many
  rw [hn] at hXn
  rw [hXn] at hr hK
  have hin : Hid (RcrRel b k keep tear a c n K w (.int .i64 0) w) := ⟨0, R0, X, rfl, Nat.zero_le _, hXn, by simpa using hkk, hok, hr, (Sp.start hw).perm (by rw [hK]; simp)⟩
  have hkx : Hid (∀ i (x : Re), k.L[i]? = some x.key → x.n ≤ x.d.length ∧ x.d.length ≤ 1073741824) := fun i x hx => by
    have hm := List.mem_of_getElem? hx
    refine ⟨hk.lasts _ hm, ?_⟩
    obtain ⟨hi, e⟩ := List.getElem?_eq_some_iff.1 hx
    have h1 : usedF (k.L.take (i + 1)) = usedF (k.L.take i) + x.d.length := by
      rw [List.take_succ_eq_append_getElem hi, used_app, e, used_cons]
      simp [Re.key, usedF]
    have h2 := used_take k.L (i + 1)
    have := hk.used
    have := hk.room
    omega
  replace hn := Lib.hid hn
  obtain ⟨kp, hkp⟩ : ∃ kp, kp = (max 0 keep).toNat := ⟨_, rfl⟩
  have hkp0 : (kp : Int) ≤ 9223372036854775807 := by omega
  have hstays : Hid (∀ len m, stays len m keep = m + kp % (len - m + 1)) := fun len m => by rw [hkp]; rfl
  clear hr hok hkk hK hXn
  go_enter Tryz.func19, Tryz.ntmps19
  go_upto_region 0 with fail
  go_cut [1] (fun v wc => v = iv kp ∧ wc = w)
  case first =>
    by_cases hk0 : keep ≤ 0
    · have e : max 0 keep = 0 := by omega
      have e2 : kp = 0 := by omega
      subst e2
      replace hkp := Lib.hid hkp
      go_wp2_with fail
      go_meet
      exact ⟨rfl, rfl⟩
    · have e : max 0 keep = keep := by omega
      have e2 : Hid ((kp : Int) = keep) := by show _ = _; omega
      replace hkp := Lib.hid hkp
      have e3 : 0 < keep := by omega
      clear hk0
      go_wp2_with fail
      go_meet
      exact ⟨congrArg (Value.int .i64) e2.out.symm, rfl⟩
  case rest =>
    obtain ⟨rfl, rfl⟩ := hcut
    replace hkp := Lib.hid hkp
    go_wp2_with fail
    go_loopw [6, 7, 8, 9, 10] (fun v _ _ _ _ wr => RcrRel b k keep tear a c n K wc v wr) (fun v _ _ _ _ _ => n - (intOf v).toNat)
    case atStart => exact hin.out
    case round =>
      clear hin
      obtain ⟨i, R, Y, rfl, hi, hYn, hY, hYo, hr, s⟩ := hrel
      have ⟨c0, c1, c2⟩ := cells3 (s.one 0 rfl)
      have i0 : (0 : Int) ≤ (i : Int) := by omega
      by_cases hlt : i < n
      · obtain ⟨x, hx, hxk⟩ := rcr_at hY hn.out hlt
        obtain ⟨hxn, hxl⟩ := hkx.out i x hxk
        obtain ⟨g, rfl, k0, k1, r0, r1, r2, fz⟩ := re_at (by rw [hYn]; exact hr) (s.own 1 rfl) hx
        have glt := World.block_lt_of_cell? wr _ r0
        have i1 : (i : Int) < (n : Int) := by omega
        have i2 : (n : Int) ≤ (c : Int) := by rw [hYn] at k0; omega
        obtain ⟨m, hm⟩ : ∃ m, m = x.d.length - x.n := ⟨_, rfl⟩
        obtain ⟨m1, hm1⟩ : ∃ m1, m1 = m + 1 := ⟨_, rfl⟩
        obtain ⟨t, ht⟩ : ∃ t, t = kp % m1 := ⟨_, rfl⟩
        obtain ⟨st, hst⟩ : ∃ st, st = x.n + t := ⟨_, rfl⟩
        have htl : t < m1 := by rw [ht]; exact Nat.mod_lt _ (by omega)
        have hsl : st ≤ x.d.length := by omega
        have hst2 : Hid (st = stays x.d.length x.n keep) := by show _ = _; rw [hstays.out, hst, ht, hm1, hm]
        have q1 : IntKind.i64.wrap ((x.d.length : Int) - (x.n : Int)) = (m : Int) := by rw [IntWalk.i64_in _ (by omega)]; omega
        have q1' : (x.d.length : Int) - (x.n : Int) = (m : Int) := by omega
        have q2 : IntKind.i64.wrap ((m : Int) + 1) = (m1 : Int) := by rw [IntWalk.i64_in _ (by omega)]; omega
        have q2' : (m : Int) + 1 = (m1 : Int) := by omega
        have q0 : ((m1 : Int) == 0) = false := beq_eq_false_iff_ne.2 (by omega)
        have q0' : (0 : Int) < (m1 : Int) := by omega
        have qa : IntKind.i64.wrap (m1 : Int) = (m1 : Int) := IntWalk.i64_in _ (by omega)
        have qb : ¬ ((m1 : Int) = 0) := by omega
        have qb' : ¬ (m1 = 0) := by omega
        have qc : IntKind.i64.wrap (st : Int) = (st : Int) := IntWalk.i64_in _ (by omega)
        have q3 : (kp : Int).tmod (m1 : Int) = (t : Int) := by rw [Int.tmod_eq_emod_of_nonneg (by omega), ht, Int.natCast_emod]
        have q3' : (kp : Int) % (m1 : Int) = (t : Int) := by rw [ht, Int.natCast_emod]
        have q4 : IntKind.i64.wrap ((x.n : Int) + (t : Int)) = (st : Int) := by rw [IntWalk.i64_in _ (by omega)]; omega
        have q4' : (x.n : Int) + (t : Int) = (st : Int) := by omega
        have hrq : Hid (∀ W, Own W (Y.flatMap Re.H) → RdBytes W x.a st x.c (x.d.take st)) := fun W hW => (re_bytes hx (hYo x (List.mem_of_getElem? hx)) hW).pre hsl
        have hxc : x.d.length ≤ x.c := by
          obtain ⟨_, ⟨_, e, e2⟩ | ⟨_, _, h, _⟩⟩ := re_bytes hx (hYo x (List.mem_of_getElem? hx)) (s.own 2 rfl)
          · rw [e2]; exact Nat.zero_le _
          · exact h
        have n5 : (st : Int) ≤ (x.c : Int) := by omega
        have n6 : st ≤ x.c := by omega
        have n7 : (0 : Int) ≤ (st : Int) := by omega
        have hst1 : st ≤ 1073741824 := by omega
        have hdone := Lib.hid (fun a5 c5 Hx R7 W f l hf hll hv hr' s => rcr_done (b := b) (g := g) (c := c) (w := wc) (K := K) (tear := tear) (a5 := a5) (c5 := c5) (Hx := Hx) (R7 := R7) (W := W) (f := f) (l := l) hx hxk hY hYn hn.out hlt hYo hst2.out hsl hf hll hv hr' s)
        have hrr : Hid (∀ W, Own W R → W.cell? ⟨g, i * 3 + 1, none⟩ = some (.slice x.a x.d.length x.c) ∧ W.cell? ⟨g, i * 3 + 2, none⟩ = some (iv x.n) ∧ ∀ j, W.frozen? ⟨g, j, none⟩ = false) := fun W hW => by
          obtain ⟨g', e, _, _, _, r1, r2, fz⟩ := re_at (by rw [hYn]; exact hr) hW hx
          cases e
          exact ⟨r1, r2, fz⟩
        have hql : Hid ((x.d.take st).length = st) := by show _ = _; rw [List.length_take]; omega
        have hyc : Hid (∀ a' c' H', (⟨x.nm, a', c', x.d.take st, x.n, H'⟩ : Re).cells = x.cells.set 1 (.slice a' st c')) := fun a' c' H' => by
          simp only [Re.cells, hql.out, List.set_cons_succ, List.set_cons_zero]
        have hxs := Lib.hid (fun a' c' H' => (List.getElem?_set_self (by rw [hYn]; exact hlt) : (Y.set i ⟨x.nm, a', c', x.d.take st, x.n, H'⟩)[i]? = some _))
        have hat : Hid (∀ a' c' H' R', SlRep 107 3 (some ⟨g, 0, none⟩) n c ((Y.set i ⟨x.nm, a', c', x.d.take st, x.n, H'⟩).flatMap Re.cells) R' → ∀ W, Own W R' → W.cell? ⟨g, i * 3 + 1, none⟩ = some (.slice a' st c') ∧ W.cell? ⟨g, i * 3 + 2, none⟩ = some (iv x.n) ∧ ∀ j, W.frozen? ⟨g, j, none⟩ = false) := fun a' c' H' R' h W hW => by
          obtain ⟨g', e, _, _, _, r1, r2, fz⟩ := re_at (by rw [List.length_set, hYn]; exact h) hW (hxs.out a' c' H')
          cases e
          rw [show (x.d.take st).length = st from hql.out] at r1
          exact ⟨r1, r2, fz⟩
        replace hm := Lib.hid hm
        replace hm1 := Lib.hid hm1
        replace ht := Lib.hid ht
        replace hst := Lib.hid hst
        replace hx := Lib.hid hx
        replace hxk := Lib.hid hxk
        replace hr := Lib.hid hr
        replace hY := Lib.hid hY
        replace hYn := Lib.hid hYn
        clear hYo
        go_upto_region 5 with fail
        go_quiet (fail)
        have s2 := s.drewN nq
        go_upto_region 6 with fail
        refine Sp.gen s2 ?_
        clear s s2 c0 c1 c2 r0 r1 r2 fz glt
        intro W s
        obtain ⟨r1, r2, fz⟩ := hrr.out _ (s.own 1 rfl)
        refine wp_region_J 19 (fun w' => w'.cell? ⟨g, i * 3 + 1, none⟩ = some (.slice x.a x.d.length x.c) ∧ w'.cell? ⟨g, i * 3 + 2, none⟩ = some (iv x.n)) (by kernel_rfl) ?_ (fun hF => ?_)
        · (try dsimp only)
          all_goals (first | exact ⟨r1, r2⟩ | (simp [*, World.cell?_alloc_some]; done))
        refine tk0 (i := 0) (oi := ⟨some 38, .move (.tmp 7), 105, "disk.go:173", #[], none⟩) (v := ?_) rfl (by kernel_rfl) (fun _ _ _ h => h) (fun _ => hF) (fun w => ?_) (by rfl) ?_
        rotate_left
        · first | (go_simp; done) | (go_simp; with_reducible rfl) | (go_split_ands; go_simp; done)
        try simp only [Act.put, nrmA, nrmB, nrmC]
        refine tk0 (i := 2) (oi := ⟨some 40, .move (.tmp 7), 105, "disk.go:173", #[], none⟩) (v := ?_) rfl (by kernel_rfl) (fun _ _ _ h => h) (fun _ => hF) (fun w => ?_) (by rfl) ?_
        rotate_left
        · first | (go_simp; done) | (go_simp; with_reducible rfl) | (go_split_ands; go_simp; done)
        try simp only [Act.put, nrmA, nrmB, nrmC]
        refine tk0 (i := 3) (oi := ⟨some 41, .nilCheck (.tmp 40), 0, "disk.go:173", #[⟨2, .data⟩], none⟩) (v := ?_) rfl (by kernel_rfl) (fun _ _ _ h => h) (fun _ => hF) (fun w => ?_) (by rfl) ?_
        rotate_left
        · first | (go_simp; done) | (go_simp; with_reducible rfl) | (go_split_ands; go_simp; done)
        try simp only [Act.put, nrmA, nrmB, nrmC]
        refine tk0 (i := 4) (oi := ⟨some 42, .fieldAddr 107 (.tmp 41) 1, 0, "disk.go:173", #[⟨3, .data⟩], none⟩) (v := ?_) rfl (by kernel_rfl) (fun _ _ _ h => h) (fun _ => hF) (fun w => ?_) (by rfl) ?_
        rotate_left
        · first | (go_simp; done) | (go_simp; with_reducible rfl) | (go_split_ands; go_simp; done)
        try simp only [Act.put, nrmA, nrmB, nrmC]
        refine tk1 (i := 5) (oi := ⟨some 43, .load 23 (.tmp 42), 23, "disk.go:173", #[⟨4, .data⟩], none⟩) (v := ?_) [19] rfl (by kernel_rfl) (fun _ _ _ h => h) hF (fun w hFw => ?_) (by rfl) ?_
        rotate_left
        · ((try dsimp only at hFw); first | (go_simp; done) | (go_simp; with_reducible rfl) | (go_split_ands; go_simp; done))
        try simp only [Act.put, nrmA, nrmB, nrmC]
        refine tk0 (i := 6) (oi := ⟨some 44, .move (.tmp 7), 105, "disk.go:173", #[], none⟩) (v := ?_) rfl (by kernel_rfl) (fun _ _ _ h => h) (fun _ => hF) (fun w => ?_) (by rfl) ?_
        rotate_left
        · first | (go_simp; done) | (go_simp; with_reducible rfl) | (go_split_ands; go_simp; done)
        try simp only [Act.put, nrmA, nrmB, nrmC]
        refine tk0 (i := 7) (oi := ⟨some 45, .nilCheck (.tmp 44), 0, "disk.go:173", #[⟨6, .data⟩], none⟩) (v := ?_) rfl (by kernel_rfl) (fun _ _ _ h => h) (fun _ => hF) (fun w => ?_) (by rfl) ?_
        rotate_left
        · first | (go_simp; done) | (go_simp; with_reducible rfl) | (go_split_ands; go_simp; done)
        try simp only [Act.put, nrmA, nrmB, nrmC]
        refine tk0 (i := 8) (oi := ⟨some 46, .fieldAddr 107 (.tmp 45) 2, 0, "disk.go:173", #[⟨7, .data⟩], none⟩) (v := ?_) rfl (by kernel_rfl) (fun _ _ _ h => h) (fun _ => hF) (fun w => ?_) (by rfl) ?_
        rotate_left
        · first | (go_simp; done) | (go_simp; with_reducible rfl) | (go_split_ands; go_simp; done)
        try simp only [Act.put, nrmA, nrmB, nrmC]
        refine tk1 (i := 9) (oi := ⟨some 47, .load 3 (.tmp 46), 3, "disk.go:173", #[⟨8, .data⟩], none⟩) (v := ?_) [19] rfl (by kernel_rfl) (fun _ _ _ h => h) hF (fun w hFw => ?_) (by rfl) ?_
        rotate_left
        · ((try dsimp only at hFw); first | (go_simp; done) | (go_simp; with_reducible rfl) | (go_split_ands; go_simp; done))
        try simp only [Act.put, nrmA, nrmB, nrmC]
        refine tk0 (i := 10) (oi := ⟨some 48, .move (.tmp 1), 3, "disk.go:173", #[], none⟩) (v := ?_) rfl (by kernel_rfl) (fun _ _ _ h => h) (fun _ => hF) (fun w => ?_) (by rfl) ?_
        rotate_left
        · first | (go_simp; done) | (go_simp; with_reducible rfl) | (go_split_ands; go_simp; done)
        try simp only [Act.put, nrmA, nrmB, nrmC]
        refine tk0 (i := 11) (oi := ⟨some 49, .move (.tmp 8), 3, "disk.go:173", #[], none⟩) (v := ?_) rfl (by kernel_rfl) (fun _ _ _ h => h) (fun _ => hF) (fun w => ?_) (by rfl) ?_
        rotate_left
        · first | (go_simp; done) | (go_simp; with_reducible rfl) | (go_split_ands; go_simp; done)
        try simp only [Act.put, nrmA, nrmB, nrmC]
        refine tk0 (i := 12) (oi := ⟨some 50, .binOp .add 3 (.tmp 49) (.const (.int .i64 1)) 3, 3, "disk.go:173", #[⟨11, .data⟩], none⟩) (v := ?_) rfl (by kernel_rfl) (fun _ _ _ h => h) (fun _ => hF) (fun w => ?_) (by rfl) ?_
        rotate_left
        · first | (go_simp; done) | (go_simp; with_reducible rfl) | (go_split_ands; go_simp; done)
        try simp only [Act.put, nrmA, nrmB, nrmC]
        refine tk0 (i := 13) (oi := ⟨some 51, .binOp .rem 3 (.tmp 48) (.tmp 50) 3, 3, "disk.go:173", #[⟨10, .data⟩, ⟨12, .data⟩], none⟩) (v := ?_) rfl (by kernel_rfl) (fun _ _ _ h => h) (fun _ => hF) (fun w => ?_) (by rfl) ?_
        rotate_left
        · first | (go_simp; done) | (go_simp; with_reducible rfl) | (go_split_ands; go_simp; done)
        try simp only [Act.put, nrmA, nrmB, nrmC]
        refine tk0 (i := 14) (oi := ⟨some 52, .binOp .add 3 (.tmp 47) (.tmp 51) 3, 3, "disk.go:173", #[⟨9, .data⟩, ⟨13, .data⟩], none⟩) (v := ?_) rfl (by kernel_rfl) (fun _ _ _ h => h) (fun _ => hF) (fun w => ?_) (by rfl) ?_
        rotate_left
        · first | (go_simp; done) | (go_simp; with_reducible rfl) | (go_split_ands; go_simp; done)
        try simp only [Act.put, nrmA, nrmB, nrmC]
        refine tk0 (i := 15) (oi := ⟨some 53, .slice 23 (.tmp 43) none (some (.tmp 52)) none, 23, "disk.go:173", #[⟨5, .data⟩, ⟨14, .data⟩], none⟩) (v := ?_) rfl (by kernel_rfl) (fun _ _ _ h => h) (fun _ => hF) (fun w => ?_) (by rfl) ?_
        rotate_left
        · first | (go_simp; done) | (go_simp; with_reducible rfl) | (go_split_ands; go_simp; done)
        try simp only [Act.put, nrmA, nrmB, nrmC]
        refine wpAnyJ_ready (rs := [1]) (by kernel_rfl) (by simp) ?_
        refine AllJ.cons1 (o := ⟨some 39, .buildSlice 23 0 #[], 23, "disk.go:173", #[], none⟩) rfl (fun Kr hKr => ?_)
        go_simp
        refine hKr.out _ _ (fun hJ => ?_) (fun hF => ?_)
        · first
          | exact absurd hJ (by decide)
          | (clear hJ; (try dsimp only); all_goals (first | exact ⟨r1, r2⟩ | (simp [*, World.cell?_alloc_some]; done)))
        clear hKr
        try simp only [Act.put, nrmA, nrmB, nrmC]
        refine wpAnyJ_ready (rs := [16]) (by kernel_rfl) (by simp) ?_
        refine AllJ.cons1 (o := ⟨some 54, .call { callee := .builtin .append, args := #[.tmp 39, .tmp 53], argTypes := #[23, 23] }, 23, "disk.go:173", #[⟨1, .data⟩, ⟨15, .data⟩], none⟩) rfl (fun Kr hKr => ?_)
        have s3 := s.drew.alloc (.cells #[] 5 (0, 0))
        refine step_app rfl st_u8 _ _ (by rfl) (by rfl) (by rfl) (SlRep.made _ _ _) (s3.own 3 rfl) (rdBytes_cells (hrq.out _ (s3.own 2 rfl))) (by unfold maxLen; omega) (by omega) ?_
        intro a5 c5 w5 H5 hv5 hst5
        have s5 := s3.put 3 rfl hst5
        simp only [List.cons_append, List.nil_append, List.set_cons_succ, List.set_cons_zero] at s5
        obtain ⟨r1, r2, fz⟩ := hrr.out _ (s5.own 1 rfl)
        have glt := World.block_lt_of_cell? w5 _ r1
        refine hKr.out _ _ (fun hJ => ?_) (fun hF => ?_)
        · first
          | exact absurd hJ (by decide)
          | (clear hJ; (try dsimp only); all_goals (first | exact ⟨r1, r2⟩ | (simp [*, World.cell?_alloc_some]; done)))
        clear hKr
        try simp only [Act.put, nrmA, nrmB, nrmC]
        refine tk0 (i := 17) (oi := ⟨some 55, .nilCheck (.tmp 38), 0, "disk.go:173", #[⟨0, .data⟩, ⟨0, .phase⟩, ⟨1, .phase⟩, ⟨2, .phase⟩, ⟨3, .phase⟩, ⟨4, .phase⟩, ⟨5, .phase⟩, ⟨6, .phase⟩, ⟨7, .phase⟩, ⟨8, .phase⟩, ⟨9, .phase⟩, ⟨10, .phase⟩, ⟨11, .phase⟩, ⟨12, .phase⟩, ⟨13, .phase⟩, ⟨14, .phase⟩, ⟨15, .phase⟩, ⟨16, .phase⟩], none⟩) (v := ?_) rfl (by kernel_rfl) (fun _ _ _ h => h) (fun _ => hF (by kernel_rfl)) (fun w => ?_) (by rfl) ?_
        rotate_left
        · first | (go_simp; done) | (go_simp; with_reducible rfl) | (go_split_ands; go_simp; done)
        try simp only [Act.put, nrmA, nrmB, nrmC]
        refine tk0 (i := 18) (oi := ⟨some 56, .fieldAddr 107 (.tmp 55) 1, 0, "disk.go:173", #[⟨17, .data⟩, ⟨0, .phase⟩, ⟨1, .phase⟩, ⟨2, .phase⟩, ⟨3, .phase⟩, ⟨4, .phase⟩, ⟨5, .phase⟩, ⟨6, .phase⟩, ⟨7, .phase⟩, ⟨8, .phase⟩, ⟨9, .phase⟩, ⟨10, .phase⟩, ⟨11, .phase⟩, ⟨12, .phase⟩, ⟨13, .phase⟩, ⟨14, .phase⟩, ⟨15, .phase⟩, ⟨16, .phase⟩], none⟩) (v := ?_) rfl (by kernel_rfl) (fun _ _ _ h => h) (fun _ => hF (by kernel_rfl)) (fun w => ?_) (by rfl) ?_
        rotate_left
        · first | (go_simp; done) | (go_simp; with_reducible rfl) | (go_split_ands; go_simp; done)
        try simp only [Act.put, nrmA, nrmB, nrmC]
        refine wpAnyJ_ready (rs := [19]) (by kernel_rfl) (by simp) ?_
        refine AllJ.cons1 (o := ⟨none, .store 23 (.tmp 56) (.tmp 54), 0, "disk.go:173", #[⟨18, .data⟩, ⟨16, .data⟩, ⟨16, .chain⟩, ⟨0, .phase⟩, ⟨1, .phase⟩, ⟨2, .phase⟩, ⟨3, .phase⟩, ⟨4, .phase⟩, ⟨5, .phase⟩, ⟨6, .phase⟩, ⟨7, .phase⟩, ⟨8, .phase⟩, ⟨9, .phase⟩, ⟨10, .phase⟩, ⟨11, .phase⟩, ⟨12, .phase⟩, ⟨13, .phase⟩, ⟨14, .phase⟩, ⟨15, .phase⟩, ⟨16, .phase⟩], none⟩) rfl (fun Kr hKr => ?_)
        go_simp
        refine hKr.out _ _ (fun hJ => ?_) (fun hF => ?_)
        · first
          | exact absurd hJ (by decide)
          | (clear hJ; (try dsimp only); all_goals (first | exact ⟨r1, r2⟩ | (simp [*, World.cell?_alloc_some]; done)))
        clear hKr
        try simp only [Act.put, nrmA, nrmB, nrmC]
        refine wpAnyJ_done (by kernel_rfl) ?_ _
        go_upto_region 7 with fail
        obtain ⟨R6, hr6, s6⟩ := s5.putK re_len 1 rfl hr.out hx.out (j := 1) (by decide) (hyc.out a5 c5 H5)
        simp only [List.set_cons_succ, List.set_cons_zero] at s6
        rw [Nat.zero_add, List.nil_append] at hv5
        refine Sp.gen s6 ?_
        clear s6 s5 s3 s r1 r2 fz glt hst5
        intro W6 s6
        have hr66 := Lib.hid hr6
        obtain ⟨r1, r2, fz⟩ := hat.out a5 c5 H5 R6 hr6 W6 (s6.own 1 rfl)
        have glt := World.block_lt_of_cell? W6 _ r1
        by_cases htr : 0 < st ∧ tear ≠ 0
        · have p0 : (0 : Int) < (st : Int) := by have := htr.1; omega
          have p1 : ((tear.toNat : Int) != 0) = true := by
            have e := htr.2
            rw [bne_iff_ne]
            intro h
            exact e (UInt8.toNat_inj.1 (by simpa using h))
          obtain ⟨sec, hsec⟩ : ∃ sec, sec = (st - 1) / 32 * 32 := ⟨_, rfl⟩
          obtain ⟨f, hf'⟩ : ∃ f, f = max x.n sec := ⟨_, rfl⟩
          have hfs : f ≤ st := by have := hst2.out; have := (stays_le hxn keep).1; omega
          replace htr := Lib.hid htr
          obtain ⟨RI, hRI⟩ : ∃ RI : Value → World → Prop, RI = fun v wr => RinRel b i k tear g c n Y x a5 c5 st f R6 K wc v wr := ⟨_, rfl⟩
          have hRI1 : Hid (∀ j Hx W v, v = iv j → f ≤ j → j ≤ st → SlRep 5 1 a5 st c5 ((xr f j tear (x.d.take st)).map YtdolbeonpkanpaaGreatDoor.u8) Hx → Sp wc K W [[(b, robj k.room (some ⟨g, 0, none⟩) n c (leftI k.left))], R6, Y.flatMap Re.H, Hx] → RI v W) := fun j Hx W v h1 h2 h3 h4 h5 => by
            rw [hRI]; exact ⟨j, Hx, h1, h2, h3, h4, h5⟩
          have hRI2 : Hid (∀ W v, RI v W → ∃ (j : Nat) (Hx : Heaplet), v = iv j ∧ f ≤ j ∧ j ≤ st ∧ SlRep 5 1 a5 st c5 ((xr f j tear (x.d.take st)).map YtdolbeonpkanpaaGreatDoor.u8) Hx ∧ (∃ w0, Sp w0 K W [[(b, robj k.room (some ⟨g, 0, none⟩) n c (leftI k.left))], R6, Y.flatMap Re.H, Hx] ∧ ∀ (j' : Nat) (Hx' : Heaplet) (W' : World) (v' : Value), v' = iv j' → f ≤ j' → j' ≤ st → SlRep 5 1 a5 st c5 ((xr f j' tear (x.d.take st)).map YtdolbeonpkanpaaGreatDoor.u8) Hx' → Sp w0 K W' [[(b, robj k.room (some ⟨g, 0, none⟩) n c (leftI k.left))], R6, Y.flatMap Re.H, Hx'] → RI v' W') ∧
              (j = st → ∀ W', W' = W.setCell ⟨g, i * 3 + 2, none⟩ (iv st) → RcrRel b k keep tear (some ⟨g, 0, none⟩) c n K wc (iv (i + 1)) W')) := fun W v h => by
            rw [hRI] at h
            obtain ⟨j, Hx, h1, h2, h3, h4, h5⟩ := h
            refine ⟨j, Hx, h1, h2, h3, h4, ⟨wc, h5, fun j' Hx' W' v' q1 q2 q3 q4 q5 => by rw [hRI]; exact ⟨j', Hx', q1, q2, q3, q4, q5⟩⟩, fun hj W' hW' => ?_⟩
            subst hj hW'
            have hxl2 : (xr f j tear (x.d.take j)).length = j := by rw [xr_len h2 (by rw [hql.out]; exact Nat.le_refl _), hql.out]
            have hll : xr f j tear (x.d.take j) = xorFrom f tear (x.d.take j) := by
              have := @xr_end f tear (x.d.take j)
              rwa [hql.out] at this
            have hr8 : SlRep 107 3 (some ⟨g, 0, none⟩) n c ((Y.set i ⟨x.nm, a5, c5, xr f j tear (x.d.take j), x.n, Hx⟩).flatMap Re.cells) R6 := by
              rw [re_same (l' := x.d.take j) (H' := H5) hx.out hxl2 hql.out]; exact hr66.out
            obtain ⟨R7, hr7, s7⟩ := h5.putK re_len 1 rfl hr8 (List.getElem?_set_self (by rw [hYn.out]; exact hlt)) (j := 2) (by decide) (x' := ⟨x.nm, a5, c5, xr f j tear (x.d.take j), j, Hx⟩) (v := iv j) rfl
            exact hdone.out a5 c5 Hx R7 _ f _ (by rw [hf', hsec]) hll h4 hr7 s7
          have hin : Hid (RI (iv f) W6) := hRI1.out f H5 W6 _ rfl (Nat.le_refl _) hfs (by rw [xr_start (by rw [hql.out]; exact hfs)]; exact hv5) s6
          clear hr6 hRI s6 hRI1
          go_upto_region 8 with fail
          go_cut [9] (fun v wc => v = iv sec ∧ wc = W6)
          case first =>
            replace hf' := Lib.hid hf'
            replace hsec := Lib.hid hsec
            go_wp2_with fail
            all_goals go_meet
            all_goals exact ⟨congrArg (Value.int .i64) (by have := hsec.out; omega), rfl⟩
          case rest =>
            obtain ⟨rfl, rfl⟩ := hcut
            replace hsec := Lib.hid hsec
            replace hf' := Lib.hid hf'
            go_upto_region 9 with fail
            go_cut [10] (fun v wd => v = iv f ∧ wd = wc)
            case first =>
              go_wp2_with fail
              all_goals go_meet
              all_goals exact ⟨congrArg (Value.int .i64) (by have := hf'.out; omega), rfl⟩
            case rest =>
              obtain ⟨rfl, rfl⟩ := hcut
              clear r1 r2 fz glt
              go_wp2_with fail
              go_loopw [10] (fun v wr => RI v wr) (fun v _ => st - (intOf v).toNat)
              case atStart => exact hin.out
              case round =>
                clear hin
                obtain ⟨j, Hx, rfl, hfj, hjst, hv, ⟨w0, hs, hback⟩, hlast⟩ := hRI2.out _ _ hrel
                clear hrel
                replace hback := Lib.hid hback
                obtain ⟨r1, r2, fz⟩ := hat.out a5 c5 H5 R6 hr66.out wr (hs.own 1 rfl)
                have glt := World.block_lt_of_cell? wr _ r1
                have j0 : (0 : Int) ≤ (j : Int) := by omega
                by_cases hlt2 : j < st
                · have j1 : (j : Int) < (st : Int) := by omega
                  obtain ⟨y, hy⟩ : ∃ y, (x.d.take st)[j]? = some y := ⟨_, List.getElem?_eq_getElem (by rw [hql.out]; exact hlt2)⟩
                  obtain ⟨x1, x2⟩ := xr_step (t := tear) hfj hy
                  have hvc := hv.at0.le
                  obtain ⟨g5, hg5, hcell, hfz⟩ := hv.at0.at (hs.own 3 rfl) (i := j) (v := YtdolbeonpkanpaaGreatDoor.u8 y) (by rw [List.getElem?_map, x1]; rfl)
                  have hbx := bx8 y tear
                  rw [hg5] at r1
                  have hv' : SlRep 5 1 (some ⟨g5, 0, none⟩) st c5 ((xr f j tear (x.d.take st)).map YtdolbeonpkanpaaGreatDoor.u8) Hx := by rw [← hg5]; exact hv
                  obtain ⟨H', hv2, hs2⟩ := hs.put8 3 rfl hv' (x' := y ^^^ tear) x1
                  rw [x2, ← hg5] at hv2
                  have j2 : (st : Int) ≤ (c5 : Int) := by omega
                  have j3 : (j : Int) ≤ 1073741824 := by omega
                  replace hg5 := Lib.hid hg5
                  replace hv2 := Lib.hid hv2
                  replace hs2 := Lib.hid hs2
                  clear hv hv' hs x1 x2 hy hlast
                  go_wp2_with fail
                  exact ⟨hback.out (j + 1) _ _ _ (by go_num) (by omega) hlt2 hv2.out hs2.out, by simp [intOf]; omega⟩
                · have hje : j = st := by omega
                  have hd := Lib.hid (hlast hje _ rfl)
                  have j1 : (st : Int) ≤ (j : Int) := by omega
                  clear hlast hv hs hje hlt2 hback
                  go_wp2_with fail
                  exact ⟨hd.out, by simp [intOf]; omega⟩
        · have hx0 := Lib.hid (rcr_xor (f := max x.n ((st - 1) / 32 * 32)) (tear := tear) hql.out htr)
          obtain ⟨R7, hr7, s7⟩ := s6.putK re_len 1 rfl hr6 (hxs.out a5 c5 H5) (j := 2) (by decide) (x' := ⟨x.nm, a5, c5, x.d.take st, st, H5⟩) (v := iv st) rfl
          simp only [List.set_cons_succ, List.set_cons_zero] at s7
          have hd := Lib.hid (hdone.out a5 c5 H5 R7 _ _ _ rfl hx0.out.symm hv5 hr7 s7)
          clear s7 hr7 s6 hr6
          by_cases h0 : st = 0
          · subst h0
            clear htr
            go_wp2_with fail
            exact ⟨hd.out, by simp [intOf]; omega⟩
          · have ht0 : tear = 0 := by
              by_cases e : tear = 0
              · exact e
              · exact absurd ⟨by omega, e⟩ htr
            have p0 : (0 : Int) < (st : Int) := by omega
            subst ht0
            clear htr h0
            go_wp2_with fail
            exact ⟨hd.out, by simp [intOf]; omega⟩
      · have i1 : (n : Int) ≤ (i : Int) := by omega
        have hfin : Hid (∀ W, Sp wc K W [[(b, robj k.room a n c (-1))], R, Y.flatMap Re.H] → ∃ H', RkRep b (crN keep tear k) H' ∧ Step wc K W H') := fun W s => by
          have e : i = n := by omega
          subst e
          refine ⟨_, ⟨a, c, R, Y, by rw [hYn]; exact hr, hYo, ?_, (by decide : (-1 : Int) ≤ 9223372036854775807), rfl⟩, s.out (by rw [hYn]; simp [crN, leftI])⟩
          rw [hY, ← hn.out, List.take_length, List.drop_length, List.append_nil]; rfl
        have b0 := heap_lt (s.one 0 rfl)
        have fz := fun i => frz_of (i := i) (s.one 0 rfl)
        have s2 := Lib.hid (s.store 0 (j := 2) rfl (ii (-1)))
        clear hY hYo hr s hi hlt
        go_wp2_with fail
        go_end0
        exact ⟨rfl, hfin.out _ s2.out⟩
end Go.Proofs.YtdolbeonpkanpaaGreatDoor
