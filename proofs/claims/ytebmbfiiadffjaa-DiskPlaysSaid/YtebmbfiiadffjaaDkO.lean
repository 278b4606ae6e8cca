/- The program's disk: Copy. -/
import Derived.Test.YtebmbfiiadffjaaDkI
namespace Go.Proofs.Ytebmbfiiadffjaa
open Go.RowKit
attribute [local go_sem ↓] Go.wp_at_zero Go.wp_at_succ

def CpRel (r it m out : Nat) (k : Dk) (X : List Fe) (o : Obj) (H : Heaplet) (w wr : World) : Prop :=
  ∃ (Lf Dn : List Fe) (oi om : Obj), IterSt o oi r (Lf.map Fe.ent) ∧ MapObj .string om (Dn.map Fe.ent) ∧ (Lf.map Fe.key ++ Dn.map Fe.key).Perm k.L ∧ (∀ x ∈ Lf, x ∈ X) ∧ (∀ x ∈ Dn, x.ok) ∧
    Sp w H wr [H, [(out, dobj k.room m false 0)], [(m, om)], Dn.flatMap Fe.all, [(it, oi)]]
theorem cp_fresh {k : Dk} (hk : k.Ok) {A B Dn : List Fe} {x : Fe} (hp : ((A ++ x :: B).map Fe.key ++ Dn.map Fe.key).Perm k.L) : ∀ p ∈ Dn.map Fe.ent, p.1 ≠ strV x.nm := by
  intro p hpm e
  obtain ⟨y, hy, rfl⟩ := List.mem_map.1 hpm
  have hyn : y.nm = x.nm := str_inj e
  have hnd : (((A ++ x :: B).map Fe.key ++ Dn.map Fe.key).map Prod.fst).Nodup := by
    have h1 : (k.L.map Prod.fst).Nodup := by
      have := hk.sorted
      unfold SortedF at this
      rw [List.Nodup, List.pairwise_map]
      exact this.imp fun {a b} hab (e : a.1 = b.1) => nm_irr b.1 (by rw [e] at hab; exact hab)
    exact (hp.map Prod.fst).nodup_iff.2 h1
  rw [List.map_append] at hnd
  refine (List.nodup_append.1 hnd).2.2 x.nm ?_ y.nm ?_ hyn.symm
  · simp [Fe.key]
  · exact List.mem_map.2 ⟨y.key, List.mem_map.2 ⟨y, hy, rfl⟩, rfl⟩
set_option maxHeartbeats 4000000 in
set_option maxRecDepth 100000 in
theorem dcopy (b : Nat) (k : Dk) (H : Heaplet) (w : World) (h : DkRep b k H) (hk : k.Ok) (hw : Own w H) :
    Calls Try.prog 24 #[pt b] w fun e w' => ∃ (d : Nat) (H' : Heaplet), e = .returned (pt d) ∧ DkRep d (cpN k) H' ∧ Step w H w' (H ++ H') := by
  obtain ⟨r, o, fu, lf, X, hm, hok, hp, hf, hH⟩ := h
  have hrw : Hid (r < w.heap.size) := by
    have := hw
    rw [hH] at this
    exact heap_lt this.h1
  have s1 := ((Sp.start hw).alloc (.map #[] 0)).alloc (dobj k.room w.heap.size false 0)
  simp only [World.size_alloc, List.cons_append, List.nil_append] at s1
  have s2 : Sp w H _ [H, [(w.heap.size + 1, dobj k.room w.heap.size false 0)], [(w.heap.size, .map #[] 0)]] := s1.perm (by simp; exact List.Perm.append_left _ (List.Perm.swap _ _ _))
  have hh := s2.own 0 rfl
  rw [hH] at hh
  have ⟨c0, c1, c2, c3⟩ := cells4 hh.h0
  obtain ⟨oi, hit, hrun⟩ := iter_new hm r (P := Try.prog) Try.underlying58 hh.h1
  simp only [World.size_alloc] at hrun
  have s3a := s2.alloc oi
  simp only [World.size_alloc, List.cons_append, List.nil_append] at s3a
  have s3 : Sp w H _ [H, [(w.heap.size + 1, dobj k.room w.heap.size false 0)], [(w.heap.size, .map #[] 0)], [].flatMap Fe.all, [(w.heap.size + 1 + 1, oi)]] := s3a.perm (by simp)
  have hin : Hid (CpRel r (w.heap.size + 1 + 1) w.heap.size (w.heap.size + 1) k X o H w (((w.alloc (.map #[] 0)).alloc (dobj k.room w.heap.size false 0)).alloc oi)) :=
    ⟨X, [], oi, .map #[] 0, hit, mapObj_new _, by simpa using hp, fun _ h => h, by simp, s3⟩
  have hhw := Lib.hid hw
  have b0 : b < w.heap.size := by
    have := hw
    rw [hH] at this
    exact heap_lt this.h0
  have d1 : w.cell? ⟨b, 0, none⟩ = some (iv k.room) := by
    have := hw
    rw [hH] at this
    exact (cells4 this.h0).1
  have d2 : w.cell? ⟨b, 1, none⟩ = some (.map (some r)) := by
    have := hw
    rw [hH] at this
    exact (cells4 this.h0).2.1
  have hmm := @run_makeMap Try.prog
  replace hm := Lib.hid hm
  replace hp := Lib.hid hp
  replace hok := Lib.hid hok
  replace hH := Lib.hid hH
  clear s1 s2 s3 s3a hh c0 c1 c2 c3 hw hit
  go_enter Try.func24, Try.ntmps24
  go_wp2_with (at_range; refine wpList_mrange rfl _ _ rfl (by rfl) hrun ?_)
  go_frame
  obtain ⟨m, hmw⟩ : ∃ m, m = w.heap.size := ⟨_, rfl⟩
  rw [← hmw] at hin ⊢
  obtain ⟨out, how⟩ : ∃ out, out = m + 1 := ⟨_, rfl⟩
  rw [← how] at hin ⊢
  obtain ⟨it, hiw⟩ : ∃ it, it = out + 1 := ⟨_, rfl⟩
  rw [← hiw] at hin ⊢
  have hne : Hid (it ≠ r ∧ out < it) := ⟨by have := hrw.out; omega, by omega⟩
  replace hmw := Lib.hid hmw
  replace how := Lib.hid how
  replace hiw := Lib.hid hiw
  clear hrun b0 d1 d2
  go_loopw [5] (fun _ wr => CpRel r it m out k X o H w wr) (fun _ wr => iterLeft wr it r)
  case atStart => exact hin.out
  case round =>
    clear hin
    obtain ⟨Lf, Dn, oi, om, hit, hom, hpk, hX, hDn, hs⟩ := hrel
    have hoi := hs.one 4 rfl
    have hos := hs.own 0 rfl
    rw [hH.out] at hos
    have hml := Lib.hid (hit.left hoi hos.h1)
    rcases iter_step hm.out hit (P := Try.prog) hoi hos.h1 hne.out.1 with ⟨rfl, hnext⟩ | ⟨A, x, B, oi', w1, rfl, hw1, hnext, hit', hent⟩
    · replace hpk := Lib.hid hpk
      replace hom := Lib.hid hom
      replace hDn := Lib.hid hDn
      replace hs := Lib.hid hs
      clear hit hoi hos hml hX
      go_wp2_with (at_next; refine wpList_mnext rfl _ rfl (by rfl) (hnext _) ?_)
      go_ret
      refine ⟨out, (out, dobj k.room m false 0) :: (m, om) :: Dn.flatMap Fe.all, rfl, ⟨m, om, false, 0, Dn, hom.out, hDn.out, by simpa [cpN] using hpk.out, rfl, rfl⟩, ?_⟩
      exact Step.forget (B := [(it, oi)]) (hs.out.out (by simp))
    · have s1 : Sp w H w1 [H, [(out, dobj k.room m false 0)], [(m, om)], Dn.flatMap Fe.all, [(it, oi)]] := by
        rcases hw1 with rfl | rfl
        · exact hs
        · exact hs.drew
      have s2 := s1.map 4 oi' rfl
      simp only [List.set_cons_succ, List.set_cons_zero] at s2
      have ho2 := s2.own 0 rfl
      rw [hH.out] at ho2
      have he := hent _ (s2.one 4 rfl) ho2.h1
      have hml2 := Lib.hid (hit'.left (s2.one 4 rfl) ho2.h1)
      have hfr := cp_fresh hk hpk
      have hxX := hX x (by simp)
      have hxl : x.d.length ≤ 1073741824 := by
        have h1 := hpk.mem_iff.1 (List.mem_append_left _ (List.mem_map.2 ⟨x, by simp, rfl⟩) : x.key ∈ _)
        obtain ⟨P1, P2, hP⟩ := List.append_of_mem h1
        have h2 : usedF k.L ≤ k.room := hk.used
        rw [hP, used_app, used_cons] at h2
        have := hk.room
        simp only [Fe.key] at h2
        omega
      have hkf : Hid (∀ W' G1 G2 G3 G4 Gs, Sp w H W' (H :: [(out, dobj k.room m false 0)] :: G1 :: G2 :: G3 :: Gs) → W'.cell? ⟨out, 1, none⟩ = some (.map (some m)) ∧ W'.cell? ⟨x.fb, 0, none⟩ = some (.slice x.a x.d.length x.c) ∧ W'.cell? ⟨x.fb, 1, none⟩ = some (iv x.n) ∧ (G4 = W' → RdBytes W' x.a x.d.length x.c x.d)) := fun W' G1 G2 G3 G4 Gs s => by
        have h0 := s.own 0 rfl
        rw [hH.out] at h0
        have h1 := cells2 (fe_has hxX h0.tail.tail)
        exact ⟨(cells4 (s.one 1 rfl)).2.1, h1.1, h1.2, fun _ => fe_bytes hxX (hok.out x hxX) h0.tail.tail⟩
      have hcl := Lib.hid (fun W h => clone_any x.a x.d.length x.c x.d W h (by omega))
      replace hX := Lib.hid hX
      replace hpk := Lib.hid hpk
      replace hDn := Lib.hid hDn
      replace hom := Lib.hid hom
      replace hit' := Lib.hid hit'
      replace hfr := Lib.hid hfr
      clear hs s1 hit hoi hos ho2 hw1 hent
      simp only [Fe.ent] at he hnext
      generalize World.putObj w1 it oi' = W at s2 he hml2 hnext
      go_upto_region 7 with (at_next; refine wpList_mnext rfl _ rfl (by rfl) (hnext _) ?_)
      clear he hnext
      obtain ⟨k1, k2, k3, k4⟩ := hkf.out _ _ _ _ _ _ s2.drew
      refine wp_region_J 16 (fun w' => w'.cell? ⟨out, 1, none⟩ = some (.map (some m)) ∧ w'.cell? ⟨x.fb, 0, none⟩ = some (.slice x.a x.d.length x.c) ∧ w'.cell? ⟨x.fb, 1, none⟩ = some (iv x.n)) (by kernel_rfl) ?_ (fun hF => ?_)
      · (try dsimp only)
        all_goals (first | exact ⟨k1, k2, k3⟩ | exact ⟨q1, q2, q3⟩ | exact ⟨p1, p2, p3⟩)
      refine wpAnyJ_take0 (i := 0) (oi := { dst := some 25, op := Go.Op.move (Go.Operand.tmp 3), type := 25, pos := "disk.go:202", after := #[], guard := none }) (v := ?_) rfl (by kernel_rfl) (by kernel_rfl) (by kernel_rfl) (by kernel_rfl) (fun _ _ _ h => h) (by first | exact fun _ => hF | exact fun _ => hF (by kernel_rfl)) (fun w => ?_) (by rfl) ?_
      rotate_left
      · first | (go_simp; done) | (go_simp; with_reducible rfl) | (go_split_ands; go_simp; done)
      try simp only [Act.put, List.setIfInBounds_toArray, List.set_cons_zero, List.set_cons_succ]
      refine wpAnyJ_take0 (i := 1) (oi := { dst := some 26, op := Go.Op.nilCheck (Go.Operand.tmp 25), type := 0, pos := "disk.go:202", after := #[{ on := 0, ground := Go.Ground.data }], guard := none }) (v := ?_) rfl (by kernel_rfl) (by kernel_rfl) (by kernel_rfl) (by kernel_rfl) (fun _ _ _ h => h) (by first | exact fun _ => hF | exact fun _ => hF (by kernel_rfl)) (fun w => ?_) (by rfl) ?_
      rotate_left
      · first | (go_simp; done) | (go_simp; with_reducible rfl) | (go_split_ands; go_simp; done)
      try simp only [Act.put, List.setIfInBounds_toArray, List.set_cons_zero, List.set_cons_succ]
      refine wpAnyJ_take0 (i := 2) (oi := { dst := some 27, op := Go.Op.fieldAddr 60 (Go.Operand.tmp 26) 1, type := 0, pos := "disk.go:202", after := #[{ on := 1, ground := Go.Ground.data }], guard := none }) (v := ?_) rfl (by kernel_rfl) (by kernel_rfl) (by kernel_rfl) (by kernel_rfl) (fun _ _ _ h => h) (by first | exact fun _ => hF | exact fun _ => hF (by kernel_rfl)) (fun w => ?_) (by rfl) ?_
      rotate_left
      · first | (go_simp; done) | (go_simp; with_reducible rfl) | (go_split_ands; go_simp; done)
      try simp only [Act.put, List.setIfInBounds_toArray, List.set_cons_zero, List.set_cons_succ]
      refine wpAnyJ_take (i := 3) (oi := { dst := some 28, op := Go.Op.load 58 (Go.Operand.tmp 27), type := 58, pos := "disk.go:202", after := #[{ on := 2, ground := Go.Ground.data }], guard := none }) (v := ?_) [16] rfl (by kernel_rfl) (by kernel_rfl) (by kernel_rfl) (by kernel_rfl) (by kernel_rfl) (fun _ _ _ h => h) (by first | exact hF | exact hF (by kernel_rfl)) (fun w hFw => ?_) (by rfl) ?_
      rotate_left
      · ((try dsimp only at hFw); first | (go_simp; done) | (go_simp; with_reducible rfl) | (go_split_ands; go_simp; done))
      try simp only [Act.put, List.setIfInBounds_toArray, List.set_cons_zero, List.set_cons_succ]
      refine wpAnyJ_take0 (i := 4) (oi := { dst := some 29, op := Go.Op.move (Go.Operand.tmp 4), type := 9, pos := "disk.go:202", after := #[], guard := none }) (v := ?_) rfl (by kernel_rfl) (by kernel_rfl) (by kernel_rfl) (by kernel_rfl) (fun _ _ _ h => h) (by first | exact fun _ => hF | exact fun _ => hF (by kernel_rfl)) (fun w => ?_) (by rfl) ?_
      rotate_left
      · first | (go_simp; done) | (go_simp; with_reducible rfl) | (go_split_ands; go_simp; done)
      try simp only [Act.put, List.setIfInBounds_toArray, List.set_cons_zero, List.set_cons_succ]
      refine wpAnyJ_take0 (i := 5) (oi := { dst := some 30, op := Go.Op.move (Go.Operand.tmp 5), type := 65, pos := "disk.go:202", after := #[], guard := none }) (v := ?_) rfl (by kernel_rfl) (by kernel_rfl) (by kernel_rfl) (by kernel_rfl) (fun _ _ _ h => h) (by first | exact fun _ => hF | exact fun _ => hF (by kernel_rfl)) (fun w => ?_) (by rfl) ?_
      rotate_left
      · first | (go_simp; done) | (go_simp; with_reducible rfl) | (go_split_ands; go_simp; done)
      try simp only [Act.put, List.setIfInBounds_toArray, List.set_cons_zero, List.set_cons_succ]
      refine wpAnyJ_take0 (i := 6) (oi := { dst := some 31, op := Go.Op.nilCheck (Go.Operand.tmp 30), type := 0, pos := "disk.go:202", after := #[{ on := 5, ground := Go.Ground.data }], guard := none }) (v := ?_) rfl (by kernel_rfl) (by kernel_rfl) (by kernel_rfl) (by kernel_rfl) (fun _ _ _ h => h) (by first | exact fun _ => hF | exact fun _ => hF (by kernel_rfl)) (fun w => ?_) (by rfl) ?_
      rotate_left
      · first | (go_simp; done) | (go_simp; with_reducible rfl) | (go_split_ands; go_simp; done)
      try simp only [Act.put, List.setIfInBounds_toArray, List.set_cons_zero, List.set_cons_succ]
      refine wpAnyJ_take0 (i := 7) (oi := { dst := some 32, op := Go.Op.fieldAddr 67 (Go.Operand.tmp 31) 0, type := 0, pos := "disk.go:202", after := #[{ on := 6, ground := Go.Ground.data }], guard := none }) (v := ?_) rfl (by kernel_rfl) (by kernel_rfl) (by kernel_rfl) (by kernel_rfl) (fun _ _ _ h => h) (by first | exact fun _ => hF | exact fun _ => hF (by kernel_rfl)) (fun w => ?_) (by rfl) ?_
      rotate_left
      · first | (go_simp; done) | (go_simp; with_reducible rfl) | (go_split_ands; go_simp; done)
      try simp only [Act.put, List.setIfInBounds_toArray, List.set_cons_zero, List.set_cons_succ]
      refine wpAnyJ_take (i := 8) (oi := { dst := some 33, op := Go.Op.load 23 (Go.Operand.tmp 32), type := 23, pos := "disk.go:202", after := #[{ on := 7, ground := Go.Ground.data }], guard := none }) (v := ?_) [16] rfl (by kernel_rfl) (by kernel_rfl) (by kernel_rfl) (by kernel_rfl) (by kernel_rfl) (fun _ _ _ h => h) (by first | exact hF | exact hF (by kernel_rfl)) (fun w hFw => ?_) (by rfl) ?_
      rotate_left
      · ((try dsimp only at hFw); first | (go_simp; done) | (go_simp; with_reducible rfl) | (go_split_ands; go_simp; done))
      try simp only [Act.put, List.setIfInBounds_toArray, List.set_cons_zero, List.set_cons_succ]
      refine wpAnyJ_take0 (i := 10) (oi := { dst := some 35, op := Go.Op.move (Go.Operand.tmp 5), type := 65, pos := "disk.go:202", after := #[], guard := none }) (v := ?_) rfl (by kernel_rfl) (by kernel_rfl) (by kernel_rfl) (by kernel_rfl) (fun _ _ _ h => h) (by first | exact fun _ => hF | exact fun _ => hF (by kernel_rfl)) (fun w => ?_) (by rfl) ?_
      rotate_left
      · first | (go_simp; done) | (go_simp; with_reducible rfl) | (go_split_ands; go_simp; done)
      try simp only [Act.put, List.setIfInBounds_toArray, List.set_cons_zero, List.set_cons_succ]
      refine wpAnyJ_take0 (i := 11) (oi := { dst := some 36, op := Go.Op.nilCheck (Go.Operand.tmp 35), type := 0, pos := "disk.go:202", after := #[{ on := 10, ground := Go.Ground.data }], guard := none }) (v := ?_) rfl (by kernel_rfl) (by kernel_rfl) (by kernel_rfl) (by kernel_rfl) (fun _ _ _ h => h) (by first | exact fun _ => hF | exact fun _ => hF (by kernel_rfl)) (fun w => ?_) (by rfl) ?_
      rotate_left
      · first | (go_simp; done) | (go_simp; with_reducible rfl) | (go_split_ands; go_simp; done)
      try simp only [Act.put, List.setIfInBounds_toArray, List.set_cons_zero, List.set_cons_succ]
      refine wpAnyJ_take0 (i := 12) (oi := { dst := some 37, op := Go.Op.fieldAddr 67 (Go.Operand.tmp 36) 1, type := 0, pos := "disk.go:202", after := #[{ on := 11, ground := Go.Ground.data }], guard := none }) (v := ?_) rfl (by kernel_rfl) (by kernel_rfl) (by kernel_rfl) (by kernel_rfl) (fun _ _ _ h => h) (by first | exact fun _ => hF | exact fun _ => hF (by kernel_rfl)) (fun w => ?_) (by rfl) ?_
      rotate_left
      · first | (go_simp; done) | (go_simp; with_reducible rfl) | (go_split_ands; go_simp; done)
      try simp only [Act.put, List.setIfInBounds_toArray, List.set_cons_zero, List.set_cons_succ]
      refine wpAnyJ_take (i := 13) (oi := { dst := some 38, op := Go.Op.load 3 (Go.Operand.tmp 37), type := 3, pos := "disk.go:202", after := #[{ on := 12, ground := Go.Ground.data }], guard := none }) (v := ?_) [16] rfl (by kernel_rfl) (by kernel_rfl) (by kernel_rfl) (by kernel_rfl) (by kernel_rfl) (fun _ _ _ h => h) (by first | exact hF | exact hF (by kernel_rfl)) (fun w hFw => ?_) (by rfl) ?_
      rotate_left
      · ((try dsimp only at hFw); first | (go_simp; done) | (go_simp; with_reducible rfl) | (go_split_ands; go_simp; done))
      try simp only [Act.put, List.setIfInBounds_toArray, List.set_cons_zero, List.set_cons_succ]
      refine wpAnyJ_ready (rs := [9]) (by kernel_rfl) (by simp) ?_
      refine AllJ.cons (o := { dst := some 34, op := Go.Op.call { callee := Go.Callee.value (Go.Operand.func 32), args := #[Go.Operand.tmp 33], argTypes := #[23] }, type := 23, pos := "disk.go:202", after := #[{ on := 8, ground := Go.Ground.data }], guard := none }) rfl (fun Kr hKr => ?_) ?_
      · go_simp; go_at_call 32; refine (hcl.out _ (k4 rfl)).mono ?_; rintro e w3 ⟨a3, c3, H3, rfl, hr3, hst3⟩
        have s3 := s2.drew.fresh hst3
        simp only [List.cons_append, List.nil_append] at s3
        obtain ⟨q1, q2, q3, q4⟩ := hkf.out _ _ _ _ w3 _ s3
        refine hKr.out _ _ (fun hJ => ?_) (fun hF => ?_)
        · first
          | exact absurd hJ (by decide)
          | (clear hJ; (try dsimp only); all_goals (first | exact ⟨k1, k2, k3⟩ | exact ⟨q1, q2, q3⟩ | exact ⟨p1, p2, p3⟩))
        clear hKr
        try simp only [Act.put, List.setIfInBounds_toArray, List.set_cons_zero, List.set_cons_succ]
        refine wpAnyJ_take0 (i := 14) (oi := { dst := some 39, op := Go.Op.build 67 #[(0, Go.Operand.tmp 34), (1, Go.Operand.tmp 38)], type := 67, pos := "disk.go:202", after := #[{ on := 9, ground := Go.Ground.data }, { on := 13, ground := Go.Ground.data }], guard := none }) (v := ?_) rfl (by kernel_rfl) (by kernel_rfl) (by kernel_rfl) (by kernel_rfl) (fun _ _ _ h => h) (by first | exact fun _ => hF | exact fun _ => hF (by kernel_rfl)) (fun w => ?_) (by rfl) ?_
        rotate_left
        · first | (go_simp; done) | (go_simp; with_reducible rfl) | (go_split_ands; go_simp; done)
        try simp only [Act.put, List.setIfInBounds_toArray, List.set_cons_zero, List.set_cons_succ]
        refine wpAnyJ_ready (rs := [15]) (by kernel_rfl) (by simp) ?_
        refine AllJ.cons (o := { dst := some 40, op := Go.Op.box 67 (Go.Operand.tmp 39), type := 65, pos := "disk.go:202", after := #[{ on := 14, ground := Go.Ground.data }], guard := none }) rfl (fun Kr hKr => ?_) ?_
        · go_simp
          have s4 := s3.alloc (fobj a3 x.d.length c3 x.n)
          simp only [List.cons_append, List.nil_append] at s4
          obtain ⟨p1, p2, p3, p4⟩ := hkf.out _ _ _ _ w3 _ s4
          obtain ⟨om2, hrun2, hom2⟩ := run_mupdate_no (P := Try.prog) Try.underlying58 Try.underlying9 hom.out (k := strV x.nm) (by exact trivial) (s4.one 2 rfl) hfr.out (pt w3.heap.size)
          refine hKr.out _ _ (fun hJ => ?_) (fun hF => ?_)
          · first
            | exact absurd hJ (by decide)
            | (clear hJ; (try dsimp only); all_goals (first | exact ⟨k1, k2, k3⟩ | exact ⟨q1, q2, q3⟩ | exact ⟨p1, p2, p3⟩))
          clear hKr
          try simp only [Act.put, List.setIfInBounds_toArray, List.set_cons_zero, List.set_cons_succ]
          refine wpAnyJ_ready (rs := [16]) (by kernel_rfl) (by simp) ?_
          refine AllJ.cons (o := { dst := none, op := Go.Op.mapUpdate 58 (Go.Operand.tmp 28) (Go.Operand.tmp 29) (Go.Operand.tmp 40), type := 0, pos := "disk.go:202", after := #[{ on := 3, ground := Go.Ground.data }, { on := 4, ground := Go.Ground.data }, { on := 15, ground := Go.Ground.data }, { on := 9, ground := Go.Ground.chain }, { on := 0, ground := Go.Ground.phase }, { on := 1, ground := Go.Ground.phase }, { on := 2, ground := Go.Ground.phase }, { on := 3, ground := Go.Ground.phase }, { on := 4, ground := Go.Ground.phase }, { on := 5, ground := Go.Ground.phase }, { on := 6, ground := Go.Ground.phase }, { on := 7, ground := Go.Ground.phase }, { on := 8, ground := Go.Ground.phase }, { on := 9, ground := Go.Ground.phase }, { on := 10, ground := Go.Ground.phase }, { on := 11, ground := Go.Ground.phase }, { on := 12, ground := Go.Ground.phase }, { on := 13, ground := Go.Ground.phase }, { on := 14, ground := Go.Ground.phase }, { on := 15, ground := Go.Ground.phase }], guard := none }) rfl (fun Kr hKr => ?_) ?_
          · refine step_mupdate rfl _ _ _ _ rfl (by rfl) (by rfl) (by rfl) hrun2 ?_
            have s5 := s4.map 2 om2 rfl
            simp only [List.set_cons_succ, List.set_cons_zero] at s5
            refine hKr.out _ _ (fun hJ => ?_) (fun hF => ?_)
            · first
              | exact absurd hJ (by decide)
              | (clear hJ; (try dsimp only); all_goals (first | exact ⟨k1, k2, k3⟩ | exact ⟨q1, q2, q3⟩ | exact ⟨p1, p2, p3⟩))
            clear hKr
            try simp only [Act.put, List.setIfInBounds_toArray, List.set_cons_zero, List.set_cons_succ]
            refine wpAnyJ_done (by kernel_rfl) ?_ _
            go_wp2_with fail
            have hfin : CpRel r it m out k X o H w (World.putObj (w3.alloc (fobj a3 x.d.length c3 x.n)) m om2) := by
              refine ⟨A ++ B, Dn ++ [⟨x.nm, w3.heap.size, a3, c3, x.d, x.n, H3⟩], oi', om2, hit'.out, by rw [List.map_append]; exact hom2, ?_, fun y hy => hX.out y ?_, fun y hy => ?_, s5.perm ?_⟩
              · refine List.Perm.trans ?_ hpk.out
                have e1 : (A ++ B).map Fe.key ++ (Dn ++ [(⟨x.nm, w3.heap.size, a3, c3, x.d, x.n, H3⟩ : Fe)]).map Fe.key = ((A ++ B).map Fe.key ++ Dn.map Fe.key) ++ [x.key] := by simp [Fe.key]
                have e2 : (A ++ x :: B).map Fe.key ++ Dn.map Fe.key = A.map Fe.key ++ x.key :: (B.map Fe.key ++ Dn.map Fe.key) := by simp
                rw [e1, e2]
                refine List.perm_append_comm.trans ?_
                refine List.Perm.trans ?_ List.perm_middle.symm
                simp
              · rcases List.mem_append.1 hy with hy | hy
                · exact List.mem_append_left _ hy
                · exact List.mem_append_right _ (List.mem_cons_of_mem _ hy)
              · rcases List.mem_append.1 hy with hy | hy
                · exact hDn.out y hy
                · rw [List.mem_singleton] at hy; subst hy; exact hr3.at0
              · have e1 : [H, [(out, dobj k.room m false 0)], [(m, om2)], Dn.flatMap Fe.all, [(it, oi')], H3, [(w3.heap.size, fobj a3 x.d.length c3 x.n)]].flatten = (H ++ [(out, dobj k.room m false 0), (m, om2)] ++ Dn.flatMap Fe.all) ++ ([(it, oi')] ++ (H3 ++ [(w3.heap.size, fobj a3 x.d.length c3 x.n)])) := by simp
                have e2 : [H, [(out, dobj k.room m false 0)], [(m, om2)], (Dn ++ [(⟨x.nm, w3.heap.size, a3, c3, x.d, x.n, H3⟩ : Fe)]).flatMap Fe.all, [(it, oi')]].flatten = (H ++ [(out, dobj k.room m false 0), (m, om2)] ++ Dn.flatMap Fe.all) ++ (((w3.heap.size, fobj a3 x.d.length c3 x.n) :: H3) ++ [(it, oi')]) := by simp [Fe.all]
                rw [e1, e2]
                refine List.Perm.append_left _ ?_
                refine List.perm_append_comm.trans ?_
                exact List.Perm.append_right _ List.perm_append_comm
            refine ⟨hfin, ?_⟩
            have h0 := s5.own 0 rfl
            rw [hH.out] at h0
            rw [hml.out, hit'.out.left (s5.one 4 rfl) h0.h1]
            simp
          exact AllJ.nil
        exact AllJ.nil
      exact AllJ.nil
end Go.Proofs.Ytebmbfiiadffjaa
