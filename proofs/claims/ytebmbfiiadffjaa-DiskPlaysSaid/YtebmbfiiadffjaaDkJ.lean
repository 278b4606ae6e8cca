/- The program's disk: Crash. -/
import Derived.Test.YtebmbfiiadffjaaDkI
import Derived.Laws.BitsAllLaws
namespace Go.Proofs.Ytebmbfiiadffjaa
open Go.RowKit
attribute [local go_sem ↓] Go.wp_at_zero Go.wp_at_succ

def xr (f i : Nat) (t : UInt8) (l : List UInt8) : List UInt8 := l.take f ++ ((l.take i).drop f).map (· ^^^ t) ++ l.drop i
theorem xr_len {f i : Nat} {t : UInt8} {l : List UInt8} (h : f ≤ i) (hi : i ≤ l.length) : (xr f i t l).length = l.length := by
  simp only [xr, List.length_append, List.length_take, List.length_map, List.length_drop]; omega
theorem xr_get {f i : Nat} {t : UInt8} {l : List UInt8} (h : f ≤ i) (hi : i ≤ l.length) (j : Nat) : (xr f i t l)[j]? = if f ≤ j ∧ j < i then l[j]?.map (· ^^^ t) else l[j]? := by
  unfold xr
  have l1 : (l.take f).length = f := by rw [List.length_take]; omega
  have l2 : (((l.take i).drop f).map (· ^^^ t)).length = i - f := by rw [List.length_map, List.length_drop, List.length_take]; omega
  by_cases h1 : j < f
  · rw [if_neg (by omega), List.append_assoc, List.getElem?_append_left (by omega), List.getElem?_take, if_pos h1]
  · by_cases h2 : j < i
    · rw [if_pos (by omega), List.getElem?_append_left (by rw [List.length_append, l1, l2]; omega), List.getElem?_append_right (by omega), l1, List.getElem?_map, List.getElem?_drop, List.getElem?_take, if_pos (by omega), show f + (j - f) = j by omega]
    · rw [if_neg (by omega), List.getElem?_append_right (by rw [List.length_append, l1, l2]; omega), List.length_append, l1, l2, List.getElem?_drop, show i + (j - (f + (i - f))) = j by omega]
theorem xr_start {f : Nat} {t : UInt8} {l : List UInt8} (h : f ≤ l.length) : xr f f t l = l := by
  apply List.ext_getElem?
  intro j
  rw [xr_get (Nat.le_refl _) h, if_neg (by omega)]
theorem xr_end {f : Nat} {t : UInt8} {l : List UInt8} : xr f l.length t l = xorFrom f t l := by
  simp [xr, xorFrom]
theorem xr_step {f i : Nat} {t x : UInt8} {l : List UInt8} (h : f ≤ i) (hx : l[i]? = some x) : (xr f i t l)[i]? = some x ∧ (xr f i t l).set i (x ^^^ t) = xr f (i + 1) t l := by
  obtain ⟨hi, _⟩ := List.getElem?_eq_some_iff.1 hx
  refine ⟨by rw [xr_get h (by omega), if_neg (by omega)]; exact hx, ?_⟩
  apply List.ext_getElem?
  intro j
  rw [xr_get (by omega) (by omega), List.getElem?_set, xr_len h (by omega), xr_get h (by omega)]
  by_cases e : i = j
  · subst e
    rw [if_pos rfl, if_pos hi, if_pos (by omega), hx]; rfl
  · rw [if_neg e]
    by_cases h1 : f ≤ j ∧ j < i
    · rw [if_pos h1, if_pos (by omega)]
    · rw [if_neg h1, if_neg (by omega)]
theorem bx8 (x t : UInt8) : bits .xor .u8 (x.toNat : Int) (t.toNat : Int) = ((x ^^^ t).toNat : Int) := by
  rw [u8_xor_nat _ _ (UInt8.toNat_lt x) (UInt8.toNat_lt t), UInt8.toNat_xor]
theorem perm_lift {α β : Type} {f : α → β} : ∀ {m : List β} {l : List α}, (l.map f).Perm m → ∃ l' : List α, l'.Perm l ∧ l'.map f = m
  | [], l, h => by
    have := h.eq_nil
    exact ⟨l, List.Perm.refl _, this⟩
  | b :: m, l, h => by
    obtain ⟨x, hx, rfl⟩ := List.mem_map.1 (h.mem_iff.2 (List.mem_cons_self ..))
    obtain ⟨A, B, rfl⟩ := List.append_of_mem hx
    rw [List.map_append, List.map_cons] at h
    have h2 := (List.perm_middle.symm.trans h).cons_inv
    rw [← List.map_append] at h2
    obtain ⟨l', h3, h4⟩ := perm_lift h2
    exact ⟨x :: l', (h3.cons x).trans List.perm_middle.symm, by rw [List.map_cons, h4]⟩
def CrRel (b r it : Nat) (k : Dk) (keep : Int) (tear : UInt8) (D : List (Value × Value)) (o : Obj) (fu : Bool) (lf : Int) (H0 : Heaplet) (w wr : World) : Prop :=
  ∃ (Lf Dn : List Fe) (oi : Obj), IterSt o oi r (Lf.map Fe.ent) ∧ ((Lf ++ Dn).map Fe.ent).Perm D ∧ (∀ y ∈ Lf, y.ok ∧ y.n ≤ y.d.length ∧ y.d.length ≤ 1073741824) ∧ (∀ y ∈ Dn, y.ok) ∧
    (Lf.map (fun y => crF keep tear y.key) ++ Dn.map Fe.key).Perm (k.L.map (crF keep tear)) ∧ Sp w H0 wr [[(b, dobj k.room r fu lf), (r, o)], Lf.flatMap Fe.all, Dn.flatMap Fe.all, [(it, oi)]]
/-- The inner loop: i is reached. -/
def InRel (b r it : Nat) (k : Dk) (tear : UInt8) (o oi : Obj) (fu : Bool) (lf : Int) (Lf Dn : List Fe) (x : Fe) (st f : Nat) (H0 : Heaplet) (w : World) (v : Value) (wr : World) : Prop :=
  ∃ (i : Nat) (Hx : Heaplet), v = iv i ∧ f ≤ i ∧ i ≤ st ∧ SlAt 5 1 x.a st st ((xr f i tear (x.d.take st)).map u8) Hx ∧
    Sp w H0 wr [[(b, dobj k.room r fu lf), (r, o)], Lf.flatMap Fe.all, Dn.flatMap Fe.all, [(it, oi)], [(x.fb, fobj x.a st st x.n)], Hx]
theorem cr_next {b r it st f : Nat} {k : Dk} {keep : Int} {tear : UInt8} {D : List (Value × Value)} {o oi' : Obj} {fu : Bool} {lf : Int} {H0 Hx : Heaplet} {w W : World} {A B Dn : List Fe} {x : Fe}
    (hit : IterSt o oi' r ((A ++ B).map Fe.ent)) (hD : (((A ++ x :: B) ++ Dn).map Fe.ent).Perm D) (hL : ∀ y ∈ A ++ x :: B, y.ok ∧ y.n ≤ y.d.length ∧ y.d.length ≤ 1073741824) (hDn : ∀ y ∈ Dn, y.ok)
    (hpk : ((A ++ x :: B).map (fun y => crF keep tear y.key) ++ Dn.map Fe.key).Perm (k.L.map (crF keep tear))) (hst : st = stays x.d.length x.n keep) (hf : f = max x.n ((st - 1) / 32 * 32)) (hfs : f ≤ st) (hsl : st ≤ x.d.length)
    (hv : SlAt 5 1 x.a st st ((xr f st tear (x.d.take st)).map u8) Hx)
    (s : Sp w H0 W [[(b, dobj k.room r fu lf), (r, o)], (A ++ B).flatMap Fe.all, Dn.flatMap Fe.all, [(it, oi')], [(x.fb, fobj x.a st st st)], Hx]) :
    CrRel b r it k keep tear D o fu lf H0 w W := by
  have hll : (x.d.take st).length = st := by rw [List.length_take]; omega
  have hxr : xr f st tear (x.d.take st) = xorFrom f tear (x.d.take st) := by
    conv => lhs; rw [← hll]
    rw [hll]
    have := @xr_end f tear (x.d.take st)
    rw [hll] at this
    exact this
  have hxl : (xorFrom f tear (x.d.take st)).length = st := by rw [xor_len, hll]
  obtain ⟨y, hy⟩ : ∃ y : Fe, y = { x with d := xorFrom f tear (x.d.take st), c := st, n := st, H := Hx } := ⟨_, rfl⟩
  have hyo : y.ok := by
    rw [hxr] at hv
    rw [hy]; unfold Fe.ok; simp only [hxl]; exact hv
  have hye : y.ent = x.ent := by rw [hy]; rfl
  have hyk : y.key = crF keep tear x.key := by
    rw [hy]
    simp only [Fe.key, crF, ← hst, ← hf]
  have hya : y.all = (x.fb, fobj x.a st st st) :: Hx := by rw [hy]; unfold Fe.all; simp only [hxl]
  refine ⟨A ++ B, Dn ++ [y], oi', hit, ?_, fun z hz => hL z ?_, fun z hz => ?_, ?_, s.perm ?_⟩
  · refine List.Perm.trans ?_ hD
    have e1 : ((A ++ B) ++ (Dn ++ [y])).map Fe.ent = (((A ++ B) ++ Dn) ++ [x]).map Fe.ent := by simp [hye]
    rw [e1]
    refine List.Perm.map _ ?_
    refine List.perm_append_comm.trans ?_
    rw [List.singleton_append, List.append_assoc, List.append_assoc]
    refine List.perm_middle.symm.trans ?_
    simp
  · rcases List.mem_append.1 hz with hz | hz
    · exact List.mem_append_left _ hz
    · exact List.mem_append_right _ (List.mem_cons_of_mem _ hz)
  · rcases List.mem_append.1 hz with hz | hz
    · exact hDn z hz
    · rw [List.mem_singleton] at hz; subst hz; exact hyo
  · refine List.Perm.trans ?_ hpk
    have e1 : (A ++ B).map (fun y => crF keep tear y.key) ++ (Dn ++ [y]).map Fe.key = ((A ++ B).map (fun y => crF keep tear y.key) ++ Dn.map Fe.key) ++ [crF keep tear x.key] := by simp [hyk]
    have e2 : (A ++ x :: B).map (fun y => crF keep tear y.key) ++ Dn.map Fe.key = A.map (fun y => crF keep tear y.key) ++ (crF keep tear x.key) :: (B.map (fun y => crF keep tear y.key) ++ Dn.map Fe.key) := by simp
    rw [e1, e2]
    refine List.perm_append_comm.trans ?_
    refine List.Perm.trans ?_ List.perm_middle.symm
    simp
  · have e1 : [[(b, dobj k.room r fu lf), (r, o)], (A ++ B).flatMap Fe.all, Dn.flatMap Fe.all, [(it, oi')], [(x.fb, fobj x.a st st st)], Hx].flatten = ([(b, dobj k.room r fu lf), (r, o)] ++ ((A ++ B).flatMap Fe.all ++ Dn.flatMap Fe.all)) ++ ([(it, oi')] ++ y.all) := by rw [hya]; simp
    have e2 : [[(b, dobj k.room r fu lf), (r, o)], (A ++ B).flatMap Fe.all, (Dn ++ [y]).flatMap Fe.all, [(it, oi')]].flatten = ([(b, dobj k.room r fu lf), (r, o)] ++ ((A ++ B).flatMap Fe.all ++ Dn.flatMap Fe.all)) ++ (y.all ++ [(it, oi')]) := by simp
    rw [e1, e2]
    exact List.Perm.append_left _ List.perm_append_comm
set_option maxHeartbeats 4000000 in
set_option maxRecDepth 100000 in
theorem dcrash (b : Nat) (k : Dk) (keep : Int) (tear : UInt8) (H : Heaplet) (w : World) (h : DkRep b k H) (hk : k.Ok) (hw : Own w H) (hkeep : keep ≤ 9223372036854775807) :
    Calls Try.prog 13 #[pt b, ii keep, u8 tear] w fun e w' => e = .returned (.tuple #[]) ∧ ∃ H', DkRep b (crN keep tear k) H' ∧ Step w H w' H' := by
  obtain ⟨r, o, fu, lf, X, hm, hok, hp, hf, hH⟩ := h
  rw [hH] at hw
  have ⟨c0, c1, c2, c3⟩ := cells4 hw.h0
  obtain ⟨oi, hit, hrun⟩ := iter_new hm r (P := Try.prog) Try.underlying58 hw.h1
  rw [← hH] at hw
  have s0 : Sp w H (w.alloc oi) [[(b, dobj k.room r fu lf), (r, o)], X.flatMap Fe.all, [].flatMap Fe.all, [(w.heap.size, oi)]] := ((Sp.start hw).alloc oi).perm (by rw [hH]; simp)
  have hin : Hid (CrRel b r w.heap.size k keep tear (X.map Fe.ent) o fu lf H w (w.alloc oi)) := by
    refine ⟨X, [], oi, hit, by simp, fun y hy => ⟨hok y hy, ?_⟩, by simp, ?_, s0⟩
    · have h1 := hp.mem_iff.1 (List.mem_map.2 ⟨y, hy, rfl⟩)
      have h2 := hk.lasts _ h1
      have h3 := fe_used hp hy
      have := hk.used
      have := hk.room
      exact ⟨h2, by omega⟩
    · simp only [List.map_nil, List.append_nil]
      have := hp.map (crF keep tear)
      rwa [List.map_map] at this
  have hrw : Hid (r < w.heap.size) := by rw [hH] at hw; exact heap_lt hw.h1
  replace hm := Lib.hid hm
  replace hH := Lib.hid hH
  clear hit s0 hok hp hf
  go_enter Try.func13, Try.ntmps13
  go_wp2_with (at_range; refine wpList_mrange rfl _ _ rfl (by rfl) hrun ?_)
  clear hrun
  go_frame
  go_loopw [7] (fun _ wr => CrRel b r w.heap.size k keep tear (X.map Fe.ent) o fu lf H w wr) (fun _ wr => iterLeft wr w.heap.size r)
  case atStart => exact hin.out
  case round =>
    clear hin c0 c1 c2 c3
    obtain ⟨Lf, Dn, oi, hit, hD, hL, hDn, hpk, hs⟩ := hrel
    have hoi := hs.one 3 rfl
    have hos := hs.own 0 rfl
    have hml := Lib.hid (hit.left hoi hos.h1)
    rcases iter_step hm.out hit (P := Try.prog) hoi hos.h1 (by have := hrw.out; omega) with ⟨rfl, hnext⟩ | ⟨A, x, B, oi', w1, rfl, hw1, hnext, hit', hent⟩
    · replace hD := Lib.hid hD
      replace hDn := Lib.hid hDn
      replace hpk := Lib.hid hpk
      have ⟨c0, c1, c2, c3⟩ := cells4 hos.h0
      have fz := fun i => frz_of (i := i) hos.h0
      have b0 := heap_lt hos.h0
      clear hit hoi hos hL hml
      replace hs := Lib.hid hs
      go_wp2_with (at_next; refine wpList_mnext rfl _ rfl (by rfl) (hnext _) ?_)
      go_end0
      have s1 := hs.out.storeH 0 (j := 2) rfl (.bool false)
      obtain ⟨Y, y1, y2⟩ := perm_lift hD.out
      refine ⟨rfl, _, ⟨r, o, false, lf, Y, by rw [y2]; exact hm.out, fun y hy => hDn.out y (by simpa using y1.mem_iff.1 hy), ?_, rfl, rfl⟩, ?_⟩
      · have := hpk.out
        rw [List.map_nil, List.nil_append] at this
        exact ((y1.map Fe.key).trans (by simp)).trans this
      · refine Step.forget (B := [(w.heap.size, oi)]) ((s1.perm (Gs := [(b, dobj k.room r false lf) :: (r, o) :: Y.flatMap Fe.all, [(w.heap.size, oi)]]) ?_).out (by simp [crN]))
        have := (y1.flatMap_right Fe.all)
        simp only [List.nil_append] at this
        simpa using this.symm.append_right _
    · have s1 : Sp w H w1 [[(b, dobj k.room r fu lf), (r, o)], (A ++ x :: B).flatMap Fe.all, Dn.flatMap Fe.all, [(w.heap.size, oi)]] := by
        rcases hw1 with rfl | rfl
        · exact hs
        · exact hs.drew
      have s2 := s1.map 3 oi' rfl
      simp only [List.set_cons_succ, List.set_cons_zero] at s2
      have he := hent _ (s2.one 3 rfl) (s2.own 0 rfl).h1
      have hml2 := Lib.hid (hit'.left (s2.one 3 rfl) (s2.own 0 rfl).h1)
      have s3 : Sp w H _ [[(b, dobj k.room r fu lf), (r, o)], (A ++ B).flatMap Fe.all, Dn.flatMap Fe.all, [(w.heap.size, oi')], [(x.fb, fobj x.a x.d.length x.c x.n)], x.H] := s2.perm (by
        simp only [List.flatten_cons, List.flatten_nil, List.append_nil, List.cons_append, List.nil_append]
        refine .cons _ (.cons _ ?_)
        refine ((all_part A x B).append_right _).trans ?_
        have e : (((x.fb, fobj x.a x.d.length x.c x.n) :: (x.H ++ (A ++ B).flatMap Fe.all)) ++ (Dn.flatMap Fe.all ++ [(w.heap.size, oi')])) = ((x.fb, fobj x.a x.d.length x.c x.n) :: x.H) ++ ((A ++ B).flatMap Fe.all ++ (Dn.flatMap Fe.all ++ [(w.heap.size, oi')])) := by simp
        rw [e]
        refine List.perm_append_comm.trans ?_
        simp)
      obtain ⟨hxo, hxn, hxl⟩ := hL x (by simp)
      replace hxo := Lib.hid hxo
      replace hD := Lib.hid hD
      replace hL := Lib.hid hL
      replace hDn := Lib.hid hDn
      replace hpk := Lib.hid hpk
      replace hit' := Lib.hid hit'
      clear hs s1 s2 hit hoi hos hw1 hent
      simp only [Fe.ent] at he hnext
      generalize World.putObj w1 w.heap.size oi' = W at s3 he hml2 hnext
      have ⟨d0, d1⟩ := cells2 (s3.one 4 rfl)
      go_upto_region 4 with (at_next; refine wpList_mnext rfl _ rfl (by rfl) (hnext _) ?_)
      obtain ⟨st, hst⟩ : ∃ st, st = stays x.d.length x.n keep := ⟨_, rfl⟩
      go_cut [8] (fun v wc => v = iv st ∧ ∃ q, wc = W.drewN q)
      case first =>
        obtain ⟨m, hm'⟩ : ∃ m, m = x.d.length - x.n := ⟨_, rfl⟩
        obtain ⟨m1, hm1⟩ : ∃ m1, m1 = m + 1 := ⟨_, rfl⟩
        obtain ⟨t, ht⟩ : ∃ t, t = (max 0 keep).toNat % m1 := ⟨_, rfl⟩
        have hst' : Hid (x.n + t = st) := by show _ = _; rw [hst, ht, hm1, hm']; rfl
        have q1 : IntKind.i64.wrap ((x.d.length : Int) - (x.n : Int)) = (m : Int) := by rw [IntWalk.i64_in _ (by omega)]; omega
        have q1' : (x.d.length : Int) - (x.n : Int) = (m : Int) := by omega
        have q2 : IntKind.i64.wrap ((m : Int) + 1) = (m1 : Int) := by rw [IntWalk.i64_in _ (by omega)]; omega
        have q2' : (m : Int) + 1 = (m1 : Int) := by omega
        have q0 : ((m1 : Int) == 0) = false := beq_eq_false_iff_ne.2 (by omega)
        have q0' : (0 : Int) < (m1 : Int) := by omega
        have htl : t < m1 := by rw [ht]; exact Nat.mod_lt _ (by omega)
        have q4 : IntKind.i64.wrap ((x.n : Int) + (t : Int)) = (st : Int) := by rw [← hst'.out, IntWalk.i64_in _ (by omega)]; omega
        have q4' : (x.n : Int) + (t : Int) = (st : Int) := by rw [← hst'.out]; omega
        by_cases hk0 : keep ≤ 0
        · have e1 : max 0 keep = 0 := by omega
          have e2 : (0 : Int).tmod (m1 : Int) = (t : Int) := by rw [ht, e1]; simp
          have e3 : ¬ (0 < keep) := by omega
          replace hm' := Lib.hid hm'
          replace hm1 := Lib.hid hm1
          replace ht := Lib.hid ht
          replace hst := Lib.hid hst
          go_quiet (fail)
          go_wp2_with fail
          go_meet
          exact ⟨rfl, _, rfl⟩
        · have e1 : max 0 keep = keep := by omega
          have e3 : 0 < keep := by omega
          have e4 : 0 ≤ keep := by omega
          have e2 : keep.tmod (m1 : Int) = (t : Int) := by
            have e5 : (keep.toNat : Int) = keep := by omega
            rw [ht, e1, Int.tmod_eq_emod_of_nonneg e4, Int.natCast_emod, e5]
          have e2' : keep % (m1 : Int) = (t : Int) := by rw [← e2, Int.tmod_eq_emod_of_nonneg e4]
          replace hm' := Lib.hid hm'
          replace hm1 := Lib.hid hm1
          replace ht := Lib.hid ht
          replace hst := Lib.hid hst
          clear hk0
          go_quiet (fail)
          go_wp2_with fail
          go_meet
          exact ⟨rfl, _, rfl⟩
      case rest =>
        obtain ⟨rfl, q, rfl⟩ := hcut
        obtain ⟨b1, b2⟩ := stays_le hxn keep
        rw [← hst] at b1 b2
        replace s3 := s3.drewN q
        obtain ⟨W3, hW3⟩ : ∃ W3, W3 = W.drewN q := ⟨_, rfl⟩
        rw [← hW3] at s3 ⊢
        replace hW3 := Lib.hid hW3
        replace hst := Lib.hid hst
        clear he hnext d0 d1
        have ⟨d0, d1⟩ := cells2 (s3.one 4 rfl)
        have fz := fun i => frz_of (i := i) (s3.one 4 rfl)
        have xlt := heap_lt (s3.one 4 rfl)
        have hcap := hxo.out.le
        have n1 : (st : Int) ≤ (x.c : Int) := by omega
        have n2 : (0 : Int) ≤ (st : Int) := by omega
        have s4 := Lib.hid (s3.store 4 (j := 0) rfl (.slice x.a st st))
        obtain ⟨sec, hsec⟩ : ∃ sec, sec = (st - 1) / 32 * 32 := ⟨_, rfl⟩
        obtain ⟨f, hf'⟩ : ∃ f, f = max x.n sec := ⟨_, rfl⟩
        go_upto_region 6 with fail
        refine Sp.gen s4.out ?_
        clear s4 s3 d0 d1 fz xlt
        intro W4 s4
        simp only [List.set_cons_succ, List.set_cons_zero] at s4
        go_cut [9] (fun v wc => v = iv sec ∧ wc = W4)
        case first =>
          replace hf' := Lib.hid hf'
          replace hsec := Lib.hid hsec
          go_wp2_with fail
          all_goals go_meet
          all_goals exact ⟨congrArg (Value.int .i64) (by have := hsec.out; omega), rfl⟩
        case rest =>
          obtain ⟨rfl, rfl⟩ := hcut
          have ⟨d0, d1⟩ := cells2 (s4.one 4 rfl)
          have hfs : f ≤ st := by omega
          replace hsec := Lib.hid hsec
          replace hf' := Lib.hid hf'
          go_upto_region 7 with fail
          go_cut [10] (fun v wc' => v = iv f ∧ wc' = wc)
          case first =>
            go_wp2_with fail
            all_goals go_meet
            all_goals exact ⟨congrArg (Value.int .i64) (by have := hf'.out; omega), rfl⟩
          case rest =>
            obtain ⟨rfl, rfl⟩ := hcut
            clear d0 d1
            have hin : Hid (InRel b r w.heap.size k tear o oi' fu lf (A ++ B) Dn x st f H w (iv f) wc) := by
              refine ⟨f, x.H, rfl, Nat.le_refl _, hfs, ?_, s4⟩
              have hll : (x.d.take st).length = st := by rw [List.length_take]; omega
              rw [xr_start (by omega)]
              have := hxo.out.cut (i := st) (j := st) b2 (Nat.le_refl _) (by omega)
              rwa [Nat.mul_one, ← List.map_take] at this
            have hst1 : st ≤ 1073741824 := by omega
            clear s4
            go_wp2_with fail
            go_loopw [10] (fun v wr => InRel b r w.heap.size k tear o oi' fu lf (A ++ B) Dn x st f H w v wr) (fun v _ => st - (intOf v).toNat)
            case atStart => exact hin.out
            case round =>
              clear hin
              obtain ⟨i, Hx, rfl, hfi, hist, hv, hs⟩ := hrel
              have d0 := (cells2 (hs.one 4 rfl)).1
              have i0 : (0 : Int) ≤ (i : Int) := by omega
              by_cases hlt : i < st
              · have i1 : (i : Int) < (st : Int) := by omega
                have i2 : (i : Int) ≤ 1073741824 := by omega
                obtain ⟨y, hy⟩ : ∃ y, (x.d.take st)[i]? = some y := ⟨_, List.getElem?_eq_getElem (by rw [List.length_take]; omega)⟩
                obtain ⟨x1, x2⟩ := xr_step (t := tear) hfi hy
                obtain ⟨g, hg, hcell, hfz⟩ := hv.at (hs.own 5 rfl) (i := i) (v := Ytebmbfiiadffjaa.u8 y) (by rw [List.getElem?_map, x1]; rfl)
                have hbx := bx8 y tear
                rw [hg] at d0
                have hv' : SlAt 5 1 (some ⟨g, 0, none⟩) st st ((xr f i tear (x.d.take st)).map Ytebmbfiiadffjaa.u8) Hx := by rw [← hg]; exact hv
                obtain ⟨H', hv2, hs2⟩ := hs.putAt 5 rfl hv' i (Ytebmbfiiadffjaa.u8 (y ^^^ tear))
                rw [← List.map_set, x2, ← hg] at hv2
                replace hg := Lib.hid hg
                replace hv2 := Lib.hid hv2
                replace hs2 := Lib.hid hs2
                clear hv hv' hs x1 x2 hy
                go_wp2_with fail
                exact ⟨⟨i + 1, H', by go_num, by omega, hlt, hv2.out, hs2.out⟩, by simp [intOf]; omega⟩
              · obtain rfl : i = st := by omega
                have hv2 := Lib.hid hv
                have fz := fun i => frz_of (i := i) (hs.one 4 rfl)
                have xlt := heap_lt (hs.one 4 rfl)
                have d1 := (cells2 (hs.one 4 rfl)).2
                have s6 := hs.store 4 (j := 1) rfl (iv i)
                simp only [List.set_cons_succ, List.set_cons_zero] at s6
                replace s6 := Lib.hid s6
                clear hv hs hlt
                go_wp2_with fail
                refine ⟨cr_next hit'.out hD.out hL.out hDn.out hpk.out hst.out (by rw [hf'.out, hsec.out]) hfs b2 hv2.out s6.out, ?_⟩
                rw [hml.out, hit'.out.left (s6.out.one 3 rfl) (s6.out.own 0 rfl).h1]
                simp
end Go.Proofs.Ytebmbfiiadffjaa
