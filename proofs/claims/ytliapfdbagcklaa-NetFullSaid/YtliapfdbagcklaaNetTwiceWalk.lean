import Derived.Test.YtliapfdbagcklaaNetOrderWalk
namespace Go.Proofs.Ytliapfdbagcklaa
open Go.RowKit
attribute [local go_sem ↓] Go.wp_at_zero Go.wp_at_succ

theorem and_65535 (x : Int) : bits .and .i64 x 65535 = x % 65536 := by
  show IntKind.i64.wrap ((BitVec.ofInt 64 x &&& BitVec.ofInt 64 65535).toNat : Int) = _
  have h1 : (BitVec.ofInt 64 65535).toNat = 2 ^ 16 - 1 := by decide
  rw [BitVec.toNat_and, h1, Nat.and_two_pow_sub_one_eq_mod, BitVec.toNat_ofInt, IntKind.wrap_i64]
  omega

def keyOf (x : It) : Int × Option (List UInt8) := (x.f, some x.d)
/-- The messages under way are l's, those with the numbers fs. -/
def Tells (l : List (List UInt8)) (fs : List Nat) (its : List It) : Prop := its.map keyOf = fs.map (fun (i : Nat) => ((i : Int), l[i]?))
theorem Tells.len {l : List (List UInt8)} {fs : List Nat} {its : List It} (h : Tells l fs its) : its.length = fs.length := by simpa using congrArg List.length h
theorem Tells.get {l : List (List UInt8)} {fs : List Nat} {its : List It} (h : Tells l fs its) {j : Nat} {x : It} (hx : its[j]? = some x) : ∃ i, fs[j]? = some i ∧ x.f = (i : Int) ∧ l[i]? = some x.d := by
  have h1 : (its.map keyOf)[j]? = some (keyOf x) := by rw [List.getElem?_map, hx]; rfl
  rw [h, List.getElem?_map] at h1
  obtain ⟨i, hi, he⟩ := Option.map_eq_some_iff.1 h1
  simp only [keyOf, Prod.mk.injEq] at he
  exact ⟨i, hi, he.1.symm, he.2⟩
theorem Tells.snoc {l : List (List UInt8)} {fs : List Nat} {its : List It} (h : Tells l fs its) {x : It} {i : Nat} (hf : x.f = (i : Int)) (hd : l[i]? = some x.d) : Tells l (fs ++ [i]) (its ++ [x]) := by
  unfold Tells at *
  rw [List.map_append, List.map_append, h]
  simp [keyOf, hf, hd]
theorem map_erase {α β : Type} (f : α → β) : ∀ (l : List α) (i : Nat), (l.eraseIdx i).map f = (l.map f).eraseIdx i
  | [], _ => rfl
  | _ :: _, 0 => rfl
  | _ :: l, i + 1 => by simp [map_erase f l i]
theorem Tells.erase {l : List (List UInt8)} {fs : List Nat} {its : List It} (h : Tells l fs its) (i : Nat) : Tells l (fs.eraseIdx i) (its.eraseIdx i) := by
  unfold Tells at *
  rw [map_erase, map_erase, h]

def twiceRow (n k : Nat) : List Nat := (List.range n).eraseIdx k ++ [k] ++ [k]
theorem range_erase_count (n k : Nat) : ((List.range n).eraseIdx k).count k = 0 := by
  rw [List.count_eq_zero]
  intro h
  rw [List.eraseIdx_eq_take_drop_succ] at h
  rcases List.mem_append.1 h with h | h
  · obtain ⟨j, hj, he⟩ := List.mem_iff_getElem.1 h
    simp at he hj; omega
  · obtain ⟨j, hj, he⟩ := List.mem_iff_getElem.1 h
    simp at he; omega
theorem twiceRow_len {n k : Nat} (h : k < n) : (twiceRow n k).length = n + 1 := by
  unfold twiceRow; simp [List.length_eraseIdx, h]; omega
theorem twiceRow_count (n k : Nat) : (twiceRow n k).count k = 2 := by
  unfold twiceRow; rw [List.count_append, List.count_append, range_erase_count]; simp
theorem twiceRow_last {n k : Nat} (h : k < n) : (twiceRow n k)[n]? = some k := by
  have hl := twiceRow_len h
  unfold twiceRow at *
  rw [List.getElem?_append_right (by simp at hl ⊢; omega)]
  simp at hl ⊢
  rw [show n - (((List.range n).eraseIdx k).length + 1) = 0 by omega]
  rfl
theorem twiceRow_lt {n k i : Nat} (h : k < n) (hi : i ∈ twiceRow n k) : i < n := by
  unfold twiceRow at hi
  simp at hi
  rcases hi with hi | rfl
  · exact List.mem_range.1 (List.mem_of_mem_eraseIdx hi)
  · exact h

def TwRel2 (l : List (List UInt8)) (b : Nat) (w : World) (v : Value) (wr : World) : Prop :=
  ∃ (k : Nat) (its : List It) (H : Heaplet), k ≤ l.length ∧ v = .int .i64 k ∧ Tells l (List.range k) its ∧ NetRep 55 b its H ∧ Step w [] wr H
def lastOf (fs : List Nat) (i : Nat) : Int := if i = 0 then -1 else ((fs.getD (i - 1) 0 : Nat) : Int)
def TwRel3 (l : List (List UInt8)) (k b : Nat) (w : World) (v10 v11 v12 : Value) (wr : World) : Prop :=
  ∃ (i : Nat) (its : List It) (H : Heaplet), i ≤ l.length + 1 ∧ v12 = .int .i64 i ∧ v10 = .int .i64 (((twiceRow l.length k).take i).count k : Nat) ∧ v11 = .int .i64 (lastOf (twiceRow l.length k) i) ∧
    Tells l ((twiceRow l.length k).drop i) its ∧ NetRep 55 b its H ∧ Step w [] wr H
def TwiPost (b : Nat) (l : List It) (i : Nat) (w : World) (H : Heaplet) (e : Ending) (w' : World) : Prop :=
  ∃ x y H', l[i]? = some y ∧ e = .returned (.bool true) ∧ x.f = y.f ∧ x.t = y.t ∧ x.d = y.d ∧ NetRep 55 b (l ++ [x]) H' ∧ Step w H w' H'
theorem twice_ok (b : Nat) (l : List It) (H : Heaplet) (pick : Int) (i : Nat) (w : World) (hn : NetRep 55 b l H) (hw : Own w H) (hl : l.length < 1024) (hp : pick ≤ 9223372036854775807) (hd : ∀ x ∈ l, x.d.length ≤ 140737488355328) (h0 : l ≠ []) (hi : pickOf l.length pick = i) :
    Calls Try.prog 15 #[.pointer (some ⟨b, 0, none⟩), .int .i64 pick] w (TwiPost b l i w H) :=
  (twice_any b l H pick w hn hw (by omega) hp hd).mono fun e w' hpst => by
    rcases hpst with ⟨h1, _⟩ | ⟨j, hj, h1, h2⟩
    · exact absurd h1 h0
    · obtain rfl : j = i := h1.trans hi
      rcases h2 with ⟨h3, _⟩ | ⟨_, he, x, H', a1, a2, a3, a4, a5⟩
      · omega
      · exact ⟨x, l[j], H', List.getElem?_eq_getElem hj, he, a1, a2, a3, a4, a5⟩
theorem pickOf_nat {n k : Nat} (h : k < n) : pickOf n (k : Int) = k := by
  unfold pickOf; rw [show max 0 (k : Int) = (k : Int) by omega, Int.toNat_natCast]; exact Nat.mod_eq_of_lt h

theorem take_snoc_get {α : Type} {l : List α} {i : Nat} {x : α} (h : l[i]? = some x) : l.take (i + 1) = l.take i ++ [x] := by
  obtain ⟨hi, rfl⟩ := List.getElem?_eq_some_iff.1 h
  exact List.take_succ_eq_append_getElem hi
theorem lastOf_succ {fs : List Nat} {i f : Nat} (h : fs[i]? = some f) : lastOf fs (i + 1) = (f : Int) := by
  unfold lastOf; rw [if_neg (by omega), Nat.add_sub_cancel, List.getD_eq_getElem?_getD, h]; rfl
set_option maxHeartbeats 2000000 in
set_option maxRecDepth 100000 in
theorem netTwice_walk (a : Option Addr) (n c : Nat) (l : List (List UInt8)) (A : Nat → Option Addr) (C : Nat → Nat) (at_ : Int) (w : World) (h : RdRows w a n c l A C) (hr : ∀ x ∈ l, x.length ≤ 140737488351232) (_ : (Lit.int .i64 at_).wf = true) :
    Calls Try.prog 4 #[.slice a n c, .int .i64 at_] w fun e w' => e = .returned (.bool true) ∧ Below w.heap.size w w' := by
  suffices hs : Calls Try.prog 4 #[.slice a n c, .int .i64 at_] w (LawPost w) from hs.mono fun e w' hp => ⟨hp.1, hp.2.nil_below⟩
  have hn := h.1
  subst hn
  have hmax : l.length ≤ 9223372036854775807 := by have := h.2.1; have := h.2.2.1; unfold maxLen at this; omega
  replace h := Lib.hid h
  have hand := and_65535 at_
  go_enter Try.func4, Try.ntmps4
  go_wp2_with fail
  go_loop [5, 6] (fun v3 v4 => ∃ k : Nat, k ≤ l.length ∧ v4 = .int .i64 k ∧ v3 = .int .i64 (tot (l.take k)) ∧ tot (l.take k) ≤ 4000) (fun _ v4 => l.length - (intOf v4).toNat)
  case atStart => exact ⟨0, Nat.zero_le _, rfl, rfl, by simp [tot]⟩
  case round =>
    obtain ⟨k, hk, rfl, rfl, ht⟩ := hrel
    have b1 : (0 : Int) ≤ (k : Int) := by omega
    by_cases hlt : k < l.length
    · obtain ⟨b, off, ha, hc, hrd, hb⟩ := rows_at h.out (Step.refl (Own.nil w)) hlt
      have hlen : l[k].length ≤ 140737488351232 := hr _ (List.getElem_mem hlt)
      have hts := Lib.hid (tot_take_succ hlt)
      subst ha
      have b2 : (k : Int) < (l.length : Int) := by omega
      clear hrd hr hand
      generalize hq : tot (l.take k) = q at *
      replace hq := Lib.hid hq
      by_cases hbig : q + 5 + l[k].length ≤ 4000
      · go_wp2_with fail
        exact ⟨⟨k + 1, by omega, by go_num, by rw [hts.out]; go_num, by rw [hts.out]; exact hbig⟩, by simp [intOf]; omega⟩
      · go_wp2_with fail
        go_ret
        exact ⟨rfl, Step.refl (Own.nil _)⟩
    · have hkl : k = l.length := by omega
      have htl : tot l ≤ 4000 := by rw [← List.take_length (l := l), ← hkl]; exact ht
      have hlen : l.length ≤ 800 := by have := tot_len l; omega
      have hmem : Hid (∀ x ∈ l, x.length ≤ 4000) := fun x hx => Nat.le_trans (tot_mem hx) htl
      have hlen' : (l.length : Int) ≤ 800 := by omega
      clear hr hkl ht htl hmax
      by_cases hl0 : l = []
      · have hl1 : ((l.length : Int) == 0) = true := by rw [hl0]; rfl
        replace hl0 := Lib.hid hl0
        go_wp2_with fail
        refine (known_any _).mono ?_
        rintro e w3 ⟨rfl, hs3⟩
        go_wp2
        go_ret
        exact ⟨rfl, hs3⟩
      have hpos : 0 < l.length := by rcases Nat.eq_zero_or_pos l.length with e | e; exact absurd (List.length_eq_zero_iff.1 e) hl0; exact e
      have hl1 : ((l.length : Int) == 0) = false := beq_eq_false_iff_ne.2 (by omega)
      go_wp2_with fail
      refine (new_any _).mono ?_
      rintro e w1 ⟨rfl, rfl⟩
      go_wp2_with fail
      go_loopw [8] (fun v wr => TwRel2 l w.heap.size w v wr) (fun v _ => l.length - (intOf v).toNat)
      case atStart => exact ⟨0, [], _, Nat.zero_le _, rfl, rfl, netRep_new _ _, (Step.refl (Own.nil w)).alloc _⟩
      case round =>
        obtain ⟨k, its, H, hk, rfl, hsent, hn, hs⟩ := hrel
        replace hsent := Lib.hid hsent
        have b1 : (0 : Int) ≤ (k : Int) := by omega
        have hil := Lib.hid (hsent.out.len.trans (List.length_range ..))
        by_cases hlt : k < l.length
        · obtain ⟨b, off, ha, hc, hrd, hb⟩ := rows_at h.out hs hlt
          subst ha
          have b2 : (k : Int) < (l.length : Int) := by omega
          replace hrd := Lib.hid hrd
          go_wp2_with fail
          refine (send_ok w.heap.size its _ _ 1 _ _ _ l[k] _ hn hs.own hrd.out (by have := hmem.out _ (List.getElem_mem hlt); omega) (by have := hil.out; omega)).mono ?_
          rintro e w2 ⟨x, H2, rfl, hxf, -, hxd, hn2, hs2⟩
          replace hxf := Lib.hid hxf
          replace hxd := Lib.hid hxd
          go_wp2_with fail
          exact ⟨⟨k + 1, its ++ [x], H2, by omega, by go_num, by rw [List.range_succ]; exact hsent.out.snoc hxf.out (by rw [hxd.out]; exact List.getElem?_eq_getElem hlt), hn2, hs.trans hs2⟩, by simp [intOf]; omega⟩
        · have hkl : k = l.length := by omega
          subst hkl
          have hK : ∃ K : Nat, K < l.length ∧ at_ % 65536 % (l.length : Int) = (K : Int) := by
            have p1 := Int.emod_nonneg (at_ % 65536) (show (l.length : Int) ≠ 0 by omega)
            have p2 := Int.emod_lt_of_pos (at_ % 65536) (show (0 : Int) < (l.length : Int) by omega)
            exact ⟨(at_ % 65536 % (l.length : Int)).toNat, by omega, by omega⟩
          obtain ⟨K, hKl, hKe⟩ := hK
          have p3 : 0 ≤ at_ % 65536 := by omega
          have p4 : at_ % 65536 ≤ 65535 := by omega
          have p5 : (0 : Int) < (l.length : Int) := by omega
          go_wp2_with fail
          have hne : its ≠ [] := by intro e; have := hil.out; rw [e] at this; simp at this; omega
          have hdl : Hid (∀ x ∈ its, x.d.length ≤ 4000) := fun x hx => by
            obtain ⟨j, hj, rfl⟩ := List.mem_iff_getElem.1 hx
            obtain ⟨i, _, _, hd⟩ := hsent.out.get (List.getElem?_eq_getElem hj)
            exact hmem.out _ (List.mem_of_getElem? hd)
          refine (twice_ok w.heap.size its _ _ K _ hn hs.own (by have := hil.out; omega) (by omega) (fun x hx => by have := hdl.out x hx; omega) hne (pickOf_nat (by have := hil.out; omega))).mono ?_
          rintro e w2 ⟨x, y, H2, hy, rfl, hxf, -, hxd, hn2, hs2⟩
          obtain ⟨i0, hi0, hyf, hyd⟩ := hsent.out.get hy
          obtain rfl : K = i0 := by rw [List.getElem?_range hKl] at hi0; exact Option.some.inj hi0
          have hs3 := hsent.out.snoc (hxf.trans hyf) (by rw [hxd]; exact hyd)
          have hil3 := Lib.hid hs3.len
          replace hs3 := Lib.hid hs3
          have hss := Lib.hid (hs.trans hs2)
          clear hi0 hyf hyd hxf hxd hne hdl hs hs2 hn
          have hy2 : (its ++ [x])[K]? = some y := by rw [List.getElem?_append_left (by have := hil.out; omega)]; exact hy
          replace hy := Lib.hid hy2
          clear hy2
          go_wp2_with fail
          refine (len_eq w.heap.size _ H2 _ (l.length + 1) hn2 hss.out.own (by rw [hil3.out, List.length_append, List.length_range]; rfl)).mono ?_
          rintro e w3 ⟨rfl, rfl⟩
          go_wp2_with fail
          have hne : its ++ [x] ≠ [] := by simp
          refine (late_ok w.heap.size _ _ _ K _ hn2 hss.out.own (by have := hil3.out; simp at this ⊢; omega) (by omega) hne (pickOf_nat (by have := hil.out; simp; omega))).mono ?_
          rintro e w4 ⟨y', H4, hy', rfl, hn4, hs4⟩
          obtain rfl : y = y' := by rw [hy.out] at hy'; exact Option.some.inj hy'
          obtain ⟨i0, hi0, hyf, hyd⟩ := hs3.out.get hy.out
          obtain rfl : K = i0 := by rw [List.getElem?_append_left (by simpa using hKl), List.getElem?_range hKl] at hi0; exact Option.some.inj hi0
          have hs5 : Tells l (twiceRow l.length K) ((its ++ [x]).eraseIdx K ++ [y]) := by
            have := (hs3.out.erase K).snoc hyf hyd
            rwa [List.eraseIdx_append_of_lt_length (by simpa using hKl)] at this
          generalize (its ++ [x]).eraseIdx K ++ [y] = its at *
          have hil5 := Lib.hid (hs5.len.trans (twiceRow_len hKl))
          replace hs5 := Lib.hid hs5
          have hss := Lib.hid (hss.out.trans hs4)
          clear hi0 hyf hyd hne hy' hs4 hn2
          go_wp2_with fail
          go_loopw [10, 11, 12] (fun v10 v11 v12 wr => TwRel3 l K w.heap.size w v10 v11 v12 wr) (fun _ _ v _ => l.length + 1 - (intOf v).toNat)
          case atStart => exact ⟨0, _, H4, Nat.zero_le _, rfl, by simp, rfl, hs5.out, hn4, hss.out⟩
          case round =>
            clear hil hsent hs3 hil3 hs5 hil5 hss hy hn4
            obtain ⟨i, its, H, hi, rfl, rfl, rfl, hsent, hn, hs⟩ := hrel
            replace hsent := Lib.hid hsent
            have b1 : (0 : Int) ≤ (i : Int) := by omega
            by_cases hlt : i ≤ l.length
            · have b2 : (i : Int) ≤ (l.length : Int) := by omega
              have hil := Lib.hid hsent.out.len
              have hne : its ≠ [] := by intro e; have := hil.out; rw [e, List.length_drop, twiceRow_len hKl] at this; simp at this; omega
              go_wp2_with fail
              refine (give_ok w.heap.size its _ 0 0 _ hn hs.own (by have := hil.out; rw [List.length_drop, twiceRow_len hKl] at this; omega) (by simp) hne (by simp [pickOf])).mono ?_
              rintro e w2 ⟨x, H2, hx, rfl, hxok, hn2, hs2⟩
              obtain ⟨f, hf, hxf, hxd⟩ := hsent.out.get hx
              rw [List.getElem?_drop, Nat.add_zero] at hf
              have hfl : f < l.length := twiceRow_lt hKl (List.mem_of_getElem? hf)
              have hxd' : x.d = l[f] := by rw [List.getElem?_eq_getElem hfl] at hxd; exact (Option.some.inj hxd).symm
              replace hxd := Lib.hid hxd'
              replace hx := Lib.hid hx
              replace hf := Lib.hid hf
              have c1 : (0 : Int) ≤ (f : Int) := by omega
              have c2 : (f : Int) < (l.length : Int) := by omega
              clear hxd' hne
              go_wp2_with fail
              refine Step.gen ((hs.trans hs2).alloc _) ?_
              intro W s
              obtain ⟨M, hM⟩ : ∃ M, M = w2.heap.size := ⟨_, rfl⟩
              rw [← hM] at s ⊢
              obtain ⟨b', off', ha', hc', hrd', hb'⟩ := rows_at h.out s hfl
              subst ha'
              clear hs hs2 hM
              have ⟨y0, y1, y2⟩ := cells3 s.own.h0
              have hx2 := Lib.hid (SlRep.rdBytes hxok s.own.tail.right)
              replace hrd' := Lib.hid hrd'
              have e1 : decide ((f : Int) < 0) = false := decide_eq_false (by omega)
              have e2 : decide (l.length ≤ f) = false := decide_eq_false (by omega)
              refine wp_region_J 22 (fun w' => w' = W.drew) (by kernel_rfl) ?_ (fun hF => ?_)
              · (try dsimp only)
                all_goals (rfl)
              refine wpAnyJ_take (i := 0) (oi := { dst := some 86, op := Go.Op.move (Go.Operand.tmp 14), type := 4, pos := "parts.go:35", after := #[], guard := none }) (v := ?_) [1, 2, 7, 14, 22] rfl (by kernel_rfl) (by kernel_rfl) (by kernel_rfl) (by kernel_rfl) (by kernel_rfl) (fun _ _ _ h => h) (by first | exact hF | exact hF (by kernel_rfl)) (fun w hFw => ?_) (by rfl) ?_
              rotate_left
              · (try dsimp only at hFw)
                first | (go_simp; done) | (go_simp; with_reducible rfl) | (go_split_ands; go_simp; done)
              try simp only [Act.put, List.setIfInBounds_toArray, List.set_cons_zero, List.set_cons_succ]
              refine wpAnyJ_take (i := 1) (oi := { dst := some 87, op := Go.Op.unOp Go.UnOp.not 4 (Go.Operand.tmp 86), type := 4, pos := "parts.go:35", after := #[{ on := 0, ground := Go.Ground.data }], guard := none }) (v := ?_) [2, 7, 14, 22] rfl (by kernel_rfl) (by kernel_rfl) (by kernel_rfl) (by kernel_rfl) (by kernel_rfl) (fun _ _ _ h => h) (by first | exact hF | exact hF (by kernel_rfl)) (fun w hFw => ?_) (by rfl) ?_
              rotate_left
              · (try dsimp only at hFw)
                first | (go_simp; done) | (go_simp; with_reducible rfl) | (go_split_ands; go_simp; done)
              try simp only [Act.put, List.setIfInBounds_toArray, List.set_cons_zero, List.set_cons_succ]
              refine wpAnyJ_take (i := 2) (oi := { dst := some 88, op := Go.Op.move (Go.Operand.tmp 87), type := 4, pos := "parts.go:35", after := #[{ on := 1, ground := Go.Ground.data }], guard := none }) (v := ?_) [7, 14, 22] rfl (by kernel_rfl) (by kernel_rfl) (by kernel_rfl) (by kernel_rfl) (by kernel_rfl) (fun _ _ _ h => h) (by first | exact hF | exact hF (by kernel_rfl)) (fun w hFw => ?_) (by rfl) ?_
              rotate_left
              · (try dsimp only at hFw)
                first | (go_simp; done) | (go_simp; with_reducible rfl) | (go_split_ands; go_simp; done)
              try simp only [Act.put, List.setIfInBounds_toArray, List.set_cons_zero, List.set_cons_succ]
              refine wpAnyJ_take (i := 3) (oi := { dst := some 89, op := Go.Op.fieldAddr 28 (Go.Operand.tmp 13) 0, type := 0, pos := "parts.go:35", after := #[{ on := 2, ground := Go.Ground.guard }], guard := some (2, false) }) (v := ?_) [4, 5, 6, 7, 14, 22] rfl (by kernel_rfl) (by kernel_rfl) (by kernel_rfl) (by kernel_rfl) (by kernel_rfl) (fun _ _ _ h => h) (by first | exact hF | exact hF (by kernel_rfl)) (fun w hFw => ?_) (by rfl) ?_
              rotate_left
              · (try dsimp only at hFw)
                first | (go_simp; done) | (go_simp; with_reducible rfl) | (go_split_ands; go_simp; done)
              try simp only [Act.put, List.setIfInBounds_toArray, List.set_cons_zero, List.set_cons_succ]
              refine wpAnyJ_take (i := 4) (oi := { dst := some 90, op := Go.Op.load 3 (Go.Operand.tmp 89), type := 3, pos := "parts.go:35", after := #[{ on := 3, ground := Go.Ground.data }, { on := 2, ground := Go.Ground.guard }], guard := some (2, false) }) (v := ?_) [5, 6, 7, 14, 22] rfl (by kernel_rfl) (by kernel_rfl) (by kernel_rfl) (by kernel_rfl) (by kernel_rfl) (fun _ _ _ h => h) (by first | exact hF | exact hF (by kernel_rfl)) (fun w hFw => ?_) (by rfl) ?_
              rotate_left
              · (try dsimp only at hFw)
                first | (go_simp; done) | (go_simp; with_reducible rfl) | (go_split_ands; go_simp; done)
              try simp only [Act.put, List.setIfInBounds_toArray, List.set_cons_zero, List.set_cons_succ]
              refine wpAnyJ_take (i := 5) (oi := { dst := some 91, op := Go.Op.binOp Go.BinOp.lss 3 (Go.Operand.tmp 90) (Go.Operand.const (Go.Value.int Go.IntKind.i64 0)) 3, type := 4, pos := "parts.go:35", after := #[{ on := 4, ground := Go.Ground.data }, { on := 2, ground := Go.Ground.guard }], guard := some (2, false) }) (v := ?_) [6, 7, 14, 22] rfl (by kernel_rfl) (by kernel_rfl) (by kernel_rfl) (by kernel_rfl) (by kernel_rfl) (fun _ _ _ h => h) (by first | exact hF | exact hF (by kernel_rfl)) (fun w hFw => ?_) (by rfl) ?_
              rotate_left
              · (try dsimp only at hFw)
                first | (go_simp; done) | (go_simp; with_reducible rfl) | (go_split_ands; go_simp; done)
              try simp only [Act.put, List.setIfInBounds_toArray, List.set_cons_zero, List.set_cons_succ]
              refine wpAnyJ_take (i := 6) (oi := { dst := some 92, op := Go.Op.pick (Go.Operand.tmp 88) (Go.Operand.const (Go.Value.bool true)) (Go.Operand.tmp 91), type := 4, pos := "parts.go:35", after := #[{ on := 2, ground := Go.Ground.data }, { on := 5, ground := Go.Ground.data }], guard := none }) (v := ?_) [7, 14, 22] rfl (by kernel_rfl) (by kernel_rfl) (by kernel_rfl) (by kernel_rfl) (by kernel_rfl) (fun _ _ _ h => h) (by first | exact hF | exact hF (by kernel_rfl)) (fun w hFw => ?_) (by rfl) ?_
              rotate_left
              · (try dsimp only at hFw)
                first | (go_simp; done) | (go_simp; with_reducible rfl) | (go_split_ands; go_simp; done)
              try simp only [Act.put, List.setIfInBounds_toArray, List.set_cons_zero, List.set_cons_succ]
              refine wpAnyJ_take (i := 7) (oi := { dst := some 93, op := Go.Op.move (Go.Operand.tmp 92), type := 4, pos := "parts.go:35", after := #[{ on := 6, ground := Go.Ground.data }, { on := 2, ground := Go.Ground.chain }], guard := none }) (v := ?_) [14, 22] rfl (by kernel_rfl) (by kernel_rfl) (by kernel_rfl) (by kernel_rfl) (by kernel_rfl) (fun _ _ _ h => h) (by first | exact hF | exact hF (by kernel_rfl)) (fun w hFw => ?_) (by rfl) ?_
              rotate_left
              · (try dsimp only at hFw)
                first | (go_simp; done) | (go_simp; with_reducible rfl) | (go_split_ands; go_simp; done)
              try simp only [Act.put, List.setIfInBounds_toArray, List.set_cons_zero, List.set_cons_succ]
              refine wpAnyJ_take (i := 8) (oi := { dst := some 94, op := Go.Op.fieldAddr 28 (Go.Operand.tmp 13) 0, type := 0, pos := "parts.go:35", after := #[{ on := 7, ground := Go.Ground.guard }], guard := some (7, false) }) (v := ?_) [9, 12, 13, 14, 22] rfl (by kernel_rfl) (by kernel_rfl) (by kernel_rfl) (by kernel_rfl) (by kernel_rfl) (fun _ _ _ h => h) (by first | exact hF | exact hF (by kernel_rfl)) (fun w hFw => ?_) (by rfl) ?_
              rotate_left
              · (try dsimp only at hFw)
                first | (go_simp; done) | (go_simp; with_reducible rfl) | (go_split_ands; go_simp; done)
              try simp only [Act.put, List.setIfInBounds_toArray, List.set_cons_zero, List.set_cons_succ]
              refine wpAnyJ_take (i := 9) (oi := { dst := some 95, op := Go.Op.load 3 (Go.Operand.tmp 94), type := 3, pos := "parts.go:35", after := #[{ on := 8, ground := Go.Ground.data }, { on := 7, ground := Go.Ground.guard }], guard := some (7, false) }) (v := ?_) [12, 13, 14, 22] rfl (by kernel_rfl) (by kernel_rfl) (by kernel_rfl) (by kernel_rfl) (by kernel_rfl) (fun _ _ _ h => h) (by first | exact hF | exact hF (by kernel_rfl)) (fun w hFw => ?_) (by rfl) ?_
              rotate_left
              · (try dsimp only at hFw)
                first | (go_simp; done) | (go_simp; with_reducible rfl) | (go_split_ands; go_simp; done)
              try simp only [Act.put, List.setIfInBounds_toArray, List.set_cons_zero, List.set_cons_succ]
              refine wpAnyJ_take (i := 10) (oi := { dst := some 96, op := Go.Op.move (Go.Operand.tmp 0), type := 22, pos := "parts.go:35", after := #[{ on := 7, ground := Go.Ground.guard }], guard := some (7, false) }) (v := ?_) [11, 12, 13, 14, 22] rfl (by kernel_rfl) (by kernel_rfl) (by kernel_rfl) (by kernel_rfl) (by kernel_rfl) (fun _ _ _ h => h) (by first | exact hF | exact hF (by kernel_rfl)) (fun w hFw => ?_) (by rfl) ?_
              rotate_left
              · (try dsimp only at hFw)
                first | (go_simp; done) | (go_simp; with_reducible rfl) | (go_split_ands; go_simp; done)
              try simp only [Act.put, List.setIfInBounds_toArray, List.set_cons_zero, List.set_cons_succ]
              refine wpAnyJ_take (i := 11) (oi := { dst := some 97, op := Go.Op.call { callee := Go.Callee.builtin Go.Builtin.len, args := #[Go.Operand.tmp 96], argTypes := #[22] }, type := 3, pos := "parts.go:35", after := #[{ on := 10, ground := Go.Ground.data }, { on := 7, ground := Go.Ground.guard }], guard := some (7, false) }) (v := ?_) [12, 13, 14, 22] rfl (by kernel_rfl) (by kernel_rfl) (by kernel_rfl) (by kernel_rfl) (by kernel_rfl) (fun _ _ _ h => h) (by first | exact hF | exact hF (by kernel_rfl)) (fun w hFw => ?_) (by rfl) ?_
              rotate_left
              · (try dsimp only at hFw)
                first | (go_simp; done) | (go_simp; with_reducible rfl) | (go_split_ands; go_simp; done)
              try simp only [Act.put, List.setIfInBounds_toArray, List.set_cons_zero, List.set_cons_succ]
              refine wpAnyJ_take (i := 12) (oi := { dst := some 98, op := Go.Op.binOp Go.BinOp.geq 3 (Go.Operand.tmp 95) (Go.Operand.tmp 97) 3, type := 4, pos := "parts.go:35", after := #[{ on := 9, ground := Go.Ground.data }, { on := 11, ground := Go.Ground.data }, { on := 7, ground := Go.Ground.guard }], guard := some (7, false) }) (v := ?_) [13, 14, 22] rfl (by kernel_rfl) (by kernel_rfl) (by kernel_rfl) (by kernel_rfl) (by kernel_rfl) (fun _ _ _ h => h) (by first | exact hF | exact hF (by kernel_rfl)) (fun w hFw => ?_) (by rfl) ?_
              rotate_left
              · (try dsimp only at hFw)
                first | (go_simp; done) | (go_simp; with_reducible rfl) | (go_split_ands; go_simp; done)
              try simp only [Act.put, List.setIfInBounds_toArray, List.set_cons_zero, List.set_cons_succ]
              refine wpAnyJ_take (i := 13) (oi := { dst := some 99, op := Go.Op.pick (Go.Operand.tmp 93) (Go.Operand.const (Go.Value.bool true)) (Go.Operand.tmp 98), type := 4, pos := "parts.go:35", after := #[{ on := 7, ground := Go.Ground.data }, { on := 12, ground := Go.Ground.data }], guard := none }) (v := ?_) [14, 22] rfl (by kernel_rfl) (by kernel_rfl) (by kernel_rfl) (by kernel_rfl) (by kernel_rfl) (fun _ _ _ h => h) (by first | exact hF | exact hF (by kernel_rfl)) (fun w hFw => ?_) (by rfl) ?_
              rotate_left
              · (try dsimp only at hFw)
                first | (go_simp; done) | (go_simp; with_reducible rfl) | (go_split_ands; go_simp; done)
              try simp only [Act.put, List.setIfInBounds_toArray, List.set_cons_zero, List.set_cons_succ]
              refine wpAnyJ_take (i := 14) (oi := { dst := some 100, op := Go.Op.move (Go.Operand.tmp 99), type := 4, pos := "parts.go:35", after := #[{ on := 13, ground := Go.Ground.data }, { on := 7, ground := Go.Ground.chain }], guard := none }) (v := ?_) [22] rfl (by kernel_rfl) (by kernel_rfl) (by kernel_rfl) (by kernel_rfl) (by kernel_rfl) (fun _ _ _ h => h) (by first | exact hF | exact hF (by kernel_rfl)) (fun w hFw => ?_) (by rfl) ?_
              rotate_left
              · (try dsimp only at hFw)
                first | (go_simp; done) | (go_simp; with_reducible rfl) | (go_split_ands; go_simp; done)
              try simp only [Act.put, List.setIfInBounds_toArray, List.set_cons_zero, List.set_cons_succ]
              refine wpAnyJ_take (i := 15) (oi := { dst := some 101, op := Go.Op.fieldAddr 28 (Go.Operand.tmp 13) 2, type := 0, pos := "parts.go:35", after := #[{ on := 14, ground := Go.Ground.guard }], guard := some (14, false) }) (v := ?_) [16, 22] rfl (by kernel_rfl) (by kernel_rfl) (by kernel_rfl) (by kernel_rfl) (by kernel_rfl) (fun _ _ _ h => h) (by first | exact hF | exact hF (by kernel_rfl)) (fun w hFw => ?_) (by rfl) ?_
              rotate_left
              · (try dsimp only at hFw)
                first | (go_simp; done) | (go_simp; with_reducible rfl) | (go_split_ands; go_simp; done)
              try simp only [Act.put, List.setIfInBounds_toArray, List.set_cons_zero, List.set_cons_succ]
              refine wpAnyJ_take (i := 16) (oi := { dst := some 102, op := Go.Op.load 23 (Go.Operand.tmp 101), type := 23, pos := "parts.go:35", after := #[{ on := 15, ground := Go.Ground.data }, { on := 14, ground := Go.Ground.guard }], guard := some (14, false) }) (v := ?_) [22] rfl (by kernel_rfl) (by kernel_rfl) (by kernel_rfl) (by kernel_rfl) (by kernel_rfl) (fun _ _ _ h => h) (by first | exact hF | exact hF (by kernel_rfl)) (fun w hFw => ?_) (by rfl) ?_
              rotate_left
              · (try dsimp only at hFw)
                first | (go_simp; done) | (go_simp; with_reducible rfl) | (go_split_ands; go_simp; done)
              try simp only [Act.put, List.setIfInBounds_toArray, List.set_cons_zero, List.set_cons_succ]
              refine wpAnyJ_take (i := 17) (oi := { dst := some 103, op := Go.Op.move (Go.Operand.tmp 0), type := 22, pos := "parts.go:35", after := #[{ on := 14, ground := Go.Ground.guard }], guard := some (14, false) }) (v := ?_) [20, 21, 22] rfl (by kernel_rfl) (by kernel_rfl) (by kernel_rfl) (by kernel_rfl) (by kernel_rfl) (fun _ _ _ h => h) (by first | exact hF | exact hF (by kernel_rfl)) (fun w hFw => ?_) (by rfl) ?_
              rotate_left
              · (try dsimp only at hFw)
                first | (go_simp; done) | (go_simp; with_reducible rfl) | (go_split_ands; go_simp; done)
              try simp only [Act.put, List.setIfInBounds_toArray, List.set_cons_zero, List.set_cons_succ]
              refine wpAnyJ_take (i := 18) (oi := { dst := some 104, op := Go.Op.fieldAddr 28 (Go.Operand.tmp 13) 0, type := 0, pos := "parts.go:35", after := #[{ on := 14, ground := Go.Ground.guard }], guard := some (14, false) }) (v := ?_) [19, 20, 21, 22] rfl (by kernel_rfl) (by kernel_rfl) (by kernel_rfl) (by kernel_rfl) (by kernel_rfl) (fun _ _ _ h => h) (by first | exact hF | exact hF (by kernel_rfl)) (fun w hFw => ?_) (by rfl) ?_
              rotate_left
              · (try dsimp only at hFw)
                first | (go_simp; done) | (go_simp; with_reducible rfl) | (go_split_ands; go_simp; done)
              try simp only [Act.put, List.setIfInBounds_toArray, List.set_cons_zero, List.set_cons_succ]
              refine wpAnyJ_take (i := 19) (oi := { dst := some 105, op := Go.Op.load 3 (Go.Operand.tmp 104), type := 3, pos := "parts.go:35", after := #[{ on := 18, ground := Go.Ground.data }, { on := 14, ground := Go.Ground.guard }], guard := some (14, false) }) (v := ?_) [20, 21, 22] rfl (by kernel_rfl) (by kernel_rfl) (by kernel_rfl) (by kernel_rfl) (by kernel_rfl) (fun _ _ _ h => h) (by first | exact hF | exact hF (by kernel_rfl)) (fun w hFw => ?_) (by rfl) ?_
              rotate_left
              · (try dsimp only at hFw)
                first | (go_simp; done) | (go_simp; with_reducible rfl) | (go_split_ands; go_simp; done)
              try simp only [Act.put, List.setIfInBounds_toArray, List.set_cons_zero, List.set_cons_succ]
              refine wpAnyJ_take (i := 20) (oi := { dst := some 106, op := Go.Op.indexAddr 22 (Go.Operand.tmp 103) (Go.Operand.tmp 105), type := 0, pos := "parts.go:35", after := #[{ on := 17, ground := Go.Ground.data }, { on := 19, ground := Go.Ground.data }, { on := 14, ground := Go.Ground.guard }], guard := some (14, false) }) (v := ?_) [21, 22] rfl (by kernel_rfl) (by kernel_rfl) (by kernel_rfl) (by kernel_rfl) (by kernel_rfl) (fun _ _ _ h => h) (by first | exact hF | exact hF (by kernel_rfl)) (fun w hFw => ?_) (by rfl) ?_
              rotate_left
              · (try dsimp only at hFw)
                first | (go_simp; done) | (go_simp; with_reducible rfl) | (go_split_ands; go_simp; done)
              try simp only [Act.put, List.setIfInBounds_toArray, List.set_cons_zero, List.set_cons_succ]
              refine wpAnyJ_take (i := 21) (oi := { dst := some 107, op := Go.Op.load 23 (Go.Operand.tmp 106), type := 23, pos := "parts.go:35", after := #[{ on := 20, ground := Go.Ground.data }, { on := 14, ground := Go.Ground.guard }], guard := some (14, false) }) (v := ?_) [22] rfl (by kernel_rfl) (by kernel_rfl) (by kernel_rfl) (by kernel_rfl) (by kernel_rfl) (fun _ _ _ h => h) (by first | exact hF | exact hF (by kernel_rfl)) (fun w hFw => ?_) (by rfl) ?_
              rotate_left
              · (try dsimp only at hFw)
                first | (go_simp; done) | (go_simp; with_reducible rfl) | (go_split_ands; go_simp; done)
              try simp only [Act.put, List.setIfInBounds_toArray, List.set_cons_zero, List.set_cons_succ]
              refine wpAnyJ_ready (rs := [22]) (by kernel_rfl) (by simp) ?_
              refine AllJ.cons (o := { dst := some 108, op := Go.Op.call { callee := Go.Callee.value (Go.Operand.func 12), args := #[Go.Operand.tmp 102, Go.Operand.tmp 107], argTypes := #[23, 23] }, type := 4, pos := "parts.go:35", after := #[{ on := 16, ground := Go.Ground.data }, { on := 21, ground := Go.Ground.data }, { on := 14, ground := Go.Ground.chain }, { on := 14, ground := Go.Ground.guard }], guard := some (14, false) }) rfl (fun Kr hKr => ?_) ?_
              · (go_simp; refine (same_any _ _ _ _ _ _ x.d l[f] _ hx2.out.drew hrd'.out.drew (by rw [hxd.out]; have := hmem.out _ (List.getElem_mem hfl); omega) (by have := hmem.out _ (List.getElem_mem hfl); omega)).mono ?_; rintro e w3 ⟨rfl, hs3⟩; have hdec : decide (x.d = l[f]) = true := decide_eq_true hxd.out)
                refine hKr.out _ _ (fun hJ => ?_) (fun hF => ?_)
                · first
                  | exact absurd hJ (by decide)
                  | (clear hJ; (try dsimp only); all_goals (rfl))
                clear hKr
                try simp only [Act.put, List.setIfInBounds_toArray, List.set_cons_zero, List.set_cons_succ]
                refine wpAnyJ_ready (rs := [23]) (by kernel_rfl) (by simp) ?_
                refine AllJ.cons (o := { dst := some 109, op := Go.Op.unOp Go.UnOp.not 4 (Go.Operand.tmp 108), type := 4, pos := "parts.go:35", after := #[{ on := 22, ground := Go.Ground.data }, { on := 14, ground := Go.Ground.guard }], guard := some (14, false) }) rfl (fun Kr hKr => ?_) ?_
                · go_simp
                  refine hKr.out _ _ (fun hJ => ?_) (fun hF => ?_)
                  · first
                    | exact absurd hJ (by decide)
                    | (clear hJ; (try dsimp only); all_goals (rfl))
                  clear hKr
                  try simp only [Act.put, List.setIfInBounds_toArray, List.set_cons_zero, List.set_cons_succ]
                  refine wpAnyJ_ready (rs := [24]) (by kernel_rfl) (by simp) ?_
                  refine AllJ.cons (o := { dst := some 110, op := Go.Op.pick (Go.Operand.tmp 100) (Go.Operand.const (Go.Value.bool true)) (Go.Operand.tmp 109), type := 4, pos := "parts.go:35", after := #[{ on := 14, ground := Go.Ground.data }, { on := 23, ground := Go.Ground.data }], guard := none }) rfl (fun Kr hKr => ?_) ?_
                  · go_simp
                    refine hKr.out _ _ (fun hJ => ?_) (fun hF => ?_)
                    · first
                      | exact absurd hJ (by decide)
                      | (clear hJ; (try dsimp only); all_goals (rfl))
                    clear hKr
                    try simp only [Act.put, List.setIfInBounds_toArray, List.set_cons_zero, List.set_cons_succ]
                    refine wpAnyJ_done (by kernel_rfl) ?_ _
                    have ⟨z0, _, _⟩ := cells3 (s.drew.call0 hs3).own.h0
                    have hstep := Lib.hid ((s.drew.call0 hs3).tail.forget.forget)
                    have hT := hsent.out.erase 0
                    rw [List.eraseIdx_zero, List.tail_drop] at hT
                    replace hT := Lib.hid hT
                    clear s hx2 hrd' hc' y0 y1 y2
                    by_cases hfK : f = K
                    · have e3 : ((f : Int) == (K : Int)) = true := by rw [hfK]; simp
                      replace hfK := Lib.hid hfK
                      have hcl : (i : Int) ≤ 800 := by omega
                      have hct : (((twiceRow l.length K).take i).count K : Int) ≤ 801 := by
                        have := List.count_le_length (a := K) (l := (twiceRow l.length K).take i)
                        rw [List.length_take] at this; omega
                      go_wp2
                      exact ⟨⟨i + 1, its.eraseIdx 0, H2, by omega, by go_num, by rw [take_snoc_get hf.out, List.count_append, hfK.out]; simp, by rw [lastOf_succ hf.out], hT.out, hn2, hstep.out⟩, by simp [intOf]; omega⟩
                    · have e3 : ((f : Int) == (K : Int)) = false := beq_eq_false_iff_ne.2 (by omega)
                      replace hfK := Lib.hid hfK
                      have hcl : (i : Int) ≤ 800 := by omega
                      go_wp2
                      exact ⟨⟨i + 1, its.eraseIdx 0, H2, by omega, by go_num, by rw [take_snoc_get hf.out, List.count_append, List.count_singleton]; simp [hfK.out], by rw [lastOf_succ hf.out], hT.out, hn2, hstep.out⟩, by simp [intOf]; omega⟩
                  exact AllJ.nil
                exact AllJ.nil
              exact AllJ.nil
            · have hi2 : i = l.length + 1 := by omega
              have hil := hsent.out.len
              rw [hi2, List.drop_of_length_le (by rw [twiceRow_len hKl]; omega)] at hil
              have hits : its.length = 0 := hil
              have hcnt : ((twiceRow l.length K).take i).count K = 2 := by rw [hi2, List.take_of_length_le (by rw [twiceRow_len hKl]; omega), twiceRow_count]
              have hlast : lastOf (twiceRow l.length K) i = (K : Int) := by
                rw [hi2, lastOf_succ (twiceRow_last hKl)]
              rw [hcnt, hlast]
              have hgt : (l.length : Int) < (i : Int) := by omega
              replace hi2 := Lib.hid hi2
              replace hcnt := Lib.hid hcnt
              replace hlast := Lib.hid hlast
              replace hits := Lib.hid hits
              clear hil
              go_wp2_with fail
              refine (len_eq w.heap.size its H _ 0 hn hs.own hits.out).mono ?_
              rintro e w2 ⟨rfl, rfl⟩
              go_wp2_with fail
              refine (known_any _).mono ?_
              rintro e w3 ⟨rfl, hs3⟩
              go_wp2
              go_ret
              exact ⟨rfl, (hs.call0 hs3).forget (A := [])⟩
end Go.Proofs.Ytliapfdbagcklaa
