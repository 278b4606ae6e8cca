/- The reference's disk: how it lies; New, Fuse, spot, Used. The reference's disk: may, did. -/
import Derived.Test.YtdolbeonpkanpaaGreatDoorMBase
import Derived.Test.YtdolbeonpkanpaaGreatDoorMDkH
import Derived.Test.YtdolbeonpkanpaaGreatDoorMPure
import Derived.Sort.Walk0
set_option linter.unusedVariables false
set_option linter.unusedSimpArgs false
namespace Go.Proofs.YtdolbeonpkanpaaGreatDoor
open Go.RowKit
attribute [local go_sem ↓] Go.wp_at_zero Go.wp_at_succ

/-- A file of the reference's. -/
structure Re where
  nm : Nm
  a : Option Addr
  c : Nat
  d : List UInt8
  n : Nat
  H : Heaplet
def Re.ok (x : Re) : Prop := SlRep 5 1 x.a x.d.length x.c (x.d.map u8) x.H
def Re.cells (x : Re) : List Value := [strV x.nm, .slice x.a x.d.length x.c, iv x.n]
def Re.key (x : Re) : Fl := (x.nm, x.d, x.n)
theorem re_len (x : Re) : x.cells.length = 3 := rfl
theorem re_one (x : Re) : ∀ u ∈ x.cells, u.oneCell' = true := by simp [Re.cells, Value.oneCell']
def leftI (l : Option Nat) : Int := match l with | some n => (n : Nat) | none => -1
abbrev robj (room : Nat) (a : Option Addr) (n c : Nat) (left : Int) : Obj := .cells #[iv room, .slice a n c, ii left] 83 (0, 0)
def RkRep (b : Nat) (k : Dk) (H : Heaplet) : Prop :=
  ∃ (a : Option Addr) (c : Nat) (R : Heaplet) (X : List Re), SlRep 107 3 a X.length c (X.flatMap Re.cells) R ∧ (∀ x ∈ X, x.ok) ∧ X.map Re.key = k.L ∧ leftI k.left ≤ 9223372036854775807 ∧
    H = (b, robj k.room a X.length c (leftI k.left)) :: (R ++ X.flatMap Re.H)
def RkPost (b : Nat) (r : Nat × Dk) (H : Heaplet) (w : World) (e : Ending) (w' : World) : Prop :=
  e = .returned (.int .i64 (r.1 : Nat)) ∧ ∃ H', RkRep b r.2 H' ∧ Step w H w' H'
theorem st_file : SlTy Tryz.prog 81 107 3 48 (.agg #[.string ⟨#[]⟩, .slice none 0 0, .int .i64 0]) := ⟨by kernel_rfl, by kernel_rfl, rfl, by decide⟩
def RNewPost (room : Int) (w : World) (e : Ending) (w' : World) : Prop :=
  (room < 0 ∨ 1073741824 < room) ∧ e = .returned (.tuple #[.pointer none, ii 1]) ∧ Step w [] w' [] ∨
  ∃ (b : Nat) (H : Heaplet), 0 ≤ room ∧ room ≤ 1073741824 ∧ e = .returned (.tuple #[pt b, ii 0]) ∧ RkRep b ⟨room.toNat, [], none⟩ H ∧ Step w [] w' H
theorem rnew_any (room : Int) (w : World) : Calls Tryz.prog 37 #[ii room] w (RNewPost room w) := by
  by_cases h : room < 0
  · go_enter Tryz.func37, Tryz.ntmps37
    go_wp2
    go_ret2
    exact .inl ⟨.inl h, rfl, Step.refl (Own.nil _)⟩
  · by_cases h1 : 1073741824 < room
    · go_enter Tryz.func37, Tryz.ntmps37
      go_wp2
      go_ret2
      exact .inl ⟨.inr h1, rfl, Step.refl (Own.nil _)⟩
    · have h0 : 0 ≤ room := by omega
      have h2 : room ≤ 1073741824 := by omega
      clear h h1
      go_enter Tryz.func37, Tryz.ntmps37
      go_wp2
      go_ret2
      refine .inr ⟨w.heap.size, _, h0, h2, rfl, ⟨none, 0, [], [], SlRep.nil _ _, by simp, rfl, by show (-1 : Int) ≤ _; decide, rfl⟩, ?_⟩
      have s := (Step.refl (Own.nil w)).alloc (robj room.toNat none 0 0 (-1))
      have e : (iv room.toNat) = .int .i64 room := congrArg _ (by omega : ((room.toNat : Nat) : Int) = room)
      simp only [robj, e, leftI] at s ⊢
      simpa using s
theorem rfuse_any (b : Nat) (k : Dk) (n : Int) (H : Heaplet) (w : World) (h : RkRep b k H) (hw : Own w H) (hn : n ≤ 9223372036854775807) :
    Calls Tryz.prog 13 #[pt b, ii n] w fun e w' => e = .returned (.tuple #[]) ∧ ∃ H', RkRep b (fuN n k) H' ∧ Step w H w' H' := by
  obtain ⟨a, c, R, X, hr, hok, hk, hl, rfl⟩ := h
  have ⟨c0, c1, c2⟩ := cells3 hw.h0
  have b0 := heap_lt hw.h0
  have fz := fun i => frz_of (i := i) hw.h0
  have s0 := Step.refl hw
  replace hr := Lib.hid hr
  replace hok := Lib.hid hok
  replace hk := Lib.hid hk
  replace hl := Lib.hid hl
  have hfin : Hid (∀ v W, v = leftI (fuN n k).left → Step w ((b, robj k.room a X.length c (leftI k.left)) :: (R ++ X.flatMap Re.H)) W ((b, robj k.room a X.length c v) :: (R ++ X.flatMap Re.H)) → ∃ H', RkRep b (fuN n k) H' ∧ Step w ((b, robj k.room a X.length c (leftI k.left)) :: (R ++ X.flatMap Re.H)) W H') := fun v W hv s =>
    ⟨_, ⟨a, c, R, X, hr.out, hok.out, hk.out, by
      unfold fuN
      split
      · simp only [leftI]; omega
      · simp only [leftI]; omega, rfl⟩, by rw [← hv]; exact s⟩
  by_cases h0 : 0 ≤ n
  · have hv : Hid (n = leftI (fuN n k).left) := by show _ = _; unfold fuN; rw [if_pos h0]; simp only [leftI]; omega
    have e1 : max (-1) n = n := by omega
    have e2 : -1 < n := by omega
    have e3 : -1 ≤ n := by omega
    generalize hG : ((b, robj k.room a X.length c (leftI k.left)) :: (R ++ X.flatMap Re.H)) = G at hfin ⊢
    replace hG := Lib.hid hG
    go_enter Tryz.func13, Tryz.ntmps13
    go_wp2
    all_goals go_end0
    all_goals exact ⟨rfl, hfin.out n _ hv.out (by rw [← hG.out]; exact s0.store0 (.int .i64 n) (i := 2))⟩
  · have hv : Hid (-1 = leftI (fuN n k).left) := by show _ = _; unfold fuN; rw [if_neg h0]; rfl
    have e1 : max (-1) n = -1 := by omega
    have e2 : n ≤ -1 := by omega
    have e3 : ¬ (-1 < n) := by omega
    generalize hG : ((b, robj k.room a X.length c (leftI k.left)) :: (R ++ X.flatMap Re.H)) = G at hfin ⊢
    replace hG := Lib.hid hG
    clear h0
    go_enter Tryz.func13, Tryz.ntmps13
    go_wp2
    all_goals go_end0
    all_goals exact ⟨rfl, hfin.out (-1) _ hv.out (by rw [← hG.out]; exact s0.store0 (.int .i64 (-1)) (i := 2))⟩
theorem re_at {X : List Re} {a : Option Addr} {c : Nat} {R : Heaplet} (h : SlRep 107 3 a X.length c (X.flatMap Re.cells) R) {w : World} (hw : Own w R) {i : Nat} {x : Re} (hi : X[i]? = some x) :
    ∃ g, a = some ⟨g, 0, none⟩ ∧ X.length ≤ c ∧ c ≤ maxLen ∧ w.cell? ⟨g, i * 3, none⟩ = some (strV x.nm) ∧ w.cell? ⟨g, i * 3 + 1, none⟩ = some (.slice x.a x.d.length x.c) ∧ w.cell? ⟨g, i * 3 + 2, none⟩ = some (iv x.n) ∧ ∀ j, w.frozen? ⟨g, j, none⟩ = false := by
  obtain ⟨g, h1, h2, h3, h4, h5⟩ := slk_at re_len h rfl hw hi (by decide)
  exact ⟨g, h1, h2, h3, h5 0 _ rfl, h5 1 _ rfl, h5 2 _ rfl, h4⟩
theorem spot_lt {nm : Nm} : ∀ {L : List Fl} {i : Nat}, i < spotN L nm → ∃ x, L[i]? = some x ∧ x.1 < nm
  | [], i, h => by simp [spotN] at h
  | y :: L, i, h => by
    by_cases hy : y.1 < nm
    · have e : spotN (y :: L) nm = spotN L nm + 1 := by simp [spotN, List.takeWhile_cons, hy]
      rw [e] at h
      cases i with
      | zero => exact ⟨y, rfl, hy⟩
      | succ i =>
        obtain ⟨x, h1, h2⟩ := spot_lt (nm := nm) (L := L) (i := i) (by omega)
        exact ⟨x, by simpa using h1, h2⟩
    · have e : spotN (y :: L) nm = 0 := by simp [spotN, List.takeWhile_cons, hy]
      omega
theorem spot_at {L : List Fl} {nm : Nm} {x : Fl} (h : L[spotN L nm]? = some x) : ¬ x.1 < nm := by
  induction L with
  | nil => simp at h
  | cons y L ih =>
    by_cases hy : y.1 < nm
    · have e : spotN (y :: L) nm = spotN L nm + 1 := by simp [spotN, List.takeWhile_cons, hy]
      rw [e] at h
      exact ih (by simpa using h)
    · have e : spotN (y :: L) nm = 0 := by simp [spotN, List.takeWhile_cons, hy]
      rw [e] at h
      simp at h
      subst h
      exact hy
theorem spot_len (L : List Fl) (nm : Nm) : spotN L nm ≤ L.length := by
  have hp : L.takeWhile (fun e => decide (e.1 < nm)) <+: L := List.takeWhile_prefix _
  exact hp.length_le
def SpotRel (L : List Fl) (nm : Nm) (w : World) (v : Value) (wr : World) : Prop := ∃ i : Nat, v = iv i ∧ i ≤ spotN L nm ∧ wr = w
set_option maxHeartbeats 2000000 in
set_option maxRecDepth 100000 in
theorem spot_any (b : Nat) (k : Dk) (H : Heaplet) (nm : Nm) (w : World) (h : RkRep b k H) (hw : Own w H) (hl : k.L.length ≤ 5000) :
    Calls Tryz.prog 71 #[pt b, strV nm] w fun e w' => e = .returned (.tuple #[iv (spotN k.L nm), .bool (isF k.L nm)]) ∧ Step w [] w' [] := by
  obtain ⟨a, c, R, X, hr, hok, hk, hlf, rfl⟩ := h
  have ⟨c0, c1, c2⟩ := cells3 hw.h0
  have hlen : X.length = k.L.length := by rw [← hk, List.length_map]
  have hX : Hid (∀ (i : Nat) (x : Fl), k.L[i]? = some x → ∃ y : Re, X[i]? = some y ∧ y.nm = x.1) := fun i x hx => by
    rw [← hk, List.getElem?_map] at hx
    obtain ⟨y, h1, rfl⟩ := Option.map_eq_some_iff.1 hx
    exact ⟨y, h1, rfl⟩
  obtain ⟨n, hn⟩ : ∃ n, n = X.length := ⟨_, rfl⟩
  rw [← hn] at c1
  have n1 : (n : Int) ≤ 5000 := by omega
  have hsl := spot_len k.L nm
  have hnl : Hid (n = k.L.length) := by show _ = _; omega
  have hs : Hid (spotN k.L nm ≤ n) := by show _ ≤ _; omega
  replace hr := Lib.hid hr
  have ho := Lib.hid hw.tail.left
  replace hn := Lib.hid hn
  clear hok hk hlen hsl hw hlf hl
  go_enter Tryz.func71, Tryz.ntmps71
  go_upto_block 0 with fail
  go_cut [6] (fun v wc => v = iv (spotN k.L nm) ∧ wc = w)
  case first =>
    go_wp2_with fail
    go_loopw [6] (fun v wr => SpotRel k.L nm w v wr) (fun v _ => spotN k.L nm - (intOf v).toNat)
    case atStart => exact ⟨0, rfl, Nat.zero_le _, rfl⟩
    case round =>
      obtain ⟨i, rfl, hi, rfl⟩ := hrel
      have i0 : (0 : Int) ≤ (i : Int) := by omega
      by_cases hlt : i < spotN k.L nm
      · obtain ⟨x, hx, hxn⟩ := spot_lt hlt
        obtain ⟨y, hy, hyn⟩ := hX.out i x hx
        obtain ⟨g, rfl, k0, k1, k2, _⟩ := re_at hr.out ho.out hy
        have i1 : (i : Int) < (n : Int) := by have := hs.out; omega
        have i2 : (n : Int) ≤ (c : Int) := by rw [hn.out]; omega
        have d1 : (⟨y.nm.toArray⟩ : ByteArray).toList = y.nm := by rw [ByteArray.toList_eq]
        have d2 : (⟨nm.toArray⟩ : ByteArray).toList = nm := by rw [ByteArray.toList_eq]
        have d3 : Op.bytesLess y.nm nm = true := by rw [bytesLess_eq, hyn]; exact decide_eq_true hxn
        replace hlt := Lib.hid hlt
        clear hx hxn hyn hy hi
        go_wp2_with fail
        exact ⟨⟨i + 1, by go_num, hlt.out, by first | rfl | trivial⟩, by have := hlt.out; simp [intOf]; omega⟩
      · have hie : i = spotN k.L nm := by omega
        have hfin : Hid (iv i = iv (spotN k.L nm)) := by show _ = _; rw [hie]
        by_cases hin : i < n
        · have i1 : (i : Int) < (n : Int) := by omega
          obtain ⟨x, hx⟩ : ∃ x, k.L[i]? = some x := ⟨_, List.getElem?_eq_getElem (by rw [← hnl.out]; exact hin)⟩
          have hxn := spot_at (by rw [← hie]; exact hx)
          obtain ⟨y, hy, hyn⟩ := hX.out i x hx
          obtain ⟨g, rfl, k0, k1, k2, _⟩ := re_at hr.out ho.out hy
          have i2 : (n : Int) ≤ (c : Int) := by rw [hn.out]; omega
          have d1 : (⟨y.nm.toArray⟩ : ByteArray).toList = y.nm := by rw [ByteArray.toList_eq]
          have d2 : (⟨nm.toArray⟩ : ByteArray).toList = nm := by rw [ByteArray.toList_eq]
          have d3 : Op.bytesLess y.nm nm = false := by rw [bytesLess_eq, hyn]; exact decide_eq_false hxn
          clear hx hxn hyn hy hi hie hlt
          go_wp2_with fail
          go_meet
          exact ⟨hfin.out, by first | rfl | trivial⟩
        · have i1 : (n : Int) ≤ (i : Int) := by omega
          clear hi hie hlt hin
          go_wp2_with fail
          go_meet
          exact ⟨hfin.out, by first | rfl | trivial⟩
  case rest =>
    obtain ⟨rfl, rfl⟩ := hcut
    obtain ⟨i, hi⟩ : ∃ i, i = spotN k.L nm := ⟨_, rfl⟩
    have hfin : Hid (∀ t, t = isF k.L nm → (Value.tuple #[iv i, .bool t]) = .tuple #[iv (spotN k.L nm), .bool (isF k.L nm)]) := fun t ht => by rw [ht, hi]
    have hsn := hs.out
    rw [← hi] at hsn ⊢
    have i0 : (0 : Int) ≤ (i : Int) := by omega
    have hnf : ∀ t, t = isF k.L nm → t = (match k.L[i]? with | some e => e.1 == nm | none => false) := fun t ht => by rw [ht, hi]; rfl
    by_cases hin : i < n
    · have i1 : (i : Int) < (n : Int) := by omega
      have i1' : decide (i < n) = true := decide_eq_true hin
      obtain ⟨x, hx⟩ : ∃ x, k.L[i]? = some x := ⟨_, List.getElem?_eq_getElem (by rw [← hnl.out]; exact hin)⟩
      obtain ⟨y, hy, hyn⟩ := hX.out i x hx
      obtain ⟨g, rfl, k0, k1, k2, _⟩ := re_at hr.out ho.out hy
      have i2 : (n : Int) ≤ (c : Int) := by rw [hn.out]; omega
      have d1 : (⟨y.nm.toArray⟩ : ByteArray).toList = y.nm := by rw [ByteArray.toList_eq]
      have d2 : (⟨nm.toArray⟩ : ByteArray).toList = nm := by rw [ByteArray.toList_eq]
      have hf : Hid ((y.nm == nm) = isF k.L nm) := by
        show _ = _
        rw [hnf _ rfl, hx, hyn]
      replace hi := Lib.hid hi
      clear hx hyn hy hnf hin hsn
      go_upto_region 4 with fail
      go_quiet (fail)
      go_wp2_with fail
      go_ret2
      exact ⟨congrArg Ending.returned (hfin.out _ hf.out), (Step.refl (Own.nil _)).drewN _⟩
    · have i1 : (n : Int) ≤ (i : Int) := by omega
      have i1' : decide (i < n) = false := decide_eq_false hin
      have hf : Hid (false = isF k.L nm) := by
        show _ = _
        rw [hnf _ rfl, List.getElem?_eq_none (by rw [← hnl.out]; omega)]
      replace hi := Lib.hid hi
      clear hnf hin hsn
      go_upto_region 4 with fail
      go_quiet (fail)
      go_wp2_with fail
      go_ret2
      exact ⟨congrArg Ending.returned (hfin.out _ hf.out), (Step.refl (Own.nil _)).drewN _⟩
theorem re_used {X : List Re} {L : List Fl} (hk : X.map Re.key = L) {i : Nat} {x : Re} (hx : X[i]? = some x) : usedF (L.take (i + 1)) = usedF (L.take i) + x.d.length := by
  have h : L[i]? = some x.key := by rw [← hk, List.getElem?_map, hx]; rfl
  obtain ⟨hi, e⟩ := List.getElem?_eq_some_iff.1 h
  rw [List.take_succ_eq_append_getElem hi, used_app, e, used_cons]
  simp [Re.key, usedF]
theorem used_take (L : List Fl) (i : Nat) : usedF (L.take i) ≤ usedF L := used_sub (List.take_sublist _ _)
set_option maxHeartbeats 2000000 in
set_option maxRecDepth 100000 in
theorem rused_any (b : Nat) (k : Dk) (H : Heaplet) (w : World) (h : RkRep b k H) (hw : Own w H) (hl : k.L.length ≤ 5000) (hu : usedF k.L ≤ 1073741824) :
    Calls Tryz.prog 72 #[pt b] w fun e w' => e = .returned (iv (usedF k.L)) ∧ Step w [] w' [] := by
  obtain ⟨a, c, R, X, hr, hok, hk, hlf, rfl⟩ := h
  have ⟨c0, c1, c2⟩ := cells3 hw.h0
  have hlen : X.length = k.L.length := by rw [← hk, List.length_map]
  obtain ⟨n, hn⟩ : ∃ n, n = X.length := ⟨_, rfl⟩
  rw [← hn] at c1
  have n1 : (n : Int) ≤ 5000 := by omega
  have hnl : Hid (n = k.L.length) := by show _ = _; omega
  have ho := Lib.hid hw.tail.left
  have hus := Lib.hid (fun i x hx => re_used hk (i := i) (x := x) hx)
  have hle := Lib.hid (used_take k.L)
  replace hr := Lib.hid hr
  replace hn := Lib.hid hn
  clear hok hk hlen hw hlf hl
  go_enter Tryz.func72, Tryz.ntmps72
  go_wp2_with fail
  go_loopw [3, 4] (fun v3 v4 wr => ∃ i q : Nat, v4 = iv i ∧ v3 = iv q ∧ i ≤ n ∧ q = usedF (k.L.take i) ∧ wr = w) (fun _ v _ => n - (intOf v).toNat)
  case atStart => exact ⟨0, 0, rfl, rfl, Nat.zero_le _, by simp [usedF], rfl⟩
  case round =>
    obtain ⟨i, q, rfl, rfl, hi, hq, rfl⟩ := hrel
    have i0 : (0 : Int) ≤ (i : Int) := by omega
    by_cases hlt : i < n
    · obtain ⟨y, hy⟩ : ∃ y, X[i]? = some y := ⟨_, List.getElem?_eq_getElem (by rw [← hn.out]; exact hlt)⟩
      obtain ⟨g, rfl, k0, k1, _, k2, _⟩ := re_at hr.out ho.out hy
      have i1 : (i : Int) < (n : Int) := by omega
      have i2 : (n : Int) ≤ (c : Int) := by rw [hn.out]; omega
      have hq2 := hus.out i y hy
      have hq3 := hle.out (i + 1)
      rw [← hq] at hq2
      have q1 : (q : Int) + (y.d.length : Int) ≤ 1073741824 := by omega
      have hq4 : Hid (q + y.d.length = usedF (k.L.take (i + 1))) := hq2.symm
      clear hy hq hq2 hq3
      go_wp2_with fail
      exact ⟨⟨i + 1, q + y.d.length, by go_num, by go_num, hlt, hq4.out, by first | rfl | trivial⟩, by simp [intOf]; omega⟩
    · have i1 : (n : Int) ≤ (i : Int) := by omega
      have hfin : Hid (iv q = iv (usedF k.L)) := by
        show _ = _
        rw [hq, List.take_of_length_le (by rw [← hnl.out]; omega)]
      clear hq hi hlt
      go_wp2_with fail
      go_ret
      exact ⟨congrArg Ending.returned hfin.out, Step.refl (Own.nil _)⟩
end Go.Proofs.YtdolbeonpkanpaaGreatDoor
namespace Go.Proofs.YtdolbeonpkanpaaGreatDoor
open Go.RowKit
attribute [local go_sem ↓] Go.wp_at_zero Go.wp_at_succ

def MayRel (names : List Nm) (w : World) (v : Value) (wr : World) : Prop := ∃ i : Nat, v = iv i ∧ i ≤ names.length ∧ (∀ x ∈ names.take i, badN x = false) ∧ wr = w
set_option maxHeartbeats 2000000 in
set_option maxRecDepth 100000 in
theorem may_any (b : Nat) (k : Dk) (H : Heaplet) (ng nc : Nat) (names : List Nm) (w : World) (h : RkRep b k H) (hw : Own w H) (hg : RdStrs w ng names) (hn : names.length ≤ nc) (hc : nc ≤ 1000) :
    Calls Tryz.prog 70 #[pt b, .slice (some ⟨ng, 0, none⟩) names.length nc] w fun e w' => e = .returned (iv (mayN k names)) ∧ Step w [] w' [] := by
  obtain ⟨a, c, R, X, hr, hok, hk, hlf, rfl⟩ := h
  have ⟨c0, c1, c2⟩ := cells3 hw.h0
  have l0 : (names.length : Int) ≤ 1000 := by omega
  have l1 : (names.length : Int) ≤ (nc : Int) := by omega
  clear hr hok hk
  by_cases hl : k.left = some 0
  · have hmay : Hid (mayN k names = 9) := by show _ = _; unfold mayN; rw [if_pos hl]
    rw [hl] at c2
    have e0 : leftI (some 0) = 0 := rfl
    rw [e0] at c2
    clear hl hlf hw c0 c1 hg
    go_enter Tryz.func70, Tryz.ntmps70
    go_wp2
    go_ret
    rw [hmay.out]
    exact ⟨rfl, Step.refl (Own.nil _)⟩
  · have hmay : Hid (mayN k names = if names.any badN then 1 else 0) := by show _ = _; unfold mayN; rw [if_neg hl]
    have q0 : (leftI k.left == 0) = false := by
      refine beq_eq_false_iff_ne.2 fun e => hl ?_
      cases hle : k.left with
      | none => rw [hle] at e; cases e
      | some z => rw [hle] at e; simp only [leftI] at e; rw [show z = 0 by omega]
    generalize leftI k.left = lv at c2 q0
    replace hg := Lib.hid hg
    clear hl hlf hw c0 c1
    go_enter Tryz.func70, Tryz.ntmps70
    go_wp2_with fail
    go_loopw [5] (fun v wr => MayRel names w v wr) (fun v _ => names.length - (intOf v).toNat)
    case atStart => exact ⟨0, rfl, Nat.zero_le _, by simp, rfl⟩
    case round =>
      obtain ⟨i, rfl, hi, hgood, rfl⟩ := hrel
      replace hgood := Lib.hid hgood
      have d0 : (0 : Int) ≤ (i : Int) := by omega
      by_cases hlt : i < names.length
      · have d1 : (i : Int) < (names.length : Int) := by omega
        obtain ⟨x, hx'⟩ : ∃ x, names[i]? = some x := ⟨_, List.getElem?_eq_getElem hlt⟩
        have hcx := hg.out i x hx'
        have htk : Hid (names.take (i + 1) = names.take i ++ [x]) := by
          obtain ⟨_, e⟩ := List.getElem?_eq_some_iff.1 hx'
          show _ = _
          rw [List.take_succ_eq_append_getElem hlt, e]
        have hmem := Lib.hid (List.mem_of_getElem? hx')
        clear hx'
        by_cases hbad : badN x = true
        · have hfin : Hid (mayN k names = 1) := by show _ = _; rw [hmay.out, if_pos (List.any_eq_true.2 ⟨x, hmem.out, hbad⟩)]
          simp only [badN, Bool.or_eq_true, decide_eq_true_eq] at hbad
          rcases hbad with hb1 | hb1
          · have e : (x.length : Int) < 1 := by omega
            clear hb1
            go_wp2_with fail
            go_ret
            rw [hfin.out]
            exact ⟨rfl, Step.refl (Own.nil _)⟩
          · have e : ¬ ((x.length : Int) < 1) := by omega
            have e2 : (64 : Int) < (x.length : Int) := by omega
            clear hb1
            go_wp2_with fail
            go_ret
            rw [hfin.out]
            exact ⟨rfl, Step.refl (Own.nil _)⟩
        · have hgx : Hid (badN x = false) := (by simpa using hbad : badN x = false)
          simp only [badN, Bool.or_eq_true, decide_eq_true_eq, not_or] at hbad
          have e : ¬ ((x.length : Int) < 1) := by omega
          have e2 : ¬ ((64 : Int) < (x.length : Int)) := by omega
          clear hbad
          go_wp2_with fail
          refine ⟨⟨i + 1, by go_num, hlt, fun y hy => ?_, by first | rfl | trivial⟩, by simp [intOf]; omega⟩
          rw [htk.out] at hy
          rcases List.mem_append.1 hy with hy | hy
          · exact hgood.out y hy
          · rw [List.mem_singleton] at hy; subst hy; exact hgx.out
      · have hall : Hid (mayN k names = 0) := by
          have h1 : names.any badN = false := List.any_eq_false.2 (fun y hy => by
            have := hgood.out y (by rw [List.take_of_length_le (by omega)]; exact hy)
            simp [this])
          show _ = _
          rw [hmay.out, h1]; rfl
        have d1 : (names.length : Int) ≤ (i : Int) := by omega
        clear hgood hmay hg
        go_wp2_with fail
        go_ret
        rw [hall.out]
        exact ⟨rfl, Step.refl (Own.nil _)⟩
theorem did_any (b : Nat) (k : Dk) (H : Heaplet) (w : World) (h : RkRep b k H) (hw : Own w H) :
    Calls Tryz.prog 73 #[pt b] w (RkPost b (0, didN k) H w) := by
  have hrep := Lib.hid h
  obtain ⟨a, c, R, X, hr, hok, hk, hlf, rfl⟩ := h
  have ⟨c0, c1, c2⟩ := cells3 hw.h0
  have fz := fun i => frz_of (i := i) hw.h0
  have b0 := heap_lt hw.h0
  have s0 := Step.refl hw
  generalize hG : ((b, robj k.room a X.length c (leftI k.left)) :: (R ++ X.flatMap Re.H)) = G at s0 hrep ⊢
  by_cases hp : ∃ z, k.left = some (z + 1)
  · obtain ⟨z, hz⟩ := hp
    have hs : Hid (∀ W, Step w G W ((b, robj k.room a X.length c (z : Nat)) :: (R ++ X.flatMap Re.H)) → RkPost b (0, didN k) G w (.returned (ii 0)) W) := fun W s => by
      have hdl : (didN k).left = some z := by unfold didN; rw [hz]; rfl
      rw [hz] at hlf
      have e1 : leftI (some (z + 1)) = ((z + 1 : Nat) : Int) := rfl
      rw [e1] at hlf
      refine ⟨rfl, _, ⟨a, c, R, X, hr, hok, hk, ?_, rfl⟩, ?_⟩
      · show leftI (didN k).left ≤ _
        rw [hdl]; simp only [leftI]; omega
      · show Step w G W ((b, robj k.room a X.length c (leftI (didN k).left)) :: _)
        rw [hdl]; exact s
    have hs1 := Lib.hid (by rw [← hG] at s0 ⊢; exact s0.store0 (.int .i64 (z : Nat)) (i := 2) : Step w G (w.setCell ⟨b, 2, none⟩ (.int .i64 (z : Nat))) ((b, robj k.room a X.length c (z : Nat)) :: (R ++ X.flatMap Re.H)))
    have hz1 : (z : Int) ≤ 9223372036854775806 := by
      rw [hz] at hlf
      have e1 : leftI (some (z + 1)) = ((z + 1 : Nat) : Int) := rfl
      rw [e1] at hlf
      omega
    rw [hz] at c2
    have e1 : leftI (some (z + 1)) = ((z + 1 : Nat) : Int) := rfl
    rw [e1] at c2
    have e2 : (0 : Int) < ((z + 1 : Nat) : Int) := by omega
    replace hG := Lib.hid hG
    clear hr hok hk hlf hw s0 hz hrep
    go_enter Tryz.func73, Tryz.ntmps73
    go_wp2
    go_ret
    exact hs.out _ hs1.out
  · have hd : Hid (didN k = k) := by
      show _ = _
      obtain ⟨rm, L, left⟩ := k
      cases left with
      | none => rfl
      | some z =>
        cases z with
        | zero => rfl
        | succ z => exact absurd ⟨z, rfl⟩ hp
    have e2 : leftI k.left ≤ 0 := by
      cases hle : k.left with
      | none => decide
      | some z =>
        cases z with
        | zero => decide
        | succ z => exact absurd ⟨z, hle⟩ hp
    generalize leftI k.left = lv at c2 e2
    replace hG := Lib.hid hG
    clear hr hok hk hlf hw hp
    go_enter Tryz.func73, Tryz.ntmps73
    go_wp2
    go_ret
    rw [hd.out]
    exact ⟨rfl, _, hrep.out, s0⟩
end Go.Proofs.YtdolbeonpkanpaaGreatDoor
