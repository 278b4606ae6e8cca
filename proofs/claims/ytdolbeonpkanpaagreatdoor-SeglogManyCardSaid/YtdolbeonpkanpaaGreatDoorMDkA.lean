/- The program's disk: how it lies in memory; New, Fuse, gate. The sum of bytes, the program's and the reference's. -/
import Derived.Test.YtdolbeonpkanpaaGreatDoorMDkPure
import Derived.Test.YtdolbeonpkanpaaGreatDoorReg
import Derived.Test.YtdolbeonpkanpaaGreatDoorMSp
set_option linter.unusedVariables false
set_option linter.unusedSimpArgs false
namespace Go.Proofs.YtdolbeonpkanpaaGreatDoor
open Go.RowKit
attribute [local go_sem ↓] Go.wp_at_zero Go.wp_at_succ

abbrev strV (l : List UInt8) : Value := .string ⟨l.toArray⟩
theorem str_inj {a b : List UInt8} (h : strV a = strV b) : a = b := by
  have h1 : (⟨a.toArray⟩ : ByteArray) = ⟨b.toArray⟩ := Value.string.inj h
  have h2 : a.toArray = b.toArray := ByteArray.mk.inj h1
  simpa using h2
@[go_sem] theorem sn_u8 (w : World) (a : Option Addr) (n c n' c' : Nat) : (binOp .eql 23 (.slice a n c) (.slice none n' c')).run Tryz.prog w = .ok (.bool a.isNone) w := Lib.run_eql_slice_nil w _ _ a n c n' c' Tryz.underlying23
theorem st_u8 : SlTy Tryz.prog 23 5 1 1 (.int .u8 0) := ⟨by kernel_rfl, by kernel_rfl, rfl, by decide⟩
/-- A file as it lies. -/
structure Fe where
  nm : Nm
  fb : Nat
  a : Option Addr
  c : Nat
  d : List UInt8
  n : Nat
  H : Heaplet
def Fe.ok (x : Fe) : Prop := SlAt 5 1 x.a x.d.length x.c (x.d.map u8) x.H
abbrev fobj (a : Option Addr) (l c n : Nat) : Obj := .cells #[.slice a l c, iv n] 104 (0, 0)
def Fe.all (x : Fe) : Heaplet := (x.fb, fobj x.a x.d.length x.c x.n) :: x.H
def Fe.key (x : Fe) : Fl := (x.nm, x.d, x.n)
def Fe.ent (x : Fe) : Value × Value := (strV x.nm, pt x.fb)
/-- The fuse's two cells. -/
def FuseIs (left : Option Nat) (fu : Bool) (lf : Int) : Prop := match left with | some n => fu = true ∧ lf = (n : Nat) ∧ (n : Int) ≤ 9223372036854775807 | none => fu = false
abbrev dobj (room : Nat) (r : Nat) (fu : Bool) (lf : Int) : Obj := .cells #[iv room, .map (some r), .bool fu, ii lf] 80 (0, 0)
/-- The disk at b. -/
def DkRep (b : Nat) (k : Dk) (H : Heaplet) : Prop :=
  ∃ (r : Nat) (o : Obj) (fu : Bool) (lf : Int) (X : List Fe), MapObj .string o (X.map Fe.ent) ∧ (∀ x ∈ X, x.ok) ∧ (X.map Fe.key).Perm k.L ∧ FuseIs k.left fu lf ∧
    H = (b, dobj k.room r fu lf) :: (r, o) :: X.flatMap Fe.all
def DkPost (b : Nat) (r : Nat × Dk) (H : Heaplet) (w : World) (e : Ending) (w' : World) : Prop :=
  e = .returned (.int .i64 (r.1 : Nat)) ∧ ∃ H', DkRep b r.2 H' ∧ Step w H w' H'
theorem DkPost.pre {b : Nat} {r : Nat × Dk} {H H0 : Heaplet} {w W w' : World} {e : Ending} (h : DkPost b r H W e w') (s : Step w H0 W H) : DkPost b r H0 w e w' := by
  obtain ⟨h1, H', h2, h3⟩ := h
  exact ⟨h1, H', h2, s.trans h3⟩

def NewPost (room : Int) (w : World) (e : Ending) (w' : World) : Prop :=
  (room < 0 ∨ 1073741824 < room) ∧ e = .returned (.tuple #[.pointer none, ii 1]) ∧ Step w [] w' [] ∨
  ∃ (b : Nat) (H : Heaplet), 0 ≤ room ∧ room ≤ 1073741824 ∧ e = .returned (.tuple #[pt b, ii 0]) ∧ DkRep b ⟨room.toNat, [], none⟩ H ∧ Step w [] w' H
theorem dnew_any (room : Int) (w : World) : Calls Tryz.prog 33 #[ii room] w (NewPost room w) := by
  by_cases h : room < 0
  · go_enter Tryz.func33, Tryz.ntmps33
    go_wp2
    go_ret2
    exact .inl ⟨.inl h, rfl, Step.refl (Own.nil _)⟩
  · by_cases h1 : 1073741824 < room
    · go_enter Tryz.func33, Tryz.ntmps33
      go_wp2
      go_ret2
      exact .inl ⟨.inr h1, rfl, Step.refl (Own.nil _)⟩
    · have h0 : 0 ≤ room := by omega
      have h2 : room ≤ 1073741824 := by omega
      clear h h1
      have hmm := @run_makeMap Tryz.prog
      go_enter Tryz.func33, Tryz.ntmps33
      go_wp2
      go_ret2
      refine .inr ⟨w.heap.size + 1, _, h0, h2, rfl, ⟨w.heap.size, .map #[] 0, false, 0, [], mapObj_new _, by simp, by simp, rfl, rfl⟩, ?_⟩
      have s := ((Step.refl (Own.nil w)).alloc (.map #[] 0)).alloc (dobj room.toNat w.heap.size false 0)
      have e : (iv room.toNat) = .int .i64 room := congrArg _ (by omega : ((room.toNat : Nat) : Int) = room)
      simp only [dobj, e, World.size_alloc] at s ⊢
      simpa using s
def RdStrs (w : World) (g : Nat) (l : List Nm) : Prop := ∀ i x, l[i]? = some x → w.cell? ⟨g, i, none⟩ = some (strV x)
theorem RdStrs.later {w w' : World} {g : Nat} {l : List Nm} {G : Heaplet} (h : RdStrs w g l) (s : Step w [] w' G) : RdStrs w' g l := fun i x hx => s.keepCell (h i x hx)
/-- Fuse. -/
theorem fuse_any (b : Nat) (k : Dk) (n : Int) (H : Heaplet) (w : World) (h : DkRep b k H) (hw : Own w H) (hn : n ≤ 9223372036854775807) :
    Calls Tryz.prog 12 #[pt b, ii n] w fun e w' => e = .returned (.tuple #[]) ∧ ∃ H', DkRep b (fuN n k) H' ∧ Step w H w' H' := by
  obtain ⟨r, o, fu, lf, X, hm, hok, hp, hf, rfl⟩ := h
  have ⟨c0, c1, c2, c3⟩ := cells4 hw.h0
  have b0 := heap_lt hw.h0
  have fz := fun i => frz_of (i := i) hw.h0
  have s0 := Step.refl hw
  replace hm := Lib.hid hm
  replace hp := Lib.hid hp
  replace hok := Lib.hid hok
  clear hf
  rcases Int.lt_trichotomy n 0 with h0 | h0 | h0
  · have h1 : ¬ 0 ≤ n := by omega
    go_enter Tryz.func12, Tryz.ntmps12
    go_wp2
    go_end0
    refine ⟨rfl, _, ⟨r, o, false, 0, X, hm.out, hok.out, hp.out, ?_, rfl⟩, (s0.store0 (.bool false) (i := 2)).store0 (.int .i64 0) (i := 3)⟩
    simp only [fuN, if_neg (Int.not_le.2 h0), FuseIs]
  · subst h0
    go_enter Tryz.func12, Tryz.ntmps12
    go_wp2
    go_end0
    exact ⟨rfl, _, ⟨r, o, true, 0, X, hm.out, hok.out, hp.out, ⟨rfl, rfl, by decide⟩, rfl⟩, (s0.store0 (.bool true) (i := 2)).store0 (.int .i64 0) (i := 3)⟩
  · have h1 : 0 ≤ n := by omega
    go_enter Tryz.func12, Tryz.ntmps12
    go_wp2
    go_end0
    refine ⟨rfl, _, ⟨r, o, true, n, X, hm.out, hok.out, hp.out, ?_, rfl⟩, (s0.store0 (.bool true) (i := 2)).store0 (.int .i64 n) (i := 3)⟩
    simp only [fuN, if_pos h1, FuseIs]
    exact ⟨trivial, by omega, by omega⟩
/-- What the gated thing does, told of every world that holds the disk and the thing's names and bytes. -/
def Does (fn : FuncId) (b : Nat) (k : Dk) (H : Heaplet) (ng nc : Nat) (names : List Nm) (n : Int) (pa : Option Addr) (pn pc : Nat) (p : List UInt8) (op : Dk → Nat × Dk) : Prop :=
  ∀ W, Own W H → RdStrs W ng names → RdBytes W pa pn pc p →
    Calls Tryz.prog fn #[pt b, .agg #[.slice (some ⟨ng, 0, none⟩) names.length nc, ii n, .slice pa pn pc]] W (DkPost b (op k) H W)
theorem fuse_cases {k : Dk} {fu : Bool} {lf : Int} (h : FuseIs k.left fu lf) : (fu = false ∧ didN k = k) ∨ (fu = true ∧ ∃ z : Nat, k.left = some z ∧ lf = (z : Nat) ∧ (z : Int) ≤ 9223372036854775807) := by
  obtain ⟨rm, L, left⟩ := k
  cases left with
  | none => exact .inl ⟨h, rfl⟩
  | some z => exact .inr ⟨h.1, z, rfl, h.2.1, h.2.2⟩
def GateRel (names : List Nm) (v : Value) : Prop := ∃ i : Nat, i ≤ names.length ∧ v = .int .i64 (i : Nat) ∧ ∀ x ∈ names.take i, badN x = false
set_option maxHeartbeats 2000000 in
set_option maxRecDepth 100000 in
theorem gate_any (fn : FuncId) (hfn : ∀ (args : Array Value) (w : World), (callFunc fn args).run Tryz.prog w = .ok (.enter fn args) w) (b : Nat) (k : Dk) (H : Heaplet) (ng nc : Nat) (names : List Nm) (n : Int) (pa : Option Addr) (pn pc : Nat) (p : List UInt8) (op : Dk → Nat × Dk) (w : World)
    (h : DkRep b k H) (hw : Own w H) (hg : RdStrs w ng names) (hb : RdBytes w pa pn pc p) (hn : names.length ≤ nc) (hc : nc ≤ 1000) (hleft : (op k).2.left = k.left)
    (hd : Does fn b k H ng nc names n pa pn pc p op) :
    Calls Tryz.prog 68 #[pt b, .func (.func fn) #[pt b] #[], .agg #[.slice (some ⟨ng, 0, none⟩) names.length nc, ii n, .slice pa pn pc]] w (DkPost b (gateN names op k) H w) := by
  have hrep := Lib.hid h
  obtain ⟨r, o, fu, lf, X, hm, hok, hp, hf, rfl⟩ := h
  have hs0 := Lib.hid (Step.refl hw)
  have ⟨c0, c1, c2, c3⟩ := cells4 hw.h0
  have b0 := heap_lt hw.h0
  have l0 : (names.length : Int) ≤ 1000 := by omega
  have l1 : (names.length : Int) ≤ (nc : Int) := by omega
  clear hm hok hp
  have hx := (Step.refl hw).alloc (.cells #[.slice (some ⟨ng, 0, none⟩) names.length nc, ii n, .slice pa pn pc] 125)
  by_cases hl : k.left = some 0
  · have hmay : mayN k names = 9 := by unfold mayN; rw [if_pos hl]
    have hfin : Hid (gateN names op k = (9, k)) := by show _ = _; unfold gateN; rw [hmay, if_pos (by decide)]
    rw [hl] at hf
    obtain ⟨rfl, rfl, _⟩ := hf
    clear hl hmay hd
    go_enter Tryz.func68, Tryz.ntmps68
    go_wp2
    go_ret
    rw [hfin.out]
    exact ⟨rfl, _, hrep.out, hs0.out.junk _⟩
  · have hff : (fu = false) ∨ (fu = true ∧ ∃ q : Nat, k.left = some (q + 1) ∧ lf = ((q + 1 : Nat) : Int)) := by
      unfold FuseIs at hf
      cases hle : k.left with
      | none => rw [hle] at hf; exact .inl hf
      | some q =>
        rw [hle] at hf
        cases q with
        | zero => exact absurd hle hl
        | succ q => exact .inr ⟨hf.1, q, rfl, hf.2.1⟩
    have hmay : Hid (mayN k names = if names.any badN then 1 else 0) := by show _ = _; unfold mayN; rw [if_neg hl]
    have hl0 := Lib.hid hl
    replace hleft := Lib.hid hleft
    replace hd := Lib.hid hd
    replace hb := Lib.hid hb
    replace hg := Lib.hid hg
    clear hf hl
    replace hff := Lib.hid hff
    go_enter Tryz.func68, Tryz.ntmps68
    go_upto_block 0 with fail
    go_cut [] (fun wc => wc = w.alloc (.cells #[.slice (some ⟨ng, 0, none⟩) names.length nc, ii n, .slice pa pn pc] 125))
    case first =>
      rcases hff.out with rfl | ⟨rfl, q, _, rfl⟩
      · go_wp2_with fail
        go_meet
        exact rfl
      · have e : (((q + 1 : Nat) : Int) == 0) = false := beq_eq_false_iff_ne.2 (by omega)
        go_wp2_with fail
        go_meet
        exact rfl
    case rest =>
      subst hcut
      go_wp2_with fail
      go_loop [28] (fun v => GateRel names v) (fun v => names.length - (intOf v).toNat)
      case atStart => exact ⟨0, Nat.zero_le _, rfl, by simp⟩
      case round =>
        obtain ⟨i, hi, rfl, hgood⟩ := hrel
        replace hgood := Lib.hid hgood
        have d0 : (0 : Int) ≤ (i : Int) := by omega
        by_cases hlt : i < names.length
        · have d1 : (i : Int) < (names.length : Int) := by omega
          obtain ⟨x, hx'⟩ : ∃ x, names[i]? = some x := ⟨_, List.getElem?_eq_getElem hlt⟩
          have hcx := hg.out i x hx'
          have g0 : ng < w.heap.size := World.block_lt_of_cell? w _ hcx
          have htk : Hid (names.take (i + 1) = names.take i ++ [x]) := by
            obtain ⟨_, e⟩ := List.getElem?_eq_some_iff.1 hx'
            show _ = _
            rw [List.take_succ_eq_append_getElem hlt, e]
          have hmem := Lib.hid (List.mem_of_getElem? hx')
          clear hx'
          by_cases hbad : badN x = true
          · have hfin : Hid (gateN names op k = (1, k)) := by
              have : mayN k names = 1 := by rw [hmay.out, if_pos (List.any_eq_true.2 ⟨x, hmem.out, hbad⟩)]
              show _ = _
              unfold gateN; rw [this, if_pos (by decide)]
            simp only [badN, Bool.or_eq_true, decide_eq_true_eq] at hbad
            rcases hbad with hb1 | hb1
            · have e : (x.length : Int) < 1 := by omega
              clear hb1
              go_wp2_with fail
              go_ret
              rw [hfin.out]
              exact ⟨rfl, _, hrep.out, hs0.out.junk _⟩
            · have e : ¬ ((x.length : Int) < 1) := by omega
              have e2 : (64 : Int) < (x.length : Int) := by omega
              clear hb1
              go_wp2_with fail
              go_ret
              rw [hfin.out]
              exact ⟨rfl, _, hrep.out, hs0.out.junk _⟩
          · have hgx : Hid (badN x = false) := (by simpa using hbad : badN x = false)
            simp only [badN, Bool.or_eq_true, decide_eq_true_eq, not_or] at hbad
            have e : ¬ ((x.length : Int) < 1) := by omega
            have e2 : ¬ ((64 : Int) < (x.length : Int)) := by omega
            clear hbad
            go_wp2_with fail
            refine ⟨⟨i + 1, hlt, by go_num, fun y hy => ?_⟩, by simp [intOf]; omega⟩
            rw [htk.out] at hy
            rcases List.mem_append.1 hy with hy | hy
            · exact hgood.out y hy
            · rw [List.mem_singleton] at hy; subst hy; exact hgx.out
        · have hall : Hid (gateN names op k = if (op k).1 = 0 then (0, didN (op k).2) else op k) := by
            have h1 : names.any badN = false := List.any_eq_false.2 (fun y hy => by
              have := hgood.out y (by rw [List.take_of_length_le (by omega)]; exact hy)
              simp [this])
            have : mayN k names = 0 := by rw [hmay.out, h1]; rfl
            show _ = _
            unfold gateN; rw [this]; simp
          have d1 : (names.length : Int) ≤ (i : Int) := by omega
          clear hgood hmay hff
          go_wp2_with fail
          refine (hd.out _ hx.own.tail (hg.out.later (Step.of_alloc _ _)) (hb.out.alloc _)).mono ?_
          rintro e w2 ⟨rfl, H', hr', hst⟩
          have hleft' := hleft.out
          have hall' := hall.out
          clear hall hleft hd
          generalize op k = q at hr' hleft' hall' ⊢
          obtain ⟨e1, k1⟩ := q
          simp only at hr' hleft' hall'
          have hs1 := (hx.tail).trans hst
          by_cases he : e1 = 0
          · subst he
            rw [if_pos rfl] at hall'
            replace hall' := Lib.hid hall'
            obtain ⟨r', o', fu', lf', X', hm', hok', hp', hf', rfl⟩ := hr'
            have ⟨c0, c1, c2, c3⟩ := cells4 hst.own.h0
            have fz := fun i => frz_of (i := i) hst.own.h0
            have hm2 := Lib.hid hm'
            have hp2 := Lib.hid hp'
            have hok2 := Lib.hid hok'
            have hf2 := Lib.hid hf'
            rcases fuse_cases hf' with ⟨rfl, hdid⟩ | ⟨rfl, z, hz, rfl, hzb⟩
            · replace hdid := Lib.hid hdid
              clear hm' hok' hp' hf' hleft'
              go_wp2_with fail
              go_ret
              rw [hall'.out, hdid.out]
              exact ⟨rfl, _, ⟨r', o', false, lf', X', hm2.out, hok2.out, hp2.out, hf2.out, rfl⟩, hs1⟩
            · obtain ⟨z, rfl⟩ : ∃ y, z = y + 1 := ⟨z - 1, by
                have : z ≠ 0 := fun e => hl0.out (by rw [← hleft', hz, e])
                omega⟩
              have hzb : (z : Int) ≤ 9223372036854775806 := by omega
              have hz' : Hid ((didN k1).left = some z) := by show _ = _; unfold didN; rw [hz]; rfl
              clear hm' hok' hp' hf' hleft' hz
              go_wp2_with fail
              go_ret
              rw [hall'.out]
              refine ⟨rfl, _, ⟨r', o', true, (z : Nat), X', hm2.out, hok2.out, hp2.out, ?_, rfl⟩, ?_⟩
              · show FuseIs (didN k1).left _ _
                rw [hz'.out]; exact ⟨rfl, rfl, by omega⟩
              · exact hs1.store0 _ (i := 3)
          · rw [if_neg he] at hall'
            replace hall' := Lib.hid hall'
            have e0 : ((e1 : Int) == 0) = false := beq_eq_false_iff_ne.2 (by omega)
            clear he hleft'
            replace hr' := Lib.hid hr'
            go_wp2_with fail
            go_ret
            rw [hall'.out]
            exact ⟨rfl, _, hr'.out, hs1⟩
end Go.Proofs.YtdolbeonpkanpaaGreatDoor
namespace Go.Proofs.YtdolbeonpkanpaaGreatDoor
open Go.RowKit
attribute [local go_sem ↓] Go.wp_at_zero Go.wp_at_succ

abbrev u32v (n : Nat) : Value := .int .u32 (n : Int)
def SumRel (l : List UInt8) (v3 v8 : Value) : Prop := ∃ i : Nat, i ≤ l.length ∧ v8 = iv i ∧ v3 = u32v (crcL 4294967295 (l.take i))
def SumIn (c : Nat) (v3 v16 : Value) : Prop := ∃ k : Nat, k ≤ 8 ∧ v16 = iv k ∧ v3 = u32v (crcK k c)
theorem crc_step {y : Nat} (h : y < 4294967296) : bits .xor .u32 ((y : Int) / 2) (bits .and .u32 2197175160 (-bits .and .u32 (y : Int) 1 % 4294967296)) = (crcS y : Int) := by
  have e1 : bits .and .u32 (y : Int) 1 = ((y &&& 1 : Nat) : Int) := u32_and_nat y 1 h (by decide)
  rw [e1, Nat.and_one_is_mod]
  unfold crcS
  rcases Nat.mod_two_eq_zero_or_one y with e | e
  · rw [e]
    have e2 : bits .and .u32 2197175160 (-((0 : Nat) : Int) % 4294967296) = ((0 : Nat) : Int) := by decide
    have e3 : ((y : Int) / 2) = ((y / 2 : Nat) : Int) := by omega
    rw [e2, e3, u32_xor_nat _ _ (by omega) (by decide)]
    rfl
  · rw [e]
    have e2 : bits .and .u32 2197175160 (-((1 : Nat) : Int) % 4294967296) = ((2197175160 : Nat) : Int) := by decide
    have e3 : ((y : Int) / 2) = ((y / 2 : Nat) : Int) := by omega
    rw [e2, e3, u32_xor_nat _ _ (by omega) (by decide)]
    rfl
theorem crc_not {c : Nat} (h : c < 4294967296) : bits .xor .u32 IntKind.u32.max (c : Int) = ((4294967295 - c : Nat) : Int) := by
  have e : IntKind.u32.max = ((4294967295 : Nat) : Int) := by decide
  rw [e, u32_xor_nat _ _ (by decide) h]
  congr 1
  have e1 : 4294967295 ^^^ c = (BitVec.allOnes 32 ^^^ BitVec.ofNat 32 c).toNat := by
    rw [BitVec.toNat_xor, BitVec.toNat_ofNat, Nat.mod_eq_of_lt (by omega)]; rfl
  rw [e1, BitVec.allOnes_xor, BitVec.toNat_not, BitVec.toNat_ofNat, Nat.mod_eq_of_lt (by omega)]
set_option maxRecDepth 100000 in
theorem sum_any (a : Option Addr) (n c : Nat) (l : List UInt8) (w : World) (h : RdBytes w a n c l) (hl : l.length ≤ 140737488355328) :
    Calls Tryz.prog 79 #[.slice a n c] w fun e w' => e = .returned (u32v (crcN l)) ∧ Step w [] w' [] := by
  have hn := h.1
  subst hn
  have b1 : (l.length : Int) ≤ 140737488355328 := by omega
  replace h := Lib.hid h
  go_enter Tryz.func79, Tryz.ntmps79
  go_wp2
  go_loop [3, 8] (fun v3 v8 => SumRel l v3 v8) (fun _ v => l.length - (intOf v).toNat)
  case atStart => exact ⟨0, Nat.zero_le _, rfl, rfl⟩
  case round =>
    obtain ⟨i, hi, rfl, rfl⟩ := hrel
    have d0 : (0 : Int) ≤ (i : Int) := by omega
    by_cases hlt : i < l.length
    · have d2 : (i : Int) < (l.length : Int) := by omega
      obtain ⟨b, off, rfl, _, _, hc⟩ := h.out.place (by intro e; subst e; simp at hlt)
      have hci := hc i hlt
      have hs := crcL_snoc 4294967295 hlt
      have ht := crcL_lt (c := 4294967295) (by decide) (l.take i)
      generalize crcL 4294967295 (l.take i) = c at hs ht
      generalize l[i]'hlt = x at hs hci
      have hx := crcX_lt ht x
      have q1 : bits .xor .u32 (c : Int) ((x.toNat : Int) % 4294967296) = ((c ^^^ x.toNat : Nat) : Int) := by
        have e : ((x.toNat : Int) % 4294967296) = (x.toNat : Int) := by have := UInt8.toNat_lt x; omega
        rw [e, u32_xor_nat _ _ ht (by have := UInt8.toNat_lt x; omega)]
      clear hc
      replace hs := Lib.hid hs
      generalize c ^^^ x.toNat = c0 at hx hs q1
      replace ht := Lib.hid ht
      go_upto_region 6 with fail
      go_wp2_with fail
      go_loop [3, 16] (fun v3 v16 => SumIn c0 v3 v16) (fun _ v => 8 - (intOf v).toNat)
      case atStart => exact ⟨0, Nat.zero_le _, rfl, rfl⟩
      case round =>
        obtain ⟨k, hk, rfl, rfl⟩ := hrel
        have d4 : (0 : Int) ≤ (k : Int) := by omega
        by_cases hlt8 : k < 8
        · have d5 : (k : Int) < 8 := by omega
          have hy := crcK_lt hx k
          have hz : Hid (crcS (crcK k c0) = crcK (k + 1) c0) := rfl
          generalize crcK k c0 = y at hy hz
          have q2 := crc_step hy
          go_wp2
          exact ⟨⟨k + 1, hlt8, by go_num, by rw [hz.out]⟩, by simp [intOf]; omega⟩
        · have d5 : (8 : Int) ≤ (k : Int) := by omega
          obtain rfl : k = 8 := by omega
          go_wp2
          exact ⟨⟨i + 1, hlt, by go_num, by rw [hs.out]⟩, by simp [intOf]; omega⟩
    · have d2 : (l.length : Int) ≤ (i : Int) := by omega
      have hs := crcL_all 4294967295 (l := l) (i := i) (by omega)
      have ht := crcL_lt (c := 4294967295) (by decide) l
      have q2 := crc_not ht
      rw [hs]
      go_wp2
      go_ret
      exact ⟨rfl, Step.refl (Own.nil _)⟩
end Go.Proofs.YtdolbeonpkanpaaGreatDoor
