/- Small things on disks: a new one, bytes that are laid for a write. The program's Writer: put, Four, Num, Out. The program's Reader: NewReader, take, Four, Num, Left, End. Rows of bytes of one's own. -/
import Derived.Test.YtdolbeonpkanpaaGreatDoorMDkH
import Derived.Lib.SlBytesConst
set_option linter.unusedVariables false
set_option linter.unusedSimpArgs false
namespace Go.Proofs.YtdolbeonpkanpaaGreatDoor
open Go.RowKit
attribute [local go_sem ↓] Go.wp_at_zero Go.wp_at_succ

def KnownPost (w : World) (e : Ending) (w' : World) : Prop := e = .returned (.bool true) ∧ Step w [] w' []
theorem rdBytes_new {w : World} {f : Nat × Nat} (l : List UInt8) (hl : l.length ≤ 1000) : RdBytes (w.alloc (.cells (l.map u8).toArray 5 f)) (some ⟨w.heap.size, 0, none⟩) l.length l.length l := by
  refine ⟨rfl, .inr ⟨_, rfl, Nat.le_refl _, by unfold maxLen; omega, fun i x hi => ?_⟩⟩
  rw [Addr.add_lit]
  exact cell_of (heap_alloc_new _ _) (by simp [hi])
theorem nil_ptr (w : World) (b : Nat) : (binOp .eql 28 (pt b) (.pointer none)).run Tryz.prog w = .ok (.bool false) w := by kernel_rfl
theorem dnew_ok (room : Int) (n : Nat) (hn : room = (n : Nat)) (h : n ≤ 1073741824) (w : World) : Calls Tryz.prog 33 #[ii room] w fun e w' => ∃ (b : Nat) (H : Heaplet), e = .returned (.tuple #[pt b, ii 0]) ∧ DkRep b ⟨n, [], none⟩ H ∧ Step w [] w' H :=
  (dnew_any room w).mono fun e w' hq => by
    rcases hq with ⟨h1, _⟩ | ⟨b, H, h1, h2, h3, h4, h5⟩
    · omega
    · subst hn
      exact ⟨b, H, h3, h4, h5⟩
theorem same_lit (l : List UInt8) (cs : Array Value) (hcs : cs = (l.map u8).toArray) (a : Option Addr) (c n : Nat) (hn : l.length = n) (H : Heaplet) (w : World) (f : Nat × Nat) (hs : SlRep 5 1 a n c (l.map u8) H) (hw : Own w H) (hl : l.length ≤ 1000) :
    Calls Tryz.prog 24 #[.slice a n c, .slice (some ⟨w.heap.size, 0, none⟩) n n] (w.alloc (.cells cs 5 f)) fun e w' => e = .returned (.bool true) ∧ Step w [] w' [] := by
  subst hn hcs
  refine (same_any a _ l.length c l.length l.length l l _ ((hs.rdBytes hw).alloc _) (rdBytes_new l hl) (by omega) (by omega)).mono fun e w' hq => ⟨by rw [hq.1]; simp, ((Step.refl (Own.nil w)).junk _).trans hq.2⟩
end Go.Proofs.YtdolbeonpkanpaaGreatDoor
namespace Go.Proofs.YtdolbeonpkanpaaGreatDoor
open Go.RowKit
attribute [local go_sem ↓] Go.wp_at_zero Go.wp_at_succ

/-- A Writer at b that holds l. -/
def WrRep (b : Nat) (l : List UInt8) (H : Heaplet) : Prop :=
  ∃ (a : Option Addr) (c : Nat) (G : Heaplet), SlRep 5 1 a l.length c (l.map u8) G ∧ H = (b, .cells #[.slice a l.length c] 88 (0, 0)) :: G
theorem wrRep_new (b : Nat) : WrRep b [] [(b, .cells #[.slice none 0 0] 88 (0, 0))] := ⟨none, 0, [], SlRep.nil _ _, rfl⟩
def WrPost (b : Nat) (l : List UInt8) (H : Heaplet) (w : World) (e : Ending) (w' : World) : Prop := e = .returned (.tuple #[]) ∧ ∃ H', WrRep b l H' ∧ Step w H w' H'
set_option maxRecDepth 100000 in
theorem put_any (b : Nat) (l : List UInt8) (H : Heaplet) (pa : Option Addr) (pn pc : Nat) (p : List UInt8) (w : World) (h : WrRep b l H) (hw : Own w H) (hp : RdBytes w pa pn pc p) (hl : l.length + p.length ≤ 140737488355328) :
    Calls Tryz.prog 74 #[pt b, .slice pa pn pc] w (WrPost b (l ++ p) H w) := by
  obtain ⟨a, c, G, hr, rfl⟩ := h
  obtain rfl := hp.1
  have c0 := cells1 hw.h0
  have b0 := heap_lt hw.h0
  have fz := fun i => frz_of (i := i) hw.h0
  have s0 : Sp w ((b, .cells #[.slice a l.length c] 88 (0, 0)) :: G) w [[(b, .cells #[.slice a l.length c] 88 (0, 0))], G] := (Sp.start hw).perm (by simp)
  replace hr := Lib.hid hr
  replace hp := Lib.hid hp
  replace hl := Lib.hid hl
  go_enter Tryz.func74, Tryz.ntmps74
  go_wp2_with (at_builtin; refine wpList_app rfl st_u8 _ _ rfl (by rfl) (by rfl) hr.out (s0.own 1 rfl) (rdBytes_cells hp.out) (by have := hl.out; unfold maxLen; omega) (by have := hl.out; omega) ?_; intro a2 c2 w2 H2 hr2 hst2; have s2 : Sp w _ w2 [[(b, .cells #[.slice a l.length c] 88 (0, 0))], H2] := s0.put 1 rfl hst2; replace hr2 := Lib.hid hr2; clear c0 b0 fz hst2; have c0 := cells1 (s2.own 0 rfl).h0; have b0 := heap_lt (s2.own 0 rfl).h0; have fz := fun i => frz_of (i := i) (s2.own 0 rfl).h0)
  go_end0
  refine ⟨rfl, _, ⟨a2, c2, H2, ?_, rfl⟩, ?_⟩
  · rw [List.length_append, List.map_append]
    exact hr2.out
  · have s3 := s2.store 0 (j := 0) rfl (.slice a2 (l.length + p.length) c2)
    rw [List.length_append]
    exact s3.out (by simp)
theorem u8_of (n : Nat) : u8 (UInt8.ofNat n) = .int .u8 ((n : Int) % 256) := by
  unfold u8
  rw [UInt8.toNat_ofNat']
  congr 1
theorem WrPost.pre {b : Nat} {l : List UInt8} {H K : Heaplet} {w W w' : World} {e : Ending} (h : WrPost b l H W e w') (s : Step w K W H) : WrPost b l K w e w' := by
  obtain ⟨h1, H', h2, h3⟩ := h
  exact ⟨h1, H', h2, s.trans h3⟩
/-- A put of bytes that are laid for it. -/
theorem put_lit (b : Nat) (l : List UInt8) (H : Heaplet) (p : List UInt8) (cs : Array Value) (hcs : cs = (p.map u8).toArray) (w : World) (h : WrRep b l H) (hw : Own w H) (n : Nat) (hn : p.length = n) (hn1 : n ≤ 1000) (hl : l.length ≤ 140737488354000) (f : Nat × Nat) :
    Calls Tryz.prog 74 #[pt b, .slice (some ⟨w.heap.size, 0, none⟩) n n] (w.alloc (.cells cs 5 f)) (WrPost b (l ++ p) H w) := by
  subst hcs hn
  have s := (Step.refl hw).alloc (.cells (p.map u8).toArray 5 f)
  exact (put_any b l H _ _ _ p _ h s.own.tail (rdBytes_new p hn1) (by omega)).mono fun e w' hq => hq.pre s.tail
theorem le4_cells (n : Nat) : #[Value.int .u8 ((n : Int) % 256), .int .u8 ((n : Int) / 256 % 256), .int .u8 ((n : Int) / 65536 % 256), .int .u8 ((n : Int) / 16777216 % 256)] = ((le4 n).map u8).toArray := by
  have e1 : (n : Int) / 256 = ((n / 256 : Nat) : Int) := by omega
  have e2 : (n : Int) / 65536 = ((n / 65536 : Nat) : Int) := by omega
  have e3 : (n : Int) / 16777216 = ((n / 16777216 : Nat) : Int) := by omega
  rw [e1, e2, e3]
  simp only [le4, List.map_cons, List.map_nil, u8_of]
set_option maxRecDepth 100000 in
theorem wfour_any (b : Nat) (l : List UInt8) (H : Heaplet) (n : Nat) (w : World) (h : WrRep b l H) (hw : Own w H) (hl : l.length ≤ 140737488354000) :
    Calls Tryz.prog 78 #[pt b, u32v n] w (WrPost b (l ++ le4 n) H w) := by
  have hp := Lib.hid (put_lit b l H (le4 n) _ (le4_cells n) w h hw 4 rfl (by decide) hl)
  clear h
  go_enter Tryz.func78, Tryz.ntmps78
  go_wp2_with fail
  refine (hp.out _).mono ?_
  rintro e w' ⟨rfl, H', h1, h2⟩
  go_wp2
  go_end0
  exact ⟨rfl, H', h1, h2⟩
set_option maxRecDepth 100000 in
theorem wout_any (b : Nat) (l : List UInt8) (H : Heaplet) (w : World) (h : WrRep b l H) (hw : Own w H) (hl : l.length ≤ 140737488354000) :
    Calls Tryz.prog 40 #[pt b] w (ClonePost w l) := by
  obtain ⟨a, c, G, hr, rfl⟩ := h
  have c0 := cells1 hw.h0
  have hb := Lib.hid (hr.rdBytes hw.tail)
  go_enter Tryz.func40, Tryz.ntmps40
  go_wp2_with fail
  refine (clone_any a l.length c l w hb.out (by omega)).mono ?_
  rintro e w' ⟨a', c', H', rfl, h1, h2⟩
  go_wp2
  go_ret
  exact ⟨_, _, H', rfl, h1, h2⟩
abbrev u64v (n : Nat) : Value := .int .u64 (n : Int)
theorem zig_bits {v : Int} (h1 : -9223372036854775808 ≤ v) (h2 : v ≤ 9223372036854775807) : bits .xor .u64 (IntKind.u64.wrap (wrap64 (v * 2))) (IntKind.u64.wrap (v / 9223372036854775808)) = (zig v : Int) := by
  have e0 : ∀ x : Int, IntKind.u64.wrap x = x % 18446744073709551616 := fun x => by simp [IntKind.wrap, IntKind.bits, IntKind.signed]
  rw [e0, e0]
  by_cases h : 0 ≤ v
  · have e1 : wrap64 (v * 2) % 18446744073709551616 = ((2 * v.toNat : Nat) : Int) := by unfold wrap64; omega
    have e2 : v / 9223372036854775808 % 18446744073709551616 = ((0 : Nat) : Int) := by omega
    rw [e1, e2, u64_xor_nat _ _ (by omega) (by decide), zig, if_pos h]
    simp
  · have e1 : wrap64 (v * 2) % 18446744073709551616 = ((18446744073709551616 - 2 * (-v).toNat : Nat) : Int) := by unfold wrap64; omega
    have e2 : v / 9223372036854775808 % 18446744073709551616 = ((18446744073709551615 : Nat) : Int) := by omega
    rw [e1, e2, u64_xor_nat _ _ (by omega) (by decide), zig, if_neg h]
    congr 1
    obtain ⟨x, hx⟩ : ∃ x, x = 18446744073709551616 - 2 * (-v).toNat := ⟨_, rfl⟩
    rw [← hx]
    have e3 : x ^^^ 18446744073709551615 = (BitVec.ofNat 64 x ^^^ BitVec.allOnes 64).toNat := by
      rw [BitVec.toNat_xor, BitVec.toNat_ofNat, Nat.mod_eq_of_lt (by omega)]; rfl
    rw [e3, BitVec.xor_allOnes, BitVec.toNat_not, BitVec.toNat_ofNat, Nat.mod_eq_of_lt (by omega)]
    omega
theorem low7 (u : Nat) : bits .or .u8 ((u : Int) % 256) 128 = ((u % 128 + 128 : Nat) : Int) := by
  have e1 : (u : Int) % 256 = ((u % 256 : Nat) : Int) := by omega
  rw [e1, show (128 : Int) = ((128 : Nat) : Int) from rfl, u8_or_nat _ _ (by omega) (by decide)]
  congr 1
  have e2 : u % 128 = u % 256 % 128 := by omega
  rw [e2]
  generalize hx : u % 256 = x
  have hx : x < 256 := by omega
  have : ∀ y : Fin 256, y.val ||| 128 = y.val % 128 + 128 := by decide +kernel
  exact this ⟨x, hx⟩
def WnRel (b v : Nat) (l : List UInt8) (H : Heaplet) (w : World) (v4 : Value) (wr : World) : Prop :=
  ∃ (u : Nat) (l1 : List UInt8) (H' : Heaplet), v4 = u64v u ∧ u < 18446744073709551616 ∧ l1 ++ var u = var v ∧ WrRep b (l ++ l1) H' ∧ Step w H wr H'
theorem zig_lt {v : Int} (h1 : -9223372036854775808 ≤ v) (h2 : v ≤ 9223372036854775807) : zig v < 18446744073709551616 := by unfold zig; split <;> omega
theorem zig_len {v : Int} (h1 : -9223372036854775808 ≤ v) (h2 : v ≤ 9223372036854775807) : (numB v).length ≤ 10 := var_len 9 (Nat.lt_trans (zig_lt h1 h2) (by decide))
set_option maxRecDepth 100000 in
theorem wnum_any (b : Nat) (l : List UInt8) (H : Heaplet) (v : Int) (w : World) (h : WrRep b l H) (hw : Own w H) (hl : l.length ≤ 140737488353000) (h1 : -9223372036854775808 ≤ v) (h2 : v ≤ 9223372036854775807) :
    Calls Tryz.prog 38 #[pt b, ii v] w (WrPost b (l ++ numB v) H w) := by
  have hz := zig_lt h1 h2
  have hll := zig_len h1 h2
  have hzb := zig_bits h1 h2
  unfold numB at hll ⊢
  generalize zig v = z at hz hll hzb ⊢
  have hin : Hid (WnRel b z l H w (u64v z) w) := ⟨z, [], H, rfl, hz, rfl, by simpa using h, Step.refl hw⟩
  clear h hw
  go_enter Tryz.func38, Tryz.ntmps38
  go_wp2_with fail
  go_loopw [4] (fun v wr => WnRel b z l H w v wr) (fun v _ => (intOf v).toNat)
  case atStart => exact hin.out
  case round =>
    clear hin
    obtain ⟨u, l1, H', rfl, hu, hvar, hr, hs⟩ := hrel
    by_cases h128 : 128 ≤ u
    · have d1 : (128 : Int) ≤ (u : Int) := by omega
      have q1 := low7 u
      have hv2 : Hid ((l1 ++ [UInt8.ofNat (u % 128 + 128)]) ++ var (u / 128) = var z) := by
        show _ = _
        rw [← hvar, var_big h128]; simp
      have hl1 : l1.length ≤ 10 := by have := congrArg List.length hvar; rw [List.length_append] at this; omega
      have hu2 : u / 128 < u := by omega
      have hu3 : u / 128 < 18446744073709551616 := by omega
      have e2 : (u : Int) / 128 = ((u / 128 : Nat) : Int) := by omega
      obtain ⟨u2, hh⟩ : ∃ u2, u2 = u / 128 := ⟨_, rfl⟩
      rw [← hh] at hv2 hu2 hu3 e2
      replace hh := Lib.hid hh
      have hp := Lib.hid (put_lit b (l ++ l1) H' [UInt8.ofNat (u % 128 + 128)] #[.int .u8 ((u % 128 + 128 : Nat) : Int)] (by simp [u8, UInt8.toNat_ofNat']; omega) wr hr hs.own 1 rfl (by decide) (by rw [List.length_append]; omega))
      replace hvar := Lib.hid hvar
      replace hr := Lib.hid hr
      go_wp2_with fail
      refine (hp.out _).mono ?_
      rintro e w2 ⟨rfl, H2, hr2, hst⟩
      go_wp2_with fail
      exact ⟨⟨u2, l1 ++ [UInt8.ofNat (u % 128 + 128)], H2, by first | rfl | go_num, hu3, hv2.out, by rw [← List.append_assoc]; exact hr2, hs.trans hst⟩, by simp [intOf]; omega⟩
    · have d1 : (u : Int) < 128 := by omega
      have hp := Lib.hid (put_lit b (l ++ l1) H' [UInt8.ofNat u] #[.int .u8 (u : Int)] (by simp [u8_of]; omega) wr hr hs.own 1 rfl (by decide) (by have := congrArg List.length hvar; rw [List.length_append] at this ⊢; omega))
      replace hvar := Lib.hid hvar
      replace hr := Lib.hid hr
      go_wp2_with fail
      refine (hp.out _).mono ?_
      rintro e w2 ⟨rfl, H2, hr2, hst⟩
      go_wp2_with fail
      go_end0
      refine ⟨rfl, H2, ?_, hs.trans hst⟩
      rw [← hvar.out, var_small (by omega), ← List.append_assoc]
      exact hr2
end Go.Proofs.YtdolbeonpkanpaaGreatDoor
namespace Go.Proofs.YtdolbeonpkanpaaGreatDoor
open Go.RowKit
attribute [local go_sem ↓] Go.wp_at_zero Go.wp_at_succ

/-- Bytes that are read wherever R holds (or are none). -/
abbrev OwnR (G : Heaplet) : World → Prop := fun w => Own w G
def InB (R : World → Prop) (a : Option Addr) (c : Nat) (l : List UInt8) : Prop :=
  (∀ w, R w → RdBytes w a l.length c l) ∧ ((a = none ∧ l = [] ∧ c = 0) ∨ ∃ g o, a = some ⟨g, o, none⟩ ∧ l.length ≤ c ∧ c ≤ maxLen)
theorem inB_nil (R : World → Prop) : InB R none 0 [] := ⟨fun _ _ => ⟨rfl, .inl ⟨rfl, rfl, rfl⟩⟩, .inl ⟨rfl, rfl, rfl⟩⟩
theorem inB_sl {a : Option Addr} {n c E : Nat} {l : List UInt8} {G : Heaplet} (h : SlRep E 1 a n c (l.map u8) G) : InB (OwnR G) a c l := by
  have hl : l.length = n := by have := h.1; simpa using this
  refine ⟨fun w hw => hl ▸ h.rdBytes hw, ?_⟩
  obtain ⟨_, ⟨rfl, rfl, rfl, _⟩ | ⟨g, cur, rfl, _, h1, h2, _⟩⟩ := h
  · exact .inl ⟨rfl, List.eq_nil_of_length_eq_zero hl, rfl⟩
  · exact .inr ⟨g, 0, rfl, by omega, h2⟩
theorem inB_take {R : World → Prop} {g o c : Nat} {l : List UInt8} (h : InB R (some ⟨g, o, none⟩) c l) (n : Nat) : InB R (some ⟨g, o, none⟩) c (l.take n) := by
  obtain ⟨h1, ⟨h2, _⟩ | ⟨g', o', e, h3, h4⟩⟩ := h
  · cases h2
  · cases e
    refine ⟨fun w hw => ?_, .inr ⟨g, o, rfl, by rw [List.length_take]; omega, h4⟩⟩
    obtain ⟨_, ⟨h5, _⟩ | ⟨ad, e, _, _, h5⟩⟩ := h1 w hw
    · cases h5
    · cases e
      refine ⟨rfl, .inr ⟨_, rfl, by rw [List.length_take]; omega, h4, fun i x hi => h5 i x ?_⟩⟩
      rw [List.getElem?_take] at hi
      split at hi
      · exact hi
      · cases hi
theorem inB_drop {R : World → Prop} {g o c n : Nat} {l : List UInt8} (h : InB R (some ⟨g, o, none⟩) c l) (hn : n ≤ l.length) (hc : n ≠ c) : InB R (some ⟨g, o + n, none⟩) (c - n) (l.drop n) := by
  obtain ⟨h1, ⟨h2, _⟩ | ⟨g', o', e, h3, h4⟩⟩ := h
  · cases h2
  · cases e
    refine ⟨fun w hw => ?_, .inr ⟨g, o + n, rfl, by rw [List.length_drop]; omega, by omega⟩⟩
    obtain ⟨_, ⟨h5, _⟩ | ⟨ad, e, _, _, h5⟩⟩ := h1 w hw
    · cases h5
    · cases e
      refine ⟨rfl, .inr ⟨_, rfl, by rw [List.length_drop]; omega, by omega, fun i x hi => ?_⟩⟩
      rw [List.getElem?_drop] at hi
      have := h5 (n + i) x hi
      rw [Addr.add_lit] at this ⊢
      rwa [Nat.add_assoc]
theorem inB_drop_end {R : World → Prop} {g o c : Nat} {l : List UInt8} (h : InB R (some ⟨g, o, none⟩) c l) (hc : c ≤ l.length) : InB R (some ⟨g, o, none⟩) 0 (l.drop c) := by
  have e : l.drop c = [] := by
    obtain ⟨h1, ⟨h2, _⟩ | ⟨g', o', e, h3, h4⟩⟩ := h
    · cases h2
    · exact List.drop_eq_nil_of_le (by omega)
  rw [e]
  exact ⟨fun w _ => ⟨rfl, .inr ⟨_, rfl, Nat.le_refl _, Nat.zero_le _, fun i x hi => by simp at hi⟩⟩, .inr ⟨g, o, rfl, Nat.le_refl _, Nat.zero_le _⟩⟩
/-- A Reader at b: what is left, the error, where the bytes lie. -/
def OcRep (b : Nat) (l : List UInt8) (e : Nat) (G H : Heaplet) : Prop :=
  ∃ (a : Option Addr) (c : Nat), InB (OwnR G) a c l ∧ H = [(b, .cells #[.slice a l.length c, iv e] 167 (0, 0))]
set_option maxRecDepth 100000 in
theorem newReader_any (a : Option Addr) (n c : Nat) (l : List UInt8) (w : World) (h : RdBytes w a n c l) (hl : l.length ≤ 140737488354000) :
    Calls Tryz.prog 89 #[.slice a n c] w fun e w' => ∃ b G H, e = .returned (pt b) ∧ OcRep b l 0 G H ∧ Sp w [] w' [G, H] := by
  have hc := Lib.hid (clone_any a n c l w h (by omega))
  go_enter Tryz.func89, Tryz.ntmps89
  go_wp2_with fail
  refine hc.out.mono ?_
  rintro e w1 ⟨a', c', G, rfl, h1, h2⟩
  have s : Sp w [] _ [G, [(w1.heap.size, .cells #[.slice a' l.length c', iv 0] 167 (0, 0))]] := ((Sp.nil w).fresh h2).alloc _
  go_wp2
  go_ret
  exact ⟨_, G, _, rfl, ⟨a', c', inB_sl h1, rfl⟩, s⟩
set_option maxRecDepth 100000 in
theorem fail_any (b : Nat) (l : List UInt8) (e0 e : Nat) (G H : Heaplet) (w : World) (h : OcRep b l e0 G H) (hw : Own w H) :
    Calls Tryz.prog 115 #[pt b, iv e] w fun r w' => r = .returned (.tuple #[]) ∧ ∃ H', OcRep b [] e G H' ∧ Step w H w' H' := by
  obtain ⟨a, c, _, rfl⟩ := h
  have ⟨c0, c1⟩ := cells2 hw.h0
  have b0 := heap_lt hw.h0
  have fz := fun i => frz_of (i := i) hw.h0
  have s0 := Step.refl hw
  go_enter Tryz.func115, Tryz.ntmps115
  go_wp2
  go_end0
  exact ⟨rfl, _, ⟨none, 0, inB_nil _, rfl⟩, (s0.store0 (.slice none 0 0) (i := 0)).store0 (iv e) (i := 1)⟩
/-- What take hands back, and what is left. -/
def TakePost (b : Nat) (l : List UInt8) (e n : Nat) (G H : Heaplet) (w : World) (r : Ending) (w' : World) : Prop :=
  (e = 0 ∧ n ≤ l.length ∧ ∃ a c H', r = .returned (.slice a n c) ∧ InB (OwnR G) a c (l.take n) ∧ OcRep b (l.drop n) 0 G H' ∧ Step w H w' H') ∨
  (e = 0 ∧ l.length < n ∧ ∃ H', r = .returned (.slice none 0 0) ∧ OcRep b [] 2 G H' ∧ Step w H w' H') ∨
  (e ≠ 0 ∧ r = .returned (.slice none 0 0) ∧ Step w H w' H)
set_option maxRecDepth 100000 in
theorem take_any (b : Nat) (l : List UInt8) (e n : Nat) (G H : Heaplet) (w : World) (h : OcRep b l e G H) (hw : Own w H) (hn : n ≤ 9223372036854775807) :
    Calls Tryz.prog 114 #[pt b, iv n] w (TakePost b l e n G H w) := by
  have hfl := Lib.hid (fail_any b l e 2 G H w h hw)
  obtain ⟨a, c, hin, rfl⟩ := h
  have ⟨c0, c1⟩ := cells2 hw.h0
  have b0 := heap_lt hw.h0
  have fz := fun i => frz_of (i := i) hw.h0
  have s0 := Step.refl hw
  by_cases he : e = 0
  · subst he
    by_cases hl : l.length < n
    · have d1 : (l.length : Int) < (n : Int) := by omega
      clear hin
      go_enter Tryz.func114, Tryz.ntmps114
      go_wp2_with fail
      refine hfl.out.mono ?_
      rintro e w1 ⟨rfl, H', h1, h2⟩
      go_wp2
      go_ret
      exact .inr (.inl ⟨rfl, hl, H', rfl, h1, h2⟩)
    · have d1 : (n : Int) ≤ (l.length : Int) := by omega
      have hin2 := Lib.hid hin
      obtain ⟨_, ⟨rfl, rfl, rfl⟩ | ⟨g, o, rfl, h3, h4⟩⟩ := hin
      · obtain rfl : n = 0 := by simpa using hl
        go_enter Tryz.func114, Tryz.ntmps114
        go_wp2
        go_ret
        exact .inl ⟨rfl, Nat.le_refl _, none, 0, _, rfl, inB_nil _, ⟨none, 0, inB_nil _, rfl⟩, s0.store0 (.slice none 0 0) (i := 0)⟩
      · have d2 : (n : Int) ≤ (c : Int) := by omega
        have hln : n ≤ l.length := by omega
        by_cases hcn : c = n
        · subst hcn
          go_enter Tryz.func114, Tryz.ntmps114
          go_wp2
          go_ret
          refine .inl ⟨rfl, hln, some ⟨g, o, none⟩, c, _, rfl, inB_take hin2.out c, ⟨some ⟨g, o, none⟩, 0, inB_drop_end hin2.out hln, rfl⟩, ?_⟩
          have e0 : l.length - c = 0 := by omega
          rw [List.length_drop, e0]
          exact s0.store0 (.slice (some ⟨g, o, none⟩) 0 0) (i := 0)
        · have hcn' : ¬ n = c := fun e => hcn e.symm
          go_enter Tryz.func114, Tryz.ntmps114
          go_wp2
          go_ret
          refine .inl ⟨rfl, hln, some ⟨g, o, none⟩, c, _, rfl, inB_take hin2.out n, ⟨some ⟨g, o + n, none⟩, c - n, inB_drop hin2.out hln hcn', rfl⟩, ?_⟩
          rw [List.length_drop]
          exact s0.store0 (.slice (some ⟨g, o + n, none⟩) (l.length - n) (c - n)) (i := 0)
  · have d1 : ((e : Int) != 0) = true := by rw [bne_iff_ne]; omega
    go_enter Tryz.func114, Tryz.ntmps114
    go_wp2
    go_ret
    exact .inr (.inr ⟨he, rfl, s0⟩)
theorem or_add {k n : Nat} (x : Nat) (h : n < 2 ^ k) : n ||| x * 2 ^ k = n + x * 2 ^ k := by
  have := Nat.two_pow_add_eq_or_of_lt h x
  rw [Nat.mul_comm x, Nat.or_comm, ← this, Nat.add_comm]
theorem low_bits (x : UInt8) {i n : Nat} (hi : i < 4) (hn : n < 256 ^ i) : bits .or .u32 (n : Int) ((x.toNat : Int) % 4294967296 * 2 ^ (8 * i) % 4294967296) = ((n + x.toNat * 256 ^ i : Nat) : Int) := by
  have hx := UInt8.toNat_lt x
  have e : (256 : Nat) ^ i = 2 ^ (8 * i) := by rw [Nat.pow_mul]
  have e1 : ((x.toNat : Int) % 4294967296 * 2 ^ (8 * i) % 4294967296) = ((x.toNat * 2 ^ (8 * i) : Nat) : Int) ∧ n < 4294967296 ∧ x.toNat * 2 ^ (8 * i) < 4294967296 := by
    have h4 : i = 0 ∨ i = 1 ∨ i = 2 ∨ i = 3 := by omega
    clear e
    generalize x.toNat = z at hx ⊢
    rcases h4 with rfl | rfl | rfl | rfl <;> simp at hn ⊢ <;> omega
  obtain ⟨e1, h1, h2⟩ := e1
  rw [e1, u32_or_nat _ _ h1 h2, e]
  rw [e] at hn
  rw [or_add _ hn]
def LowRel (l : List UInt8) (v5 v12 : Value) : Prop := ∃ i : Nat, i ≤ l.length ∧ v12 = iv i ∧ v5 = u32v (rd4' (l.take i))
set_option maxRecDepth 100000 in
theorem low_any (b : Nat) (l : List UInt8) (G H : Heaplet) (w w0 : World) (h : OcRep b l 0 G H) (s : Sp w0 [] w [G, H]) (hl : 4 ≤ l.length) (p : List UInt8) (hp : l.take 4 = p) :
    Calls Tryz.prog 128 #[pt b, iv 4] w fun r w' => r = .returned (u32v (rd4 p)) ∧ ∃ H', OcRep b (l.drop 4) 0 G H' ∧ Sp w0 [] w' [G, H'] := by
  go_enter Tryz.func128, Tryz.ntmps128
  go_wp2_with fail
  refine (take_any b l 0 4 G H w h (s.own 1 rfl) (by decide)).mono ?_
  rintro r w1 (⟨_, _, a, c, H', rfl, hin, hr, hst⟩ | ⟨_, h1, _⟩ | ⟨h1, _⟩)
  · have s : Sp w0 [] w1 [G, H'] := s.put 1 rfl hst
    have hb := hin.1 w1 (s.own 0 rfl)
    have h4 : (l.take 4).length = 4 := by rw [List.length_take]; omega
    rw [hp] at hin hb h4
    rw [h4] at hb
    obtain ⟨bg, og, rfl, hgc, _, hc⟩ := hb.place (by intro e; subst e; simp at h4)
    go_wp2_with fail
    go_loop [5, 12] (fun v5 v12 => LowRel p v5 v12) (fun _ v => 4 - (intOf v).toNat)
    case atStart => exact ⟨0, Nat.zero_le _, rfl, rfl⟩
    case round =>
      obtain ⟨i, hi, rfl, rfl⟩ := hrel
      have d0 : (0 : Int) ≤ (i : Int) := by omega
      by_cases hlt : i < 4
      · have d2 : (i : Int) < 4 := by omega
        have d3 : (i : Int) < (c : Int) := by omega
        have hci := hc i (by omega)
        have hn := rd4_lt' (p.take i)
        have hs := rd4_snoc (p.take i) (p[i]'(by omega))
        rw [List.take_append_getElem] at hs
        have htl : (p.take i).length = i := by rw [List.length_take]; omega
        rw [htl] at hn hs
        have q1 := low_bits (p[i]'(by omega)) hlt hn
        rw [← hs] at q1
        replace hs := Lib.hid hs
        clear hn
        go_wp2_with fail
        exact ⟨⟨i + 1, by omega, by go_num, rfl⟩, by simp [intOf]; omega⟩
      · have d2 : (4 : Int) ≤ (i : Int) := by omega
        have hall : p.take i = p := List.take_of_length_le (by omega)
        rw [hall, ← rd4_eq h4]
        go_wp2_with fail
        go_ret
        exact ⟨rfl, H', hr, s⟩
  · omega
  · exact absurd rfl h1
set_option maxRecDepth 100000 in
theorem rfour_any (b : Nat) (l : List UInt8) (G H : Heaplet) (w w0 : World) (h : OcRep b l 0 G H) (s : Sp w0 [] w [G, H]) (hl : 4 ≤ l.length) :
    Calls Tryz.prog 112 #[pt b] w fun r w' => r = .returned (u32v (rd4 (l.take 4))) ∧ ∃ H', OcRep b (l.drop 4) 0 G H' ∧ Sp w0 [] w' [G, H'] := by
  go_enter Tryz.func112, Tryz.ntmps112
  go_wp2_with fail
  refine (low_any b l G H w w0 h s hl _ rfl).mono ?_
  rintro r w1 ⟨rfl, H', h1, s1⟩
  go_wp2
  go_ret
  exact ⟨rfl, H', h1, s1⟩
set_option maxRecDepth 100000 in
theorem rleft_any (b : Nat) (l : List UInt8) (e : Nat) (G H : Heaplet) (w : World) (h : OcRep b l e G H) (hw : Own w H) :
    Calls Tryz.prog 91 #[pt b] w fun r w' => r = .returned (iv l.length) ∧ Step w [] w' [] := by
  obtain ⟨a, c, _, rfl⟩ := h
  have ⟨c0, c1⟩ := cells2 hw.h0
  go_enter Tryz.func91, Tryz.ntmps91
  go_wp2
  go_ret
  exact ⟨rfl, Step.refl (Own.nil _)⟩
def endN (e : Nat) (l : List UInt8) : Nat := if e = 0 ∧ l ≠ [] then 3 else e
set_option maxRecDepth 100000 in
theorem rend_any (b : Nat) (l : List UInt8) (e : Nat) (G H : Heaplet) (w : World) (h : OcRep b l e G H) (hw : Own w H) :
    Calls Tryz.prog 92 #[pt b] w fun r w' => r = .returned (iv (endN e l)) ∧ Step w [] w' [] := by
  obtain ⟨a, c, _, rfl⟩ := h
  have ⟨c0, c1⟩ := cells2 hw.h0
  by_cases he : e = 0
  · subst he
    cases l with
    | nil =>
      go_enter Tryz.func92, Tryz.ntmps92
      go_wp2
      go_ret
      exact ⟨rfl, Step.refl (Own.nil _)⟩
    | cons x l =>
      obtain ⟨n, hn⟩ : ∃ n, n = (x :: l).length := ⟨_, rfl⟩
      have d1 : (0 : Int) < (n : Int) := by rw [hn, List.length_cons]; omega
      rw [← hn] at c0
      clear hn
      go_enter Tryz.func92, Tryz.ntmps92
      go_wp2
      go_ret
      exact ⟨rfl, Step.refl (Own.nil _)⟩
  · have d1 : ((e : Int) == 0) = false := beq_eq_false_iff_ne.2 (by omega)
    have d2 : endN e l = e := if_neg (fun h => he h.1)
    go_enter Tryz.func92, Tryz.ntmps92
    go_wp2
    go_ret
    exact ⟨by rw [d2]; rfl, Step.refl (Own.nil _)⟩
end Go.Proofs.YtdolbeonpkanpaaGreatDoor
namespace Go.Proofs.YtdolbeonpkanpaaGreatDoor
open Go.RowKit
/-- A row: bytes in memory of its own. -/
structure Rw where
  a : Option Addr
  c : Nat
  d : List UInt8
  H : Heaplet
def Rw.ok (x : Rw) : Prop := SlRep 5 1 x.a x.d.length x.c (x.d.map u8) x.H
def Rw.val (x : Rw) : Value := .slice x.a x.d.length x.c
def rwH (X : List Rw) : Heaplet := X.flatMap Rw.H
def rwD (X : List Rw) : List (List UInt8) := X.map Rw.d
theorem st_rows : SlTy Tryz.prog 22 23 1 24 (.slice none 0 0) := ⟨by kernel_rfl, by kernel_rfl, rfl, by decide⟩
/-- Rows in a slice of their own. -/
def RowsRep (a : Option Addr) (c : Nat) (X : List Rw) (G : Heaplet) : Prop := SlRep 23 1 a X.length c (X.map Rw.val) G ∧ ∀ x ∈ X, x.ok
theorem rowsRep_nil : RowsRep none 0 [] [] := ⟨SlRep.nil _ _, by simp⟩
theorem rowsRep_snoc {a : Option Addr} {c n : Nat} {X : List Rw} {x : Rw} {G : Heaplet} (h : SlRep 23 1 a n c (X.map Rw.val ++ [x.val]) G) (hn : n = X.length + 1) (hX : ∀ x ∈ X, x.ok) (hx : x.ok) : RowsRep a c (X ++ [x]) G := by
  subst hn
  refine ⟨by rw [List.length_append, List.map_append]; exact h, fun y hy => ?_⟩
  rcases List.mem_append.1 hy with hy | hy
  · exact hX y hy
  · rw [List.mem_singleton.1 hy]; exact hx
theorem rwH_snoc (X : List Rw) (x : Rw) : rwH (X ++ [x]) = rwH X ++ x.H := by simp [rwH]
theorem rwD_snoc (X : List Rw) (x : Rw) : rwD (X ++ [x]) = rwD X ++ [x.d] := by simp [rwD]
theorem rwD_len (X : List Rw) : (rwD X).length = X.length := by simp [rwD]
theorem rw_at {X : List Rw} {i : Nat} {x : Rw} (hx : X[i]? = some x) : ∃ A B : Heaplet, rwH X = A ++ (x.H ++ B) := by
  obtain ⟨hi, rfl⟩ := List.getElem?_eq_some_iff.1 hx
  refine ⟨rwH (X.take i), rwH (X.drop (i + 1)), ?_⟩
  unfold rwH
  rw [← List.flatMap_cons, ← List.drop_eq_getElem_cons hi, ← List.flatMap_append, List.take_append_drop]
theorem rw_bytes {X : List Rw} {i : Nat} {x : Rw} (hx : X[i]? = some x) (hX : ∀ x ∈ X, x.ok) {w : World} (h : Own w (rwH X)) : RdBytes w x.a x.d.length x.c x.d := by
  obtain ⟨A, B, e⟩ := rw_at hx
  rw [e] at h
  exact SlRep.rdBytes (hX x (List.mem_of_getElem? hx)) h.right.left
/-- The row at i, in the slice. -/
theorem rows_at {a : Option Addr} {c : Nat} {X : List Rw} {G : Heaplet} (h : RowsRep a c X G) {w : World} (hw : Own w G) {i : Nat} {x : Rw} (hx : X[i]? = some x) :
    ∃ g, a = some ⟨g, 0, none⟩ ∧ w.cell? ⟨g, i, none⟩ = some (.slice x.a x.d.length x.c) ∧ X.length ≤ c := by
  obtain ⟨g, e, h1, h2⟩ := slRep_at h.1 hw (i := i) (v := x.val) (by rw [List.getElem?_map, hx]; rfl)
  rw [Nat.zero_add] at h1
  refine ⟨g, e, h1, ?_⟩
  obtain ⟨_, ⟨e', _⟩ | ⟨_, _, _, _, h3, _⟩⟩ := h.1
  · rw [e] at e'; cases e'
  · exact h3
end Go.Proofs.YtdolbeonpkanpaaGreatDoor
