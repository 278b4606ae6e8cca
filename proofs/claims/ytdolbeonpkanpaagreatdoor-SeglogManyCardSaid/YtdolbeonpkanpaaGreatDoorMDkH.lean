/- The program's disk: Write, Sync, Cut, Rename, Remove. The program's disk: Read. Bytes held against each other; bytes with room: same, roomy, stands, spoil. The program's disk: Crash. Rows that are written, some of them synced, and a crash: the plain law. A file that gets another name: the plain law. Rows that are written to three files of a disk with little room: the plain law. -/
import Derived.Test.YtdolbeonpkanpaaGreatDoorDkG
import Derived.Laws.BitsAllLaws
set_option linter.unusedVariables false
set_option linter.unusedSimpArgs false
namespace Go.Proofs.YtdolbeonpkanpaaGreatDoor
open Go.RowKit
attribute [local go_sem ↓] Go.wp_at_zero Go.wp_at_succ

theorem wr_left (nm : Nm) (p : List UInt8) (k : Dk) : (wrI nm p k).2.left = k.left := by unfold wrI; split; rfl; split <;> rfl
theorem sy_left (nm : Nm) (k : Dk) : (syI nm k).2.left = k.left := by unfold syI; split <;> rfl
theorem cu_left (nm : Nm) (n : Int) (k : Dk) : (cuI nm n k).2.left = k.left := by unfold cuI; split; split <;> rfl; rfl
theorem rm_left (nm : Nm) (k : Dk) : (rmI nm k).2.left = k.left := by unfold rmI; split <;> rfl
theorem rdBytes_none (w : World) : RdBytes w none 0 0 [] := ⟨rfl, .inl ⟨rfl, rfl, rfl⟩⟩
theorem rdStrs_one (w : World) (nm : Nm) : RdStrs (w.alloc (.cells #[strV nm] 9)) w.heap.size [nm] := by
  intro i x hx
  cases i with
  | zero => cases hx; exact cell_of (heap_alloc_new _ _) rfl
  | succ i => simp at hx
theorem call_write (args : Array Value) (w : World) : (callFunc 69 args).run Tryz.prog w = .ok (.enter 69 args) w := by kernel_rfl
theorem call_sync (args : Array Value) (w : World) : (callFunc 84 args).run Tryz.prog w = .ok (.enter 84 args) w := by kernel_rfl
theorem call_cut (args : Array Value) (w : World) : (callFunc 97 args).run Tryz.prog w = .ok (.enter 97 args) w := by kernel_rfl
theorem call_remove (args : Array Value) (w : World) : (callFunc 116 args).run Tryz.prog w = .ok (.enter 116 args) w := by kernel_rfl
set_option maxHeartbeats 1000000 in
theorem dwrite (b : Nat) (k : Dk) (H : Heaplet) (nm : Nm) (pa : Option Addr) (pn pc : Nat) (p : List UInt8) (w : World) (h : DkRep b k H) (hk : k.Ok) (hw : Own w H)
    (hb : RdBytes w pa pn pc p) (hpb : p ≠ [] → ∀ x, pa = some x → x.block ∉ dom H) (hpl : p.length ≤ 140737488355328) :
    Calls Tryz.prog 30 #[pt b, strV nm, .slice pa pn pc] w (DkPost b (gateN [nm] (wrI nm p) k) H w) := by
  have s1 := (Step.refl hw).alloc (.cells #[strV nm] 9)
  have hng : w.heap.size ∉ dom H := fun hx => Nat.lt_irrefl _ (hw.lt _ hx)
  have hgt := Lib.hid (gate_any 69 call_write b k H w.heap.size 1 [nm] 0 pa pn pc p (wrI nm p) (w.alloc (.cells #[strV nm] 9)) h s1.own.tail (rdStrs_one w nm) (hb.alloc _) (Nat.le_refl _) (by decide) (wr_left _ _ _)
    (fun W hW hg hb' => write_any b k H w.heap.size 1 nm 0 pa pn pc p W h hk hW hg (Nat.le_refl _) hb' hng hpb hpl))
  replace s1 := Lib.hid s1
  clear h hk
  go_enter Tryz.func30, Tryz.ntmps30
  go_wp2_with fail
  refine hgt.out.mono ?_
  rintro e w2 ⟨rfl, H', hr, hst⟩
  go_wp2
  go_ret
  exact ⟨rfl, H', hr, s1.out.tail.trans hst⟩
set_option maxHeartbeats 1000000 in
theorem dsync (b : Nat) (k : Dk) (H : Heaplet) (nm : Nm) (w : World) (h : DkRep b k H) (hk : k.Ok) (hw : Own w H) :
    Calls Tryz.prog 49 #[pt b, strV nm] w (DkPost b (gateN [nm] (syI nm) k) H w) := by
  have s1 := (Step.refl hw).alloc (.cells #[strV nm] 9)
  have hng : w.heap.size ∉ dom H := fun hx => Nat.lt_irrefl _ (hw.lt _ hx)
  have hgt := Lib.hid (gate_any 84 call_sync b k H w.heap.size 1 [nm] 0 none 0 0 [] (syI nm) (w.alloc (.cells #[strV nm] 9)) h s1.own.tail (rdStrs_one w nm) (rdBytes_none _) (Nat.le_refl _) (by decide) (sy_left _ _)
    (fun W hW hg hb' => sync_any b k H w.heap.size 1 nm 0 none 0 0 W h hk hW hg (Nat.le_refl _)))
  replace s1 := Lib.hid s1
  clear h hk
  go_enter Tryz.func49, Tryz.ntmps49
  go_wp2_with fail
  refine hgt.out.mono ?_
  rintro e w2 ⟨rfl, H', hr, hst⟩
  go_wp2
  go_ret
  exact ⟨rfl, H', hr, s1.out.tail.trans hst⟩
set_option maxHeartbeats 1000000 in
theorem dcut (b : Nat) (k : Dk) (H : Heaplet) (nm : Nm) (n : Int) (w : World) (h : DkRep b k H) (hk : k.Ok) (hw : Own w H) :
    Calls Tryz.prog 65 #[pt b, strV nm, ii n] w (DkPost b (gateN [nm] (cuI nm n) k) H w) := by
  have s1 := (Step.refl hw).alloc (.cells #[strV nm] 9)
  have hng : w.heap.size ∉ dom H := fun hx => Nat.lt_irrefl _ (hw.lt _ hx)
  have hgt := Lib.hid (gate_any 97 call_cut b k H w.heap.size 1 [nm] n none 0 0 [] (cuI nm n) (w.alloc (.cells #[strV nm] 9)) h s1.own.tail (rdStrs_one w nm) (rdBytes_none _) (Nat.le_refl _) (by decide) (cu_left _ _ _)
    (fun W hW hg hb' => cut_any b k H w.heap.size 1 nm n none 0 0 W h hk hW hg (Nat.le_refl _)))
  replace s1 := Lib.hid s1
  clear h hk
  go_enter Tryz.func65, Tryz.ntmps65
  go_wp2_with fail
  refine hgt.out.mono ?_
  rintro e w2 ⟨rfl, H', hr, hst⟩
  go_wp2
  go_ret
  exact ⟨rfl, H', hr, s1.out.tail.trans hst⟩
set_option maxHeartbeats 1000000 in
theorem dremove (b : Nat) (k : Dk) (H : Heaplet) (nm : Nm) (w : World) (h : DkRep b k H) (hk : k.Ok) (hw : Own w H) :
    Calls Tryz.prog 93 #[pt b, strV nm] w (DkPost b (gateN [nm] (rmI nm) k) H w) := by
  have s1 := (Step.refl hw).alloc (.cells #[strV nm] 9)
  have hng : w.heap.size ∉ dom H := fun hx => Nat.lt_irrefl _ (hw.lt _ hx)
  have hgt := Lib.hid (gate_any 116 call_remove b k H w.heap.size 1 [nm] 0 none 0 0 [] (rmI nm) (w.alloc (.cells #[strV nm] 9)) h s1.own.tail (rdStrs_one w nm) (rdBytes_none _) (Nat.le_refl _) (by decide) (rm_left _ _)
    (fun W hW hg hb' => remove_any b k H w.heap.size 1 nm 0 none 0 0 W h hk hW hg (Nat.le_refl _)))
  replace s1 := Lib.hid s1
  clear h hk
  go_enter Tryz.func93, Tryz.ntmps93
  go_wp2_with fail
  refine hgt.out.mono ?_
  rintro e w2 ⟨rfl, H', hr, hst⟩
  go_wp2
  go_ret
  exact ⟨rfl, H', hr, s1.out.tail.trans hst⟩
end Go.Proofs.YtdolbeonpkanpaaGreatDoor
namespace Go.Proofs.YtdolbeonpkanpaaGreatDoor
open Go.RowKit
attribute [local go_sem ↓] Go.wp_at_zero Go.wp_at_succ

/-- What clone hands back: bytes in memory of its own. -/
def ClonePost (w : World) (l : List UInt8) (e : Ending) (w' : World) : Prop :=
  ∃ a c H, e = .returned (.slice a l.length c) ∧ SlRep 5 1 a l.length c (l.map u8) H ∧ Step w [] w' H

theorem clone_any (a : Option Addr) (n c : Nat) (l : List UInt8) (w : World) (h : RdBytes w a n c l) (hl : l.length ≤ 140737488355328) :
    Calls Tryz.prog 44 #[.slice a n c] w (ClonePost w l) := by
  cases a with
  | none =>
    obtain ⟨rfl, ⟨_, rfl, rfl⟩ | ⟨_, h, _⟩⟩ := h
    · go_enter Tryz.func44, Tryz.ntmps44
      go_wp2
      go_ret
      exact ⟨_, _, [], rfl, SlRep.nil _ _, Step.refl (Own.nil _)⟩
    · cases h
  | some x =>
    replace h := Lib.hid (h.alloc (.cells #[] 5))
    have hn : n ≤ 140737488355328 := by have := h.out.1; omega
    go_enter Tryz.func44, Tryz.ntmps44
    go_wp2_with (at_builtin; refine wpList_app rfl st_u8 _ _ rfl (by rfl) (by rfl) (SlRep.made _ _ w.heap.size) (Own.one (heap_alloc_new w _)) (rdBytes_cells h.out) (by unfold maxLen; omega) (by omega) ?_; intro a' c' w' H' hv' hst)
    go_ret
    have hn := h.out.1
    subst hn
    exact ⟨a', c', H', by simp, by simpa using hv', ((Step.refl (Own.nil w)).alloc _).trans hst⟩

theorem own_after {H G : Heaplet} {w w' : World} (o : Own w H) (s : Step w [] w' G) : Step w H w' (H ++ G) := Step.beside (H := []) (H' := G) (G := H) s o |>.perm (List.Perm.refl _) List.perm_append_comm
def RdPost (l : List UInt8) (n : Nat) (w : World) (e : Ending) (w' : World) : Prop := ∃ a c H, e = .returned (.tuple #[.slice a l.length c, iv n]) ∧ SlRep 5 1 a l.length c (l.map u8) H ∧ Step w [] w' H
theorem fe_bytes {X : List Fe} {x : Fe} (hx : x ∈ X) (ho : x.ok) {W : World} (h : Own W (X.flatMap Fe.all)) : RdBytes W x.a x.d.length x.c x.d := by
  obtain ⟨A, B, rfl⟩ := List.append_of_mem hx
  have h2 := (h.perm (all_part A x B)).tail.left
  exact SlAt.rdBytes ho h2
set_option maxHeartbeats 2000000 in
theorem dread (b : Nat) (k : Dk) (H : Heaplet) (nm : Nm) (w : World) (h : DkRep b k H) (hk : k.Ok) (hw : Own w H) :
    Calls Tryz.prog 35 #[pt b, strV nm] w (RdPost (rdN nm k).1 (rdN nm k).2 w) := by
  obtain ⟨r, o, fu, lf, X, hm, hok, hp, hf, rfl⟩ := h
  have ⟨c0, c1, c2, c3⟩ := cells4 hw.h0
  cases hi : isF k.L nm
  · have hlk := look_no hm hw.h1 (fe_none hp hk.sorted hi)
    have hr : Hid (rdN nm k = ([], 7)) := by show _ = _; unfold rdN; rw [if_neg (by rw [hi]; simp)]
    clear hi hok hm hp hf
    go_enter Tryz.func35, Tryz.ntmps35
    go_wp2
    go_ret2
    rw [hr.out]
    exact ⟨none, 0, [], rfl, SlRep.nil _ _, Step.refl (Own.nil _)⟩
  · obtain ⟨A, x, B, rfl, rfl, hget, _, _⟩ := fe_find hp hk.sorted hi
    have hlk := look_yes hm hw.h1
    have ⟨e0, e1⟩ := cells2 (fe_has (x := x) (by simp) hw.tail.tail)
    have hr : Hid (rdN x.nm k = (x.d, 0)) := by show _ = _; unfold rdN; rw [if_pos hi, ← hget]
    have hcl := Lib.hid (clone_any x.a x.d.length x.c x.d w (fe_bytes (by simp) (hok x (by simp)) hw.tail.tail) (by
      have h1 := used_get hi
      rw [← hget] at h1
      have := hk.used
      have := hk.room
      simp only at h1
      omega))
    clear hi hok hm hp hf hget
    go_enter Tryz.func35, Tryz.ntmps35
    go_wp2_with fail
    refine hcl.out.mono ?_
    rintro e w2 ⟨a, c, H2, rfl, h1, h2⟩
    go_wp2
    go_ret2
    rw [hr.out]
    exact ⟨a, c, H2, rfl, h1, h2⟩
end Go.Proofs.YtdolbeonpkanpaaGreatDoor
namespace Go.Proofs.YtdolbeonpkanpaaGreatDoor
open Go.RowKit
attribute [local go_sem ↓] Go.wp_at_zero Go.wp_at_succ

def SameRel (la lb : List UInt8) (w : World) (v : Value) (wr : World) : Prop := ∃ k : Nat, k ≤ la.length ∧ v = .int .i64 k ∧ la.take k = lb.take k ∧ Step w [] wr []
def SamePost (la lb : List UInt8) (w : World) (e : Ending) (w' : World) : Prop := e = .returned (.bool (decide (la = lb))) ∧ Step w [] w' []
theorem take_eq_snoc {la lb : List UInt8} {k : Nat} (ha : k < la.length) (hb : k < lb.length) (h : la.take k = lb.take k) (he : la[k] = lb[k]) : la.take (k + 1) = lb.take (k + 1) := by
  rw [List.take_succ_eq_append_getElem ha, List.take_succ_eq_append_getElem hb, h, he]
theorem u8_ne {x y : UInt8} (h : x ≠ y) : ((x.toNat : Int) != (y.toNat : Int)) = true := by
  rw [bne_iff_ne]; intro e; exact h (UInt8.toNat_inj.1 (by omega))
theorem u8_eq {x y : UInt8} (h : x = y) : ((x.toNat : Int) != (y.toNat : Int)) = false := by subst h; simp
set_option maxRecDepth 100000 in
theorem same_any (a b : Option Addr) (n c m d : Nat) (la lb : List UInt8) (w : World) (ha : RdBytes w a n c la) (hb : RdBytes w b m d lb) (hl : la.length ≤ 140737488355328) (hl' : lb.length ≤ 140737488355328) :
    Calls Tryz.prog 24 #[.slice a n c, .slice b m d] w (SamePost la lb w) := by
  have hn := ha.1
  have hm := hb.1
  subst hn hm
  by_cases hlen : la.length = lb.length
  · have q1 : ((la.length : Int) != (lb.length : Int)) = false := by rw [hlen]; simp
    have q2 : (la.length : Int) ≤ 140737488355328 := by omega
    have q3 : (la.length : Int) ≤ (lb.length : Int) := by omega
    replace ha := Lib.hid ha
    replace hb := Lib.hid hb
    replace hlen := Lib.hid hlen
    go_enter Tryz.func24, Tryz.ntmps24
    go_wp2
    go_loopw [5] (fun v wr => SameRel la lb w v wr) (fun v _ => la.length - (intOf v).toNat)
    case atStart => exact ⟨0, Nat.zero_le _, rfl, rfl, Step.refl (Own.nil _)⟩
    case round =>
      obtain ⟨k, hk, rfl, htk, hs⟩ := hrel
      replace htk := Lib.hid htk
      have b1 : (0 : Int) ≤ (k : Int) := by omega
      by_cases hlt : k < la.length
      · have b2 : (k : Int) < (la.length : Int) := by omega
        have b3 : (k : Int) < (lb.length : Int) := by omega
        have hkb : k < lb.length := by omega
        obtain ⟨ba, oa, ea, _, _, hca⟩ := (ha.out.later hs (by simp [dom])).place (by intro e; subst e; simp at hlt)
        obtain ⟨bb, ob, eb, _, _, hcb⟩ := (hb.out.later hs (by simp [dom])).place (by intro e; subst e; simp at hkb)
        subst ea eb
        have r1 := hca k hlt
        have r2 := hcb k hkb
        clear hca hcb
        by_cases he : la[k] = lb[k]
        · have q4 := u8_eq he
          replace he := Lib.hid he
          go_wp2
          go_quiet (fail)
          go_wp2
          exact ⟨⟨k + 1, by omega, by go_num, take_eq_snoc hlt hkb htk.out he.out, hs.drewN _⟩, by simp [intOf]; omega⟩
        · have q4 := u8_ne he
          replace he := Lib.hid he
          go_wp2
          go_quiet (fail)
          go_wp2
          go_ret
          refine ⟨?_, hs.drewN _⟩
          rw [decide_eq_false]
          · rfl
          · intro e; subst e; exact he.out rfl
      · go_wp2
        go_ret
        refine ⟨?_, hs⟩
        rw [decide_eq_true]
        · rfl
        · have := htk.out
          rwa [List.take_of_length_le (by omega), List.take_of_length_le (by have := hlen.out; omega)] at this
  · have q1 : ((la.length : Int) != (lb.length : Int)) = true := by rw [bne_iff_ne]; omega
    replace hlen := Lib.hid hlen
    clear ha hb
    go_enter Tryz.func24, Tryz.ntmps24
    go_wp2
    go_ret
    refine ⟨?_, Step.refl (Own.nil _)⟩
    rw [decide_eq_false]
    · rfl
    · intro e; subst e; exact hlen.out rfl
theorem sl_pos {E n c : Nat} {a : Option Addr} {xs : List Value} {H : Heaplet} (h : SlRep E 1 a n c xs H) (hn : 0 < n) : ∃ g, a = some ⟨g, 0, none⟩ ∧ n ≤ c := by
  obtain ⟨_, ⟨_, h, _⟩ | ⟨g, cur, rfl, _, h2, _⟩⟩ := h
  · omega
  · exact ⟨g, rfl, h2⟩
def RoomyPost (d : List UInt8) (w : World) (e : Ending) (w' : World) : Prop :=
  ∃ g c H, e = .returned (.slice (some ⟨g, 0, none⟩) (d.length + 1) c) ∧ d.length + 2 ≤ c ∧ SlRep 5 1 (some ⟨g, 0, none⟩) (d.length + 2) c (d.map u8 ++ [.int .u8 171, .int .u8 171]) H ∧ Step w [] w' H
set_option maxRecDepth 100000 in
theorem roomy_any (a : Option Addr) (n c : Nat) (d : List UInt8) (w : World) (h : RdBytes w a n c d) (hl : d.length ≤ 140737488351232) :
    Calls Tryz.prog 61 #[.slice a n c] w (RoomyPost d w) := by
  have hn := h.1
  have b1 : (n : Int) ≤ 140737488351232 := by omega
  replace h := Lib.hid h
  replace hn := Lib.hid hn
  have s1 := (Step.refl (Own.nil w)).alloc (.cells #[] 5)
  have hn2 : n ≤ 140737488351232 := by omega
  go_enter Tryz.func61, Tryz.ntmps61
  go_wp2_with (at_builtin; first
    | (refine wpList_app rfl st_u8 _ _ rfl (by rfl) (by rfl) hr3 (s3.alloc _).own.tail (rdCells_block (heap_alloc_new _ _) rfl (by simp [Value.oneCell'])) (by unfold maxLen; omega) (by omega) ?_; intro a4 c4 w4 H4 hr4 hst4; have s4 := (Step.callR (R := [_]) (s3.alloc _) hst4).tail; obtain ⟨g4, rfl, hc4⟩ := sl_pos hr4 (by omega); have hc5 : (n : Int) + 2 ≤ (c4 : Int) := by omega)
    | (refine wpList_app rfl st_u8 _ _ rfl (by rfl) (by rfl) hr2 (s2.alloc _).own.tail (rdCells_block (heap_alloc_new _ _) rfl (by simp [Value.oneCell'])) (by unfold maxLen; omega) (by omega) ?_; intro a3 c3 w3 H3 hr3 hst3; have s3 := (Step.callR (R := [_]) (s2.alloc _) hst3).tail)
    | (refine wpList_app rfl st_u8 _ _ rfl (by rfl) (by rfl) (SlRep.made _ _ _) s1.own (rdBytes_cells (h.out.alloc _)) (by unfold maxLen; omega) (by omega) ?_; intro a2 c2 w2 H2 hr2 hst2; have s2 := s1.trans hst2; rw [Nat.zero_add, List.nil_append] at hr2))
  go_ret
  have hn := hn.out
  subst hn
  exact ⟨g4, c4, H4, rfl, hc4, by simpa using hr4, s4⟩
set_option maxRecDepth 100000 in
theorem stands_any (g c : Nat) (a : Option Addr) (n c' : Nat) (d : List UInt8) (H : Heaplet) (w : World) (hr : SlRep 5 1 (some ⟨g, 0, none⟩) (d.length + 2) c (d.map u8 ++ [.int .u8 171, .int .u8 171]) H) (hw : Own w H) (h : RdBytes w a n c' d) (hl : d.length ≤ 140737488351232) :
    Calls Tryz.prog 62 #[.slice (some ⟨g, 0, none⟩) (d.length + 1) c, .slice a n c'] w fun e w' => e = .returned (.bool true) ∧ Step w [] w' [] := by
  have hn := h.1
  obtain ⟨g', e', hc⟩ := sl_pos hr (by omega)
  cases e'
  have h1 : RdBytes w (some ⟨g, 0, none⟩) d.length c d := SlRep.rdBytes (H := H) (by
    have q := SlRep.upto hr (i := d.length) (by omega)
    rw [Nat.mul_one, List.take_append_of_le_length (by simp), List.take_of_length_le (by simp)] at q
    exact q) hw
  obtain ⟨g', e', x0, _⟩ := slRep_at hr hw (i := d.length) (v := .int .u8 171) (by rw [List.getElem?_append_right (by simp)]; simp)
  cases e'
  rw [Nat.zero_add] at x0
  have hsm : Hid (Calls Tryz.prog 24 #[.slice (some ⟨g, 0, none⟩) d.length c, .slice a n c'] w fun e w' => e = .returned (.bool true) ∧ Step w [] w' []) :=
    (same_any _ _ _ _ _ _ d d _ h1 h (by omega) (by omega)).mono fun e w' hq => ⟨by rw [hq.1]; simp, hq.2⟩
  rw [hn] at hsm ⊢
  obtain ⟨m, hm⟩ : ∃ m, m = d.length := ⟨_, rfl⟩
  rw [← hm] at hsm x0 ⊢
  have b1 : (m : Int) ≤ 140737488351232 := by omega
  have b2 : (m : Int) + 2 ≤ (c : Int) := by omega
  clear hr hw h h1 hn hm hc
  go_enter Tryz.func62, Tryz.ntmps62
  go_wp2_with fail
  refine hsm.out.mono ?_
  rintro e w1 ⟨rfl, hs⟩
  have x0 := hs.keepCell x0
  go_wp2_with fail
  go_ret
  exact ⟨rfl, hs⟩
theorem nf_put {w w' : World} {K Hs : Heaplet} {E g n c : Nat} {xs : List Value} (s : Step w K w' Hs) (h : SlRep E 1 (some ⟨g, 0, none⟩) n c xs Hs) (i : Nat) (v : Value) :
    ∃ H', SlRep E 1 (some ⟨g, 0, none⟩) n c (xs.set i v) H' ∧ Step w K (w'.setCell ⟨g, i, none⟩ v) H' := by
  obtain ⟨hl, ⟨h1, _⟩ | ⟨g', cur, e, rfl, h2, h3, h4, h5⟩⟩ := h
  · cases h1
  · cases e
    refine ⟨[(g, .cells (cur.setIfInBounds i v) E (0, 0))], ⟨by simpa using hl, .inr ⟨g, _, rfl, rfl, h2, h3, by simpa using h4, ?_⟩⟩, Step.store (A := []) (B := []) v s⟩
    rw [Array.toList_setIfInBounds, List.take_set, h5]
theorem nf_some {E g n c : Nat} {xs : List Value} {Hs : Heaplet} (h : SlRep E 1 (some ⟨g, 0, none⟩) n c xs Hs) {w : World} (o : Own w Hs) {i : Nat} (hi : i < n) : (∃ v, w.cell? ⟨g, i, none⟩ = some v) ∧ w.frozen? ⟨g, i, none⟩ = false := by
  have hl := h.1
  obtain ⟨g', e, h1, _⟩ := slRep_at h o (i := i) (v := xs[i]'(by omega)) (List.getElem?_eq_getElem _)
  cases e
  refine ⟨⟨_, by simpa using h1⟩, ?_⟩
  obtain ⟨hl, ⟨h1, _⟩ | ⟨g', cur, e, rfl, h2, h3, h4, h5⟩⟩ := h
  · cases h1
  · cases e; exact frz_of o.h0
def SpRel (g n c : Nat) (H : Heaplet) (w : World) (v : Value) (wr : World) : Prop :=
  ∃ (k : Nat) (xs : List Value) (H' : Heaplet), k ≤ n ∧ v = .int .i64 (k : Nat) ∧ SlRep 5 1 (some ⟨g, 0, none⟩) n c xs H' ∧ Step w H wr H'
set_option maxRecDepth 100000 in
theorem spoil_any (a : Option Addr) (n c : Nat) (xs : List Value) (H : Heaplet) (w : World) (hr : SlRep 5 1 a n c xs H) (hw : Own w H) (hl : n ≤ 140737488351300) :
    Calls Tryz.prog 63 #[.slice a n c] w fun e w' => e = .returned (.tuple #[]) ∧ ∃ H', Step w H w' H' := by
  have s0 := Step.refl hw
  replace hr := Lib.hid hr
  go_enter Tryz.func63, Tryz.ntmps63
  go_wp2_with (at_builtin; refine wpList_app rfl st_u8 _ _ rfl (by rfl) (by rfl) hr.out (s0.alloc _).own.tail (rdCells_block (heap_alloc_new _ _) rfl (by simp [Value.oneCell'])) (by unfold maxLen; omega) (by omega) ?_; intro a2 c2 w2 H2 hr2 hst2; obtain ⟨g, rfl, hc2⟩ := sl_pos hr2 (by omega))
  have s2 := (Step.callR (R := [_]) (s0.alloc _) hst2).tail
  obtain ⟨m, hm⟩ : ∃ m, m = n + 1 := ⟨_, rfl⟩
  rw [← hm] at hr2 hc2 ⊢
  have b1 : (m : Int) ≤ 140737488351301 := by omega
  have b2 : (m : Int) ≤ (c2 : Int) := by omega
  clear hm hst2 s0 hr hw
  replace hr2 := Lib.hid hr2
  replace s2 := Lib.hid s2
  go_loopw [3] (fun v wr => SpRel g m c2 H w v wr) (fun v _ => m - (intOf v).toNat)
  case atStart => exact ⟨0, _, H2, Nat.zero_le _, rfl, hr2.out, s2.out⟩
  case round =>
    clear hr2 s2
    obtain ⟨k, xs', H', hk, rfl, hr, hs⟩ := hrel
    have d0 : (0 : Int) ≤ (k : Int) := by omega
    by_cases hlt : k < m
    · have d1 : (k : Int) < (m : Int) := by omega
      obtain ⟨⟨v, hv⟩, fz⟩ := nf_some hr hs.own hlt
      obtain ⟨H3, hr3, s3⟩ := nf_put hs hr k (.int .u8 98)
      replace hr := Lib.hid hr
      replace hr3 := Lib.hid hr3
      go_wp2_with fail
      exact ⟨⟨k + 1, _, H3, hlt, by go_num, hr3.out, s3⟩, by simp [intOf]; omega⟩
    · have d1 : (m : Int) ≤ (k : Int) := by omega
      go_wp2_with fail
      go_end0
      exact ⟨rfl, H', hs⟩
end Go.Proofs.YtdolbeonpkanpaaGreatDoor
namespace Go.Proofs.YtdolbeonpkanpaaGreatDoor
open Go.RowKit
attribute [local go_sem ↓] Go.wp_at_zero Go.wp_at_succ

def xr (f i : Nat) (t : UInt8) (l : List UInt8) : List UInt8 := l.take f ++ ((l.take i).drop f).map (· ^^^ t) ++ l.drop i
theorem xr_len {f i : Nat} {t : UInt8} {l : List UInt8} (h : f ≤ i) (hi : i ≤ l.length) : (xr f i t l).length = l.length := by
  simp only [xr, List.length_append, List.length_take, List.length_map, List.length_drop]; omega
theorem xr_get {f i : Nat} {t : UInt8} {l : List UInt8} (h : f ≤ i) (hi : i ≤ l.length) (j : Nat) : (xr f i t l)[j]? = if f ≤ j ∧ j < i then l[j]?.map (· ^^^ t) else l[j]? := by
  unfold xr
  have l1 : (l.take f).length = f := by rw [List.length_take]; omega
  have l2 : (((l.take i).drop f).map (· ^^^ t)).length = i - f := by rw [List.length_map, List.length_drop, List.length_take]; omega
  by_cases h1 : j < f
  · rw [if_neg (by omega), List.append_assoc, List.getElem?_append_left (by omega), List.getElem?_take, if_pos h1]
  · by_cases h2 : j < i
    · rw [if_pos (by omega), List.getElem?_append_left (by rw [List.length_append, l1, l2]; omega), List.getElem?_append_right (by omega), l1, List.getElem?_map, List.getElem?_drop, List.getElem?_take, if_pos (by omega), show f + (j - f) = j by omega]
    · rw [if_neg (by omega), List.getElem?_append_right (by rw [List.length_append, l1, l2]; omega), List.length_append, l1, l2, List.getElem?_drop, show i + (j - (f + (i - f))) = j by omega]
theorem xr_start {f : Nat} {t : UInt8} {l : List UInt8} (h : f ≤ l.length) : xr f f t l = l := by
  apply List.ext_getElem?
  intro j
  rw [xr_get (Nat.le_refl _) h, if_neg (by omega)]
theorem xr_end {f : Nat} {t : UInt8} {l : List UInt8} : xr f l.length t l = xorFrom f t l := by
  simp [xr, xorFrom]
theorem xr_step {f i : Nat} {t x : UInt8} {l : List UInt8} (h : f ≤ i) (hx : l[i]? = some x) : (xr f i t l)[i]? = some x ∧ (xr f i t l).set i (x ^^^ t) = xr f (i + 1) t l := by
  obtain ⟨hi, _⟩ := List.getElem?_eq_some_iff.1 hx
  refine ⟨by rw [xr_get h (by omega), if_neg (by omega)]; exact hx, ?_⟩
  apply List.ext_getElem?
  intro j
  rw [xr_get (by omega) (by omega), List.getElem?_set, xr_len h (by omega), xr_get h (by omega)]
  by_cases e : i = j
  · subst e
    rw [if_pos rfl, if_pos hi, if_pos (by omega), hx]; rfl
  · rw [if_neg e]
    by_cases h1 : f ≤ j ∧ j < i
    · rw [if_pos h1, if_pos (by omega)]
    · rw [if_neg h1, if_neg (by omega)]
theorem bx8 (x t : UInt8) : bits .xor .u8 (x.toNat : Int) (t.toNat : Int) = ((x ^^^ t).toNat : Int) := by
  rw [u8_xor_nat _ _ (UInt8.toNat_lt x) (UInt8.toNat_lt t), UInt8.toNat_xor]
theorem perm_lift {α β : Type} {f : α → β} : ∀ {m : List β} {l : List α}, (l.map f).Perm m → ∃ l' : List α, l'.Perm l ∧ l'.map f = m
  | [], l, h => by
    have := h.eq_nil
    exact ⟨l, List.Perm.refl _, this⟩
  | b :: m, l, h => by
    obtain ⟨x, hx, rfl⟩ := List.mem_map.1 (h.mem_iff.2 (List.mem_cons_self ..))
    obtain ⟨A, B, rfl⟩ := List.append_of_mem hx
    rw [List.map_append, List.map_cons] at h
    have h2 := (List.perm_middle.symm.trans h).cons_inv
    rw [← List.map_append] at h2
    obtain ⟨l', h3, h4⟩ := perm_lift h2
    exact ⟨x :: l', (h3.cons x).trans List.perm_middle.symm, by rw [List.map_cons, h4]⟩
def CrRel (b r it : Nat) (k : Dk) (keep : Int) (tear : UInt8) (D : List (Value × Value)) (o : Obj) (fu : Bool) (lf : Int) (H0 : Heaplet) (w wr : World) : Prop :=
  ∃ (Lf Dn : List Fe) (oi : Obj), IterSt o oi r (Lf.map Fe.ent) ∧ ((Lf ++ Dn).map Fe.ent).Perm D ∧ (∀ y ∈ Lf, y.ok ∧ y.n ≤ y.d.length ∧ y.d.length ≤ 1073741824) ∧ (∀ y ∈ Dn, y.ok) ∧
    (Lf.map (fun y => crF keep tear y.key) ++ Dn.map Fe.key).Perm (k.L.map (crF keep tear)) ∧ Sp w H0 wr [[(b, dobj k.room r fu lf), (r, o)], Lf.flatMap Fe.all, Dn.flatMap Fe.all, [(it, oi)]]
/-- The inner loop: i is reached. -/
def InRel (b r it : Nat) (k : Dk) (tear : UInt8) (o oi : Obj) (fu : Bool) (lf : Int) (Lf Dn : List Fe) (x : Fe) (st f : Nat) (H0 : Heaplet) (w : World) (v : Value) (wr : World) : Prop :=
  ∃ (i : Nat) (Hx : Heaplet), v = iv i ∧ f ≤ i ∧ i ≤ st ∧ SlAt 5 1 x.a st st ((xr f i tear (x.d.take st)).map u8) Hx ∧
    Sp w H0 wr [[(b, dobj k.room r fu lf), (r, o)], Lf.flatMap Fe.all, Dn.flatMap Fe.all, [(it, oi)], [(x.fb, fobj x.a st st x.n)], Hx]
theorem cr_next {b r it st f : Nat} {k : Dk} {keep : Int} {tear : UInt8} {D : List (Value × Value)} {o oi' : Obj} {fu : Bool} {lf : Int} {H0 Hx : Heaplet} {w W : World} {A B Dn : List Fe} {x : Fe}
    (hit : IterSt o oi' r ((A ++ B).map Fe.ent)) (hD : (((A ++ x :: B) ++ Dn).map Fe.ent).Perm D) (hL : ∀ y ∈ A ++ x :: B, y.ok ∧ y.n ≤ y.d.length ∧ y.d.length ≤ 1073741824) (hDn : ∀ y ∈ Dn, y.ok)
    (hpk : ((A ++ x :: B).map (fun y => crF keep tear y.key) ++ Dn.map Fe.key).Perm (k.L.map (crF keep tear))) (hst : st = stays x.d.length x.n keep) (hf : f = max x.n ((st - 1) / 32 * 32)) (hfs : f ≤ st) (hsl : st ≤ x.d.length)
    (hv : SlAt 5 1 x.a st st ((xr f st tear (x.d.take st)).map u8) Hx)
    (s : Sp w H0 W [[(b, dobj k.room r fu lf), (r, o)], (A ++ B).flatMap Fe.all, Dn.flatMap Fe.all, [(it, oi')], [(x.fb, fobj x.a st st st)], Hx]) :
    CrRel b r it k keep tear D o fu lf H0 w W := by
  have hll : (x.d.take st).length = st := by rw [List.length_take]; omega
  have hxr : xr f st tear (x.d.take st) = xorFrom f tear (x.d.take st) := by
    conv => lhs; rw [← hll]
    rw [hll]
    have := @xr_end f tear (x.d.take st)
    rw [hll] at this
    exact this
  have hxl : (xorFrom f tear (x.d.take st)).length = st := by rw [xor_len, hll]
  obtain ⟨y, hy⟩ : ∃ y : Fe, y = { x with d := xorFrom f tear (x.d.take st), c := st, n := st, H := Hx } := ⟨_, rfl⟩
  have hyo : y.ok := by
    rw [hxr] at hv
    rw [hy]; unfold Fe.ok; simp only [hxl]; exact hv
  have hye : y.ent = x.ent := by rw [hy]; rfl
  have hyk : y.key = crF keep tear x.key := by
    rw [hy]
    simp only [Fe.key, crF, ← hst, ← hf]
  have hya : y.all = (x.fb, fobj x.a st st st) :: Hx := by rw [hy]; unfold Fe.all; simp only [hxl]
  refine ⟨A ++ B, Dn ++ [y], oi', hit, ?_, fun z hz => hL z ?_, fun z hz => ?_, ?_, s.perm ?_⟩
  · refine List.Perm.trans ?_ hD
    have e1 : ((A ++ B) ++ (Dn ++ [y])).map Fe.ent = (((A ++ B) ++ Dn) ++ [x]).map Fe.ent := by simp [hye]
    rw [e1]
    refine List.Perm.map _ ?_
    refine List.perm_append_comm.trans ?_
    rw [List.singleton_append, List.append_assoc, List.append_assoc]
    refine List.perm_middle.symm.trans ?_
    simp
  · rcases List.mem_append.1 hz with hz | hz
    · exact List.mem_append_left _ hz
    · exact List.mem_append_right _ (List.mem_cons_of_mem _ hz)
  · rcases List.mem_append.1 hz with hz | hz
    · exact hDn z hz
    · rw [List.mem_singleton] at hz; subst hz; exact hyo
  · refine List.Perm.trans ?_ hpk
    have e1 : (A ++ B).map (fun y => crF keep tear y.key) ++ (Dn ++ [y]).map Fe.key = ((A ++ B).map (fun y => crF keep tear y.key) ++ Dn.map Fe.key) ++ [crF keep tear x.key] := by simp [hyk]
    have e2 : (A ++ x :: B).map (fun y => crF keep tear y.key) ++ Dn.map Fe.key = A.map (fun y => crF keep tear y.key) ++ (crF keep tear x.key) :: (B.map (fun y => crF keep tear y.key) ++ Dn.map Fe.key) := by simp
    rw [e1, e2]
    refine List.perm_append_comm.trans ?_
    refine List.Perm.trans ?_ List.perm_middle.symm
    simp
  · have e1 : [[(b, dobj k.room r fu lf), (r, o)], (A ++ B).flatMap Fe.all, Dn.flatMap Fe.all, [(it, oi')], [(x.fb, fobj x.a st st st)], Hx].flatten = ([(b, dobj k.room r fu lf), (r, o)] ++ ((A ++ B).flatMap Fe.all ++ Dn.flatMap Fe.all)) ++ ([(it, oi')] ++ y.all) := by rw [hya]; simp
    have e2 : [[(b, dobj k.room r fu lf), (r, o)], (A ++ B).flatMap Fe.all, (Dn ++ [y]).flatMap Fe.all, [(it, oi')]].flatten = ([(b, dobj k.room r fu lf), (r, o)] ++ ((A ++ B).flatMap Fe.all ++ Dn.flatMap Fe.all)) ++ (y.all ++ [(it, oi')]) := by simp
    rw [e1, e2]
    exact List.Perm.append_left _ List.perm_append_comm
set_option maxHeartbeats 4000000 in
set_option maxRecDepth 100000 in
theorem dcrash (b : Nat) (k : Dk) (keep : Int) (tear : UInt8) (H : Heaplet) (w : World) (h : DkRep b k H) (hk : k.Ok) (hw : Own w H) (hkeep : keep ≤ 9223372036854775807) :
    Calls Tryz.prog 18 #[pt b, ii keep, u8 tear] w fun e w' => e = .returned (.tuple #[]) ∧ ∃ H', DkRep b (crN keep tear k) H' ∧ Step w H w' H' := by
  obtain ⟨r, o, fu, lf, X, hm, hok, hp, hf, hH⟩ := h
  rw [hH] at hw
  have ⟨c0, c1, c2, c3⟩ := cells4 hw.h0
  obtain ⟨oi, hit, hrun⟩ := iter_new hm r (P := Tryz.prog) Tryz.underlying78 hw.h1
  rw [← hH] at hw
  have s0 : Sp w H (w.alloc oi) [[(b, dobj k.room r fu lf), (r, o)], X.flatMap Fe.all, [].flatMap Fe.all, [(w.heap.size, oi)]] := ((Sp.start hw).alloc oi).perm (by rw [hH]; simp)
  have hin : Hid (CrRel b r w.heap.size k keep tear (X.map Fe.ent) o fu lf H w (w.alloc oi)) := by
    refine ⟨X, [], oi, hit, by simp, fun y hy => ⟨hok y hy, ?_⟩, by simp, ?_, s0⟩
    · have h1 := hp.mem_iff.1 (List.mem_map.2 ⟨y, hy, rfl⟩)
      have h2 := hk.lasts _ h1
      have h3 := fe_used hp hy
      have := hk.used
      have := hk.room
      exact ⟨h2, by omega⟩
    · simp only [List.map_nil, List.append_nil]
      have := hp.map (crF keep tear)
      rwa [List.map_map] at this
  have hrw : Hid (r < w.heap.size) := by rw [hH] at hw; exact heap_lt hw.h1
  replace hm := Lib.hid hm
  replace hH := Lib.hid hH
  clear hit s0 hok hp hf
  go_enter Tryz.func18, Tryz.ntmps18
  go_wp2_with (at_range; refine wpList_mrange rfl _ _ rfl (by rfl) hrun ?_)
  clear hrun
  go_frame
  go_loopw [7] (fun _ wr => CrRel b r w.heap.size k keep tear (X.map Fe.ent) o fu lf H w wr) (fun _ wr => iterLeft wr w.heap.size r)
  case atStart => exact hin.out
  case round =>
    clear hin c0 c1 c2 c3
    obtain ⟨Lf, Dn, oi, hit, hD, hL, hDn, hpk, hs⟩ := hrel
    have hoi := hs.one 3 rfl
    have hos := hs.own 0 rfl
    have hml := Lib.hid (hit.left hoi hos.h1)
    rcases iter_step hm.out hit (P := Tryz.prog) hoi hos.h1 (by have := hrw.out; omega) with ⟨rfl, hnext⟩ | ⟨A, x, B, oi', w1, rfl, hw1, hnext, hit', hent⟩
    · replace hD := Lib.hid hD
      replace hDn := Lib.hid hDn
      replace hpk := Lib.hid hpk
      have ⟨c0, c1, c2, c3⟩ := cells4 hos.h0
      have fz := fun i => frz_of (i := i) hos.h0
      have b0 := heap_lt hos.h0
      clear hit hoi hos hL hml
      replace hs := Lib.hid hs
      go_wp2_with (at_next; refine wpList_mnext rfl _ rfl (by rfl) (hnext _) ?_)
      go_end0
      have s1 := hs.out.storeH 0 (j := 2) rfl (.bool false)
      obtain ⟨Y, y1, y2⟩ := perm_lift hD.out
      refine ⟨rfl, _, ⟨r, o, false, lf, Y, by rw [y2]; exact hm.out, fun y hy => hDn.out y (by simpa using y1.mem_iff.1 hy), ?_, rfl, rfl⟩, ?_⟩
      · have := hpk.out
        rw [List.map_nil, List.nil_append] at this
        exact ((y1.map Fe.key).trans (by simp)).trans this
      · refine Step.forget (B := [(w.heap.size, oi)]) ((s1.perm (Gs := [(b, dobj k.room r false lf) :: (r, o) :: Y.flatMap Fe.all, [(w.heap.size, oi)]]) ?_).out (by simp [crN]))
        have := (y1.flatMap_right Fe.all)
        simp only [List.nil_append] at this
        simpa using this.symm.append_right _
    · have s1 : Sp w H w1 [[(b, dobj k.room r fu lf), (r, o)], (A ++ x :: B).flatMap Fe.all, Dn.flatMap Fe.all, [(w.heap.size, oi)]] := by
        rcases hw1 with rfl | rfl
        · exact hs
        · exact hs.drew
      have s2 := s1.map 3 oi' rfl
      simp only [List.set_cons_succ, List.set_cons_zero] at s2
      have he := hent _ (s2.one 3 rfl) (s2.own 0 rfl).h1
      have hml2 := Lib.hid (hit'.left (s2.one 3 rfl) (s2.own 0 rfl).h1)
      have s3 : Sp w H _ [[(b, dobj k.room r fu lf), (r, o)], (A ++ B).flatMap Fe.all, Dn.flatMap Fe.all, [(w.heap.size, oi')], [(x.fb, fobj x.a x.d.length x.c x.n)], x.H] := s2.perm (by
        simp only [List.flatten_cons, List.flatten_nil, List.append_nil, List.cons_append, List.nil_append]
        refine .cons _ (.cons _ ?_)
        refine ((all_part A x B).append_right _).trans ?_
        have e : (((x.fb, fobj x.a x.d.length x.c x.n) :: (x.H ++ (A ++ B).flatMap Fe.all)) ++ (Dn.flatMap Fe.all ++ [(w.heap.size, oi')])) = ((x.fb, fobj x.a x.d.length x.c x.n) :: x.H) ++ ((A ++ B).flatMap Fe.all ++ (Dn.flatMap Fe.all ++ [(w.heap.size, oi')])) := by simp
        rw [e]
        refine List.perm_append_comm.trans ?_
        simp)
      obtain ⟨hxo, hxn, hxl⟩ := hL x (by simp)
      replace hxo := Lib.hid hxo
      replace hD := Lib.hid hD
      replace hL := Lib.hid hL
      replace hDn := Lib.hid hDn
      replace hpk := Lib.hid hpk
      replace hit' := Lib.hid hit'
      clear hs s1 s2 hit hoi hos hw1 hent
      simp only [Fe.ent] at he hnext
      generalize World.putObj w1 w.heap.size oi' = W at s3 he hml2 hnext
      have ⟨d0, d1⟩ := cells2 (s3.one 4 rfl)
      go_upto_region 4 with (at_next; refine wpList_mnext rfl _ rfl (by rfl) (hnext _) ?_)
      obtain ⟨st, hst⟩ : ∃ st, st = stays x.d.length x.n keep := ⟨_, rfl⟩
      go_cut [8] (fun v wc => v = iv st ∧ ∃ q, wc = W.drewN q)
      case first =>
        obtain ⟨m, hm'⟩ : ∃ m, m = x.d.length - x.n := ⟨_, rfl⟩
        obtain ⟨m1, hm1⟩ : ∃ m1, m1 = m + 1 := ⟨_, rfl⟩
        obtain ⟨t, ht⟩ : ∃ t, t = (max 0 keep).toNat % m1 := ⟨_, rfl⟩
        have hst' : Hid (x.n + t = st) := by show _ = _; rw [hst, ht, hm1, hm']; rfl
        have q1 : IntKind.i64.wrap ((x.d.length : Int) - (x.n : Int)) = (m : Int) := by rw [IntWalk.i64_in _ (by omega)]; omega
        have q1' : (x.d.length : Int) - (x.n : Int) = (m : Int) := by omega
        have q2 : IntKind.i64.wrap ((m : Int) + 1) = (m1 : Int) := by rw [IntWalk.i64_in _ (by omega)]; omega
        have q2' : (m : Int) + 1 = (m1 : Int) := by omega
        have q0 : ((m1 : Int) == 0) = false := beq_eq_false_iff_ne.2 (by omega)
        have q0' : (0 : Int) < (m1 : Int) := by omega
        have htl : t < m1 := by rw [ht]; exact Nat.mod_lt _ (by omega)
        have q4 : IntKind.i64.wrap ((x.n : Int) + (t : Int)) = (st : Int) := by rw [← hst'.out, IntWalk.i64_in _ (by omega)]; omega
        have q4' : (x.n : Int) + (t : Int) = (st : Int) := by rw [← hst'.out]; omega
        by_cases hk0 : keep ≤ 0
        · have e1 : max 0 keep = 0 := by omega
          have e2 : (0 : Int).tmod (m1 : Int) = (t : Int) := by rw [ht, e1]; simp
          have e3 : ¬ (0 < keep) := by omega
          replace hm' := Lib.hid hm'
          replace hm1 := Lib.hid hm1
          replace ht := Lib.hid ht
          replace hst := Lib.hid hst
          go_quiet (fail)
          go_wp2_with fail
          go_meet
          exact ⟨rfl, _, rfl⟩
        · have e1 : max 0 keep = keep := by omega
          have e3 : 0 < keep := by omega
          have e4 : 0 ≤ keep := by omega
          have e2 : keep.tmod (m1 : Int) = (t : Int) := by
            have e5 : (keep.toNat : Int) = keep := by omega
            rw [ht, e1, Int.tmod_eq_emod_of_nonneg e4, Int.natCast_emod, e5]
          have e2' : keep % (m1 : Int) = (t : Int) := by rw [← e2, Int.tmod_eq_emod_of_nonneg e4]
          replace hm' := Lib.hid hm'
          replace hm1 := Lib.hid hm1
          replace ht := Lib.hid ht
          replace hst := Lib.hid hst
          clear hk0
          go_quiet (fail)
          go_wp2_with fail
          go_meet
          exact ⟨rfl, _, rfl⟩
      case rest =>
        obtain ⟨rfl, q, rfl⟩ := hcut
        obtain ⟨b1, b2⟩ := stays_le hxn keep
        rw [← hst] at b1 b2
        replace s3 := s3.drewN q
        obtain ⟨W3, hW3⟩ : ∃ W3, W3 = W.drewN q := ⟨_, rfl⟩
        rw [← hW3] at s3 ⊢
        replace hW3 := Lib.hid hW3
        replace hst := Lib.hid hst
        clear he hnext d0 d1
        have ⟨d0, d1⟩ := cells2 (s3.one 4 rfl)
        have fz := fun i => frz_of (i := i) (s3.one 4 rfl)
        have xlt := heap_lt (s3.one 4 rfl)
        have hcap := hxo.out.le
        have n1 : (st : Int) ≤ (x.c : Int) := by omega
        have n2 : (0 : Int) ≤ (st : Int) := by omega
        have s4 := Lib.hid (s3.store 4 (j := 0) rfl (.slice x.a st st))
        obtain ⟨sec, hsec⟩ : ∃ sec, sec = (st - 1) / 32 * 32 := ⟨_, rfl⟩
        obtain ⟨f, hf'⟩ : ∃ f, f = max x.n sec := ⟨_, rfl⟩
        go_upto_region 6 with fail
        refine Sp.gen s4.out ?_
        clear s4 s3 d0 d1 fz xlt
        intro W4 s4
        simp only [List.set_cons_succ, List.set_cons_zero] at s4
        go_cut [9] (fun v wc => v = iv sec ∧ wc = W4)
        case first =>
          replace hf' := Lib.hid hf'
          replace hsec := Lib.hid hsec
          go_wp2_with fail
          all_goals go_meet
          all_goals exact ⟨congrArg (Value.int .i64) (by have := hsec.out; omega), rfl⟩
        case rest =>
          obtain ⟨rfl, rfl⟩ := hcut
          have ⟨d0, d1⟩ := cells2 (s4.one 4 rfl)
          have hfs : f ≤ st := by omega
          replace hsec := Lib.hid hsec
          replace hf' := Lib.hid hf'
          go_upto_region 7 with fail
          go_cut [10] (fun v wc' => v = iv f ∧ wc' = wc)
          case first =>
            go_wp2_with fail
            all_goals go_meet
            all_goals exact ⟨congrArg (Value.int .i64) (by have := hf'.out; omega), rfl⟩
          case rest =>
            obtain ⟨rfl, rfl⟩ := hcut
            clear d0 d1
            have hin : Hid (InRel b r w.heap.size k tear o oi' fu lf (A ++ B) Dn x st f H w (iv f) wc) := by
              refine ⟨f, x.H, rfl, Nat.le_refl _, hfs, ?_, s4⟩
              have hll : (x.d.take st).length = st := by rw [List.length_take]; omega
              rw [xr_start (by omega)]
              have := hxo.out.cut (i := st) (j := st) b2 (Nat.le_refl _) (by omega)
              rwa [Nat.mul_one, ← List.map_take] at this
            have hst1 : st ≤ 1073741824 := by omega
            clear s4
            go_wp2_with fail
            go_loopw [10] (fun v wr => InRel b r w.heap.size k tear o oi' fu lf (A ++ B) Dn x st f H w v wr) (fun v _ => st - (intOf v).toNat)
            case atStart => exact hin.out
            case round =>
              clear hin
              obtain ⟨i, Hx, rfl, hfi, hist, hv, hs⟩ := hrel
              have d0 := (cells2 (hs.one 4 rfl)).1
              have i0 : (0 : Int) ≤ (i : Int) := by omega
              by_cases hlt : i < st
              · have i1 : (i : Int) < (st : Int) := by omega
                have i2 : (i : Int) ≤ 1073741824 := by omega
                obtain ⟨y, hy⟩ : ∃ y, (x.d.take st)[i]? = some y := ⟨_, List.getElem?_eq_getElem (by rw [List.length_take]; omega)⟩
                obtain ⟨x1, x2⟩ := xr_step (t := tear) hfi hy
                obtain ⟨g, hg, hcell, hfz⟩ := hv.at (hs.own 5 rfl) (i := i) (v := YtdolbeonpkanpaaGreatDoor.u8 y) (by rw [List.getElem?_map, x1]; rfl)
                have hbx := bx8 y tear
                rw [hg] at d0
                have hv' : SlAt 5 1 (some ⟨g, 0, none⟩) st st ((xr f i tear (x.d.take st)).map YtdolbeonpkanpaaGreatDoor.u8) Hx := by rw [← hg]; exact hv
                obtain ⟨H', hv2, hs2⟩ := hs.putAt 5 rfl hv' i (YtdolbeonpkanpaaGreatDoor.u8 (y ^^^ tear))
                rw [← List.map_set, x2, ← hg] at hv2
                replace hg := Lib.hid hg
                replace hv2 := Lib.hid hv2
                replace hs2 := Lib.hid hs2
                clear hv hv' hs x1 x2 hy
                go_wp2_with fail
                exact ⟨⟨i + 1, H', by go_num, by omega, hlt, hv2.out, hs2.out⟩, by simp [intOf]; omega⟩
              · obtain rfl : i = st := by omega
                have hv2 := Lib.hid hv
                have fz := fun i => frz_of (i := i) (hs.one 4 rfl)
                have xlt := heap_lt (hs.one 4 rfl)
                have d1 := (cells2 (hs.one 4 rfl)).2
                have s6 := hs.store 4 (j := 1) rfl (iv i)
                simp only [List.set_cons_succ, List.set_cons_zero] at s6
                replace s6 := Lib.hid s6
                clear hv hs hlt
                go_wp2_with fail
                refine ⟨cr_next hit'.out hD.out hL.out hDn.out hpk.out hst.out (by rw [hf'.out, hsec.out]) hfs b2 hv2.out s6.out, ?_⟩
                rw [hml.out, hit'.out.left (s6.out.one 3 rfl) (s6.out.own 0 rfl).h1]
                simp
end Go.Proofs.YtdolbeonpkanpaaGreatDoor
namespace Go.Proofs.YtdolbeonpkanpaaGreatDoor

def allK (l : List (List UInt8)) (i : Nat) : List UInt8 := (l.take i).flatten
structure KpInv (l : List (List UInt8)) (s i : Nat) (k : Dk) : Prop where
  ok : k.Ok
  room : k.room = 1048576
  left : k.left = none
  L : (i = 0 ∧ k.L = []) ∨ (0 < i ∧ k.L = [([102], allK l i, (allK l (min i s)).length)])
theorem is_one (nm : Nm) (v : List UInt8 × Nat) : isF [(nm, v)] nm = true := by simp [isF, spotN, nm_irr]
theorem get_one (nm : Nm) (v : List UInt8 × Nat) : getF [(nm, v)] nm = v := by simp [getF, spotN, nm_irr]
theorem set_one (nm : Nm) (v v' : List UInt8 × Nat) : setF [(nm, v)] nm v' = [(nm, v')] := by simp [setF, spotN, nm_irr]
end Go.Proofs.YtdolbeonpkanpaaGreatDoor
namespace Go.Proofs.YtdolbeonpkanpaaGreatDoor

theorem xor0 (f : Nat) (l : List UInt8) : xorFrom f 0 l = l := by
  unfold xorFrom
  have : (l.drop f).map (· ^^^ (0 : UInt8)) = l.drop f := by
    conv => rhs; rw [← List.map_id (l.drop f)]
    exact List.map_congr_left fun x _ => by simp
  rw [this, List.take_append_drop]
end Go.Proofs.YtdolbeonpkanpaaGreatDoor
namespace Go.Proofs.YtdolbeonpkanpaaGreatDoor

structure RmInv (room i : Nat) (k : Dk) : Prop where
  ok : k.Ok
  room : k.room = room
  left : k.left = none
  many : k.L.length ≤ i
theorem get_of_mem {L : List Fl} (hs : SortedF L) {nm : Nm} {v : List UInt8 × Nat} (h : (nm, v) ∈ L) : isF L nm = true ∧ getF L nm = v := by
  have hi := (isF_iff hs).2 ⟨_, h, rfl⟩
  have := sortedF_inj hs (isF_mem hi) h rfl
  exact ⟨hi, congrArg Prod.snd this⟩
end Go.Proofs.YtdolbeonpkanpaaGreatDoor
