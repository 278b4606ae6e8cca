/- What is known of chapter 3: a run of its own. -/
import Derived.Test.YtebmbfiiadffjaaDkS
import Derived.Test.YtebmbfiiadffjaaDkJ
import Derived.Lib.SlBytesConst
namespace Go.Proofs.Ytebmbfiiadffjaa
open Go.RowKit
attribute [local go_sem ↓] Go.wp_at_zero Go.wp_at_succ

def KnownPost (w : World) (e : Ending) (w' : World) : Prop := e = .returned (.bool true) ∧ Step w [] w' []
theorem rdBytes_new {w : World} {f : Nat × Nat} (l : List UInt8) (hl : l.length ≤ 1000) : RdBytes (w.alloc (.cells (l.map u8).toArray 5 f)) (some ⟨w.heap.size, 0, none⟩) l.length l.length l := by
  refine ⟨rfl, .inr ⟨_, rfl, Nat.le_refl _, by unfold maxLen; omega, fun i x hi => ?_⟩⟩
  rw [Addr.add_lit]
  exact cell_of (heap_alloc_new _ _) (by simp [hi])
theorem nil_ptr (w : World) (b : Nat) : (binOp .eql 25 (pt b) (.pointer none)).run Try.prog w = .ok (.bool false) w := by kernel_rfl
theorem dnew_ok (room : Int) (n : Nat) (hn : room = (n : Nat)) (h : n ≤ 1073741824) (w : World) : Calls Try.prog 10 #[ii room] w fun e w' => ∃ (b : Nat) (H : Heaplet), e = .returned (.tuple #[pt b, ii 0]) ∧ DkRep b ⟨n, [], none⟩ H ∧ Step w [] w' H :=
  (dnew_any room w).mono fun e w' hq => by
    rcases hq with ⟨h1, _⟩ | ⟨b, H, h1, h2, h3, h4, h5⟩
    · omega
    · subst hn
      exact ⟨b, H, h3, h4, h5⟩
theorem fresh_out {w : World} {H : Heaplet} (hw : Own w H) (x : Addr) (h : some (⟨w.heap.size, 0, none⟩ : Addr) = some x) : x.block ∉ dom H := by
  cases h
  exact fun hx => Nat.lt_irrefl _ (hw.lt _ hx)
/-- A write of bytes that are laid for it. -/
theorem dwrite_lit (b : Nat) (k : Dk) (H : Heaplet) (nm : Nm) (l : List UInt8) (cs : Array Value) (hcs : cs = (l.map u8).toArray) (w : World) (h : DkRep b k H) (hk : k.Ok) (hw : Own w H) (hl : l.length ≤ 1000) (r : Nat × Dk) (hr : gateN [nm] (wrI nm l) k = r) (n : Nat) (hn : l.length = n) (f : Nat × Nat) :
    Calls Try.prog 11 #[pt b, strV nm, .slice (some ⟨w.heap.size, 0, none⟩) n n] (w.alloc (.cells cs 5 f)) (DkPost b r H w) := by
  subst hr hcs hn
  have s := (Step.refl hw).alloc (.cells (l.map u8).toArray 5 f)
  exact (dwrite b k H nm _ _ _ l _ h hk s.own.tail (rdBytes_new l hl) (fun _ => fresh_out hw) (by omega)).mono fun e w' hq => hq.pre s.tail
theorem same_lit (l : List UInt8) (cs : Array Value) (hcs : cs = (l.map u8).toArray) (a : Option Addr) (c n : Nat) (hn : l.length = n) (H : Heaplet) (w : World) (f : Nat × Nat) (hs : SlRep 5 1 a n c (l.map u8) H) (hw : Own w H) (hl : l.length ≤ 1000) :
    Calls Try.prog 16 #[.slice a n c, .slice (some ⟨w.heap.size, 0, none⟩) n n] (w.alloc (.cells cs 5 f)) fun e w' => e = .returned (.bool true) ∧ Step w [] w' [] := by
  subst hn hcs
  refine (same_any a _ l.length c l.length l.length l l _ ((hs.rdBytes hw).alloc _) (rdBytes_new l hl) (by omega) (by omega)).mono fun e w' hq => ⟨by rw [hq.1]; simp, ((Step.refl (Own.nil w)).junk _).trans hq.2⟩
theorem DkPost.get {b : Nat} {n : Nat} {k : Dk} {H : Heaplet} {w w' : World} {e : Ending} (h : DkPost b (n, k) H w e w') : e = .returned (.int .i64 (n : Nat)) ∧ ∃ H', DkRep b k H' ∧ Step w H w' H' := h
set_option maxHeartbeats 4000000 in
set_option maxRecDepth 100000 in
theorem known_any (w : World) : Calls Try.prog 9 #[] w (KnownPost w) := by
  have e1 : gateN [[97]] (wrI [97] [49, 50, 51, 52, 53]) ⟨100, [], none⟩ = (0, ⟨100, [([97], [49, 50, 51, 52, 53], 0)], none⟩) := by decide +kernel
  have e2 : gateN [[97]] (syI [97]) ⟨100, [([97], [49, 50, 51, 52, 53], 0)], none⟩ = (0, ⟨100, [([97], [49, 50, 51, 52, 53], 5)], none⟩) := by decide +kernel
  have e3 : gateN [[97]] (wrI [97] [54, 55, 56]) ⟨100, [([97], [49, 50, 51, 52, 53], 5)], none⟩ = (0, ⟨100, [([97], [49, 50, 51, 52, 53, 54, 55, 56], 5)], none⟩) := by decide +kernel
  have e4 : crN 1 1 ⟨100, [([97], [49, 50, 51, 52, 53, 54, 55, 56], 5)], none⟩ = ⟨100, [([97], [49, 50, 51, 52, 53, 55], 6)], none⟩ := by decide +kernel
  have e5 : rdN [97] ⟨100, [([97], [49, 50, 51, 52, 53, 55], 6)], none⟩ = ([49, 50, 51, 52, 53, 55], 0) := by decide +kernel
  have k0 : (⟨100, [], none⟩ : Dk).Ok := new_ok (by decide)
  have k1 : (⟨100, [([97], [49, 50, 51, 52, 53], 0)], none⟩ : Dk).Ok := by
    have := gate_ok k0 [[97]] (wrI [97] [49, 50, 51, 52, 53]) (fun _ => wr_ok k0 _ (by decide) _)
    rwa [e1] at this
  have k2 : (⟨100, [([97], [49, 50, 51, 52, 53], 5)], none⟩ : Dk).Ok := by
    have := gate_ok k1 [[97]] (syI [97]) (fun _ => sy_ok k1 _)
    rwa [e2] at this
  have k3 : (⟨100, [([97], [49, 50, 51, 52, 53, 54, 55, 56], 5)], none⟩ : Dk).Ok := by
    have := gate_ok k2 [[97]] (wrI [97] [54, 55, 56]) (fun _ => wr_ok k2 _ (by decide) _)
    rwa [e3] at this
  have k4 : (⟨100, [([97], [49, 50, 51, 52, 53, 55], 6)], none⟩ : Dk).Ok := by
    have := cr_ok k3 1 1
    rwa [e4] at this
  have g1 := Lib.hid (fun b H W h hW => dwrite_lit b _ H [97] [49, 50, 51, 52, 53] _ rfl W h k0 hW (by decide) _ e1 5 rfl (5, 6))
  have g2 := Lib.hid (fun b H W h hW => (dsync b _ H [97] W h k1 hW).mono fun e w' hq => by rw [e2] at hq; exact hq)
  have g3 := Lib.hid (fun b H W h hW => dwrite_lit b _ H [97] [54, 55, 56] _ rfl W h k2 hW (by decide) _ e3 3 rfl (3, 4))
  have g4 := Lib.hid (fun b H W h hW => (dcrash b _ 1 1 H W h k3 hW (by decide)).mono fun e w' hq => by rw [e4] at hq; exact hq)
  have g5 := Lib.hid (fun b H W h hW => (dread b _ H [97] W h k4 hW).mono fun e w' hq => by rw [e5] at hq; exact hq)
  have kc := fun (w : World) (C : Array Value) (n c : Nat) => Lib.run_convert_bytes_const (P := Try.prog) w 23 5 C n c Try.underlying23 Try.underlying5
  clear e1 e2 e3 e4 e5 k0 k1 k2 k3 k4
  go_enter Try.func9, Try.ntmps9
  go_wp2_with fail
  refine (dnew_ok 100 100 rfl (by decide) w).mono ?_
  rintro e w1 ⟨b, H, rfl, hr, hs⟩
  go_wp2_with fail
  refine (g1.out b H w1 hr hs.own).mono ?_
  rintro e w2 ⟨rfl, H2, hr2, hst⟩
  replace hs := hs.trans hst
  clear hst hr
  go_wp2_with fail
  refine (g2.out b H2 w2 hr2 hs.own).mono ?_
  rintro e w3 ⟨rfl, H3, hr3, hst⟩
  replace hs := hs.trans hst
  clear hst hr2
  go_wp2_with fail
  refine (g3.out b H3 w3 hr3 hs.own).mono ?_
  rintro e w4 ⟨rfl, H4, hr4, hst⟩
  replace hs := hs.trans hst
  clear hst hr3
  go_wp2_with fail
  refine (g4.out b H4 w4 hr4 hs.own).mono ?_
  rintro e w5 ⟨rfl, H5, hr5, hst⟩
  replace hs := hs.trans hst
  clear hst hr4
  go_wp2_with fail
  refine (g5.out b H5 w5 hr5 hs.own).mono ?_
  rintro e w6 ⟨a, c, H6, rfl, hsl, hst⟩
  have s6 := (Sp.of hs).fresh hst
  go_wp2_with fail
  refine (same_lit [49, 50, 51, 52, 53, 55] _ rfl a c 6 rfl H6 w6 (6, 7) hsl (s6.own 1 rfl) (by decide)).mono ?_
  rintro e w7 ⟨rfl, h7⟩
  go_wp2_with fail
  go_ret
  exact ⟨rfl, ((s6.still h7).first).forget (A := [])⟩
end Go.Proofs.Ytebmbfiiadffjaa
