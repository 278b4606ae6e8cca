/- The program's disk: Write, Sync, Cut, Rename, Remove. -/
import Derived.Test.YtebmbfiiadffjaaDkG
namespace Go.Proofs.Ytebmbfiiadffjaa
open Go.RowKit
attribute [local go_sem ↓] Go.wp_at_zero Go.wp_at_succ

theorem wr_left (nm : Nm) (p : List UInt8) (k : Dk) : (wrI nm p k).2.left = k.left := by unfold wrI; split; rfl; split <;> rfl
theorem sy_left (nm : Nm) (k : Dk) : (syI nm k).2.left = k.left := by unfold syI; split <;> rfl
theorem cu_left (nm : Nm) (n : Int) (k : Dk) : (cuI nm n k).2.left = k.left := by unfold cuI; split; split <;> rfl; rfl
theorem rn_left (old nm : Nm) (k : Dk) : (rnI old nm k).2.left = k.left := by unfold rnI; split <;> rfl
theorem rm_left (nm : Nm) (k : Dk) : (rmI nm k).2.left = k.left := by unfold rmI; split <;> rfl
theorem rdBytes_none (w : World) : RdBytes w none 0 0 [] := ⟨rfl, .inl ⟨rfl, rfl, rfl⟩⟩
theorem rdStrs_one (w : World) (nm : Nm) : RdStrs (w.alloc (.cells #[strV nm] 9)) w.heap.size [nm] := by
  intro i x hx
  cases i with
  | zero => cases hx; exact cell_of (heap_alloc_new _ _) rfl
  | succ i => simp at hx
theorem rdStrs_two (w : World) (a b : Nm) : RdStrs (w.alloc (.cells #[strV a, strV b] 9)) w.heap.size [a, b] := by
  intro i x hx
  cases i with
  | zero => cases hx; exact cell_of (heap_alloc_new _ _) rfl
  | succ i =>
    cases i with
    | zero => cases hx; exact cell_of (heap_alloc_new _ _) rfl
    | succ i => simp at hx
theorem call_write (args : Array Value) (w : World) : (callFunc 30 args).run Try.prog w = .ok (.enter 30 args) w := by kernel_rfl
theorem call_sync (args : Array Value) (w : World) : (callFunc 31 args).run Try.prog w = .ok (.enter 31 args) w := by kernel_rfl
theorem call_cut (args : Array Value) (w : World) : (callFunc 50 args).run Try.prog w = .ok (.enter 50 args) w := by kernel_rfl
theorem call_rename (args : Array Value) (w : World) : (callFunc 34 args).run Try.prog w = .ok (.enter 34 args) w := by kernel_rfl
theorem call_remove (args : Array Value) (w : World) : (callFunc 33 args).run Try.prog w = .ok (.enter 33 args) w := by kernel_rfl
set_option maxHeartbeats 1000000 in
theorem dwrite (b : Nat) (k : Dk) (H : Heaplet) (nm : Nm) (pa : Option Addr) (pn pc : Nat) (p : List UInt8) (w : World) (h : DkRep b k H) (hk : k.Ok) (hw : Own w H)
    (hb : RdBytes w pa pn pc p) (hpb : p ≠ [] → ∀ x, pa = some x → x.block ∉ dom H) (hpl : p.length ≤ 140737488355328) :
    Calls Try.prog 11 #[pt b, strV nm, .slice pa pn pc] w (DkPost b (gateN [nm] (wrI nm p) k) H w) := by
  have s1 := (Step.refl hw).alloc (.cells #[strV nm] 9)
  have hng : w.heap.size ∉ dom H := fun hx => Nat.lt_irrefl _ (hw.lt _ hx)
  have hgt := Lib.hid (gate_any 30 call_write b k H w.heap.size 1 [nm] 0 pa pn pc p (wrI nm p) (w.alloc (.cells #[strV nm] 9)) h s1.own.tail (rdStrs_one w nm) (hb.alloc _) (Nat.le_refl _) (by decide) (wr_left _ _ _)
    (fun W hW hg hb' => write_any b k H w.heap.size 1 nm 0 pa pn pc p W h hk hW hg (Nat.le_refl _) hb' hng hpb hpl))
  replace s1 := Lib.hid s1
  clear h hk
  go_enter Try.func11, Try.ntmps11
  go_wp2_with fail
  refine hgt.out.mono ?_
  rintro e w2 ⟨rfl, H', hr, hst⟩
  go_wp2
  go_ret
  exact ⟨rfl, H', hr, s1.out.tail.trans hst⟩
set_option maxHeartbeats 1000000 in
theorem dsync (b : Nat) (k : Dk) (H : Heaplet) (nm : Nm) (w : World) (h : DkRep b k H) (hk : k.Ok) (hw : Own w H) :
    Calls Try.prog 12 #[pt b, strV nm] w (DkPost b (gateN [nm] (syI nm) k) H w) := by
  have s1 := (Step.refl hw).alloc (.cells #[strV nm] 9)
  have hng : w.heap.size ∉ dom H := fun hx => Nat.lt_irrefl _ (hw.lt _ hx)
  have hgt := Lib.hid (gate_any 31 call_sync b k H w.heap.size 1 [nm] 0 none 0 0 [] (syI nm) (w.alloc (.cells #[strV nm] 9)) h s1.own.tail (rdStrs_one w nm) (rdBytes_none _) (Nat.le_refl _) (by decide) (sy_left _ _)
    (fun W hW hg hb' => sync_any b k H w.heap.size 1 nm 0 none 0 0 W h hk hW hg (Nat.le_refl _)))
  replace s1 := Lib.hid s1
  clear h hk
  go_enter Try.func12, Try.ntmps12
  go_wp2_with fail
  refine hgt.out.mono ?_
  rintro e w2 ⟨rfl, H', hr, hst⟩
  go_wp2
  go_ret
  exact ⟨rfl, H', hr, s1.out.tail.trans hst⟩
set_option maxHeartbeats 1000000 in
theorem dcut (b : Nat) (k : Dk) (H : Heaplet) (nm : Nm) (n : Int) (w : World) (h : DkRep b k H) (hk : k.Ok) (hw : Own w H) :
    Calls Try.prog 28 #[pt b, strV nm, ii n] w (DkPost b (gateN [nm] (cuI nm n) k) H w) := by
  have s1 := (Step.refl hw).alloc (.cells #[strV nm] 9)
  have hng : w.heap.size ∉ dom H := fun hx => Nat.lt_irrefl _ (hw.lt _ hx)
  have hgt := Lib.hid (gate_any 50 call_cut b k H w.heap.size 1 [nm] n none 0 0 [] (cuI nm n) (w.alloc (.cells #[strV nm] 9)) h s1.own.tail (rdStrs_one w nm) (rdBytes_none _) (Nat.le_refl _) (by decide) (cu_left _ _ _)
    (fun W hW hg hb' => cut_any b k H w.heap.size 1 nm n none 0 0 W h hk hW hg (Nat.le_refl _)))
  replace s1 := Lib.hid s1
  clear h hk
  go_enter Try.func28, Try.ntmps28
  go_wp2_with fail
  refine hgt.out.mono ?_
  rintro e w2 ⟨rfl, H', hr, hst⟩
  go_wp2
  go_ret
  exact ⟨rfl, H', hr, s1.out.tail.trans hst⟩
set_option maxHeartbeats 1000000 in
theorem drename (b : Nat) (k : Dk) (H : Heaplet) (old nm : Nm) (w : World) (h : DkRep b k H) (hk : k.Ok) (hw : Own w H) :
    Calls Try.prog 19 #[pt b, strV old, strV nm] w (DkPost b (gateN [old, nm] (rnI old nm) k) H w) := by
  have s1 := (Step.refl hw).alloc (.cells #[strV old, strV nm] 9)
  have hng : w.heap.size ∉ dom H := fun hx => Nat.lt_irrefl _ (hw.lt _ hx)
  have hgt := Lib.hid (gate_any 34 call_rename b k H w.heap.size 2 [old, nm] 0 none 0 0 [] (rnI old nm) (w.alloc (.cells #[strV old, strV nm] 9)) h s1.own.tail (rdStrs_two w old nm) (rdBytes_none _) (Nat.le_refl _) (by decide) (rn_left _ _ _)
    (fun W hW hg hb' => rename_any b k H w.heap.size 2 old nm 0 none 0 0 W h hk hW hg hng (Nat.le_refl _)))
  replace s1 := Lib.hid s1
  clear h hk
  go_enter Try.func19, Try.ntmps19
  go_wp2_with fail
  refine hgt.out.mono ?_
  rintro e w2 ⟨rfl, H', hr, hst⟩
  go_wp2
  go_ret
  exact ⟨rfl, H', hr, s1.out.tail.trans hst⟩
set_option maxHeartbeats 1000000 in
theorem dremove (b : Nat) (k : Dk) (H : Heaplet) (nm : Nm) (w : World) (h : DkRep b k H) (hk : k.Ok) (hw : Own w H) :
    Calls Try.prog 18 #[pt b, strV nm] w (DkPost b (gateN [nm] (rmI nm) k) H w) := by
  have s1 := (Step.refl hw).alloc (.cells #[strV nm] 9)
  have hng : w.heap.size ∉ dom H := fun hx => Nat.lt_irrefl _ (hw.lt _ hx)
  have hgt := Lib.hid (gate_any 33 call_remove b k H w.heap.size 1 [nm] 0 none 0 0 [] (rmI nm) (w.alloc (.cells #[strV nm] 9)) h s1.own.tail (rdStrs_one w nm) (rdBytes_none _) (Nat.le_refl _) (by decide) (rm_left _ _)
    (fun W hW hg hb' => remove_any b k H w.heap.size 1 nm 0 none 0 0 W h hk hW hg (Nat.le_refl _)))
  replace s1 := Lib.hid s1
  clear h hk
  go_enter Try.func18, Try.ntmps18
  go_wp2_with fail
  refine hgt.out.mono ?_
  rintro e w2 ⟨rfl, H', hr, hst⟩
  go_wp2
  go_ret
  exact ⟨rfl, H', hr, s1.out.tail.trans hst⟩
theorem nil_Write (nm : Nm) (pa : Option Addr) (pn pc : Nat) (w : World) : Calls Try.prog 11 #[.pointer none, strV nm, .slice pa pn pc] w fun e w' => e = .returned (ii 1) ∧ Step w [] w' [] := by
  have hg := Lib.hid (fun f n0 s0 s1 w => gate_nil f n0 s0 s1 w)
  go_enter Try.func11, Try.ntmps11
  go_wp2_with fail
  refine (hg.out _ _ _ _ _).mono ?_
  rintro e w2 ⟨rfl, hst⟩
  go_wp2
  go_ret
  exact ⟨rfl, ((Step.refl (Own.nil w)).junk _).trans hst⟩
theorem nil_Sync (nm : Nm) (w : World) : Calls Try.prog 12 #[.pointer none, strV nm] w fun e w' => e = .returned (ii 1) ∧ Step w [] w' [] := by
  have hg := Lib.hid (fun f n0 s0 s1 w => gate_nil f n0 s0 s1 w)
  go_enter Try.func12, Try.ntmps12
  go_wp2_with fail
  refine (hg.out _ _ _ _ _).mono ?_
  rintro e w2 ⟨rfl, hst⟩
  go_wp2
  go_ret
  exact ⟨rfl, ((Step.refl (Own.nil w)).junk _).trans hst⟩
theorem nil_Cut (nm : Nm) (n : Int) (w : World) : Calls Try.prog 28 #[.pointer none, strV nm, ii n] w fun e w' => e = .returned (ii 1) ∧ Step w [] w' [] := by
  have hg := Lib.hid (fun f n0 s0 s1 w => gate_nil f n0 s0 s1 w)
  go_enter Try.func28, Try.ntmps28
  go_wp2_with fail
  refine (hg.out _ _ _ _ _).mono ?_
  rintro e w2 ⟨rfl, hst⟩
  go_wp2
  go_ret
  exact ⟨rfl, ((Step.refl (Own.nil w)).junk _).trans hst⟩
theorem nil_Rename (nm nm2 : Nm) (w : World) : Calls Try.prog 19 #[.pointer none, strV nm, strV nm2] w fun e w' => e = .returned (ii 1) ∧ Step w [] w' [] := by
  have hg := Lib.hid (fun f n0 s0 s1 w => gate_nil f n0 s0 s1 w)
  go_enter Try.func19, Try.ntmps19
  go_wp2_with fail
  refine (hg.out _ _ _ _ _).mono ?_
  rintro e w2 ⟨rfl, hst⟩
  go_wp2
  go_ret
  exact ⟨rfl, ((Step.refl (Own.nil w)).junk _).trans hst⟩
theorem nil_Remove (nm : Nm) (w : World) : Calls Try.prog 18 #[.pointer none, strV nm] w fun e w' => e = .returned (ii 1) ∧ Step w [] w' [] := by
  have hg := Lib.hid (fun f n0 s0 s1 w => gate_nil f n0 s0 s1 w)
  go_enter Try.func18, Try.ntmps18
  go_wp2_with fail
  refine (hg.out _ _ _ _ _).mono ?_
  rintro e w2 ⟨rfl, hst⟩
  go_wp2
  go_ret
  exact ⟨rfl, ((Step.refl (Own.nil w)).junk _).trans hst⟩
end Go.Proofs.Ytebmbfiiadffjaa
