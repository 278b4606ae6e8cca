import Derived.Test.YtdkjgkbddehaiaaPure
import Derived.Test.YtdkjgkbddehaiaaShelf
namespace Go.Proofs.Ytdkjgkbddehaiaa
open Go.RowKit
attribute [local go_sem ↓] Go.wp_at_zero Go.wp_at_succ

theorem st_int : SlTy Try.prog 22 3 1 8 (.int .i64 0) := ⟨by kernel_rfl, by kernel_rfl, rfl, by decide⟩
abbrev iv (x : Nat) : Value := .int .i64 x
def many (n : Int) : Bool := decide (2 ≤ n) && decide (n ≤ 64)
theorem isMany_any (n : Int) (w : World) : Calls Try.prog 35 #[.int .i64 n] w fun e w' => e = .returned (.bool (many n)) ∧ w = w' := by
  by_cases h1 : 2 ≤ n
  · by_cases h2 : n ≤ 64
    · have e : many n = true := by simp [many, h1, h2]
      rw [e]
      go_enter Try.func35, Try.ntmps35
      go_wp2
      go_ret
      exact ⟨rfl, rfl⟩
    · have e : many n = false := by simp [many, h2]
      rw [e]
      go_enter Try.func35, Try.ntmps35
      go_wp2
      go_ret
      exact ⟨rfl, rfl⟩
  · have e : many n = false := by simp [many, h1]
    rw [e]
    go_enter Try.func35, Try.ntmps35
    go_wp2
    go_ret
    exact ⟨rfl, rfl⟩

theorem pow_wrap : ∀ q, q ≤ 6 → wrap64 ((2 : Int) ^ q) = ((2 ^ q : Nat) : Int) := by
  intro q hq
  have h : q = 0 ∨ q = 1 ∨ q = 2 ∨ q = 3 ∨ q = 4 ∨ q = 5 ∨ q = 6 := by omega
  rcases h with rfl | rfl | rfl | rfl | rfl | rfl | rfl <;> simp [wrap64]
def lg (n : Nat) : Nat := Lib.bitLen (n - 1)
theorem lg_le : ∀ n, n ≤ 64 → lg n ≤ 6 := by decide
theorem size_any (n S : Nat) (w : World) (h1 : 2 ≤ n) (h2 : n ≤ 64) (hS : S = 2 ^ lg n) : Calls Try.prog 36 #[.int .i64 n] w fun e w' => e = .returned (.int .i64 S) ∧ w = w' := by
  have hl := lg_le n h2
  have b1 : (2 : Int) ≤ (n : Int) := by omega
  have b2 : (n : Int) ≤ 64 := by omega
  have e0 : IntKind.u64.wrap ((n : Int) - 1) = (n : Int) - 1 := IntWalk.u64_in _ (by omega)
  have hS2 := Lib.hid (show wrap64 ((2 : Int) ^ lg n) = (S : Int) by rw [hS]; exact pow_wrap _ hl)
  clear hS
  go_enter Try.func36, Try.ntmps36
  go_wp2_with fail
  refine (Try.bits_Len _ _ (by omega) (by omega)).mono ?_
  have e1 : ((n : Int) - 1).toNat = n - 1 := by omega
  rw [e1]
  rintro e w' ⟨rfl, rfl⟩
  rw [show Lib.bitLen (n - 1) = lg n from rfl]
  go_wp2_with fail
  go_ret
  exact ⟨by show Ending.returned (.int .i64 (wrap64 (2 ^ lg n))) = _; rw [hS2.out], rfl⟩

/-- A row with its other half behind each. -/
def grow (l : List Nat) : List Nat := l.flatMap fun s => [s, 2 * l.length + 1 - s]
def full : Nat → List Nat
  | 0 => [1]
  | k + 1 => grow (full k)
def ordL (n : Nat) : List Nat := (full (lg n)).map fun s => if s ≤ n then s else 0
theorem full_len (k : Nat) : (full k).length = 2 ^ k := by
  induction k with
  | zero => rfl
  | succ k ih => simp [full, grow, ih, List.map_const', Nat.pow_succ]
theorem full_le : ∀ k, k ≤ 6 → ∀ x ∈ full k, 1 ≤ x ∧ x ≤ 2 ^ k := by decide
theorem ordL_len (n : Nat) : (ordL n).length = 2 ^ lg n := by simp [ordL, full_len]

/-- The closure: the other one. -/
theorem other_any (s : Nat) (B : Nat) (a : Option Addr) (m c : Nat) (w : World) (hm : m ≤ 64) (hs : s ≤ 64) (hs2 : s ≤ 2 * m + 1) (hc : w.cell? ⟨B, 0, none⟩ = some (.slice a m c)) :
    Calls Try.prog 38 #[iv s, .pointer (some ⟨B, 0, none⟩)] w fun e w' => e = .returned (iv (2 * m + 1 - s)) ∧ w = w' := by
  have b1 : (m : Int) ≤ 64 := by omega
  have b2 : (s : Int) ≤ 64 := by omega
  go_enter Try.func38, Try.ntmps38
  go_wp2
  go_ret
  refine ⟨?_, rfl⟩
  show Ending.returned (.int .i64 (2 * (m : Int) + 1 - s)) = _
  rw [show (2 * (m : Int) + 1 - s) = ((2 * m + 1 - s : Nat) : Int) by omega]
theorem call_other (args : Array Value) (w : World) : (callFunc 38 args).run Try.prog w = .ok (.enter 38 args) w := by kernel_rfl

def GrowPost (l : List Nat) (w : World) (e : Ending) (w' : World) : Prop :=
  ∃ a c H, e = .returned (.slice a (grow l).length c) ∧ SlRep 3 1 a (grow l).length c ((grow l).map iv) H ∧ Step w [] w' H
def growTo (l : List Nat) (k : Nat) : List Nat := (l.take k).flatMap fun s => [s, 2 * l.length + 1 - s]
theorem growTo_succ {l : List Nat} {k : Nat} (h : k < l.length) : growTo l (k + 1) = growTo l k ++ [l[k], 2 * l.length + 1 - l[k]] := by
  unfold growTo; rw [List.take_succ_eq_append_getElem h, List.flatMap_append]; simp
theorem growTo_len {l : List Nat} (k : Nat) (hk : k ≤ l.length) : (growTo l k).length = 2 * k := by
  unfold growTo; simp [List.map_const', List.length_take, Nat.min_eq_left hk]; omega
def GrowRel (l : List Nat) (w : World) (v5 v10 : Value) (wr : World) : Prop :=
  ∃ k a c H, k ≤ l.length ∧ v10 = iv k ∧ v5 = .slice a (growTo l k).length c ∧ SlRep 3 1 a (growTo l k).length c ((growTo l k).map iv) H ∧ Step w [] wr H
set_option maxRecDepth 100000 in
theorem grown_any (l : List Nat) (a : Option Addr) (c B : Nat) (H : Heaplet) (w : World) (hl : l.length ≤ 64) (hx : ∀ x ∈ l, 1 ≤ x ∧ x ≤ l.length) (hr : SlRep 3 1 a l.length c (l.map iv) H) (hw : Own w ((B, .cells #[.slice a l.length c] 22 (0, 0)) :: H)) :
    Calls Try.prog 37 #[.slice a l.length c, .func (.func 38) #[] #[.pointer (some ⟨B, 0, none⟩)]] w (GrowPost l w) := by
  replace hr := Lib.hid hr
  replace hx := Lib.hid hx
  have hb3 : (l.length : Int) ≤ 64 := by omega
  go_enter Try.func37, Try.ntmps37
  go_wp2_with fail
  go_loopw [5, 10] (fun v5 v10 wr => GrowRel l w v5 v10 wr) (fun _ v _ => l.length - (intOf v).toNat)
  case atStart => exact ⟨0, none, 0, [], Nat.zero_le _, rfl, rfl, SlRep.nil _ _, Step.refl (Own.nil _)⟩
  case round =>
    obtain ⟨k, ao, co, Ho, hk, rfl, rfl, hro, hs⟩ := hrel
    have b1 : (0 : Int) ≤ (k : Int) := by omega
    have hgl := growTo_len (l := l) k hk
    by_cases hlt : k < l.length
    · have hwr := hw.eq (fun b hb => hs.frame b (hw.lt b hb) (by simp [dom]))
      obtain ⟨g, rfl, hc, -⟩ := slRep_at hr.out hwr.tail (i := k) (v := iv l[k]) (by simp [hlt])
      have hB := cells1 hwr.h0
      have b2 : (k : Int) < (l.length : Int) := by omega
      have hle := hx.out _ (List.getElem_mem hlt)
      simp only [Nat.zero_add] at hc
      clear hwr
      go_wp2_with fail
      refine (other_any l[k] B _ l.length c _ hl (by omega) (by omega) hB).mono ?_
      rintro e w1 ⟨rfl, rfl⟩
      replace hgl := Lib.hid hgl
      go_wp2_with (at_builtin; refine wpList_app rfl st_int _ _ rfl (by rfl) (by rfl) hro ((hs.alloc _).own.tail) (rdCells_block (heap_alloc_new _ _) rfl (by simp [Value.oneCell'])) (by have := hgl.out; unfold maxLen; omega) (by have := hgl.out; omega) ?_; intro a6 c6 w6 H6 hr6 hst6)
      refine ⟨⟨k + 1, a6, c6, H6, by omega, by go_num, ?_, ?_, (Step.callR (R := [_]) (hs.alloc _) hst6).tail⟩, by simp [intOf]; omega⟩
      · rw [growTo_succ hlt, List.length_append]; rfl
      · rw [growTo_succ hlt, List.length_append, List.map_append]; exact hr6
    · have hkl : k = l.length := by omega
      have hgr : growTo l k = grow l := by rw [hkl]; unfold growTo grow; rw [List.take_length]
      rw [hgr] at hro hgl ⊢
      clear hw
      replace hgl := Lib.hid hgl
      replace hgr := Lib.hid hgr
      replace hkl := Lib.hid hkl
      go_wp2
      go_ret
      exact ⟨ao, co, Ho, rfl, hro, hs⟩
end Go.Proofs.Ytdkjgkbddehaiaa
