import Derived.Test.YtdikaeggildpnaaSeedB
namespace Go.Proofs.Ytdikaeggildpnaa
open Go.RowKit
attribute [local go_sem ↓] Go.wp_at_zero Go.wp_at_succ

def idxI (l : List Nat) (v : Int) : Int := match l.findIdx? (fun (x : Nat) => (x : Int) == v) with | some i => i | none => -1
def IdxPre (l : List Nat) (v : Int) (k : Nat) : Prop := ∀ j x, j < k → l[j]? = some x → ((x : Int) == v) = false
theorem idxI_some {l : List Nat} {v : Int} {k : Nat} (hk : k < l.length) (hp : IdxPre l v k) (h : ((l[k] : Int) == v) = true) : idxI l v = k := by
  unfold idxI
  have : l.findIdx? (fun (x : Nat) => (x : Int) == v) = some k := by
    rw [List.findIdx?_eq_some_iff_getElem]
    exact ⟨hk, h, fun j hj => by simpa using hp j l[j] hj (List.getElem?_eq_getElem (by omega))⟩
  rw [this]
theorem idxI_none {l : List Nat} {v : Int} (hp : IdxPre l v l.length) : idxI l v = -1 := by
  unfold idxI
  have : l.findIdx? (fun (x : Nat) => (x : Int) == v) = none := by
    rw [List.findIdx?_eq_none_iff]
    intro x hx
    obtain ⟨j, hj, rfl⟩ := List.mem_iff_getElem.1 hx
    exact hp j _ hj (List.getElem?_eq_getElem hj)
  rw [this]
def IxRel (l : List Nat) (v : Int) (m : Nat) (v8 : Value) : Prop := ∃ k : Nat, k ≤ m ∧ v8 = .int .i64 k ∧ IdxPre l v k
set_option maxRecDepth 100000 in
theorem index_any (l : List Nat) (v : Int) (a : Option Addr) (m c : Nat) (H : Heaplet) (w : World) (hm : l.length = m) (hl : m ≤ 64) (hr : SlRep 3 1 a m c (l.map iv) H) (hw : Own w H) :
    Calls Try.prog 20 #[.slice a m c, .int .i64 v] w fun e w' => e = .returned (.int .i64 (idxI l v)) ∧ w = w' := by
  replace hr := Lib.hid hr
  replace hm := Lib.hid hm
  have b0 : (m : Int) ≤ 64 := by omega
  go_enter Try.func20, Try.ntmps20
  go_wp2_with fail
  go_loop [8] (fun v8 => IxRel l v m v8) (fun v8 => m - (intOf v8).toNat)
  case atStart => exact ⟨0, Nat.zero_le _, rfl, fun j x hj => by omega⟩
  case round =>
    obtain ⟨k, hk, rfl, hp⟩ := hrel
    replace hp := Lib.hid hp
    have b1 : (0 : Int) ≤ (k : Int) := by omega
    by_cases hlt : k < m
    · have hkl : k < l.length := by rw [hm.out]; exact hlt
      obtain ⟨g, rfl, hc, -⟩ := slRep_at hr.out hw (i := k) (v := .int .i64 (l[k] : Nat)) (by rw [List.getElem?_map, List.getElem?_eq_getElem hkl]; rfl)
      have b2 : (k : Int) < (m : Int) := by omega
      simp only [Nat.zero_add] at hc
      cases hx : ((l[k] : Int) == v)
      · have hx' : (v == (l[k] : Int)) = false := by rw [beq_eq_false_iff_ne] at hx ⊢; exact Ne.symm hx
        replace hx := Lib.hid hx
        go_wp2
        refine ⟨⟨k + 1, by omega, by go_num, fun j x hj hjx => ?_⟩, by simp [intOf]; omega⟩
        rcases Nat.lt_or_ge j k with h | h
        · exact hp.out j x h hjx
        · obtain rfl : j = k := by omega
          rw [List.getElem?_eq_getElem hkl] at hjx
          obtain rfl := Option.some.inj hjx
          exact hx.out
      · have hx' : (v == (l[k] : Int)) = true := by rw [beq_iff_eq] at hx ⊢; exact hx.symm
        replace hx := Lib.hid hx
        go_wp2
        go_ret
        exact ⟨by rw [idxI_some hkl hp.out hx.out]; rfl, rfl⟩
    · have hkm : k = m := by omega
      replace hkm := Lib.hid hkm
      go_wp2
      go_ret
      exact ⟨by rw [idxI_none (by rw [hm.out, ← hkm.out]; exact hp.out)]; rfl, rfl⟩

theorem rounds_no (n : Int) (w : World) (h : many n = false) : Calls Try.prog 11 #[.int .i64 n] w fun e w' => e = .returned (.tuple #[.int .i64 0, .int .i64 0, .int .i64 1]) ∧ w = w' := by
  go_enter Try.func11, Try.ntmps11
  go_wp2_with (go_at_call 15; refine (isMany_any n _).mono ?_; rintro e w' ⟨rfl, rfl⟩)
  go_ret3
  exact ⟨rfl, rfl⟩
theorem rounds_yes (n S q : Nat) (w : World) (h1 : 2 ≤ n) (h2 : n ≤ 64) (hq : lg n = q) (hS : S + 1 = 2 ^ lg n) : Calls Try.prog 11 #[.int .i64 n] w fun e w' => e = .returned (.tuple #[.int .i64 q, .int .i64 S, .int .i64 0]) ∧ w = w' := by
  have hm : many (n : Int) = true := by simp [many]; omega
  have b1 : (2 : Int) ≤ (n : Int) := by omega
  have b2 : (n : Int) ≤ 64 := by omega
  have hS6 : S ≤ 63 := by have := Nat.pow_le_pow_right (show 0 < 2 by omega) (lg_le n h2); omega
  have b3 : (S : Int) ≤ 63 := by omega
  have e0 : IntKind.u64.wrap ((n : Int) - 1) = (n : Int) - 1 := IntWalk.u64_in _ (by omega)
  have hsz := Lib.hid (fun W => size_any n (S + 1) W h1 h2 hS)
  have hq' : Lib.bitLen (n - 1) = q := hq
  replace hq' := Lib.hid hq'
  clear hS hq
  go_enter Try.func11, Try.ntmps11
  go_wp2_with (go_at_call 15; refine (isMany_any n _).mono ?_; rintro e w' ⟨rfl, rfl⟩)
  refine (Try.bits_Len _ _ (by omega) (by omega)).mono ?_
  have e1 : ((n : Int) - 1).toNat = n - 1 := by omega
  rw [e1, hq'.out]
  rintro e w' ⟨rfl, rfl⟩
  go_wp2_with fail
  refine (hsz.out _).mono ?_
  rintro e w' ⟨rfl, rfl⟩
  have e2 : ((S + 1 : Nat) : Int) - 1 = (S : Int) := by omega
  go_wp2_with fail
  go_ret3
  exact ⟨by simp, rfl⟩
end Go.Proofs.Ytdikaeggildpnaa
