/- One winner a match: brackets told by the same winners end the same; the closure that tells who wins. -/
import Derived.Test.YtdkjgkbddehaiaaBrU
import Derived.Test.YtdkjgkbddehaiaaBrV
namespace Go.Proofs.Ytdkjgkbddehaiaa
open Go.RowKit
attribute [local go_sem ↓] Go.wp_at_zero Go.wp_at_succ

def Br.Cons (B : Br) (σ : Nat → Nat) : Prop := ∀ (j : Nat) (m : Mt), B.ms[j]? = some m → m.w ≠ 0 → m.s0 ≠ 0 → m.s1 ≠ 0 → m.w = m.seat (σ j)
theorem told_cons {B : Br} (h : B.Inv) {σ : Nat → Nat} (hc : B.Cons σ) {i : Nat} {m : Mt} (hm : B.ms[i]? = some m) (hr : m.rdy = true) : (B.told i (σ i) m).Cons σ := by
  intro j m' hj hw h0 h1
  rw [told_get h hm] at hj
  obtain ⟨y, hy, e⟩ := Option.map_eq_some_iff.1 hj
  by_cases hij : i = j
  · subst hij
    rw [if_pos rfl] at e
    rw [hm] at hy; cases hy
    subst e
    rfl
  · rw [if_neg hij] at e
    by_cases hp : i + 2 < B.z ∧ B.z / 2 + i / 2 = j
    · rw [if_pos hp] at e
      simp [Mt.rdy] at hr
      obtain ⟨y', hy', w0, _⟩ := h.parent hm hr.1 hp.1
      rw [hp.2, hy] at hy'; cases hy'
      subst e
      exact absurd w0 (by rwa [(put_s _ _ _).1] at hw)
    · rw [if_neg hp] at e
      subst e
      exact hc j y hy hw h0 h1
theorem newB_cons {n : Nat} (h1 : 2 ≤ n) (h2 : n ≤ 64) (σ : Nat → Nat) : (newB n).Cons σ := by
  have h := List.all_eq_true.1 start_ok0 n (List.mem_range.2 (by omega))
  have h3 : ¬ n < 2 := by omega
  simp only [h3, decide_false, Bool.false_or, startB, Bool.and_eq_true] at h
  intro j m hm hw a b
  have := List.all_eq_true.1 h.1 m (List.mem_of_getElem? hm)
  simp at this
  omega
theorem same_end {A B : Br} {l : List Nat} {σ : Nat → Nat} (hA : A.Inv) (hB : B.Inv) (hz : A.z = B.z) (fA : A.First l) (fB : B.First l) (cA : A.Cons σ) (cB : B.Cons σ) (eA : A.ready A.ms.length = []) (eB : B.ready B.ms.length = []) :
    ∀ (j : Nat) (a b : Mt), A.ms[j]? = some a → B.ms[j]? = some b → a.s0 = b.s0 ∧ a.s1 = b.s1 ∧ a.w = b.w := by
  have hal := hA.ok.len
  have haz := hA.ok.half
  intro j
  induction j using Nat.strongRecOn with
  | _ j ih =>
    intro a b ha hb
    have hw := all_won hA eA j a ha
    have hw' := all_won hB eB j b hb
    have hj := (List.getElem?_eq_some_iff.1 ha).1
    have hcc : a.s0 = b.s0 → a.s1 = b.s1 → a.s0 ≠ 0 → a.s1 ≠ 0 → a.w = b.w := fun e0 e1 h0 h1 => by
      rw [cA j a ha hw h0 h1, cB j b hb hw' (by omega) (by omega)]
      unfold Mt.seat; rw [e0, e1]
    by_cases hjz : j < A.z / 2
    · have s1 := fA j a ha hjz
      have s2 := fB j b hb (by omega)
      have e0 : a.s0 = b.s0 := by rw [s1.1, s2.1]
      have e1 : a.s1 = b.s1 := by rw [s1.2, s2.2]
      refine ⟨e0, e1, ?_⟩
      by_cases h0 : a.s0 = 0 ∨ a.s1 = 0
      · have q1 := (hA.leaf j a ha hjz).2 h0
        have q2 := (hB.leaf j b hb (by omega)).2 (by omega)
        omega
      · exact hcc e0 e1 (by omega) (by omega)
    · obtain ⟨⟨x, y, p, q, e1, e2⟩, g⟩ := hA.tree j a ha (by omega)
      obtain ⟨⟨x', y', p', q', e1', e2'⟩, g'⟩ := hB.tree j b hb (by omega)
      rw [← hz] at p' q'
      have i1 := (ih _ (by omega) x x' p p').2.2
      have i2 := (ih _ (by omega) y y' q q').2.2
      have e0 : a.s0 = b.s0 := by omega
      have e3 : a.s1 = b.s1 := by omega
      exact ⟨e0, e3, hcc e0 e3 (g hw).1 (g hw).2⟩
theorem and_31 (x : Nat) : bits .and .i64 (x : Int) 31 = ((x % 32 : Nat) : Int) := by
  show IntKind.i64.wrap ((BitVec.ofInt 64 x &&& BitVec.ofInt 64 31).toNat : Int) = _
  have h1 : (BitVec.ofInt 64 31).toNat = 2 ^ 5 - 1 := by decide
  rw [BitVec.toNat_and, h1, Nat.and_two_pow_sub_one_eq_mod, BitVec.toNat_ofInt, IntKind.wrap_i64]
  omega
/-- Which seat wins a match. -/
def sgm (wins : Int) (m : Nat) : Nat := ((wins / 2 ^ (m % 32)) % 2).toNat
theorem sgm_lt (wins : Int) (m : Nat) : sgm wins m < 2 := by unfold sgm; omega
theorem seat_any (wins : Int) (b m : Nat) (w : World) (hm : m ≤ 64) (hc : w.cell? ⟨b, 0, none⟩ = some (.int .i64 wins)) :
    Calls Try.prog 11 #[iv m, .pointer (some ⟨b, 0, none⟩)] w fun e w' => e = .returned (.int .i64 (sgm wins m : Nat)) ∧ w = w' := by
  have b1 : (m : Int) ≤ 64 := by omega
  have e1 := and_31 m
  have e3 : sgm wins m = ((wins / 2 ^ (m % 32)) % 2).toNat := rfl
  obtain ⟨K, hK⟩ : ∃ K, m % 32 = K := ⟨_, rfl⟩
  rw [hK] at e1 e3
  have b0 : (0 : Int) ≤ (K : Int) := by omega
  have b2 : (K : Int) < 64 := by omega
  have e2 := and_1 (wins / 2 ^ K)
  have e4 : ((sgm wins m : Nat) : Int) = wins / 2 ^ K % 2 := by rw [e3]; omega
  replace e3 := Lib.hid e3
  replace e4 := Lib.hid e4
  replace hK := Lib.hid hK
  go_enter Try.func11, Try.ntmps11
  go_wp2
  go_ret
  exact ⟨by rw [e4.out]; rfl, rfl⟩
/-- A bracket that goes by a row, and by one winner a match. -/
structure SaGood (n : Nat) (l : List Nat) (σ : Nat → Nat) (A : Br) : Prop where
  inv : A.Inv
  n : A.n = n
  z : A.z = l.length
  first : A.First l
  cons : A.Cons σ
theorem sa_start {n : Nat} (h1 : 2 ≤ n) (h2 : n ≤ 64) (σ : Nat → Nat) : SaGood n (ordL n) σ (newB n) ∧ (newB n).outs n = 0 := by
  have hz := newB_nz (n := n)
  refine ⟨⟨newB_inv h1 h2, hz.1, hz.2, newB_first h1 h2, newB_cons h1 h2 σ⟩, ?_⟩
  have := newB_outs (n := n)
  rwa [hz.1] at this
theorem sa_step {n : Nat} {l : List Nat} {σ : Nat → Nat} {A : Br} (h : SaGood n l σ A) {k i : Nat} {m : Mt} (ho : A.outs n = k) (hm : A.ms[i]? = some m) (hr : m.rdy = true) (hs : σ i < 2) :
    SaGood n l σ (A.told i (σ i) m) ∧ (A.told i (σ i) m).outs n = k + 1 ∧ k + 1 ≤ n := by
  have hou := outs_told (k := σ i) h.inv hm hs hr
  rw [h.n, ho] at hou
  exact ⟨⟨told_inv h.inv hm hs hr, h.n, h.z, told_first h.inv h.first hm, told_cons h.inv h.cons hm hr⟩, hou, by have := outs_le (A.told i (σ i) m) n; omega⟩
theorem sa_same {n : Nat} {l : List Nat} {σ : Nat → Nat} {A B : Br} (hA : SaGood n l σ A) (hB : SaGood n l σ B) (eA : A.ready A.ms.length = []) (eB : B.ready B.ms.length = []) {j : Nat} {a b : Mt} (ha : A.ms[j]? = some a) (hb : B.ms[j]? = some b) :
    a.s0 = b.s0 ∧ a.s1 = b.s1 ∧ a.w = b.w ∧ a.w ≠ 0 := by
  obtain ⟨x, y, z⟩ := same_end hA.inv hB.inv (hA.z.trans hB.z.symm) hA.first hB.first hA.cons hB.cons eA eB j a b ha hb
  exact ⟨x, y, z, all_won hA.inv eA j a ha⟩
end Go.Proofs.Ytdkjgkbddehaiaa
