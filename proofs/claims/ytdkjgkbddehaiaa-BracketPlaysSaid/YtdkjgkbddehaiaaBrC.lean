/- wins, Report. -/
import Derived.Test.YtdkjgkbddehaiaaBrB
namespace Go.Proofs.Ytdkjgkbddehaiaa
open Go.RowKit
attribute [local go_sem ↓] Go.wp_at_zero Go.wp_at_succ

theorem flat4_set : ∀ (l : List Mt) (i j : Nat) (f : Mt → Mt) (v : Value), j < 4 → i < l.length → (∀ m, (f m).cells = m.cells.set j v) →
    (l.flatMap Mt.cells).set (i * 4 + j) v = (l.modify i f).flatMap Mt.cells
  | [], i, j, f, v, _, hi, _ => absurd hi (Nat.not_lt_zero _)
  | m :: l, 0, j, f, v, hj, _, hf => by
    rw [List.flatMap_cons, Nat.zero_mul, Nat.zero_add, List.set_append_left _ _ (by simp [Mt.cells]; exact hj), List.modify_zero_cons, List.flatMap_cons, hf]
  | m :: l, i + 1, j, f, v, hj, hi, hf => by
    rw [List.flatMap_cons, List.set_append_right _ _ (by simp [Mt.cells]; omega), List.modify_succ_cons, List.flatMap_cons]
    rw [show (i + 1) * 4 + j - m.cells.length = i * 4 + j by simp [Mt.cells]; omega]
    rw [flat4_set l i j f v hj (by simpa using hi) hf]
theorem setA {l : List Value} {k : Nat} {v : Value} : l.toArray.setIfInBounds k v = (l.set k v).toArray := by simp
theorem put_cells (k s : Nat) (hk : k < 2) (m : Mt) : (m.put k s).cells = m.cells.set k (iv s) := by
  have : k = 0 ∨ k = 1 := by omega
  rcases this with rfl | rfl <;> rfl
/-- A store into a match. -/
theorem brH_put {b g h : Nat} {B : Br} {w w' : World} {H R : Heaplet} (s : Step w H w' (brH b g h B ++ R)) {i j : Nat} (f : Mt → Mt) (v : Value) (hj : j < 4) (hi : i < B.ms.length) (hf : ∀ m, (f m).cells = m.cells.set j v) :
    Step w H (w'.setCell ⟨g, i * 4 + j, none⟩ v) (brH b g h { B with ms := B.ms.modify i f } ++ R) := by
  have s1 := Step.store1 (i := i * 4 + j) v s
  rw [setA, flat4_set _ _ _ f _ hj hi hf] at s1
  unfold brH
  simp only [List.length_modify]
  exact s1
theorem brH_put0 {b g h : Nat} {B : Br} {w w' : World} {H : Heaplet} (s : Step w H w' (brH b g h B)) {i j : Nat} (f : Mt → Mt) (v : Value) (hj : j < 4) (hi : i < B.ms.length) (hf : ∀ m, (f m).cells = m.cells.set j v) :
    Step w H (w'.setCell ⟨g, i * 4 + j, none⟩ v) (brH b g h { B with ms := B.ms.modify i f }) := by
  have := brH_put (R := []) (by rw [List.append_nil]; exact s) f v hj hi hf
  rwa [List.append_nil] at this
theorem call_goes (b : Nat) (args : Array Value) (w : World) : (callFunc 25 args).run Try.prog w = .ok (.enter 25 args) w := by kernel_rfl
theorem goes_at (b g h : Nat) (B : Br) (i N K : Nat) (D : Bool) (w : World) (hw : Own w (brH b g h B)) (hz : ∃ q, q ≤ 5 ∧ B.z = 2 ^ (q + 1)) (hi : i + 1 < B.z) (hN : B.z / 2 + i / 2 = N) (hK : i % 2 = K) (hD : decide (i + 2 < B.z) = D) :
    Calls Try.prog 25 #[pt b, .int .i64 i] w fun e w' => e = .returned (.tuple #[iv N, iv K, .bool D]) ∧ w = w' := by
  subst hN hK hD; exact goes_any b g h B i w hw hz hi
def WinsPost (b g h : Nat) (B : Br) (i s : Nat) (w : World) (e : Ending) (w' : World) : Prop := e = .returned (.tuple #[]) ∧ Step w (brH b g h B) w' (brH b g h (B.win i s))
theorem next_lt {z i : Nat} (hz : z % 2 = 0) (h : i + 2 < z) : z / 2 + i / 2 + 1 < z := by omega
set_option maxRecDepth 100000 in
theorem wins_any (b g h : Nat) (B : Br) (i s : Nat) (w : World) (hw : Own w (brH b g h B)) (hz : ∃ q, q ≤ 5 ∧ B.z = 2 ^ (q + 1)) (hl : B.ms.length + 1 = B.z) (hi : i < B.ms.length) :
    Calls Try.prog 24 #[pt b, iv i, iv s, .func (.func 25) #[pt b] #[]] w (WinsPost b g h B i s w) := by
  have hz2 : B.z % 2 = 0 ∧ B.z ≤ 64 := by
    obtain ⟨q, h1, h2⟩ := hz
    exact ⟨by rw [h2, Nat.pow_succ]; omega, by rw [h2]; exact Nat.pow_le_pow_right (n := 2) (j := 6) (by omega) (by omega)⟩
  obtain ⟨m, hm⟩ : ∃ m, B.ms[i]? = some m := ⟨_, List.getElem?_eq_getElem hi⟩
  obtain ⟨c0, c1, c2, c3⟩ := cells4 hw.h0
  obtain ⟨m0, m1, m2, m3⟩ := ms_cell hw hm
  have fg := fun i => frz_of (i := i) (Own.h1 hw)
  have b1 : (0 : Int) ≤ (i : Int) := by omega
  have b2 : (i : Int) < (B.ms.length : Int) := by omega
  have s1 := brH_put0 (Step.refl hw) (i := i) (j := 2) (fun m => { m with w := s }) (iv s) (by omega) hi (fun m => rfl)
  have e1 : Hid (B.win i s = if i + 2 < B.z then { B with ms := (B.ms.modify i (fun m => { m with w := s })).modify (B.z / 2 + i / 2) (fun m => m.put (i % 2) s) } else { B with ms := B.ms.modify i (fun m => { m with w := s }) }) := by
    show _ = _
    unfold Br.win; split <;> rfl
  generalize hB1 : ({ B with ms := B.ms.modify i (fun m => { m with w := s }) } : Br) = B1 at s1
  have hB1l : B1.ms.length = B.ms.length := by rw [← hB1]; simp
  have hB1z : B1.z = B.z := by rw [← hB1]
  obtain ⟨N, hN⟩ : ∃ N, B.z / 2 + i / 2 = N := ⟨_, rfl⟩
  obtain ⟨K, hK⟩ : ∃ K, i % 2 = K := ⟨_, rfl⟩
  rw [hN, hK] at e1
  have hK2 : K < 2 := by omega
  replace hm := Lib.hid hm
  replace hB1 := Lib.hid hB1
  replace hz := Lib.hid hz
  replace hB1l := Lib.hid hB1l
  replace hB1z := Lib.hid hB1z
  replace hl := Lib.hid hl
  by_cases hlt : i + 2 < B.z
  · have hNl : N < B1.ms.length := by have := next_lt hz2.1 hlt; rw [hB1l.out]; have := hl.out; omega
    obtain ⟨m', hm'⟩ : ∃ m, B1.ms[N]? = some m := ⟨_, List.getElem?_eq_getElem hNl⟩
    have hg := Lib.hid (fun W hW => goes_at b g h B1 i N K true W hW (by rw [hB1z.out]; exact hz.out) (by rw [hB1z.out]; omega) (by rw [hB1z.out]; exact hN) hK (by rw [hB1z.out]; exact decide_eq_true hlt))
    rw [if_pos hlt] at e1
    have hNb : (N : Int) < (B1.ms.length : Int) := by omega
    have hNb0 : (0 : Int) ≤ (N : Int) := by omega
    have hKb : (K : Int) < 2 := by omega
    have hKb0 : (0 : Int) ≤ (K : Int) := by omega
    replace hN := Lib.hid hN
    replace hK := Lib.hid hK
    go_enter Try.func24, Try.ntmps24
    go_wp2_with fail
    clear c0 c1 c2 c3 m0 m1 m2 m3 fg b1 b2
    refine Step.genC s1 ?_
    intro W s1
    refine (hg.out _ s1.own).mono ?_
    rintro e w' ⟨rfl, rfl⟩
    obtain ⟨c0, c1, c2, c3⟩ := cells4 s1.own.h0
    obtain ⟨m0, m1, m2, m3⟩ := ms_cell s1.own hm'
    have fg := fun i => frz_of (i := i) (Own.h1 s1.own)
    have s2 := brH_put0 s1 (i := N) (j := K) (fun m => m.put K s) (iv s) (by omega) hNl (put_cells K s hK2)
    obtain ⟨x, hx⟩ : ∃ x, W.cell? ⟨g, N * 4 + K, none⟩ = some x := by
      have hK01 : K = 0 ∨ K = 1 := by omega
      rcases hK01 with rfl | rfl
      · exact ⟨_, m0⟩
      · exact ⟨_, m1⟩
    replace hm' := Lib.hid hm'
    go_wp2_with fail
    go_end0
    refine ⟨rfl, ?_⟩
    rw [← hB1.out] at s2
    rw [e1.out]; exact s2
  · have hg := Lib.hid (fun W hW => goes_at b g h B1 i N K false W hW (by rw [hB1z.out]; exact hz.out) (by rw [hB1z.out]; have := hl.out; omega) (by rw [hB1z.out]; exact hN) hK (by rw [hB1z.out]; exact decide_eq_false hlt))
    rw [if_neg hlt] at e1
    replace hN := Lib.hid hN
    replace hK := Lib.hid hK
    go_enter Try.func24, Try.ntmps24
    go_wp2_with fail
    refine (hg.out _ s1.own).mono ?_
    rintro e w' ⟨rfl, rfl⟩
    go_wp2_with fail
    go_end0
    refine ⟨rfl, ?_⟩
    rw [e1.out, hB1.out]; exact s1
end Go.Proofs.Ytdkjgkbddehaiaa
