/- Bits; reports by contracts. -/
import Derived.Test.YtdkjgkbddehaiaaBrT
import Derived.Test.YtdkjgkbddehaiaaPure
namespace Go.Proofs.Ytdkjgkbddehaiaa
open Go.RowKit

theorem and_1023 (x : Int) : bits .and .i64 x 1023 = x % 1024 := by
  show IntKind.i64.wrap ((BitVec.ofInt 64 x &&& BitVec.ofInt 64 1023).toNat : Int) = _
  have h1 : (BitVec.ofInt 64 1023).toNat = 2 ^ 10 - 1 := by decide
  rw [BitVec.toNat_and, h1, Nat.and_two_pow_sub_one_eq_mod, BitVec.toNat_ofInt, IntKind.wrap_i64]
  omega
theorem and_1 (x : Int) : bits .and .i64 x 1 = x % 2 := by
  show IntKind.i64.wrap ((BitVec.ofInt 64 x &&& BitVec.ofInt 64 1).toNat : Int) = _
  have h1 : (BitVec.ofInt 64 1).toNat = 2 ^ 1 - 1 := by decide
  rw [BitVec.toNat_and, h1, Nat.and_two_pow_sub_one_eq_mod, BitVec.toNat_ofInt, IntKind.wrap_i64]
  omega
def TolPost (b g h : Nat) (B B' : Br) (w : World) (e : Ending) (w' : World) : Prop := e = .returned (.int .i64 0) ∧ Step w (brH b g h B) w' (brH b g h B')
theorem report_tol (b g h : Nat) (B : Br) (i k : Nat) (m : Mt) (w : World) (hw : Own w (brH b g h B)) (hok : B.Ok) (hm : B.ms[i]? = some m) (hk : k < 2) (hr : m.rdy = true) :
    Calls Try.prog 13 #[pt b, .int .i64 i, .int .i64 k] w (TolPost b g h B (B.told i k m) w) := by
  have hr' := hr
  simp [Mt.rdy] at hr
  have := report_ok b g h B i k m w hw hok hm (by omega) hr.2.1 hr.2.2 hr.1
  rwa [rep_ok hm hk hr'] at this
def HasPost (b g h : Nat) (B : Br) (w : World) (e : Ending) (w' : World) : Prop := e = .returned (.int .i64 8) ∧ Step w (brH b g h B) w' (brH b g h B)
/-- A match that was told: who won it, who is out of it, and that it is told. -/
theorem told_self {B : Br} (h : B.Inv) {i k : Nat} {m : Mt} (hm : B.ms[i]? = some m) : (B.told i k m).ms[i]? = some { m with w := m.seat k } := by rw [told_get h hm, hm, Option.map_some, if_pos rfl]
theorem told_has (b g h : Nat) (B : Br) (i k : Nat) (m : Mt) (w : World) (hinv : B.Inv) (hm : B.ms[i]? = some m) (hk : k < 2) (hr : m.rdy = true) (hw : Own w (brH b g h (B.told i k m))) :
    Calls Try.prog 13 #[pt b, .int .i64 i, .int .i64 0] w (HasPost b g h (B.told i k m) w) := by
  simp [Mt.rdy] at hr
  have hs := told_self (k := k) hinv hm
  have h0 : m.seat k ≠ 0 := by rcases seat_cases m hk with ⟨e, _⟩ | ⟨e, _⟩ <;> rw [e] <;> omega
  have := report_has b g h (B.told i k m) i 0 { m with w := m.seat k } w hw hs (.inl rfl) hr.2.1 hr.2.2 h0
  rwa [rep_at hs, if_neg (by omega), if_neg (by simp only; omega), if_pos h0] at this
theorem told_winner {B : Br} (h : B.Inv) {i k : Nat} {m : Mt} (hm : B.ms[i]? = some m) : (B.told i k m).winner (i : Int) = m.seat k := winner_at (told_self h hm)
theorem told_out {B : Br} (h : B.Inv) {i k : Nat} {m : Mt} (hm : B.ms[i]? = some m) (hk : k < 2) (hr : m.rdy = true) : (B.told i k m).isOut ((m.seat (1 - k) : Nat) : Int) = true := by
  simp [Mt.rdy] at hr
  have hle := h.ok.le m (List.mem_of_getElem? hm)
  have hol := h.ok.outl
  have h1 : 1 ≤ m.seat (1 - k) ∧ m.seat (1 - k) ≤ B.n := by rcases seat_cases m hk with ⟨_, e⟩ | ⟨_, e⟩ <;> rw [e] <;> omega
  refine isOut_at h1.1 h1.2 ?_
  show (B.out.set (m.seat (1 - k)) true)[_]? = _
  rw [List.getElem?_set, if_pos rfl, if_pos (by omega)]
theorem isOut_get {B : Br} (h : B.Ok) {s : Nat} (h1 : 1 ≤ s) (h2 : s ≤ B.n) : B.isOut (s : Int) = B.out.getD s false := by
  have := h.outl
  rw [isOut_at h1 h2 (List.getElem?_eq_getElem (by omega)), List.getD_eq_getElem?_getD, List.getElem?_eq_getElem (by omega)]; rfl
end Go.Proofs.Ytdkjgkbddehaiaa
