/- A file that gets another name: the plain law. -/
import Derived.Test.YtebmbfiiadffjaaDkKp
namespace Go.Proofs.Ytebmbfiiadffjaa

theorem lt_xy : (([120] : Nm) < [121]) = True := by simp; decide
theorem lt_xx : (([120] : Nm) < [120]) = False := by simp
theorem lt_yy : (([121] : Nm) < [121]) = False := by simp
theorem lt_yx : (([121] : Nm) < [120]) = False := by simp; decide
def nk (L : List Fl) : Dk := ⟨1048576, L, none⟩
theorem nk_gate (names : List Nm) (hn : names.any badN = false) (op : Dk → Nat × Dk) (L L' : List Fl) (h : op (nk L) = (0, nk L')) : gateN names op (nk L) = (0, nk L') := by
  have hm : mayN (nk L) names = 0 := by unfold mayN nk; simp [hn]
  unfold gateN
  rw [hm, h]
  simp [didN, nk]
theorem nk_gate7 (names : List Nm) (hn : names.any badN = false) (op : Dk → Nat × Dk) (L : List Fl) (h : op (nk L) = (7, nk L)) : gateN names op (nk L) = (7, nk L) := by
  have hm : mayN (nk L) names = 0 := by unfold mayN nk; simp [hn]
  unfold gateN
  rw [hm, h]
  simp
theorem nm1 (a : List UInt8) (h : a.length ≤ 8000) : gateN [[120]] (wrI [120] a) (nk []) = (0, nk [([120], a, 0)]) := nk_gate _ (by decide) _ _ _ (by
  unfold wrI nk
  rw [if_neg (by simp [usedF]; omega)]
  rfl)
theorem nm2 (a : List UInt8) (n : Nat) : gateN [[120]] (syI [120]) (nk [([120], a, n)]) = (0, nk [([120], a, a.length)]) := nk_gate _ (by decide) _ _ _ (by
  unfold syI nk
  rw [if_pos (is_one _ _), get_one, set_one])
theorem nm3 (a b : List UInt8) (n : Nat) (h : a.length + b.length ≤ 8000) : gateN [[120]] (wrI [120] b) (nk [([120], a, n)]) = (0, nk [([120], a ++ b, n)]) := nk_gate _ (by decide) _ _ _ (by
  unfold wrI nk
  rw [if_neg (by simp [usedF]; omega), if_pos (is_one _ _), get_one, set_one])
theorem nm4 (a c : List UInt8) (n : Nat) (h : a.length + c.length ≤ 8000) : gateN [[121]] (wrI [121] c) (nk [([120], a, n)]) = (0, nk [([120], a, n), ([121], c, 0)]) := nk_gate _ (by decide) _ _ _ (by
  have hi : isF [([120], a, n)] [121] = false := by simp [isF, spotN, lt_xy]
  unfold wrI nk
  rw [if_neg (by simp [usedF]; omega)]
  simp [hi, insF, spotN, lt_xy])
theorem nm5 (a c : List UInt8) (n m : Nat) : gateN [[120]] (syI [120]) (nk [([120], a, n), ([121], c, m)]) = (0, nk [([120], a, a.length), ([121], c, m)]) := nk_gate _ (by decide) _ _ _ (by
  have hi : isF [([120], a, n), ([121], c, m)] [120] = true := by simp [isF, spotN, lt_xx]
  have hg : getF [([120], a, n), ([121], c, m)] [120] = (a, n) := by simp [getF, spotN, lt_xx]
  unfold syI nk
  rw [if_pos hi, hg]
  simp [setF, spotN, lt_xx])
theorem nm6 (a c : List UInt8) (n m : Nat) : gateN [[120], [121]] (rnI [120] [121]) (nk [([120], a, n), ([121], c, m)]) = (0, nk [([121], a, n)]) := nk_gate _ (by decide) _ _ _ (by
  have hi : isF [([120], a, n), ([121], c, m)] [120] = true := by simp [isF, spotN, lt_xx]
  have hg : getF [([120], a, n), ([121], c, m)] [120] = (a, n) := by simp [getF, spotN, lt_xx]
  have hd : delF [([120], a, n), ([121], c, m)] [120] = [([121], c, m)] := by unfold delF; rw [hi]; simp [spotN, lt_xx]
  have hd2 : delF [([121], c, m)] [121] = [] := by unfold delF; rw [is_one]; simp [spotN, lt_yy]
  unfold rnI nk
  rw [if_pos hi, hg, hd, hd2]
  simp [insF, spotN])
theorem nm7 (a : List UInt8) (n : Nat) : gateN [[120], [122]] (rnI [120] [122]) (nk [([121], a, n)]) = (7, nk [([121], a, n)]) := nk_gate7 _ (by decide) _ _ (by
  have hi : isF [([121], a, n)] [120] = false := by simp [isF, spotN, lt_yx]
  unfold rnI nk
  rw [if_neg (by rw [hi]; simp)])
theorem xor0 (f : Nat) (l : List UInt8) : xorFrom f 0 l = l := by
  unfold xorFrom
  have : (l.drop f).map (· ^^^ (0 : UInt8)) = l.drop f := by
    conv => rhs; rw [← List.map_id (l.drop f)]
    exact List.map_congr_left fun x _ => by simp
  rw [this, List.take_append_drop]
theorem nm8 (a : List UInt8) (n : Nat) : crN 0 0 (nk [([121], a, n)]) = nk [([121], a.take n, n)] := by
  have hst : stays a.length n 0 = n := by simp [stays]
  unfold crN nk
  simp only [List.map_cons, List.map_nil, crF, hst, xor0]
theorem nm9 (a : List UInt8) (n : Nat) : rdN [121] (nk [([121], a, n)]) = (a, 0) := by
  unfold rdN nk
  rw [if_pos (is_one _ _), get_one]
end Go.Proofs.Ytebmbfiiadffjaa
