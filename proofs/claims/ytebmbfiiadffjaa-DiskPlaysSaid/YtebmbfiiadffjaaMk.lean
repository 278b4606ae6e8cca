/- make of a slice: the run, and the same as a law in a region. -/
import Derived.Test.YtebmbfiiadffjaaSl
import Derived.Laws.MakeOwn
namespace Go.Proofs.Ytebmbfiiadffjaa
open Go.RowKit

section
variable {P : Program}
theorem madeCells_one (z : Value) (n : Nat) : madeCells #[z] n = (List.replicate n z).toArray := by
  apply Array.ext
  · simp [madeCells]
  · intro i h1 h2
    simp [madeCells, Nat.mod_one]
theorem run_mk (w : World) {t e k bytes : Nat} {z : Value} (S : SlTy P t e k bytes z) (n c : Nat) (h : n ≤ c) (hb : bytes * c ≤ 281474976710656) (hm : c ≤ maxLen) :
    (Instr.makeSlice t (.int .i64 n) (.int .i64 c)).run P w = .ok (.slice (some ⟨w.heap.size, 0, none⟩) n c) (w.alloc (.cells (madeCells z.cells (c * k)) e)) := by
  obtain ⟨i, hi, hzz⟩ := Option.map_eq_some_iff.1 S.info
  simp only [Prod.mk.injEq] at hzz
  obtain ⟨hz, hs, hbb⟩ := hzz
  have h63 : (c : Int) ≤ 9223372036854775807 := by simp [maxLen] at hm; omega
  have hb' : (i.bytes : Int) * (c : Int) ≤ 281474976710656 := by
    have h : ((i.bytes * c : Nat) : Int) ≤ 281474976710656 := by rw [hbb]; omega
    rwa [Int.natCast_mul] at h
  have hr := run_make (P := P) w t e i z S.under hi hz .i64 .i64 n c (by omega) (by omega) hb' h63
  rwa [Int.toNat_natCast, Int.toNat_natCast, hs] at hr
theorem wp_mk {o : Oper} {a : Act} {K : Act → World → Prop} {Q : Exit → Act → World → Prop} {w : World} {t e k bytes : Nat} {z : Value} (S : SlTy P t e k bytes z) (l c : Operand)
    (ho : o.op = .makeSlice t l c) {N C : Int} (n m : Nat) (hl : a.eval l = .int .i64 N) (hc : a.eval c = .int .i64 C) (hN : N = n) (hC : C = m) (hnm : n ≤ m) (hb : bytes * m ≤ 281474976710656) (hm : m ≤ maxLen)
    (h : K (a.put o.dst (.slice (some ⟨w.heap.size, 0, none⟩) n m)) (w.alloc (.cells (madeCells z.cells (m * k)) e))) : o.wp P a w K Q := by
  subst hN hC
  unfold Oper.wp execOp
  simp only [ho, hl, hc, Sem.run_bind, Sem.run_pure, Result.andThen_ok, run_mk w S n m hnm hb hm]
  exact h
theorem wpList_mk {ops : Array Oper} {rest : List Oper} {o : Oper} {a : Act} {Q : Exit → Act → World → Prop} {w : World} (hgd : o.guard = none) {t e k bytes : Nat} {z : Value} (S : SlTy P t e k bytes z) (l c : Operand)
    (ho : o.op = .makeSlice t l c) {N C : Int} (n m : Nat) (hl : a.eval l = .int .i64 N) (hc : a.eval c = .int .i64 C) (hN : N = n) (hC : C = m) (hnm : n ≤ m) (hb : bytes * m ≤ 281474976710656) (hm : m ≤ maxLen)
    (h : wpList P ops Q rest (a.put o.dst (.slice (some ⟨w.heap.size, 0, none⟩) n m)) (w.alloc (.cells (madeCells z.cells (m * k)) e))) : wpList P ops Q (o :: rest) a w :=
  wpList_plain hgd fun _ hK => wp_mk S l c ho n m hl hc hN hC hnm hb hm (hK _ _ h)
theorem step_mk {ops : Array Oper} {o : Oper} {a : Act} {K : Act → World → Prop} {Q : Exit → Act → World → Prop} {E : Prop} {w : World} (hgd : o.guard = none) {t e k bytes : Nat} {z : Value} (S : SlTy P t e k bytes z) (l c : Operand)
    (ho : o.op = .makeSlice t l c) {N C : Int} (n m : Nat) (hl : a.eval l = .int .i64 N) (hc : a.eval c = .int .i64 C) (hN : N = n) (hC : C = m) (hnm : n ≤ m) (hb : bytes * m ≤ 281474976710656) (hm : m ≤ maxLen)
    (h : K (a.put o.dst (.slice (some ⟨w.heap.size, 0, none⟩) n m)) (w.alloc (.cells (madeCells z.cells (m * k)) e))) : if Region.wanted o (yielded ops a.tmps) = true then Oper.wp P o a w K Q else E := by
  have hw' : Region.wanted o (yielded ops a.tmps) = true := by simp [Region.wanted, hgd]
  rw [if_pos hw']
  exact wp_mk S l c ho n m hl hc hN hC hnm hb hm h
end
end Go.Proofs.Ytebmbfiiadffjaa
