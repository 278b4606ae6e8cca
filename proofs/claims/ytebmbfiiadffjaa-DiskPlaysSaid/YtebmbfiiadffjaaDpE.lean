/- DiskPlays: the steps of a script, as they come in. -/
import Derived.Test.YtebmbfiiadffjaaStruct
import Derived.Test.YtebmbfiiadffjaaDpB
import Derived.Test.YtebmbfiiadffjaaDpC
namespace Go.Proofs.Ytebmbfiiadffjaa
open Go.RowKit
instance : Inhabited Stq := ⟨⟨0, 0, [], [], none, 0, 0, [], 0⟩⟩
def Stq.ok (w : World) (x : Stq) : Prop := x.small ∧ x.big w
theorem list6 {cs : List Value} (h : cs.length = 6) : ∃ x y z u v r, cs = [x, y, z, u, v, r] := by
  match cs, h with
  | [x, y, z, u, v, r], _ => exact ⟨x, y, z, u, v, r, rfl⟩
section
variable {H : Type} {enc : TypeId × Value → H} {P : Program} {w : World} {base : Nat} {held : Bool}
theorem open_str0 {t : TypeId} {fuel : Nat} {v : Value} {d : DataW H} {pl : List MemPlace} (ht : P.underlying t = some .string) (h : DataW.trod enc P w base (fun _ => true) held fuel t [v] = some (d, pl)) (hr : Reached P t d) :
    ∃ l : List UInt8, v = strV l ∧ l.length ≤ 140737488351232 := by
  obtain ⟨s, hc, hx, hs⟩ := DataW.trod_string ht h
  cases hc
  obtain ⟨rfl, _⟩ := Prod.mk.inj hx
  refine ⟨s.data.toList, by cases s; simp, ?_⟩
  have := hr _ (by rw [DataW.weights]; exact List.mem_singleton.2 rfl)
  exact this
theorem i64_max {n : Int} (h : (Lit.int .i64 n).wf = true) : -9223372036854775808 ≤ n ∧ n ≤ 9223372036854775807 := by
  simp [Lit.wf, IntKind.min, IntKind.max, IntKind.bits, IntKind.signed] at h
  omega
theorem open_step3 {T ti ts tb e tu : TypeId} {f0 f1 f2 f3 f4 f5 : Field} {fuel : Nat} {cs : List Value} {d : DataW H} {pl : List MemPlace} (hs : P.underlying T = some (.struct #[f0, f1, f2, f3, f4, f5])) (e0 : f0.type = ti) (e1 : f1.type = ti) (e2 : f2.type = ts) (e3 : f3.type = ts) (e4 : f4.type = tb) (e5 : f5.type = tu)
    (hC : P.cellsOf T = 6) (ho : Deep.oneCellFields P #[f0, f1, f2, f3, f4, f5] = true) (hi : P.underlying ti = some (.int .i64)) (hts : P.underlying ts = some .string) (hu : P.underlying tu = some (.int .u8))
    (ht : P.underlying tb = some (.slice e)) (he : P.underlying e = some (.int .u8)) (ce : P.cellsOf e = 1) (be : P.bytesOf e = 1)
    (h : DataW.trod enc P w base (fun _ => true) held fuel T cs = some (d, pl)) (hr : Reached P T d) : ∃ x : Stq, cs = stqCells x ∧ x.ok w := by
  obtain ⟨hl, hf⟩ := open_struct hs hC ho h hr
  obtain ⟨v0, v1, v2, v3, v4, v5, rfl⟩ := list6 hl
  obtain ⟨n0, d0, q0, t0, r0⟩ := hf 0 f0 _ rfl rfl
  obtain ⟨n1, d1, q1, t1, r1⟩ := hf 1 f1 _ rfl rfl
  obtain ⟨n2, d2, q2, t2, r2⟩ := hf 2 f2 _ rfl rfl
  obtain ⟨n3, d3, q3, t3, r3⟩ := hf 3 f3 _ rfl rfl
  obtain ⟨n4, d4, q4, t4, r4⟩ := hf 4 f4 _ rfl rfl
  obtain ⟨n5, d5, q5, t5, r5⟩ := hf 5 f5 _ rfl rfl
  rw [e0] at t0 r0
  rw [e1] at t1 r1
  rw [e2] at t2 r2
  rw [e3] at t3 r3
  rw [e4] at t4 r4
  rw [e5] at t5 r5
  obtain ⟨k, g0, _, _⟩ := DataW.trod_int hi t0
  obtain ⟨n, g1, _, wn⟩ := DataW.trod_int hi t1
  obtain ⟨a, rfl, la⟩ := open_str0 hts t2 r2
  obtain ⟨b, rfl, lb⟩ := open_str0 hts t3 r3
  obtain ⟨ad, m, c, l, g4, hl4, hll⟩ := open_bytes0 ht he ce be t4 r4
  obtain ⟨z, g5, _, wz⟩ := DataW.trod_int hu t5
  cases g0; cases g1; cases g4; cases g5
  refine ⟨⟨k, n, a, b, ad, m, c, l, UInt8.ofNat z.toNat⟩, ?_, ⟨by simp only; omega, by simp only; omega, ?_⟩, hl4, hll, (i64_max wn).2⟩
  · simp only [stqCells, u8_of_wf wz]
  · have := hl4.1
    simp only
    omega
end
end Go.Proofs.Ytebmbfiiadffjaa
