/- DiskPlays: a step, in the pure model. -/
import Derived.Test.YtebmbfiiadffjaaDkA
namespace Go.Proofs.Ytebmbfiiadffjaa
open Go.RowKit
/-- A step of a script, as it lies. -/
structure Stq where
  kind : Int
  n : Int
  a : Nm
  b : Nm
  ba : Option Addr
  bn : Nat
  bc : Nat
  d : List UInt8
  tear : UInt8
def stqCells (x : Stq) : List Value := [ii x.kind, ii x.n, strV x.a, strV x.b, .slice x.ba x.bn x.bc, u8 x.tear]
theorem stq_len (x : Stq) : (stqCells x).length = 6 := rfl
def stepN (x : Stq) (k : Dk) : Dk :=
  if x.kind = 1 then (gateN [x.a] (wrI x.a x.d) k).2
  else if x.kind = 2 then (gateN [x.a] (syI x.a) k).2
  else if x.kind = 3 then (gateN [x.a] (cuI x.a x.n) k).2
  else if x.kind = 4 then (gateN [x.a, x.b] (rnI x.a x.b) k).2
  else if x.kind = 5 then (gateN [x.a] (rmI x.a) k).2
  else if x.kind = 6 then fuN x.n k
  else if x.kind = 7 then crN x.n x.tear k
  else k
theorem step_ok {k : Dk} (h : k.Ok) (x : Stq) : (stepN x k).Ok := by
  unfold stepN
  split
  · exact gate_ok h _ _ fun hm => wr_ok h _ (may_names hm _ (by simp)).2 _
  · split
    · exact gate_ok h _ _ fun _ => sy_ok h _
    · split
      · exact gate_ok h _ _ fun _ => cu_ok h _ _
      · split
        · exact gate_ok h _ _ fun hm => rn_ok h _ _ (may_names hm _ (by simp)).2
        · split
          · exact gate_ok h _ _ fun _ => rm_ok h _
          · split
            · exact fu_ok h _
            · split
              · exact cr_ok h _ _
              · exact h
end Go.Proofs.Ytebmbfiiadffjaa
