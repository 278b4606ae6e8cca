/- The program's disk: files found by name; write. -/
import Derived.Test.YtebmbfiiadffjaaDkB
namespace Go.Proofs.Ytebmbfiiadffjaa
open Go.RowKit
attribute [local go_sem ↓] Go.wp_at_zero Go.wp_at_succ

theorem exec_mlen {P : Program} {w : World} {o : Oper} {ev : Operand → Value} (m : Operand) (t : TypeId) (hop : o.op = Op.call { callee := Callee.builtin Builtin.len, args := #[m], argTypes := #[t] }) {mv v : Value} (hm : ev m = mv)
    (hrun : (Builtin.len_ #[t] o.type #[mv]).run P w = .ok v w) : (execOp ev o).run P w = .ok (.value v) w := by
  simp [execOp, hop, resolve, invoke, builtin, hm, hrun, Result.andThen]
theorem zero_file (w : World) : (zeroValue 65).run Try.prog w = .ok (.pointer none) w := by kernel_rfl
theorem perm_cancel {A B : List Fe} {x : Fe} {L l1 l2 : List Fl} (hp : ((A ++ x :: B).map Fe.key).Perm L) (hL : L = l1 ++ x.key :: l2) : ((A ++ B).map Fe.key).Perm (l1 ++ l2) := by
  rw [List.map_append, List.map_cons, hL] at hp
  have h1 := (List.perm_middle.symm.trans hp).trans List.perm_middle
  rw [List.map_append]
  exact h1.cons_inv
theorem perm_put {A B : List Fe} {l1 l2 : List Fl} (h : ((A ++ B).map Fe.key).Perm (l1 ++ l2)) (v : Fl) : (A.map Fe.key ++ v :: B.map Fe.key).Perm (l1 ++ v :: l2) := by
  rw [List.map_append] at h
  exact List.perm_middle.trans ((h.cons v).trans List.perm_middle.symm)
theorem fe_find {X : List Fe} {L : List Fl} {nm : Nm} (hp : (X.map Fe.key).Perm L) (hs : SortedF L) (h : isF L nm = true) :
    ∃ A x B, X = A ++ x :: B ∧ x.nm = nm ∧ (x.d, x.n) = getF L nm ∧ (∀ v, (A.map Fe.key ++ (nm, v) :: B.map Fe.key).Perm (setF L nm v)) ∧ ((A ++ B).map Fe.key).Perm (delF L nm) := by
  have hm := hp.mem_iff.2 (isF_mem h)
  obtain ⟨x, hx, e⟩ := List.mem_map.1 hm
  obtain ⟨A, B, rfl⟩ := List.append_of_mem hx
  obtain ⟨h1, h2, h3⟩ := partF h
  have hc := perm_cancel hp (by rw [e]; exact h1)
  have e1 : x.nm = nm := congrArg Prod.fst e
  have e2 : (x.d, x.n) = getF L nm := congrArg Prod.snd e
  exact ⟨A, x, B, rfl, e1, e2, fun v => by rw [h2]; exact perm_put hc _, by rw [h3]; exact hc⟩
theorem fe_none {X : List Fe} {L : List Fl} {nm : Nm} (hp : (X.map Fe.key).Perm L) (hs : SortedF L) (h : isF L nm = false) : ∀ p ∈ X.map Fe.ent, p.1 ≠ strV nm := by
  intro p hpm e
  obtain ⟨x, hx, rfl⟩ := List.mem_map.1 hpm
  exact isF_no hs h _ (hp.mem_iff.1 (List.mem_map.2 ⟨x, hx, rfl⟩)) (str_inj e)
theorem fe_nodup {X : List Fe} {o : Obj} (hm : MapObj .string o (X.map Fe.ent)) : X.length = (X.map Fe.ent).length := by simp
/-- The heaplet parted at a file. -/
theorem all_part (A : List Fe) (x : Fe) (B : List Fe) : ((A ++ x :: B).flatMap Fe.all).Perm ((x.fb, fobj x.a x.d.length x.c x.n) :: (x.H ++ (A ++ B).flatMap Fe.all)) := by
  rw [List.flatMap_append, List.flatMap_cons, List.flatMap_append]
  refine (List.perm_append_comm_assoc _ _ _).trans ?_
  exact List.Perm.refl _
/-- The lookup of a name. -/
theorem look_yes {r : Nat} {o : Obj} {A B : List Fe} {x : Fe} {w : World} (hm : MapObj .string o ((A ++ x :: B).map Fe.ent)) (hb : w.heap[r]? = some o) : (Instr.lookup 58 (.map (some r)) (strV x.nm) false).run Try.prog w = .ok (pt x.fb) w := by
  have := run_mlookup (P := Try.prog) Try.underlying58 Try.underlying9 hm (k := strV x.nm) (by exact trivial) hb (v := pt x.fb) (by rw [List.map_append, List.map_cons]; exact List.mem_append_right _ (List.mem_cons_self ..)) false
  simpa using this
theorem look_no {r : Nat} {o : Obj} {D : List (Value × Value)} {nm : Nm} {w : World} (hm : MapObj .string o D) (hb : w.heap[r]? = some o) (hno : ∀ p ∈ D, p.1 ≠ strV nm) : (Instr.lookup 58 (.map (some r)) (strV nm) false).run Try.prog w = .ok (.pointer none) w := by
  have := run_mlookup_no (P := Try.prog) Try.underlying58 Try.underlying9 hm (k := strV nm) (by exact trivial) hb (zero_file w) hno false
  simpa using this
end Go.Proofs.Ytebmbfiiadffjaa
