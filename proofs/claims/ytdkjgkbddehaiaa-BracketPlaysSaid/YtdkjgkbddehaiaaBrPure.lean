/- The bracket as plain lists: the program's state, its moves, and the recursion that says who wins what. -/
import Derived.Test.YtdkjgkbddehaiaaSeedA
namespace Go.Proofs.Ytdkjgkbddehaiaa

structure Mt where
  s0 : Nat
  s1 : Nat
  w : Nat
  bye : Bool
structure Br where
  n : Nat
  z : Nat
  ms : List Mt
  out : List Bool
def Mt.seat (m : Mt) (k : Nat) : Nat := if k = 0 then m.s0 else m.s1
def Mt.put (m : Mt) (k s : Nat) : Mt := if k = 0 then { m with s0 := s } else { m with s1 := s }
def Br.win (B : Br) (i s : Nat) : Br :=
  { B with ms := if i + 2 < B.z then (B.ms.modify i (fun m => { m with w := s })).modify (B.z / 2 + i / 2) (fun m => m.put (i % 2) s) else B.ms.modify i (fun m => { m with w := s }) }
def laidN (l : List Nat) (k : Nat) : List Mt := (List.range (l.length - 1)).map fun i => if i < k then ⟨l.getD (2 * i) 0, l.getD (2 * i + 1) 0, 0, false⟩ else ⟨0, 0, 0, false⟩
def Br.byeAt (B : Br) (i : Nat) : Br :=
  match B.ms[i]? with
  | some m => if m.s0 = 0 ∨ m.s1 = 0 then Br.win { B with ms := B.ms.modify i (fun m => { m with bye := true }) } i (max m.s0 m.s1) else B
  | none => B
def newTo (n k : Nat) : Br := (List.range k).foldl Br.byeAt ⟨n, (ordL n).length, laidN (ordL n) ((ordL n).length / 2), List.replicate (n + 1) false⟩
def newB (n : Nat) : Br := newTo n ((ordL n).length / 2)
theorem newTo_succ (n k : Nat) : newTo n (k + 1) = (newTo n k).byeAt k := by simp [newTo, List.range_succ, List.foldl_append]
def Br.ready (B : Br) (k : Nat) : List Nat := (List.range k).filter fun i => match B.ms[i]? with | some m => decide (m.w = 0 ∧ m.s0 ≠ 0 ∧ m.s1 ≠ 0) | none => false
def Br.winner (B : Br) (i : Int) : Nat := if 0 ≤ i then (match B.ms[i.toNat]? with | some m => m.w | none => 0) else 0
def Br.isOut (B : Br) (s : Int) : Bool := if 1 ≤ s ∧ s ≤ B.n then B.out.getD s.toNat false else false
/-- What Report answers, and what is then. -/
def Br.report (B : Br) (i k : Int) : Nat × Br :=
  if 0 ≤ i then
    match B.ms[i.toNat]? with
    | none => (7, B)
    | some m =>
      if k ≠ 0 ∧ k ≠ 1 then (1, B)
      else if m.s0 = 0 ∨ m.s1 = 0 then (15, B)
      else if m.w ≠ 0 then (8, B)
      else (0, { B.win i.toNat (m.seat k.toNat) with out := B.out.set (m.seat (1 - k.toNat)) true })
  else (7, B)

theorem win_n (B : Br) (i s : Nat) : (B.win i s).n = B.n := rfl
theorem win_z (B : Br) (i s : Nat) : (B.win i s).z = B.z := rfl
theorem win_out (B : Br) (i s : Nat) : (B.win i s).out = B.out := rfl
theorem win_len (B : Br) (i s : Nat) : (B.win i s).ms.length = B.ms.length := by unfold Br.win; simp only; split <;> simp
theorem byeAt_keep (B : Br) (i : Nat) : (B.byeAt i).n = B.n ∧ (B.byeAt i).z = B.z ∧ (B.byeAt i).out = B.out ∧ (B.byeAt i).ms.length = B.ms.length := by
  unfold Br.byeAt
  split
  · split
    · exact ⟨rfl, rfl, rfl, by rw [win_len]; simp⟩
    · exact ⟨rfl, rfl, rfl, rfl⟩
  · exact ⟨rfl, rfl, rfl, rfl⟩
theorem newTo_keep (n k : Nat) : (newTo n k).n = n ∧ (newTo n k).z = (ordL n).length ∧ (newTo n k).out = List.replicate (n + 1) false ∧ (newTo n k).ms.length = (ordL n).length - 1 := by
  induction k with
  | zero => exact ⟨rfl, rfl, rfl, by simp [newTo, laidN]⟩
  | succ k ih =>
    rw [newTo_succ]
    obtain ⟨a, b, c, d⟩ := byeAt_keep (newTo n k) k
    exact ⟨a.trans ih.1, b.trans ih.2.1, c.trans ih.2.2.1, d.trans ih.2.2.2⟩
end Go.Proofs.Ytdkjgkbddehaiaa
