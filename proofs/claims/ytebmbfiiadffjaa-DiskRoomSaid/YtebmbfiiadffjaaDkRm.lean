/- Rows that are written to three files of a disk with little room: the plain law. -/
import Derived.Test.YtebmbfiiadffjaaDkKp
import Derived.Test.YtebmbfiiadffjaaDkG
namespace Go.Proofs.Ytebmbfiiadffjaa

structure RmInv (room i : Nat) (k : Dk) : Prop where
  ok : k.Ok
  room : k.room = room
  left : k.left = none
  many : k.L.length ≤ i
theorem rm_start (room : Nat) (h : room ≤ 5000) : RmInv room 0 ⟨room, [], none⟩ := ⟨new_ok (by omega), rfl, rfl, Nat.le_refl _⟩
theorem mem_set {L : List Fl} {nm : Nm} (h : isF L nm = true) (v : List UInt8 × Nat) : (nm, v) ∈ setF L nm v := by
  obtain ⟨_, h2, _⟩ := partF h
  rw [h2]
  exact List.mem_append_right _ (List.mem_cons_self ..)
theorem get_of_mem {L : List Fl} (hs : SortedF L) {nm : Nm} {v : List UInt8 × Nat} (h : (nm, v) ∈ L) : isF L nm = true ∧ getF L nm = v := by
  have hi := (isF_iff hs).2 ⟨_, h, rfl⟩
  have := sortedF_inj hs (isF_mem hi) h rfl
  exact ⟨hi, congrArg Prod.snd this⟩
theorem rd_put {k : Dk} (hk : k.Ok) (nm : Nm) (v : List UInt8 × Nat) : rdN nm { k with L := putF k.L nm v } = (v.1, 0) := by
  have h : SortedF (putF k.L nm v) ∧ (nm, v) ∈ putF k.L nm v := by
    unfold putF
    cases hi : isF k.L nm
    · rw [if_neg (by simp)]
      exact ⟨sorted_ins hk.sorted hi v, (ins_perm k.L nm v).mem_iff.2 (List.mem_cons_self ..)⟩
    · rw [if_pos rfl]
      exact ⟨sorted_set hk.sorted hi v, mem_set hi v⟩
  obtain ⟨h1, h2⟩ := get_of_mem h.1 h.2
  unfold rdN
  rw [if_pos h1, h2]
theorem rd_get (k : Dk) (nm : Nm) : (rdN nm k).1 = (getF k.L nm).1 := by
  unfold rdN
  split
  · rfl
  · rename_i h
    rw [getF_no (by simpa using h)]
theorem used_put {k : Dk} (nm : Nm) (p : List UInt8) : usedF (putF k.L nm ((getF k.L nm).1 ++ p, (getF k.L nm).2)) = usedF k.L + p.length := by
  unfold putF
  cases hi : isF k.L nm
  · rw [if_neg (by simp), used_ins, getF_no hi]; simp; omega
  · rw [if_pos rfl]
    have := used_set hi ((getF k.L nm).1 ++ p, (getF k.L nm).2)
    simp only [List.length_append] at this
    omega
theorem rm_step {room i : Nat} {k : Dk} (h : RmInv room i k) (hi : i < 60) (nm : Nm) (hn : nm.length = 2) (p : List UInt8) :
    (usedF k.L + p.length ≤ room → ∃ k', gateN [nm] (wrI nm p) k = (0, k') ∧ RmInv room (i + 1) k' ∧ rdN nm k' = ((rdN nm k).1 ++ p, 0) ∧ usedF k'.L = usedF k.L + p.length) ∧
    (room < usedF k.L + p.length → gateN [nm] (wrI nm p) k = (6, k) ∧ RmInv room (i + 1) k) := by
  have hm : mayN k [nm] = 0 := by
    unfold mayN
    rw [h.left, if_neg (by simp), if_neg (by simp [badN, hn])]
  have hok := gate_ok h.ok [nm] (wrI nm p) (fun _ => wr_ok h.ok _ (by omega) _)
  refine ⟨fun hf => ?_, fun hf => ?_⟩
  · have hw := wrI_ok (k := k) (nm := nm) (p := p) (by rw [h.room]; omega) (by have := h.many; omega)
    have hg : gateN [nm] (wrI nm p) k = (0, { k with L := putF k.L nm ((getF k.L nm).1 ++ p, (getF k.L nm).2) }) := by
      unfold gateN
      rw [hm, hw]
      simp [didN, h.left]
    rw [hg] at hok
    refine ⟨_, hg, ⟨hok, h.room, h.left, ?_⟩, ?_, used_put nm p⟩
    · simp only [putF]
      have := h.many
      split
      · rw [len_set]; omega
      · rw [len_ins]; omega
    · rw [rd_put h.ok, rd_get]
  · have hw : wrI nm p k = (6, k) := by unfold wrI; rw [if_pos (.inl (by rw [h.room]; exact hf))]
    have hg : gateN [nm] (wrI nm p) k = (6, k) := by
      unfold gateN
      rw [hm, hw]
      simp
    exact ⟨hg, h.ok, h.room, h.left, by have := h.many; omega⟩
end Go.Proofs.Ytebmbfiiadffjaa
