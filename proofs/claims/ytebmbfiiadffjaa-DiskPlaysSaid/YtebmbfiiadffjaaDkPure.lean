/- Disks, without a program: files by sorted names, what is done to them, what a crash leaves. -/
import Derived.Test.YtebmbfiiadffjaaBase
namespace Go.Proofs.Ytebmbfiiadffjaa
abbrev Nm := List UInt8
/-- A file: its name, its bytes, how many of them last. -/
abbrev Fl := Nm × List UInt8 × Nat
structure Dk where
  room : Nat
  L : List Fl
  left : Option Nat
deriving DecidableEq
def spotN (L : List Fl) (nm : Nm) : Nat := (L.takeWhile (fun e => decide (e.1 < nm))).length
def isF (L : List Fl) (nm : Nm) : Bool := match L[spotN L nm]? with | some e => e.1 == nm | none => false
def getF (L : List Fl) (nm : Nm) : List UInt8 × Nat := match L[spotN L nm]? with | some e => if e.1 = nm then e.2 else ([], 0) | none => ([], 0)
def usedF (L : List Fl) : Nat := (L.map fun e => e.2.1.length).sum
def setF (L : List Fl) (nm : Nm) (v : List UInt8 × Nat) : List Fl := L.set (spotN L nm) (nm, v)
def insF (L : List Fl) (nm : Nm) (v : List UInt8 × Nat) : List Fl := L.take (spotN L nm) ++ (nm, v) :: L.drop (spotN L nm)
def delF (L : List Fl) (nm : Nm) : List Fl := if isF L nm then L.eraseIdx (spotN L nm) else L
def xorFrom (f : Nat) (t : UInt8) (l : List UInt8) : List UInt8 := l.take f ++ (l.drop f).map (· ^^^ t)
def stays (len n : Nat) (keep : Int) : Nat := n + (max 0 keep).toNat % (len - n + 1)
def crF (keep : Int) (tear : UInt8) (e : Fl) : Fl :=
  let s := stays e.2.1.length e.2.2 keep
  (e.1, xorFrom (max e.2.2 ((s - 1) / 32 * 32)) tear (e.2.1.take s), s)
def badN (nm : Nm) : Bool := decide (nm.length < 1) || decide (64 < nm.length)
def mayN (k : Dk) (names : List Nm) : Nat := if k.left = some 0 then 9 else if names.any badN then 1 else 0
def didN (k : Dk) : Dk := { k with left := k.left.map (· - 1) }
def gateN (names : List Nm) (op : Dk → Nat × Dk) (k : Dk) : Nat × Dk :=
  if mayN k names ≠ 0 then (mayN k names, k) else if (op k).1 = 0 then (0, didN (op k).2) else op k
def wrI (nm : Nm) (p : List UInt8) (k : Dk) : Nat × Dk :=
  if k.room < usedF k.L + p.length ∨ (isF k.L nm = false ∧ 4096 ≤ k.L.length) then (6, k)
  else if isF k.L nm then (0, { k with L := setF k.L nm ((getF k.L nm).1 ++ p, (getF k.L nm).2) })
  else (0, { k with L := insF k.L nm (p, 0) })
def syI (nm : Nm) (k : Dk) : Nat × Dk := if isF k.L nm then (0, { k with L := setF k.L nm ((getF k.L nm).1, (getF k.L nm).1.length) }) else (7, k)
def cuI (nm : Nm) (n : Int) (k : Dk) : Nat × Dk :=
  if isF k.L nm then if n < 0 ∨ ((getF k.L nm).1.length : Int) < n then (1, k) else (0, { k with L := setF k.L nm ((getF k.L nm).1.take n.toNat, min (getF k.L nm).2 n.toNat) }) else (7, k)
def rnI (old nm : Nm) (k : Dk) : Nat × Dk := if isF k.L old then (0, { k with L := if old = nm then k.L else insF (delF (delF k.L old) nm) nm (getF k.L old) }) else (7, k)
def rmI (nm : Nm) (k : Dk) : Nat × Dk := if isF k.L nm then (0, { k with L := delF k.L nm }) else (7, k)
def fuN (n : Int) (k : Dk) : Dk := { k with left := if 0 ≤ n then some n.toNat else none }
def crN (keep : Int) (tear : UInt8) (k : Dk) : Dk := { k with L := k.L.map (crF keep tear), left := none }
def rdN (nm : Nm) (k : Dk) : List UInt8 × Nat := if isF k.L nm then ((getF k.L nm).1, 0) else ([], 7)
def cpN (k : Dk) : Dk := { k with left := none }
def SortedF (L : List Fl) : Prop := L.Pairwise fun x y => x.1 < y.1
structure Dk.Ok (k : Dk) : Prop where
  sorted : SortedF k.L
  used : usedF k.L ≤ k.room
  room : k.room ≤ 1073741824
  many : k.L.length ≤ 4096
  lasts : ∀ e ∈ k.L, e.2.2 ≤ e.2.1.length
  names : ∀ e ∈ k.L, e.1.length ≤ 64

theorem nm_irr (a : Nm) : ¬ a < a := List.lt_irrefl a
theorem nm_tr {a b c : Nm} (h : a < b) (k : b < c) : a < c := List.lt_trans h k
theorem nm_as {a b : Nm} (h : a < b) : ¬ b < a := fun k => nm_irr _ (nm_tr h k)
theorem nm_eq {a b : Nm} (h : ¬ a < b) (k : ¬ b < a) : a = b := List.le_antisymm (List.not_lt.1 k) (List.not_lt.1 h)
theorem tw_spec (nm : Nm) : ∀ (L : List Fl), SortedF L → (∀ e ∈ L.take (spotN L nm), e.1 < nm) ∧ (∀ e ∈ L.drop (spotN L nm), ¬ e.1 < nm) ∧ spotN L nm ≤ L.length
  | [], _ => by simp [spotN]
  | x :: L, h => by
    have h' := List.pairwise_cons.1 h
    obtain ⟨a, b, c⟩ := tw_spec nm L h'.2
    by_cases hx : x.1 < nm
    · have e : spotN (x :: L) nm = spotN L nm + 1 := by simp [spotN, List.takeWhile_cons, hx]
      rw [e]
      refine ⟨?_, by simpa using b, by simp; exact c⟩
      intro y hy
      rw [List.take_succ_cons] at hy
      rcases List.mem_cons.1 hy with rfl | hy
      · exact hx
      · exact a y hy
    · have e : spotN (x :: L) nm = 0 := by simp [spotN, List.takeWhile_cons, hx]
      rw [e]
      refine ⟨by simp, ?_, by simp⟩
      intro y hy
      rw [List.drop_zero] at hy
      rcases List.mem_cons.1 hy with rfl | hy
      · exact hx
      · exact fun hl => hx (nm_tr (h'.1 y hy) hl)
theorem spot_le {L : List Fl} (h : SortedF L) (nm : Nm) : spotN L nm ≤ L.length := (tw_spec nm L h).2.2
/-- A file of that name stands at the spot. -/
theorem isF_at {L : List Fl} {nm : Nm} (h : isF L nm = true) : L[spotN L nm]? = some (nm, getF L nm) := by
  unfold isF at h
  unfold getF
  split at h
  · rename_i e he
    rw [he]
    have := eq_of_beq h
    simp [this]
    rw [← this]
  · cases h
theorem isF_mem {L : List Fl} {nm : Nm} (h : isF L nm = true) : (nm, getF L nm) ∈ L := List.mem_of_getElem? (isF_at h)
theorem isF_no {L : List Fl} (hs : SortedF L) {nm : Nm} (h : isF L nm = false) : ∀ e ∈ L, e.1 ≠ nm := by
  intro e he hne
  obtain ⟨a, b, c⟩ := tw_spec nm L hs
  rw [← List.take_append_drop (spotN L nm) L] at he
  rcases List.mem_append.1 he with he | he
  · exact nm_irr nm (hne ▸ a e he)
  · unfold isF at h
    obtain ⟨j, hj, hje⟩ := List.mem_iff_getElem.1 he
    rw [List.getElem_drop] at hje
    have hlt : spotN L nm < L.length := by rw [List.length_drop] at hj; omega
    rw [List.getElem?_eq_getElem hlt] at h
    simp only [beq_eq_false_iff_ne, ne_eq] at h
    by_cases hj0 : j = 0
    · subst hj0
      simp only [Nat.add_zero] at hje
      exact h (by rw [hje]; exact hne)
    · have h1 := List.pairwise_iff_getElem.1 hs (spotN L nm) (spotN L nm + j) hlt (by rw [List.length_drop] at hj; omega) (by omega)
      rw [hje, hne] at h1
      refine b (L[spotN L nm]) ?_ h1
      rw [List.drop_eq_getElem_cons hlt]; exact List.mem_cons_self ..
theorem isF_iff {L : List Fl} (hs : SortedF L) {nm : Nm} : isF L nm = true ↔ ∃ e ∈ L, e.1 = nm :=
  ⟨fun h => ⟨_, isF_mem h, rfl⟩, fun ⟨e, he, hne⟩ => by
    cases h : isF L nm
    · exact absurd hne (isF_no hs h e he)
    · rfl⟩
theorem sortedF_inj {L : List Fl} (hs : SortedF L) {x y : Fl} (hx : x ∈ L) (hy : y ∈ L) (h : x.1 = y.1) : x = y := by
  obtain ⟨i, hi, rfl⟩ := List.mem_iff_getElem.1 hx
  obtain ⟨j, hj, rfl⟩ := List.mem_iff_getElem.1 hy
  rcases Nat.lt_trichotomy i j with g | g | g
  · exact absurd h (fun e => nm_irr _ (e ▸ List.pairwise_iff_getElem.1 hs i j hi hj g))
  · subst g; rfl
  · exact absurd h (fun e => nm_irr _ (e ▸ List.pairwise_iff_getElem.1 hs j i hj hi g))
/-- The list parted at a file. -/
theorem partF {L : List Fl} {nm : Nm} (h : isF L nm = true) :
    L = L.take (spotN L nm) ++ (nm, getF L nm) :: L.drop (spotN L nm + 1) ∧ (∀ v, setF L nm v = L.take (spotN L nm) ++ (nm, v) :: L.drop (spotN L nm + 1)) ∧ delF L nm = L.take (spotN L nm) ++ L.drop (spotN L nm + 1) := by
  have h1 := isF_at h
  obtain ⟨hi, e⟩ := List.getElem?_eq_some_iff.1 h1
  refine ⟨?_, fun v => ?_, ?_⟩
  · rw [← e, ← List.drop_eq_getElem_cons hi, List.take_append_drop]
  · unfold setF; rw [List.set_eq_take_append_cons_drop, if_pos hi]
  · unfold delF; rw [if_pos h, List.eraseIdx_eq_take_drop_succ]
theorem sorted_swap {A B : List Fl} {x y : Fl} (h : SortedF (A ++ x :: B)) (e : y.1 = x.1) : SortedF (A ++ y :: B) := by
  unfold SortedF at *
  rw [List.pairwise_append] at *
  obtain ⟨h1, h2, h3⟩ := h
  rw [List.pairwise_cons] at *
  refine ⟨h1, ⟨fun z hz => e ▸ h2.1 z hz, h2.2⟩, fun a ha b hb => ?_⟩
  rcases List.mem_cons.1 hb with rfl | hb
  · rw [e]; exact h3 a ha x (List.mem_cons_self ..)
  · exact h3 a ha b (List.mem_cons_of_mem _ hb)
theorem sorted_set {L : List Fl} {nm : Nm} (hs : SortedF L) (h : isF L nm = true) (v : List UInt8 × Nat) : SortedF (setF L nm v) := by
  obtain ⟨h1, h2, _⟩ := partF h
  rw [h2]
  rw [h1] at hs
  exact sorted_swap hs rfl
theorem sorted_del {L : List Fl} (hs : SortedF L) (nm : Nm) : SortedF (delF L nm) := by
  unfold delF
  split
  · exact hs.sublist (List.eraseIdx_sublist ..)
  · exact hs
theorem del_no {L : List Fl} (hs : SortedF L) (nm : Nm) : isF (delF L nm) nm = false := by
  cases h : isF (delF L nm) nm
  · rfl
  · obtain ⟨e, he, hn⟩ := (isF_iff (sorted_del hs nm)).1 h
    cases hi : isF L nm
    · unfold delF at he
      rw [hi] at he
      exact absurd hn (isF_no hs hi e (by simpa using he))
    · obtain ⟨h1, _, h3⟩ := partF hi
      rw [h3] at he
      rw [h1] at hs
      unfold SortedF at hs
      rw [List.pairwise_append, List.pairwise_cons] at hs
      rcases List.mem_append.1 he with he | he
      · have := hs.2.2 e he _ (List.mem_cons_self ..)
        rw [hn] at this
        exact absurd this (nm_irr _)
      · have := hs.2.1.1 e he
        rw [hn] at this
        exact absurd this (nm_irr _)
theorem sorted_ins {L : List Fl} (hs : SortedF L) {nm : Nm} (h : isF L nm = false) (v : List UInt8 × Nat) : SortedF (insF L nm v) := by
  obtain ⟨a, b, c⟩ := tw_spec nm L hs
  have hno := isF_no hs h
  unfold insF
  unfold SortedF at *
  rw [List.pairwise_append, List.pairwise_cons]
  have hd : ∀ e ∈ L.drop (spotN L nm), nm < e.1 := fun e he => by
    have h1 := b e he
    have h2 := hno e (List.mem_of_mem_drop he)
    by_cases h3 : nm < e.1
    · exact h3
    · exact absurd (nm_eq h1 h3) h2
  refine ⟨hs.sublist (List.take_sublist _ _), ⟨hd, hs.sublist (List.drop_sublist _ _)⟩, fun x hx y hy => ?_⟩
  rcases List.mem_cons.1 hy with rfl | hy
  · exact a x hx
  · exact nm_tr (a x hx) (hd y hy)
theorem ins_perm (L : List Fl) (nm : Nm) (v : List UInt8 × Nat) : (insF L nm v).Perm ((nm, v) :: L) := by
  unfold insF
  refine List.perm_middle.trans ?_
  rw [List.take_append_drop]
theorem used_perm {L M : List Fl} (h : L.Perm M) : usedF L = usedF M := (h.map _).sum_nat
theorem used_app (A B : List Fl) : usedF (A ++ B) = usedF A + usedF B := by simp [usedF, List.sum_append]
theorem used_cons (x : Fl) (B : List Fl) : usedF (x :: B) = x.2.1.length + usedF B := by simp [usedF]
theorem used_ins (L : List Fl) (nm : Nm) (v : List UInt8 × Nat) : usedF (insF L nm v) = v.1.length + usedF L := by rw [used_perm (ins_perm L nm v), used_cons]
theorem used_set {L : List Fl} {nm : Nm} (h : isF L nm = true) (v : List UInt8 × Nat) : usedF (setF L nm v) + (getF L nm).1.length = usedF L + v.1.length := by
  obtain ⟨h1, h2, _⟩ := partF h
  rw [h2]
  conv => rhs; rw [h1]
  simp only [used_app, used_cons]
  omega
theorem used_get {L : List Fl} {nm : Nm} (h : isF L nm = true) : (getF L nm).1.length ≤ usedF L := by
  obtain ⟨h1, _, _⟩ := partF h
  have e := congrArg usedF h1
  rw [used_app, used_cons] at e
  simp only at e
  omega
theorem len_set (L : List Fl) (nm : Nm) (v : List UInt8 × Nat) : (setF L nm v).length = L.length := by simp [setF]
theorem len_ins (L : List Fl) (nm : Nm) (v : List UInt8 × Nat) : (insF L nm v).length = L.length + 1 := (ins_perm L nm v).length_eq
theorem del_sub (L : List Fl) (nm : Nm) : (delF L nm).Sublist L := by
  unfold delF
  split
  · exact List.eraseIdx_sublist ..
  · exact List.Sublist.refl _
theorem used_sub {A B : List Fl} (h : A.Sublist B) : usedF A ≤ usedF B := by
  induction h with
  | slnil => exact Nat.le_refl _
  | cons a _ ih => rw [used_cons]; omega
  | cons_cons a _ ih => rw [used_cons, used_cons]; omega
theorem mem_set' {L : List Fl} {nm : Nm} (h : isF L nm = true) {v : List UInt8 × Nat} {e : Fl} (he : e ∈ setF L nm v) : e = (nm, v) ∨ e ∈ L := by
  obtain ⟨h1, h2, _⟩ := partF h
  rw [h2] at he
  rcases List.mem_append.1 he with he | he
  · exact .inr (List.mem_of_mem_take he)
  · rcases List.mem_cons.1 he with he | he
    · exact .inl he
    · exact .inr (List.mem_of_mem_drop he)
theorem mem_ins {L : List Fl} {nm : Nm} {v : List UInt8 × Nat} {e : Fl} (he : e ∈ insF L nm v) : e = (nm, v) ∨ e ∈ L := List.mem_cons.1 ((ins_perm L nm v).mem_iff.1 he)
theorem get_lasts {k : Dk} (h : k.Ok) {nm : Nm} (hi : isF k.L nm = true) : (getF k.L nm).2 ≤ (getF k.L nm).1.length := h.lasts _ (isF_mem hi)

theorem did_ok {k : Dk} (h : k.Ok) : (didN k).Ok := ⟨h.1, h.2, h.3, h.4, h.5, h.6⟩
theorem wr_ok {k : Dk} (h : k.Ok) (nm : Nm) (hn : nm.length ≤ 64) (p : List UInt8) : (wrI nm p k).2.Ok := by
  unfold wrI
  split
  · exact h
  · rename_i hc
    split
    · rename_i hi
      have hu := used_set hi ((getF k.L nm).1 ++ p, (getF k.L nm).2)
      have hl := get_lasts h hi
      refine ⟨sorted_set h.sorted hi _, ?_, h.room, by simpa [len_set] using h.many, fun e he => ?_, fun e he => ?_⟩
      · simp only [List.length_append] at hu ⊢; omega
      · rcases mem_set' hi he with rfl | he
        · simp; omega
        · exact h.lasts e he
      · rcases mem_set' hi he with rfl | he
        · exact hn
        · exact h.names e he
    · rename_i hi
      have hi : isF k.L nm = false := by simpa using hi
      refine ⟨sorted_ins h.sorted hi _, ?_, h.room, ?_, fun e he => ?_, fun e he => ?_⟩
      · have := used_ins k.L nm (p, 0)
        simp only at this ⊢; omega
      · simp only [len_ins]
        have : ¬ 4096 ≤ k.L.length := fun hh => hc (.inr ⟨hi, hh⟩)
        omega
      · rcases mem_ins he with rfl | he
        · simp
        · exact h.lasts e he
      · rcases mem_ins he with rfl | he
        · exact hn
        · exact h.names e he
theorem set_ok {k : Dk} (h : k.Ok) {nm : Nm} (hi : isF k.L nm = true) (v : List UInt8 × Nat) (hv : v.1.length ≤ (getF k.L nm).1.length) (hl : v.2 ≤ v.1.length) : ({ k with L := setF k.L nm v } : Dk).Ok := by
  have hu := used_set hi v
  have hu0 := h.used
  refine ⟨sorted_set h.sorted hi _, by simp only; omega, h.room, by simpa [len_set] using h.many, fun e he => ?_, fun e he => ?_⟩
  · rcases mem_set' hi he with rfl | he
    · exact hl
    · exact h.lasts e he
  · rcases mem_set' hi he with rfl | he
    · exact h.names (nm, getF k.L nm) (isF_mem hi)
    · exact h.names e he
theorem sy_ok {k : Dk} (h : k.Ok) (nm : Nm) : (syI nm k).2.Ok := by
  unfold syI
  split
  · rename_i hi; exact set_ok h hi _ (Nat.le_refl _) (Nat.le_refl _)
  · exact h
theorem cu_ok {k : Dk} (h : k.Ok) (nm : Nm) (n : Int) : (cuI nm n k).2.Ok := by
  unfold cuI
  split
  · rename_i hi
    split
    · exact h
    · have := get_lasts h hi
      refine set_ok h hi _ (by simp; omega) ?_
      simp; omega
  · exact h
theorem sub_ok {k : Dk} (h : k.Ok) {M : List Fl} (hs : M.Sublist k.L) : ({ k with L := M } : Dk).Ok := by
  refine ⟨h.sorted.sublist hs, ?_, h.room, ?_, fun e he => h.lasts e (hs.subset he), fun e he => h.names e (hs.subset he)⟩
  · have := used_sub hs; have := h.used; simp only; omega
  · have := hs.length_le; have := h.many; simp only; omega
theorem rm_ok {k : Dk} (h : k.Ok) (nm : Nm) : (rmI nm k).2.Ok := by
  unfold rmI
  split
  · exact sub_ok h (del_sub _ _)
  · exact h
theorem del_used {L : List Fl} {nm : Nm} (h : isF L nm = true) : usedF (delF L nm) + (getF L nm).1.length = usedF L ∧ (delF L nm).length + 1 = L.length := by
  obtain ⟨h1, _, h3⟩ := partF h
  rw [h3]
  constructor
  · conv => rhs; rw [h1]
    simp only [used_app, used_cons]; omega
  · conv => rhs; rw [h1]
    simp only [List.length_append, List.length_cons]; omega
theorem rn_ok {k : Dk} (h : k.Ok) (old nm : Nm) (hn : nm.length ≤ 64) : (rnI old nm k).2.Ok := by
  unfold rnI
  split
  · rename_i hi
    simp only
    split
    · exact h
    · obtain ⟨u1, l1⟩ := del_used hi
      have s1 := sorted_del h.sorted old
      have s2 := sorted_del s1 nm
      have hs := del_sub (delF k.L old) nm
      have hsub : (delF (delF k.L old) nm).Sublist k.L := hs.trans (del_sub _ _)
      have u2 := used_sub hs
      have l2 := hs.length_le
      have h4 := h.many
      have h5 := h.used
      refine ⟨sorted_ins s2 (del_no s1 nm) _, ?_, h.room, ?_, fun e he => ?_, fun e he => ?_⟩
      · have := used_ins (delF (delF k.L old) nm) nm (getF k.L old)
        simp only at this ⊢; omega
      · simp only [len_ins]; omega
      · rcases mem_ins he with rfl | he
        · exact get_lasts h hi
        · exact h.lasts e (hsub.subset he)
      · rcases mem_ins he with rfl | he
        · exact hn
        · exact h.names e (hsub.subset he)
  · exact h
theorem gate_ok {k : Dk} (h : k.Ok) (names : List Nm) (op : Dk → Nat × Dk) (ho : mayN k names = 0 → (op k).2.Ok) : (gateN names op k).2.Ok := by
  unfold gateN
  split
  · exact h
  · rename_i hm
    have := ho (by omega)
    split
    · exact did_ok this
    · exact this
theorem may_names {k : Dk} {names : List Nm} (h : mayN k names = 0) : ∀ nm ∈ names, 1 ≤ nm.length ∧ nm.length ≤ 64 := by
  unfold mayN at h
  intro nm hm
  split at h
  · cases h
  · split at h
    · cases h
    · rename_i hb
      have hb : names.any badN = false := by simpa using hb
      have := List.any_eq_false.1 hb nm hm
      simp only [badN, Bool.or_eq_true, decide_eq_true_eq, not_or] at this
      omega
theorem fu_ok {k : Dk} (h : k.Ok) (n : Int) : (fuN n k).Ok := ⟨h.1, h.2, h.3, h.4, h.5, h.6⟩
theorem cp_ok {k : Dk} (h : k.Ok) : (cpN k).Ok := ⟨h.1, h.2, h.3, h.4, h.5, h.6⟩
theorem xor_len (f : Nat) (t : UInt8) (l : List UInt8) : (xorFrom f t l).length = l.length := by simp [xorFrom]; omega
theorem stays_le {len n : Nat} (h : n ≤ len) (keep : Int) : n ≤ stays len n keep ∧ stays len n keep ≤ len := by
  unfold stays
  have := Nat.mod_lt (max 0 keep).toNat (show 0 < len - n + 1 by omega)
  omega
theorem cr_ok {k : Dk} (h : k.Ok) (keep : Int) (tear : UInt8) : (crN keep tear k).Ok := by
  have hu : ∀ M : List Fl, (∀ e ∈ M, e.2.2 ≤ e.2.1.length) → usedF (M.map (crF keep tear)) ≤ usedF M := by
    intro M
    induction M with
    | nil => simp
    | cons x M ih =>
      intro hm
      have := ih (fun e he => hm e (List.mem_cons_of_mem _ he))
      rw [List.map_cons, used_cons, used_cons]
      have h1 : (crF keep tear x).2.1.length ≤ x.2.1.length := by simp only [crF, xor_len, List.length_take]; exact Nat.min_le_right _ _
      omega
  refine ⟨?_, Nat.le_trans (hu _ h.lasts) h.used, h.room, by simpa [crN] using h.many, fun e he => ?_, fun e he => ?_⟩
  · unfold SortedF crN
    rw [List.pairwise_map]
    exact h.sorted
  · obtain ⟨x, hx, rfl⟩ := List.mem_map.1 he
    have := (stays_le (h.lasts x hx) keep).2
    simp only [crF, xor_len, List.length_take]
    first
      | exact Nat.le_min.2 ⟨Nat.le_refl _, this⟩
      | (rw [Nat.min_eq_left this]; exact Nat.le_refl _)
  · obtain ⟨x, hx, rfl⟩ := List.mem_map.1 he
    exact h.names x hx
theorem new_ok {room : Nat} (h : room ≤ 1073741824) : (⟨room, [], none⟩ : Dk).Ok := ⟨List.Pairwise.nil, Nat.zero_le _, h, Nat.zero_le _, by simp, by simp⟩
end Go.Proofs.Ytebmbfiiadffjaa
