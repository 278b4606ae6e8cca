/- Names of segments, without a program. Logs in segments, without a program. -/
import Derived.Test.YtdolbeonpkanpaaGreatDoorMDkPure
import Derived.Lib.ItoaNum
set_option linter.unusedVariables false
set_option linter.unusedSimpArgs false
namespace Go.Proofs.YtdolbeonpkanpaaGreatDoor
open Go.Lib (decDigits)
/-- A number in eight decimal digits, or in as many as it has. -/
def dig8 (n : Nat) : Nm := List.replicate (8 - (decDigits n).length) 48 ++ decDigits n
def nameN (p : Nm) (n : Nat) : Nm := p ++ dig8 n
def isDig (c : UInt8) : Bool := decide (48 ≤ c.toNat) && decide (c.toNat ≤ 57)
/-- Is a name one of a segment? -/
def segN (p s : Nm) : Bool := decide (s.take p.length = p) && decide (s.length = p.length + 8) && (s.drop p.length).all isDig
/-- The number of decimal digits. -/
def numD (l : List UInt8) : Nat := l.foldl (fun n c => n * 10 + (c.toNat - 48)) 0
/-- The number in a segment's name. -/
def numS (p s : Nm) : Nat := numD (s.drop p.length)
theorem dd_small {u : Nat} (h : u < 10) : decDigits u = [UInt8.ofNat (48 + u)] := by rw [decDigits, dif_pos h]
theorem dd_big {u : Nat} (h : ¬ u < 10) : decDigits u = decDigits (u / 10) ++ [UInt8.ofNat (48 + u % 10)] := by rw [decDigits, dif_neg h]
theorem dd_pos (u : Nat) : 1 ≤ (decDigits u).length := by
  by_cases h : u < 10
  · rw [dd_small h]; simp
  · rw [dd_big h]; simp
theorem dig_of {d : Nat} (h : d < 10) : isDig (UInt8.ofNat (48 + d)) = true ∧ (UInt8.ofNat (48 + d)).toNat = 48 + d := by
  have e : (UInt8.ofNat (48 + d)).toNat = 48 + d := by rw [UInt8.toNat_ofNat']; omega
  refine ⟨?_, e⟩
  unfold isDig
  rw [e]
  simp
  omega
theorem dd_all (u : Nat) : ∀ c ∈ decDigits u, isDig c = true := by
  induction u using Nat.strongRecOn with
  | ind u ih =>
    by_cases h : u < 10
    · rw [dd_small h]; intro c hc; rw [List.mem_singleton.1 hc]; exact (dig_of h).1
    · rw [dd_big h]
      intro c hc
      rcases List.mem_append.1 hc with hc | hc
      · exact ih (u / 10) (by omega) c hc
      · rw [List.mem_singleton.1 hc]; exact (dig_of (by omega)).1
theorem numD_snoc (l : List UInt8) (c : UInt8) : numD (l ++ [c]) = numD l * 10 + (c.toNat - 48) := by unfold numD; rw [List.foldl_append]; rfl
theorem numD_dd (u : Nat) : numD (decDigits u) = u := by
  induction u using Nat.strongRecOn with
  | ind u ih =>
    by_cases h : u < 10
    · rw [dd_small h]
      have := (dig_of h).2
      simp only [numD, List.foldl_cons, List.foldl_nil, this]
      omega
    · rw [dd_big h, numD_snoc, ih (u / 10) (by omega), (dig_of (d := u % 10) (by omega)).2]
      omega
theorem numD_zeros (k : Nat) (l : List UInt8) : numD (List.replicate k 48 ++ l) = numD l := by
  induction k with
  | zero => simp
  | succ k ih =>
    rw [List.replicate_succ, List.cons_append]
    rw [← ih]
    unfold numD
    rw [List.foldl_cons]
    rfl
theorem dd_len {u : Nat} (k : Nat) : (decDigits u).length ≤ k + 1 ↔ u < 10 ^ (k + 1) := by
  induction k generalizing u with
  | zero =>
    by_cases h : u < 10
    · rw [dd_small h]; simp; omega
    · rw [dd_big h, List.length_append, List.length_singleton]
      have := dd_pos (u / 10)
      omega
  | succ k ih =>
    by_cases h : u < 10
    · rw [dd_small h]
      have : 10 ^ 1 ≤ 10 ^ (k + 1 + 1) := Nat.pow_le_pow_right (by decide) (by omega)
      simp; omega
    · rw [dd_big h, List.length_append, List.length_singleton]
      have := ih (u := u / 10)
      have h2 : u / 10 < 10 ^ (k + 1) ↔ u < 10 ^ (k + 1 + 1) := by
        rw [Nat.div_lt_iff_lt_mul (by decide), Nat.pow_succ 10 (k + 1)]
      rw [← h2, ← this]
      omega
theorem dig8_len {n : Nat} (h : n < 100000000) : (dig8 n).length = 8 := by
  have := (dd_len (u := n) 7).2 h
  rw [dig8, List.length_append, List.length_replicate]
  omega
theorem dig8_big {n : Nat} (h : 100000000 ≤ n) : 8 < (dig8 n).length := by
  have := (not_congr (dd_len (u := n) 7)).2 (by show ¬ n < 100000000; omega)
  rw [dig8, List.length_append, List.length_replicate]
  omega
theorem dig8_all (n : Nat) : ∀ c ∈ dig8 n, isDig c = true := by
  intro c hc
  rcases List.mem_append.1 hc with hc | hc
  · rw [(List.mem_replicate.1 hc).2]; decide
  · exact dd_all n c hc
theorem numD_dig8 (n : Nat) : numD (dig8 n) = n := by rw [dig8, numD_zeros, numD_dd]
theorem rev_ind {α : Type} {C : List α → Prop} (h0 : C []) (h1 : ∀ l x, C l → C (l ++ [x])) : ∀ l, C l := by
  have : ∀ n (l : List α), l.length = n → C l := by
    intro n
    induction n with
    | zero => intro l h; rw [List.eq_nil_of_length_eq_zero h]; exact h0
    | succ n ih =>
      intro l h
      rcases List.eq_nil_or_concat l with rfl | ⟨l', x, rfl⟩
      · simp at h
      · rw [List.concat_eq_append] at h ⊢
        exact h1 l' x (ih l' (by simpa using h))
  exact fun l => this _ l rfl
theorem numD_lt : ∀ {l : List UInt8}, (∀ c ∈ l, isDig c = true) → numD l < 10 ^ l.length := by
  intro l
  refine rev_ind (C := fun l => (∀ c ∈ l, isDig c = true) → numD l < 10 ^ l.length) (fun _ => by simp [numD]) ?_ l
  · intro l c ih h
    have h1 := ih (fun x hx => h x (List.mem_append_left _ hx))
    have h2 := h c (by simp)
    unfold isDig at h2
    simp only [Bool.and_eq_true, decide_eq_true_eq] at h2
    rw [numD_snoc, List.length_append, List.length_singleton, Nat.pow_succ]
    omega
theorem dec_inj {a b : List UInt8} (hl : a.length = b.length) (ha : ∀ c ∈ a, isDig c = true) (hb : ∀ c ∈ b, isDig c = true) (h : numD a = numD b) : a = b := by
  refine rev_ind (C := fun a => ∀ b : List UInt8, a.length = b.length → (∀ c ∈ a, isDig c = true) → (∀ c ∈ b, isDig c = true) → numD a = numD b → a = b) (fun b hl _ _ _ => (List.eq_nil_of_length_eq_zero hl.symm).symm) ?_ a b hl ha hb h
  · clear hl ha hb h
    intro a x ih b hl ha hb h
    rcases List.eq_nil_or_concat b with rfl | ⟨b, y, rfl⟩
    · simp at hl
    · have hx := ha x (by simp)
      have hy := hb y (by simp)
      unfold isDig at hx hy
      simp only [Bool.and_eq_true, decide_eq_true_eq] at hx hy
      rw [List.concat_eq_append] at hb h hl ⊢
      rw [numD_snoc, numD_snoc] at h
      have e1 : x.toNat = y.toNat := by omega
      have e2 : numD a = numD b := by omega
      have := ih b (by simpa using hl) (fun c hc => ha c (List.mem_append_left _ hc)) (fun c hc => hb c (List.mem_append_left _ hc)) e2
      rw [this, UInt8.toNat_inj.1 e1]
theorem segN_parts {p s : Nm} (h : segN p s = true) : s = p ++ s.drop p.length ∧ (s.drop p.length).length = 8 ∧ ∀ c ∈ s.drop p.length, isDig c = true := by
  unfold segN at h
  simp only [Bool.and_eq_true, decide_eq_true_eq, List.all_eq_true] at h
  obtain ⟨⟨h1, h2⟩, h3⟩ := h
  refine ⟨?_, by rw [List.length_drop]; omega, h3⟩
  conv => lhs; rw [← List.take_append_drop p.length s, h1]
/-- A segment's name is the name of its number, and of no other one. -/
theorem segN_name {p s : Nm} (h : segN p s = true) (n : Nat) : s = nameN p n ↔ numS p s = n := by
  obtain ⟨h1, h2, h3⟩ := segN_parts h
  have hlt := numD_lt h3
  rw [h2] at hlt
  unfold nameN numS
  constructor
  · intro e
    have e2 : s.drop p.length = dig8 n := by rw [e]; simp
    rw [e2, numD_dig8]
  · intro e
    rw [h1]
    congr 1
    refine dec_inj ?_ h3 (dig8_all n) (by rw [e, numD_dig8])
    rw [h2, dig8_len]
    rw [← e]; exact hlt
theorem segN_of (p : Nm) {n : Nat} (h : n < 100000000) : segN p (nameN p n) = true := by
  unfold segN nameN
  simp only [Bool.and_eq_true, decide_eq_true_eq, List.all_eq_true]
  refine ⟨⟨by simp, by rw [List.length_append, dig8_len h]⟩, ?_⟩
  simpa using dig8_all n
theorem numS_of (p : Nm) (n : Nat) : numS p (nameN p n) = n := by
  unfold numS nameN
  rw [List.drop_left, numD_dig8]
theorem nameN_inj {p : Nm} {n m : Nat} (h : nameN p n = nameN p m) : n = m := by
  have := congrArg (numS p) h
  rwa [numS_of, numS_of] at this
end Go.Proofs.YtdolbeonpkanpaaGreatDoor
namespace Go.Proofs.YtdolbeonpkanpaaGreatDoor
/-- A log: its entries; its segments (the first number, how many bytes); how many entries last. -/
structure Lg where
  L : List (List UInt8)
  segs : List (Nat × Nat)
  synced : Nat
  dead : Bool
def lg0 : Lg := ⟨[], [], 0, false⟩
/-- Records that are entries, from a number on; how many bytes they have. -/
def rdRows : List (List UInt8) → Nat → List (List UInt8) × Nat
  | [], _ => ([], 0)
  | q :: qs, n => if (rdNum q).1 = 0 ∧ (rdNum q).2.1 = (n : Int) then ((rdNum q).2.2 :: (rdRows qs (n + 1)).1, q.length + 12 + (rdRows qs (n + 1)).2) else ([], 0)
def rdSeg (b : List UInt8) (n : Nat) : List (List UInt8) × Nat := rdRows (scanN b).1 n
def readN (p : Nm) (k : Dk) (lg : Lg) (s : Nm) : Int × Bool × Lg :=
  if s ≠ nameN p (lg.L.length + 1) then (-1, false, lg)
  else ((rdSeg (rdN s k).1 (lg.L.length + 1)).2, decide ((rdSeg (rdN s k).1 (lg.L.length + 1)).2 = (rdN s k).1.length),
    { lg with L := lg.L ++ (rdSeg (rdN s k).1 (lg.L.length + 1)).1,
              segs := if (rdSeg (rdN s k).1 (lg.L.length + 1)).2 = (rdN s k).1.length ∨ 0 < (rdSeg (rdN s k).1 (lg.L.length + 1)).2 then lg.segs ++ [(lg.L.length + 1, (rdSeg (rdN s k).1 (lg.L.length + 1)).2)] else lg.segs })
def walkN (k : Dk) (p : Nm) : List Nm → Lg → Lg × Option (List Nm × Int)
  | [], lg => (lg, none)
  | s :: r, lg => if (readN p k lg s).2.1 = true then walkN k p r (readN p k lg s).2.2 else ((readN p k lg s).2.2, some (s :: r, (readN p k lg s).1))
def rmAll : List Nm → Dk → Nat × Dk
  | [], k => (0, k)
  | s :: r, k => if (gateN [s] (rmI s) k).1 ≠ 0 then gateN [s] (rmI s) k else rmAll r (gateN [s] (rmI s) k).2
def lastN (s : Nm) (good : Int) (k : Dk) : Nat × Dk := if good ≤ 0 then gateN [s] (rmI s) k else gateN [s] (cuI s good) k
def endsN : List Nm → Int → Dk → Nat × Dk
  | [], _, k => (0, k)
  | s :: r, good, k => if (rmAll r.reverse k).1 ≠ 0 then rmAll r.reverse k else lastN s good (rmAll r.reverse k).2
def syncAll (p : Nm) : List (Nat × Nat) → Dk → Nat × Dk
  | [], k => (0, k)
  | g :: r, k => if (gateN [nameN p g.1] (syI (nameN p g.1)) k).1 ≠ 0 then gateN [nameN p g.1] (syI (nameN p g.1)) k else syncAll p r (gateN [nameN p g.1] (syI (nameN p g.1)) k).2
def segNames (p : Nm) (k : Dk) : List Nm := (k.L.map Prod.fst).filter (segN p)
def endN' (o : Option (List Nm × Int)) (k : Dk) : Nat × Dk := match o with | none => (0, k) | some (ns, good) => endsN ns good k
def openN (p : Nm) (k : Dk) : Nat × Lg × Dk :=
  if (endN' (walkN k p (segNames p k) lg0).2 k).1 ≠ 0 then ((endN' (walkN k p (segNames p k) lg0).2 k).1, lg0, (endN' (walkN k p (segNames p k) lg0).2 k).2)
  else if (syncAll p (walkN k p (segNames p k) lg0).1.segs (endN' (walkN k p (segNames p k) lg0).2 k).2).1 ≠ 0 then
    ((syncAll p (walkN k p (segNames p k) lg0).1.segs (endN' (walkN k p (segNames p k) lg0).2 k).2).1, lg0, (syncAll p (walkN k p (segNames p k) lg0).1.segs (endN' (walkN k p (segNames p k) lg0).2 k).2).2)
  else (0, { (walkN k p (segNames p k) lg0).1 with synced := (walkN k p (segNames p k) lg0).1.L.length }, (syncAll p (walkN k p (segNames p k) lg0).1.segs (endN' (walkN k p (segNames p k) lg0).2 k).2).2)
def lastSeg (lg : Lg) : Nat × Nat := lg.segs.getLastD (0, 0)
def lsyncN (p : Nm) (lg : Lg) (k : Dk) : Nat × Lg × Dk :=
  if lg.dead then (9, lg, k) else if lg.synced = lg.L.length then (0, lg, k)
  else let q := gateN [nameN p (lastSeg lg).1] (syI (nameN p (lastSeg lg).1)) k
    if q.1 ≠ 0 then (q.1, { lg with dead := true }, q.2) else (0, { lg with synced := lg.L.length }, q.2)
def recN (n : Nat) (e : List UInt8) : List UInt8 := frN (numB n ++ e)
/-- An entry is written: into a segment of its own, or the last one. -/
def putEN (p : Nm) (fresh : Bool) (e : List UInt8) (lg : Lg) (k : Dk) : Nat × Nat × Lg × Dk :=
  let n := lg.L.length + 1
  let nm := nameN p (if fresh then n else (lastSeg lg).1)
  let q := gateN [nm] (wrI nm (recN n e)) k
  if q.1 ≠ 0 then (0, q.1, { lg with dead := decide (q.1 ≠ 6) }, q.2)
  else (n, 0, { lg with L := lg.L ++ [e], segs := if fresh then lg.segs ++ [(n, (recN n e).length)] else lg.segs.dropLast ++ [((lastSeg lg).1, (lastSeg lg).2 + (recN n e).length)] }, q.2)
def lappN (p : Nm) (e : List UInt8) (lg : Lg) (k : Dk) : Nat × Nat × Lg × Dk :=
  if lg.dead then (0, 9, lg, k) else if 65526 < e.length then (0, 5, lg, k)
  else if lg.segs = [] then putEN p true e lg k
  else if 512 ≤ (lastSeg lg).2 then
    let z := lsyncN p lg k
    if z.1 ≠ 0 then (0, z.1, z.2.1, z.2.2) else putEN p true e z.2.1 z.2.2
  else putEN p false e lg k
def entN (lg : Lg) (n : Int) : List UInt8 × Nat := if n < 1 ∨ (lg.L.length : Int) < n then ([], 7) else (lg.L.getD (n.toNat - 1) [], 0)
/-- What the walks ask of a log. -/
structure Lg.Ok (lg : Lg) : Prop where
  segs : lg.segs = [] → lg.L = []
  sync : lg.synced ≤ lg.L.length
  many : lg.L.length ≤ 4398046511104
  msegs : lg.segs.length ≤ 4398046511104
  bytes : ∀ g ∈ lg.segs, g.2 ≤ 1073741824 ∧ g.1 ≤ lg.L.length + 1
  ents : ∀ e ∈ lg.L, e.length ≤ 1073741824
/-- What the reference's Append asks besides: the last segment's bytes lie on the disk. -/
def Lg.On (p : Nm) (lg : Lg) (k : Dk) : Prop := lg.segs ≠ [] → (rdN (nameN p (lastSeg lg).1) k).1.length = (lastSeg lg).2
theorem rdVar_suf : ∀ (f i u : Nat) (l : List UInt8), (rdVar f i u l).2.2 = l.drop (l.length - (rdVar f i u l).2.2.length) := by
  intro f
  induction f with
  | zero => intro i u l; simp [rdVar]
  | succ f ih =>
    intro i u l
    cases l with
    | nil => simp [rdVar]
    | cons c l =>
      rw [rdVar]
      split
      · simp
      · split
        · simp
        · have h := ih (i + 1) (u + c.toNat % 128 * 128 ^ i) l
          generalize (rdVar f (i + 1) (u + c.toNat % 128 * 128 ^ i) l).2.2 = r at h
          have hl : r.length ≤ l.length := by rw [h, List.length_drop]; omega
          have e : (c :: l).length - r.length = (l.length - r.length) + 1 := by simp only [List.length_cons]; omega
          rw [e, List.drop_succ_cons]
          exact h
theorem rdNum_suf (l : List UInt8) : (rdNum l).2.2 = l.drop (l.length - (rdNum l).2.2.length) ∧ (rdNum l).2.2.length ≤ l.length := by
  have h := rdVar_suf 10 0 0 l
  refine ⟨h, ?_⟩
  show (rdVar 10 0 0 l).2.2.length ≤ _
  rw [h, List.length_drop]
  omega
theorem rdNum_err {l : List UInt8} (h : (rdNum l).1 ≠ 0) : (rdNum l).2.1 = 0 := by
  unfold rdNum at *
  exact if_neg h
theorem rdRows_len : ∀ (qs : List (List UInt8)) (n : Nat), (rdRows qs n).1.length * 12 ≤ (rdRows qs n).2 ∧ (rdRows qs n).1.length ≤ qs.length
  | [], _ => by simp [rdRows]
  | q :: qs, n => by
    rw [rdRows]
    split
    · have := rdRows_len qs (n + 1)
      simp only [List.length_cons]
      omega
    · simp
theorem scan_le : ∀ (n : Nat) (b : List UInt8), b.length = n → (scanN b).2 ≤ b.length ∧ ((scanN b).1.map fun q => q.length + 12).sum = (scanN b).2 := by
  intro n
  induction n using Nat.strongRecOn with
  | ind n ih =>
    intro b hb
    by_cases h : (decN b).1 = 0
    · rw [scanN_go h]
      obtain ⟨h1, _, _, h2, h3⟩ := decN_ok h
      have hd : (b.drop (decN b).2.2).length < n := by rw [List.length_drop]; omega
      obtain ⟨h4, h5⟩ := ih _ hd _ rfl
      rw [List.length_drop] at h4
      simp only [List.map_cons, List.sum_cons]
      omega
    · rw [scanN_stop h]; simp
theorem rdRows_le : ∀ (qs : List (List UInt8)) (n : Nat), (rdRows qs n).2 ≤ (qs.map fun q => q.length + 12).sum ∧ ∀ e ∈ (rdRows qs n).1, ∃ q ∈ qs, e.length ≤ q.length
  | [], _ => by simp [rdRows]
  | q :: qs, n => by
    rw [rdRows]
    split
    · obtain ⟨h1, h2⟩ := rdRows_le qs (n + 1)
      refine ⟨by simp only [List.map_cons, List.sum_cons]; omega, fun e he => ?_⟩
      rcases List.mem_cons.1 he with rfl | he
      · refine ⟨q, List.mem_cons_self .., ?_⟩
        have : ∀ (f i u : Nat) (l : List UInt8), (rdVar f i u l).2.2.length ≤ l.length := by
          intro f
          induction f with
          | zero => intro i u l; simp [rdVar]
          | succ f ih =>
            intro i u l
            cases l with
            | nil => simp [rdVar]
            | cons c l =>
              rw [rdVar]
              split
              · simp
              · split
                · simp
                · have := ih (i + 1) (u + c.toNat % 128 * 128 ^ i) l
                  simp only [List.length_cons]; omega
        exact this 10 0 0 q
      · obtain ⟨x, hx, hl⟩ := h2 e he
        exact ⟨x, List.mem_cons_of_mem _ hx, hl⟩
    · simp
theorem mem_sum : ∀ {l : List Nat} {x : Nat}, x ∈ l → x ≤ l.sum
  | y :: l, x, h => by
    rw [List.sum_cons]
    rcases List.mem_cons.1 h with rfl | h
    · omega
    · have := mem_sum h; omega
theorem rdSeg_le (b : List UInt8) (n : Nat) : (rdSeg b n).2 ≤ b.length ∧ (rdSeg b n).1.length * 12 ≤ b.length ∧ ∀ e ∈ (rdSeg b n).1, e.length ≤ b.length := by
  obtain ⟨h1, h2⟩ := scan_le _ b rfl
  obtain ⟨h3, h4⟩ := rdRows_le (scanN b).1 n
  have h5 := rdRows_len (scanN b).1 n
  unfold rdSeg
  refine ⟨by omega, by omega, fun e he => ?_⟩
  obtain ⟨q, hq, hl⟩ := h4 e he
  have : q.length + 12 ≤ ((scanN b).1.map fun q => q.length + 12).sum := mem_sum (List.mem_map.2 ⟨q, hq, rfl⟩)
  omega
end Go.Proofs.YtdolbeonpkanpaaGreatDoor
