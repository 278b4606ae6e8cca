/- What holds of every bracket that is reached: the tree, and who is left. -/
import Derived.Test.YtdkjgkbddehaiaaBrG
namespace Go.Proofs.Ytdkjgkbddehaiaa

/-- How often a seed stands in a match that is not won. -/
def wt (s : Nat) (m : Mt) : Nat := if m.w = 0 then (if m.s0 = s then 1 else 0) + (if m.s1 = s then 1 else 0) else 0
def Br.champ (B : Br) : Nat := B.winner ((B.ms.length : Int) - 1)
def Br.left (B : Br) (s : Nat) : Nat := (B.ms.map (wt s)).sum + if B.champ = s then 1 else 0
structure Br.Inv (B : Br) : Prop where
  ok : B.Ok
  n1 : 1 ≤ B.n
  /-- A match behind the first round has the winners of two. -/
  tree : ∀ j m, B.ms[j]? = some m → B.z / 2 ≤ j → (∃ x y, B.ms[2 * (j - B.z / 2)]? = some x ∧ B.ms[2 * (j - B.z / 2) + 1]? = some y ∧ m.s0 = x.w ∧ m.s1 = y.w) ∧ (m.w ≠ 0 → m.s0 ≠ 0 ∧ m.s1 ≠ 0)
  leaf : ∀ j m, B.ms[j]? = some m → j < B.z / 2 → ¬ (m.s0 = 0 ∧ m.s1 = 0) ∧ (m.s0 = 0 ∨ m.s1 = 0 → m.w = m.s0 + m.s1)
  won : ∀ m ∈ B.ms, m.w ≠ 0 → m.w = m.s0 ∨ m.w = m.s1
  left : ∀ s, 1 ≤ s → s ≤ B.n → B.left s = if B.out.getD s false = true then 0 else 1

theorem sum_modify (g : Mt → Nat) (f : Mt → Mt) : ∀ (l : List Mt) (i : Nat) (m : Mt), l[i]? = some m → ((l.modify i f).map g).sum + g m = (l.map g).sum + g (f m)
  | [], i, m, h => by simp at h
  | x :: l, 0, m, h => by
    simp at h; subst h
    simp [List.modify_zero_cons]; omega
  | x :: l, i + 1, m, h => by
    have := sum_modify g f l i m (by simpa using h)
    simp [List.modify_succ_cons]; omega
theorem le_sum (g : Mt → Nat) {l : List Mt} {m : Mt} (h : m ∈ l) : g m ≤ (l.map g).sum := by
  induction l with
  | nil => cases h
  | cons x l ih =>
    rcases List.mem_cons.1 h with rfl | h
    · simp
    · have := ih h; simp; omega
theorem champ_at {B : Br} (h : 0 < B.ms.length) {m : Mt} (hm : B.ms[B.ms.length - 1]? = some m) : B.champ = m.w := by
  unfold Br.champ
  rw [show (B.ms.length : Int) - 1 = ((B.ms.length - 1 : Nat) : Int) by omega]
  exact winner_at hm
theorem Br.Ok.half {B : Br} (h : B.Ok) : 2 * (B.z / 2) = B.z ∧ 2 ≤ B.z := by
  obtain ⟨q, _, hq⟩ := h.pow
  have := Nat.one_le_two_pow (n := q)
  rw [hq, Nat.pow_succ]; omega

theorem win_ms (B : Br) (i s : Nat) : (B.win i s).ms = if i + 2 < B.z then (B.ms.modify i (fun m => { m with w := s })).modify (B.z / 2 + i / 2) (fun m => m.put (i % 2) s) else B.ms.modify i (fun m => { m with w := s }) := rfl
/-- A match behind a win. -/
theorem win_get {B : Br} {i s j : Nat} (hz : 2 * (B.z / 2) = B.z) (hi : i + 1 < B.z) : (B.win i s).ms[j]? = (B.ms[j]?).map fun m =>
    if i = j then { m with w := s } else if i + 2 < B.z ∧ B.z / 2 + i / 2 = j then m.put (i % 2) s else m := by
  rw [win_ms]
  split
  · rename_i h
    rw [List.getElem?_modify, List.getElem?_modify]
    cases B.ms[j]? with
    | none => rfl
    | some m =>
      simp only [Option.map_some, Option.map_eq_map]
      congr 1
      by_cases h1 : i = j
      · rw [if_pos h1, if_pos h1, if_neg (by omega)]
      · rw [if_neg h1, if_neg h1]
        by_cases h2 : B.z / 2 + i / 2 = j
        · rw [if_pos h2, if_pos ⟨h, h2⟩]
        · rw [if_neg h2, if_neg (fun x => h2 x.2)]
  · rename_i h
    rw [List.getElem?_modify]
    cases B.ms[j]? with
    | none => rfl
    | some m =>
      simp only [Option.map_some, Option.map_eq_map]
      congr 1
      by_cases h1 : i = j
      · rw [if_pos h1, if_pos h1]
      · rw [if_neg h1, if_neg h1, if_neg (fun x => h x.1)]

/-- What a report that is taken makes. -/
def Br.told (B : Br) (i k : Nat) (m : Mt) : Br := { B.win i (m.seat k) with out := B.out.set (m.seat (1 - k)) true }
theorem rep_ok {B : Br} {i k : Nat} {m : Mt} (hm : B.ms[i]? = some m) (hk : k < 2) (hr : m.rdy = true) : B.report i k = (0, B.told i k m) := by
  simp [Mt.rdy] at hr
  rw [rep_at hm, if_neg (by omega), if_neg (by omega), if_neg (by omega)]
  rfl
theorem seat_cases (m : Mt) {k : Nat} (hk : k < 2) : (m.seat k = m.s0 ∧ m.seat (1 - k) = m.s1) ∨ (m.seat k = m.s1 ∧ m.seat (1 - k) = m.s0) := by
  have : k = 0 ∨ k = 1 := by omega
  rcases this with rfl | rfl
  · exact .inl ⟨rfl, rfl⟩
  · exact .inr ⟨rfl, rfl⟩
theorem put_s (m : Mt) (k s : Nat) : (m.put k s).w = m.w ∧ (m.put k s).s0 = (if k = 0 then s else m.s0) ∧ (m.put k s).s1 = (if k = 0 then m.s1 else s) := by
  unfold Mt.put; split <;> simp

theorem told_ok {B : Br} (h : B.Ok) {i k : Nat} {m : Mt} (hm : B.ms[i]? = some m) (hk : k < 2) : (B.told i k m).Ok := by
  have hle := h.le m (List.mem_of_getElem? hm)
  have hs : m.seat k ≤ B.n := by rcases seat_cases m hk with ⟨e, _⟩ | ⟨e, _⟩ <;> rw [e] <;> omega
  have hi := (List.getElem?_eq_some_iff.1 hm).1
  refine ⟨h.pow, ?_, ?_, h.n64, fun x hx => ?_⟩
  · show (B.win i _).ms.length + 1 = B.z
    rw [win_len]; exact h.len
  · show (B.out.set _ _).length = B.n + 1
    rw [List.length_set]; exact h.outl
  · obtain ⟨j, hj, e⟩ := List.mem_iff_getElem.1 hx
    have hx' : (B.told i k m).ms[j]? = some x := by rw [List.getElem?_eq_getElem hj, e]
    rw [show (B.told i k m).ms = (B.win i (m.seat k)).ms from rfl, win_get h.half.1 (by have := h.len; omega)] at hx'
    obtain ⟨y, hy, rfl⟩ := Option.map_eq_some_iff.1 hx'
    have hyl := h.le y (List.mem_of_getElem? hy)
    show _ ≤ B.n ∧ _ ≤ B.n ∧ _ ≤ B.n
    split
    · exact ⟨hyl.1, hyl.2.1, hs⟩
    · split
      · obtain ⟨e1, e2, e3⟩ := put_s y (i % 2) (m.seat k)
        rw [e1, e2, e3]
        refine ⟨?_, ?_, hyl.2.2⟩ <;> split <;> omega
      · exact hyl
theorem Br.Inv.parent {B : Br} (h : B.Inv) {i : Nat} {m : Mt} (hm : B.ms[i]? = some m) (hw : m.w = 0) (hi : i + 2 < B.z) :
    ∃ y, B.ms[B.z / 2 + i / 2]? = some y ∧ y.w = 0 ∧ (i % 2 = 0 → y.s0 = 0) ∧ (i % 2 = 1 → y.s1 = 0) ∧ B.z / 2 + i / 2 ≠ i := by
  have hz := h.ok.half
  have hl := h.ok.len
  obtain ⟨y, hy⟩ : ∃ y, B.ms[B.z / 2 + i / 2]? = some y := ⟨_, List.getElem?_eq_getElem (by omega)⟩
  obtain ⟨⟨x1, x2, h1, h2, e1, e2⟩, h3⟩ := h.tree _ _ hy (by omega)
  have h4 : i % 2 = 0 → y.s0 = 0 := fun h0 => by
    rw [show 2 * (B.z / 2 + i / 2 - B.z / 2) = i by omega, hm] at h1
    cases h1; rw [e1]; exact hw
  have h5 : i % 2 = 1 → y.s1 = 0 := fun h0 => by
    rw [show 2 * (B.z / 2 + i / 2 - B.z / 2) + 1 = i by omega, hm] at h2
    cases h2; rw [e2]; exact hw
  refine ⟨y, hy, ?_, h4, h5, by omega⟩
  rcases Nat.eq_zero_or_pos y.w with h6 | h6
  · exact h6
  · have := h3 (by omega)
    rcases Nat.mod_two_eq_zero_or_one i with h7 | h7
    · exact absurd (h4 h7) this.1
    · exact absurd (h5 h7) this.2
theorem told_get {B : Br} (h : B.Inv) {i k j : Nat} {m : Mt} (hm : B.ms[i]? = some m) : (B.told i k m).ms[j]? = (B.ms[j]?).map fun x =>
    if i = j then { x with w := m.seat k } else if i + 2 < B.z ∧ B.z / 2 + i / 2 = j then x.put (i % 2) (m.seat k) else x :=
  win_get h.ok.half.1 (by have := (List.getElem?_eq_some_iff.1 hm).1; have := h.ok.len; omega)
theorem told_w {B : Br} (h : B.Inv) {i k j : Nat} {m x : Mt} (hm : B.ms[i]? = some m) (hx : B.ms[j]? = some x) (hij : i ≠ j) : ∃ x', (B.told i k m).ms[j]? = some x' ∧ x'.w = x.w := by
  rw [told_get h hm, hx, Option.map_some, if_neg hij]
  refine ⟨_, rfl, ?_⟩
  split
  · exact (put_s _ _ _).1
  · rfl
theorem told_tree {B : Br} (h : B.Inv) {i k : Nat} {m : Mt} (hm : B.ms[i]? = some m) (hk : k < 2) (hr : m.rdy = true) (j : Nat) (m' : Mt) (hj : (B.told i k m).ms[j]? = some m') (hjz : B.z / 2 ≤ j) :
    (∃ x y, (B.told i k m).ms[2 * (j - B.z / 2)]? = some x ∧ (B.told i k m).ms[2 * (j - B.z / 2) + 1]? = some y ∧ m'.s0 = x.w ∧ m'.s1 = y.w) ∧ (m'.w ≠ 0 → m'.s0 ≠ 0 ∧ m'.s1 ≠ 0) := by
  have hz := h.ok.half
  have hl := h.ok.len
  simp [Mt.rdy] at hr
  have hj2 := hj
  rw [told_get h hm] at hj2
  obtain ⟨y, hy, rfl⟩ := Option.map_eq_some_iff.1 hj2
  have hjl := (List.getElem?_eq_some_iff.1 hy).1
  have hil := (List.getElem?_eq_some_iff.1 hm).1
  obtain ⟨⟨x1, x2, h1, h2, e1, e2⟩, h3⟩ := h.tree _ _ hy hjz
  by_cases hij : i = j
  · subst hij
    rw [if_pos rfl]
    rw [hm] at hy; cases hy
    obtain ⟨x1', a1, b1⟩ := told_w (k := k) h hm h1 (by omega)
    obtain ⟨x2', a2, b2⟩ := told_w (k := k) h hm h2 (by omega)
    exact ⟨⟨x1', x2', a1, a2, e1.trans b1.symm, e2.trans b2.symm⟩, fun _ => ⟨hr.2.1, hr.2.2⟩⟩
  · rw [if_neg hij]
    by_cases hp : i + 2 < B.z ∧ B.z / 2 + i / 2 = j
    · rw [if_pos hp]
      obtain ⟨y', hy', w0, s0, s1, _⟩ := h.parent hm hr.1 hp.1
      rw [hp.2, hy] at hy'; cases hy'
      obtain ⟨p1, p2, p3⟩ := put_s y (i % 2) (m.seat k)
      have hself : (B.told i k m).ms[i]? = some { m with w := m.seat k } := by rw [told_get h hm, hm, Option.map_some, if_pos rfl]
      refine ⟨?_, fun hw => by rw [p1] at hw; exact absurd w0 hw⟩
      rw [p2, p3]
      rcases Nat.mod_two_eq_zero_or_one i with h7 | h7
      · have c1 : 2 * (j - B.z / 2) = i := by omega
        obtain ⟨x2', a2, b2⟩ := told_w (k := k) h hm h2 (by omega)
        rw [if_pos h7, if_pos h7]
        exact ⟨_, x2', by rw [c1]; exact hself, a2, rfl, e2.trans b2.symm⟩
      · have c1 : 2 * (j - B.z / 2) + 1 = i := by omega
        obtain ⟨x1', a1, b1⟩ := told_w (k := k) h hm h1 (by omega)
        rw [if_neg (by omega), if_neg (by omega)]
        exact ⟨x1', _, a1, by rw [c1]; exact hself, e1.trans b1.symm, rfl⟩
    · rw [if_neg hp]
      have hp' : ¬ (B.z / 2 + i / 2 = j) := fun e => hp ⟨by omega, e⟩
      obtain ⟨x1', a1, b1⟩ := told_w (k := k) h hm h1 (by omega)
      obtain ⟨x2', a2, b2⟩ := told_w (k := k) h hm h2 (by omega)
      exact ⟨⟨x1', x2', a1, a2, e1.trans b1.symm, e2.trans b2.symm⟩, h3⟩
theorem wt_own {s : Nat} {m : Mt} (hw : m.w = 0) : wt s m = (if m.s0 = s then 1 else 0) + (if m.s1 = s then 1 else 0) := by unfold wt; rw [if_pos hw]
theorem wt_won {s : Nat} {m : Mt} (hw : m.w ≠ 0) : wt s m = 0 := by unfold wt; rw [if_neg hw]
theorem told_left {B : Br} (h : B.Inv) {i k : Nat} {m : Mt} (hm : B.ms[i]? = some m) (hk : k < 2) (hr : m.rdy = true) (s : Nat) (s1 : 1 ≤ s) :
    (B.told i k m).left s + (if m.seat (1 - k) = s then 1 else 0) = B.left s := by
  have hz := h.ok.half
  have hl := h.ok.len
  simp [Mt.rdy] at hr
  have hil := (List.getElem?_eq_some_iff.1 hm).1
  have ha : m.seat k ≠ 0 := by rcases seat_cases m hk with ⟨e, _⟩ | ⟨e, _⟩ <;> rw [e] <;> omega
  have S1 := sum_modify (wt s) (fun x => { x with w := m.seat k }) B.ms i m hm
  rw [wt_own hr.1, wt_won (m := { m with w := m.seat k }) ha] at S1
  have hsum : (if m.s0 = s then 1 else 0) + (if m.s1 = s then 1 else 0) = (if m.seat k = s then 1 else 0) + (if m.seat (1 - k) = s then 1 else 0) := by
    rcases seat_cases m hk with ⟨e, e'⟩ | ⟨e, e'⟩ <;> rw [e, e'] <;> omega
  have hlast : B.ms.length - 1 + 2 = B.z := by omega
  obtain ⟨L, hL⟩ : ∃ L, B.ms[B.ms.length - 1]? = some L := ⟨_, List.getElem?_eq_getElem (by omega)⟩
  have hch := champ_at (by omega) hL
  have hlen : (B.told i k m).ms.length = B.ms.length := win_len _ _ _
  by_cases hp : i + 2 < B.z
  · obtain ⟨y, hy, w0, y0, y1, hne⟩ := h.parent hm hr.1 hp
    have hy2 : (B.ms.modify i (fun x => { x with w := m.seat k }))[B.z / 2 + i / 2]? = some y := by rw [List.getElem?_modify, hy]; simp only [Option.map_eq_map, Option.map_some]; rw [if_neg (Ne.symm hne)]
    have S2 := sum_modify (wt s) (fun x => x.put (i % 2) (m.seat k)) _ _ y hy2
    obtain ⟨p1, p2, p3⟩ := put_s y (i % 2) (m.seat k)
    rw [wt_own w0, wt_own (p1.trans w0), p2, p3] at S2
    have hms : (B.told i k m).ms = (B.ms.modify i (fun x => { x with w := m.seat k })).modify (B.z / 2 + i / 2) (fun x => x.put (i % 2) (m.seat k)) := by
      show (B.win i (m.seat k)).ms = _
      rw [win_ms, if_pos hp]
    obtain ⟨L', hL', eL⟩ := told_w (k := k) h hm hL (by omega)
    have hch' : (B.told i k m).champ = L'.w := champ_at (by omega) (by rw [hlen]; exact hL')
    unfold Br.left
    rw [hch, hch', eL, hms]
    have hput : (if (if i % 2 = 0 then m.seat k else y.s0) = s then 1 else 0) + (if (if i % 2 = 0 then y.s1 else m.seat k) = s then 1 else 0) = (if y.s0 = s then 1 else 0) + (if y.s1 = s then 1 else 0) + (if m.seat k = s then 1 else 0) := by
      rcases Nat.mod_two_eq_zero_or_one i with h7 | h7
      · rw [if_pos h7, if_pos h7, y0 h7, if_neg (show ¬ (0 = s) by omega)]; omega
      · have h8 : ¬ (i % 2 = 0) := by omega
        rw [if_neg h8, if_neg h8, y1 h7, if_neg (show ¬ (0 = s) by omega)]; omega
    omega
  · have hiL : i = B.ms.length - 1 := by omega
    have hms : (B.told i k m).ms = B.ms.modify i (fun x => { x with w := m.seat k }) := by
      show (B.win i (m.seat k)).ms = _
      rw [win_ms, if_neg hp]
    have hch' : (B.told i k m).champ = m.seat k := by
      have := champ_at (B := B.told i k m) (by omega) (m := { m with w := m.seat k }) (by rw [hlen, ← hiL, told_get h hm, hm, Option.map_some, if_pos rfl])
      exact this
    have hLm : L = m := by rw [← hiL, hm] at hL; exact (Option.some.inj hL).symm
    unfold Br.left
    rw [hch, hch', hLm, hr.1, hms, if_neg (show ¬ (0 = s) by omega)]
    omega
theorem told_inv {B : Br} (h : B.Inv) {i k : Nat} {m : Mt} (hm : B.ms[i]? = some m) (hk : k < 2) (hr : m.rdy = true) : (B.told i k m).Inv := by
  have hz := h.ok.half
  have hl := h.ok.len
  have hr' := hr
  simp [Mt.rdy] at hr
  refine ⟨told_ok h.ok hm hk, h.n1, fun j m' hj hjz => told_tree h hm hk hr' j m' hj hjz, fun j m' hj hjz => ?_, fun m' hm' hw => ?_, fun s s1 s2 => ?_⟩
  · rw [told_get h hm] at hj
    obtain ⟨y, hy, rfl⟩ := Option.map_eq_some_iff.1 hj
    have hjz' : j < B.z / 2 := hjz
    by_cases hij : i = j
    · subst hij
      rw [if_pos rfl]
      rw [hm] at hy; cases hy
      exact ⟨fun x => hr.2.1 x.1, fun x => by rcases x with x | x; exact absurd x hr.2.1; exact absurd x hr.2.2⟩
    · rw [if_neg hij, if_neg (by omega)]
      exact h.leaf j y hy hjz'
  · obtain ⟨j, hj, e⟩ := List.mem_iff_getElem.1 hm'
    have hx' : (B.told i k m).ms[j]? = some m' := by rw [List.getElem?_eq_getElem hj, e]
    rw [told_get h hm] at hx'
    obtain ⟨y, hy, rfl⟩ := Option.map_eq_some_iff.1 hx'
    by_cases hij : i = j
    · subst hij
      rw [hm] at hy; cases hy
      rw [if_pos rfl]
      rcases seat_cases m hk with ⟨e, _⟩ | ⟨e, _⟩
      · exact .inl e
      · exact .inr e
    · rw [if_neg hij] at hw ⊢
      by_cases hp : i + 2 < B.z ∧ B.z / 2 + i / 2 = j
      · rw [if_pos hp] at hw
        obtain ⟨y', hy', w0, _⟩ := h.parent hm hr.1 hp.1
        rw [hp.2, hy] at hy'; cases hy'
        rw [(put_s _ _ _).1] at hw
        exact absurd w0 hw
      · rw [if_neg hp] at hw ⊢
        exact h.won y (List.mem_of_getElem? hy) hw
  · have h1 := told_left h hm hk hr' s s1
    have h2 := h.left s s1 s2
    have hlt : m.seat (1 - k) < B.out.length := by
      have := h.ok.le m (List.mem_of_getElem? hm)
      have := h.ok.outl
      rcases seat_cases m hk with ⟨_, e⟩ | ⟨_, e⟩ <;> rw [e] <;> omega
    have ho : (B.told i k m).out.getD s false = if m.seat (1 - k) = s then true else B.out.getD s false := by
      show (B.out.set (m.seat (1 - k)) true).getD s false = _
      rw [List.getD_eq_getElem?_getD, List.getElem?_set]
      split
      · first | rfl | (rw [if_pos hlt]; rfl)
      · rfl
    rw [ho]
    by_cases e : m.seat (1 - k) = s
    · rw [if_pos e] at h1 ⊢
      have hge : 1 ≤ B.left s := by omega
      rw [h2] at h1 hge
      split at h1
      · omega
      · simp; omega
    · rw [if_neg e] at h1 ⊢
      omega

/-! ## The end -/
theorem ready_mem {B : Br} {j : Nat} : j ∈ B.ready B.ms.length ↔ ∃ m, B.ms[j]? = some m ∧ m.rdy = true := by
  unfold Br.ready
  rw [List.mem_filter, List.mem_range]
  constructor
  · rintro ⟨h1, h2⟩
    rw [List.getElem?_eq_getElem h1] at h2
    exact ⟨_, List.getElem?_eq_getElem h1, h2⟩
  · rintro ⟨m, h1, h2⟩
    have := (List.getElem?_eq_some_iff.1 h1).1
    refine ⟨this, ?_⟩
    rw [h1]; exact h2
theorem all_won {B : Br} (h : B.Inv) (he : B.ready B.ms.length = []) : ∀ (j : Nat) (m : Mt), B.ms[j]? = some m → m.w ≠ 0 := by
  have hz := h.ok.half
  have hl := h.ok.len
  intro j
  induction j using Nat.strongRecOn with
  | _ j ih =>
    intro m hm hw
    have hj := (List.getElem?_eq_some_iff.1 hm).1
    have hn : ¬ (m.s0 ≠ 0 ∧ m.s1 ≠ 0) := fun hs => by
      have : j ∈ B.ready B.ms.length := ready_mem.2 ⟨m, hm, by simp [Mt.rdy]; exact ⟨hw, hs.1, hs.2⟩⟩
      rw [he] at this; cases this
    by_cases hjz : j < B.z / 2
    · obtain ⟨h1, h2⟩ := h.leaf j m hm hjz
      have h3 : m.s0 = 0 ∨ m.s1 = 0 := by omega
      have := h2 h3
      omega
    · obtain ⟨⟨x, y, a, b, e1, e2⟩, _⟩ := h.tree j m hm (by omega)
      have c1 := ih _ (by omega) x a
      have c2 := ih _ (by omega) y b
      rw [← e1] at c1; rw [← e2] at c2
      exact hn ⟨c1, c2⟩
theorem champ_zero {B : Br} (h : B.Inv) {j : Nat} {m : Mt} (hm : B.ms[j]? = some m) (hw : m.w = 0) : B.champ = 0 := by
  have hz := h.ok.half
  have hl := h.ok.len
  have key : ∀ d j m, B.ms[j]? = some m → m.w = 0 → B.z - j = d → B.champ = 0 := by
    intro d
    induction d using Nat.strongRecOn with
    | _ d ih =>
      intro j m hm hw hd
      have hj := (List.getElem?_eq_some_iff.1 hm).1
      by_cases hp : j + 2 < B.z
      · obtain ⟨y, hy, w0, _, _, hne⟩ := h.parent hm hw hp
        exact ih (B.z - (B.z / 2 + j / 2)) (by omega) _ y hy w0 rfl
      · have : j = B.ms.length - 1 := by omega
        rw [this] at hm
        rw [champ_at (by omega) hm]; exact hw
  exact key _ j m hm hw rfl
theorem end_out {B : Br} (h : B.Inv) (he : B.ready B.ms.length = []) : 1 ≤ B.champ ∧ B.champ ≤ B.n ∧ ∀ s, 1 ≤ s → s ≤ B.n → (B.out.getD s false = true ↔ s ≠ B.champ) := by
  have hz := h.ok.half
  have hl := h.ok.len
  have haw := all_won h he
  obtain ⟨L, hL⟩ : ∃ L, B.ms[B.ms.length - 1]? = some L := ⟨_, List.getElem?_eq_getElem (by omega)⟩
  have hch := champ_at (by omega) hL
  have h1 := haw _ _ hL
  have h2 := h.ok.le L (List.mem_of_getElem? hL)
  refine ⟨by omega, by omega, fun s s1 s2 => ?_⟩
  have h3 := h.left s s1 s2
  have h4 : (B.ms.map (wt s)).sum = 0 := by
    have : ∀ l : List Mt, (∀ m ∈ l, m.w ≠ 0) → (l.map (wt s)).sum = 0 := by
      intro l hl
      induction l with
      | nil => rfl
      | cons x l ih =>
        rw [List.map_cons, List.sum_cons, wt_won (hl x (List.mem_cons_self ..)), ih fun m hm => hl m (List.mem_cons_of_mem _ hm)]
    refine this _ fun m hm => ?_
    obtain ⟨j, hj, rfl⟩ := List.mem_iff_getElem.1 hm
    exact haw j _ (List.getElem?_eq_getElem hj)
  unfold Br.left at h3
  rw [h4] at h3
  by_cases e : B.champ = s
  · rw [if_pos e] at h3
    constructor
    · intro ho; rw [if_pos ho] at h3; omega
    · intro hn; exact absurd e.symm hn
  · rw [if_neg e] at h3
    constructor
    · intro _; exact Ne.symm e
    · intro _
      cases ho : B.out.getD s false
      · rw [ho] at h3; simp at h3
      · rfl
/-- How many of the first k seeds are out. -/
def Br.outs (B : Br) (k : Nat) : Nat := (List.range k).countP fun s => B.out.getD (s + 1) false
theorem outs_succ (B : Br) (k : Nat) : B.outs (k + 1) = B.outs k + if B.out.getD (k + 1) false = true then 1 else 0 := by
  unfold Br.outs
  rw [List.range_succ, List.countP_append]
  simp [List.countP_cons]
theorem outs_le (B : Br) (k : Nat) : B.outs k ≤ k := by
  unfold Br.outs; exact Nat.le_trans List.countP_le_length (by simp)
theorem outs_told {B : Br} (h : B.Inv) {i k : Nat} {m : Mt} (hm : B.ms[i]? = some m) (hk : k < 2) (hr : m.rdy = true) : (B.told i k m).outs B.n = B.outs B.n + 1 := by
  simp [Mt.rdy] at hr
  have hle := h.ok.le m (List.mem_of_getElem? hm)
  have hol := h.ok.outl
  obtain ⟨l, hl⟩ : ∃ l, m.seat (1 - k) = l := ⟨_, rfl⟩
  have hl1 : 1 ≤ l ∧ l ≤ B.n := by rcases seat_cases m hk with ⟨_, e⟩ | ⟨_, e⟩ <;> rw [← hl, e] <;> omega
  have hw := le_sum (wt l) (List.mem_of_getElem? hm)
  have hwl : 1 ≤ wt l m := by
    rw [wt_own hr.1]
    rcases seat_cases m hk with ⟨_, e⟩ | ⟨_, e⟩ <;> rw [hl] at e <;> rw [← e] <;> simp <;> omega
  have hf : B.out.getD l false = false := by
    have h2 := h.left l hl1.1 hl1.2
    cases ho : B.out.getD l false
    · rfl
    · rw [ho, if_pos rfl] at h2
      unfold Br.left at h2
      omega
  have ho : ∀ s, (B.told i k m).out.getD s false = if l = s then true else B.out.getD s false := by
    intro s
    show (B.out.set (m.seat (1 - k)) true).getD s false = _
    rw [hl, List.getD_eq_getElem?_getD, List.getElem?_set]
    split
    · rw [if_pos (by omega)]; rfl
    · rfl
  have key : ∀ j, (B.told i k m).outs j = B.outs j + if l ≤ j then 1 else 0 := by
    intro j
    induction j with
    | zero => rw [if_neg (by omega)]; rfl
    | succ j ih =>
      rw [outs_succ, outs_succ, ih, ho]
      by_cases e : l = j + 1
      · subst e
        rw [if_pos rfl, if_pos rfl, hf, if_neg (by omega), if_pos (Nat.le_refl _)]; simp
      · rw [if_neg e]
        by_cases e2 : l ≤ j
        · rw [if_pos e2, if_pos (show l ≤ j + 1 by omega)]; omega
        · rw [if_neg e2, if_neg (show ¬ l ≤ j + 1 by omega)]; omega
  rw [key, if_pos hl1.2]
theorem outs_end {B : Br} (h : B.Inv) (he : B.ready B.ms.length = []) : B.outs B.n + 1 = B.n := by
  obtain ⟨h1, h2, h3⟩ := end_out h he
  have key : ∀ j, j ≤ B.n → B.outs j + (if B.champ ≤ j then 1 else 0) = j := by
    intro j
    induction j with
    | zero => intro _; rw [if_neg (by omega)]; rfl
    | succ j ih =>
      intro hj
      have ih := ih (by omega)
      have h4 := h3 (j + 1) (by omega) hj
      rw [outs_succ]
      by_cases e : j + 1 = B.champ
      · have : ¬ (B.out.getD (j + 1) false = true) := fun x => (h4.1 x) e
        rw [if_neg this, if_pos (by omega)]
        rw [if_neg (by omega)] at ih
        omega
      · rw [if_pos (h4.2 e)]
        by_cases e2 : B.champ ≤ j
        · rw [if_pos e2] at ih; rw [if_pos (by omega)]; omega
        · rw [if_neg e2] at ih; rw [if_neg (by omega)]; omega
  have := key B.n (Nat.le_refl _)
  rw [if_pos h2] at this; exact this
/-! ## The beginning -/
def treeB (B : Br) : Bool := (List.range B.ms.length).all fun j => match B.ms[j]? with
  | none => true
  | some m => if j < B.z / 2 then !(m.s0 == 0 && m.s1 == 0) && (!(m.s0 == 0 || m.s1 == 0) || m.w == m.s0 + m.s1)
    else (match B.ms[2 * (j - B.z / 2)]?, B.ms[2 * (j - B.z / 2) + 1]? with | some x, some y => m.s0 == x.w && m.s1 == y.w | _, _ => false) && (m.w == 0 || (!(m.s0 == 0) && !(m.s1 == 0)))
def invB (B : Br) : Bool := treeB B && (B.ms.all fun m => m.w == 0 || m.w == m.s0 || m.w == m.s1) && (List.range B.n).all fun s => B.left (s + 1) == if B.out.getD (s + 1) false = true then 0 else 1
theorem inv_of {B : Br} (hok : B.Ok) (hn : 1 ≤ B.n) (h : invB B = true) : B.Inv := by
  simp only [invB, Bool.and_eq_true, List.all_eq_true, Bool.or_eq_true, beq_iff_eq] at h
  obtain ⟨⟨h1, h2⟩, h3⟩ := h
  simp only [treeB, List.all_eq_true, List.mem_range] at h1
  refine ⟨hok, hn, fun j m hm hj => ?_, fun j m hm hj => ?_, fun m hm hw => ?_, fun s s1 s2 => ?_⟩
  · have := h1 j (List.getElem?_eq_some_iff.1 hm).1
    simp only [hm] at this
    rw [if_neg (by omega)] at this
    cases hx : B.ms[2 * (j - B.z / 2)]? with
    | none => simp [hx] at this
    | some x =>
      cases hy : B.ms[2 * (j - B.z / 2) + 1]? with
      | none => simp [hx, hy] at this
      | some y =>
        simp [hx, hy] at this
        exact ⟨⟨x, y, rfl, rfl, this.1.1, this.1.2⟩, fun hw => this.2.resolve_left hw⟩
  · have := h1 j (List.getElem?_eq_some_iff.1 hm).1
    simp only [hm] at this
    rw [if_pos hj] at this
    simp at this
    exact ⟨fun x => by rcases this.1 with h | h; exact h x.1; exact h x.2, fun x => by rcases this.2 with h | h; exact absurd x (by omega); exact h⟩
  · rcases h2 m hm with (h | h) | h
    · exact absurd h hw
    · exact .inl h
    · exact .inr h
  · have := h3 (s - 1) (List.mem_range.2 (by omega))
    rw [show s - 1 + 1 = s by omega] at this
    exact this
theorem newB_inv0 : ((List.range 65).all fun n => n < 2 || invB (newB n)) = true := by decide +kernel
theorem newB_inv {n : Nat} (h1 : 2 ≤ n) (h2 : n ≤ 64) : (newB n).Inv := by
  have h := List.all_eq_true.1 newB_inv0 n (List.mem_range.2 (by omega))
  have h3 : ¬ n < 2 := by omega
  simp only [h3, decide_false, Bool.false_or] at h
  exact inv_of (newB_ok h1 h2) (by rw [show (newB n).n = n from (newTo_keep n _).1]; omega) h
theorem newB_outs {n : Nat} : (newB n).outs (newB n).n = 0 := by
  unfold Br.outs
  rw [List.countP_eq_zero]
  intro s hs
  have : (newB n).out = List.replicate (n + 1) false := (newTo_keep n _).2.2.1
  rw [this]
  simp [List.getD_eq_getElem?_getD, List.getElem?_replicate]
  split <;> simp
end Go.Proofs.Ytdkjgkbddehaiaa
