/- Logs that lie whole on a disk, without a program: what Sync and Append make of them. -/
import Derived.Test.YtdolbeonpkanpaaGreatDoorSgT
set_option linter.unusedVariables false
set_option linter.unusedSimpArgs false
namespace Go.Proofs.YtdolbeonpkanpaaGreatDoor
/-- The log and its disk: the groups, and what lasts of them. -/
structure LayS (p : Nm) (lg : Lg) (k : Dk) (gs : List Gr) : Prop where
  d : LayD p k gs
  L : lg.L = gs.flatten
  segs : lg.segs = segsG 1 gs
  live : lg.dead = false
  last : (gs = [] ∧ lg.synced = 0) ∨ ∃ (gs0 : List Gr) (g : Gr) (s : Nat), gs = gs0 ++ [g] ∧ s ≤ g.length ∧ lg.synced = cntG gs0 + s ∧
    fget k.L (nameN p (1 + cntG gs0)) = some (recsN (1 + cntG gs0) g, (recsN (1 + cntG gs0) (g.take s)).length) ∧ ∀ x ∈ filesG p 1 gs0, fget k.L x.1 = some (x.2, x.2.length)
theorem name_ok {k : Dk} (hk : k.Ok) {nm : Nm} (h1 : 1 ≤ nm.length) (hf : isF k.L nm = true) : badN nm = false := by
  obtain ⟨y, hy, rfl⟩ := (isF_iff hk.sorted).1 hf
  exact badN_no h1 (hk.names y hy)
theorem nameN_pos (p : Nm) (n : Nat) : 1 ≤ (nameN p n).length := by
  unfold nameN dig8
  simp only [List.length_append]
  have := dd_pos n
  omega
/-- A sync of a file: done, or the fuse. -/
theorem sy_gen {k : Dk} (hk : k.Ok) {nm : Nm} (hb : badN nm = false) (hf : isF k.L nm = true) :
    (∃ k2, gateN [nm] (syI nm) k = (0, k2) ∧ k2.Ok ∧ k2.left = k.left.map (· - 1) ∧ k2.room = k.room ∧ usedF k2.L = usedF k.L ∧ k2.L.length = k.L.length ∧ (∀ x, rdN x k2 = rdN x k) ∧ fget k2.L nm = (fget k.L nm).map (fun v => (v.1, v.1.length)) ∧ ∀ x, x ≠ nm → fget k2.L x = fget k.L x) ∨
    (k.left = some 0 ∧ gateN [nm] (syI nm) k = (9, k)) := by
  by_cases hl : k.left = some 0
  · refine .inr ⟨hl, ?_⟩
    unfold gateN mayN
    rw [if_pos hl]
    simp
  · refine .inl ?_
    have hm : mayN k [nm] = 0 := by unfold mayN; rw [if_neg hl]; simp [hb]
    have he : syI nm k = (0, { k with L := setF k.L nm ((getF k.L nm).1, (getF k.L nm).1.length) }) := by unfold syI; rw [if_pos hf]
    have hg : gateN [nm] (syI nm) k = (0, didN { k with L := setF k.L nm ((getF k.L nm).1, (getF k.L nm).1.length) }) := by
      unfold gateN
      rw [hm, he]
      simp
    have hok := gsy_ok hk nm
    have hrd := fun x => sy_rd hk nm x
    have hfg := fun x => sy_fget hk nm x
    rw [hg] at hok hrd hfg
    refine ⟨_, hg, hok, rfl, rfl, ?_, ?_, hrd, (hfg nm).2.1 rfl, fun x hx => (hfg x).2.2 hx⟩
    · show usedF (setF k.L nm _) = _
      have := used_set hf ((getF k.L nm).1, (getF k.L nm).1.length)
      simp only at this
      omega
    · show (setF k.L nm _).length = _
      rw [len_set]
/-- A write of a file, where there is room: done, or the fuse. -/
theorem wr_gen {k : Dk} (hk : k.Ok) {nm : Nm} (hb : badN nm = false) (l : List UInt8) (hr : usedF k.L + l.length ≤ k.room) (hn : isF k.L nm = true ∨ k.L.length < 4096) :
    (∃ k2, gateN [nm] (wrI nm l) k = (0, k2) ∧ k2.Ok ∧ k2.left = k.left.map (· - 1) ∧ k2.room = k.room ∧ usedF k2.L = usedF k.L + l.length ∧ k2.L.length ≤ k.L.length + 1 ∧ fget k2.L nm = some ((rdN nm k).1 ++ l, ((fget k.L nm).getD ([], 0)).2) ∧ ∀ x, x ≠ nm → fget k2.L x = fget k.L x) ∨
    (k.left = some 0 ∧ gateN [nm] (wrI nm l) k = (9, k)) := by
  by_cases hl : k.left = some 0
  · refine .inr ⟨hl, ?_⟩
    unfold gateN mayN
    rw [if_pos hl]
    simp
  · refine .inl ?_
    have hm : mayN k [nm] = 0 := by unfold mayN; rw [if_neg hl]; simp [hb]
    have hc : ¬ (k.room < usedF k.L + l.length ∨ (isF k.L nm = false ∧ 4096 ≤ k.L.length)) := by
      rintro (h | ⟨h1, h2⟩)
      · omega
      · rcases hn with hn | hn
        · rw [h1] at hn; cases hn
        · omega
    have hok := gwr_ok hk nm l
    have hfg := fun x => wr_fget hk nm l x
    cases hf : isF k.L nm with
    | true =>
      have he : wrI nm l k = (0, { k with L := setF k.L nm ((getF k.L nm).1 ++ l, (getF k.L nm).2) }) := by unfold wrI; rw [if_neg hc, if_pos hf]
      have hg : gateN [nm] (wrI nm l) k = (0, didN { k with L := setF k.L nm ((getF k.L nm).1 ++ l, (getF k.L nm).2) }) := by
        unfold gateN
        rw [hm, he]
        simp
      rw [hg] at hok hfg
      refine ⟨_, hg, hok, rfl, rfl, ?_, ?_, by rw [hfg, if_pos ⟨rfl, rfl⟩], fun x hx => by rw [hfg, if_neg (fun h => hx h.2)]⟩
      · show usedF (setF k.L nm _) = _
        have := used_set hf ((getF k.L nm).1 ++ l, (getF k.L nm).2)
        simp only [List.length_append] at this
        omega
      · show (setF k.L nm _).length ≤ _
        rw [len_set]; omega
    | false =>
      have he : wrI nm l k = (0, { k with L := insF k.L nm (l, 0) }) := by unfold wrI; rw [if_neg hc, if_neg (by rw [hf]; simp)]
      have hg : gateN [nm] (wrI nm l) k = (0, didN { k with L := insF k.L nm (l, 0) }) := by
        unfold gateN
        rw [hm, he]
        simp
      rw [hg] at hok hfg
      refine ⟨_, hg, hok, rfl, rfl, ?_, ?_, by rw [hfg, if_pos ⟨rfl, rfl⟩], fun x hx => by rw [hfg, if_neg (fun h => hx h.2)]⟩
      · show usedF (insF k.L nm _) = _
        rw [used_ins]; simp only; omega
      · show (insF k.L nm _).length ≤ _
        rw [len_ins]; omega
theorem lastSeg_of {lg : Lg} {gs0 : List Gr} {g : Gr} (h : lg.segs = segsG 1 (gs0 ++ [g])) : lastSeg lg = (1 + cntG gs0, (recsN (1 + cntG gs0) g).length) := by
  unfold lastSeg
  rw [h, segsG_app]
  simp
theorem segsG_nil {n : Nat} {gs : List Gr} : segsG n gs = [] ↔ gs = [] := by cases gs <;> simp [segsG]
theorem cntG_app (gs : List Gr) (g : Gr) : cntG (gs ++ [g]) = cntG gs + g.length := by simp [cntG]
theorem fget_isF {L : List Fl} {nm : Nm} {v : List UInt8 × Nat} (h : fget L nm = some v) : isF L nm = true := (getF_fget h).1
theorem fget_rd {k : Dk} {nm : Nm} {v : List UInt8 × Nat} (h : fget k.L nm = some v) : rdN nm k = (v.1, 0) := by rw [rdN_fget, h]
theorem LayD.of_rd {p : Nm} {k k2 : Dk} {gs : List Gr} (h : LayD p k gs) (hk : k2.Ok) (hr : ∀ x, rdN x k2 = rdN x k) : LayD p k2 gs :=
  ⟨hk, h.ne, h.small, h.cnt, fun x hx => by rw [isF_rd, hr, ← isF_rd]; exact h.has x hx, fun s h1 h2 => h.only s h1 (by rw [isF_rd, ← hr, ← isF_rd]; exact h2)⟩
theorem filesG_ne {p : Nm} {gs0 : List Gr} {n m : Nat} (hc : n + cntG gs0 ≤ m) (hne : ∀ g ∈ gs0, g ≠ []) : ∀ x ∈ filesG p n gs0, x.1 ≠ nameN p m := by
  induction gs0 generalizing n with
  | nil => intro x hx; simp [filesG] at hx
  | cons g gs ih =>
    intro x hx e
    rw [cntG_cons] at hc
    have hg : 0 < g.length := List.length_pos_iff.2 (hne g (List.mem_cons_self ..))
    rw [filesG] at hx
    rcases List.mem_cons.1 hx with rfl | hx
    · have := nameN_inj e; omega
    · exact ih (by omega) (fun y hy => hne y (List.mem_cons_of_mem _ hy)) x hx e
/-- Sync: done, and all lasts; or the fuse. -/
theorem lay_sync {p : Nm} {lg : Lg} {k : Dk} {gs : List Gr} (h : LayS p lg k gs) :
    (∃ lg2 k2, lsyncN p lg k = (0, lg2, k2) ∧ LayS p lg2 k2 gs ∧ lg2.synced = lg.L.length ∧ lg2.L = lg.L ∧ lg2.segs = lg.segs ∧ k2.room = k.room ∧ usedF k2.L = usedF k.L ∧ k2.L.length = k.L.length ∧ (k.left = none → k2.left = none) ∧ (∀ s, segN p s = false → fget k2.L s = fget k.L s)) ∨
    (∃ m, k.left = some m ∧ lsyncN p lg k = (9, { lg with dead := true }, k)) := by
  unfold lsyncN
  rw [h.live]
  simp only [Bool.false_eq_true, if_false]
  by_cases hs : lg.synced = lg.L.length
  · rw [if_pos hs]
    exact .inl ⟨lg, k, rfl, h, hs, rfl, rfl, rfl, rfl, rfl, id, fun _ _ => rfl⟩
  · rw [if_neg hs]
    rcases h.last with ⟨rfl, h0⟩ | ⟨gs0, g, s, rfl, hsg, hsy, hf, hfs⟩
    · exact absurd (by rw [h0, h.L]; rfl) hs
    · have hL := lastSeg_of h.segs
      rw [hL]
      simp only
      have hb := name_ok h.d.dk (nameN_pos p _) (fget_isF hf)
      rcases sy_gen h.d.dk hb (fget_isF hf) with ⟨k2, e, hk2, hl2, hro, hu, hn, hrd, hf1, hf2⟩ | ⟨hl, e⟩
      · rw [e]
        simp only [ne_eq, not_true_eq_false, if_false]
        refine .inl ⟨_, k2, rfl, ⟨h.d.of_rd hk2 hrd, h.L, h.segs, rfl, .inr ⟨gs0, g, g.length, rfl, Nat.le_refl _, ?_, ?_, fun x hx => ?_⟩⟩, rfl, rfl, rfl, hro, hu, hn, fun hl => by rw [hl2, hl]; rfl, fun s hs2 => hf2 s (fun e2 => by rw [e2, segN_of p (by have h5 := h.d.cnt; have h6 := cntG_app gs0 g; omega)] at hs2; cases hs2)⟩
        · show lg.L.length = _
          rw [h.L]
          exact cntG_app gs0 g
        · rw [hf1, hf, List.take_length]; rfl
        · rw [hf2 _ (filesG_ne (Nat.le_refl _) (fun y hy => h.d.ne y (List.mem_append_left _ hy)) x hx)]
          exact hfs x hx
      · rw [e]
        simp only [ne_eq]
        exact .inr ⟨0, hl, rfl⟩
/-- Where all is synced every file lasts whole. -/
theorem LayS.whole {p : Nm} {lg : Lg} {k : Dk} {gs : List Gr} (h : LayS p lg k gs) (hs : lg.synced = lg.L.length) : ∀ x ∈ filesG p 1 gs, fget k.L x.1 = some (x.2, x.2.length) := by
  rcases h.last with ⟨rfl, _⟩ | ⟨gs0, g, s, rfl, hsg, hsy, hf, hfs⟩
  · intro x hx; simp [filesG] at hx
  · intro x hx
    rw [filesG_app] at hx
    rcases List.mem_append.1 hx with hx | hx
    · exact hfs x hx
    · rw [List.mem_singleton.1 hx]
      have h1 : cntG (gs0 ++ [g]) = cntG gs0 + g.length := cntG_app gs0 g
      have h2 : lg.L.length = cntG (gs0 ++ [g]) := by rw [h.L]; rfl
      have h3 : s = g.length := by omega
      rw [hf, h3, List.take_length]
theorem recN_le {n : Nat} (hn : n ≤ 4398046511105) (e : List UInt8) : (recN n e).length ≤ e.length + 22 := by
  have hz : (numB (n : Int)).length ≤ 10 := zig_len (by omega) (by omega)
  rw [recN_len]
  omega
/-- An entry in a file of its own. -/
theorem lay_fresh {p : Nm} {lg : Lg} {k : Dk} {gs : List Gr} (h : LayS p lg k gs) (hs : lg.synced = lg.L.length) (e : List UInt8) (he : e.length ≤ 65526) (hc : cntG gs + 1 < 99999999) (hr : usedF k.L + e.length + 22 ≤ k.room) (hn : k.L.length < 4096) (hp : p.length ≤ 50) :
    (∃ lg2 k2, putEN p true e lg k = (lg.L.length + 1, 0, lg2, k2) ∧ LayS p lg2 k2 (gs ++ [[e]]) ∧ lg2.synced = lg.synced ∧ k2.room = k.room ∧ usedF k2.L ≤ usedF k.L + e.length + 22 ∧ k2.L.length ≤ k.L.length + 1 ∧ (k.left = none → k2.left = none) ∧ (∀ s, segN p s = false → fget k2.L s = fget k.L s)) ∨
    (∃ m, k.left = some m ∧ putEN p true e lg k = (0, 9, { lg with dead := true }, k)) := by
  have hLl : lg.L.length + 1 = 1 + cntG gs := by rw [h.L]; show gs.flatten.length + 1 = 1 + gs.flatten.length; omega
  have hrl := recN_le (n := 1 + cntG gs) (by omega) e
  have hb : badN (nameN p (1 + cntG gs)) = false := badN_no (nameN_pos _ _) (by unfold nameN; rw [List.length_append, dig8_len (by omega)]; omega)
  have hno : ∀ x ∈ filesG p 1 gs, x.1 ≠ nameN p (1 + cntG gs) := filesG_ne (Nat.le_refl _) h.d.ne
  have hsn : segN p (nameN p (1 + cntG gs)) = true := segN_of p (by omega)
  have hfn : fget k.L (nameN p (1 + cntG gs)) = none := by
    cases hf : fget k.L (nameN p (1 + cntG gs)) with
    | none => rfl
    | some v =>
      obtain ⟨x, hx, e⟩ := List.mem_map.1 (h.d.only _ hsn (fget_isF hf))
      exact absurd e (hno x hx)
  have hrd : rdN (nameN p (1 + cntG gs)) k = ([], 7) := by rw [rdN_fget, hfn]
  have hW := h.whole hs
  unfold putEN
  simp only [if_true]
  rw [hLl]
  rcases wr_gen h.d.dk hb (recN (1 + cntG gs) e) (by omega) (.inr hn) with ⟨k2, e1, hk2, hl2, hro, hu, hnn, hf1, hf2⟩ | ⟨hl, e1⟩
  · rw [e1]
    simp only [ne_eq, not_true_eq_false, if_false]
    rw [hrd, hfn] at hf1
    simp only [List.nil_append, Option.getD_none] at hf1
    have hrec1 : recsN (1 + cntG gs) [e] = recN (1 + cntG gs) e := by simp [recsN]
    refine .inl ⟨_, k2, rfl, ⟨⟨hk2, ?_, ?_, ?_, ?_, ?_⟩, ?_, ?_, h.live, .inr ⟨gs, [e], 0, rfl, Nat.zero_le _, ?_, ?_, ?_⟩⟩, rfl, hro, by omega, hnn, fun hl => by rw [hl2, hl]; rfl, fun s hs2 => hf2 s (fun e2 => by rw [e2, hsn] at hs2; cases hs2)⟩
    · intro g hg
      rcases List.mem_append.1 hg with hg | hg
      · exact h.d.ne g hg
      · rw [List.mem_singleton.1 hg]; simp
    · intro g hg x hx
      rcases List.mem_append.1 hg with hg | hg
      · exact h.d.small g hg x hx
      · rw [List.mem_singleton.1 hg] at hx
        rw [List.mem_singleton.1 hx]; exact he
    · rw [cntG_app]; exact hc
    · intro x hx
      rw [filesG_app] at hx
      rcases List.mem_append.1 hx with hx | hx
      · have h3 := hf2 x.1 (hno x hx)
        have h4 := h.d.has x hx
        rw [isF_fget, h3, ← isF_fget, rdN_congr h3]
        exact h4
      · rw [List.mem_singleton.1 hx]
        exact ⟨fget_isF hf1, by rw [fget_rd hf1, hrec1]⟩
    · intro s h3 h4
      rw [filesG_app, List.map_append]
      by_cases e2 : s = nameN p (1 + cntG gs)
      · exact List.mem_append_right _ (by rw [e2]; simp)
      · rw [isF_fget, hf2 s e2, ← isF_fget] at h4
        exact List.mem_append_left _ (h.d.only s h3 h4)
    · show lg.L ++ [e] = _
      rw [h.L]; simp
    · show lg.segs ++ [_] = _
      rw [segsG_app, h.segs, hrec1]
    · show lg.synced = _
      rw [hs, h.L]; rfl
    · rw [hf1, hrec1]; rfl
    · intro x hx
      rw [hf2 x.1 (hno x hx)]
      exact hW x hx
  · rw [e1]
    simp only [ne_eq]
    exact .inr ⟨0, hl, rfl⟩
/-- An entry behind others. -/
theorem lay_more {p : Nm} {lg : Lg} {k : Dk} {gs0 : List Gr} {g : Gr} (h : LayS p lg k (gs0 ++ [g])) (e : List UInt8) (he : e.length ≤ 65526) (hc : cntG (gs0 ++ [g]) + 1 < 99999999) (hr : usedF k.L + e.length + 22 ≤ k.room) :
    (∃ lg2 k2, putEN p false e lg k = (lg.L.length + 1, 0, lg2, k2) ∧ LayS p lg2 k2 (gs0 ++ [g ++ [e]]) ∧ lg2.synced = lg.synced ∧ k2.room = k.room ∧ usedF k2.L ≤ usedF k.L + e.length + 22 ∧ k2.L.length ≤ k.L.length + 1 ∧ (k.left = none → k2.left = none) ∧ (∀ s, segN p s = false → fget k2.L s = fget k.L s)) ∨
    (∃ m, k.left = some m ∧ putEN p false e lg k = (0, 9, { lg with dead := true }, k)) := by
  have hcn := cntG_app gs0 g
  have hLl : lg.L.length + 1 = 1 + cntG gs0 + g.length := by rw [h.L]; show cntG (gs0 ++ [g]) + 1 = _; omega
  have hrl := recN_le (n := 1 + cntG gs0 + g.length) (by omega) e
  have hls := lastSeg_of h.segs
  rcases h.last with ⟨h0, _⟩ | ⟨gs1, g1, s, h0, hsg, hsy, hf, hfs⟩
  · simp at h0
  · obtain ⟨rfl, h1⟩ := List.append_inj' h0 rfl
    obtain rfl : g = g1 := by simpa using h1
    have hno : ∀ x ∈ filesG p 1 gs0, x.1 ≠ nameN p (1 + cntG gs0) := filesG_ne (Nat.le_refl _) (fun y hy => h.d.ne y (List.mem_append_left _ hy))
    have hgne : g ≠ [] := h.d.ne g (List.mem_append_right _ (List.mem_singleton.2 rfl))
    have hgl : 0 < g.length := List.length_pos_iff.2 hgne
    have hsn : segN p (nameN p (1 + cntG gs0)) = true := segN_of p (by omega)
    have hb := name_ok h.d.dk (nameN_pos p _) (fget_isF hf)
    have hrd := fget_rd hf
    unfold putEN
    simp only [Bool.false_eq_true, if_false]
    rw [hls, hLl]
    simp only
    rcases wr_gen h.d.dk hb (recN (1 + cntG gs0 + g.length) e) (by omega) (.inl (fget_isF hf)) with ⟨k2, e1, hk2, hl2, hro, hu, hnn, hf1, hf2⟩ | ⟨hl, e1⟩
    · rw [e1]
      simp only [ne_eq, not_true_eq_false, if_false]
      rw [hrd, hf] at hf1
      simp only [Option.getD_some] at hf1
      rw [← recsN_app] at hf1
      refine .inl ⟨_, k2, rfl, ⟨⟨hk2, ?_, ?_, ?_, ?_, ?_⟩, ?_, ?_, h.live, .inr ⟨gs0, g ++ [e], s, rfl, by simp; omega, hsy, ?_, ?_⟩⟩, rfl, hro, by omega, hnn, fun hl => by rw [hl2, hl]; rfl, fun s hs2 => hf2 s (fun e2 => by rw [e2, hsn] at hs2; cases hs2)⟩
      · intro y hy
        rcases List.mem_append.1 hy with hy | hy
        · exact h.d.ne y (List.mem_append_left _ hy)
        · rw [List.mem_singleton.1 hy]; simp
      · intro y hy x hx
        rcases List.mem_append.1 hy with hy | hy
        · exact h.d.small y (List.mem_append_left _ hy) x hx
        · rw [List.mem_singleton.1 hy] at hx
          rcases List.mem_append.1 hx with hx | hx
          · exact h.d.small g (List.mem_append_right _ (List.mem_singleton.2 rfl)) x hx
          · rw [List.mem_singleton.1 hx]; exact he
      · rw [cntG_app, List.length_append, List.length_singleton]; omega
      · intro x hx
        rw [filesG_app] at hx
        rcases List.mem_append.1 hx with hx | hx
        · have h3 := hf2 x.1 (hno x hx)
          have h4 := h.d.has x (by rw [filesG_app]; exact List.mem_append_left _ hx)
          rw [isF_fget, h3, ← isF_fget, rdN_congr h3]
          exact h4
        · rw [List.mem_singleton.1 hx]
          exact ⟨fget_isF hf1, by rw [fget_rd hf1]⟩
      · intro s h3 h4
        rw [filesG_app, List.map_append]
        by_cases e2 : s = nameN p (1 + cntG gs0)
        · exact List.mem_append_right _ (by rw [e2]; simp)
        · rw [isF_fget, hf2 s e2, ← isF_fget] at h4
          have h5 := h.d.only s h3 h4
          rw [filesG_app, List.map_append] at h5
          rcases List.mem_append.1 h5 with h5 | h5
          · exact List.mem_append_left _ h5
          · exact absurd (by simpa using h5) e2
      · show lg.L ++ [e] = _
        rw [h.L]; simp
      · show lg.segs.dropLast ++ [_] = _
        rw [h.segs, segsG_app, segsG_app, List.dropLast_concat, recsN_app, List.length_append]
      · rw [hf1, List.take_append_of_le_length hsg]
      · intro x hx
        rw [hf2 x.1 (hno x hx)]
        exact hfs x hx
    · rw [e1]
      simp only [ne_eq]
      exact .inr ⟨0, hl, rfl⟩
end Go.Proofs.YtdolbeonpkanpaaGreatDoor
