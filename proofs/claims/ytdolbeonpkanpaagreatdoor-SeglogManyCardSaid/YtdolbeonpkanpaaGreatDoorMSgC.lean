/- The program's log: how it lies; does, Next, Entry. The program's log: Sync, Names. -/
import Derived.Test.YtdolbeonpkanpaaGreatDoorMDkH
import Derived.Test.YtdolbeonpkanpaaGreatDoorMDkU
import Derived.Test.YtdolbeonpkanpaaGreatDoorMSgA
import Derived.Test.YtdolbeonpkanpaaGreatDoorMSgN
set_option linter.unusedVariables false
set_option linter.unusedSimpArgs false
namespace Go.Proofs.YtdolbeonpkanpaaGreatDoor
open Go.RowKit
attribute [local go_sem ↓] Go.wp_at_zero Go.wp_at_succ

abbrev lobj (d : Nat) (p : Nm) (sa : Option Addr) (ns sc : Nat) (ea : Option Addr) (ne ec sy : Nat) (dead : Bool) : Obj := .cells #[pt d, strV p, .slice sa ns sc, .slice ea ne ec, iv sy, .bool dead] 86 (0, 0)
theorem lobj_cells {w : World} {b d : Nat} {p : Nm} {sa ea : Option Addr} {ns sc ne ec sy : Nat} {dead : Bool} (h : Own w [(b, lobj d p sa ns sc ea ne ec sy dead)]) :
    w.cell? ⟨b, 0, none⟩ = some (pt d) ∧ w.cell? ⟨b, 1, none⟩ = some (strV p) ∧ w.cell? ⟨b, 2, none⟩ = some (.slice sa ns sc) ∧ w.cell? ⟨b, 3, none⟩ = some (.slice ea ne ec) ∧ w.cell? ⟨b, 4, none⟩ = some (iv sy) ∧ w.cell? ⟨b, 5, none⟩ = some (.bool dead) := by
  have h0 := h.h0
  exact ⟨cell_of h0 rfl, cell_of h0 rfl, cell_of h0 rfl, cell_of h0 rfl, cell_of h0 rfl, cell_of h0 rfl⟩
def sgC (p : Nm) (g : Nat × Nat) : List Value := [strV (nameN p g.1), iv g.2]
theorem st_seg : SlTy Tryz.prog 84 92 2 24 (.agg #[.string ⟨#[]⟩, .int .i64 0]) := ⟨by kernel_rfl, by kernel_rfl, rfl, by decide⟩
/-- The log at b, over the disk at d. -/
def LgIs (b d : Nat) (p : Nm) (lg : Lg) (B S E XH : Heaplet) : Prop :=
  ∃ (sa ea : Option Addr) (sc ec : Nat) (X : List Rw), SlRep 92 2 sa lg.segs.length sc (lg.segs.flatMap (sgC p)) S ∧ RowsRep ea ec X E ∧ rwD X = lg.L ∧ XH = rwH X ∧ B = [(b, lobj d p sa lg.segs.length sc ea lg.L.length ec lg.synced lg.dead)]
set_option maxRecDepth 100000 in
theorem does_fn (fn : FuncId) (hfn : ∀ (args : Array Value) (w : World), (callFunc fn args).run Tryz.prog w = .ok (.enter fn args) w) (b d : Nat) (p : Nm) (sa ea : Option Addr) (ns sc ne ec sy : Nat) (dead : Bool) (nm : Nm) (r : Nat × Dk) (DH : Heaplet) (R : List Heaplet) (w0 w : World) (K : Heaplet) (s : Sp w0 K w (DH :: [(b, lobj d p sa ns sc ea ne ec sy dead)] :: R)) (hr : r.1 ≤ 1000)
    (hd : Calls Tryz.prog fn #[pt d, strV nm] w (DkPost d r DH w)) :
    Calls Tryz.prog 43 #[pt b, .func (.func fn) #[] #[], strV nm] w fun e w' => e = .returned (iv r.1) ∧ ∃ DH', DkRep d r.2 DH' ∧ Sp w0 K w' (DH' :: [(b, lobj d p sa ns sc ea ne ec sy (decide (r.1 ≠ 0 ∧ r.1 ≠ 6)))] :: R) := by
  obtain ⟨x, k⟩ := r
  simp only at hr ⊢
  have c0 := (lobj_cells (s.own 1 rfl)).1
  replace hd := Lib.hid hd
  go_enter Tryz.func43, Tryz.ntmps43
  go_wp2_with fail
  refine hd.out.mono ?_
  rintro e w1 ⟨rfl, DH', h1, hst⟩
  have s : Sp w0 K w1 (DH' :: [(b, lobj d p sa ns sc ea ne ec sy dead)] :: R) := s.put 0 rfl hst
  clear c0 hst
  have c5 := (lobj_cells (s.own 1 rfl)).2.2.2.2.2
  have b0 := heap_lt (s.own 1 rfl).h0
  have fz := fun i => frz_of (i := i) (s.own 1 rfl).h0
  have hx : x = 0 ∨ x = 6 ∨ (x ≠ 0 ∧ x ≠ 6) := by omega
  rcases hx with rfl | rfl | ⟨hx0, hx6⟩
  · go_wp2_with fail
    go_ret
    exact ⟨rfl, DH', h1, s.store 1 rfl (j := 5) (.bool false)⟩
  · go_wp2_with fail
    go_ret
    exact ⟨rfl, DH', h1, s.store 1 rfl (j := 5) (.bool false)⟩
  · have q1 : ((x : Int) != 0) = true := by rw [bne_iff_ne]; omega
    have q2 : ((x : Int) != 6) = true := by rw [bne_iff_ne]; omega
    have hdd : Hid (decide (x ≠ 0 ∧ x ≠ 6) = true) := decide_eq_true ⟨hx0, hx6⟩
    replace hx0 := Lib.hid hx0
    replace hx6 := Lib.hid hx6
    go_wp2_with fail
    go_ret
    refine ⟨rfl, DH', h1, ?_⟩
    rw [hdd.out]
    exact s.store 1 rfl (j := 5) (.bool true)
set_option maxRecDepth 100000 in
theorem does_cl (fn : FuncId) (hfn : ∀ (args : Array Value) (w : World), (callFunc fn args).run Tryz.prog w = .ok (.enter fn args) w) (cap : Value) (b d : Nat) (p : Nm) (sa ea : Option Addr) (ns sc ne ec sy : Nat) (dead : Bool) (nm : Nm) (r : Nat × Dk) (DH : Heaplet) (R : List Heaplet) (w0 w : World) (K : Heaplet) (s : Sp w0 K w (DH :: [(b, lobj d p sa ns sc ea ne ec sy dead)] :: R)) (hr : r.1 ≤ 1000)
    (hd : Calls Tryz.prog fn #[pt d, strV nm, cap] w (DkPost d r DH w)) :
    Calls Tryz.prog 43 #[pt b, .func (.func fn) #[] #[cap], strV nm] w fun e w' => e = .returned (iv r.1) ∧ ∃ DH', DkRep d r.2 DH' ∧ Sp w0 K w' (DH' :: [(b, lobj d p sa ns sc ea ne ec sy (decide (r.1 ≠ 0 ∧ r.1 ≠ 6)))] :: R) := by
  obtain ⟨x, k⟩ := r
  simp only at hr ⊢
  have c0 := (lobj_cells (s.own 1 rfl)).1
  replace hd := Lib.hid hd
  go_enter Tryz.func43, Tryz.ntmps43
  go_wp2_with fail
  refine hd.out.mono ?_
  rintro e w1 ⟨rfl, DH', h1, hst⟩
  have s : Sp w0 K w1 (DH' :: [(b, lobj d p sa ns sc ea ne ec sy dead)] :: R) := s.put 0 rfl hst
  clear c0 hst
  have c5 := (lobj_cells (s.own 1 rfl)).2.2.2.2.2
  have b0 := heap_lt (s.own 1 rfl).h0
  have fz := fun i => frz_of (i := i) (s.own 1 rfl).h0
  have hx : x = 0 ∨ x = 6 ∨ (x ≠ 0 ∧ x ≠ 6) := by omega
  rcases hx with rfl | rfl | ⟨hx0, hx6⟩
  · go_wp2_with fail
    go_ret
    exact ⟨rfl, DH', h1, s.store 1 rfl (j := 5) (.bool false)⟩
  · go_wp2_with fail
    go_ret
    exact ⟨rfl, DH', h1, s.store 1 rfl (j := 5) (.bool false)⟩
  · have q1 : ((x : Int) != 0) = true := by rw [bne_iff_ne]; omega
    have q2 : ((x : Int) != 6) = true := by rw [bne_iff_ne]; omega
    have hdd : Hid (decide (x ≠ 0 ∧ x ≠ 6) = true) := decide_eq_true ⟨hx0, hx6⟩
    replace hx0 := Lib.hid hx0
    replace hx6 := Lib.hid hx6
    go_wp2_with fail
    go_ret
    refine ⟨rfl, DH', h1, ?_⟩
    rw [hdd.out]
    exact s.store 1 rfl (j := 5) (.bool true)
set_option maxRecDepth 100000 in
theorem next_any (b d : Nat) (p : Nm) (lg : Lg) (B S E XH : Heaplet) (w : World) (h : LgIs b d p lg B S E XH) (hw : Own w B) (hk : lg.Ok) :
    Calls Tryz.prog 22 #[pt b] w fun e w' => e = .returned (.tuple #[iv (lg.L.length + 1), iv (lg.synced + 1)]) ∧ Step w [] w' [] := by
  obtain ⟨sa, ea, sc, ec, X, hs, hr, hd, rfl, rfl⟩ := h
  obtain ⟨c0, c1, c2, c3, c4, c5⟩ := lobj_cells hw
  have b1 : (lg.L.length : Int) ≤ 4398046511104 := by have := hk.many; omega
  have b2 : (lg.synced : Int) ≤ 4398046511104 := by have := hk.many; have := hk.sync; omega
  go_enter Tryz.func22, Tryz.ntmps22
  go_upto_region 3 with fail
  have q1 : IntKind.i64.wrap ((lg.L.length : Int) + 1) = ((lg.L.length + 1 : Nat) : Int) := by rw [IntWalk.i64_in _ (by omega)]; omega
  have q2 : IntKind.i64.wrap ((lg.synced : Int) + 1) = ((lg.synced + 1 : Nat) : Int) := by rw [IntWalk.i64_in _ (by omega)]; omega
  go_quiet (fail)
  go_wp2_with fail
  go_ret2
  exact ⟨rfl, (Step.refl (Own.nil w)).drewN _⟩
set_option maxRecDepth 100000 in
theorem entry_any (b d : Nat) (p : Nm) (lg : Lg) (n : Int) (B S E XH : Heaplet) (w w0 : World) (K : Heaplet) (h : LgIs b d p lg B S E XH) (D : Heaplet) (s : Sp w0 K w [D, B, S, E, XH]) (hk : lg.Ok) :
    Calls Tryz.prog 23 #[pt b, ii n] w (RdPost (entN lg n).1 (entN lg n).2 w) := by
  obtain ⟨sa, ea, sc, ec, X, hs, hr, hd, rfl, rfl⟩ := h
  obtain ⟨c0, c1, c2, c3, c4, c5⟩ := lobj_cells (s.own 1 rfl)
  have b1 : (lg.L.length : Int) ≤ 4398046511104 := by have := hk.many; omega
  by_cases h1 : n < 1
  · have e1 : entN lg n = ([], 7) := if_pos (.inl h1)
    rw [e1]
    go_enter Tryz.func23, Tryz.ntmps23
    go_wp2_with fail
    go_ret2
    exact ⟨none, 0, [], rfl, SlRep.nil _ _, Step.refl (Own.nil w)⟩
  · by_cases h2 : (lg.L.length : Int) < n
    · have e1 : entN lg n = ([], 7) := if_pos (.inr h2)
      rw [e1]
      have h3 : (1 : Int) ≤ n := by omega
      go_enter Tryz.func23, Tryz.ntmps23
      go_wp2_with fail
      go_ret2
      exact ⟨none, 0, [], rfl, SlRep.nil _ _, Step.refl (Own.nil w)⟩
    · obtain ⟨i, hi⟩ : ∃ i : Nat, n = ((i + 1 : Nat) : Int) := ⟨n.toNat - 1, by omega⟩
      subst hi
      have hlen : X.length = lg.L.length := by rw [← hd, rwD_len]
      have hil : i < X.length := by omega
      obtain ⟨x, hx⟩ : ∃ x, X[i]? = some x := ⟨_, List.getElem?_eq_getElem hil⟩
      obtain ⟨g, rfl, hcx, hec⟩ := rows_at hr (s.own 3 rfl) hx
      have hrd := Lib.hid (rw_bytes hx hr.2 (s.own 4 rfl))
      have hxl : x.d ∈ lg.L := by rw [← hd]; exact List.mem_map.2 ⟨x, List.mem_of_getElem? hx, rfl⟩
      have hxn : x.d.length ≤ 1073741824 := hk.ents _ hxl
      have e1 : Hid (entN lg ((i + 1 : Nat) : Int) = (x.d, 0)) := by
        show _ = _
        unfold entN
        rw [if_neg (by omega)]
        congr 1
        have e2 : ((i + 1 : Nat) : Int).toNat - 1 = i := by omega
        rw [e2, ← hd]
        unfold rwD
        rw [List.getD_eq_getElem?_getD, List.getElem?_map, hx]
        rfl
      have d1 : (1 : Int) ≤ ((i + 1 : Nat) : Int) := by omega
      have d2 : ((i + 1 : Nat) : Int) ≤ (lg.L.length : Int) := by omega
      have d3 : ((i + 1 : Nat) : Int) - 1 = (i : Int) := by omega
      have d4 : (i : Int) < (lg.L.length : Int) := by omega
      have d5 : (0 : Int) ≤ (i : Int) := by omega
      rw [e1.out]
      clear h1 h2 hx hxl hil hlen hr
      go_enter Tryz.func23, Tryz.ntmps23
      go_wp2_with fail
      refine (clone_any x.a x.d.length x.c x.d w hrd.out (by omega)).mono ?_
      rintro e w1 ⟨a1, c1, G1, rfl, r1, hst⟩
      go_wp2_with fail
      go_ret2
      exact ⟨a1, c1, G1, rfl, r1, hst⟩
end Go.Proofs.YtdolbeonpkanpaaGreatDoor
namespace Go.Proofs.YtdolbeonpkanpaaGreatDoor
open Go.RowKit
attribute [local go_sem ↓] Go.wp_at_zero Go.wp_at_succ

theorem sgC_len (p : Nm) (g : Nat × Nat) : (sgC p g).length = 2 := rfl
theorem sg_at {p : Nm} {segs : List (Nat × Nat)} {a : Option Addr} {c : Nat} {S : Heaplet} (h : SlRep 92 2 a segs.length c (segs.flatMap (sgC p)) S) {w : World} (hw : Own w S) {i : Nat} {g : Nat × Nat} (hi : segs[i]? = some g) :
    ∃ q, a = some ⟨q, 0, none⟩ ∧ segs.length ≤ c ∧ c ≤ maxLen ∧ w.cell? ⟨q, i * 2, none⟩ = some (strV (nameN p g.1)) ∧ w.cell? ⟨q, i * 2 + 1, none⟩ = some (iv g.2) ∧ ∀ j, w.frozen? ⟨q, j, none⟩ = false := by
  obtain ⟨q, h1, h2, h3, h4, h5⟩ := slk_at (sgC_len p) h rfl hw hi (by decide)
  exact ⟨q, h1, h2, h3, h5 0 _ rfl, h5 1 _ rfl, h4⟩
theorem last_at {lg : Lg} (h : lg.segs ≠ []) : lg.segs[lg.segs.length - 1]? = some (lastSeg lg) := by
  unfold lastSeg
  rw [← List.getLast?_eq_getElem?, List.getLastD_eq_getLast?]
  cases hh : lg.segs.getLast? with
  | none => exact absurd (List.getLast?_eq_none_iff.1 hh) h
  | some x => rfl
theorem call_dsync (args : Array Value) (w : World) : (callFunc 49 args).run Tryz.prog w = .ok (.enter 49 args) w := by kernel_rfl
def LSPost (b d : Nat) (p : Nm) (r : Nat × Lg × Dk) (w0 : World) (K : Heaplet) (e : Ending) (w' : World) : Prop :=
  e = .returned (iv r.1) ∧ ∃ DH B S E XH, DkRep d r.2.2 DH ∧ LgIs b d p r.2.1 B S E XH ∧ Sp w0 K w' [DH, B, S, E, XH]
theorem may_is (k : Dk) (names : List Nm) : mayN k names = 0 ∨ mayN k names = 1 ∨ mayN k names = 9 := by
  unfold mayN
  split
  · exact .inr (.inr rfl)
  · split
    · exact .inr (.inl rfl)
    · exact .inl rfl
theorem gate_is (names : List Nm) (op : Dk → Nat × Dk) (k : Dk) : (mayN k names ≠ 0 ∧ gateN names op k = (mayN k names, k)) ∨ (mayN k names = 0 ∧ (op k).1 = 0 ∧ gateN names op k = (0, didN (op k).2)) ∨ (mayN k names = 0 ∧ (op k).1 ≠ 0 ∧ gateN names op k = op k) := by
  unfold gateN
  split
  · rename_i h; exact .inl ⟨h, rfl⟩
  · rename_i h
    have h : mayN k names = 0 := by omega
    split
    · rename_i h2; exact .inr (.inl ⟨h, h2, rfl⟩)
    · rename_i h2; exact .inr (.inr ⟨h, h2, rfl⟩)
theorem syI_err (nm : Nm) (k : Dk) : (syI nm k).1 = 0 ∨ (syI nm k).1 = 7 := by unfold syI; split <;> simp
theorem gsy_err (nm : Nm) (k : Dk) : (gateN [nm] (syI nm) k).1 ≤ 9 ∧ (gateN [nm] (syI nm) k).1 ≠ 6 := by
  have h1 := may_is k [nm]
  have h2 := syI_err nm k
  rcases gate_is [nm] (syI nm) k with ⟨h, e⟩ | ⟨h, _, e⟩ | ⟨h, _, e⟩ <;> rw [e] <;> (try simp only) <;> omega
set_option maxHeartbeats 2000000 in
set_option maxRecDepth 100000 in
theorem lsync_any (b d : Nat) (p : Nm) (lg : Lg) (k : Dk) (DH B S E XH : Heaplet) (w0 w : World) (K : Heaplet) (hd : DkRep d k DH) (hk : k.Ok) (h : LgIs b d p lg B S E XH) (s : Sp w0 K w [DH, B, S, E, XH]) (hl : lg.Ok) :
    Calls Tryz.prog 16 #[pt b] w (LSPost b d p (lsyncN p lg k) w0 K) := by
  have hh := Lib.hid h
  obtain ⟨sa, ea, sc, ec, X, hs, hr, hdX, rfl, rfl⟩ := h
  obtain ⟨c0, c1, c2, c3, c4, c5⟩ := lobj_cells (s.own 1 rfl)
  have xlt := heap_lt (s.own 1 rfl).h0
  have b1 : (lg.L.length : Int) ≤ 4398046511104 := by have := hl.many; omega
  by_cases hdead : lg.dead = true
  · have e1 : lsyncN p lg k = (9, lg, k) := by unfold lsyncN; rw [if_pos hdead]
    rw [e1]
    rw [hdead] at c5
    go_enter Tryz.func16, Tryz.ntmps16
    go_wp2_with fail
    go_ret
    exact ⟨rfl, DH, _, S, E, _, hd, hh.out, s⟩
  · have hdf : lg.dead = false := by simpa using hdead
    rw [hdf] at c5
    by_cases hsy : lg.synced = lg.L.length
    · have e1 : lsyncN p lg k = (0, lg, k) := by unfold lsyncN; rw [if_neg hdead, if_pos hsy]
      rw [e1]
      have q1 : ((lg.synced : Int) == (lg.L.length : Int)) = true := beq_iff_eq.2 (by omega)
      replace hsy := Lib.hid hsy
      replace hdf := Lib.hid hdf
      clear hdead
      go_enter Tryz.func16, Tryz.ntmps16
      go_upto_region 5 with fail
      go_quiet (fail)
      go_wp2_with fail
      go_ret
      exact ⟨rfl, DH, _, S, E, _, hd, hh.out, s.drewN _⟩
    · have q1 : ((lg.synced : Int) == (lg.L.length : Int)) = false := beq_eq_false_iff_ne.2 (by omega)
      have hne : lg.segs ≠ [] := fun e => by
        have := hl.segs e
        have h2 := hl.sync
        rw [this] at hsy h2
        simp at hsy h2
        omega
      obtain ⟨r, hr0⟩ : ∃ r, r = gateN [nameN p (lastSeg lg).1] (syI (nameN p (lastSeg lg).1)) k := ⟨_, rfl⟩
      have herr := gsy_err (nameN p (lastSeg lg).1) k
      rw [← hr0] at herr
      have e1 : Hid (lsyncN p lg k = if r.1 ≠ 0 then (r.1, { lg with dead := true }, r.2) else (0, { lg with synced := lg.L.length }, r.2)) := by
        show _ = _
        unfold lsyncN
        rw [if_neg hdead, if_neg hsy, ← hr0]
      have hds := Lib.hid (fun W DH hd hW => dsync d k DH (nameN p (lastSeg lg).1) W hd hk hW)
      rw [← hr0] at hds
      replace hr0 := Lib.hid hr0
      obtain ⟨q, rfl, hsc1, hsc2, s0, s1, sf⟩ := sg_at hs (s.own 2 rfl) (last_at hne)
      obtain ⟨m, hm⟩ : ∃ m, lg.segs.length = m + 1 := ⟨lg.segs.length - 1, by have := List.length_pos_iff.2 hne; omega⟩
      rw [hm] at s0 s1 hsc1
      have hmm : (m : Int) ≤ 4398046511104 := by have := hl.msegs; omega
      simp only [Nat.add_sub_cancel] at s0 s1
      replace hr := Lib.hid hr
      replace hs := Lib.hid hs
      clear hdead hsy
      replace hne := Lib.hid hne
      replace hdf := Lib.hid hdf
      obtain ⟨nm, hnm⟩ : ∃ nm, nm = nameN p (lastSeg lg).1 := ⟨_, rfl⟩
      rw [← hnm] at s0 hds
      replace hnm := Lib.hid hnm
      obtain ⟨n, hn⟩ : ∃ n, n = lg.L.length := ⟨_, rfl⟩
      obtain ⟨ns, hns⟩ : ∃ ns, ns = lg.segs.length := ⟨_, rfl⟩
      rw [← hn] at c3 q1 b1 s
      rw [← hns] at c2 s hm
      obtain ⟨sy, hsy⟩ : ∃ sy, sy = lg.synced := ⟨_, rfl⟩
      rw [← hsy] at c4 q1 s
      replace hn := Lib.hid hn
      replace hns := Lib.hid hns
      replace hsy := Lib.hid hsy
      subst hm
      go_enter Tryz.func16, Tryz.ntmps16
      go_upto_region 5 with fail
      go_quiet (fail)
      go_upto_region 7 with fail
      have q2 : IntKind.i64.wrap (m : Int) = (m : Int) := IntWalk.i64_in _ (by omega)
      have q3 : (m : Int) < (m : Int) + 1 := by omega
      refine Sp.gen (s.drewN _) ?_
      clear c0 c1 c2 c3 c4 c5 s0 s1 s
      intro W s
      have hc2 := Lib.hid (fun V (o : Own V S) => (sg_at hs.out o (last_at hne.out)))
      rw [← hns.out] at hc2
      simp only [Nat.add_sub_cancel] at hc2
      have hc3 : Hid (∀ V, Own V S → V.cell? ⟨q, m * 2, none⟩ = some (strV nm)) := fun V o => by
        obtain ⟨q', e, _, _, z, _⟩ := hc2.out V o
        cases e
        rw [hnm.out]
        exact z
      clear hc2
      replace s := s.drew
      refine wp_region_J 15 (fun w' => w'.cell? ⟨b, 2, none⟩ = some (.slice (some ⟨q, 0, none⟩) (m + 1) sc) ∧ w'.cell? ⟨q, m * 2, none⟩ = some (strV nm)) (by kernel_rfl) ?_ (fun hF => ?_)
      · (try dsimp only)
        all_goals (exact ⟨(lobj_cells (s.own 1 rfl)).2.2.1, hc3.out _ (s.own 2 rfl)⟩)
      refine tk0 (i := 0) (oi := ⟨some 23, .move (.tmp 0), 30, "seglog.go:181", #[], none⟩) (v := ?_) rfl (by kernel_rfl) (fun _ _ _ h => h) (fun _ => hF) (fun w => ?_) (by rfl) ?_
      rotate_left
      · first | (go_simp; done) | (go_simp; with_reducible rfl) | (go_split_ands; go_simp; done)
      try simp only [Act.put, nrmA, nrmB, nrmC]
      refine tk0 (i := 1) (oi := ⟨some 24, .move (.tmp 0), 30, "seglog.go:181", #[], none⟩) (v := ?_) rfl (by kernel_rfl) (fun _ _ _ h => h) (fun _ => hF) (fun w => ?_) (by rfl) ?_
      rotate_left
      · first | (go_simp; done) | (go_simp; with_reducible rfl) | (go_split_ands; go_simp; done)
      try simp only [Act.put, nrmA, nrmB, nrmC]
      refine tk0 (i := 2) (oi := ⟨some 25, .nilCheck (.tmp 24), 0, "seglog.go:181", #[⟨1, .data⟩], none⟩) (v := ?_) rfl (by kernel_rfl) (fun _ _ _ h => h) (fun _ => hF) (fun w => ?_) (by rfl) ?_
      rotate_left
      · first | (go_simp; done) | (go_simp; with_reducible rfl) | (go_split_ands; go_simp; done)
      try simp only [Act.put, nrmA, nrmB, nrmC]
      refine tk0 (i := 3) (oi := ⟨some 26, .fieldAddr 86 (.tmp 25) 2, 0, "seglog.go:181", #[⟨2, .data⟩], none⟩) (v := ?_) rfl (by kernel_rfl) (fun _ _ _ h => h) (fun _ => hF) (fun w => ?_) (by rfl) ?_
      rotate_left
      · first | (go_simp; done) | (go_simp; with_reducible rfl) | (go_split_ands; go_simp; done)
      try simp only [Act.put, nrmA, nrmB, nrmC]
      refine tk1 (i := 4) (oi := ⟨some 27, .load 84 (.tmp 26), 84, "seglog.go:181", #[⟨3, .data⟩], none⟩) (v := ?_) [15] rfl (by kernel_rfl) (fun _ _ _ h => h) hF (fun w hFw => ?_) (by rfl) ?_
      rotate_left
      · ((try dsimp only at hFw); first | (go_simp; done) | (go_simp; with_reducible rfl) | (go_split_ands; go_simp; done))
      try simp only [Act.put, nrmA, nrmB, nrmC]
      refine tk0 (i := 5) (oi := ⟨some 28, .move (.tmp 0), 30, "seglog.go:181", #[], none⟩) (v := ?_) rfl (by kernel_rfl) (fun _ _ _ h => h) (fun _ => hF) (fun w => ?_) (by rfl) ?_
      rotate_left
      · first | (go_simp; done) | (go_simp; with_reducible rfl) | (go_split_ands; go_simp; done)
      try simp only [Act.put, nrmA, nrmB, nrmC]
      refine tk0 (i := 6) (oi := ⟨some 29, .nilCheck (.tmp 28), 0, "seglog.go:181", #[⟨5, .data⟩], none⟩) (v := ?_) rfl (by kernel_rfl) (fun _ _ _ h => h) (fun _ => hF) (fun w => ?_) (by rfl) ?_
      rotate_left
      · first | (go_simp; done) | (go_simp; with_reducible rfl) | (go_split_ands; go_simp; done)
      try simp only [Act.put, nrmA, nrmB, nrmC]
      refine tk0 (i := 7) (oi := ⟨some 30, .fieldAddr 86 (.tmp 29) 2, 0, "seglog.go:181", #[⟨6, .data⟩], none⟩) (v := ?_) rfl (by kernel_rfl) (fun _ _ _ h => h) (fun _ => hF) (fun w => ?_) (by rfl) ?_
      rotate_left
      · first | (go_simp; done) | (go_simp; with_reducible rfl) | (go_split_ands; go_simp; done)
      try simp only [Act.put, nrmA, nrmB, nrmC]
      refine tk1 (i := 8) (oi := ⟨some 31, .load 84 (.tmp 30), 84, "seglog.go:181", #[⟨7, .data⟩], none⟩) (v := ?_) [15] rfl (by kernel_rfl) (fun _ _ _ h => h) hF (fun w hFw => ?_) (by rfl) ?_
      rotate_left
      · ((try dsimp only at hFw); first | (go_simp; done) | (go_simp; with_reducible rfl) | (go_split_ands; go_simp; done))
      try simp only [Act.put, nrmA, nrmB, nrmC]
      refine tk1 (i := 9) (oi := ⟨some 32, .call { callee := .builtin .len, args := #[.tmp 31], argTypes := #[84] }, 3, "seglog.go:181", #[⟨8, .data⟩], none⟩) (v := ?_) [15] rfl (by kernel_rfl) (fun _ _ _ h => h) hF (fun w hFw => ?_) (by rfl) ?_
      rotate_left
      · ((try dsimp only at hFw); first | (go_simp; done) | (go_simp; with_reducible rfl) | (go_split_ands; go_simp; done))
      try simp only [Act.put, nrmA, nrmB, nrmC]
      refine tk0 (i := 10) (oi := ⟨some 33, .binOp .sub 3 (.tmp 32) (.const (.int .i64 1)) 3, 3, "seglog.go:181", #[⟨9, .data⟩], none⟩) (v := ?_) rfl (by kernel_rfl) (fun _ _ _ h => h) (fun _ => hF) (fun w => ?_) (by rfl) ?_
      rotate_left
      · first | (go_simp; done) | (go_simp; with_reducible rfl) | (go_split_ands; go_simp; done)
      try simp only [Act.put, nrmA, nrmB, nrmC]
      refine tk0 (i := 11) (oi := ⟨some 34, .indexAddr 84 (.tmp 27) (.tmp 33), 0, "seglog.go:181", #[⟨4, .data⟩, ⟨10, .data⟩], none⟩) (v := ?_) rfl (by kernel_rfl) (fun _ _ _ h => h) (fun _ => hF) (fun w => ?_) (by rfl) ?_
      rotate_left
      · first | (go_simp; done) | (go_simp; with_reducible rfl) | (go_split_ands; go_simp; done)
      try simp only [Act.put, nrmA, nrmB, nrmC]
      refine tk0 (i := 12) (oi := ⟨some 35, .fieldAddr 92 (.tmp 34) 0, 0, "seglog.go:181", #[⟨11, .data⟩], none⟩) (v := ?_) rfl (by kernel_rfl) (fun _ _ _ h => h) (fun _ => hF) (fun w => ?_) (by rfl) ?_
      rotate_left
      · first | (go_simp; done) | (go_simp; with_reducible rfl) | (go_split_ands; go_simp; done)
      try simp only [Act.put, nrmA, nrmB, nrmC]
      refine tk1 (i := 13) (oi := ⟨some 36, .load 9 (.tmp 35), 9, "seglog.go:181", #[⟨12, .data⟩], none⟩) (v := ?_) [15] rfl (by kernel_rfl) (fun _ _ _ h => h) hF (fun w hFw => ?_) (by rfl) ?_
      rotate_left
      · ((try dsimp only at hFw); first | (go_simp; done) | (go_simp; with_reducible rfl) | (go_split_ands; go_simp; done))
      try simp only [Act.put, nrmA, nrmB, nrmC]
      refine wpAnyJ_ready (rs := [14]) (by kernel_rfl) (by simp) ?_
      refine AllJ.cons1 (o := ⟨some 37, .call { callee := .value (.func 43), args := #[.tmp 23, .func 49, .tmp 36], argTypes := #[30, 93, 9] }, 35, "seglog.go:181", #[⟨0, .data⟩, ⟨13, .data⟩], none⟩) rfl (fun Kr hKr => ?_)
      go_simp; refine (does_fn _ call_dsync b d p _ _ _ _ _ _ _ _ nm r DH [S, E, rwH X] w0 _ K s (by omega) (hds.out _ DH hd (s.own 0 rfl))).mono ?_; rintro e w4 ⟨rfl, DH', hd', s⟩
      refine hKr.out _ _ (fun hJ => ?_) (fun hF => ?_)
      · first
        | exact absurd hJ (by decide)
        | (clear hJ; (try dsimp only); all_goals (exact ⟨(lobj_cells (s.own 1 rfl)).2.2.1, hc3.out _ (s.own 2 rfl)⟩))
      clear hKr
      try simp only [Act.put, nrmA, nrmB, nrmC]
      refine wpAnyJ_ready (rs := [15]) (by kernel_rfl) (by simp) ?_
      refine AllJ.cons1 (o := ⟨some 3, .assign (.tmp 37), 35, "seglog.go:181", #[⟨14, .data⟩, ⟨14, .chain⟩, ⟨0, .phase⟩, ⟨1, .phase⟩, ⟨2, .phase⟩, ⟨3, .phase⟩, ⟨4, .phase⟩, ⟨5, .phase⟩, ⟨6, .phase⟩, ⟨7, .phase⟩, ⟨8, .phase⟩, ⟨9, .phase⟩, ⟨10, .phase⟩, ⟨11, .phase⟩, ⟨12, .phase⟩, ⟨13, .phase⟩, ⟨14, .phase⟩], none⟩) rfl (fun Kr hKr => ?_)
      go_simp
      refine hKr.out _ _ (fun hJ => ?_) (fun hF => ?_)
      · first
        | exact absurd hJ (by decide)
        | (clear hJ; (try dsimp only); all_goals (exact ⟨(lobj_cells (s.own 1 rfl)).2.2.1, hc3.out _ (s.own 2 rfl)⟩))
      clear hKr
      try simp only [Act.put, nrmA, nrmB, nrmC]
      refine wpAnyJ_done (by kernel_rfl) ?_ _
      have hcl := lobj_cells (s.own 1 rfl)
      have b0 := heap_lt (s.own 1 rfl).h0
      have fz := fun i => frz_of (i := i) (s.own 1 rfl).h0
      obtain ⟨z0, z1, z2, z3, z4, z5⟩ := hcl
      obtain ⟨x, k1⟩ := r
      have e1 := e1.out
      simp only at herr e1 hd' s z5 ⊢
      by_cases hx : x = 0
      · subst hx
        have e2 : Hid (lsyncN p lg k = (0, { lg with synced := lg.L.length }, k1)) := e1.trans rfl
        clear e1
        go_wp2_with fail
        go_ret
        rw [e2.out]
        refine ⟨rfl, DH', _, S, E, _, hd', ?_, s.store 1 rfl (j := 4) (iv n)⟩
        refine ⟨some ⟨q, 0, none⟩, ea, sc, ec, X, hs.out, hr.out, hdX, rfl, ?_⟩
        have h1 := hn.out
        have h2 := hns.out
        have h3 := hdf.out
        simp only [← h1, ← h2, h3]
        rfl
      · have q5 : ((x : Int) != 0) = true := by rw [bne_iff_ne]; omega
        have e2 : Hid (lsyncN p lg k = (x, { lg with dead := true }, k1)) := e1.trans (if_pos hx)
        clear e1
        replace hx := Lib.hid hx
        go_wp2_with fail
        go_ret
        rw [e2.out]
        refine ⟨rfl, DH', _, S, E, _, hd', ?_, s.store 1 rfl (j := 5) (.bool true)⟩
        refine ⟨some ⟨q, 0, none⟩, ea, sc, ec, X, hs.out, hr.out, hdX, rfl, ?_⟩
        have h1 := hn.out
        have h2 := hns.out
        have h3 := hsy.out
        simp only [← h1, ← h2, ← h3]
        rfl
end Go.Proofs.YtdolbeonpkanpaaGreatDoor
