/- The reference's log: Open. -/
import Derived.Test.YtdolbeonpkanpaaGreatDoorMDrC
import Derived.Test.YtdolbeonpkanpaaGreatDoorDrE
import Derived.Test.YtdolbeonpkanpaaGreatDoorMSgO
import Derived.Test.YtdolbeonpkanpaaGreatDoorSrD
set_option linter.unusedVariables false
set_option linter.unusedSimpArgs false
namespace Go.Proofs.YtdolbeonpkanpaaGreatDoor
open Go.RowKit
attribute [local go_sem ↓] Go.wp_at_zero Go.wp_at_succ

def ROpPost (d : Nat) (p : Nm) (r : Nat × Lg × Dk) (DH : Heaplet) (w : World) (e : Ending) (w' : World) : Prop :=
  (r.1 ≠ 0 ∧ e = .returned (.tuple #[.pointer none, iv r.1]) ∧ ∃ DH', RkRep d r.2.2 DH' ∧ Sp w DH w' [DH']) ∨
  (r.1 = 0 ∧ ∃ b DH' B S E XH, e = .returned (.tuple #[pt b, iv 0]) ∧ RlIs b d p r.2.1 B S E XH ∧ RkRep d r.2.2 DH' ∧ Sp w DH w' [DH', B, S, E, XH])
/-- As RlIs, within Open: nothing is sure yet. -/
def RlAt (b d : Nat) (p : Nm) (lg : Lg) (B S E XH : Heaplet) : Prop :=
  ∃ (sa ea : Option Addr) (sc ec : Nat) (X : List Rw), SlRep 3 1 sa lg.segs.length sc (lg.segs.map fsC) S ∧ RowsRep ea ec X E ∧ rwD X = lg.L ∧ XH = rwH X ∧ B = [(b, rlobj d p ea lg.L.length ec sa lg.segs.length sc 0 false)]
def RfRel (p : Nm) (L : List Nm) (DH B N0 : Heaplet) (w : World) (v7 v9 : Value) (wr : World) : Prop :=
  ∃ (i : Nat) (a : Option Addr) (c : Nat) (FH : Heaplet), v9 = iv i ∧ i ≤ L.length ∧ v7 = .slice a ((L.take i).filter (segN p)).length c ∧ SlRep 9 1 a ((L.take i).filter (segN p)).length c (((L.take i).filter (segN p)).map strV) FH ∧ Sp w DH wr [DH, B, N0, FH]
def RfCut (p : Nm) (L : List Nm) (DH B N0 : Heaplet) (w : World) (v7 : Value) (wr : World) : Prop :=
  ∃ (a : Option Addr) (c : Nat) (FH : Heaplet), v7 = .slice a (L.filter (segN p)).length c ∧ SlRep 9 1 a (L.filter (segN p)).length c ((L.filter (segN p)).map strV) FH ∧ Sp w DH wr [DH, B, N0, FH]
def RoRel (b d : Nat) (p : Nm) (k : Dk) (names : List Nm) (DH FH : Heaplet) (w : World) (v10 v11 : Value) (wr : World) : Prop :=
  ∃ (i : Nat) (lg : Lg) (B S E XH : Heaplet), v11 = iv i ∧ v10 = iv (lg.L.length + 1) ∧ i ≤ names.length ∧ Half k p names i lg ∧ RlAt b d p lg B S E XH ∧ Sp w DH wr [DH, B, S, E, XH, FH]
def RoCut (b d : Nat) (p : Nm) (k : Dk) (names : List Nm) (FH K : Heaplet) (w : World) (wr : World) : Prop :=
  ∃ (lg : Lg) (k1 : Dk) (DH B S E XH : Heaplet), (walkN k p names lg0).1 = lg ∧ endN' (walkN k p names lg0).2 k = (0, k1) ∧ k1.Ok ∧ RkRep d k1 DH ∧ RlAt b d p lg B S E XH ∧ Sp w K wr [DH, B, S, E, XH, FH] ∧
    lg.L.length ≤ 1099511627776 ∧ lg.segs.length ≤ 4096 ∧ (∀ g ∈ lg.segs, g.2 ≤ 1073741824 ∧ g.1 ≤ lg.L.length + 1) ∧ lg.dead = false
def RsyRel (d : Nat) (p : Nm) (segs : List (Nat × Nat)) (k1 : Dk) (B S E XH K : Heaplet) (w : World) (v : Value) (wr : World) : Prop :=
  ∃ (j : Nat) (k2 : Dk) (DH : Heaplet), v = iv j ∧ j ≤ segs.length ∧ syncAll p segs k1 = syncAll p (segs.drop j) k2 ∧ k2.Ok ∧ RkRep d k2 DH ∧ Sp w K wr [DH, B, S, E, XH]
def RrmRel (d : Nat) (k : Dk) (names : List Nm) (i : Nat) (Bs : List Heaplet) (w : World) (K : Heaplet) (v : Value) (wr : World) : Prop :=
  ∃ (j : Nat) (k1 : Dk) (DH : Heaplet), v = iv j ∧ i ≤ j ∧ j < names.length ∧ RkRep d k1 DH ∧ k1.Ok ∧ rmAll (names.drop (j + 1)).reverse k = (0, k1) ∧ Sp w K wr (DH :: Bs)
def RrmCut (d : Nat) (k : Dk) (names : List Nm) (i : Nat) (Bs : List Heaplet) (w : World) (K : Heaplet) (wr : World) : Prop :=
  ∃ (k1 : Dk) (DH : Heaplet), RkRep d k1 DH ∧ k1.Ok ∧ rmAll (names.drop (i + 1)).reverse k = (0, k1) ∧ Sp w K wr (DH :: Bs)
theorem rowsRep_app {a : Option Addr} {c n : Nat} {X Y : List Rw} {G : Heaplet} (h : SlRep 23 1 a n c (X.map Rw.val ++ Y.map Rw.val) G) (hn : n = X.length + Y.length) (hX : ∀ x ∈ X, x.ok) (hY : ∀ x ∈ Y, x.ok) : RowsRep a c (X ++ Y) G := by
  subst hn
  refine ⟨by rw [List.length_append, List.map_append]; exact h, fun y hy => ?_⟩
  rcases List.mem_append.1 hy with hy | hy
  · exact hX y hy
  · exact hY y hy
theorem rows_cells {a : Option Addr} {c : Nat} {X : List Rw} {G : Heaplet} (h : RowsRep a c X G) {w : World} (hw : Own w G) : RdCells w (.slice a X.length c) X.length 1 (X.map Rw.val) :=
  SlAt.rdCells h.1.at0 (fun u hu => by obtain ⟨x, _, rfl⟩ := List.mem_map.1 hu; rfl) hw
theorem rwH_app (X Y : List Rw) : rwH (X ++ Y) = rwH X ++ rwH Y := by simp [rwH]
theorem rwD_app (X Y : List Rw) : rwD (X ++ Y) = rwD X ++ rwD Y := by simp [rwD]
theorem drop_rev2 {names : List Nm} {i j : Nat} (h : i < j) : ∃ m, (names.drop (i + 1)).reverse = (names.drop j).reverse ++ m := by
  refine ⟨((names.drop (i + 1)).take (j - (i + 1))).reverse, ?_⟩
  rw [← List.reverse_append]
  congr 1
  have e : names.drop j = (names.drop (i + 1)).drop (j - (i + 1)) := by rw [List.drop_drop]; congr 1; omega
  rw [e, List.take_append_drop]
set_option maxHeartbeats 1000000 in
set_option maxRecDepth 100000 in
theorem rlopen_any (d : Nat) (p : Nm) (k : Dk) (DH : Heaplet) (w : World) (hd : RkRep d k DH) (hk : k.Ok) (hw : Own w DH) (hp1 : 1 ≤ p.length) (hp : p.length ≤ 50) :
    Calls Tryz.prog 21 #[pt d, strV p] w (ROpPost d p (openN p k) DH w) := by
  have dp1 : (1 : Int) ≤ (p.length : Int) := by omega
  have dp2 : (p.length : Int) ≤ 50 := by omega
  have np := fun w b => nil_ptr w b
  obtain ⟨b, hb⟩ : ∃ b, b = w.heap.size := ⟨_, rfl⟩
  have sp0 := (Sp.start hw).alloc (.cells #[pt d, strV p, .slice none 0 0, .slice none 0 0, iv 0, .bool false] 53 (0, 0))
  rw [← hb] at sp0
  have hnm := Lib.hid (fun W DH hd hW => rnames d k DH W hd hk hW)
  have hkL := hk.many
  have hml : (k.L.map Prod.fst).length ≤ 4096 := by rw [List.length_map]; exact hkL
  have hn64 : ∀ s ∈ k.L.map Prod.fst, s.length ≤ 64 := fun s hs => by obtain ⟨e, he, rfl⟩ := List.mem_map.1 hs; exact hk.names e he
  have hfile : ∀ s ∈ k.L.map Prod.fst, isF k.L s = true := fun s hs => by obtain ⟨e, he, rfl⟩ := List.mem_map.1 hs; exact (isF_iff hk.sorted).2 ⟨e, he, rfl⟩
  have hop : Hid (openN p k = if (endN' (walkN k p ((k.L.map Prod.fst).filter (segN p)) lg0).2 k).1 ≠ 0 then ((endN' (walkN k p ((k.L.map Prod.fst).filter (segN p)) lg0).2 k).1, lg0, (endN' (walkN k p ((k.L.map Prod.fst).filter (segN p)) lg0).2 k).2)
    else if (syncAll p (walkN k p ((k.L.map Prod.fst).filter (segN p)) lg0).1.segs (endN' (walkN k p ((k.L.map Prod.fst).filter (segN p)) lg0).2 k).2).1 ≠ 0 then
    ((syncAll p (walkN k p ((k.L.map Prod.fst).filter (segN p)) lg0).1.segs (endN' (walkN k p ((k.L.map Prod.fst).filter (segN p)) lg0).2 k).2).1, lg0, (syncAll p (walkN k p ((k.L.map Prod.fst).filter (segN p)) lg0).1.segs (endN' (walkN k p ((k.L.map Prod.fst).filter (segN p)) lg0).2 k).2).2)
    else (0, { (walkN k p ((k.L.map Prod.fst).filter (segN p)) lg0).1 with synced := (walkN k p ((k.L.map Prod.fst).filter (segN p)) lg0).1.L.length }, (syncAll p (walkN k p ((k.L.map Prod.fst).filter (segN p)) lg0).1.segs (endN' (walkN k p ((k.L.map Prod.fst).filter (segN p)) lg0).2 k).2).2)) := rfl
  obtain ⟨L, hL⟩ : ∃ L, L = k.L.map Prod.fst := ⟨_, rfl⟩
  rw [← hL] at hop hml hn64 hfile hnm
  replace hL := Lib.hid hL
  replace hn64 := Lib.hid hn64
  replace hfile := Lib.hid hfile
  clear hkL
  have hmli : (L.length : Int) ≤ 4096 := by omega
  go_enter Tryz.func21, Tryz.ntmps21
  go_wp2_with fail
  rw [← hb]
  clear hb
  refine (hnm.out _ DH hd (sp0.own 0 rfl)).mono ?_
  rintro e w1 ⟨a1, c1, N0, rfl, r1, hst⟩
  have sp : Sp w DH w1 [DH, [(b, .cells #[pt d, strV p, .slice none 0 0, .slice none 0 0, iv 0, .bool false] 53 (0, 0))], N0] := sp0.fresh hst
  clear hst hnm sp0
  have hc1 : Hid (∀ V, Own V N0 → ∀ i, i < L.length → ∃ g x, L[i]? = some x ∧ a1 = some ⟨g, 0, none⟩ ∧ L.length ≤ c1 ∧ V.cell? ⟨g, i, none⟩ = some (strV x)) := fun V hV i hi => by
    have hx := List.getElem?_eq_getElem hi
    have hN := r1.rdNs hV
    obtain ⟨g, o, e, h2⟩ := hN.at' hx
    have h3 := h2 0 _ rfl
    obtain ⟨_, ⟨e', _⟩ | ⟨g', cur, e', _⟩⟩ := r1
    · rw [e] at e'; cases e'
    · rw [e'] at e
      cases e
      refine ⟨_, _, hx, e', hN.2.1, ?_⟩
      simpa using h3
  have hin : Hid (RfRel p L DH [(b, .cells #[pt d, strV p, .slice none 0 0, .slice none 0 0, iv 0, .bool false] 53 (0, 0))] N0 w (.slice none 0 0) (iv 0) w1) := ⟨0, none, 0, [], rfl, Nat.zero_le _, by simp, by simpa using SlRep.nil _ _, by
    have := sp.fresh (Step.refl (Own.nil w1))
    exact this⟩
  clear sp r1
  go_upto_block 0 with fail
  go_cut [7] (fun v7 wc => RfCut p L DH [(b, .cells #[pt d, strV p, .slice none 0 0, .slice none 0 0, iv 0, .bool false] 53 (0, 0))] N0 w v7 wc)
  case first =>
    go_wp2_with fail
    go_loopw [7, 9] (fun v7 v9 wr => RfRel p L DH [(b, .cells #[pt d, strV p, .slice none 0 0, .slice none 0 0, iv 0, .bool false] 53 (0, 0))] N0 w v7 v9 wr) (fun _ v _ => L.length - (intOf v).toNat)
    case atStart => exact hin.out
    case round =>
      clear hin
      obtain ⟨i, a6, c6, FH, rfl, hi, rfl, hv, sp⟩ := hrel
      have i0 : (0 : Int) ≤ (i : Int) := by omega
      by_cases hlt : i < L.length
      · obtain ⟨g, x, hx, rfl, k0, r0⟩ := hc1.out _ (sp.own 2 rfl) i hlt
        have i1 : (i : Int) < (L.length : Int) := by omega
        have i2 : (L.length : Int) ≤ (c1 : Int) := by omega
        have hxm : x ∈ L := List.mem_of_getElem? hx
        have hx64 := hn64.out x hxm
        have hseg := Lib.hid (rnumber_any p x (by omega) (by omega) wr)
        have htk : (L.take (i + 1)).filter (segN p) = (L.take i).filter (segN p) ++ (if segN p x = true then [x] else []) := by
          obtain ⟨hl, e⟩ := List.getElem?_eq_some_iff.1 hx
          rw [List.take_succ_eq_append_getElem hl, e, List.filter_append, List.filter_cons]
          simp
        obtain ⟨F, hF⟩ : ∃ F, F = (L.take i).filter (segN p) := ⟨_, rfl⟩
        rw [← hF] at hv htk ⊢
        have hFl : F.length ≤ 4096 := by rw [hF]; exact Nat.le_trans (List.length_filter_le _ _) (by rw [List.length_take]; omega)
        have hFli : (F.length : Int) ≤ 4096 := by omega
        have hrx : Hid (∀ V, Own V N0 → V.cell? ⟨g, i, none⟩ = some (strV x)) := fun V o => by
          obtain ⟨g', x', hx', e', _, r'⟩ := hc1.out V o i hlt
          cases e'
          rw [hx] at hx'
          cases hx'
          exact r'
        replace hF := Lib.hid hF
        clear hx hxm
        replace hc1 := Lib.hid hc1
        replace hv := Lib.hid hv
        cases hsg : segN p x with
        | false =>
          have hnI : numI p x = -1 := by unfold numI; rw [hsg]; rfl
          rw [hnI] at hseg
          rw [hsg] at htk
          replace htk := Lib.hid htk
          replace hsg := Lib.hid hsg
          replace hnI := Lib.hid hnI
          go_wp2_with fail
          refine hseg.out.mono ?_
          rintro e w3 ⟨rfl, hst⟩
          have sp : Sp w DH w3 [DH, [(b, .cells #[pt d, strV p, .slice none 0 0, .slice none 0 0, iv 0, .bool false] 53 (0, 0))], N0, FH] := sp.still hst
          go_wp2_with fail
          have htk2 : (L.take (i + 1)).filter (segN p) = F := by rw [htk.out]; simp
          exact ⟨⟨i + 1, a6, c6, FH, by go_num, hlt, by rw [htk2], by rw [htk2]; exact hv.out, sp⟩, by simp [intOf]; omega⟩
        | true =>
          have hnI : numI p x = (numS p x : Int) := by unfold numI; rw [hsg]; rfl
          rw [hnI] at hseg
          rw [hsg] at htk
          replace htk := Lib.hid htk
          replace hsg := Lib.hid hsg
          replace hnI := Lib.hid hnI
          obtain ⟨nx, hnx⟩ : ∃ nx, nx = numS p x := ⟨_, rfl⟩
          rw [← hnx] at hseg
          replace hnx := Lib.hid hnx
          have nx0 : (0 : Int) ≤ (nx : Int) := by omega
          go_wp2_with fail
          refine hseg.out.mono ?_
          rintro e w3 ⟨rfl, hst⟩
          have sp : Sp w DH w3 [DH, [(b, .cells #[pt d, strV p, .slice none 0 0, .slice none 0 0, iv 0, .bool false] 53 (0, 0))], N0, FH] := sp.still hst
          have r0 := hrx.out _ (sp.own 2 rfl)
          have sp2 : Sp w DH _ [DH, [(b, .cells #[pt d, strV p, .slice none 0 0, .slice none 0 0, iv 0, .bool false] 53 (0, 0))], N0, FH, [(w3.heap.size, .cells #[strV x] 9 (0, 0))]] := sp.alloc _
          go_wp2_with (at_builtin; refine wpList_app rfl rst_str _ _ rfl (by rfl) (by rfl) hv.out (sp2.own 3 rfl) (rdCells_block (heap_alloc_new _ _) rfl (by simp [Value.oneCell'])) (by unfold maxLen; omega) (by omega) ?_; intro a3 c3 w4 H3 hv3 hst3; have sp3 : Sp w DH w4 [DH, [(b, .cells #[pt d, strV p, .slice none 0 0, .slice none 0 0, iv 0, .bool false] 53 (0, 0))], N0, H3, _] := sp2.put 3 rfl hst3; replace hv3 := Lib.hid hv3)
          have htk2 : (L.take (i + 1)).filter (segN p) = F ++ [x] := by rw [htk.out]; simp
          exact ⟨⟨i + 1, a3, c3, H3, by go_num, hlt, by rw [htk2, List.length_append]; rfl, by rw [htk2, List.length_append, List.map_append]; exact hv3.out, (sp3.forget 4 rfl).perm (by simp)⟩, by simp [intOf]; omega⟩
      · have i1 : (L.length : Int) ≤ (i : Int) := by omega
        have hta : L.take i = L := List.take_of_length_le (by omega)
        rw [hta] at hv ⊢
        go_wp2_with fail
        go_meet
        exact ⟨a6, c6, FH, rfl, hv, sp⟩
  case rest =>
    obtain ⟨a6, c6, FH, rfl, hv, sp⟩ := hcut
    clear hin hc1
    obtain ⟨names, hnames⟩ : ∃ names, names = L.filter (segN p) := ⟨_, rfl⟩
    rw [← hnames] at hv hop ⊢
    have hnl : names.length ≤ 4096 := by rw [hnames]; exact Nat.le_trans (List.length_filter_le _ _) hml
    have hnf : Hid (∀ x ∈ names, isF k.L x = true ∧ x.length ≤ 64 ∧ segN p x = true) := fun x hx => by
      rw [hnames] at hx
      have := (List.mem_filter.1 hx).1
      exact ⟨hfile.out x this, hn64.out x this, (List.mem_filter.1 hx).2⟩
    have hnli : (names.length : Int) ≤ 4096 := by omega
    replace hnames := Lib.hid hnames
    replace sp := sp.forget 2 rfl
    have spa : Sp w DH wc [DH, [(b, .cells #[pt d, strV p, .slice none 0 0, .slice none 0 0, iv 0, .bool false] 53 (0, 0))], FH] := sp.perm (by simp)
    clear sp
    go_upto_block 2 with fail
    go_cut [11] (fun _ wr => RoCut b d p k names FH DH w wr)
    case first =>
      have hin : Hid (RoRel b d p k names DH FH w (iv 1) (iv 0) wc) :=
        ⟨0, lg0, _, [], [], [], rfl, rfl, Nat.zero_le _, half_start k p names, ⟨none, none, 0, 0, [], SlRep.nil _ _, rowsRep_nil, rfl, rfl, rfl⟩, spa.perm (by simp; exact List.Perm.refl _)⟩
      clear spa
      go_wp2_with fail
      go_loopw [10, 11] (fun v10 v11 wr => RoRel b d p k names DH FH w v10 v11 wr) (fun _ v _ => names.length - (intOf v).toNat)
      case atStart => exact hin.out
      case round =>
        clear hin
        obtain ⟨i, lg, B, S, E, XH, rfl, rfl, hi, hh, hlg, sp⟩ := hrel
        have i0 : (0 : Int) ≤ (i : Int) := by omega
        by_cases hlt : i < names.length
        · have i1 : (i : Int) < (names.length : Int) := by omega
          obtain ⟨x, hx⟩ : ∃ x, x = names[i] := ⟨_, rfl⟩
          obtain ⟨f1, f2, f3⟩ := hnf.out x (hx ▸ List.getElem_mem _)
          have hr := half_read hk hh hlt
          rw [← hx] at hr
          have hN0 := hv.rdNs (sp.own 5 rfl)
          obtain ⟨g, rfl, hcA⟩ : ∃ g, a6 = some ⟨g, 0, none⟩ ∧ Hid (∀ V, Own V FH → ∀ j y, names[j]? = some y → V.cell? ⟨g, j, none⟩ = some (strV y)) := by
            obtain ⟨g, e, _⟩ := slRep_at hv (sp.own 5 rfl) (i := i) (v := strV x) (by rw [List.getElem?_map, List.getElem?_eq_getElem hlt, ← hx]; rfl)
            refine ⟨g, e, fun V hV j y hy => ?_⟩
            obtain ⟨g', e', h2, _⟩ := slRep_at hv hV (i := j) (v := strV y) (by rw [List.getElem?_map, hy]; rfl)
            rw [e] at e'
            cases e'
            rwa [Nat.zero_add] at h2
          have hNc := hN0.2.1
          have hcx : Hid (∀ V, Own V FH → V.cell? ⟨g, i, none⟩ = some (strV x)) := fun V hV => hcA.out V hV i x (by rw [hx]; exact List.getElem?_eq_getElem hlt)
          have h1 := hh.many
          have h2 := hh.msegs
          have hnI : numI p x = (numS p x : Int) := by unfold numI; rw [f3]; rfl
          have hnum := Lib.hid (fun W => rnumber_any p x (by omega) (by omega) W)
          have hrd := Lib.hid (fun W hW => rread d k DH x W hd hk hW)
          obtain ⟨nx, hnx⟩ : ∃ nx, nx = numS p x := ⟨_, rfl⟩
          have hnxb : nx < 100000000 := by
            rw [hnx]
            obtain ⟨_, h5, h6⟩ := segN_parts f3
            have := numD_lt h6
            rw [h5] at this
            exact this
          rw [hnI, ← hnx] at hnum
          have hsn : x = nameN p (lg.L.length + 1) ↔ nx = lg.L.length + 1 := by rw [hnx]; exact segN_name f3 _
          obtain ⟨l, hl⟩ : ∃ l, l = (rdN x k).1 := ⟨_, rfl⟩
          have hll : l.length ≤ 1073741824 := by rw [hl]; exact rdN_le hk
          rw [← hl] at hrd
          have dc : (names.length : Int) ≤ (c6 : Int) := by omega
          have hcx0 := hcx.out _ (sp.own 5 rfl)
          have nx0 : (0 : Int) ≤ (nx : Int) := by omega
          clear hN0 hnf f1 f2 hnI
          replace hx := Lib.hid hx
          replace hv := Lib.hid hv
          replace hnx := Lib.hid hnx
          replace hsn := Lib.hid hsn
          replace hl := Lib.hid hl
          replace hr := Lib.hid hr
          go_wp2_with fail
          refine (hnum.out _).mono ?_
          rintro e w2 ⟨rfl, hst⟩
          have sp : Sp w DH w2 [DH, B, S, E, XH, FH] := sp.still hst
          clear hst hcx0
          have hcx0 := hcx.out _ (sp.own 5 rfl)
          go_wp2_with fail
          refine (hrd.out _ (sp.own 0 rfl)).mono ?_
          rintro e w3 ⟨al, cl, G, rfl, hG, hst⟩
          have sp : Sp w DH w3 [DH, B, S, E, XH, FH, G] := sp.fresh hst
          clear hst hcx0
          have hr5 := Lib.hid (read5_any al cl l nx w3 (hG.rdBytes (sp.own 6 rfl)) hll (by omega))
          go_wp2_with fail
          refine hr5.out.mono ?_
          rintro e w4 ⟨a5, c5, X5, O, rfl, hX5, hR5, hst⟩
          have sp : Sp w DH w4 [DH, B, S, E, XH, FH, G, [O, rwH X5].flatten] := sp.fresh hst
          have sp : Sp w DH w4 [DH, B, S, E, XH, FH, O, rwH X5] := (sp.forget 6 rfl).perm (by simp)
          clear hst hr5 hG hnum hrd
          obtain ⟨n0, hn0⟩ : ∃ n0, n0 = lg.L.length + 1 := ⟨_, rfl⟩
          have hn0b : n0 ≤ 549755813889 := by omega
          have hX5l : X5.length ≤ 134217728 := by
            have := (rdSeg_le l nx).2.1
            rw [← hX5, rwD_len] at this
            omega
          have w10 : Hid (iv (lg.L.length + 1) = iv n0) := by show _ = _; rw [hn0]
          rw [← hn0] at hsn
          by_cases hA : nx = n0 ∧ (rdSeg l nx).2 = l.length
          ·
            obtain ⟨hA1, hA2⟩ := hA
            have hxe : x = nameN p (lg.L.length + 1) := by have := hsn.out.2 hA1; rw [hn0] at hsn; exact hsn.out.2 (by rw [← hn0]; exact hA1)
            have hrn : readN p k lg x = (((rdSeg l nx).2 : Int), true, { lg with L := lg.L ++ rwD X5, segs := lg.segs ++ [(n0, (rdSeg l nx).2)] }) := by
              unfold readN
              rw [if_neg (by simpa using hxe), ← hl.out, ← hn0, ← hA1, ← hX5, if_pos (.inl hA2), decide_eq_true hA2]
            have hr := hr.out
            rw [hrn] at hr
            simp only at hr
            obtain ⟨g1, g2, g3, g4, g5, g6, g7, g8⟩ := hr
            rw [if_pos trivial] at g8
            have hwh : decide ((rdSeg l nx).2 = l.length) = true := decide_eq_true hA2
            subst hA1
            rw [hwh]
            rw [← hn0]
            obtain ⟨sa, ea, sc, ec, X, hs, hr0, hdX, rfl, rfl⟩ := hlg
            obtain ⟨nl, hnl2⟩ : ∃ n, n = lg.L.length := ⟨_, rfl⟩
            obtain ⟨ns, hns⟩ : ∃ n, n = lg.segs.length := ⟨_, rfl⟩
            rw [← hnl2] at h1
            rw [← hns] at h2
            have hsn1 : Hid (SlRep 3 1 sa ns sc (lg.segs.map fsC) S) := by show SlRep _ _ _ _ _ _ _; rw [hns]; exact hs
            have hXl : X.length = nl := by rw [← rwD_len, hdX, hnl2]
            have hr1n : Hid (SlRep 23 1 ea nl ec (X.map Rw.val) E) := by show SlRep _ _ _ _ _ _ _; rw [← hXl]; exact hr0.1
            rw [← hnl2, ← hns] at sp
            obtain ⟨c0, c1', c2, c3, c4, c5'⟩ := rlobj_cells (sp.own 1 rfl)
            have xlt := heap_lt (sp.own 1 rfl).h0
            have s1 : Sp w DH _ [DH, [(b, rlobj d p ea nl ec sa ns sc 0 false)], S, E, rwH X, FH, O, rwH X5, [(w4.heap.size, .cells #[iv nx] 3 (0, 0))]] := sp.alloc _
            have hnx1 : nx = nl + 1 := by rw [hnl2]; exact hn0
            replace hX5 := Lib.hid hX5
            replace hdX := Lib.hid hdX
            replace hXl := Lib.hid hXl
            replace hns := Lib.hid hns
            replace hnl2 := Lib.hid hnl2
            replace hnx1 := Lib.hid hnx1
            replace hn0 := Lib.hid hn0
            replace hA2 := Lib.hid hA2
            replace hxe := Lib.hid hxe
            replace hrn := Lib.hid hrn
            replace hwh := Lib.hid hwh
            replace g1 := Lib.hid g1
            replace g2 := Lib.hid g2
            replace g3 := Lib.hid g3
            replace g4 := Lib.hid g4
            replace g5 := Lib.hid g5
            replace g6 := Lib.hid g6
            replace g7 := Lib.hid g7
            replace g8 := Lib.hid g8
            have hii : i + 1 ≤ 4096 := by omega
            clear w10 hs
            go_upto_region 20 with (at_builtin; refine wpList_app rfl st_int _ _ rfl (by rfl) (by rfl) hsn1.out (s1.own 2 rfl) (rdCells_block (s1.own 8 rfl).h0 rfl (by simp [Value.oneCell'])) (by unfold maxLen; omega) (by omega) ?_; intro a9 c9 w9 H9 hv9 hst9; have s2 : Sp w DH w9 [DH, [(b, rlobj d p ea nl ec sa ns sc 0 false)], H9, E, rwH X, FH, O, rwH X5, _] := s1.put 2 rfl hst9; clear hst9 s1 c0 c1' c2 c3 c4 c5' xlt; have c3 := (rlobj_cells (s2.own 1 rfl)).2.2.2.1; have b0 := heap_lt (s2.own 1 rfl).h0; have fz := fun i => frz_of (i := i) (s2.own 1 rfl).h0; replace hv9 := Lib.hid hv9)
            have s3 := s2.store 1 rfl (j := 3) (.slice a9 (ns + 1) c9)
            replace s3 := s3.forget 8 rfl
            have s3 : Sp w DH _ [DH, [(b, rlobj d p ea nl ec a9 (ns + 1) c9 0 false)], H9, E, rwH X, FH, O, rwH X5] := s3.perm (by simp)
            refine Sp.gen s3 ?_
            clear s3 s2 c3 b0 fz
            intro W3 s3
            have c2 := (rlobj_cells (s3.own 1 rfl)).2.2.1
            have b0 := heap_lt (s3.own 1 rfl).h0
            have q8 : IntKind.i64.wrap ((nx : Int) + (X5.length : Int)) = ((nx + X5.length : Nat) : Int) := by rw [IntWalk.i64_in _ (by omega)]; omega
            go_wp2_with (at_builtin; refine wpList_app rfl st_rows _ _ rfl (by rfl) (by rfl) hr1n.out (s3.own 3 rfl) (rows_cells hR5 (s3.own 6 rfl)) (by unfold maxLen; omega) (by omega) ?_; intro a8 c8 w8 H8 hv8 hst8; have s4 : Sp w DH w8 [DH, [(b, rlobj d p ea nl ec a9 (ns + 1) c9 0 false)], H9, H8, rwH X, FH, O, rwH X5] := s3.put 3 rfl hst8; clear hst8 c2 b0; have c2 := (rlobj_cells (s4.own 1 rfl)).2.2.1; have b0 := heap_lt (s4.own 1 rfl).h0; have fz := fun i => frz_of (i := i) (s4.own 1 rfl).h0; replace hv8 := Lib.hid hv8)
            have s5 := s4.store 1 rfl (j := 2) (.slice a8 (nl + X5.length) c8)
            have e7 : (lg.L ++ rwD X5).length = nl + X5.length := by rw [List.length_append, ← hnl2.out, rwD_len]
            have e8 : (lg.segs ++ [(nx, (rdSeg l nx).2)]).length = ns + 1 := by rw [List.length_append, ← hns.out]; rfl
            refine ⟨⟨i + 1, { lg with L := lg.L ++ rwD X5, segs := lg.segs ++ [(nx, (rdSeg l nx).2)] }, _, H9, H8, rwH (X ++ X5), by go_num, ?_, hlt, ⟨g8.out, g1.out, g2.out, g3.out, g4.out, g5.out, g6.out, g7.out⟩, ⟨a9, a8, c9, c8, X ++ X5, ?_, rowsRep_app hv8.out (by rw [hXl.out]) hr0.2 hR5.2, by rw [rwD_app, hdX.out], rfl, rfl⟩, ?_⟩, by simp [intOf]; omega⟩
            · show _ = iv ((lg.L ++ rwD X5).length + 1)
              rw [e7]
              exact congrArg (Value.int .i64) (by have := hnx1.out; omega)
            · show SlRep _ _ _ (lg.segs ++ [(nx, (rdSeg l nx).2)]).length _ ((lg.segs ++ [(nx, (rdSeg l nx).2)]).map fsC) _
              rw [e8, List.map_append]
              exact hv9.out
            · show Sp _ _ _ [_, [(b, rlobj d p a8 (lg.L ++ rwD X5).length c8 a9 (lg.segs ++ [(nx, (rdSeg l nx).2)]).length c9 0 false)], _, _, _, _]
              rw [e7, e8, rwH_app]
              have s6 : Sp w DH _ [DH, [(b, rlobj d p a8 (nl + X5.length) c8 a9 (ns + 1) c9 0 false)], H9, H8, rwH X, FH, [], rwH X5] := s5.forget 6 rfl
              exact s6.perm (by simp only [List.flatten_cons, List.flatten_nil, List.nil_append, List.append_nil, List.append_assoc, List.cons_append]; (repeat (first | refine List.Perm.cons _ ?_ | refine List.Perm.append_left _ ?_)); exact List.perm_append_comm)
          · obtain ⟨sa, ea, sc, ec, X, hs, hr0, hdX, rfl, rfl⟩ := hlg
            obtain ⟨nl, hnl2⟩ : ∃ n, n = lg.L.length := ⟨_, rfl⟩
            obtain ⟨ns, hns⟩ : ∃ n, n = lg.segs.length := ⟨_, rfl⟩
            rw [← hnl2] at h1
            rw [← hns] at h2
            have hsn1 : Hid (SlRep 3 1 sa ns sc (lg.segs.map fsC) S) := by show SlRep _ _ _ _ _ _ _; rw [hns]; exact hs
            have hXl : X.length = nl := by rw [← rwD_len, hdX, hnl2]
            have hr1n : Hid (SlRep 23 1 ea nl ec (X.map Rw.val) E) := by show SlRep _ _ _ _ _ _ _; rw [← hXl]; exact hr0.1
            rw [← hnl2, ← hns] at sp
            have hnx1 : n0 = nl + 1 := by rw [hnl2]; exact hn0
            rw [← hn0]
            obtain ⟨wh, hwh⟩ : ∃ z, z = decide ((rdSeg l nx).2 = l.length) := ⟨_, rfl⟩
            rw [← hwh]
            obtain ⟨gd, hgd⟩ : ∃ z, z = (rdSeg l nx).2 := ⟨_, rfl⟩
            have hgdl : gd ≤ 1073741824 := by rw [hgd]; exact Nat.le_trans (rdSeg_le l nx).1 hll
            rw [← hgd] at hwh hA ⊢
            have hR : ∃ gg lg2, readN p k lg x = (gg, false, lg2) ∧ ((nx ≠ n0 ∧ gg = -1 ∧ lg2 = lg) ∨ (nx = n0 ∧ gd = 0 ∧ gg = 0 ∧ lg2 = lg) ∨ (nx = n0 ∧ 0 < gd ∧ gg = (gd : Int) ∧ lg2 = { lg with L := lg.L ++ rwD X5, segs := lg.segs ++ [(nx, gd)] })) := by
              by_cases hxn : nx = n0
              · have hxe : x = nameN p (lg.L.length + 1) := by rw [← hn0]; exact hsn.out.2 hxn
                have hnw : ¬ gd = l.length := fun e => hA ⟨hxn, e⟩
                by_cases hg0 : gd = 0
                · refine ⟨0, lg, ?_, .inr (.inl ⟨hxn, hg0, rfl, rfl⟩)⟩
                  have hrows : (rdSeg l nx).1 = [] := by
                    have h3 := (rdRows_len (scanN l).1 nx).1
                    have h4 : (rdRows (scanN l).1 nx).2 = 0 := by rw [hgd] at hg0; exact hg0
                    exact List.eq_nil_of_length_eq_zero (by show (rdRows (scanN l).1 nx).1.length = 0; omega)
                  unfold readN
                  rw [if_neg (by simpa using hxe), ← hl.out, ← hn0, ← hxn, ← hgd, hrows, if_neg (by omega), decide_eq_false hnw, hg0, List.append_nil]
                  rfl
                · refine ⟨(gd : Int), _, ?_, .inr (.inr ⟨hxn, by omega, rfl, rfl⟩)⟩
                  unfold readN
                  rw [if_neg (by simpa using hxe), ← hl.out, ← hn0, ← hxn, ← hgd, ← hX5, if_pos (.inr (by omega)), decide_eq_false hnw]
              · refine ⟨-1, lg, ?_, .inl ⟨hxn, rfl, rfl⟩⟩
                unfold readN
                rw [if_pos (by rw [← hn0]; exact fun e => hxn (hsn.out.1 e))]
            obtain ⟨gg, lg2, hrn, hR⟩ := hR
            have hr := hr.out
            rw [hrn] at hr
            simp only at hr
            obtain ⟨g1, g2, g3, g4, g5, g6, g7, g8⟩ := hr
            rw [if_neg (by simp)] at g8
            have hdx : names.drop i = x :: names.drop (i + 1) := by rw [List.drop_eq_getElem_cons hlt, hx.out]
            have hends : endN' (walkN k p names lg0).2 k = if (rmAll (names.drop (i + 1)).reverse k).1 ≠ 0 then rmAll (names.drop (i + 1)).reverse k else lastN x gg (rmAll (names.drop (i + 1)).reverse k).2 := by
              rw [g8]
              show endsN (names.drop i) gg k = _
              rw [hdx, endsN]
            have hkA : Hid ((decide ((nx : Int) = (n0 : Int)) && wh) = false) := by
              show _ = _
              rw [hwh]
              by_cases e : nx = n0
              · have : ¬ gd = l.length := fun e2 => hA ⟨e, e2⟩
                simp [this]
              · have : ¬ (nx : Int) = (n0 : Int) := by omega
                simp [this]
            replace hX5 := Lib.hid hX5
            replace hdX := Lib.hid hdX
            replace hXl := Lib.hid hXl
            replace hns := Lib.hid hns
            replace hnl2 := Lib.hid hnl2
            replace hnx1 := Lib.hid hnx1
            replace hn0 := Lib.hid hn0
            replace hrn := Lib.hid hrn
            replace hwh := Lib.hid hwh
            replace hgd := Lib.hid hgd
            replace hdx := Lib.hid hdx
            replace hends := Lib.hid hends
            replace hA := Lib.hid hA
            replace g1 := Lib.hid g1
            replace g2 := Lib.hid g2
            replace g3 := Lib.hid g3
            replace g4 := Lib.hid g4
            replace g5 := Lib.hid g5
            replace g6 := Lib.hid g6
            replace g7 := Lib.hid g7
            replace g8 := Lib.hid g8
            replace hs := Lib.hid hs
            replace hR := Lib.hid hR
            clear w10
            go_upto_region 18 with fail
            go_cut [94] (fun v94 wr => v94 = .bool false ∧ wr = w4)
            case first =>
              by_cases hxn : nx = n0
              · have q1 : ((nx : Int) == (n0 : Int)) = true := by rw [hxn]; simp
                have hw0 : Hid (wh = false) := by show _ = _; rw [hwh.out]; exact decide_eq_false fun e => hA.out ⟨hxn, e⟩
                replace hxn := Lib.hid hxn
                go_wp2_with fail
                go_meet
                exact ⟨by rw [hw0.out], rfl⟩
              · have q1 : ((nx : Int) == (n0 : Int)) = false := beq_eq_false_iff_ne.2 (by omega)
                replace hxn := Lib.hid hxn
                go_wp2_with fail
                go_meet
                exact ⟨rfl, rfl⟩
            case rest =>
              obtain ⟨rfl, rfl⟩ := hcut
              have hpos : 1 ≤ names.length := by omega
              have q2 : IntKind.i64.wrap ((names.length : Int) - 1) = ((names.length - 1 : Nat) : Int) := by rw [IntWalk.i64_in _ (by omega)]; omega
              have q2' : (names.length : Int) - 1 = ((names.length - 1 : Nat) : Int) := by omega
              go_upto_block 4 with fail
              go_cut [18] (fun _ wr => RrmCut d k names i [[(b, rlobj d p ea nl ec sa ns sc 0 false)], S, E, rwH X, FH, O, rwH X5] w DH wr)
              case first =>
                have hin : Hid (RrmRel d k names i [[(b, rlobj d p ea nl ec sa ns sc 0 false)], S, E, rwH X, FH, O, rwH X5] w DH (iv (names.length - 1)) wc) := ⟨names.length - 1, k, DH, rfl, by omega, by omega, hd, hk, by rw [List.drop_eq_nil_of_le (by omega)]; rfl, sp⟩
                clear sp
                go_wp2_with fail
                go_loopw [18] (fun v wr => RrmRel d k names i [[(b, rlobj d p ea nl ec sa ns sc 0 false)], S, E, rwH X, FH, O, rwH X5] w DH v wr) (fun v _ => (intOf v).toNat)
                case atStart => exact hin.out
                case round =>
                  clear hin
                  obtain ⟨j, k1, DH1, rfl, hij, hj, hd1, hk1, hrm, sp⟩ := hrel
                  have j0 : (0 : Int) ≤ (j : Int) := by omega
                  have j1 : (j : Int) < (names.length : Int) := by omega
                  by_cases h0 : i < j
                  · have d2 : (i : Int) < (j : Int) := by omega
                    obtain ⟨y, hy⟩ : ∃ y, y = names[j] := ⟨_, rfl⟩
                    have hcy := hcA.out _ (sp.own 5 rfl) j y (by rw [hy]; exact List.getElem?_eq_getElem hj)
                    obtain ⟨r, hr⟩ : ∃ r, r = gateN [y] (rmI y) k1 := ⟨_, rfl⟩
                    have hrm2 : Hid (rmAll (names.drop j).reverse k = r) := by
                      show _ = _
                      rw [drop_rev hj, rmAll_app, hrm, ← hy]
                      simp only [ne_eq, not_true_eq_false, if_false]
                      rw [rmAll, ← hr]
                      split
                      · rfl
                      · rename_i h; cases r; simp only [ne_eq, Decidable.not_not] at h; subst h; rfl
                    have herr : r.1 ≤ 9 := hr ▸ grm_err y k1
                    have hok : r.2.Ok := by rw [hr]; exact gate_ok hk1 [y] (rmI y) (fun _ => rm_ok hk1 y)
                    have hcall : Hid (∀ W, Own W DH1 → Calls Tryz.prog 59 #[pt d, strV y] W (RkPost d r DH1 W)) := fun W hW => by rw [hr]; exact rremove d k1 DH1 y W hd1 hk1 hW
                    obtain ⟨m, hm⟩ := drop_rev2 (names := names) h0
                    have htr : Hid (rmAll (names.drop (i + 1)).reverse k = if r.1 ≠ 0 then r else rmAll m r.2) := by
                      show _ = _
                      rw [hm, rmAll_app, hrm2.out]
                    obtain ⟨x1, k2⟩ := r
                    simp only at herr hok htr
                    replace hr := Lib.hid hr
                    replace hy := Lib.hid hy
                    replace hm := Lib.hid hm
                    replace hrm := Lib.hid hrm
                    go_wp2_with fail
                    refine (hcall.out _ (sp.own 0 rfl)).mono ?_
                    rintro e w6 ⟨rfl, DH', hd', hst⟩
                    have sp : Sp w DH w6 (DH' :: [[(b, rlobj d p ea nl ec sa ns sc 0 false)], S, E, rwH X, FH, O, rwH X5]) := sp.put 0 rfl hst
                    clear hst hcy
                    simp only at hd' ⊢
                    by_cases hx0 : x1 = 0
                    · subst hx0
                      go_wp2_with fail
                      refine ⟨⟨j - 1, k2, DH', ?_, by omega, by omega, hd', hok, by rw [show j - 1 + 1 = j by omega]; exact hrm2.out, sp⟩, by simp [intOf]; omega⟩
                      exact congrArg (Value.int .i64) (show (j : Int) - 1 = ((j - 1 : Nat) : Int) by omega)
                    · have q5 : ((x1 : Int) != 0) = true := by rw [bne_iff_ne]; omega
                      have hfin : Hid (openN p k = (x1, lg0, k2)) := by
                        show _ = _
                        have h3 := htr.out
                        rw [if_pos hx0] at h3
                        have h4 := hends.out
                        rw [h3, if_pos hx0] at h4
                        rw [hop.out, h4]
                        exact if_pos hx0
                      replace hx0 := Lib.hid hx0
                      go_wp2_with fail
                      go_ret2
                      rw [hfin.out]
                      exact .inl ⟨hx0.out, rfl, DH', hd', Sp.of sp.first⟩
                  · have d2 : (j : Int) ≤ (i : Int) := by omega
                    have hji : j = i := by omega
                    have hrm : Hid (rmAll (names.drop (i + 1)).reverse k = (0, k1)) := by show _ = _; rw [← hji]; exact hrm
                    replace hji := Lib.hid hji
                    go_wp2_with fail
                    go_meet
                    exact ⟨k1, DH1, hd1, hk1, hrm.out, sp⟩
              case rest =>
                clear sp
                obtain ⟨k1, DH1, hd1, hk1, hrm, sp⟩ := hcut
                have he2 : endN' (walkN k p names lg0).2 k = lastN x gg k1 := by
                  have h3 := hends.out
                  rw [hrm] at h3
                  simpa using h3
                have herr := lastN_err x gg k1
                have hok : (lastN x gg k1).2.Ok := by
                  unfold lastN
                  split
                  · exact gate_ok hk1 [x] (rmI x) (fun _ => rm_ok hk1 x)
                  · exact gate_ok hk1 [x] (cuI x gg) (fun _ => cu_ok hk1 x gg)
                obtain ⟨⟨x1, k2⟩, hr⟩ : ∃ r, r = lastN x gg k1 := ⟨_, rfl⟩
                rw [← hr] at he2 herr hok
                simp only at herr hok
                replace hr := Lib.hid hr
                replace he2 := Lib.hid he2
                replace hrm := Lib.hid hrm
                obtain ⟨rf, hrf⟩ : ∃ z, z = !(decide (nx = n0) && decide (0 < gd)) := ⟨_, rfl⟩
                replace hrf := Lib.hid hrf
                have gd0 : (0 : Int) ≤ (gd : Int) := by omega
                go_upto_region 29 with fail
                go_cut [141] (fun v141 wr => v141 = .bool rf ∧ wr = wc)
                case first =>
                  by_cases hxn : nx = n0
                  · have q1 : ((nx : Int) != (n0 : Int)) = false := by rw [hxn]; simp
                    by_cases hg0 : gd = 0
                    · have q3 : ((gd : Int) == 0) = true := by rw [hg0]; rfl
                      have hz : Hid (rf = true) := by show _ = _; rw [hrf.out, hg0]; simp
                      replace hxn := Lib.hid hxn
                      replace hg0 := Lib.hid hg0
                      go_wp2_with fail
                      go_meet
                      exact ⟨by rw [hz.out], rfl⟩
                    · have q3 : ((gd : Int) == 0) = false := beq_eq_false_iff_ne.2 (by omega)
                      have hz : Hid (rf = false) := by show _ = _; rw [hrf.out, hxn, decide_eq_true (show 0 < gd by omega)]; simp
                      replace hxn := Lib.hid hxn
                      replace hg0 := Lib.hid hg0
                      go_wp2_with fail
                      go_meet
                      exact ⟨by rw [hz.out], rfl⟩
                  · have q1 : ((nx : Int) != (n0 : Int)) = true := by rw [bne_iff_ne]; omega
                    have hz : Hid (rf = true) := by show _ = _; rw [hrf.out, decide_eq_false hxn]; rfl
                    replace hxn := Lib.hid hxn
                    go_wp2_with fail
                    go_meet
                    exact ⟨by rw [hz.out], rfl⟩
                case rest =>
                  obtain ⟨rfl, rfl⟩ := hcut
                  go_upto_if 141 with fail
                  go_cut [20] (fun v20 wr => v20 = iv x1 ∧ ∃ DH2 B2 S2 E2 XH2, RkRep d k2 DH2 ∧ RlAt b d p lg2 B2 S2 E2 XH2 ∧ Sp w DH wr [DH2, B2, S2, E2, XH2, FH])
                  case first =>
                    have hcx0 := hcx.out _ (sp.own 5 rfl)
                    cases rf with
                    | true =>
                      have hz : gg ≤ 0 ∧ lg2 = lg := by
                        rcases hR.out with ⟨_, h3, h4⟩ | ⟨_, _, h3, h4⟩ | ⟨h3, h4, _⟩
                        · exact ⟨by omega, h4⟩
                        · exact ⟨by omega, h4⟩
                        · have h5 := hrf.out
                          rw [decide_eq_true h3, decide_eq_true h4] at h5
                          cases h5
                      have hcall : Hid (∀ W, Own W DH1 → Calls Tryz.prog 59 #[pt d, strV x] W (RkPost d (x1, k2) DH1 W)) := fun W hW => by
                        have h3 := hr.out
                        rw [lastN, if_pos hz.1] at h3
                        rw [h3]
                        exact rremove d k1 DH1 x W hd1 hk1 hW
                      have hlg : Hid (lg2 = lg) := hz.2
                      clear hz
                      go_wp2_with fail
                      refine (hcall.out _ (sp.own 0 rfl)).mono ?_
                      rintro e w6 ⟨rfl, DH', hd', hst⟩
                      have sp : Sp w DH w6 [DH', [(b, rlobj d p ea nl ec sa ns sc 0 false)], S, E, rwH X, FH, O, rwH X5] := sp.put 0 rfl hst
                      clear hst hcx0
                      simp only at hd' ⊢
                      go_wp2_with fail
                      go_meet
                      have s9 : Sp w DH w6 [DH', [(b, rlobj d p ea nl ec sa ns sc 0 false)], S, E, rwH X, FH] := ((sp.forget 6 rfl).forget 7 rfl).perm (by simp)
                      refine ⟨rfl, DH', _, S, E, _, hd', ?_, s9⟩
                      rw [hlg.out]
                      refine ⟨sa, ea, sc, ec, X, hs.out, hr0, hdX.out, rfl, ?_⟩
                      rw [hnl2.out, hns.out]
                    | false =>
                      have hz : nx = n0 ∧ 0 < gd ∧ gg = (gd : Int) ∧ lg2 = { lg with L := lg.L ++ rwD X5, segs := lg.segs ++ [(nx, gd)] } := by
                        have h5 := hrf.out
                        rcases hR.out with ⟨h3, _⟩ | ⟨_, h3, _⟩ | h3
                        · rw [decide_eq_false h3] at h5; cases h5
                        · rw [h3] at h5; simp at h5
                        · exact h3
                      obtain ⟨hz1, hz2, hz3, hz4⟩ := hz
                      have hcall : Hid (∀ W, Own W DH1 → Calls Tryz.prog 60 #[pt d, strV x, iv gd] W (RkPost d (x1, k2) DH1 W)) := fun W hW => by
                        have h3 := hr.out
                        rw [lastN, if_neg (by omega), hz3] at h3
                        rw [h3]
                        exact rcut d k1 DH1 x _ W hd1 hk1 hW
                      replace hz4 := Lib.hid hz4
                      clear hz1 hz2 hz3
                      go_wp2_with fail
                      refine (hcall.out _ (sp.own 0 rfl)).mono ?_
                      rintro e w6 ⟨rfl, DH', hd', hst⟩
                      have sp : Sp w DH w6 [DH', [(b, rlobj d p ea nl ec sa ns sc 0 false)], S, E, rwH X, FH, O, rwH X5] := sp.put 0 rfl hst
                      clear hst hcx0
                      simp only at hd' ⊢
                      obtain ⟨c0, c1', c2, c3, c4, c5'⟩ := rlobj_cells (sp.own 1 rfl)
                      have xlt := heap_lt (sp.own 1 rfl).h0
                      have s1 : Sp w DH _ [DH', [(b, rlobj d p ea nl ec sa ns sc 0 false)], S, E, rwH X, FH, O, rwH X5, [(w6.heap.size, .cells #[iv nx] 3 (0, 0))]] := sp.alloc _
                      go_upto_region 33 with (at_builtin; refine wpList_app rfl st_int _ _ rfl (by rfl) (by rfl) hsn1.out (s1.own 2 rfl) (rdCells_block (s1.own 8 rfl).h0 rfl (by simp [Value.oneCell'])) (by unfold maxLen; omega) (by omega) ?_; intro a9 c9 w9 H9 hv9 hst9; have s2 : Sp w DH w9 [DH', [(b, rlobj d p ea nl ec sa ns sc 0 false)], H9, E, rwH X, FH, O, rwH X5, _] := s1.put 2 rfl hst9; clear hst9 s1 c0 c1' c2 c3 c4 c5' xlt; have c3 := (rlobj_cells (s2.own 1 rfl)).2.2.2.1; have b0 := heap_lt (s2.own 1 rfl).h0; have fz := fun i => frz_of (i := i) (s2.own 1 rfl).h0; replace hv9 := Lib.hid hv9)
                      have s3 := s2.store 1 rfl (j := 3) (.slice a9 (ns + 1) c9)
                      replace s3 := s3.forget 8 rfl
                      have s3 : Sp w DH _ [DH', [(b, rlobj d p ea nl ec a9 (ns + 1) c9 0 false)], H9, E, rwH X, FH, O, rwH X5] := s3.perm (by simp)
                      refine Sp.gen s3 ?_
                      clear s3 s2 c3 b0 fz
                      intro W3 s3
                      have c2 := (rlobj_cells (s3.own 1 rfl)).2.2.1
                      have b0 := heap_lt (s3.own 1 rfl).h0
                      go_wp2_with (at_builtin; refine wpList_app rfl st_rows _ _ rfl (by rfl) (by rfl) hr1n.out (s3.own 3 rfl) (rows_cells hR5 (s3.own 6 rfl)) (by unfold maxLen; omega) (by omega) ?_; intro a8 c8 w8 H8 hv8 hst8; have s4 : Sp w DH w8 [DH', [(b, rlobj d p ea nl ec a9 (ns + 1) c9 0 false)], H9, H8, rwH X, FH, O, rwH X5] := s3.put 3 rfl hst8; clear hst8 c2 b0; have c2 := (rlobj_cells (s4.own 1 rfl)).2.2.1; have b0 := heap_lt (s4.own 1 rfl).h0; have fz := fun i => frz_of (i := i) (s4.own 1 rfl).h0; replace hv8 := Lib.hid hv8)
                      go_meet
                      have s5 := s4.store 1 rfl (j := 2) (.slice a8 (nl + X5.length) c8)
                      have e7 : (lg.L ++ rwD X5).length = nl + X5.length := by rw [List.length_append, ← hnl2.out, rwD_len]
                      have e8 : (lg.segs ++ [(nx, gd)]).length = ns + 1 := by rw [List.length_append, ← hns.out]; rfl
                      have s6 : Sp w DH _ [DH', [(b, rlobj d p a8 (nl + X5.length) c8 a9 (ns + 1) c9 0 false)], H9, H8, rwH X, FH, [], rwH X5] := s5.forget 6 rfl
                      have s7 : Sp w DH _ [DH', [(b, rlobj d p a8 (nl + X5.length) c8 a9 (ns + 1) c9 0 false)], H9, H8, rwH (X ++ X5), FH] := s6.perm (by rw [rwH_app]; simp only [List.flatten_cons, List.flatten_nil, List.nil_append, List.append_nil, List.append_assoc, List.cons_append]; (repeat (first | refine List.Perm.cons _ ?_ | refine List.Perm.append_left _ ?_)); exact List.perm_append_comm)
                      refine ⟨rfl, DH', _, H9, H8, _, hd', ?_, s7⟩
                      rw [hz4.out]
                      refine ⟨a9, a8, c9, c8, X ++ X5, ?_, rowsRep_app hv8.out (by rw [hXl.out]) hr0.2 hR5.2, by rw [rwD_app, hdX.out], rfl, ?_⟩
                      · show SlRep _ _ _ (lg.segs ++ [(nx, gd)]).length _ ((lg.segs ++ [(nx, gd)]).map fsC) _
                        rw [e8, List.map_append]
                        exact hv9.out
                      · show _ = [(b, rlobj d p a8 (lg.L ++ rwD X5).length c8 a9 (lg.segs ++ [(nx, gd)]).length c9 0 false)]
                        rw [e7, e8]
                  case rest =>
                    clear sp
                    obtain ⟨rfl, DH2, B2, S2, E2, XH2, hd2, hlg2, sp⟩ := hcut
                    by_cases hx0 : x1 = 0
                    · subst hx0
                      go_wp2_with fail
                      go_meet
                      exact ⟨lg2, k2, DH2, B2, S2, E2, XH2, by rw [g8.out], he2.out, hok, hd2, hlg2, sp, by have := g1.out; omega, by have := g2.out; omega, g7.out, g5.out⟩
                    · have q5 : ((x1 : Int) != 0) = true := by rw [bne_iff_ne]; omega
                      have hfin : Hid (openN p k = (x1, lg0, k2)) := by
                        show _ = _
                        rw [hop.out, he2.out]
                        exact if_pos hx0
                      replace hx0 := Lib.hid hx0
                      go_wp2_with fail
                      go_ret2
                      rw [hfin.out]
                      exact .inl ⟨hx0.out, rfl, DH2, hd2, Sp.of sp.first⟩
        · have i1 : (names.length : Int) ≤ (i : Int) := by omega
          have hwk := hh.walk
          rw [List.drop_eq_nil_of_le (by omega), walkN] at hwk
          have h1 := hh.many
          have h2 := hh.msegs
          replace hwk := Lib.hid hwk
          go_wp2_with fail
          go_meet
          exact ⟨lg, k, DH, B, S, E, XH, by rw [hwk.out], by rw [hwk.out]; rfl, hk, hd, hlg, sp, by omega, by omega, hh.bytes, hh.dead⟩
    case rest =>
      obtain ⟨lg, k1, DH1, B, S, E, XH, hwk, hek, hk1, hd1, hlg, sp, hm1, hm2, hm5, hm6⟩ := hcut
      clear spa hv hnf
      replace sp := sp.forget 5 rfl
      have sp : Sp w DH wc [DH1, B, S, E, XH] := sp.perm (by simp)
      have hop1 : openN p k = if (syncAll p lg.segs k1).1 ≠ 0 then ((syncAll p lg.segs k1).1, lg0, (syncAll p lg.segs k1).2) else (0, { lg with synced := lg.L.length }, (syncAll p lg.segs k1).2) := by
        rw [hop.out, hwk, hek]
        rfl
      replace hop1 := Lib.hid hop1
      clear hop
      replace hwk := Lib.hid hwk
      replace hek := Lib.hid hek
      replace hm5 := Lib.hid hm5
      replace hm6 := Lib.hid hm6
      obtain ⟨sa, ea, sc, ec, X, hs, hr, hdX, rfl, rfl⟩ := hlg
      have hm1i : (lg.L.length : Int) ≤ 1099511627776 := by omega
      obtain ⟨n, hn⟩ : ∃ n, n = lg.segs.length := ⟨_, rfl⟩
      obtain ⟨nl, hnl2⟩ : ∃ n, n = lg.L.length := ⟨_, rfl⟩
      have hcl := Lib.hid (fun V (hV : Own V S) (i : Nat) (hi : i < n) => fs_at hs hV (List.getElem?_eq_getElem (by rw [← hn]; exact hi) : lg.segs[i]? = some lg.segs[i]))
      have hscn : Hid (n ≤ sc) := by
        show _ ≤ _
        rw [hn]
        obtain ⟨_, ⟨_, e0, _, _⟩ | ⟨_, _, _, _, hsc1, hsc2, _⟩⟩ := hs
        · omega
        · exact hsc1
      rw [← hn] at hm2 sp
      rw [← hnl2] at sp hm1 hm1i
      have hin : Hid (RsyRel d p lg.segs k1 _ S E (rwH X) DH w (iv 0) wc) := ⟨0, k1, DH1, rfl, Nat.zero_le _, rfl, hk1, hd1, sp⟩
      obtain ⟨c0, c1, c2, c3, c4, c5⟩ := rlobj_cells (sp.own 1 rfl)
      have xlt := heap_lt (sp.own 1 rfl).h0
      have n4 : (n : Int) ≤ 4096 := by omega
      clear sp
      replace hn := Lib.hid hn
      replace hnl2 := Lib.hid hnl2
      replace hs := Lib.hid hs
      replace hr := Lib.hid hr
      replace hdX := Lib.hid hdX
      go_wp2_with fail
      go_loopw [21] (fun v21 wr => RsyRel d p lg.segs k1 [(b, rlobj d p ea nl ec sa n sc 0 false)] S E (rwH X) DH w v21 wr) (fun v _ => n - (intOf v).toNat)
      case atStart => exact hin.out
      case round =>
        clear hin c0 c1 c2 c3 c4 c5 xlt
        obtain ⟨j, k2, DH2, rfl, hj, hsy, hk2, hd2, sp⟩ := hrel
        rw [← hn.out] at hj
        have j0 : (0 : Int) ≤ (j : Int) := by omega
        obtain ⟨c0, c1, c2, c3, c4, c5⟩ := rlobj_cells (sp.own 1 rfl)
        have xlt := heap_lt (sp.own 1 rfl).h0
        by_cases hlt : j < n
        · have j1 : (j : Int) < (n : Int) := by omega
          obtain ⟨q, rfl, s0⟩ := hcl.out _ (sp.own 2 rfl) j hlt
          have hjl : j < lg.segs.length := by rw [← hn.out]; exact hlt
          obtain ⟨y, hy⟩ : ∃ y, y = lg.segs[j] := ⟨_, rfl⟩
          have hyb : y.1 ≤ 1099511627777 := by
            have h1 := (hm5.out y (by rw [hy]; exact List.getElem_mem _)).2
            have h2 := hnl2.out
            omega
          rw [← hy] at s0
          have hsd : syncAll p (lg.segs.drop j) k2 = if (gateN [nameN p y.1] (syI (nameN p y.1)) k2).1 ≠ 0 then gateN [nameN p y.1] (syI (nameN p y.1)) k2 else syncAll p (lg.segs.drop (j + 1)) (gateN [nameN p y.1] (syI (nameN p y.1)) k2).2 := by
            rw [List.drop_eq_getElem_cons hjl, ← hy, syncAll]
          have herr := gsy_err (nameN p y.1) k2
          have hok := gate_ok hk2 [nameN p y.1] (syI (nameN p y.1)) (fun _ => sy_ok hk2 _)
          have hds := Lib.hid (fun W hW => rsync d k2 DH2 (nameN p y.1) W hd2 hk2 hW)
          have hnmc := Lib.hid (fun W => rname_any p y.1 (by omega) (by omega) W)
          obtain ⟨⟨x1, k3⟩, hr3⟩ : ∃ r, r = gateN [nameN p y.1] (syI (nameN p y.1)) k2 := ⟨_, rfl⟩
          rw [← hr3] at hsd herr hok hds
          simp only at herr hok
          rw [hsd] at hsy
          simp only at hsy
          clear hsd
          replace hr3 := Lib.hid hr3
          replace hy := Lib.hid hy
          replace hcl := Lib.hid hcl
          generalize nameN p y.1 = nm at hds hnmc
          generalize y.1 = fi at s0 hnmc hyb
          have hsy := Lib.hid hsy
          have hq1i : (n : Int) ≤ (sc : Int) := by have := hscn.out; omega
          go_wp2_with fail
          refine (hnmc.out _).mono ?_
          rintro e w2 ⟨rfl, hst⟩
          have sp : Sp w DH w2 [DH2, [(b, rlobj d p ea nl ec (some ⟨q, 0, none⟩) n sc 0 false)], S, E, rwH X] := sp.still hst
          clear hst hnmc c0 c1 c2 c3 c4 c5 s0
          go_wp2_with fail
          refine (hds.out _ (sp.own 0 rfl)).mono ?_
          rintro e w3 ⟨rfl, DH3, hd3, hst⟩
          simp only at hd3 ⊢
          have sp : Sp w DH w3 [DH3, [(b, rlobj d p ea nl ec (some ⟨q, 0, none⟩) n sc 0 false)], S, E, rwH X] := sp.put 0 rfl hst
          clear hst hds
          by_cases hx0 : x1 = 0
          · subst hx0
            have hsy2 : Hid (syncAll p lg.segs k1 = syncAll p (lg.segs.drop (j + 1)) k3) := by show _ = _; rw [hsy.out]; rfl
            go_wp2_with fail
            exact ⟨⟨j + 1, k3, DH3, by go_num, hjl, hsy2.out, hok, hd3, sp⟩, by simp [intOf]; omega⟩
          · have q5 : ((x1 : Int) != 0) = true := by rw [bne_iff_ne]; omega
            have hfin : Hid (openN p k = (x1, lg0, k3)) := by
              show _ = _
              have := hsy.out
              rw [if_pos hx0] at this
              rw [hop1.out, this]
              exact if_pos hx0
            replace hx0 := Lib.hid hx0
            go_wp2_with fail
            go_ret2
            rw [hfin.out]
            exact .inl ⟨hx0.out, rfl, DH3, hd3, Sp.of sp.first⟩
        · have j1 : (n : Int) ≤ (j : Int) := by omega
          have hsy : syncAll p lg.segs k1 = (0, k2) := by rw [hsy, List.drop_eq_nil_of_le (by rw [← hn.out]; omega)]; rfl
          have hfin : Hid (openN p k = (0, { lg with synced := lg.L.length }, k2)) := by show _ = _; rw [hop1.out, hsy]; rfl
          clear hsy
          have fz := fun i => frz_of (i := i) (sp.own 1 rfl).h0
          have q1 : IntKind.i64.wrap ((nl : Int) + 1) = (nl : Int) + 1 := IntWalk.i64_in _ (by omega)
          go_wp2_with fail
          go_ret2
          rw [hfin.out]
          refine .inr ⟨rfl, b, DH2, _, S, E, _, rfl, ?_, hd2, sp.store 1 rfl (j := 4) (iv (nl + 1))⟩
          refine ⟨sa, ea, sc, ec, X, hs.out, hr.out, hdX.out, rfl, ?_⟩
          have h1 := hn.out
          have h2 := hnl2.out
          simp only [← h1, ← h2, hm6.out]
          rfl
end Go.Proofs.YtdolbeonpkanpaaGreatDoor
