/- The program's log: Open, walked. Disks and logs, without a program: what lies under a name; what keeps a log whole. -/
import Derived.Test.YtdolbeonpkanpaaGreatDoorMSgG
set_option linter.unusedVariables false
set_option linter.unusedSimpArgs false
namespace Go.Proofs.YtdolbeonpkanpaaGreatDoor
open Go.RowKit
attribute [local go_sem ↓] Go.wp_at_zero Go.wp_at_succ

def LoRel (b d : Nat) (p : Nm) (k : Dk) (names : List Nm) (DH FH : Heaplet) (w : World) (v51 : Value) (wr : World) : Prop :=
  ∃ (i : Nat) (lg : Lg) (B S E XH : Heaplet), v51 = iv i ∧ i ≤ names.length ∧ Half k p names i lg ∧ LgIs b d p lg B S E XH ∧ Sp w DH wr [DH, B, S, E, XH, FH]
def LoCut (b d : Nat) (p : Nm) (k : Dk) (names : List Nm) (FH K : Heaplet) (w : World) (wr : World) : Prop :=
  ∃ (lg : Lg) (k1 : Dk) (DH B S E XH : Heaplet), (walkN k p names lg0).1 = lg ∧ endN' (walkN k p names lg0).2 k = (0, k1) ∧ k1.Ok ∧ DkRep d k1 DH ∧ LgIs b d p lg B S E XH ∧ Sp w K wr [DH, B, S, E, XH, FH] ∧
    lg.L.length ≤ 1099511627776 ∧ lg.segs.length ≤ 4096 ∧ (∀ e ∈ lg.L, e.length ≤ 1073741824) ∧ lg.synced = 0 ∧ lg.dead = false ∧ (lg.segs = [] → lg.L = []) ∧ (∀ g ∈ lg.segs, g.2 ≤ 1073741824 ∧ g.1 ≤ lg.L.length + 1)
theorem tabK_sub {w0 w : World} {K A B : Heaplet} (h : TabK w0 K) (s : Step w0 K w (A ++ B)) : TabK w A := fun W H k => h W (H ++ B) (s.trans (Step.beside k s.own))
theorem rdNs_drop {w : World} {g o n c : Nat} {l : List Nm} (h : RdNs w (some ⟨g, o, none⟩) n c l) {i : Nat} (hi : i < l.length) : RdNs w (some ⟨g, o + i, none⟩) (n - i) (c - i) (l.drop i) := by
  obtain ⟨h1, h2, h3, h4⟩ := h
  refine ⟨by rw [List.length_drop, h1], by omega, by omega, fun _ => ?_⟩
  obtain ⟨b, off, e, hx⟩ := h4 (by intro e; subst e; simp at hi)
  cases e
  refine ⟨_, _, rfl, fun j x hj m v hm => ?_⟩
  rw [List.getElem?_drop] at hj
  have := hx _ _ hj m v hm
  rw [show o + i + j * 1 + m = o + (i + j) * 1 + m by omega]
  exact this
theorem rmAll_err : ∀ (l : List Nm) (k : Dk), (rmAll l k).1 ≤ 9
  | [], _ => Nat.zero_le _
  | s :: r, k => by
    rw [rmAll]
    split
    · exact grm_err s k
    · exact rmAll_err r _
theorem cuI_err (nm : Nm) (n : Int) (k : Dk) : (cuI nm n k).1 ≤ 9 := by unfold cuI; split <;> (try split) <;> simp
theorem lastN_err (s : Nm) (good : Int) (k : Dk) : (lastN s good k).1 ≤ 9 := by
  unfold lastN
  split
  · exact grm_err s k
  · have h1 := may_is k [s]
    have h2 := cuI_err s good k
    rcases gate_is [s] (cuI s good) k with ⟨h, e⟩ | ⟨h, _, e⟩ | ⟨h, _, e⟩ <;> rw [e] <;> (try simp only) <;> omega
theorem endsN_err (names : List Nm) (good : Int) (k : Dk) : (endsN names good k).1 ≤ 9 := by
  cases names with
  | nil => exact Nat.zero_le _
  | cons s r =>
    rw [endsN]
    split
    · exact rmAll_err _ _
    · exact lastN_err _ _ _
theorem endsN_ok {k : Dk} (hk : k.Ok) (names : List Nm) (good : Int) : (endsN names good k).2.Ok := by
  cases names with
  | nil => exact hk
  | cons s r =>
    rw [endsN]
    have h := rmAll_ok r.reverse k hk
    split
    · exact h
    · unfold lastN
      split
      · exact gate_ok h [s] (rmI s) (fun _ => rm_ok h s)
      · exact gate_ok h [s] (cuI s good) (fun _ => cu_ok h s good)
def SyRel (d : Nat) (p : Nm) (segs : List (Nat × Nat)) (k1 : Dk) (B S E XH K : Heaplet) (w : World) (v : Value) (wr : World) : Prop :=
  ∃ (j : Nat) (k2 : Dk) (DH : Heaplet), v = iv j ∧ j ≤ segs.length ∧ syncAll p segs k1 = syncAll p (segs.drop j) k2 ∧ k2.Ok ∧ DkRep d k2 DH ∧ Sp w K wr [DH, B, S, E, XH]
set_option maxHeartbeats 1000000 in
set_option maxRecDepth 100000 in
theorem lopen_any (d : Nat) (p : Nm) (k : Dk) (DH : Heaplet) (w : World) (hd : DkRep d k DH) (hk : k.Ok) (hw : Own w DH) (hT : TabK w DH) (hp1 : 1 ≤ p.length) (hp : p.length ≤ 50) :
    Calls Tryz.prog 20 #[pt d, strV p] w (OpPost d p (openN p k) DH w) := by
  have dp1 : (1 : Int) ≤ (p.length : Int) := by omega
  have dp2 : (p.length : Int) ≤ 50 := by omega
  have np := fun w b => nil_ptr w b
  have sp0 := Sp.start hw
  have hnm := Lib.hid (fun W DH hd hW => dnames d k DH W hd hk hW)
  have hkL := hk.many
  have hml : (k.L.map Prod.fst).length ≤ 4096 := by rw [List.length_map]; exact hkL
  have hn64 : ∀ s ∈ k.L.map Prod.fst, s.length ≤ 64 := fun s hs => by obtain ⟨e, he, rfl⟩ := List.mem_map.1 hs; exact hk.names e he
  have hfile : ∀ s ∈ k.L.map Prod.fst, isF k.L s = true := fun s hs => by obtain ⟨e, he, rfl⟩ := List.mem_map.1 hs; exact (isF_iff hk.sorted).2 ⟨e, he, rfl⟩
  have hop : Hid (openN p k = if (endN' (walkN k p ((k.L.map Prod.fst).filter (segN p)) lg0).2 k).1 ≠ 0 then ((endN' (walkN k p ((k.L.map Prod.fst).filter (segN p)) lg0).2 k).1, lg0, (endN' (walkN k p ((k.L.map Prod.fst).filter (segN p)) lg0).2 k).2)
    else if (syncAll p (walkN k p ((k.L.map Prod.fst).filter (segN p)) lg0).1.segs (endN' (walkN k p ((k.L.map Prod.fst).filter (segN p)) lg0).2 k).2).1 ≠ 0 then
    ((syncAll p (walkN k p ((k.L.map Prod.fst).filter (segN p)) lg0).1.segs (endN' (walkN k p ((k.L.map Prod.fst).filter (segN p)) lg0).2 k).2).1, lg0, (syncAll p (walkN k p ((k.L.map Prod.fst).filter (segN p)) lg0).1.segs (endN' (walkN k p ((k.L.map Prod.fst).filter (segN p)) lg0).2 k).2).2)
    else (0, { (walkN k p ((k.L.map Prod.fst).filter (segN p)) lg0).1 with synced := (walkN k p ((k.L.map Prod.fst).filter (segN p)) lg0).1.L.length }, (syncAll p (walkN k p ((k.L.map Prod.fst).filter (segN p)) lg0).1.segs (endN' (walkN k p ((k.L.map Prod.fst).filter (segN p)) lg0).2 k).2).2)) := rfl
  obtain ⟨L, hL⟩ : ∃ L, L = k.L.map Prod.fst := ⟨_, rfl⟩
  rw [← hL] at hop hml hn64 hfile hnm
  replace hL := Lib.hid hL
  replace hn64 := Lib.hid hn64
  replace hfile := Lib.hid hfile
  clear hkL
  have hmli : (L.length : Int) ≤ 4096 := by omega
  go_enter Tryz.func20, Tryz.ntmps20
  go_wp2_with fail
  refine (hnm.out w DH hd hw).mono ?_
  rintro e w1 ⟨a1, c1, N0, rfl, r1, hst⟩
  have sp : Sp w DH w1 [DH, N0] := sp0.fresh hst
  clear hst hnm sp0
  have hc1 : Hid (∀ V, Own V N0 → ∀ i, i < L.length → ∃ g x, L[i]? = some x ∧ a1 = some ⟨g, 0, none⟩ ∧ L.length ≤ c1 ∧ V.cell? ⟨g, i, none⟩ = some (strV x)) := fun V hV i hi => by
    have hx := List.getElem?_eq_getElem hi
    have hN := r1.rdNs hV
    obtain ⟨g, o, e, h2⟩ := hN.at' hx
    have h3 := h2 0 _ rfl
    obtain ⟨_, ⟨e', _⟩ | ⟨g', cur, e', _⟩⟩ := r1
    · rw [e] at e'; cases e'
    · rw [e'] at e
      cases e
      refine ⟨_, _, hx, e', hN.2.1, ?_⟩
      simpa using h3
  have hin : Hid (FiRel d p k L DH N0 w (.slice none 0 0) (iv 0) w1) := ⟨0, none, 0, [], rfl, Nat.zero_le _, by simp, by simpa using SlRep.nil _ _, by
    have := sp.fresh (Step.refl (Own.nil w1))
    exact this⟩
  clear sp r1
  go_upto_block 0 with fail
  go_cut [6] (fun v6 wc => FiCut p L DH N0 w v6 wc)
  case first =>
    go_wp2_with fail
    go_loopw [6, 33] (fun v6 v33 wr => FiRel d p k L DH N0 w v6 v33 wr) (fun _ v _ => L.length - (intOf v).toNat)
    case atStart => exact hin.out
    case round =>
      clear hin
      obtain ⟨i, a6, c6, FH, rfl, hi, rfl, hv, sp⟩ := hrel
      have i0 : (0 : Int) ≤ (i : Int) := by omega
      by_cases hlt : i < L.length
      · obtain ⟨g, x, hx, rfl, k0, r0⟩ := hc1.out _ (sp.own 1 rfl) i hlt
        have i1 : (i : Int) < (L.length : Int) := by omega
        have i2 : (L.length : Int) ≤ (c1 : Int) := by omega
        have hxm : x ∈ L := List.mem_of_getElem? hx
        have hx64 := hn64.out x hxm
        have hseg := Lib.hid (isSeg_any x p (by omega) wr)
        have htk : (L.take (i + 1)).filter (segN p) = (L.take i).filter (segN p) ++ (if segN p x = true then [x] else []) := by
          obtain ⟨hl, e⟩ := List.getElem?_eq_some_iff.1 hx
          rw [List.take_succ_eq_append_getElem hl, e, List.filter_append, List.filter_cons]
          simp
        obtain ⟨F, hF⟩ : ∃ F, F = (L.take i).filter (segN p) := ⟨_, rfl⟩
        rw [← hF] at hv htk ⊢
        have hFl : F.length ≤ 4096 := by rw [hF]; exact Nat.le_trans (List.length_filter_le _ _) (by rw [List.length_take]; omega)
        have hFli : (F.length : Int) ≤ 4096 := by omega
        replace hF := Lib.hid hF
        clear hx hxm
        replace hc1 := Lib.hid hc1
        replace hv := Lib.hid hv
        cases hsg : segN p x with
        | false =>
          rw [hsg] at hseg htk
          replace htk := Lib.hid htk
          replace hsg := Lib.hid hsg
          go_wp2_with fail
          refine hseg.out.mono ?_
          rintro e w3 ⟨rfl, hst⟩
          have sp : Sp w DH w3 [DH, N0, FH] := sp.still hst
          go_wp2_with fail
          have htk2 : (L.take (i + 1)).filter (segN p) = F := by rw [htk.out]; simp
          exact ⟨⟨i + 1, a6, c6, FH, by go_num, hlt, by rw [htk2], by rw [htk2]; exact hv.out, sp⟩, by simp [intOf]; omega⟩
        | true =>
          rw [hsg] at hseg htk
          replace htk := Lib.hid htk
          replace hsg := Lib.hid hsg
          go_wp2_with fail
          refine hseg.out.mono ?_
          rintro e w3 ⟨rfl, hst⟩
          have sp : Sp w DH w3 [DH, N0, FH] := sp.still hst
          have sp2 : Sp w DH _ [DH, N0, FH, [(w3.heap.size, .cells #[strV x] 9 (0, 0))]] := sp.alloc _
          go_wp2_with (at_builtin; refine wpList_app rfl rst_str _ _ rfl (by rfl) (by rfl) hv.out (sp2.own 2 rfl) (rdCells_block (heap_alloc_new _ _) rfl (by simp [Value.oneCell'])) (by unfold maxLen; omega) (by omega) ?_; intro a3 c3 w4 H3 hv3 hst3; have sp3 : Sp w DH w4 [DH, N0, H3, _] := sp2.put 2 rfl hst3; replace hv3 := Lib.hid hv3)
          have htk2 : (L.take (i + 1)).filter (segN p) = F ++ [x] := by rw [htk.out]; simp
          exact ⟨⟨i + 1, a3, c3, H3, by go_num, hlt, by rw [htk2, List.length_append]; rfl, by rw [htk2, List.length_append, List.map_append]; exact hv3.out, (sp3.forget 3 rfl).perm (by simp)⟩, by simp [intOf]; omega⟩
      · have i1 : (L.length : Int) ≤ (i : Int) := by omega
        have hta : L.take i = L := List.take_of_length_le (by omega)
        rw [hta] at hv ⊢
        go_wp2_with fail
        go_meet
        exact ⟨a6, c6, FH, rfl, hv, sp⟩
  case rest =>
    obtain ⟨a6, c6, FH, rfl, hv, sp⟩ := hcut
    clear hin hc1
    obtain ⟨names, hnames⟩ : ∃ names, names = L.filter (segN p) := ⟨_, rfl⟩
    rw [← hnames] at hv hop ⊢
    have hnl : names.length ≤ 4096 := by rw [hnames]; exact Nat.le_trans (List.length_filter_le _ _) hml
    have hnf : Hid (∀ x ∈ names, isF k.L x = true ∧ x.length ≤ 64) := fun x hx => by
      rw [hnames] at hx
      have := (List.mem_filter.1 hx).1
      exact ⟨hfile.out x this, hn64.out x this⟩
    have hnli : (names.length : Int) ≤ 4096 := by omega
    replace hnames := Lib.hid hnames
    replace sp := sp.forget 1 rfl
    have sp : Sp w DH wc [DH, FH] := sp.perm (by simp)
    have spa := sp.alloc (.cells #[pt d, strV p, .slice none 0 0, .slice none 0 0, iv 0, .bool false] 86 (0, 0))
    go_upto_block 2 with fail
    refine Sp.gen spa ?_
    clear spa
    intro W0 spa
    obtain ⟨b, hb⟩ : ∃ b, b = wc.heap.size := ⟨_, rfl⟩
    rw [← hb] at spa ⊢
    clear hb sp
    go_cut [51] (fun _ wr => LoCut b d p k names FH DH w wr)
    case first =>
      have hin : Hid (LoRel b d p k names DH FH w (iv 0) W0) :=
        ⟨0, lg0, _, [], [], [], rfl, Nat.zero_le _, half_start k p names, ⟨none, none, 0, 0, [], SlRep.nil _ _, ⟨SlRep.nil _ _, by simp⟩, rfl, rfl, rfl⟩, spa.perm (by simp only [List.flatten_cons, List.flatten_nil, List.nil_append, List.append_nil, List.cons_append, List.append_assoc]; exact List.Perm.append_left _ List.perm_append_comm)⟩
      clear spa
      go_wp2_with fail
      go_loopw [51] (fun v51 wr => LoRel b d p k names DH FH w v51 wr) (fun v _ => names.length - (intOf v).toNat)
      case atStart => exact hin.out
      case round =>
        clear hin
        obtain ⟨i, lg, B, S, E, XH, rfl, hi, hh, hlg, sp⟩ := hrel
        have i0 : (0 : Int) ≤ (i : Int) := by omega
        by_cases hlt : i < names.length
        · have i1 : (i : Int) < (names.length : Int) := by omega
          obtain ⟨x, hx⟩ : ∃ x, x = names[i] := ⟨_, rfl⟩
          obtain ⟨f1, f2⟩ := hnf.out x (hx ▸ List.getElem_mem _)
          have hr := half_read hk hh hlt
          rw [← hx] at hr
          have hN0 := hv.rdNs (sp.own 5 rfl)
          obtain ⟨g, o, rfl, _⟩ := hN0.2.2.2 (by intro e; subst e; simp at hlt)
          have hNc := hN0.2.1
          have hNd : Hid (∀ V, Own V FH → RdNs V (some ⟨g, o + i, none⟩) (names.length - i) (c6 - i) (names.drop i)) := fun V hV => rdNs_drop (hv.rdNs hV) hlt
          have hcx : Hid (∀ V, Own V FH → V.cell? ⟨g, o + i, none⟩ = some (strV x)) := fun V hV => by
            obtain ⟨g', o', e', h2⟩ := (hv.rdNs hV).at' (List.getElem?_eq_getElem hlt)
            cases e'
            have := h2 0 _ rfl
            rw [hx]
            simpa using this
          have hst5 : Step w DH wr ([DH, B, S, E, XH].flatten ++ FH) := sp.out (by simp)
          have h1 := hh.many
          have h2 := hh.msegs
          have hrd := Lib.hid (reads_any b d p x lg k DH B S E XH wr wr ([DH, B, S, E, XH].flatten) hd hk hlg (show Sp wr _ wr _ from Step.refl hst5.own.left) (tabK_sub hT hst5) (by omega) (by omega) (by omega) (by omega) hh.ents f1)
          obtain ⟨⟨good, whole, lg2⟩, hrr⟩ : ∃ r, r = readN p k lg x := ⟨_, rfl⟩
          rw [← hrr] at hrd hr
          simp only at hr
          obtain ⟨g1, g2, g3, g4, g5, g6, g7, g8⟩ := hr
          replace hrr := Lib.hid hrr
          have hcx0 := hcx.out _ (sp.own 5 rfl)
          have hdrop : names.drop i ≠ [] := by intro e; have := congrArg List.length e; rw [List.length_drop] at this; simp at this; omega
          have dn : ¬ c6 = i := by omega
          have di : (i : Int) ≤ (names.length : Int) := by omega
          have dc : (names.length : Int) ≤ (c6 : Int) := by omega
          clear hh h1 h2 hN0 hnf f1 f2
          replace hx := Lib.hid hx
          replace hv := Lib.hid hv
          replace g4 := Lib.hid g4
          replace g5 := Lib.hid g5
          replace g6 := Lib.hid g6
          replace g7 := Lib.hid g7
          replace g8 := Lib.hid g8
          replace g3 := Lib.hid g3
          replace hdrop := Lib.hid hdrop
          go_wp2_with fail
          refine hrd.out.mono ?_
          rintro e w2 ⟨rfl, B1, S1, E1, XH1, hlg2, hst⟩
          simp only at hlg2
          have sp2 : Sp w DH w2 [DH, B1, S1, E1, XH1, FH] := by
            have := hst5.trans (Step.beside hst hst5.own)
            simpa [Sp] using this
          clear hst hst5 sp hcx0
          cases whole with
          | true =>
            have g8 : walkN k p names lg0 = walkN k p (names.drop (i + 1)) lg2 := by rw [g8.out, if_pos rfl]
            replace g8 := Lib.hid g8
            go_wp2_with fail
            exact ⟨⟨i + 1, lg2, B1, S1, E1, XH1, by go_num, hlt, ⟨g8.out, g1, g2, g3.out, g4.out, g5.out, g6.out, g7.out⟩, hlg2, sp2⟩, by simp [intOf]; omega⟩
          | false =>
            have g8 : walkN k p names lg0 = (lg2, some (names.drop i, good)) := by rw [g8.out, if_neg (by simp)]
            replace g8 := Lib.hid g8
            have hends := Lib.hid (ends_any b d p lg2 k DH B1 S1 E1 XH1 FH w w2 DH hd hk hlg2 sp2 _ _ _ (names.drop i) hNd.out hdrop.out good)
            have hee : Hid (endN' (walkN k p names lg0).2 k = endsN (names.drop i) good k) := by show _ = _; rw [g8.out]; rfl
            have he9 := endsN_err (names.drop i) good k
            have hok := endsN_ok hk (names.drop i) good
            obtain ⟨⟨x1, k1⟩, hr⟩ : ∃ r, r = endsN (names.drop i) good k := ⟨_, rfl⟩
            rw [← hr] at hends hee he9 hok
            simp only at he9 hok
            replace hr := Lib.hid hr
            go_wp2_with fail
            refine hends.out.mono ?_
            rintro e w3 ⟨rfl, DH1, hd1, sp3⟩
            simp only at hd1 ⊢
            clear sp2 hends
            by_cases hx0 : x1 = 0
            · subst hx0
              go_wp2_with fail
              go_meet
              exact ⟨lg2, k1, DH1, B1, S1, E1, XH1, by rw [g8.out], hee.out, hok, hd1, hlg2, sp3, by omega, by omega, g3.out, g4.out, g5.out, g6.out, g7.out⟩
            · have q5 : ((x1 : Int) != 0) = true := by rw [bne_iff_ne]; omega
              have hfin : Hid (openN p k = (x1, lg0, k1)) := by show _ = _; rw [hop.out, hee.out]; exact if_pos hx0
              have hx0 := Lib.hid hx0
              go_wp2_with fail
              go_ret2
              rw [hfin.out]
              exact .inl ⟨hx0.out, rfl, DH1, hd1, Sp.of sp3.first⟩
        · have i1 : (names.length : Int) ≤ (i : Int) := by omega
          have hwk := hh.walk
          rw [List.drop_eq_nil_of_le (by omega), walkN] at hwk
          have h1 := hh.many
          have h2 := hh.msegs
          replace hwk := Lib.hid hwk
          go_wp2_with fail
          go_meet
          exact ⟨lg, k, DH, B, S, E, XH, by rw [hwk.out], by rw [hwk.out]; rfl, hk, hd, hlg, sp, by omega, by omega, hh.ents, hh.synced, hh.dead, hh.segs, hh.bytes⟩
    case rest =>
      obtain ⟨lg, k1, DH1, B, S, E, XH, hwk, hek, hk1, hd1, hlg, sp, hm1, hm2, hm3, hm4, hm5, hm6, hm7⟩ := hcut
      clear spa hv hnf
      replace sp := sp.forget 5 rfl
      have sp : Sp w DH wc [DH1, B, S, E, XH] := sp.perm (by simp)
      have hop1 : openN p k = if (syncAll p lg.segs k1).1 ≠ 0 then ((syncAll p lg.segs k1).1, lg0, (syncAll p lg.segs k1).2) else (0, { lg with synced := lg.L.length }, (syncAll p lg.segs k1).2) := by
        rw [hop.out, hwk, hek]
        rfl
      replace hop1 := Lib.hid hop1
      clear hop
      replace hwk := Lib.hid hwk
      replace hek := Lib.hid hek
      replace hm3 := Lib.hid hm3
      replace hm4 := Lib.hid hm4
      replace hm5 := Lib.hid hm5
      replace hm6 := Lib.hid hm6
      replace hm7 := Lib.hid hm7
      obtain ⟨sa, ea, sc, ec, X, hs, hr, hdX, rfl, rfl⟩ := hlg
      have hbe := hm5.out
      have hm1i : (lg.L.length : Int) ≤ 1099511627776 := by omega
      obtain ⟨n, hn⟩ : ∃ n, n = lg.segs.length := ⟨_, rfl⟩
      obtain ⟨nl, hnl2⟩ : ∃ n, n = lg.L.length := ⟨_, rfl⟩
      have hcl := Lib.hid (fun V (hV : Own V S) (i : Nat) (hi : i < n) => sg_at hs hV (List.getElem?_eq_getElem (by rw [← hn]; exact hi) : lg.segs[i]? = some lg.segs[i]))
      rw [← hn] at hm2 sp
      rw [← hnl2] at sp hm1 hm1i
      have hin : Hid (SyRel d p lg.segs k1 _ S E (rwH X) DH w (iv 0) wc) := ⟨0, k1, DH1, rfl, Nat.zero_le _, rfl, hk1, hd1, sp⟩
      obtain ⟨c0, c1, c2, c3, c4, c5⟩ := lobj_cells (sp.own 1 rfl)
      have xlt := heap_lt (sp.own 1 rfl).h0
      have n4 : (n : Int) ≤ 4096 := by omega
      clear sp
      replace hn := Lib.hid hn
      replace hnl2 := Lib.hid hnl2
      replace hs := Lib.hid hs
      replace hr := Lib.hid hr
      replace hdX := Lib.hid hdX
      go_wp2_with fail
      go_loopw [78] (fun v78 wr => SyRel d p lg.segs k1 [(b, lobj d p sa n sc ea nl ec lg.synced lg.dead)] S E (rwH X) DH w v78 wr) (fun v _ => n - (intOf v).toNat)
      case atStart => exact hin.out
      case round =>
        clear hin c0 c1 c2 c3 c4 c5 xlt
        obtain ⟨j, k2, DH2, rfl, hj, hsy, hk2, hd2, sp⟩ := hrel
        rw [← hn.out] at hj
        have j0 : (0 : Int) ≤ (j : Int) := by omega
        by_cases hlt : j < n
        · have j1 : (j : Int) < (n : Int) := by omega
          obtain ⟨q, rfl, hq1, hq2, s0, s1, _⟩ := hcl.out _ (sp.own 2 rfl) j hlt
          rw [← hn.out] at hq1
          have hjl : j < lg.segs.length := by rw [← hn.out]; exact hlt
          obtain ⟨y, hy⟩ : ∃ y, y = lg.segs[j] := ⟨_, rfl⟩
          rw [← hy] at s0 s1
          have hsd : syncAll p (lg.segs.drop j) k2 = if (gateN [nameN p y.1] (syI (nameN p y.1)) k2).1 ≠ 0 then gateN [nameN p y.1] (syI (nameN p y.1)) k2 else syncAll p (lg.segs.drop (j + 1)) (gateN [nameN p y.1] (syI (nameN p y.1)) k2).2 := by
            rw [List.drop_eq_getElem_cons hjl, ← hy, syncAll]
          have herr := gsy_err (nameN p y.1) k2
          have hok := gate_ok hk2 [nameN p y.1] (syI (nameN p y.1)) (fun _ => sy_ok hk2 _)
          have hds := Lib.hid (fun W hW => dsync d k2 DH2 (nameN p y.1) W hd2 hk2 hW)
          obtain ⟨⟨x1, k3⟩, hr3⟩ : ∃ r, r = gateN [nameN p y.1] (syI (nameN p y.1)) k2 := ⟨_, rfl⟩
          rw [← hr3] at hsd herr hok hds
          simp only at herr hok
          rw [hsd] at hsy
          simp only at hsy
          have sp2 : Sp w DH _ [DH2, [(b, lobj d p (some ⟨q, 0, none⟩) n sc ea nl ec lg.synced lg.dead)], S, E, rwH X, [(wr.heap.size, .cells #[strV (nameN p y.1), iv y.2] 92 (0, 0))]] := sp.alloc _
          clear hsd sp
          replace hr3 := Lib.hid hr3
          replace hy := Lib.hid hy
          replace hcl := Lib.hid hcl
          generalize nameN p y.1 = nm at *
          have hsy := Lib.hid hsy
          have hq1i : (n : Int) ≤ (sc : Int) := by omega
          go_wp2_with fail
          refine (hds.out _ (sp2.own 0 rfl)).mono ?_
          rintro e w3 ⟨rfl, DH3, hd3, hst⟩
          simp only at hd3 ⊢
          have sp3 : Sp w DH w3 [DH3, _, S, E, rwH X, _] := sp2.put 0 rfl hst
          replace sp3 := sp3.forget 5 rfl
          have sp3 : Sp w DH w3 [DH3, [(b, lobj d p (some ⟨q, 0, none⟩) n sc ea nl ec lg.synced lg.dead)], S, E, rwH X] := sp3.perm (by simp)
          clear hst sp2 hds
          by_cases hx0 : x1 = 0
          · subst hx0
            have hsy2 : Hid (syncAll p lg.segs k1 = syncAll p (lg.segs.drop (j + 1)) k3) := by show _ = _; rw [hsy.out]; rfl
            go_wp2_with fail
            exact ⟨⟨j + 1, k3, DH3, by go_num, hjl, hsy2.out, hok, hd3, sp3⟩, by simp [intOf]; omega⟩
          · have q5 : ((x1 : Int) != 0) = true := by rw [bne_iff_ne]; omega
            have hfin : Hid (openN p k = (x1, lg0, k3)) := by
              show _ = _
              have := hsy.out
              rw [if_pos hx0] at this
              rw [hop1.out, this]
              exact if_pos hx0
            replace hx0 := Lib.hid hx0
            go_wp2_with fail
            go_ret2
            rw [hfin.out]
            exact .inl ⟨hx0.out, rfl, DH3, hd3, Sp.of sp3.first⟩
        · have j1 : (n : Int) ≤ (j : Int) := by omega
          obtain ⟨c0, c1, c2, c3, c4, c5⟩ := lobj_cells (sp.own 1 rfl)
          have xlt := heap_lt (sp.own 1 rfl).h0
          have hsy : syncAll p lg.segs k1 = (0, k2) := by rw [hsy, List.drop_eq_nil_of_le (by rw [← hn.out]; omega)]; rfl
          have hfin : Hid (openN p k = (0, { lg with synced := lg.L.length }, k2)) := by show _ = _; rw [hop1.out, hsy]; rfl
          clear hsy
          have fz := fun i => frz_of (i := i) (sp.own 1 rfl).h0
          go_wp2_with fail
          go_ret2
          rw [hfin.out]
          refine .inr ⟨rfl, b, DH2, _, S, E, _, rfl, ?_, hd2, sp.store 1 rfl (j := 4) (iv nl)⟩
          refine ⟨sa, ea, sc, ec, X, hs.out, hr.out, hdX.out, rfl, ?_⟩
          have h1 := hn.out
          have h2 := hnl2.out
          simp only [← h1, ← h2]
          rfl
end Go.Proofs.YtdolbeonpkanpaaGreatDoor
namespace Go.Proofs.YtdolbeonpkanpaaGreatDoor
/-- What lies under a name. -/
def fget (L : List Fl) (nm : Nm) : Option (List UInt8 × Nat) := if isF L nm = true then some (getF L nm) else none
theorem fget_iff {L : List Fl} (hs : SortedF L) {nm : Nm} {v : List UInt8 × Nat} : fget L nm = some v ↔ (nm, v) ∈ L := by
  unfold fget
  constructor
  · intro h
    split at h
    · rename_i hi
      cases h
      exact isF_mem hi
    · cases h
  · intro h
    obtain ⟨h1, h2⟩ := get_of_mem hs h
    rw [if_pos h1, h2]
theorem fget_ext {A B : List Fl} (ha : SortedF A) (hb : SortedF B) {x y : Nm} (h : ∀ v, (x, v) ∈ A ↔ (y, v) ∈ B) : fget A x = fget B y := by
  apply Option.ext
  intro v
  rw [fget_iff ha, fget_iff hb]
  exact h v
theorem mem_set_iff {L : List Fl} (hs : SortedF L) {x : Nm} (h : isF L x = true) (v : List UInt8 × Nat) (e : Fl) : e ∈ setF L x v ↔ e = (x, v) ∨ (e ∈ L ∧ e.1 ≠ x) := by
  obtain ⟨h1, h2, _⟩ := partF h
  have hne : ∀ e ∈ L.take (spotN L x) ++ L.drop (spotN L x + 1), e.1 ≠ x := by
    rw [h1] at hs
    unfold SortedF at hs
    rw [List.pairwise_append, List.pairwise_cons] at hs
    intro e he hx
    rcases List.mem_append.1 he with he | he
    · have := hs.2.2 e he _ (List.mem_cons_self ..)
      rw [hx] at this
      exact nm_irr _ this
    · have := hs.2.1.1 e he
      rw [hx] at this
      exact nm_irr _ this
  have h3 : e ∈ L ↔ e = (x, getF L x) ∨ e ∈ L.take (spotN L x) ++ L.drop (spotN L x + 1) := by
    conv => lhs; rw [h1]
    simp only [List.mem_append, List.mem_cons]
    exact ⟨fun h => by rcases h with h | h | h <;> simp [h], fun h => by rcases h with h | h | h <;> simp [h]⟩
  rw [h2, h3]
  constructor
  · intro he
    have he : e = (x, v) ∨ e ∈ L.take (spotN L x) ++ L.drop (spotN L x + 1) := by
      simp only [List.mem_append, List.mem_cons] at he ⊢
      rcases he with he | he | he <;> simp [he]
    rcases he with he | he
    · exact .inl he
    · exact .inr ⟨.inr he, hne e he⟩
  · intro he
    rcases he with rfl | ⟨rfl | he, hx⟩
    · simp
    · exact absurd rfl hx
    · simp only [List.mem_append, List.mem_cons] at he ⊢
      rcases he with he | he <;> simp [he]
theorem fget_set {L : List Fl} (hs : SortedF L) {x : Nm} (h : isF L x = true) (v : List UInt8 × Nat) (nm : Nm) : fget (setF L x v) nm = if nm = x then some v else fget L nm := by
  have h2 := sorted_set hs h v
  split
  · rename_i e
    subst e
    rw [fget_iff h2, mem_set_iff hs h]
    exact .inl rfl
  · rename_i e
    refine fget_ext h2 hs fun u => ?_
    rw [mem_set_iff hs h]
    constructor
    · rintro (he | he)
      · cases he; exact absurd rfl e
      · exact he.1
    · exact fun he => .inr ⟨he, e⟩
theorem fget_ins {L : List Fl} (hs : SortedF L) {x : Nm} (h : isF L x = false) (v : List UInt8 × Nat) (nm : Nm) : fget (insF L x v) nm = if nm = x then some v else fget L nm := by
  have h2 := sorted_ins hs h v
  split
  · rename_i e
    subst e
    rw [fget_iff h2, (ins_perm L nm v).mem_iff]
    exact List.mem_cons_self ..
  · rename_i e
    refine fget_ext h2 hs fun u => ?_
    rw [(ins_perm L x v).mem_iff]
    constructor
    · intro he
      rcases List.mem_cons.1 he with he | he
      · cases he; exact absurd rfl e
      · exact he
    · exact List.mem_cons_of_mem _
theorem fget_del {L : List Fl} (hs : SortedF L) (x nm : Nm) : fget (delF L x) nm = if nm = x then none else fget L nm := by
  have h2 := sorted_del hs x
  split
  · rename_i e
    subst e
    unfold fget
    rw [del_no hs]
    simp
  · rename_i e
    refine fget_ext h2 hs fun u => ?_
    cases hi : isF L x with
    | false => unfold delF; rw [hi]; simp
    | true =>
      obtain ⟨h1, _, h3⟩ := partF hi
      rw [h3]
      conv => rhs; rw [h1]
      simp only [List.mem_append, List.mem_cons]
      constructor
      · rintro (h | h) <;> simp [h]
      · rintro (h | h | h)
        · simp [h]
        · cases h; exact absurd rfl e
        · simp [h]
theorem rdN_fget (nm : Nm) (k : Dk) : rdN nm k = match fget k.L nm with | some v => (v.1, 0) | none => ([], 7) := by
  unfold rdN fget
  cases isF k.L nm <;> rfl
theorem rdN_congr {k k' : Dk} {nm : Nm} (h : fget k'.L nm = fget k.L nm) : rdN nm k' = rdN nm k := by rw [rdN_fget, rdN_fget, h]
theorem isF_fget {L : List Fl} {nm : Nm} : isF L nm = (fget L nm).isSome := by
  unfold fget
  cases isF L nm <;> rfl
theorem getF_fget {L : List Fl} {nm : Nm} {v : List UInt8 × Nat} (h : fget L nm = some v) : isF L nm = true ∧ getF L nm = v := by
  unfold fget at h
  split at h
  · rename_i hi; exact ⟨hi, by cases h; rfl⟩
  · cases h
theorem isF_rd {k : Dk} {nm : Nm} : isF k.L nm = decide ((rdN nm k).2 = 0) := by
  unfold rdN
  cases isF k.L nm <;> rfl
/-! ## through the gate -/
theorem sy_fget {k : Dk} (hk : k.Ok) (x nm : Nm) : (fget (gateN [x] (syI x) k).2.L nm).map Prod.fst = (fget k.L nm).map Prod.fst ∧ ((gateN [x] (syI x) k).1 = 0 → fget (gateN [x] (syI x) k).2.L x = (fget k.L x).map fun v => (v.1, v.1.length)) ∧ (nm ≠ x → fget (gateN [x] (syI x) k).2.L nm = fget k.L nm) := by
  by_cases hi : isF k.L x = true
  · have e : syI x k = (0, { k with L := setF k.L x ((getF k.L x).1, (getF k.L x).1.length) }) := by unfold syI; rw [if_pos hi]
    have hx : fget k.L x = some (getF k.L x) := by unfold fget; rw [if_pos hi]
    rcases gate_is [x] (syI x) k with ⟨h, e2⟩ | ⟨h, h3, e2⟩ | ⟨h, h3, e2⟩
    · rw [e2]; exact ⟨rfl, fun h4 => absurd h4 h, fun _ => rfl⟩
    · rw [e2, e]
      show (fget (setF k.L x _) nm).map Prod.fst = _ ∧ (_ → fget (setF k.L x _) x = _) ∧ (_ → fget (setF k.L x _) nm = _)
      rw [fget_set hk.sorted hi, fget_set hk.sorted hi, if_pos rfl]
      refine ⟨?_, fun _ => by rw [hx]; rfl, fun hn => if_neg hn⟩
      split
      · rename_i e3; subst e3; rw [hx]; rfl
      · rfl
    · rw [e] at h3; exact absurd rfl h3
  · have e : syI x k = (7, k) := by unfold syI; rw [if_neg hi]
    rcases gate_is [x] (syI x) k with ⟨h, e2⟩ | ⟨h, h3, e2⟩ | ⟨h, h3, e2⟩
    · rw [e2]; exact ⟨rfl, fun h4 => absurd h4 h, fun _ => rfl⟩
    · rw [e] at h3; cases h3
    · rw [e2, e]; exact ⟨rfl, ⟨fun h4 => absurd h4 (show ¬ (7 : Nat) = 0 by decide), fun _ => rfl⟩⟩
theorem sy_rd {k : Dk} (hk : k.Ok) (x nm : Nm) : rdN nm (gateN [x] (syI x) k).2 = rdN nm k := by
  have h := (sy_fget hk x nm).1
  rw [rdN_fget, rdN_fget]
  cases h1 : fget (gateN [x] (syI x) k).2.L nm <;> cases h2 : fget k.L nm <;> rw [h1, h2] at h <;> simp_all
theorem wr_fget {k : Dk} (hk : k.Ok) (x : Nm) (l : List UInt8) (nm : Nm) :
    fget (gateN [x] (wrI x l) k).2.L nm = if (gateN [x] (wrI x l) k).1 = 0 ∧ nm = x then some ((rdN x k).1 ++ l, ((fget k.L x).getD ([], 0)).2) else fget k.L nm := by
  rcases gate_is [x] (wrI x l) k with ⟨h, e2⟩ | ⟨h, h3, e2⟩ | ⟨h, h3, e2⟩
  · rw [e2, if_neg (fun h4 => h h4.1)]
  · rw [e2]
    show fget (wrI x l k).2.L nm = _
    unfold wrI at h3 ⊢
    split at h3
    · cases h3
    · rename_i hc
      rw [if_neg hc]
      by_cases hi : isF k.L x = true
      · have hx : fget k.L x = some (getF k.L x) := by unfold fget; rw [if_pos hi]
        rw [if_pos hi]
        show fget (setF k.L x _) nm = _
        rw [fget_set hk.sorted hi, rdN_fget, hx]
        by_cases e : nm = x
        · rw [if_pos e, if_pos ⟨rfl, e⟩]; rfl
        · rw [if_neg e, if_neg (fun h => e h.2)]
      · have hx : fget k.L x = none := by unfold fget; rw [if_neg hi]
        rw [if_neg hi]
        show fget (insF k.L x _) nm = _
        rw [fget_ins hk.sorted (by simpa using hi), rdN_fget, hx]
        by_cases e : nm = x
        · rw [if_pos e, if_pos ⟨rfl, e⟩]; rfl
        · rw [if_neg e, if_neg (fun h => e h.2)]
  · have e3 : wrI x l k = ((wrI x l k).1, k) := by
      unfold wrI at h3 ⊢
      split
      · rfl
      · rename_i hc
        rw [if_neg hc] at h3
        split at h3 <;> exact absurd rfl h3
    rw [e2, if_neg (fun h4 => h3 h4.1), e3]
theorem wr_rd {k : Dk} (hk : k.Ok) (x : Nm) (l : List UInt8) (nm : Nm) :
    rdN nm (gateN [x] (wrI x l) k).2 = if (gateN [x] (wrI x l) k).1 = 0 ∧ nm = x then ((rdN x k).1 ++ l, 0) else rdN nm k := by
  by_cases h : (gateN [x] (wrI x l) k).1 = 0 ∧ nm = x
  · rw [if_pos h, rdN_fget, wr_fget hk, if_pos h]
  · rw [if_neg h, rdN_fget, wr_fget hk, if_neg h, ← rdN_fget]
/-! ## what keeps a log whole -/
structure LInv (N : Nat) (p : Nm) (lg : Lg) (k : Dk) : Prop where
  dk : k.Ok
  segs : lg.segs = [] → lg.L = []
  sync : lg.synced ≤ lg.L.length
  many : lg.L.length ≤ N
  msegs : lg.segs.length ≤ N
  bytes : ∀ g ∈ lg.segs, g.2 ≤ 1073741824 ∧ g.1 ≤ lg.L.length + 1
  ents : ∀ e ∈ lg.L, e.length ≤ 1073741824
  on : lg.On p k
  top : ∀ g ∈ lg.segs, g.1 = lg.L.length + 1 → lastSeg lg = g ∧ g.2 = 0
  files : ∀ nm, segN p nm = true → isF k.L nm = true → ∃ g ∈ lg.segs, nm = nameN p g.1
theorem LInv.ok {N : Nat} {p : Nm} {lg : Lg} {k : Dk} (h : LInv N p lg k) (hN : N ≤ 4398046511104) : lg.Ok :=
  ⟨h.segs, h.sync, Nat.le_trans h.many hN, Nat.le_trans h.msegs hN, h.bytes, h.ents⟩
theorem LInv.mono {N M : Nat} {p : Nm} {lg : Lg} {k : Dk} (h : LInv N p lg k) (hN : N ≤ M) : LInv M p lg k :=
  ⟨h.dk, h.segs, h.sync, Nat.le_trans h.many hN, Nat.le_trans h.msegs hN, h.bytes, h.ents, h.on, h.top, h.files⟩
theorem lsync_rd (p : Nm) (lg : Lg) {k : Dk} (hk : k.Ok) (nm : Nm) : rdN nm (lsyncN p lg k).2.2 = rdN nm k := by
  unfold lsyncN
  split
  · rfl
  · split
    · rfl
    · simp only
      split
      · exact sy_rd hk _ _
      · exact sy_rd hk _ _
theorem linv_sync {N : Nat} {p : Nm} {lg : Lg} {k : Dk} (h : LInv N p lg k) : LInv N p (lsyncN p lg k).2.1 (lsyncN p lg k).2.2 := by
  obtain ⟨h1, h2, h3⟩ := lsync_same p lg k
  refine ⟨lsync_dk p lg h.dk, by rw [h1, h2]; exact h.segs, by rw [h1]; exact h3 h.sync, by rw [h1]; exact h.many, by rw [h2]; exact h.msegs, by rw [h1, h2]; exact h.bytes, by rw [h1]; exact h.ents, ?_, ?_, ?_⟩
  · unfold Lg.On lastSeg
    rw [h2, lsync_rd p lg h.dk]
    exact h.on
  · unfold lastSeg
    rw [h1, h2]
    exact h.top
  · rw [h2]
    intro nm h4 h5
    exact h.files nm h4 (by rw [isF_rd, ← lsync_rd p lg h.dk, ← isF_rd]; exact h5)
theorem linv_put {N : Nat} {p : Nm} {lg : Lg} {k : Dk} (h : LInv N p lg k) (fresh : Bool) (hf : fresh = false → lg.segs ≠ []) (hfr : fresh = true → isF k.L (nameN p (lg.L.length + 1)) = false) (e : List UInt8) (he : e.length ≤ 1073741824) :
    LInv (N + 1) p (putEN p fresh e lg k).2.2.1 (putEN p fresh e lg k).2.2.2 := by
  unfold putEN
  simp only
  obtain ⟨nm, hnm⟩ : ∃ nm, nm = nameN p (if fresh = true then lg.L.length + 1 else (lastSeg lg).1) := ⟨_, rfl⟩
  rw [← hnm]
  have hok := gwr_ok h.dk nm (recN (lg.L.length + 1) e)
  have hrd := wr_rd h.dk nm (recN (lg.L.length + 1) e)
  obtain ⟨⟨x, k2⟩, hq⟩ : ∃ q, q = gateN [nm] (wrI nm (recN (lg.L.length + 1) e)) k := ⟨_, rfl⟩
  rw [← hq] at hok hrd ⊢
  simp only at hok hrd ⊢
  have hmany := h.many
  have hms := h.msegs
  by_cases hx : x = 0
  · subst hx
    rw [if_neg (by simp)]
    have hr2 := hrd nm
    rw [if_pos ⟨rfl, rfl⟩] at hr2
    have hle : (rdN nm k2).1.length ≤ 1073741824 := rdN_le hok
    rw [hr2, List.length_append] at hle
    cases fresh with
    | true =>
      simp only [if_true] at hnm ⊢
      have hnil : (rdN nm k).1 = [] := by rw [hnm]; unfold rdN; rw [hfr rfl]; rfl
      refine ⟨hok, fun e => by simp at e, ?_, by simp; omega, by simp; omega, ?_, ?_, ?_, ?_, ?_⟩
      · simp only [List.length_append]; have := h.sync; omega
      · intro g hg
        simp only [List.length_append, List.length_singleton] at hg ⊢
        rcases List.mem_append.1 hg with hg | hg
        · have := h.bytes g hg; omega
        · rw [List.mem_singleton.1 hg]; simp only; omega
      · intro y hy
        rcases List.mem_append.1 hy with hy | hy
        · exact h.ents y hy
        · rw [List.mem_singleton.1 hy]; exact he
      · intro _
        simp only [lastSeg, List.getLastD_concat]
        rw [← hnm, hr2, hnil]
        simp
      · intro g hg hg2
        exfalso
        simp only [List.length_append, List.length_singleton] at hg2
        rcases List.mem_append.1 hg with hg | hg
        · have := h.bytes g hg; omega
        · rw [List.mem_singleton.1 hg] at hg2; simp only at hg2; omega
      · intro y hy hf2
        rw [isF_rd, hrd] at hf2
        by_cases hyn : y = nm
        · exact ⟨_, List.mem_append_right _ (List.mem_singleton.2 rfl), by rw [hyn, hnm]⟩
        · rw [if_neg (fun h => hyn h.2), ← isF_rd] at hf2
          obtain ⟨g, hg, hgn⟩ := h.files y hy hf2
          exact ⟨g, List.mem_append_left _ hg, hgn⟩
    | false =>
      have hne := hf rfl
      simp only [Bool.false_eq_true, if_false] at hnm ⊢
      have hon := h.on hne
      rw [← hnm] at hon
      obtain ⟨A, g0, hA⟩ : ∃ A g, lg.segs = A ++ [g] := by
        obtain h0 | ⟨l', x, hx⟩ := List.eq_nil_or_concat lg.segs
        · exact absurd h0 hne
        · exact ⟨l', x, by rw [hx, List.concat_eq_append]⟩
      have hl : lastSeg lg = g0 := by unfold lastSeg; rw [hA]; simp
      rw [hl] at hnm hon ⊢
      have hb0 := h.bytes g0 (by rw [hA]; simp)
      have hdl : lg.segs.dropLast = A := by rw [hA]; simp
      rw [hdl]
      have hAl : A.length + 1 = lg.segs.length := by rw [hA]; simp
      refine ⟨hok, fun e => by simp at e, ?_, by simp; omega, by simp; omega, ?_, ?_, ?_, ?_, ?_⟩
      · simp only [List.length_append]; have := h.sync; omega
      · intro g hg
        simp only [List.length_append, List.length_singleton] at hg ⊢
        rcases List.mem_append.1 hg with hg | hg
        · have := h.bytes g (by rw [hA]; exact List.mem_append_left _ hg); omega
        · rw [List.mem_singleton.1 hg]; simp only; omega
      · intro y hy
        rcases List.mem_append.1 hy with hy | hy
        · exact h.ents y hy
        · rw [List.mem_singleton.1 hy]; exact he
      · intro _
        simp only [lastSeg, List.getLastD_concat]
        rw [← hnm, hr2]
        simp only [List.length_append]
        rw [hon]
      · intro g hg hg2
        exfalso
        simp only [List.length_append, List.length_singleton] at hg2
        rcases List.mem_append.1 hg with hg | hg
        · have := h.bytes g (by rw [hA]; exact List.mem_append_left _ hg); omega
        · rw [List.mem_singleton.1 hg] at hg2; simp only at hg2; omega
      · intro y hy hf2
        rw [isF_rd, hrd] at hf2
        by_cases hyn : y = nm
        · exact ⟨_, List.mem_append_right _ (List.mem_singleton.2 rfl), by rw [hyn, hnm]⟩
        · rw [if_neg (fun h => hyn h.2), ← isF_rd] at hf2
          obtain ⟨g, hg, hgn⟩ := h.files y hy hf2
          rw [hA] at hg
          rcases List.mem_append.1 hg with hg | hg
          · exact ⟨g, List.mem_append_left _ hg, hgn⟩
          · rw [List.mem_singleton.1 hg] at hgn
            exact ⟨_, List.mem_append_right _ (List.mem_singleton.2 rfl), hgn⟩
  · rw [if_pos hx]
    refine ⟨hok, h.segs, h.sync, Nat.le_succ_of_le h.many, Nat.le_succ_of_le h.msegs, h.bytes, h.ents, fun hne => ?_, h.top, fun y h4 h5 => ?_⟩
    · show (rdN (nameN p (lastSeg lg).1) k2).1.length = (lastSeg lg).2
      rw [hrd, if_neg (fun h => hx h.1)]
      exact h.on hne
    · rw [isF_rd, hrd, if_neg (fun h => hx h.1), ← isF_rd] at h5
      exact h.files y h4 h5
theorem linv_fresh {N : Nat} {p : Nm} {lg : Lg} {k : Dk} (h : LInv N p lg k) (hN : N < 99999999) (hf : lg.segs = [] ∨ 512 ≤ (lastSeg lg).2) : isF k.L (nameN p (lg.L.length + 1)) = false := by
  cases hi : isF k.L (nameN p (lg.L.length + 1)) with
  | false => rfl
  | true =>
    exfalso
    obtain ⟨g, hg, hgn⟩ := h.files _ (segN_of p (by have := h.many; omega)) hi
    obtain ⟨h1, h2⟩ := h.top g hg (nameN_inj hgn).symm
    rcases hf with hf | hf
    · rw [hf] at hg; cases hg
    · rw [h1, h2] at hf; omega
theorem linv_app {N : Nat} {p : Nm} {lg : Lg} {k : Dk} (h : LInv N p lg k) (hN : N < 99999999) (e : List UInt8) : LInv (N + 1) p (lappN p e lg k).2.2.1 (lappN p e lg k).2.2.2 := by
  unfold lappN
  split
  · exact h.mono (Nat.le_succ _)
  · split
    · exact h.mono (Nat.le_succ _)
    · rename_i hl
      split
      · rename_i hs
        exact linv_put h true (fun e => by cases e) (fun _ => linv_fresh h hN (.inl hs)) e (by omega)
      · rename_i hs
        split
        · rename_i h5
          simp only
          have h1 := linv_sync h
          obtain ⟨s1, s2, _⟩ := lsync_same p lg k
          split
          · exact h1.mono (Nat.le_succ _)
          · refine linv_put h1 true (fun e => by cases e) (fun _ => linv_fresh h1 hN (.inr ?_)) e (by omega)
            unfold lastSeg at h5 ⊢
            rw [s2]; exact h5
        · exact linv_put h false (fun _ => hs) (fun e => by cases e) e (by omega)
end Go.Proofs.YtdolbeonpkanpaaGreatDoor
