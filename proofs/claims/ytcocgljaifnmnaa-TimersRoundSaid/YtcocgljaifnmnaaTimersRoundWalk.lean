/- TimersRound. -/
import Derived.Test.YtcocgljaifnmnaaTmR
import Derived.Test.YtcocgljaifnmnaaPure
import Derived.Deep.CutBlock
namespace Go.Proofs.Ytcocgljaifnmnaa
open Go.RowKit
attribute [local go_sem ↓] Go.wp_at_zero Go.wp_at_succ

theorem cnt_le (e now : Nat) : cnt e now ≤ now := by unfold cnt; exact Nat.le_trans (Nat.div_le_self _ _) (by omega)
theorem take_has (E : List Nat) (now k : Nat) : hasS ((stS E now).take k) (k : Int) = false := by
  rw [Bool.eq_false_iff]
  intro h
  unfold hasS at h
  obtain ⟨y, hy, e⟩ := List.any_eq_true.1 h
  obtain ⟨q, hq, e2⟩ := List.mem_iff_getElem.1 hy
  rw [List.length_take] at hq
  rw [List.getElem_take] at e2
  unfold stS at e2
  simp only [List.getElem_map, List.getElem_range] at e2
  subst e2
  simp at e
  omega
theorem take_set {E : List Nat} {k : Nat} (hk : k < E.length) (hE : E.length ≤ 12) (h1 : 1 ≤ eN E k) : setS ((stS E 0).take k) (k : Int) ((eN E k : Nat) : Int) = (true, (stS E 0).take (k + 1)) := by
  unfold setS
  have hl : (stS E 0).length = E.length := by simp [stS]
  rw [take_has]
  simp only [Bool.false_eq_true, if_false]
  rw [if_neg (by rw [List.length_take]; omega), List.take_succ_eq_append_getElem (by omega)]
  congr 2
  unfold stS
  simp [(nxt_zero h1).1]
theorem TmS.perm {b : Nat} {S S' : List (Int × Int)} {H : Heaplet} (h : TmS b S H) (p : S.Perm S') : TmS b S' H := by
  obtain ⟨L, x, y⟩ := h; exact ⟨L, x, y.trans p⟩
theorem sl_cellE {E g n c : Nat} {xs : List (Int × Int)} {Hs : Heaplet} (h : SlRep E 1 (some ⟨g, 0, none⟩) n c (xs.map fun (x : Int × Int) => ii x.1) Hs) {w : World} (o : Own w Hs) {i : Nat} {x : Int × Int} (hi : xs[i]? = some x) : w.cell? ⟨g, i, none⟩ = some (ii x.1) := by
  obtain ⟨g', e, h1, _⟩ := slRep_at h o (i := i) (v := ii x.1) (by rw [List.getElem?_map, hi]; rfl)
  cases e
  simpa using h1
def RoRel1 (b : Nat) (E : List Nat) (el : List Int) (w : World) (v : Value) (wr : World) : Prop :=
  ∃ (k : Nat) (H : Heaplet), k ≤ el.length ∧ v = .int .i64 (k : Nat) ∧ (∀ i x, i < k → el[i]? = some x → 1 ≤ x ∧ x ≤ 1000) ∧ TmS b ((stS E 0).take k) H ∧ Step w [] wr H
def ctO (cs : List Nat) : Obj := .cells (cs.map iv).toArray 3 (0, 0)
theorem ct_cell {w : World} {g : Nat} {cs : List Nat} (h : w.heap[g]? = some (ctO cs)) {i : Nat} (hi : i < cs.length) : w.cell? ⟨g, i, none⟩ = some (iv (cs.getD i 0)) :=
  cell_of h (by rw [List.getElem?_toArray, List.getElem?_map, List.getElem?_eq_getElem hi]; simp [List.getD_eq_getElem?_getD, hi])
theorem ct_store {w w' : World} {K A : Heaplet} {g i v : Nat} {cs : List Nat} (s : Step w K w' (A ++ [(g, ctO cs)])) : Step w K (w'.setCell ⟨g, i, none⟩ (iv v)) (A ++ [(g, ctO (cs.set i v))]) := by
  have h := Step.store (A := A) (B := []) (iv v) (i := i) s
  have e : Obj.cells ((cs.map iv).toArray.setIfInBounds i (iv v)) 3 (0, 0) = ctO (cs.set i v) := by
    unfold ctO; rw [List.map_set, List.setIfInBounds_toArray]
  rw [e] at h; exact h
def RoRel2 (b g U : Nat) (E : List Nat) (w : World) (v : Value) (wr : World) : Prop :=
  ∃ (now : Nat) (cs : List Nat) (H : Heaplet), now ≤ U + 1 ∧ v = .int .i64 (now : Nat) ∧ CtS E now [] 0 cs ∧ TmS b (stS E now) H ∧ Step w [] wr (H ++ [(g, ctO cs)])
def RoRel3 (b g now : Nat) (E : List Nat) (xs S' : List (Int × Int)) (HR : Heaplet) (w : World) (v : Value) (wr : World) : Prop :=
  ∃ (j : Nat) (cs : List Nat) (H : Heaplet), j ≤ xs.length ∧ v = .int .i64 (j : Nat) ∧ CtS E now xs j cs ∧ TmS b (S' ++ (xs.take j).map (again E now)) H ∧ Step w [] wr ((H ++ HR) ++ [(g, ctO cs)])
def RoRel4 (G : Heaplet) (n : Nat) (w : World) (v : Value) (wr : World) : Prop := ∃ j : Nat, j ≤ n ∧ v = .int .i64 (j : Nat) ∧ Step w [] wr G
set_option maxHeartbeats 8000000 in
set_option maxRecDepth 100000 in
theorem timersRound_walk (a : Option Addr) (nl cl : Nat) (el : List Int) (u : Int) (w : World) (h : RdInts w a nl cl el) (_ : el.length * 8 ≤ 140737488351232) (_ : (Lit.int .i64 u).wf = true) :
    Calls Try.prog 4 #[.slice a nl cl, .int .i64 u] w fun e w' => e = .returned (.bool true) ∧ Below w.heap.size w w' := by
  suffices hs : Calls Try.prog 4 #[.slice a nl cl, .int .i64 u] w (LawPost w) from hs.mono fun e w' hp => ⟨hp.1, hp.2.nil_below⟩
  have hnl := h.1
  subst hnl
  replace h := Lib.hid h
  have b0 : (el.length : Int) ≤ 140737488351232 := by omega
  by_cases hg : 12 < el.length ∨ u < 0 ∨ 300 < u
  · have hg' : ((12 : Int) < el.length) ∨ ((el.length : Int) ≤ 12 ∧ u < 0) ∨ ((el.length : Int) ≤ 12 ∧ 0 ≤ u ∧ 300 < u) := by omega
    clear hg
    rcases hg' with g | ⟨g1, g⟩ | ⟨g1, g2, g⟩
    all_goals
      go_enter Try.func4, Try.ntmps4
      go_wp2_with (go_at_call 8; refine (known_any _).mono ?_; rintro e w3 ⟨rfl, hs3⟩)
      go_ret
      exact ⟨rfl, hs3⟩
  have g0 : el.length ≤ 12 := by omega
  obtain ⟨U, rfl⟩ := Int.eq_ofNat_of_zero_le (show 0 ≤ u by omega)
  have g1 : (el.length : Int) ≤ 12 := by omega
  have g2 : (U : Int) ≤ 300 := by omega
  clear hg b0
  obtain ⟨E, hE⟩ : ∃ E, E = el.map Int.toNat := ⟨_, rfl⟩
  have hEl : Hid (E.length = el.length) := by show _ = _; rw [hE]; simp
  have hEv : Hid (∀ i x, el[i]? = some x → 1 ≤ x → x ≤ 1000 → ∃ e : Nat, eN E i = e ∧ x = (e : Int) ∧ 1 ≤ e ∧ e ≤ 1000) := fun i x hx h1 h2 => by
    refine ⟨_, rfl, ?_⟩
    unfold eN
    rw [hE, List.getD_eq_getElem?_getD, List.getElem?_map, hx]
    simp; omega
  replace hE := Lib.hid hE
  go_enter Try.func4, Try.ntmps4
  go_wp2_with fail
  refine (new_any _).mono ?_
  rintro e w1 ⟨b, H1, rfl, t1, s1⟩
  replace t1 := Lib.hid t1
  replace s1 := Lib.hid s1
  go_wp2_with fail
  go_loopw [6] (fun v wr => RoRel1 b E el w v wr) (fun v _ => el.length - (intOf v).toNat)
  case atStart => exact ⟨0, H1, Nat.zero_le _, rfl, fun i x hi => absurd hi (by omega), t1.out, s1.out⟩
  case round =>
    clear t1 s1
    obtain ⟨k, H, hk, rfl, hv, ht, hs⟩ := hrel
    have d1 : (0 : Int) ≤ (k : Int) := by omega
    by_cases hlt : k < el.length
    · have d2 : (k : Int) < (el.length : Int) := by omega
      obtain ⟨ab, ao, rfl, hc, -⟩ := h.out.at hs hlt
      have hx : el[k]? = some el[k] := List.getElem?_eq_getElem hlt
      generalize el[k] = x at *
      by_cases hbad : x < 1 ∨ 1000 < x
      · have hbad' : x < 1 ∨ (1 ≤ x ∧ 1000 < x) := by omega
        clear hbad hv hx
        rcases hbad' with q | ⟨q1, q⟩
        all_goals
          go_wp2_with fail
          refine (known_any _).mono ?_
          rintro e w3 ⟨rfl, hs3⟩
          go_wp2_with fail
          go_ret
          exact ⟨rfl, (hs.call0 hs3).forget (A := [])⟩
      · have x1 : 1 ≤ x := by omega
        have x2 : x ≤ 1000 := by omega
        obtain ⟨e, he, hxe, e1, e2⟩ := hEv.out k x hx x1 x2
        have hst := Lib.hid (set_any b ((stS E 0).take k) k x H wr ht hs.own (by rw [List.length_take]; omega))
        have hts : setS ((stS E 0).take k) k x = (true, (stS E 0).take (k + 1)) := by
          rw [hxe, ← he]; exact take_set (by rw [hEl.out]; exact hlt) (by rw [hEl.out]; exact g0) (by rw [he]; exact e1)
        rw [hts] at hst
        have hv' : Hid (∀ i y, i < k + 1 → el[i]? = some y → 1 ≤ y ∧ y ≤ 1000) := fun i y hi hy => by
          rcases Nat.lt_or_ge i k with hik | hik
          · exact hv i y hik hy
          · rw [show i = k by omega, hx] at hy; cases hy; exact ⟨x1, x2⟩
        replace hxe := Lib.hid hxe
        replace he := Lib.hid he
        replace hx := Lib.hid hx
        clear hbad hts hv ht
        go_wp2_with fail
        refine hst.out.mono ?_
        rintro e' w2 ⟨rfl, H2, t2, h2⟩
        have s2 := hs.trans h2
        go_wp2_with fail
        exact ⟨⟨k + 1, H2, by omega, by go_num, hv'.out, t2, s2⟩, by simp [intOf]; omega⟩
    · have d2 : (el.length : Int) ≤ (k : Int) := by omega
      have hkl : k = el.length := by omega
      have hev : Hid (∀ i, i < E.length → ∃ x, el[i]? = some x ∧ x = ((eN E i : Nat) : Int) ∧ 1 ≤ eN E i ∧ eN E i ≤ 1000) := fun i hi => by
        have hi' : i < el.length := by rw [← hEl.out]; exact hi
        have hx : el[i]? = some el[i] := List.getElem?_eq_getElem hi'
        obtain ⟨q1, q2⟩ := hv i _ (by omega) hx
        obtain ⟨e, he, hxe, e1, e2⟩ := hEv.out i _ hx q1 q2
        exact ⟨_, hx, by rw [he]; exact hxe, by omega, by omega⟩
      have ht0 : Hid (TmS b (stS E 0) H) := by
        have hl : (stS E 0).length = E.length := by simp [stS]
        have := ht
        rw [List.take_of_length_le (by rw [hl, hEl.out]; omega)] at this
        exact this
      obtain ⟨n, hn⟩ : ∃ n, n = el.length := ⟨_, rfl⟩
      rw [← hn] at g1 d2 ⊢
      replace hkl := Lib.hid hkl
      replace hn := Lib.hid hn
      clear ht hv hEv hlt
      go_wp2_with (at_make; refine wpList_mk rfl st_int _ _ rfl n n (by rfl) (by rfl) (by rfl) (by rfl) (Nat.le_refl _) (by omega) (by unfold maxLen; omega) ?_)
      have s2 := hs.alloc (.cells (madeCells #[.int .i64 0] n) 3)
      generalize wr.heap.size = g at s2 ⊢
      refine Step.gen s2 ?_
      clear s2
      intro W s2
      have s3 : Step w [] W (H ++ [(g, ctO (List.replicate E.length 0))]) := by
        have e : Obj.cells (madeCells #[.int .i64 0] n) 3 = ctO (List.replicate E.length 0) := by
          unfold ctO
          rw [madeCells_one, List.map_replicate, hEl.out, ← hn.out]; rfl
        rw [e] at s2
        exact s2.perm (List.Perm.refl _) (List.perm_append_comm (l₁ := [_]) (l₂ := H))
      clear s2 hs
      replace s3 := Lib.hid s3
      go_loopw [8] (fun v wr => RoRel2 b g U E w v wr) (fun v _ => U + 1 - (intOf v).toNat)
      case atStart => exact ⟨0, _, H, by omega, rfl, ct_start, ht0.out, s3.out⟩
      case round =>
        clear s3 ht0
        obtain ⟨now, cs, H, hk, rfl, hct, ht, hs⟩ := hrel
        have d1 : (0 : Int) ≤ (now : Int) := by omega
        have hE1 : Hid (∀ i, i < E.length → 1 ≤ eN E i) := fun i hi => by obtain ⟨x, _, _, h1, _⟩ := hev.out i hi; exact h1
        have hll : (stS E now).length ≤ 4096 := by
          have : (stS E now).length = E.length := by simp [stS]
          rw [this, hEl.out]; omega
        by_cases hlt : now ≤ U
        · have d3 : (now : Int) ≤ (U : Int) := by omega
          have hdu := Lib.hid (due_any b (stS E now) now H wr ht hs.own.left hll)
          unfold DuePost at hdu
          clear ht
          go_wp2_with fail
          refine hdu.out.mono ?_
          rintro e w2 ⟨al, c2, xs, S', H2, HR, rfl, hr, hp, hpw, hle, hgt, t2, h2⟩
          have s2 := hs.call h2
          obtain ⟨hr1, hr2⟩ := round_ids hE1.out hp hpw hle
          have hxl : xs.length ≤ 12 := by
            have := hp.length_eq
            have h3 : (stS E now).length = E.length := by simp [stS]
            rw [List.length_append, h3, hEl.out] at this
            omega
          have hxi : (xs.length : Int) ≤ 12 := by omega
          replace hr1 := Lib.hid hr1
          replace hr2 := Lib.hid hr2
          replace hp := Lib.hid hp
          replace hr := Lib.hid hr
          replace hle := Lib.hid hle
          replace hgt := Lib.hid hgt
          replace hct := Lib.hid hct
          replace s2 := Lib.hid s2
          replace t2 := Lib.hid t2
          clear hs h2 hpw hdu
          go_wp2_with fail
          go_loopw [10] (fun v wr => RoRel3 b g now E xs S' HR w v wr) (fun v _ => xs.length - (intOf v).toNat)
          case atStart => exact ⟨0, cs, H2, Nat.zero_le _, rfl, ct_any hct.out xs, by rw [List.take_zero, List.map_nil, List.append_nil]; exact t2.out, s2.out⟩
          case round =>
            clear s2 t2 hct
            obtain ⟨j, cs, H, hj, rfl, hct, ht, hs⟩ := hrel
            have d4 : (0 : Int) ≤ (j : Int) := by omega
            by_cases hjl : j < xs.length
            · have d5 : (j : Int) < (xs.length : Int) := by omega
              obtain ⟨x, hx⟩ : ∃ x, xs[j]? = some x := ⟨_, List.getElem?_eq_getElem hjl⟩
              obtain ⟨i, hiE, rfl, hnx⟩ := hr1.out x (List.mem_of_getElem? hx)
              obtain ⟨y, hy, hye, e1, e2⟩ := hev.out i hiE
              have hin : i < n := by have := hEl.out; have := hn.out; omega
              have hiel : i < el.length := by have := hn.out; omega
              obtain ⟨ab, ao, rfl, hce, -⟩ := h.out.at hs hiel
              have hyel : el[i] = ((eN E i : Nat) : Int) := by
                rw [List.getElem?_eq_getElem hiel] at hy
                rw [← hye]; exact Option.some.inj hy
              rw [hyel] at hce
              obtain ⟨g2, rfl, _, _⟩ := slRep_at hr.out hs.own.left.right (i := j) (v := ii (i : Int)) (by rw [List.getElem?_map, hx]; rfl)
              have cx := sl_cellE hr.out hs.own.left.right hx
              simp only at cx
              have hgo : wr.heap[g]? = some (ctO cs) := hs.own.right.h0
              have hicl : i < cs.length := by rw [hct.len]; exact hiE
              have cc := ct_cell hgo hicl
              have fc := fun k => frz_of (i := k) hgo
              have hcn : cs.getD i 0 ≤ 301 := by
                rw [hct.at' i hiE]
                have := cnt_le (eN E i) now
                split <;> omega
              have hct2 := Lib.hid (ct_step hp.out hct hiE hx)
              have hnh := not_has hp.out hx
              simp only at hnh
              have hset : setS (S' ++ (xs.take j).map (again E now)) (i : Int) ((now : Int) + ((eN E i : Nat) : Int)) = (true, S' ++ (xs.take (j + 1)).map (again E now)) := by
                unfold setS
                rw [hnh]
                simp only [Bool.false_eq_true, if_false]
                have hl2 := hp.out.length_eq
                have h3 : (stS E now).length = E.length := by simp [stS]
                rw [List.length_append, h3, hEl.out] at hl2
                rw [if_neg (by rw [List.length_append, List.length_map, List.length_take]; omega), List.take_succ_eq_append_getElem hjl, List.map_append, ← List.append_assoc]
                have hxe : xs[j] = ((i : Int), (now : Int)) := Option.some.inj (by rw [← List.getElem?_eq_getElem hjl]; exact hx)
                rw [hxe]
                simp [again]
              have hsl2 : (S' ++ (xs.take j).map (again E now)).length ≤ 4096 := by
                have hl2 := hp.out.length_eq
                have h3 : (stS E now).length = E.length := by simp [stS]
                rw [List.length_append, h3, hEl.out] at hl2
                rw [List.length_append, List.length_map, List.length_take]; omega
              have hsa := Lib.hid (fun W hW => set_any b _ (i : Int) ((now : Int) + ((eN E i : Nat) : Int)) H W ht hW hsl2)
              rw [hset] at hsa
              have s5 := ct_store (i := i) (v := cs.getD i 0 + 1) hs
              generalize cs.getD i 0 = cc0 at *
              generalize eN E i = ee at *
              have i1 : (i : Int) < (n : Int) := by omega
              have i0 : (0 : Int) ≤ (i : Int) := by omega
              have c1 : (cc0 : Int) ≤ 301 := by omega
              have e3 : (ee : Int) ≤ 1000 := by omega
              have e4 : IntKind.i64.wrap ((now : Int) + (ee : Int)) = (now : Int) + (ee : Int) := IntWalk.i64_in _ (by omega)
              have ce5 : (wr.setCell ⟨g, i, none⟩ (iv (cc0 + 1))).cell? ⟨ab, ao + i, none⟩ = some (ii (ee : Int)) := by
                obtain ⟨ab', ao', e', hce', -⟩ := h.out.at s5 hiel
                cases e'
                rw [hyel] at hce'; exact hce'
              have cx5 : (wr.setCell ⟨g, i, none⟩ (iv (cc0 + 1))).cell? ⟨g2, j, none⟩ = some (ii (i : Int)) := sl_cellE hr.out s5.own.left.right hx
              have hcond : (j = 0) ∨ (∃ J i', j = J + 1 ∧ i' < i ∧ wr.cell? ⟨g2, J, none⟩ = some (iv i')) := by
                rcases Nat.eq_zero_or_pos j with h0 | h0
                · exact .inl h0
                · obtain ⟨J, hJ⟩ : ∃ J, j = J + 1 := ⟨j - 1, by omega⟩
                  obtain ⟨z, hz⟩ : ∃ z, xs[J]? = some z := ⟨_, List.getElem?_eq_getElem (by omega)⟩
                  obtain ⟨i', _, rfl, _⟩ := hr1.out z (List.mem_of_getElem? hz)
                  have hlt2 := hr2.out J _ _ hz (by rw [← hJ]; exact hx)
                  simp only at hlt2
                  exact .inr ⟨J, i', hJ, by omega, sl_cellE hr.out hs.own.left.right hz⟩
              replace hx := Lib.hid hx
              replace hy := Lib.hid hy
              replace hye := Lib.hid hye
              replace hnx := Lib.hid hnx
              replace hyel := Lib.hid hyel
              replace hcond := Lib.hid hcond
              replace s5 := Lib.hid s5
              replace cx5 := Lib.hid cx5
              replace ce5 := Lib.hid ce5
              clear hct ht hset hnh hsl2
              have k1 : decide ((i : Int) < 0) = false := decide_eq_false (by omega)
              have k2 : decide ((n : Int) ≤ (i : Int)) = false := decide_eq_false (by omega)
              have k3 : decide (n ≤ i) = false := decide_eq_false (by omega)
              go_upto_region 22 with fail
              go_cut [4, 99] (fun _ v99 wc => v99 = .bool false ∧ wc = wr.drew)
              case first =>
                rcases hcond.out with h0 | ⟨J, i', hJ, hi', cy⟩
                · have g3 : decide ((0 : Int) < (j : Int)) = false := decide_eq_false (by omega)
                  have g3' : decide (0 < j) = false := decide_eq_false (by omega)
                  replace h0 := Lib.hid h0
                  go_wp2_with fail
                  refine wp_region_J 29 (fun w' => w'.cell? ⟨g2, j, none⟩ = some (ii (i : Int))) (by kernel_rfl) ?_ (fun hF => ?_)
                  · (try dsimp only)
                    all_goals (exact cx)
                  refine wpAnyJ_take0 (i := 0) (oi := { dst := some 70, op := Go.Op.move (Go.Operand.tmp 9), type := 28, pos := "more.go:24", after := #[], guard := none }) (v := ?_) rfl (by kernel_rfl) (by kernel_rfl) (by kernel_rfl) (by kernel_rfl) (fun _ _ _ h => h) (by first | exact fun _ => hF | exact fun _ => hF (by kernel_rfl)) (fun w => ?_) (by rfl) ?_
                  rotate_left
                  · first | (go_simp; done) | (go_simp; with_reducible rfl) | (go_split_ands; go_simp; done)
                  try simp only [Act.put, List.setIfInBounds_toArray, List.set_cons_zero, List.set_cons_succ]
                  refine wpAnyJ_take0 (i := 1) (oi := { dst := some 71, op := Go.Op.move (Go.Operand.tmp 10), type := 3, pos := "more.go:24", after := #[], guard := none }) (v := ?_) rfl (by kernel_rfl) (by kernel_rfl) (by kernel_rfl) (by kernel_rfl) (fun _ _ _ h => h) (by first | exact fun _ => hF | exact fun _ => hF (by kernel_rfl)) (fun w => ?_) (by rfl) ?_
                  rotate_left
                  · first | (go_simp; done) | (go_simp; with_reducible rfl) | (go_split_ands; go_simp; done)
                  try simp only [Act.put, List.setIfInBounds_toArray, List.set_cons_zero, List.set_cons_succ]
                  refine wpAnyJ_take0 (i := 2) (oi := { dst := some 72, op := Go.Op.indexAddr 28 (Go.Operand.tmp 70) (Go.Operand.tmp 71), type := 0, pos := "more.go:24", after := #[{ on := 0, ground := Go.Ground.data }, { on := 1, ground := Go.Ground.data }], guard := none }) (v := ?_) rfl (by kernel_rfl) (by kernel_rfl) (by kernel_rfl) (by kernel_rfl) (fun _ _ _ h => h) (by first | exact fun _ => hF | exact fun _ => hF (by kernel_rfl)) (fun w => ?_) (by rfl) ?_
                  rotate_left
                  · first | (go_simp; done) | (go_simp; with_reducible rfl) | (go_split_ands; go_simp; done)
                  try simp only [Act.put, List.setIfInBounds_toArray, List.set_cons_zero, List.set_cons_succ]
                  refine wpAnyJ_take (i := 3) (oi := { dst := some 73, op := Go.Op.load 3 (Go.Operand.tmp 72), type := 3, pos := "more.go:24", after := #[{ on := 2, ground := Go.Ground.data }], guard := none }) (v := ?_) [4, 5, 14, 29] rfl (by kernel_rfl) (by kernel_rfl) (by kernel_rfl) (by kernel_rfl) (by kernel_rfl) (fun _ _ _ h => h) (by first | exact hF | exact hF (by kernel_rfl)) (fun w hFw => ?_) (by rfl) ?_
                  rotate_left
                  · ((try dsimp only at hFw); first | (go_simp; done) | (go_simp; with_reducible rfl) | (go_split_ands; go_simp; done))
                  try simp only [Act.put, List.setIfInBounds_toArray, List.set_cons_zero, List.set_cons_succ]
                  refine wpAnyJ_take0 (i := 4) (oi := { dst := some 74, op := Go.Op.binOp Go.BinOp.lss 3 (Go.Operand.tmp 73) (Go.Operand.const (Go.Value.int Go.IntKind.i64 0)) 3, type := 4, pos := "more.go:24", after := #[{ on := 3, ground := Go.Ground.data }], guard := none }) (v := ?_) rfl (by kernel_rfl) (by kernel_rfl) (by kernel_rfl) (by kernel_rfl) (fun _ _ _ h => h) (by first | exact fun _ => hF | exact fun _ => hF (by kernel_rfl)) (fun w => ?_) (by rfl) ?_
                  rotate_left
                  · first | (go_simp; done) | (go_simp; with_reducible rfl) | (go_split_ands; go_simp; done)
                  try simp only [Act.put, List.setIfInBounds_toArray, List.set_cons_zero, List.set_cons_succ]
                  refine wpAnyJ_take0 (i := 5) (oi := { dst := some 75, op := Go.Op.move (Go.Operand.tmp 74), type := 4, pos := "more.go:24", after := #[{ on := 4, ground := Go.Ground.data }], guard := none }) (v := ?_) rfl (by kernel_rfl) (by kernel_rfl) (by kernel_rfl) (by kernel_rfl) (fun _ _ _ h => h) (by first | exact fun _ => hF | exact fun _ => hF (by kernel_rfl)) (fun w => ?_) (by rfl) ?_
                  rotate_left
                  · first | (go_simp; done) | (go_simp; with_reducible rfl) | (go_split_ands; go_simp; done)
                  try simp only [Act.put, List.setIfInBounds_toArray, List.set_cons_zero, List.set_cons_succ]
                  first
                  | refine wpAnyJ_skip0 (i := 6) (oi := { dst := some 76, op := Go.Op.move (Go.Operand.tmp 9), type := 28, pos := "more.go:24", after := #[{ on := 5, ground := Go.Ground.guard }], guard := some (5, false) }) rfl (by kernel_rfl) (by kernel_rfl) (by kernel_rfl) (by kernel_rfl) (fun _ _ _ h => h) (by first | exact fun _ => hF | exact fun _ => hF (by kernel_rfl)) (by rfl) ?_
                  | (refine wpAnyJ_take0 (i := 6) (oi := { dst := some 76, op := Go.Op.move (Go.Operand.tmp 9), type := 28, pos := "more.go:24", after := #[{ on := 5, ground := Go.Ground.guard }], guard := some (5, false) }) (v := ?_) rfl (by kernel_rfl) (by kernel_rfl) (by kernel_rfl) (by kernel_rfl) (fun _ _ _ h => h) (by first | exact fun _ => hF | exact fun _ => hF (by kernel_rfl)) (fun w => ?_) (by rfl) ?_
                     rotate_left
                     · first | (go_simp; done) | (go_simp; with_reducible rfl) | (go_split_ands; go_simp; done))
                  try simp only [Act.put, List.setIfInBounds_toArray, List.set_cons_zero, List.set_cons_succ]
                  first
                  | refine wpAnyJ_skip0 (i := 7) (oi := { dst := some 77, op := Go.Op.move (Go.Operand.tmp 10), type := 3, pos := "more.go:24", after := #[{ on := 5, ground := Go.Ground.guard }], guard := some (5, false) }) rfl (by kernel_rfl) (by kernel_rfl) (by kernel_rfl) (by kernel_rfl) (fun _ _ _ h => h) (by first | exact fun _ => hF | exact fun _ => hF (by kernel_rfl)) (by rfl) ?_
                  | (refine wpAnyJ_take0 (i := 7) (oi := { dst := some 77, op := Go.Op.move (Go.Operand.tmp 10), type := 3, pos := "more.go:24", after := #[{ on := 5, ground := Go.Ground.guard }], guard := some (5, false) }) (v := ?_) rfl (by kernel_rfl) (by kernel_rfl) (by kernel_rfl) (by kernel_rfl) (fun _ _ _ h => h) (by first | exact fun _ => hF | exact fun _ => hF (by kernel_rfl)) (fun w => ?_) (by rfl) ?_
                     rotate_left
                     · first | (go_simp; done) | (go_simp; with_reducible rfl) | (go_split_ands; go_simp; done))
                  try simp only [Act.put, List.setIfInBounds_toArray, List.set_cons_zero, List.set_cons_succ]
                  first
                  | refine wpAnyJ_skip0 (i := 8) (oi := { dst := some 78, op := Go.Op.indexAddr 28 (Go.Operand.tmp 76) (Go.Operand.tmp 77), type := 0, pos := "more.go:24", after := #[{ on := 6, ground := Go.Ground.data }, { on := 7, ground := Go.Ground.data }, { on := 5, ground := Go.Ground.guard }], guard := some (5, false) }) rfl (by kernel_rfl) (by kernel_rfl) (by kernel_rfl) (by kernel_rfl) (fun _ _ _ h => h) (by first | exact fun _ => hF | exact fun _ => hF (by kernel_rfl)) (by rfl) ?_
                  | (refine wpAnyJ_take0 (i := 8) (oi := { dst := some 78, op := Go.Op.indexAddr 28 (Go.Operand.tmp 76) (Go.Operand.tmp 77), type := 0, pos := "more.go:24", after := #[{ on := 6, ground := Go.Ground.data }, { on := 7, ground := Go.Ground.data }, { on := 5, ground := Go.Ground.guard }], guard := some (5, false) }) (v := ?_) rfl (by kernel_rfl) (by kernel_rfl) (by kernel_rfl) (by kernel_rfl) (fun _ _ _ h => h) (by first | exact fun _ => hF | exact fun _ => hF (by kernel_rfl)) (fun w => ?_) (by rfl) ?_
                     rotate_left
                     · first | (go_simp; done) | (go_simp; with_reducible rfl) | (go_split_ands; go_simp; done))
                  try simp only [Act.put, List.setIfInBounds_toArray, List.set_cons_zero, List.set_cons_succ]
                  first
                  | refine wpAnyJ_skip0 (i := 9) (oi := { dst := some 79, op := Go.Op.load 3 (Go.Operand.tmp 78), type := 3, pos := "more.go:24", after := #[{ on := 8, ground := Go.Ground.data }, { on := 5, ground := Go.Ground.guard }], guard := some (5, false) }) rfl (by kernel_rfl) (by kernel_rfl) (by kernel_rfl) (by kernel_rfl) (fun _ _ _ h => h) (by first | exact fun _ => hF | exact fun _ => hF (by kernel_rfl)) (by rfl) ?_
                  | (refine wpAnyJ_take (i := 9) (oi := { dst := some 79, op := Go.Op.load 3 (Go.Operand.tmp 78), type := 3, pos := "more.go:24", after := #[{ on := 8, ground := Go.Ground.data }, { on := 5, ground := Go.Ground.guard }], guard := some (5, false) }) (v := ?_) [12, 13, 14, 29] rfl (by kernel_rfl) (by kernel_rfl) (by kernel_rfl) (by kernel_rfl) (by kernel_rfl) (fun _ _ _ h => h) (by first | exact hF | exact hF (by kernel_rfl)) (fun w hFw => ?_) (by rfl) ?_
                     rotate_left
                     · ((try dsimp only at hFw); first | (go_simp; done) | (go_simp; with_reducible rfl) | (go_split_ands; go_simp; done)))
                  try simp only [Act.put, List.setIfInBounds_toArray, List.set_cons_zero, List.set_cons_succ]
                  first
                  | refine wpAnyJ_skip0 (i := 10) (oi := { dst := some 80, op := Go.Op.move (Go.Operand.tmp 0), type := 28, pos := "more.go:24", after := #[{ on := 5, ground := Go.Ground.guard }], guard := some (5, false) }) rfl (by kernel_rfl) (by kernel_rfl) (by kernel_rfl) (by kernel_rfl) (fun _ _ _ h => h) (by first | exact fun _ => hF | exact fun _ => hF (by kernel_rfl)) (by rfl) ?_
                  | (refine wpAnyJ_take0 (i := 10) (oi := { dst := some 80, op := Go.Op.move (Go.Operand.tmp 0), type := 28, pos := "more.go:24", after := #[{ on := 5, ground := Go.Ground.guard }], guard := some (5, false) }) (v := ?_) rfl (by kernel_rfl) (by kernel_rfl) (by kernel_rfl) (by kernel_rfl) (fun _ _ _ h => h) (by first | exact fun _ => hF | exact fun _ => hF (by kernel_rfl)) (fun w => ?_) (by rfl) ?_
                     rotate_left
                     · first | (go_simp; done) | (go_simp; with_reducible rfl) | (go_split_ands; go_simp; done))
                  try simp only [Act.put, List.setIfInBounds_toArray, List.set_cons_zero, List.set_cons_succ]
                  first
                  | refine wpAnyJ_skip0 (i := 11) (oi := { dst := some 81, op := Go.Op.call { callee := Go.Callee.builtin Go.Builtin.len, args := #[Go.Operand.tmp 80], argTypes := #[28] }, type := 3, pos := "more.go:24", after := #[{ on := 10, ground := Go.Ground.data }, { on := 5, ground := Go.Ground.guard }], guard := some (5, false) }) rfl (by kernel_rfl) (by kernel_rfl) (by kernel_rfl) (by kernel_rfl) (fun _ _ _ h => h) (by first | exact fun _ => hF | exact fun _ => hF (by kernel_rfl)) (by rfl) ?_
                  | (refine wpAnyJ_take (i := 11) (oi := { dst := some 81, op := Go.Op.call { callee := Go.Callee.builtin Go.Builtin.len, args := #[Go.Operand.tmp 80], argTypes := #[28] }, type := 3, pos := "more.go:24", after := #[{ on := 10, ground := Go.Ground.data }, { on := 5, ground := Go.Ground.guard }], guard := some (5, false) }) (v := ?_) [12, 13, 14, 29] rfl (by kernel_rfl) (by kernel_rfl) (by kernel_rfl) (by kernel_rfl) (by kernel_rfl) (fun _ _ _ h => h) (by first | exact hF | exact hF (by kernel_rfl)) (fun w hFw => ?_) (by rfl) ?_
                     rotate_left
                     · ((try dsimp only at hFw); first | (go_simp; done) | (go_simp; with_reducible rfl) | (go_split_ands; go_simp; done)))
                  try simp only [Act.put, List.setIfInBounds_toArray, List.set_cons_zero, List.set_cons_succ]
                  first
                  | refine wpAnyJ_skip0 (i := 12) (oi := { dst := some 82, op := Go.Op.binOp Go.BinOp.geq 3 (Go.Operand.tmp 79) (Go.Operand.tmp 81) 3, type := 4, pos := "more.go:24", after := #[{ on := 9, ground := Go.Ground.data }, { on := 11, ground := Go.Ground.data }, { on := 5, ground := Go.Ground.guard }], guard := some (5, false) }) rfl (by kernel_rfl) (by kernel_rfl) (by kernel_rfl) (by kernel_rfl) (fun _ _ _ h => h) (by first | exact fun _ => hF | exact fun _ => hF (by kernel_rfl)) (by rfl) ?_
                  | (refine wpAnyJ_take0 (i := 12) (oi := { dst := some 82, op := Go.Op.binOp Go.BinOp.geq 3 (Go.Operand.tmp 79) (Go.Operand.tmp 81) 3, type := 4, pos := "more.go:24", after := #[{ on := 9, ground := Go.Ground.data }, { on := 11, ground := Go.Ground.data }, { on := 5, ground := Go.Ground.guard }], guard := some (5, false) }) (v := ?_) rfl (by kernel_rfl) (by kernel_rfl) (by kernel_rfl) (by kernel_rfl) (fun _ _ _ h => h) (by first | exact fun _ => hF | exact fun _ => hF (by kernel_rfl)) (fun w => ?_) (by rfl) ?_
                     rotate_left
                     · first | (go_simp; done) | (go_simp; with_reducible rfl) | (go_split_ands; go_simp; done))
                  try simp only [Act.put, List.setIfInBounds_toArray, List.set_cons_zero, List.set_cons_succ]
                  refine wpAnyJ_take0 (i := 13) (oi := { dst := some 83, op := Go.Op.pick (Go.Operand.tmp 75) (Go.Operand.const (Go.Value.bool true)) (Go.Operand.tmp 82), type := 4, pos := "more.go:24", after := #[{ on := 5, ground := Go.Ground.data }, { on := 12, ground := Go.Ground.data }], guard := none }) (v := ?_) rfl (by kernel_rfl) (by kernel_rfl) (by kernel_rfl) (by kernel_rfl) (fun _ _ _ h => h) (by first | exact fun _ => hF | exact fun _ => hF (by kernel_rfl)) (fun w => ?_) (by rfl) ?_
                  rotate_left
                  · first | (go_simp; done) | (go_simp; with_reducible rfl) | (go_split_ands; go_simp; done)
                  try simp only [Act.put, List.setIfInBounds_toArray, List.set_cons_zero, List.set_cons_succ]
                  refine wpAnyJ_take0 (i := 14) (oi := { dst := some 84, op := Go.Op.move (Go.Operand.tmp 83), type := 4, pos := "more.go:24", after := #[{ on := 13, ground := Go.Ground.data }, { on := 5, ground := Go.Ground.chain }], guard := none }) (v := ?_) rfl (by kernel_rfl) (by kernel_rfl) (by kernel_rfl) (by kernel_rfl) (fun _ _ _ h => h) (by first | exact fun _ => hF | exact fun _ => hF (by kernel_rfl)) (fun w => ?_) (by rfl) ?_
                  rotate_left
                  · first | (go_simp; done) | (go_simp; with_reducible rfl) | (go_split_ands; go_simp; done)
                  try simp only [Act.put, List.setIfInBounds_toArray, List.set_cons_zero, List.set_cons_succ]
                  first
                  | refine wpAnyJ_skip0 (i := 15) (oi := { dst := some 85, op := Go.Op.move (Go.Operand.tmp 10), type := 3, pos := "more.go:24", after := #[{ on := 14, ground := Go.Ground.guard }], guard := some (14, false) }) rfl (by kernel_rfl) (by kernel_rfl) (by kernel_rfl) (by kernel_rfl) (fun _ _ _ h => h) (by first | exact fun _ => hF | exact fun _ => hF (by kernel_rfl)) (by rfl) ?_
                  | (refine wpAnyJ_take0 (i := 15) (oi := { dst := some 85, op := Go.Op.move (Go.Operand.tmp 10), type := 3, pos := "more.go:24", after := #[{ on := 14, ground := Go.Ground.guard }], guard := some (14, false) }) (v := ?_) rfl (by kernel_rfl) (by kernel_rfl) (by kernel_rfl) (by kernel_rfl) (fun _ _ _ h => h) (by first | exact fun _ => hF | exact fun _ => hF (by kernel_rfl)) (fun w => ?_) (by rfl) ?_
                     rotate_left
                     · first | (go_simp; done) | (go_simp; with_reducible rfl) | (go_split_ands; go_simp; done))
                  try simp only [Act.put, List.setIfInBounds_toArray, List.set_cons_zero, List.set_cons_succ]
                  first
                  | refine wpAnyJ_skip0 (i := 16) (oi := { dst := some 86, op := Go.Op.binOp Go.BinOp.gtr 3 (Go.Operand.tmp 85) (Go.Operand.const (Go.Value.int Go.IntKind.i64 0)) 3, type := 4, pos := "more.go:24", after := #[{ on := 15, ground := Go.Ground.data }, { on := 14, ground := Go.Ground.guard }], guard := some (14, false) }) rfl (by kernel_rfl) (by kernel_rfl) (by kernel_rfl) (by kernel_rfl) (fun _ _ _ h => h) (by first | exact fun _ => hF | exact fun _ => hF (by kernel_rfl)) (by rfl) ?_
                  | (refine wpAnyJ_take0 (i := 16) (oi := { dst := some 86, op := Go.Op.binOp Go.BinOp.gtr 3 (Go.Operand.tmp 85) (Go.Operand.const (Go.Value.int Go.IntKind.i64 0)) 3, type := 4, pos := "more.go:24", after := #[{ on := 15, ground := Go.Ground.data }, { on := 14, ground := Go.Ground.guard }], guard := some (14, false) }) (v := ?_) rfl (by kernel_rfl) (by kernel_rfl) (by kernel_rfl) (by kernel_rfl) (fun _ _ _ h => h) (by first | exact fun _ => hF | exact fun _ => hF (by kernel_rfl)) (fun w => ?_) (by rfl) ?_
                     rotate_left
                     · first | (go_simp; done) | (go_simp; with_reducible rfl) | (go_split_ands; go_simp; done))
                  try simp only [Act.put, List.setIfInBounds_toArray, List.set_cons_zero, List.set_cons_succ]
                  first
                  | refine wpAnyJ_skip0 (i := 17) (oi := { dst := some 87, op := Go.Op.move (Go.Operand.tmp 86), type := 4, pos := "more.go:24", after := #[{ on := 16, ground := Go.Ground.data }, { on := 14, ground := Go.Ground.chain }, { on := 14, ground := Go.Ground.guard }], guard := some (14, false) }) rfl (by kernel_rfl) (by kernel_rfl) (by kernel_rfl) (by kernel_rfl) (fun _ _ _ h => h) (by first | exact fun _ => hF | exact fun _ => hF (by kernel_rfl)) (by rfl) ?_
                  | (refine wpAnyJ_take0 (i := 17) (oi := { dst := some 87, op := Go.Op.move (Go.Operand.tmp 86), type := 4, pos := "more.go:24", after := #[{ on := 16, ground := Go.Ground.data }, { on := 14, ground := Go.Ground.chain }, { on := 14, ground := Go.Ground.guard }], guard := some (14, false) }) (v := ?_) rfl (by kernel_rfl) (by kernel_rfl) (by kernel_rfl) (by kernel_rfl) (fun _ _ _ h => h) (by first | exact fun _ => hF | exact fun _ => hF (by kernel_rfl)) (fun w => ?_) (by rfl) ?_
                     rotate_left
                     · first | (go_simp; done) | (go_simp; with_reducible rfl) | (go_split_ands; go_simp; done))
                  try simp only [Act.put, List.setIfInBounds_toArray, List.set_cons_zero, List.set_cons_succ]
                  first
                  | refine wpAnyJ_skip0 (i := 18) (oi := { dst := some 88, op := Go.Op.move (Go.Operand.tmp 9), type := 28, pos := "more.go:24", after := #[{ on := 17, ground := Go.Ground.guard }], guard := some (17, true) }) rfl (by kernel_rfl) (by kernel_rfl) (by kernel_rfl) (by kernel_rfl) (fun _ _ _ h => h) (by first | exact fun _ => hF | exact fun _ => hF (by kernel_rfl)) (by rfl) ?_
                  | (refine wpAnyJ_take0 (i := 18) (oi := { dst := some 88, op := Go.Op.move (Go.Operand.tmp 9), type := 28, pos := "more.go:24", after := #[{ on := 17, ground := Go.Ground.guard }], guard := some (17, true) }) (v := ?_) rfl (by kernel_rfl) (by kernel_rfl) (by kernel_rfl) (by kernel_rfl) (fun _ _ _ h => h) (by first | exact fun _ => hF | exact fun _ => hF (by kernel_rfl)) (fun w => ?_) (by rfl) ?_
                     rotate_left
                     · first | (go_simp; done) | (go_simp; with_reducible rfl) | (go_split_ands; go_simp; done))
                  try simp only [Act.put, List.setIfInBounds_toArray, List.set_cons_zero, List.set_cons_succ]
                  first
                  | refine wpAnyJ_skip0 (i := 19) (oi := { dst := some 89, op := Go.Op.move (Go.Operand.tmp 10), type := 3, pos := "more.go:24", after := #[{ on := 17, ground := Go.Ground.guard }], guard := some (17, true) }) rfl (by kernel_rfl) (by kernel_rfl) (by kernel_rfl) (by kernel_rfl) (fun _ _ _ h => h) (by first | exact fun _ => hF | exact fun _ => hF (by kernel_rfl)) (by rfl) ?_
                  | (refine wpAnyJ_take0 (i := 19) (oi := { dst := some 89, op := Go.Op.move (Go.Operand.tmp 10), type := 3, pos := "more.go:24", after := #[{ on := 17, ground := Go.Ground.guard }], guard := some (17, true) }) (v := ?_) rfl (by kernel_rfl) (by kernel_rfl) (by kernel_rfl) (by kernel_rfl) (fun _ _ _ h => h) (by first | exact fun _ => hF | exact fun _ => hF (by kernel_rfl)) (fun w => ?_) (by rfl) ?_
                     rotate_left
                     · first | (go_simp; done) | (go_simp; with_reducible rfl) | (go_split_ands; go_simp; done))
                  try simp only [Act.put, List.setIfInBounds_toArray, List.set_cons_zero, List.set_cons_succ]
                  first
                  | refine wpAnyJ_skip0 (i := 20) (oi := { dst := some 90, op := Go.Op.indexAddr 28 (Go.Operand.tmp 88) (Go.Operand.tmp 89), type := 0, pos := "more.go:24", after := #[{ on := 18, ground := Go.Ground.data }, { on := 19, ground := Go.Ground.data }, { on := 17, ground := Go.Ground.guard }], guard := some (17, true) }) rfl (by kernel_rfl) (by kernel_rfl) (by kernel_rfl) (by kernel_rfl) (fun _ _ _ h => h) (by first | exact fun _ => hF | exact fun _ => hF (by kernel_rfl)) (by rfl) ?_
                  | (refine wpAnyJ_take0 (i := 20) (oi := { dst := some 90, op := Go.Op.indexAddr 28 (Go.Operand.tmp 88) (Go.Operand.tmp 89), type := 0, pos := "more.go:24", after := #[{ on := 18, ground := Go.Ground.data }, { on := 19, ground := Go.Ground.data }, { on := 17, ground := Go.Ground.guard }], guard := some (17, true) }) (v := ?_) rfl (by kernel_rfl) (by kernel_rfl) (by kernel_rfl) (by kernel_rfl) (fun _ _ _ h => h) (by first | exact fun _ => hF | exact fun _ => hF (by kernel_rfl)) (fun w => ?_) (by rfl) ?_
                     rotate_left
                     · first | (go_simp; done) | (go_simp; with_reducible rfl) | (go_split_ands; go_simp; done))
                  try simp only [Act.put, List.setIfInBounds_toArray, List.set_cons_zero, List.set_cons_succ]
                  first
                  | refine wpAnyJ_skip0 (i := 21) (oi := { dst := some 91, op := Go.Op.load 3 (Go.Operand.tmp 90), type := 3, pos := "more.go:24", after := #[{ on := 20, ground := Go.Ground.data }, { on := 17, ground := Go.Ground.guard }], guard := some (17, true) }) rfl (by kernel_rfl) (by kernel_rfl) (by kernel_rfl) (by kernel_rfl) (fun _ _ _ h => h) (by first | exact fun _ => hF | exact fun _ => hF (by kernel_rfl)) (by rfl) ?_
                  | (refine wpAnyJ_take (i := 21) (oi := { dst := some 91, op := Go.Op.load 3 (Go.Operand.tmp 90), type := 3, pos := "more.go:24", after := #[{ on := 20, ground := Go.Ground.data }, { on := 17, ground := Go.Ground.guard }], guard := some (17, true) }) (v := ?_) [27, 28, 29] rfl (by kernel_rfl) (by kernel_rfl) (by kernel_rfl) (by kernel_rfl) (by kernel_rfl) (fun _ _ _ h => h) (by first | exact hF | exact hF (by kernel_rfl)) (fun w hFw => ?_) (by rfl) ?_
                     rotate_left
                     · ((try dsimp only at hFw); first | (go_simp; done) | (go_simp; with_reducible rfl) | (go_split_ands; go_simp; done)))
                  try simp only [Act.put, List.setIfInBounds_toArray, List.set_cons_zero, List.set_cons_succ]
                  first
                  | refine wpAnyJ_skip0 (i := 22) (oi := { dst := some 92, op := Go.Op.move (Go.Operand.tmp 9), type := 28, pos := "more.go:24", after := #[{ on := 17, ground := Go.Ground.guard }], guard := some (17, true) }) rfl (by kernel_rfl) (by kernel_rfl) (by kernel_rfl) (by kernel_rfl) (fun _ _ _ h => h) (by first | exact fun _ => hF | exact fun _ => hF (by kernel_rfl)) (by rfl) ?_
                  | (refine wpAnyJ_take0 (i := 22) (oi := { dst := some 92, op := Go.Op.move (Go.Operand.tmp 9), type := 28, pos := "more.go:24", after := #[{ on := 17, ground := Go.Ground.guard }], guard := some (17, true) }) (v := ?_) rfl (by kernel_rfl) (by kernel_rfl) (by kernel_rfl) (by kernel_rfl) (fun _ _ _ h => h) (by first | exact fun _ => hF | exact fun _ => hF (by kernel_rfl)) (fun w => ?_) (by rfl) ?_
                     rotate_left
                     · first | (go_simp; done) | (go_simp; with_reducible rfl) | (go_split_ands; go_simp; done))
                  try simp only [Act.put, List.setIfInBounds_toArray, List.set_cons_zero, List.set_cons_succ]
                  first
                  | refine wpAnyJ_skip0 (i := 23) (oi := { dst := some 93, op := Go.Op.move (Go.Operand.tmp 10), type := 3, pos := "more.go:24", after := #[{ on := 17, ground := Go.Ground.guard }], guard := some (17, true) }) rfl (by kernel_rfl) (by kernel_rfl) (by kernel_rfl) (by kernel_rfl) (fun _ _ _ h => h) (by first | exact fun _ => hF | exact fun _ => hF (by kernel_rfl)) (by rfl) ?_
                  | (refine wpAnyJ_take0 (i := 23) (oi := { dst := some 93, op := Go.Op.move (Go.Operand.tmp 10), type := 3, pos := "more.go:24", after := #[{ on := 17, ground := Go.Ground.guard }], guard := some (17, true) }) (v := ?_) rfl (by kernel_rfl) (by kernel_rfl) (by kernel_rfl) (by kernel_rfl) (fun _ _ _ h => h) (by first | exact fun _ => hF | exact fun _ => hF (by kernel_rfl)) (fun w => ?_) (by rfl) ?_
                     rotate_left
                     · first | (go_simp; done) | (go_simp; with_reducible rfl) | (go_split_ands; go_simp; done))
                  try simp only [Act.put, List.setIfInBounds_toArray, List.set_cons_zero, List.set_cons_succ]
                  first
                  | refine wpAnyJ_skip0 (i := 24) (oi := { dst := some 94, op := Go.Op.binOp Go.BinOp.sub 3 (Go.Operand.tmp 93) (Go.Operand.const (Go.Value.int Go.IntKind.i64 1)) 3, type := 3, pos := "more.go:24", after := #[{ on := 23, ground := Go.Ground.data }, { on := 17, ground := Go.Ground.guard }], guard := some (17, true) }) rfl (by kernel_rfl) (by kernel_rfl) (by kernel_rfl) (by kernel_rfl) (fun _ _ _ h => h) (by first | exact fun _ => hF | exact fun _ => hF (by kernel_rfl)) (by rfl) ?_
                  | (refine wpAnyJ_take0 (i := 24) (oi := { dst := some 94, op := Go.Op.binOp Go.BinOp.sub 3 (Go.Operand.tmp 93) (Go.Operand.const (Go.Value.int Go.IntKind.i64 1)) 3, type := 3, pos := "more.go:24", after := #[{ on := 23, ground := Go.Ground.data }, { on := 17, ground := Go.Ground.guard }], guard := some (17, true) }) (v := ?_) rfl (by kernel_rfl) (by kernel_rfl) (by kernel_rfl) (by kernel_rfl) (fun _ _ _ h => h) (by first | exact fun _ => hF | exact fun _ => hF (by kernel_rfl)) (fun w => ?_) (by rfl) ?_
                     rotate_left
                     · first | (go_simp; done) | (go_simp; with_reducible rfl) | (go_split_ands; go_simp; done))
                  try simp only [Act.put, List.setIfInBounds_toArray, List.set_cons_zero, List.set_cons_succ]
                  first
                  | refine wpAnyJ_skip0 (i := 25) (oi := { dst := some 95, op := Go.Op.indexAddr 28 (Go.Operand.tmp 92) (Go.Operand.tmp 94), type := 0, pos := "more.go:24", after := #[{ on := 22, ground := Go.Ground.data }, { on := 24, ground := Go.Ground.data }, { on := 17, ground := Go.Ground.guard }], guard := some (17, true) }) rfl (by kernel_rfl) (by kernel_rfl) (by kernel_rfl) (by kernel_rfl) (fun _ _ _ h => h) (by first | exact fun _ => hF | exact fun _ => hF (by kernel_rfl)) (by rfl) ?_
                  | (refine wpAnyJ_take0 (i := 25) (oi := { dst := some 95, op := Go.Op.indexAddr 28 (Go.Operand.tmp 92) (Go.Operand.tmp 94), type := 0, pos := "more.go:24", after := #[{ on := 22, ground := Go.Ground.data }, { on := 24, ground := Go.Ground.data }, { on := 17, ground := Go.Ground.guard }], guard := some (17, true) }) (v := ?_) rfl (by kernel_rfl) (by kernel_rfl) (by kernel_rfl) (by kernel_rfl) (fun _ _ _ h => h) (by first | exact fun _ => hF | exact fun _ => hF (by kernel_rfl)) (fun w => ?_) (by rfl) ?_
                     rotate_left
                     · first | (go_simp; done) | (go_simp; with_reducible rfl) | (go_split_ands; go_simp; done))
                  try simp only [Act.put, List.setIfInBounds_toArray, List.set_cons_zero, List.set_cons_succ]
                  first
                  | refine wpAnyJ_skip0 (i := 26) (oi := { dst := some 96, op := Go.Op.load 3 (Go.Operand.tmp 95), type := 3, pos := "more.go:24", after := #[{ on := 25, ground := Go.Ground.data }, { on := 17, ground := Go.Ground.guard }], guard := some (17, true) }) rfl (by kernel_rfl) (by kernel_rfl) (by kernel_rfl) (by kernel_rfl) (fun _ _ _ h => h) (by first | exact fun _ => hF | exact fun _ => hF (by kernel_rfl)) (by rfl) ?_
                  | (refine wpAnyJ_take (i := 26) (oi := { dst := some 96, op := Go.Op.load 3 (Go.Operand.tmp 95), type := 3, pos := "more.go:24", after := #[{ on := 25, ground := Go.Ground.data }, { on := 17, ground := Go.Ground.guard }], guard := some (17, true) }) (v := ?_) [27, 28, 29] rfl (by kernel_rfl) (by kernel_rfl) (by kernel_rfl) (by kernel_rfl) (by kernel_rfl) (fun _ _ _ h => h) (by first | exact hF | exact hF (by kernel_rfl)) (fun w hFw => ?_) (by rfl) ?_
                     rotate_left
                     · ((try dsimp only at hFw); first | (go_simp; done) | (go_simp; with_reducible rfl) | (go_split_ands; go_simp; done)))
                  try simp only [Act.put, List.setIfInBounds_toArray, List.set_cons_zero, List.set_cons_succ]
                  first
                  | refine wpAnyJ_skip0 (i := 27) (oi := { dst := some 97, op := Go.Op.binOp Go.BinOp.leq 3 (Go.Operand.tmp 91) (Go.Operand.tmp 96) 3, type := 4, pos := "more.go:24", after := #[{ on := 21, ground := Go.Ground.data }, { on := 26, ground := Go.Ground.data }, { on := 17, ground := Go.Ground.guard }], guard := some (17, true) }) rfl (by kernel_rfl) (by kernel_rfl) (by kernel_rfl) (by kernel_rfl) (fun _ _ _ h => h) (by first | exact fun _ => hF | exact fun _ => hF (by kernel_rfl)) (by rfl) ?_
                  | (refine wpAnyJ_take0 (i := 27) (oi := { dst := some 97, op := Go.Op.binOp Go.BinOp.leq 3 (Go.Operand.tmp 91) (Go.Operand.tmp 96) 3, type := 4, pos := "more.go:24", after := #[{ on := 21, ground := Go.Ground.data }, { on := 26, ground := Go.Ground.data }, { on := 17, ground := Go.Ground.guard }], guard := some (17, true) }) (v := ?_) rfl (by kernel_rfl) (by kernel_rfl) (by kernel_rfl) (by kernel_rfl) (fun _ _ _ h => h) (by first | exact fun _ => hF | exact fun _ => hF (by kernel_rfl)) (fun w => ?_) (by rfl) ?_
                     rotate_left
                     · first | (go_simp; done) | (go_simp; with_reducible rfl) | (go_split_ands; go_simp; done))
                  try simp only [Act.put, List.setIfInBounds_toArray, List.set_cons_zero, List.set_cons_succ]
                  first
                  | refine wpAnyJ_skip0 (i := 28) (oi := { dst := some 98, op := Go.Op.pick (Go.Operand.tmp 87) (Go.Operand.tmp 97) (Go.Operand.const (Go.Value.bool false)), type := 4, pos := "more.go:24", after := #[{ on := 17, ground := Go.Ground.data }, { on := 27, ground := Go.Ground.data }, { on := 14, ground := Go.Ground.guard }], guard := some (14, false) }) rfl (by kernel_rfl) (by kernel_rfl) (by kernel_rfl) (by kernel_rfl) (fun _ _ _ h => h) (by first | exact fun _ => hF | exact fun _ => hF (by kernel_rfl)) (by rfl) ?_
                  | (refine wpAnyJ_take0 (i := 28) (oi := { dst := some 98, op := Go.Op.pick (Go.Operand.tmp 87) (Go.Operand.tmp 97) (Go.Operand.const (Go.Value.bool false)), type := 4, pos := "more.go:24", after := #[{ on := 17, ground := Go.Ground.data }, { on := 27, ground := Go.Ground.data }, { on := 14, ground := Go.Ground.guard }], guard := some (14, false) }) (v := ?_) rfl (by kernel_rfl) (by kernel_rfl) (by kernel_rfl) (by kernel_rfl) (fun _ _ _ h => h) (by first | exact fun _ => hF | exact fun _ => hF (by kernel_rfl)) (fun w => ?_) (by rfl) ?_
                     rotate_left
                     · first | (go_simp; done) | (go_simp; with_reducible rfl) | (go_split_ands; go_simp; done))
                  try simp only [Act.put, List.setIfInBounds_toArray, List.set_cons_zero, List.set_cons_succ]
                  refine wpAnyJ_ready (rs := [29]) (by kernel_rfl) (by simp) ?_
                  refine AllJ.cons (o := { dst := some 99, op := Go.Op.pick (Go.Operand.tmp 84) (Go.Operand.const (Go.Value.bool true)) (Go.Operand.tmp 98), type := 4, pos := "more.go:24", after := #[{ on := 14, ground := Go.Ground.data }, { on := 28, ground := Go.Ground.data }], guard := none }) rfl (fun Kr hKr => ?_) ?_
                  · go_simp
                    refine hKr.out _ _ (fun hJ => ?_) (fun hF => ?_)
                    · first
                      | exact absurd hJ (by decide)
                      | (clear hJ; (try dsimp only); all_goals (exact cx))
                    clear hKr
                    try simp only [Act.put, List.setIfInBounds_toArray, List.set_cons_zero, List.set_cons_succ]
                    refine wpAnyJ_done (by kernel_rfl) ?_ _
                    go_wp2_with fail
                    go_meet
                    exact ⟨rfl, rfl⟩
                  exact AllJ.nil
                · have g3 : decide ((0 : Int) < (j : Int)) = true := decide_eq_true (by omega)
                  have g3' : decide (0 < j) = true := decide_eq_true (by omega)
                  have g8 : decide (i ≤ i') = false := decide_eq_false (by omega)
                  have g4 : IntKind.i64.wrap ((j : Int) - 1) = (J : Int) := by rw [IntWalk.i64_in _ (by omega)]; omega
                  have g5 : (0 : Int) ≤ (J : Int) := by omega
                  have g6 : (J : Int) < (xs.length : Int) := by omega
                  have g7 : decide ((i : Int) ≤ (i' : Int)) = false := decide_eq_false (by omega)
                  replace hJ := Lib.hid hJ
                  go_wp2_with fail
                  refine wp_region_J 29 (fun w' => w'.cell? ⟨g2, j, none⟩ = some (ii (i : Int)) ∧ w'.cell? ⟨g2, J, none⟩ = some (iv i')) (by kernel_rfl) ?_ (fun hF => ?_)
                  · (try dsimp only)
                    all_goals (exact ⟨cx, cy⟩)
                  refine wpAnyJ_take0 (i := 0) (oi := { dst := some 70, op := Go.Op.move (Go.Operand.tmp 9), type := 28, pos := "more.go:24", after := #[], guard := none }) (v := ?_) rfl (by kernel_rfl) (by kernel_rfl) (by kernel_rfl) (by kernel_rfl) (fun _ _ _ h => h) (by first | exact fun _ => hF | exact fun _ => hF (by kernel_rfl)) (fun w => ?_) (by rfl) ?_
                  rotate_left
                  · first | (go_simp; done) | (go_simp; with_reducible rfl) | (go_split_ands; go_simp; done)
                  try simp only [Act.put, List.setIfInBounds_toArray, List.set_cons_zero, List.set_cons_succ]
                  refine wpAnyJ_take0 (i := 1) (oi := { dst := some 71, op := Go.Op.move (Go.Operand.tmp 10), type := 3, pos := "more.go:24", after := #[], guard := none }) (v := ?_) rfl (by kernel_rfl) (by kernel_rfl) (by kernel_rfl) (by kernel_rfl) (fun _ _ _ h => h) (by first | exact fun _ => hF | exact fun _ => hF (by kernel_rfl)) (fun w => ?_) (by rfl) ?_
                  rotate_left
                  · first | (go_simp; done) | (go_simp; with_reducible rfl) | (go_split_ands; go_simp; done)
                  try simp only [Act.put, List.setIfInBounds_toArray, List.set_cons_zero, List.set_cons_succ]
                  refine wpAnyJ_take0 (i := 2) (oi := { dst := some 72, op := Go.Op.indexAddr 28 (Go.Operand.tmp 70) (Go.Operand.tmp 71), type := 0, pos := "more.go:24", after := #[{ on := 0, ground := Go.Ground.data }, { on := 1, ground := Go.Ground.data }], guard := none }) (v := ?_) rfl (by kernel_rfl) (by kernel_rfl) (by kernel_rfl) (by kernel_rfl) (fun _ _ _ h => h) (by first | exact fun _ => hF | exact fun _ => hF (by kernel_rfl)) (fun w => ?_) (by rfl) ?_
                  rotate_left
                  · first | (go_simp; done) | (go_simp; with_reducible rfl) | (go_split_ands; go_simp; done)
                  try simp only [Act.put, List.setIfInBounds_toArray, List.set_cons_zero, List.set_cons_succ]
                  refine wpAnyJ_take (i := 3) (oi := { dst := some 73, op := Go.Op.load 3 (Go.Operand.tmp 72), type := 3, pos := "more.go:24", after := #[{ on := 2, ground := Go.Ground.data }], guard := none }) (v := ?_) [4, 5, 14, 29] rfl (by kernel_rfl) (by kernel_rfl) (by kernel_rfl) (by kernel_rfl) (by kernel_rfl) (fun _ _ _ h => h) (by first | exact hF | exact hF (by kernel_rfl)) (fun w hFw => ?_) (by rfl) ?_
                  rotate_left
                  · ((try dsimp only at hFw); first | (go_simp; done) | (go_simp; with_reducible rfl) | (go_split_ands; go_simp; done))
                  try simp only [Act.put, List.setIfInBounds_toArray, List.set_cons_zero, List.set_cons_succ]
                  refine wpAnyJ_take0 (i := 4) (oi := { dst := some 74, op := Go.Op.binOp Go.BinOp.lss 3 (Go.Operand.tmp 73) (Go.Operand.const (Go.Value.int Go.IntKind.i64 0)) 3, type := 4, pos := "more.go:24", after := #[{ on := 3, ground := Go.Ground.data }], guard := none }) (v := ?_) rfl (by kernel_rfl) (by kernel_rfl) (by kernel_rfl) (by kernel_rfl) (fun _ _ _ h => h) (by first | exact fun _ => hF | exact fun _ => hF (by kernel_rfl)) (fun w => ?_) (by rfl) ?_
                  rotate_left
                  · first | (go_simp; done) | (go_simp; with_reducible rfl) | (go_split_ands; go_simp; done)
                  try simp only [Act.put, List.setIfInBounds_toArray, List.set_cons_zero, List.set_cons_succ]
                  refine wpAnyJ_take0 (i := 5) (oi := { dst := some 75, op := Go.Op.move (Go.Operand.tmp 74), type := 4, pos := "more.go:24", after := #[{ on := 4, ground := Go.Ground.data }], guard := none }) (v := ?_) rfl (by kernel_rfl) (by kernel_rfl) (by kernel_rfl) (by kernel_rfl) (fun _ _ _ h => h) (by first | exact fun _ => hF | exact fun _ => hF (by kernel_rfl)) (fun w => ?_) (by rfl) ?_
                  rotate_left
                  · first | (go_simp; done) | (go_simp; with_reducible rfl) | (go_split_ands; go_simp; done)
                  try simp only [Act.put, List.setIfInBounds_toArray, List.set_cons_zero, List.set_cons_succ]
                  first
                  | refine wpAnyJ_skip0 (i := 6) (oi := { dst := some 76, op := Go.Op.move (Go.Operand.tmp 9), type := 28, pos := "more.go:24", after := #[{ on := 5, ground := Go.Ground.guard }], guard := some (5, false) }) rfl (by kernel_rfl) (by kernel_rfl) (by kernel_rfl) (by kernel_rfl) (fun _ _ _ h => h) (by first | exact fun _ => hF | exact fun _ => hF (by kernel_rfl)) (by rfl) ?_
                  | (refine wpAnyJ_take0 (i := 6) (oi := { dst := some 76, op := Go.Op.move (Go.Operand.tmp 9), type := 28, pos := "more.go:24", after := #[{ on := 5, ground := Go.Ground.guard }], guard := some (5, false) }) (v := ?_) rfl (by kernel_rfl) (by kernel_rfl) (by kernel_rfl) (by kernel_rfl) (fun _ _ _ h => h) (by first | exact fun _ => hF | exact fun _ => hF (by kernel_rfl)) (fun w => ?_) (by rfl) ?_
                     rotate_left
                     · first | (go_simp; done) | (go_simp; with_reducible rfl) | (go_split_ands; go_simp; done))
                  try simp only [Act.put, List.setIfInBounds_toArray, List.set_cons_zero, List.set_cons_succ]
                  first
                  | refine wpAnyJ_skip0 (i := 7) (oi := { dst := some 77, op := Go.Op.move (Go.Operand.tmp 10), type := 3, pos := "more.go:24", after := #[{ on := 5, ground := Go.Ground.guard }], guard := some (5, false) }) rfl (by kernel_rfl) (by kernel_rfl) (by kernel_rfl) (by kernel_rfl) (fun _ _ _ h => h) (by first | exact fun _ => hF | exact fun _ => hF (by kernel_rfl)) (by rfl) ?_
                  | (refine wpAnyJ_take0 (i := 7) (oi := { dst := some 77, op := Go.Op.move (Go.Operand.tmp 10), type := 3, pos := "more.go:24", after := #[{ on := 5, ground := Go.Ground.guard }], guard := some (5, false) }) (v := ?_) rfl (by kernel_rfl) (by kernel_rfl) (by kernel_rfl) (by kernel_rfl) (fun _ _ _ h => h) (by first | exact fun _ => hF | exact fun _ => hF (by kernel_rfl)) (fun w => ?_) (by rfl) ?_
                     rotate_left
                     · first | (go_simp; done) | (go_simp; with_reducible rfl) | (go_split_ands; go_simp; done))
                  try simp only [Act.put, List.setIfInBounds_toArray, List.set_cons_zero, List.set_cons_succ]
                  first
                  | refine wpAnyJ_skip0 (i := 8) (oi := { dst := some 78, op := Go.Op.indexAddr 28 (Go.Operand.tmp 76) (Go.Operand.tmp 77), type := 0, pos := "more.go:24", after := #[{ on := 6, ground := Go.Ground.data }, { on := 7, ground := Go.Ground.data }, { on := 5, ground := Go.Ground.guard }], guard := some (5, false) }) rfl (by kernel_rfl) (by kernel_rfl) (by kernel_rfl) (by kernel_rfl) (fun _ _ _ h => h) (by first | exact fun _ => hF | exact fun _ => hF (by kernel_rfl)) (by rfl) ?_
                  | (refine wpAnyJ_take0 (i := 8) (oi := { dst := some 78, op := Go.Op.indexAddr 28 (Go.Operand.tmp 76) (Go.Operand.tmp 77), type := 0, pos := "more.go:24", after := #[{ on := 6, ground := Go.Ground.data }, { on := 7, ground := Go.Ground.data }, { on := 5, ground := Go.Ground.guard }], guard := some (5, false) }) (v := ?_) rfl (by kernel_rfl) (by kernel_rfl) (by kernel_rfl) (by kernel_rfl) (fun _ _ _ h => h) (by first | exact fun _ => hF | exact fun _ => hF (by kernel_rfl)) (fun w => ?_) (by rfl) ?_
                     rotate_left
                     · first | (go_simp; done) | (go_simp; with_reducible rfl) | (go_split_ands; go_simp; done))
                  try simp only [Act.put, List.setIfInBounds_toArray, List.set_cons_zero, List.set_cons_succ]
                  first
                  | refine wpAnyJ_skip0 (i := 9) (oi := { dst := some 79, op := Go.Op.load 3 (Go.Operand.tmp 78), type := 3, pos := "more.go:24", after := #[{ on := 8, ground := Go.Ground.data }, { on := 5, ground := Go.Ground.guard }], guard := some (5, false) }) rfl (by kernel_rfl) (by kernel_rfl) (by kernel_rfl) (by kernel_rfl) (fun _ _ _ h => h) (by first | exact fun _ => hF | exact fun _ => hF (by kernel_rfl)) (by rfl) ?_
                  | (refine wpAnyJ_take (i := 9) (oi := { dst := some 79, op := Go.Op.load 3 (Go.Operand.tmp 78), type := 3, pos := "more.go:24", after := #[{ on := 8, ground := Go.Ground.data }, { on := 5, ground := Go.Ground.guard }], guard := some (5, false) }) (v := ?_) [12, 13, 14, 29] rfl (by kernel_rfl) (by kernel_rfl) (by kernel_rfl) (by kernel_rfl) (by kernel_rfl) (fun _ _ _ h => h) (by first | exact hF | exact hF (by kernel_rfl)) (fun w hFw => ?_) (by rfl) ?_
                     rotate_left
                     · ((try dsimp only at hFw); first | (go_simp; done) | (go_simp; with_reducible rfl) | (go_split_ands; go_simp; done)))
                  try simp only [Act.put, List.setIfInBounds_toArray, List.set_cons_zero, List.set_cons_succ]
                  first
                  | refine wpAnyJ_skip0 (i := 10) (oi := { dst := some 80, op := Go.Op.move (Go.Operand.tmp 0), type := 28, pos := "more.go:24", after := #[{ on := 5, ground := Go.Ground.guard }], guard := some (5, false) }) rfl (by kernel_rfl) (by kernel_rfl) (by kernel_rfl) (by kernel_rfl) (fun _ _ _ h => h) (by first | exact fun _ => hF | exact fun _ => hF (by kernel_rfl)) (by rfl) ?_
                  | (refine wpAnyJ_take0 (i := 10) (oi := { dst := some 80, op := Go.Op.move (Go.Operand.tmp 0), type := 28, pos := "more.go:24", after := #[{ on := 5, ground := Go.Ground.guard }], guard := some (5, false) }) (v := ?_) rfl (by kernel_rfl) (by kernel_rfl) (by kernel_rfl) (by kernel_rfl) (fun _ _ _ h => h) (by first | exact fun _ => hF | exact fun _ => hF (by kernel_rfl)) (fun w => ?_) (by rfl) ?_
                     rotate_left
                     · first | (go_simp; done) | (go_simp; with_reducible rfl) | (go_split_ands; go_simp; done))
                  try simp only [Act.put, List.setIfInBounds_toArray, List.set_cons_zero, List.set_cons_succ]
                  first
                  | refine wpAnyJ_skip0 (i := 11) (oi := { dst := some 81, op := Go.Op.call { callee := Go.Callee.builtin Go.Builtin.len, args := #[Go.Operand.tmp 80], argTypes := #[28] }, type := 3, pos := "more.go:24", after := #[{ on := 10, ground := Go.Ground.data }, { on := 5, ground := Go.Ground.guard }], guard := some (5, false) }) rfl (by kernel_rfl) (by kernel_rfl) (by kernel_rfl) (by kernel_rfl) (fun _ _ _ h => h) (by first | exact fun _ => hF | exact fun _ => hF (by kernel_rfl)) (by rfl) ?_
                  | (refine wpAnyJ_take (i := 11) (oi := { dst := some 81, op := Go.Op.call { callee := Go.Callee.builtin Go.Builtin.len, args := #[Go.Operand.tmp 80], argTypes := #[28] }, type := 3, pos := "more.go:24", after := #[{ on := 10, ground := Go.Ground.data }, { on := 5, ground := Go.Ground.guard }], guard := some (5, false) }) (v := ?_) [12, 13, 14, 29] rfl (by kernel_rfl) (by kernel_rfl) (by kernel_rfl) (by kernel_rfl) (by kernel_rfl) (fun _ _ _ h => h) (by first | exact hF | exact hF (by kernel_rfl)) (fun w hFw => ?_) (by rfl) ?_
                     rotate_left
                     · ((try dsimp only at hFw); first | (go_simp; done) | (go_simp; with_reducible rfl) | (go_split_ands; go_simp; done)))
                  try simp only [Act.put, List.setIfInBounds_toArray, List.set_cons_zero, List.set_cons_succ]
                  first
                  | refine wpAnyJ_skip0 (i := 12) (oi := { dst := some 82, op := Go.Op.binOp Go.BinOp.geq 3 (Go.Operand.tmp 79) (Go.Operand.tmp 81) 3, type := 4, pos := "more.go:24", after := #[{ on := 9, ground := Go.Ground.data }, { on := 11, ground := Go.Ground.data }, { on := 5, ground := Go.Ground.guard }], guard := some (5, false) }) rfl (by kernel_rfl) (by kernel_rfl) (by kernel_rfl) (by kernel_rfl) (fun _ _ _ h => h) (by first | exact fun _ => hF | exact fun _ => hF (by kernel_rfl)) (by rfl) ?_
                  | (refine wpAnyJ_take0 (i := 12) (oi := { dst := some 82, op := Go.Op.binOp Go.BinOp.geq 3 (Go.Operand.tmp 79) (Go.Operand.tmp 81) 3, type := 4, pos := "more.go:24", after := #[{ on := 9, ground := Go.Ground.data }, { on := 11, ground := Go.Ground.data }, { on := 5, ground := Go.Ground.guard }], guard := some (5, false) }) (v := ?_) rfl (by kernel_rfl) (by kernel_rfl) (by kernel_rfl) (by kernel_rfl) (fun _ _ _ h => h) (by first | exact fun _ => hF | exact fun _ => hF (by kernel_rfl)) (fun w => ?_) (by rfl) ?_
                     rotate_left
                     · first | (go_simp; done) | (go_simp; with_reducible rfl) | (go_split_ands; go_simp; done))
                  try simp only [Act.put, List.setIfInBounds_toArray, List.set_cons_zero, List.set_cons_succ]
                  refine wpAnyJ_take0 (i := 13) (oi := { dst := some 83, op := Go.Op.pick (Go.Operand.tmp 75) (Go.Operand.const (Go.Value.bool true)) (Go.Operand.tmp 82), type := 4, pos := "more.go:24", after := #[{ on := 5, ground := Go.Ground.data }, { on := 12, ground := Go.Ground.data }], guard := none }) (v := ?_) rfl (by kernel_rfl) (by kernel_rfl) (by kernel_rfl) (by kernel_rfl) (fun _ _ _ h => h) (by first | exact fun _ => hF | exact fun _ => hF (by kernel_rfl)) (fun w => ?_) (by rfl) ?_
                  rotate_left
                  · first | (go_simp; done) | (go_simp; with_reducible rfl) | (go_split_ands; go_simp; done)
                  try simp only [Act.put, List.setIfInBounds_toArray, List.set_cons_zero, List.set_cons_succ]
                  refine wpAnyJ_take0 (i := 14) (oi := { dst := some 84, op := Go.Op.move (Go.Operand.tmp 83), type := 4, pos := "more.go:24", after := #[{ on := 13, ground := Go.Ground.data }, { on := 5, ground := Go.Ground.chain }], guard := none }) (v := ?_) rfl (by kernel_rfl) (by kernel_rfl) (by kernel_rfl) (by kernel_rfl) (fun _ _ _ h => h) (by first | exact fun _ => hF | exact fun _ => hF (by kernel_rfl)) (fun w => ?_) (by rfl) ?_
                  rotate_left
                  · first | (go_simp; done) | (go_simp; with_reducible rfl) | (go_split_ands; go_simp; done)
                  try simp only [Act.put, List.setIfInBounds_toArray, List.set_cons_zero, List.set_cons_succ]
                  first
                  | refine wpAnyJ_skip0 (i := 15) (oi := { dst := some 85, op := Go.Op.move (Go.Operand.tmp 10), type := 3, pos := "more.go:24", after := #[{ on := 14, ground := Go.Ground.guard }], guard := some (14, false) }) rfl (by kernel_rfl) (by kernel_rfl) (by kernel_rfl) (by kernel_rfl) (fun _ _ _ h => h) (by first | exact fun _ => hF | exact fun _ => hF (by kernel_rfl)) (by rfl) ?_
                  | (refine wpAnyJ_take0 (i := 15) (oi := { dst := some 85, op := Go.Op.move (Go.Operand.tmp 10), type := 3, pos := "more.go:24", after := #[{ on := 14, ground := Go.Ground.guard }], guard := some (14, false) }) (v := ?_) rfl (by kernel_rfl) (by kernel_rfl) (by kernel_rfl) (by kernel_rfl) (fun _ _ _ h => h) (by first | exact fun _ => hF | exact fun _ => hF (by kernel_rfl)) (fun w => ?_) (by rfl) ?_
                     rotate_left
                     · first | (go_simp; done) | (go_simp; with_reducible rfl) | (go_split_ands; go_simp; done))
                  try simp only [Act.put, List.setIfInBounds_toArray, List.set_cons_zero, List.set_cons_succ]
                  first
                  | refine wpAnyJ_skip0 (i := 16) (oi := { dst := some 86, op := Go.Op.binOp Go.BinOp.gtr 3 (Go.Operand.tmp 85) (Go.Operand.const (Go.Value.int Go.IntKind.i64 0)) 3, type := 4, pos := "more.go:24", after := #[{ on := 15, ground := Go.Ground.data }, { on := 14, ground := Go.Ground.guard }], guard := some (14, false) }) rfl (by kernel_rfl) (by kernel_rfl) (by kernel_rfl) (by kernel_rfl) (fun _ _ _ h => h) (by first | exact fun _ => hF | exact fun _ => hF (by kernel_rfl)) (by rfl) ?_
                  | (refine wpAnyJ_take0 (i := 16) (oi := { dst := some 86, op := Go.Op.binOp Go.BinOp.gtr 3 (Go.Operand.tmp 85) (Go.Operand.const (Go.Value.int Go.IntKind.i64 0)) 3, type := 4, pos := "more.go:24", after := #[{ on := 15, ground := Go.Ground.data }, { on := 14, ground := Go.Ground.guard }], guard := some (14, false) }) (v := ?_) rfl (by kernel_rfl) (by kernel_rfl) (by kernel_rfl) (by kernel_rfl) (fun _ _ _ h => h) (by first | exact fun _ => hF | exact fun _ => hF (by kernel_rfl)) (fun w => ?_) (by rfl) ?_
                     rotate_left
                     · first | (go_simp; done) | (go_simp; with_reducible rfl) | (go_split_ands; go_simp; done))
                  try simp only [Act.put, List.setIfInBounds_toArray, List.set_cons_zero, List.set_cons_succ]
                  first
                  | refine wpAnyJ_skip0 (i := 17) (oi := { dst := some 87, op := Go.Op.move (Go.Operand.tmp 86), type := 4, pos := "more.go:24", after := #[{ on := 16, ground := Go.Ground.data }, { on := 14, ground := Go.Ground.chain }, { on := 14, ground := Go.Ground.guard }], guard := some (14, false) }) rfl (by kernel_rfl) (by kernel_rfl) (by kernel_rfl) (by kernel_rfl) (fun _ _ _ h => h) (by first | exact fun _ => hF | exact fun _ => hF (by kernel_rfl)) (by rfl) ?_
                  | (refine wpAnyJ_take0 (i := 17) (oi := { dst := some 87, op := Go.Op.move (Go.Operand.tmp 86), type := 4, pos := "more.go:24", after := #[{ on := 16, ground := Go.Ground.data }, { on := 14, ground := Go.Ground.chain }, { on := 14, ground := Go.Ground.guard }], guard := some (14, false) }) (v := ?_) rfl (by kernel_rfl) (by kernel_rfl) (by kernel_rfl) (by kernel_rfl) (fun _ _ _ h => h) (by first | exact fun _ => hF | exact fun _ => hF (by kernel_rfl)) (fun w => ?_) (by rfl) ?_
                     rotate_left
                     · first | (go_simp; done) | (go_simp; with_reducible rfl) | (go_split_ands; go_simp; done))
                  try simp only [Act.put, List.setIfInBounds_toArray, List.set_cons_zero, List.set_cons_succ]
                  first
                  | refine wpAnyJ_skip0 (i := 18) (oi := { dst := some 88, op := Go.Op.move (Go.Operand.tmp 9), type := 28, pos := "more.go:24", after := #[{ on := 17, ground := Go.Ground.guard }], guard := some (17, true) }) rfl (by kernel_rfl) (by kernel_rfl) (by kernel_rfl) (by kernel_rfl) (fun _ _ _ h => h) (by first | exact fun _ => hF | exact fun _ => hF (by kernel_rfl)) (by rfl) ?_
                  | (refine wpAnyJ_take0 (i := 18) (oi := { dst := some 88, op := Go.Op.move (Go.Operand.tmp 9), type := 28, pos := "more.go:24", after := #[{ on := 17, ground := Go.Ground.guard }], guard := some (17, true) }) (v := ?_) rfl (by kernel_rfl) (by kernel_rfl) (by kernel_rfl) (by kernel_rfl) (fun _ _ _ h => h) (by first | exact fun _ => hF | exact fun _ => hF (by kernel_rfl)) (fun w => ?_) (by rfl) ?_
                     rotate_left
                     · first | (go_simp; done) | (go_simp; with_reducible rfl) | (go_split_ands; go_simp; done))
                  try simp only [Act.put, List.setIfInBounds_toArray, List.set_cons_zero, List.set_cons_succ]
                  first
                  | refine wpAnyJ_skip0 (i := 19) (oi := { dst := some 89, op := Go.Op.move (Go.Operand.tmp 10), type := 3, pos := "more.go:24", after := #[{ on := 17, ground := Go.Ground.guard }], guard := some (17, true) }) rfl (by kernel_rfl) (by kernel_rfl) (by kernel_rfl) (by kernel_rfl) (fun _ _ _ h => h) (by first | exact fun _ => hF | exact fun _ => hF (by kernel_rfl)) (by rfl) ?_
                  | (refine wpAnyJ_take0 (i := 19) (oi := { dst := some 89, op := Go.Op.move (Go.Operand.tmp 10), type := 3, pos := "more.go:24", after := #[{ on := 17, ground := Go.Ground.guard }], guard := some (17, true) }) (v := ?_) rfl (by kernel_rfl) (by kernel_rfl) (by kernel_rfl) (by kernel_rfl) (fun _ _ _ h => h) (by first | exact fun _ => hF | exact fun _ => hF (by kernel_rfl)) (fun w => ?_) (by rfl) ?_
                     rotate_left
                     · first | (go_simp; done) | (go_simp; with_reducible rfl) | (go_split_ands; go_simp; done))
                  try simp only [Act.put, List.setIfInBounds_toArray, List.set_cons_zero, List.set_cons_succ]
                  first
                  | refine wpAnyJ_skip0 (i := 20) (oi := { dst := some 90, op := Go.Op.indexAddr 28 (Go.Operand.tmp 88) (Go.Operand.tmp 89), type := 0, pos := "more.go:24", after := #[{ on := 18, ground := Go.Ground.data }, { on := 19, ground := Go.Ground.data }, { on := 17, ground := Go.Ground.guard }], guard := some (17, true) }) rfl (by kernel_rfl) (by kernel_rfl) (by kernel_rfl) (by kernel_rfl) (fun _ _ _ h => h) (by first | exact fun _ => hF | exact fun _ => hF (by kernel_rfl)) (by rfl) ?_
                  | (refine wpAnyJ_take0 (i := 20) (oi := { dst := some 90, op := Go.Op.indexAddr 28 (Go.Operand.tmp 88) (Go.Operand.tmp 89), type := 0, pos := "more.go:24", after := #[{ on := 18, ground := Go.Ground.data }, { on := 19, ground := Go.Ground.data }, { on := 17, ground := Go.Ground.guard }], guard := some (17, true) }) (v := ?_) rfl (by kernel_rfl) (by kernel_rfl) (by kernel_rfl) (by kernel_rfl) (fun _ _ _ h => h) (by first | exact fun _ => hF | exact fun _ => hF (by kernel_rfl)) (fun w => ?_) (by rfl) ?_
                     rotate_left
                     · first | (go_simp; done) | (go_simp; with_reducible rfl) | (go_split_ands; go_simp; done))
                  try simp only [Act.put, List.setIfInBounds_toArray, List.set_cons_zero, List.set_cons_succ]
                  first
                  | refine wpAnyJ_skip0 (i := 21) (oi := { dst := some 91, op := Go.Op.load 3 (Go.Operand.tmp 90), type := 3, pos := "more.go:24", after := #[{ on := 20, ground := Go.Ground.data }, { on := 17, ground := Go.Ground.guard }], guard := some (17, true) }) rfl (by kernel_rfl) (by kernel_rfl) (by kernel_rfl) (by kernel_rfl) (fun _ _ _ h => h) (by first | exact fun _ => hF | exact fun _ => hF (by kernel_rfl)) (by rfl) ?_
                  | (refine wpAnyJ_take (i := 21) (oi := { dst := some 91, op := Go.Op.load 3 (Go.Operand.tmp 90), type := 3, pos := "more.go:24", after := #[{ on := 20, ground := Go.Ground.data }, { on := 17, ground := Go.Ground.guard }], guard := some (17, true) }) (v := ?_) [27, 28, 29] rfl (by kernel_rfl) (by kernel_rfl) (by kernel_rfl) (by kernel_rfl) (by kernel_rfl) (fun _ _ _ h => h) (by first | exact hF | exact hF (by kernel_rfl)) (fun w hFw => ?_) (by rfl) ?_
                     rotate_left
                     · ((try dsimp only at hFw); first | (go_simp; done) | (go_simp; with_reducible rfl) | (go_split_ands; go_simp; done)))
                  try simp only [Act.put, List.setIfInBounds_toArray, List.set_cons_zero, List.set_cons_succ]
                  first
                  | refine wpAnyJ_skip0 (i := 22) (oi := { dst := some 92, op := Go.Op.move (Go.Operand.tmp 9), type := 28, pos := "more.go:24", after := #[{ on := 17, ground := Go.Ground.guard }], guard := some (17, true) }) rfl (by kernel_rfl) (by kernel_rfl) (by kernel_rfl) (by kernel_rfl) (fun _ _ _ h => h) (by first | exact fun _ => hF | exact fun _ => hF (by kernel_rfl)) (by rfl) ?_
                  | (refine wpAnyJ_take0 (i := 22) (oi := { dst := some 92, op := Go.Op.move (Go.Operand.tmp 9), type := 28, pos := "more.go:24", after := #[{ on := 17, ground := Go.Ground.guard }], guard := some (17, true) }) (v := ?_) rfl (by kernel_rfl) (by kernel_rfl) (by kernel_rfl) (by kernel_rfl) (fun _ _ _ h => h) (by first | exact fun _ => hF | exact fun _ => hF (by kernel_rfl)) (fun w => ?_) (by rfl) ?_
                     rotate_left
                     · first | (go_simp; done) | (go_simp; with_reducible rfl) | (go_split_ands; go_simp; done))
                  try simp only [Act.put, List.setIfInBounds_toArray, List.set_cons_zero, List.set_cons_succ]
                  first
                  | refine wpAnyJ_skip0 (i := 23) (oi := { dst := some 93, op := Go.Op.move (Go.Operand.tmp 10), type := 3, pos := "more.go:24", after := #[{ on := 17, ground := Go.Ground.guard }], guard := some (17, true) }) rfl (by kernel_rfl) (by kernel_rfl) (by kernel_rfl) (by kernel_rfl) (fun _ _ _ h => h) (by first | exact fun _ => hF | exact fun _ => hF (by kernel_rfl)) (by rfl) ?_
                  | (refine wpAnyJ_take0 (i := 23) (oi := { dst := some 93, op := Go.Op.move (Go.Operand.tmp 10), type := 3, pos := "more.go:24", after := #[{ on := 17, ground := Go.Ground.guard }], guard := some (17, true) }) (v := ?_) rfl (by kernel_rfl) (by kernel_rfl) (by kernel_rfl) (by kernel_rfl) (fun _ _ _ h => h) (by first | exact fun _ => hF | exact fun _ => hF (by kernel_rfl)) (fun w => ?_) (by rfl) ?_
                     rotate_left
                     · first | (go_simp; done) | (go_simp; with_reducible rfl) | (go_split_ands; go_simp; done))
                  try simp only [Act.put, List.setIfInBounds_toArray, List.set_cons_zero, List.set_cons_succ]
                  first
                  | refine wpAnyJ_skip0 (i := 24) (oi := { dst := some 94, op := Go.Op.binOp Go.BinOp.sub 3 (Go.Operand.tmp 93) (Go.Operand.const (Go.Value.int Go.IntKind.i64 1)) 3, type := 3, pos := "more.go:24", after := #[{ on := 23, ground := Go.Ground.data }, { on := 17, ground := Go.Ground.guard }], guard := some (17, true) }) rfl (by kernel_rfl) (by kernel_rfl) (by kernel_rfl) (by kernel_rfl) (fun _ _ _ h => h) (by first | exact fun _ => hF | exact fun _ => hF (by kernel_rfl)) (by rfl) ?_
                  | (refine wpAnyJ_take0 (i := 24) (oi := { dst := some 94, op := Go.Op.binOp Go.BinOp.sub 3 (Go.Operand.tmp 93) (Go.Operand.const (Go.Value.int Go.IntKind.i64 1)) 3, type := 3, pos := "more.go:24", after := #[{ on := 23, ground := Go.Ground.data }, { on := 17, ground := Go.Ground.guard }], guard := some (17, true) }) (v := ?_) rfl (by kernel_rfl) (by kernel_rfl) (by kernel_rfl) (by kernel_rfl) (fun _ _ _ h => h) (by first | exact fun _ => hF | exact fun _ => hF (by kernel_rfl)) (fun w => ?_) (by rfl) ?_
                     rotate_left
                     · first | (go_simp; done) | (go_simp; with_reducible rfl) | (go_split_ands; go_simp; done))
                  try simp only [Act.put, List.setIfInBounds_toArray, List.set_cons_zero, List.set_cons_succ]
                  first
                  | refine wpAnyJ_skip0 (i := 25) (oi := { dst := some 95, op := Go.Op.indexAddr 28 (Go.Operand.tmp 92) (Go.Operand.tmp 94), type := 0, pos := "more.go:24", after := #[{ on := 22, ground := Go.Ground.data }, { on := 24, ground := Go.Ground.data }, { on := 17, ground := Go.Ground.guard }], guard := some (17, true) }) rfl (by kernel_rfl) (by kernel_rfl) (by kernel_rfl) (by kernel_rfl) (fun _ _ _ h => h) (by first | exact fun _ => hF | exact fun _ => hF (by kernel_rfl)) (by rfl) ?_
                  | (refine wpAnyJ_take0 (i := 25) (oi := { dst := some 95, op := Go.Op.indexAddr 28 (Go.Operand.tmp 92) (Go.Operand.tmp 94), type := 0, pos := "more.go:24", after := #[{ on := 22, ground := Go.Ground.data }, { on := 24, ground := Go.Ground.data }, { on := 17, ground := Go.Ground.guard }], guard := some (17, true) }) (v := ?_) rfl (by kernel_rfl) (by kernel_rfl) (by kernel_rfl) (by kernel_rfl) (fun _ _ _ h => h) (by first | exact fun _ => hF | exact fun _ => hF (by kernel_rfl)) (fun w => ?_) (by rfl) ?_
                     rotate_left
                     · first | (go_simp; done) | (go_simp; with_reducible rfl) | (go_split_ands; go_simp; done))
                  try simp only [Act.put, List.setIfInBounds_toArray, List.set_cons_zero, List.set_cons_succ]
                  first
                  | refine wpAnyJ_skip0 (i := 26) (oi := { dst := some 96, op := Go.Op.load 3 (Go.Operand.tmp 95), type := 3, pos := "more.go:24", after := #[{ on := 25, ground := Go.Ground.data }, { on := 17, ground := Go.Ground.guard }], guard := some (17, true) }) rfl (by kernel_rfl) (by kernel_rfl) (by kernel_rfl) (by kernel_rfl) (fun _ _ _ h => h) (by first | exact fun _ => hF | exact fun _ => hF (by kernel_rfl)) (by rfl) ?_
                  | (refine wpAnyJ_take (i := 26) (oi := { dst := some 96, op := Go.Op.load 3 (Go.Operand.tmp 95), type := 3, pos := "more.go:24", after := #[{ on := 25, ground := Go.Ground.data }, { on := 17, ground := Go.Ground.guard }], guard := some (17, true) }) (v := ?_) [27, 28, 29] rfl (by kernel_rfl) (by kernel_rfl) (by kernel_rfl) (by kernel_rfl) (by kernel_rfl) (fun _ _ _ h => h) (by first | exact hF | exact hF (by kernel_rfl)) (fun w hFw => ?_) (by rfl) ?_
                     rotate_left
                     · ((try dsimp only at hFw); first | (go_simp; done) | (go_simp; with_reducible rfl) | (go_split_ands; go_simp; done)))
                  try simp only [Act.put, List.setIfInBounds_toArray, List.set_cons_zero, List.set_cons_succ]
                  first
                  | refine wpAnyJ_skip0 (i := 27) (oi := { dst := some 97, op := Go.Op.binOp Go.BinOp.leq 3 (Go.Operand.tmp 91) (Go.Operand.tmp 96) 3, type := 4, pos := "more.go:24", after := #[{ on := 21, ground := Go.Ground.data }, { on := 26, ground := Go.Ground.data }, { on := 17, ground := Go.Ground.guard }], guard := some (17, true) }) rfl (by kernel_rfl) (by kernel_rfl) (by kernel_rfl) (by kernel_rfl) (fun _ _ _ h => h) (by first | exact fun _ => hF | exact fun _ => hF (by kernel_rfl)) (by rfl) ?_
                  | (refine wpAnyJ_take0 (i := 27) (oi := { dst := some 97, op := Go.Op.binOp Go.BinOp.leq 3 (Go.Operand.tmp 91) (Go.Operand.tmp 96) 3, type := 4, pos := "more.go:24", after := #[{ on := 21, ground := Go.Ground.data }, { on := 26, ground := Go.Ground.data }, { on := 17, ground := Go.Ground.guard }], guard := some (17, true) }) (v := ?_) rfl (by kernel_rfl) (by kernel_rfl) (by kernel_rfl) (by kernel_rfl) (fun _ _ _ h => h) (by first | exact fun _ => hF | exact fun _ => hF (by kernel_rfl)) (fun w => ?_) (by rfl) ?_
                     rotate_left
                     · first | (go_simp; done) | (go_simp; with_reducible rfl) | (go_split_ands; go_simp; done))
                  try simp only [Act.put, List.setIfInBounds_toArray, List.set_cons_zero, List.set_cons_succ]
                  first
                  | refine wpAnyJ_skip0 (i := 28) (oi := { dst := some 98, op := Go.Op.pick (Go.Operand.tmp 87) (Go.Operand.tmp 97) (Go.Operand.const (Go.Value.bool false)), type := 4, pos := "more.go:24", after := #[{ on := 17, ground := Go.Ground.data }, { on := 27, ground := Go.Ground.data }, { on := 14, ground := Go.Ground.guard }], guard := some (14, false) }) rfl (by kernel_rfl) (by kernel_rfl) (by kernel_rfl) (by kernel_rfl) (fun _ _ _ h => h) (by first | exact fun _ => hF | exact fun _ => hF (by kernel_rfl)) (by rfl) ?_
                  | (refine wpAnyJ_take0 (i := 28) (oi := { dst := some 98, op := Go.Op.pick (Go.Operand.tmp 87) (Go.Operand.tmp 97) (Go.Operand.const (Go.Value.bool false)), type := 4, pos := "more.go:24", after := #[{ on := 17, ground := Go.Ground.data }, { on := 27, ground := Go.Ground.data }, { on := 14, ground := Go.Ground.guard }], guard := some (14, false) }) (v := ?_) rfl (by kernel_rfl) (by kernel_rfl) (by kernel_rfl) (by kernel_rfl) (fun _ _ _ h => h) (by first | exact fun _ => hF | exact fun _ => hF (by kernel_rfl)) (fun w => ?_) (by rfl) ?_
                     rotate_left
                     · first | (go_simp; done) | (go_simp; with_reducible rfl) | (go_split_ands; go_simp; done))
                  try simp only [Act.put, List.setIfInBounds_toArray, List.set_cons_zero, List.set_cons_succ]
                  refine wpAnyJ_ready (rs := [29]) (by kernel_rfl) (by simp) ?_
                  refine AllJ.cons (o := { dst := some 99, op := Go.Op.pick (Go.Operand.tmp 84) (Go.Operand.const (Go.Value.bool true)) (Go.Operand.tmp 98), type := 4, pos := "more.go:24", after := #[{ on := 14, ground := Go.Ground.data }, { on := 28, ground := Go.Ground.data }], guard := none }) rfl (fun Kr hKr => ?_) ?_
                  · go_simp
                    refine hKr.out _ _ (fun hJ => ?_) (fun hF => ?_)
                    · first
                      | exact absurd hJ (by decide)
                      | (clear hJ; (try dsimp only); all_goals (exact ⟨cx, cy⟩))
                    clear hKr
                    try simp only [Act.put, List.setIfInBounds_toArray, List.set_cons_zero, List.set_cons_succ]
                    refine wpAnyJ_done (by kernel_rfl) ?_ _
                    go_wp2_with fail
                    go_meet
                    exact ⟨rfl, rfl⟩
                  exact AllJ.nil
              case rest =>
                obtain ⟨rfl, rfl⟩ := hcut
                have hiv : iv (cc0 + 1) = .int .i64 ((cc0 : Int) + 1) := rfl
                have s6 := s5.out
                have ce6 := ce5.out
                have cx6 := cx5.out
                rw [hiv] at s6 ce6 cx6
                go_wp2_with fail
                have s7 := s6.drew.drew
                refine wp_region_J 14 (fun w' => w'.cell? ⟨g2, j, none⟩ = some (ii (i : Int)) ∧ w'.cell? ⟨ab, ao + i, none⟩ = some (ii (ee : Int))) (by kernel_rfl) ?_ (fun hF => ?_)
                · (try dsimp only)
                  all_goals (exact ⟨cx6, ce6⟩)
                refine wpAnyJ_take0 (i := 0) (oi := { dst := some 109, op := Go.Op.move (Go.Operand.tmp 5), type := 23, pos := "more.go:28", after := #[], guard := none }) (v := ?_) rfl (by kernel_rfl) (by kernel_rfl) (by kernel_rfl) (by kernel_rfl) (fun _ _ _ h => h) (by first | exact fun _ => hF | exact fun _ => hF (by kernel_rfl)) (fun w => ?_) (by rfl) ?_
                rotate_left
                · first | (go_simp; done) | (go_simp; with_reducible rfl) | (go_split_ands; go_simp; done)
                try simp only [Act.put, List.setIfInBounds_toArray, List.set_cons_zero, List.set_cons_succ]
                refine wpAnyJ_take0 (i := 1) (oi := { dst := some 110, op := Go.Op.move (Go.Operand.tmp 9), type := 28, pos := "more.go:28", after := #[], guard := none }) (v := ?_) rfl (by kernel_rfl) (by kernel_rfl) (by kernel_rfl) (by kernel_rfl) (fun _ _ _ h => h) (by first | exact fun _ => hF | exact fun _ => hF (by kernel_rfl)) (fun w => ?_) (by rfl) ?_
                rotate_left
                · first | (go_simp; done) | (go_simp; with_reducible rfl) | (go_split_ands; go_simp; done)
                try simp only [Act.put, List.setIfInBounds_toArray, List.set_cons_zero, List.set_cons_succ]
                refine wpAnyJ_take0 (i := 2) (oi := { dst := some 111, op := Go.Op.move (Go.Operand.tmp 10), type := 3, pos := "more.go:28", after := #[], guard := none }) (v := ?_) rfl (by kernel_rfl) (by kernel_rfl) (by kernel_rfl) (by kernel_rfl) (fun _ _ _ h => h) (by first | exact fun _ => hF | exact fun _ => hF (by kernel_rfl)) (fun w => ?_) (by rfl) ?_
                rotate_left
                · first | (go_simp; done) | (go_simp; with_reducible rfl) | (go_split_ands; go_simp; done)
                try simp only [Act.put, List.setIfInBounds_toArray, List.set_cons_zero, List.set_cons_succ]
                refine wpAnyJ_take0 (i := 3) (oi := { dst := some 112, op := Go.Op.indexAddr 28 (Go.Operand.tmp 110) (Go.Operand.tmp 111), type := 0, pos := "more.go:28", after := #[{ on := 1, ground := Go.Ground.data }, { on := 2, ground := Go.Ground.data }], guard := none }) (v := ?_) rfl (by kernel_rfl) (by kernel_rfl) (by kernel_rfl) (by kernel_rfl) (fun _ _ _ h => h) (by first | exact fun _ => hF | exact fun _ => hF (by kernel_rfl)) (fun w => ?_) (by rfl) ?_
                rotate_left
                · first | (go_simp; done) | (go_simp; with_reducible rfl) | (go_split_ands; go_simp; done)
                try simp only [Act.put, List.setIfInBounds_toArray, List.set_cons_zero, List.set_cons_succ]
                refine wpAnyJ_take (i := 4) (oi := { dst := some 113, op := Go.Op.load 3 (Go.Operand.tmp 112), type := 3, pos := "more.go:28", after := #[{ on := 3, ground := Go.Ground.data }], guard := none }) (v := ?_) [14] rfl (by kernel_rfl) (by kernel_rfl) (by kernel_rfl) (by kernel_rfl) (by kernel_rfl) (fun _ _ _ h => h) (by first | exact hF | exact hF (by kernel_rfl)) (fun w hFw => ?_) (by rfl) ?_
                rotate_left
                · ((try dsimp only at hFw); first | (go_simp; done) | (go_simp; with_reducible rfl) | (go_split_ands; go_simp; done))
                try simp only [Act.put, List.setIfInBounds_toArray, List.set_cons_zero, List.set_cons_succ]
                refine wpAnyJ_take0 (i := 5) (oi := { dst := some 114, op := Go.Op.move (Go.Operand.tmp 8), type := 3, pos := "more.go:28", after := #[], guard := none }) (v := ?_) rfl (by kernel_rfl) (by kernel_rfl) (by kernel_rfl) (by kernel_rfl) (fun _ _ _ h => h) (by first | exact fun _ => hF | exact fun _ => hF (by kernel_rfl)) (fun w => ?_) (by rfl) ?_
                rotate_left
                · first | (go_simp; done) | (go_simp; with_reducible rfl) | (go_split_ands; go_simp; done)
                try simp only [Act.put, List.setIfInBounds_toArray, List.set_cons_zero, List.set_cons_succ]
                refine wpAnyJ_take0 (i := 6) (oi := { dst := some 115, op := Go.Op.move (Go.Operand.tmp 0), type := 28, pos := "more.go:28", after := #[], guard := none }) (v := ?_) rfl (by kernel_rfl) (by kernel_rfl) (by kernel_rfl) (by kernel_rfl) (fun _ _ _ h => h) (by first | exact fun _ => hF | exact fun _ => hF (by kernel_rfl)) (fun w => ?_) (by rfl) ?_
                rotate_left
                · first | (go_simp; done) | (go_simp; with_reducible rfl) | (go_split_ands; go_simp; done)
                try simp only [Act.put, List.setIfInBounds_toArray, List.set_cons_zero, List.set_cons_succ]
                refine wpAnyJ_take0 (i := 7) (oi := { dst := some 116, op := Go.Op.move (Go.Operand.tmp 9), type := 28, pos := "more.go:28", after := #[], guard := none }) (v := ?_) rfl (by kernel_rfl) (by kernel_rfl) (by kernel_rfl) (by kernel_rfl) (fun _ _ _ h => h) (by first | exact fun _ => hF | exact fun _ => hF (by kernel_rfl)) (fun w => ?_) (by rfl) ?_
                rotate_left
                · first | (go_simp; done) | (go_simp; with_reducible rfl) | (go_split_ands; go_simp; done)
                try simp only [Act.put, List.setIfInBounds_toArray, List.set_cons_zero, List.set_cons_succ]
                refine wpAnyJ_take0 (i := 8) (oi := { dst := some 117, op := Go.Op.move (Go.Operand.tmp 10), type := 3, pos := "more.go:28", after := #[], guard := none }) (v := ?_) rfl (by kernel_rfl) (by kernel_rfl) (by kernel_rfl) (by kernel_rfl) (fun _ _ _ h => h) (by first | exact fun _ => hF | exact fun _ => hF (by kernel_rfl)) (fun w => ?_) (by rfl) ?_
                rotate_left
                · first | (go_simp; done) | (go_simp; with_reducible rfl) | (go_split_ands; go_simp; done)
                try simp only [Act.put, List.setIfInBounds_toArray, List.set_cons_zero, List.set_cons_succ]
                refine wpAnyJ_take0 (i := 9) (oi := { dst := some 118, op := Go.Op.indexAddr 28 (Go.Operand.tmp 116) (Go.Operand.tmp 117), type := 0, pos := "more.go:28", after := #[{ on := 7, ground := Go.Ground.data }, { on := 8, ground := Go.Ground.data }], guard := none }) (v := ?_) rfl (by kernel_rfl) (by kernel_rfl) (by kernel_rfl) (by kernel_rfl) (fun _ _ _ h => h) (by first | exact fun _ => hF | exact fun _ => hF (by kernel_rfl)) (fun w => ?_) (by rfl) ?_
                rotate_left
                · first | (go_simp; done) | (go_simp; with_reducible rfl) | (go_split_ands; go_simp; done)
                try simp only [Act.put, List.setIfInBounds_toArray, List.set_cons_zero, List.set_cons_succ]
                refine wpAnyJ_take (i := 10) (oi := { dst := some 119, op := Go.Op.load 3 (Go.Operand.tmp 118), type := 3, pos := "more.go:28", after := #[{ on := 9, ground := Go.Ground.data }], guard := none }) (v := ?_) [11, 12, 13, 14] rfl (by kernel_rfl) (by kernel_rfl) (by kernel_rfl) (by kernel_rfl) (by kernel_rfl) (fun _ _ _ h => h) (by first | exact hF | exact hF (by kernel_rfl)) (fun w hFw => ?_) (by rfl) ?_
                rotate_left
                · ((try dsimp only at hFw); first | (go_simp; done) | (go_simp; with_reducible rfl) | (go_split_ands; go_simp; done))
                try simp only [Act.put, List.setIfInBounds_toArray, List.set_cons_zero, List.set_cons_succ]
                refine wpAnyJ_take0 (i := 11) (oi := { dst := some 120, op := Go.Op.indexAddr 28 (Go.Operand.tmp 115) (Go.Operand.tmp 119), type := 0, pos := "more.go:28", after := #[{ on := 6, ground := Go.Ground.data }, { on := 10, ground := Go.Ground.data }], guard := none }) (v := ?_) rfl (by kernel_rfl) (by kernel_rfl) (by kernel_rfl) (by kernel_rfl) (fun _ _ _ h => h) (by first | exact fun _ => hF | exact fun _ => hF (by kernel_rfl)) (fun w => ?_) (by rfl) ?_
                rotate_left
                · first | (go_simp; done) | (go_simp; with_reducible rfl) | (go_split_ands; go_simp; done)
                try simp only [Act.put, List.setIfInBounds_toArray, List.set_cons_zero, List.set_cons_succ]
                refine wpAnyJ_take (i := 12) (oi := { dst := some 121, op := Go.Op.load 3 (Go.Operand.tmp 120), type := 3, pos := "more.go:28", after := #[{ on := 11, ground := Go.Ground.data }], guard := none }) (v := ?_) [13, 14] rfl (by kernel_rfl) (by kernel_rfl) (by kernel_rfl) (by kernel_rfl) (by kernel_rfl) (fun _ _ _ h => h) (by first | exact hF | exact hF (by kernel_rfl)) (fun w hFw => ?_) (by rfl) ?_
                rotate_left
                · ((try dsimp only at hFw); first | (go_simp; done) | (go_simp; with_reducible rfl) | (go_split_ands; go_simp; done))
                try simp only [Act.put, List.setIfInBounds_toArray, List.set_cons_zero, List.set_cons_succ]
                refine wpAnyJ_take0 (i := 13) (oi := { dst := some 122, op := Go.Op.binOp Go.BinOp.add 3 (Go.Operand.tmp 114) (Go.Operand.tmp 121) 3, type := 3, pos := "more.go:28", after := #[{ on := 5, ground := Go.Ground.data }, { on := 12, ground := Go.Ground.data }], guard := none }) (v := ?_) rfl (by kernel_rfl) (by kernel_rfl) (by kernel_rfl) (by kernel_rfl) (fun _ _ _ h => h) (by first | exact fun _ => hF | exact fun _ => hF (by kernel_rfl)) (fun w => ?_) (by rfl) ?_
                rotate_left
                · first | (go_simp; done) | (go_simp; with_reducible rfl) | (go_split_ands; go_simp; done)
                try simp only [Act.put, List.setIfInBounds_toArray, List.set_cons_zero, List.set_cons_succ]
                refine wpAnyJ_ready (rs := [14]) (by kernel_rfl) (by simp) ?_
                refine AllJ.cons (o := { dst := some 123, op := Go.Op.call { callee := Go.Callee.value (Go.Operand.func 10), args := #[Go.Operand.tmp 109, Go.Operand.tmp 113, Go.Operand.tmp 122], argTypes := #[23, 3, 3] }, type := 4, pos := "more.go:28", after := #[{ on := 0, ground := Go.Ground.data }, { on := 4, ground := Go.Ground.data }, { on := 13, ground := Go.Ground.data }], guard := none }) rfl (fun Kr hKr => ?_) ?_
                · go_simp; go_at_call 10; refine (hsa.out _ s7.own.left.left).mono ?_; rintro e' w4 ⟨rfl, H4, t4, h4⟩
                  refine hKr.out _ _ (fun hJ => ?_) (fun hF => ?_)
                  · first
                    | exact absurd hJ (by decide)
                    | (clear hJ; (try dsimp only); all_goals (exact ⟨cx6, ce6⟩))
                  clear hKr
                  try simp only [Act.put, List.setIfInBounds_toArray, List.set_cons_zero, List.set_cons_succ]
                  refine wpAnyJ_done (by kernel_rfl) ?_ _
                  rw [List.append_assoc] at s7
                  have s8 := s7.call h4
                  rw [← List.append_assoc] at s8
                  go_wp2_with fail
                  exact ⟨⟨j + 1, _, H4, hjl, by go_num, hct2.out, t4, s8⟩, by simp [intOf]; omega⟩
                exact AllJ.nil
            · have d5 : (xs.length : Int) ≤ (j : Int) := by omega
              have hjx : j = xs.length := by omega
              have hce := Lib.hid (ct_end hE1.out hp.out hle.out hgt.out (by rw [← hjx]; exact hct))
              have hte := Lib.hid (TmS.perm (S' := stS E (now + 1)) (by
                have := ht
                rw [hjx, List.take_length] at this
                exact this) (round_perm hE1.out hp.out hle.out hgt.out))
              have s9 : Step w [] wr (H ++ [(g, ctO cs)]) := by
                have q := hs.perm (B' := (H ++ [(g, ctO cs)]) ++ HR) (List.Perm.refl _) (by rw [List.append_assoc, List.append_assoc]; exact List.Perm.append_left _ List.perm_append_comm)
                exact q.forget
              replace hjx := Lib.hid hjx
              clear ht hct hs
              go_wp2_with fail
              exact ⟨⟨now + 1, cs, H, by omega, by go_num, hce.out, hte.out, s9⟩, by simp [intOf]; omega⟩
        · have hnow : now = U + 1 := by omega
          have d3 : (U : Int) < (now : Int) := by omega
          have hlen := Lib.hid (lenS_any b (stS E now) H)
          have hstl : (stS E now).length = n := by
            have h3 : (stS E now).length = E.length := by simp [stS]
            rw [h3, hEl.out, ← hn.out]
          rw [hstl] at hlen
          have hcv : Hid (∀ i, i < n → ∃ e : Nat, 1 ≤ e ∧ e ≤ 1000 ∧ (∃ x, el[i]? = some x ∧ x = (e : Int)) ∧ (U : Int) / (e : Int) = ((cs.getD i 0 : Nat) : Int)) := fun i hi => by
            have hiE : i < E.length := by rw [hEl.out, ← hn.out]; exact hi
            obtain ⟨x, hx, hxe, h1, h2⟩ := hev.out i hiE
            refine ⟨eN E i, h1, h2, ⟨x, hx, hxe⟩, ?_⟩
            have hc := hct.at' i hiE
            simp only [List.take_nil, List.not_mem_nil, false_and, exists_false, if_false, Nat.add_zero] at hc
            rw [hc, hnow]
            unfold cnt
            rw [Nat.add_sub_cancel]
            exact (Int.natCast_ediv U (eN E i)).symm
          have hcl : Hid (cs.length = n) := by show _ = _; rw [hct.len, hEl.out, ← hn.out]
          replace hnow := Lib.hid hnow
          replace hs := Lib.hid hs
          clear hct hlt hstl
          go_wp2_with fail
          go_loopw [11] (fun v wr => RoRel4 (H ++ [(g, ctO cs)]) n w v wr) (fun v _ => n - (intOf v).toNat)
          case atStart => exact ⟨0, Nat.zero_le _, rfl, hs.out⟩
          case round =>
            clear hs
            obtain ⟨i, hi, rfl, hs⟩ := hrel
            have d4 : (0 : Int) ≤ (i : Int) := by omega
            by_cases hil : i < n
            · have d5 : (i : Int) < (n : Int) := by omega
              obtain ⟨e, e1, e2, ⟨x, hx, rfl⟩, hdiv⟩ := hcv.out i hil
              have hiel : i < el.length := by have := hn.out; omega
              obtain ⟨ab, ao, rfl, hce, -⟩ := h.out.at hs hiel
              have hxe : el[i] = (e : Int) := Option.some.inj (by rw [← List.getElem?_eq_getElem hiel]; exact hx)
              rw [hxe] at hce
              have cc := ct_cell hs.own.right.h0 (i := i) (by rw [hcl.out]; exact hil)
              generalize cs.getD i 0 = c at *
              have e3 : (1 : Int) ≤ (e : Int) := by omega
              have c0 : c ≤ U := by
                have : (U : Int) / (e : Int) ≤ U := Int.ediv_le_self _ (by omega)
                omega
              have q1 : ((c : Int) != (c : Int)) = false := by simp
              have q2 : ((e : Int) == 0) = false := by simp; omega
              have q3 : (U : Int).tdiv (e : Int) = (c : Int) := by rw [Int.tdiv_eq_ediv_of_nonneg (by omega)]; exact hdiv
              have q4 : IntKind.i64.wrap ((U : Int).tdiv (e : Int)) = (c : Int) := by rw [q3]; exact IntWalk.i64_in _ (by omega)
              replace hdiv := Lib.hid hdiv
              replace hx := Lib.hid hx
              replace hxe := Lib.hid hxe
              go_wp2_with fail
              go_quiet (fail)
              go_wp2_with fail
              refine ⟨⟨i + 1, ?_, ?_, ?_⟩, ?_⟩
              · omega
              · go_num
              · exact hs.drewN _
              · simp [intOf]; omega
            · have d5 : (n : Int) ≤ (i : Int) := by omega
              have q1 : ((n : Int) == (n : Int)) = true := by simp
              go_wp2_with fail
              refine (hlen.out _ ht hs.own.left).mono ?_
              rintro e w4 ⟨rfl, rfl⟩
              go_wp2_with fail
              refine (known_any _).mono ?_
              rintro e w7 ⟨rfl, hs7⟩
              go_wp2
              go_ret
              exact ⟨rfl, (hs.call0 hs7).forget (A := [])⟩
end Go.Proofs.Ytcocgljaifnmnaa
