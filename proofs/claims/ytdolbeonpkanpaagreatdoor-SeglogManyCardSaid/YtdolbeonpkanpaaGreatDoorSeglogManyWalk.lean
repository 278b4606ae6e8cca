/- SeglogMany: the walk. -/
import Derived.Test.YtdolbeonpkanpaaGreatDoorMSgW
import Derived.Test.YtdolbeonpkanpaaGreatDoorSvH
set_option linter.unusedVariables false
set_option linter.unusedSimpArgs false
namespace Go.Proofs.YtdolbeonpkanpaaGreatDoor
open Go.RowKit
attribute [local go_sem ↓] Go.wp_at_zero Go.wp_at_succ

theorem ptr_ne (w : World) (b : Nat) : (binOp .eql 30 (pt b) (.pointer none)).run Tryz.prog w = .ok (.bool false) w := by kernel_rfl
section
variable {d b : Nat} {p : Nm} {lg : Lg} {k : Dk} {w0 W : World} {K : Heaplet}
theorem LgS.store1 {Q : List Heaplet} {G0 : Heaplet} {g : Nat} {c : Array Value} {T : TypeId} {f : Nat × Nat} (h : LgS d b p lg k (G0 :: [(g, .cells c T f)] :: Q) w0 K W) (j : Nat) (v : Value) : LgS d b p lg k (G0 :: [(g, .cells (c.setIfInBounds j v) T f)] :: Q) w0 K (W.setCell ⟨g, j, none⟩ v) := by
  obtain ⟨DH, B, S, E, XH, h1, h3, s⟩ := h
  exact ⟨DH, B, S, E, XH, h1, h3, s.store 6 rfl v⟩
theorem LgS.own3 {Q : List Heaplet} {G0 G1 G2 G : Heaplet} (h : LgS d b p lg k (G0 :: G1 :: G2 :: G :: Q) w0 K W) : Own W G := by
  obtain ⟨DH, B, S, E, XH, h1, h3, s⟩ := h
  exact s.own 8 rfl
theorem LgS.gen {P : Program} {C : Code} {Q : Exit → Act → World → Prop} {a : Act} {Rs : List Heaplet} (h : LgS d b p lg k Rs w0 K W) (f : ∀ W', LgS d b p lg k Rs w0 K W' → C.wp P Q a W') : C.wp P Q a W := f W h
end
theorem rd_block {w : World} {g : Nat} {l : List UInt8} {f : Nat × Nat} (h : w.heap[g]? = some (.cells (l.map u8).toArray 5 f)) (hl : l.length ≤ 1000) : RdBytes w (some ⟨g, 0, none⟩) l.length l.length l := by
  refine ⟨rfl, .inr ⟨_, rfl, Nat.le_refl _, by unfold maxLen; omega, fun i x hi => ?_⟩⟩
  rw [Addr.add_lit]
  refine cell_of h ?_
  simp [hi]
theorem tmod_nat (a c : Nat) : (a : Int).tmod (c : Int) = ((a % c : Nat) : Int) := by
  rw [Int.tmod_eq_emod_of_nonneg (by omega)]
  exact (Int.natCast_emod a c).symm
theorem wrap8 (a : Nat) : IntKind.u8.wrap (a : Int) = ((UInt8.ofNat a).toNat : Int) := by
  rw [UInt8.toNat_ofNat', IntKind.wrap_u8']
  omega
theorem ent_cells (sz i : Nat) : ((madeCells #[Value.int .u8 0] sz).setIfInBounds (i % sz) (.int .u8 ((UInt8.ofNat i).toNat : Int))) = ((entM sz i).map u8).toArray := by
  rw [madeCells_one, List.setIfInBounds_toArray]
  unfold entM
  rw [List.map_set, List.map_replicate]
  rfl
theorem ent_cells0 (i : Nat) : madeCells #[Value.int .u8 0] 0 = ((entM 0 i).map u8).toArray := by
  rw [madeCells_one]
  rfl
def MnRel (d b sz n : Nat) (P : Heaplet) (w : World) (v : Value) (wr : World) : Prop := ∃ (i : Nat) (lg : Lg) (k : Dk) (gs : List Gr), v = iv i ∧ i ≤ n ∧ MInv sz i lg k gs ∧ LgS d b [97] lg k [P] w [] wr
def MnRel2 (d b n : Nat) (lg : Lg) (k : Dk) (Rs : List Heaplet) (w : World) (v : Value) (wr : World) : Prop := ∃ i : Nat, v = iv i ∧ i ≤ n ∧ LgS d b [97] lg k Rs w [] wr
set_option maxHeartbeats 2000000 in
set_option maxRecDepth 100000 in
theorem seglogMany_walk (n0 s0 : Int) (w : World) (_ : (Lit.int .i64 n0).wf = true) (_ : (Lit.int .i64 s0).wf = true) (hT : Tab w) :
    Calls Tryz.prog 9 #[ii n0, ii s0] w fun e w' => e = .returned (.bool true) ∧ Below w.heap.size w w' := by
  suffices hs : Calls Tryz.prog 9 #[ii n0, ii s0] w (KnownPost w) from hs.mono fun e w' hp => ⟨hp.1, hp.2.nil_below⟩
  have hkn : Hid (∀ W G, Step w [] W G → Calls Tryz.prog 10 #[] W (KnownPost W)) := fun W G s => known_any W (hT.later s)
  have hk0 := Lib.hid (known_any w hT)
  have hT0 := Lib.hid (tabK_nil hT)
  by_cases h1 : n0 < 1
  · go_enter Tryz.func9, Tryz.ntmps9
    go_wp2_with fail
    refine hk0.out.mono ?_
    rintro e w1 ⟨rfl, hst⟩
    go_wp2_with fail
    go_ret
    exact ⟨rfl, hst⟩
  have d1 : 1 ≤ n0 := by omega
  by_cases h2 : 300 < n0
  · go_enter Tryz.func9, Tryz.ntmps9
    go_wp2_with fail
    refine hk0.out.mono ?_
    rintro e w1 ⟨rfl, hst⟩
    go_wp2_with fail
    go_ret
    exact ⟨rfl, hst⟩
  have d2 : n0 ≤ 300 := by omega
  by_cases h3 : s0 < 0
  · go_enter Tryz.func9, Tryz.ntmps9
    go_wp2_with fail
    refine hk0.out.mono ?_
    rintro e w1 ⟨rfl, hst⟩
    go_wp2_with fail
    go_ret
    exact ⟨rfl, hst⟩
  have d3 : 0 ≤ s0 := by omega
  by_cases h4 : 200 < s0
  · go_enter Tryz.func9, Tryz.ntmps9
    go_wp2_with fail
    refine hk0.out.mono ?_
    rintro e w1 ⟨rfl, hst⟩
    go_wp2_with fail
    go_ret
    exact ⟨rfl, hst⟩
  obtain ⟨n, rfl⟩ : ∃ n : Nat, n0 = (n : Int) := ⟨n0.toNat, by omega⟩
  obtain ⟨sz, rfl⟩ : ∃ m : Nat, s0 = (m : Int) := ⟨s0.toNat, by omega⟩
  have d4 : (sz : Int) ≤ 200 := by omega
  have hn1 : 1 ≤ n := by omega
  have hn3 : n ≤ 300 := by omega
  have hs2 : sz ≤ 200 := by omega
  have hsa := Lib.hid (start_any 1048576 w (by decide) hT)
  clear h1 h2 h3 h4 hk0
  replace hT := Lib.hid hT
  have pne := ptr_ne
  go_enter Tryz.func9, Tryz.ntmps9
  go_wp2_with fail
  refine hsa.out.mono ?_
  rintro e w1 ⟨pb, d, r, b, c, rfl, hp⟩
  clear hsa
  have hg := hp.lgS
  obtain ⟨P, hP⟩ : ∃ P : Heaplet, P = [(pb, prObj d r (pt b) (pt c))] := ⟨_, rfl⟩
  rw [← hP] at hg
  have hpc : Hid (∀ V, Own V P → V.cell? ⟨pb, 0, none⟩ = some (pt d) ∧ V.cell? ⟨pb, 2, none⟩ = some (pt b)) := fun V hV => by
    rw [hP] at hV
    exact ⟨(pr_cells hV).1, (pr_cells hV).2.2.1⟩
  have hin : Hid (MnRel d b sz n P w (iv 0) w1) := ⟨0, lg0, _, [], rfl, Nat.zero_le _, minv_start sz, hg⟩
  clear hp hg hP
  go_upto_block 0 with fail
  go_cut [7] (fun _ wr => MnRel d b sz n P w (iv n) wr)
  case first =>
    go_wp2_with fail
    go_loopw [7] (fun v wr => MnRel d b sz n P w v wr) (fun v _ => n - (intOf v).toNat)
    case atStart => exact hin.out
    case round =>
      clear hin
      obtain ⟨i, lg, k, gs, rfl, hi, hM, h⟩ := hrel
      have i0 : (0 : Int) ≤ (i : Int) := by omega
      by_cases hlt : i < n
      · have i1 : (i : Int) < (n : Int) := by omega
        obtain ⟨lg2, k2, gs2, hap, hM2⟩ := minv_step hM (by omega) hs2
        have hA := Lib.hid (fun W g (h : LgS d b [97] lg k [P, [(g, .cells ((entM sz i).map YtdolbeonpkanpaaGreatDoor.u8).toArray 5 (0, 0))]] w [] W) => lg_append h hM.inv.dk (hM.inv.ok (by omega)) hT0.out (by decide) (some ⟨g, 0, none⟩) (entM sz i).length (entM sz i) (fun V F s => rd_block (Sp.ownR (A := F ++ [P]) (Rs := []) (by simpa using s)).h0 (by rw [entM_len]; omega)) (by rw [entM_len]; omega))
        rw [hap, entM_len] at hA
        simp only at hA
        replace hap := Lib.hid hap
        replace hM2 := Lib.hid hM2
        clear hM
        have h1 := h.alloc (.cells (madeCells #[.int .u8 0] sz) 5 (0, 0))
        simp only [List.cons_append, List.nil_append] at h1
        obtain ⟨g, hgd⟩ : ∃ g, g = wr.heap.size := ⟨_, rfl⟩
        rw [← hgd] at h1
        go_upto_region 10 with (at_make; refine wpList_mk rfl st_u8 _ _ rfl sz sz (by rfl) (by rfl) (by omega) (by omega) (Nat.le_refl _) (by omega) (by unfold maxLen; omega) ?_)
        rw [← hgd]
        refine LgS.gen h1 ?_
        clear h1 h hgd
        intro W h
        go_upto_if 50 with fail
        go_cut [8] (fun v8 wr => v8 = .slice (some ⟨g, 0, none⟩) sz sz ∧ LgS d b [97] lg k [P, [(g, .cells ((entM sz i).map YtdolbeonpkanpaaGreatDoor.u8).toArray 5 (0, 0))]] w [] wr)
        case first =>
          by_cases hz : sz = 0
          · subst hz
            rw [ent_cells0 i] at h
            go_wp2_with fail
            go_meet
            exact ⟨rfl, h⟩
          · have z0 : (0 : Int) < (sz : Int) := by omega
            have zne : ((sz : Int) == 0) = false := beq_eq_false_iff_ne.2 (by omega)
            have q1 := tmod_nat i sz
            have q2 := wrap8 i
            have hml : i % sz < sz := Nat.mod_lt _ (by omega)
            have hmi : ((i % sz : Nat) : Int) < (sz : Int) := by omega
            obtain ⟨c0, hc0⟩ : ∃ v, W.cell? ⟨g, i % sz, none⟩ = some v := ⟨.int .u8 0, cell_of (LgS.own1 h).h0 (by rw [madeCells_one]; simp [hml])⟩
            have xlt := heap_lt (LgS.own1 h).h0
            have fz := fun i => frz_of (i := i) (LgS.own1 h).h0
            have h2 := h.store1 (i % sz) (.int .u8 ((UInt8.ofNat i).toNat : Int))
            rw [ent_cells] at h2
            generalize hmm : i % sz = mm at q1 hml hmi hc0 h2
            generalize hbb : ((UInt8.ofNat i).toNat : Int) = bb at q2 h2
            replace hmm := Lib.hid hmm
            replace hbb := Lib.hid hbb
            go_wp2_with fail
            go_meet
            exact ⟨rfl, h2⟩
        case rest =>
          clear h
          obtain ⟨rfl, h⟩ := hcut
          obtain ⟨z0, z2⟩ := hpc.out _ (LgS.own0 h)
          have q0 : IntKind.i64.wrap ((i : Int) + 1) = (i : Int) + 1 := IntWalk.i64_in _ (by omega)
          go_wp2_with fail
          refine (hA.out _ _ h).mono ?_
          rintro e w3 ⟨rfl, h⟩
          go_wp2_with fail
          exact ⟨⟨i + 1, lg2, k2, gs2, by go_num, hlt, hM2.out, h.keep1⟩, by simp [intOf]; omega⟩
      · have i1 : (n : Int) ≤ (i : Int) := by omega
        obtain rfl : i = n := by omega
        go_wp2_with fail
        go_meet
        exact ⟨i, lg, k, gs, rfl, hi, hM, h⟩
  case rest =>
    clear hin
    obtain ⟨i, lg, k, gs, hie, hi, hM, h⟩ := hcut
    obtain rfl : n = i := by
      simp only [Value.int.injEq, true_and] at hie
      omega
    clear hie hi
    obtain ⟨lg1, k1, hsyn, hk1, lg2, k2, hop, hl2, hL2, hn2, hn0⟩ := minv_end hM hn1 hn3
    have hlg := hM.inv.ok (show 89478485 + n ≤ 4398046511104 by omega)
    have gN := Lib.hid (fun W Rs (h : LgS d b [97] lg k Rs w [] W) => lg_names h hlg)
    have gR := Lib.hid (fun W Rs nm (h : LgS d b [97] lg k Rs w [] W) => lg_dread h hM.inv.dk nm)
    have gS := Lib.hid (fun W Rs (h : LgS d b [97] lg k Rs w [] W) => lg_sync h hM.inv.dk hlg)
    rw [hsyn] at gS
    simp only at gS
    have gC := Lib.hid (fun W Rs (h : LgS d b [97] lg1 k1 Rs w [] W) => lg_crash h hk1 0 1 (by decide))
    have gO := Lib.hid (fun W Rs (h : LgS d b [97] lg1 (crN 0 1 k1) Rs w [] W) => lg_open (q := [97]) h (cr_ok hk1 0 1) hT0.out (by decide) (by decide) hop)
    have gX := Lib.hid (fun W b Rs (h : LgS d b [97] lg2 k2 Rs w [] W) => lg_next h hl2)
    have gE := Lib.hid (fun W b Rs (h : LgS d b [97] lg2 k2 Rs w [] W) => lg_entry h hl2 (n : Int))
    have gM := Lib.hid (fun W b Rs (h : LgS d b [97] lg2 k2 Rs w [] W) => lg_names h hl2)
    have hL2l : lg2.L.length = n := by rw [hL2]; simp
    rw [hL2l] at gX
    rw [entN_many hL2 hn1] at gE
    simp only at gE
    obtain ⟨ns, hns⟩ : ∃ ns, ns = lnames [97] lg := ⟨_, rfl⟩
    rw [hn2, ← hns] at gM
    rw [← hns] at gN hn0
    have hrd : Hid (∀ i, i + 1 < ns.length → ∃ nm b, ns[i]? = some nm ∧ rdN nm k = (b, 0) ∧ 512 ≤ b.length ∧ b.length ≤ 533 + sz) := fun i hi => by
      have h5 := minv_read hM (i := i) (by rw [← hns]; exact hi)
      rw [← hns] at h5
      exact h5
    have hnl : ns.length ≤ 4398046511104 := by rw [hns]; unfold lnames; rw [List.length_map]; exact hlg.msegs
    have hnli : (ns.length : Int) ≤ 4398046511104 := by omega
    clear hM hlg hop hL2 hn2 hL2l hl2 hk1 hsyn
    replace hns := Lib.hid hns
    replace hn0 := Lib.hid hn0
    obtain ⟨z0, z2⟩ := hpc.out _ (LgS.own0 h)
    go_wp2_with fail
    refine (gN.out _ _ h).mono ?_
    rintro e w2 ⟨a1, c1, N1, rfl, r1, hst⟩
    have h := h.fresh hst
    simp only [List.cons_append, List.nil_append] at h
    clear hst z0 z2
    have hcN : Hid (∀ V, Own V N1 → ∀ i x, ns[i]? = some x → ∃ g, a1 = some ⟨g, 0, none⟩ ∧ ns.length ≤ c1 ∧ V.cell? ⟨g, i, none⟩ = some (strV x)) := fun V hV i x hx => by
      obtain ⟨g, e, h3, h4⟩ := slRep_at r1 hV (i := i) (v := strV x) (by rw [List.getElem?_map, hx]; rfl)
      rw [Nat.zero_add] at h3
      exact ⟨g, e, h4, h3⟩
    have hin : Hid (MnRel2 d b ns.length lg k [P, N1] w (iv 0) w2) := ⟨0, rfl, Nat.zero_le _, h⟩
    replace r1 := Lib.hid r1
    clear h
    go_upto_block 2 with fail
    go_cut [12] (fun _ wr => LgS d b [97] lg k [P, N1] w [] wr)
    case first =>
      go_wp2_with fail
      go_loopw [12] (fun v wr => MnRel2 d b ns.length lg k [P, N1] w v wr) (fun v _ => ns.length - (intOf v).toNat)
      case atStart => exact hin.out
      case round =>
        clear hin
        obtain ⟨i, rfl, hi, h⟩ := hrel
        have i0 : (0 : Int) ≤ (i : Int) := by omega
        have q0 : IntKind.i64.wrap ((i : Int) + 1) = (i : Int) + 1 := IntWalk.i64_in _ (by omega)
        by_cases hlt : i + 1 < ns.length
        · have i1 : (i : Int) + 1 < (ns.length : Int) := by omega
          have i2 : (i : Int) < (ns.length : Int) := by omega
          obtain ⟨nm, bt, hx, hb, hb1, hb2⟩ := hrd.out i hlt
          obtain ⟨g, rfl, hc1, _⟩ := hcN.out _ (LgS.own1 h) i nm hx
          have hci : (ns.length : Int) ≤ (c1 : Int) := by omega
          have hcx : Hid (∀ V, Own V N1 → V.cell? ⟨g, i, none⟩ = some (strV nm)) := fun V hV => by
            obtain ⟨g', e, _, h3⟩ := hcN.out V hV i nm hx
            cases e
            exact h3
          have hR := Lib.hid (fun W Rs h => gR.out W Rs nm h)
          rw [hb] at hR
          simp only at hR
          have b1 : (512 : Int) ≤ (bt.length : Int) := by omega
          have b2 : (bt.length : Int) ≤ 512 + (sz : Int) + 30 := by omega
          have w1 : IntKind.i64.wrap (512 + (sz : Int)) = 512 + (sz : Int) := IntWalk.i64_in _ (by omega)
          have w2 : IntKind.i64.wrap (512 + (sz : Int) + 30) = 512 + (sz : Int) + 30 := IntWalk.i64_in _ (by omega)
          replace hx := Lib.hid hx
          replace hb := Lib.hid hb
          go_upto_region 19 with fail
          replace h := h.drew
          refine wp_region_J 13 (fun w' => w'.cell? ⟨pb, 0, none⟩ = some (pt d) ∧ w'.cell? ⟨g, i, none⟩ = some (strV nm)) (by kernel_rfl) ?_ (fun hF => ?_)
          · (try dsimp only)
            all_goals (exact ⟨(hpc.out _ (LgS.own0 h)).1, hcx.out _ (LgS.own1 h)⟩)
          refine tk0 (i := 0) (oi := ⟨some 88, .move (.tmp 5), 25, "more.go:30", #[], none⟩) (v := ?_) rfl (by kernel_rfl) (fun _ _ _ h => h) (fun _ => hF) (fun w => ?_) (by rfl) ?_
          rotate_left
          · first | (go_simp; done) | (go_simp; with_reducible rfl) | (go_split_ands; go_simp; done)
          try simp only [Act.put, nrmA, nrmB, nrmC]
          refine tk0 (i := 1) (oi := ⟨some 89, .nilCheck (.tmp 88), 0, "more.go:30", #[⟨0, .data⟩], none⟩) (v := ?_) rfl (by kernel_rfl) (fun _ _ _ h => h) (fun _ => hF) (fun w => ?_) (by rfl) ?_
          rotate_left
          · first | (go_simp; done) | (go_simp; with_reducible rfl) | (go_split_ands; go_simp; done)
          try simp only [Act.put, nrmA, nrmB, nrmC]
          refine tk0 (i := 2) (oi := ⟨some 90, .fieldAddr 33 (.tmp 89) 0, 0, "more.go:30", #[⟨1, .data⟩], none⟩) (v := ?_) rfl (by kernel_rfl) (fun _ _ _ h => h) (fun _ => hF) (fun w => ?_) (by rfl) ?_
          rotate_left
          · first | (go_simp; done) | (go_simp; with_reducible rfl) | (go_split_ands; go_simp; done)
          try simp only [Act.put, nrmA, nrmB, nrmC]
          refine tk1 (i := 3) (oi := ⟨some 91, .load 28 (.tmp 90), 28, "more.go:30", #[⟨2, .data⟩], none⟩) (v := ?_) [13] rfl (by kernel_rfl) (fun _ _ _ h => h) hF (fun w hFw => ?_) (by rfl) ?_
          rotate_left
          · ((try dsimp only at hFw); first | (go_simp; done) | (go_simp; with_reducible rfl) | (go_split_ands; go_simp; done))
          try simp only [Act.put, nrmA, nrmB, nrmC]
          refine tk0 (i := 4) (oi := ⟨some 92, .move (.tmp 11), 70, "more.go:30", #[], none⟩) (v := ?_) rfl (by kernel_rfl) (fun _ _ _ h => h) (fun _ => hF) (fun w => ?_) (by rfl) ?_
          rotate_left
          · first | (go_simp; done) | (go_simp; with_reducible rfl) | (go_split_ands; go_simp; done)
          try simp only [Act.put, nrmA, nrmB, nrmC]
          refine tk0 (i := 5) (oi := ⟨some 93, .move (.tmp 12), 3, "more.go:30", #[], none⟩) (v := ?_) rfl (by kernel_rfl) (fun _ _ _ h => h) (fun _ => hF) (fun w => ?_) (by rfl) ?_
          rotate_left
          · first | (go_simp; done) | (go_simp; with_reducible rfl) | (go_split_ands; go_simp; done)
          try simp only [Act.put, nrmA, nrmB, nrmC]
          refine tk0 (i := 6) (oi := ⟨some 94, .indexAddr 70 (.tmp 92) (.tmp 93), 0, "more.go:30", #[⟨4, .data⟩, ⟨5, .data⟩], none⟩) (v := ?_) rfl (by kernel_rfl) (fun _ _ _ h => h) (fun _ => hF) (fun w => ?_) (by rfl) ?_
          rotate_left
          · first | (go_simp; done) | (go_simp; with_reducible rfl) | (go_split_ands; go_simp; done)
          try simp only [Act.put, nrmA, nrmB, nrmC]
          refine tk1 (i := 7) (oi := ⟨some 95, .load 9 (.tmp 94), 9, "more.go:30", #[⟨6, .data⟩], none⟩) (v := ?_) [13] rfl (by kernel_rfl) (fun _ _ _ h => h) hF (fun w hFw => ?_) (by rfl) ?_
          rotate_left
          · ((try dsimp only at hFw); first | (go_simp; done) | (go_simp; with_reducible rfl) | (go_split_ands; go_simp; done))
          try simp only [Act.put, nrmA, nrmB, nrmC]
          refine wpAnyJ_ready (rs := [8]) (by kernel_rfl) (by simp) ?_
          refine AllJ.cons1 (o := ⟨some 96, .call { callee := .value (.func 35), args := #[.tmp 91, .tmp 95], argTypes := #[28, 9] }, 48, "more.go:30", #[⟨3, .data⟩, ⟨7, .data⟩], none⟩) rfl (fun Kr hKr => ?_)
          go_simp; go_at_call 35; refine (hR.out _ _ h).mono ?_; rintro e w4 ⟨a2, c2, X1, rfl, q1, hst⟩
          have h := h.fresh hst
          simp only [List.cons_append, List.nil_append] at h
          refine hKr.out _ _ (fun hJ => ?_) (fun hF => ?_)
          · first
            | exact absurd hJ (by decide)
            | (clear hJ; (try dsimp only); all_goals (exact ⟨(hpc.out _ (LgS.own0 h)).1, hcx.out _ (LgS.own1 h)⟩))
          clear hKr
          try simp only [Act.put, nrmA, nrmB, nrmC]
          refine tk0 (i := 9) (oi := ⟨some 87, .move (.tmp 96), 48, "more.go:30", #[⟨8, .data⟩], none⟩) (v := ?_) rfl (by kernel_rfl) (fun _ _ _ h => h) (fun _ => hF (by kernel_rfl)) (fun w => ?_) (by rfl) ?_
          rotate_left
          · first | (go_simp; done) | (go_simp; with_reducible rfl) | (go_split_ands; go_simp; done)
          try simp only [Act.put, nrmA, nrmB, nrmC]
          refine tk0 (i := 10) (oi := ⟨some 97, .extract (.tmp 87) 0, 23, "more.go:30", #[⟨9, .data⟩], none⟩) (v := ?_) rfl (by kernel_rfl) (fun _ _ _ h => h) (fun _ => hF (by kernel_rfl)) (fun w => ?_) (by rfl) ?_
          rotate_left
          · first | (go_simp; done) | (go_simp; with_reducible rfl) | (go_split_ands; go_simp; done)
          try simp only [Act.put, nrmA, nrmB, nrmC]
          refine tk0 (i := 11) (oi := ⟨some 98, .extract (.tmp 87) 1, 35, "more.go:30", #[⟨9, .data⟩, { on := 12, ground := Go.Ground.gcOnly Go.Departure.lateStores }], none⟩) (v := ?_) rfl (by kernel_rfl) (fun _ _ _ h => h) (fun _ => hF (by kernel_rfl)) (fun w => ?_) (by rfl) ?_
          rotate_left
          · first | (go_simp; done) | (go_simp; with_reducible rfl) | (go_split_ands; go_simp; done)
          try simp only [Act.put, nrmA, nrmB, nrmC]
          refine wpAnyJ_ready (rs := [12]) (by kernel_rfl) (by simp) ?_
          refine AllJ.cons1 (o := ⟨some 13, .assign (.tmp 97), 23, "more.go:30", #[⟨10, .data⟩, ⟨8, .chain⟩, ⟨0, .phase⟩, ⟨1, .phase⟩, ⟨2, .phase⟩, ⟨3, .phase⟩, ⟨4, .phase⟩, ⟨5, .phase⟩, ⟨6, .phase⟩, ⟨7, .phase⟩, ⟨8, .phase⟩, ⟨9, .phase⟩, ⟨10, .phase⟩, { on := 11, ground := Go.Ground.textOnly Go.Departure.lateStores }], none⟩) rfl (fun Kr hKr => ?_)
          go_simp
          refine hKr.out _ _ (fun hJ => ?_) (fun hF => ?_)
          · first
            | exact absurd hJ (by decide)
            | (clear hJ; (try dsimp only); all_goals (exact ⟨(hpc.out _ (LgS.own0 h)).1, hcx.out _ (LgS.own1 h)⟩))
          clear hKr
          try simp only [Act.put, nrmA, nrmB, nrmC]
          refine wpAnyJ_ready (rs := [13]) (by kernel_rfl) (by simp) ?_
          refine AllJ.cons1 (o := ⟨some 14, .assign (.tmp 98), 35, "more.go:30", #[⟨11, .data⟩, ⟨12, .chain⟩, ⟨0, .phase⟩, ⟨1, .phase⟩, ⟨2, .phase⟩, ⟨3, .phase⟩, ⟨4, .phase⟩, ⟨5, .phase⟩, ⟨6, .phase⟩, ⟨7, .phase⟩, ⟨8, .phase⟩, ⟨9, .phase⟩, ⟨10, .phase⟩, ⟨11, .phase⟩, ⟨12, .phase⟩], none⟩) rfl (fun Kr hKr => ?_)
          go_simp
          refine hKr.out _ _ (fun hJ => ?_) (fun hF => ?_)
          · first
            | exact absurd hJ (by decide)
            | (clear hJ; (try dsimp only); all_goals (exact ⟨(hpc.out _ (LgS.own0 h)).1, hcx.out _ (LgS.own1 h)⟩))
          clear hKr
          try simp only [Act.put, nrmA, nrmB, nrmC]
          refine wpAnyJ_done (by kernel_rfl) ?_ _
          go_wp2_with fail
          exact ⟨⟨i + 1, by go_num, by omega, h.keep2⟩, by simp [intOf]; omega⟩
        · have i1 : (ns.length : Int) ≤ (i : Int) + 1 := by omega
          go_wp2_with fail
          go_meet
          exact h
    case rest =>
      clear hin
      have h := hcut
      clear hcut
      obtain ⟨z0, z2⟩ := hpc.out _ (LgS.own0 h)
      go_wp2_with fail
      refine (gS.out _ _ h).mono ?_
      rintro e w3 ⟨rfl, h⟩
      clear z0 z2
      obtain ⟨z0, z2⟩ := hpc.out _ (LgS.own0 h)
      go_wp2_with fail
      refine (gC.out _ _ h).mono ?_
      rintro e w4 ⟨rfl, h⟩
      clear z0 z2
      obtain ⟨z0, z2⟩ := hpc.out _ (LgS.own0 h)
      go_wp2_with fail
      refine (gO.out _ _ h).mono ?_
      rintro e w5 ⟨b2, rfl, h⟩
      clear z0 z2
      go_wp2_with fail
      refine (gX.out _ _ _ h).mono ?_
      rintro e w6 ⟨rfl, h⟩
      go_wp2_with fail
      refine (gE.out _ _ _ h).mono ?_
      rintro e w7 ⟨a3, c3, X3, rfl, r3, hst⟩
      have h := h.fresh hst
      simp only [List.cons_append, List.nil_append] at h
      clear hst
      obtain ⟨nm1, hnm1⟩ : ∃ z, z = nameN [97] 1 := ⟨_, rfl⟩
      have hn0' := hn0.out
      rw [← hnm1] at hn0'
      obtain ⟨g, rfl, hc1, _⟩ := hcN.out _ (LgS.own1 h) 0 nm1 hn0'
      have hc1i : (ns.length : Int) ≤ (c1 : Int) := by omega
      have hns1 : 1 ≤ ns.length := (List.getElem?_eq_some_iff.1 hn0').1
      have hns1i : (1 : Int) ≤ (ns.length : Int) := by omega
      have hns0 : (0 : Int) < (ns.length : Int) := by omega
      have hnsN : 0 < ns.length := by omega
      have hcx : Hid (∀ V, Own V N1 → V.cell? ⟨g, 0, none⟩ = some (strV nm1)) := fun V hV => by
        obtain ⟨g', e, _, h3⟩ := hcN.out V hV 0 nm1 hn0'
        cases e
        exact h3
      have hnm := Lib.hid (fun W => rname_any [97] 1 (by decide) (by decide) W)
      rw [← hnm1] at hnm
      have htx := Lib.hid (fun (L : List Nm) (a1 a2 : Option Addr) (c1 c2 : Nat) (H1 H2 : Heaplet) (W : World) (r1 : SlRep 9 1 a1 L.length c1 (L.map strV) H1) (r2 : SlRep 9 1 a2 L.length c2 (L.map strV) H2) (o1 : Own W H1) (o2 : Own W H2) =>
        (texts_any a1 a2 L.length c1 L.length c2 L L W (r1.rdNs o1) (r2.rdNs o2)).mono (R' := fun e w' => e = .returned (.bool true) ∧ Step W [] w' []) (fun e w' hq => ⟨by rw [hq.1, decide_eq_true rfl], hq.2⟩))
      have q0 : IntKind.i64.wrap ((n : Int) + 1) = (n : Int) + 1 := IntWalk.i64_in _ (by omega)
      have q1 : ((n : Int) + 1 == (n : Int) + 1) = true := by simp
      have q2 : ((sz : Int) == (sz : Int)) = true := by simp
      have q3 : (nm1 == nm1) = true := by simp
      have q4 : (⟨nm1.toArray⟩ : ByteArray).toList = nm1 := by rw [ByteArray.toList_eq]
      rw [entM_len] at r3 ⊢
      replace hn0' := Lib.hid hn0'
      replace hnm1 := Lib.hid hnm1
      clear hn0
      by_cases hz : sz = 0
      · have z1 : ((sz : Int) == 0) = true := by rw [hz]; rfl
        replace hz := Lib.hid hz
        replace r3 := Lib.hid r3
        go_upto_region 30 with fail
        replace h := h.drew
        refine wp_region_J 47 (fun w' => w'.cell? ⟨g, 0, none⟩ = some (strV nm1)) (by kernel_rfl) ?_ (fun hF => ?_)
        · (try dsimp only)
          all_goals (exact hcx.out _ (LgS.own1 h))
        refine tk0 (i := 0) (oi := ⟨some 146, .move (.tmp 17), 3, "more.go:45", #[], none⟩) (v := ?_) rfl (by kernel_rfl) (fun _ _ _ h => h) (fun _ => hF) (fun w => ?_) (by rfl) ?_
        rotate_left
        · first | (go_simp; done) | (go_simp; with_reducible rfl) | (go_split_ands; go_simp; done)
        try simp only [Act.put, nrmA, nrmB, nrmC]
        refine tk0 (i := 1) (oi := ⟨some 147, .move (.tmp 0), 3, "more.go:45", #[], none⟩) (v := ?_) rfl (by kernel_rfl) (fun _ _ _ h => h) (fun _ => hF) (fun w => ?_) (by rfl) ?_
        rotate_left
        · first | (go_simp; done) | (go_simp; with_reducible rfl) | (go_split_ands; go_simp; done)
        try simp only [Act.put, nrmA, nrmB, nrmC]
        refine tk0 (i := 2) (oi := ⟨some 148, .binOp .add 3 (.tmp 147) (.const (.int .i64 1)) 3, 3, "more.go:45", #[⟨1, .data⟩], none⟩) (v := ?_) rfl (by kernel_rfl) (fun _ _ _ h => h) (fun _ => hF) (fun w => ?_) (by rfl) ?_
        rotate_left
        · first | (go_simp; done) | (go_simp; with_reducible rfl) | (go_split_ands; go_simp; done)
        try simp only [Act.put, nrmA, nrmB, nrmC]
        refine tk0 (i := 3) (oi := ⟨some 149, .binOp .eql 3 (.tmp 146) (.tmp 148) 3, 4, "more.go:45", #[⟨0, .data⟩, ⟨2, .data⟩], none⟩) (v := ?_) rfl (by kernel_rfl) (fun _ _ _ h => h) (fun _ => hF) (fun w => ?_) (by rfl) ?_
        rotate_left
        · first | (go_simp; done) | (go_simp; with_reducible rfl) | (go_split_ands; go_simp; done)
        try simp only [Act.put, nrmA, nrmB, nrmC]
        refine tk0 (i := 4) (oi := ⟨some 150, .move (.tmp 149), 4, "more.go:45", #[⟨3, .data⟩], none⟩) (v := ?_) rfl (by kernel_rfl) (fun _ _ _ h => h) (fun _ => hF) (fun w => ?_) (by rfl) ?_
        rotate_left
        · first | (go_simp; done) | (go_simp; with_reducible rfl) | (go_split_ands; go_simp; done)
        try simp only [Act.put, nrmA, nrmB, nrmC]
        refine tk0 (i := 5) (oi := ⟨some 151, .move (.tmp 20), 35, "more.go:45", #[⟨4, .guard⟩], some (4, true)⟩) (v := ?_) rfl (by kernel_rfl) (fun _ _ _ h => h) (fun _ => hF) (fun w => ?_) (by rfl) ?_
        rotate_left
        · first | (go_simp; done) | (go_simp; with_reducible rfl) | (go_split_ands; go_simp; done)
        try simp only [Act.put, nrmA, nrmB, nrmC]
        refine tk0 (i := 6) (oi := ⟨some 152, .binOp .eql 35 (.tmp 151) (.const (.int .i64 0)) 35, 4, "more.go:45", #[⟨5, .data⟩, ⟨4, .guard⟩], some (4, true)⟩) (v := ?_) rfl (by kernel_rfl) (fun _ _ _ h => h) (fun _ => hF) (fun w => ?_) (by rfl) ?_
        rotate_left
        · first | (go_simp; done) | (go_simp; with_reducible rfl) | (go_split_ands; go_simp; done)
        try simp only [Act.put, nrmA, nrmB, nrmC]
        refine tk0 (i := 7) (oi := ⟨some 153, .pick (.tmp 150) (.tmp 152) (.const (.bool false)), 4, "more.go:45", #[⟨4, .data⟩, ⟨6, .data⟩], none⟩) (v := ?_) rfl (by kernel_rfl) (fun _ _ _ h => h) (fun _ => hF) (fun w => ?_) (by rfl) ?_
        rotate_left
        · first | (go_simp; done) | (go_simp; with_reducible rfl) | (go_split_ands; go_simp; done)
        try simp only [Act.put, nrmA, nrmB, nrmC]
        refine tk0 (i := 8) (oi := ⟨some 154, .move (.tmp 153), 4, "more.go:45", #[⟨7, .data⟩, ⟨4, .chain⟩], none⟩) (v := ?_) rfl (by kernel_rfl) (fun _ _ _ h => h) (fun _ => hF) (fun w => ?_) (by rfl) ?_
        rotate_left
        · first | (go_simp; done) | (go_simp; with_reducible rfl) | (go_split_ands; go_simp; done)
        try simp only [Act.put, nrmA, nrmB, nrmC]
        refine tk0 (i := 9) (oi := ⟨some 155, .move (.tmp 19), 23, "more.go:45", #[⟨8, .guard⟩], some (8, true)⟩) (v := ?_) rfl (by kernel_rfl) (fun _ _ _ h => h) (fun _ => hF) (fun w => ?_) (by rfl) ?_
        rotate_left
        · first | (go_simp; done) | (go_simp; with_reducible rfl) | (go_split_ands; go_simp; done)
        try simp only [Act.put, nrmA, nrmB, nrmC]
        refine tk1 (i := 10) (oi := ⟨some 156, .call { callee := .builtin .len, args := #[.tmp 155], argTypes := #[23] }, 3, "more.go:45", #[⟨9, .data⟩, ⟨8, .guard⟩], some (8, true)⟩) (v := ?_) [47] rfl (by kernel_rfl) (fun _ _ _ h => h) hF (fun w hFw => ?_) (by rfl) ?_
        rotate_left
        · ((try dsimp only at hFw); first | (go_simp; done) | (go_simp; with_reducible rfl) | (go_split_ands; go_simp; done))
        try simp only [Act.put, nrmA, nrmB, nrmC]
        refine tk0 (i := 11) (oi := ⟨some 157, .move (.tmp 1), 3, "more.go:45", #[⟨8, .guard⟩], some (8, true)⟩) (v := ?_) rfl (by kernel_rfl) (fun _ _ _ h => h) (fun _ => hF) (fun w => ?_) (by rfl) ?_
        rotate_left
        · first | (go_simp; done) | (go_simp; with_reducible rfl) | (go_split_ands; go_simp; done)
        try simp only [Act.put, nrmA, nrmB, nrmC]
        refine tk0 (i := 12) (oi := ⟨some 158, .binOp .eql 3 (.tmp 156) (.tmp 157) 3, 4, "more.go:45", #[⟨10, .data⟩, ⟨11, .data⟩, ⟨8, .guard⟩], some (8, true)⟩) (v := ?_) rfl (by kernel_rfl) (fun _ _ _ h => h) (fun _ => hF) (fun w => ?_) (by rfl) ?_
        rotate_left
        · first | (go_simp; done) | (go_simp; with_reducible rfl) | (go_split_ands; go_simp; done)
        try simp only [Act.put, nrmA, nrmB, nrmC]
        refine tk0 (i := 13) (oi := ⟨some 159, .pick (.tmp 154) (.tmp 158) (.const (.bool false)), 4, "more.go:45", #[⟨8, .data⟩, ⟨12, .data⟩], none⟩) (v := ?_) rfl (by kernel_rfl) (fun _ _ _ h => h) (fun _ => hF) (fun w => ?_) (by rfl) ?_
        rotate_left
        · first | (go_simp; done) | (go_simp; with_reducible rfl) | (go_split_ands; go_simp; done)
        try simp only [Act.put, nrmA, nrmB, nrmC]
        refine tk0 (i := 14) (oi := ⟨some 160, .move (.tmp 159), 4, "more.go:45", #[⟨13, .data⟩, ⟨8, .chain⟩], none⟩) (v := ?_) rfl (by kernel_rfl) (fun _ _ _ h => h) (fun _ => hF) (fun w => ?_) (by rfl) ?_
        rotate_left
        · first | (go_simp; done) | (go_simp; with_reducible rfl) | (go_split_ands; go_simp; done)
        try simp only [Act.put, nrmA, nrmB, nrmC]
        refine tk0 (i := 15) (oi := ⟨some 161, .move (.tmp 1), 3, "more.go:45", #[⟨14, .guard⟩], some (14, true)⟩) (v := ?_) rfl (by kernel_rfl) (fun _ _ _ h => h) (fun _ => hF) (fun w => ?_) (by rfl) ?_
        rotate_left
        · first | (go_simp; done) | (go_simp; with_reducible rfl) | (go_split_ands; go_simp; done)
        try simp only [Act.put, nrmA, nrmB, nrmC]
        refine tk0 (i := 16) (oi := ⟨some 162, .binOp .eql 3 (.tmp 161) (.const (.int .i64 0)) 3, 4, "more.go:45", #[⟨15, .data⟩, ⟨14, .guard⟩], some (14, true)⟩) (v := ?_) rfl (by kernel_rfl) (fun _ _ _ h => h) (fun _ => hF) (fun w => ?_) (by rfl) ?_
        rotate_left
        · first | (go_simp; done) | (go_simp; with_reducible rfl) | (go_split_ands; go_simp; done)
        try simp only [Act.put, nrmA, nrmB, nrmC]
        refine tk0 (i := 17) (oi := ⟨some 163, .move (.tmp 162), 4, "more.go:45", #[⟨16, .data⟩, ⟨14, .chain⟩, ⟨14, .guard⟩], some (14, true)⟩) (v := ?_) rfl (by kernel_rfl) (fun _ _ _ h => h) (fun _ => hF) (fun w => ?_) (by rfl) ?_
        rotate_left
        · first | (go_simp; done) | (go_simp; with_reducible rfl) | (go_split_ands; go_simp; done)
        try simp only [Act.put, nrmA, nrmB, nrmC]
        refine sk0 (i := 18) (oi := ⟨some 164, .move (.tmp 19), 23, "more.go:45", #[⟨17, .guard⟩], some (17, false)⟩) rfl (by kernel_rfl) (fun _ _ _ h => h) (fun _ => hF) (by rfl) ?_
        try simp only [Act.put, nrmA, nrmB, nrmC]
        refine sk0 (i := 19) (oi := ⟨some 165, .move (.tmp 0), 3, "more.go:45", #[⟨17, .guard⟩], some (17, false)⟩) rfl (by kernel_rfl) (fun _ _ _ h => h) (fun _ => hF) (by rfl) ?_
        try simp only [Act.put, nrmA, nrmB, nrmC]
        refine sk0 (i := 20) (oi := ⟨some 166, .binOp .sub 3 (.tmp 165) (.const (.int .i64 1)) 3, 3, "more.go:45", #[⟨19, .data⟩, ⟨17, .guard⟩], some (17, false)⟩) rfl (by kernel_rfl) (fun _ _ _ h => h) (fun _ => hF) (by rfl) ?_
        try simp only [Act.put, nrmA, nrmB, nrmC]
        refine sk0 (i := 21) (oi := ⟨some 167, .move (.tmp 1), 3, "more.go:45", #[⟨17, .guard⟩], some (17, false)⟩) rfl (by kernel_rfl) (fun _ _ _ h => h) (fun _ => hF) (by rfl) ?_
        try simp only [Act.put, nrmA, nrmB, nrmC]
        refine sk0 (i := 22) (oi := ⟨some 168, .binOp .rem 3 (.tmp 166) (.tmp 167) 3, 3, "more.go:45", #[⟨20, .data⟩, ⟨21, .data⟩, ⟨17, .guard⟩], some (17, false)⟩) rfl (by kernel_rfl) (fun _ _ _ h => h) (fun _ => hF) (by rfl) ?_
        try simp only [Act.put, nrmA, nrmB, nrmC]
        refine sk0 (i := 23) (oi := ⟨some 169, .indexAddr 23 (.tmp 164) (.tmp 168), 0, "more.go:45", #[⟨18, .data⟩, ⟨22, .data⟩, ⟨17, .guard⟩], some (17, false)⟩) rfl (by kernel_rfl) (fun _ _ _ h => h) (fun _ => hF) (by rfl) ?_
        try simp only [Act.put, nrmA, nrmB, nrmC]
        refine sk0 (i := 24) (oi := ⟨some 170, .load 5 (.tmp 169), 5, "more.go:45", #[⟨23, .data⟩, ⟨17, .guard⟩], some (17, false)⟩) rfl (by kernel_rfl) (fun _ _ _ h => h) (fun _ => hF) (by rfl) ?_
        try simp only [Act.put, nrmA, nrmB, nrmC]
        refine sk0 (i := 25) (oi := ⟨some 171, .move (.tmp 0), 3, "more.go:45", #[⟨17, .guard⟩], some (17, false)⟩) rfl (by kernel_rfl) (fun _ _ _ h => h) (fun _ => hF) (by rfl) ?_
        try simp only [Act.put, nrmA, nrmB, nrmC]
        refine sk0 (i := 26) (oi := ⟨some 172, .binOp .sub 3 (.tmp 171) (.const (.int .i64 1)) 3, 3, "more.go:45", #[⟨25, .data⟩, ⟨17, .guard⟩], some (17, false)⟩) rfl (by kernel_rfl) (fun _ _ _ h => h) (fun _ => hF) (by rfl) ?_
        try simp only [Act.put, nrmA, nrmB, nrmC]
        refine sk0 (i := 27) (oi := ⟨some 173, .convert 3 5 (.tmp 172), 5, "more.go:45", #[⟨26, .data⟩, ⟨17, .guard⟩], some (17, false)⟩) rfl (by kernel_rfl) (fun _ _ _ h => h) (fun _ => hF) (by rfl) ?_
        try simp only [Act.put, nrmA, nrmB, nrmC]
        refine sk0 (i := 28) (oi := ⟨some 174, .binOp .eql 5 (.tmp 170) (.tmp 173) 5, 4, "more.go:45", #[⟨24, .data⟩, ⟨27, .data⟩, ⟨17, .guard⟩], some (17, false)⟩) rfl (by kernel_rfl) (fun _ _ _ h => h) (fun _ => hF) (by rfl) ?_
        try simp only [Act.put, nrmA, nrmB, nrmC]
        refine tk0 (i := 29) (oi := ⟨some 175, .pick (.tmp 163) (.const (.bool true)) (.tmp 174), 4, "more.go:45", #[⟨17, .data⟩, ⟨28, .data⟩, ⟨14, .guard⟩], some (14, true)⟩) (v := ?_) rfl (by kernel_rfl) (fun _ _ _ h => h) (fun _ => hF) (fun w => ?_) (by rfl) ?_
        rotate_left
        · first | (go_simp; done) | (go_simp; with_reducible rfl) | (go_split_ands; go_simp; done)
        try simp only [Act.put, nrmA, nrmB, nrmC]
        refine tk0 (i := 30) (oi := ⟨some 176, .pick (.tmp 160) (.tmp 175) (.const (.bool false)), 4, "more.go:45", #[⟨14, .data⟩, ⟨29, .data⟩], none⟩) (v := ?_) rfl (by kernel_rfl) (fun _ _ _ h => h) (fun _ => hF) (fun w => ?_) (by rfl) ?_
        rotate_left
        · first | (go_simp; done) | (go_simp; with_reducible rfl) | (go_split_ands; go_simp; done)
        try simp only [Act.put, nrmA, nrmB, nrmC]
        refine tk0 (i := 31) (oi := ⟨some 177, .move (.tmp 176), 4, "more.go:45", #[⟨30, .data⟩, ⟨17, .chain⟩], none⟩) (v := ?_) rfl (by kernel_rfl) (fun _ _ _ h => h) (fun _ => hF) (fun w => ?_) (by rfl) ?_
        rotate_left
        · first | (go_simp; done) | (go_simp; with_reducible rfl) | (go_split_ands; go_simp; done)
        try simp only [Act.put, nrmA, nrmB, nrmC]
        refine tk0 (i := 32) (oi := ⟨some 178, .move (.tmp 15), 30, "more.go:45", #[⟨31, .guard⟩], some (31, true)⟩) (v := ?_) rfl (by kernel_rfl) (fun _ _ _ h => h) (fun _ => hF) (fun w => ?_) (by rfl) ?_
        rotate_left
        · first | (go_simp; done) | (go_simp; with_reducible rfl) | (go_split_ands; go_simp; done)
        try simp only [Act.put, nrmA, nrmB, nrmC]
        refine tk0 (i := 34) (oi := ⟨some 180, .move (.tmp 11), 70, "more.go:45", #[⟨31, .guard⟩], some (31, true)⟩) (v := ?_) rfl (by kernel_rfl) (fun _ _ _ h => h) (fun _ => hF) (fun w => ?_) (by rfl) ?_
        rotate_left
        · first | (go_simp; done) | (go_simp; with_reducible rfl) | (go_split_ands; go_simp; done)
        try simp only [Act.put, nrmA, nrmB, nrmC]
        refine wpAnyJ_ready (rs := [33]) (by kernel_rfl) (by simp) ?_
        refine AllJ.cons1 (o := ⟨some 179, .call { callee := .value (.func 34), args := #[.tmp 178], argTypes := #[30] }, 70, "more.go:45", #[⟨32, .data⟩, ⟨31, .chain⟩, ⟨31, .guard⟩], some (31, true)⟩) rfl (fun Kr hKr => ?_)
        go_simp; go_at_call 34; refine (gM.out _ _ _ h).mono ?_; rintro e w8 ⟨a4, c4, N4, rfl, r4, hst⟩
        have h := h.fresh hst
        simp only [List.cons_append, List.nil_append] at h
        refine hKr.out _ _ (fun hJ => ?_) (fun hF => ?_)
        · first
          | exact absurd hJ (by decide)
          | (clear hJ; (try dsimp only); all_goals (exact hcx.out _ (LgS.own1 h)))
        clear hKr
        try simp only [Act.put, nrmA, nrmB, nrmC]
        refine wpAnyJ_ready (rs := [35]) (by kernel_rfl) (by simp) ?_
        refine AllJ.cons1 (o := ⟨some 181, .call { callee := .value (.func 36), args := #[.tmp 179, .tmp 180], argTypes := #[70, 70] }, 4, "more.go:45", #[⟨33, .data⟩, ⟨34, .data⟩, ⟨33, .chain⟩, ⟨31, .guard⟩], some (31, true)⟩) rfl (fun Kr hKr => ?_)
        go_simp; go_at_call 36; refine (htx.out ns a4 (some ⟨g, 0, none⟩) c4 c1 N4 N1 _ r4 r1.out (LgS.own3 h) (LgS.own1 h)).mono ?_; rintro e w9 ⟨rfl, hst⟩
        have h := h.still hst
        refine hKr.out _ _ (fun hJ => ?_) (fun hF => ?_)
        · first
          | exact absurd hJ (by decide)
          | (clear hJ; (try dsimp only); all_goals (exact hcx.out _ (LgS.own1 h)))
        clear hKr
        try simp only [Act.put, nrmA, nrmB, nrmC]
        refine tk0 (i := 36) (oi := ⟨some 182, .pick (.tmp 177) (.tmp 181) (.const (.bool false)), 4, "more.go:45", #[⟨31, .data⟩, ⟨35, .data⟩], none⟩) (v := ?_) rfl (by kernel_rfl) (fun _ _ _ h => h) (fun _ => hF (by kernel_rfl)) (fun w => ?_) (by rfl) ?_
        rotate_left
        · first | (go_simp; done) | (go_simp; with_reducible rfl) | (go_split_ands; go_simp; done)
        try simp only [Act.put, nrmA, nrmB, nrmC]
        refine tk0 (i := 37) (oi := ⟨some 183, .move (.tmp 182), 4, "more.go:45", #[⟨36, .data⟩, ⟨35, .chain⟩], none⟩) (v := ?_) rfl (by kernel_rfl) (fun _ _ _ h => h) (fun _ => hF (by kernel_rfl)) (fun w => ?_) (by rfl) ?_
        rotate_left
        · first | (go_simp; done) | (go_simp; with_reducible rfl) | (go_split_ands; go_simp; done)
        try simp only [Act.put, nrmA, nrmB, nrmC]
        refine tk0 (i := 38) (oi := ⟨some 184, .move (.tmp 11), 70, "more.go:45", #[⟨37, .guard⟩], some (37, true)⟩) (v := ?_) rfl (by kernel_rfl) (fun _ _ _ h => h) (fun _ => hF (by kernel_rfl)) (fun w => ?_) (by rfl) ?_
        rotate_left
        · first | (go_simp; done) | (go_simp; with_reducible rfl) | (go_split_ands; go_simp; done)
        try simp only [Act.put, nrmA, nrmB, nrmC]
        refine tk0 (i := 39) (oi := ⟨some 185, .indexAddr 70 (.tmp 184) (.const (.int .i64 0)), 0, "more.go:45", #[⟨38, .data⟩, ⟨37, .guard⟩], some (37, true)⟩) (v := ?_) rfl (by kernel_rfl) (fun _ _ _ h => h) (fun _ => hF (by kernel_rfl)) (fun w => ?_) (by rfl) ?_
        rotate_left
        · first | (go_simp; done) | (go_simp; with_reducible rfl) | (go_split_ands; go_simp; done)
        try simp only [Act.put, nrmA, nrmB, nrmC]
        refine tk1 (i := 40) (oi := ⟨some 186, .load 9 (.tmp 185), 9, "more.go:45", #[⟨39, .data⟩, ⟨37, .guard⟩], some (37, true)⟩) (v := ?_) [47] rfl (by kernel_rfl) (fun _ _ _ h => h) (hF (by kernel_rfl)) (fun w hFw => ?_) (by rfl) ?_
        rotate_left
        · ((try dsimp only at hFw); first | (go_simp; done) | (go_simp; with_reducible rfl) | (go_split_ands; go_simp; done))
        try simp only [Act.put, nrmA, nrmB, nrmC]
        refine wpAnyJ_ready (rs := [41]) (by kernel_rfl) (by simp) ?_
        refine AllJ.cons1 (o := ⟨some 187, .call { callee := .value (.func 29), args := #[.const (.string { data := #[97] }), .const (.int .i64 1)], argTypes := #[9, 3] }, 9, "more.go:45", #[⟨37, .chain⟩, ⟨37, .guard⟩], some (37, true)⟩) rfl (fun Kr hKr => ?_)
        go_simp; go_at_call 29; refine (hnm.out _).mono ?_; rintro e w10 ⟨rfl, hst⟩
        have h := h.still hst
        refine hKr.out _ _ (fun hJ => ?_) (fun hF => ?_)
        · first
          | exact absurd hJ (by decide)
          | (clear hJ; (try dsimp only); all_goals (exact hcx.out _ (LgS.own1 h)))
        clear hKr
        try simp only [Act.put, nrmA, nrmB, nrmC]
        refine tk0 (i := 42) (oi := ⟨some 188, .binOp .eql 9 (.tmp 186) (.tmp 187) 9, 4, "more.go:45", #[⟨40, .data⟩, ⟨41, .data⟩, ⟨37, .guard⟩], some (37, true)⟩) (v := ?_) rfl (by kernel_rfl) (fun _ _ _ h => h) (fun _ => hF (by kernel_rfl)) (fun w => ?_) (by rfl) ?_
        rotate_left
        · first | (go_simp; done) | (go_simp; with_reducible rfl) | (go_split_ands; go_simp; done)
        try simp only [Act.put, nrmA, nrmB, nrmC]
        refine tk0 (i := 43) (oi := ⟨some 189, .pick (.tmp 183) (.tmp 188) (.const (.bool false)), 4, "more.go:45", #[⟨37, .data⟩, ⟨42, .data⟩], none⟩) (v := ?_) rfl (by kernel_rfl) (fun _ _ _ h => h) (fun _ => hF (by kernel_rfl)) (fun w => ?_) (by rfl) ?_
        rotate_left
        · first | (go_simp; done) | (go_simp; with_reducible rfl) | (go_split_ands; go_simp; done)
        try simp only [Act.put, nrmA, nrmB, nrmC]
        refine tk0 (i := 44) (oi := ⟨some 190, .move (.tmp 189), 4, "more.go:45", #[⟨43, .data⟩, ⟨41, .chain⟩], none⟩) (v := ?_) rfl (by kernel_rfl) (fun _ _ _ h => h) (fun _ => hF (by kernel_rfl)) (fun w => ?_) (by rfl) ?_
        rotate_left
        · first | (go_simp; done) | (go_simp; with_reducible rfl) | (go_split_ands; go_simp; done)
        try simp only [Act.put, nrmA, nrmB, nrmC]
        refine wpAnyJ_ready (rs := [45]) (by kernel_rfl) (by simp) ?_
        refine AllJ.cons1 (o := ⟨some 191, .call { callee := .value (.func 10), args := #[], argTypes := #[] }, 4, "more.go:45", #[⟨44, .chain⟩, ⟨44, .guard⟩], some (44, true)⟩) rfl (fun Kr hKr => ?_)
        go_simp; go_at_call 10; refine (hkn.out _ _ h.done).mono ?_; rintro e w11 ⟨rfl, hst⟩
        have h := h.still hst
        refine hKr.out _ _ (fun hJ => ?_) (fun hF => ?_)
        · first
          | exact absurd hJ (by decide)
          | (clear hJ; (try dsimp only); all_goals (exact hcx.out _ (LgS.own1 h)))
        clear hKr
        try simp only [Act.put, nrmA, nrmB, nrmC]
        refine tk0 (i := 46) (oi := ⟨some 192, .pick (.tmp 190) (.tmp 191) (.const (.bool false)), 4, "more.go:45", #[⟨44, .data⟩, ⟨45, .data⟩], none⟩) (v := ?_) rfl (by kernel_rfl) (fun _ _ _ h => h) (fun _ => hF (by kernel_rfl)) (fun w => ?_) (by rfl) ?_
        rotate_left
        · first | (go_simp; done) | (go_simp; with_reducible rfl) | (go_split_ands; go_simp; done)
        try simp only [Act.put, nrmA, nrmB, nrmC]
        refine wpAnyJ_ready (rs := [47]) (by kernel_rfl) (by simp) ?_
        refine AllJ.cons1 (o := ⟨some 4, .assign (.tmp 192), 4, "more.go:45", #[⟨46, .data⟩, ⟨45, .chain⟩, ⟨0, .phase⟩, ⟨1, .phase⟩, ⟨2, .phase⟩, ⟨3, .phase⟩, ⟨4, .phase⟩, ⟨5, .phase⟩, ⟨6, .phase⟩, ⟨7, .phase⟩, ⟨8, .phase⟩, ⟨9, .phase⟩, ⟨10, .phase⟩, ⟨11, .phase⟩, ⟨12, .phase⟩, ⟨13, .phase⟩, ⟨14, .phase⟩, ⟨15, .phase⟩, ⟨16, .phase⟩, ⟨17, .phase⟩, ⟨18, .phase⟩, ⟨19, .phase⟩, ⟨20, .phase⟩, ⟨21, .phase⟩, ⟨22, .phase⟩, ⟨23, .phase⟩, ⟨24, .phase⟩, ⟨25, .phase⟩, ⟨26, .phase⟩, ⟨27, .phase⟩, ⟨28, .phase⟩, ⟨29, .phase⟩, ⟨30, .phase⟩, ⟨31, .phase⟩, ⟨32, .phase⟩, ⟨33, .phase⟩, ⟨34, .phase⟩, ⟨35, .phase⟩, ⟨36, .phase⟩, ⟨37, .phase⟩, ⟨38, .phase⟩, ⟨39, .phase⟩, ⟨40, .phase⟩, ⟨41, .phase⟩, ⟨42, .phase⟩, ⟨43, .phase⟩, ⟨44, .phase⟩, ⟨45, .phase⟩, ⟨46, .phase⟩], none⟩) rfl (fun Kr hKr => ?_)
        go_simp
        refine hKr.out _ _ (fun hJ => ?_) (fun hF => ?_)
        · first
          | exact absurd hJ (by decide)
          | (clear hJ; (try dsimp only); all_goals (exact hcx.out _ (LgS.own1 h)))
        clear hKr
        try simp only [Act.put, nrmA, nrmB, nrmC]
        refine wpAnyJ_done (by kernel_rfl) ?_ _
        have hd := h.done
        go_wp2_with fail
        go_ret
        exact ⟨rfl, hd⟩
      · have z1 : ((sz : Int) == 0) = false := beq_eq_false_iff_ne.2 (by omega)
        have zpos : (0 : Int) < (sz : Int) := by omega
        have hml : (n - 1) % sz < sz := Nat.mod_lt _ (by omega)
        have hmi : (((n - 1) % sz : Nat) : Int) < (sz : Int) := by omega
        have w1 : IntKind.i64.wrap ((n - 1 : Nat) : Int) = ((n - 1 : Nat) : Int) := IntWalk.i64_in _ (by omega)
        have mm0 : (0 : Int) ≤ (((n - 1) % sz : Nat) : Int) := by omega
        have w1' : (n : Int) - 1 = ((n - 1 : Nat) : Int) := by omega
        have w2 := tmod_nat (n - 1) sz
        have w3 := wrap8 (n - 1)
        obtain ⟨eg, rfl, hex0, hce⟩ := slRep_at r3 (LgS.own2 h) (i := (n - 1) % sz) (v := .int .u8 ((UInt8.ofNat (n - 1)).toNat : Int)) (by rw [List.getElem?_map, entM_at (by omega)]; rfl)
        have hcei : (sz : Int) ≤ (c3 : Int) := by omega
        have hex : Hid (∀ V, Own V X3 → V.cell? ⟨eg, (n - 1) % sz, none⟩ = some (.int .u8 ((UInt8.ofNat (n - 1)).toNat : Int))) := fun V hV => by
          obtain ⟨g', e, h3, _⟩ := slRep_at r3 hV (i := (n - 1) % sz) (v := .int .u8 ((UInt8.ofNat (n - 1)).toNat : Int)) (by rw [List.getElem?_map, entM_at (by omega)]; rfl)
          cases e
          rwa [Nat.zero_add] at h3
        replace r3 := Lib.hid r3
        clear hex0
        have q5 : (((UInt8.ofNat (n - 1)).toNat : Int) == ((UInt8.ofNat (n - 1)).toNat : Int)) = true := by simp
        generalize hmm : (n - 1) % sz = mm at w2 hml hmi hex mm0
        generalize hbb : ((UInt8.ofNat (n - 1)).toNat : Int) = bb at w3 hex q5
        generalize hn1e : n - 1 = nn at w1 w1' w2 w3
        replace hmm := Lib.hid hmm
        replace hbb := Lib.hid hbb
        replace hn1e := Lib.hid hn1e
        go_upto_region 30 with fail
        replace h := h.drew
        refine wp_region_J 47 (fun w' => w'.cell? ⟨g, 0, none⟩ = some (strV nm1) ∧ w'.cell? ⟨eg, mm, none⟩ = some (.int .u8 bb)) (by kernel_rfl) ?_ (fun hF => ?_)
        · (try dsimp only)
          all_goals (exact ⟨hcx.out _ (LgS.own1 h), hex.out _ (LgS.own2 h)⟩)
        refine tk0 (i := 0) (oi := ⟨some 146, .move (.tmp 17), 3, "more.go:45", #[], none⟩) (v := ?_) rfl (by kernel_rfl) (fun _ _ _ h => h) (fun _ => hF) (fun w => ?_) (by rfl) ?_
        rotate_left
        · first | (go_simp; done) | (go_simp; with_reducible rfl) | (go_split_ands; go_simp; done)
        try simp only [Act.put, nrmA, nrmB, nrmC]
        refine tk0 (i := 1) (oi := ⟨some 147, .move (.tmp 0), 3, "more.go:45", #[], none⟩) (v := ?_) rfl (by kernel_rfl) (fun _ _ _ h => h) (fun _ => hF) (fun w => ?_) (by rfl) ?_
        rotate_left
        · first | (go_simp; done) | (go_simp; with_reducible rfl) | (go_split_ands; go_simp; done)
        try simp only [Act.put, nrmA, nrmB, nrmC]
        refine tk0 (i := 2) (oi := ⟨some 148, .binOp .add 3 (.tmp 147) (.const (.int .i64 1)) 3, 3, "more.go:45", #[⟨1, .data⟩], none⟩) (v := ?_) rfl (by kernel_rfl) (fun _ _ _ h => h) (fun _ => hF) (fun w => ?_) (by rfl) ?_
        rotate_left
        · first | (go_simp; done) | (go_simp; with_reducible rfl) | (go_split_ands; go_simp; done)
        try simp only [Act.put, nrmA, nrmB, nrmC]
        refine tk0 (i := 3) (oi := ⟨some 149, .binOp .eql 3 (.tmp 146) (.tmp 148) 3, 4, "more.go:45", #[⟨0, .data⟩, ⟨2, .data⟩], none⟩) (v := ?_) rfl (by kernel_rfl) (fun _ _ _ h => h) (fun _ => hF) (fun w => ?_) (by rfl) ?_
        rotate_left
        · first | (go_simp; done) | (go_simp; with_reducible rfl) | (go_split_ands; go_simp; done)
        try simp only [Act.put, nrmA, nrmB, nrmC]
        refine tk0 (i := 4) (oi := ⟨some 150, .move (.tmp 149), 4, "more.go:45", #[⟨3, .data⟩], none⟩) (v := ?_) rfl (by kernel_rfl) (fun _ _ _ h => h) (fun _ => hF) (fun w => ?_) (by rfl) ?_
        rotate_left
        · first | (go_simp; done) | (go_simp; with_reducible rfl) | (go_split_ands; go_simp; done)
        try simp only [Act.put, nrmA, nrmB, nrmC]
        refine tk0 (i := 5) (oi := ⟨some 151, .move (.tmp 20), 35, "more.go:45", #[⟨4, .guard⟩], some (4, true)⟩) (v := ?_) rfl (by kernel_rfl) (fun _ _ _ h => h) (fun _ => hF) (fun w => ?_) (by rfl) ?_
        rotate_left
        · first | (go_simp; done) | (go_simp; with_reducible rfl) | (go_split_ands; go_simp; done)
        try simp only [Act.put, nrmA, nrmB, nrmC]
        refine tk0 (i := 6) (oi := ⟨some 152, .binOp .eql 35 (.tmp 151) (.const (.int .i64 0)) 35, 4, "more.go:45", #[⟨5, .data⟩, ⟨4, .guard⟩], some (4, true)⟩) (v := ?_) rfl (by kernel_rfl) (fun _ _ _ h => h) (fun _ => hF) (fun w => ?_) (by rfl) ?_
        rotate_left
        · first | (go_simp; done) | (go_simp; with_reducible rfl) | (go_split_ands; go_simp; done)
        try simp only [Act.put, nrmA, nrmB, nrmC]
        refine tk0 (i := 7) (oi := ⟨some 153, .pick (.tmp 150) (.tmp 152) (.const (.bool false)), 4, "more.go:45", #[⟨4, .data⟩, ⟨6, .data⟩], none⟩) (v := ?_) rfl (by kernel_rfl) (fun _ _ _ h => h) (fun _ => hF) (fun w => ?_) (by rfl) ?_
        rotate_left
        · first | (go_simp; done) | (go_simp; with_reducible rfl) | (go_split_ands; go_simp; done)
        try simp only [Act.put, nrmA, nrmB, nrmC]
        refine tk0 (i := 8) (oi := ⟨some 154, .move (.tmp 153), 4, "more.go:45", #[⟨7, .data⟩, ⟨4, .chain⟩], none⟩) (v := ?_) rfl (by kernel_rfl) (fun _ _ _ h => h) (fun _ => hF) (fun w => ?_) (by rfl) ?_
        rotate_left
        · first | (go_simp; done) | (go_simp; with_reducible rfl) | (go_split_ands; go_simp; done)
        try simp only [Act.put, nrmA, nrmB, nrmC]
        refine tk0 (i := 9) (oi := ⟨some 155, .move (.tmp 19), 23, "more.go:45", #[⟨8, .guard⟩], some (8, true)⟩) (v := ?_) rfl (by kernel_rfl) (fun _ _ _ h => h) (fun _ => hF) (fun w => ?_) (by rfl) ?_
        rotate_left
        · first | (go_simp; done) | (go_simp; with_reducible rfl) | (go_split_ands; go_simp; done)
        try simp only [Act.put, nrmA, nrmB, nrmC]
        refine tk1 (i := 10) (oi := ⟨some 156, .call { callee := .builtin .len, args := #[.tmp 155], argTypes := #[23] }, 3, "more.go:45", #[⟨9, .data⟩, ⟨8, .guard⟩], some (8, true)⟩) (v := ?_) [47] rfl (by kernel_rfl) (fun _ _ _ h => h) hF (fun w hFw => ?_) (by rfl) ?_
        rotate_left
        · ((try dsimp only at hFw); first | (go_simp; done) | (go_simp; with_reducible rfl) | (go_split_ands; go_simp; done))
        try simp only [Act.put, nrmA, nrmB, nrmC]
        refine tk0 (i := 11) (oi := ⟨some 157, .move (.tmp 1), 3, "more.go:45", #[⟨8, .guard⟩], some (8, true)⟩) (v := ?_) rfl (by kernel_rfl) (fun _ _ _ h => h) (fun _ => hF) (fun w => ?_) (by rfl) ?_
        rotate_left
        · first | (go_simp; done) | (go_simp; with_reducible rfl) | (go_split_ands; go_simp; done)
        try simp only [Act.put, nrmA, nrmB, nrmC]
        refine tk0 (i := 12) (oi := ⟨some 158, .binOp .eql 3 (.tmp 156) (.tmp 157) 3, 4, "more.go:45", #[⟨10, .data⟩, ⟨11, .data⟩, ⟨8, .guard⟩], some (8, true)⟩) (v := ?_) rfl (by kernel_rfl) (fun _ _ _ h => h) (fun _ => hF) (fun w => ?_) (by rfl) ?_
        rotate_left
        · first | (go_simp; done) | (go_simp; with_reducible rfl) | (go_split_ands; go_simp; done)
        try simp only [Act.put, nrmA, nrmB, nrmC]
        refine tk0 (i := 13) (oi := ⟨some 159, .pick (.tmp 154) (.tmp 158) (.const (.bool false)), 4, "more.go:45", #[⟨8, .data⟩, ⟨12, .data⟩], none⟩) (v := ?_) rfl (by kernel_rfl) (fun _ _ _ h => h) (fun _ => hF) (fun w => ?_) (by rfl) ?_
        rotate_left
        · first | (go_simp; done) | (go_simp; with_reducible rfl) | (go_split_ands; go_simp; done)
        try simp only [Act.put, nrmA, nrmB, nrmC]
        refine tk0 (i := 14) (oi := ⟨some 160, .move (.tmp 159), 4, "more.go:45", #[⟨13, .data⟩, ⟨8, .chain⟩], none⟩) (v := ?_) rfl (by kernel_rfl) (fun _ _ _ h => h) (fun _ => hF) (fun w => ?_) (by rfl) ?_
        rotate_left
        · first | (go_simp; done) | (go_simp; with_reducible rfl) | (go_split_ands; go_simp; done)
        try simp only [Act.put, nrmA, nrmB, nrmC]
        refine tk0 (i := 15) (oi := ⟨some 161, .move (.tmp 1), 3, "more.go:45", #[⟨14, .guard⟩], some (14, true)⟩) (v := ?_) rfl (by kernel_rfl) (fun _ _ _ h => h) (fun _ => hF) (fun w => ?_) (by rfl) ?_
        rotate_left
        · first | (go_simp; done) | (go_simp; with_reducible rfl) | (go_split_ands; go_simp; done)
        try simp only [Act.put, nrmA, nrmB, nrmC]
        refine tk0 (i := 16) (oi := ⟨some 162, .binOp .eql 3 (.tmp 161) (.const (.int .i64 0)) 3, 4, "more.go:45", #[⟨15, .data⟩, ⟨14, .guard⟩], some (14, true)⟩) (v := ?_) rfl (by kernel_rfl) (fun _ _ _ h => h) (fun _ => hF) (fun w => ?_) (by rfl) ?_
        rotate_left
        · first | (go_simp; done) | (go_simp; with_reducible rfl) | (go_split_ands; go_simp; done)
        try simp only [Act.put, nrmA, nrmB, nrmC]
        refine tk0 (i := 17) (oi := ⟨some 163, .move (.tmp 162), 4, "more.go:45", #[⟨16, .data⟩, ⟨14, .chain⟩, ⟨14, .guard⟩], some (14, true)⟩) (v := ?_) rfl (by kernel_rfl) (fun _ _ _ h => h) (fun _ => hF) (fun w => ?_) (by rfl) ?_
        rotate_left
        · first | (go_simp; done) | (go_simp; with_reducible rfl) | (go_split_ands; go_simp; done)
        try simp only [Act.put, nrmA, nrmB, nrmC]
        refine tk0 (i := 18) (oi := ⟨some 164, .move (.tmp 19), 23, "more.go:45", #[⟨17, .guard⟩], some (17, false)⟩) (v := ?_) rfl (by kernel_rfl) (fun _ _ _ h => h) (fun _ => hF) (fun w => ?_) (by rfl) ?_
        rotate_left
        · first | (go_simp; done) | (go_simp; with_reducible rfl) | (go_split_ands; go_simp; done)
        try simp only [Act.put, nrmA, nrmB, nrmC]
        refine tk0 (i := 19) (oi := ⟨some 165, .move (.tmp 0), 3, "more.go:45", #[⟨17, .guard⟩], some (17, false)⟩) (v := ?_) rfl (by kernel_rfl) (fun _ _ _ h => h) (fun _ => hF) (fun w => ?_) (by rfl) ?_
        rotate_left
        · first | (go_simp; done) | (go_simp; with_reducible rfl) | (go_split_ands; go_simp; done)
        try simp only [Act.put, nrmA, nrmB, nrmC]
        refine tk0 (i := 20) (oi := ⟨some 166, .binOp .sub 3 (.tmp 165) (.const (.int .i64 1)) 3, 3, "more.go:45", #[⟨19, .data⟩, ⟨17, .guard⟩], some (17, false)⟩) (v := ?_) rfl (by kernel_rfl) (fun _ _ _ h => h) (fun _ => hF) (fun w => ?_) (by rfl) ?_
        rotate_left
        · first | (go_simp; done) | (go_simp; with_reducible rfl) | (go_split_ands; go_simp; done)
        try simp only [Act.put, nrmA, nrmB, nrmC]
        refine tk0 (i := 21) (oi := ⟨some 167, .move (.tmp 1), 3, "more.go:45", #[⟨17, .guard⟩], some (17, false)⟩) (v := ?_) rfl (by kernel_rfl) (fun _ _ _ h => h) (fun _ => hF) (fun w => ?_) (by rfl) ?_
        rotate_left
        · first | (go_simp; done) | (go_simp; with_reducible rfl) | (go_split_ands; go_simp; done)
        try simp only [Act.put, nrmA, nrmB, nrmC]
        refine tk0 (i := 22) (oi := ⟨some 168, .binOp .rem 3 (.tmp 166) (.tmp 167) 3, 3, "more.go:45", #[⟨20, .data⟩, ⟨21, .data⟩, ⟨17, .guard⟩], some (17, false)⟩) (v := ?_) rfl (by kernel_rfl) (fun _ _ _ h => h) (fun _ => hF) (fun w => ?_) (by rfl) ?_
        rotate_left
        · first | (go_simp; done) | (go_simp; with_reducible rfl) | (go_split_ands; go_simp; done)
        try simp only [Act.put, nrmA, nrmB, nrmC]
        refine tk0 (i := 23) (oi := ⟨some 169, .indexAddr 23 (.tmp 164) (.tmp 168), 0, "more.go:45", #[⟨18, .data⟩, ⟨22, .data⟩, ⟨17, .guard⟩], some (17, false)⟩) (v := ?_) rfl (by kernel_rfl) (fun _ _ _ h => h) (fun _ => hF) (fun w => ?_) (by rfl) ?_
        rotate_left
        · first | (go_simp; done) | (go_simp; with_reducible rfl) | (go_split_ands; go_simp; done)
        try simp only [Act.put, nrmA, nrmB, nrmC]
        refine tk1 (i := 24) (oi := ⟨some 170, .load 5 (.tmp 169), 5, "more.go:45", #[⟨23, .data⟩, ⟨17, .guard⟩], some (17, false)⟩) (v := ?_) [47] rfl (by kernel_rfl) (fun _ _ _ h => h) hF (fun w hFw => ?_) (by rfl) ?_
        rotate_left
        · ((try dsimp only at hFw); first | (go_simp; done) | (go_simp; with_reducible rfl) | (go_split_ands; go_simp; done))
        try simp only [Act.put, nrmA, nrmB, nrmC]
        refine tk0 (i := 25) (oi := ⟨some 171, .move (.tmp 0), 3, "more.go:45", #[⟨17, .guard⟩], some (17, false)⟩) (v := ?_) rfl (by kernel_rfl) (fun _ _ _ h => h) (fun _ => hF) (fun w => ?_) (by rfl) ?_
        rotate_left
        · first | (go_simp; done) | (go_simp; with_reducible rfl) | (go_split_ands; go_simp; done)
        try simp only [Act.put, nrmA, nrmB, nrmC]
        refine tk0 (i := 26) (oi := ⟨some 172, .binOp .sub 3 (.tmp 171) (.const (.int .i64 1)) 3, 3, "more.go:45", #[⟨25, .data⟩, ⟨17, .guard⟩], some (17, false)⟩) (v := ?_) rfl (by kernel_rfl) (fun _ _ _ h => h) (fun _ => hF) (fun w => ?_) (by rfl) ?_
        rotate_left
        · first | (go_simp; done) | (go_simp; with_reducible rfl) | (go_split_ands; go_simp; done)
        try simp only [Act.put, nrmA, nrmB, nrmC]
        refine tk1 (i := 27) (oi := ⟨some 173, .convert 3 5 (.tmp 172), 5, "more.go:45", #[⟨26, .data⟩, ⟨17, .guard⟩], some (17, false)⟩) (v := ?_) [47] rfl (by kernel_rfl) (fun _ _ _ h => h) hF (fun w hFw => ?_) (by rfl) ?_
        rotate_left
        · ((try dsimp only at hFw); first | (go_simp; done) | (go_simp; with_reducible rfl) | (go_split_ands; go_simp; done))
        try simp only [Act.put, nrmA, nrmB, nrmC]
        refine tk0 (i := 28) (oi := ⟨some 174, .binOp .eql 5 (.tmp 170) (.tmp 173) 5, 4, "more.go:45", #[⟨24, .data⟩, ⟨27, .data⟩, ⟨17, .guard⟩], some (17, false)⟩) (v := ?_) rfl (by kernel_rfl) (fun _ _ _ h => h) (fun _ => hF) (fun w => ?_) (by rfl) ?_
        rotate_left
        · first | (go_simp; done) | (go_simp; with_reducible rfl) | (go_split_ands; go_simp; done)
        try simp only [Act.put, nrmA, nrmB, nrmC]
        refine tk0 (i := 29) (oi := ⟨some 175, .pick (.tmp 163) (.const (.bool true)) (.tmp 174), 4, "more.go:45", #[⟨17, .data⟩, ⟨28, .data⟩, ⟨14, .guard⟩], some (14, true)⟩) (v := ?_) rfl (by kernel_rfl) (fun _ _ _ h => h) (fun _ => hF) (fun w => ?_) (by rfl) ?_
        rotate_left
        · first | (go_simp; done) | (go_simp; with_reducible rfl) | (go_split_ands; go_simp; done)
        try simp only [Act.put, nrmA, nrmB, nrmC]
        refine tk0 (i := 30) (oi := ⟨some 176, .pick (.tmp 160) (.tmp 175) (.const (.bool false)), 4, "more.go:45", #[⟨14, .data⟩, ⟨29, .data⟩], none⟩) (v := ?_) rfl (by kernel_rfl) (fun _ _ _ h => h) (fun _ => hF) (fun w => ?_) (by rfl) ?_
        rotate_left
        · first | (go_simp; done) | (go_simp; with_reducible rfl) | (go_split_ands; go_simp; done)
        try simp only [Act.put, nrmA, nrmB, nrmC]
        refine tk0 (i := 31) (oi := ⟨some 177, .move (.tmp 176), 4, "more.go:45", #[⟨30, .data⟩, ⟨17, .chain⟩], none⟩) (v := ?_) rfl (by kernel_rfl) (fun _ _ _ h => h) (fun _ => hF) (fun w => ?_) (by rfl) ?_
        rotate_left
        · first | (go_simp; done) | (go_simp; with_reducible rfl) | (go_split_ands; go_simp; done)
        try simp only [Act.put, nrmA, nrmB, nrmC]
        refine tk0 (i := 32) (oi := ⟨some 178, .move (.tmp 15), 30, "more.go:45", #[⟨31, .guard⟩], some (31, true)⟩) (v := ?_) rfl (by kernel_rfl) (fun _ _ _ h => h) (fun _ => hF) (fun w => ?_) (by rfl) ?_
        rotate_left
        · first | (go_simp; done) | (go_simp; with_reducible rfl) | (go_split_ands; go_simp; done)
        try simp only [Act.put, nrmA, nrmB, nrmC]
        refine tk0 (i := 34) (oi := ⟨some 180, .move (.tmp 11), 70, "more.go:45", #[⟨31, .guard⟩], some (31, true)⟩) (v := ?_) rfl (by kernel_rfl) (fun _ _ _ h => h) (fun _ => hF) (fun w => ?_) (by rfl) ?_
        rotate_left
        · first | (go_simp; done) | (go_simp; with_reducible rfl) | (go_split_ands; go_simp; done)
        try simp only [Act.put, nrmA, nrmB, nrmC]
        refine wpAnyJ_ready (rs := [33]) (by kernel_rfl) (by simp) ?_
        refine AllJ.cons1 (o := ⟨some 179, .call { callee := .value (.func 34), args := #[.tmp 178], argTypes := #[30] }, 70, "more.go:45", #[⟨32, .data⟩, ⟨31, .chain⟩, ⟨31, .guard⟩], some (31, true)⟩) rfl (fun Kr hKr => ?_)
        go_simp; go_at_call 34; refine (gM.out _ _ _ h).mono ?_; rintro e w8 ⟨a4, c4, N4, rfl, r4, hst⟩
        have h := h.fresh hst
        simp only [List.cons_append, List.nil_append] at h
        refine hKr.out _ _ (fun hJ => ?_) (fun hF => ?_)
        · first
          | exact absurd hJ (by decide)
          | (clear hJ; (try dsimp only); all_goals (exact ⟨hcx.out _ (LgS.own1 h), hex.out _ (LgS.own2 h)⟩))
        clear hKr
        try simp only [Act.put, nrmA, nrmB, nrmC]
        refine wpAnyJ_ready (rs := [35]) (by kernel_rfl) (by simp) ?_
        refine AllJ.cons1 (o := ⟨some 181, .call { callee := .value (.func 36), args := #[.tmp 179, .tmp 180], argTypes := #[70, 70] }, 4, "more.go:45", #[⟨33, .data⟩, ⟨34, .data⟩, ⟨33, .chain⟩, ⟨31, .guard⟩], some (31, true)⟩) rfl (fun Kr hKr => ?_)
        go_simp; go_at_call 36; refine (htx.out ns a4 (some ⟨g, 0, none⟩) c4 c1 N4 N1 _ r4 r1.out (LgS.own3 h) (LgS.own1 h)).mono ?_; rintro e w9 ⟨rfl, hst⟩
        have h := h.still hst
        refine hKr.out _ _ (fun hJ => ?_) (fun hF => ?_)
        · first
          | exact absurd hJ (by decide)
          | (clear hJ; (try dsimp only); all_goals (exact ⟨hcx.out _ (LgS.own1 h), hex.out _ (LgS.own2 h)⟩))
        clear hKr
        try simp only [Act.put, nrmA, nrmB, nrmC]
        refine tk0 (i := 36) (oi := ⟨some 182, .pick (.tmp 177) (.tmp 181) (.const (.bool false)), 4, "more.go:45", #[⟨31, .data⟩, ⟨35, .data⟩], none⟩) (v := ?_) rfl (by kernel_rfl) (fun _ _ _ h => h) (fun _ => hF (by kernel_rfl)) (fun w => ?_) (by rfl) ?_
        rotate_left
        · first | (go_simp; done) | (go_simp; with_reducible rfl) | (go_split_ands; go_simp; done)
        try simp only [Act.put, nrmA, nrmB, nrmC]
        refine tk0 (i := 37) (oi := ⟨some 183, .move (.tmp 182), 4, "more.go:45", #[⟨36, .data⟩, ⟨35, .chain⟩], none⟩) (v := ?_) rfl (by kernel_rfl) (fun _ _ _ h => h) (fun _ => hF (by kernel_rfl)) (fun w => ?_) (by rfl) ?_
        rotate_left
        · first | (go_simp; done) | (go_simp; with_reducible rfl) | (go_split_ands; go_simp; done)
        try simp only [Act.put, nrmA, nrmB, nrmC]
        refine tk0 (i := 38) (oi := ⟨some 184, .move (.tmp 11), 70, "more.go:45", #[⟨37, .guard⟩], some (37, true)⟩) (v := ?_) rfl (by kernel_rfl) (fun _ _ _ h => h) (fun _ => hF (by kernel_rfl)) (fun w => ?_) (by rfl) ?_
        rotate_left
        · first | (go_simp; done) | (go_simp; with_reducible rfl) | (go_split_ands; go_simp; done)
        try simp only [Act.put, nrmA, nrmB, nrmC]
        refine tk0 (i := 39) (oi := ⟨some 185, .indexAddr 70 (.tmp 184) (.const (.int .i64 0)), 0, "more.go:45", #[⟨38, .data⟩, ⟨37, .guard⟩], some (37, true)⟩) (v := ?_) rfl (by kernel_rfl) (fun _ _ _ h => h) (fun _ => hF (by kernel_rfl)) (fun w => ?_) (by rfl) ?_
        rotate_left
        · first | (go_simp; done) | (go_simp; with_reducible rfl) | (go_split_ands; go_simp; done)
        try simp only [Act.put, nrmA, nrmB, nrmC]
        refine tk1 (i := 40) (oi := ⟨some 186, .load 9 (.tmp 185), 9, "more.go:45", #[⟨39, .data⟩, ⟨37, .guard⟩], some (37, true)⟩) (v := ?_) [47] rfl (by kernel_rfl) (fun _ _ _ h => h) (hF (by kernel_rfl)) (fun w hFw => ?_) (by rfl) ?_
        rotate_left
        · ((try dsimp only at hFw); first | (go_simp; done) | (go_simp; with_reducible rfl) | (go_split_ands; go_simp; done))
        try simp only [Act.put, nrmA, nrmB, nrmC]
        refine wpAnyJ_ready (rs := [41]) (by kernel_rfl) (by simp) ?_
        refine AllJ.cons1 (o := ⟨some 187, .call { callee := .value (.func 29), args := #[.const (.string { data := #[97] }), .const (.int .i64 1)], argTypes := #[9, 3] }, 9, "more.go:45", #[⟨37, .chain⟩, ⟨37, .guard⟩], some (37, true)⟩) rfl (fun Kr hKr => ?_)
        go_simp; go_at_call 29; refine (hnm.out _).mono ?_; rintro e w10 ⟨rfl, hst⟩
        have h := h.still hst
        refine hKr.out _ _ (fun hJ => ?_) (fun hF => ?_)
        · first
          | exact absurd hJ (by decide)
          | (clear hJ; (try dsimp only); all_goals (exact ⟨hcx.out _ (LgS.own1 h), hex.out _ (LgS.own2 h)⟩))
        clear hKr
        try simp only [Act.put, nrmA, nrmB, nrmC]
        refine tk0 (i := 42) (oi := ⟨some 188, .binOp .eql 9 (.tmp 186) (.tmp 187) 9, 4, "more.go:45", #[⟨40, .data⟩, ⟨41, .data⟩, ⟨37, .guard⟩], some (37, true)⟩) (v := ?_) rfl (by kernel_rfl) (fun _ _ _ h => h) (fun _ => hF (by kernel_rfl)) (fun w => ?_) (by rfl) ?_
        rotate_left
        · first | (go_simp; done) | (go_simp; with_reducible rfl) | (go_split_ands; go_simp; done)
        try simp only [Act.put, nrmA, nrmB, nrmC]
        refine tk0 (i := 43) (oi := ⟨some 189, .pick (.tmp 183) (.tmp 188) (.const (.bool false)), 4, "more.go:45", #[⟨37, .data⟩, ⟨42, .data⟩], none⟩) (v := ?_) rfl (by kernel_rfl) (fun _ _ _ h => h) (fun _ => hF (by kernel_rfl)) (fun w => ?_) (by rfl) ?_
        rotate_left
        · first | (go_simp; done) | (go_simp; with_reducible rfl) | (go_split_ands; go_simp; done)
        try simp only [Act.put, nrmA, nrmB, nrmC]
        refine tk0 (i := 44) (oi := ⟨some 190, .move (.tmp 189), 4, "more.go:45", #[⟨43, .data⟩, ⟨41, .chain⟩], none⟩) (v := ?_) rfl (by kernel_rfl) (fun _ _ _ h => h) (fun _ => hF (by kernel_rfl)) (fun w => ?_) (by rfl) ?_
        rotate_left
        · first | (go_simp; done) | (go_simp; with_reducible rfl) | (go_split_ands; go_simp; done)
        try simp only [Act.put, nrmA, nrmB, nrmC]
        refine wpAnyJ_ready (rs := [45]) (by kernel_rfl) (by simp) ?_
        refine AllJ.cons1 (o := ⟨some 191, .call { callee := .value (.func 10), args := #[], argTypes := #[] }, 4, "more.go:45", #[⟨44, .chain⟩, ⟨44, .guard⟩], some (44, true)⟩) rfl (fun Kr hKr => ?_)
        go_simp; go_at_call 10; refine (hkn.out _ _ h.done).mono ?_; rintro e w11 ⟨rfl, hst⟩
        have h := h.still hst
        refine hKr.out _ _ (fun hJ => ?_) (fun hF => ?_)
        · first
          | exact absurd hJ (by decide)
          | (clear hJ; (try dsimp only); all_goals (exact ⟨hcx.out _ (LgS.own1 h), hex.out _ (LgS.own2 h)⟩))
        clear hKr
        try simp only [Act.put, nrmA, nrmB, nrmC]
        refine tk0 (i := 46) (oi := ⟨some 192, .pick (.tmp 190) (.tmp 191) (.const (.bool false)), 4, "more.go:45", #[⟨44, .data⟩, ⟨45, .data⟩], none⟩) (v := ?_) rfl (by kernel_rfl) (fun _ _ _ h => h) (fun _ => hF (by kernel_rfl)) (fun w => ?_) (by rfl) ?_
        rotate_left
        · first | (go_simp; done) | (go_simp; with_reducible rfl) | (go_split_ands; go_simp; done)
        try simp only [Act.put, nrmA, nrmB, nrmC]
        refine wpAnyJ_ready (rs := [47]) (by kernel_rfl) (by simp) ?_
        refine AllJ.cons1 (o := ⟨some 4, .assign (.tmp 192), 4, "more.go:45", #[⟨46, .data⟩, ⟨45, .chain⟩, ⟨0, .phase⟩, ⟨1, .phase⟩, ⟨2, .phase⟩, ⟨3, .phase⟩, ⟨4, .phase⟩, ⟨5, .phase⟩, ⟨6, .phase⟩, ⟨7, .phase⟩, ⟨8, .phase⟩, ⟨9, .phase⟩, ⟨10, .phase⟩, ⟨11, .phase⟩, ⟨12, .phase⟩, ⟨13, .phase⟩, ⟨14, .phase⟩, ⟨15, .phase⟩, ⟨16, .phase⟩, ⟨17, .phase⟩, ⟨18, .phase⟩, ⟨19, .phase⟩, ⟨20, .phase⟩, ⟨21, .phase⟩, ⟨22, .phase⟩, ⟨23, .phase⟩, ⟨24, .phase⟩, ⟨25, .phase⟩, ⟨26, .phase⟩, ⟨27, .phase⟩, ⟨28, .phase⟩, ⟨29, .phase⟩, ⟨30, .phase⟩, ⟨31, .phase⟩, ⟨32, .phase⟩, ⟨33, .phase⟩, ⟨34, .phase⟩, ⟨35, .phase⟩, ⟨36, .phase⟩, ⟨37, .phase⟩, ⟨38, .phase⟩, ⟨39, .phase⟩, ⟨40, .phase⟩, ⟨41, .phase⟩, ⟨42, .phase⟩, ⟨43, .phase⟩, ⟨44, .phase⟩, ⟨45, .phase⟩, ⟨46, .phase⟩], none⟩) rfl (fun Kr hKr => ?_)
        go_simp
        refine hKr.out _ _ (fun hJ => ?_) (fun hF => ?_)
        · first
          | exact absurd hJ (by decide)
          | (clear hJ; (try dsimp only); all_goals (exact ⟨hcx.out _ (LgS.own1 h), hex.out _ (LgS.own2 h)⟩))
        clear hKr
        try simp only [Act.put, nrmA, nrmB, nrmC]
        refine wpAnyJ_done (by kernel_rfl) ?_ _
        have hd := h.done
        go_wp2_with fail
        go_ret
        exact ⟨rfl, hd⟩
end Go.Proofs.YtdolbeonpkanpaaGreatDoor
