/- A pair of logs: known. A pair of logs: heavy; the steps of a script, as they come in. -/
import Derived.Test.YtdolbeonpkanpaaGreatDoorMSgR
import Derived.Test.YtdolbeonpkanpaaGreatDoorSvC
set_option linter.unusedVariables false
set_option linter.unusedSimpArgs false
namespace Go.Proofs.YtdolbeonpkanpaaGreatDoor
open Go.RowKit
attribute [local go_sem ↓] Go.wp_at_zero Go.wp_at_succ

section
variable {pb d r b c : Nat} {p : Nm} {lg lg' : Lg} {k k' : Dk} {Rs : List Heaplet} {w0 W w : World} {K : Heaplet} {N : Nat}
/-- Bytes are laid for a call: the pair, over the world with them. -/
theorem PrS.lit (h : PrS pb d r b c p lg k lg' k' Rs w0 K W) (hT : TabK w0 K) (o : Obj) :
    ∃ K', PrS pb d r b c p lg k lg' k' Rs (W.alloc o) K' (W.alloc o) ∧ W.heap.size ∉ dom K' ∧ TabK (W.alloc o) K' ∧
      ∀ (b2 c2 : Nat) (lg2 : Lg) (k2 : Dk) (lg3 : Lg) (k3 : Dk) (Rs' : List Heaplet) (V : World), PrS pb d r b2 c2 p lg2 k2 lg3 k3 Rs' (W.alloc o) K' V → PrS pb d r b2 c2 p lg2 k2 lg3 k3 Rs' w0 K V := by
  obtain ⟨DH, B, S, E, XH, DR, B2, S2, E2, XH2, h1, h2, h3, h4, s⟩ := h
  obtain ⟨Hs, hHs⟩ : ∃ Hs, Hs = ([[(pb, prObj d r (pt b) (pt c))]] ++ ([DH, B, S, E, XH] ++ ([DR, B2, S2, E2, XH2] ++ Rs))) := ⟨_, rfl⟩
  rw [← hHs] at s
  have s1 : Sp w0 K (W.alloc o) (Hs ++ [[(W.heap.size, o)]]) := s.alloc o
  have s2 : Step w0 K (W.alloc o) Hs.flatten := by
    unfold Sp at s1
    rw [List.flatten_append] at s1
    exact Step.forget s1
  have hn : W.heap.size ∉ dom Hs.flatten := fun hx => Nat.lt_irrefl _ ((Step.own s).lt _ hx)
  refine ⟨Hs.flatten, ⟨DH, B, S, E, XH, DR, B2, S2, E2, XH2, h1, h2, h3, h4, ?_⟩, hn, fun V H st => hT V H (s2.trans st), ?_⟩
  · rw [← hHs]; exact Step.refl s2.own
  · rintro b2 c2 lg2 k2 lg3 k3 Rs' V ⟨DH, B, S, E, XH, DR, B2, S2, E2, XH2, g1, g2, g3, g4, t⟩
    exact ⟨DH, B, S, E, XH, DR, B2, S2, E2, XH2, g1, g2, g3, g4, s2.trans t⟩
theorem lit_rd {l : List UInt8} (hl : l.length ≤ 1000) {f : Nat × Nat} {K' : Heaplet} (hn : W.heap.size ∉ dom K') : ∀ V F, Sp (W.alloc (.cells (l.map u8).toArray 5 f)) K' V F → RdBytes V (some ⟨W.heap.size, 0, none⟩) l.length l.length l := fun V F s =>
  (rdBytes_new l hl).later' (s.out rfl) (fun _ x hx => by cases hx; exact hn)
/-- A step that appends bytes laid for it. -/
theorem do_lit (ch : UInt8) {f : Nat × Nat} (h : PrS pb d r b c [97] lg k lg k [] w0 K W) (hI : LInv N [97] lg k) (hN : N < 99999999) (hT : TabK w0 K) {s2 : Lg × Dk} {v1 v2 : Nat} (he : lappN [97] [ch] lg k = (v1, v2, s2)) :
    Calls Tryz.prog 26 #[pt pb, .agg #[ii 1, ii 0, .slice (some ⟨W.heap.size, 0, none⟩) 1 1, u8 0]] (W.alloc (.cells #[u8 ch] 5 f)) (DoP pb d r s2 w0 K) := by
  obtain ⟨K', h1, h2, h3, h4⟩ := h.lit hT (.cells #[u8 ch] 5 f)
  have hst : stepS ⟨1, 0, some ⟨W.heap.size, 0, none⟩, 1, 1, [ch], 0⟩ (lg, k) = s2 := by show (lappN [97] [ch] lg k).2.2 = _; rw [he]
  have hd := do_app ⟨1, 0, some ⟨W.heap.size, 0, none⟩, 1, 1, [ch], 0⟩ rfl h1 hI hN h3 ⟨lit_rd (l := [ch]) (by simp) h2, by simp, by simp⟩
  rw [hst] at hd
  exact hd.mono fun e w' ⟨e1, b2, c2, hp⟩ => ⟨e1, b2, c2, h4 _ _ _ _ _ _ _ _ hp⟩
theorem known_ents : entN ⟨[[97], [98]], [(1, 28)], 2, false⟩ 2 = ([98], 0) := rfl
set_option maxHeartbeats 1000000 in
set_option maxRecDepth 100000 in
theorem known_any (w : World) (hT : Tab w) : Calls Tryz.prog 10 #[] w (KnownPost w) := by
  have hT0 := tabK_nil hT
  have hI0 : LInv 89478485 [97] lg0 ⟨10000, [], none⟩ := by
    obtain ⟨lg, k2, e, hI, _⟩ := open_free (p := [97]) (k := ⟨10000, [], none⟩) (new_ok (by decide)) rfl
    rw [openN_empty] at e
    cases e
    exact hI
  have hI1 := linv_app hI0 (by decide) [97]
  rw [known1] at hI1
  have hI2 := linv_app hI1 (by decide) [98]
  rw [known2] at hI2
  have hI3 := linv_sync hI2
  rw [known3] at hI3
  have hI4 := linv_app hI3 (by decide) [99]
  rw [known4] at hI4
  simp only at hI1 hI2 hI3 hI4
  have hl6 : Lg.Ok ⟨[[97], [98]], [(1, 28)], 2, false⟩ := hI3.ok (by decide)
  have g0 := Lib.hid (start_any 10000 w (by decide) hT)
  have g1 := Lib.hid (fun pb d r b c W f (h : PrS pb d r b c [97] lg0 ⟨10000, [], none⟩ lg0 ⟨10000, [], none⟩ [] w [] W) => do_lit 97 (f := f) h hI0 (by decide) hT0 known1)
  have g2 := Lib.hid (fun pb d r b c W f (h : PrS pb d r b c [97] _ _ _ _ [] w [] W) => do_lit 98 (f := f) h hI1 (by decide) hT0 known2)
  have g3 := Lib.hid (fun pb d r b c W (h : PrS pb d r b c [97] _ _ _ _ [] w [] W) => do_sync ⟨2, 0, none, 0, 0, [], 0⟩ rfl h hI2 (by decide) ⟨fun V F _ => rdBytes_none V, by decide, by decide⟩)
  have g4 := Lib.hid (fun pb d r b c W f (h : PrS pb d r b c [97] _ _ _ _ [] w [] W) => do_lit 99 (f := f) h hI3 (by decide) hT0 known4)
  have g5 := Lib.hid (fun pb d r b c W (h : PrS pb d r b c [97] _ _ _ _ [] w [] W) => do_crash ⟨3, 3, none, 0, 0, [], 0⟩ rfl h hI4 hT0 ⟨fun V F _ => rdBytes_none V, by decide, by decide⟩)
  have e3 : stepS ⟨2, 0, none, 0, 0, [], 0⟩ (⟨[[97], [98]], [(1, 28)], 0, false⟩, ⟨10000, [(nmA, kn2, 0)], none⟩) = (⟨[[97], [98]], [(1, 28)], 2, false⟩, ⟨10000, [(nmA, kn2, 28)], none⟩) := by
    show (lsyncN [97] _ _).2 = _
    rw [known3]
  have e5 : stepS ⟨3, 3, none, 0, 0, [], 0⟩ (⟨[[97], [98], [99]], [(1, 42)], 2, false⟩, ⟨10000, [(nmA, kn3, 28)], none⟩) = (⟨[[97], [98]], [(1, 28)], 2, false⟩, ⟨10000, [(nmA, kn2, 28)], none⟩) := by
    show (openN [97] (crN 3 0 _)).2 = _
    rw [known5, known6]
  rw [e3] at g3
  rw [e5] at g5
  have g6 := Lib.hid (fun pb d r b c W Rs (h : PrS pb d r b c [97] ⟨[[97], [98]], [(1, 28)], 2, false⟩ ⟨10000, [(nmA, kn2, 28)], none⟩ ⟨[[97], [98]], [(1, 28)], 2, false⟩ ⟨10000, [(nmA, kn2, 28)], none⟩ Rs w [] W) => ps_next h hl6)
  have g7 := Lib.hid (fun pb d r b c W Rs (h : PrS pb d r b c [97] ⟨[[97], [98]], [(1, 28)], 2, false⟩ ⟨10000, [(nmA, kn2, 28)], none⟩ ⟨[[97], [98]], [(1, 28)], 2, false⟩ ⟨10000, [(nmA, kn2, 28)], none⟩ Rs w [] W) => ps_entry h hl6 2)
  rw [known_ents] at g7
  have hfin : Hid (∀ pb d r b c W lg k lg' k' Rs, PrS pb d r b c [97] lg k lg' k' Rs w [] W → Step w [] W []) := fun pb d r b c W lg k lg' k' Rs h => by
    obtain ⟨DH, B, S, E, XH, DR, B2, S2, E2, XH2, h1, h2, h3, h4, s⟩ := h
    have s : Step w [] W _ := s
    exact Step.forget (A := []) s
  have kc := fun (w : World) (C : Array Value) (n c : Nat) => Lib.run_convert_bytes_const (P := Tryz.prog) w 23 5 C n c Tryz.underlying23 Tryz.underlying5
  simp only [sqCells] at g3 g5
  clear hI0 hI1 hI2 hI3 hI4 hl6 e3 e5 hT hT0
  generalize (⟨[[97]], [(1, 14)], 0, false⟩ : Lg) = l1 at g1 g2
  generalize (⟨10000, [(nmA, kn1, 0)], none⟩ : Dk) = k1 at g1 g2
  generalize (⟨[[97], [98]], [(1, 28)], 0, false⟩ : Lg) = l2 at g2 g3
  generalize (⟨10000, [(nmA, kn2, 0)], none⟩ : Dk) = k2 at g2 g3
  generalize (⟨[[97], [98], [99]], [(1, 42)], 2, false⟩ : Lg) = l4 at g4 g5
  generalize (⟨10000, [(nmA, kn3, 28)], none⟩ : Dk) = k4 at g4 g5
  go_enter Tryz.func10, Tryz.ntmps10
  go_wp2_with fail
  refine g0.out.mono ?_
  rintro e w1 ⟨pb, d, r, b, c, rfl, h⟩
  go_wp2_with fail
  refine (g1.out _ _ _ _ _ _ _ h).mono ?_
  rintro e w2 ⟨rfl, b, c, h⟩
  simp only at h
  go_wp2_with fail
  refine (g2.out _ _ _ _ _ _ _ h).mono ?_
  rintro e w3 ⟨rfl, b, c, h⟩
  simp only at h
  go_wp2_with fail
  refine (g3.out _ _ _ _ _ _ h).mono ?_
  rintro e w4 ⟨rfl, b, c, h⟩
  simp only at h
  go_wp2_with fail
  refine (g4.out _ _ _ _ _ _ _ h).mono ?_
  rintro e w5 ⟨rfl, b, c, h⟩
  simp only at h
  go_wp2_with fail
  refine (g5.out _ _ _ _ _ _ h).mono ?_
  rintro e w6 ⟨rfl, b, c, h⟩
  simp only at h
  obtain ⟨z0, z1, z2, z3⟩ := h.cells
  go_wp2_with fail
  refine (g6.out _ _ _ _ _ _ _ h).mono ?_
  rintro e w7 ⟨rfl, h⟩
  clear z0 z1 z2 z3
  obtain ⟨z0, z1, z2, z3⟩ := h.cells
  go_wp2_with fail
  refine (g7.out _ _ _ _ _ _ _ h).mono ?_
  rintro e w8 ⟨a1, c1, X1, rfl, q1, h⟩
  clear z0 z1 z2 z3
  have h1 := hfin.out _ _ _ _ _ _ _ _ _ _ _ h
  have ho := PrS.ownR (A := []) h
  simp only [List.length_singleton, List.length_cons, List.length_nil] at q1 ⊢
  replace q1 := Lib.hid q1
  go_wp2_with fail
  refine (same_lit [98] _ rfl a1 c1 1 rfl X1 w8 (1, 2) q1.out ho (by decide)).mono ?_
  rintro e w9 ⟨rfl, h6⟩
  go_wp2_with fail
  go_ret
  exact ⟨rfl, h1.trans h6⟩
end
end Go.Proofs.YtdolbeonpkanpaaGreatDoor
namespace Go.Proofs.YtdolbeonpkanpaaGreatDoor
open Go.RowKit
attribute [local go_sem ↓] Go.wp_at_zero Go.wp_at_succ

instance : Inhabited Sq := ⟨⟨0, 0, none, 0, 0, [], 0⟩⟩
def Sq.ok (W : World) (x : Sq) : Prop := RdBytes W x.ba x.bn x.bc x.d ∧ x.d.length ≤ 140737488351232 ∧ x.n ≤ 9223372036854775807
theorem list4 {cs : List Value} (h : cs.length = 4) : ∃ x y z u, cs = [x, y, z, u] := by
  match cs, h with
  | [x, y, z, u], _ => exact ⟨x, y, z, u, rfl⟩
theorem i64_max5 {n : Int} (h : (Lit.int .i64 n).wf = true) : -9223372036854775808 ≤ n ∧ n ≤ 9223372036854775807 := by
  simp [Lit.wf, IntKind.min, IntKind.max, IntKind.bits, IntKind.signed] at h
  omega
section
variable {H : Type} {enc : TypeId × Value → H} {P : Program} {w : World} {base : Nat} {held : Bool}
theorem open_step5 {T ti tb e tu : TypeId} {f0 f1 f2 f3 : Field} {fuel : Nat} {cs : List Value} {d : DataW H} {pl : List MemPlace} (hs : P.underlying T = some (.struct #[f0, f1, f2, f3])) (e0 : f0.type = ti) (e1 : f1.type = ti) (e2 : f2.type = tb) (e3 : f3.type = tu)
    (hC : P.cellsOf T = 4) (ho : Deep.oneCellFields P #[f0, f1, f2, f3] = true) (hi : P.underlying ti = some (.int .i64)) (hu : P.underlying tu = some (.int .u8))
    (ht : P.underlying tb = some (.slice e)) (he : P.underlying e = some (.int .u8)) (ce : P.cellsOf e = 1) (be : P.bytesOf e = 1)
    (h : DataW.trod enc P w base (fun _ => true) held fuel T cs = some (d, pl)) (hr : Reached P T d) : ∃ x : Sq, cs = sqCells x ∧ x.ok w := by
  obtain ⟨hl, hf⟩ := open_struct hs hC ho h hr
  obtain ⟨v0, v1, v2, v3, rfl⟩ := list4 hl
  obtain ⟨n0, d0, q0, t0, r0⟩ := hf 0 f0 _ rfl rfl
  obtain ⟨n1, d1, q1, t1, r1⟩ := hf 1 f1 _ rfl rfl
  obtain ⟨n2, d2, q2, t2, r2⟩ := hf 2 f2 _ rfl rfl
  obtain ⟨n3, d3, q3, t3, r3⟩ := hf 3 f3 _ rfl rfl
  rw [e0] at t0 r0
  rw [e1] at t1 r1
  rw [e2] at t2 r2
  rw [e3] at t3 r3
  obtain ⟨k, g0, _, _⟩ := DataW.trod_int hi t0
  obtain ⟨n, g1, _, wn⟩ := DataW.trod_int hi t1
  obtain ⟨ad, m, c, l, g4, hl4, hll⟩ := open_bytes0 ht he ce be t2 r2
  obtain ⟨z, g5, _, wz⟩ := DataW.trod_int hu t3
  cases g0; cases g1; cases g4; cases g5
  refine ⟨⟨k, n, ad, m, c, l, UInt8.ofNat z.toNat⟩, ?_, hl4, hll, (i64_max5 wn).2⟩
  simp only [sqCells, u8_of_wf wz]
end
def HvRel (l : List Sq) (w : World) (v3 v4 : Value) (wr : World) : Prop := ∃ k s : Nat, v3 = iv s ∧ v4 = iv k ∧ k ≤ l.length ∧ s ≤ 12000 ∧ (∀ i x, i < k → l[i]? = some x → x.d.length ≤ 12000) ∧ Step w [] wr []
set_option maxHeartbeats 2000000 in
set_option maxRecDepth 100000 in
theorem heavy_any (a : Option Addr) (nl cl : Nat) (l : List Sq) (w : World) (h : RdRecs w a nl cl 4 sqCells l) (hb : ∀ x ∈ l, x.ok w) (hll : l.length ≤ 140737488355328) :
    Calls Tryz.prog 25 #[.slice a nl cl] w fun e w' => (∃ t, e = .returned (.bool t) ∧ (t = false → ∀ i x, i < 100 → l[i]? = some x → x.d.length ≤ 12000)) ∧ Step w [] w' [] := by
  have hnl := h.1
  subst hnl
  have hlc : (l.length : Int) ≤ (cl : Int) := by have := h.2.1; omega
  have b4 : (l.length : Int) ≤ 140737488355328 := by omega
  replace h := Lib.hid h
  replace hb := Lib.hid hb
  go_enter Tryz.func25, Tryz.ntmps25
  go_wp2_with fail
  go_loopw [3, 4] (fun v3 v4 wr => HvRel l w v3 v4 wr) (fun _ v _ => l.length - (intOf v).toNat)
  case atStart => exact ⟨0, 0, rfl, rfl, Nat.zero_le _, Nat.zero_le _, fun i x hi => absurd hi (Nat.not_lt_zero _), Step.refl (Own.nil _)⟩
  case round =>
    obtain ⟨k, s, rfl, rfl, hk, hs, hall, hst⟩ := hrel
    have d0 : (0 : Int) ≤ (k : Int) := by omega
    by_cases hlt : k < l.length
    · have d2 : (k : Int) < (l.length : Int) := by omega
      by_cases h120 : k < 100
      · have d3 : (k : Int) < 100 := by omega
        obtain ⟨x, hx⟩ : ∃ x, l[k]? = some x := ⟨_, List.getElem?_eq_getElem hlt⟩
        obtain ⟨ab, ao, rfl, hc⟩ := (h.out.later hst).at' hx
        have e2 := hc 2 _ rfl
        obtain ⟨m1, m2, m3⟩ := hb.out x (List.mem_of_getElem? hx)
        have m4 := m1.1
        rw [m4] at e2
        obtain ⟨s1, hs1⟩ : ∃ s1, s1 = s + 5 := ⟨_, rfl⟩
        obtain ⟨s2, hs2⟩ : ∃ s2, s2 = s1 + x.d.length := ⟨_, rfl⟩
        have q1 : IntKind.i64.wrap ((s : Int) + 5) = (s1 : Int) := by rw [IntWalk.i64_in _ (by omega)]; omega
        have q2 : IntKind.i64.wrap ((s1 : Int) + (x.d.length : Int)) = (s2 : Int) := by rw [IntWalk.i64_in _ (by omega)]; omega
        have hxl : x.d.length ≤ s2 := by omega
        have hall2 : Hid (s2 ≤ 12000 → ∀ i y, i < k + 1 → l[i]? = some y → y.d.length ≤ 12000) := fun h5 i y hi hy => by
          by_cases e : i = k
          · subst e; rw [hx] at hy; cases hy; omega
          · exact hall i y (by omega) hy
        clear hc hx m1 m2 m3 m4 hall hxl
        replace hs1 := Lib.hid hs1
        replace hs2 := Lib.hid hs2
        replace hst := Lib.hid hst
        by_cases hbig : 12000 < s2
        · have g1 : (12000 : Int) < (s2 : Int) := by omega
          clear hbig
          go_wp2_with fail
          go_ret
          exact ⟨⟨_, rfl, fun h => by cases h⟩, hst.out⟩
        · have g1 : (s2 : Int) ≤ 12000 := by omega
          have g2 : Hid (s2 ≤ 12000) := by show s2 ≤ 12000; omega
          clear hbig
          go_wp2_with fail
          exact ⟨⟨k + 1, s2, rfl, by go_num, hlt, g2.out, hall2.out g2.out, hst.out⟩, by simp [intOf]; omega⟩
      · have d3 : (100 : Int) ≤ (k : Int) := by omega
        have hall := Lib.hid hall
        go_wp2_with fail
        go_ret
        exact ⟨⟨_, rfl, fun _ i x hi hx => hall.out i x (by omega) hx⟩, hst⟩
    · have d2 : (l.length : Int) ≤ (k : Int) := by omega
      have hall := Lib.hid hall
      go_wp2_with fail
      go_ret
      exact ⟨⟨_, rfl, fun _ i x hi hx => hall.out i x (by have := (List.getElem?_eq_some_iff.1 hx).1; omega) hx⟩, hst⟩
section
variable {pb d r b c : Nat} {p : Nm} {lg lg' : Lg} {k k' : Dk} {Rs : List Heaplet} {w0 W : World} {K : Heaplet}
theorem PrS.step (h : PrS pb d r b c p lg k lg' k' Rs w0 K W) : ∃ G, Step w0 K W G := by
  obtain ⟨DH, B, S, E, XH, DR, B2, S2, E2, XH2, h1, h2, h3, h4, s⟩ := h
  exact ⟨_, s⟩
theorem PrS.done (h : PrS pb d r b c p lg k lg' k' Rs w0 [] W) : Step w0 [] W [] := by
  obtain ⟨G, s⟩ := h.step
  exact Step.forget (A := []) s
end
theorem linv0 (n : Nat) (hn : n ≤ 1073741824) : LInv 89478485 [97] lg0 ⟨n, [], none⟩ := by
  obtain ⟨lg, k2, e, hI, _⟩ := open_free (p := [97]) (k := ⟨n, [], none⟩) (new_ok hn) rfl
  rw [openN_empty] at e
  cases e
  exact hI
end Go.Proofs.YtdolbeonpkanpaaGreatDoor
