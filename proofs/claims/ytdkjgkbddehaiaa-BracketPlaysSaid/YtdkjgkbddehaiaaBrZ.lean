/- The reference's bracket: Ready, Seats, Out, Report, New. -/
import Derived.Test.YtdkjgkbddehaiaaBrY
import Derived.Test.YtdkjgkbddehaiaaArrIx
namespace Go.Proofs.Ytdkjgkbddehaiaa
open Go.RowKit
attribute [local go_sem ↓] Go.wp_at_zero Go.wp_at_succ

theorem RfOwn.after {w w' : World} {b n : Nat} {l : List Nat} {W : List Int} {H G : Heaplet} (h : RfOwn w b n l W H) (s : Step w [] w' G) : RfOwn w' b n l W H := by
  obtain ⟨a1, c1, H1, a2, c2, H2, e, r, o⟩ := h
  exact ⟨a1, c1, H1, a2, c2, H2, e, r, o.eq fun b hb => s.frame b (o.lt b hb) (by simp [dom])⟩
/-- A block laid behind another one. -/
theorem rdCells_new2 {w : World} {o : Obj} {c k m : Nat} {cs : Array Value} {T : TypeId} {f : Nat × Nat} (hl : cs.toList.length = m * k) (h1 : ∀ u ∈ cs.toList, u.oneCell' = true) :
    RdCells ((w.alloc o).alloc (.cells cs T f)) (.slice (some ⟨w.heap.size + 1, 0, none⟩) m c) m k cs.toList :=
  rdCells_block (by have := heap_alloc_new (w.alloc o) (.cells cs T f); simpa using this) hl h1
theorem tie_sign {B : Br} {W : List Int} (h : Tie B W) {j : Nat} {m : Mt} (hm : B.ms[j]? = some m) : ∃ k : Int, W[j]? = some k ∧ (k = -1 ∨ k = 0 ∨ k = 1) ∧ (m.s0 ≠ 0 → m.s1 ≠ 0 → (k < 0 ↔ m.w = 0)) ∧ (0 ≤ k → m.s0 ≠ 0 ∧ m.s1 ≠ 0) := by
  rcases h.at' j m hm with ⟨e, h⟩ | ⟨q, hq, e, hw, h0, h1⟩
  · exact ⟨-1, e, .inl rfl, fun a b => by constructor <;> intro _ <;> omega, fun x => by omega⟩
  · refine ⟨q, e, by omega, fun a b => ?_, fun _ => ⟨h0, h1⟩⟩
    have : m.w ≠ 0 := by rw [hw]; unfold Mt.seat; split <;> assumption
    constructor <;> intro _ <;> omega
set_option maxHeartbeats 1000000 in
set_option maxRecDepth 100000 in
theorem rready_any (B : Br) (l : List Nat) (W : List Int) (b : Nat) (H : Heaplet) (w : World) (hok : RfOk B l W) (hw : RfOwn w b B.n l W H) :
    Calls Try.prog 30 #[pt b] w (ReadyPost B w) := by
  have hl := hok.inv.ok.len
  have h64 := hok.inv.ok.z64
  have hwl := hok.tie.len
  have b1 : (W.length : Int) ≤ 64 := by omega
  have hts := Lib.hid (fun j m hm => tie_sign hok.tie (j := j) (m := m) hm)
  have hse := Lib.hid (fun j m H w hm hw => rseats_any B l W b j m H w hok hm hw)
  replace hwl := Lib.hid hwl
  go_enter Try.func30, Try.ntmps30
  go_wp2_with fail
  go_loopw [3, 4] (fun v3 v4 wr => RdyRel B w v3 v4 wr) (fun _ v _ => W.length - (intOf v).toNat)
  case atStart => exact ⟨0, none, 0, [], Nat.zero_le _, rfl, rfl, SlRep.nil _ _, Step.refl (Own.nil _)⟩
  case round =>
    obtain ⟨k, a, c, G, hk, rfl, rfl, hr, hs⟩ := hrel
    have d1 : (0 : Int) ≤ (k : Int) := by omega
    have hwr := hw.after hs
    by_cases hlt : k < B.ms.length
    · obtain ⟨m, hm⟩ : ∃ m, B.ms[k]? = some m := ⟨_, List.getElem?_eq_getElem hlt⟩
      have d2 : (k : Int) < (W.length : Int) := by have := hwl.out; omega
      have hrs := ready_succ hm
      have hrl := ready_len B k
      obtain ⟨q, hq, hq3, hq1, hq2⟩ := hts.out k m hm
      have hse1 := Lib.hid (fun H w hw => hse.out k m H w hm hw)
      unfold RSeatsPost at hse1
      obtain ⟨m0, m1, mw, mb⟩ := m
      simp only at hse1 hq1 hq2
      obtain ⟨a1, k1, a2, k2, c0, c1, c2⟩ := hwr.lens
      have hcase : ((((m0 : Int) != 0) = false ∨ (((m0 : Int) != 0) = true ∧ ((m1 : Int) != 0) = false) ∨ (((m0 : Int) != 0) = true ∧ ((m1 : Int) != 0) = true ∧ decide (q < 0) = false)) ∧ Mt.rdy ⟨m0, m1, mw, mb⟩ = false) ∨
          (((m0 : Int) != 0) = true ∧ ((m1 : Int) != 0) = true ∧ decide (q < 0) = true ∧ Mt.rdy ⟨m0, m1, mw, mb⟩ = true) := by
        simp only [bne_iff_ne, bne_eq_false_iff_eq, decide_eq_true_eq, decide_eq_false_iff_not, Mt.rdy]
        by_cases h0 : m0 = 0
        · exact .inl ⟨.inl (by omega), by omega⟩
        · by_cases h1 : m1 = 0
          · exact .inl ⟨.inr (.inl ⟨by omega, by omega⟩), by omega⟩
          · have := hq1 h0 h1
            by_cases hqq : q < 0
            · exact .inr ⟨by omega, by omega, hqq, by omega⟩
            · exact .inl ⟨.inr (.inr ⟨by omega, by omega, hqq⟩), by omega⟩
      replace hq := Lib.hid hq
      replace hr := Lib.hid hr
      clear hm hq1 hq2 hq3 hl
      rcases hcase with ⟨hcase, hnr⟩ | ⟨f0, f1, f2, hnr⟩
      · rw [hnr, if_neg (by simp)] at hrs
        replace hrs := Lib.hid hrs
        replace hnr := Lib.hid hnr
        replace hcase := Lib.hid hcase
        go_wp2_with fail
        refine (hse1.out _ _ hwr).mono ?_
        rintro e w1 ⟨rfl, hs1⟩
        have s1 := hs.call0 hs1
        rw [List.append_nil] at s1
        have s1 := s1.alloc (.cells #[iv m0, iv m1] 32)
        have hw1 := hw.after s1
        obtain ⟨d0, d1'⟩ := cells2 s1.own.h0
        clear c0 c1 c2 hs hs1 hwr
        obtain ⟨g2, k2, c2, ck⟩ := hw1.won hq.out
        rcases hcase.out with f0 | ⟨f0, f1⟩ | ⟨f0, f1, f2⟩
        all_goals
          go_wp2_with fail
          exact ⟨⟨k + 1, a, c, G, by omega, by go_num, by rw [hrs.out], by rw [hrs.out]; exact hr.out, s1.tail⟩, by simp [intOf]; omega⟩
      · rw [hnr, if_pos rfl] at hrs
        replace hrs := Lib.hid hrs
        replace hnr := Lib.hid hnr
        go_wp2_with fail
        refine (hse1.out _ _ hwr).mono ?_
        rintro e w1 ⟨rfl, hs1⟩
        have s1 := hs.call0 hs1
        rw [List.append_nil] at s1
        have s1 := s1.alloc (.cells #[iv m0, iv m1] 32)
        have hw1 := hw.after s1
        obtain ⟨d0, d1'⟩ := cells2 s1.own.h0
        clear c0 c1 c2 hs hs1 hwr
        obtain ⟨g2, k2, c2, ck⟩ := hw1.won hq.out
        go_wp2_with (at_builtin; refine wpList_app rfl st_int _ _ rfl (by rfl) (by rfl) hr.out ((s1.alloc _).own.tail.tail) (rdCells_new2 rfl (by simp [Value.oneCell'])) (by unfold maxLen; omega) (by omega) ?_; intro a6 c6 w6 H6 hr6 hst6)
        refine ⟨⟨k + 1, a6, c6, H6, by omega, by go_num, ?_, ?_, ((Step.callR (R := [_, _]) (s1.alloc _) hst6).tail).tail⟩, by simp [intOf]; omega⟩
        · rw [hrs.out, List.length_append]; rfl
        · rw [hrs.out, List.length_append, List.map_append]; exact hr6
    · have hkl : k = B.ms.length := by omega
      have d2 : (W.length : Int) ≤ (k : Int) := by have := hwl.out; omega
      obtain ⟨a1, k1, a2, k2, c0, c1, c2⟩ := hwr.lens
      replace hkl := Lib.hid hkl
      clear hwr
      go_wp2_with fail
      go_ret
      have hs := hs
      rw [hkl.out] at hr ⊢
      exact ⟨a, c, G, rfl, hr, hs⟩

theorem Step.keepCell {w w' : World} {G : Heaplet} (s : Step w [] w' G) {a : Addr} {v : Value} (h : w.cell? a = some v) : w'.cell? a = some v := by
  rw [World.cell?_of_block (w := w) (s.frame a.block (World.block_lt_of_cell? w _ h) (by simp [dom]))]; exact h
set_option maxRecDepth 100000 in
theorem rseatsf_any (B : Br) (l : List Nat) (W : List Int) (b : Nat) (i : Int) (H : Heaplet) (w : World) (hok : RfOk B l W) (hw : RfOwn w b B.n l W H) :
    Calls Try.prog 32 #[pt b, .int .i64 i] w (SeatsPost (B.seats i) w) := by
  have hl := hok.inv.ok.len
  have h64 := hok.inv.ok.z64
  have hwl := hok.tie.len
  have b1 : (W.length : Int) ≤ 64 := by omega
  have s0 := (Step.refl (Own.nil w)).alloc (.cells #[.int .i64 0, .int .i64 0] 32)
  have hw1 := hw.after s0
  obtain ⟨a1, k1, a2, k2, c0, c1, c2⟩ := hw1.lens
  obtain ⟨d0, d1⟩ := cells2 s0.own.h0
  have fz := fun i => frz_of (i := i) s0.own.h0
  cases hi : B.has i
  · rw [seats_of hi]
    have hg : (i < 0) ∨ (0 ≤ i ∧ (W.length : Int) ≤ i) := by
      by_cases h0 : 0 ≤ i
      · simp [Br.has, h0] at hi; omega
      · omega
    clear hi hl hwl
    rcases hg with g0 | ⟨g0, g1⟩
    all_goals
      go_enter Try.func32, Try.ntmps32
      go_wp2_with fail
      exact bodyPost_ret (v := .tuple #[.agg #[iv 0, iv 0], iv 7]) (by simp [results, Try.results32, go_sem]) rfl ⟨rfl, (Step.refl (Own.nil w)).junk _⟩
  · obtain ⟨k, m, rfl, hk, hm⟩ := has_of hi
    rw [seats_at hm]
    have g0 : (0 : Int) ≤ (k : Int) := by omega
    have g1 : (k : Int) < (W.length : Int) := by omega
    have hse := Lib.hid (fun H w hw => rseats_any B l W b k m H w hok hm hw)
    unfold RSeatsPost at hse
    obtain ⟨m0, m1, mw, mb⟩ := m
    simp only at hse
    clear hm hi hl hwl
    go_enter Try.func32, Try.ntmps32
    go_wp2_with fail
    refine (hse.out _ _ hw1).mono ?_
    rintro e w1 ⟨rfl, hs1⟩
    have s1 := s0.call0 hs1
    rw [List.append_nil] at s1
    obtain ⟨d0, d1⟩ := cells2 s1.own.h0
    have fz := fun i => frz_of (i := i) s1.own.h0
    go_wp2_with fail
    have s3 := ((s1.store0 (iv m0) (i := 0)).store0 (iv m1) (i := 1))
    obtain ⟨x0, x1⟩ := cells2 s3.own.h0
    exact bodyPost_ret (v := .tuple #[.agg #[iv m0, iv m1], iv 0]) (by simp [results, Try.results32, go_sem, x0, x1]) rfl ⟨rfl, s3.tail⟩
def rhit (B : Br) (W : List Int) (s : Int) (j : Nat) : Prop := ∃ (m : Mt) (k : Nat), B.ms[j]? = some m ∧ k < 2 ∧ W[j]? = some (k : Int) ∧ ((m.seat (1 - k) : Nat) : Int) = s ∧ 0 < s
def OutRel (B : Br) (W : List Int) (s : Int) (w : World) (v : Value) (wr : World) : Prop := ∃ k, k ≤ B.ms.length ∧ v = .int .i64 (k : Nat) ∧ (∀ j, j < k → ¬ rhit B W s j) ∧ Step w [] wr []
def OutPost (x : Bool) (w : World) (e : Ending) (w' : World) : Prop := e = .returned (.bool x) ∧ Step w [] w' []
theorem rhit_out {B : Br} {W : List Int} (hok : B.Inv) (ht : Tie B W) {s : Int} : (∃ j, rhit B W s j) ↔ B.isOut s = true := by
  constructor
  · rintro ⟨j, m, k, hm, hk, hW, hs, h0⟩
    have hle := hok.ok.le m (List.mem_of_getElem? hm)
    obtain ⟨q, hq, _, _, _⟩ := tie_sign ht hm
    have hsn : m.seat (1 - k) ≤ B.n := by rcases seat_cases m hk with ⟨_, e⟩ | ⟨_, e⟩ <;> rw [e] <;> omega
    rw [← hs, isOut_get hok.ok (by omega) hsn]
    exact (ht.out _ (by omega) hsn).2 ⟨j, m, k, hm, hk, hW, rfl⟩
  · intro h
    have hr : 1 ≤ s ∧ s ≤ B.n := by 
      unfold Br.isOut at h
      split at h
      · assumption
      · cases h
    obtain ⟨k, rfl⟩ := Int.eq_ofNat_of_zero_le (show 0 ≤ s by omega)
    rw [isOut_get hok.ok (by omega) (by omega)] at h
    obtain ⟨j, m, q, hm, hq, hW, hs⟩ := (ht.out _ (by omega) (by omega)).1 h
    exact ⟨j, m, q, hm, hq, hW, by omega, by omega⟩
set_option maxHeartbeats 1000000 in
set_option maxRecDepth 100000 in
theorem rout_any (B : Br) (l : List Nat) (W : List Int) (b : Nat) (s : Int) (H : Heaplet) (w : World) (hok : RfOk B l W) (hw : RfOwn w b B.n l W H) :
    Calls Try.prog 34 #[pt b, .int .i64 s] w (OutPost (B.isOut s) w) := by
  have hl := hok.inv.ok.len
  have h64 := hok.inv.ok.z64
  have hwl := hok.tie.len
  have hho := Lib.hid (rhit_out hok.inv hok.tie (s := s))
  have b1 : (W.length : Int) ≤ 64 := by omega
  have hts := Lib.hid (fun j m hm => tie_sign hok.tie (j := j) (m := m) hm)
  have hse := Lib.hid (fun j m H w hm hw => rseats_any B l W b j m H w hok hm hw)
  replace hwl := Lib.hid hwl
  clear hl
  go_enter Try.func34, Try.ntmps34
  go_wp2_with fail
  go_loopw [5] (fun v wr => OutRel B W s w v wr) (fun v _ => W.length - (intOf v).toNat)
  case atStart => exact ⟨0, Nat.zero_le _, rfl, fun j hj => absurd hj (by omega), Step.refl (Own.nil _)⟩
  case round =>
    obtain ⟨k, hk, rfl, hno, hs⟩ := hrel
    replace hno := Lib.hid hno
    have d1 : (0 : Int) ≤ (k : Int) := by omega
    have hwr := hw.after hs
    by_cases hlt : k < B.ms.length
    · obtain ⟨m, hm⟩ : ∃ m, B.ms[k]? = some m := ⟨_, List.getElem?_eq_getElem hlt⟩
      have d2 : (k : Int) < (W.length : Int) := by have := hwl.out; omega
      obtain ⟨q, hq, hq3, hq1, hq2⟩ := hts.out k m hm
      have hse1 := Lib.hid (fun H w hw => hse.out k m H w hm hw)
      unfold RSeatsPost at hse1
      have hhit : Hid (rhit B W s k ↔ (0 ≤ q ∧ 0 < s ∧ ((m.seat (1 - q.toNat) : Nat) : Int) = s)) := by
        show _ ↔ _
        constructor
        · rintro ⟨m', k', hm', hk', hW', hs', h0⟩
          rw [hm] at hm'; cases hm'
          rw [hq] at hW'
          have : q = k' := by simpa using hW'
          subst this
          exact ⟨by omega, h0, by simpa using hs'⟩
        · rintro ⟨g0, g1, g2⟩
          exact ⟨m, q.toNat, hm, by omega, by rw [hq]; congr 1; omega, g2, g1⟩
      obtain ⟨g2, k2, c2, ck⟩ := hwr.won hq
      replace hq := Lib.hid hq
      obtain ⟨m0, m1, mw, mb⟩ := m
      simp only at hse1 hq1 hq2
      clear hq1 hm
      by_cases g0 : 0 ≤ q
      · by_cases g1 : 0 < s
        · -- the seats are looked at
          have hq01 : ∃ X : Nat, (X = m0 ∨ X = m1) ∧ ((q = 0 ∧ X = m1) ∨ (q = 1 ∧ X = m0)) ∧ Hid (rhit B W s k ↔ (X : Int) = s) := by
            rcases hq3 with rfl | rfl | rfl
            · omega
            · exact ⟨m1, .inr rfl, .inl ⟨rfl, rfl⟩, by show _ ↔ _; rw [hhit.out]; simp [Mt.seat]; omega⟩
            · exact ⟨m0, .inl rfl, .inr ⟨rfl, rfl⟩, by show _ ↔ _; rw [hhit.out]; simp [Mt.seat]; omega⟩
          obtain ⟨X, -, hqX, hX⟩ := hq01
          clear hhit hq3 hq2
          have hix := fun W => (run_ix2 W m0 m1).1
          have hiy := fun W => (run_ix2 W m0 m1).2
          have z1 : IntKind.i64.wrap 1 = 1 := by decide
          have z0 : IntKind.i64.wrap 0 = 0 := by decide
          have g2' : decide (0 ≤ q) = true := decide_eq_true g0
          have hXs : ((X : Int) == s) = true ∨ ((X : Int) == s) = false := by cases ((X : Int) == s) <;> simp
          rcases hqX with ⟨rfl, rfl⟩ | ⟨rfl, rfl⟩
          ·
            rcases hXs with hXs | hXs
            all_goals
              go_wp2_with fail
              have sd := hs.drew
              refine wp_region_J 27 (fun w' => w'.cell? ⟨b, 2, none⟩ = some (.slice (some ⟨g2, 0, none⟩) W.length k2) ∧ w'.cell? ⟨g2, k, none⟩ = some (ii 0)) (by kernel_rfl) ?_ (fun hF => ?_)
              · (try dsimp only)
                all_goals (exact ⟨c2, ck⟩)
              refine wpAnyJ_take (i := 0) (oi := { dst := some 15, op := Go.Op.move (Go.Operand.tmp 0), type := 38, pos := "bracket.go:109", after := #[], guard := none }) (v := ?_) [1, 2, 3, 5, 6, 7, 8, 12, 27] rfl (by kernel_rfl) (by kernel_rfl) (by kernel_rfl) (by kernel_rfl) (by kernel_rfl) (fun _ _ _ h => h) (by first | exact hF | exact hF (by kernel_rfl)) (fun w hFw => ?_) (by rfl) ?_
              rotate_left
              · (try dsimp only at hFw)
                first | (go_simp; done) | (go_simp; with_reducible rfl) | (go_split_ands; go_simp; done)
              try simp only [Act.put, List.setIfInBounds_toArray, List.set_cons_zero, List.set_cons_succ]
              refine wpAnyJ_take (i := 1) (oi := { dst := some 16, op := Go.Op.nilCheck (Go.Operand.tmp 15), type := 0, pos := "bracket.go:109", after := #[{ on := 0, ground := Go.Ground.data }], guard := none }) (v := ?_) [2, 3, 5, 6, 7, 8, 12, 27] rfl (by kernel_rfl) (by kernel_rfl) (by kernel_rfl) (by kernel_rfl) (by kernel_rfl) (fun _ _ _ h => h) (by first | exact hF | exact hF (by kernel_rfl)) (fun w hFw => ?_) (by rfl) ?_
              rotate_left
              · (try dsimp only at hFw)
                first | (go_simp; done) | (go_simp; with_reducible rfl) | (go_split_ands; go_simp; done)
              try simp only [Act.put, List.setIfInBounds_toArray, List.set_cons_zero, List.set_cons_succ]
              refine wpAnyJ_take (i := 2) (oi := { dst := some 17, op := Go.Op.fieldAddr 65 (Go.Operand.tmp 16) 2, type := 0, pos := "bracket.go:109", after := #[{ on := 1, ground := Go.Ground.data }], guard := none }) (v := ?_) [3, 5, 6, 7, 8, 12, 27] rfl (by kernel_rfl) (by kernel_rfl) (by kernel_rfl) (by kernel_rfl) (by kernel_rfl) (fun _ _ _ h => h) (by first | exact hF | exact hF (by kernel_rfl)) (fun w hFw => ?_) (by rfl) ?_
              rotate_left
              · (try dsimp only at hFw)
                first | (go_simp; done) | (go_simp; with_reducible rfl) | (go_split_ands; go_simp; done)
              try simp only [Act.put, List.setIfInBounds_toArray, List.set_cons_zero, List.set_cons_succ]
              refine wpAnyJ_take (i := 3) (oi := { dst := some 18, op := Go.Op.load 22 (Go.Operand.tmp 17), type := 22, pos := "bracket.go:109", after := #[{ on := 2, ground := Go.Ground.data }], guard := none }) (v := ?_) [5, 6, 7, 8, 12, 27] rfl (by kernel_rfl) (by kernel_rfl) (by kernel_rfl) (by kernel_rfl) (by kernel_rfl) (fun _ _ _ h => h) (by first | exact hF | exact hF (by kernel_rfl)) (fun w hFw => ?_) (by rfl) ?_
              rotate_left
              · (try dsimp only at hFw)
                first | (go_simp; done) | (go_simp; with_reducible rfl) | (go_split_ands; go_simp; done)
              try simp only [Act.put, List.setIfInBounds_toArray, List.set_cons_zero, List.set_cons_succ]
              refine wpAnyJ_take (i := 4) (oi := { dst := some 19, op := Go.Op.move (Go.Operand.tmp 5), type := 3, pos := "bracket.go:109", after := #[], guard := none }) (v := ?_) [5, 6, 7, 8, 12, 27] rfl (by kernel_rfl) (by kernel_rfl) (by kernel_rfl) (by kernel_rfl) (by kernel_rfl) (fun _ _ _ h => h) (by first | exact hF | exact hF (by kernel_rfl)) (fun w hFw => ?_) (by rfl) ?_
              rotate_left
              · (try dsimp only at hFw)
                first | (go_simp; done) | (go_simp; with_reducible rfl) | (go_split_ands; go_simp; done)
              try simp only [Act.put, List.setIfInBounds_toArray, List.set_cons_zero, List.set_cons_succ]
              refine wpAnyJ_take (i := 5) (oi := { dst := some 20, op := Go.Op.indexAddr 22 (Go.Operand.tmp 18) (Go.Operand.tmp 19), type := 0, pos := "bracket.go:109", after := #[{ on := 3, ground := Go.Ground.data }, { on := 4, ground := Go.Ground.data }], guard := none }) (v := ?_) [6, 7, 8, 12, 27] rfl (by kernel_rfl) (by kernel_rfl) (by kernel_rfl) (by kernel_rfl) (by kernel_rfl) (fun _ _ _ h => h) (by first | exact hF | exact hF (by kernel_rfl)) (fun w hFw => ?_) (by rfl) ?_
              rotate_left
              · (try dsimp only at hFw)
                first | (go_simp; done) | (go_simp; with_reducible rfl) | (go_split_ands; go_simp; done)
              try simp only [Act.put, List.setIfInBounds_toArray, List.set_cons_zero, List.set_cons_succ]
              refine wpAnyJ_take (i := 6) (oi := { dst := some 21, op := Go.Op.load 3 (Go.Operand.tmp 20), type := 3, pos := "bracket.go:109", after := #[{ on := 5, ground := Go.Ground.data }], guard := none }) (v := ?_) [7, 8, 12, 27] rfl (by kernel_rfl) (by kernel_rfl) (by kernel_rfl) (by kernel_rfl) (by kernel_rfl) (fun _ _ _ h => h) (by first | exact hF | exact hF (by kernel_rfl)) (fun w hFw => ?_) (by rfl) ?_
              rotate_left
              · (try dsimp only at hFw)
                first | (go_simp; done) | (go_simp; with_reducible rfl) | (go_split_ands; go_simp; done)
              try simp only [Act.put, List.setIfInBounds_toArray, List.set_cons_zero, List.set_cons_succ]
              refine wpAnyJ_take (i := 7) (oi := { dst := some 22, op := Go.Op.binOp Go.BinOp.geq 3 (Go.Operand.tmp 21) (Go.Operand.const (Go.Value.int Go.IntKind.i64 0)) 3, type := 4, pos := "bracket.go:109", after := #[{ on := 6, ground := Go.Ground.data }], guard := none }) (v := ?_) [8, 12, 27] rfl (by kernel_rfl) (by kernel_rfl) (by kernel_rfl) (by kernel_rfl) (by kernel_rfl) (fun _ _ _ h => h) (by first | exact hF | exact hF (by kernel_rfl)) (fun w hFw => ?_) (by rfl) ?_
              rotate_left
              · (try dsimp only at hFw)
                first | (go_simp; done) | (go_simp; with_reducible rfl) | (go_split_ands; go_simp; done)
              try simp only [Act.put, List.setIfInBounds_toArray, List.set_cons_zero, List.set_cons_succ]
              refine wpAnyJ_take (i := 8) (oi := { dst := some 23, op := Go.Op.move (Go.Operand.tmp 22), type := 4, pos := "bracket.go:109", after := #[{ on := 7, ground := Go.Ground.data }], guard := none }) (v := ?_) [12, 27] rfl (by kernel_rfl) (by kernel_rfl) (by kernel_rfl) (by kernel_rfl) (by kernel_rfl) (fun _ _ _ h => h) (by first | exact hF | exact hF (by kernel_rfl)) (fun w hFw => ?_) (by rfl) ?_
              rotate_left
              · (try dsimp only at hFw)
                first | (go_simp; done) | (go_simp; with_reducible rfl) | (go_split_ands; go_simp; done)
              try simp only [Act.put, List.setIfInBounds_toArray, List.set_cons_zero, List.set_cons_succ]
              refine wpAnyJ_take (i := 9) (oi := { dst := some 24, op := Go.Op.move (Go.Operand.tmp 1), type := 3, pos := "bracket.go:109", after := #[{ on := 8, ground := Go.Ground.guard }], guard := some (8, true) }) (v := ?_) [10, 11, 12, 27] rfl (by kernel_rfl) (by kernel_rfl) (by kernel_rfl) (by kernel_rfl) (by kernel_rfl) (fun _ _ _ h => h) (by first | exact hF | exact hF (by kernel_rfl)) (fun w hFw => ?_) (by rfl) ?_
              rotate_left
              · (try dsimp only at hFw)
                first | (go_simp; done) | (go_simp; with_reducible rfl) | (go_split_ands; go_simp; done)
              try simp only [Act.put, List.setIfInBounds_toArray, List.set_cons_zero, List.set_cons_succ]
              refine wpAnyJ_take (i := 10) (oi := { dst := some 25, op := Go.Op.binOp Go.BinOp.gtr 3 (Go.Operand.tmp 24) (Go.Operand.const (Go.Value.int Go.IntKind.i64 0)) 3, type := 4, pos := "bracket.go:109", after := #[{ on := 9, ground := Go.Ground.data }, { on := 8, ground := Go.Ground.guard }], guard := some (8, true) }) (v := ?_) [11, 12, 27] rfl (by kernel_rfl) (by kernel_rfl) (by kernel_rfl) (by kernel_rfl) (by kernel_rfl) (fun _ _ _ h => h) (by first | exact hF | exact hF (by kernel_rfl)) (fun w hFw => ?_) (by rfl) ?_
              rotate_left
              · (try dsimp only at hFw)
                first | (go_simp; done) | (go_simp; with_reducible rfl) | (go_split_ands; go_simp; done)
              try simp only [Act.put, List.setIfInBounds_toArray, List.set_cons_zero, List.set_cons_succ]
              refine wpAnyJ_take (i := 11) (oi := { dst := some 26, op := Go.Op.pick (Go.Operand.tmp 23) (Go.Operand.tmp 25) (Go.Operand.const (Go.Value.bool false)), type := 4, pos := "bracket.go:109", after := #[{ on := 8, ground := Go.Ground.data }, { on := 10, ground := Go.Ground.data }], guard := none }) (v := ?_) [12, 27] rfl (by kernel_rfl) (by kernel_rfl) (by kernel_rfl) (by kernel_rfl) (by kernel_rfl) (fun _ _ _ h => h) (by first | exact hF | exact hF (by kernel_rfl)) (fun w hFw => ?_) (by rfl) ?_
              rotate_left
              · (try dsimp only at hFw)
                first | (go_simp; done) | (go_simp; with_reducible rfl) | (go_split_ands; go_simp; done)
              try simp only [Act.put, List.setIfInBounds_toArray, List.set_cons_zero, List.set_cons_succ]
              refine wpAnyJ_take (i := 12) (oi := { dst := some 27, op := Go.Op.move (Go.Operand.tmp 26), type := 4, pos := "bracket.go:109", after := #[{ on := 11, ground := Go.Ground.data }, { on := 8, ground := Go.Ground.chain }], guard := none }) (v := ?_) [27] rfl (by kernel_rfl) (by kernel_rfl) (by kernel_rfl) (by kernel_rfl) (by kernel_rfl) (fun _ _ _ h => h) (by first | exact hF | exact hF (by kernel_rfl)) (fun w hFw => ?_) (by rfl) ?_
              rotate_left
              · (try dsimp only at hFw)
                first | (go_simp; done) | (go_simp; with_reducible rfl) | (go_split_ands; go_simp; done)
              try simp only [Act.put, List.setIfInBounds_toArray, List.set_cons_zero, List.set_cons_succ]
              refine wpAnyJ_take (i := 13) (oi := { dst := some 28, op := Go.Op.move (Go.Operand.tmp 0), type := 38, pos := "bracket.go:109", after := #[{ on := 12, ground := Go.Ground.guard }], guard := some (12, true) }) (v := ?_) [15, 24, 26, 27] rfl (by kernel_rfl) (by kernel_rfl) (by kernel_rfl) (by kernel_rfl) (by kernel_rfl) (fun _ _ _ h => h) (by first | exact hF | exact hF (by kernel_rfl)) (fun w hFw => ?_) (by rfl) ?_
              rotate_left
              · (try dsimp only at hFw)
                first | (go_simp; done) | (go_simp; with_reducible rfl) | (go_split_ands; go_simp; done)
              try simp only [Act.put, List.setIfInBounds_toArray, List.set_cons_zero, List.set_cons_succ]
              refine wpAnyJ_take (i := 14) (oi := { dst := some 29, op := Go.Op.move (Go.Operand.tmp 5), type := 3, pos := "bracket.go:109", after := #[{ on := 12, ground := Go.Ground.guard }], guard := some (12, true) }) (v := ?_) [15, 24, 26, 27] rfl (by kernel_rfl) (by kernel_rfl) (by kernel_rfl) (by kernel_rfl) (by kernel_rfl) (fun _ _ _ h => h) (by first | exact hF | exact hF (by kernel_rfl)) (fun w hFw => ?_) (by rfl) ?_
              rotate_left
              · (try dsimp only at hFw)
                first | (go_simp; done) | (go_simp; with_reducible rfl) | (go_split_ands; go_simp; done)
              try simp only [Act.put, List.setIfInBounds_toArray, List.set_cons_zero, List.set_cons_succ]
              refine wpAnyJ_take (i := 16) (oi := { dst := some 31, op := Go.Op.move (Go.Operand.tmp 0), type := 38, pos := "bracket.go:109", after := #[{ on := 12, ground := Go.Ground.guard }], guard := some (12, true) }) (v := ?_) [17, 18, 19, 21, 22, 23, 24, 26, 27] rfl (by kernel_rfl) (by kernel_rfl) (by kernel_rfl) (by kernel_rfl) (by kernel_rfl) (fun _ _ _ h => h) (by first | exact hF | exact hF (by kernel_rfl)) (fun w hFw => ?_) (by rfl) ?_
              rotate_left
              · (try dsimp only at hFw)
                first | (go_simp; done) | (go_simp; with_reducible rfl) | (go_split_ands; go_simp; done)
              try simp only [Act.put, List.setIfInBounds_toArray, List.set_cons_zero, List.set_cons_succ]
              refine wpAnyJ_take (i := 17) (oi := { dst := some 32, op := Go.Op.nilCheck (Go.Operand.tmp 31), type := 0, pos := "bracket.go:109", after := #[{ on := 16, ground := Go.Ground.data }, { on := 12, ground := Go.Ground.guard }], guard := some (12, true) }) (v := ?_) [18, 19, 21, 22, 23, 24, 26, 27] rfl (by kernel_rfl) (by kernel_rfl) (by kernel_rfl) (by kernel_rfl) (by kernel_rfl) (fun _ _ _ h => h) (by first | exact hF | exact hF (by kernel_rfl)) (fun w hFw => ?_) (by rfl) ?_
              rotate_left
              · (try dsimp only at hFw)
                first | (go_simp; done) | (go_simp; with_reducible rfl) | (go_split_ands; go_simp; done)
              try simp only [Act.put, List.setIfInBounds_toArray, List.set_cons_zero, List.set_cons_succ]
              refine wpAnyJ_take (i := 18) (oi := { dst := some 33, op := Go.Op.fieldAddr 65 (Go.Operand.tmp 32) 2, type := 0, pos := "bracket.go:109", after := #[{ on := 17, ground := Go.Ground.data }, { on := 12, ground := Go.Ground.guard }], guard := some (12, true) }) (v := ?_) [19, 21, 22, 23, 24, 26, 27] rfl (by kernel_rfl) (by kernel_rfl) (by kernel_rfl) (by kernel_rfl) (by kernel_rfl) (fun _ _ _ h => h) (by first | exact hF | exact hF (by kernel_rfl)) (fun w hFw => ?_) (by rfl) ?_
              rotate_left
              · (try dsimp only at hFw)
                first | (go_simp; done) | (go_simp; with_reducible rfl) | (go_split_ands; go_simp; done)
              try simp only [Act.put, List.setIfInBounds_toArray, List.set_cons_zero, List.set_cons_succ]
              refine wpAnyJ_take (i := 19) (oi := { dst := some 34, op := Go.Op.load 22 (Go.Operand.tmp 33), type := 22, pos := "bracket.go:109", after := #[{ on := 18, ground := Go.Ground.data }, { on := 12, ground := Go.Ground.guard }], guard := some (12, true) }) (v := ?_) [21, 22, 23, 24, 26, 27] rfl (by kernel_rfl) (by kernel_rfl) (by kernel_rfl) (by kernel_rfl) (by kernel_rfl) (fun _ _ _ h => h) (by first | exact hF | exact hF (by kernel_rfl)) (fun w hFw => ?_) (by rfl) ?_
              rotate_left
              · (try dsimp only at hFw)
                first | (go_simp; done) | (go_simp; with_reducible rfl) | (go_split_ands; go_simp; done)
              try simp only [Act.put, List.setIfInBounds_toArray, List.set_cons_zero, List.set_cons_succ]
              refine wpAnyJ_take (i := 20) (oi := { dst := some 35, op := Go.Op.move (Go.Operand.tmp 5), type := 3, pos := "bracket.go:109", after := #[{ on := 12, ground := Go.Ground.guard }], guard := some (12, true) }) (v := ?_) [21, 22, 23, 24, 26, 27] rfl (by kernel_rfl) (by kernel_rfl) (by kernel_rfl) (by kernel_rfl) (by kernel_rfl) (fun _ _ _ h => h) (by first | exact hF | exact hF (by kernel_rfl)) (fun w hFw => ?_) (by rfl) ?_
              rotate_left
              · (try dsimp only at hFw)
                first | (go_simp; done) | (go_simp; with_reducible rfl) | (go_split_ands; go_simp; done)
              try simp only [Act.put, List.setIfInBounds_toArray, List.set_cons_zero, List.set_cons_succ]
              refine wpAnyJ_take (i := 21) (oi := { dst := some 36, op := Go.Op.indexAddr 22 (Go.Operand.tmp 34) (Go.Operand.tmp 35), type := 0, pos := "bracket.go:109", after := #[{ on := 19, ground := Go.Ground.data }, { on := 20, ground := Go.Ground.data }, { on := 12, ground := Go.Ground.guard }], guard := some (12, true) }) (v := ?_) [22, 23, 24, 26, 27] rfl (by kernel_rfl) (by kernel_rfl) (by kernel_rfl) (by kernel_rfl) (by kernel_rfl) (fun _ _ _ h => h) (by first | exact hF | exact hF (by kernel_rfl)) (fun w hFw => ?_) (by rfl) ?_
              rotate_left
              · (try dsimp only at hFw)
                first | (go_simp; done) | (go_simp; with_reducible rfl) | (go_split_ands; go_simp; done)
              try simp only [Act.put, List.setIfInBounds_toArray, List.set_cons_zero, List.set_cons_succ]
              refine wpAnyJ_take (i := 22) (oi := { dst := some 37, op := Go.Op.load 3 (Go.Operand.tmp 36), type := 3, pos := "bracket.go:109", after := #[{ on := 21, ground := Go.Ground.data }, { on := 12, ground := Go.Ground.guard }], guard := some (12, true) }) (v := ?_) [23, 24, 26, 27] rfl (by kernel_rfl) (by kernel_rfl) (by kernel_rfl) (by kernel_rfl) (by kernel_rfl) (fun _ _ _ h => h) (by first | exact hF | exact hF (by kernel_rfl)) (fun w hFw => ?_) (by rfl) ?_
              rotate_left
              · (try dsimp only at hFw)
                first | (go_simp; done) | (go_simp; with_reducible rfl) | (go_split_ands; go_simp; done)
              try simp only [Act.put, List.setIfInBounds_toArray, List.set_cons_zero, List.set_cons_succ]
              refine wpAnyJ_take (i := 23) (oi := { dst := some 38, op := Go.Op.binOp Go.BinOp.sub 3 (Go.Operand.const (Go.Value.int Go.IntKind.i64 1)) (Go.Operand.tmp 37) 3, type := 3, pos := "bracket.go:109", after := #[{ on := 22, ground := Go.Ground.data }, { on := 12, ground := Go.Ground.guard }], guard := some (12, true) }) (v := ?_) [24, 26, 27] rfl (by kernel_rfl) (by kernel_rfl) (by kernel_rfl) (by kernel_rfl) (by kernel_rfl) (fun _ _ _ h => h) (by first | exact hF | exact hF (by kernel_rfl)) (fun w hFw => ?_) (by rfl) ?_
              rotate_left
              · (try dsimp only at hFw)
                first | (go_simp; done) | (go_simp; with_reducible rfl) | (go_split_ands; go_simp; done)
              try simp only [Act.put, List.setIfInBounds_toArray, List.set_cons_zero, List.set_cons_succ]
              refine wpAnyJ_take (i := 25) (oi := { dst := some 40, op := Go.Op.move (Go.Operand.tmp 1), type := 3, pos := "bracket.go:109", after := #[{ on := 12, ground := Go.Ground.guard }], guard := some (12, true) }) (v := ?_) [26, 27] rfl (by kernel_rfl) (by kernel_rfl) (by kernel_rfl) (by kernel_rfl) (by kernel_rfl) (fun _ _ _ h => h) (by first | exact hF | exact hF (by kernel_rfl)) (fun w hFw => ?_) (by rfl) ?_
              rotate_left
              · (try dsimp only at hFw)
                first | (go_simp; done) | (go_simp; with_reducible rfl) | (go_split_ands; go_simp; done)
              try simp only [Act.put, List.setIfInBounds_toArray, List.set_cons_zero, List.set_cons_succ]
              refine wpAnyJ_ready (rs := [15]) (by kernel_rfl) (by simp) ?_
              refine AllJ.cons (o := { dst := some 30, op := Go.Op.call { callee := Go.Callee.value (Go.Operand.func 29), args := #[Go.Operand.tmp 28, Go.Operand.tmp 29], argTypes := #[38, 3] }, type := 32, pos := "bracket.go:109", after := #[{ on := 13, ground := Go.Ground.data }, { on := 14, ground := Go.Ground.data }, { on := 12, ground := Go.Ground.chain }, { on := 12, ground := Go.Ground.guard }], guard := some (12, true) }) rfl (fun Kr hKr => ?_) ?_
              · go_simp; go_at_call 29; refine (hse1.out _ _ (hw.after sd)).mono ?_; rintro e w1 ⟨rfl, hs1⟩
                have c2 := hs1.keepCell (w := wr.drew) c2
                have ck := hs1.keepCell (w := wr.drew) ck
                have sd := sd.trans hs1
                refine hKr.out _ _ (fun hJ => ?_) (fun hF => ?_)
                · first
                  | exact absurd hJ (by decide)
                  | (clear hJ; (try dsimp only); all_goals (exact ⟨c2, ck⟩))
                clear hKr
                try simp only [Act.put, List.setIfInBounds_toArray, List.set_cons_zero, List.set_cons_succ]
                refine wpAnyJ_take (i := 24) (oi := { dst := some 39, op := Go.Op.index 32 (Go.Operand.tmp 30) (Go.Operand.tmp 38), type := 3, pos := "bracket.go:109", after := #[{ on := 15, ground := Go.Ground.data }, { on := 23, ground := Go.Ground.data }, { on := 12, ground := Go.Ground.guard }], guard := some (12, true) }) (v := ?_) [26, 27] rfl (by kernel_rfl) (by kernel_rfl) (by kernel_rfl) (by kernel_rfl) (by kernel_rfl) (fun _ _ _ h => h) (by first | exact hF | exact hF (by kernel_rfl)) (fun w hFw => ?_) (by rfl) ?_
                rotate_left
                · (try dsimp only at hFw)
                  first | (go_simp; done) | (go_simp; with_reducible rfl) | (go_split_ands; go_simp; done)
                try simp only [Act.put, List.setIfInBounds_toArray, List.set_cons_zero, List.set_cons_succ]
                refine wpAnyJ_take (i := 26) (oi := { dst := some 41, op := Go.Op.binOp Go.BinOp.eql 3 (Go.Operand.tmp 39) (Go.Operand.tmp 40) 3, type := 4, pos := "bracket.go:109", after := #[{ on := 24, ground := Go.Ground.data }, { on := 25, ground := Go.Ground.data }, { on := 12, ground := Go.Ground.guard }], guard := some (12, true) }) (v := ?_) [27] rfl (by kernel_rfl) (by kernel_rfl) (by kernel_rfl) (by kernel_rfl) (by kernel_rfl) (fun _ _ _ h => h) (by first | exact hF | exact hF (by kernel_rfl)) (fun w hFw => ?_) (by rfl) ?_
                rotate_left
                · (try dsimp only at hFw)
                  first | (go_simp; done) | (go_simp; with_reducible rfl) | (go_split_ands; go_simp; done)
                try simp only [Act.put, List.setIfInBounds_toArray, List.set_cons_zero, List.set_cons_succ]
                refine wpAnyJ_ready (rs := [27]) (by kernel_rfl) (by simp) ?_
                refine AllJ.cons (o := { dst := some 42, op := Go.Op.pick (Go.Operand.tmp 27) (Go.Operand.tmp 41) (Go.Operand.const (Go.Value.bool false)), type := 4, pos := "bracket.go:109", after := #[{ on := 12, ground := Go.Ground.data }, { on := 26, ground := Go.Ground.data }], guard := none }) rfl (fun Kr hKr => ?_) ?_
                · go_simp
                  refine hKr.out _ _ (fun hJ => ?_) (fun hF => ?_)
                  · first
                    | exact absurd hJ (by decide)
                    | (clear hJ; (try dsimp only); all_goals (exact ⟨c2, ck⟩))
                  clear hKr
                  try simp only [Act.put, List.setIfInBounds_toArray, List.set_cons_zero, List.set_cons_succ]
                  refine wpAnyJ_done (by kernel_rfl) ?_ _
                  go_wp2_with fail
                  first
                  | (go_ret
                     have ho := hho.out.1 ⟨k, hX.out.2 (by simpa using hXs)⟩
                     exact ⟨by rw [ho]; rfl, sd⟩)
                  | (refine ⟨⟨k + 1, by omega, by go_num, ?_, sd⟩, by simp [intOf]; omega⟩
                     intro j hj
                     rcases Nat.lt_or_ge j k with h | h
                     · exact hno.out j h
                     · rw [show j = k by omega, hX.out]; simpa using hXs)
                exact AllJ.nil
              exact AllJ.nil
          ·
            rcases hXs with hXs | hXs
            all_goals
              go_wp2_with fail
              have sd := hs.drew
              refine wp_region_J 27 (fun w' => w'.cell? ⟨b, 2, none⟩ = some (.slice (some ⟨g2, 0, none⟩) W.length k2) ∧ w'.cell? ⟨g2, k, none⟩ = some (ii 1)) (by kernel_rfl) ?_ (fun hF => ?_)
              · (try dsimp only)
                all_goals (exact ⟨c2, ck⟩)
              refine wpAnyJ_take (i := 0) (oi := { dst := some 15, op := Go.Op.move (Go.Operand.tmp 0), type := 38, pos := "bracket.go:109", after := #[], guard := none }) (v := ?_) [1, 2, 3, 5, 6, 7, 8, 12, 27] rfl (by kernel_rfl) (by kernel_rfl) (by kernel_rfl) (by kernel_rfl) (by kernel_rfl) (fun _ _ _ h => h) (by first | exact hF | exact hF (by kernel_rfl)) (fun w hFw => ?_) (by rfl) ?_
              rotate_left
              · (try dsimp only at hFw)
                first | (go_simp; done) | (go_simp; with_reducible rfl) | (go_split_ands; go_simp; done)
              try simp only [Act.put, List.setIfInBounds_toArray, List.set_cons_zero, List.set_cons_succ]
              refine wpAnyJ_take (i := 1) (oi := { dst := some 16, op := Go.Op.nilCheck (Go.Operand.tmp 15), type := 0, pos := "bracket.go:109", after := #[{ on := 0, ground := Go.Ground.data }], guard := none }) (v := ?_) [2, 3, 5, 6, 7, 8, 12, 27] rfl (by kernel_rfl) (by kernel_rfl) (by kernel_rfl) (by kernel_rfl) (by kernel_rfl) (fun _ _ _ h => h) (by first | exact hF | exact hF (by kernel_rfl)) (fun w hFw => ?_) (by rfl) ?_
              rotate_left
              · (try dsimp only at hFw)
                first | (go_simp; done) | (go_simp; with_reducible rfl) | (go_split_ands; go_simp; done)
              try simp only [Act.put, List.setIfInBounds_toArray, List.set_cons_zero, List.set_cons_succ]
              refine wpAnyJ_take (i := 2) (oi := { dst := some 17, op := Go.Op.fieldAddr 65 (Go.Operand.tmp 16) 2, type := 0, pos := "bracket.go:109", after := #[{ on := 1, ground := Go.Ground.data }], guard := none }) (v := ?_) [3, 5, 6, 7, 8, 12, 27] rfl (by kernel_rfl) (by kernel_rfl) (by kernel_rfl) (by kernel_rfl) (by kernel_rfl) (fun _ _ _ h => h) (by first | exact hF | exact hF (by kernel_rfl)) (fun w hFw => ?_) (by rfl) ?_
              rotate_left
              · (try dsimp only at hFw)
                first | (go_simp; done) | (go_simp; with_reducible rfl) | (go_split_ands; go_simp; done)
              try simp only [Act.put, List.setIfInBounds_toArray, List.set_cons_zero, List.set_cons_succ]
              refine wpAnyJ_take (i := 3) (oi := { dst := some 18, op := Go.Op.load 22 (Go.Operand.tmp 17), type := 22, pos := "bracket.go:109", after := #[{ on := 2, ground := Go.Ground.data }], guard := none }) (v := ?_) [5, 6, 7, 8, 12, 27] rfl (by kernel_rfl) (by kernel_rfl) (by kernel_rfl) (by kernel_rfl) (by kernel_rfl) (fun _ _ _ h => h) (by first | exact hF | exact hF (by kernel_rfl)) (fun w hFw => ?_) (by rfl) ?_
              rotate_left
              · (try dsimp only at hFw)
                first | (go_simp; done) | (go_simp; with_reducible rfl) | (go_split_ands; go_simp; done)
              try simp only [Act.put, List.setIfInBounds_toArray, List.set_cons_zero, List.set_cons_succ]
              refine wpAnyJ_take (i := 4) (oi := { dst := some 19, op := Go.Op.move (Go.Operand.tmp 5), type := 3, pos := "bracket.go:109", after := #[], guard := none }) (v := ?_) [5, 6, 7, 8, 12, 27] rfl (by kernel_rfl) (by kernel_rfl) (by kernel_rfl) (by kernel_rfl) (by kernel_rfl) (fun _ _ _ h => h) (by first | exact hF | exact hF (by kernel_rfl)) (fun w hFw => ?_) (by rfl) ?_
              rotate_left
              · (try dsimp only at hFw)
                first | (go_simp; done) | (go_simp; with_reducible rfl) | (go_split_ands; go_simp; done)
              try simp only [Act.put, List.setIfInBounds_toArray, List.set_cons_zero, List.set_cons_succ]
              refine wpAnyJ_take (i := 5) (oi := { dst := some 20, op := Go.Op.indexAddr 22 (Go.Operand.tmp 18) (Go.Operand.tmp 19), type := 0, pos := "bracket.go:109", after := #[{ on := 3, ground := Go.Ground.data }, { on := 4, ground := Go.Ground.data }], guard := none }) (v := ?_) [6, 7, 8, 12, 27] rfl (by kernel_rfl) (by kernel_rfl) (by kernel_rfl) (by kernel_rfl) (by kernel_rfl) (fun _ _ _ h => h) (by first | exact hF | exact hF (by kernel_rfl)) (fun w hFw => ?_) (by rfl) ?_
              rotate_left
              · (try dsimp only at hFw)
                first | (go_simp; done) | (go_simp; with_reducible rfl) | (go_split_ands; go_simp; done)
              try simp only [Act.put, List.setIfInBounds_toArray, List.set_cons_zero, List.set_cons_succ]
              refine wpAnyJ_take (i := 6) (oi := { dst := some 21, op := Go.Op.load 3 (Go.Operand.tmp 20), type := 3, pos := "bracket.go:109", after := #[{ on := 5, ground := Go.Ground.data }], guard := none }) (v := ?_) [7, 8, 12, 27] rfl (by kernel_rfl) (by kernel_rfl) (by kernel_rfl) (by kernel_rfl) (by kernel_rfl) (fun _ _ _ h => h) (by first | exact hF | exact hF (by kernel_rfl)) (fun w hFw => ?_) (by rfl) ?_
              rotate_left
              · (try dsimp only at hFw)
                first | (go_simp; done) | (go_simp; with_reducible rfl) | (go_split_ands; go_simp; done)
              try simp only [Act.put, List.setIfInBounds_toArray, List.set_cons_zero, List.set_cons_succ]
              refine wpAnyJ_take (i := 7) (oi := { dst := some 22, op := Go.Op.binOp Go.BinOp.geq 3 (Go.Operand.tmp 21) (Go.Operand.const (Go.Value.int Go.IntKind.i64 0)) 3, type := 4, pos := "bracket.go:109", after := #[{ on := 6, ground := Go.Ground.data }], guard := none }) (v := ?_) [8, 12, 27] rfl (by kernel_rfl) (by kernel_rfl) (by kernel_rfl) (by kernel_rfl) (by kernel_rfl) (fun _ _ _ h => h) (by first | exact hF | exact hF (by kernel_rfl)) (fun w hFw => ?_) (by rfl) ?_
              rotate_left
              · (try dsimp only at hFw)
                first | (go_simp; done) | (go_simp; with_reducible rfl) | (go_split_ands; go_simp; done)
              try simp only [Act.put, List.setIfInBounds_toArray, List.set_cons_zero, List.set_cons_succ]
              refine wpAnyJ_take (i := 8) (oi := { dst := some 23, op := Go.Op.move (Go.Operand.tmp 22), type := 4, pos := "bracket.go:109", after := #[{ on := 7, ground := Go.Ground.data }], guard := none }) (v := ?_) [12, 27] rfl (by kernel_rfl) (by kernel_rfl) (by kernel_rfl) (by kernel_rfl) (by kernel_rfl) (fun _ _ _ h => h) (by first | exact hF | exact hF (by kernel_rfl)) (fun w hFw => ?_) (by rfl) ?_
              rotate_left
              · (try dsimp only at hFw)
                first | (go_simp; done) | (go_simp; with_reducible rfl) | (go_split_ands; go_simp; done)
              try simp only [Act.put, List.setIfInBounds_toArray, List.set_cons_zero, List.set_cons_succ]
              refine wpAnyJ_take (i := 9) (oi := { dst := some 24, op := Go.Op.move (Go.Operand.tmp 1), type := 3, pos := "bracket.go:109", after := #[{ on := 8, ground := Go.Ground.guard }], guard := some (8, true) }) (v := ?_) [10, 11, 12, 27] rfl (by kernel_rfl) (by kernel_rfl) (by kernel_rfl) (by kernel_rfl) (by kernel_rfl) (fun _ _ _ h => h) (by first | exact hF | exact hF (by kernel_rfl)) (fun w hFw => ?_) (by rfl) ?_
              rotate_left
              · (try dsimp only at hFw)
                first | (go_simp; done) | (go_simp; with_reducible rfl) | (go_split_ands; go_simp; done)
              try simp only [Act.put, List.setIfInBounds_toArray, List.set_cons_zero, List.set_cons_succ]
              refine wpAnyJ_take (i := 10) (oi := { dst := some 25, op := Go.Op.binOp Go.BinOp.gtr 3 (Go.Operand.tmp 24) (Go.Operand.const (Go.Value.int Go.IntKind.i64 0)) 3, type := 4, pos := "bracket.go:109", after := #[{ on := 9, ground := Go.Ground.data }, { on := 8, ground := Go.Ground.guard }], guard := some (8, true) }) (v := ?_) [11, 12, 27] rfl (by kernel_rfl) (by kernel_rfl) (by kernel_rfl) (by kernel_rfl) (by kernel_rfl) (fun _ _ _ h => h) (by first | exact hF | exact hF (by kernel_rfl)) (fun w hFw => ?_) (by rfl) ?_
              rotate_left
              · (try dsimp only at hFw)
                first | (go_simp; done) | (go_simp; with_reducible rfl) | (go_split_ands; go_simp; done)
              try simp only [Act.put, List.setIfInBounds_toArray, List.set_cons_zero, List.set_cons_succ]
              refine wpAnyJ_take (i := 11) (oi := { dst := some 26, op := Go.Op.pick (Go.Operand.tmp 23) (Go.Operand.tmp 25) (Go.Operand.const (Go.Value.bool false)), type := 4, pos := "bracket.go:109", after := #[{ on := 8, ground := Go.Ground.data }, { on := 10, ground := Go.Ground.data }], guard := none }) (v := ?_) [12, 27] rfl (by kernel_rfl) (by kernel_rfl) (by kernel_rfl) (by kernel_rfl) (by kernel_rfl) (fun _ _ _ h => h) (by first | exact hF | exact hF (by kernel_rfl)) (fun w hFw => ?_) (by rfl) ?_
              rotate_left
              · (try dsimp only at hFw)
                first | (go_simp; done) | (go_simp; with_reducible rfl) | (go_split_ands; go_simp; done)
              try simp only [Act.put, List.setIfInBounds_toArray, List.set_cons_zero, List.set_cons_succ]
              refine wpAnyJ_take (i := 12) (oi := { dst := some 27, op := Go.Op.move (Go.Operand.tmp 26), type := 4, pos := "bracket.go:109", after := #[{ on := 11, ground := Go.Ground.data }, { on := 8, ground := Go.Ground.chain }], guard := none }) (v := ?_) [27] rfl (by kernel_rfl) (by kernel_rfl) (by kernel_rfl) (by kernel_rfl) (by kernel_rfl) (fun _ _ _ h => h) (by first | exact hF | exact hF (by kernel_rfl)) (fun w hFw => ?_) (by rfl) ?_
              rotate_left
              · (try dsimp only at hFw)
                first | (go_simp; done) | (go_simp; with_reducible rfl) | (go_split_ands; go_simp; done)
              try simp only [Act.put, List.setIfInBounds_toArray, List.set_cons_zero, List.set_cons_succ]
              refine wpAnyJ_take (i := 13) (oi := { dst := some 28, op := Go.Op.move (Go.Operand.tmp 0), type := 38, pos := "bracket.go:109", after := #[{ on := 12, ground := Go.Ground.guard }], guard := some (12, true) }) (v := ?_) [15, 24, 26, 27] rfl (by kernel_rfl) (by kernel_rfl) (by kernel_rfl) (by kernel_rfl) (by kernel_rfl) (fun _ _ _ h => h) (by first | exact hF | exact hF (by kernel_rfl)) (fun w hFw => ?_) (by rfl) ?_
              rotate_left
              · (try dsimp only at hFw)
                first | (go_simp; done) | (go_simp; with_reducible rfl) | (go_split_ands; go_simp; done)
              try simp only [Act.put, List.setIfInBounds_toArray, List.set_cons_zero, List.set_cons_succ]
              refine wpAnyJ_take (i := 14) (oi := { dst := some 29, op := Go.Op.move (Go.Operand.tmp 5), type := 3, pos := "bracket.go:109", after := #[{ on := 12, ground := Go.Ground.guard }], guard := some (12, true) }) (v := ?_) [15, 24, 26, 27] rfl (by kernel_rfl) (by kernel_rfl) (by kernel_rfl) (by kernel_rfl) (by kernel_rfl) (fun _ _ _ h => h) (by first | exact hF | exact hF (by kernel_rfl)) (fun w hFw => ?_) (by rfl) ?_
              rotate_left
              · (try dsimp only at hFw)
                first | (go_simp; done) | (go_simp; with_reducible rfl) | (go_split_ands; go_simp; done)
              try simp only [Act.put, List.setIfInBounds_toArray, List.set_cons_zero, List.set_cons_succ]
              refine wpAnyJ_take (i := 16) (oi := { dst := some 31, op := Go.Op.move (Go.Operand.tmp 0), type := 38, pos := "bracket.go:109", after := #[{ on := 12, ground := Go.Ground.guard }], guard := some (12, true) }) (v := ?_) [17, 18, 19, 21, 22, 23, 24, 26, 27] rfl (by kernel_rfl) (by kernel_rfl) (by kernel_rfl) (by kernel_rfl) (by kernel_rfl) (fun _ _ _ h => h) (by first | exact hF | exact hF (by kernel_rfl)) (fun w hFw => ?_) (by rfl) ?_
              rotate_left
              · (try dsimp only at hFw)
                first | (go_simp; done) | (go_simp; with_reducible rfl) | (go_split_ands; go_simp; done)
              try simp only [Act.put, List.setIfInBounds_toArray, List.set_cons_zero, List.set_cons_succ]
              refine wpAnyJ_take (i := 17) (oi := { dst := some 32, op := Go.Op.nilCheck (Go.Operand.tmp 31), type := 0, pos := "bracket.go:109", after := #[{ on := 16, ground := Go.Ground.data }, { on := 12, ground := Go.Ground.guard }], guard := some (12, true) }) (v := ?_) [18, 19, 21, 22, 23, 24, 26, 27] rfl (by kernel_rfl) (by kernel_rfl) (by kernel_rfl) (by kernel_rfl) (by kernel_rfl) (fun _ _ _ h => h) (by first | exact hF | exact hF (by kernel_rfl)) (fun w hFw => ?_) (by rfl) ?_
              rotate_left
              · (try dsimp only at hFw)
                first | (go_simp; done) | (go_simp; with_reducible rfl) | (go_split_ands; go_simp; done)
              try simp only [Act.put, List.setIfInBounds_toArray, List.set_cons_zero, List.set_cons_succ]
              refine wpAnyJ_take (i := 18) (oi := { dst := some 33, op := Go.Op.fieldAddr 65 (Go.Operand.tmp 32) 2, type := 0, pos := "bracket.go:109", after := #[{ on := 17, ground := Go.Ground.data }, { on := 12, ground := Go.Ground.guard }], guard := some (12, true) }) (v := ?_) [19, 21, 22, 23, 24, 26, 27] rfl (by kernel_rfl) (by kernel_rfl) (by kernel_rfl) (by kernel_rfl) (by kernel_rfl) (fun _ _ _ h => h) (by first | exact hF | exact hF (by kernel_rfl)) (fun w hFw => ?_) (by rfl) ?_
              rotate_left
              · (try dsimp only at hFw)
                first | (go_simp; done) | (go_simp; with_reducible rfl) | (go_split_ands; go_simp; done)
              try simp only [Act.put, List.setIfInBounds_toArray, List.set_cons_zero, List.set_cons_succ]
              refine wpAnyJ_take (i := 19) (oi := { dst := some 34, op := Go.Op.load 22 (Go.Operand.tmp 33), type := 22, pos := "bracket.go:109", after := #[{ on := 18, ground := Go.Ground.data }, { on := 12, ground := Go.Ground.guard }], guard := some (12, true) }) (v := ?_) [21, 22, 23, 24, 26, 27] rfl (by kernel_rfl) (by kernel_rfl) (by kernel_rfl) (by kernel_rfl) (by kernel_rfl) (fun _ _ _ h => h) (by first | exact hF | exact hF (by kernel_rfl)) (fun w hFw => ?_) (by rfl) ?_
              rotate_left
              · (try dsimp only at hFw)
                first | (go_simp; done) | (go_simp; with_reducible rfl) | (go_split_ands; go_simp; done)
              try simp only [Act.put, List.setIfInBounds_toArray, List.set_cons_zero, List.set_cons_succ]
              refine wpAnyJ_take (i := 20) (oi := { dst := some 35, op := Go.Op.move (Go.Operand.tmp 5), type := 3, pos := "bracket.go:109", after := #[{ on := 12, ground := Go.Ground.guard }], guard := some (12, true) }) (v := ?_) [21, 22, 23, 24, 26, 27] rfl (by kernel_rfl) (by kernel_rfl) (by kernel_rfl) (by kernel_rfl) (by kernel_rfl) (fun _ _ _ h => h) (by first | exact hF | exact hF (by kernel_rfl)) (fun w hFw => ?_) (by rfl) ?_
              rotate_left
              · (try dsimp only at hFw)
                first | (go_simp; done) | (go_simp; with_reducible rfl) | (go_split_ands; go_simp; done)
              try simp only [Act.put, List.setIfInBounds_toArray, List.set_cons_zero, List.set_cons_succ]
              refine wpAnyJ_take (i := 21) (oi := { dst := some 36, op := Go.Op.indexAddr 22 (Go.Operand.tmp 34) (Go.Operand.tmp 35), type := 0, pos := "bracket.go:109", after := #[{ on := 19, ground := Go.Ground.data }, { on := 20, ground := Go.Ground.data }, { on := 12, ground := Go.Ground.guard }], guard := some (12, true) }) (v := ?_) [22, 23, 24, 26, 27] rfl (by kernel_rfl) (by kernel_rfl) (by kernel_rfl) (by kernel_rfl) (by kernel_rfl) (fun _ _ _ h => h) (by first | exact hF | exact hF (by kernel_rfl)) (fun w hFw => ?_) (by rfl) ?_
              rotate_left
              · (try dsimp only at hFw)
                first | (go_simp; done) | (go_simp; with_reducible rfl) | (go_split_ands; go_simp; done)
              try simp only [Act.put, List.setIfInBounds_toArray, List.set_cons_zero, List.set_cons_succ]
              refine wpAnyJ_take (i := 22) (oi := { dst := some 37, op := Go.Op.load 3 (Go.Operand.tmp 36), type := 3, pos := "bracket.go:109", after := #[{ on := 21, ground := Go.Ground.data }, { on := 12, ground := Go.Ground.guard }], guard := some (12, true) }) (v := ?_) [23, 24, 26, 27] rfl (by kernel_rfl) (by kernel_rfl) (by kernel_rfl) (by kernel_rfl) (by kernel_rfl) (fun _ _ _ h => h) (by first | exact hF | exact hF (by kernel_rfl)) (fun w hFw => ?_) (by rfl) ?_
              rotate_left
              · (try dsimp only at hFw)
                first | (go_simp; done) | (go_simp; with_reducible rfl) | (go_split_ands; go_simp; done)
              try simp only [Act.put, List.setIfInBounds_toArray, List.set_cons_zero, List.set_cons_succ]
              refine wpAnyJ_take (i := 23) (oi := { dst := some 38, op := Go.Op.binOp Go.BinOp.sub 3 (Go.Operand.const (Go.Value.int Go.IntKind.i64 1)) (Go.Operand.tmp 37) 3, type := 3, pos := "bracket.go:109", after := #[{ on := 22, ground := Go.Ground.data }, { on := 12, ground := Go.Ground.guard }], guard := some (12, true) }) (v := ?_) [24, 26, 27] rfl (by kernel_rfl) (by kernel_rfl) (by kernel_rfl) (by kernel_rfl) (by kernel_rfl) (fun _ _ _ h => h) (by first | exact hF | exact hF (by kernel_rfl)) (fun w hFw => ?_) (by rfl) ?_
              rotate_left
              · (try dsimp only at hFw)
                first | (go_simp; done) | (go_simp; with_reducible rfl) | (go_split_ands; go_simp; done)
              try simp only [Act.put, List.setIfInBounds_toArray, List.set_cons_zero, List.set_cons_succ]
              refine wpAnyJ_take (i := 25) (oi := { dst := some 40, op := Go.Op.move (Go.Operand.tmp 1), type := 3, pos := "bracket.go:109", after := #[{ on := 12, ground := Go.Ground.guard }], guard := some (12, true) }) (v := ?_) [26, 27] rfl (by kernel_rfl) (by kernel_rfl) (by kernel_rfl) (by kernel_rfl) (by kernel_rfl) (fun _ _ _ h => h) (by first | exact hF | exact hF (by kernel_rfl)) (fun w hFw => ?_) (by rfl) ?_
              rotate_left
              · (try dsimp only at hFw)
                first | (go_simp; done) | (go_simp; with_reducible rfl) | (go_split_ands; go_simp; done)
              try simp only [Act.put, List.setIfInBounds_toArray, List.set_cons_zero, List.set_cons_succ]
              refine wpAnyJ_ready (rs := [15]) (by kernel_rfl) (by simp) ?_
              refine AllJ.cons (o := { dst := some 30, op := Go.Op.call { callee := Go.Callee.value (Go.Operand.func 29), args := #[Go.Operand.tmp 28, Go.Operand.tmp 29], argTypes := #[38, 3] }, type := 32, pos := "bracket.go:109", after := #[{ on := 13, ground := Go.Ground.data }, { on := 14, ground := Go.Ground.data }, { on := 12, ground := Go.Ground.chain }, { on := 12, ground := Go.Ground.guard }], guard := some (12, true) }) rfl (fun Kr hKr => ?_) ?_
              · go_simp; go_at_call 29; refine (hse1.out _ _ (hw.after sd)).mono ?_; rintro e w1 ⟨rfl, hs1⟩
                have c2 := hs1.keepCell (w := wr.drew) c2
                have ck := hs1.keepCell (w := wr.drew) ck
                have sd := sd.trans hs1
                refine hKr.out _ _ (fun hJ => ?_) (fun hF => ?_)
                · first
                  | exact absurd hJ (by decide)
                  | (clear hJ; (try dsimp only); all_goals (exact ⟨c2, ck⟩))
                clear hKr
                try simp only [Act.put, List.setIfInBounds_toArray, List.set_cons_zero, List.set_cons_succ]
                refine wpAnyJ_take (i := 24) (oi := { dst := some 39, op := Go.Op.index 32 (Go.Operand.tmp 30) (Go.Operand.tmp 38), type := 3, pos := "bracket.go:109", after := #[{ on := 15, ground := Go.Ground.data }, { on := 23, ground := Go.Ground.data }, { on := 12, ground := Go.Ground.guard }], guard := some (12, true) }) (v := ?_) [26, 27] rfl (by kernel_rfl) (by kernel_rfl) (by kernel_rfl) (by kernel_rfl) (by kernel_rfl) (fun _ _ _ h => h) (by first | exact hF | exact hF (by kernel_rfl)) (fun w hFw => ?_) (by rfl) ?_
                rotate_left
                · (try dsimp only at hFw)
                  first | (go_simp; done) | (go_simp; with_reducible rfl) | (go_split_ands; go_simp; done)
                try simp only [Act.put, List.setIfInBounds_toArray, List.set_cons_zero, List.set_cons_succ]
                refine wpAnyJ_take (i := 26) (oi := { dst := some 41, op := Go.Op.binOp Go.BinOp.eql 3 (Go.Operand.tmp 39) (Go.Operand.tmp 40) 3, type := 4, pos := "bracket.go:109", after := #[{ on := 24, ground := Go.Ground.data }, { on := 25, ground := Go.Ground.data }, { on := 12, ground := Go.Ground.guard }], guard := some (12, true) }) (v := ?_) [27] rfl (by kernel_rfl) (by kernel_rfl) (by kernel_rfl) (by kernel_rfl) (by kernel_rfl) (fun _ _ _ h => h) (by first | exact hF | exact hF (by kernel_rfl)) (fun w hFw => ?_) (by rfl) ?_
                rotate_left
                · (try dsimp only at hFw)
                  first | (go_simp; done) | (go_simp; with_reducible rfl) | (go_split_ands; go_simp; done)
                try simp only [Act.put, List.setIfInBounds_toArray, List.set_cons_zero, List.set_cons_succ]
                refine wpAnyJ_ready (rs := [27]) (by kernel_rfl) (by simp) ?_
                refine AllJ.cons (o := { dst := some 42, op := Go.Op.pick (Go.Operand.tmp 27) (Go.Operand.tmp 41) (Go.Operand.const (Go.Value.bool false)), type := 4, pos := "bracket.go:109", after := #[{ on := 12, ground := Go.Ground.data }, { on := 26, ground := Go.Ground.data }], guard := none }) rfl (fun Kr hKr => ?_) ?_
                · go_simp
                  refine hKr.out _ _ (fun hJ => ?_) (fun hF => ?_)
                  · first
                    | exact absurd hJ (by decide)
                    | (clear hJ; (try dsimp only); all_goals (exact ⟨c2, ck⟩))
                  clear hKr
                  try simp only [Act.put, List.setIfInBounds_toArray, List.set_cons_zero, List.set_cons_succ]
                  refine wpAnyJ_done (by kernel_rfl) ?_ _
                  go_wp2_with fail
                  first
                  | (go_ret
                     have ho := hho.out.1 ⟨k, hX.out.2 (by simpa using hXs)⟩
                     exact ⟨by rw [ho]; rfl, sd⟩)
                  | (refine ⟨⟨k + 1, by omega, by go_num, ?_, sd⟩, by simp [intOf]; omega⟩
                     intro j hj
                     rcases Nat.lt_or_ge j k with h | h
                     · exact hno.out j h
                     · rw [show j = k by omega, hX.out]; simpa using hXs)
                exact AllJ.nil
              exact AllJ.nil
        · have g2' : decide (0 ≤ q) = true := decide_eq_true g0
          have g3 : decide (0 < s) = false := decide_eq_false g1
          go_wp2_with fail
          go_quiet (fail)
          go_wp2_with fail
          refine ⟨⟨k + 1, by omega, by go_num, ?_, hs.drewN _⟩, by simp [intOf]; omega⟩
          intro j hj
          rcases Nat.lt_or_ge j k with h | h
          · exact hno.out j h
          · rw [show j = k by omega, hhit.out]; omega
      · have g2' : decide (0 ≤ q) = false := decide_eq_false g0
        go_wp2_with fail
        go_quiet (fail)
        go_wp2_with fail
        refine ⟨⟨k + 1, by omega, by go_num, ?_, hs.drewN _⟩, by simp [intOf]; omega⟩
        intro j hj
        rcases Nat.lt_or_ge j k with h | h
        · exact hno.out j h
        · rw [show j = k by omega, hhit.out]; omega
    · have hkl : k = B.ms.length := by omega
      have d2 : (W.length : Int) ≤ (k : Int) := by have := hwl.out; omega
      obtain ⟨a1, k1, a2, k2, c0, c1, c2⟩ := hwr.lens
      have hn : B.isOut s = false := by
        cases h : B.isOut s
        · rfl
        · obtain ⟨j, hj⟩ := hho.out.2 h
          have : j < B.ms.length := by
            obtain ⟨m, _, hm, _⟩ := hj
            exact (List.getElem?_eq_some_iff.1 hm).1
          exact absurd hj (hno.out j (by omega))
      replace hkl := Lib.hid hkl
      clear hwr
      replace hn := Lib.hid hn
      go_wp2_with fail
      go_ret
      exact ⟨by rw [hn.out]; rfl, hs⟩
end Go.Proofs.Ytdkjgkbddehaiaa
