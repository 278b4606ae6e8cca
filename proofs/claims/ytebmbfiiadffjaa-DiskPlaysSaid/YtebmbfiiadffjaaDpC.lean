/- DiskPlays: a step in both disks. -/
import Derived.Test.YtebmbfiiadffjaaDpA
import Derived.Test.YtebmbfiiadffjaaDrM
import Derived.Test.YtebmbfiiadffjaaDrL
import Derived.Test.YtebmbfiiadffjaaDrH
import Derived.Test.YtebmbfiiadffjaaDkRows
namespace Go.Proofs.Ytebmbfiiadffjaa
open Go.RowKit
attribute [local go_sem ↓] Go.wp_at_zero Go.wp_at_succ

def Stq.big (W : World) (x : Stq) : Prop := RdBytes W x.ba x.bn x.bc x.d ∧ x.d.length ≤ 140737488351232 ∧ x.n ≤ 9223372036854775807
def DoesPost (d r : Nat) (k : Dk) (w0 : World) (e : Ending) (w' : World) : Prop :=
  e = .returned (.bool true) ∧ ∃ H1 H2, DkRep d k H1 ∧ RkRep r k H2 ∧ Sp w0 [] w' [H1, H2]
theorem rd_old {w w' : World} {a : Option Addr} {n c : Nat} {l : List UInt8} (h : RdBytes w a n c l) {Hs : List Heaplet} (s : Sp w [] w' Hs) : RdBytes w' a n c l := h.later' (s.out rfl) (fun _ _ _ => by simp [dom])
theorem rd_outq {w w' : World} {a : Option Addr} {n c : Nat} {l : List UInt8} (h : RdBytes w a n c l) {Hs : List Heaplet} (s : Sp w [] w' Hs) {q : Nat} {G : Heaplet} (hq : Hs[q]? = some G) : l ≠ [] → ∀ x, a = some x → x.block ∉ dom G := fun hne x hx hd => by
  obtain ⟨b, off, ha, _, _, hc⟩ := h.place hne
  rw [ha] at hx
  cases hx
  have h1 := World.block_lt_of_cell? w _ (hc 0 (List.length_pos_iff.2 hne))
  have h2 := s.news hq _ hd
  exact absurd h2 (Nat.not_le.2 h1)
theorem room_rd {g c : Nat} {d : List UInt8} {H : Heaplet} {w : World} (hr : SlRep 5 1 (some ⟨g, 0, none⟩) (d.length + 2) c (d.map u8 ++ [.int .u8 171, .int .u8 171]) H) (hw : Own w H) : RdBytes w (some ⟨g, 0, none⟩) d.length c d :=
  SlRep.rdBytes (H := H) (by
    have q := SlRep.upto hr (i := d.length) (by omega)
    rw [Nat.mul_one, List.take_append_of_le_length (by simp), List.take_of_length_le (by simp)] at q
    exact q) hw
theorem room_dom {g c n : Nat} {xs : List Value} {H : Heaplet} (hr : SlRep 5 1 (some ⟨g, 0, none⟩) n c xs H) : g ∈ dom H := by
  obtain ⟨_, ⟨h, _⟩ | ⟨g', cur, e, rfl, _⟩⟩ := hr
  · cases h
  · cases e; simp [dom]
theorem Sp.apart03 {w W : World} {A B C D : Heaplet} (s : Sp w [] W [A, B, C, D]) {x : Nat} (h : x ∈ dom A) (h' : x ∈ dom D) : False := by
  have o : Own W ([A, B, C, D].flatten) := Step.own s
  simp only [List.flatten_cons, List.flatten_nil, List.append_nil] at o
  have := o.apart x h
  simp only [dom_append, List.mem_append, not_or] at this
  exact this.2.2 h'
theorem box6 {w : World} {xb : Nat} {x : Stq} (h : Own w [(xb, .cells (stqCells x).toArray 50 (0, 0))]) :
    w.cell? ⟨xb, 0, none⟩ = some (ii x.kind) ∧ w.cell? ⟨xb, 1, none⟩ = some (ii x.n) ∧ w.cell? ⟨xb, 2, none⟩ = some (strV x.a) ∧ w.cell? ⟨xb, 3, none⟩ = some (strV x.b) ∧ w.cell? ⟨xb, 4, none⟩ = some (.slice x.ba x.bn x.bc) ∧ w.cell? ⟨xb, 5, none⟩ = some (u8 x.tear) := by
  have h0 := h.h0
  exact ⟨cell_of h0 rfl, cell_of h0 rfl, cell_of h0 rfl, cell_of h0 rfl, cell_of h0 rfl, cell_of h0 rfl⟩
set_option maxHeartbeats 4000000 in
set_option maxRecDepth 100000 in
theorem does_sync (d r : Nat) (k : Dk) (x : Stq) (H1 H2 : Heaplet) (w0 w : World) (hK : x.kind = 2) (h1 : DkRep d k H1) (h2 : RkRep r k H2) (hk : k.Ok) (s : Sp w0 [] w [H1, H2]) (hx : x.big w0) :
    Calls Try.prog 26 #[pt d, pt r, .agg (stqCells x).toArray] w (DoesPost d r (stepN x k) w0) := by
  obtain ⟨kind, n, a, b, ba, bn, bc, xd, tear⟩ := x
  simp only at hK
  obtain ⟨hrd, hdl, hn⟩ := hx
  simp only at hrd hdl hn
  subst hK
  obtain ⟨⟨m, k'⟩, hv⟩ : ∃ v, v = gateN [a] (syI a) k := ⟨_, rfl⟩
  have hst : stepN ⟨2, n, a, b, ba, bn, bc, xd, tear⟩ k = k' := by show (gateN [a] (syI a) k).2 = _; rw [← hv]
  rw [hst]
  have p1 := Lib.hid (fun W hW => dsync d k H1 a W h1 hk hW)
  have p2 := Lib.hid (fun W hW => rsync r k H2 a W h2 hk hW)
  rw [← hv] at p1 p2
  replace hv := Lib.hid hv
  clear hst h1 h2 hk
  have q1 : ((m : Int) == (m : Int)) = true := by simp
  go_enter Try.func26, Try.ntmps26
  go_upto_region 1 with fail
  have s : Sp w0 [] _ [H1, H2, [(w.heap.size, .cells (stqCells ⟨2, n, a, b, ba, bn, bc, xd, tear⟩).toArray 50 (0, 0))]] := s.alloc _
  simp only [stqCells] at s ⊢
  generalize w.heap.size = xb at s ⊢
  refine Sp.gen s ?_
  clear s
  intro w s
  obtain ⟨y0, y1, y2, y3, y4, y5⟩ := box6 (x := ⟨2, n, a, b, ba, bn, bc, xd, tear⟩) (s.own 2 rfl)
  simp only at y0 y1 y2 y3 y4 y5
  have xlt := heap_lt (s.own 2 rfl).h0
  go_upto_region 13 with fail
  clear y0 y4 y5 xlt
  replace s := s.drew
  refine wp_region_J 9 (fun w' => w'.cell? ⟨xb, 2, none⟩ = some (strV a)) (by kernel_rfl) ?_ (fun hF => ?_)
  · (try dsimp only)
    all_goals (exact (by have q := box6 (x := ⟨2, n, a, b, ba, bn, bc, xd, tear⟩) (s.own 2 rfl); exact q.2.2.1))
  refine wpAnyJ_take0 (i := 0) (oi := { dst := some 73, op := Go.Op.move (Go.Operand.tmp 0), type := 25, pos := "law.go:100", after := #[], guard := none }) (v := ?_) rfl (by kernel_rfl) (by kernel_rfl) (by kernel_rfl) (by kernel_rfl) (fun _ _ _ h => h) (by first | exact fun _ => hF | exact fun _ => hF (by kernel_rfl)) (fun w => ?_) (by rfl) ?_
  rotate_left
  · first | (go_simp; done) | (go_simp; with_reducible rfl) | (go_split_ands; go_simp; done)
  try simp only [Act.put, List.setIfInBounds_toArray, List.set_cons_zero, List.set_cons_succ]
  refine wpAnyJ_take0 (i := 1) (oi := { dst := some 74, op := Go.Op.fieldAddr 50 (Go.Operand.tmp 5) 2, type := 0, pos := "law.go:100", after := #[], guard := none }) (v := ?_) rfl (by kernel_rfl) (by kernel_rfl) (by kernel_rfl) (by kernel_rfl) (fun _ _ _ h => h) (by first | exact fun _ => hF | exact fun _ => hF (by kernel_rfl)) (fun w => ?_) (by rfl) ?_
  rotate_left
  · first | (go_simp; done) | (go_simp; with_reducible rfl) | (go_split_ands; go_simp; done)
  try simp only [Act.put, List.setIfInBounds_toArray, List.set_cons_zero, List.set_cons_succ]
  refine wpAnyJ_take (i := 2) (oi := { dst := some 75, op := Go.Op.load 9 (Go.Operand.tmp 74), type := 9, pos := "law.go:100", after := #[{ on := 1, ground := Go.Ground.data }], guard := none }) (v := ?_) [9] rfl (by kernel_rfl) (by kernel_rfl) (by kernel_rfl) (by kernel_rfl) (by kernel_rfl) (fun _ _ _ h => h) (by first | exact hF | exact hF (by kernel_rfl)) (fun w hFw => ?_) (by rfl) ?_
  rotate_left
  · ((try dsimp only at hFw); first | (go_simp; done) | (go_simp; with_reducible rfl) | (go_split_ands; go_simp; done))
  try simp only [Act.put, List.setIfInBounds_toArray, List.set_cons_zero, List.set_cons_succ]
  refine wpAnyJ_take0 (i := 4) (oi := { dst := some 77, op := Go.Op.move (Go.Operand.tmp 1), type := 46, pos := "law.go:100", after := #[], guard := none }) (v := ?_) rfl (by kernel_rfl) (by kernel_rfl) (by kernel_rfl) (by kernel_rfl) (fun _ _ _ h => h) (by first | exact fun _ => hF | exact fun _ => hF (by kernel_rfl)) (fun w => ?_) (by rfl) ?_
  rotate_left
  · first | (go_simp; done) | (go_simp; with_reducible rfl) | (go_split_ands; go_simp; done)
  try simp only [Act.put, List.setIfInBounds_toArray, List.set_cons_zero, List.set_cons_succ]
  refine wpAnyJ_take0 (i := 5) (oi := { dst := some 78, op := Go.Op.fieldAddr 50 (Go.Operand.tmp 5) 2, type := 0, pos := "law.go:100", after := #[], guard := none }) (v := ?_) rfl (by kernel_rfl) (by kernel_rfl) (by kernel_rfl) (by kernel_rfl) (fun _ _ _ h => h) (by first | exact fun _ => hF | exact fun _ => hF (by kernel_rfl)) (fun w => ?_) (by rfl) ?_
  rotate_left
  · first | (go_simp; done) | (go_simp; with_reducible rfl) | (go_split_ands; go_simp; done)
  try simp only [Act.put, List.setIfInBounds_toArray, List.set_cons_zero, List.set_cons_succ]
  refine wpAnyJ_take (i := 6) (oi := { dst := some 79, op := Go.Op.load 9 (Go.Operand.tmp 78), type := 9, pos := "law.go:100", after := #[{ on := 5, ground := Go.Ground.data }], guard := none }) (v := ?_) [9] rfl (by kernel_rfl) (by kernel_rfl) (by kernel_rfl) (by kernel_rfl) (by kernel_rfl) (fun _ _ _ h => h) (by first | exact hF | exact hF (by kernel_rfl)) (fun w hFw => ?_) (by rfl) ?_
  rotate_left
  · ((try dsimp only at hFw); first | (go_simp; done) | (go_simp; with_reducible rfl) | (go_split_ands; go_simp; done))
  try simp only [Act.put, List.setIfInBounds_toArray, List.set_cons_zero, List.set_cons_succ]
  refine wpAnyJ_ready (rs := [3]) (by kernel_rfl) (by simp) ?_
  refine AllJ.cons (o := { dst := some 76, op := Go.Op.call { callee := Go.Callee.value (Go.Operand.func 12), args := #[Go.Operand.tmp 73, Go.Operand.tmp 75], argTypes := #[25, 9] }, type := 26, pos := "law.go:100", after := #[{ on := 0, ground := Go.Ground.data }, { on := 2, ground := Go.Ground.data }], guard := none }) rfl (fun Kr hKr => ?_) ?_
  · go_simp; go_at_call 12; refine (p1.out _ (s.own 0 rfl)).mono ?_; rintro e w4 ⟨rfl, H1', h1', hst⟩
    have s : Sp w0 [] w4 [H1', H2, _] := s.put 0 rfl hst
    refine hKr.out _ _ (fun hJ => ?_) (fun hF => ?_)
    · first
      | exact absurd hJ (by decide)
      | (clear hJ; (try dsimp only); all_goals (exact (by have q := box6 (x := ⟨2, n, a, b, ba, bn, bc, xd, tear⟩) (s.own 2 rfl); exact q.2.2.1)))
    clear hKr
    try simp only [Act.put, List.setIfInBounds_toArray, List.set_cons_zero, List.set_cons_succ]
    refine wpAnyJ_ready (rs := [7]) (by kernel_rfl) (by simp) ?_
    refine AllJ.cons (o := { dst := some 80, op := Go.Op.call { callee := Go.Callee.value (Go.Operand.func 41), args := #[Go.Operand.tmp 77, Go.Operand.tmp 79], argTypes := #[46, 9] }, type := 3, pos := "law.go:100", after := #[{ on := 4, ground := Go.Ground.data }, { on := 6, ground := Go.Ground.data }, { on := 3, ground := Go.Ground.chain }], guard := none }) rfl (fun Kr hKr => ?_) ?_
    · go_simp; go_at_call 41; refine (p2.out _ (s.own 1 rfl)).mono ?_; rintro e w5 ⟨rfl, H2', h2', hst2⟩
      have s : Sp w0 [] w5 [H1', H2', _] := s.put 1 rfl hst2
      refine hKr.out _ _ (fun hJ => ?_) (fun hF => ?_)
      · first
        | exact absurd hJ (by decide)
        | (clear hJ; (try dsimp only); all_goals (exact (by have q := box6 (x := ⟨2, n, a, b, ba, bn, bc, xd, tear⟩) (s.own 2 rfl); exact q.2.2.1)))
      clear hKr
      try simp only [Act.put, List.setIfInBounds_toArray, List.set_cons_zero, List.set_cons_succ]
      refine wpAnyJ_take0 (i := 8) (oi := { dst := some 81, op := Go.Op.binOp Go.BinOp.eql 3 (Go.Operand.tmp 76) (Go.Operand.tmp 80) 3, type := 4, pos := "law.go:100", after := #[{ on := 3, ground := Go.Ground.data }, { on := 7, ground := Go.Ground.data }], guard := none }) (v := ?_) rfl (by kernel_rfl) (by kernel_rfl) (by kernel_rfl) (by kernel_rfl) (fun _ _ _ h => h) (by first | exact fun _ => hF | exact fun _ => hF (by kernel_rfl)) (fun w => ?_) (by rfl) ?_
      rotate_left
      · first | (go_simp; done) | (go_simp; with_reducible rfl) | (go_split_ands; go_simp; done)
      try simp only [Act.put, List.setIfInBounds_toArray, List.set_cons_zero, List.set_cons_succ]
      refine wpAnyJ_ready (rs := [9]) (by kernel_rfl) (by simp) ?_
      refine AllJ.cons (o := { dst := some 6, op := Go.Op.assign (Go.Operand.tmp 81), type := 4, pos := "law.go:100", after := #[{ on := 8, ground := Go.Ground.data }, { on := 7, ground := Go.Ground.chain }, { on := 0, ground := Go.Ground.phase }, { on := 1, ground := Go.Ground.phase }, { on := 2, ground := Go.Ground.phase }, { on := 3, ground := Go.Ground.phase }, { on := 4, ground := Go.Ground.phase }, { on := 5, ground := Go.Ground.phase }, { on := 6, ground := Go.Ground.phase }, { on := 7, ground := Go.Ground.phase }, { on := 8, ground := Go.Ground.phase }], guard := none }) rfl (fun Kr hKr => ?_) ?_
      · go_simp
        refine hKr.out _ _ (fun hJ => ?_) (fun hF => ?_)
        · first
          | exact absurd hJ (by decide)
          | (clear hJ; (try dsimp only); all_goals (exact (by have q := box6 (x := ⟨2, n, a, b, ba, bn, bc, xd, tear⟩) (s.own 2 rfl); exact q.2.2.1)))
        clear hKr
        try simp only [Act.put, List.setIfInBounds_toArray, List.set_cons_zero, List.set_cons_succ]
        refine wpAnyJ_done (by kernel_rfl) ?_ _
        go_wp2_with fail
        go_ret
        exact ⟨rfl, H1', H2', h1', h2', (s.forget 2 rfl).out (by simp)⟩
      exact AllJ.nil
    exact AllJ.nil
  exact AllJ.nil
set_option maxHeartbeats 4000000 in
set_option maxRecDepth 100000 in
theorem does_cut (d r : Nat) (k : Dk) (x : Stq) (H1 H2 : Heaplet) (w0 w : World) (hK : x.kind = 3) (h1 : DkRep d k H1) (h2 : RkRep r k H2) (hk : k.Ok) (s : Sp w0 [] w [H1, H2]) (hx : x.big w0) :
    Calls Try.prog 26 #[pt d, pt r, .agg (stqCells x).toArray] w (DoesPost d r (stepN x k) w0) := by
  obtain ⟨kind, n, a, b, ba, bn, bc, xd, tear⟩ := x
  simp only at hK
  obtain ⟨hrd, hdl, hn⟩ := hx
  simp only at hrd hdl hn
  subst hK
  obtain ⟨⟨m, k'⟩, hv⟩ : ∃ v, v = gateN [a] (cuI a n) k := ⟨_, rfl⟩
  have hst : stepN ⟨3, n, a, b, ba, bn, bc, xd, tear⟩ k = k' := by show (gateN [a] (cuI a n) k).2 = _; rw [← hv]
  rw [hst]
  have p1 := Lib.hid (fun W hW => dcut d k H1 a n W h1 hk hW)
  have p2 := Lib.hid (fun W hW => rcut r k H2 a n W h2 hk hW)
  rw [← hv] at p1 p2
  replace hv := Lib.hid hv
  clear hst h1 h2 hk
  have q1 : ((m : Int) == (m : Int)) = true := by simp
  go_enter Try.func26, Try.ntmps26
  go_upto_region 1 with fail
  have s : Sp w0 [] _ [H1, H2, [(w.heap.size, .cells (stqCells ⟨3, n, a, b, ba, bn, bc, xd, tear⟩).toArray 50 (0, 0))]] := s.alloc _
  simp only [stqCells] at s ⊢
  generalize w.heap.size = xb at s ⊢
  refine Sp.gen s ?_
  clear s
  intro w s
  obtain ⟨y0, y1, y2, y3, y4, y5⟩ := box6 (x := ⟨3, n, a, b, ba, bn, bc, xd, tear⟩) (s.own 2 rfl)
  simp only at y0 y1 y2 y3 y4 y5
  have xlt := heap_lt (s.own 2 rfl).h0
  go_upto_region 15 with fail
  clear y0 y4 y5 xlt
  replace s := s.drew
  refine wp_region_J 13 (fun w' => w'.cell? ⟨xb, 1, none⟩ = some (ii n) ∧ w'.cell? ⟨xb, 2, none⟩ = some (strV a)) (by kernel_rfl) ?_ (fun hF => ?_)
  · (try dsimp only)
    all_goals (exact (by have q := box6 (x := ⟨3, n, a, b, ba, bn, bc, xd, tear⟩) (s.own 2 rfl); exact ⟨q.2.1, q.2.2.1⟩))
  refine wpAnyJ_take0 (i := 0) (oi := { dst := some 84, op := Go.Op.move (Go.Operand.tmp 0), type := 25, pos := "law.go:102", after := #[], guard := none }) (v := ?_) rfl (by kernel_rfl) (by kernel_rfl) (by kernel_rfl) (by kernel_rfl) (fun _ _ _ h => h) (by first | exact fun _ => hF | exact fun _ => hF (by kernel_rfl)) (fun w => ?_) (by rfl) ?_
  rotate_left
  · first | (go_simp; done) | (go_simp; with_reducible rfl) | (go_split_ands; go_simp; done)
  try simp only [Act.put, List.setIfInBounds_toArray, List.set_cons_zero, List.set_cons_succ]
  refine wpAnyJ_take0 (i := 1) (oi := { dst := some 85, op := Go.Op.fieldAddr 50 (Go.Operand.tmp 5) 2, type := 0, pos := "law.go:102", after := #[], guard := none }) (v := ?_) rfl (by kernel_rfl) (by kernel_rfl) (by kernel_rfl) (by kernel_rfl) (fun _ _ _ h => h) (by first | exact fun _ => hF | exact fun _ => hF (by kernel_rfl)) (fun w => ?_) (by rfl) ?_
  rotate_left
  · first | (go_simp; done) | (go_simp; with_reducible rfl) | (go_split_ands; go_simp; done)
  try simp only [Act.put, List.setIfInBounds_toArray, List.set_cons_zero, List.set_cons_succ]
  refine wpAnyJ_take (i := 2) (oi := { dst := some 86, op := Go.Op.load 9 (Go.Operand.tmp 85), type := 9, pos := "law.go:102", after := #[{ on := 1, ground := Go.Ground.data }], guard := none }) (v := ?_) [13] rfl (by kernel_rfl) (by kernel_rfl) (by kernel_rfl) (by kernel_rfl) (by kernel_rfl) (fun _ _ _ h => h) (by first | exact hF | exact hF (by kernel_rfl)) (fun w hFw => ?_) (by rfl) ?_
  rotate_left
  · ((try dsimp only at hFw); first | (go_simp; done) | (go_simp; with_reducible rfl) | (go_split_ands; go_simp; done))
  try simp only [Act.put, List.setIfInBounds_toArray, List.set_cons_zero, List.set_cons_succ]
  refine wpAnyJ_take0 (i := 3) (oi := { dst := some 87, op := Go.Op.fieldAddr 50 (Go.Operand.tmp 5) 1, type := 0, pos := "law.go:102", after := #[], guard := none }) (v := ?_) rfl (by kernel_rfl) (by kernel_rfl) (by kernel_rfl) (by kernel_rfl) (fun _ _ _ h => h) (by first | exact fun _ => hF | exact fun _ => hF (by kernel_rfl)) (fun w => ?_) (by rfl) ?_
  rotate_left
  · first | (go_simp; done) | (go_simp; with_reducible rfl) | (go_split_ands; go_simp; done)
  try simp only [Act.put, List.setIfInBounds_toArray, List.set_cons_zero, List.set_cons_succ]
  refine wpAnyJ_take (i := 4) (oi := { dst := some 88, op := Go.Op.load 3 (Go.Operand.tmp 87), type := 3, pos := "law.go:102", after := #[{ on := 3, ground := Go.Ground.data }], guard := none }) (v := ?_) [13] rfl (by kernel_rfl) (by kernel_rfl) (by kernel_rfl) (by kernel_rfl) (by kernel_rfl) (fun _ _ _ h => h) (by first | exact hF | exact hF (by kernel_rfl)) (fun w hFw => ?_) (by rfl) ?_
  rotate_left
  · ((try dsimp only at hFw); first | (go_simp; done) | (go_simp; with_reducible rfl) | (go_split_ands; go_simp; done))
  try simp only [Act.put, List.setIfInBounds_toArray, List.set_cons_zero, List.set_cons_succ]
  refine wpAnyJ_take0 (i := 6) (oi := { dst := some 90, op := Go.Op.move (Go.Operand.tmp 1), type := 46, pos := "law.go:102", after := #[], guard := none }) (v := ?_) rfl (by kernel_rfl) (by kernel_rfl) (by kernel_rfl) (by kernel_rfl) (fun _ _ _ h => h) (by first | exact fun _ => hF | exact fun _ => hF (by kernel_rfl)) (fun w => ?_) (by rfl) ?_
  rotate_left
  · first | (go_simp; done) | (go_simp; with_reducible rfl) | (go_split_ands; go_simp; done)
  try simp only [Act.put, List.setIfInBounds_toArray, List.set_cons_zero, List.set_cons_succ]
  refine wpAnyJ_take0 (i := 7) (oi := { dst := some 91, op := Go.Op.fieldAddr 50 (Go.Operand.tmp 5) 2, type := 0, pos := "law.go:102", after := #[], guard := none }) (v := ?_) rfl (by kernel_rfl) (by kernel_rfl) (by kernel_rfl) (by kernel_rfl) (fun _ _ _ h => h) (by first | exact fun _ => hF | exact fun _ => hF (by kernel_rfl)) (fun w => ?_) (by rfl) ?_
  rotate_left
  · first | (go_simp; done) | (go_simp; with_reducible rfl) | (go_split_ands; go_simp; done)
  try simp only [Act.put, List.setIfInBounds_toArray, List.set_cons_zero, List.set_cons_succ]
  refine wpAnyJ_take (i := 8) (oi := { dst := some 92, op := Go.Op.load 9 (Go.Operand.tmp 91), type := 9, pos := "law.go:102", after := #[{ on := 7, ground := Go.Ground.data }], guard := none }) (v := ?_) [13] rfl (by kernel_rfl) (by kernel_rfl) (by kernel_rfl) (by kernel_rfl) (by kernel_rfl) (fun _ _ _ h => h) (by first | exact hF | exact hF (by kernel_rfl)) (fun w hFw => ?_) (by rfl) ?_
  rotate_left
  · ((try dsimp only at hFw); first | (go_simp; done) | (go_simp; with_reducible rfl) | (go_split_ands; go_simp; done))
  try simp only [Act.put, List.setIfInBounds_toArray, List.set_cons_zero, List.set_cons_succ]
  refine wpAnyJ_take0 (i := 9) (oi := { dst := some 93, op := Go.Op.fieldAddr 50 (Go.Operand.tmp 5) 1, type := 0, pos := "law.go:102", after := #[], guard := none }) (v := ?_) rfl (by kernel_rfl) (by kernel_rfl) (by kernel_rfl) (by kernel_rfl) (fun _ _ _ h => h) (by first | exact fun _ => hF | exact fun _ => hF (by kernel_rfl)) (fun w => ?_) (by rfl) ?_
  rotate_left
  · first | (go_simp; done) | (go_simp; with_reducible rfl) | (go_split_ands; go_simp; done)
  try simp only [Act.put, List.setIfInBounds_toArray, List.set_cons_zero, List.set_cons_succ]
  refine wpAnyJ_take (i := 10) (oi := { dst := some 94, op := Go.Op.load 3 (Go.Operand.tmp 93), type := 3, pos := "law.go:102", after := #[{ on := 9, ground := Go.Ground.data }], guard := none }) (v := ?_) [13] rfl (by kernel_rfl) (by kernel_rfl) (by kernel_rfl) (by kernel_rfl) (by kernel_rfl) (fun _ _ _ h => h) (by first | exact hF | exact hF (by kernel_rfl)) (fun w hFw => ?_) (by rfl) ?_
  rotate_left
  · ((try dsimp only at hFw); first | (go_simp; done) | (go_simp; with_reducible rfl) | (go_split_ands; go_simp; done))
  try simp only [Act.put, List.setIfInBounds_toArray, List.set_cons_zero, List.set_cons_succ]
  refine wpAnyJ_ready (rs := [5]) (by kernel_rfl) (by simp) ?_
  refine AllJ.cons (o := { dst := some 89, op := Go.Op.call { callee := Go.Callee.value (Go.Operand.func 28), args := #[Go.Operand.tmp 84, Go.Operand.tmp 86, Go.Operand.tmp 88], argTypes := #[25, 9, 3] }, type := 26, pos := "law.go:102", after := #[{ on := 0, ground := Go.Ground.data }, { on := 2, ground := Go.Ground.data }, { on := 4, ground := Go.Ground.data }], guard := none }) rfl (fun Kr hKr => ?_) ?_
  · go_simp; go_at_call 28; refine (p1.out _ (s.own 0 rfl)).mono ?_; rintro e w4 ⟨rfl, H1', h1', hst⟩
    have s : Sp w0 [] w4 [H1', H2, _] := s.put 0 rfl hst
    refine hKr.out _ _ (fun hJ => ?_) (fun hF => ?_)
    · first
      | exact absurd hJ (by decide)
      | (clear hJ; (try dsimp only); all_goals (exact (by have q := box6 (x := ⟨3, n, a, b, ba, bn, bc, xd, tear⟩) (s.own 2 rfl); exact ⟨q.2.1, q.2.2.1⟩)))
    clear hKr
    try simp only [Act.put, List.setIfInBounds_toArray, List.set_cons_zero, List.set_cons_succ]
    refine wpAnyJ_ready (rs := [11]) (by kernel_rfl) (by simp) ?_
    refine AllJ.cons (o := { dst := some 95, op := Go.Op.call { callee := Go.Callee.value (Go.Operand.func 42), args := #[Go.Operand.tmp 90, Go.Operand.tmp 92, Go.Operand.tmp 94], argTypes := #[46, 9, 3] }, type := 3, pos := "law.go:102", after := #[{ on := 6, ground := Go.Ground.data }, { on := 8, ground := Go.Ground.data }, { on := 10, ground := Go.Ground.data }, { on := 5, ground := Go.Ground.chain }], guard := none }) rfl (fun Kr hKr => ?_) ?_
    · go_simp; go_at_call 42; refine (p2.out _ (s.own 1 rfl)).mono ?_; rintro e w5 ⟨rfl, H2', h2', hst2⟩
      have s : Sp w0 [] w5 [H1', H2', _] := s.put 1 rfl hst2
      refine hKr.out _ _ (fun hJ => ?_) (fun hF => ?_)
      · first
        | exact absurd hJ (by decide)
        | (clear hJ; (try dsimp only); all_goals (exact (by have q := box6 (x := ⟨3, n, a, b, ba, bn, bc, xd, tear⟩) (s.own 2 rfl); exact ⟨q.2.1, q.2.2.1⟩)))
      clear hKr
      try simp only [Act.put, List.setIfInBounds_toArray, List.set_cons_zero, List.set_cons_succ]
      refine wpAnyJ_take0 (i := 12) (oi := { dst := some 96, op := Go.Op.binOp Go.BinOp.eql 3 (Go.Operand.tmp 89) (Go.Operand.tmp 95) 3, type := 4, pos := "law.go:102", after := #[{ on := 5, ground := Go.Ground.data }, { on := 11, ground := Go.Ground.data }], guard := none }) (v := ?_) rfl (by kernel_rfl) (by kernel_rfl) (by kernel_rfl) (by kernel_rfl) (fun _ _ _ h => h) (by first | exact fun _ => hF | exact fun _ => hF (by kernel_rfl)) (fun w => ?_) (by rfl) ?_
      rotate_left
      · first | (go_simp; done) | (go_simp; with_reducible rfl) | (go_split_ands; go_simp; done)
      try simp only [Act.put, List.setIfInBounds_toArray, List.set_cons_zero, List.set_cons_succ]
      refine wpAnyJ_ready (rs := [13]) (by kernel_rfl) (by simp) ?_
      refine AllJ.cons (o := { dst := some 6, op := Go.Op.assign (Go.Operand.tmp 96), type := 4, pos := "law.go:102", after := #[{ on := 12, ground := Go.Ground.data }, { on := 11, ground := Go.Ground.chain }, { on := 0, ground := Go.Ground.phase }, { on := 1, ground := Go.Ground.phase }, { on := 2, ground := Go.Ground.phase }, { on := 3, ground := Go.Ground.phase }, { on := 4, ground := Go.Ground.phase }, { on := 5, ground := Go.Ground.phase }, { on := 6, ground := Go.Ground.phase }, { on := 7, ground := Go.Ground.phase }, { on := 8, ground := Go.Ground.phase }, { on := 9, ground := Go.Ground.phase }, { on := 10, ground := Go.Ground.phase }, { on := 11, ground := Go.Ground.phase }, { on := 12, ground := Go.Ground.phase }], guard := none }) rfl (fun Kr hKr => ?_) ?_
      · go_simp
        refine hKr.out _ _ (fun hJ => ?_) (fun hF => ?_)
        · first
          | exact absurd hJ (by decide)
          | (clear hJ; (try dsimp only); all_goals (exact (by have q := box6 (x := ⟨3, n, a, b, ba, bn, bc, xd, tear⟩) (s.own 2 rfl); exact ⟨q.2.1, q.2.2.1⟩)))
        clear hKr
        try simp only [Act.put, List.setIfInBounds_toArray, List.set_cons_zero, List.set_cons_succ]
        refine wpAnyJ_done (by kernel_rfl) ?_ _
        go_wp2_with fail
        go_ret
        exact ⟨rfl, H1', H2', h1', h2', (s.forget 2 rfl).out (by simp)⟩
      exact AllJ.nil
    exact AllJ.nil
  exact AllJ.nil
set_option maxHeartbeats 4000000 in
set_option maxRecDepth 100000 in
theorem does_rename (d r : Nat) (k : Dk) (x : Stq) (H1 H2 : Heaplet) (w0 w : World) (hK : x.kind = 4) (h1 : DkRep d k H1) (h2 : RkRep r k H2) (hk : k.Ok) (s : Sp w0 [] w [H1, H2]) (hx : x.big w0) :
    Calls Try.prog 26 #[pt d, pt r, .agg (stqCells x).toArray] w (DoesPost d r (stepN x k) w0) := by
  obtain ⟨kind, n, a, b, ba, bn, bc, xd, tear⟩ := x
  simp only at hK
  obtain ⟨hrd, hdl, hn⟩ := hx
  simp only at hrd hdl hn
  subst hK
  obtain ⟨⟨m, k'⟩, hv⟩ : ∃ v, v = gateN [a, b] (rnI a b) k := ⟨_, rfl⟩
  have hst : stepN ⟨4, n, a, b, ba, bn, bc, xd, tear⟩ k = k' := by show (gateN [a, b] (rnI a b) k).2 = _; rw [← hv]
  rw [hst]
  have p1 := Lib.hid (fun W hW => drename d k H1 a b W h1 hk hW)
  have p2 := Lib.hid (fun W hW => rrename r k H2 a b W h2 hk hW)
  rw [← hv] at p1 p2
  replace hv := Lib.hid hv
  clear hst h1 h2 hk
  have q1 : ((m : Int) == (m : Int)) = true := by simp
  go_enter Try.func26, Try.ntmps26
  go_upto_region 1 with fail
  have s : Sp w0 [] _ [H1, H2, [(w.heap.size, .cells (stqCells ⟨4, n, a, b, ba, bn, bc, xd, tear⟩).toArray 50 (0, 0))]] := s.alloc _
  simp only [stqCells] at s ⊢
  generalize w.heap.size = xb at s ⊢
  refine Sp.gen s ?_
  clear s
  intro w s
  obtain ⟨y0, y1, y2, y3, y4, y5⟩ := box6 (x := ⟨4, n, a, b, ba, bn, bc, xd, tear⟩) (s.own 2 rfl)
  simp only at y0 y1 y2 y3 y4 y5
  have xlt := heap_lt (s.own 2 rfl).h0
  go_upto_region 17 with fail
  clear y0 y4 y5 xlt
  replace s := s.drew
  refine wp_region_J 13 (fun w' => w'.cell? ⟨xb, 2, none⟩ = some (strV a) ∧ w'.cell? ⟨xb, 3, none⟩ = some (strV b)) (by kernel_rfl) ?_ (fun hF => ?_)
  · (try dsimp only)
    all_goals (exact (by have q := box6 (x := ⟨4, n, a, b, ba, bn, bc, xd, tear⟩) (s.own 2 rfl); exact ⟨q.2.2.1, q.2.2.2.1⟩))
  refine wpAnyJ_take0 (i := 0) (oi := { dst := some 99, op := Go.Op.move (Go.Operand.tmp 0), type := 25, pos := "law.go:104", after := #[], guard := none }) (v := ?_) rfl (by kernel_rfl) (by kernel_rfl) (by kernel_rfl) (by kernel_rfl) (fun _ _ _ h => h) (by first | exact fun _ => hF | exact fun _ => hF (by kernel_rfl)) (fun w => ?_) (by rfl) ?_
  rotate_left
  · first | (go_simp; done) | (go_simp; with_reducible rfl) | (go_split_ands; go_simp; done)
  try simp only [Act.put, List.setIfInBounds_toArray, List.set_cons_zero, List.set_cons_succ]
  refine wpAnyJ_take0 (i := 1) (oi := { dst := some 100, op := Go.Op.fieldAddr 50 (Go.Operand.tmp 5) 2, type := 0, pos := "law.go:104", after := #[], guard := none }) (v := ?_) rfl (by kernel_rfl) (by kernel_rfl) (by kernel_rfl) (by kernel_rfl) (fun _ _ _ h => h) (by first | exact fun _ => hF | exact fun _ => hF (by kernel_rfl)) (fun w => ?_) (by rfl) ?_
  rotate_left
  · first | (go_simp; done) | (go_simp; with_reducible rfl) | (go_split_ands; go_simp; done)
  try simp only [Act.put, List.setIfInBounds_toArray, List.set_cons_zero, List.set_cons_succ]
  refine wpAnyJ_take (i := 2) (oi := { dst := some 101, op := Go.Op.load 9 (Go.Operand.tmp 100), type := 9, pos := "law.go:104", after := #[{ on := 1, ground := Go.Ground.data }], guard := none }) (v := ?_) [13] rfl (by kernel_rfl) (by kernel_rfl) (by kernel_rfl) (by kernel_rfl) (by kernel_rfl) (fun _ _ _ h => h) (by first | exact hF | exact hF (by kernel_rfl)) (fun w hFw => ?_) (by rfl) ?_
  rotate_left
  · ((try dsimp only at hFw); first | (go_simp; done) | (go_simp; with_reducible rfl) | (go_split_ands; go_simp; done))
  try simp only [Act.put, List.setIfInBounds_toArray, List.set_cons_zero, List.set_cons_succ]
  refine wpAnyJ_take0 (i := 3) (oi := { dst := some 102, op := Go.Op.fieldAddr 50 (Go.Operand.tmp 5) 3, type := 0, pos := "law.go:104", after := #[], guard := none }) (v := ?_) rfl (by kernel_rfl) (by kernel_rfl) (by kernel_rfl) (by kernel_rfl) (fun _ _ _ h => h) (by first | exact fun _ => hF | exact fun _ => hF (by kernel_rfl)) (fun w => ?_) (by rfl) ?_
  rotate_left
  · first | (go_simp; done) | (go_simp; with_reducible rfl) | (go_split_ands; go_simp; done)
  try simp only [Act.put, List.setIfInBounds_toArray, List.set_cons_zero, List.set_cons_succ]
  refine wpAnyJ_take (i := 4) (oi := { dst := some 103, op := Go.Op.load 9 (Go.Operand.tmp 102), type := 9, pos := "law.go:104", after := #[{ on := 3, ground := Go.Ground.data }], guard := none }) (v := ?_) [13] rfl (by kernel_rfl) (by kernel_rfl) (by kernel_rfl) (by kernel_rfl) (by kernel_rfl) (fun _ _ _ h => h) (by first | exact hF | exact hF (by kernel_rfl)) (fun w hFw => ?_) (by rfl) ?_
  rotate_left
  · ((try dsimp only at hFw); first | (go_simp; done) | (go_simp; with_reducible rfl) | (go_split_ands; go_simp; done))
  try simp only [Act.put, List.setIfInBounds_toArray, List.set_cons_zero, List.set_cons_succ]
  refine wpAnyJ_take0 (i := 6) (oi := { dst := some 105, op := Go.Op.move (Go.Operand.tmp 1), type := 46, pos := "law.go:104", after := #[], guard := none }) (v := ?_) rfl (by kernel_rfl) (by kernel_rfl) (by kernel_rfl) (by kernel_rfl) (fun _ _ _ h => h) (by first | exact fun _ => hF | exact fun _ => hF (by kernel_rfl)) (fun w => ?_) (by rfl) ?_
  rotate_left
  · first | (go_simp; done) | (go_simp; with_reducible rfl) | (go_split_ands; go_simp; done)
  try simp only [Act.put, List.setIfInBounds_toArray, List.set_cons_zero, List.set_cons_succ]
  refine wpAnyJ_take0 (i := 7) (oi := { dst := some 106, op := Go.Op.fieldAddr 50 (Go.Operand.tmp 5) 2, type := 0, pos := "law.go:104", after := #[], guard := none }) (v := ?_) rfl (by kernel_rfl) (by kernel_rfl) (by kernel_rfl) (by kernel_rfl) (fun _ _ _ h => h) (by first | exact fun _ => hF | exact fun _ => hF (by kernel_rfl)) (fun w => ?_) (by rfl) ?_
  rotate_left
  · first | (go_simp; done) | (go_simp; with_reducible rfl) | (go_split_ands; go_simp; done)
  try simp only [Act.put, List.setIfInBounds_toArray, List.set_cons_zero, List.set_cons_succ]
  refine wpAnyJ_take (i := 8) (oi := { dst := some 107, op := Go.Op.load 9 (Go.Operand.tmp 106), type := 9, pos := "law.go:104", after := #[{ on := 7, ground := Go.Ground.data }], guard := none }) (v := ?_) [13] rfl (by kernel_rfl) (by kernel_rfl) (by kernel_rfl) (by kernel_rfl) (by kernel_rfl) (fun _ _ _ h => h) (by first | exact hF | exact hF (by kernel_rfl)) (fun w hFw => ?_) (by rfl) ?_
  rotate_left
  · ((try dsimp only at hFw); first | (go_simp; done) | (go_simp; with_reducible rfl) | (go_split_ands; go_simp; done))
  try simp only [Act.put, List.setIfInBounds_toArray, List.set_cons_zero, List.set_cons_succ]
  refine wpAnyJ_take0 (i := 9) (oi := { dst := some 108, op := Go.Op.fieldAddr 50 (Go.Operand.tmp 5) 3, type := 0, pos := "law.go:104", after := #[], guard := none }) (v := ?_) rfl (by kernel_rfl) (by kernel_rfl) (by kernel_rfl) (by kernel_rfl) (fun _ _ _ h => h) (by first | exact fun _ => hF | exact fun _ => hF (by kernel_rfl)) (fun w => ?_) (by rfl) ?_
  rotate_left
  · first | (go_simp; done) | (go_simp; with_reducible rfl) | (go_split_ands; go_simp; done)
  try simp only [Act.put, List.setIfInBounds_toArray, List.set_cons_zero, List.set_cons_succ]
  refine wpAnyJ_take (i := 10) (oi := { dst := some 109, op := Go.Op.load 9 (Go.Operand.tmp 108), type := 9, pos := "law.go:104", after := #[{ on := 9, ground := Go.Ground.data }], guard := none }) (v := ?_) [13] rfl (by kernel_rfl) (by kernel_rfl) (by kernel_rfl) (by kernel_rfl) (by kernel_rfl) (fun _ _ _ h => h) (by first | exact hF | exact hF (by kernel_rfl)) (fun w hFw => ?_) (by rfl) ?_
  rotate_left
  · ((try dsimp only at hFw); first | (go_simp; done) | (go_simp; with_reducible rfl) | (go_split_ands; go_simp; done))
  try simp only [Act.put, List.setIfInBounds_toArray, List.set_cons_zero, List.set_cons_succ]
  refine wpAnyJ_ready (rs := [5]) (by kernel_rfl) (by simp) ?_
  refine AllJ.cons (o := { dst := some 104, op := Go.Op.call { callee := Go.Callee.value (Go.Operand.func 19), args := #[Go.Operand.tmp 99, Go.Operand.tmp 101, Go.Operand.tmp 103], argTypes := #[25, 9, 9] }, type := 26, pos := "law.go:104", after := #[{ on := 0, ground := Go.Ground.data }, { on := 2, ground := Go.Ground.data }, { on := 4, ground := Go.Ground.data }], guard := none }) rfl (fun Kr hKr => ?_) ?_
  · go_simp; go_at_call 19; refine (p1.out _ (s.own 0 rfl)).mono ?_; rintro e w4 ⟨rfl, H1', h1', hst⟩
    have s : Sp w0 [] w4 [H1', H2, _] := s.put 0 rfl hst
    refine hKr.out _ _ (fun hJ => ?_) (fun hF => ?_)
    · first
      | exact absurd hJ (by decide)
      | (clear hJ; (try dsimp only); all_goals (exact (by have q := box6 (x := ⟨4, n, a, b, ba, bn, bc, xd, tear⟩) (s.own 2 rfl); exact ⟨q.2.2.1, q.2.2.2.1⟩)))
    clear hKr
    try simp only [Act.put, List.setIfInBounds_toArray, List.set_cons_zero, List.set_cons_succ]
    refine wpAnyJ_ready (rs := [11]) (by kernel_rfl) (by simp) ?_
    refine AllJ.cons (o := { dst := some 110, op := Go.Op.call { callee := Go.Callee.value (Go.Operand.func 43), args := #[Go.Operand.tmp 105, Go.Operand.tmp 107, Go.Operand.tmp 109], argTypes := #[46, 9, 9] }, type := 3, pos := "law.go:104", after := #[{ on := 6, ground := Go.Ground.data }, { on := 8, ground := Go.Ground.data }, { on := 10, ground := Go.Ground.data }, { on := 5, ground := Go.Ground.chain }], guard := none }) rfl (fun Kr hKr => ?_) ?_
    · go_simp; go_at_call 43; refine (p2.out _ (s.own 1 rfl)).mono ?_; rintro e w5 ⟨rfl, H2', h2', hst2⟩
      have s : Sp w0 [] w5 [H1', H2', _] := s.put 1 rfl hst2
      refine hKr.out _ _ (fun hJ => ?_) (fun hF => ?_)
      · first
        | exact absurd hJ (by decide)
        | (clear hJ; (try dsimp only); all_goals (exact (by have q := box6 (x := ⟨4, n, a, b, ba, bn, bc, xd, tear⟩) (s.own 2 rfl); exact ⟨q.2.2.1, q.2.2.2.1⟩)))
      clear hKr
      try simp only [Act.put, List.setIfInBounds_toArray, List.set_cons_zero, List.set_cons_succ]
      refine wpAnyJ_take0 (i := 12) (oi := { dst := some 111, op := Go.Op.binOp Go.BinOp.eql 3 (Go.Operand.tmp 104) (Go.Operand.tmp 110) 3, type := 4, pos := "law.go:104", after := #[{ on := 5, ground := Go.Ground.data }, { on := 11, ground := Go.Ground.data }], guard := none }) (v := ?_) rfl (by kernel_rfl) (by kernel_rfl) (by kernel_rfl) (by kernel_rfl) (fun _ _ _ h => h) (by first | exact fun _ => hF | exact fun _ => hF (by kernel_rfl)) (fun w => ?_) (by rfl) ?_
      rotate_left
      · first | (go_simp; done) | (go_simp; with_reducible rfl) | (go_split_ands; go_simp; done)
      try simp only [Act.put, List.setIfInBounds_toArray, List.set_cons_zero, List.set_cons_succ]
      refine wpAnyJ_ready (rs := [13]) (by kernel_rfl) (by simp) ?_
      refine AllJ.cons (o := { dst := some 6, op := Go.Op.assign (Go.Operand.tmp 111), type := 4, pos := "law.go:104", after := #[{ on := 12, ground := Go.Ground.data }, { on := 11, ground := Go.Ground.chain }, { on := 0, ground := Go.Ground.phase }, { on := 1, ground := Go.Ground.phase }, { on := 2, ground := Go.Ground.phase }, { on := 3, ground := Go.Ground.phase }, { on := 4, ground := Go.Ground.phase }, { on := 5, ground := Go.Ground.phase }, { on := 6, ground := Go.Ground.phase }, { on := 7, ground := Go.Ground.phase }, { on := 8, ground := Go.Ground.phase }, { on := 9, ground := Go.Ground.phase }, { on := 10, ground := Go.Ground.phase }, { on := 11, ground := Go.Ground.phase }, { on := 12, ground := Go.Ground.phase }], guard := none }) rfl (fun Kr hKr => ?_) ?_
      · go_simp
        refine hKr.out _ _ (fun hJ => ?_) (fun hF => ?_)
        · first
          | exact absurd hJ (by decide)
          | (clear hJ; (try dsimp only); all_goals (exact (by have q := box6 (x := ⟨4, n, a, b, ba, bn, bc, xd, tear⟩) (s.own 2 rfl); exact ⟨q.2.2.1, q.2.2.2.1⟩)))
        clear hKr
        try simp only [Act.put, List.setIfInBounds_toArray, List.set_cons_zero, List.set_cons_succ]
        refine wpAnyJ_done (by kernel_rfl) ?_ _
        go_wp2_with fail
        go_ret
        exact ⟨rfl, H1', H2', h1', h2', (s.forget 2 rfl).out (by simp)⟩
      exact AllJ.nil
    exact AllJ.nil
  exact AllJ.nil
set_option maxHeartbeats 4000000 in
set_option maxRecDepth 100000 in
theorem does_remove (d r : Nat) (k : Dk) (x : Stq) (H1 H2 : Heaplet) (w0 w : World) (hK : x.kind = 5) (h1 : DkRep d k H1) (h2 : RkRep r k H2) (hk : k.Ok) (s : Sp w0 [] w [H1, H2]) (hx : x.big w0) :
    Calls Try.prog 26 #[pt d, pt r, .agg (stqCells x).toArray] w (DoesPost d r (stepN x k) w0) := by
  obtain ⟨kind, n, a, b, ba, bn, bc, xd, tear⟩ := x
  simp only at hK
  obtain ⟨hrd, hdl, hn⟩ := hx
  simp only at hrd hdl hn
  subst hK
  obtain ⟨⟨m, k'⟩, hv⟩ : ∃ v, v = gateN [a] (rmI a) k := ⟨_, rfl⟩
  have hst : stepN ⟨5, n, a, b, ba, bn, bc, xd, tear⟩ k = k' := by show (gateN [a] (rmI a) k).2 = _; rw [← hv]
  rw [hst]
  have p1 := Lib.hid (fun W hW => dremove d k H1 a W h1 hk hW)
  have p2 := Lib.hid (fun W hW => rremove r k H2 a W h2 hk hW)
  rw [← hv] at p1 p2
  replace hv := Lib.hid hv
  clear hst h1 h2 hk
  have q1 : ((m : Int) == (m : Int)) = true := by simp
  go_enter Try.func26, Try.ntmps26
  go_upto_region 1 with fail
  have s : Sp w0 [] _ [H1, H2, [(w.heap.size, .cells (stqCells ⟨5, n, a, b, ba, bn, bc, xd, tear⟩).toArray 50 (0, 0))]] := s.alloc _
  simp only [stqCells] at s ⊢
  generalize w.heap.size = xb at s ⊢
  refine Sp.gen s ?_
  clear s
  intro w s
  obtain ⟨y0, y1, y2, y3, y4, y5⟩ := box6 (x := ⟨5, n, a, b, ba, bn, bc, xd, tear⟩) (s.own 2 rfl)
  simp only at y0 y1 y2 y3 y4 y5
  have xlt := heap_lt (s.own 2 rfl).h0
  go_upto_region 19 with fail
  clear y0 y4 y5 xlt
  replace s := s.drew
  refine wp_region_J 9 (fun w' => w'.cell? ⟨xb, 2, none⟩ = some (strV a)) (by kernel_rfl) ?_ (fun hF => ?_)
  · (try dsimp only)
    all_goals (exact (by have q := box6 (x := ⟨5, n, a, b, ba, bn, bc, xd, tear⟩) (s.own 2 rfl); exact q.2.2.1))
  refine wpAnyJ_take0 (i := 0) (oi := { dst := some 114, op := Go.Op.move (Go.Operand.tmp 0), type := 25, pos := "law.go:106", after := #[], guard := none }) (v := ?_) rfl (by kernel_rfl) (by kernel_rfl) (by kernel_rfl) (by kernel_rfl) (fun _ _ _ h => h) (by first | exact fun _ => hF | exact fun _ => hF (by kernel_rfl)) (fun w => ?_) (by rfl) ?_
  rotate_left
  · first | (go_simp; done) | (go_simp; with_reducible rfl) | (go_split_ands; go_simp; done)
  try simp only [Act.put, List.setIfInBounds_toArray, List.set_cons_zero, List.set_cons_succ]
  refine wpAnyJ_take0 (i := 1) (oi := { dst := some 115, op := Go.Op.fieldAddr 50 (Go.Operand.tmp 5) 2, type := 0, pos := "law.go:106", after := #[], guard := none }) (v := ?_) rfl (by kernel_rfl) (by kernel_rfl) (by kernel_rfl) (by kernel_rfl) (fun _ _ _ h => h) (by first | exact fun _ => hF | exact fun _ => hF (by kernel_rfl)) (fun w => ?_) (by rfl) ?_
  rotate_left
  · first | (go_simp; done) | (go_simp; with_reducible rfl) | (go_split_ands; go_simp; done)
  try simp only [Act.put, List.setIfInBounds_toArray, List.set_cons_zero, List.set_cons_succ]
  refine wpAnyJ_take (i := 2) (oi := { dst := some 116, op := Go.Op.load 9 (Go.Operand.tmp 115), type := 9, pos := "law.go:106", after := #[{ on := 1, ground := Go.Ground.data }], guard := none }) (v := ?_) [9] rfl (by kernel_rfl) (by kernel_rfl) (by kernel_rfl) (by kernel_rfl) (by kernel_rfl) (fun _ _ _ h => h) (by first | exact hF | exact hF (by kernel_rfl)) (fun w hFw => ?_) (by rfl) ?_
  rotate_left
  · ((try dsimp only at hFw); first | (go_simp; done) | (go_simp; with_reducible rfl) | (go_split_ands; go_simp; done))
  try simp only [Act.put, List.setIfInBounds_toArray, List.set_cons_zero, List.set_cons_succ]
  refine wpAnyJ_take0 (i := 4) (oi := { dst := some 118, op := Go.Op.move (Go.Operand.tmp 1), type := 46, pos := "law.go:106", after := #[], guard := none }) (v := ?_) rfl (by kernel_rfl) (by kernel_rfl) (by kernel_rfl) (by kernel_rfl) (fun _ _ _ h => h) (by first | exact fun _ => hF | exact fun _ => hF (by kernel_rfl)) (fun w => ?_) (by rfl) ?_
  rotate_left
  · first | (go_simp; done) | (go_simp; with_reducible rfl) | (go_split_ands; go_simp; done)
  try simp only [Act.put, List.setIfInBounds_toArray, List.set_cons_zero, List.set_cons_succ]
  refine wpAnyJ_take0 (i := 5) (oi := { dst := some 119, op := Go.Op.fieldAddr 50 (Go.Operand.tmp 5) 2, type := 0, pos := "law.go:106", after := #[], guard := none }) (v := ?_) rfl (by kernel_rfl) (by kernel_rfl) (by kernel_rfl) (by kernel_rfl) (fun _ _ _ h => h) (by first | exact fun _ => hF | exact fun _ => hF (by kernel_rfl)) (fun w => ?_) (by rfl) ?_
  rotate_left
  · first | (go_simp; done) | (go_simp; with_reducible rfl) | (go_split_ands; go_simp; done)
  try simp only [Act.put, List.setIfInBounds_toArray, List.set_cons_zero, List.set_cons_succ]
  refine wpAnyJ_take (i := 6) (oi := { dst := some 120, op := Go.Op.load 9 (Go.Operand.tmp 119), type := 9, pos := "law.go:106", after := #[{ on := 5, ground := Go.Ground.data }], guard := none }) (v := ?_) [9] rfl (by kernel_rfl) (by kernel_rfl) (by kernel_rfl) (by kernel_rfl) (by kernel_rfl) (fun _ _ _ h => h) (by first | exact hF | exact hF (by kernel_rfl)) (fun w hFw => ?_) (by rfl) ?_
  rotate_left
  · ((try dsimp only at hFw); first | (go_simp; done) | (go_simp; with_reducible rfl) | (go_split_ands; go_simp; done))
  try simp only [Act.put, List.setIfInBounds_toArray, List.set_cons_zero, List.set_cons_succ]
  refine wpAnyJ_ready (rs := [3]) (by kernel_rfl) (by simp) ?_
  refine AllJ.cons (o := { dst := some 117, op := Go.Op.call { callee := Go.Callee.value (Go.Operand.func 18), args := #[Go.Operand.tmp 114, Go.Operand.tmp 116], argTypes := #[25, 9] }, type := 26, pos := "law.go:106", after := #[{ on := 0, ground := Go.Ground.data }, { on := 2, ground := Go.Ground.data }], guard := none }) rfl (fun Kr hKr => ?_) ?_
  · go_simp; go_at_call 18; refine (p1.out _ (s.own 0 rfl)).mono ?_; rintro e w4 ⟨rfl, H1', h1', hst⟩
    have s : Sp w0 [] w4 [H1', H2, _] := s.put 0 rfl hst
    refine hKr.out _ _ (fun hJ => ?_) (fun hF => ?_)
    · first
      | exact absurd hJ (by decide)
      | (clear hJ; (try dsimp only); all_goals (exact (by have q := box6 (x := ⟨5, n, a, b, ba, bn, bc, xd, tear⟩) (s.own 2 rfl); exact q.2.2.1)))
    clear hKr
    try simp only [Act.put, List.setIfInBounds_toArray, List.set_cons_zero, List.set_cons_succ]
    refine wpAnyJ_ready (rs := [7]) (by kernel_rfl) (by simp) ?_
    refine AllJ.cons (o := { dst := some 121, op := Go.Op.call { callee := Go.Callee.value (Go.Operand.func 44), args := #[Go.Operand.tmp 118, Go.Operand.tmp 120], argTypes := #[46, 9] }, type := 3, pos := "law.go:106", after := #[{ on := 4, ground := Go.Ground.data }, { on := 6, ground := Go.Ground.data }, { on := 3, ground := Go.Ground.chain }], guard := none }) rfl (fun Kr hKr => ?_) ?_
    · go_simp; go_at_call 44; refine (p2.out _ (s.own 1 rfl)).mono ?_; rintro e w5 ⟨rfl, H2', h2', hst2⟩
      have s : Sp w0 [] w5 [H1', H2', _] := s.put 1 rfl hst2
      refine hKr.out _ _ (fun hJ => ?_) (fun hF => ?_)
      · first
        | exact absurd hJ (by decide)
        | (clear hJ; (try dsimp only); all_goals (exact (by have q := box6 (x := ⟨5, n, a, b, ba, bn, bc, xd, tear⟩) (s.own 2 rfl); exact q.2.2.1)))
      clear hKr
      try simp only [Act.put, List.setIfInBounds_toArray, List.set_cons_zero, List.set_cons_succ]
      refine wpAnyJ_take0 (i := 8) (oi := { dst := some 122, op := Go.Op.binOp Go.BinOp.eql 3 (Go.Operand.tmp 117) (Go.Operand.tmp 121) 3, type := 4, pos := "law.go:106", after := #[{ on := 3, ground := Go.Ground.data }, { on := 7, ground := Go.Ground.data }], guard := none }) (v := ?_) rfl (by kernel_rfl) (by kernel_rfl) (by kernel_rfl) (by kernel_rfl) (fun _ _ _ h => h) (by first | exact fun _ => hF | exact fun _ => hF (by kernel_rfl)) (fun w => ?_) (by rfl) ?_
      rotate_left
      · first | (go_simp; done) | (go_simp; with_reducible rfl) | (go_split_ands; go_simp; done)
      try simp only [Act.put, List.setIfInBounds_toArray, List.set_cons_zero, List.set_cons_succ]
      refine wpAnyJ_ready (rs := [9]) (by kernel_rfl) (by simp) ?_
      refine AllJ.cons (o := { dst := some 6, op := Go.Op.assign (Go.Operand.tmp 122), type := 4, pos := "law.go:106", after := #[{ on := 8, ground := Go.Ground.data }, { on := 7, ground := Go.Ground.chain }, { on := 0, ground := Go.Ground.phase }, { on := 1, ground := Go.Ground.phase }, { on := 2, ground := Go.Ground.phase }, { on := 3, ground := Go.Ground.phase }, { on := 4, ground := Go.Ground.phase }, { on := 5, ground := Go.Ground.phase }, { on := 6, ground := Go.Ground.phase }, { on := 7, ground := Go.Ground.phase }, { on := 8, ground := Go.Ground.phase }], guard := none }) rfl (fun Kr hKr => ?_) ?_
      · go_simp
        refine hKr.out _ _ (fun hJ => ?_) (fun hF => ?_)
        · first
          | exact absurd hJ (by decide)
          | (clear hJ; (try dsimp only); all_goals (exact (by have q := box6 (x := ⟨5, n, a, b, ba, bn, bc, xd, tear⟩) (s.own 2 rfl); exact q.2.2.1)))
        clear hKr
        try simp only [Act.put, List.setIfInBounds_toArray, List.set_cons_zero, List.set_cons_succ]
        refine wpAnyJ_done (by kernel_rfl) ?_ _
        go_wp2_with fail
        go_ret
        exact ⟨rfl, H1', H2', h1', h2', (s.forget 2 rfl).out (by simp)⟩
      exact AllJ.nil
    exact AllJ.nil
  exact AllJ.nil
set_option maxHeartbeats 4000000 in
set_option maxRecDepth 100000 in
theorem does_fuse (d r : Nat) (k : Dk) (x : Stq) (H1 H2 : Heaplet) (w0 w : World) (hK : x.kind = 6) (h1 : DkRep d k H1) (h2 : RkRep r k H2) (hk : k.Ok) (s : Sp w0 [] w [H1, H2]) (hx : x.big w0) :
    Calls Try.prog 26 #[pt d, pt r, .agg (stqCells x).toArray] w (DoesPost d r (stepN x k) w0) := by
  obtain ⟨kind, n, a, b, ba, bn, bc, xd, tear⟩ := x
  simp only at hK
  obtain ⟨hrd, hdl, hn⟩ := hx
  simp only at hrd hdl hn
  subst hK
  have hst : stepN ⟨6, n, a, b, ba, bn, bc, xd, tear⟩ k = fuN n k := rfl
  rw [hst]
  have p1 := Lib.hid (fun W hW => fuse_any d k n H1 W h1 hW hn)
  have p2 := Lib.hid (fun W hW => rfuse_any r k n H2 W h2 hW hn)
  obtain ⟨k', hv⟩ : ∃ v, v = fuN n k := ⟨_, rfl⟩
  rw [← hv] at p1 p2 ⊢
  replace hv := Lib.hid hv
  clear hst h1 h2 hk
  go_enter Try.func26, Try.ntmps26
  go_upto_region 1 with fail
  have s : Sp w0 [] _ [H1, H2, [(w.heap.size, .cells (stqCells ⟨6, n, a, b, ba, bn, bc, xd, tear⟩).toArray 50 (0, 0))]] := s.alloc _
  simp only [stqCells] at s ⊢
  generalize w.heap.size = xb at s ⊢
  refine Sp.gen s ?_
  clear s
  intro w s
  obtain ⟨y0, y1, y2, y3, y4, y5⟩ := box6 (x := ⟨6, n, a, b, ba, bn, bc, xd, tear⟩) (s.own 2 rfl)
  simp only at y0 y1 y2 y3 y4 y5
  have xlt := heap_lt (s.own 2 rfl).h0
  go_wp2_with fail
  refine (p1.out _ (s.own 0 rfl)).mono ?_
  rintro e w4 ⟨rfl, H1', h1', hst⟩
  have s : Sp w0 [] w4 [H1', H2, _] := s.put 0 rfl hst
  clear y0 y1 y2 y3 y4 y5 xlt hst
  obtain ⟨y0, y1, y2, y3, y4, y5⟩ := box6 (x := ⟨6, n, a, b, ba, bn, bc, xd, tear⟩) (s.own 2 rfl)
  simp only at y0 y1 y2 y3 y4 y5
  have xlt := heap_lt (s.own 2 rfl).h0
  go_wp2_with fail
  refine (p2.out _ (s.own 1 rfl)).mono ?_
  rintro e w5 ⟨rfl, H2', h2', hst⟩
  have s : Sp w0 [] w5 [H1', H2', _] := s.put 1 rfl hst
  go_wp2_with fail
  go_ret
  exact ⟨rfl, H1', H2', h1', h2', (s.forget 2 rfl).out (by simp)⟩
set_option maxHeartbeats 4000000 in
set_option maxRecDepth 100000 in
theorem does_crash (d r : Nat) (k : Dk) (x : Stq) (H1 H2 : Heaplet) (w0 w : World) (hK : x.kind = 7) (h1 : DkRep d k H1) (h2 : RkRep r k H2) (hk : k.Ok) (s : Sp w0 [] w [H1, H2]) (hx : x.big w0) :
    Calls Try.prog 26 #[pt d, pt r, .agg (stqCells x).toArray] w (DoesPost d r (stepN x k) w0) := by
  obtain ⟨kind, n, a, b, ba, bn, bc, xd, tear⟩ := x
  simp only at hK
  obtain ⟨hrd, hdl, hn⟩ := hx
  simp only at hrd hdl hn
  subst hK
  have hst : stepN ⟨7, n, a, b, ba, bn, bc, xd, tear⟩ k = crN n tear k := rfl
  rw [hst]
  have p1 := Lib.hid (fun W hW => dcrash d k n tear H1 W h1 hk hW hn)
  have p2 := Lib.hid (fun W hW => rcrash r k n tear H2 W h2 hk hW hn)
  obtain ⟨k', hv⟩ : ∃ v, v = crN n tear k := ⟨_, rfl⟩
  rw [← hv] at p1 p2 ⊢
  replace hv := Lib.hid hv
  clear hst h1 h2 hk
  go_enter Try.func26, Try.ntmps26
  go_upto_region 1 with fail
  have s : Sp w0 [] _ [H1, H2, [(w.heap.size, .cells (stqCells ⟨7, n, a, b, ba, bn, bc, xd, tear⟩).toArray 50 (0, 0))]] := s.alloc _
  simp only [stqCells] at s ⊢
  generalize w.heap.size = xb at s ⊢
  refine Sp.gen s ?_
  clear s
  intro w s
  obtain ⟨y0, y1, y2, y3, y4, y5⟩ := box6 (x := ⟨7, n, a, b, ba, bn, bc, xd, tear⟩) (s.own 2 rfl)
  simp only at y0 y1 y2 y3 y4 y5
  have xlt := heap_lt (s.own 2 rfl).h0
  go_wp2_with fail
  refine (p1.out _ (s.own 0 rfl)).mono ?_
  rintro e w4 ⟨rfl, H1', h1', hst⟩
  have s : Sp w0 [] w4 [H1', H2, _] := s.put 0 rfl hst
  clear y0 y1 y2 y3 y4 y5 xlt hst
  obtain ⟨y0, y1, y2, y3, y4, y5⟩ := box6 (x := ⟨7, n, a, b, ba, bn, bc, xd, tear⟩) (s.own 2 rfl)
  simp only at y0 y1 y2 y3 y4 y5
  have xlt := heap_lt (s.own 2 rfl).h0
  go_wp2_with fail
  refine (p2.out _ (s.own 1 rfl)).mono ?_
  rintro e w5 ⟨rfl, H2', h2', hst⟩
  have s : Sp w0 [] w5 [H1', H2', _] := s.put 1 rfl hst
  go_wp2_with fail
  go_ret
  exact ⟨rfl, H1', H2', h1', h2', (s.forget 2 rfl).out (by simp)⟩
set_option maxHeartbeats 4000000 in
set_option maxRecDepth 100000 in
theorem does_write (d r : Nat) (k : Dk) (x : Stq) (H1 H2 : Heaplet) (w0 w : World) (hK : x.kind = 1) (h1 : DkRep d k H1) (h2 : RkRep r k H2) (hk : k.Ok) (s : Sp w0 [] w [H1, H2]) (hx : x.big w0) :
    Calls Try.prog 26 #[pt d, pt r, .agg (stqCells x).toArray] w (DoesPost d r (stepN x k) w0) := by
  obtain ⟨kind, n, a, b, ba, bn, bc, xd, tear⟩ := x
  simp only at hK
  obtain ⟨hrd, hdl, hn⟩ := hx
  simp only at hrd hdl hn
  subst hK
  obtain ⟨⟨m, k'⟩, hv⟩ : ∃ v, v = gateN [a] (wrI a xd) k := ⟨_, rfl⟩
  have hst : stepN ⟨1, n, a, b, ba, bn, bc, xd, tear⟩ k = k' := by show (gateN [a] (wrI a xd) k).2 = _; rw [← hv]
  rw [hst]
  obtain rfl := hrd.1
  have p1 := Lib.hid (fun W hW ra rc hR hO => dwrite d k H1 a ra xd.length rc xd W h1 hk hW hR hO (by omega))
  have p2 := Lib.hid (fun W hW hR hO => rwrite r k H2 a ba xd.length bc xd W h2 hk hW hR hO (by omega))
  rw [← hv] at p1 p2
  replace hv := Lib.hid hv
  have hdl' : (xd.length : Int) ≤ 140737488351232 := by omega
  clear hst h1 h2 hk
  replace hrd := Lib.hid hrd
  have q1 : ((m : Int) == (m : Int)) = true := by simp
  go_enter Try.func26, Try.ntmps26
  go_upto_region 1 with fail
  have s : Sp w0 [] _ [H1, H2, [(w.heap.size, .cells (stqCells ⟨1, n, a, b, ba, xd.length, bc, xd, tear⟩).toArray 50 (0, 0))]] := s.alloc _
  simp only [stqCells] at s ⊢
  generalize w.heap.size = xb at s ⊢
  refine Sp.gen s ?_
  clear s
  intro w s
  obtain ⟨y0, y1, y2, y3, y4, y5⟩ := box6 (x := ⟨1, n, a, b, ba, xd.length, bc, xd, tear⟩) (s.own 2 rfl)
  simp only at y0 y1 y2 y3 y4 y5
  have xlt := heap_lt (s.own 2 rfl).h0
  go_wp2_with fail
  refine (roomy_any ba xd.length bc xd _ (rd_old hrd.out s) hdl).mono ?_
  rintro e w3 ⟨rg, rc, RH, rfl, hcap, hrr, hst3⟩
  have s : Sp w0 [] w3 [H1, H2, _, RH] := s.fresh hst3
  have e1 : (xd.length : Int) + 2 ≤ (rc : Int) := by omega
  have e2 : xd.length ≤ rc := by omega
  replace hrr := Lib.hid hrr
  clear y0 y1 y2 y3 y4 y5 xlt hst3
  go_wp2_with fail
  replace s := s.drew
  refine wp_region_J 22 (fun w' => w'.cell? ⟨xb, 2, none⟩ = some (strV a) ∧ w'.cell? ⟨xb, 4, none⟩ = some (.slice ba xd.length bc)) (by kernel_rfl) ?_ (fun hF => ?_)
  · (try dsimp only)
    all_goals (exact (by have q := box6 (x := ⟨1, n, a, b, ba, xd.length, bc, xd, tear⟩) (s.own 2 rfl); exact ⟨q.2.2.1, q.2.2.2.2.1⟩))
  refine wpAnyJ_take0 (i := 0) (oi := { dst := some 46, op := Go.Op.move (Go.Operand.tmp 0), type := 25, pos := "law.go:96", after := #[], guard := none }) (v := ?_) rfl (by kernel_rfl) (by kernel_rfl) (by kernel_rfl) (by kernel_rfl) (fun _ _ _ h => h) (by first | exact fun _ => hF | exact fun _ => hF (by kernel_rfl)) (fun w => ?_) (by rfl) ?_
  rotate_left
  · first | (go_simp; done) | (go_simp; with_reducible rfl) | (go_split_ands; go_simp; done)
  try simp only [Act.put, List.setIfInBounds_toArray, List.set_cons_zero, List.set_cons_succ]
  refine wpAnyJ_take0 (i := 1) (oi := { dst := some 47, op := Go.Op.fieldAddr 50 (Go.Operand.tmp 5) 2, type := 0, pos := "law.go:96", after := #[], guard := none }) (v := ?_) rfl (by kernel_rfl) (by kernel_rfl) (by kernel_rfl) (by kernel_rfl) (fun _ _ _ h => h) (by first | exact fun _ => hF | exact fun _ => hF (by kernel_rfl)) (fun w => ?_) (by rfl) ?_
  rotate_left
  · first | (go_simp; done) | (go_simp; with_reducible rfl) | (go_split_ands; go_simp; done)
  try simp only [Act.put, List.setIfInBounds_toArray, List.set_cons_zero, List.set_cons_succ]
  refine wpAnyJ_take (i := 2) (oi := { dst := some 48, op := Go.Op.load 9 (Go.Operand.tmp 47), type := 9, pos := "law.go:96", after := #[{ on := 1, ground := Go.Ground.data }], guard := none }) (v := ?_) [22] rfl (by kernel_rfl) (by kernel_rfl) (by kernel_rfl) (by kernel_rfl) (by kernel_rfl) (fun _ _ _ h => h) (by first | exact hF | exact hF (by kernel_rfl)) (fun w hFw => ?_) (by rfl) ?_
  rotate_left
  · ((try dsimp only at hFw); first | (go_simp; done) | (go_simp; with_reducible rfl) | (go_split_ands; go_simp; done))
  try simp only [Act.put, List.setIfInBounds_toArray, List.set_cons_zero, List.set_cons_succ]
  refine wpAnyJ_take0 (i := 3) (oi := { dst := some 49, op := Go.Op.move (Go.Operand.tmp 7), type := 23, pos := "law.go:96", after := #[], guard := none }) (v := ?_) rfl (by kernel_rfl) (by kernel_rfl) (by kernel_rfl) (by kernel_rfl) (fun _ _ _ h => h) (by first | exact fun _ => hF | exact fun _ => hF (by kernel_rfl)) (fun w => ?_) (by rfl) ?_
  rotate_left
  · first | (go_simp; done) | (go_simp; with_reducible rfl) | (go_split_ands; go_simp; done)
  try simp only [Act.put, List.setIfInBounds_toArray, List.set_cons_zero, List.set_cons_succ]
  refine wpAnyJ_take0 (i := 4) (oi := { dst := some 50, op := Go.Op.fieldAddr 50 (Go.Operand.tmp 5) 4, type := 0, pos := "law.go:96", after := #[], guard := none }) (v := ?_) rfl (by kernel_rfl) (by kernel_rfl) (by kernel_rfl) (by kernel_rfl) (fun _ _ _ h => h) (by first | exact fun _ => hF | exact fun _ => hF (by kernel_rfl)) (fun w => ?_) (by rfl) ?_
  rotate_left
  · first | (go_simp; done) | (go_simp; with_reducible rfl) | (go_split_ands; go_simp; done)
  try simp only [Act.put, List.setIfInBounds_toArray, List.set_cons_zero, List.set_cons_succ]
  refine wpAnyJ_take (i := 5) (oi := { dst := some 51, op := Go.Op.load 23 (Go.Operand.tmp 50), type := 23, pos := "law.go:96", after := #[{ on := 4, ground := Go.Ground.data }], guard := none }) (v := ?_) [22] rfl (by kernel_rfl) (by kernel_rfl) (by kernel_rfl) (by kernel_rfl) (by kernel_rfl) (fun _ _ _ h => h) (by first | exact hF | exact hF (by kernel_rfl)) (fun w hFw => ?_) (by rfl) ?_
  rotate_left
  · ((try dsimp only at hFw); first | (go_simp; done) | (go_simp; with_reducible rfl) | (go_split_ands; go_simp; done))
  try simp only [Act.put, List.setIfInBounds_toArray, List.set_cons_zero, List.set_cons_succ]
  refine wpAnyJ_take (i := 6) (oi := { dst := some 52, op := Go.Op.call { callee := Go.Callee.builtin Go.Builtin.len, args := #[Go.Operand.tmp 51], argTypes := #[23] }, type := 3, pos := "law.go:96", after := #[{ on := 5, ground := Go.Ground.data }], guard := none }) (v := ?_) [22] rfl (by kernel_rfl) (by kernel_rfl) (by kernel_rfl) (by kernel_rfl) (by kernel_rfl) (fun _ _ _ h => h) (by first | exact hF | exact hF (by kernel_rfl)) (fun w hFw => ?_) (by rfl) ?_
  rotate_left
  · ((try dsimp only at hFw); first | (go_simp; done) | (go_simp; with_reducible rfl) | (go_split_ands; go_simp; done))
  try simp only [Act.put, List.setIfInBounds_toArray, List.set_cons_zero, List.set_cons_succ]
  refine wpAnyJ_take0 (i := 7) (oi := { dst := some 53, op := Go.Op.slice 23 (Go.Operand.tmp 49) none (some (Go.Operand.tmp 52)) none, type := 23, pos := "law.go:96", after := #[{ on := 3, ground := Go.Ground.data }, { on := 6, ground := Go.Ground.data }], guard := none }) (v := ?_) rfl (by kernel_rfl) (by kernel_rfl) (by kernel_rfl) (by kernel_rfl) (fun _ _ _ h => h) (by first | exact fun _ => hF | exact fun _ => hF (by kernel_rfl)) (fun w => ?_) (by rfl) ?_
  rotate_left
  · first | (go_simp; done) | (go_simp; with_reducible rfl) | (go_split_ands; go_simp; done)
  try simp only [Act.put, List.setIfInBounds_toArray, List.set_cons_zero, List.set_cons_succ]
  refine wpAnyJ_take0 (i := 9) (oi := { dst := some 55, op := Go.Op.move (Go.Operand.tmp 1), type := 46, pos := "law.go:96", after := #[], guard := none }) (v := ?_) rfl (by kernel_rfl) (by kernel_rfl) (by kernel_rfl) (by kernel_rfl) (fun _ _ _ h => h) (by first | exact fun _ => hF | exact fun _ => hF (by kernel_rfl)) (fun w => ?_) (by rfl) ?_
  rotate_left
  · first | (go_simp; done) | (go_simp; with_reducible rfl) | (go_split_ands; go_simp; done)
  try simp only [Act.put, List.setIfInBounds_toArray, List.set_cons_zero, List.set_cons_succ]
  refine wpAnyJ_take0 (i := 10) (oi := { dst := some 56, op := Go.Op.fieldAddr 50 (Go.Operand.tmp 5) 2, type := 0, pos := "law.go:96", after := #[], guard := none }) (v := ?_) rfl (by kernel_rfl) (by kernel_rfl) (by kernel_rfl) (by kernel_rfl) (fun _ _ _ h => h) (by first | exact fun _ => hF | exact fun _ => hF (by kernel_rfl)) (fun w => ?_) (by rfl) ?_
  rotate_left
  · first | (go_simp; done) | (go_simp; with_reducible rfl) | (go_split_ands; go_simp; done)
  try simp only [Act.put, List.setIfInBounds_toArray, List.set_cons_zero, List.set_cons_succ]
  refine wpAnyJ_take (i := 11) (oi := { dst := some 57, op := Go.Op.load 9 (Go.Operand.tmp 56), type := 9, pos := "law.go:96", after := #[{ on := 10, ground := Go.Ground.data }], guard := none }) (v := ?_) [22] rfl (by kernel_rfl) (by kernel_rfl) (by kernel_rfl) (by kernel_rfl) (by kernel_rfl) (fun _ _ _ h => h) (by first | exact hF | exact hF (by kernel_rfl)) (fun w hFw => ?_) (by rfl) ?_
  rotate_left
  · ((try dsimp only at hFw); first | (go_simp; done) | (go_simp; with_reducible rfl) | (go_split_ands; go_simp; done))
  try simp only [Act.put, List.setIfInBounds_toArray, List.set_cons_zero, List.set_cons_succ]
  refine wpAnyJ_take0 (i := 12) (oi := { dst := some 58, op := Go.Op.fieldAddr 50 (Go.Operand.tmp 5) 4, type := 0, pos := "law.go:96", after := #[], guard := none }) (v := ?_) rfl (by kernel_rfl) (by kernel_rfl) (by kernel_rfl) (by kernel_rfl) (fun _ _ _ h => h) (by first | exact fun _ => hF | exact fun _ => hF (by kernel_rfl)) (fun w => ?_) (by rfl) ?_
  rotate_left
  · first | (go_simp; done) | (go_simp; with_reducible rfl) | (go_split_ands; go_simp; done)
  try simp only [Act.put, List.setIfInBounds_toArray, List.set_cons_zero, List.set_cons_succ]
  refine wpAnyJ_take (i := 13) (oi := { dst := some 59, op := Go.Op.load 23 (Go.Operand.tmp 58), type := 23, pos := "law.go:96", after := #[{ on := 12, ground := Go.Ground.data }], guard := none }) (v := ?_) [22] rfl (by kernel_rfl) (by kernel_rfl) (by kernel_rfl) (by kernel_rfl) (by kernel_rfl) (fun _ _ _ h => h) (by first | exact hF | exact hF (by kernel_rfl)) (fun w hFw => ?_) (by rfl) ?_
  rotate_left
  · ((try dsimp only at hFw); first | (go_simp; done) | (go_simp; with_reducible rfl) | (go_split_ands; go_simp; done))
  try simp only [Act.put, List.setIfInBounds_toArray, List.set_cons_zero, List.set_cons_succ]
  refine wpAnyJ_ready (rs := [8]) (by kernel_rfl) (by simp) ?_
  refine AllJ.cons (o := { dst := some 54, op := Go.Op.call { callee := Go.Callee.value (Go.Operand.func 11), args := #[Go.Operand.tmp 46, Go.Operand.tmp 48, Go.Operand.tmp 53], argTypes := #[25, 9, 23] }, type := 26, pos := "law.go:96", after := #[{ on := 0, ground := Go.Ground.data }, { on := 2, ground := Go.Ground.data }, { on := 7, ground := Go.Ground.data }], guard := none }) rfl (fun Kr hKr => ?_) ?_
  · go_simp; go_at_call 11; refine (p1.out _ (s.own 0 rfl) (some ⟨rg, 0, none⟩) rc (room_rd hrr.out (s.own 3 rfl)) (fun hne x hx hd => ?_)).mono ?_; cases hx; exact s.apart03 hd (room_dom hrr.out); rintro e w4 ⟨rfl, H1', h1', hst⟩
    have s : Sp w0 [] w4 [H1', H2, _, RH] := s.put 0 rfl hst
    refine hKr.out _ _ (fun hJ => ?_) (fun hF => ?_)
    · first
      | exact absurd hJ (by decide)
      | (clear hJ; (try dsimp only); all_goals (exact (by have q := box6 (x := ⟨1, n, a, b, ba, xd.length, bc, xd, tear⟩) (s.own 2 rfl); exact ⟨q.2.2.1, q.2.2.2.2.1⟩)))
    clear hKr
    try simp only [Act.put, List.setIfInBounds_toArray, List.set_cons_zero, List.set_cons_succ]
    refine wpAnyJ_ready (rs := [14]) (by kernel_rfl) (by simp) ?_
    refine AllJ.cons (o := { dst := some 60, op := Go.Op.call { callee := Go.Callee.value (Go.Operand.func 38), args := #[Go.Operand.tmp 55, Go.Operand.tmp 57, Go.Operand.tmp 59], argTypes := #[46, 9, 23] }, type := 3, pos := "law.go:96", after := #[{ on := 9, ground := Go.Ground.data }, { on := 11, ground := Go.Ground.data }, { on := 13, ground := Go.Ground.data }, { on := 8, ground := Go.Ground.chain }], guard := none }) rfl (fun Kr hKr => ?_) ?_
    · go_simp; go_at_call 38; refine (p2.out _ (s.own 1 rfl) (rd_old hrd.out s) (rd_outq hrd.out s (q := 1) rfl)).mono ?_; rintro e w5 ⟨rfl, H2', h2', hst2⟩
      have s : Sp w0 [] w5 [H1', H2', _, RH] := s.put 1 rfl hst2
      refine hKr.out _ _ (fun hJ => ?_) (fun hF => ?_)
      · first
        | exact absurd hJ (by decide)
        | (clear hJ; (try dsimp only); all_goals (exact (by have q := box6 (x := ⟨1, n, a, b, ba, xd.length, bc, xd, tear⟩) (s.own 2 rfl); exact ⟨q.2.2.1, q.2.2.2.2.1⟩)))
      clear hKr
      try simp only [Act.put, List.setIfInBounds_toArray, List.set_cons_zero, List.set_cons_succ]
      refine wpAnyJ_take0 (i := 15) (oi := { dst := some 61, op := Go.Op.binOp Go.BinOp.eql 3 (Go.Operand.tmp 54) (Go.Operand.tmp 60) 3, type := 4, pos := "law.go:96", after := #[{ on := 8, ground := Go.Ground.data }, { on := 14, ground := Go.Ground.data }], guard := none }) (v := ?_) rfl (by kernel_rfl) (by kernel_rfl) (by kernel_rfl) (by kernel_rfl) (fun _ _ _ h => h) (by first | exact fun _ => hF | exact fun _ => hF (by kernel_rfl)) (fun w => ?_) (by rfl) ?_
      rotate_left
      · first | (go_simp; done) | (go_simp; with_reducible rfl) | (go_split_ands; go_simp; done)
      try simp only [Act.put, List.setIfInBounds_toArray, List.set_cons_zero, List.set_cons_succ]
      refine wpAnyJ_take0 (i := 16) (oi := { dst := some 62, op := Go.Op.move (Go.Operand.tmp 61), type := 4, pos := "law.go:96", after := #[{ on := 15, ground := Go.Ground.data }, { on := 14, ground := Go.Ground.chain }], guard := none }) (v := ?_) rfl (by kernel_rfl) (by kernel_rfl) (by kernel_rfl) (by kernel_rfl) (fun _ _ _ h => h) (by first | exact fun _ => hF | exact fun _ => hF (by kernel_rfl)) (fun w => ?_) (by rfl) ?_
      rotate_left
      · first | (go_simp; done) | (go_simp; with_reducible rfl) | (go_split_ands; go_simp; done)
      try simp only [Act.put, List.setIfInBounds_toArray, List.set_cons_zero, List.set_cons_succ]
      first
      | refine wpAnyJ_skip0 (i := 17) (oi := { dst := some 63, op := Go.Op.move (Go.Operand.tmp 7), type := 23, pos := "law.go:96", after := #[{ on := 16, ground := Go.Ground.guard }], guard := some (16, true) }) rfl (by kernel_rfl) (by kernel_rfl) (by kernel_rfl) (by kernel_rfl) (fun _ _ _ h => h) (by first | exact fun _ => hF | exact fun _ => hF (by kernel_rfl)) (by rfl) ?_
      | (refine wpAnyJ_take0 (i := 17) (oi := { dst := some 63, op := Go.Op.move (Go.Operand.tmp 7), type := 23, pos := "law.go:96", after := #[{ on := 16, ground := Go.Ground.guard }], guard := some (16, true) }) (v := ?_) rfl (by kernel_rfl) (by kernel_rfl) (by kernel_rfl) (by kernel_rfl) (fun _ _ _ h => h) (by first | exact fun _ => hF | exact fun _ => hF (by kernel_rfl)) (fun w => ?_) (by rfl) ?_
         rotate_left
         · first | (go_simp; done) | (go_simp; with_reducible rfl) | (go_split_ands; go_simp; done))
      try simp only [Act.put, List.setIfInBounds_toArray, List.set_cons_zero, List.set_cons_succ]
      first
      | refine wpAnyJ_skip0 (i := 18) (oi := { dst := some 64, op := Go.Op.fieldAddr 50 (Go.Operand.tmp 5) 4, type := 0, pos := "law.go:96", after := #[{ on := 16, ground := Go.Ground.guard }], guard := some (16, true) }) rfl (by kernel_rfl) (by kernel_rfl) (by kernel_rfl) (by kernel_rfl) (fun _ _ _ h => h) (by first | exact fun _ => hF | exact fun _ => hF (by kernel_rfl)) (by rfl) ?_
      | (refine wpAnyJ_take0 (i := 18) (oi := { dst := some 64, op := Go.Op.fieldAddr 50 (Go.Operand.tmp 5) 4, type := 0, pos := "law.go:96", after := #[{ on := 16, ground := Go.Ground.guard }], guard := some (16, true) }) (v := ?_) rfl (by kernel_rfl) (by kernel_rfl) (by kernel_rfl) (by kernel_rfl) (fun _ _ _ h => h) (by first | exact fun _ => hF | exact fun _ => hF (by kernel_rfl)) (fun w => ?_) (by rfl) ?_
         rotate_left
         · first | (go_simp; done) | (go_simp; with_reducible rfl) | (go_split_ands; go_simp; done))
      try simp only [Act.put, List.setIfInBounds_toArray, List.set_cons_zero, List.set_cons_succ]
      first
      | refine wpAnyJ_skip0 (i := 19) (oi := { dst := some 65, op := Go.Op.load 23 (Go.Operand.tmp 64), type := 23, pos := "law.go:96", after := #[{ on := 18, ground := Go.Ground.data }, { on := 16, ground := Go.Ground.guard }], guard := some (16, true) }) rfl (by kernel_rfl) (by kernel_rfl) (by kernel_rfl) (by kernel_rfl) (fun _ _ _ h => h) (by first | exact fun _ => hF | exact fun _ => hF (by kernel_rfl)) (by rfl) ?_
      | (refine wpAnyJ_take (i := 19) (oi := { dst := some 65, op := Go.Op.load 23 (Go.Operand.tmp 64), type := 23, pos := "law.go:96", after := #[{ on := 18, ground := Go.Ground.data }, { on := 16, ground := Go.Ground.guard }], guard := some (16, true) }) (v := ?_) [22] rfl (by kernel_rfl) (by kernel_rfl) (by kernel_rfl) (by kernel_rfl) (by kernel_rfl) (fun _ _ _ h => h) (by first | exact hF | exact hF (by kernel_rfl)) (fun w hFw => ?_) (by rfl) ?_
         rotate_left
         · ((try dsimp only at hFw); first | (go_simp; done) | (go_simp; with_reducible rfl) | (go_split_ands; go_simp; done)))
      try simp only [Act.put, List.setIfInBounds_toArray, List.set_cons_zero, List.set_cons_succ]
      refine wpAnyJ_ready (rs := [20]) (by kernel_rfl) (by simp) ?_
      refine AllJ.cons (o := { dst := some 66, op := Go.Op.call { callee := Go.Callee.value (Go.Operand.func 39), args := #[Go.Operand.tmp 63, Go.Operand.tmp 65], argTypes := #[23, 23] }, type := 4, pos := "law.go:96", after := #[{ on := 17, ground := Go.Ground.data }, { on := 19, ground := Go.Ground.data }, { on := 16, ground := Go.Ground.chain }, { on := 16, ground := Go.Ground.guard }], guard := some (16, true) }) rfl (fun Kr hKr => ?_) ?_
      · go_simp; go_at_call 39; refine (stands_any rg rc ba xd.length bc xd RH _ hrr.out (s.own 3 rfl) (rd_old hrd.out s) hdl).mono ?_; rintro e w6 ⟨rfl, h6⟩
        have s : Sp w0 [] w6 [H1', H2', _, RH] := s.still h6
        refine hKr.out _ _ (fun hJ => ?_) (fun hF => ?_)
        · first
          | exact absurd hJ (by decide)
          | (clear hJ; (try dsimp only); all_goals (exact (by have q := box6 (x := ⟨1, n, a, b, ba, xd.length, bc, xd, tear⟩) (s.own 2 rfl); exact ⟨q.2.2.1, q.2.2.2.2.1⟩)))
        clear hKr
        try simp only [Act.put, List.setIfInBounds_toArray, List.set_cons_zero, List.set_cons_succ]
        refine wpAnyJ_take0 (i := 21) (oi := { dst := some 67, op := Go.Op.pick (Go.Operand.tmp 62) (Go.Operand.tmp 66) (Go.Operand.const (Go.Value.bool false)), type := 4, pos := "law.go:96", after := #[{ on := 16, ground := Go.Ground.data }, { on := 20, ground := Go.Ground.data }], guard := none }) (v := ?_) rfl (by kernel_rfl) (by kernel_rfl) (by kernel_rfl) (by kernel_rfl) (fun _ _ _ h => h) (by first | exact fun _ => hF | exact fun _ => hF (by kernel_rfl)) (fun w => ?_) (by rfl) ?_
        rotate_left
        · first | (go_simp; done) | (go_simp; with_reducible rfl) | (go_split_ands; go_simp; done)
        try simp only [Act.put, List.setIfInBounds_toArray, List.set_cons_zero, List.set_cons_succ]
        refine wpAnyJ_ready (rs := [22]) (by kernel_rfl) (by simp) ?_
        refine AllJ.cons (o := { dst := some 8, op := Go.Op.assign (Go.Operand.tmp 67), type := 4, pos := "law.go:96", after := #[{ on := 21, ground := Go.Ground.data }, { on := 20, ground := Go.Ground.chain }, { on := 0, ground := Go.Ground.phase }, { on := 1, ground := Go.Ground.phase }, { on := 2, ground := Go.Ground.phase }, { on := 3, ground := Go.Ground.phase }, { on := 4, ground := Go.Ground.phase }, { on := 5, ground := Go.Ground.phase }, { on := 6, ground := Go.Ground.phase }, { on := 7, ground := Go.Ground.phase }, { on := 8, ground := Go.Ground.phase }, { on := 9, ground := Go.Ground.phase }, { on := 10, ground := Go.Ground.phase }, { on := 11, ground := Go.Ground.phase }, { on := 12, ground := Go.Ground.phase }, { on := 13, ground := Go.Ground.phase }, { on := 14, ground := Go.Ground.phase }, { on := 15, ground := Go.Ground.phase }, { on := 16, ground := Go.Ground.phase }, { on := 17, ground := Go.Ground.phase }, { on := 18, ground := Go.Ground.phase }, { on := 19, ground := Go.Ground.phase }, { on := 20, ground := Go.Ground.phase }, { on := 21, ground := Go.Ground.phase }], guard := none }) rfl (fun Kr hKr => ?_) ?_
        · go_simp
          refine hKr.out _ _ (fun hJ => ?_) (fun hF => ?_)
          · first
            | exact absurd hJ (by decide)
            | (clear hJ; (try dsimp only); all_goals (exact (by have q := box6 (x := ⟨1, n, a, b, ba, xd.length, bc, xd, tear⟩) (s.own 2 rfl); exact ⟨q.2.2.1, q.2.2.2.2.1⟩)))
          clear hKr
          try simp only [Act.put, List.setIfInBounds_toArray, List.set_cons_zero, List.set_cons_succ]
          refine wpAnyJ_done (by kernel_rfl) ?_ _
          go_wp2_with fail
          refine (spoil_any (some ⟨rg, 0, none⟩) (xd.length + 1) rc _ RH _ (SlRep.upto hrr.out (i := xd.length + 1) (by omega)) (s.own 3 rfl) (by omega)).mono ?_
          rintro e w7 ⟨rfl, RH2, h7⟩
          have s : Sp w0 [] w7 [H1', H2', _, RH2] := s.put 3 rfl h7
          go_wp2_with fail
          go_ret
          exact ⟨rfl, H1', H2', h1', h2', ((s.forget 2 rfl).forget 3 rfl).out (by simp)⟩
        exact AllJ.nil
      exact AllJ.nil
    exact AllJ.nil
  exact AllJ.nil
set_option maxHeartbeats 4000000 in
set_option maxRecDepth 100000 in
theorem does_read (d r : Nat) (k : Dk) (x : Stq) (H1 H2 : Heaplet) (w0 w : World) (hK : x.kind ≠ 1 ∧ x.kind ≠ 2 ∧ x.kind ≠ 3 ∧ x.kind ≠ 4 ∧ x.kind ≠ 5 ∧ x.kind ≠ 6 ∧ x.kind ≠ 7) (h1 : DkRep d k H1) (h2 : RkRep r k H2) (hk : k.Ok) (s : Sp w0 [] w [H1, H2]) (hx : x.big w0) :
    Calls Try.prog 26 #[pt d, pt r, .agg (stqCells x).toArray] w (DoesPost d r (stepN x k) w0) := by
  obtain ⟨kind, n, a, b, ba, bn, bc, xd, tear⟩ := x
  simp only at hK
  obtain ⟨hrd, hdl, hn⟩ := hx
  simp only at hrd hdl hn
  obtain ⟨k1, k2, k3, k4, k5, k6, k7⟩ := hK
  have hst : stepN ⟨kind, n, a, b, ba, bn, bc, xd, tear⟩ k = k := by simp only [stepN, if_neg k1, if_neg k2, if_neg k3, if_neg k4, if_neg k5, if_neg k6, if_neg k7]
  rw [hst]
  have p1 := Lib.hid (fun W hW => dread d k H1 a W h1 hk hW)
  have p2 := Lib.hid (fun W hW => rread r k H2 a W h2 hk hW)
  have hl0 : (rdN a k).1.length ≤ 1073741824 := by
    unfold rdN
    split
    · rename_i hi
      have := used_get hi
      have := hk.used
      have := hk.room
      show (getF k.L a).1.length ≤ _
      omega
    · exact Nat.zero_le _
  obtain ⟨⟨l, m⟩, hv⟩ : ∃ v, v = rdN a k := ⟨_, rfl⟩
  rw [← hv] at p1 p2 hl0
  simp only at p1 p2 hl0
  replace hv := Lib.hid hv
  replace h1 := Lib.hid h1
  replace h2 := Lib.hid h2
  have q1 : ((m : Int) == (m : Int)) = true := by simp
  have q2 : (l.length : Int) ≤ 1073741824 := by omega
  clear hst hk
  go_enter Try.func26, Try.ntmps26
  go_upto_region 1 with fail
  have s : Sp w0 [] _ [H1, H2, [(w.heap.size, .cells (stqCells ⟨kind, n, a, b, ba, bn, bc, xd, tear⟩).toArray 50 (0, 0))]] := s.alloc _
  simp only [stqCells] at s ⊢
  generalize w.heap.size = xb at s ⊢
  refine Sp.gen s ?_
  clear s
  intro w s
  obtain ⟨y0, y1, y2, y3, y4, y5⟩ := box6 (x := ⟨kind, n, a, b, ba, bn, bc, xd, tear⟩) (s.own 2 rfl)
  simp only at y0 y1 y2 y3 y4 y5
  have xlt := heap_lt (s.own 2 rfl).h0
  go_wp2_with fail
  refine (p1.out _ (s.own 0 rfl)).mono ?_
  rintro e w4 ⟨a1, c1, X1, rfl, r1, hst⟩
  have s : Sp w0 [] w4 [H1, H2, _, X1] := s.fresh hst
  clear y0 y1 y2 y3 y4 y5 xlt hst
  obtain ⟨y0, y1, y2, y3, y4, y5⟩ := box6 (x := ⟨kind, n, a, b, ba, bn, bc, xd, tear⟩) (s.own 2 rfl)
  simp only at y0 y1 y2 y3 y4 y5
  have xlt := heap_lt (s.own 2 rfl).h0
  go_wp2_with fail
  refine (p2.out _ (s.own 1 rfl)).mono ?_
  rintro e w5 ⟨a2, c2, X2, rfl, r2, hst⟩
  have s : Sp w0 [] w5 [H1, H2, _, X1, X2] := s.fresh hst
  clear y0 y1 y2 y3 y4 y5 xlt hst
  go_wp2_with fail
  refine (same_any a1 a2 l.length c1 l.length c2 l l _ (r1.rdBytes (s.own 3 rfl)) (r2.rdBytes (s.own 4 rfl)) (by omega) (by omega)).mono ?_
  rintro e w6 ⟨rfl, h6⟩
  rw [decide_eq_true (rfl : l = l)]
  have s : Sp w0 [] w6 [H1, H2, _, X1, X2] := s.still h6
  clear h6
  go_wp2_with fail
  refine (spoil_any a1 l.length c1 _ X1 _ r1 (s.own 3 rfl) (by omega)).mono ?_
  rintro e w7 ⟨rfl, X3, h7⟩
  have s : Sp w0 [] w7 [H1, H2, _, X3, X2] := s.put 3 rfl h7
  go_wp2_with fail
  go_ret
  exact ⟨rfl, H1, H2, h1.out, h2.out, (((s.forget 2 rfl).forget 3 rfl).forget 4 rfl).out (by simp)⟩
theorem does_any (d r : Nat) (k : Dk) (x : Stq) (H1 H2 : Heaplet) (w0 w : World) (h1 : DkRep d k H1) (h2 : RkRep r k H2) (hk : k.Ok) (s : Sp w0 [] w [H1, H2]) (hx : x.big w0) :
    Calls Try.prog 26 #[pt d, pt r, .agg (stqCells x).toArray] w (DoesPost d r (stepN x k) w0) := by
  by_cases k1 : x.kind = 1
  · exact does_write d r k x H1 H2 w0 w k1 h1 h2 hk s hx
  by_cases k2 : x.kind = 2
  · exact does_sync d r k x H1 H2 w0 w k2 h1 h2 hk s hx
  by_cases k3 : x.kind = 3
  · exact does_cut d r k x H1 H2 w0 w k3 h1 h2 hk s hx
  by_cases k4 : x.kind = 4
  · exact does_rename d r k x H1 H2 w0 w k4 h1 h2 hk s hx
  by_cases k5 : x.kind = 5
  · exact does_remove d r k x H1 H2 w0 w k5 h1 h2 hk s hx
  by_cases k6 : x.kind = 6
  · exact does_fuse d r k x H1 H2 w0 w k6 h1 h2 hk s hx
  by_cases k7 : x.kind = 7
  · exact does_crash d r k x H1 H2 w0 w k7 h1 h2 hk s hx
  exact does_read d r k x H1 H2 w0 w ⟨k1, k2, k3, k4, k5, k6, k7⟩ h1 h2 hk s hx
end Go.Proofs.Ytebmbfiiadffjaa

