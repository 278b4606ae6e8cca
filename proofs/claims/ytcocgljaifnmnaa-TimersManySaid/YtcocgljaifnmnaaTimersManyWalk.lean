/- TimersMany. -/
import Derived.Test.YtcocgljaifnmnaaTmH
namespace Go.Proofs.Ytcocgljaifnmnaa
open Go.RowKit Go.MapKept
attribute [local go_sem ↓] Go.wp_at_zero Go.wp_at_succ

def enc (x : Int × Int) : Value × Value := (ii x.1, ii x.2)
theorem and_1023 (x : Int) : bits .and .i64 x 1023 = x % 1024 := by
  show IntKind.i64.wrap ((BitVec.ofInt 64 x &&& BitVec.ofInt 64 1023).toNat : Int) = _
  have h1 : (BitVec.ofInt 64 1023).toNat = 2 ^ 10 - 1 := by decide
  rw [BitVec.toNat_and, h1, Nat.and_two_pow_sub_one_eq_mod, BitVec.toNat_ofInt, IntKind.wrap_i64]
  omega
/-- Sets of numbers with times: no number twice, the times below wide. -/
structure MyS (S : List (Int × Int)) (wide : Int) (k : Nat) : Prop where
  nodup : (S.map Prod.fst).Nodup
  len : S.length ≤ k
  at' : ∀ x ∈ S, x.2 < wide
theorem hasS_split {S : List (Int × Int)} {id : Int} (h : hasS S id = true) (hn : (S.map Prod.fst).Nodup) : ∃ A B a, S = A ++ (id, a) :: B ∧ ∀ at', (S.map fun x => if x.1 = id then (id, at') else x) = A ++ (id, at') :: B := by
  unfold hasS at h
  obtain ⟨x, hx, he⟩ := List.any_eq_true.1 h
  obtain ⟨A, B, rfl⟩ := List.append_of_mem hx
  have e : x.1 = id := by simpa using he
  subst e
  refine ⟨A, B, x.2, rfl, fun at' => ?_⟩
  rw [List.map_append, List.map_cons, if_pos rfl]
  rw [List.map_append, List.map_cons] at hn
  obtain ⟨n1, n2, n3⟩ := List.nodup_append.1 hn
  have hA : ∀ y ∈ A, y.1 ≠ x.1 := fun y hy => n3 y.1 (List.mem_map.2 ⟨y, hy, rfl⟩) x.1 (by simp)
  have hB : ∀ y ∈ B, y.1 ≠ x.1 := fun y hy e => (List.nodup_cons.1 n2).1 (by rw [← e]; exact List.mem_map.2 ⟨y, hy, rfl⟩)
  have eA : (A.map fun y => if y.1 = x.1 then (x.1, at') else y) = A := by
    conv => rhs; rw [← List.map_id A]
    exact List.map_congr_left fun y hy => by rw [if_neg (hA y hy)]; rfl
  have eB : (B.map fun y => if y.1 = x.1 then (x.1, at') else y) = B := by
    conv => rhs; rw [← List.map_id B]
    exact List.map_congr_left fun y hy => by rw [if_neg (hB y hy)]; rfl
  rw [eA, eB]
theorem hasS_false {S : List (Int × Int)} {id : Int} (h : hasS S id = false) : ∀ x ∈ S, x.1 ≠ id := fun x hx e => by
  have : hasS S id = true := by unfold hasS; exact List.any_eq_true.2 ⟨x, hx, by simp [e]⟩
  rw [this] at h; cases h
theorem mys_set {S : List (Int × Int)} {wide : Int} {k : Nat} (h : MyS S wide k) (hk : k ≤ 4000) (id at' : Int) (ha : at' < wide) : (setS S id at').1 = true ∧ MyS (setS S id at').2 wide (k + 1) ∧ (id, at') ∈ (setS S id at').2 := by
  unfold setS
  cases hh : hasS S id
  · rw [if_neg (by simp), if_neg (by have := h.len; omega)]
    refine ⟨rfl, ⟨?_, by have := h.len; simp; omega, fun x hx => ?_⟩, by simp⟩
    · rw [List.map_append]
      refine List.nodup_append.2 ⟨h.nodup, by simp, fun x hx y hy e => ?_⟩
      obtain ⟨z, hz, rfl⟩ := List.mem_map.1 hx
      simp at hy; subst hy
      exact hasS_false hh z hz e
    · rcases List.mem_append.1 hx with hx | hx
      · exact h.at' x hx
      · rw [List.mem_singleton] at hx; subst hx; exact ha
  · rw [if_pos rfl]
    obtain ⟨A, B, a, rfl, e⟩ := hasS_split hh h.nodup
    simp only
    rw [e at']
    refine ⟨trivial, ⟨by have := h.nodup; simpa using this, by have := h.len; simp at this ⊢; omega, fun x hx => ?_⟩, by simp⟩
    rcases List.mem_append.1 hx with hx | hx
    · exact h.at' x (List.mem_append_left _ hx)
    · rcases List.mem_cons.1 hx with rfl | hx
      · exact ha
      · exact h.at' x (List.mem_append_right _ (List.mem_cons_of_mem _ hx))
/-- The law's own map goes as the set does. -/
theorem map_set {S : List (Int × Int)} {wide : Int} {k : Nat} (h : MyS S wide k) (hk : k ≤ 4000) {w : World} {m : Nat} {o : Obj} (hm : MapObj (.int .i64) o (S.map enc)) (hb : w.heap[m]? = some o) (id at' : Int) :
    ∃ o', (Instr.mapUpdate 25 (.map (some m)) (ii id) (ii at')).run Try.prog w = .ok () (World.putObj w m o') ∧ MapObj (.int .i64) o' ((setS S id at').2.map enc) := by
  unfold setS
  cases hh : hasS S id
  · rw [if_neg (by simp), if_neg (by have := h.len; omega)]
    obtain ⟨o', h1, h2⟩ := run_mupdate_no (P := Try.prog) Try.underlying25 Try.underlying3 hm (k := ii id) (by exact rfl) hb (fun p hp e => by
      obtain ⟨x, hx, rfl⟩ := List.mem_map.1 hp
      exact hasS_false hh x hx (by simpa [enc] using e)) (ii at')
    exact ⟨o', h1, by rw [List.map_append]; exact h2⟩
  · rw [if_pos rfl]
    obtain ⟨A, B, a, rfl, e⟩ := hasS_split hh h.nodup
    simp only
    rw [e at']
    rw [List.map_append, List.map_cons] at hm
    obtain ⟨o', h1, h2⟩ := run_mupdate (P := Try.prog) Try.underlying25 Try.underlying3 (k := ii id) (v0 := ii a) hm (by exact rfl) hb (ii at')
    exact ⟨o', h1, by rw [List.map_append, List.map_cons]; exact h2⟩
theorem all_due {xs S' S : List (Int × Int)} {wide : Int} {k : Nat} (h : MyS S wide k) (hp : (xs ++ S').Perm S) (hb : ∀ y ∈ S', wide < y.2) : S' = [] ∧ xs.Perm S := by
  have : S' = [] := by
    rw [List.eq_nil_iff_forall_not_mem]
    intro y hy
    have h1 := hb y hy
    have h2 := h.at' y (hp.mem_iff.1 (List.mem_append_right _ hy))
    omega
  subst this
  exact ⟨rfl, by simpa using hp⟩
theorem next_of {xs S : List (Int × Int)} {wide : Int} {k : Nat} (h : MyS S wide k) (hp : xs.Perm S) (hpw : xs.Pairwise eLe) {i : Nat} {x y : Int × Int} (hx : xs[i]? = some x) (hy : xs[i + 1]? = some y) : x.2 < y.2 ∨ (x.2 = y.2 ∧ x.1 < y.1) := by
  obtain ⟨h1, e1⟩ := List.getElem?_eq_some_iff.1 hx
  obtain ⟨h2, e2⟩ := List.getElem?_eq_some_iff.1 hy
  have a := List.pairwise_iff_getElem.1 hpw i (i + 1) h1 h2 (by omega)
  have hn : (xs.map Prod.fst).Nodup := ((hp.map Prod.fst).nodup_iff).2 h.nodup
  have b := List.pairwise_iff_getElem.1 hn i (i + 1) (by simpa using h1) (by simpa using h2) (by omega)
  simp only [List.getElem_map] at b
  rw [e1, e2] at a b
  unfold eLe at a
  omega
def ManyRel2 (G : Heaplet) (w : World) (v : Value) (wr : World) : Prop := ∃ j : Nat, v = .int .i64 ((j : Int) + 1) ∧ Step w [] wr G
theorem sl_cell {E g n c : Nat} {xs : List (Int × Int)} {Hs : Heaplet} (h : SlRep E 1 (some ⟨g, 0, none⟩) n c (xs.map fun (x : Int × Int) => ii x.1) Hs) {w : World} (o : Own w Hs) {i : Nat} {x : Int × Int} (hi : xs[i]? = some x) : w.cell? ⟨g, i, none⟩ = some (ii x.1) := by
  obtain ⟨g', e, h1, _⟩ := slRep_at h o (i := i) (v := ii x.1) (by rw [List.getElem?_map, hi]; rfl)
  cases e
  simpa using h1
def ManyRel (b m : Nat) (wide : Int) (w : World) (v : Value) (wr : World) : Prop :=
  ∃ (k : Nat) (S : List (Int × Int)) (H : Heaplet) (o : Obj), k ≤ 600 ∧ v = .int .i64 (k : Nat) ∧ MyS S wide k ∧ MapObj (.int .i64) o (S.map enc) ∧ TmS b S H ∧ Step w [] wr (H ++ [(m, o)])
set_option maxHeartbeats 4000000 in
set_option maxRecDepth 100000 in
theorem timersMany_walk (n step wide : Int) (w : World) (_ : (Lit.int .i64 n).wf = true) (_ : (Lit.int .i64 step).wf = true) (_ : (Lit.int .i64 wide).wf = true) :
    Calls Try.prog 3 #[.int .i64 n, .int .i64 step, .int .i64 wide] w fun e w' => e = .returned (.bool true) ∧ Below w.heap.size w w' := by
  suffices hs : Calls Try.prog 3 #[.int .i64 n, .int .i64 step, .int .i64 wide] w (LawPost w) from hs.mono fun e w' hp => ⟨hp.1, hp.2.nil_below⟩
  by_cases hg : n < 1 ∨ 600 < n ∨ step < 1 ∨ 1048576 < step ∨ wide < 1 ∨ 1000 < wide
  · have hg' : (n < 1) ∨ (1 ≤ n ∧ 600 < n) ∨ (1 ≤ n ∧ n ≤ 600 ∧ step < 1) ∨ (1 ≤ n ∧ n ≤ 600 ∧ 1 ≤ step ∧ 1048576 < step) ∨ (1 ≤ n ∧ n ≤ 600 ∧ 1 ≤ step ∧ step ≤ 1048576 ∧ wide < 1) ∨ (1 ≤ n ∧ n ≤ 600 ∧ 1 ≤ step ∧ step ≤ 1048576 ∧ 1 ≤ wide ∧ 1000 < wide) := by omega
    clear hg
    rcases hg' with g | ⟨g1, g⟩ | ⟨g1, g2, g⟩ | ⟨g1, g2, g3, g⟩ | ⟨g1, g2, g3, g4, g⟩ | ⟨g1, g2, g3, g4, g5, g⟩
    all_goals
      go_enter Try.func3, Try.ntmps3
      go_wp2_with (go_at_call 8; refine (known_any _).mono ?_; rintro e w3 ⟨rfl, hs3⟩)
      go_ret
      exact ⟨rfl, hs3⟩
  have g1 : 1 ≤ n := by omega
  have g2 : n ≤ 600 := by omega
  have g3 : 1 ≤ step := by omega
  have g4 : step ≤ 1048576 := by omega
  have g5 : 1 ≤ wide := by omega
  have g6 : wide ≤ 1000 := by omega
  clear hg
  go_enter Try.func3, Try.ntmps3
  have hmm := @run_makeMap Try.prog
  go_wp2_with fail
  refine (new_any _).mono ?_
  rintro e w1 ⟨b, H1, rfl, t1, s1⟩
  go_wp2_with fail
  have s2 := s1.alloc (.map #[] 0)
  generalize w1.heap.size = m at s2 ⊢
  refine Step.gen s2 ?_
  clear s2
  intro W s2
  replace s2 := Lib.hid s2
  replace t1 := Lib.hid t1
  go_loopw [9] (fun v wr => ManyRel b m wide w v wr) (fun v _ => 600 - (intOf v).toNat)
  case atStart =>
    exact ⟨0, [], H1, _, by omega, rfl, ⟨by simp, by simp, by simp⟩, mapObj_new _, t1.out, s2.out.perm (List.Perm.refl _) (List.perm_append_comm (l₁ := [(m, Obj.map #[] 0)]) (l₂ := H1))⟩
  case round =>
    clear s1 s2 t1 hmm
    obtain ⟨k, S, H, o, hk, rfl, hS, hm, ht, hs⟩ := hrel
    have d1 : (0 : Int) ≤ (k : Int) := by omega
    have hSl := hS.len
    have hob : wr.heap[m]? = some o := hs.own.right.h0
    by_cases hlt : (k : Int) < n
    · have hk6 : (k : Int) ≤ 600 := by omega
      obtain ⟨P, hP⟩ : ∃ P, (k : Int) * step = P := ⟨_, rfl⟩
      have p0 : 0 ≤ P := by rw [← hP]; exact Int.mul_nonneg (by omega) (by omega)
      have p1 : P ≤ 600 * 1048576 := by rw [← hP]; exact Int.mul_le_mul hk6 g4 (by omega) (by omega)
      have e1 := and_1023 P
      obtain ⟨I, hI⟩ : ∃ I, P % 1024 = I := ⟨_, rfl⟩
      obtain ⟨A, hA⟩ : ∃ A, P % wide = A := ⟨_, rfl⟩
      rw [hI] at e1
      have hA1 : A < wide := by rw [← hA]; exact Int.emod_lt_of_pos _ (by omega)
      obtain ⟨m1, m2, m3⟩ := mys_set hS (by omega) I A hA1
      obtain ⟨o', hrun, hm'⟩ := map_set hS (by omega) hm hob I A
      have s3 := Step.putObj (A := H) (B := []) o' hs
      have hob3 : (World.putObj wr m o').heap[m]? = some o' := s3.own.right.h0
      have hlk := run_mlookup (P := Try.prog) Try.underlying25 Try.underlying3 hm' (k := ii I) (v := ii A) (by exact rfl) hob3 (List.mem_map.2 ⟨_, m3, rfl⟩) false
      simp only [Bool.false_eq_true, if_false] at hlk
      have hx := Lib.hid (set_any b S I A H (World.putObj wr m o') ht s3.own.left (by omega))
      generalize setS S I A = X at *
      obtain ⟨r, S'⟩ := X
      simp only at m1 m2 m3 hm' hx
      subst m1
      unfold SetPost at hx
      simp only at hx
      replace hI := Lib.hid hI
      clear hS hm ht hSl m3 hob hob3
      go_wp2_with (first | (at_mapUpdate; refine wpList_mupdate rfl _ _ _ _ rfl (by rfl) (by rfl) (by rfl) hrun ?_) | (at_lookup; refine wpList_mlookup rfl _ _ _ _ rfl (by rfl) (by rfl) hlk ?_))
      refine hx.out.mono ?_
      rintro e w3 ⟨rfl, H3, t3, h3⟩
      have s4 := s3.call h3
      clear s3 hs
      go_wp2_with fail
      exact ⟨⟨k + 1, S', H3, o', by omega, by go_num, m2, hm', t3, s4⟩, by simp [intOf]; omega⟩
    · have d2 : n ≤ (k : Int) := by omega
      have hln := Lib.hid (lenS_any b S H wr ht hs.own.left)
      have hml := run_mlen (P := Try.prog) Try.underlying25 hm hob 3
      rw [List.length_map] at hml
      have hdu := Lib.hid (due_any b S wide H wr ht hs.own.left (by omega))
      unfold DuePost at hdu
      have q1 : ((S.length : Int) != (S.length : Int)) = false := by simp
      have hS6 : (S.length : Int) ≤ 600 := by omega
      clear ht hlt
      go_wp2_with (first | (at_len; refine wpList_mlen rfl _ _ rfl (by rfl) hml ?_))
      refine hln.out.mono ?_
      rintro e w2 ⟨rfl, rfl⟩
      go_wp2_with (first | (at_len; refine wpList_mlen rfl _ _ rfl (by rfl) hml ?_))
      refine hdu.out.mono ?_
      rintro e w3 ⟨a, c, xs, S', H3, HR, rfl, hr, hp, hpw, hle, hgt, t3, h3⟩
      obtain ⟨rfl, hpp⟩ := all_due hS hp hgt
      have s3 := hs.call h3
      have hob3 : w3.heap[m]? = some o := s3.own.right.h0
      have hml3 := run_mlen (P := Try.prog) Try.underlying25 hm hob3 3
      rw [List.length_map] at hml3
      have hxl := hpp.length_eq
      have hln3 := Lib.hid (lenS_any b [] H3 w3 t3 s3.own.left.left)
      simp only [List.length_nil] at hln3
      have hsl := Lib.hid (fun i x y (hx : xs[i]? = some x) (hy : xs[i + 1]? = some y) => next_of hS hpp hpw hx hy)
      have hlk := Lib.hid (fun (x : Int × Int) (hx : x ∈ xs) (W : World) (hb : W.heap[m]? = some o) => run_mlookup (P := Try.prog) (w := W) Try.underlying25 Try.underlying3 hm (k := ii x.1) (v := ii x.2) (by exact rfl) hb (List.mem_map.2 ⟨x, hpp.mem_iff.1 hx, rfl⟩) false)
      simp only [Bool.false_eq_true, if_false] at hlk
      have hx6 : (xs.length : Int) ≤ 600 := by omega
      have q2 : ((xs.length : Int) != (S.length : Int)) = false := by rw [hxl]; simp
      replace hxl := Lib.hid hxl
      clear hp hle hgt t3 h3 hpw hpp hm hS hml hob hdu hln
      go_wp2_with (first | (at_len; refine wpList_mlen rfl _ _ rfl (by rfl) hml3 ?_))
      refine hln3.out.mono ?_
      rintro e w4 ⟨rfl, rfl⟩
      replace s3 := Lib.hid s3
      go_wp2_with fail
      go_loopw [12] (fun v wr => ManyRel2 ((H3 ++ HR) ++ [(m, o)]) w v wr) (fun v _ => xs.length - (intOf v).toNat)
      case atStart => exact ⟨0, by go_num, s3.out⟩
      case round =>
        clear s3 hs hml3 hob3
        obtain ⟨j, rfl, hs⟩ := hrel
        have d1 : (0 : Int) ≤ (j : Int) := by omega
        by_cases hj : j + 1 < xs.length
        · have d3 : (j : Int) + 1 < (xs.length : Int) := by omega
          obtain ⟨x, hx⟩ : ∃ x, xs[j]? = some x := ⟨_, List.getElem?_eq_getElem (by omega)⟩
          obtain ⟨y, hy⟩ : ∃ y, xs[j + 1]? = some y := ⟨_, List.getElem?_eq_getElem hj⟩
          have hxy := hsl.out j x y hx hy
          have hlx := hlk.out x (List.mem_of_getElem? hx)
          have hly := hlk.out y (List.mem_of_getElem? hy)
          obtain ⟨g, rfl, _, _⟩ := slRep_at hr hs.own.left.right (i := j) (v := ii x.1) (by rw [List.getElem?_map, hx]; rfl)
          have cx := sl_cell hr hs.own.left.right hx
          have cy := sl_cell hr hs.own.left.right hy
          have hob : wr.heap[m]? = some o := hs.own.right.h0
          obtain ⟨xi, xa⟩ := x
          obtain ⟨yi, ya⟩ := y
          simp only at hxy hlx hly cx cy
          obtain ⟨J, hJ⟩ : ∃ J, j + 1 = J := ⟨_, rfl⟩
          rw [hJ] at cy
          have hJ' : (j : Int) + 1 = (J : Int) := by omega
          have e3 : IntKind.i64.wrap ((J : Int) - 1) = (j : Int) := by rw [IntWalk.i64_in _ (by omega)]; omega
          rw [hJ'] at d3 ⊢
          have d4 : (0 : Int) ≤ (J : Int) := by omega
          have d5 : (j : Int) < (xs.length : Int) := by omega
          replace hJ := Lib.hid hJ
          replace hJ' := Lib.hid hJ'
          replace hx := Lib.hid hx
          replace hy := Lib.hid hy
          replace hlx := Lib.hid hlx
          replace hly := Lib.hid hly
          go_upto_region 23 with fail
          go_cut [13, 14] (fun v13 v14 wc => v13 = ii xa ∧ v14 = ii ya ∧ Step w [] wc ((H3 ++ HR) ++ [(m, o)]))
          case first =>
            go_wp2_with fail
            have sd := hs.drew
            refine wp_region_J 14 (fun w' => w'.heap[m]? = some o ∧ w'.cell? ⟨g, j, none⟩ = some (ii xi) ∧ w'.cell? ⟨g, J, none⟩ = some (ii yi)) (by kernel_rfl) ?_ (fun hF => ?_)
            · (try dsimp only)
              all_goals (exact ⟨hob, cx, cy⟩)
            refine wpAnyJ_take0 (i := 0) (oi := { dst := some 89, op := Go.Op.move (Go.Operand.tmp 8), type := 25, pos := "law.go:95", after := #[], guard := none }) (v := ?_) rfl (by kernel_rfl) (by kernel_rfl) (by kernel_rfl) (by kernel_rfl) (fun _ _ _ h => h) (by first | exact fun _ => hF | exact fun _ => hF (by kernel_rfl)) (fun w => ?_) (by rfl) ?_
            rotate_left
            · first | (go_simp; done) | (go_simp; with_reducible rfl) | (go_split_ands; go_simp; done)
            try simp only [Act.put, List.setIfInBounds_toArray, List.set_cons_zero, List.set_cons_succ]
            refine wpAnyJ_take0 (i := 1) (oi := { dst := some 90, op := Go.Op.move (Go.Operand.tmp 11), type := 28, pos := "law.go:95", after := #[], guard := none }) (v := ?_) rfl (by kernel_rfl) (by kernel_rfl) (by kernel_rfl) (by kernel_rfl) (fun _ _ _ h => h) (by first | exact fun _ => hF | exact fun _ => hF (by kernel_rfl)) (fun w => ?_) (by rfl) ?_
            rotate_left
            · first | (go_simp; done) | (go_simp; with_reducible rfl) | (go_split_ands; go_simp; done)
            try simp only [Act.put, List.setIfInBounds_toArray, List.set_cons_zero, List.set_cons_succ]
            refine wpAnyJ_take0 (i := 2) (oi := { dst := some 91, op := Go.Op.move (Go.Operand.tmp 12), type := 3, pos := "law.go:95", after := #[], guard := none }) (v := ?_) rfl (by kernel_rfl) (by kernel_rfl) (by kernel_rfl) (by kernel_rfl) (fun _ _ _ h => h) (by first | exact fun _ => hF | exact fun _ => hF (by kernel_rfl)) (fun w => ?_) (by rfl) ?_
            rotate_left
            · first | (go_simp; done) | (go_simp; with_reducible rfl) | (go_split_ands; go_simp; done)
            try simp only [Act.put, List.setIfInBounds_toArray, List.set_cons_zero, List.set_cons_succ]
            refine wpAnyJ_take0 (i := 3) (oi := { dst := some 92, op := Go.Op.binOp Go.BinOp.sub 3 (Go.Operand.tmp 91) (Go.Operand.const (Go.Value.int Go.IntKind.i64 1)) 3, type := 3, pos := "law.go:95", after := #[{ on := 2, ground := Go.Ground.data }], guard := none }) (v := ?_) rfl (by kernel_rfl) (by kernel_rfl) (by kernel_rfl) (by kernel_rfl) (fun _ _ _ h => h) (by first | exact fun _ => hF | exact fun _ => hF (by kernel_rfl)) (fun w => ?_) (by rfl) ?_
            rotate_left
            · first | (go_simp; done) | (go_simp; with_reducible rfl) | (go_split_ands; go_simp; done)
            try simp only [Act.put, List.setIfInBounds_toArray, List.set_cons_zero, List.set_cons_succ]
            refine wpAnyJ_take0 (i := 4) (oi := { dst := some 93, op := Go.Op.indexAddr 28 (Go.Operand.tmp 90) (Go.Operand.tmp 92), type := 0, pos := "law.go:95", after := #[{ on := 1, ground := Go.Ground.data }, { on := 3, ground := Go.Ground.data }], guard := none }) (v := ?_) rfl (by kernel_rfl) (by kernel_rfl) (by kernel_rfl) (by kernel_rfl) (fun _ _ _ h => h) (by first | exact fun _ => hF | exact fun _ => hF (by kernel_rfl)) (fun w => ?_) (by rfl) ?_
            rotate_left
            · first | (go_simp; done) | (go_simp; with_reducible rfl) | (go_split_ands; go_simp; done)
            try simp only [Act.put, List.setIfInBounds_toArray, List.set_cons_zero, List.set_cons_succ]
            refine wpAnyJ_take (i := 5) (oi := { dst := some 94, op := Go.Op.load 3 (Go.Operand.tmp 93), type := 3, pos := "law.go:95", after := #[{ on := 4, ground := Go.Ground.data }], guard := none }) (v := ?_) [14] rfl (by kernel_rfl) (by kernel_rfl) (by kernel_rfl) (by kernel_rfl) (by kernel_rfl) (fun _ _ _ h => h) (by first | exact hF | exact hF (by kernel_rfl)) (fun w hFw => ?_) (by rfl) ?_
            rotate_left
            · ((try dsimp only at hFw); first | (go_simp; done) | (go_simp; with_reducible rfl) | (go_split_ands; go_simp; done))
            try simp only [Act.put, List.setIfInBounds_toArray, List.set_cons_zero, List.set_cons_succ]
            refine wpAnyJ_take (i := 6) (oi := { dst := some 95, op := Go.Op.lookup 25 (Go.Operand.tmp 89) (Go.Operand.tmp 94) false, type := 3, pos := "law.go:95", after := #[{ on := 0, ground := Go.Ground.data }, { on := 5, ground := Go.Ground.data }], guard := none }) (v := ii xa) [14] rfl (by kernel_rfl) (by kernel_rfl) (by kernel_rfl) (by kernel_rfl) (by kernel_rfl) (fun _ _ _ h => h) (by first | exact hF | exact hF (by kernel_rfl)) (fun w hFw => ?_) (by rfl) ?_
            · ((try dsimp only at hFw); exact exec_mlookup (mv := .map (some m)) (key := ii xi) _ _ _ _ rfl (by rfl) (by rfl) (hlx.out w hFw.1))
            try simp only [Act.put, List.setIfInBounds_toArray, List.set_cons_zero, List.set_cons_succ]
            refine wpAnyJ_take0 (i := 7) (oi := { dst := some 96, op := Go.Op.move (Go.Operand.tmp 8), type := 25, pos := "law.go:95", after := #[{ on := 13, ground := Go.Ground.gcOnly Go.Departure.lateStores }], guard := none }) (v := ?_) rfl (by kernel_rfl) (by kernel_rfl) (by kernel_rfl) (by kernel_rfl) (fun _ _ _ h => h) (by first | exact fun _ => hF | exact fun _ => hF (by kernel_rfl)) (fun w => ?_) (by rfl) ?_
            rotate_left
            · first | (go_simp; done) | (go_simp; with_reducible rfl) | (go_split_ands; go_simp; done)
            try simp only [Act.put, List.setIfInBounds_toArray, List.set_cons_zero, List.set_cons_succ]
            refine wpAnyJ_take0 (i := 8) (oi := { dst := some 97, op := Go.Op.move (Go.Operand.tmp 11), type := 28, pos := "law.go:95", after := #[{ on := 13, ground := Go.Ground.gcOnly Go.Departure.lateStores }], guard := none }) (v := ?_) rfl (by kernel_rfl) (by kernel_rfl) (by kernel_rfl) (by kernel_rfl) (fun _ _ _ h => h) (by first | exact fun _ => hF | exact fun _ => hF (by kernel_rfl)) (fun w => ?_) (by rfl) ?_
            rotate_left
            · first | (go_simp; done) | (go_simp; with_reducible rfl) | (go_split_ands; go_simp; done)
            try simp only [Act.put, List.setIfInBounds_toArray, List.set_cons_zero, List.set_cons_succ]
            refine wpAnyJ_take0 (i := 9) (oi := { dst := some 98, op := Go.Op.move (Go.Operand.tmp 12), type := 3, pos := "law.go:95", after := #[{ on := 13, ground := Go.Ground.gcOnly Go.Departure.lateStores }], guard := none }) (v := ?_) rfl (by kernel_rfl) (by kernel_rfl) (by kernel_rfl) (by kernel_rfl) (fun _ _ _ h => h) (by first | exact fun _ => hF | exact fun _ => hF (by kernel_rfl)) (fun w => ?_) (by rfl) ?_
            rotate_left
            · first | (go_simp; done) | (go_simp; with_reducible rfl) | (go_split_ands; go_simp; done)
            try simp only [Act.put, List.setIfInBounds_toArray, List.set_cons_zero, List.set_cons_succ]
            refine wpAnyJ_take0 (i := 10) (oi := { dst := some 99, op := Go.Op.indexAddr 28 (Go.Operand.tmp 97) (Go.Operand.tmp 98), type := 0, pos := "law.go:95", after := #[{ on := 8, ground := Go.Ground.data }, { on := 9, ground := Go.Ground.data }, { on := 13, ground := Go.Ground.gcOnly Go.Departure.lateStores }], guard := none }) (v := ?_) rfl (by kernel_rfl) (by kernel_rfl) (by kernel_rfl) (by kernel_rfl) (fun _ _ _ h => h) (by first | exact fun _ => hF | exact fun _ => hF (by kernel_rfl)) (fun w => ?_) (by rfl) ?_
            rotate_left
            · first | (go_simp; done) | (go_simp; with_reducible rfl) | (go_split_ands; go_simp; done)
            try simp only [Act.put, List.setIfInBounds_toArray, List.set_cons_zero, List.set_cons_succ]
            refine wpAnyJ_take (i := 11) (oi := { dst := some 100, op := Go.Op.load 3 (Go.Operand.tmp 99), type := 3, pos := "law.go:95", after := #[{ on := 10, ground := Go.Ground.data }, { on := 13, ground := Go.Ground.gcOnly Go.Departure.lateStores }], guard := none }) (v := ?_) [14] rfl (by kernel_rfl) (by kernel_rfl) (by kernel_rfl) (by kernel_rfl) (by kernel_rfl) (fun _ _ _ h => h) (by first | exact hF | exact hF (by kernel_rfl)) (fun w hFw => ?_) (by rfl) ?_
            rotate_left
            · ((try dsimp only at hFw); first | (go_simp; done) | (go_simp; with_reducible rfl) | (go_split_ands; go_simp; done))
            try simp only [Act.put, List.setIfInBounds_toArray, List.set_cons_zero, List.set_cons_succ]
            refine wpAnyJ_take (i := 12) (oi := { dst := some 101, op := Go.Op.lookup 25 (Go.Operand.tmp 96) (Go.Operand.tmp 100) false, type := 3, pos := "law.go:95", after := #[{ on := 7, ground := Go.Ground.data }, { on := 11, ground := Go.Ground.data }, { on := 13, ground := Go.Ground.gcOnly Go.Departure.lateStores }], guard := none }) (v := ii ya) [14] rfl (by kernel_rfl) (by kernel_rfl) (by kernel_rfl) (by kernel_rfl) (by kernel_rfl) (fun _ _ _ h => h) (by first | exact hF | exact hF (by kernel_rfl)) (fun w hFw => ?_) (by rfl) ?_
            · ((try dsimp only at hFw); exact exec_mlookup (mv := .map (some m)) (key := ii yi) _ _ _ _ rfl (by rfl) (by rfl) (hly.out w hFw.1))
            try simp only [Act.put, List.setIfInBounds_toArray, List.set_cons_zero, List.set_cons_succ]
            refine wpAnyJ_ready (rs := [13]) (by kernel_rfl) (by simp) ?_
            refine AllJ.cons (o := { dst := some 13, op := Go.Op.assign (Go.Operand.tmp 95), type := 3, pos := "law.go:95", after := #[{ on := 6, ground := Go.Ground.data }, { on := 0, ground := Go.Ground.phase }, { on := 1, ground := Go.Ground.phase }, { on := 2, ground := Go.Ground.phase }, { on := 3, ground := Go.Ground.phase }, { on := 4, ground := Go.Ground.phase }, { on := 5, ground := Go.Ground.phase }, { on := 6, ground := Go.Ground.phase }, { on := 7, ground := Go.Ground.textOnly Go.Departure.lateStores }, { on := 8, ground := Go.Ground.textOnly Go.Departure.lateStores }, { on := 9, ground := Go.Ground.textOnly Go.Departure.lateStores }, { on := 10, ground := Go.Ground.textOnly Go.Departure.lateStores }, { on := 11, ground := Go.Ground.textOnly Go.Departure.lateStores }, { on := 12, ground := Go.Ground.textOnly Go.Departure.lateStores }], guard := none }) rfl (fun Kr hKr => ?_) ?_
            · go_simp
              refine hKr.out _ _ (fun hJ => ?_) (fun hF => ?_)
              · first
                | exact absurd hJ (by decide)
                | (clear hJ; (try dsimp only); all_goals (exact ⟨hob, cx, cy⟩))
              clear hKr
              try simp only [Act.put, List.setIfInBounds_toArray, List.set_cons_zero, List.set_cons_succ]
              refine wpAnyJ_ready (rs := [14]) (by kernel_rfl) (by simp) ?_
              refine AllJ.cons (o := { dst := some 14, op := Go.Op.assign (Go.Operand.tmp 101), type := 3, pos := "law.go:95", after := #[{ on := 12, ground := Go.Ground.data }, { on := 13, ground := Go.Ground.chain }, { on := 0, ground := Go.Ground.phase }, { on := 1, ground := Go.Ground.phase }, { on := 2, ground := Go.Ground.phase }, { on := 3, ground := Go.Ground.phase }, { on := 4, ground := Go.Ground.phase }, { on := 5, ground := Go.Ground.phase }, { on := 6, ground := Go.Ground.phase }, { on := 7, ground := Go.Ground.phase }, { on := 8, ground := Go.Ground.phase }, { on := 9, ground := Go.Ground.phase }, { on := 10, ground := Go.Ground.phase }, { on := 11, ground := Go.Ground.phase }, { on := 12, ground := Go.Ground.phase }, { on := 13, ground := Go.Ground.phase }], guard := none }) rfl (fun Kr hKr => ?_) ?_
              · go_simp
                refine hKr.out _ _ (fun hJ => ?_) (fun hF => ?_)
                · first
                  | exact absurd hJ (by decide)
                  | (clear hJ; (try dsimp only); all_goals (exact ⟨hob, cx, cy⟩))
                clear hKr
                try simp only [Act.put, List.setIfInBounds_toArray, List.set_cons_zero, List.set_cons_succ]
                refine wpAnyJ_done (by kernel_rfl) ?_ _
                go_wp2_with fail
                go_meet
                exact ⟨rfl, rfl, sd⟩
              exact AllJ.nil
            exact AllJ.nil
          case rest =>
            clear hob cx cy hs
            obtain ⟨rfl, rfl, hs⟩ := hcut
            have cx := sl_cell hr hs.own.left.right hx.out
            have cy := sl_cell hr hs.own.left.right hy.out
            simp only at cx cy
            rw [hJ.out] at cy
            have hcase : (decide (ya < xa) = false ∧ (xa == ya) = false) ∨ (decide (ya < xa) = false ∧ (xa == ya) = true ∧ decide (yi ≤ xi) = false) := by
              rcases hxy with h | ⟨h, h'⟩
              · exact .inl ⟨decide_eq_false (by omega), beq_eq_false_iff_ne.2 (by omega)⟩
              · exact .inr ⟨decide_eq_false (by omega), by simp [h], decide_eq_false (by omega)⟩
            clear hxy
            rcases hcase with ⟨r1, r2⟩ | ⟨r1, r2, r3⟩
            all_goals
              go_wp2_with fail
              go_quiet (fail)
              go_wp2_with fail
              exact ⟨⟨j + 1, by rw [← hJ'.out]; go_num, hs.drewN _⟩, by simp [intOf]; omega⟩
        · have d3 : (xs.length : Int) ≤ (j : Int) + 1 := by omega
          go_wp2_with fail
          refine (known_any _).mono ?_
          rintro e w7 ⟨rfl, hs7⟩
          go_wp2
          go_ret
          exact ⟨rfl, (hs.call0 hs7).forget (A := [])⟩
end Go.Proofs.Ytcocgljaifnmnaa
