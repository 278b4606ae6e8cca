/- Timers that are nil; known. -/
import Derived.Test.YtcocgljaifnmnaaTmG
import Derived.Test.YtcocgljaifnmnaaTmInts
namespace Go.Proofs.Ytcocgljaifnmnaa
open Go.RowKit Go.MapKept
attribute [local go_sem ↓] Go.wp_at_zero Go.wp_at_succ

theorem len_nil (w : World) : Calls Try.prog 11 #[.pointer none] w fun e w' => e = .returned (.int .i64 0) ∧ w = w' := by
  go_enter Try.func11, Try.ntmps11
  go_wp2
  go_ret
  exact ⟨rfl, rfl⟩
theorem next_nil (w : World) : Calls Try.prog 18 #[.pointer none] w fun e w' => e = .returned (.tuple #[.int .i64 0, .int .i64 0, .bool false]) ∧ w = w' := by
  go_enter Try.func18, Try.ntmps18
  go_wp2_with (go_at_call 11; refine (len_nil _).mono ?_; rintro e w' ⟨rfl, rfl⟩)
  go_ret3
  exact ⟨rfl, rfl⟩
theorem set_nil (id at' : Int) (w : World) : Calls Try.prog 10 #[.pointer none, .int .i64 id, .int .i64 at'] w fun e w' => e = .returned (.bool false) ∧ w = w' := by
  go_enter Try.func10, Try.ntmps10
  go_wp2_with fail
  go_ret
  exact ⟨rfl, rfl⟩
theorem cancel_nil (id : Int) (w : World) : Calls Try.prog 14 #[.pointer none, .int .i64 id] w fun e w' => e = .returned (.tuple #[.int .i64 0, .bool false]) ∧ w = w' := by
  go_enter Try.func14, Try.ntmps14
  go_wp2_with fail
  go_ret2
  exact ⟨rfl, rfl⟩
theorem due_nil (now : Int) (w : World) : Calls Try.prog 12 #[.pointer none, .int .i64 now] w fun e w' => e = .returned (.slice none 0 0) ∧ w = w' := by
  go_enter Try.func12, Try.ntmps12
  go_wp2_with fail
  refine (next_nil _).mono ?_
  rintro e w' ⟨rfl, rfl⟩
  go_wp2_with fail
  go_loop [5, 8] (fun v5 v8 => v5 = .slice none 0 0 ∧ v8 = .bool false) (fun _ _ => 0)
  case atStart => exact ⟨rfl, rfl⟩
  case round =>
    obtain ⟨rfl, rfl⟩ := hrel
    go_wp2_with fail
    go_ret
    exact ⟨rfl, rfl⟩
/-- The popped of a known set. -/
theorem known_due {xs S' : List (Int × Int)} (h : (xs ++ S').Perm [(7, 5), (3, 5), (9, 6)]) (hp : xs.Pairwise eLe) (h1 : ∀ x ∈ xs, x.2 ≤ 5) (h2 : ∀ y ∈ S', 5 < y.2) : xs.map Prod.fst = [3, 7] ∧ S'.length = 1 := by
  have hx : xs.Perm ([(7, 5), (3, 5), (9, 6)].filter fun (x : Int × Int) => decide (x.2 ≤ 5)) := by
    refine List.Perm.trans ?_ (h.filter _)
    rw [List.filter_append]
    have e1 : xs.filter (fun x => decide (x.2 ≤ 5)) = xs := List.filter_eq_self.2 fun x hx => by simpa using h1 x hx
    have e2 : S'.filter (fun x => decide (x.2 ≤ 5)) = [] := List.filter_eq_nil_iff.2 fun x hx => by have := h2 x hx; simp; omega
    rw [e1, e2, List.append_nil]
  have hx : xs.Perm [((7 : Int), (5 : Int)), (3, 5)] := hx
  have hl := h.length_eq
  have hl2 := hx.length_eq
  simp at hl hl2
  refine ⟨?_, by omega⟩
  match xs, hl2 with
  | [x, y], _ =>
    have hm : (3, 5) ∈ [x, y] := hx.mem_iff.2 (by simp)
    have hm7 : (7, 5) ∈ [x, y] := hx.mem_iff.2 (by simp)
    have hle := (List.pairwise_cons.1 hp).1 y (by simp)
    simp only [List.mem_cons, List.mem_nil_iff, or_false] at hm hm7
    rcases hm with rfl | rfl
    · rcases hm7 with e | rfl
      · cases e
      · rfl
    · rcases hm7 with rfl | e
      · exact absurd hle (by unfold eLe; simp)
      · cases e
set_option maxHeartbeats 1000000 in
theorem known_any (w : World) : Calls Try.prog 8 #[] w (LawPost w) := by
  go_enter Try.func8, Try.ntmps8
  go_wp2_with fail
  refine (new_any _).mono ?_
  rintro e w1 ⟨b, H1, rfl, t1, s1⟩
  have x1 := Lib.hid (set_any b [] 7 5 H1 w1 t1 s1.own (by simp))
  rw [show setS [] 7 5 = (true, [(7, 5)]) from rfl] at x1
  go_wp2_with fail
  refine x1.out.mono ?_
  rintro e w2 ⟨rfl, H2, t2, h2⟩
  have s2 := s1.trans h2
  have x2 := Lib.hid (set_any b [(7, 5)] 3 5 H2 w2 t2 s2.own (by simp))
  rw [show setS [(7, 5)] 3 5 = (true, [(7, 5), (3, 5)]) from rfl] at x2
  go_wp2_with fail
  refine x2.out.mono ?_
  rintro e w3 ⟨rfl, H3, t3, h3⟩
  have s3 := s2.trans h3
  have x3 := Lib.hid (set_any b [(7, 5), (3, 5)] 9 4 H3 w3 t3 s3.own (by simp))
  rw [show setS [(7, 5), (3, 5)] 9 4 = (true, [(7, 5), (3, 5), (9, 4)]) from rfl] at x3
  go_wp2_with fail
  refine x3.out.mono ?_
  rintro e w4 ⟨rfl, H4, t4, h4⟩
  have s4 := s3.trans h4
  have x4 := Lib.hid (set_any b [(7, 5), (3, 5), (9, 4)] 9 6 H4 w4 t4 s4.own (by simp))
  rw [show setS [(7, 5), (3, 5), (9, 4)] 9 6 = (true, [(7, 5), (3, 5), (9, 6)]) from rfl] at x4
  go_wp2_with fail
  refine x4.out.mono ?_
  rintro e w5 ⟨rfl, H5, t5, h5⟩
  have s5 := s4.trans h5
  have x5 := Lib.hid (due_any b [(7, 5), (3, 5), (9, 6)] 5 H5 w5 t5 s5.own (by simp))
  unfold DuePost at x5
  go_wp2_with fail
  refine x5.out.mono ?_
  rintro e w6 ⟨a, c, xs, S', H6, HR, rfl, hr, hp, hpw, ha, hb, t6, h6⟩
  have s6 := s5.trans h6
  obtain ⟨k1, k2⟩ := known_due hp hpw ha hb
  have s7 := s6.alloc (.cells #[.int .i64 3, .int .i64 7] 3)
  have hr' : SlRep 3 1 a xs.length c ((xs.map Prod.fst).map ii) HR := by rw [List.map_map]; exact hr
  have n1 := hr'.numsI s7.own.tail.right
  rw [k1] at n1
  have n2 : RdNums (w6.alloc (.cells #[.int .i64 3, .int .i64 7] 3)) (some ⟨w6.heap.size, 0, none⟩) 2 [3, 7] := ⟨rfl, fun i hi => ⟨w6.heap.size, 0, rfl, by
    obtain ⟨y0, y1⟩ := cells2 s7.own.h0
    match i, hi with
    | 0, _ => exact y0
    | 1, _ => exact y1⟩⟩
  have x6 := Lib.hid (fun G W (s : Step w6 [] W G) => lenS_any b S' H6 W t6 (s6.own.left.after s))
  rw [k2] at x6
  clear x1 x2 x3 x4 x5 hr hr' hp hpw ha hb k1 k2 t1 t2 t3 t4 t5 h2 h3 h4 h5 h6 s1 s2 s3 s4 s5
  have s8 := (Step.refl (Own.nil w6)).alloc (.cells #[.int .i64 3, .int .i64 7] 3)
  go_wp2_with fail
  refine (ints_same _ _ _ _ _ _ _ _ n1 n2 (by simp)).mono ?_
  rintro e w7 ⟨rfl, h7⟩
  have s9 := s8.call0 h7
  go_wp2_with fail
  refine (x6.out _ _ s9).mono ?_
  rintro e w8 ⟨rfl, rfl⟩
  go_wp2_with fail
  go_ret
  exact ⟨rfl, (s7.call0 h7).forget (A := [])⟩
end Go.Proofs.Ytcocgljaifnmnaa
