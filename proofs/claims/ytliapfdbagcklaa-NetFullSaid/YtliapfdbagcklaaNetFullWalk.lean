import Derived.Test.YtliapfdbagcklaaNetTwiceWalk
namespace Go.Proofs.Ytliapfdbagcklaa
open Go.RowKit
attribute [local go_sem ↓] Go.wp_at_zero Go.wp_at_succ

def AllOf (d : List UInt8) (its : List It) : Prop := ∀ x ∈ its, x.t = 2 ∧ x.d = d
theorem AllOf.snoc {d : List UInt8} {its : List It} (h : AllOf d its) {x : It} (ht : x.t = 2) (hd : x.d = d) : AllOf d (its ++ [x]) := by
  intro y hy; rcases List.mem_append.1 hy with g | g
  · exact h y g
  · simp at g; subst g; exact ⟨ht, hd⟩
theorem AllOf.erase {d : List UInt8} {its : List It} (h : AllOf d its) (i : Nat) : AllOf d (its.eraseIdx i) := fun x hx => h x (List.mem_of_mem_eraseIdx hx)
theorem AllOf.kept {d : List UInt8} {its : List It} (h : AllOf d its) : kept 2 its = [] := by
  unfold Go.Proofs.Ytliapfdbagcklaa.kept; rw [List.filter_eq_nil_iff]; intro x hx; simp [It.hits, (h x hx).1]
def TwfPost (b : Nat) (l : List It) (w : World) (H : Heaplet) (e : Ending) (w' : World) : Prop := ∃ H', e = .returned (.bool false) ∧ NetRep 55 b l H' ∧ Step w H w' H'
theorem twice_full (b : Nat) (l : List It) (H : Heaplet) (pick : Int) (w : World) (hn : NetRep 55 b l H) (hw : Own w H) (hl : l.length = 1024) (hp : pick ≤ 9223372036854775807) (hd : ∀ x ∈ l, x.d.length ≤ 140737488355328) :
    Calls Try.prog 15 #[.pointer (some ⟨b, 0, none⟩), .int .i64 pick] w (TwfPost b l w H) :=
  (twice_any b l H pick w hn hw (by omega) hp hd).mono fun e w' hpst => by
    rcases hpst with ⟨h1, _⟩ | ⟨j, hj, h1, h2⟩
    · rw [h1] at hl; simp at hl
    · rcases h2 with ⟨_, h3, H', h4, h5⟩ | ⟨h3, _⟩
      · exact ⟨H', h3, h4, h5⟩
      · omega
def DallPost (b n : Nat) (w : World) (H : Heaplet) (e : Ending) (w' : World) : Prop := ∃ H', e = .returned (.int .i64 n) ∧ NetRep 55 b [] H' ∧ Step w H w' H'
theorem drop_all (b : Nat) (l : List It) (H : Heaplet) (node : Int) (n : Nat) (w : World) (hn : NetRep 55 b l H) (hw : Own w H) (hl : l.length = n) (hn1 : n ≤ 1024) (hk : kept node l = []) :
    Calls Try.prog 17 #[.pointer (some ⟨b, 0, none⟩), .int .i64 node] w (DallPost b n w H) :=
  (drop_any b l H node w hn hw (by omega)).mono fun e w' hp => by
    obtain ⟨H', h1, h2, h3⟩ := hp
    rw [hk] at h1 h2
    exact ⟨H', by rw [h1, hl]; simp, h2, h3⟩
def FullRel (d : List UInt8) (b : Nat) (N : Nat) (w : World) (v : Value) (wr : World) : Prop :=
  ∃ (k : Nat) (its : List It) (H : Heaplet), k ≤ N ∧ v = .int .i64 k ∧ its.length = min k 1024 ∧ AllOf d its ∧ NetRep 55 b its H ∧ Step w [] wr H

set_option maxHeartbeats 2000000 in
set_option maxRecDepth 100000 in
theorem netFull_walk (more : Int) (a : Option Addr) (n c : Nat) (d : List UInt8) (w : World) (_ : (Lit.int .i64 more).wf = true) (h : RdBytes w a n c d) (_ : d.length ≤ 140737488351232) :
    Calls Try.prog 7 #[.int .i64 more, .slice a n c] w fun e w' => e = .returned (.bool true) ∧ Below w.heap.size w w' := by
  suffices hs : Calls Try.prog 7 #[.int .i64 more, .slice a n c] w (LawPost w) from hs.mono fun e w' hp => ⟨hp.1, hp.2.nil_below⟩
  have hn := h.1
  subst hn
  replace h := Lib.hid h
  by_cases hout : more < 0 ∨ 50 < more ∨ 20 < (d.length : Int)
  · by_cases h1 : more < 0
    · clear hout
      go_enter Try.func7, Try.ntmps7
      go_wp2_with fail
      refine (known_any _).mono ?_
      rintro e w3 ⟨rfl, hs3⟩
      go_wp2
      go_ret
      exact ⟨rfl, hs3⟩
    · by_cases h2 : 50 < more
      · clear hout
        go_enter Try.func7, Try.ntmps7
        go_wp2_with fail
        refine (known_any _).mono ?_
        rintro e w3 ⟨rfl, hs3⟩
        go_wp2
        go_ret
        exact ⟨rfl, hs3⟩
      · have h3 : 20 < (d.length : Int) := by omega
        clear hout
        go_enter Try.func7, Try.ntmps7
        go_wp2_with fail
        refine (known_any _).mono ?_
        rintro e w3 ⟨rfl, hs3⟩
        go_wp2
        go_ret
        exact ⟨rfl, hs3⟩
  · obtain ⟨m, rfl⟩ := Int.eq_ofNat_of_zero_le (show 0 ≤ more by omega)
    have q1 : (0 : Int) ≤ (m : Int) := by omega
    have q2 : (m : Int) ≤ 50 := by omega
    have q3 : (d.length : Int) ≤ 20 := by omega
    have q4 : ¬ (m : Int) < 0 := by omega
    clear hout
    go_enter Try.func7, Try.ntmps7
    go_wp2_with fail
    refine (new_any _).mono ?_
    rintro e w1 ⟨rfl, rfl⟩
    go_wp2_with fail
    go_loopw [6] (fun v wr => FullRel d w.heap.size (1024 + m) w v wr) (fun v _ => 1024 + m - (intOf v).toNat)
    case atStart => exact ⟨0, [], _, Nat.zero_le _, rfl, rfl, fun x hx => by simp at hx, netRep_new _ _, (Step.refl (Own.nil w)).alloc _⟩
    case round =>
      obtain ⟨k, its, H, hk, rfl, hil, hall, hn, hs⟩ := hrel
      replace hil := Lib.hid hil
      replace hall := Lib.hid hall
      have b1 : (0 : Int) ≤ (k : Int) := by omega
      have hrd := Lib.hid (h.out.later hs (by simp [dom]))
      by_cases hlt : k < 1024
      · have b2 : (k : Int) < 1024 := by omega
        have b3 : (k : Int) < 1024 + (m : Int) := by omega
        go_wp2_with fail
        refine (send_ok w.heap.size its _ 1 2 _ _ _ d _ hn hs.own hrd.out (by omega) (by have := hil.out; omega)).mono ?_
        rintro e w2 ⟨x, H2, rfl, -, hxt, hxd, hn2, hs2⟩
        replace hxt := Lib.hid hxt
        replace hxd := Lib.hid hxd
        go_wp2_with fail
        exact ⟨⟨k + 1, its ++ [x], H2, by omega, by go_num, by rw [List.length_append, hil.out]; simp; omega, hall.out.snoc hxt.out hxd.out, hn2, hs.trans hs2⟩, by simp [intOf]; omega⟩
      · by_cases hlt2 : k < 1024 + m
        · have b2 : ¬ (k : Int) < 1024 := by omega
          have b3 : (k : Int) < 1024 + (m : Int) := by omega
          have hil2 := Lib.hid (show its.length = 1024 by have := hil.out; omega)
          go_wp2_with fail
          refine (send_any w.heap.size its _ 1 2 _ _ _ d _ hn hs.own hrd.out (by omega)).mono ?_
          rintro e w2 (⟨_, rfl, H2, hn2, hs2⟩ | ⟨hf, _⟩)
          · go_wp2_with fail
            exact ⟨⟨k + 1, its, H2, by omega, by go_num, by rw [hil2.out]; omega, hall.out, hn2, hs.trans hs2⟩, by simp [intOf]; omega⟩
          · have := hil2.out; omega
        · have b3 : ¬ (k : Int) < 1024 + (m : Int) := by omega
          have hil2 := Lib.hid (show its.length = 1024 by have := hil.out; omega)
          have hdl : ∀ (l : List It), AllOf d l → ∀ x ∈ l, x.d.length ≤ 140737488355328 := fun l h x hx => by rw [(h x hx).2]; omega
          replace hdl := Lib.hid hdl
          clear hrd
          go_wp2_with fail
          refine (twice_full w.heap.size its _ _ _ hn hs.own hil2.out (by omega) (hdl.out _ hall.out)).mono ?_
          rintro e w2 ⟨H2, rfl, hn2, hs2⟩
          replace hs2 := Lib.hid (hs.trans hs2)
          go_wp2_with fail
          refine (len_eq w.heap.size its _ _ 1024 hn2 hs2.out.own hil2.out).mono ?_
          rintro e w3 ⟨rfl, rfl⟩
          go_wp2_with fail
          refine (late_ok w.heap.size its _ _ m _ hn2 hs2.out.own (by have := hil2.out; omega) (by omega) (by intro e; have := hil2.out; rw [e] at this; simp at this) (pickOf_nat (by have := hil2.out; omega))).mono ?_
          rintro e w4 ⟨x, H4, hx, rfl, hn4, hs4⟩
          obtain ⟨hxt, hxd⟩ := hall.out x (List.mem_of_getElem? hx)
          have hall4 := Lib.hid ((hall.out.erase m).snoc hxt hxd)
          have hml := (List.getElem?_eq_some_iff.1 hx).1
          have hil4 := Lib.hid (show (its.eraseIdx m ++ [x]).length = 1024 by rw [List.length_append, List.length_eraseIdx, if_pos hml]; have := hil2.out; simp; omega)
          replace hs4 := Lib.hid (hs2.out.trans hs4)
          clear hx hxt hxd hml
          generalize its.eraseIdx m ++ [x] = its4 at *
          go_wp2_with fail
          refine (give_ok w.heap.size its4 _ _ m _ hn4 hs4.out.own (by have := hil4.out; omega) (by omega) (by intro e; have := hil4.out; rw [e] at this; simp at this) (pickOf_nat (by have := hil4.out; omega))).mono ?_
          rintro e w5 ⟨y, H5, hy, rfl, -, hn5, hs5⟩
          have hml := (List.getElem?_eq_some_iff.1 hy).1
          have hall5 := Lib.hid (hall4.out.erase m)
          have hil5 := Lib.hid (show (its4.eraseIdx m).length = 1023 by rw [List.length_eraseIdx, if_pos hml]; have := hil4.out; omega)
          replace hs5 := Lib.hid (hs4.out.trans hs5).forget
          clear hy hml
          generalize its4.eraseIdx m = its5 at *
          go_wp2_with fail
          have hs6 := hs5.out.alloc (.cells #[.int .i64 y.f, .int .i64 y.t, .slice y.a y.d.length y.c] 28)
          refine (twice_ok w.heap.size its5 _ 0 0 _ hn5 hs6.own.tail (by have := hil5.out; omega) (by omega) (hdl.out _ hall5.out) (by intro e; have := hil5.out; rw [e] at this; simp at this) (by simp [pickOf])).mono ?_
          rintro e w6 ⟨x6, y6, H6, hy6, rfl, -, hx6, hd6, hn6, hs7⟩
          obtain ⟨hxt, hxd⟩ := hall5.out y6 (List.mem_of_getElem? hy6)
          have hall6 := Lib.hid (hall5.out.snoc (hx6.trans hxt) (hd6.trans hxd))
          have hil6 := Lib.hid (show (its5 ++ [x6]).length = 1024 by rw [List.length_append]; have := hil5.out; simp; omega)
          replace hs7 := Lib.hid (hs6.tail.trans hs7)
          clear hy6 hx6 hd6 hxt hxd hs6
          generalize its5 ++ [x6] = its6 at *
          go_wp2_with fail
          refine (len_eq w.heap.size its6 _ _ 1024 hn6 hs7.out.own hil6.out).mono ?_
          rintro e w7 ⟨rfl, rfl⟩
          go_wp2_with fail
          refine (drop_all w.heap.size its6 _ 2 1024 _ hn6 hs7.out.own hil6.out (by omega) hall6.out.kept).mono ?_
          rintro e w8 ⟨H8, rfl, hn8, hs8⟩
          replace hs8 := Lib.hid (hs7.out.trans hs8)
          go_wp2_with fail
          refine (len_eq w.heap.size _ _ _ 0 hn8 hs8.out.own rfl).mono ?_
          rintro e w9 ⟨rfl, rfl⟩
          go_wp2_with fail
          refine (known_any _).mono ?_
          rintro e w3 ⟨rfl, hs3⟩
          go_wp2
          go_ret
          exact ⟨rfl, (hs8.out.call0 hs3).forget (A := [])⟩
end Go.Proofs.Ytliapfdbagcklaa
