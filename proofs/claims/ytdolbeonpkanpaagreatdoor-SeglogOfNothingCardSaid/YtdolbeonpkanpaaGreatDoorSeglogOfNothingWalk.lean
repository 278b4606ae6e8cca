/- SeglogOfNothing: the walk. -/
import Derived.Test.YtdolbeonpkanpaaGreatDoorMSvF
set_option linter.unusedVariables false
set_option linter.unusedSimpArgs false
namespace Go.Proofs.YtdolbeonpkanpaaGreatDoor
open Go.RowKit
attribute [local go_sem ↓] Go.wp_at_zero Go.wp_at_succ

set_option maxRecDepth 100000 in
theorem nil_append (pa : Option Addr) (pn pc : Nat) (w : World) : Calls Tryz.prog 14 #[.pointer none, .slice pa pn pc] w fun e w' => e = .returned (.tuple #[iv 0, iv 1]) ∧ Step w [] w' [] := by
  go_enter Tryz.func14, Tryz.ntmps14
  go_wp2_with fail
  go_ret2
  exact ⟨rfl, Step.refl (Own.nil _)⟩
set_option maxRecDepth 100000 in
theorem nil_entry (n : Int) (w : World) : Calls Tryz.prog 23 #[.pointer none, ii n] w fun e w' => e = .returned (.tuple #[.slice none 0 0, iv 7]) ∧ Step w [] w' [] := by
  go_enter Tryz.func23, Tryz.ntmps23
  go_wp2_with fail
  go_ret2
  exact ⟨rfl, Step.refl (Own.nil _)⟩
set_option maxRecDepth 100000 in
theorem nil_next (w : World) : Calls Tryz.prog 22 #[.pointer none] w fun e w' => e = .returned (.tuple #[iv 0, iv 0]) ∧ Step w [] w' [] := by
  go_enter Tryz.func22, Tryz.ntmps22
  go_wp2_with fail
  go_ret2
  exact ⟨rfl, Step.refl (Own.nil _)⟩
set_option maxRecDepth 100000 in
theorem nil_sync (w : World) : Calls Tryz.prog 16 #[.pointer none] w fun e w' => e = .returned (iv 1) ∧ Step w [] w' [] := by
  go_enter Tryz.func16, Tryz.ntmps16
  go_wp2_with fail
  go_ret
  exact ⟨rfl, Step.refl (Own.nil _)⟩
set_option maxRecDepth 100000 in
theorem nil_names (w : World) : Calls Tryz.prog 34 #[.pointer none] w fun e w' => e = .returned (.slice none 0 0) ∧ Step w [] w' [] := by
  go_enter Tryz.func34, Tryz.ntmps34
  go_wp2_with fail
  go_ret
  exact ⟨rfl, Step.refl (Own.nil _)⟩
set_option maxRecDepth 100000 in
theorem nil_open (p : Nm) (w : World) : Calls Tryz.prog 20 #[.pointer none, strV p] w fun e w' => e = .returned (.tuple #[.pointer none, iv 1]) ∧ Step w [] w' [] := by
  go_enter Tryz.func20, Tryz.ntmps20
  go_wp2_with fail
  go_ret2
  exact ⟨rfl, Step.refl (Own.nil _)⟩
set_option maxRecDepth 100000 in
theorem bad_open (d : Nat) (p : Nm) (w : World) (h : p.length < 1 ∨ 50 < p.length) : Calls Tryz.prog 20 #[pt d, strV p] w fun e w' => e = .returned (.tuple #[.pointer none, iv 1]) ∧ Step w [] w' [] := by
  have np := fun w b => nil_ptr w b
  by_cases h1 : p.length < 1
  · have d1 : (p.length : Int) < 1 := by omega
    go_enter Tryz.func20, Tryz.ntmps20
    go_wp2_with fail
    go_ret2
    exact ⟨rfl, Step.refl (Own.nil _)⟩
  · have d1 : (1 : Int) ≤ (p.length : Int) := by omega
    have d2 : (50 : Int) < (p.length : Int) := by omega
    clear h h1
    go_enter Tryz.func20, Tryz.ntmps20
    go_wp2_with fail
    go_ret2
    exact ⟨rfl, Step.refl (Own.nil _)⟩
theorem rd_zeros {w : World} {H : Heaplet} {g n : Nat} (h : SlRep 5 1 (some ⟨g, 0, none⟩) n n ((List.replicate n (0 : UInt8)).map u8) H) (hw : Own w H) : RdBytes w (some ⟨g, 0, none⟩) n n (List.replicate n 0) := h.rdBytes hw
def OnPost (long : Nat) (w : World) (e : Ending) (w' : World) : Prop :=
  ((long < 1 ∨ 50 < long) ∧ e = .returned (.tuple #[.pointer none, iv 1]) ∧ Step w [] w' []) ∨ (¬ (long < 1 ∨ 50 < long) ∧ ∃ b, e = .returned (.tuple #[pt b, iv 0]) ∧ Step w [] w' [])
theorem open_zeros (d : Nat) (long : Nat) (DH : Heaplet) (w : World) (hl : long ≤ 100) (hd : DkRep d ⟨100, [], none⟩ DH) (w0 : World) (s : Step w0 [] w DH) (hT : Tab w0) :
    Calls Tryz.prog 20 #[pt d, strV (List.replicate long 0)] w (OnPost long w0) := by
  by_cases hb : long < 1 ∨ 50 < long
  · refine (bad_open d _ w (by rw [List.length_replicate]; exact hb)).mono ?_
    rintro e w' ⟨he, hst⟩
    exact .inl ⟨hb, he, Step.trans (Step.forget (A := []) s) hst⟩
  · have hdt : TabK w DH := tabK_sub (A := DH) (B := []) (tabK_nil hT) (by simpa using s)
    refine (lopen_any d (List.replicate long 0) ⟨100, [], none⟩ DH w hd (new_ok (by decide)) s.own hdt (by rw [List.length_replicate]; omega) (by rw [List.length_replicate]; omega)).mono ?_
    rintro e w' (⟨h0, _⟩ | ⟨_, b, DH', B, S, E, XH, he, _, _, hst⟩)
    · exact absurd rfl h0
    · exact .inr ⟨hb, b, he, Step.forget (A := []) (Step.trans s hst)⟩
theorem zeros_conv (w : World) (n : Nat) (hn : n ≤ 1000) : (convert 23 9 (.slice (some ⟨w.heap.size, 0, none⟩) n n)).run Tryz.prog (w.alloc (.cells (madeCells #[.int .u8 0] n) 5)) = .ok (strV (List.replicate n 0)) (w.alloc (.cells (madeCells #[.int .u8 0] n) 5)) := by
  apply conv_rd
  have h := rdBytes_new (w := w) (f := (0, 0)) (List.replicate n (0 : UInt8)) (by rw [List.length_replicate]; exact hn)
  rw [List.length_replicate] at h
  rw [madeCells_one]
  rw [List.map_replicate] at h
  exact h
theorem ptr_eq (w : World) : (binOp .eql 30 (.pointer none) (.pointer none)).run Tryz.prog w = .ok (.bool true) w := by kernel_rfl
theorem ptr_ne (w : World) (b : Nat) : (binOp .eql 30 (pt b) (.pointer none)).run Tryz.prog w = .ok (.bool false) w := by kernel_rfl
set_option maxHeartbeats 2000000 in
set_option maxRecDepth 100000 in
theorem seglogOfNothing_walk (a0 : Option Addr) (n0 c0 : Nat) (l : List UInt8) (n long : Int) (w : World) (h : RdBytes w a0 n0 c0 l) (hl : l.length ≤ 140737488351232) (_ : (Lit.int .i64 n).wf = true) (_ : (Lit.int .i64 long).wf = true) (hT : Tab w) :
    Calls Tryz.prog 8 #[.slice a0 n0 c0, ii n, ii long] w fun e w' => e = .returned (.bool true) ∧ Below w.heap.size w w' := by
  suffices hs : Calls Tryz.prog 8 #[.slice a0 n0 c0, ii n, ii long] w (KnownPost w) from hs.mono fun e w' hp => ⟨hp.1, hp.2.nil_below⟩
  have hln := h.1
  subst hln
  have b0 : (l.length : Int) ≤ 140737488351232 := by omega
  clear h
  by_cases h1 : 1000 < l.length
  · have d1 : (1000 : Int) < (l.length : Int) := by omega
    go_enter Tryz.func8, Tryz.ntmps8
    go_wp2_with fail
    go_ret
    exact ⟨rfl, Step.refl (Own.nil _)⟩
  have d1 : (l.length : Int) ≤ 1000 := by omega
  by_cases h2 : long < 0
  · go_enter Tryz.func8, Tryz.ntmps8
    go_wp2_with fail
    go_ret
    exact ⟨rfl, Step.refl (Own.nil _)⟩
  have d2 : 0 ≤ long := by omega
  by_cases h3 : 100 < long
  · go_enter Tryz.func8, Tryz.ntmps8
    go_wp2_with fail
    go_ret
    exact ⟨rfl, Step.refl (Own.nil _)⟩
  obtain ⟨m, rfl⟩ : ∃ m : Nat, long = (m : Int) := ⟨long.toNat, by omega⟩
  have d3 : (m : Int) ≤ 100 := by omega
  have hm : m ≤ 100 := by omega
  have hkn : Hid (∀ W G, Step w [] W G → Calls Tryz.prog 10 #[] W (KnownPost W)) := fun W G s => known_any W (hT.later s)
  have hT := Lib.hid hT
  have pe := ptr_eq
  have pne := ptr_ne
  clear h1 h2 h3
  go_enter Tryz.func8, Tryz.ntmps8
  go_wp2_with fail
  refine (nil_append _ _ _ _).mono ?_
  rintro e w1 ⟨rfl, s1⟩
  go_wp2_with fail
  refine (nil_entry _ _).mono ?_
  rintro e w2 ⟨rfl, s2⟩
  replace s2 := s1.trans s2
  clear s1
  go_wp2_with fail
  refine (nil_next _).mono ?_
  rintro e w3 ⟨rfl, s3⟩
  replace s3 := s2.trans s3
  clear s2
  go_wp2_with fail
  refine (nil_open [97] _).mono ?_
  rintro e w4 ⟨rfl, s4⟩
  replace s4 := s3.trans s4
  clear s3
  go_wp2_with fail
  refine (dnew_ok 100 100 rfl (by decide) w4).mono ?_
  rintro e w5 ⟨d, DH, rfl, hd, s5⟩
  replace s5 := s4.trans s5
  clear s4
  have hcv := zeros_conv w5 m (by omega)
  have s6 := (Sp.of s5).alloc (.cells (madeCells #[.int .u8 0] m) 5)
  have hop := Lib.hid (open_zeros d m DH _ hm hd w s6.first hT.out)
  clear s5 hd
  go_wp2_with (at_make; refine wpList_mk rfl st_u8 _ _ rfl m m (by rfl) (by rfl) (by omega) (by omega) (Nat.le_refl _) (by omega) (by unfold maxLen; omega) ?_)
  refine hop.out.mono ?_
  rintro e w7 (⟨hb, rfl, s7⟩ | ⟨hb, b, rfl, s7⟩)
  · have q1 : (decide ((m : Int) < 1) || decide (50 < (m : Int))) = true := by
      rcases hb with hb | hb
      · have : (m : Int) < 1 := by omega
        simp [this]
      · have : (50 : Int) < (m : Int) := by omega
        simp [this]
    by_cases h1 : m < 1
    · have e1 : (m : Int) < 1 := by omega
      clear hb s6 hop hcv
      go_wp2_with fail
      refine (nil_sync _).mono ?_
      rintro e w8 ⟨rfl, s8⟩
      replace s8 := s7.trans s8
      go_wp2_with fail
      refine (nil_names _).mono ?_
      rintro e w9 ⟨rfl, s9⟩
      replace s9 := s8.trans s9
      go_wp2_with fail
      refine (hkn.out _ _ s9).mono ?_
      rintro e w10 ⟨rfl, s10⟩
      go_wp2_with fail
      go_ret
      exact ⟨rfl, s9.trans s10⟩
    · have e1 : (1 : Int) ≤ (m : Int) := by omega
      have e2 : (50 : Int) < (m : Int) := by omega
      clear hb s6 hop hcv
      go_wp2_with fail
      refine (nil_sync _).mono ?_
      rintro e w8 ⟨rfl, s8⟩
      replace s8 := s7.trans s8
      go_wp2_with fail
      refine (nil_names _).mono ?_
      rintro e w9 ⟨rfl, s9⟩
      replace s9 := s8.trans s9
      go_wp2_with fail
      refine (hkn.out _ _ s9).mono ?_
      rintro e w10 ⟨rfl, s10⟩
      go_wp2_with fail
      go_ret
      exact ⟨rfl, s9.trans s10⟩
  · have e1 : (1 : Int) ≤ (m : Int) := by omega
    have e2 : (m : Int) ≤ 50 := by omega
    clear hb s6 hop hcv
    go_wp2_with fail
    refine (nil_sync _).mono ?_
    rintro e w8 ⟨rfl, s8⟩
    replace s8 := s7.trans s8
    go_wp2_with fail
    refine (nil_names _).mono ?_
    rintro e w9 ⟨rfl, s9⟩
    replace s9 := s8.trans s9
    go_wp2_with fail
    refine (hkn.out _ _ s9).mono ?_
    rintro e w10 ⟨rfl, s10⟩
    go_wp2_with fail
    go_ret
    have q : (!decide ((m : Int) < 1) && !decide (50 < (m : Int))) = true := by
      rw [decide_eq_false (by omega), decide_eq_false (by omega)]
      rfl
    exact ⟨congrArg (fun b => Ending.returned (Value.bool b)) q, s9.trans s10⟩
end Go.Proofs.YtdolbeonpkanpaaGreatDoor
