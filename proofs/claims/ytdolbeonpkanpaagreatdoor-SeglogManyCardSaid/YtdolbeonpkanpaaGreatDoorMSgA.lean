/- Names of segments: the program's and the reference's. Names of segments: the reference's. -/
import Derived.Test.YtdolbeonpkanpaaGreatDoorFrB
import Derived.Test.YtdolbeonpkanpaaGreatDoorLibA
import Derived.Test.YtdolbeonpkanpaaGreatDoorMSgN
import Derived.WalkSmall
import Derived.Lib.ConvBytes
set_option linter.unusedVariables false
set_option linter.unusedSimpArgs false
namespace Go.Proofs.YtdolbeonpkanpaaGreatDoor
open Go.RowKit
open Go.Lib (decDigits)
attribute [local go_sem ↓] Go.wp_at_zero Go.wp_at_succ

/-- The table of the powers of ten, as the program lays it. -/
def Tab (w : World) : Prop := Lib.TabIs Tryz.prog w "internal/strconv.uint64pow10" .u64 Lib.pow10Tab
theorem tab_lt {w : World} {n : String} {cs : Array Value} (h : w.var? Tryz.prog n = some cs) : ∃ g, Tryz.prog.globalNamed n = some g ∧ g < w.heap.size := by
  unfold World.var? at h
  cases hg : Tryz.prog.globalNamed n with
  | none => rw [hg] at h; cases h
  | some g =>
    rw [hg] at h
    refine ⟨g, rfl, ?_⟩
    simp only [Option.bind_some] at h
    rcases Nat.lt_or_ge g w.heap.size with h1 | h1
    · exact h1
    · rw [Array.getElem?_eq_none h1] at h; cases h
theorem Tab.later {w w' : World} {H : Heaplet} (h : Tab w) (s : Step w [] w' H) : Tab w' := by
  obtain ⟨g, h1, h2⟩ := tab_lt h
  exact var?_below s.nil_below h1 h2 h
/-- The table stays, whatever is done to K. -/
def TabK (w0 : World) (K : Heaplet) : Prop := ∀ W H, Step w0 K W H → Tab W
theorem tabK_nil {w : World} (h : Tab w) : TabK w [] := fun _ _ s => h.later s
/-- What was made since the table lay does not touch it. -/
theorem tabK_new {w0 w : World} {Hs : List Heaplet} {K : Heaplet} (h : Tab w0) (s : Step w0 [] w Hs.flatten) (hK : ∀ b ∈ dom K, b ∈ dom Hs.flatten) : TabK w K := fun W H k => by
  obtain ⟨g, h1, h2⟩ := tab_lt h
  have e1 : w.heap[g]? = w0.heap[g]? := s.frame g h2 (by simp [dom])
  have e2 : W.heap[g]? = w.heap[g]? := k.frame g (Nat.lt_of_lt_of_le h2 s.size) (fun hb => by
    rcases s.keys g (hK g hb) with h3 | h3
    · simp [dom] at h3
    · omega)
  unfold Tab Lib.TabIs at h ⊢
  unfold World.var? at h ⊢
  rw [h1] at h ⊢
  simp only [Option.bind_some] at h ⊢
  rw [e2, e1]
  exact h
theorem itoa_any (n : Nat) (hn : n ≤ 9223372036854775807) (w : World) (h : Tab w) :
    Calls Tryz.prog 80 #[iv n] w fun e w' => e = .returned (strV (decDigits n)) ∧ Step w [] w' [] :=
  (Any.strconv_Itoa Tryz.laysM171 n (by omega) (by omega) w h).mono fun e w' ⟨he, k, os, hw⟩ => by
    refine ⟨?_, ?_⟩
    · rw [he]
      have : Lib.itoa (n : Int) = decDigits n := by unfold Lib.itoa; rw [if_neg (by omega)]; rfl
      rw [this]
    · subst hw
      exact Step.of_below ⟨rfl, rfl, rfl, by simp [Go.Sort.grow], fun b hb => by simp [Go.Sort.grow, Array.getElem?_append_left hb]⟩
theorem repeat_zeros (c : Nat) : Lib.repeatL [48] c = List.replicate c 48 := by
  induction c with
  | zero => rfl
  | succ c ih => simp [Lib.repeatL, ih, List.replicate_succ]
theorem repeat_any (c : Nat) (hc : c ≤ 8) (w : World) : Calls Tryz.prog 81 #[.string ⟨#[48]⟩, iv c] w fun e w' => e = .returned (strV (List.replicate c 48)) ∧ Step w [] w' [] :=
  (Any.strings_Repeat Tryz.lays105 Tryz.Builder_Extra_105 ⟨#[48]⟩ c w (by omega) (by show 1 * c ≤ _; omega)).mono fun e w' ⟨he, hb⟩ => by
    refine ⟨?_, Step.of_below hb⟩
    rw [he, ← repeat_zeros]
theorem str_app (a b : List UInt8) : ((⟨a.toArray⟩ : ByteArray) ++ (⟨b.toArray⟩ : ByteArray)) = (⟨(a ++ b).toArray⟩ : ByteArray) := by
  apply ByteArray.ext
  simp
theorem str_rep (n : Nat) (c : UInt8) : (⟨Array.replicate n c⟩ : ByteArray) = ⟨(List.replicate n c).toArray⟩ := by simp
set_option maxRecDepth 100000 in
theorem name_any (p : Nm) (n : Nat) (hp : p.length ≤ 1000) (hn : n ≤ 9223372036854775807) (w : World) (h : Tab w) :
    Calls Tryz.prog 41 #[strV p, iv n] w fun e w' => e = .returned (strV (nameN p n)) ∧ Step w [] w' [] := by
  have hi := Lib.hid (itoa_any n hn w h)
  obtain ⟨k, hk⟩ : ∃ k, k = (decDigits n).length := ⟨_, rfl⟩
  obtain ⟨d, hd⟩ : ∃ d, d = decDigits n := ⟨_, rfl⟩
  have hnm : Hid (nameN p n = p ++ (List.replicate (8 - k) 48 ++ d)) := by show _ = _; rw [nameN, dig8, ← hk, ← hd]
  rw [← hd] at hi hk
  have hk20 : k ≤ 20 := by
    rw [hk, hd]
    exact (dd_len (u := n) 19).2 (by show n < 100000000000000000000; omega)
  have q1 : max (0 : Int) (8 - (k : Int)) = ((8 - k : Nat) : Int) := by omega
  have hk8 : 8 - k ≤ 8 := by omega
  generalize 8 - k = z at hnm q1 hk8
  replace hd := Lib.hid hd
  have hlen : Hid (d.length = k) := hk.symm
  replace hk := Lib.hid hk
  go_enter Tryz.func41, Tryz.ntmps41
  go_wp2_with fail
  refine hi.out.mono ?_
  rintro e w1 ⟨rfl, hst⟩
  have e1 := hlen.out
  go_wp2_with fail
  refine (repeat_any z hk8 w1).mono ?_
  rintro e w2 ⟨rfl, hst2⟩
  go_wp2_with fail
  go_ret
  refine ⟨?_, hst.trans hst2⟩
  rw [hnm.out]
  show Ending.returned (.string _) = _
  rw [str_rep, str_app, str_app, List.append_assoc]
theorem cutPrefix_any (s p : Nm) (w : World) : Calls Tryz.prog 87 #[strV s, strV p] w fun e w' => e = .returned (.tuple #[strV (if p.isPrefixOf s then s.drop p.length else s), .bool (p.isPrefixOf s)]) ∧ Step w [] w' [] :=
  (Any.strings_CutPrefix Tryz.lays103 ⟨s.toArray⟩ ⟨p.toArray⟩ w).mono fun e w' ⟨he, hw⟩ => ⟨by rw [he]; rfl, by rw [hw]; exact Step.refl (Own.nil _)⟩
theorem pre_take {s p : Nm} : p.isPrefixOf s = decide (s.take p.length = p) := by
  by_cases h : s.take p.length = p
  · rw [decide_eq_true h]
    exact List.isPrefixOf_iff_prefix.2 (h ▸ List.take_prefix _ _)
  · rw [decide_eq_false h]
    by_cases h2 : p.isPrefixOf s = true
    · obtain ⟨t, ht⟩ := List.isPrefixOf_iff_prefix.1 h2
      exact absurd (by rw [← ht]; simp) h
    · cases hh : p.isPrefixOf s
      · rfl
      · exact absurd hh h2
/-- '[]byte(s)'. -/
theorem conv_str (w : World) (l : List UInt8) : ∃ (c : Nat) (w' : World), (convert 9 23 (strV l)).run Tryz.prog w = .ok (.slice (some ⟨w.heap.size, 0, none⟩) l.length c) w' ∧ Step w [] w' [] ∧ ∀ i (hi : i < l.length), w'.cell? ⟨w.heap.size, i, none⟩ = some (u8 l[i]) := by
  refine ⟨_, _, Lib.run_convert_string_bytes (P := Tryz.prog) w _ _ _ ⟨l.toArray⟩ Tryz.underlying9 Tryz.underlying23 Tryz.underlying5, ?_, fun i hi => ?_⟩
  · refine Step.of_below ⟨by simp [Lib.bytesWorld, World.freeze, World.alloc, World.drew, -World.alloc_eq, -World.drew_eq], by simp [Lib.bytesWorld, World.freeze, World.alloc, World.drew, -World.alloc_eq, -World.drew_eq], by simp [Lib.bytesWorld, World.freeze, World.alloc, World.drew, -World.alloc_eq, -World.drew_eq], by rw [Lib.bytesWorld_size]; omega, fun b hb => Lib.bytesWorld_at_old _ _ _ b hb⟩
  · rw [Lib.bytesWorld_cell _ _ _ i (by simpa [ByteArray.size] using hi)]
    simp [List.getD, hi]
def IsRel (l : List UInt8) (w : World) (v : Value) (wr : World) : Prop := ∃ i : Nat, v = iv i ∧ i ≤ l.length ∧ (∀ c ∈ l.take i, isDig c = true) ∧ wr = w
set_option maxHeartbeats 1000000 in
set_option maxRecDepth 100000 in
theorem isSeg_any (s p : Nm) (hs : s.length ≤ 140737488355000) (w : World) :
    Calls Tryz.prog 52 #[strV s, strV p] w fun e w' => e = .returned (.bool (segN p s)) ∧ Step w [] w' [] := by
  have hc := Lib.hid (cutPrefix_any s p w)
  by_cases hp : s.take p.length = p
  · have e1 : p.isPrefixOf s = true := by rw [pre_take, decide_eq_true hp]
    rw [e1] at hc
    obtain ⟨r, hr⟩ : ∃ r, r = s.drop p.length := ⟨_, rfl⟩
    have hlen : s.length = p.length + r.length := by
      have := congrArg List.length (List.take_append_drop p.length s)
      rw [List.length_append, hp, ← hr] at this
      omega
    have hc2 : Hid (Calls Tryz.prog 87 #[strV s, strV p] w fun e w' => e = .returned (.tuple #[strV r, .bool true]) ∧ Step w [] w' []) := by rw [hr]; exact hc
    have hseg : Hid (segN p s = (decide (r.length = 8) && r.all isDig)) := by
      show _ = _
      unfold segN
      rw [decide_eq_true hp, ← hr]
      congr 1
      rw [Bool.true_and]
      congr 1
      exact propext ⟨fun h => by omega, fun h => by omega⟩
    clear hc e1 hp
    replace hr := Lib.hid hr
    by_cases h8 : r.length = 8
    · have q1 : ((r.length : Int) != 8) = false := by rw [h8]; rfl
      have hl8 : (r.length : Int) ≤ 1000 := by omega
      have hrl := Lib.hid h8
      clear h8
      go_enter Tryz.func52, Tryz.ntmps52
      go_wp2_with fail
      refine hc2.out.mono ?_
      rintro e w1 ⟨rfl, hst⟩
      obtain ⟨c9, w9, hcv, hst9, hcell⟩ := conv_str w1 r
      have s9 := hst.trans hst9
      clear hst hst9
      replace hcell := Lib.hid hcell
      have b9 : w1.heap.size < w9.heap.size := World.block_lt_of_cell? w9 _ (hcell.out 0 (by have := hrl.out; omega))
      go_wp2_with fail
      generalize w1.heap.size = g at hcell b9 ⊢
      clear hcv
      go_loopw [25] (fun v wr => IsRel r w9 v wr) (fun v _ => r.length - (intOf v).toNat)
      case atStart => exact ⟨0, rfl, Nat.zero_le _, by simp, rfl⟩
      case round =>
        obtain ⟨i, rfl, hi, hall, rfl⟩ := hrel
        have d0 : (0 : Int) ≤ (i : Int) := by omega
        by_cases hlt : i < r.length
        · have d1 : (i : Int) < (r.length : Int) := by omega
          have hci := hcell.out i hlt
          have htk := List.take_succ_eq_append_getElem hlt
          have hmem : r[i]'hlt ∈ r := List.getElem_mem _
          obtain ⟨x, hx⟩ : ∃ x, x = r[i]'hlt := ⟨_, rfl⟩
          rw [← hx] at hci htk hmem
          replace hx := Lib.hid hx
          replace htk := Lib.hid htk
          replace hall := Lib.hid hall
          by_cases hd : isDig x = true
          · have hd2 := hd
            unfold isDig at hd2
            simp only [Bool.and_eq_true, decide_eq_true_eq] at hd2
            have d2 : (48 : Int) ≤ (x.toNat : Int) := by omega
            have d3 : (x.toNat : Int) ≤ 57 := by omega
            replace hd := Lib.hid hd
            clear hd2 hmem
            go_wp2_with fail
            refine ⟨⟨i + 1, by go_num, by omega, fun y hy => ?_, rfl⟩, by simp [intOf]; omega⟩
            rw [htk.out] at hy
            rcases List.mem_append.1 hy with hy | hy
            · exact hall.out y hy
            · rw [List.mem_singleton.1 hy]; exact hd.out
          · have hno : Hid (r.all isDig = false) := by
              show _ = _
              rw [List.all_eq_false]
              exact ⟨x, hmem, hd⟩
            have hd2 : (x.toNat : Int) < 48 ∨ ((48 : Int) ≤ (x.toNat : Int) ∧ (57 : Int) < (x.toNat : Int)) := by
              unfold isDig at hd
              simp only [Bool.and_eq_true, decide_eq_true_eq, not_and] at hd
              omega
            replace hd := Lib.hid hd
            clear hmem
            rcases hd2 with d2 | ⟨d2, d3⟩
            all_goals
              go_wp2_with fail
              go_ret
              rw [hseg.out, hno.out, Bool.and_false]
              exact ⟨rfl, s9⟩
        · have d1 : (r.length : Int) ≤ (i : Int) := by omega
          have hyes : Hid (r.all isDig = true) := by
            show _ = _
            rw [List.all_eq_true]
            intro x hx
            refine hall x ?_
            rwa [List.take_of_length_le (by omega)]
          clear hall
          go_wp2_with fail
          go_ret
          rw [hseg.out, hyes.out, hrl.out]
          exact ⟨rfl, s9⟩
    · have q1 : ((r.length : Int) != 8) = true := by rw [bne_iff_ne]; omega
      have hseg2 : Hid (segN p s = false) := by
        show _ = _
        rw [hseg.out, decide_eq_false h8, Bool.false_and]
      clear h8
      go_enter Tryz.func52, Tryz.ntmps52
      go_wp2_with fail
      refine hc2.out.mono ?_
      rintro e w1 ⟨rfl, hst⟩
      go_wp2_with fail
      go_ret
      rw [hseg2.out]
      exact ⟨rfl, hst⟩
  · have e1 : p.isPrefixOf s = false := by rw [pre_take, decide_eq_false hp]
    rw [e1] at hc
    have hseg : Hid (segN p s = false) := by
      show _ = _
      unfold segN
      rw [decide_eq_false hp, Bool.false_and, Bool.false_and]
    clear e1 hp
    have hc2 : Hid (Calls Tryz.prog 87 #[strV s, strV p] w fun e w' => e = .returned (.tuple #[strV s, .bool false]) ∧ Step w [] w' []) := hc
    clear hc
    go_enter Tryz.func52, Tryz.ntmps52
    go_wp2_with fail
    refine hc2.out.mono ?_
    rintro e w1 ⟨rfl, hst⟩
    go_wp2_with fail
    go_ret
    rw [hseg.out]
    exact ⟨rfl, hst⟩
end Go.Proofs.YtdolbeonpkanpaaGreatDoor
namespace Go.Proofs.YtdolbeonpkanpaaGreatDoor
open Go.RowKit
open Go.Lib (decDigits)
attribute [local go_sem ↓] Go.wp_at_zero Go.wp_at_succ

theorem dec_conv (w : World) (x : Nat) (hx : x < 10) : (convert 23 9 (.slice (some ⟨w.heap.size, 0, none⟩) 1 1)).run Tryz.prog (w.alloc (.cells #[.int .u8 ((48 + x : Nat) : Int)] 5 (0, 0))) = .ok (strV [UInt8.ofNat (48 + x)]) (w.alloc (.cells #[.int .u8 ((48 + x : Nat) : Int)] 5 (0, 0))) := by
  have h := rdBytes_new (w := w) (f := (0, 0)) [UInt8.ofNat (48 + x)] (Nat.le_add_left 1 999)
  have e : ([UInt8.ofNat (48 + x)].map u8).toArray = #[Value.int .u8 ((48 + x : Nat) : Int)] := by simp [u8, UInt8.toNat_ofNat']; omega
  rw [e] at h
  exact conv_rd h
def DecRel (v : Nat) (w : World) (v0 v3 : Value) (wr : World) : Prop := ∃ (u : Nat) (acc : List UInt8), v0 = u64v u ∧ u ≤ v ∧ v3 = strV acc ∧ decDigits v = decDigits u ++ acc ∧ Step w [] wr []
set_option maxRecDepth 100000 in
theorem rdec_any (v : Nat) (hv : v < 18446744073709551616) (w : World) : Calls Tryz.prog 67 #[u64v v] w fun e w' => e = .returned (strV (decDigits v)) ∧ Step w [] w' [] := by
  have hin : Hid (DecRel v w (u64v v) (.string ⟨#[]⟩) w) := ⟨v, [], rfl, Nat.le_refl _, rfl, by simp, Step.refl (Own.nil _)⟩
  go_enter Tryz.func67, Tryz.ntmps67
  go_wp2_with fail
  go_loopw [0, 3] (fun v0 v3 wr => DecRel v w v0 v3 wr) (fun v _ _ => (intOf v).toNat)
  case atStart => exact hin.out
  case round =>
    clear hin
    obtain ⟨u, acc, rfl, hu, rfl, hd, s⟩ := hrel
    have q1 : (u : Int).tmod 10 = ((u % 10 : Nat) : Int) := by rw [Int.tmod_eq_emod_of_nonneg (by omega)]; omega
    have q2 : (u : Int).tdiv 10 = ((u / 10 : Nat) : Int) := by rw [Int.tdiv_eq_ediv_of_nonneg (by omega)]; omega
    have q3 : (48 : Int) + ((u % 10 : Nat) : Int) = ((48 + u % 10 : Nat) : Int) := by omega
    have hdig : Hid (if u < 10 then decDigits v = UInt8.ofNat (48 + u % 10) :: acc else decDigits v = decDigits (u / 10) ++ (UInt8.ofNat (48 + u % 10) :: acc)) := by
      show (if u < 10 then _ else _)
      split
      · rename_i h; rw [hd, dd_small h, Nat.mod_eq_of_lt h]; rfl
      · rename_i h; rw [hd, dd_big h]; simp
    have hacc : acc.length ≤ 20 := by
      have := congrArg List.length hd
      rw [List.length_append] at this
      have := (dd_len (u := v) 19).2 (by show v < 100000000000000000000; omega)
      omega
    have hcv := dec_conv wr (u % 10) (by omega)
    have b1 : u % 10 < 10 := by omega
    have hu2 : u / 10 ≤ u := by omega
    have hz : (u < 10 ∧ u / 10 = 0) ∨ (¬ u < 10 ∧ 0 < u / 10 ∧ u / 10 < u) := by omega
    have s2 := (s.alloc (.cells #[.int .u8 ((48 + u % 10 : Nat) : Int)] 5)).tail
    obtain ⟨d, hdd⟩ : ∃ d, d = u % 10 := ⟨_, rfl⟩
    obtain ⟨t, ht⟩ : ∃ t, t = u / 10 := ⟨_, rfl⟩
    rw [← hdd] at hdig hcv b1 q1 q3 s2
    rw [← ht] at hdig q2 hz hu2
    replace hdd := Lib.hid hdd
    replace ht := Lib.hid ht
    replace hd := Lib.hid hd
    have b2 : ((48 + d : Nat) : Int) < 58 := by omega
    generalize 48 + d = y at hdig hcv q3 b2 s2
    have hut : u < 18446744073709551616 := by omega
    rcases hz with ⟨h1, h2⟩ | ⟨h1, h2, h3⟩
    · rw [if_pos h1] at hdig
      have q4 : ((t : Int) == 0) = true := beq_iff_eq.2 (by omega)
      replace h2 := Lib.hid h2
      replace h1 := Lib.hid h1
      go_wp2_with fail
      go_ret
      rw [hdig.out]
      exact ⟨congrArg (fun z => Ending.returned (.string z)) (str_app [_] acc), s2⟩
    · rw [if_neg h1] at hdig
      have q4 : ((t : Int) == 0) = false := beq_eq_false_iff_ne.2 (by omega)
      replace h1 := Lib.hid h1
      go_wp2_with fail
      exact ⟨⟨t, UInt8.ofNat y :: acc, by first | rfl | go_num, by omega, congrArg Value.string (str_app [_] acc), hdig.out, s2⟩, by simp [intOf]; omega⟩
def NmRel (d : Nm) (w : World) (v5 : Value) (wr : World) : Prop := ∃ j : Nat, v5 = strV (List.replicate j 48 ++ d) ∧ (j = 0 ∨ j + d.length ≤ 8) ∧ Step w [] wr []
theorem pad_done {d : Nm} {j : Nat} (h : j = 0 ∨ j + d.length ≤ 8) (h8 : ¬ j + d.length < 8) : List.replicate j 48 ++ d = List.replicate (8 - d.length) 48 ++ d := by
  have : j = 8 - d.length := by omega
  rw [this]
set_option maxRecDepth 100000 in
theorem rname_any (p : Nm) (n : Nat) (hp : p.length ≤ 1000) (hn : n ≤ 9223372036854775807) (w : World) :
    Calls Tryz.prog 29 #[strV p, iv n] w fun e w' => e = .returned (strV (nameN p n)) ∧ Step w [] w' [] := by
  have hdec := Lib.hid (rdec_any n (by omega) w)
  have hl := (dd_len (u := n) 19).2 (by show n < 100000000000000000000; omega)
  obtain ⟨d, hd⟩ : ∃ d, d = decDigits n := ⟨_, rfl⟩
  have hnm : Hid (nameN p n = p ++ (List.replicate (8 - d.length) 48 ++ d)) := by show _ = _; rw [nameN, dig8, ← hd]
  rw [← hd] at hdec hl
  replace hd := Lib.hid hd
  go_enter Tryz.func29, Tryz.ntmps29
  go_wp2_with fail
  refine hdec.out.mono ?_
  rintro e w1 ⟨rfl, hst⟩
  have hin : Hid (NmRel d w (strV d) w1) := ⟨0, by simp, .inl rfl, hst⟩
  clear hst hdec
  go_wp2_with fail
  go_loopw [5] (fun v5 wr => NmRel d w v5 wr) (fun v _ => match v with | .string s => 8 - s.size | _ => 0)
  case atStart => exact hin.out
  case round =>
    clear hin
    obtain ⟨j, rfl, hj, hst⟩ := hrel
    obtain ⟨s, hs⟩ : ∃ s, s = List.replicate j 48 ++ d := ⟨_, rfl⟩
    have hsl : s.length = j + d.length := by rw [hs, List.length_append, List.length_replicate]
    rw [← hs]
    by_cases h8 : j + d.length < 8
    · have d1 : (s.length : Int) < 8 := by omega
      have d2 : s.length ≤ 8 := by omega
      replace hs := Lib.hid hs
      go_wp2_with fail
      have e1 : (⟨#[48]⟩ : ByteArray) ++ (⟨s.toArray⟩ : ByteArray) = ⟨(48 :: s).toArray⟩ := str_app [48] s
      rw [e1]
      refine ⟨⟨j + 1, ?_, .inr (by omega), hst⟩, ?_⟩
      · rw [hs.out]; rfl
      · simp only [ByteArray.size, List.size_toArray, List.length_cons]; omega
    · have d1 : (8 : Int) ≤ (s.length : Int) := by omega
      have d2 : s.length ≤ 40 := by omega
      have d3 : p.length ≤ 1000 := hp
      have hfin := pad_done hj h8
      replace hs := Lib.hid hs
      replace hfin := Lib.hid hfin
      go_wp2_with fail
      go_ret
      refine ⟨?_, hst⟩
      rw [hnm.out, ← hfin.out, ← hs.out]
      exact congrArg (fun z => Ending.returned (.string z)) (str_app p s)
def NumSRel (r : List UInt8) (k : Nat) (w : World) (v5 v6 : Value) (wr : World) : Prop := ∃ i : Nat, v6 = iv (k + i) ∧ i ≤ r.length ∧ (∀ c ∈ r.take i, isDig c = true) ∧ v5 = iv (numD (r.take i)) ∧ wr = w
def numI (p s : Nm) : Int := if segN p s = true then (numS p s : Int) else -1
set_option maxHeartbeats 1000000 in
set_option maxRecDepth 100000 in
theorem rnumber_any (p s : Nm) (hp : p.length ≤ 1000) (hs : s.length ≤ 140737488355000) (w : World) :
    Calls Tryz.prog 56 #[strV p, strV s] w fun e w' => e = .returned (ii (numI p s)) ∧ Step w [] w' [] := by
  have e1 : (⟨s.toArray⟩ : ByteArray).extract 0 p.length = ⟨(s.take p.length).toArray⟩ := by
    apply ByteArray.ext; simp
  have e2 : (⟨(s.take p.length).toArray⟩ : ByteArray).toList = s.take p.length := by rw [ByteArray.toList_eq]
  have e3 : (⟨p.toArray⟩ : ByteArray).toList = p := by rw [ByteArray.toList_eq]
  by_cases hl : s.length = p.length + 8
  · have q1 : ((s.length : Int) != (p.length : Int) + 8) = false := by rw [hl]; simp
    have d1 : (p.length : Int) ≤ (s.length : Int) := by omega
    by_cases hq : s.take p.length = p
    · have q2 : (s.take p.length == p) = true := by rw [hq]; simp
      obtain ⟨r, hr⟩ : ∃ r, r = s.drop p.length := ⟨_, rfl⟩
      have hrl : r.length = 8 := by rw [hr, List.length_drop]; omega
      have hsr : Hid (s = p ++ r) := by show _ = _; rw [hr]; conv => lhs; rw [← List.take_append_drop p.length s, hq]
      have hni : Hid (numI p s = if r.all isDig = true then (numD r : Int) else -1) := by
        show _ = _
        unfold numI segN numS
        rw [decide_eq_true hq, decide_eq_true hl, ← hr]
        simp
      replace hq := Lib.hid hq
      replace hr := Lib.hid hr
      obtain ⟨n, hn⟩ : ∃ n, n = s.length := ⟨_, rfl⟩
      replace hl := Lib.hid hl
      go_enter Tryz.func56, Tryz.ntmps56
      go_wp2_with fail
      go_loopw [5, 6] (fun v5 v6 wr => NumSRel r p.length w v5 v6 wr) (fun _ v _ => s.length - (intOf v).toNat)
      case atStart => exact ⟨0, by simp, Nat.zero_le _, by simp, by simp [numD], rfl⟩
      case round =>
        obtain ⟨i, rfl, hi, hall, rfl, rfl⟩ := hrel
        have hl8 := hl.out
        have d0 : (0 : Int) ≤ ((p.length + i : Nat) : Int) := by omega
        by_cases hlt : i < 8
        · have d3 : ((p.length + i : Nat) : Int) < (s.length : Int) := by omega
          have hir : i < r.length := by omega
          have htk := List.take_succ_eq_append_getElem hir
          obtain ⟨x, hx⟩ : ∃ x, x = r[i]'hir := ⟨_, rfl⟩
          have hmem : x ∈ r := hx ▸ List.getElem_mem _
          have hbs : p.length + i < (⟨s.toArray⟩ : ByteArray).size := by simp only [ByteArray.size, List.size_toArray]; omega
          have hxs : (⟨s.toArray⟩ : ByteArray)[p.length + i]'hbs = x := by
            rw [hx]
            show s.toArray[p.length + i]'_ = _
            simp only [List.getElem_toArray]
            have e9 : s[p.length + i]? = r[i]? := by rw [hsr.out, List.getElem?_append_right (by omega)]; congr 1; omega
            rw [List.getElem?_eq_getElem (by omega), List.getElem?_eq_getElem hir] at e9
            exact Option.some.inj e9
          rw [← hx] at htk
          have hnb := numD_lt hall
          have hnum := numD_snoc (r.take i) x
          rw [← htk] at hnum
          have hpow : numD (r.take i) < 100000000 := by
            have : (r.take i).length ≤ 7 := by rw [List.length_take]; omega
            have : 10 ^ (r.take i).length ≤ 10 ^ 7 := Nat.pow_le_pow_right (by decide) this
            omega
          generalize numD (r.take i) = m at hnb hnum hpow
          replace hx := Lib.hid hx
          replace htk := Lib.hid htk
          replace hall := Lib.hid hall
          clear hl8 hnb
          by_cases hd : isDig x = true
          · have hd2 := hd
            unfold isDig at hd2
            simp only [Bool.and_eq_true, decide_eq_true_eq] at hd2
            have d4 : (48 : Int) ≤ (x.toNat : Int) := by omega
            have d5 : (x.toNat : Int) ≤ 57 := by omega
            have hnum2 : Hid (((numD (r.take (i + 1)) : Nat) : Int) = (m : Int) * 10 + (x.toNat : Int) - 48) := by show _ = _; rw [hnum]; omega
            replace hd := Lib.hid hd
            clear hd2 hmem hnum
            go_wp2_with fail
            refine ⟨⟨i + 1, by rw [show p.length + (i + 1) = p.length + i + 1 by omega]; go_num, by omega, fun y hy => ?_, congrArg (Value.int .i64) hnum2.out.symm, rfl⟩, by simp [intOf]; omega⟩
            rw [htk.out] at hy
            rcases List.mem_append.1 hy with hy | hy
            · exact hall.out y hy
            · rw [List.mem_singleton.1 hy]; exact hd.out
          · have hno : Hid (r.all isDig = false) := by
              show _ = _
              rw [List.all_eq_false]
              exact ⟨x, hmem, hd⟩
            have hd2 : (x.toNat : Int) < 48 ∨ ((48 : Int) ≤ (x.toNat : Int) ∧ (57 : Int) < (x.toNat : Int)) := by
              unfold isDig at hd
              simp only [Bool.and_eq_true, decide_eq_true_eq, not_and] at hd
              omega
            replace hd := Lib.hid hd
            clear hmem hnum
            rcases hd2 with d2 | ⟨d2, d3⟩
            all_goals
              go_wp2_with fail
              go_ret
              rw [hni.out, hno.out]
              exact ⟨rfl, Step.refl (Own.nil _)⟩
        · have d1 : (s.length : Int) ≤ ((p.length + i : Nat) : Int) := by omega
          have hra : r.take i = r := List.take_of_length_le (by omega)
          rw [hra] at hall ⊢
          have hyes : Hid (r.all isDig = true) := List.all_eq_true.2 hall
          clear hall hl8
          go_wp2_with fail
          go_ret
          rw [hni.out, hyes.out]
          exact ⟨rfl, Step.refl (Own.nil _)⟩
    · have q2 : (s.take p.length == p) = false := beq_eq_false_iff_ne.2 hq
      have hni : Hid (numI p s = -1) := by
        show _ = _
        unfold numI segN
        rw [decide_eq_false hq]
        rfl
      replace hq := Lib.hid hq
      replace hl := Lib.hid hl
      go_enter Tryz.func56, Tryz.ntmps56
      go_wp2_with fail
      go_ret
      rw [hni.out]
      exact ⟨rfl, Step.refl (Own.nil _)⟩
  · have q1 : ((s.length : Int) != (p.length : Int) + 8) = true := by rw [bne_iff_ne]; omega
    have hni : Hid (numI p s = -1) := by
      show _ = _
      unfold numI segN
      rw [decide_eq_false hl, Bool.and_false, Bool.false_and]
      rfl
    replace hl := Lib.hid hl
    clear e1 e2 e3
    go_enter Tryz.func56, Tryz.ntmps56
    go_wp2_with fail
    go_ret
    rw [hni.out]
    exact ⟨rfl, Step.refl (Own.nil _)⟩
end Go.Proofs.YtdolbeonpkanpaaGreatDoor
