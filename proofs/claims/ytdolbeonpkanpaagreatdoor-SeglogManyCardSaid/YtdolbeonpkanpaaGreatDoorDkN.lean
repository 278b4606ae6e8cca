/- The program's disk: Names. -/
import Derived.Test.YtdolbeonpkanpaaGreatDoorMDkH
import Derived.Test.YtdolbeonpkanpaaGreatDoorKeys
set_option linter.unusedVariables false
set_option linter.unusedSimpArgs false
namespace Go.Proofs.YtdolbeonpkanpaaGreatDoor
open Go.RowKit Go.Maps Go.Shelf Go.Proofs Go.WideElems Go.WideShapes
open Go.Proofs (encStr)

/-- Entries are read as their keys alone. -/
def anyR (_ : Value) : Option (DataW Unit × List MemPlace) := some (.nil, [])
theorem fit_of {o : Obj} {X : List Fe} (hm : MapObj .string o (X.map Fe.ent)) (hn : ∀ x ∈ X, x.nm.length ≤ 64) (hl : X.length ≤ 4096) :
    ∃ es clock, o = .map es clock ∧ Fit Tryz.prog 9 anyR es clock ∧ es.size = X.length ∧ (strKeys (DataW.map ((es.toList.map (rg Tryz.prog 9 anyR)).foldr DataW.insert []))).Perm (X.map (·.nm)) := by
  obtain ⟨⟨es, clock, rfl, hD, hst⟩, h2, h3⟩ := hm
  have hsz : es.size = X.length := by
    have := congrArg List.length hD
    simpa using this
  have hkey : ∀ e ∈ es.toList, ∃ x ∈ X, e.key = strV x.nm := fun e he => by
    have : (e.key, e.val) ∈ X.map Fe.ent := by rw [← hD]; exact List.mem_map.2 ⟨e, he, rfl⟩
    obtain ⟨x, hx, hxe⟩ := List.mem_map.1 this
    exact ⟨x, hx, (congrArg Prod.fst hxe).symm⟩
  have hrd : ∀ nm : Nm, nm.length ≤ 64 → keyOf Tryz.prog 9 (strV nm) = some (.string nm) := fun nm h => by
    simp [keyOf, mapKey, Tryz.underlying9, ByteArray.size]
    unfold maxLen; omega
  refine ⟨es, clock, rfl, ⟨by rw [hsz]; unfold maxLen; omega, by first | exact hst | exact (stamped_iff es clock).2 hst | exact (MapKept.stamped_iff es clock).1 hst, fun e he => ?_⟩, hsz, ?_⟩
  · obtain ⟨x, hx, e1⟩ := hkey e he
    exact ⟨_, by unfold rd; rw [e1, hrd _ (hn x hx)]; rfl⟩
  · show (((es.toList.map (rg Tryz.prog 9 anyR)).foldr DataW.insert []).map fun p => strOf p.1).Perm _
    refine ((sorted_perm _).map _).trans ?_
    rw [List.map_map]
    have e2 : X.map (·.nm) = (es.toList.map fun e => (e.key, e.val)).map fun p => (match p.1 with | .string s => s.data.toList | _ => []) := by
      rw [hD, List.map_map]
      refine List.map_congr_left fun x _ => ?_
      simp [Fe.ent]
    rw [e2, List.map_map]
    refine List.Perm.of_eq (List.map_congr_left fun e he => ?_)
    obtain ⟨x, hx, e1⟩ := hkey e he
    simp only [Function.comp_apply]
    rw [e1]
    have : rg Tryz.prog 9 anyR e = (.string x.nm, .nil) := by unfold rg rd; rw [e1, hrd _ (hn x hx)]; rfl
    rw [this]
    simp [strOf]
theorem sorts35 (m : Nat) : AnyZ.SortsIn Tryz.prog Tryz.sortedX_ren Fence.wide m :=
  ⟨fun blk off cap ss W hH hblk hsz => callsIn_wide.2 (AnyM.slices_Sort_string Tryz.sortX blk off cap ss W hH hblk hsz),
   fun p cap W => callsIn_wide.2 (AnyM.slices_Sort_string_none Tryz.sortX p cap W)⟩
theorem keys36 (mb : Option Nat) (W : World) : CallsIn Fence.wide 5 Tryz.prog 86 #[.map mb] W fun e w' => e = .returned (.func (.func 110) #[] #[.pointer (some ⟨W.heap.size, 0, none⟩)]) ∧ w' = W.alloc (.cells #[.map mb] 78) :=
  AnyZ.keys_in Tryz.keysX Fence.wide 5 trivial rfl mb W
set_option maxHeartbeats 1000000 in
theorem sortedKeys {H : Type} (b nn : Nat) (D0 : DataW H) (R : Value → Option (DataW H × List MemPlace)) (w : World) (hown : w.ownsMap Tryz.prog 9 R b nn D0) (hmax : Maps.size D0 ≤ maxLen) (hbytes : Maps.size D0 * 16 ≤ 140737488355328) :
    CallsIn Fence.wide 5 Tryz.prog 85 #[.func (.func 110) #[] #[.pointer (some ⟨w.heap.size, 0, none⟩)]] (w.alloc (.cells #[.map (some b)] 78)) fun e w' => ∃ (v : Value) (ss : List (List UInt8)), e = .returned v ∧ ss.Perm (strKeys D0) ∧
      w'.ownsRow (w.alloc (.cells #[.map (some b)] 78)).heap.size 9 1 v ss.length ((ss.mergeSort (fun x y => decide (x ≤ y))).map encStr) ∧ (v = .slice none 0 0 ↔ ss = []) ∧ Below (w.alloc (.cells #[.map (some b)] 78)).heap.size (w.alloc (.cells #[.map (some b)] 78)) w' := by
  have hbl := hown.lt
  have hseq : SeqGives Fence.wide 2 Tryz.prog 110 #[.pointer (some ⟨w.heap.size, 0, none⟩)] encStr (fun ss => ss.Perm (strKeys D0)) (Maps.size D0) (w.alloc (.cells #[.map (some b)] 78)) :=
    AnyZ.keys_gives (ρ := Tryz.keysX_ren) { Tryz.keysX with } Fence.wide _ trivial rfl (by omega) w.heap.size b nn D0 _ (by simp) (by simp) (by
      obtain ⟨es, clock, hb, Ft, hs, hD⟩ := hown
      exact ⟨es, clock, (Below.heap_alloc _ _ b hbl).trans hb, Ft, hs, hD⟩)
  exact AnyZ.sorted_in Tryz.sortedX Fence.wide 5 trivial trivial trivial trivial rfl (by omega) (sorts35 _) (enters_of Tryz.func109 (by kernel_rfl) rfl) 110 #[.pointer (some ⟨w.heap.size, 0, none⟩)] trivial (enters_of Tryz.func110 (by kernel_rfl) rfl) _ _ hmax hbytes _ hseq
theorem sorted_names {L : List Fl} (h : SortedF L) {ss : List Nm} (hp : ss.Perm (L.map Prod.fst)) : ss.mergeSort (fun x y => decide (x ≤ y)) = L.map Prod.fst := by
  have h1 := mergeSort_of_perm hp
  refine h1.trans ?_
  refine List.mergeSort_of_pairwise ?_
  rw [List.pairwise_map]
  refine h.imp fun {x y} hxy => ?_
  simp only [decide_eq_true_eq]
  exact List.le_of_lt hxy
def NamesPost (L : List Nm) (w : World) (e : Ending) (w' : World) : Prop := ∃ a c Hn, e = .returned (.slice a L.length c) ∧ SlRep 9 1 a L.length c (L.map strV) Hn ∧ Step w [] w' Hn
set_option maxHeartbeats 2000000 in
theorem dnames (b : Nat) (k : Dk) (H : Heaplet) (w : World) (h : DkRep b k H) (hk : k.Ok) (hw : Own w H) :
    Calls Tryz.prog 51 #[pt b] w (NamesPost (k.L.map Prod.fst) w) := by
  obtain ⟨r, o, fu, lf, X, hm, hok, hp, hf, rfl⟩ := h
  have ⟨c0, c1, c2, c3⟩ := cells4 hw.h0
  have hxl : X.length = k.L.length := by have := hp.length_eq; simpa using this
  have hb := hw.h1
  obtain ⟨es, clock, rfl, Ft, hsz, hst⟩ := fit_of hm (fun x hx => hk.names _ (hp.mem_iff.1 (List.mem_map.2 ⟨x, hx, rfl⟩))) (by rw [hxl]; exact hk.many)
  have hown : w.ownsMap Tryz.prog 9 anyR r es.size _ := ⟨es, clock, hb, Ft, Nat.le_refl _, rfl⟩
  have hsize : Maps.size (DataW.map ((es.toList.map (rg Tryz.prog 9 anyR)).foldr DataW.insert [])) ≤ 4096 := by
    show ((es.toList.map (rg Tryz.prog 9 anyR)).foldr DataW.insert []).length ≤ 4096
    rw [(sorted_perm _).length_eq, List.length_map, Array.length_toList, hsz, hxl]
    exact hk.many
  have hns : Hid (∀ ss : List Nm, ss.Perm (strKeys (DataW.map ((es.toList.map (rg Tryz.prog 9 anyR)).foldr DataW.insert []))) → ss.mergeSort (fun x y => decide (x ≤ y)) = k.L.map Prod.fst ∧ ss.length = (k.L.map Prod.fst).length) := fun ss hs => by
    have h1 : ss.Perm (k.L.map Prod.fst) := by
      refine (hs.trans hst).trans ?_
      have := hp.map Prod.fst
      rwa [List.map_map] at this
    exact ⟨sorted_names hk.sorted h1, h1.length_eq⟩
  have cS := Lib.hid (sortedKeys r es.size _ anyR w hown (by unfold maxLen; omega) (by omega))
  clear hm hok hp hf hst Ft hown hb
  refine (callsIn_wide (n := 6)).1 ?_
  have hfK : Fence.wide.fn 86 := trivial
  have hfS : Fence.wide.fn 85 := trivial
  refine callsIn_of_wp Tryz.func51 rfl trivial ?_ rfl
  simp only [Tryz.ntmps51, List.size_toArray, List.length_cons, List.length_nil, Nat.reduceAdd, Nat.reduceSub, Array.replicate_succ, Array.replicate_zero, List.push_toArray, List.append_toArray, List.nil_append, List.cons_append]
  gi_wp2_with (first
    | (gi_at_call 86; refine (keys36 _ _).mono ?_; rintro e w' ⟨rfl, rfl⟩)
    | (gi_at_call 85; refine cS.out.mono ?_; rintro e w' ⟨v, ss, rfl, hS, hrow, hnil, hb⟩))
  go_ret
  obtain ⟨e1, e2⟩ := hns.out ss hS
  rw [e1, e2] at hrow
  obtain ⟨a, c, Hn, rfl, hsl, ho, hkeys⟩ := slRep_of_owns hrow
  have hst := ((Below.refl w.heap.size w).alloc (Nat.le_refl _) (.cells #[.map (some r)] 78)).trans (hb.mono (by simp))
  exact ⟨a, c, Hn, rfl, hsl, ⟨hst.os, hst.tape, hst.output, hst.size, fun x hx _ => hst.block x hx, ho, fun x hx => .inr (by have := (hkeys x hx).2; simp at this; omega)⟩⟩
end Go.Proofs.YtdolbeonpkanpaaGreatDoor
