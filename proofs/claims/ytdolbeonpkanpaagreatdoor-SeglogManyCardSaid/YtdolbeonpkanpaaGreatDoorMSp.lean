/- What is owned, told as heaplets by their places. Slices of one's own whose array may be longer than their capacity: append, cut, store, read. -/
import Derived.Test.YtdolbeonpkanpaaGreatDoorMSl
import Derived.Deep.CutBlock
import Derived.ArgAppend
set_option linter.unusedVariables false
set_option linter.unusedSimpArgs false
namespace Go.Proofs.YtdolbeonpkanpaaGreatDoor
open Go.RowKit
/-- From w to W: what was K is the heaplets Hs now. -/
def Sp (w : World) (K : Heaplet) (W : World) (Hs : List Heaplet) : Prop := Step w K W Hs.flatten
theorem sp_split {α : Type} {Hs : List α} {i : Nat} {G : α} (h : Hs[i]? = some G) : Hs = Hs.take i ++ G :: Hs.drop (i + 1) := by
  obtain ⟨hi, rfl⟩ := List.getElem?_eq_some_iff.1 h
  rw [← List.drop_eq_getElem_cons hi, List.take_append_drop]
theorem sp_set {α : Type} {Hs : List α} {i : Nat} {G : α} (h : Hs[i]? = some G) (G' : α) : Hs.set i G' = Hs.take i ++ G' :: Hs.drop (i + 1) := by
  obtain ⟨hi, rfl⟩ := List.getElem?_eq_some_iff.1 h
  rw [List.set_eq_take_append_cons_drop, if_pos hi]
section
variable {w W w1 : World} {K G G' A B : Heaplet} {Hs Gs : List Heaplet}
theorem Sp.start (h : Own w K) : Sp w K w [K] := by unfold Sp; simpa using Step.refl h
theorem Sp.nil (w : World) : Sp w [] w [] := Step.refl (Own.nil w)
theorem Sp.nilk (k : Nat) (w : World) : Sp w [] w (List.replicate k []) := by unfold Sp; simpa using Step.refl (Own.nil w)
theorem Sp.of (s : Step w K W G) : Sp w K W [G] := by unfold Sp; simpa using s
theorem Sp.out (s : Sp w K W Hs) (h : Hs.flatten = G) : Step w K W G := h ▸ s
theorem Sp.perm (s : Sp w K W Hs) (h : Hs.flatten.Perm Gs.flatten) : Sp w K W Gs := Step.perm s (List.Perm.refl _) h
theorem Sp.mid (i : Nat) (s : Sp w K W Hs) (h : Hs[i]? = some G) : Step w K W ((Hs.take i).flatten ++ (G ++ (Hs.drop (i + 1)).flatten)) := by
  have := s
  unfold Sp at this
  rwa [sp_split h, List.flatten_append, List.flatten_cons] at this
theorem Sp.own (i : Nat) (s : Sp w K W Hs) (h : Hs[i]? = some G) : Own W G := (s.mid i h).own.right.left
theorem Sp.put (i : Nat) (s : Sp w K W Hs) (h : Hs[i]? = some G) (k : Step W G w1 G') : Sp w K w1 (Hs.set i G') := by
  have := Step.mid (s.mid i h) k
  unfold Sp
  rwa [sp_set h, List.flatten_append, List.flatten_cons]
theorem Sp.alloc (s : Sp w K W Hs) (o : Obj) : Sp w K (W.alloc o) (Hs ++ [[(W.heap.size, o)]]) := by
  unfold Sp
  refine (Step.alloc s o).perm (List.Perm.refl _) ?_
  rw [List.flatten_append]
  exact List.perm_append_comm (l₁ := [_])
theorem Sp.fresh (s : Sp w K W Hs) (k : Step W [] w1 G) : Sp w K w1 (Hs ++ [G]) := by
  unfold Sp
  rw [List.flatten_append]
  simpa using Step.call0 s k
theorem Sp.still (s : Sp w K W Hs) (k : Step W [] w1 []) : Sp w K w1 Hs := by
  unfold Sp
  simpa using Step.call0 s k
theorem Sp.junk (s : Sp w K W Hs) (k : Step W [] w1 G) : Sp w K w1 Hs := by
  unfold Sp
  exact (Step.call0 s k).forget
theorem Sp.drew (s : Sp w K W Hs) : Sp w K W.drew Hs := Step.drew s
theorem Sp.drewN (s : Sp w K W Hs) (n : Nat) : Sp w K (W.drewN n) Hs := Step.drewN s n
theorem Sp.forget (i : Nat) (s : Sp w K W Hs) (h : Hs[i]? = some G) : Sp w K W (Hs.set i []) := by
  unfold Sp
  rw [sp_set h, List.flatten_append, List.flatten_cons, List.nil_append]
  exact Step.forget (B := G) ((s.mid i h).perm (List.Perm.refl _) (by rw [List.append_assoc]; exact List.Perm.append_left _ List.perm_append_comm))
theorem Sp.store (i : Nat) {b j : Nat} {c : Array Value} {T : TypeId} {f : Nat × Nat} (s : Sp w K W Hs) (h : Hs[i]? = some [(b, .cells c T f)]) (v : Value) : Sp w K (W.setCell ⟨b, j, none⟩ v) (Hs.set i [(b, .cells (c.setIfInBounds j v) T f)]) := by
  unfold Sp
  rw [sp_set h, List.flatten_append, List.flatten_cons]
  exact Step.store v (s.mid i h)
/-- A store into the head of a heaplet. -/
theorem Sp.storeH (i : Nat) {b j : Nat} {c : Array Value} {T : TypeId} {f : Nat × Nat} (s : Sp w K W Hs) (h : Hs[i]? = some ((b, .cells c T f) :: B)) (v : Value) : Sp w K (W.setCell ⟨b, j, none⟩ v) (Hs.set i ((b, .cells (c.setIfInBounds j v) T f) :: B)) := by
  unfold Sp
  rw [sp_set h, List.flatten_append, List.flatten_cons]
  exact Step.store v (s.mid i h)
theorem Sp.split (i : Nat) (s : Sp w K W Hs) (h : Hs[i]? = some (A ++ B)) : Sp w K W (Hs.set i A ++ [B]) := by
  unfold Sp
  rw [List.flatten_append, sp_set h, List.flatten_append, List.flatten_cons]
  refine (s.mid i h).perm (List.Perm.refl _) ?_
  simp only [List.append_assoc, List.flatten_cons, List.flatten_nil, List.append_nil]
  exact List.Perm.append_left _ (List.Perm.append_left _ List.perm_append_comm)
theorem Sp.one (i : Nat) {b : Nat} {o : Obj} (s : Sp w K W Hs) (h : Hs[i]? = some ((b, o) :: B)) : W.heap[b]? = some o := (s.own i h).head
theorem Sp.room (i : Nat) (s : Sp w K W Hs) (h : Hs[i]? = some (A ++ B)) (k : Step W A w1 G) : Sp w K w1 (Hs.set i (G ++ B)) := s.put i h (k.beside (s.own i h))
theorem Sp.gen {P : Program} {C : Code} {Q : Exit → Act → World → Prop} {a : Act} (s : Sp w K W Hs) (h : ∀ W', Sp w K W' Hs → C.wp P Q a W') : C.wp P Q a W := h W s
theorem Sp.genC {P : Program} {f : FuncId} {args : Array Value} {R : Ending → World → Prop} (s : Sp w K W Hs) (h : ∀ W', Sp w K W' Hs → Calls P f args W' R) : Calls P f args W R := h W s
theorem Sp.map (i : Nat) {r : Nat} {o : Obj} (o' : Obj) (s : Sp w K W Hs) (h : Hs[i]? = some [(r, o)]) : Sp w K (World.putObj W r o') (Hs.set i [(r, o')]) := by
  unfold Sp
  rw [sp_set h, List.flatten_append, List.flatten_cons]
  exact Step.putObj o' (s.mid i h)
theorem Sp.first (s : Sp w K W (G :: Hs)) : Step w K W G := by
  unfold Sp at s
  rw [List.flatten_cons] at s
  exact Step.forget s
theorem Sp.trans {Fs : List Heaplet} (s : Sp w K W [G]) (k : Sp W G w1 Fs) : Sp w K w1 Fs := by
  unfold Sp at s k ⊢
  exact Step.trans (by simpa using s) k
end
/-- What was not owned stays, whatever else is done. -/
theorem Step.keepOut {w w' : World} {H G : Heaplet} (s : Step w H w' G) {a : Addr} {v : Value} (h : w.cell? a = some v) (hn : a.block ∉ dom H) : w'.cell? a = some v := by
  rw [World.cell?_of_block (w := w) (s.frame a.block (World.block_lt_of_cell? w _ h) hn)]; exact h
theorem Step.of_alloc (w : World) (o : Obj) : Step w [] (w.alloc o) [(w.heap.size, o)] := (Step.refl (Own.nil w)).alloc o
end Go.Proofs.YtdolbeonpkanpaaGreatDoor
namespace Go.Proofs.YtdolbeonpkanpaaGreatDoor
open Go.RowKit

/-- As SlRep, but the array may be longer than the capacity. -/
def SlAt (E k : Nat) (a : Option Addr) (n c : Nat) (xs : List Value) (H : Heaplet) : Prop :=
  xs.length = n * k ∧ ((a = none ∧ n = 0 ∧ c = 0 ∧ H = []) ∨
    ∃ g cur, a = some ⟨g, 0, none⟩ ∧ H = [(g, .cells cur E (0, 0))] ∧ n ≤ c ∧ c ≤ maxLen ∧ c * k ≤ cur.size ∧ cur.toList.take (n * k) = xs)
theorem SlRep.at0 {E k : Nat} {a : Option Addr} {n c : Nat} {xs : List Value} {H : Heaplet} (h : SlRep E k a n c xs H) : SlAt E k a n c xs H := by
  obtain ⟨h1, h2⟩ := h
  refine ⟨h1, ?_⟩
  rcases h2 with h2 | ⟨g, cur, a1, a2, a3, a4, a5, a6⟩
  · exact .inl h2
  · exact .inr ⟨g, cur, a1, a2, a3, a4, by omega, a6⟩
section
variable {E k : Nat} {a : Option Addr} {n c : Nat} {xs : List Value} {H : Heaplet}
theorem SlAt.nil (E k : Nat) : SlAt E k none 0 0 [] [] := ⟨by simp, .inl ⟨rfl, rfl, rfl, rfl⟩⟩
theorem SlAt.rdCells (h : SlAt E k a n c xs H) (h1 : ∀ u ∈ xs, u.oneCell' = true) {w : World} (hw : Own w H) : RdCells w (.slice a n c) n k xs := by
  obtain ⟨hl, h⟩ := h
  refine ⟨hl, h1, ?_⟩
  rcases h with ⟨rfl, rfl, rfl, rfl⟩ | ⟨g, cur, rfl, rfl, h3, h4, h5, h6⟩
  · exact .inl ⟨rfl, rfl⟩
  · refine .inr ⟨_, c, rfl, fun j u hu => ?_⟩
    rw [Addr.add_lit]
    refine cell_of hw.head ?_
    rw [← h6, List.getElem?_take] at hu
    split at hu
    · simpa using hu
    · cases hu
theorem SlAt.rdBytes {l : List UInt8} (h : SlAt E 1 a n c (l.map u8) H) {w : World} (hw : Own w H) : RdBytes w a n c l := by
  obtain ⟨hl, h⟩ := h
  refine ⟨by simpa using hl.symm, ?_⟩
  rcases h with ⟨rfl, rfl, rfl, rfl⟩ | ⟨g, cur, rfl, rfl, h3, h4, h5, h6⟩
  · exact .inl ⟨rfl, rfl, by simpa using hl⟩
  · refine .inr ⟨_, rfl, h3, h4, fun i x hi => ?_⟩
    rw [Addr.add_lit]
    refine cell_of hw.head ?_
    have : (cur.toList.take (n * 1))[i]? = some (u8 x) := by rw [h6]; simp [hi]
    rw [List.getElem?_take] at this
    split at this
    · simpa using this
    · cases this
/-- x[:i:j] -/
theorem SlAt.cut (h : SlAt E k a n c xs H) {i j : Nat} (hi : i ≤ n) (hij : i ≤ j) (hj : j ≤ c) : SlAt E k a i j (xs.take (i * k)) H := by
  obtain ⟨hl, h⟩ := h
  refine ⟨by rw [List.length_take, hl, Nat.min_eq_left (Nat.mul_le_mul_right _ hi)], ?_⟩
  rcases h with ⟨rfl, rfl, rfl, rfl⟩ | ⟨g, cur, rfl, rfl, h2, h3, h4, h5⟩
  · exact .inl ⟨rfl, by omega, by omega, rfl⟩
  · refine .inr ⟨g, cur, rfl, rfl, hij, by omega, Nat.le_trans (Nat.mul_le_mul_right _ hj) h4, ?_⟩
    rw [← h5, List.take_take, Nat.min_eq_left (Nat.mul_le_mul_right _ hi)]
theorem SlAt.le (h : SlAt E k a n c xs H) : n ≤ c ∧ c ≤ maxLen := by
  obtain ⟨_, ⟨_, rfl, rfl, _⟩ | ⟨g, cur, _, _, h2, h3, _⟩⟩ := h
  · exact ⟨Nat.le_refl _, Nat.zero_le _⟩
  · exact ⟨h2, h3⟩
theorem SlAt.pos (h : SlAt E k a n c xs H) (hn : 0 < n) : ∃ g, a = some ⟨g, 0, none⟩ := by
  obtain ⟨_, ⟨_, rfl, _⟩ | ⟨g, cur, rfl, _⟩⟩ := h
  · omega
  · exact ⟨g, rfl⟩
theorem SlAt.at (h : SlAt E k a n c xs H) {w : World} (hw : Own w H) {i : Nat} {v : Value} (hi : xs[i]? = some v) : ∃ g, a = some ⟨g, 0, none⟩ ∧ w.cell? ⟨g, i, none⟩ = some v ∧ ∀ j, w.frozen? ⟨g, j, none⟩ = false := by
  obtain ⟨hl, ⟨rfl, rfl, rfl, rfl⟩ | ⟨g, cur, rfl, rfl, h2, h3, h4, h5⟩⟩ := h
  · rw [Nat.zero_mul] at hl
    have := List.eq_nil_of_length_eq_zero hl
    subst this; simp at hi
  · refine ⟨g, rfl, cell_of hw.head ?_, fun j => frz_of hw.h0⟩
    rw [← h5, List.getElem?_take] at hi
    split at hi
    · simpa using hi
    · cases hi
theorem SlAt.put {w W : World} {K A B : Heaplet} {g : Nat} (s : Step w K W (A ++ (H ++ B))) (h : SlAt E k (some ⟨g, 0, none⟩) n c xs H) (i : Nat) (v : Value) :
    ∃ H', SlAt E k (some ⟨g, 0, none⟩) n c (xs.set i v) H' ∧ Step w K (W.setCell ⟨g, i, none⟩ v) (A ++ (H' ++ B)) := by
  obtain ⟨hl, ⟨h1, _⟩ | ⟨g', cur, e, rfl, h2, h3, h4, h5⟩⟩ := h
  · cases h1
  · cases e
    refine ⟨[(g, .cells (cur.setIfInBounds i v) E (0, 0))], ⟨by simpa using hl, .inr ⟨g, _, rfl, rfl, h2, h3, by simpa using h4, ?_⟩⟩, Step.store (A := A) (B := B) v s⟩
    rw [Array.toList_setIfInBounds, List.take_set, h5]
theorem Sp.putAt {w W : World} {K : Heaplet} {Hs : List Heaplet} {g : Nat} (q : Nat) (s : Sp w K W Hs) (hq : Hs[q]? = some H) (h : SlAt E k (some ⟨g, 0, none⟩) n c xs H) (i : Nat) (v : Value) :
    ∃ H', SlAt E k (some ⟨g, 0, none⟩) n c (xs.set i v) H' ∧ Sp w K (W.setCell ⟨g, i, none⟩ v) (Hs.set q H') := by
  obtain ⟨H', h1, h2⟩ := SlAt.put (s.mid q hq) h i v
  refine ⟨H', h1, ?_⟩
  unfold Sp
  rw [sp_set hq, List.flatten_append, List.flatten_cons]
  exact h2
variable {P : Program}
theorem run_appAt (w : World) {t e bytes : Nat} {z : Value} (S : SlTy P t e k bytes z) (ty : TypeId) {xv : Value} {m : Nat} {news : List Value} (hv : SlAt e k a n c xs H) (hw : Own w H) (hn : RdCells w xv m k news)
    (h63 : n + m ≤ maxLen) (hbytes : (n + m) * bytes ≤ 140737488355328) :
    ∃ b' cp' w' H', (Builtin.append_ #[t, t] ty #[.slice a n c, xv]).run P w = .ok (.slice b' (n + m) cp') w' ∧ SlAt e k b' (n + m) cp' (xs ++ news) H' ∧ Step w H w' H' := by
  obtain ⟨hl, ⟨rfl, rfl, rfl, rfl⟩ | ⟨g, cur, rfl, rfl, h2, h3, h4, h5⟩⟩ := hv
  · obtain ⟨b', cp', w', H', h1, h2, h3⟩ := run_app w S ty (⟨hl, .inl ⟨rfl, rfl, rfl, rfl⟩⟩ : SlRep e k none 0 0 xs []) hw hn h63 hbytes
    exact ⟨b', cp', w', H', h1, h2.at0, h3⟩
  · obtain ⟨i0, hi, hz0, hz1, hz2⟩ := info_parts S.info
    obtain ⟨hnl, hn1, ⟨rfl, rfl⟩ | ⟨ad, c2, rfl, hc⟩⟩ := hn
    · have : news = [] := by simpa using hnl
      subst this
      have hinfo := run_sizeOf (w := w) hi
      refine ⟨_, c, w, _, ?_, ⟨by simpa using hl, .inr ⟨g, cur, rfl, rfl, by omega, h3, h4, by simpa using h5⟩⟩, Step.refl hw⟩
      simp [Builtin.append_, run_underlying S.under, hinfo, Builtin.lenOf, Builtin.firstCells, h2, storeCells]
    · by_cases hroom : n + m ≤ c
      · subst hz1
        have hfit : n * i0.size + news.length ≤ cur.size := by rw [hnl, ← Nat.add_mul]; exact Nat.le_trans (Nat.mul_le_mul_right _ hroom) h4
        refine ⟨_, _, _, _, run_append_room (P := P) w t ty e i0 S.under hi g n c cur hw.head ad m c2 news hnl hc hn1 hroom hfit, ⟨?_, .inr ⟨g, _, rfl, rfl, hroom, h3, ?_, ?_⟩⟩, Step.setRow _ (Step.refl hw)⟩
        · rw [List.length_append, hl, hnl, Nat.add_mul]
        · simp only [List.size_toArray, List.length_append, List.length_take, List.length_drop, Array.length_toList]; omega
        · have e1 : (cur.toList.take (n * i0.size) ++ news).length = (n + m) * i0.size := by
            rw [List.length_append, List.length_take, hnl, Array.length_toList, Nat.add_mul]; omega
          show List.take ((n + m) * i0.size) (cur.toList.take (n * i0.size) ++ news ++ _) = _
          rw [← e1, List.take_left, h5]
      · have holds : ∀ j u, xs[j]? = some u → w.cell? ((⟨g, 0, none⟩ : Addr).add j) = some u := fun j u hu => by
          rw [Addr.add_lit]
          refine cell_of hw.head ?_
          rw [← h5, List.getElem?_take] at hu
          split at hu
          · simpa using hu
          · cases hu
        obtain ⟨v', w', hr, hown, hg⟩ := run_append_arg_grows (P := P) w t ty e i0 z k bytes S.under hi hz0 hz1 hz2 S.cells S.pos ⟨g, 0, none⟩ n c xs hl holds ad m c2 news hnl hc (by omega) h63 hbytes
        obtain ⟨b', cp', H', rfl, hr', ho', hk⟩ := slRep_of_owns hown
        refine ⟨b', cp', w', H', hr, hr'.at0, ⟨hg.os, hg.tape, hg.output, hg.size, fun b hb hn => hg.block b hb (by simp), ho', fun b hb => .inr (hk b hb).2⟩⟩
theorem wp_appAt {o : Oper} {a0 : Act} {K : Act → World → Prop} {Q : Exit → Act → World → Prop} {w : World} {t e bytes : Nat} {z : Value} (S : SlTy P t e k bytes z) (s x : Operand)
    (ho : o.op = .call { callee := .builtin .append, args := #[s, x], argTypes := #[t, t] })
    {xv : Value} {m : Nat} {news : List Value} (hs : a0.eval s = .slice a n c) (hx : a0.eval x = xv) (hv : SlAt e k a n c xs H) (hw : Own w H) (hn : RdCells w xv m k news)
    (h63 : n + m ≤ maxLen) (hbytes : (n + m) * bytes ≤ 140737488355328)
    (h : ∀ b' cp' w' H', SlAt e k b' (n + m) cp' (xs ++ news) H' → Step w H w' H' → K (a0.put o.dst (.slice b' (n + m) cp')) w') : o.wp P a0 w K Q := by
  obtain ⟨b', cp', w', H', hr, h1, h2⟩ := run_appAt w S o.type hv hw hn h63 hbytes
  unfold Oper.wp execOp
  simp only [ho, resolve, invoke, builtin, Sem.run_bind, Sem.run_pure, Result.andThen_ok, List.map_toArray, List.map_cons, List.map_nil, hs, hx, hr]
  exact h b' cp' w' H' h1 h2
theorem step_appAt {ops : Array Oper} {o : Oper} {a0 : Act} {K : Act → World → Prop} {Q : Exit → Act → World → Prop} {E : Prop} {w : World} (hgd : o.guard = none) {t e bytes : Nat} {z : Value} (S : SlTy P t e k bytes z) (s x : Operand)
    (ho : o.op = .call { callee := .builtin .append, args := #[s, x], argTypes := #[t, t] })
    {xv : Value} {m : Nat} {news : List Value} (hs : a0.eval s = .slice a n c) (hx : a0.eval x = xv) (hv : SlAt e k a n c xs H) (hw : Own w H) (hn : RdCells w xv m k news)
    (h63 : n + m ≤ maxLen) (hbytes : (n + m) * bytes ≤ 140737488355328)
    (h : ∀ b' cp' w' H', SlAt e k b' (n + m) cp' (xs ++ news) H' → Step w H w' H' → K (a0.put o.dst (.slice b' (n + m) cp')) w') :
    if Region.wanted o (yielded ops a0.tmps) = true then Oper.wp P o a0 w K Q else E := by
  have hw' : Region.wanted o (yielded ops a0.tmps) = true := by simp [Region.wanted, hgd]
  rw [if_pos hw']
  exact wp_appAt S s x ho hs hx hv hw hn h63 hbytes h
end
end Go.Proofs.YtdolbeonpkanpaaGreatDoor
