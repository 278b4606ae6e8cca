/- A pair of logs: what is owned; what is called in it. A pair of logs: open, start. -/
import Derived.Test.YtdolbeonpkanpaaGreatDoorMDkH
import Derived.Test.YtdolbeonpkanpaaGreatDoorDkT
import Derived.Test.YtdolbeonpkanpaaGreatDoorDrM
import Derived.Test.YtdolbeonpkanpaaGreatDoorSgK
import Derived.Test.YtdolbeonpkanpaaGreatDoorMSgR
import Derived.Test.YtdolbeonpkanpaaGreatDoorSrE
import Derived.Test.YtdolbeonpkanpaaGreatDoorSrF
set_option linter.unusedVariables false
set_option linter.unusedSimpArgs false
namespace Go.Proofs.YtdolbeonpkanpaaGreatDoor
open Go.RowKit
attribute [local go_sem ↓] Go.wp_at_zero Go.wp_at_succ

section
variable {w w0 W W' V : World} {K G : Heaplet} {A Hs Gs Rs : List Heaplet}
theorem Sp.sub (A Hs Gs Rs : List Heaplet) (s : Sp w K W (A ++ (Hs ++ Rs))) (k : Sp W Hs.flatten W' Gs) : Sp w K W' (A ++ (Gs ++ Rs)) := by
  unfold Sp at *
  rw [List.flatten_append, List.flatten_append] at *
  exact Step.mid s k
theorem Sp.ownS (A Hs Rs : List Heaplet) (s : Sp w K W (A ++ (Hs ++ Rs))) : Own W Hs.flatten := by
  have h := Step.own s
  rw [List.flatten_append, List.flatten_append] at h
  exact h.right.left
theorem Sp.self (A Hs Rs : List Heaplet) (s : Sp w K W (A ++ (Hs ++ Rs))) : Sp W Hs.flatten W Hs := Step.refl (s.ownS A Hs Rs)
theorem Sp.tabS (A Hs Rs : List Heaplet) (s : Sp w K W (A ++ (Hs ++ Rs))) (hT : TabK w K) : TabK W Hs.flatten := by
  have h : Step w K W (Hs.flatten ++ (A.flatten ++ Rs.flatten)) := by
    have h := s
    unfold Sp at h
    rw [List.flatten_append, List.flatten_append] at h
    refine h.perm (List.Perm.refl _) ?_
    rw [← List.append_assoc, ← List.append_assoc]
    exact List.Perm.append_right _ List.perm_append_comm
  exact tabK_sub hT h
theorem Sp.un (h : Sp W G W' Gs) : Sp W [G].flatten W' Gs := by
  rw [show [G].flatten = G by simp]
  exact h
theorem Sp.ownR (s : Sp w K W (A ++ G :: Rs)) : Own W G := by
  have h := Step.own s
  rw [List.flatten_append, List.flatten_cons] at h
  exact h.right.left
end
abbrev prObj (d r : Nat) (l x : Value) : Obj := .cells #[pt d, pt r, l, x] 33 (0, 0)
/-- The pair at pb: the program's log and disk, the reference's log and disk; and Rs. -/
def PrS (pb d r b c : Nat) (p : Nm) (lg : Lg) (k : Dk) (lg' : Lg) (k' : Dk) (Rs : List Heaplet) (w0 : World) (K : Heaplet) (W : World) : Prop :=
  ∃ DH B S E XH DR B2 S2 E2 XH2, DkRep d k DH ∧ RkRep r k' DR ∧ LgIs b d p lg B S E XH ∧ RlIs c r p lg' B2 S2 E2 XH2 ∧
    Sp w0 K W ([[(pb, prObj d r (pt b) (pt c))]] ++ ([DH, B, S, E, XH] ++ ([DR, B2, S2, E2, XH2] ++ Rs)))
/-- The same, the disks alone. -/
def PdS (pb d r : Nat) (l x : Value) (k k' : Dk) (Rs : List Heaplet) (w0 : World) (K : Heaplet) (W : World) : Prop :=
  ∃ DH DR, DkRep d k DH ∧ RkRep r k' DR ∧ Sp w0 K W ([[(pb, prObj d r l x)]] ++ ([DH] ++ ([DR] ++ Rs)))
section
variable {pb d r b c : Nat} {p : Nm} {lg lg' : Lg} {k k' : Dk} {Rs : List Heaplet} {w0 W : World} {K : Heaplet}
theorem PrS.pd (h : PrS pb d r b c p lg k lg' k' Rs w0 K W) : PdS pb d r (pt b) (pt c) k k' Rs w0 K W := by
  obtain ⟨DH, B, S, E, XH, DR, B2, S2, E2, XH2, h1, h2, h3, h4, s⟩ := h
  refine ⟨DH, DR, h1, h2, ?_⟩
  have s2 := ((((((((s.forget 2 rfl).forget 3 rfl).forget 4 rfl).forget 5 rfl).forget 7 rfl).forget 8 rfl).forget 9 rfl).forget 10 rfl)
  exact s2.perm (by simp)
theorem pr_cells {l x : Value} {w : World} (h : Own w [(pb, prObj d r l x)]) : w.cell? ⟨pb, 0, none⟩ = some (pt d) ∧ w.cell? ⟨pb, 1, none⟩ = some (pt r) ∧ w.cell? ⟨pb, 2, none⟩ = some l ∧ w.cell? ⟨pb, 3, none⟩ = some x :=
  ⟨cell_of h.h0 rfl, cell_of h.h0 rfl, cell_of h.h0 rfl, cell_of h.h0 rfl⟩
theorem PrS.cells (h : PrS pb d r b c p lg k lg' k' Rs w0 K W) : W.cell? ⟨pb, 0, none⟩ = some (pt d) ∧ W.cell? ⟨pb, 1, none⟩ = some (pt r) ∧ W.cell? ⟨pb, 2, none⟩ = some (pt b) ∧ W.cell? ⟨pb, 3, none⟩ = some (pt c) := by
  obtain ⟨DH, B, S, E, XH, DR, B2, S2, E2, XH2, h1, h2, h3, h4, s⟩ := h
  exact pr_cells (s.own 0 rfl)
theorem PrS.xcells (h : PrS pb d r b c p lg k lg' k' Rs w0 K W) : ∃ ea ec sa sc, W.cell? ⟨c, 2, none⟩ = some (.slice ea lg'.L.length ec) ∧ W.cell? ⟨c, 3, none⟩ = some (.slice sa lg'.segs.length sc) ∧ W.cell? ⟨c, 4, none⟩ = some (iv (lg'.synced + 1)) ∧ W.cell? ⟨c, 5, none⟩ = some (.bool lg'.dead) := by
  obtain ⟨DH, B, S, E, XH, DR, B2, S2, E2, XH2, h1, h2, h3, ⟨sa, ea, sc, ec, X, _, _, _, _, rfl⟩, s⟩ := h
  obtain ⟨c0, c1, c2, c3, c4, c5⟩ := rlobj_cells (s.own 7 rfl)
  exact ⟨_, _, _, _, c2, c3, c4, c5⟩
theorem PdS.cells {l x : Value} (h : PdS pb d r l x k k' Rs w0 K W) : W.cell? ⟨pb, 0, none⟩ = some (pt d) ∧ W.cell? ⟨pb, 1, none⟩ = some (pt r) ∧ W.cell? ⟨pb, 2, none⟩ = some l ∧ W.cell? ⟨pb, 3, none⟩ = some x := by
  obtain ⟨DH, DR, h1, h2, s⟩ := h
  exact pr_cells (s.own 0 rfl)
theorem PrS.drew (h : PrS pb d r b c p lg k lg' k' Rs w0 K W) : PrS pb d r b c p lg k lg' k' Rs w0 K W.drew := by
  obtain ⟨DH, B, S, E, XH, DR, B2, S2, E2, XH2, h1, h2, h3, h4, s⟩ := h
  exact ⟨DH, B, S, E, XH, DR, B2, S2, E2, XH2, h1, h2, h3, h4, s.drew⟩
theorem PrS.drewN (n : Nat) (h : PrS pb d r b c p lg k lg' k' Rs w0 K W) : PrS pb d r b c p lg k lg' k' Rs w0 K (W.drewN n) := by
  obtain ⟨DH, B, S, E, XH, DR, B2, S2, E2, XH2, h1, h2, h3, h4, s⟩ := h
  exact ⟨DH, B, S, E, XH, DR, B2, S2, E2, XH2, h1, h2, h3, h4, s.drewN n⟩
theorem PrS.still {W' : World} (h : PrS pb d r b c p lg k lg' k' Rs w0 K W) (hs : Step W [] W' []) : PrS pb d r b c p lg k lg' k' Rs w0 K W' := by
  obtain ⟨DH, B, S, E, XH, DR, B2, S2, E2, XH2, h1, h2, h3, h4, s⟩ := h
  exact ⟨DH, B, S, E, XH, DR, B2, S2, E2, XH2, h1, h2, h3, h4, s.still hs⟩
theorem PrS.junk {W' : World} {G : Heaplet} (h : PrS pb d r b c p lg k lg' k' Rs w0 K W) (hs : Step W [] W' G) : PrS pb d r b c p lg k lg' k' Rs w0 K W' := h.still (Step.forget (A := []) hs)
theorem PrS.fresh {W' : World} {G : Heaplet} (h : PrS pb d r b c p lg k lg' k' Rs w0 K W) (hs : Step W [] W' G) : PrS pb d r b c p lg k lg' k' (Rs ++ [G]) w0 K W' := by
  obtain ⟨DH, B, S, E, XH, DR, B2, S2, E2, XH2, h1, h2, h3, h4, s⟩ := h
  exact ⟨DH, B, S, E, XH, DR, B2, S2, E2, XH2, h1, h2, h3, h4, by simpa using s.fresh hs⟩
theorem PrS.alloc (o : Obj) (h : PrS pb d r b c p lg k lg' k' Rs w0 K W) : PrS pb d r b c p lg k lg' k' (Rs ++ [[(W.heap.size, o)]]) w0 K (W.alloc o) := h.fresh (Step.of_alloc W o)
theorem PrS.ownR {A Q : List Heaplet} {G : Heaplet} (h : PrS pb d r b c p lg k lg' k' (A ++ G :: Q) w0 K W) : Own W G := by
  obtain ⟨DH, B, S, E, XH, DR, B2, S2, E2, XH2, h1, h2, h3, h4, s⟩ := h
  have s : Sp w0 K W (([[(pb, prObj d r (pt b) (pt c))]] ++ ([DH, B, S, E, XH] ++ ([DR, B2, S2, E2, XH2] ++ A))) ++ G :: Q) := by simpa using s
  exact s.ownR
/-- What is done to one of the heaplets besides. -/
theorem PrS.putR {A Q : List Heaplet} {G G' : Heaplet} {W' : World} (h : PrS pb d r b c p lg k lg' k' (A ++ G :: Q) w0 K W) (hs : Step W G W' G') : PrS pb d r b c p lg k lg' k' (A ++ G' :: Q) w0 K W' := by
  obtain ⟨DH, B, S, E, XH, DR, B2, S2, E2, XH2, h1, h2, h3, h4, s⟩ := h
  have s : Sp w0 K W (([[(pb, prObj d r (pt b) (pt c))]] ++ ([DH, B, S, E, XH] ++ ([DR, B2, S2, E2, XH2] ++ A))) ++ ([G] ++ Q)) := by simpa using s
  have s2 := s.sub _ [G] [G'] Q (by simpa [Sp] using hs)
  exact ⟨DH, B, S, E, XH, DR, B2, S2, E2, XH2, h1, h2, h3, h4, by simpa using s2⟩
/-- What is there besides is forgotten. -/
theorem PrS.drop (h : PrS pb d r b c p lg k lg' k' Rs w0 K W) : PrS pb d r b c p lg k lg' k' [] w0 K W := by
  obtain ⟨DH, B, S, E, XH, DR, B2, S2, E2, XH2, h1, h2, h3, h4, s⟩ := h
  refine ⟨DH, B, S, E, XH, DR, B2, S2, E2, XH2, h1, h2, h3, h4, ?_⟩
  unfold Sp at s ⊢
  have e : ([[(pb, prObj d r (pt b) (pt c))]] ++ ([DH, B, S, E, XH] ++ ([DR, B2, S2, E2, XH2] ++ Rs))).flatten = ([[(pb, prObj d r (pt b) (pt c))]] ++ ([DH, B, S, E, XH] ++ ([DR, B2, S2, E2, XH2] ++ []))).flatten ++ Rs.flatten := by simp
  rw [e] at s
  exact s.forget
/-- A call of the program's log. -/
theorem PrS.lcall {lg1 : Lg} {k1 : Dk} {W' : World} {Gs : List Heaplet} {DH B S E XH DR B2 S2 E2 XH2 DH1 B1 S1 E1 XH1 : Heaplet} (h2 : RkRep r k' DR) (h4 : RlIs c r p lg' B2 S2 E2 XH2)
    (s : Sp w0 K W ([[(pb, prObj d r (pt b) (pt c))]] ++ ([DH, B, S, E, XH] ++ ([DR, B2, S2, E2, XH2] ++ Rs)))) (h1 : DkRep d k1 DH1) (h3 : LgIs b d p lg1 B1 S1 E1 XH1) (hst : Sp W [DH, B, S, E, XH].flatten W' [DH1, B1, S1, E1, XH1]) :
    PrS pb d r b c p lg1 k1 lg' k' Rs w0 K W' := ⟨DH1, B1, S1, E1, XH1, DR, B2, S2, E2, XH2, h1, h2, h3, h4, s.sub _ _ _ _ hst⟩
theorem PrS.rcall {lg1 : Lg} {k1 : Dk} {W' : World} {DH B S E XH DR B2 S2 E2 XH2 DH1 B1 S1 E1 XH1 : Heaplet} (h1 : DkRep d k DH) (h3 : LgIs b d p lg B S E XH)
    (s : Sp w0 K W ([[(pb, prObj d r (pt b) (pt c))]] ++ ([DH, B, S, E, XH] ++ ([DR, B2, S2, E2, XH2] ++ Rs)))) (h2 : RkRep r k1 DH1) (h4 : RlIs c r p lg1 B1 S1 E1 XH1) (hst : Sp W [DR, B2, S2, E2, XH2].flatten W' [DH1, B1, S1, E1, XH1]) :
    PrS pb d r b c p lg k lg1 k1 Rs w0 K W' := by
  have s' : Sp w0 K W (([[(pb, prObj d r (pt b) (pt c))]] ++ [DH, B, S, E, XH]) ++ ([DR, B2, S2, E2, XH2] ++ Rs)) := by simpa using s
  have s2 := s'.sub _ _ _ _ hst
  exact ⟨DH, B, S, E, XH, DH1, B1, S1, E1, XH1, h1, h2, h3, h4, by simpa using s2⟩
theorem ps_sync (h : PrS pb d r b c p lg k lg' k' Rs w0 K W) (hk : k.Ok) (hl : lg.Ok) :
    Calls Tryz.prog 16 #[pt b] W fun e w' => e = .returned (iv (lsyncN p lg k).1) ∧ PrS pb d r b c p (lsyncN p lg k).2.1 (lsyncN p lg k).2.2 lg' k' Rs w0 K w' := by
  obtain ⟨DH, B, S, E, XH, DR, B2, S2, E2, XH2, h1, h2, h3, h4, s⟩ := h
  refine (lsync_any b d p lg k DH B S E XH W W _ h1 hk h3 (s.self _ _ _) hl).mono ?_
  rintro e w' ⟨he, DH1, B1, S1, E1, XH1, g1, g2, hst⟩
  exact ⟨he, PrS.lcall (Gs := []) h2 h4 s g1 g2 hst⟩
theorem psr_sync (h : PrS pb d r b c p lg k lg' k' Rs w0 K W) (hk : k'.Ok) (hl : lg'.Ok) (hp : p.length ≤ 1000) :
    Calls Tryz.prog 17 #[pt c] W fun e w' => e = .returned (iv (lsyncN p lg' k').1) ∧ PrS pb d r b c p lg k (lsyncN p lg' k').2.1 (lsyncN p lg' k').2.2 Rs w0 K w' := by
  obtain ⟨DH, B, S, E, XH, DR, B2, S2, E2, XH2, h1, h2, h3, h4, s⟩ := h
  have s' : Sp w0 K W (([[(pb, prObj d r (pt b) (pt c))]] ++ [DH, B, S, E, XH]) ++ ([DR, B2, S2, E2, XH2] ++ Rs)) := by simpa using s
  refine (rlsync_any c r p lg' k' DR B2 S2 E2 XH2 W W _ h2 hk h4 (s'.self _ _ _) hl hp).mono ?_
  rintro e w' ⟨he, DH1, B1, S1, E1, XH1, g1, g2, hst⟩
  exact ⟨he, PrS.rcall h1 h3 s g1 g2 hst⟩
theorem ps_append (h : PrS pb d r b c p lg k lg' k' Rs w0 K W) (hk : k.Ok) (hl : lg.Ok) (hT : TabK w0 K) (hp : p.length ≤ 1000) (pa : Option Addr) (pc : Nat) (e : List UInt8) (hb : ∀ V F, Sp w0 K V (F ++ Rs) → RdBytes V pa e.length pc e) (hel : e.length ≤ 140737488300000) :
    Calls Tryz.prog 14 #[pt b, .slice pa e.length pc] W fun e' w' => e' = .returned (.tuple #[iv (lappN p e lg k).1, iv (lappN p e lg k).2.1]) ∧ PrS pb d r b c p (lappN p e lg k).2.2.1 (lappN p e lg k).2.2.2 lg' k' Rs w0 K w' := by
  obtain ⟨DH, B, S, E, XH, DR, B2, S2, E2, XH2, h1, h2, h3, h4, s⟩ := h
  refine (lapp_any b d p lg k DH B S E XH W W _ h1 hk h3 (s.self _ _ _) hl (s.tabS _ _ _ hT) hp pa pc e (fun V H st => ?_) hel).mono ?_
  · have s2 := s.sub _ _ [H] _ (by simpa [Sp] using st)
    exact hb V ([[(pb, prObj d r (pt b) (pt c))]] ++ ([H] ++ [DR, B2, S2, E2, XH2])) (by simpa using s2)
  · rintro e' w' ⟨he, DH1, B1, S1, E1, XH1, g1, g2, hst⟩
    exact ⟨he, PrS.lcall (Gs := []) h2 h4 s g1 g2 hst⟩
theorem psr_append (h : PrS pb d r b c p lg k lg' k' Rs w0 K W) (hk : k'.Ok) (hl : lg'.Ok) (hon : lg'.On p k') (hp : p.length ≤ 1000) (pa : Option Addr) (pc : Nat) (e : List UInt8) (hb : ∀ V F, Sp w0 K V (F ++ Rs) → RdBytes V pa e.length pc e) (hel : e.length ≤ 140737488300000) :
    Calls Tryz.prog 15 #[pt c, .slice pa e.length pc] W fun e' w' => e' = .returned (.tuple #[iv (lappN p e lg' k').1, iv (lappN p e lg' k').2.1]) ∧ PrS pb d r b c p lg k (lappN p e lg' k').2.2.1 (lappN p e lg' k').2.2.2 Rs w0 K w' := by
  obtain ⟨DH, B, S, E, XH, DR, B2, S2, E2, XH2, h1, h2, h3, h4, s⟩ := h
  have s' : Sp w0 K W (([[(pb, prObj d r (pt b) (pt c))]] ++ [DH, B, S, E, XH]) ++ ([DR, B2, S2, E2, XH2] ++ Rs)) := by simpa using s
  refine (rlapp_any c r p lg' k' DR B2 S2 E2 XH2 W W _ h2 hk h4 (s'.self _ _ _) hl hon hp pa pc e (fun V H st => ?_) hel).mono ?_
  · have s2 := s'.sub _ _ [H] _ (by simpa [Sp] using st)
    exact hb V (([[(pb, prObj d r (pt b) (pt c))]] ++ [DH, B, S, E, XH]) ++ [H]) (by simpa using s2)
  · rintro e' w' ⟨he, DH1, B1, S1, E1, XH1, g1, g2, hst⟩
    exact ⟨he, PrS.rcall h1 h3 s g1 g2 hst⟩
theorem ps_next (h : PrS pb d r b c p lg k lg' k' Rs w0 K W) (hl : lg.Ok) :
    Calls Tryz.prog 22 #[pt b] W fun e w' => e = .returned (.tuple #[iv (lg.L.length + 1), iv (lg.synced + 1)]) ∧ PrS pb d r b c p lg k lg' k' Rs w0 K w' := by
  obtain ⟨DH, B, S, E, XH, DR, B2, S2, E2, XH2, h1, h2, h3, h4, s⟩ := h
  refine (next_any b d p lg B S E XH W h3 (s.own 2 rfl) hl).mono ?_
  rintro e w' ⟨he, hst⟩
  exact ⟨he, DH, B, S, E, XH, DR, B2, S2, E2, XH2, h1, h2, h3, h4, s.still hst⟩
theorem ps_entry (h : PrS pb d r b c p lg k lg' k' Rs w0 K W) (hl : lg.Ok) (n : Int) :
    Calls Tryz.prog 23 #[pt b, ii n] W fun e w' => ∃ a cc H, e = .returned (.tuple #[.slice a (entN lg n).1.length cc, iv (entN lg n).2]) ∧ SlRep 5 1 a (entN lg n).1.length cc ((entN lg n).1.map u8) H ∧ PrS pb d r b c p lg k lg' k' (Rs ++ [H]) w0 K w' := by
  have h0 := h
  obtain ⟨DH, B, S, E, XH, DR, B2, S2, E2, XH2, h1, h2, h3, h4, s⟩ := h
  refine (entry_any b d p lg n B S E XH W W _ h3 DH (s.self _ [DH, B, S, E, XH] _) hl).mono ?_
  rintro e w' ⟨a, cc, H, he, hr, hst⟩
  exact ⟨a, cc, H, he, hr, h0.fresh hst⟩
theorem psr_entry (h : PrS pb d r b c p lg k lg' k' Rs w0 K W) (hl : lg'.Ok) (n : Int) :
    Calls Tryz.prog 66 #[pt c, ii n] W fun e w' => ∃ a cc H, e = .returned (.tuple #[.slice a (entN lg' n).1.length cc, iv (entN lg' n).2]) ∧ SlRep 5 1 a (entN lg' n).1.length cc ((entN lg' n).1.map u8) H ∧ PrS pb d r b c p lg k lg' k' (Rs ++ [H]) w0 K w' := by
  have h0 := h
  obtain ⟨DH, B, S, E, XH, DR, B2, S2, E2, XH2, h1, h2, h3, h4, s⟩ := h
  have s' : Sp w0 K W (([[(pb, prObj d r (pt b) (pt c))]] ++ [DH, B, S, E, XH]) ++ ([DR, B2, S2, E2, XH2] ++ Rs)) := by simpa using s
  refine (rentry_any c r p lg' n B2 S2 E2 XH2 W W _ h4 DR (s'.self _ [DR, B2, S2, E2, XH2] _) hl).mono ?_
  rintro e w' ⟨a, cc, H, he, hr, hst⟩
  exact ⟨a, cc, H, he, hr, h0.fresh hst⟩
theorem ps_names (h : PrS pb d r b c p lg k lg' k' Rs w0 K W) (hl : lg.Ok) :
    Calls Tryz.prog 34 #[pt b] W fun e w' => ∃ a cc H, e = .returned (.slice a (lnames p lg).length cc) ∧ SlRep 9 1 a (lnames p lg).length cc ((lnames p lg).map strV) H ∧ PrS pb d r b c p lg k lg' k' (Rs ++ [H]) w0 K w' := by
  have h0 := h
  obtain ⟨DH, B, S, E, XH, DR, B2, S2, E2, XH2, h1, h2, h3, h4, s⟩ := h
  refine (lnames_any b d p lg B S E XH W W _ h3 DH (s.self _ [DH, B, S, E, XH] _) hl).mono ?_
  rintro e w' ⟨a, cc, H, he, hr, hst⟩
  exact ⟨a, cc, H, he, hr, h0.fresh hst⟩
theorem psr_names (h : PrS pb d r b c p lg k lg' k' Rs w0 K W) (hl : lg'.Ok) (hp : p.length ≤ 1000) :
    Calls Tryz.prog 64 #[pt c] W fun e w' => ∃ a cc H, e = .returned (.slice a (lnames p lg').length cc) ∧ SlRep 9 1 a (lnames p lg').length cc ((lnames p lg').map strV) H ∧ PrS pb d r b c p lg k lg' k' (Rs ++ [H]) w0 K w' := by
  have h0 := h
  obtain ⟨DH, B, S, E, XH, DR, B2, S2, E2, XH2, h1, h2, h3, h4, s⟩ := h
  have s' : Sp w0 K W (([[(pb, prObj d r (pt b) (pt c))]] ++ [DH, B, S, E, XH]) ++ ([DR, B2, S2, E2, XH2] ++ Rs)) := by simpa using s
  refine (rlnames_any c r p lg' B2 S2 E2 XH2 W W _ h4 DR (s'.self _ [DR, B2, S2, E2, XH2] _) hl hp).mono ?_
  rintro e w' ⟨a, cc, H, he, hr, hst⟩
  exact ⟨a, cc, H, he, hr, h0.fresh hst⟩
/-! ## the disks -/
theorem PrS.dput {k1 : Dk} {W' : World} {DH B S E XH DR B2 S2 E2 XH2 DH1 : Heaplet} (h2 : RkRep r k' DR) (h3 : LgIs b d p lg B S E XH) (h4 : RlIs c r p lg' B2 S2 E2 XH2)
    (s : Sp w0 K W ([[(pb, prObj d r (pt b) (pt c))]] ++ ([DH, B, S, E, XH] ++ ([DR, B2, S2, E2, XH2] ++ Rs)))) (h1 : DkRep d k1 DH1) (hst : Step W DH W' DH1) :
    PrS pb d r b c p lg k1 lg' k' Rs w0 K W' := ⟨DH1, B, S, E, XH, DR, B2, S2, E2, XH2, h1, h2, h3, h4, s.put 1 rfl hst⟩
theorem PrS.rput {k1 : Dk} {W' : World} {DH B S E XH DR B2 S2 E2 XH2 DH1 : Heaplet} (h1 : DkRep d k DH) (h3 : LgIs b d p lg B S E XH) (h4 : RlIs c r p lg' B2 S2 E2 XH2)
    (s : Sp w0 K W ([[(pb, prObj d r (pt b) (pt c))]] ++ ([DH, B, S, E, XH] ++ ([DR, B2, S2, E2, XH2] ++ Rs)))) (h2 : RkRep r k1 DH1) (hst : Step W DR W' DH1) :
    PrS pb d r b c p lg k lg' k1 Rs w0 K W' := ⟨DH, B, S, E, XH, DH1, B2, S2, E2, XH2, h1, h2, h3, h4, s.put 6 rfl hst⟩
theorem ps_fuse (h : PrS pb d r b c p lg k lg' k' Rs w0 K W) (n : Int) (hn : n ≤ 9223372036854775807) :
    Calls Tryz.prog 12 #[pt d, ii n] W fun e w' => e = .returned (.tuple #[]) ∧ PrS pb d r b c p lg (fuN n k) lg' k' Rs w0 K w' := by
  obtain ⟨DH, B, S, E, XH, DR, B2, S2, E2, XH2, h1, h2, h3, h4, s⟩ := h
  refine (fuse_any d k n DH W h1 (s.own 1 rfl) hn).mono ?_
  rintro e w' ⟨he, H, g1, hst⟩
  exact ⟨he, PrS.dput h2 h3 h4 s g1 hst⟩
theorem psr_fuse (h : PrS pb d r b c p lg k lg' k' Rs w0 K W) (n : Int) (hn : n ≤ 9223372036854775807) :
    Calls Tryz.prog 13 #[pt r, ii n] W fun e w' => e = .returned (.tuple #[]) ∧ PrS pb d r b c p lg k lg' (fuN n k') Rs w0 K w' := by
  obtain ⟨DH, B, S, E, XH, DR, B2, S2, E2, XH2, h1, h2, h3, h4, s⟩ := h
  refine (rfuse_any r k' n DR W h2 (s.own 6 rfl) hn).mono ?_
  rintro e w' ⟨he, H, g1, hst⟩
  exact ⟨he, PrS.rput h1 h3 h4 s g1 hst⟩
theorem ps_crash (h : PrS pb d r b c p lg k lg' k' Rs w0 K W) (hk : k.Ok) (keep : Int) (tear : UInt8) (hn : keep ≤ 9223372036854775807) :
    Calls Tryz.prog 18 #[pt d, ii keep, u8 tear] W fun e w' => e = .returned (.tuple #[]) ∧ PrS pb d r b c p lg (crN keep tear k) lg' k' Rs w0 K w' := by
  obtain ⟨DH, B, S, E, XH, DR, B2, S2, E2, XH2, h1, h2, h3, h4, s⟩ := h
  refine (dcrash d k keep tear DH W h1 hk (s.own 1 rfl) hn).mono ?_
  rintro e w' ⟨he, H, g1, hst⟩
  exact ⟨he, PrS.dput h2 h3 h4 s g1 hst⟩
theorem psr_crash (h : PrS pb d r b c p lg k lg' k' Rs w0 K W) (hk : k'.Ok) (keep : Int) (tear : UInt8) (hn : keep ≤ 9223372036854775807) :
    Calls Tryz.prog 19 #[pt r, ii keep, u8 tear] W fun e w' => e = .returned (.tuple #[]) ∧ PrS pb d r b c p lg k lg' (crN keep tear k') Rs w0 K w' := by
  obtain ⟨DH, B, S, E, XH, DR, B2, S2, E2, XH2, h1, h2, h3, h4, s⟩ := h
  refine (rcrash r k' keep tear DR W h2 hk (s.own 6 rfl) hn).mono ?_
  rintro e w' ⟨he, H, g1, hst⟩
  exact ⟨he, PrS.rput h1 h3 h4 s g1 hst⟩
theorem ps_cut (h : PrS pb d r b c p lg k lg' k' Rs w0 K W) (hk : k.Ok) (nm : Nm) (n : Int) :
    Calls Tryz.prog 65 #[pt d, strV nm, ii n] W fun e w' => e = .returned (iv (gateN [nm] (cuI nm n) k).1) ∧ PrS pb d r b c p lg (gateN [nm] (cuI nm n) k).2 lg' k' Rs w0 K w' := by
  obtain ⟨DH, B, S, E, XH, DR, B2, S2, E2, XH2, h1, h2, h3, h4, s⟩ := h
  refine (dcut d k DH nm n W h1 hk (s.own 1 rfl)).mono ?_
  rintro e w' ⟨he, H, g1, hst⟩
  exact ⟨he, PrS.dput h2 h3 h4 s g1 hst⟩
theorem psr_cut (h : PrS pb d r b c p lg k lg' k' Rs w0 K W) (hk : k'.Ok) (nm : Nm) (n : Int) :
    Calls Tryz.prog 60 #[pt r, strV nm, ii n] W fun e w' => e = .returned (iv (gateN [nm] (cuI nm n) k').1) ∧ PrS pb d r b c p lg k lg' (gateN [nm] (cuI nm n) k').2 Rs w0 K w' := by
  obtain ⟨DH, B, S, E, XH, DR, B2, S2, E2, XH2, h1, h2, h3, h4, s⟩ := h
  refine (rcut r k' DR nm n W h2 hk (s.own 6 rfl)).mono ?_
  rintro e w' ⟨he, H, g1, hst⟩
  exact ⟨he, PrS.rput h1 h3 h4 s g1 hst⟩
theorem ps_dnames (h : PrS pb d r b c p lg k lg' k' Rs w0 K W) (hk : k.Ok) :
    Calls Tryz.prog 51 #[pt d] W fun e w' => ∃ a cc H, e = .returned (.slice a (k.L.map Prod.fst).length cc) ∧ SlRep 9 1 a (k.L.map Prod.fst).length cc ((k.L.map Prod.fst).map strV) H ∧ PrS pb d r b c p lg k lg' k' (Rs ++ [H]) w0 K w' := by
  have h0 := h
  obtain ⟨DH, B, S, E, XH, DR, B2, S2, E2, XH2, h1, h2, h3, h4, s⟩ := h
  refine (dnames d k DH W h1 hk (s.own 1 rfl)).mono ?_
  rintro e w' ⟨a, cc, H, he, hr, hst⟩
  exact ⟨a, cc, H, he, hr, h0.fresh hst⟩
theorem psr_dnames (h : PrS pb d r b c p lg k lg' k' Rs w0 K W) (hk : k'.Ok) :
    Calls Tryz.prog 55 #[pt r] W fun e w' => ∃ a cc H, e = .returned (.slice a (k'.L.map Prod.fst).length cc) ∧ SlRep 9 1 a (k'.L.map Prod.fst).length cc ((k'.L.map Prod.fst).map strV) H ∧ PrS pb d r b c p lg k lg' k' (Rs ++ [H]) w0 K w' := by
  have h0 := h
  obtain ⟨DH, B, S, E, XH, DR, B2, S2, E2, XH2, h1, h2, h3, h4, s⟩ := h
  refine (rnames r k' DR W h2 hk (s.own 6 rfl)).mono ?_
  rintro e w' ⟨a, cc, H, he, hr, hst⟩
  exact ⟨a, cc, H, he, hr, h0.fresh hst⟩
theorem ps_dread (h : PrS pb d r b c p lg k lg' k' Rs w0 K W) (hk : k.Ok) (nm : Nm) :
    Calls Tryz.prog 35 #[pt d, strV nm] W fun e w' => ∃ a cc H, e = .returned (.tuple #[.slice a (rdN nm k).1.length cc, iv (rdN nm k).2]) ∧ SlRep 5 1 a (rdN nm k).1.length cc ((rdN nm k).1.map u8) H ∧ PrS pb d r b c p lg k lg' k' (Rs ++ [H]) w0 K w' := by
  have h0 := h
  obtain ⟨DH, B, S, E, XH, DR, B2, S2, E2, XH2, h1, h2, h3, h4, s⟩ := h
  refine (dread d k DH nm W h1 hk (s.own 1 rfl)).mono ?_
  rintro e w' ⟨a, cc, H, he, hr, hst⟩
  exact ⟨a, cc, H, he, hr, h0.fresh hst⟩
theorem psr_dread (h : PrS pb d r b c p lg k lg' k' Rs w0 K W) (hk : k'.Ok) (nm : Nm) :
    Calls Tryz.prog 57 #[pt r, strV nm] W fun e w' => ∃ a cc H, e = .returned (.tuple #[.slice a (rdN nm k').1.length cc, iv (rdN nm k').2]) ∧ SlRep 5 1 a (rdN nm k').1.length cc ((rdN nm k').1.map u8) H ∧ PrS pb d r b c p lg k lg' k' (Rs ++ [H]) w0 K w' := by
  have h0 := h
  obtain ⟨DH, B, S, E, XH, DR, B2, S2, E2, XH2, h1, h2, h3, h4, s⟩ := h
  refine (rread r k' DR nm W h2 hk (s.own 6 rfl)).mono ?_
  rintro e w' ⟨a, cc, H, he, hr, hst⟩
  exact ⟨a, cc, H, he, hr, h0.fresh hst⟩
end
end Go.Proofs.YtdolbeonpkanpaaGreatDoor
namespace Go.Proofs.YtdolbeonpkanpaaGreatDoor
open Go.RowKit
attribute [local go_sem ↓] Go.wp_at_zero Go.wp_at_succ

section
variable {pb d r b c : Nat} {p : Nm} {lg lg' : Lg} {k k' : Dk} {Rs : List Heaplet} {w0 W : World} {K : Heaplet}
set_option maxHeartbeats 1000000 in
set_option maxRecDepth 100000 in
theorem open_any {l x : Value} (h : PdS pb d r l x k k Rs w0 K W) (hk : k.Ok) (hl : k.left = none) (hT : TabK w0 K) :
    Calls Tryz.prog 32 #[pt pb] W fun e w' => e = .returned (.bool true) ∧ ∃ b c lg k2, openN [97] k = (0, lg, k2) ∧ PrS pb d r b c [97] lg k2 lg k2 Rs w0 K w' := by
  obtain ⟨DH, DR, h1, h2, s⟩ := h
  obtain ⟨lg, k2, e1, hI, hl2, hsy, hdd⟩ := open_free (p := [97]) hk hl
  have hlo := Lib.hid (lopen_any d [97] k DH W h1 hk (s.own 1 rfl) (by simpa using s.tabS _ [DH] _ hT) (by decide) (by decide))
  have hro := Lib.hid (fun W hW => rlopen_any r [97] k DR W h2 hk hW (by decide) (by decide))
  rw [e1] at hlo hro
  have np2 : ∀ (w : World) (b : Nat), (binOp .neq 30 (pt b) (.pointer none)).run Tryz.prog w = .ok (.bool true) w := fun w b => by kernel_rfl
  obtain ⟨c0, c1, c2, c3⟩ := pr_cells (s.own 0 rfl)
  have xlt := heap_lt (s.own 0 rfl).h0
  replace e1 := Lib.hid e1
  clear hI hl2 hsy hdd h1 h2 hk hl
  go_enter Tryz.func32, Tryz.ntmps32
  go_wp2_with fail
  refine hlo.out.mono ?_
  rintro e w1 (⟨h0, _⟩ | ⟨_, b, DH', B, S, E, XH, rfl, hlg, hd', hst⟩)
  · exact absurd rfl h0
  have s2 := s.sub [[(pb, prObj d r l x)]] [DH] _ _ hst.un
  clear hst s c0 c1 c2 c3 xlt hlo
  simp only at hlg hd'
  obtain ⟨c0, c1, c2, c3⟩ := pr_cells (s2.own 0 rfl)
  have xlt := heap_lt (s2.own 0 rfl).h0
  have hr2 := Lib.hid (hro.out w1 (s2.own 6 rfl))
  go_wp2_with fail
  refine hr2.out.mono ?_
  rintro e w3 (⟨h0, _⟩ | ⟨_, c, DR', B2, S2, E2, XH2, rfl, hrl, hd2, hst⟩)
  · exact absurd rfl h0
  have s2' : Sp w0 K w1 (([[(pb, prObj d r l x)]] ++ [DH', B, S, E, XH]) ++ ([DR] ++ Rs)) := by simpa using s2
  have s3 := s2'.sub _ [DR] _ _ hst.un
  simp only at hrl hd2
  clear hst s2 s2' c0 c1 c2 c3 xlt hr2 hro
  obtain ⟨c0, c1, c2, c3⟩ := pr_cells (s3.own 0 rfl)
  have xlt := heap_lt (s3.own 0 rfl).h0
  have fz := fun i => frz_of (i := i) (s3.own 0 rfl).h0
  have s4 := (s3.store 0 rfl (j := 2) (pt b)).store 0 rfl (j := 3) (pt c)
  go_wp2_with fail
  go_ret
  exact ⟨rfl, b, c, lg, k2, e1.out, DH', B, S, E, XH, DR', B2, S2, E2, XH2, hd', hd2, hlg, hrl, by simpa using s4⟩
theorem openN_empty (p : Nm) (n : Nat) : openN p ⟨n, [], none⟩ = (0, lg0, ⟨n, [], none⟩) := rfl
set_option maxHeartbeats 1000000 in
set_option maxRecDepth 100000 in
theorem start_any (n : Nat) (w : World) (hn : n ≤ 1073741824) (hT : Tab w) :
    Calls Tryz.prog 11 #[iv n] w fun e w' => ∃ pb d r b c, e = .returned (.tuple #[pt pb, .bool true]) ∧ PrS pb d r b c [97] lg0 ⟨n, [], none⟩ lg0 ⟨n, [], none⟩ [] w [] w' := by
  have hd := Lib.hid (dnew_ok (n : Int) n rfl hn w)
  have hr := Lib.hid (fun W => rnew_any (n : Int) W)
  have hok : (⟨n, [], none⟩ : Dk).Ok := new_ok hn
  have hT0 := tabK_nil hT
  go_enter Tryz.func11, Tryz.ntmps11
  go_wp2_with fail
  refine hd.out.mono ?_
  rintro e w1 ⟨d, DH, rfl, h1, hst⟩
  have s1 := Sp.of hst
  clear hst
  go_wp2_with fail
  refine (hr.out w1).mono ?_
  rintro e w2 (⟨h0, _⟩ | ⟨r, DR, h0, h00, rfl, h2, hst⟩)
  · exfalso; omega
  rw [show ((n : Int).toNat) = n from rfl] at h2
  have s2 : Sp w [] w2 [DH, DR] := s1.fresh hst
  clear hst h0 h00 s1
  have s3 : Sp w [] _ [DH, DR, [(w2.heap.size, prObj d r (.pointer none) (.pointer none))]] := s2.alloc _
  obtain ⟨pb, hpb⟩ : ∃ pb, pb = w2.heap.size := ⟨_, rfl⟩
  rw [← hpb] at s3
  have hop := Lib.hid (fun W (s : Sp w [] W [DH, DR, [(pb, prObj d r (.pointer none) (.pointer none))]]) => open_any (pb := pb) (Rs := []) ⟨DH, DR, h1, h2, s.perm (by simp only [List.flatten_cons, List.flatten_nil, List.append_nil, List.cons_append, List.nil_append]; rw [← List.append_assoc]; exact List.perm_append_comm (l₁ := DH ++ DR) (l₂ := [_]))⟩ hok rfl hT0)
  go_upto_region 4 with fail
  refine Sp.gen s3 ?_
  rw [← hpb]
  clear s3 s2 hpb
  intro W s
  go_wp2_with fail
  refine (hop.out W s).mono ?_
  rintro e w4 ⟨rfl, b, c, lg, k2, he, hps⟩
  rw [openN_empty] at he
  cases he
  go_wp2_with fail
  go_ret2
  exact ⟨pb, d, r, b, c, rfl, hps⟩
end
end Go.Proofs.YtdolbeonpkanpaaGreatDoor
