/- The program's log alone, and what is owned besides: what is called in it. -/
import Derived.Test.YtdolbeonpkanpaaGreatDoorMSvF
set_option linter.unusedVariables false
set_option linter.unusedSimpArgs false
namespace Go.Proofs.YtdolbeonpkanpaaGreatDoor
open Go.RowKit
attribute [local go_sem ↓] Go.wp_at_zero Go.wp_at_succ

/-- The program's log at b over the disk at d; Rs besides. -/
def LgS (d b : Nat) (p : Nm) (lg : Lg) (k : Dk) (Rs : List Heaplet) (w0 : World) (K : Heaplet) (W : World) : Prop :=
  ∃ DH B S E XH, DkRep d k DH ∧ LgIs b d p lg B S E XH ∧ Sp w0 K W ([] ++ ([DH, B, S, E, XH] ++ Rs))
section
variable {pb d r b c : Nat} {p : Nm} {lg lg' : Lg} {k k' : Dk} {Rs : List Heaplet} {w0 W : World} {K : Heaplet}
theorem PrS.lgS (h : PrS pb d r b c p lg k lg' k' Rs w0 K W) : LgS d b p lg k [[(pb, prObj d r (pt b) (pt c))]] w0 K W := by
  obtain ⟨DH, B, S, E, XH, DR, B2, S2, E2, XH2, h1, h2, h3, h4, s⟩ := h
  refine ⟨DH, B, S, E, XH, h1, h3, ?_⟩
  unfold Sp at s ⊢
  have e : ([[(pb, prObj d r (pt b) (pt c))]] ++ ([DH, B, S, E, XH] ++ ([DR, B2, S2, E2, XH2] ++ Rs))).flatten = ((pb, prObj d r (pt b) (pt c)) :: [DH, B, S, E, XH].flatten) ++ ([DR, B2, S2, E2, XH2] ++ Rs).flatten := by simp
  rw [e] at s
  refine (Step.forget s).perm (List.Perm.refl _) ?_
  have e2 : ([] ++ ([DH, B, S, E, XH] ++ [[(pb, prObj d r (pt b) (pt c))]])).flatten = [DH, B, S, E, XH].flatten ++ [(pb, prObj d r (pt b) (pt c))] := by simp
  rw [e2]
  exact List.perm_append_comm (l₁ := [_])
theorem LgS.own0 {Q : List Heaplet} {G : Heaplet} (h : LgS d b p lg k (G :: Q) w0 K W) : Own W G := by
  obtain ⟨DH, B, S, E, XH, h1, h3, s⟩ := h
  exact s.own 5 rfl
theorem LgS.own1 {Q : List Heaplet} {G0 G : Heaplet} (h : LgS d b p lg k (G0 :: G :: Q) w0 K W) : Own W G := by
  obtain ⟨DH, B, S, E, XH, h1, h3, s⟩ := h
  exact s.own 6 rfl
theorem LgS.own2 {Q : List Heaplet} {G0 G1 G : Heaplet} (h : LgS d b p lg k (G0 :: G1 :: G :: Q) w0 K W) : Own W G := by
  obtain ⟨DH, B, S, E, XH, h1, h3, s⟩ := h
  exact s.own 7 rfl
theorem LgS.step (h : LgS d b p lg k Rs w0 K W) : ∃ G, Step w0 K W G := by
  obtain ⟨DH, B, S, E, XH, h1, h3, s⟩ := h
  exact ⟨_, s⟩
theorem LgS.done (h : LgS d b p lg k Rs w0 [] W) : Step w0 [] W [] := by
  obtain ⟨G, s⟩ := h.step
  exact Step.forget (A := []) s
theorem LgS.drew (h : LgS d b p lg k Rs w0 K W) : LgS d b p lg k Rs w0 K W.drew := by
  obtain ⟨DH, B, S, E, XH, h1, h3, s⟩ := h
  exact ⟨DH, B, S, E, XH, h1, h3, s.drew⟩
theorem LgS.drewN (n : Nat) (h : LgS d b p lg k Rs w0 K W) : LgS d b p lg k Rs w0 K (W.drewN n) := by
  obtain ⟨DH, B, S, E, XH, h1, h3, s⟩ := h
  exact ⟨DH, B, S, E, XH, h1, h3, s.drewN n⟩
theorem LgS.fresh {W' : World} {G : Heaplet} (h : LgS d b p lg k Rs w0 K W) (hs : Step W [] W' G) : LgS d b p lg k (Rs ++ [G]) w0 K W' := by
  obtain ⟨DH, B, S, E, XH, h1, h3, s⟩ := h
  exact ⟨DH, B, S, E, XH, h1, h3, by simpa using s.fresh hs⟩
theorem LgS.still {W' : World} (h : LgS d b p lg k Rs w0 K W) (hs : Step W [] W' []) : LgS d b p lg k Rs w0 K W' := by
  obtain ⟨DH, B, S, E, XH, h1, h3, s⟩ := h
  exact ⟨DH, B, S, E, XH, h1, h3, s.still hs⟩
theorem LgS.alloc (o : Obj) (h : LgS d b p lg k Rs w0 K W) : LgS d b p lg k (Rs ++ [[(W.heap.size, o)]]) w0 K (W.alloc o) := h.fresh (Step.of_alloc W o)
theorem LgS.keep1 {Q : List Heaplet} {G : Heaplet} (h : LgS d b p lg k (G :: Q) w0 K W) : LgS d b p lg k [G] w0 K W := by
  obtain ⟨DH, B, S, E, XH, h1, h3, s⟩ := h
  refine ⟨DH, B, S, E, XH, h1, h3, ?_⟩
  unfold Sp at s ⊢
  have e : ([] ++ ([DH, B, S, E, XH] ++ (G :: Q))).flatten = ([] ++ ([DH, B, S, E, XH] ++ [G])).flatten ++ Q.flatten := by simp
  rw [e] at s
  exact s.forget
theorem LgS.keep2 {Q : List Heaplet} {G G1 : Heaplet} (h : LgS d b p lg k (G :: G1 :: Q) w0 K W) : LgS d b p lg k [G, G1] w0 K W := by
  obtain ⟨DH, B, S, E, XH, h1, h3, s⟩ := h
  refine ⟨DH, B, S, E, XH, h1, h3, ?_⟩
  unfold Sp at s ⊢
  have e : ([] ++ ([DH, B, S, E, XH] ++ (G :: G1 :: Q))).flatten = ([] ++ ([DH, B, S, E, XH] ++ [G, G1])).flatten ++ Q.flatten := by simp
  rw [e] at s
  exact s.forget
theorem LgS.put1 {Q : List Heaplet} {G0 G G' : Heaplet} {W' : World} (h : LgS d b p lg k (G0 :: G :: Q) w0 K W) (hs : Step W G W' G') : LgS d b p lg k (G0 :: G' :: Q) w0 K W' := by
  obtain ⟨DH, B, S, E, XH, h1, h3, s⟩ := h
  exact ⟨DH, B, S, E, XH, h1, h3, s.put 6 rfl hs⟩
theorem LgS.oldK (h : LgS d b p lg k Rs w0 K W) {a : Option Addr} {n m : Nat} {l : List UInt8} (hr : ∀ V F, Sp w0 K V F → RdBytes V a n m l) : RdBytes W a n m l := by
  obtain ⟨DH, B, S, E, XH, h1, h3, s⟩ := h
  exact hr _ _ s
theorem lg_sync (h : LgS d b p lg k Rs w0 K W) (hk : k.Ok) (hl : lg.Ok) :
    Calls Tryz.prog 16 #[pt b] W fun e w' => e = .returned (iv (lsyncN p lg k).1) ∧ LgS d b p (lsyncN p lg k).2.1 (lsyncN p lg k).2.2 Rs w0 K w' := by
  obtain ⟨DH, B, S, E, XH, h1, h3, s⟩ := h
  refine (lsync_any b d p lg k DH B S E XH W W _ h1 hk h3 (s.self _ _ _) hl).mono ?_
  rintro e w' ⟨he, DH1, B1, S1, E1, XH1, g1, g2, hst⟩
  exact ⟨he, DH1, B1, S1, E1, XH1, g1, g2, s.sub _ _ _ _ hst⟩
theorem lg_append (h : LgS d b p lg k Rs w0 K W) (hk : k.Ok) (hl : lg.Ok) (hT : TabK w0 K) (hp : p.length ≤ 1000) (pa : Option Addr) (pc : Nat) (e : List UInt8) (hb : ∀ V F, Sp w0 K V (F ++ Rs) → RdBytes V pa e.length pc e) (hel : e.length ≤ 140737488300000) :
    Calls Tryz.prog 14 #[pt b, .slice pa e.length pc] W fun e' w' => e' = .returned (.tuple #[iv (lappN p e lg k).1, iv (lappN p e lg k).2.1]) ∧ LgS d b p (lappN p e lg k).2.2.1 (lappN p e lg k).2.2.2 Rs w0 K w' := by
  obtain ⟨DH, B, S, E, XH, h1, h3, s⟩ := h
  refine (lapp_any b d p lg k DH B S E XH W W _ h1 hk h3 (s.self _ _ _) hl (s.tabS _ _ _ hT) hp pa pc e (fun V H st => ?_) hel).mono ?_
  · have s2 := s.sub _ _ [H] _ (by simpa [Sp] using st)
    exact hb V [H] (by simpa using s2)
  · rintro e' w' ⟨he, DH1, B1, S1, E1, XH1, g1, g2, hst⟩
    exact ⟨he, DH1, B1, S1, E1, XH1, g1, g2, s.sub _ _ _ _ hst⟩
theorem lg_next (h : LgS d b p lg k Rs w0 K W) (hl : lg.Ok) :
    Calls Tryz.prog 22 #[pt b] W fun e w' => e = .returned (.tuple #[iv (lg.L.length + 1), iv (lg.synced + 1)]) ∧ LgS d b p lg k Rs w0 K w' := by
  have h0 := h
  obtain ⟨DH, B, S, E, XH, h1, h3, s⟩ := h
  refine (next_any b d p lg B S E XH W h3 (s.own 1 rfl) hl).mono ?_
  rintro e w' ⟨he, hst⟩
  exact ⟨he, h0.still hst⟩
theorem lg_entry (h : LgS d b p lg k Rs w0 K W) (hl : lg.Ok) (n : Int) : Calls Tryz.prog 23 #[pt b, ii n] W (RdPost (entN lg n).1 (entN lg n).2 W) := by
  obtain ⟨DH, B, S, E, XH, h1, h3, s⟩ := h
  exact entry_any b d p lg n B S E XH W W _ h3 DH (s.self _ [DH, B, S, E, XH] _) hl
theorem lg_names (h : LgS d b p lg k Rs w0 K W) (hl : lg.Ok) : Calls Tryz.prog 34 #[pt b] W (NamesPost (lnames p lg) W) := by
  obtain ⟨DH, B, S, E, XH, h1, h3, s⟩ := h
  exact lnames_any b d p lg B S E XH W W _ h3 DH (s.self _ [DH, B, S, E, XH] _) hl
theorem lg_dread (h : LgS d b p lg k Rs w0 K W) (hk : k.Ok) (nm : Nm) : Calls Tryz.prog 35 #[pt d, strV nm] W (RdPost (rdN nm k).1 (rdN nm k).2 W) := by
  obtain ⟨DH, B, S, E, XH, h1, h3, s⟩ := h
  exact dread d k DH nm W h1 hk (s.own 0 rfl)
theorem lg_crash (h : LgS d b p lg k Rs w0 K W) (hk : k.Ok) (keep : Int) (tear : UInt8) (hn : keep ≤ 9223372036854775807) :
    Calls Tryz.prog 18 #[pt d, ii keep, u8 tear] W fun e w' => e = .returned (.tuple #[]) ∧ LgS d b p lg (crN keep tear k) Rs w0 K w' := by
  obtain ⟨DH, B, S, E, XH, h1, h3, s⟩ := h
  refine (dcrash d k keep tear DH W h1 hk (s.own 0 rfl) hn).mono ?_
  rintro e w' ⟨he, H, g1, hst⟩
  exact ⟨he, H, B, S, E, XH, g1, h3, s.put 0 rfl hst⟩
/-- Another log is opened over the disk: the one that was is forgotten. -/
theorem lg_open {q : Nm} (h : LgS d b p lg k Rs w0 K W) (hk : k.Ok) (hT : TabK w0 K) (hq1 : 1 ≤ q.length) (hq : q.length ≤ 50) {lg2 : Lg} {k2 : Dk} (he : openN q k = (0, lg2, k2)) :
    Calls Tryz.prog 20 #[pt d, strV q] W fun e w' => ∃ b2, e = .returned (.tuple #[pt b2, iv 0]) ∧ LgS d b2 q lg2 k2 Rs w0 K w' := by
  obtain ⟨DH, B, S, E, XH, h1, h3, s⟩ := h
  have s1 : Sp w0 K W ([] ++ ([DH] ++ Rs)) := by
    unfold Sp at s ⊢
    have e : ([] ++ ([DH, B, S, E, XH] ++ Rs)).flatten = DH ++ ([B, S, E, XH].flatten ++ Rs.flatten) := by simp
    have e2 : ([] ++ ([DH] ++ Rs)).flatten = DH ++ Rs.flatten := by simp
    rw [e] at s
    rw [e2]
    refine Step.forget (B := [B, S, E, XH].flatten) (s.perm (List.Perm.refl _) ?_)
    rw [List.append_assoc]
    exact List.Perm.append_left _ List.perm_append_comm
  have ho := lopen_any d q k DH W h1 hk (s1.own 0 rfl) (by simpa using s1.tabS [] [DH] Rs hT) hq1 hq
  rw [he] at ho
  refine ho.mono ?_
  rintro e w' (⟨h0, _⟩ | ⟨_, b2, DH', B', S', E', XH', he2, hlg, hd', hst⟩)
  · exact absurd rfl h0
  · exact ⟨b2, he2, DH', B', S', E', XH', hd', hlg, s1.sub [] [DH] _ _ hst.un⟩
end
end Go.Proofs.YtdolbeonpkanpaaGreatDoor
