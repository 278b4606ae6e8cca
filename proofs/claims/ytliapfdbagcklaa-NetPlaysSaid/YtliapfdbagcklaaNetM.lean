import Derived.Test.YtliapfdbagcklaaNetL
namespace Go.Proofs.Ytliapfdbagcklaa
open Go.RowKit
attribute [local go_sem ↓] Go.wp_at_zero Go.wp_at_succ

theorem netRep_new (T b : Nat) : NetRep T b [] [(b, .cells #[.slice none 0 0] T (0, 0))] := ⟨none, 0, [], SlRep.nil _ _, rfl, by simp⟩
def SentPost (b : Nat) (l : List It) (f t : Int) (d : List UInt8) (w : World) (H : Heaplet) (e : Ending) (w' : World) : Prop :=
  ∃ x H', e = .returned (.bool true) ∧ x.f = f ∧ x.t = t ∧ x.d = d ∧ NetRep 55 b (l ++ [x]) H' ∧ Step w H w' H'
theorem send_ok (b : Nat) (l : List It) (H : Heaplet) (f t : Int) (av : Option Addr) (nv cv : Nat) (d : List UInt8) (w : World) (hn : NetRep 55 b l H) (hw : Own w H) (h : RdBytes w av nv cv d) (hl : d.length ≤ 140737488355328) (hf : l.length < 1024) :
    Calls Try.prog 10 #[.pointer (some ⟨b, 0, none⟩), .agg #[.int .i64 f, .int .i64 t, .slice av nv cv]] w (SentPost b l f t d w H) :=
  (send_any b l H f t av nv cv d w hn hw h hl).mono fun e w' hp => by
    rcases hp with ⟨h1, _⟩ | ⟨_, he, x, H', h1, h2, h3, h4, h5⟩
    · omega
    · exact ⟨x, H', he, h1, h2, h3, h4, h5⟩
def GotPost (b : Nat) (l : List It) (i : Nat) (w : World) (H : Heaplet) (e : Ending) (w' : World) : Prop :=
  ∃ x H', l[i]? = some x ∧ e = .returned (.tuple #[.agg #[.int .i64 x.f, .int .i64 x.t, .slice x.a x.d.length x.c], .bool true]) ∧ x.ok ∧ NetRep 55 b (l.eraseIdx i) H' ∧ Step w H w' (H' ++ x.H)
theorem give_ok (b : Nat) (l : List It) (H : Heaplet) (pick : Int) (i : Nat) (w : World) (hn : NetRep 55 b l H) (hw : Own w H) (hl : l.length ≤ 1024) (hp : pick ≤ 9223372036854775807) (h0 : l ≠ []) (hi : pickOf l.length pick = i) :
    Calls Try.prog 11 #[.pointer (some ⟨b, 0, none⟩), .int .i64 pick] w (GotPost b l i w H) :=
  (give_any b l H pick w hn hw hl hp).mono fun e w' hpst => by
    have hok : ∀ x ∈ l, x.ok := hn.elim fun _ h => h.elim fun _ h => h.elim fun _ h => h.2.2
    rcases hpst with ⟨h1, _⟩ | ⟨j, hj, H', h1, h2, h3, h4⟩
    · exact absurd h1 h0
    · obtain rfl : j = i := h1.trans hi
      exact ⟨l[j], H', List.getElem?_eq_getElem hj, h2, hok _ (List.getElem_mem hj), h3, h4⟩
def LatdPost (b : Nat) (l : List It) (i : Nat) (w : World) (H : Heaplet) (e : Ending) (w' : World) : Prop :=
  ∃ x H', l[i]? = some x ∧ e = .returned (.bool true) ∧ NetRep 55 b (l.eraseIdx i ++ [x]) H' ∧ Step w H w' H'
theorem late_ok (b : Nat) (l : List It) (H : Heaplet) (pick : Int) (i : Nat) (w : World) (hn : NetRep 55 b l H) (hw : Own w H) (hl : l.length ≤ 1024) (hp : pick ≤ 9223372036854775807) (h0 : l ≠ []) (hi : pickOf l.length pick = i) :
    Calls Try.prog 16 #[.pointer (some ⟨b, 0, none⟩), .int .i64 pick] w (LatdPost b l i w H) :=
  (late_any b l H pick w hn hw hl hp).mono fun e w' hpst => by
    rcases hpst with ⟨h1, _⟩ | ⟨j, hj, H', h1, h2, h3, h4⟩
    · exact absurd h1 h0
    · obtain rfl : j = i := h1.trans hi
      exact ⟨l[j], H', List.getElem?_eq_getElem hj, h2, h3, h4⟩
theorem len_eq (b : Nat) (l : List It) (H : Heaplet) (w : World) (n : Nat) (hn : NetRep 55 b l H) (hw : Own w H) (h : l.length = n) :
    Calls Try.prog 13 #[.pointer (some ⟨b, 0, none⟩)] w fun e w' => e = .returned (.int .i64 n) ∧ w = w' := by subst h; exact len_any b l H w hn hw
theorem rd_nil (w : World) : RdBytes w none 0 0 [] := ⟨rfl, .inl ⟨rfl, rfl, rfl⟩⟩

def KnownPost (w : World) (e : Ending) (w' : World) : Prop := e = .returned (.bool true) ∧ Step w [] w' []
set_option maxRecDepth 100000 in
theorem known_any (w : World) : Calls Try.prog 14 #[] w (KnownPost w) := by
  go_enter Try.func14, Try.ntmps14
  go_wp2_with fail
  refine (new_any _).mono ?_
  rintro e w1 ⟨rfl, rfl⟩
  go_wp2_with fail
  refine (send_ok w.heap.size [] _ 1 0 none 0 0 [] _ (netRep_new _ _) ((Step.refl (Own.nil w)).alloc _).own (rd_nil _) (by simp) (by simp)).mono ?_
  rintro e w2 ⟨x1, H1, rfl, f1, -, -, hn1, s1⟩
  replace s1 := Lib.hid (((Step.refl (Own.nil w)).alloc _).trans s1)
  replace f1 := Lib.hid f1
  go_wp2_with fail
  refine (send_ok w.heap.size _ _ 2 0 none 0 0 [] _ hn1 s1.out.own (rd_nil _) (by simp) (by simp)).mono ?_
  rintro e w3 ⟨x2, H2, rfl, f2, -, -, hn2, s2⟩
  replace s2 := Lib.hid (s1.out.trans s2)
  replace f2 := Lib.hid f2
  go_wp2_with fail
  refine (late_ok w.heap.size _ _ 0 0 _ hn2 s2.out.own (by simp) (by simp) (by simp) (by rfl)).mono ?_
  rintro e w4 ⟨x, H3, hx, rfl, hn3, s3⟩
  obtain rfl : x1 = x := by simpa using hx
  replace s3 := Lib.hid (s2.out.trans s3)
  clear hx
  go_wp2_with fail
  refine (give_ok w.heap.size _ _ 0 0 _ hn3 s3.out.own (by simp) (by simp) (by simp) (by rfl)).mono ?_
  rintro e w5 ⟨x, H4, hx, rfl, -, hn4, s4⟩
  obtain rfl : x2 = x := by simpa using hx
  replace s4 := Lib.hid (s3.out.trans s4)
  have f3 := f2.out
  clear hx
  go_wp2_with fail
  refine (len_any w.heap.size _ H4 _ hn4 (s4.out.alloc _).own.tail.left).mono ?_
  rintro e w6 ⟨rfl, rfl⟩
  go_wp2
  go_ret
  exact ⟨rfl, Step.forget (A := []) (s4.out.alloc _)⟩

theorem Step.nil_below {w w' : World} {H : Heaplet} (s : Step w [] w' H) : Below w.heap.size w w' := s.below (by simp [dom]) (Nat.le_refl _)
end Go.Proofs.Ytliapfdbagcklaa
