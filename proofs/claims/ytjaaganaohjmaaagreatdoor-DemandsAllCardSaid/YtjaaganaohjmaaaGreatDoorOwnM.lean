/-
  WORDS on markets of the call's own: as lists that the laws' Book may hold. Plain theorems. Conditions: those that each theorem states.
-/
import Derived.Test.YtjaaganaohjmaaaGreatDoorBookQ
import Derived.Test.YtjaaganaohjmaaaGreatDoorMktHa
import Derived.Test.YtjaaganaohjmaaaGreatDoorZeroM
namespace Go.Proofs.YtjaaganaohjmaaaGreatDoor
open Go.RowKit

/-- A market of the call's own: all its lists in rows apart. -/
structure OwnM (w : World) (base : Nat) (N : Mkt) : Prop where
  f : ∀ s ∈ N.r :: N.bs ++ [N.o], Fr 3 w base s.a s.l.length s.c (cs .i64 s.l)
  p : (N.r :: N.bs ++ [N.o]).Pairwise Sep
  b : Fr 26 w base N.ba N.bs.length N.bc (N.bs.map Sl.val)
theorem OwnM.keep {w w' : World} {base : Nat} {N : Mkt} (h : OwnM w base N) (hk : Keep w w') : OwnM w' base N := ⟨fun s hs => (h.f s hs).keep hk, h.p, h.b.keep hk⟩
theorem OwnM.mono {w : World} {base b' : Nat} {N : Mkt} (h : OwnM w base N) (hb : b' ≤ base) : OwnM w b' N := ⟨fun s hs => (h.f s hs).mono hb, h.p, h.b.mono hb⟩
theorem Blk.fr {w : World} {g n base : Nat} {e : TypeId} {vs : List Value} (h : Blk w g e vs) (hl : vs.length = n) (hb : base ≤ g) (hn : n ≤ maxLen) : Fr e w base (some ⟨g, 0, none⟩) n n vs :=
  ⟨hl, Nat.le_refl _, hn, .inr ⟨g, vs.toArray, rfl, hb, h, by simp [hl], by simp [← hl]⟩⟩
theorem Mkt.Own.own {w : World} {base : Nat} {N : Mkt} (h : N.Own base w) (hp : (N.r :: N.bs ++ [N.o]).Pairwise Sep) (hn : N.bs.length ≤ 1000000) : OwnM w base N := by
  obtain ⟨g, e1, e2, e3⟩ := h.g
  refine ⟨fun s hs => ?_, hp, ?_⟩
  · rcases List.mem_append.1 hs with hs | hs
    · rcases List.mem_cons.1 hs with hs | hs
      · exact hs ▸ h.r
      · exact h.b s hs
    · rw [List.mem_singleton] at hs
      exact hs ▸ h.o
  · rw [e1, h.c]
    exact e3.fr (by rw [List.length_map]) e2 (by unfold maxLen; omega)
theorem noM_own (w : World) (base : Nat) : OwnM w base noM := by
  refine ⟨fun s hs => ?_, ?_, Fr.empty _ _ _ _⟩
  · have : s = ⟨none, 0, []⟩ := by
      rcases List.mem_append.1 hs with hs | hs
      · rcases List.mem_cons.1 hs with hs | hs
        · exact hs
        · cases hs
      · rw [List.mem_singleton] at hs
        exact hs
    rw [this]
    exact Fr.empty _ _ _ _
  · refine List.Pairwise.cons (fun t _ k hk => ?_) (List.pairwise_singleton _ _)
    simp [noM, ownB] at hk
theorem noM_few : noM.Few := ⟨Nat.zero_le _, fun s h => (by cases h), Nat.zero_le _⟩

/-- What the laws look at of a market. -/
def Mkt.lists (N : Mkt) : List Int × List (List Int) × List Int := (N.r.l, bidsOf N.bs, N.o.l)
theorem sameM_of {M N : Mkt} (h : M.lists = N.lists) : sameM M N = true := by
  unfold Mkt.lists at h
  injection h with h1 h2
  injection h2 with h2 h3
  unfold sameM
  rw [h1, h2, h3, decide_eq_true rfl, decide_eq_true rfl, decide_eq_true rfl]
  rfl

/-- A slice as the Book holds it. -/
def Sl.hd (s : Sl) (m : Nat) : Hd := ⟨s.a, s.c, s.l.length, m, none, 0, 0⟩
theorem hdsOf_at {n i : Nat} {ts : List Sl} {h : Hd} (hh : (hdsOf n ts)[i]? = some h) : ∃ t, ts[i]? = some t ∧ h = t.hd (n + 1 + i) := by
  unfold hdsOf at hh
  rw [List.getElem?_mapIdx, Option.map_eq_some_iff] at hh
  obtain ⟨t, h1, h2⟩ := hh
  exact ⟨t, h1, h2.symm⟩
theorem hdsOf_mem {n : Nat} {ts : List Sl} {h : Hd} (hh : h ∈ hdsOf n ts) : ∃ t ∈ ts, ∃ m, m ≤ n + ts.length ∧ h = t.hd m := by
  obtain ⟨i, hi⟩ := List.getElem?_of_mem hh
  obtain ⟨t, h1, h2⟩ := hdsOf_at hi
  have := (List.getElem?_eq_some_iff.1 h1).1
  exact ⟨t, List.mem_of_getElem? h1, n + 1 + i, by omega, h2⟩
theorem hdsOf_pair {n : Nat} {ts : List Sl} (h : ts.Pairwise Sep) : (hdsOf n ts).Pairwise fun x y => ∀ k, ownB x.a x.c = some k → ownB y.a y.c ≠ some k := by
  rw [List.pairwise_iff_getElem] at h ⊢
  intro i j hi hj hij
  obtain ⟨t, h1, h2⟩ := hdsOf_at (List.getElem?_eq_getElem hi)
  obtain ⟨u, h3, h4⟩ := hdsOf_at (List.getElem?_eq_getElem hj)
  obtain ⟨l1, rfl⟩ := List.getElem?_eq_some_iff.1 h1
  obtain ⟨l2, rfl⟩ := List.getElem?_eq_some_iff.1 h3
  rw [h2, h4]
  exact h i j l1 l2 hij
/-- The market's lists of ints, as the Book holds them. -/
def Mkt.hds (N : Mkt) (n : Nat) : List Hd := [⟨N.r.a, N.r.c, N.r.l.length, n + 1, none, 0, 0⟩] ++ hdsOf (n + 1) N.bs ++ [⟨N.o.a, N.o.c, N.o.l.length, n + N.bs.length + 3, none, 0, 0⟩]
theorem OwnM.held {w : World} {base : Nat} {N : Mkt} (h : OwnM w base N) (fw : N.Few) {n : Nat} (hn : n + N.bs.length + 3 < 100000) : Held 3 w base (N.hds n) := by
  have hall : ∀ x ∈ N.hds n, ∃ s ∈ N.r :: N.bs ++ [N.o], ∃ m, m < 100000 ∧ s.l.length ≤ 1000000 ∧ x = s.hd m := by
    intro x hx
    unfold Mkt.hds at hx
    rcases List.mem_append.1 hx with hx | hx
    · rcases List.mem_append.1 hx with hx | hx
      · rw [List.mem_singleton] at hx
        exact ⟨N.r, by simp, n + 1, by omega, fw.r, hx⟩
      · obtain ⟨t, h1, m, h2, h3⟩ := hdsOf_mem hx
        exact ⟨t, by simp [h1], m, by omega, fw.b t h1, h3⟩
    · rw [List.mem_singleton] at hx
      exact ⟨N.o, by simp, _, hn, fw.o, hx⟩
  refine ⟨fun x hx => ?_, ?_, fun x hx => ?_⟩
  · obtain ⟨s, h1, m, h2, h3, rfl⟩ := hall x hx
    exact ⟨_, h.f s h1⟩
  · have hp := h.p
    rw [List.pairwise_append, List.pairwise_cons] at hp
    obtain ⟨⟨p1, p2⟩, _, p3⟩ := hp
    unfold Mkt.hds
    rw [List.pairwise_append, List.pairwise_append]
    refine ⟨⟨List.pairwise_singleton _ _, hdsOf_pair p2, fun x hx y hy => ?_⟩, List.pairwise_singleton _ _, fun x hx y hy => ?_⟩
    · rw [List.mem_singleton] at hx
      obtain ⟨t, h1, m, _, rfl⟩ := hdsOf_mem hy
      rw [hx]
      exact p1 t h1
    · rw [List.mem_singleton] at hy
      rw [hy]
      rcases List.mem_append.1 hx with hx | hx
      · rw [List.mem_singleton] at hx
        rw [hx]
        exact p3 N.r (by simp) N.o (by simp)
      · obtain ⟨t, h1, m, _, rfl⟩ := hdsOf_mem hx
        exact p3 t (by simp [h1]) N.o (by simp)
  · obtain ⟨s, h1, m, h2, h3, rfl⟩ := hall x hx
    exact ⟨h2, h3⟩
theorem Held.one {e : TypeId} {w : World} {base c n m : Nat} {A : Option Addr} {us : List Value} (f : Fr e w base A n c us) (hm : m < 100000) (hn : n ≤ 1000000) : Held e w base [⟨A, c, n, m, none, 0, 0⟩] := by
  refine ⟨fun x hx => ?_, List.pairwise_singleton _ _, fun x hx => ?_⟩
  · rw [List.mem_singleton] at hx
    subst hx
    exact ⟨us, f⟩
  · rw [List.mem_singleton] at hx
    subst hx
    exact ⟨hm, hn⟩
end Go.Proofs.YtjaaganaohjmaaaGreatDoor
