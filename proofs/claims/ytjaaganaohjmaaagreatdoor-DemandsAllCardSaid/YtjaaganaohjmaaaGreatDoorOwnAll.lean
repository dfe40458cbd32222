/-
  WORDS ON MEMORY: several slices of int of the call's own, in rows apart, and what an append to the first of them leaves of all. Plain theorems. Conditions: those that each theorem states.
-/
import Derived.Test.YtjaaganaohjmaaaGreatDoorOpenB
namespace Go.Proofs.YtjaaganaohjmaaaGreatDoor
open Go.RowKit

/-- Two slices lie in rows apart. -/
def Sep (s t : Sl) : Prop := ∀ k, ownB s.a s.c = some k → ownB t.a t.c ≠ some k
/-- Slices of int of the call's own, in rows apart. -/
def OwnAll (w : World) (base : Nat) (L : List Sl) : Prop := (∀ s ∈ L, Fr 3 w base s.a s.l.length s.c (cs .i64 s.l)) ∧ L.Pairwise Sep
theorem OwnAll.nils (w : World) (base n : Nat) : OwnAll w base (List.replicate n ⟨none, 0, []⟩) := by
  refine ⟨fun s hs => ?_, ?_⟩
  · rw [List.eq_of_mem_replicate hs]
    exact Fr.empty _ _ _ _
  · rw [List.pairwise_replicate]
    exact .inr fun k hk => by simp [ownB] at hk
theorem OwnAll.keep {w w' : World} {base : Nat} {L : List Sl} (h : OwnAll w base L) (hk : Keep w w') : OwnAll w' base L := ⟨fun s hs => (h.1 s hs).keep hk, h.2⟩
theorem OwnAll.fr {w : World} {base : Nat} {L : List Sl} {s : Sl} (h : OwnAll w base L) (hs : s ∈ L) : Fr 3 w base s.a s.l.length s.c (cs .i64 s.l) := h.1 s hs
theorem OwnAll.head {w : World} {base : Nat} {L : List Sl} {s : Sl} (h : OwnAll w base (s :: L)) : Fr 3 w base s.a s.l.length s.c (cs .i64 s.l) := h.1 s List.mem_cons_self
/-- An append to the first: it stands last then. -/
theorem OwnAll.step {w w' : World} {base : Nat} {L : List Sl} {s : Sl} {A' : Option Addr} {c' n' : Nat} {l' : List Int} (h : OwnAll w base (s :: L)) (happ : Appended 3 w base s.a s.c n' (cs .i64 l') A' c' w') (hn : n' = l'.length) :
    OwnAll w' base (L ++ [⟨A', c', l'⟩]) := by
  subst hn
  obtain ⟨hf, hp⟩ := h
  rw [List.pairwise_cons] at hp
  refine ⟨fun t ht => ?_, ?_⟩
  · rcases List.mem_append.1 ht with ht | ht
    · exact (hf t (List.mem_cons_of_mem _ ht)).grown happ.2.1 fun k hk e => hp.1 t ht k e hk
    · rw [List.mem_singleton] at ht
      subst ht
      exact happ.fr
  · rw [List.pairwise_append]
    refine ⟨hp.2, List.pairwise_singleton _ _, fun t ht u hu k hk e => ?_⟩
    rw [List.mem_singleton] at hu
    subst hu
    rcases happ.2.2 with h1 | h1 | h1
    · rw [h1] at e
      exact hp.1 t ht k e hk
    · rw [h1] at e
      injection e with e
      have := ((hf t (List.mem_cons_of_mem _ ht)).own_ge hk).2
      omega
    · simp only [ownB] at e
      rw [if_pos h1] at e
      cases e
end Go.Proofs.YtjaaganaohjmaaaGreatDoor
