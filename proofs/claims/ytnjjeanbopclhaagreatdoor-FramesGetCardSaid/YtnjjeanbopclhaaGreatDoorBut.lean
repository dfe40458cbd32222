/-
  WORDS ON MEMORY: a world of which the blocks of a set alone have turned. Plain theorems. Conditions: those that each theorem states.
-/
import Derived.Test.YtnjjeanbopclhaaGreatDoorBlk
namespace Go.Proofs.YtnjjeanbopclhaaGreatDoor
open Go.RowKit

/-- Of what lay in w nothing has turned in w', the blocks in S set apart. -/
structure But (S : Nat → Prop) (w w' : World) : Prop where
  os : w'.os = w.os
  tape : w'.tape = w.tape
  output : w'.output = w.output
  size : w.heap.size ≤ w'.heap.size
  block : ∀ k, k < w.heap.size → ¬ S k → w'.heap[k]? = w.heap[k]?
section
variable {S T : Nat → Prop} {a b c : World}
theorem But.refl (S : Nat → Prop) (w : World) : But S w w := ⟨rfl, rfl, rfl, Nat.le_refl _, fun _ _ _ => rfl⟩
theorem But.trans (h : But S a b) (k : But S b c) : But S a c :=
  ⟨k.os.trans h.os, k.tape.trans h.tape, k.output.trans h.output, Nat.le_trans h.size k.size, fun i hi hn => (k.block i (Nat.lt_of_lt_of_le hi h.size) hn).trans (h.block i hi hn)⟩
theorem But.mono (h : But S a b) (hs : ∀ k, S k → T k) : But T a b := ⟨h.os, h.tape, h.output, h.size, fun i hi hn => h.block i hi fun hk => hn (hs i hk)⟩
theorem But.keep (h : Keep a b) (S : Nat → Prop) : But S a b := ⟨h.os, h.tape, h.output, h.size, fun _ hi _ => h.block hi⟩
theorem But.grown {row : Option Nat} (h : But S a b) (hg : b.grownBy c row) (hr : ∀ k, row = some k → S k) : But S a c :=
  ⟨hg.os.trans h.os, hg.tape.trans h.tape, hg.output.trans h.output, Nat.le_trans h.size hg.size, fun i hi hn => (hg.block i (Nat.lt_of_lt_of_le hi h.size) (fun e => hn (hr i e.symm))).trans (h.block i hi hn)⟩
theorem But.setCell (h : But S a b) {p : Addr} (hp : S p.block) (u : Value) : But S a (b.setCell p u) :=
  ⟨h.os, h.tape, h.output, by simpa [World.setCell] using h.size, fun i hi hn => (Below.heap_setCell b p u i (fun e => hn (e ▸ hp))).trans (h.block i hi hn)⟩
theorem Blk.but {g : Nat} {t : TypeId} {l : List Value} (h : Blk a g t l) (hb : But S a b) (hn : ¬ S g) : Blk b g t l := (hb.block g h.lt hn).trans h
/-- Where the blocks in S are new, all that lay is kept. -/
theorem Keep.but (h : Keep a b) (k : But S b c) (hs : ∀ i, S i → a.heap.size ≤ i) : Keep a c :=
  ⟨k.os.trans h.os, k.tape.trans h.tape, k.output.trans h.output, Nat.le_trans h.size k.size, fun i hi => (k.block i (Nat.lt_of_lt_of_le hi h.size) (fun hS => by have := hs i hS; omega)).trans (Below.block h i hi)⟩
theorem Fr.but {e : TypeId} {base n cap : Nat} {A : Option Addr} {vs : List Value} (h : Fr e a base A n cap vs) (hb : But S a b) (hn : ∀ k, ownB A cap = some k → ¬ S k) : Fr e b base A n cap vs := by
  obtain ⟨h1, h2, h3, h4 | ⟨g, cur, rfl, hg, hgg, r⟩⟩ := h
  · exact ⟨h1, h2, h3, .inl h4⟩
  · by_cases hc : cap = 0
    · exact ⟨h1, h2, h3, .inl hc⟩
    · refine ⟨h1, h2, h3, .inr ⟨g, cur, rfl, hg, ?_, r⟩⟩
      rw [hb.block g (Array.getElem?_eq_some_iff.1 hgg).1 (hn g (by simp [ownB, hc]))]
      exact hgg
end
end Go.Proofs.YtnjjeanbopclhaaGreatDoor
