/-
  WORDS FOR A RANGE OVER A FUNCTION: what a round may turn ('KeepX'), boxes, the ends of a function that holds such a range. Plain theorems over any program. Conditions: those that each theorem states.
-/
import Derived.Test.YtnjjeanbopclhaaGreatDoorWords
import Derived.RangeFuncNested
import Derived.RangeFuncBound
import Derived.RangeFuncCalls
import Derived.RangeFuncLeaves
import Derived.OwnWalkIn
import Derived.TacticsInMore
import Derived.LoopNIn
import Derived.LoopIn
namespace Go.Proofs.YtnjjeanbopclhaaGreatDoor
open Go.RowKit

/-- Of the blocks below n₁ none has turned but those from lo on, below hi. -/
structure KeepX (lo hi n₁ : Nat) (w w' : World) : Prop where
  os : w'.os = w.os
  tape : w'.tape = w.tape
  output : w'.output = w.output
  size : w.heap.size ≤ w'.heap.size
  block : ∀ k, k < n₁ → (k < lo ∨ hi ≤ k) → w'.heap[k]? = w.heap[k]?

section
variable {lo hi n₁ : Nat} {a b c w w' : World}
theorem KeepX.refl (lo hi n₁ : Nat) (w : World) : KeepX lo hi n₁ w w := ⟨rfl, rfl, rfl, Nat.le_refl _, fun _ _ _ => rfl⟩
theorem KeepX.trans (h : KeepX lo hi n₁ a b) (k : KeepX lo hi n₁ b c) : KeepX lo hi n₁ a c :=
  ⟨k.os.trans h.os, k.tape.trans h.tape, k.output.trans h.output, Nat.le_trans h.size k.size, fun i hi' hx => (k.block i hi' hx).trans (h.block i hi' hx)⟩
theorem KeepX.of_keep (h : Keep a b) (hn : n₁ ≤ a.heap.size) : KeepX lo hi n₁ a b := ⟨h.os, h.tape, h.output, h.size, fun k hk _ => h.block (by omega)⟩
theorem KeepX.alloc (h : KeepX lo hi n₁ a b) (hn : n₁ ≤ b.heap.size) (o : Obj) : KeepX lo hi n₁ a (b.alloc o) := h.trans (KeepX.of_keep (Keep.alloc1 b o) hn)
theorem KeepX.setCell (h : KeepX lo hi n₁ a b) {p : Addr} (hp : (lo ≤ p.block ∧ p.block < hi) ∨ n₁ ≤ p.block) (u : Value) : KeepX lo hi n₁ a (b.setCell p u) :=
  h.trans ⟨rfl, rfl, rfl, by simp [World.setCell], fun k hk hx => Below.heap_setCell _ _ _ _ (by omega)⟩
theorem KeepX.grown {row : Option Nat} (h : KeepX lo hi n₁ a b) (hg : b.grownBy c row) (hn : n₁ ≤ b.heap.size) (hr : ∀ k, row = some k → n₁ ≤ k) : KeepX lo hi n₁ a c :=
  h.trans ⟨hg.os, hg.tape, hg.output, hg.size, fun k hk _ => hg.block k (by omega) (fun e => by have := hr k e.symm; omega)⟩
theorem KeepX.putObj (lo hi n₁ : Nat) (w : World) {l : Nat} (hl : n₁ ≤ l) (o : Obj) : KeepX lo hi n₁ w (w.putObj l o) :=
  ⟨rfl, rfl, rfl, by simp, fun k hk _ => World.putObj_heap_other (by omega)⟩
/-- Behind what keeps all that lay in w, and turns nothing below w's end. -/
theorem Keep.thenX (h : Keep w a) (k : KeepX lo hi n₁ a b) (hlo : w.heap.size ≤ lo) (hn : w.heap.size ≤ n₁) : Keep w b :=
  ⟨k.os.trans h.os, k.tape.trans h.tape, k.output.trans h.output, Nat.le_trans h.size k.size, fun i hi' => (k.block i (by omega) (.inl (by omega))).trans (h.block hi')⟩
theorem KeepX.boxed {B : Nat} {t : TypeId} {v : Value} (k : KeepX lo hi n₁ a b) (h : Boxed a B t v) (hB : B < n₁) (hx : B < lo ∨ hi ≤ B) : Boxed b B t v := (k.block B hB hx).trans h
theorem Keep.boxed {B : Nat} {t : TypeId} {v : Value} (k : Keep a b) (h : Boxed a B t v) : Boxed b B t v := k.heap h
theorem Keep.putObj (h : Keep a b) {l : Nat} (hl : a.heap.size ≤ l) (o : Obj) : Keep a (b.putObj l o) :=
  ⟨h.os, h.tape, h.output, by have := h.size; simpa using this, fun k hk => (World.putObj_heap_other (by omega)).trans (h.block hk)⟩
theorem Boxed.far {B : Nat} {t : TypeId} {v : Value} (h : Boxed w B t v) {p : Addr} (hne : B ≠ p.block) (u : Value) : Boxed (w.setCell p u) B t v := (Below.heap_setCell w p u B hne).trans h
end

section
variable {e : TypeId} {w w' : World} {base : Nat} {A : Option Addr} {n c : Nat} {vs : List Value}
/-- What lies in a row of the call's own abides the turn of a block that is no cells. -/
theorem Fr.others {row : Option Nat} (h : Fr e w base A n c vs) (hg : w.grownBy w' row) (hrow : ∀ r, row = some r → ∃ o : Obj, w.heap[r]? = some o ∧ o.isCells = false) : Fr e w' base A n c vs := by
  obtain ⟨h1, h2, h3, h4 | ⟨g, cur, rfl, hb, hgg, r⟩⟩ := h
  · exact ⟨h1, h2, h3, .inl h4⟩
  · refine ⟨h1, h2, h3, .inr ⟨g, cur, rfl, hb, ?_, r⟩⟩
    rw [hg.block g (Array.getElem?_eq_some_iff.1 hgg).1 (fun e' => by
      obtain ⟨o, ho, hc⟩ := hrow g e'.symm
      rw [hgg] at ho
      cases ho
      cases hc)]
    exact hgg
theorem Boxed.others {B : Nat} {t : TypeId} {v : Value} {row : Option Nat} (h : Boxed w B t v) (hg : w.grownBy w' row) (hrow : ∀ r, row = some r → ∃ o : Obj, w.heap[r]? = some o ∧ o.isCells = false) : Boxed w' B t v :=
  h.kept hg (fun e' => by
    obtain ⟨o, ho, hc⟩ := hrow B e'.symm
    rw [show w.heap[B]? = _ from h] at ho
    cases ho
    cases hc)
end

/-- A function that holds a range over a function, where it returns ahead of it. -/
theorem bodyPostM_ret {F : Fence} {n : Nat} {P : Program} {fn : Func} {R : Ending → World → Prop} {a : Act} {w : World} {v : Value}
    (hr : (results fn a.tmps).run P w = .ok v w) (hd : a.defers = []) (hR : R (.returned v) w) : bodyPostM F n P fn R .ret a w := by
  show LeavesInM F n P fn a.tmps R a.defers .returning w
  rw [hd]
  exact ⟨v, hr, hR⟩
end Go.Proofs.YtnjjeanbopclhaaGreatDoor
