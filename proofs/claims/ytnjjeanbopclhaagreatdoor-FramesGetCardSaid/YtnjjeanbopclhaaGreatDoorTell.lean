/-
  WORDS: numbers far from the edges; what a function leaves that only reads and answers a number. Plain theorems. Conditions: those that each theorem states.
-/
import Derived.Test.YtnjjeanbopclhaaGreatDoorSame
namespace Go.Proofs.YtnjjeanbopclhaaGreatDoor
open Go.RowKit

/-- Numbers far from the edges. -/
def Small (l : List Int) : Prop := ∀ x ∈ l, -1099511627776 ≤ x ∧ x ≤ 1099511627776
theorem Small.at_ {l : List Int} (h : Small l) {k : Nat} {x : Int} (hx : l[k]? = some x) : -1099511627776 ≤ x ∧ x ≤ 1099511627776 := h x (List.mem_of_getElem? hx)

/-- What a function leaves that only reads and answers a number. -/
def Tells (k : IntKind) (w : World) (n : Int) (e : Ending) (w' : World) : Prop := e = .returned (.int k n) ∧ ∃ m, w' = w.drewN m
theorem Tells.of {k : IntKind} {w w' : World} {b b' : Int} (n : Nat) (hw : w' = w.drewN n) (h : b' = b) : Tells k w b (.returned (.int k b')) w' := ⟨by rw [h], n, hw⟩
theorem Tells.keep {k : IntKind} {w w' : World} {b : Int} {e : Ending} (h : Tells k w b e w') : e = .returned (.int k b) ∧ Keep w w' := by
  obtain ⟨rfl, n, rfl⟩ := h
  exact ⟨rfl, (Keep.refl w).drewN n⟩

theorem tellsK {P : Program} {f : FuncId} {args : Array Value} {w : World} {k : IntKind} {n : Int} (h : Calls P f args w (Tells k w n)) : Calls P f args w fun e w' => e = .returned (.int k n) ∧ Keep w w' := h.mono fun _ _ h => h.keep

end Go.Proofs.YtnjjeanbopclhaaGreatDoor
