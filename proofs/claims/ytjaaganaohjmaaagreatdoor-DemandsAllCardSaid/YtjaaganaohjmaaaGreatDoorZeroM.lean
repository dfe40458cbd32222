/-
  WORDS on markets: the market of none. Plain theorems. No condition.
-/
import Derived.Test.YtjaaganaohjmaaaGreatDoorMktC
namespace Go.Proofs.YtjaaganaohjmaaaGreatDoor
open Go.RowKit

abbrev nilS : Value := .slice none 0 0
/-- The market of none, as it stands in memory. -/
abbrev zeroM : Value := .agg #[nilS, nilS, nilS]
/-- The market of none. -/
def noM : Mkt := ⟨⟨none, 0, []⟩, none, 0, [], ⟨none, 0, []⟩⟩
theorem noM_ok (w : World) : noM.Ok w := ⟨⟨⟨Rd.nil _ _, Nat.le_refl _, Nat.zero_le _, fun x h => by cases h⟩, fun _ => rfl⟩, ⟨Rd.nil _ _, Nat.le_refl _, Nat.zero_le _, fun s h => by cases h⟩, fun _ => rfl, ⟨⟨Rd.nil _ _, Nat.le_refl _, Nat.zero_le _, fun x h => by cases h⟩, fun _ => rfl⟩⟩
end Go.Proofs.YtjaaganaohjmaaaGreatDoor
