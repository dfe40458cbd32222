/-
  DERIVED. GIVEN WITH THE SEED: THE CARDS: each row of YtafiahnaeakcfaaDoorRows.lean that lists a variable, with what it lists TIED to the program's text (the seventh form; the later family's looks); each row that meets fmt, with fmt's text TOLD by the authors' own Lean function (tested against real Go, not proved from fmt's source: count such statements apart). THE CARD IS WHAT COUNTS. Prove the row's statement (the work); the ties are given (YtafiahnaeakcfaaDoorTie.lean); close each card by the builder's one call (the guide's Derived/Test/ToyasCard.lean, 'card_holds'). Laid BY PROGRAM, IN A SANDBOX (cutbox-door.mjs). By AI agents, Wed Nov 11 2026. No macro, syntax, notation, axiom, sorry.
-/
import Derived.Test.YtafiahnaeakcfaaDoorRows
import GoSem.ClaimSeven
namespace Go.Proofs.YtafiahnaeakcfaaDoor
namespace Rows

/-- THE TIED CARD OF 'salesroomlaw01.NumsPut'. -/
def numsPutCard : Claim7 := { stood := { row := numsPutRow, standIns := [], harness := (true, "9d504940dd2819e10f136af1e23bde5c80d36298135923f7dee20a451aecd2f1"), looks := false }, kinds := [], alts := [], laidByText := true, laidKinds := [.data, .data, .data], laidTests := true, laidLooks := .later }
def NumsPutCardSaid : Prop := Claim7.holds Tryd.pinned (.plain (OpenSpec.ofChange numsPutSpec)) numsPutCard

/-- THE TIED CARD OF 'salesroomlaw01.NumsGet'. -/
def numsGetCard : Claim7 := { stood := { row := numsGetRow, standIns := [], harness := (true, "9d504940dd2819e10f136af1e23bde5c80d36298135923f7dee20a451aecd2f1"), looks := false }, kinds := [], alts := [], laidByText := true, laidKinds := [.data, .data, .data], laidTests := true, laidLooks := .later }
def NumsGetCardSaid : Prop := Claim7.holds Tryd.pinned (.plain (OpenSpec.ofChange numsGetSpec)) numsGetCard

/-- THE TIED CARD OF 'salesroomlaw12.DemandsOf'. -/
def demandsOfCard : Claim7 := { stood := { row := demandsOfRow, standIns := [], harness := (true, "9d504940dd2819e10f136af1e23bde5c80d36298135923f7dee20a451aecd2f1"), looks := false }, kinds := [], alts := [], laidByText := true, laidKinds := [.data, .data, .data], laidTests := true, laidLooks := .later }
def DemandsOfCardSaid : Prop := Claim7.holds Tryd.pinned (.plain (OpenSpec.ofChange demandsOfSpec)) demandsOfCard

/-- THE TIED CARD OF 'salesroomlaw04.VectorsOf'. -/
def vectorsOfCard : Claim7 := { stood := { row := vectorsOfRow, standIns := [], harness := (true, "9d504940dd2819e10f136af1e23bde5c80d36298135923f7dee20a451aecd2f1"), looks := false }, kinds := [], alts := [], laidByText := true, laidKinds := [.data, .data, .data], laidTests := true, laidLooks := .later }
def VectorsOfCardSaid : Prop := Claim7.holds Tryd.pinned (.plain (OpenSpec.ofChange vectorsOfSpec)) vectorsOfCard

/-- THE TIED CARD OF 'salesroomlaw05.MarketsGet'. -/
def marketsGetCard : Claim7 := { stood := { row := marketsGetRow, standIns := [], harness := (true, "9d504940dd2819e10f136af1e23bde5c80d36298135923f7dee20a451aecd2f1"), looks := false }, kinds := [], alts := [], laidByText := true, laidKinds := [.data, .data, .data], laidTests := true, laidLooks := .later }
def MarketsGetCardSaid : Prop := Claim7.holds Tryd.pinned (.plain (OpenSpec.ofChange marketsGetSpec)) marketsGetCard

/-- THE SECOND FORM's CARD OF 'salesroomlaw01.NumsPut'. -/
def numsPutUptoCard : Claim7 := { stood := { row := numsPutUptoRow, standIns := [], harness := (true, "9d504940dd2819e10f136af1e23bde5c80d36298135923f7dee20a451aecd2f1"), looks := false }, kinds := [], alts := [], laidByText := true, laidKinds := [.data, .data, .data], laidTests := true, laidLooks := .later }
def NumsPutUptoCardSaid : Prop := Claim7.holds Tryd.pinned (.plain (OpenSpec.upto numsPutSpec)) numsPutUptoCard

/-- THE SECOND FORM's CARD OF 'salesroomlaw01.NumsGet'. -/
def numsGetUptoCard : Claim7 := { stood := { row := numsGetUptoRow, standIns := [], harness := (true, "9d504940dd2819e10f136af1e23bde5c80d36298135923f7dee20a451aecd2f1"), looks := false }, kinds := [], alts := [], laidByText := true, laidKinds := [.data, .data, .data], laidTests := true, laidLooks := .later }
def NumsGetUptoCardSaid : Prop := Claim7.holds Tryd.pinned (.plain (OpenSpec.upto numsGetSpec)) numsGetUptoCard

/-- THE SECOND FORM's CARD OF 'salesroomlaw12.DemandsOf'. -/
def demandsOfUptoCard : Claim7 := { stood := { row := demandsOfUptoRow, standIns := [], harness := (true, "9d504940dd2819e10f136af1e23bde5c80d36298135923f7dee20a451aecd2f1"), looks := false }, kinds := [], alts := [], laidByText := true, laidKinds := [.data, .data, .data], laidTests := true, laidLooks := .later }
def DemandsOfUptoCardSaid : Prop := Claim7.holds Tryd.pinned (.plain (OpenSpec.upto demandsOfSpec)) demandsOfUptoCard

/-- THE SECOND FORM's CARD OF 'salesroomlaw04.VectorsOf'. -/
def vectorsOfUptoCard : Claim7 := { stood := { row := vectorsOfUptoRow, standIns := [], harness := (true, "9d504940dd2819e10f136af1e23bde5c80d36298135923f7dee20a451aecd2f1"), looks := false }, kinds := [], alts := [], laidByText := true, laidKinds := [.data, .data, .data], laidTests := true, laidLooks := .later }
def VectorsOfUptoCardSaid : Prop := Claim7.holds Tryd.pinned (.plain (OpenSpec.upto vectorsOfSpec)) vectorsOfUptoCard

/-- THE SECOND FORM's CARD OF 'salesroomlaw05.MarketsGet'. -/
def marketsGetUptoCard : Claim7 := { stood := { row := marketsGetUptoRow, standIns := [], harness := (true, "9d504940dd2819e10f136af1e23bde5c80d36298135923f7dee20a451aecd2f1"), looks := false }, kinds := [], alts := [], laidByText := true, laidKinds := [.data, .data, .data], laidTests := true, laidLooks := .later }
def MarketsGetUptoCardSaid : Prop := Claim7.holds Tryd.pinned (.plain (OpenSpec.upto marketsGetSpec)) marketsGetUptoCard
end Rows
end Go.Proofs.YtafiahnaeakcfaaDoor
