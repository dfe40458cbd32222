/-
  DERIVED. GIVEN WITH THE SEED: THE CARDS: each row of YtbfldlokocpjaaaGreatDoorRows.lean that lists a variable, with what it lists TIED to the program's text (the seventh form; the later family's looks); each row that meets fmt, with fmt's text TOLD by the authors' own Lean function (tested against real Go, not proved from fmt's source: count such statements apart). THE CARD IS WHAT COUNTS. Prove the row's statement (the work); the ties are given (YtbfldlokocpjaaaGreatDoorTie.lean); close each card by the builder's one call (the guide's Derived/Test/ToyasCard.lean, 'card_holds'). Laid BY PROGRAM, IN A SANDBOX (cutbox-door.mjs). By AI agents, Wed Nov 11 2026. No macro, syntax, notation, axiom, sorry.
-/
import Derived.Test.YtbfldlokocpjaaaGreatDoorRows
import GoSem.ClaimSeven
namespace Go.Proofs.YtbfldlokocpjaaaGreatDoor
namespace Rows

/-- THE TIED CARD OF 'salesroomlaw05.MarketsOf'. -/
def marketsOfCard : Claim7 := { stood := { row := marketsOfRow, standIns := [], harness := (true, "cfe3f91c0ff14b06c9cf662d6c632611bb7b311d768486f66d3c84c431b4ab90"), looks := false }, kinds := [], alts := [], laidByText := true, laidKinds := [.data, .data, .data], laidTests := true, laidLooks := .later }
def MarketsOfCardSaid : Prop := Claim7.holds Tryz.pinned (.plain (OpenSpec.ofChange marketsOfSpec)) marketsOfCard

/-- THE TIED CARD OF 'salesroomlaw12.DemandsAll'. -/
def demandsAllCard : Claim7 := { stood := { row := demandsAllRow, standIns := [], harness := (true, "cfe3f91c0ff14b06c9cf662d6c632611bb7b311d768486f66d3c84c431b4ab90"), looks := false }, kinds := [], alts := [], laidByText := true, laidKinds := [.data, .data, .data], laidTests := true, laidLooks := .later }
def DemandsAllCardSaid : Prop := Claim7.holds Tryz.pinned (.plain (OpenSpec.ofChange demandsAllSpec)) demandsAllCard

/-- THE SECOND FORM's CARD OF 'salesroomlaw05.MarketsOf'. -/
def marketsOfUptoCard : Claim7 := { stood := { row := marketsOfUptoRow, standIns := [], harness := (true, "cfe3f91c0ff14b06c9cf662d6c632611bb7b311d768486f66d3c84c431b4ab90"), looks := false }, kinds := [], alts := [], laidByText := true, laidKinds := [.data, .data, .data], laidTests := true, laidLooks := .later }
def MarketsOfUptoCardSaid : Prop := Claim7.holds Tryz.pinned (.plain (OpenSpec.upto marketsOfSpec)) marketsOfUptoCard

/-- THE SECOND FORM's CARD OF 'salesroomlaw12.DemandsAll'. -/
def demandsAllUptoCard : Claim7 := { stood := { row := demandsAllUptoRow, standIns := [], harness := (true, "cfe3f91c0ff14b06c9cf662d6c632611bb7b311d768486f66d3c84c431b4ab90"), looks := false }, kinds := [], alts := [], laidByText := true, laidKinds := [.data, .data, .data], laidTests := true, laidLooks := .later }
def DemandsAllUptoCardSaid : Prop := Claim7.holds Tryz.pinned (.plain (OpenSpec.upto demandsAllSpec)) demandsAllUptoCard
end Rows
end Go.Proofs.YtbfldlokocpjaaaGreatDoor
