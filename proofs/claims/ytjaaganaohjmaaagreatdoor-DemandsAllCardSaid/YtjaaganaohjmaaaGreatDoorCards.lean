/-
  DERIVED. GIVEN WITH THE SEED: THE CARDS: each row of YtjaaganaohjmaaaGreatDoorRows.lean that lists a variable, with what it lists TIED to the program's text (the seventh form; the later family's looks); each row that meets fmt, with fmt's text TOLD by the authors' own Lean function (tested against real Go, not proved from fmt's source: count such statements apart). THE CARD IS WHAT COUNTS. Prove the row's statement (the work); the ties are given (YtjaaganaohjmaaaGreatDoorTie.lean); close each card by the builder's one call (the guide's Derived/Test/ToyasCard.lean, 'card_holds'). Laid BY PROGRAM, IN A SANDBOX (cutbox-door.mjs). By AI agents, Wed Nov 11 2026. No macro, syntax, notation, axiom, sorry.
-/
import Derived.Test.YtjaaganaohjmaaaGreatDoorRows
import GoSem.ClaimSeven
namespace Go.Proofs.YtjaaganaohjmaaaGreatDoor
namespace Rows

/-- THE TIED CARD OF 'salesroomlaw21.FramesPut'. -/
def framesPutCard : Claim7 := { stood := { row := framesPutRow, standIns := [], harness := (true, "7904844b57517bb00c47050afc97ba654869861f2c2852928c80734cb151f107"), looks := true }, kinds := [], alts := [], laidByText := true, laidKinds := [.data, .data, .data, .data], laidTests := true, laidLooks := .later }
def FramesPutCardSaid : Prop := Claim7.holds Tryz.pinned (.plain (OpenSpec.ofChange framesPutSpec)) framesPutCard

/-- THE TIED CARD OF 'salesroomlaw21.FramesGet'. -/
def framesGetCard : Claim7 := { stood := { row := framesGetRow, standIns := [], harness := (true, "7904844b57517bb00c47050afc97ba654869861f2c2852928c80734cb151f107"), looks := true }, kinds := [], alts := [], laidByText := true, laidKinds := [.data, .data, .data, .data], laidTests := true, laidLooks := .later }
def FramesGetCardSaid : Prop := Claim7.holds Tryz.pinned (.plain (OpenSpec.ofChange framesGetSpec)) framesGetCard

/-- THE TIED CARD OF 'salesroomlaw12.DemandsAll'. -/
def demandsAllCard : Claim7 := { stood := { row := demandsAllRow, standIns := [], harness := (true, "7904844b57517bb00c47050afc97ba654869861f2c2852928c80734cb151f107"), looks := true }, kinds := [], alts := [], laidByText := true, laidKinds := [.data, .data, .data], laidTests := true, laidLooks := .later }
def DemandsAllCardSaid : Prop := Claim7.holds Tryz.pinned (.plain (OpenSpec.ofChange demandsAllSpec)) demandsAllCard

/-- THE SECOND FORM's CARD OF 'salesroomlaw21.FramesPut'. -/
def framesPutUptoCard : Claim7 := { stood := { row := framesPutUptoRow, standIns := [], harness := (true, "7904844b57517bb00c47050afc97ba654869861f2c2852928c80734cb151f107"), looks := true }, kinds := [], alts := [], laidByText := true, laidKinds := [.data, .data, .data, .data], laidTests := true, laidLooks := .later }
def FramesPutUptoCardSaid : Prop := Claim7.holds Tryz.pinned (.plain (OpenSpec.upto framesPutSpec)) framesPutUptoCard

/-- THE SECOND FORM's CARD OF 'salesroomlaw21.FramesGet'. -/
def framesGetUptoCard : Claim7 := { stood := { row := framesGetUptoRow, standIns := [], harness := (true, "7904844b57517bb00c47050afc97ba654869861f2c2852928c80734cb151f107"), looks := true }, kinds := [], alts := [], laidByText := true, laidKinds := [.data, .data, .data, .data], laidTests := true, laidLooks := .later }
def FramesGetUptoCardSaid : Prop := Claim7.holds Tryz.pinned (.plain (OpenSpec.upto framesGetSpec)) framesGetUptoCard

/-- THE SECOND FORM's CARD OF 'salesroomlaw12.DemandsAll'. -/
def demandsAllUptoCard : Claim7 := { stood := { row := demandsAllUptoRow, standIns := [], harness := (true, "7904844b57517bb00c47050afc97ba654869861f2c2852928c80734cb151f107"), looks := true }, kinds := [], alts := [], laidByText := true, laidKinds := [.data, .data, .data], laidTests := true, laidLooks := .later }
def DemandsAllUptoCardSaid : Prop := Claim7.holds Tryz.pinned (.plain (OpenSpec.upto demandsAllSpec)) demandsAllUptoCard
end Rows
end Go.Proofs.YtjaaganaohjmaaaGreatDoor
