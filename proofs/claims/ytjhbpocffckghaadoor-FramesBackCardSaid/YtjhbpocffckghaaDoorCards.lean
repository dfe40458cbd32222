/-
  DERIVED. GIVEN WITH THE SEED: THE CARDS: each row of YtjhbpocffckghaaDoorRows.lean that lists a variable, with what it lists TIED to the program's text (the seventh form; the later family's looks); each row that meets fmt, with fmt's text TOLD by the authors' own Lean function (tested against real Go, not proved from fmt's source: count such statements apart). THE CARD IS WHAT COUNTS. Prove the row's statement (the work); the ties are given (YtjhbpocffckghaaDoorTie.lean); close each card by the builder's one call (the guide's Derived/Test/ToyasCard.lean, 'card_holds'). Laid BY PROGRAM, IN A SANDBOX (cutbox-door.mjs). By AI agents, Wed Nov 11 2026. No macro, syntax, notation, axiom, sorry.
-/
import Derived.Test.YtjhbpocffckghaaDoorRows
import GoSem.ClaimSeven
namespace Go.Proofs.YtjhbpocffckghaaDoor
namespace Rows

/-- THE TIED CARD OF 'salesroomlaw21.FramesParts'. -/
def framesPartsCard : Claim7 := { stood := { row := framesPartsRow, standIns := [], harness := (true, "e8cf1c9f53ade2dbf88f03b308869a8a40b735f23a25ae12c022913cb6d11f8f"), looks := true }, kinds := [], alts := [], laidByText := true, laidKinds := [.data], laidTests := true, laidLooks := .later }
def FramesPartsCardSaid : Prop := Claim7.holds Tryd.pinned (.plain (OpenSpec.ofChange framesPartsSpec)) framesPartsCard

/-- THE TIED CARD OF 'salesroomlaw21.FramesUnlike'. -/
def framesUnlikeCard : Claim7 := { stood := { row := framesUnlikeRow, standIns := [], harness := (true, "e8cf1c9f53ade2dbf88f03b308869a8a40b735f23a25ae12c022913cb6d11f8f"), looks := true }, kinds := [], alts := [], laidByText := true, laidKinds := [.data], laidTests := true, laidLooks := .later }
def FramesUnlikeCardSaid : Prop := Claim7.holds Tryd.pinned (.plain (OpenSpec.ofChange framesUnlikeSpec)) framesUnlikeCard

/-- THE TIED CARD OF 'salesroomlaw21.FramesBack'. -/
def framesBackCard : Claim7 := { stood := { row := framesBackRow, standIns := [], harness := (true, "e8cf1c9f53ade2dbf88f03b308869a8a40b735f23a25ae12c022913cb6d11f8f"), looks := true }, kinds := [], alts := [], laidByText := true, laidKinds := [.data], laidTests := true, laidLooks := .later }
def FramesBackCardSaid : Prop := Claim7.holds Tryd.pinned (.plain (OpenSpec.ofChange framesBackSpec)) framesBackCard

/-- THE TIED CARD OF 'salesroomlaw21.FramesAgain'. -/
def framesAgainCard : Claim7 := { stood := { row := framesAgainRow, standIns := [], harness := (true, "e8cf1c9f53ade2dbf88f03b308869a8a40b735f23a25ae12c022913cb6d11f8f"), looks := true }, kinds := [], alts := [], laidByText := true, laidKinds := [.data], laidTests := true, laidLooks := .later }
def FramesAgainCardSaid : Prop := Claim7.holds Tryd.pinned (.plain (OpenSpec.ofChange framesAgainSpec)) framesAgainCard

/-- THE SECOND FORM's CARD OF 'salesroomlaw21.FramesParts'. -/
def framesPartsUptoCard : Claim7 := { stood := { row := framesPartsUptoRow, standIns := [], harness := (true, "e8cf1c9f53ade2dbf88f03b308869a8a40b735f23a25ae12c022913cb6d11f8f"), looks := true }, kinds := [], alts := [], laidByText := true, laidKinds := [.data], laidTests := true, laidLooks := .later }
def FramesPartsUptoCardSaid : Prop := Claim7.holds Tryd.pinned (.plain (OpenSpec.upto framesPartsSpec)) framesPartsUptoCard

/-- THE SECOND FORM's CARD OF 'salesroomlaw21.FramesUnlike'. -/
def framesUnlikeUptoCard : Claim7 := { stood := { row := framesUnlikeUptoRow, standIns := [], harness := (true, "e8cf1c9f53ade2dbf88f03b308869a8a40b735f23a25ae12c022913cb6d11f8f"), looks := true }, kinds := [], alts := [], laidByText := true, laidKinds := [.data], laidTests := true, laidLooks := .later }
def FramesUnlikeUptoCardSaid : Prop := Claim7.holds Tryd.pinned (.plain (OpenSpec.upto framesUnlikeSpec)) framesUnlikeUptoCard

/-- THE SECOND FORM's CARD OF 'salesroomlaw21.FramesBack'. -/
def framesBackUptoCard : Claim7 := { stood := { row := framesBackUptoRow, standIns := [], harness := (true, "e8cf1c9f53ade2dbf88f03b308869a8a40b735f23a25ae12c022913cb6d11f8f"), looks := true }, kinds := [], alts := [], laidByText := true, laidKinds := [.data], laidTests := true, laidLooks := .later }
def FramesBackUptoCardSaid : Prop := Claim7.holds Tryd.pinned (.plain (OpenSpec.upto framesBackSpec)) framesBackUptoCard

/-- THE SECOND FORM's CARD OF 'salesroomlaw21.FramesAgain'. -/
def framesAgainUptoCard : Claim7 := { stood := { row := framesAgainUptoRow, standIns := [], harness := (true, "e8cf1c9f53ade2dbf88f03b308869a8a40b735f23a25ae12c022913cb6d11f8f"), looks := true }, kinds := [], alts := [], laidByText := true, laidKinds := [.data], laidTests := true, laidLooks := .later }
def FramesAgainUptoCardSaid : Prop := Claim7.holds Tryd.pinned (.plain (OpenSpec.upto framesAgainSpec)) framesAgainUptoCard
end Rows
end Go.Proofs.YtjhbpocffckghaaDoor
