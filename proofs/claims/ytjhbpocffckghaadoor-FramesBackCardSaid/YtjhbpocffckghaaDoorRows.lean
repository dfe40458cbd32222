/-
  NARROWER THAN 'FOR EVERY INPUT', by the rows' own cells (each row's printed sentence says how): FramesParts: laid · FramesUnlike: laid · FramesBack: laid · FramesAgain: laid.
  DERIVED. THE GIVEN ROWS OF THIS SEAT. 4 by the template 'for every input the law returns true; each argument reads behind the call as it read before'; 0 by the template 'total and deterministic' (their statements: YtjhbpocffckghaaDoorTotals.lean).
  GIVEN WITH THE SEED: the statements are not yours to turn. If you find one false, say at which input.
  Laid BY PROGRAM, IN A SANDBOX (cutbox-rows.mjs): the forced cells as the released guide's own fill.sh prints them over the translation ec123a9bee6f625e… (all of the seat's roots in one cut). By AI agents, Wed Nov 11 2026. No macro, syntax, notation, axiom, sorry.
-/
import Derived.Test.YtjhbpocffckghaaDoorChecked
import GoSem.Claim
import GoSem.ClaimJoined
import GoSem.ClaimMapViews
import Derived.JoinedTies
import Derived.KernelRfl
namespace Go.Proofs.YtjhbpocffckghaaDoor
/- THE CELL 'sum', in the pinned program and in every row, IS THE sha256 OF THE DUMP (.gsa) THAT YtjhbpocffckghaaDoorProg.lean LOADS. Nothing in Lean hashes anything: it is a label: what it is worth is what the hold of that sum in a sandbox is worth. -/
noncomputable def Tryd.pinned : Pinned := { name := "ytjhbpocffckghaadoor", sum := "ec123a9bee6f625ec0a95fbbea897e7e6266581247672ae6d7714ff6ef65e92f", checked := Tryd.checked }
namespace Rows
def none {H : Type} : Left H := { results := [], args := [] }

/- WHAT THE LISTED PACKAGE-LEVEL VARIABLES READ AS WHEN THE CALL BEGINS. Each datum BY PROGRAM (the guide's laid-datum.mjs) off the statement by which the dump's own 'gosem.cut.vars' lays the variable. In a bare row this is a premise. The card (YtjhbpocffckghaaDoorCards.lean) ties it to the program's text. -/
def laid_salesroom_frames_parts {H : Type} : DataW H := .agg [.lit (.int .i64 0), .lit (.int .i64 4), .lit (.int .i64 11), .lit (.int .i64 3), .lit (.int .i64 2), .lit (.int .i64 2), .lit (.int .i64 2), .lit (.int .i64 2), .lit (.int .i64 2), .lit (.int .i64 2), .lit (.int .i64 0)]

/-- 'salesroomlaw21.FramesParts': WHATEVER THE INPUT: true; the input reads as it did. -/
def framesPartsSpec : ChangeSpec := { name := "framesParts", fn := fun _ => fun
  | [d1, d2] => { results := [.lit (.bool true)], args := [d1, d2] }
  | _ => none }
def framesPartsRow : OpenClaim := { program := "ytjhbpocffckghaadoor", sum := "ec123a9bee6f625ec0a95fbbea897e7e6266581247672ae6d7714ff6ef65e92f", func := "salesroom/salesroomlaw21.FramesParts", spec := "framesParts", unfollowed := true, recurses := true, named := ["salesroom/frames.parts"], apart := false, laid := [("salesroom/frames.parts", laid_salesroom_frames_parts)] }
def FramesPartsSaid : Prop := framesPartsRow.holds Tryd.pinned (OpenSpec.ofChange framesPartsSpec)

/-- ITS FALSE NEIGHBOUR: 'it returns false'. Refute it at one input. -/
def framesPartsWrong : ChangeSpec := { name := "framesParts", fn := fun _ => fun
  | [d1, d2] => { results := [.lit (.bool false)], args := [d1, d2] }
  | _ => none }
def FramesPartsWrongFalsely : Prop := framesPartsRow.holds Tryd.pinned (OpenSpec.ofChange framesPartsWrong)

/-- 'salesroomlaw21.FramesUnlike': WHATEVER THE INPUT: true; the input reads as it did. -/
def framesUnlikeSpec : ChangeSpec := { name := "framesUnlike", fn := fun _ => fun
  | [d] => { results := [.lit (.bool true)], args := [d] }
  | _ => none }
def framesUnlikeRow : OpenClaim := { program := "ytjhbpocffckghaadoor", sum := "ec123a9bee6f625ec0a95fbbea897e7e6266581247672ae6d7714ff6ef65e92f", func := "salesroom/salesroomlaw21.FramesUnlike", spec := "framesUnlike", unfollowed := true, recurses := true, named := ["salesroom/frames.parts"], apart := false, laid := [("salesroom/frames.parts", laid_salesroom_frames_parts)] }
def FramesUnlikeSaid : Prop := framesUnlikeRow.holds Tryd.pinned (OpenSpec.ofChange framesUnlikeSpec)

/-- ITS FALSE NEIGHBOUR: 'it returns false'. Refute it at one input. -/
def framesUnlikeWrong : ChangeSpec := { name := "framesUnlike", fn := fun _ => fun
  | [d] => { results := [.lit (.bool false)], args := [d] }
  | _ => none }
def FramesUnlikeWrongFalsely : Prop := framesUnlikeRow.holds Tryd.pinned (OpenSpec.ofChange framesUnlikeWrong)

/-- 'salesroomlaw21.FramesBack': WHATEVER THE INPUT: true; the input reads as it did. -/
def framesBackSpec : ChangeSpec := { name := "framesBack", fn := fun _ => fun
  | [d1, d2] => { results := [.lit (.bool true)], args := [d1, d2] }
  | _ => none }
def framesBackRow : OpenClaim := { program := "ytjhbpocffckghaadoor", sum := "ec123a9bee6f625ec0a95fbbea897e7e6266581247672ae6d7714ff6ef65e92f", func := "salesroom/salesroomlaw21.FramesBack", spec := "framesBack", unfollowed := true, recurses := true, named := ["salesroom/frames.parts"], apart := false, laid := [("salesroom/frames.parts", laid_salesroom_frames_parts)] }
def FramesBackSaid : Prop := framesBackRow.holds Tryd.pinned (OpenSpec.ofChange framesBackSpec)

/-- ITS FALSE NEIGHBOUR: 'it returns false'. Refute it at one input. -/
def framesBackWrong : ChangeSpec := { name := "framesBack", fn := fun _ => fun
  | [d1, d2] => { results := [.lit (.bool false)], args := [d1, d2] }
  | _ => none }
def FramesBackWrongFalsely : Prop := framesBackRow.holds Tryd.pinned (OpenSpec.ofChange framesBackWrong)

/-- 'salesroomlaw21.FramesAgain': WHATEVER THE INPUT: true; the input reads as it did. -/
def framesAgainSpec : ChangeSpec := { name := "framesAgain", fn := fun _ => fun
  | [d] => { results := [.lit (.bool true)], args := [d] }
  | _ => none }
def framesAgainRow : OpenClaim := { program := "ytjhbpocffckghaadoor", sum := "ec123a9bee6f625ec0a95fbbea897e7e6266581247672ae6d7714ff6ef65e92f", func := "salesroom/salesroomlaw21.FramesAgain", spec := "framesAgain", unfollowed := true, recurses := true, named := ["salesroom/frames.parts"], apart := false, laid := [("salesroom/frames.parts", laid_salesroom_frames_parts)] }
def FramesAgainSaid : Prop := framesAgainRow.holds Tryd.pinned (OpenSpec.ofChange framesAgainSpec)

/-- ITS FALSE NEIGHBOUR: 'it returns false'. Refute it at one input. -/
def framesAgainWrong : ChangeSpec := { name := "framesAgain", fn := fun _ => fun
  | [d] => { results := [.lit (.bool false)], args := [d] }
  | _ => none }
def FramesAgainWrongFalsely : Prop := framesAgainRow.holds Tryd.pinned (OpenSpec.ofChange framesAgainWrong)

/- THE SECOND FORM. 'bulk': how many values and letters a reading holds, each counted each time it is reached (what is shared counts as often as it is met; a slice's spare places count too). A statement '..UptoSaid' is the law's where the arguments, and the package variables that the reading takes, are together of bulk at most 1048576: NARROWER than '..Said'. Prove '..Said' where nothing that the law and all that it calls make is longer than what came in: it says more and counts as full. Else prove '..UptoSaid'. A law counts once. -/
mutual
def uptoBulk {H : Type} : DataW H → Nat
  | .lit (.string bytes) => bytes.length + 1
  | .lit _ => 1
  | .nil => 1
  | .ptr d => uptoBulk d + 1
  | .slice elems spare => uptoBulkAll elems + uptoBulkAll spare + 1
  | .agg parts => uptoBulkAll parts + 1
  | .iface _ d => uptoBulk d + 1
  | .map entries => uptoBulkEntries entries + 1
  | .held _ => 1
def uptoBulkAll {H : Type} : List (DataW H) → Nat
  | [] => 0
  | d :: r => uptoBulk d + uptoBulkAll r
def uptoBulkEntries {H : Type} : List (Lit × DataW H) → Nat
  | [] => 0
  | x :: r => uptoBulkEntry x + uptoBulkEntries r
def uptoBulkEntry {H : Type} : Lit × DataW H → Nat
  | (.string bytes, d) => bytes.length + uptoBulk d + 1
  | (_, d) => uptoBulk d + 1
 end
def uptoSmall : (H : Type) → List (DataW H) → Bool := fun _ ds => decide (uptoBulkAll ds ≤ 1048576)
def OpenSpec.upto (s : _root_.Go.ChangeSpec) : _root_.Go.OpenSpec := { _root_.Go.OpenSpec.ofChange s with cond := some uptoSmall }

/-- 'salesroomlaw21.FramesParts', WHERE WHAT IT READS IS OF BULK AT MOST 1048576: true; the input reads as it did. -/
def framesPartsUptoRow : OpenClaim := { program := "ytjhbpocffckghaadoor", sum := "ec123a9bee6f625ec0a95fbbea897e7e6266581247672ae6d7714ff6ef65e92f", func := "salesroom/salesroomlaw21.FramesParts", spec := "framesParts", unfollowed := true, recurses := true, named := ["salesroom/frames.parts"], apart := false, laid := [("salesroom/frames.parts", laid_salesroom_frames_parts)], narrowed := true }
def FramesPartsUptoSaid : Prop := framesPartsUptoRow.holds Tryd.pinned (OpenSpec.upto framesPartsSpec)

/-- 'salesroomlaw21.FramesUnlike', WHERE WHAT IT READS IS OF BULK AT MOST 1048576: true; the input reads as it did. -/
def framesUnlikeUptoRow : OpenClaim := { program := "ytjhbpocffckghaadoor", sum := "ec123a9bee6f625ec0a95fbbea897e7e6266581247672ae6d7714ff6ef65e92f", func := "salesroom/salesroomlaw21.FramesUnlike", spec := "framesUnlike", unfollowed := true, recurses := true, named := ["salesroom/frames.parts"], apart := false, laid := [("salesroom/frames.parts", laid_salesroom_frames_parts)], narrowed := true }
def FramesUnlikeUptoSaid : Prop := framesUnlikeUptoRow.holds Tryd.pinned (OpenSpec.upto framesUnlikeSpec)

/-- 'salesroomlaw21.FramesBack', WHERE WHAT IT READS IS OF BULK AT MOST 1048576: true; the input reads as it did. -/
def framesBackUptoRow : OpenClaim := { program := "ytjhbpocffckghaadoor", sum := "ec123a9bee6f625ec0a95fbbea897e7e6266581247672ae6d7714ff6ef65e92f", func := "salesroom/salesroomlaw21.FramesBack", spec := "framesBack", unfollowed := true, recurses := true, named := ["salesroom/frames.parts"], apart := false, laid := [("salesroom/frames.parts", laid_salesroom_frames_parts)], narrowed := true }
def FramesBackUptoSaid : Prop := framesBackUptoRow.holds Tryd.pinned (OpenSpec.upto framesBackSpec)

/-- 'salesroomlaw21.FramesAgain', WHERE WHAT IT READS IS OF BULK AT MOST 1048576: true; the input reads as it did. -/
def framesAgainUptoRow : OpenClaim := { program := "ytjhbpocffckghaadoor", sum := "ec123a9bee6f625ec0a95fbbea897e7e6266581247672ae6d7714ff6ef65e92f", func := "salesroom/salesroomlaw21.FramesAgain", spec := "framesAgain", unfollowed := true, recurses := true, named := ["salesroom/frames.parts"], apart := false, laid := [("salesroom/frames.parts", laid_salesroom_frames_parts)], narrowed := true }
def FramesAgainUptoSaid : Prop := framesAgainUptoRow.holds Tryd.pinned (OpenSpec.upto framesAgainSpec)

end Rows
end Go.Proofs.YtjhbpocffckghaaDoor
