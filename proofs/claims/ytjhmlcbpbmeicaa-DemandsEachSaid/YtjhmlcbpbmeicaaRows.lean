/-
  No cell of these rows narrows 'for every input' (looked for: loops, veiled, ifaces, maps, wideKeys, modest, calm, conditions, laid).
  DERIVED. THE GIVEN ROWS OF THIS SEAT. 16 by the template 'for every input the law returns true; each argument reads behind the call as it read before'; 0 by the template 'total and deterministic' (their statements: YtjhmlcbpbmeicaaTotals.lean).
  GIVEN WITH THE SEED: the statements are not yours to turn. If you find one false, say at which input.
  Laid BY PROGRAM, IN A SANDBOX (cutbox-rows.mjs): the forced cells as the released guide's own fill.sh prints them over the translation dbfe2daa1f9e659f… (all of the seat's roots in one cut). By AI agents, Wed Nov 11 2026. No macro, syntax, notation, axiom, sorry.
-/
import Derived.Test.YtjhmlcbpbmeicaaChecked
import GoSem.Claim
import GoSem.ClaimJoined
import GoSem.ClaimMapViews
import Derived.JoinedTies
import Derived.KernelRfl
namespace Go.Proofs.Ytjhmlcbpbmeicaa
/- THE CELL 'sum', in the pinned program and in every row, IS THE sha256 OF THE DUMP (.gsa) THAT YtjhmlcbpbmeicaaProg.lean LOADS. Nothing in Lean hashes anything: it is a label: what it is worth is what the hold of that sum in a sandbox is worth. -/
noncomputable def Try.pinned : Pinned := { name := "ytjhmlcbpbmeicaa", sum := "dbfe2daa1f9e659f20b2ca6dca289b2925c4cf686f7f229dda69e552e176e8ff", checked := Try.checked }
namespace Rows
def none {H : Type} : Left H := { results := [], args := [] }

/-- 'salesroomlaw12.DemandsRaised': WHATEVER THE INPUT: true; the input reads as it did. -/
def demandsRaisedSpec : ChangeSpec := { name := "demandsRaised", fn := fun _ => fun
  | [d1, d2, d3] => { results := [.lit (.bool true)], args := [d1, d2, d3] }
  | _ => none }
def demandsRaisedRow : OpenClaim := { program := "ytjhmlcbpbmeicaa", sum := "dbfe2daa1f9e659f20b2ca6dca289b2925c4cf686f7f229dda69e552e176e8ff", func := "salesroom/salesroomlaw12.DemandsRaised", spec := "demandsRaised", unfollowed := true, recurses := true, apart := false }
def DemandsRaisedSaid : Prop := demandsRaisedRow.holds Try.pinned (OpenSpec.ofChange demandsRaisedSpec)

/-- ITS FALSE NEIGHBOUR: 'it returns false'. Refute it at one input. -/
def demandsRaisedWrong : ChangeSpec := { name := "demandsRaised", fn := fun _ => fun
  | [d1, d2, d3] => { results := [.lit (.bool false)], args := [d1, d2, d3] }
  | _ => none }
def DemandsRaisedWrongFalsely : Prop := demandsRaisedRow.holds Try.pinned (OpenSpec.ofChange demandsRaisedWrong)

/-- 'salesroomlaw12.DemandsLower': WHATEVER THE INPUT: true; the input reads as it did. -/
def demandsLowerSpec : ChangeSpec := { name := "demandsLower", fn := fun _ => fun
  | [d1, d2, d3] => { results := [.lit (.bool true)], args := [d1, d2, d3] }
  | _ => none }
def demandsLowerRow : OpenClaim := { program := "ytjhmlcbpbmeicaa", sum := "dbfe2daa1f9e659f20b2ca6dca289b2925c4cf686f7f229dda69e552e176e8ff", func := "salesroom/salesroomlaw12.DemandsLower", spec := "demandsLower", unfollowed := true, recurses := true, apart := false }
def DemandsLowerSaid : Prop := demandsLowerRow.holds Try.pinned (OpenSpec.ofChange demandsLowerSpec)

/-- ITS FALSE NEIGHBOUR: 'it returns false'. Refute it at one input. -/
def demandsLowerWrong : ChangeSpec := { name := "demandsLower", fn := fun _ => fun
  | [d1, d2, d3] => { results := [.lit (.bool false)], args := [d1, d2, d3] }
  | _ => none }
def DemandsLowerWrongFalsely : Prop := demandsLowerRow.holds Try.pinned (OpenSpec.ofChange demandsLowerWrong)

/-- 'salesroomlaw01.NumsBack': WHATEVER THE INPUT: true; the input reads as it did. -/
def numsBackSpec : ChangeSpec := { name := "numsBack", fn := fun _ => fun
  | [d1, d2, d3] => { results := [.lit (.bool true)], args := [d1, d2, d3] }
  | _ => none }
def numsBackRow : OpenClaim := { program := "ytjhmlcbpbmeicaa", sum := "dbfe2daa1f9e659f20b2ca6dca289b2925c4cf686f7f229dda69e552e176e8ff", func := "salesroom/salesroomlaw01.NumsBack", spec := "numsBack", unfollowed := true, recurses := true, apart := false }
def NumsBackSaid : Prop := numsBackRow.holds Try.pinned (OpenSpec.ofChange numsBackSpec)

/-- ITS FALSE NEIGHBOUR: 'it returns false'. Refute it at one input. -/
def numsBackWrong : ChangeSpec := { name := "numsBack", fn := fun _ => fun
  | [d1, d2, d3] => { results := [.lit (.bool false)], args := [d1, d2, d3] }
  | _ => none }
def NumsBackWrongFalsely : Prop := numsBackRow.holds Try.pinned (OpenSpec.ofChange numsBackWrong)

/-- 'salesroomlaw01.NumsJoin': WHATEVER THE INPUT: true; the input reads as it did. -/
def numsJoinSpec : ChangeSpec := { name := "numsJoin", fn := fun _ => fun
  | [d1, d2] => { results := [.lit (.bool true)], args := [d1, d2] }
  | _ => none }
def numsJoinRow : OpenClaim := { program := "ytjhmlcbpbmeicaa", sum := "dbfe2daa1f9e659f20b2ca6dca289b2925c4cf686f7f229dda69e552e176e8ff", func := "salesroom/salesroomlaw01.NumsJoin", spec := "numsJoin", unfollowed := true, recurses := true, apart := false }
def NumsJoinSaid : Prop := numsJoinRow.holds Try.pinned (OpenSpec.ofChange numsJoinSpec)

/-- ITS FALSE NEIGHBOUR: 'it returns false'. Refute it at one input. -/
def numsJoinWrong : ChangeSpec := { name := "numsJoin", fn := fun _ => fun
  | [d1, d2] => { results := [.lit (.bool false)], args := [d1, d2] }
  | _ => none }
def NumsJoinWrongFalsely : Prop := numsJoinRow.holds Try.pinned (OpenSpec.ofChange numsJoinWrong)

/-- 'salesroomlaw01.NumsAgain': WHATEVER THE INPUT: true; the input reads as it did. -/
def numsAgainSpec : ChangeSpec := { name := "numsAgain", fn := fun _ => fun
  | [d1, d2] => { results := [.lit (.bool true)], args := [d1, d2] }
  | _ => none }
def numsAgainRow : OpenClaim := { program := "ytjhmlcbpbmeicaa", sum := "dbfe2daa1f9e659f20b2ca6dca289b2925c4cf686f7f229dda69e552e176e8ff", func := "salesroom/salesroomlaw01.NumsAgain", spec := "numsAgain", unfollowed := true, recurses := true, apart := false }
def NumsAgainSaid : Prop := numsAgainRow.holds Try.pinned (OpenSpec.ofChange numsAgainSpec)

/-- ITS FALSE NEIGHBOUR: 'it returns false'. Refute it at one input. -/
def numsAgainWrong : ChangeSpec := { name := "numsAgain", fn := fun _ => fun
  | [d1, d2] => { results := [.lit (.bool false)], args := [d1, d2] }
  | _ => none }
def NumsAgainWrongFalsely : Prop := numsAgainRow.holds Try.pinned (OpenSpec.ofChange numsAgainWrong)

/-- 'salesroomlaw04.VectorsBack': WHATEVER THE INPUT: true; the input reads as it did. -/
def vectorsBackSpec : ChangeSpec := { name := "vectorsBack", fn := fun _ => fun
  | [d1, d2, d3] => { results := [.lit (.bool true)], args := [d1, d2, d3] }
  | _ => none }
def vectorsBackRow : OpenClaim := { program := "ytjhmlcbpbmeicaa", sum := "dbfe2daa1f9e659f20b2ca6dca289b2925c4cf686f7f229dda69e552e176e8ff", func := "salesroom/salesroomlaw04.VectorsBack", spec := "vectorsBack", unfollowed := true, recurses := true, apart := false }
def VectorsBackSaid : Prop := vectorsBackRow.holds Try.pinned (OpenSpec.ofChange vectorsBackSpec)

/-- ITS FALSE NEIGHBOUR: 'it returns false'. Refute it at one input. -/
def vectorsBackWrong : ChangeSpec := { name := "vectorsBack", fn := fun _ => fun
  | [d1, d2, d3] => { results := [.lit (.bool false)], args := [d1, d2, d3] }
  | _ => none }
def VectorsBackWrongFalsely : Prop := vectorsBackRow.holds Try.pinned (OpenSpec.ofChange vectorsBackWrong)

/-- 'salesroomlaw04.VectorsCheck': WHATEVER THE INPUT: true; the input reads as it did. -/
def vectorsCheckSpec : ChangeSpec := { name := "vectorsCheck", fn := fun _ => fun
  | [d1, d2] => { results := [.lit (.bool true)], args := [d1, d2] }
  | _ => none }
def vectorsCheckRow : OpenClaim := { program := "ytjhmlcbpbmeicaa", sum := "dbfe2daa1f9e659f20b2ca6dca289b2925c4cf686f7f229dda69e552e176e8ff", func := "salesroom/salesroomlaw04.VectorsCheck", spec := "vectorsCheck", unfollowed := true, recurses := true, apart := false }
def VectorsCheckSaid : Prop := vectorsCheckRow.holds Try.pinned (OpenSpec.ofChange vectorsCheckSpec)

/-- ITS FALSE NEIGHBOUR: 'it returns false'. Refute it at one input. -/
def vectorsCheckWrong : ChangeSpec := { name := "vectorsCheck", fn := fun _ => fun
  | [d1, d2] => { results := [.lit (.bool false)], args := [d1, d2] }
  | _ => none }
def VectorsCheckWrongFalsely : Prop := vectorsCheckRow.holds Try.pinned (OpenSpec.ofChange vectorsCheckWrong)

/-- 'salesroomlaw04.VectorsMoved': WHATEVER THE INPUT: true; the input reads as it did. -/
def vectorsMovedSpec : ChangeSpec := { name := "vectorsMoved", fn := fun _ => fun
  | [d1, d2, d3] => { results := [.lit (.bool true)], args := [d1, d2, d3] }
  | _ => none }
def vectorsMovedRow : OpenClaim := { program := "ytjhmlcbpbmeicaa", sum := "dbfe2daa1f9e659f20b2ca6dca289b2925c4cf686f7f229dda69e552e176e8ff", func := "salesroom/salesroomlaw04.VectorsMoved", spec := "vectorsMoved", unfollowed := true, recurses := true, apart := false }
def VectorsMovedSaid : Prop := vectorsMovedRow.holds Try.pinned (OpenSpec.ofChange vectorsMovedSpec)

/-- ITS FALSE NEIGHBOUR: 'it returns false'. Refute it at one input. -/
def vectorsMovedWrong : ChangeSpec := { name := "vectorsMoved", fn := fun _ => fun
  | [d1, d2, d3] => { results := [.lit (.bool false)], args := [d1, d2, d3] }
  | _ => none }
def VectorsMovedWrongFalsely : Prop := vectorsMovedRow.holds Try.pinned (OpenSpec.ofChange vectorsMovedWrong)

/-- 'salesroomlaw12.DemandsEach': WHATEVER THE INPUT: true; the input reads as it did. -/
def demandsEachSpec : ChangeSpec := { name := "demandsEach", fn := fun _ => fun
  | [d1, d2, d3] => { results := [.lit (.bool true)], args := [d1, d2, d3] }
  | _ => none }
def demandsEachRow : OpenClaim := { program := "ytjhmlcbpbmeicaa", sum := "dbfe2daa1f9e659f20b2ca6dca289b2925c4cf686f7f229dda69e552e176e8ff", func := "salesroom/salesroomlaw12.DemandsEach", spec := "demandsEach", unfollowed := true, recurses := true, apart := false }
def DemandsEachSaid : Prop := demandsEachRow.holds Try.pinned (OpenSpec.ofChange demandsEachSpec)

/-- ITS FALSE NEIGHBOUR: 'it returns false'. Refute it at one input. -/
def demandsEachWrong : ChangeSpec := { name := "demandsEach", fn := fun _ => fun
  | [d1, d2, d3] => { results := [.lit (.bool false)], args := [d1, d2, d3] }
  | _ => none }
def DemandsEachWrongFalsely : Prop := demandsEachRow.holds Try.pinned (OpenSpec.ofChange demandsEachWrong)

/-- 'salesroomlaw05.MarketsBack': WHATEVER THE INPUT: true; the input reads as it did. -/
def marketsBackSpec : ChangeSpec := { name := "marketsBack", fn := fun _ => fun
  | [d1, d2, d3] => { results := [.lit (.bool true)], args := [d1, d2, d3] }
  | _ => none }
def marketsBackRow : OpenClaim := { program := "ytjhmlcbpbmeicaa", sum := "dbfe2daa1f9e659f20b2ca6dca289b2925c4cf686f7f229dda69e552e176e8ff", func := "salesroom/salesroomlaw05.MarketsBack", spec := "marketsBack", unfollowed := true, recurses := true, apart := false }
def MarketsBackSaid : Prop := marketsBackRow.holds Try.pinned (OpenSpec.ofChange marketsBackSpec)

/-- ITS FALSE NEIGHBOUR: 'it returns false'. Refute it at one input. -/
def marketsBackWrong : ChangeSpec := { name := "marketsBack", fn := fun _ => fun
  | [d1, d2, d3] => { results := [.lit (.bool false)], args := [d1, d2, d3] }
  | _ => none }
def MarketsBackWrongFalsely : Prop := marketsBackRow.holds Try.pinned (OpenSpec.ofChange marketsBackWrong)

/-- 'salesroomlaw05.MarketsAgain': WHATEVER THE INPUT: true; the input reads as it did. -/
def marketsAgainSpec : ChangeSpec := { name := "marketsAgain", fn := fun _ => fun
  | [d] => { results := [.lit (.bool true)], args := [d] }
  | _ => none }
def marketsAgainRow : OpenClaim := { program := "ytjhmlcbpbmeicaa", sum := "dbfe2daa1f9e659f20b2ca6dca289b2925c4cf686f7f229dda69e552e176e8ff", func := "salesroom/salesroomlaw05.MarketsAgain", spec := "marketsAgain", unfollowed := true, recurses := true, apart := false }
def MarketsAgainSaid : Prop := marketsAgainRow.holds Try.pinned (OpenSpec.ofChange marketsAgainSpec)

/-- ITS FALSE NEIGHBOUR: 'it returns false'. Refute it at one input. -/
def marketsAgainWrong : ChangeSpec := { name := "marketsAgain", fn := fun _ => fun
  | [d] => { results := [.lit (.bool false)], args := [d] }
  | _ => none }
def MarketsAgainWrongFalsely : Prop := marketsAgainRow.holds Try.pinned (OpenSpec.ofChange marketsAgainWrong)

/-- 'salesroomlaw05.MarketsCheck': WHATEVER THE INPUT: true; the input reads as it did. -/
def marketsCheckSpec : ChangeSpec := { name := "marketsCheck", fn := fun _ => fun
  | [d] => { results := [.lit (.bool true)], args := [d] }
  | _ => none }
def marketsCheckRow : OpenClaim := { program := "ytjhmlcbpbmeicaa", sum := "dbfe2daa1f9e659f20b2ca6dca289b2925c4cf686f7f229dda69e552e176e8ff", func := "salesroom/salesroomlaw05.MarketsCheck", spec := "marketsCheck", unfollowed := true, recurses := true, apart := false }
def MarketsCheckSaid : Prop := marketsCheckRow.holds Try.pinned (OpenSpec.ofChange marketsCheckSpec)

/-- ITS FALSE NEIGHBOUR: 'it returns false'. Refute it at one input. -/
def marketsCheckWrong : ChangeSpec := { name := "marketsCheck", fn := fun _ => fun
  | [d] => { results := [.lit (.bool false)], args := [d] }
  | _ => none }
def MarketsCheckWrongFalsely : Prop := marketsCheckRow.holds Try.pinned (OpenSpec.ofChange marketsCheckWrong)

/-- 'salesroomlaw05.MarketsOwn': WHATEVER THE INPUT: true; the input reads as it did. -/
def marketsOwnSpec : ChangeSpec := { name := "marketsOwn", fn := fun _ => fun
  | [d1, d2, d3] => { results := [.lit (.bool true)], args := [d1, d2, d3] }
  | _ => none }
def marketsOwnRow : OpenClaim := { program := "ytjhmlcbpbmeicaa", sum := "dbfe2daa1f9e659f20b2ca6dca289b2925c4cf686f7f229dda69e552e176e8ff", func := "salesroom/salesroomlaw05.MarketsOwn", spec := "marketsOwn", unfollowed := true, recurses := true, apart := false }
def MarketsOwnSaid : Prop := marketsOwnRow.holds Try.pinned (OpenSpec.ofChange marketsOwnSpec)

/-- ITS FALSE NEIGHBOUR: 'it returns false'. Refute it at one input. -/
def marketsOwnWrong : ChangeSpec := { name := "marketsOwn", fn := fun _ => fun
  | [d1, d2, d3] => { results := [.lit (.bool false)], args := [d1, d2, d3] }
  | _ => none }
def MarketsOwnWrongFalsely : Prop := marketsOwnRow.holds Try.pinned (OpenSpec.ofChange marketsOwnWrong)

/-- 'salesroomlaw05.MarketsTwice': WHATEVER THE INPUT: true; the input reads as it did. -/
def marketsTwiceSpec : ChangeSpec := { name := "marketsTwice", fn := fun _ => fun
  | [d1, d2, d3] => { results := [.lit (.bool true)], args := [d1, d2, d3] }
  | _ => none }
def marketsTwiceRow : OpenClaim := { program := "ytjhmlcbpbmeicaa", sum := "dbfe2daa1f9e659f20b2ca6dca289b2925c4cf686f7f229dda69e552e176e8ff", func := "salesroom/salesroomlaw05.MarketsTwice", spec := "marketsTwice", unfollowed := true, recurses := true, apart := false }
def MarketsTwiceSaid : Prop := marketsTwiceRow.holds Try.pinned (OpenSpec.ofChange marketsTwiceSpec)

/-- ITS FALSE NEIGHBOUR: 'it returns false'. Refute it at one input. -/
def marketsTwiceWrong : ChangeSpec := { name := "marketsTwice", fn := fun _ => fun
  | [d1, d2, d3] => { results := [.lit (.bool false)], args := [d1, d2, d3] }
  | _ => none }
def MarketsTwiceWrongFalsely : Prop := marketsTwiceRow.holds Try.pinned (OpenSpec.ofChange marketsTwiceWrong)

/-- 'salesroomlaw05.MarketsBytes': WHATEVER THE INPUT: true; the input reads as it did. -/
def marketsBytesSpec : ChangeSpec := { name := "marketsBytes", fn := fun _ => fun
  | [d] => { results := [.lit (.bool true)], args := [d] }
  | _ => none }
def marketsBytesRow : OpenClaim := { program := "ytjhmlcbpbmeicaa", sum := "dbfe2daa1f9e659f20b2ca6dca289b2925c4cf686f7f229dda69e552e176e8ff", func := "salesroom/salesroomlaw05.MarketsBytes", spec := "marketsBytes", unfollowed := true, recurses := true, apart := false }
def MarketsBytesSaid : Prop := marketsBytesRow.holds Try.pinned (OpenSpec.ofChange marketsBytesSpec)

/-- ITS FALSE NEIGHBOUR: 'it returns false'. Refute it at one input. -/
def marketsBytesWrong : ChangeSpec := { name := "marketsBytes", fn := fun _ => fun
  | [d] => { results := [.lit (.bool false)], args := [d] }
  | _ => none }
def MarketsBytesWrongFalsely : Prop := marketsBytesRow.holds Try.pinned (OpenSpec.ofChange marketsBytesWrong)

/-- 'salesroomlaw05.MarketsGains': WHATEVER THE INPUT: true; the input reads as it did. -/
def marketsGainsSpec : ChangeSpec := { name := "marketsGains", fn := fun _ => fun
  | [d] => { results := [.lit (.bool true)], args := [d] }
  | _ => none }
def marketsGainsRow : OpenClaim := { program := "ytjhmlcbpbmeicaa", sum := "dbfe2daa1f9e659f20b2ca6dca289b2925c4cf686f7f229dda69e552e176e8ff", func := "salesroom/salesroomlaw05.MarketsGains", spec := "marketsGains", unfollowed := true, recurses := true, apart := false }
def MarketsGainsSaid : Prop := marketsGainsRow.holds Try.pinned (OpenSpec.ofChange marketsGainsSpec)

/-- ITS FALSE NEIGHBOUR: 'it returns false'. Refute it at one input. -/
def marketsGainsWrong : ChangeSpec := { name := "marketsGains", fn := fun _ => fun
  | [d] => { results := [.lit (.bool false)], args := [d] }
  | _ => none }
def MarketsGainsWrongFalsely : Prop := marketsGainsRow.holds Try.pinned (OpenSpec.ofChange marketsGainsWrong)

/- THE SECOND FORM. 'bulk': how many values and letters a reading holds, each counted each time it is reached (what is shared counts as often as it is met; a slice's spare places count too). A statement '..UptoSaid' is the law's where the arguments, and the package variables that the reading takes, are together of bulk at most 1048576: NARROWER than '..Said'. Prove '..Said' where nothing that the law and all that it calls make is longer than what came in: it says more and counts as full. Else prove '..UptoSaid'. A law counts once. -/
mutual
def uptoBulk {H : Type} : DataW H → Nat
  | .lit (.string bytes) => bytes.length + 1
  | .lit _ => 1
  | .nil => 1
  | .ptr d => uptoBulk d + 1
  | .slice elems spare => uptoBulkAll elems + uptoBulkAll spare + 1
  | .agg parts => uptoBulkAll parts + 1
  | .iface _ d => uptoBulk d + 1
  | .map entries => uptoBulkEntries entries + 1
  | .held _ => 1
def uptoBulkAll {H : Type} : List (DataW H) → Nat
  | [] => 0
  | d :: r => uptoBulk d + uptoBulkAll r
def uptoBulkEntries {H : Type} : List (Lit × DataW H) → Nat
  | [] => 0
  | x :: r => uptoBulkEntry x + uptoBulkEntries r
def uptoBulkEntry {H : Type} : Lit × DataW H → Nat
  | (.string bytes, d) => bytes.length + uptoBulk d + 1
  | (_, d) => uptoBulk d + 1
 end
def uptoSmall : (H : Type) → List (DataW H) → Bool := fun _ ds => decide (uptoBulkAll ds ≤ 1048576)
def OpenSpec.upto (s : _root_.Go.ChangeSpec) : _root_.Go.OpenSpec := { _root_.Go.OpenSpec.ofChange s with cond := some uptoSmall }

/-- 'salesroomlaw12.DemandsRaised', WHERE WHAT IT READS IS OF BULK AT MOST 1048576: true; the input reads as it did. -/
def demandsRaisedUptoRow : OpenClaim := { program := "ytjhmlcbpbmeicaa", sum := "dbfe2daa1f9e659f20b2ca6dca289b2925c4cf686f7f229dda69e552e176e8ff", func := "salesroom/salesroomlaw12.DemandsRaised", spec := "demandsRaised", unfollowed := true, recurses := true, apart := false, narrowed := true }
def DemandsRaisedUptoSaid : Prop := demandsRaisedUptoRow.holds Try.pinned (OpenSpec.upto demandsRaisedSpec)

/-- 'salesroomlaw12.DemandsLower', WHERE WHAT IT READS IS OF BULK AT MOST 1048576: true; the input reads as it did. -/
def demandsLowerUptoRow : OpenClaim := { program := "ytjhmlcbpbmeicaa", sum := "dbfe2daa1f9e659f20b2ca6dca289b2925c4cf686f7f229dda69e552e176e8ff", func := "salesroom/salesroomlaw12.DemandsLower", spec := "demandsLower", unfollowed := true, recurses := true, apart := false, narrowed := true }
def DemandsLowerUptoSaid : Prop := demandsLowerUptoRow.holds Try.pinned (OpenSpec.upto demandsLowerSpec)

/-- 'salesroomlaw01.NumsBack', WHERE WHAT IT READS IS OF BULK AT MOST 1048576: true; the input reads as it did. -/
def numsBackUptoRow : OpenClaim := { program := "ytjhmlcbpbmeicaa", sum := "dbfe2daa1f9e659f20b2ca6dca289b2925c4cf686f7f229dda69e552e176e8ff", func := "salesroom/salesroomlaw01.NumsBack", spec := "numsBack", unfollowed := true, recurses := true, apart := false, narrowed := true }
def NumsBackUptoSaid : Prop := numsBackUptoRow.holds Try.pinned (OpenSpec.upto numsBackSpec)

/-- 'salesroomlaw01.NumsJoin', WHERE WHAT IT READS IS OF BULK AT MOST 1048576: true; the input reads as it did. -/
def numsJoinUptoRow : OpenClaim := { program := "ytjhmlcbpbmeicaa", sum := "dbfe2daa1f9e659f20b2ca6dca289b2925c4cf686f7f229dda69e552e176e8ff", func := "salesroom/salesroomlaw01.NumsJoin", spec := "numsJoin", unfollowed := true, recurses := true, apart := false, narrowed := true }
def NumsJoinUptoSaid : Prop := numsJoinUptoRow.holds Try.pinned (OpenSpec.upto numsJoinSpec)

/-- 'salesroomlaw01.NumsAgain', WHERE WHAT IT READS IS OF BULK AT MOST 1048576: true; the input reads as it did. -/
def numsAgainUptoRow : OpenClaim := { program := "ytjhmlcbpbmeicaa", sum := "dbfe2daa1f9e659f20b2ca6dca289b2925c4cf686f7f229dda69e552e176e8ff", func := "salesroom/salesroomlaw01.NumsAgain", spec := "numsAgain", unfollowed := true, recurses := true, apart := false, narrowed := true }
def NumsAgainUptoSaid : Prop := numsAgainUptoRow.holds Try.pinned (OpenSpec.upto numsAgainSpec)

/-- 'salesroomlaw04.VectorsBack', WHERE WHAT IT READS IS OF BULK AT MOST 1048576: true; the input reads as it did. -/
def vectorsBackUptoRow : OpenClaim := { program := "ytjhmlcbpbmeicaa", sum := "dbfe2daa1f9e659f20b2ca6dca289b2925c4cf686f7f229dda69e552e176e8ff", func := "salesroom/salesroomlaw04.VectorsBack", spec := "vectorsBack", unfollowed := true, recurses := true, apart := false, narrowed := true }
def VectorsBackUptoSaid : Prop := vectorsBackUptoRow.holds Try.pinned (OpenSpec.upto vectorsBackSpec)

/-- 'salesroomlaw04.VectorsCheck', WHERE WHAT IT READS IS OF BULK AT MOST 1048576: true; the input reads as it did. -/
def vectorsCheckUptoRow : OpenClaim := { program := "ytjhmlcbpbmeicaa", sum := "dbfe2daa1f9e659f20b2ca6dca289b2925c4cf686f7f229dda69e552e176e8ff", func := "salesroom/salesroomlaw04.VectorsCheck", spec := "vectorsCheck", unfollowed := true, recurses := true, apart := false, narrowed := true }
def VectorsCheckUptoSaid : Prop := vectorsCheckUptoRow.holds Try.pinned (OpenSpec.upto vectorsCheckSpec)

/-- 'salesroomlaw04.VectorsMoved', WHERE WHAT IT READS IS OF BULK AT MOST 1048576: true; the input reads as it did. -/
def vectorsMovedUptoRow : OpenClaim := { program := "ytjhmlcbpbmeicaa", sum := "dbfe2daa1f9e659f20b2ca6dca289b2925c4cf686f7f229dda69e552e176e8ff", func := "salesroom/salesroomlaw04.VectorsMoved", spec := "vectorsMoved", unfollowed := true, recurses := true, apart := false, narrowed := true }
def VectorsMovedUptoSaid : Prop := vectorsMovedUptoRow.holds Try.pinned (OpenSpec.upto vectorsMovedSpec)

/-- 'salesroomlaw12.DemandsEach', WHERE WHAT IT READS IS OF BULK AT MOST 1048576: true; the input reads as it did. -/
def demandsEachUptoRow : OpenClaim := { program := "ytjhmlcbpbmeicaa", sum := "dbfe2daa1f9e659f20b2ca6dca289b2925c4cf686f7f229dda69e552e176e8ff", func := "salesroom/salesroomlaw12.DemandsEach", spec := "demandsEach", unfollowed := true, recurses := true, apart := false, narrowed := true }
def DemandsEachUptoSaid : Prop := demandsEachUptoRow.holds Try.pinned (OpenSpec.upto demandsEachSpec)

/-- 'salesroomlaw05.MarketsBack', WHERE WHAT IT READS IS OF BULK AT MOST 1048576: true; the input reads as it did. -/
def marketsBackUptoRow : OpenClaim := { program := "ytjhmlcbpbmeicaa", sum := "dbfe2daa1f9e659f20b2ca6dca289b2925c4cf686f7f229dda69e552e176e8ff", func := "salesroom/salesroomlaw05.MarketsBack", spec := "marketsBack", unfollowed := true, recurses := true, apart := false, narrowed := true }
def MarketsBackUptoSaid : Prop := marketsBackUptoRow.holds Try.pinned (OpenSpec.upto marketsBackSpec)

/-- 'salesroomlaw05.MarketsAgain', WHERE WHAT IT READS IS OF BULK AT MOST 1048576: true; the input reads as it did. -/
def marketsAgainUptoRow : OpenClaim := { program := "ytjhmlcbpbmeicaa", sum := "dbfe2daa1f9e659f20b2ca6dca289b2925c4cf686f7f229dda69e552e176e8ff", func := "salesroom/salesroomlaw05.MarketsAgain", spec := "marketsAgain", unfollowed := true, recurses := true, apart := false, narrowed := true }
def MarketsAgainUptoSaid : Prop := marketsAgainUptoRow.holds Try.pinned (OpenSpec.upto marketsAgainSpec)

/-- 'salesroomlaw05.MarketsCheck', WHERE WHAT IT READS IS OF BULK AT MOST 1048576: true; the input reads as it did. -/
def marketsCheckUptoRow : OpenClaim := { program := "ytjhmlcbpbmeicaa", sum := "dbfe2daa1f9e659f20b2ca6dca289b2925c4cf686f7f229dda69e552e176e8ff", func := "salesroom/salesroomlaw05.MarketsCheck", spec := "marketsCheck", unfollowed := true, recurses := true, apart := false, narrowed := true }
def MarketsCheckUptoSaid : Prop := marketsCheckUptoRow.holds Try.pinned (OpenSpec.upto marketsCheckSpec)

/-- 'salesroomlaw05.MarketsOwn', WHERE WHAT IT READS IS OF BULK AT MOST 1048576: true; the input reads as it did. -/
def marketsOwnUptoRow : OpenClaim := { program := "ytjhmlcbpbmeicaa", sum := "dbfe2daa1f9e659f20b2ca6dca289b2925c4cf686f7f229dda69e552e176e8ff", func := "salesroom/salesroomlaw05.MarketsOwn", spec := "marketsOwn", unfollowed := true, recurses := true, apart := false, narrowed := true }
def MarketsOwnUptoSaid : Prop := marketsOwnUptoRow.holds Try.pinned (OpenSpec.upto marketsOwnSpec)

/-- 'salesroomlaw05.MarketsTwice', WHERE WHAT IT READS IS OF BULK AT MOST 1048576: true; the input reads as it did. -/
def marketsTwiceUptoRow : OpenClaim := { program := "ytjhmlcbpbmeicaa", sum := "dbfe2daa1f9e659f20b2ca6dca289b2925c4cf686f7f229dda69e552e176e8ff", func := "salesroom/salesroomlaw05.MarketsTwice", spec := "marketsTwice", unfollowed := true, recurses := true, apart := false, narrowed := true }
def MarketsTwiceUptoSaid : Prop := marketsTwiceUptoRow.holds Try.pinned (OpenSpec.upto marketsTwiceSpec)

/-- 'salesroomlaw05.MarketsBytes', WHERE WHAT IT READS IS OF BULK AT MOST 1048576: true; the input reads as it did. -/
def marketsBytesUptoRow : OpenClaim := { program := "ytjhmlcbpbmeicaa", sum := "dbfe2daa1f9e659f20b2ca6dca289b2925c4cf686f7f229dda69e552e176e8ff", func := "salesroom/salesroomlaw05.MarketsBytes", spec := "marketsBytes", unfollowed := true, recurses := true, apart := false, narrowed := true }
def MarketsBytesUptoSaid : Prop := marketsBytesUptoRow.holds Try.pinned (OpenSpec.upto marketsBytesSpec)

/-- 'salesroomlaw05.MarketsGains', WHERE WHAT IT READS IS OF BULK AT MOST 1048576: true; the input reads as it did. -/
def marketsGainsUptoRow : OpenClaim := { program := "ytjhmlcbpbmeicaa", sum := "dbfe2daa1f9e659f20b2ca6dca289b2925c4cf686f7f229dda69e552e176e8ff", func := "salesroom/salesroomlaw05.MarketsGains", spec := "marketsGains", unfollowed := true, recurses := true, apart := false, narrowed := true }
def MarketsGainsUptoSaid : Prop := marketsGainsUptoRow.holds Try.pinned (OpenSpec.upto marketsGainsSpec)

end Rows
end Go.Proofs.Ytjhmlcbpbmeicaa
