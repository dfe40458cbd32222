/-
  THREE CLOSED FACTS ON THE TRANSLATION's HEAD, by its signs written as numbers. No condition.
-/
import Derived.Test.YtnjjeanbopclhaaGreatDoorProg
import Derived.KernelRfl
import GoSem.ClaimJoined
import GoSem.ClaimOpenFrom
namespace Go.Proofs.YtnjjeanbopclhaaGreatDoor
set_option maxRecDepth 100000 in
def headSigns : List Char := [Char.ofNat 104, Char.ofNat 97, Char.ofNat 114, Char.ofNat 110, Char.ofNat 101, Char.ofNat 115, Char.ofNat 115, Char.ofNat 32, Char.ofNat 57, Char.ofNat 99, Char.ofNat 101, Char.ofNat 56, Char.ofNat 101, Char.ofNat 49, Char.ofNat 52, Char.ofNat 99, Char.ofNat 99, Char.ofNat 100, Char.ofNat 54, Char.ofNat 52, Char.ofNat 56, Char.ofNat 48, Char.ofNat 98, Char.ofNat 54, Char.ofNat 52, Char.ofNat 50, Char.ofNat 102, Char.ofNat 98, Char.ofNat 57, Char.ofNat 49, Char.ofNat 51, Char.ofNat 101, Char.ofNat 97, Char.ofNat 101, Char.ofNat 54, Char.ofNat 56, Char.ofNat 50, Char.ofNat 101, Char.ofNat 57, Char.ofNat 54, Char.ofNat 102, Char.ofNat 99, Char.ofNat 100, Char.ofNat 51, Char.ofNat 52, Char.ofNat 53, Char.ofNat 57, Char.ofNat 99, Char.ofNat 100, Char.ofNat 98, Char.ofNat 99, Char.ofNat 55, Char.ofNat 53, Char.ofNat 52, Char.ofNat 52, Char.ofNat 54, Char.ofNat 57, Char.ofNat 55, Char.ofNat 48, Char.ofNat 49, Char.ofNat 102, Char.ofNat 99, Char.ofNat 101, Char.ofNat 57, Char.ofNat 53, Char.ofNat 48, Char.ofNat 52, Char.ofNat 55, Char.ofNat 98, Char.ofNat 53, Char.ofNat 101, Char.ofNat 99, Char.ofNat 32, Char.ofNat 99, Char.ofNat 117, Char.ofNat 116, Char.ofNat 32, Char.ofNat 97, Char.ofNat 116, Char.ofNat 32, Char.ofNat 115, Char.ofNat 97, Char.ofNat 108, Char.ofNat 101, Char.ofNat 115, Char.ofNat 114, Char.ofNat 111, Char.ofNat 111, Char.ofNat 109, Char.ofNat 47, Char.ofNat 115, Char.ofNat 97, Char.ofNat 108, Char.ofNat 101, Char.ofNat 115, Char.ofNat 114, Char.ofNat 111, Char.ofNat 111, Char.ofNat 109, Char.ofNat 108, Char.ofNat 97, Char.ofNat 119, Char.ofNat 50, Char.ofNat 49, Char.ofNat 46, Char.ofNat 70, Char.ofNat 114, Char.ofNat 97, Char.ofNat 109, Char.ofNat 101, Char.ofNat 115, Char.ofNat 80, Char.ofNat 117, Char.ofNat 116, Char.ofNat 32, Char.ofNat 115, Char.ofNat 97, Char.ofNat 108, Char.ofNat 101, Char.ofNat 115, Char.ofNat 114, Char.ofNat 111, Char.ofNat 111, Char.ofNat 109, Char.ofNat 47, Char.ofNat 115, Char.ofNat 97, Char.ofNat 108, Char.ofNat 101, Char.ofNat 115, Char.ofNat 114, Char.ofNat 111, Char.ofNat 111, Char.ofNat 109, Char.ofNat 108, Char.ofNat 97, Char.ofNat 119, Char.ofNat 50, Char.ofNat 49, Char.ofNat 46, Char.ofNat 70, Char.ofNat 114, Char.ofNat 97, Char.ofNat 109, Char.ofNat 101, Char.ofNat 115, Char.ofNat 71, Char.ofNat 101, Char.ofNat 116]
set_option maxRecDepth 100000 in
theorem head_of : Tryz.prog.initOrder = String.ofList headSigns := by kernel_rfl
theorem head_toList : Tryz.prog.initOrder.toList = headSigns := by rw [head_of, String.toList_ofList]
def makeOn (l : List Char) (h : List String) : Option Make :=
  match behindMainWord (wordsSigns l) with
  | c :: rest => if c == "gc".toList || c == "spec".toList then some .whole else if c == "cut".toList || (c == "finals".toList && rest.head? == some "cut".toList) then some .cut else if c == "carried".toList then some .carried else if h.isEmpty then none else some (.lifted h)
  | [] => none
theorem make_on {P : Program} {l : List Char} (h : P.initOrder.toList = l) : P.make = makeOn l P.headLifts := by
  unfold Program.make makeOn
  rw [h]
  rfl
theorem makeOn_eq (h : List String) : makeOn headSigns h = some .cut := by kernel_rfl
theorem make_eq : Tryz.prog.make = some .cut := by rw [make_on head_toList, makeOn_eq]
def enterOn (l : List Char) (later reflect : Bool) (fits : List String → Bool) : Bool :=
  match behindMainWord (wordsSigns l) with
  | c :: rest =>
    ((c == "gc".toList || c == "spec".toList) && (rest.isEmpty || rest.head? == some "stop".toList)) ||
    (c == "carried".toList && rest.take 2 == ["gc".toList, "cut".toList] && !later && !reflect) ||
    ((stripLifts liftWords (c :: rest)).2.head? == some "cut".toList &&
      ((stripLifts liftWords (c :: rest)).1.contains "finals" || !later) && ((stripLifts liftWords (c :: rest)).1.contains "reflectrows" || !reflect) &&
      ((stripLifts liftWords (c :: rest)).1.contains "reflectrows" || !(stripLifts liftWords (c :: rest)).1.contains "leanrows") &&
      fits (stripLifts liftWords (c :: rest)).1)
  | [] => false
theorem enter_on {P : Program} {l : List Char} (h : P.initOrder.toList = l) : P.mayEnter = enterOn l P.laysLater P.bearsReflect P.doorFits := by
  unfold Program.mayEnter enterOn
  rw [h]
  rfl
theorem later_eq : Tryz.prog.laysLater = false := by kernel_rfl
theorem reflect_eq : Tryz.prog.bearsReflect = false := by kernel_rfl
theorem fits_eq : Tryz.prog.doorFits [] = true := by kernel_rfl
theorem enterOn_eq (f : List String → Bool) (hf : f [] = true) : enterOn headSigns false false f = true := by
  rw [show enterOn headSigns false false f = f [] from by kernel_rfl, hf]
theorem mayEnter_eq : Tryz.prog.mayEnter = true := by rw [enter_on head_toList, later_eq, reflect_eq, enterOn_eq _ fits_eq]
theorem liftsFinal_eq : Tryz.prog.liftsFinal = false := by
  unfold Program.liftsFinal Program.headLifts
  rw [head_toList]
  kernel_rfl
end Go.Proofs.YtnjjeanbopclhaaGreatDoor
