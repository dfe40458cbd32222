/-
  THREE CLOSED FACTS ON THE TRANSLATION's HEAD, by its signs written as numbers. No condition.
-/
import Derived.Test.YtjaaganaohjmaaaGreatDoorProg
import Derived.KernelRfl
import GoSem.ClaimJoined
import GoSem.ClaimOpenFrom
namespace Go.Proofs.YtjaaganaohjmaaaGreatDoor
set_option maxRecDepth 100000 in
def headSigns : List Char := [Char.ofNat 104, Char.ofNat 97, Char.ofNat 114, Char.ofNat 110, Char.ofNat 101, Char.ofNat 115, Char.ofNat 115, Char.ofNat 32, Char.ofNat 55, Char.ofNat 57, Char.ofNat 48, Char.ofNat 52, Char.ofNat 56, Char.ofNat 52, Char.ofNat 52, Char.ofNat 98, Char.ofNat 53, Char.ofNat 55, Char.ofNat 53, Char.ofNat 49, Char.ofNat 55, Char.ofNat 98, Char.ofNat 98, Char.ofNat 48, Char.ofNat 48, Char.ofNat 99, Char.ofNat 52, Char.ofNat 55, Char.ofNat 48, Char.ofNat 53, Char.ofNat 48, Char.ofNat 97, Char.ofNat 102, Char.ofNat 99, Char.ofNat 57, Char.ofNat 55, Char.ofNat 98, Char.ofNat 97, Char.ofNat 54, Char.ofNat 53, Char.ofNat 52, Char.ofNat 56, Char.ofNat 54, Char.ofNat 57, Char.ofNat 56, Char.ofNat 54, Char.ofNat 49, Char.ofNat 102, Char.ofNat 50, Char.ofNat 99, Char.ofNat 50, Char.ofNat 56, Char.ofNat 53, Char.ofNat 50, Char.ofNat 57, Char.ofNat 50, Char.ofNat 56, Char.ofNat 99, Char.ofNat 56, Char.ofNat 48, Char.ofNat 55, Char.ofNat 51, Char.ofNat 52, Char.ofNat 99, Char.ofNat 98, Char.ofNat 49, Char.ofNat 53, Char.ofNat 49, Char.ofNat 102, Char.ofNat 49, Char.ofNat 48, Char.ofNat 55, Char.ofNat 32, Char.ofNat 99, Char.ofNat 117, Char.ofNat 116, Char.ofNat 32, Char.ofNat 97, Char.ofNat 116, Char.ofNat 32, Char.ofNat 115, Char.ofNat 97, Char.ofNat 108, Char.ofNat 101, Char.ofNat 115, Char.ofNat 114, Char.ofNat 111, Char.ofNat 111, Char.ofNat 109, Char.ofNat 47, Char.ofNat 115, Char.ofNat 97, Char.ofNat 108, Char.ofNat 101, Char.ofNat 115, Char.ofNat 114, Char.ofNat 111, Char.ofNat 111, Char.ofNat 109, Char.ofNat 108, Char.ofNat 97, Char.ofNat 119, Char.ofNat 50, Char.ofNat 49, Char.ofNat 46, Char.ofNat 70, Char.ofNat 114, Char.ofNat 97, Char.ofNat 109, Char.ofNat 101, Char.ofNat 115, Char.ofNat 80, Char.ofNat 117, Char.ofNat 116, Char.ofNat 32, Char.ofNat 115, Char.ofNat 97, Char.ofNat 108, Char.ofNat 101, Char.ofNat 115, Char.ofNat 114, Char.ofNat 111, Char.ofNat 111, Char.ofNat 109, Char.ofNat 47, Char.ofNat 115, Char.ofNat 97, Char.ofNat 108, Char.ofNat 101, Char.ofNat 115, Char.ofNat 114, Char.ofNat 111, Char.ofNat 111, Char.ofNat 109, Char.ofNat 108, Char.ofNat 97, Char.ofNat 119, Char.ofNat 50, Char.ofNat 49, Char.ofNat 46, Char.ofNat 70, Char.ofNat 114, Char.ofNat 97, Char.ofNat 109, Char.ofNat 101, Char.ofNat 115, Char.ofNat 71, Char.ofNat 101, Char.ofNat 116, Char.ofNat 32, Char.ofNat 115, Char.ofNat 97, Char.ofNat 108, Char.ofNat 101, Char.ofNat 115, Char.ofNat 114, Char.ofNat 111, Char.ofNat 111, Char.ofNat 109, Char.ofNat 47, Char.ofNat 115, Char.ofNat 97, Char.ofNat 108, Char.ofNat 101, Char.ofNat 115, Char.ofNat 114, Char.ofNat 111, Char.ofNat 111, Char.ofNat 109, Char.ofNat 108, Char.ofNat 97, Char.ofNat 119, Char.ofNat 49, Char.ofNat 50, Char.ofNat 46, Char.ofNat 68, Char.ofNat 101, Char.ofNat 109, Char.ofNat 97, Char.ofNat 110, Char.ofNat 100, Char.ofNat 115, Char.ofNat 65, Char.ofNat 108, Char.ofNat 108]
set_option maxRecDepth 100000 in
theorem head_of : Tryz.prog.initOrder = String.ofList headSigns := by kernel_rfl
theorem head_toList : Tryz.prog.initOrder.toList = headSigns := by rw [head_of, String.toList_ofList]
theorem make_eq : Tryz.prog.make = some .cut := by
  unfold Program.make
  rw [head_toList]
  generalize Tryz.prog.headLifts = lifts
  kernel_rfl
theorem later_eq : Tryz.prog.laysLater = false := by kernel_rfl
theorem reflect_eq : Tryz.prog.bearsReflect = false := by kernel_rfl
theorem fits_eq : Tryz.prog.doorFits [] = true := by kernel_rfl
theorem mayEnter_eq : Tryz.prog.mayEnter = true := by
  have hfits := fits_eq
  unfold Program.mayEnter
  rw [head_toList, later_eq, reflect_eq]
  generalize Tryz.prog.doorFits = fits at hfits ⊢
  refine Eq.trans (b := fits []) ?_ hfits
  kernel_rfl
theorem liftsFinal_eq : Tryz.prog.liftsFinal = false := by
  unfold Program.liftsFinal Program.headLifts
  rw [head_toList]
  kernel_rfl
end Go.Proofs.YtjaaganaohjmaaaGreatDoor
