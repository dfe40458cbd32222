/-
  THE ROWS OF THE TYPE TABLE that the walks ask: the zero value, the cells and the bytes of int, byte and slice cells. No condition.
-/
import Derived.Test.YtnjjeanbopclhaaGreatDoorProg
import Derived.KernelRfl
namespace Go.Proofs.YtnjjeanbopclhaaGreatDoor
theorem infoInt : (Tryz.prog.info? 3).map (fun i => (i.zero, i.size, i.bytes)) = some (some (.int .i64 0), 1, 8) := by kernel_rfl
theorem infoByte : (Tryz.prog.info? 5).map (fun i => (i.zero, i.size, i.bytes)) = some (some (.int .u8 0), 1, 1) := by kernel_rfl
theorem infoInts : (Tryz.prog.info? 26).map (fun i => (i.zero, i.size, i.bytes)) = some (some (.slice none 0 0), 1, 24) := by kernel_rfl
theorem infoBool : (Tryz.prog.info? 4).map (fun i => (i.zero, i.size, i.bytes)) = some (some (.bool false), 1, 1) := by kernel_rfl
end Go.Proofs.YtnjjeanbopclhaaGreatDoor
