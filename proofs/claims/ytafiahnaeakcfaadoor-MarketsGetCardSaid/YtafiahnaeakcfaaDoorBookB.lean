/-
  CONTRACTS of the laws' Book: its steps where it holds no list of a kind; the marks of bytes and ints. Conditions: those that each theorem states.
-/
import Derived.Test.YtafiahnaeakcfaaDoorBookA
import Derived.Test.YtafiahnaeakcfaaDoorVec
import Derived.Deep.CutRange
namespace Go.Proofs.YtafiahnaeakcfaaDoor
open Go.RowKit

/-- The pointer to the Book. -/
def pK (g : Nat) : Value := .pointer (some ⟨g, 0, none⟩)

set_option maxRecDepth 100000 in
set_option maxHeartbeats 1000000 in
theorem fillText_no (g : Nat) (w : World) (hv : w.cell? ⟨g, 3, none⟩ = some (.slice none 0 0)) :
    Calls Tryd.prog 47 #[pK g] w fun e w' => e = .returned (.tuple #[]) ∧ Keep w w' := by
  unfold pK
  go_enter Tryd.func47, Tryd.ntmps47
  go_wp2_with fail
  go_loopw [2] (fun v wr => v = .int .i64 0 ∧ Keep w wr) (fun _ _ => 0)
  case atStart => exact ⟨rfl, Keep.refl _⟩
  case round =>
    obtain ⟨rfl, hk⟩ := hrel
    have c := hk.cell hv
    go_wp2_with fail
    go_end0
    exact ⟨rfl, hk⟩

set_option maxRecDepth 100000 in
set_option maxHeartbeats 1000000 in
theorem growText_no (g : Nat) (w : World) (hv : w.cell? ⟨g, 3, none⟩ = some (.slice none 0 0)) :
    Calls Tryd.prog 56 #[pK g] w fun e w' => e = .returned (.tuple #[]) ∧ Keep w w' := by
  unfold pK
  go_enter Tryd.func56, Tryd.ntmps56
  go_wp2_with fail
  go_loopw [2] (fun v wr => v = .int .i64 0 ∧ Keep w wr) (fun _ _ => 0)
  case atStart => exact ⟨rfl, Keep.refl _⟩
  case round =>
    obtain ⟨rfl, hk⟩ := hrel
    have c := hk.cell hv
    go_wp2_with fail
    go_end0
    exact ⟨rfl, hk⟩

set_option maxRecDepth 100000 in
set_option maxHeartbeats 1000000 in
theorem lookText_no (g : Nat) (w : World) (hv : w.cell? ⟨g, 3, none⟩ = some (.slice none 0 0)) :
    Calls Tryd.prog 65 #[pK g] w fun e w' => e = .returned (.bool true) ∧ Keep w w' := by
  unfold pK
  go_enter Tryd.func65, Tryd.ntmps65
  go_wp2_with fail
  go_loopw [3] (fun v wr => v = .int .i64 0 ∧ Keep w wr) (fun _ _ => 0)
  case atStart => exact ⟨rfl, Keep.refl _⟩
  case round =>
    obtain ⟨rfl, hk⟩ := hrel
    have c := hk.cell hv
    go_wp2_with fail
    go_ret
    exact ⟨rfl, hk⟩

set_option maxRecDepth 100000 in
set_option maxHeartbeats 1000000 in
theorem fillIntList_no (g : Nat) (w : World) (hv : w.cell? ⟨g, 4, none⟩ = some (.slice none 0 0)) :
    Calls Tryd.prog 48 #[pK g] w fun e w' => e = .returned (.tuple #[]) ∧ Keep w w' := by
  unfold pK
  go_enter Tryd.func48, Tryd.ntmps48
  go_wp2_with fail
  go_loopw [2] (fun v wr => v = .int .i64 0 ∧ Keep w wr) (fun _ _ => 0)
  case atStart => exact ⟨rfl, Keep.refl _⟩
  case round =>
    obtain ⟨rfl, hk⟩ := hrel
    have c := hk.cell hv
    go_wp2_with fail
    go_end0
    exact ⟨rfl, hk⟩

set_option maxRecDepth 100000 in
set_option maxHeartbeats 1000000 in
theorem growIntList_no (g : Nat) (w : World) (hv : w.cell? ⟨g, 4, none⟩ = some (.slice none 0 0)) :
    Calls Tryd.prog 57 #[pK g] w fun e w' => e = .returned (.tuple #[]) ∧ Keep w w' := by
  unfold pK
  go_enter Tryd.func57, Tryd.ntmps57
  go_wp2_with fail
  go_loopw [2] (fun v wr => v = .int .i64 0 ∧ Keep w wr) (fun _ _ => 0)
  case atStart => exact ⟨rfl, Keep.refl _⟩
  case round =>
    obtain ⟨rfl, hk⟩ := hrel
    have c := hk.cell hv
    go_wp2_with fail
    go_end0
    exact ⟨rfl, hk⟩

set_option maxRecDepth 100000 in
set_option maxHeartbeats 1000000 in
theorem lookIntList_no (g : Nat) (w : World) (hv : w.cell? ⟨g, 4, none⟩ = some (.slice none 0 0)) :
    Calls Tryd.prog 66 #[pK g] w fun e w' => e = .returned (.bool true) ∧ Keep w w' := by
  unfold pK
  go_enter Tryd.func66, Tryd.ntmps66
  go_wp2_with fail
  go_loopw [3] (fun v wr => v = .int .i64 0 ∧ Keep w wr) (fun _ _ => 0)
  case atStart => exact ⟨rfl, Keep.refl _⟩
  case round =>
    obtain ⟨rfl, hk⟩ := hrel
    have c := hk.cell hv
    go_wp2_with fail
    go_ret
    exact ⟨rfl, hk⟩

set_option maxRecDepth 100000 in
set_option maxHeartbeats 1000000 in
theorem fillByteList_no (g : Nat) (w : World) (hv : w.cell? ⟨g, 5, none⟩ = some (.slice none 0 0)) :
    Calls Tryd.prog 49 #[pK g] w fun e w' => e = .returned (.tuple #[]) ∧ Keep w w' := by
  unfold pK
  go_enter Tryd.func49, Tryd.ntmps49
  go_wp2_with fail
  go_loopw [2] (fun v wr => v = .int .i64 0 ∧ Keep w wr) (fun _ _ => 0)
  case atStart => exact ⟨rfl, Keep.refl _⟩
  case round =>
    obtain ⟨rfl, hk⟩ := hrel
    have c := hk.cell hv
    go_wp2_with fail
    go_end0
    exact ⟨rfl, hk⟩

set_option maxRecDepth 100000 in
set_option maxHeartbeats 1000000 in
theorem growByteList_no (g : Nat) (w : World) (hv : w.cell? ⟨g, 5, none⟩ = some (.slice none 0 0)) :
    Calls Tryd.prog 58 #[pK g] w fun e w' => e = .returned (.tuple #[]) ∧ Keep w w' := by
  unfold pK
  go_enter Tryd.func58, Tryd.ntmps58
  go_wp2_with fail
  go_loopw [2] (fun v wr => v = .int .i64 0 ∧ Keep w wr) (fun _ _ => 0)
  case atStart => exact ⟨rfl, Keep.refl _⟩
  case round =>
    obtain ⟨rfl, hk⟩ := hrel
    have c := hk.cell hv
    go_wp2_with fail
    go_end0
    exact ⟨rfl, hk⟩

set_option maxRecDepth 100000 in
set_option maxHeartbeats 1000000 in
theorem lookByteList_no (g : Nat) (w : World) (hv : w.cell? ⟨g, 5, none⟩ = some (.slice none 0 0)) :
    Calls Tryd.prog 67 #[pK g] w fun e w' => e = .returned (.bool true) ∧ Keep w w' := by
  unfold pK
  go_enter Tryd.func67, Tryd.ntmps67
  go_wp2_with fail
  go_loopw [3] (fun v wr => v = .int .i64 0 ∧ Keep w wr) (fun _ _ => 0)
  case atStart => exact ⟨rfl, Keep.refl _⟩
  case round =>
    obtain ⟨rfl, hk⟩ := hrel
    have c := hk.cell hv
    go_wp2_with fail
    go_ret
    exact ⟨rfl, hk⟩

set_option maxRecDepth 100000 in
set_option maxHeartbeats 1000000 in
theorem fillWhy_no (g : Nat) (w : World) (hv : w.cell? ⟨g, 6, none⟩ = some (.slice none 0 0)) :
    Calls Tryd.prog 50 #[pK g] w fun e w' => e = .returned (.tuple #[]) ∧ Keep w w' := by
  unfold pK
  go_enter Tryd.func50, Tryd.ntmps50
  go_wp2_with fail
  go_loopw [2] (fun v wr => v = .int .i64 0 ∧ Keep w wr) (fun _ _ => 0)
  case atStart => exact ⟨rfl, Keep.refl _⟩
  case round =>
    obtain ⟨rfl, hk⟩ := hrel
    have c := hk.cell hv
    go_wp2_with fail
    go_end0
    exact ⟨rfl, hk⟩

set_option maxRecDepth 100000 in
set_option maxHeartbeats 1000000 in
theorem growWhy_no (g : Nat) (w : World) (hv : w.cell? ⟨g, 6, none⟩ = some (.slice none 0 0)) :
    Calls Tryd.prog 59 #[pK g] w fun e w' => e = .returned (.tuple #[]) ∧ Keep w w' := by
  unfold pK
  go_enter Tryd.func59, Tryd.ntmps59
  go_wp2_with fail
  go_loopw [2] (fun v wr => v = .int .i64 0 ∧ Keep w wr) (fun _ _ => 0)
  case atStart => exact ⟨rfl, Keep.refl _⟩
  case round =>
    obtain ⟨rfl, hk⟩ := hrel
    have c := hk.cell hv
    go_wp2_with fail
    go_end0
    exact ⟨rfl, hk⟩

set_option maxRecDepth 100000 in
set_option maxHeartbeats 1000000 in
theorem lookWhy_no (g : Nat) (w : World) (hv : w.cell? ⟨g, 6, none⟩ = some (.slice none 0 0)) :
    Calls Tryd.prog 68 #[pK g] w fun e w' => e = .returned (.bool true) ∧ Keep w w' := by
  unfold pK
  go_enter Tryd.func68, Tryd.ntmps68
  go_wp2_with fail
  go_loopw [3] (fun v wr => v = .int .i64 0 ∧ Keep w wr) (fun _ _ => 0)
  case atStart => exact ⟨rfl, Keep.refl _⟩
  case round =>
    obtain ⟨rfl, hk⟩ := hrel
    have c := hk.cell hv
    go_wp2_with fail
    go_ret
    exact ⟨rfl, hk⟩

set_option maxRecDepth 100000 in
set_option maxHeartbeats 1000000 in
theorem fillFrame_no (g : Nat) (w : World) (hv : w.cell? ⟨g, 7, none⟩ = some (.slice none 0 0)) :
    Calls Tryd.prog 51 #[pK g] w fun e w' => e = .returned (.tuple #[]) ∧ Keep w w' := by
  unfold pK
  go_enter Tryd.func51, Tryd.ntmps51
  go_wp2_with fail
  go_loopw [2] (fun v wr => v = .int .i64 0 ∧ Keep w wr) (fun _ _ => 0)
  case atStart => exact ⟨rfl, Keep.refl _⟩
  case round =>
    obtain ⟨rfl, hk⟩ := hrel
    have c := hk.cell hv
    go_wp2_with fail
    go_end0
    exact ⟨rfl, hk⟩

set_option maxRecDepth 100000 in
set_option maxHeartbeats 1000000 in
theorem growFrame_no (g : Nat) (w : World) (hv : w.cell? ⟨g, 7, none⟩ = some (.slice none 0 0)) :
    Calls Tryd.prog 60 #[pK g] w fun e w' => e = .returned (.tuple #[]) ∧ Keep w w' := by
  unfold pK
  go_enter Tryd.func60, Tryd.ntmps60
  go_wp2_with fail
  go_loopw [2] (fun v wr => v = .int .i64 0 ∧ Keep w wr) (fun _ _ => 0)
  case atStart => exact ⟨rfl, Keep.refl _⟩
  case round =>
    obtain ⟨rfl, hk⟩ := hrel
    have c := hk.cell hv
    go_wp2_with fail
    go_end0
    exact ⟨rfl, hk⟩

set_option maxRecDepth 100000 in
set_option maxHeartbeats 1000000 in
theorem lookFrame_no (g : Nat) (w : World) (hv : w.cell? ⟨g, 7, none⟩ = some (.slice none 0 0)) :
    Calls Tryd.prog 69 #[pK g] w fun e w' => e = .returned (.bool true) ∧ Keep w w' := by
  unfold pK
  go_enter Tryd.func69, Tryd.ntmps69
  go_wp2_with fail
  go_loopw [3] (fun v wr => v = .int .i64 0 ∧ Keep w wr) (fun _ _ => 0)
  case atStart => exact ⟨rfl, Keep.refl _⟩
  case round =>
    obtain ⟨rfl, hk⟩ := hrel
    have c := hk.cell hv
    go_wp2_with fail
    go_ret
    exact ⟨rfl, hk⟩

set_option maxRecDepth 100000 in
set_option maxHeartbeats 1000000 in
theorem fillReply_no (g : Nat) (w : World) (hv : w.cell? ⟨g, 8, none⟩ = some (.slice none 0 0)) :
    Calls Tryd.prog 52 #[pK g] w fun e w' => e = .returned (.tuple #[]) ∧ Keep w w' := by
  unfold pK
  go_enter Tryd.func52, Tryd.ntmps52
  go_wp2_with fail
  go_loopw [2] (fun v wr => v = .int .i64 0 ∧ Keep w wr) (fun _ _ => 0)
  case atStart => exact ⟨rfl, Keep.refl _⟩
  case round =>
    obtain ⟨rfl, hk⟩ := hrel
    have c := hk.cell hv
    go_wp2_with fail
    go_end0
    exact ⟨rfl, hk⟩

set_option maxRecDepth 100000 in
set_option maxHeartbeats 1000000 in
theorem growReply_no (g : Nat) (w : World) (hv : w.cell? ⟨g, 8, none⟩ = some (.slice none 0 0)) :
    Calls Tryd.prog 61 #[pK g] w fun e w' => e = .returned (.tuple #[]) ∧ Keep w w' := by
  unfold pK
  go_enter Tryd.func61, Tryd.ntmps61
  go_wp2_with fail
  go_loopw [2] (fun v wr => v = .int .i64 0 ∧ Keep w wr) (fun _ _ => 0)
  case atStart => exact ⟨rfl, Keep.refl _⟩
  case round =>
    obtain ⟨rfl, hk⟩ := hrel
    have c := hk.cell hv
    go_wp2_with fail
    go_end0
    exact ⟨rfl, hk⟩

set_option maxRecDepth 100000 in
set_option maxHeartbeats 1000000 in
theorem lookReply_no (g : Nat) (w : World) (hv : w.cell? ⟨g, 8, none⟩ = some (.slice none 0 0)) :
    Calls Tryd.prog 70 #[pK g] w fun e w' => e = .returned (.bool true) ∧ Keep w w' := by
  unfold pK
  go_enter Tryd.func70, Tryd.ntmps70
  go_wp2_with fail
  go_loopw [3] (fun v wr => v = .int .i64 0 ∧ Keep w wr) (fun _ _ => 0)
  case atStart => exact ⟨rfl, Keep.refl _⟩
  case round =>
    obtain ⟨rfl, hk⟩ := hrel
    have c := hk.cell hv
    go_wp2_with fail
    go_ret
    exact ⟨rfl, hk⟩

set_option maxRecDepth 100000 in
set_option maxHeartbeats 1000000 in
theorem fillRecord_no (g : Nat) (w : World) (hv : w.cell? ⟨g, 9, none⟩ = some (.slice none 0 0)) :
    Calls Tryd.prog 53 #[pK g] w fun e w' => e = .returned (.tuple #[]) ∧ Keep w w' := by
  unfold pK
  go_enter Tryd.func53, Tryd.ntmps53
  go_wp2_with fail
  go_loopw [2] (fun v wr => v = .int .i64 0 ∧ Keep w wr) (fun _ _ => 0)
  case atStart => exact ⟨rfl, Keep.refl _⟩
  case round =>
    obtain ⟨rfl, hk⟩ := hrel
    have c := hk.cell hv
    go_wp2_with fail
    go_end0
    exact ⟨rfl, hk⟩

set_option maxRecDepth 100000 in
set_option maxHeartbeats 1000000 in
theorem growRecord_no (g : Nat) (w : World) (hv : w.cell? ⟨g, 9, none⟩ = some (.slice none 0 0)) :
    Calls Tryd.prog 62 #[pK g] w fun e w' => e = .returned (.tuple #[]) ∧ Keep w w' := by
  unfold pK
  go_enter Tryd.func62, Tryd.ntmps62
  go_wp2_with fail
  go_loopw [2] (fun v wr => v = .int .i64 0 ∧ Keep w wr) (fun _ _ => 0)
  case atStart => exact ⟨rfl, Keep.refl _⟩
  case round =>
    obtain ⟨rfl, hk⟩ := hrel
    have c := hk.cell hv
    go_wp2_with fail
    go_end0
    exact ⟨rfl, hk⟩

set_option maxRecDepth 100000 in
set_option maxHeartbeats 1000000 in
theorem lookRecord_no (g : Nat) (w : World) (hv : w.cell? ⟨g, 9, none⟩ = some (.slice none 0 0)) :
    Calls Tryd.prog 71 #[pK g] w fun e w' => e = .returned (.bool true) ∧ Keep w w' := by
  unfold pK
  go_enter Tryd.func71, Tryd.ntmps71
  go_wp2_with fail
  go_loopw [3] (fun v wr => v = .int .i64 0 ∧ Keep w wr) (fun _ _ => 0)
  case atStart => exact ⟨rfl, Keep.refl _⟩
  case round =>
    obtain ⟨rfl, hk⟩ := hrel
    have c := hk.cell hv
    go_wp2_with fail
    go_ret
    exact ⟨rfl, hk⟩

set_option maxRecDepth 100000 in
set_option maxHeartbeats 1000000 in
theorem markByte_f (m : Nat) (w : World) (hm : m < 256) : Calls Tryd.prog 88 #[.int .i64 m] w fun e w' => e = .returned (.int .u8 m) ∧ w' = w := by
  have h1 : IntKind.u8.wrap (m : Int) = m := by
    simp [IntKind.wrap, IntKind.signed, IntKind.bits]
    omega
  go_enter Tryd.func88, Tryd.ntmps88
  go_wp2_with fail
  go_ret
  exact ⟨by simp, rfl⟩
set_option maxRecDepth 100000 in
set_option maxHeartbeats 1000000 in
theorem markInt_f (m : Nat) (w : World) (hm : m < 256) : Calls Tryd.prog 89 #[.int .i64 m] w fun e w' => e = .returned (.int .i64 (-(m : Int))) ∧ w' = w := by
  go_enter Tryd.func89, Tryd.ntmps89
  go_wp2_with fail
  go_ret
  exact ⟨by simp, rfl⟩
set_option maxRecDepth 100000 in
set_option maxHeartbeats 1000000 in
theorem isByte_f (m : Nat) (w : World) (hm : m < 256) : Calls Tryd.prog 97 #[.int .u8 m, .int .i64 m] w fun e w' => e = .returned (.bool true) ∧ w' = w := by
  have h1 : IntKind.u8.wrap (m : Int) = m := by
    simp [IntKind.wrap, IntKind.signed, IntKind.bits]
    omega
  go_enter Tryd.func97, Tryd.ntmps97
  go_wp2_with fail
  go_ret
  exact ⟨by simp, rfl⟩
set_option maxRecDepth 100000 in
set_option maxHeartbeats 1000000 in
theorem isInt_f (m : Nat) (w : World) (hm : m < 256) : Calls Tryd.prog 98 #[.int .i64 (-(m : Int)), .int .i64 m] w fun e w' => e = .returned (.bool true) ∧ w' = w := by
  go_enter Tryd.func98, Tryd.ntmps98
  go_wp2_with fail
  go_ret
  exact ⟨by simp, rfl⟩
end Go.Proofs.YtafiahnaeakcfaaDoor
