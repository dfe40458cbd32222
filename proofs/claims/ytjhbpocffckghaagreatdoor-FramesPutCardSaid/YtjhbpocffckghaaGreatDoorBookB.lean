/-
  CONTRACTS of the laws' Book: its steps where it holds no list of a kind; the marks of bytes and ints. Conditions: those that each theorem states.
-/
import Derived.Test.YtjhbpocffckghaaGreatDoorBookA
import Derived.Test.YtjhbpocffckghaaGreatDoorOpenC
import Derived.Deep.CutRange
namespace Go.Proofs.YtjhbpocffckghaaGreatDoor
open Go.RowKit

/-- The pointer to the Book. -/
def pK (g : Nat) : Value := .pointer (some ⟨g, 0, none⟩)

set_option maxRecDepth 100000 in
set_option maxHeartbeats 1000000 in
theorem fillText_no (g : Nat) (w : World) (hv : w.cell? ⟨g, 3, none⟩ = some (.slice none 0 0)) :
    Calls Tryz.prog 44 #[pK g] w fun e w' => e = .returned (.tuple #[]) ∧ Keep w w' := by
  unfold pK
  go_enter Tryz.func44, Tryz.ntmps44
  go_wp2_with fail
  go_loopw [2] (fun v wr => v = .int .i64 0 ∧ Keep w wr) (fun _ _ => 0)
  case atStart => exact ⟨rfl, Keep.refl _⟩
  case round =>
    obtain ⟨rfl, hk⟩ := hrel
    have c := hk.cell hv
    go_wp2_with fail
    go_end0
    exact ⟨rfl, hk⟩

set_option maxRecDepth 100000 in
set_option maxHeartbeats 1000000 in
theorem growText_no (g : Nat) (w : World) (hv : w.cell? ⟨g, 3, none⟩ = some (.slice none 0 0)) :
    Calls Tryz.prog 53 #[pK g] w fun e w' => e = .returned (.tuple #[]) ∧ Keep w w' := by
  unfold pK
  go_enter Tryz.func53, Tryz.ntmps53
  go_wp2_with fail
  go_loopw [2] (fun v wr => v = .int .i64 0 ∧ Keep w wr) (fun _ _ => 0)
  case atStart => exact ⟨rfl, Keep.refl _⟩
  case round =>
    obtain ⟨rfl, hk⟩ := hrel
    have c := hk.cell hv
    go_wp2_with fail
    go_end0
    exact ⟨rfl, hk⟩

set_option maxRecDepth 100000 in
set_option maxHeartbeats 1000000 in
theorem lookText_no (g : Nat) (w : World) (hv : w.cell? ⟨g, 3, none⟩ = some (.slice none 0 0)) :
    Calls Tryz.prog 62 #[pK g] w fun e w' => e = .returned (.bool true) ∧ Keep w w' := by
  unfold pK
  go_enter Tryz.func62, Tryz.ntmps62
  go_wp2_with fail
  go_loopw [3] (fun v wr => v = .int .i64 0 ∧ Keep w wr) (fun _ _ => 0)
  case atStart => exact ⟨rfl, Keep.refl _⟩
  case round =>
    obtain ⟨rfl, hk⟩ := hrel
    have c := hk.cell hv
    go_wp2_with fail
    go_ret
    exact ⟨rfl, hk⟩

set_option maxRecDepth 100000 in
set_option maxHeartbeats 1000000 in
theorem fillIntList_no (g : Nat) (w : World) (hv : w.cell? ⟨g, 4, none⟩ = some (.slice none 0 0)) :
    Calls Tryz.prog 45 #[pK g] w fun e w' => e = .returned (.tuple #[]) ∧ Keep w w' := by
  unfold pK
  go_enter Tryz.func45, Tryz.ntmps45
  go_wp2_with fail
  go_loopw [2] (fun v wr => v = .int .i64 0 ∧ Keep w wr) (fun _ _ => 0)
  case atStart => exact ⟨rfl, Keep.refl _⟩
  case round =>
    obtain ⟨rfl, hk⟩ := hrel
    have c := hk.cell hv
    go_wp2_with fail
    go_end0
    exact ⟨rfl, hk⟩

set_option maxRecDepth 100000 in
set_option maxHeartbeats 1000000 in
theorem growIntList_no (g : Nat) (w : World) (hv : w.cell? ⟨g, 4, none⟩ = some (.slice none 0 0)) :
    Calls Tryz.prog 54 #[pK g] w fun e w' => e = .returned (.tuple #[]) ∧ Keep w w' := by
  unfold pK
  go_enter Tryz.func54, Tryz.ntmps54
  go_wp2_with fail
  go_loopw [2] (fun v wr => v = .int .i64 0 ∧ Keep w wr) (fun _ _ => 0)
  case atStart => exact ⟨rfl, Keep.refl _⟩
  case round =>
    obtain ⟨rfl, hk⟩ := hrel
    have c := hk.cell hv
    go_wp2_with fail
    go_end0
    exact ⟨rfl, hk⟩

set_option maxRecDepth 100000 in
set_option maxHeartbeats 1000000 in
theorem lookIntList_no (g : Nat) (w : World) (hv : w.cell? ⟨g, 4, none⟩ = some (.slice none 0 0)) :
    Calls Tryz.prog 63 #[pK g] w fun e w' => e = .returned (.bool true) ∧ Keep w w' := by
  unfold pK
  go_enter Tryz.func63, Tryz.ntmps63
  go_wp2_with fail
  go_loopw [3] (fun v wr => v = .int .i64 0 ∧ Keep w wr) (fun _ _ => 0)
  case atStart => exact ⟨rfl, Keep.refl _⟩
  case round =>
    obtain ⟨rfl, hk⟩ := hrel
    have c := hk.cell hv
    go_wp2_with fail
    go_ret
    exact ⟨rfl, hk⟩

set_option maxRecDepth 100000 in
set_option maxHeartbeats 1000000 in
theorem fillByteList_no (g : Nat) (w : World) (hv : w.cell? ⟨g, 5, none⟩ = some (.slice none 0 0)) :
    Calls Tryz.prog 46 #[pK g] w fun e w' => e = .returned (.tuple #[]) ∧ Keep w w' := by
  unfold pK
  go_enter Tryz.func46, Tryz.ntmps46
  go_wp2_with fail
  go_loopw [2] (fun v wr => v = .int .i64 0 ∧ Keep w wr) (fun _ _ => 0)
  case atStart => exact ⟨rfl, Keep.refl _⟩
  case round =>
    obtain ⟨rfl, hk⟩ := hrel
    have c := hk.cell hv
    go_wp2_with fail
    go_end0
    exact ⟨rfl, hk⟩

set_option maxRecDepth 100000 in
set_option maxHeartbeats 1000000 in
theorem growByteList_no (g : Nat) (w : World) (hv : w.cell? ⟨g, 5, none⟩ = some (.slice none 0 0)) :
    Calls Tryz.prog 55 #[pK g] w fun e w' => e = .returned (.tuple #[]) ∧ Keep w w' := by
  unfold pK
  go_enter Tryz.func55, Tryz.ntmps55
  go_wp2_with fail
  go_loopw [2] (fun v wr => v = .int .i64 0 ∧ Keep w wr) (fun _ _ => 0)
  case atStart => exact ⟨rfl, Keep.refl _⟩
  case round =>
    obtain ⟨rfl, hk⟩ := hrel
    have c := hk.cell hv
    go_wp2_with fail
    go_end0
    exact ⟨rfl, hk⟩

set_option maxRecDepth 100000 in
set_option maxHeartbeats 1000000 in
theorem lookByteList_no (g : Nat) (w : World) (hv : w.cell? ⟨g, 5, none⟩ = some (.slice none 0 0)) :
    Calls Tryz.prog 64 #[pK g] w fun e w' => e = .returned (.bool true) ∧ Keep w w' := by
  unfold pK
  go_enter Tryz.func64, Tryz.ntmps64
  go_wp2_with fail
  go_loopw [3] (fun v wr => v = .int .i64 0 ∧ Keep w wr) (fun _ _ => 0)
  case atStart => exact ⟨rfl, Keep.refl _⟩
  case round =>
    obtain ⟨rfl, hk⟩ := hrel
    have c := hk.cell hv
    go_wp2_with fail
    go_ret
    exact ⟨rfl, hk⟩

set_option maxRecDepth 100000 in
set_option maxHeartbeats 1000000 in
theorem fillWhy_no (g : Nat) (w : World) (hv : w.cell? ⟨g, 6, none⟩ = some (.slice none 0 0)) :
    Calls Tryz.prog 47 #[pK g] w fun e w' => e = .returned (.tuple #[]) ∧ Keep w w' := by
  unfold pK
  go_enter Tryz.func47, Tryz.ntmps47
  go_wp2_with fail
  go_loopw [2] (fun v wr => v = .int .i64 0 ∧ Keep w wr) (fun _ _ => 0)
  case atStart => exact ⟨rfl, Keep.refl _⟩
  case round =>
    obtain ⟨rfl, hk⟩ := hrel
    have c := hk.cell hv
    go_wp2_with fail
    go_end0
    exact ⟨rfl, hk⟩

set_option maxRecDepth 100000 in
set_option maxHeartbeats 1000000 in
theorem growWhy_no (g : Nat) (w : World) (hv : w.cell? ⟨g, 6, none⟩ = some (.slice none 0 0)) :
    Calls Tryz.prog 56 #[pK g] w fun e w' => e = .returned (.tuple #[]) ∧ Keep w w' := by
  unfold pK
  go_enter Tryz.func56, Tryz.ntmps56
  go_wp2_with fail
  go_loopw [2] (fun v wr => v = .int .i64 0 ∧ Keep w wr) (fun _ _ => 0)
  case atStart => exact ⟨rfl, Keep.refl _⟩
  case round =>
    obtain ⟨rfl, hk⟩ := hrel
    have c := hk.cell hv
    go_wp2_with fail
    go_end0
    exact ⟨rfl, hk⟩

set_option maxRecDepth 100000 in
set_option maxHeartbeats 1000000 in
theorem lookWhy_no (g : Nat) (w : World) (hv : w.cell? ⟨g, 6, none⟩ = some (.slice none 0 0)) :
    Calls Tryz.prog 65 #[pK g] w fun e w' => e = .returned (.bool true) ∧ Keep w w' := by
  unfold pK
  go_enter Tryz.func65, Tryz.ntmps65
  go_wp2_with fail
  go_loopw [3] (fun v wr => v = .int .i64 0 ∧ Keep w wr) (fun _ _ => 0)
  case atStart => exact ⟨rfl, Keep.refl _⟩
  case round =>
    obtain ⟨rfl, hk⟩ := hrel
    have c := hk.cell hv
    go_wp2_with fail
    go_ret
    exact ⟨rfl, hk⟩

set_option maxRecDepth 100000 in
set_option maxHeartbeats 1000000 in
theorem fillFrame_no (g : Nat) (w : World) (hv : w.cell? ⟨g, 7, none⟩ = some (.slice none 0 0)) :
    Calls Tryz.prog 48 #[pK g] w fun e w' => e = .returned (.tuple #[]) ∧ Keep w w' := by
  unfold pK
  go_enter Tryz.func48, Tryz.ntmps48
  go_wp2_with fail
  go_loopw [2] (fun v wr => v = .int .i64 0 ∧ Keep w wr) (fun _ _ => 0)
  case atStart => exact ⟨rfl, Keep.refl _⟩
  case round =>
    obtain ⟨rfl, hk⟩ := hrel
    have c := hk.cell hv
    go_wp2_with fail
    go_end0
    exact ⟨rfl, hk⟩

set_option maxRecDepth 100000 in
set_option maxHeartbeats 1000000 in
theorem growFrame_no (g : Nat) (w : World) (hv : w.cell? ⟨g, 7, none⟩ = some (.slice none 0 0)) :
    Calls Tryz.prog 57 #[pK g] w fun e w' => e = .returned (.tuple #[]) ∧ Keep w w' := by
  unfold pK
  go_enter Tryz.func57, Tryz.ntmps57
  go_wp2_with fail
  go_loopw [2] (fun v wr => v = .int .i64 0 ∧ Keep w wr) (fun _ _ => 0)
  case atStart => exact ⟨rfl, Keep.refl _⟩
  case round =>
    obtain ⟨rfl, hk⟩ := hrel
    have c := hk.cell hv
    go_wp2_with fail
    go_end0
    exact ⟨rfl, hk⟩

set_option maxRecDepth 100000 in
set_option maxHeartbeats 1000000 in
theorem lookFrame_no (g : Nat) (w : World) (hv : w.cell? ⟨g, 7, none⟩ = some (.slice none 0 0)) :
    Calls Tryz.prog 66 #[pK g] w fun e w' => e = .returned (.bool true) ∧ Keep w w' := by
  unfold pK
  go_enter Tryz.func66, Tryz.ntmps66
  go_wp2_with fail
  go_loopw [3] (fun v wr => v = .int .i64 0 ∧ Keep w wr) (fun _ _ => 0)
  case atStart => exact ⟨rfl, Keep.refl _⟩
  case round =>
    obtain ⟨rfl, hk⟩ := hrel
    have c := hk.cell hv
    go_wp2_with fail
    go_ret
    exact ⟨rfl, hk⟩

set_option maxRecDepth 100000 in
set_option maxHeartbeats 1000000 in
theorem fillReply_no (g : Nat) (w : World) (hv : w.cell? ⟨g, 8, none⟩ = some (.slice none 0 0)) :
    Calls Tryz.prog 49 #[pK g] w fun e w' => e = .returned (.tuple #[]) ∧ Keep w w' := by
  unfold pK
  go_enter Tryz.func49, Tryz.ntmps49
  go_wp2_with fail
  go_loopw [2] (fun v wr => v = .int .i64 0 ∧ Keep w wr) (fun _ _ => 0)
  case atStart => exact ⟨rfl, Keep.refl _⟩
  case round =>
    obtain ⟨rfl, hk⟩ := hrel
    have c := hk.cell hv
    go_wp2_with fail
    go_end0
    exact ⟨rfl, hk⟩

set_option maxRecDepth 100000 in
set_option maxHeartbeats 1000000 in
theorem growReply_no (g : Nat) (w : World) (hv : w.cell? ⟨g, 8, none⟩ = some (.slice none 0 0)) :
    Calls Tryz.prog 58 #[pK g] w fun e w' => e = .returned (.tuple #[]) ∧ Keep w w' := by
  unfold pK
  go_enter Tryz.func58, Tryz.ntmps58
  go_wp2_with fail
  go_loopw [2] (fun v wr => v = .int .i64 0 ∧ Keep w wr) (fun _ _ => 0)
  case atStart => exact ⟨rfl, Keep.refl _⟩
  case round =>
    obtain ⟨rfl, hk⟩ := hrel
    have c := hk.cell hv
    go_wp2_with fail
    go_end0
    exact ⟨rfl, hk⟩

set_option maxRecDepth 100000 in
set_option maxHeartbeats 1000000 in
theorem lookReply_no (g : Nat) (w : World) (hv : w.cell? ⟨g, 8, none⟩ = some (.slice none 0 0)) :
    Calls Tryz.prog 67 #[pK g] w fun e w' => e = .returned (.bool true) ∧ Keep w w' := by
  unfold pK
  go_enter Tryz.func67, Tryz.ntmps67
  go_wp2_with fail
  go_loopw [3] (fun v wr => v = .int .i64 0 ∧ Keep w wr) (fun _ _ => 0)
  case atStart => exact ⟨rfl, Keep.refl _⟩
  case round =>
    obtain ⟨rfl, hk⟩ := hrel
    have c := hk.cell hv
    go_wp2_with fail
    go_ret
    exact ⟨rfl, hk⟩

set_option maxRecDepth 100000 in
set_option maxHeartbeats 1000000 in
theorem fillRecord_no (g : Nat) (w : World) (hv : w.cell? ⟨g, 9, none⟩ = some (.slice none 0 0)) :
    Calls Tryz.prog 50 #[pK g] w fun e w' => e = .returned (.tuple #[]) ∧ Keep w w' := by
  unfold pK
  go_enter Tryz.func50, Tryz.ntmps50
  go_wp2_with fail
  go_loopw [2] (fun v wr => v = .int .i64 0 ∧ Keep w wr) (fun _ _ => 0)
  case atStart => exact ⟨rfl, Keep.refl _⟩
  case round =>
    obtain ⟨rfl, hk⟩ := hrel
    have c := hk.cell hv
    go_wp2_with fail
    go_end0
    exact ⟨rfl, hk⟩

set_option maxRecDepth 100000 in
set_option maxHeartbeats 1000000 in
theorem growRecord_no (g : Nat) (w : World) (hv : w.cell? ⟨g, 9, none⟩ = some (.slice none 0 0)) :
    Calls Tryz.prog 59 #[pK g] w fun e w' => e = .returned (.tuple #[]) ∧ Keep w w' := by
  unfold pK
  go_enter Tryz.func59, Tryz.ntmps59
  go_wp2_with fail
  go_loopw [2] (fun v wr => v = .int .i64 0 ∧ Keep w wr) (fun _ _ => 0)
  case atStart => exact ⟨rfl, Keep.refl _⟩
  case round =>
    obtain ⟨rfl, hk⟩ := hrel
    have c := hk.cell hv
    go_wp2_with fail
    go_end0
    exact ⟨rfl, hk⟩

set_option maxRecDepth 100000 in
set_option maxHeartbeats 1000000 in
theorem lookRecord_no (g : Nat) (w : World) (hv : w.cell? ⟨g, 9, none⟩ = some (.slice none 0 0)) :
    Calls Tryz.prog 68 #[pK g] w fun e w' => e = .returned (.bool true) ∧ Keep w w' := by
  unfold pK
  go_enter Tryz.func68, Tryz.ntmps68
  go_wp2_with fail
  go_loopw [3] (fun v wr => v = .int .i64 0 ∧ Keep w wr) (fun _ _ => 0)
  case atStart => exact ⟨rfl, Keep.refl _⟩
  case round =>
    obtain ⟨rfl, hk⟩ := hrel
    have c := hk.cell hv
    go_wp2_with fail
    go_ret
    exact ⟨rfl, hk⟩

/-- A number's mark as a byte. -/
def mk8 (m : Nat) : Int := ((m % 256 : Nat) : Int)
theorem mk8_mod (m : Nat) : (m : Int) % 256 = mk8 m := by
  unfold mk8
  omega
theorem mk8_wrap (m : Nat) : IntKind.u8.wrap (m : Int) = mk8 m := by
  unfold mk8
  simp [IntKind.wrap, IntKind.signed, IntKind.bits]
set_option maxRecDepth 100000 in
set_option maxHeartbeats 1000000 in
theorem markByte_f (m : Nat) (w : World) (_hm : m < 100000) : Calls Tryz.prog 84 #[.int .i64 m] w fun e w' => e = .returned (.int .u8 (mk8 m)) ∧ w' = w := by
  have h1 : IntKind.u8.wrap (m : Int) = mk8 m := mk8_wrap m
  have h2 : (m : Int) % 256 = mk8 m := mk8_mod m
  go_enter Tryz.func84, Tryz.ntmps84
  go_wp2_with fail
  go_ret
  exact ⟨by simp, rfl⟩
set_option maxRecDepth 100000 in
set_option maxHeartbeats 1000000 in
theorem markInt_f (m : Nat) (w : World) (hm : m < 100000) : Calls Tryz.prog 85 #[.int .i64 m] w fun e w' => e = .returned (.int .i64 (-(m : Int))) ∧ w' = w := by
  go_enter Tryz.func85, Tryz.ntmps85
  go_wp2_with fail
  go_ret
  exact ⟨by simp, rfl⟩
set_option maxRecDepth 100000 in
set_option maxHeartbeats 1000000 in
theorem isByte_f (m : Nat) (w : World) (_hm : m < 100000) : Calls Tryz.prog 93 #[.int .u8 (mk8 m), .int .i64 m] w fun e w' => e = .returned (.bool true) ∧ w' = w := by
  have h1 : IntKind.u8.wrap (m : Int) = mk8 m := mk8_wrap m
  have h2 : (m : Int) % 256 = mk8 m := mk8_mod m
  go_enter Tryz.func93, Tryz.ntmps93
  go_wp2_with fail
  go_ret
  exact ⟨by simp, rfl⟩
set_option maxRecDepth 100000 in
set_option maxHeartbeats 1000000 in
theorem isInt_f (m : Nat) (w : World) (hm : m < 100000) : Calls Tryz.prog 94 #[.int .i64 (-(m : Int)), .int .i64 m] w fun e w' => e = .returned (.bool true) ∧ w' = w := by
  go_enter Tryz.func94, Tryz.ntmps94
  go_wp2_with fail
  go_ret
  exact ⟨by simp, rfl⟩
end Go.Proofs.YtjhbpocffckghaaGreatDoor
