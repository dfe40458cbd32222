/-
  SEVERAL TEXTS IN ONE (merged by a program of mine: a claim has at most 60 files). CONTRACTS of the laws' Book: its steps where it holds no list of a kind; the marks of bytes and ints. Conditions: those that each theorem states. CONTRACTS of the laws' Book: every list of bytes, of ints, is marked; is made longer; is looked at. Conditions: those that each theorem states. CONTRACTS of the laws' Book: behind every list of bytes, of ints, forty marks more are put. Conditions: those that each theorem states. CONTRACTS of the laws' Book: every list of bytes, of ints, holds its marks still, and the longer one too. Conditions: those that each theorem states. CONTRACT of the laws' Book: Apart answers true where the lists of bytes and of ints that it holds lie in rows apart, of the call's own. Conditions: those that the theorem states. CONTRACTS of the laws' Book: a list of bytes, of ints, is kept. Conditions: those that each theorem states. WORDS for the laws' Book: how lists of the call's own are brought together as what it holds. Plain theorems. Conditions: those that each theorem states. CONTRACTS of the laws' Book: Frame, Reply: the lists of a frame, of a reply, are held. Conditions: the Book is the call's own.
-/
import Derived.Test.YtnjjeanbopclhaaGreatDoorBookA
import Derived.Test.YtnjjeanbopclhaaGreatDoorOpenC
import Derived.Deep.CutRange
import Derived.Test.YtnjjeanbopclhaaGreatDoorNumA
import Derived.Deep.RegionHeld3
import Derived.Test.YtnjjeanbopclhaaGreatDoorFrmB
import Derived.Test.YtnjjeanbopclhaaGreatDoorFrmC

namespace Go.Proofs.YtnjjeanbopclhaaGreatDoor
open Go.RowKit

/-- The pointer to the Book. -/
def pK (g : Nat) : Value := .pointer (some ⟨g, 0, none⟩)

set_option maxRecDepth 100000 in
set_option maxHeartbeats 1000000 in
theorem fillText_no (g : Nat) (w : World) (hv : w.cell? ⟨g, 3, none⟩ = some (.slice none 0 0)) :
    Calls Tryz.prog 44 #[pK g] w fun e w' => e = .returned (.tuple #[]) ∧ Keep w w' := by
  unfold pK
  go_enter Tryz.func44, Tryz.ntmps44
  go_wp2_with fail
  go_loopw [2] (fun v wr => v = .int .i64 0 ∧ Keep w wr) (fun _ _ => 0)
  case atStart => exact ⟨rfl, Keep.refl _⟩
  case round =>
    obtain ⟨rfl, hk⟩ := hrel
    have c := hk.cell hv
    go_wp2_with fail
    go_end0
    exact ⟨rfl, hk⟩

set_option maxRecDepth 100000 in
set_option maxHeartbeats 1000000 in
theorem growText_no (g : Nat) (w : World) (hv : w.cell? ⟨g, 3, none⟩ = some (.slice none 0 0)) :
    Calls Tryz.prog 53 #[pK g] w fun e w' => e = .returned (.tuple #[]) ∧ Keep w w' := by
  unfold pK
  go_enter Tryz.func53, Tryz.ntmps53
  go_wp2_with fail
  go_loopw [2] (fun v wr => v = .int .i64 0 ∧ Keep w wr) (fun _ _ => 0)
  case atStart => exact ⟨rfl, Keep.refl _⟩
  case round =>
    obtain ⟨rfl, hk⟩ := hrel
    have c := hk.cell hv
    go_wp2_with fail
    go_end0
    exact ⟨rfl, hk⟩

set_option maxRecDepth 100000 in
set_option maxHeartbeats 1000000 in
theorem lookText_no (g : Nat) (w : World) (hv : w.cell? ⟨g, 3, none⟩ = some (.slice none 0 0)) :
    Calls Tryz.prog 62 #[pK g] w fun e w' => e = .returned (.bool true) ∧ Keep w w' := by
  unfold pK
  go_enter Tryz.func62, Tryz.ntmps62
  go_wp2_with fail
  go_loopw [3] (fun v wr => v = .int .i64 0 ∧ Keep w wr) (fun _ _ => 0)
  case atStart => exact ⟨rfl, Keep.refl _⟩
  case round =>
    obtain ⟨rfl, hk⟩ := hrel
    have c := hk.cell hv
    go_wp2_with fail
    go_ret
    exact ⟨rfl, hk⟩

set_option maxRecDepth 100000 in
set_option maxHeartbeats 1000000 in
theorem fillIntList_no (g : Nat) (w : World) (hv : w.cell? ⟨g, 4, none⟩ = some (.slice none 0 0)) :
    Calls Tryz.prog 45 #[pK g] w fun e w' => e = .returned (.tuple #[]) ∧ Keep w w' := by
  unfold pK
  go_enter Tryz.func45, Tryz.ntmps45
  go_wp2_with fail
  go_loopw [2] (fun v wr => v = .int .i64 0 ∧ Keep w wr) (fun _ _ => 0)
  case atStart => exact ⟨rfl, Keep.refl _⟩
  case round =>
    obtain ⟨rfl, hk⟩ := hrel
    have c := hk.cell hv
    go_wp2_with fail
    go_end0
    exact ⟨rfl, hk⟩

set_option maxRecDepth 100000 in
set_option maxHeartbeats 1000000 in
theorem growIntList_no (g : Nat) (w : World) (hv : w.cell? ⟨g, 4, none⟩ = some (.slice none 0 0)) :
    Calls Tryz.prog 54 #[pK g] w fun e w' => e = .returned (.tuple #[]) ∧ Keep w w' := by
  unfold pK
  go_enter Tryz.func54, Tryz.ntmps54
  go_wp2_with fail
  go_loopw [2] (fun v wr => v = .int .i64 0 ∧ Keep w wr) (fun _ _ => 0)
  case atStart => exact ⟨rfl, Keep.refl _⟩
  case round =>
    obtain ⟨rfl, hk⟩ := hrel
    have c := hk.cell hv
    go_wp2_with fail
    go_end0
    exact ⟨rfl, hk⟩

set_option maxRecDepth 100000 in
set_option maxHeartbeats 1000000 in
theorem lookIntList_no (g : Nat) (w : World) (hv : w.cell? ⟨g, 4, none⟩ = some (.slice none 0 0)) :
    Calls Tryz.prog 63 #[pK g] w fun e w' => e = .returned (.bool true) ∧ Keep w w' := by
  unfold pK
  go_enter Tryz.func63, Tryz.ntmps63
  go_wp2_with fail
  go_loopw [3] (fun v wr => v = .int .i64 0 ∧ Keep w wr) (fun _ _ => 0)
  case atStart => exact ⟨rfl, Keep.refl _⟩
  case round =>
    obtain ⟨rfl, hk⟩ := hrel
    have c := hk.cell hv
    go_wp2_with fail
    go_ret
    exact ⟨rfl, hk⟩

set_option maxRecDepth 100000 in
set_option maxHeartbeats 1000000 in
theorem fillByteList_no (g : Nat) (w : World) (hv : w.cell? ⟨g, 5, none⟩ = some (.slice none 0 0)) :
    Calls Tryz.prog 46 #[pK g] w fun e w' => e = .returned (.tuple #[]) ∧ Keep w w' := by
  unfold pK
  go_enter Tryz.func46, Tryz.ntmps46
  go_wp2_with fail
  go_loopw [2] (fun v wr => v = .int .i64 0 ∧ Keep w wr) (fun _ _ => 0)
  case atStart => exact ⟨rfl, Keep.refl _⟩
  case round =>
    obtain ⟨rfl, hk⟩ := hrel
    have c := hk.cell hv
    go_wp2_with fail
    go_end0
    exact ⟨rfl, hk⟩

set_option maxRecDepth 100000 in
set_option maxHeartbeats 1000000 in
theorem growByteList_no (g : Nat) (w : World) (hv : w.cell? ⟨g, 5, none⟩ = some (.slice none 0 0)) :
    Calls Tryz.prog 55 #[pK g] w fun e w' => e = .returned (.tuple #[]) ∧ Keep w w' := by
  unfold pK
  go_enter Tryz.func55, Tryz.ntmps55
  go_wp2_with fail
  go_loopw [2] (fun v wr => v = .int .i64 0 ∧ Keep w wr) (fun _ _ => 0)
  case atStart => exact ⟨rfl, Keep.refl _⟩
  case round =>
    obtain ⟨rfl, hk⟩ := hrel
    have c := hk.cell hv
    go_wp2_with fail
    go_end0
    exact ⟨rfl, hk⟩

set_option maxRecDepth 100000 in
set_option maxHeartbeats 1000000 in
theorem lookByteList_no (g : Nat) (w : World) (hv : w.cell? ⟨g, 5, none⟩ = some (.slice none 0 0)) :
    Calls Tryz.prog 64 #[pK g] w fun e w' => e = .returned (.bool true) ∧ Keep w w' := by
  unfold pK
  go_enter Tryz.func64, Tryz.ntmps64
  go_wp2_with fail
  go_loopw [3] (fun v wr => v = .int .i64 0 ∧ Keep w wr) (fun _ _ => 0)
  case atStart => exact ⟨rfl, Keep.refl _⟩
  case round =>
    obtain ⟨rfl, hk⟩ := hrel
    have c := hk.cell hv
    go_wp2_with fail
    go_ret
    exact ⟨rfl, hk⟩

set_option maxRecDepth 100000 in
set_option maxHeartbeats 1000000 in
theorem fillWhy_no (g : Nat) (w : World) (hv : w.cell? ⟨g, 6, none⟩ = some (.slice none 0 0)) :
    Calls Tryz.prog 47 #[pK g] w fun e w' => e = .returned (.tuple #[]) ∧ Keep w w' := by
  unfold pK
  go_enter Tryz.func47, Tryz.ntmps47
  go_wp2_with fail
  go_loopw [2] (fun v wr => v = .int .i64 0 ∧ Keep w wr) (fun _ _ => 0)
  case atStart => exact ⟨rfl, Keep.refl _⟩
  case round =>
    obtain ⟨rfl, hk⟩ := hrel
    have c := hk.cell hv
    go_wp2_with fail
    go_end0
    exact ⟨rfl, hk⟩

set_option maxRecDepth 100000 in
set_option maxHeartbeats 1000000 in
theorem growWhy_no (g : Nat) (w : World) (hv : w.cell? ⟨g, 6, none⟩ = some (.slice none 0 0)) :
    Calls Tryz.prog 56 #[pK g] w fun e w' => e = .returned (.tuple #[]) ∧ Keep w w' := by
  unfold pK
  go_enter Tryz.func56, Tryz.ntmps56
  go_wp2_with fail
  go_loopw [2] (fun v wr => v = .int .i64 0 ∧ Keep w wr) (fun _ _ => 0)
  case atStart => exact ⟨rfl, Keep.refl _⟩
  case round =>
    obtain ⟨rfl, hk⟩ := hrel
    have c := hk.cell hv
    go_wp2_with fail
    go_end0
    exact ⟨rfl, hk⟩

set_option maxRecDepth 100000 in
set_option maxHeartbeats 1000000 in
theorem lookWhy_no (g : Nat) (w : World) (hv : w.cell? ⟨g, 6, none⟩ = some (.slice none 0 0)) :
    Calls Tryz.prog 65 #[pK g] w fun e w' => e = .returned (.bool true) ∧ Keep w w' := by
  unfold pK
  go_enter Tryz.func65, Tryz.ntmps65
  go_wp2_with fail
  go_loopw [3] (fun v wr => v = .int .i64 0 ∧ Keep w wr) (fun _ _ => 0)
  case atStart => exact ⟨rfl, Keep.refl _⟩
  case round =>
    obtain ⟨rfl, hk⟩ := hrel
    have c := hk.cell hv
    go_wp2_with fail
    go_ret
    exact ⟨rfl, hk⟩

set_option maxRecDepth 100000 in
set_option maxHeartbeats 1000000 in
theorem fillFrame_no (g : Nat) (w : World) (hv : w.cell? ⟨g, 7, none⟩ = some (.slice none 0 0)) :
    Calls Tryz.prog 48 #[pK g] w fun e w' => e = .returned (.tuple #[]) ∧ Keep w w' := by
  unfold pK
  go_enter Tryz.func48, Tryz.ntmps48
  go_wp2_with fail
  go_loopw [2] (fun v wr => v = .int .i64 0 ∧ Keep w wr) (fun _ _ => 0)
  case atStart => exact ⟨rfl, Keep.refl _⟩
  case round =>
    obtain ⟨rfl, hk⟩ := hrel
    have c := hk.cell hv
    go_wp2_with fail
    go_end0
    exact ⟨rfl, hk⟩

set_option maxRecDepth 100000 in
set_option maxHeartbeats 1000000 in
theorem growFrame_no (g : Nat) (w : World) (hv : w.cell? ⟨g, 7, none⟩ = some (.slice none 0 0)) :
    Calls Tryz.prog 57 #[pK g] w fun e w' => e = .returned (.tuple #[]) ∧ Keep w w' := by
  unfold pK
  go_enter Tryz.func57, Tryz.ntmps57
  go_wp2_with fail
  go_loopw [2] (fun v wr => v = .int .i64 0 ∧ Keep w wr) (fun _ _ => 0)
  case atStart => exact ⟨rfl, Keep.refl _⟩
  case round =>
    obtain ⟨rfl, hk⟩ := hrel
    have c := hk.cell hv
    go_wp2_with fail
    go_end0
    exact ⟨rfl, hk⟩

set_option maxRecDepth 100000 in
set_option maxHeartbeats 1000000 in
theorem lookFrame_no (g : Nat) (w : World) (hv : w.cell? ⟨g, 7, none⟩ = some (.slice none 0 0)) :
    Calls Tryz.prog 66 #[pK g] w fun e w' => e = .returned (.bool true) ∧ Keep w w' := by
  unfold pK
  go_enter Tryz.func66, Tryz.ntmps66
  go_wp2_with fail
  go_loopw [3] (fun v wr => v = .int .i64 0 ∧ Keep w wr) (fun _ _ => 0)
  case atStart => exact ⟨rfl, Keep.refl _⟩
  case round =>
    obtain ⟨rfl, hk⟩ := hrel
    have c := hk.cell hv
    go_wp2_with fail
    go_ret
    exact ⟨rfl, hk⟩

set_option maxRecDepth 100000 in
set_option maxHeartbeats 1000000 in
theorem fillReply_no (g : Nat) (w : World) (hv : w.cell? ⟨g, 8, none⟩ = some (.slice none 0 0)) :
    Calls Tryz.prog 49 #[pK g] w fun e w' => e = .returned (.tuple #[]) ∧ Keep w w' := by
  unfold pK
  go_enter Tryz.func49, Tryz.ntmps49
  go_wp2_with fail
  go_loopw [2] (fun v wr => v = .int .i64 0 ∧ Keep w wr) (fun _ _ => 0)
  case atStart => exact ⟨rfl, Keep.refl _⟩
  case round =>
    obtain ⟨rfl, hk⟩ := hrel
    have c := hk.cell hv
    go_wp2_with fail
    go_end0
    exact ⟨rfl, hk⟩

set_option maxRecDepth 100000 in
set_option maxHeartbeats 1000000 in
theorem growReply_no (g : Nat) (w : World) (hv : w.cell? ⟨g, 8, none⟩ = some (.slice none 0 0)) :
    Calls Tryz.prog 58 #[pK g] w fun e w' => e = .returned (.tuple #[]) ∧ Keep w w' := by
  unfold pK
  go_enter Tryz.func58, Tryz.ntmps58
  go_wp2_with fail
  go_loopw [2] (fun v wr => v = .int .i64 0 ∧ Keep w wr) (fun _ _ => 0)
  case atStart => exact ⟨rfl, Keep.refl _⟩
  case round =>
    obtain ⟨rfl, hk⟩ := hrel
    have c := hk.cell hv
    go_wp2_with fail
    go_end0
    exact ⟨rfl, hk⟩

set_option maxRecDepth 100000 in
set_option maxHeartbeats 1000000 in
theorem lookReply_no (g : Nat) (w : World) (hv : w.cell? ⟨g, 8, none⟩ = some (.slice none 0 0)) :
    Calls Tryz.prog 67 #[pK g] w fun e w' => e = .returned (.bool true) ∧ Keep w w' := by
  unfold pK
  go_enter Tryz.func67, Tryz.ntmps67
  go_wp2_with fail
  go_loopw [3] (fun v wr => v = .int .i64 0 ∧ Keep w wr) (fun _ _ => 0)
  case atStart => exact ⟨rfl, Keep.refl _⟩
  case round =>
    obtain ⟨rfl, hk⟩ := hrel
    have c := hk.cell hv
    go_wp2_with fail
    go_ret
    exact ⟨rfl, hk⟩

set_option maxRecDepth 100000 in
set_option maxHeartbeats 1000000 in
theorem fillRecord_no (g : Nat) (w : World) (hv : w.cell? ⟨g, 9, none⟩ = some (.slice none 0 0)) :
    Calls Tryz.prog 50 #[pK g] w fun e w' => e = .returned (.tuple #[]) ∧ Keep w w' := by
  unfold pK
  go_enter Tryz.func50, Tryz.ntmps50
  go_wp2_with fail
  go_loopw [2] (fun v wr => v = .int .i64 0 ∧ Keep w wr) (fun _ _ => 0)
  case atStart => exact ⟨rfl, Keep.refl _⟩
  case round =>
    obtain ⟨rfl, hk⟩ := hrel
    have c := hk.cell hv
    go_wp2_with fail
    go_end0
    exact ⟨rfl, hk⟩

set_option maxRecDepth 100000 in
set_option maxHeartbeats 1000000 in
theorem growRecord_no (g : Nat) (w : World) (hv : w.cell? ⟨g, 9, none⟩ = some (.slice none 0 0)) :
    Calls Tryz.prog 59 #[pK g] w fun e w' => e = .returned (.tuple #[]) ∧ Keep w w' := by
  unfold pK
  go_enter Tryz.func59, Tryz.ntmps59
  go_wp2_with fail
  go_loopw [2] (fun v wr => v = .int .i64 0 ∧ Keep w wr) (fun _ _ => 0)
  case atStart => exact ⟨rfl, Keep.refl _⟩
  case round =>
    obtain ⟨rfl, hk⟩ := hrel
    have c := hk.cell hv
    go_wp2_with fail
    go_end0
    exact ⟨rfl, hk⟩

set_option maxRecDepth 100000 in
set_option maxHeartbeats 1000000 in
theorem lookRecord_no (g : Nat) (w : World) (hv : w.cell? ⟨g, 9, none⟩ = some (.slice none 0 0)) :
    Calls Tryz.prog 68 #[pK g] w fun e w' => e = .returned (.bool true) ∧ Keep w w' := by
  unfold pK
  go_enter Tryz.func68, Tryz.ntmps68
  go_wp2_with fail
  go_loopw [3] (fun v wr => v = .int .i64 0 ∧ Keep w wr) (fun _ _ => 0)
  case atStart => exact ⟨rfl, Keep.refl _⟩
  case round =>
    obtain ⟨rfl, hk⟩ := hrel
    have c := hk.cell hv
    go_wp2_with fail
    go_ret
    exact ⟨rfl, hk⟩

/-- A number's mark as a byte. -/
def mk8 (m : Nat) : Int := ((m % 256 : Nat) : Int)
theorem mk8_mod (m : Nat) : (m : Int) % 256 = mk8 m := by
  unfold mk8
  omega
theorem mk8_wrap (m : Nat) : IntKind.u8.wrap (m : Int) = mk8 m := by
  unfold mk8
  simp [IntKind.wrap, IntKind.signed, IntKind.bits]
set_option maxRecDepth 100000 in
set_option maxHeartbeats 1000000 in
theorem markByte_f (m : Nat) (w : World) (_hm : m < 100000) : Calls Tryz.prog 84 #[.int .i64 m] w fun e w' => e = .returned (.int .u8 (mk8 m)) ∧ w' = w := by
  have h1 : IntKind.u8.wrap (m : Int) = mk8 m := mk8_wrap m
  have h2 : (m : Int) % 256 = mk8 m := mk8_mod m
  go_enter Tryz.func84, Tryz.ntmps84
  go_wp2_with fail
  go_ret
  exact ⟨by simp, rfl⟩
set_option maxRecDepth 100000 in
set_option maxHeartbeats 1000000 in
theorem markInt_f (m : Nat) (w : World) (hm : m < 100000) : Calls Tryz.prog 85 #[.int .i64 m] w fun e w' => e = .returned (.int .i64 (-(m : Int))) ∧ w' = w := by
  go_enter Tryz.func85, Tryz.ntmps85
  go_wp2_with fail
  go_ret
  exact ⟨by simp, rfl⟩
set_option maxRecDepth 100000 in
set_option maxHeartbeats 1000000 in
theorem isByte_f (m : Nat) (w : World) (_hm : m < 100000) : Calls Tryz.prog 93 #[.int .u8 (mk8 m), .int .i64 m] w fun e w' => e = .returned (.bool true) ∧ w' = w := by
  have h1 : IntKind.u8.wrap (m : Int) = mk8 m := mk8_wrap m
  have h2 : (m : Int) % 256 = mk8 m := mk8_mod m
  go_enter Tryz.func93, Tryz.ntmps93
  go_wp2_with fail
  go_ret
  exact ⟨by simp, rfl⟩
set_option maxRecDepth 100000 in
set_option maxHeartbeats 1000000 in
theorem isInt_f (m : Nat) (w : World) (hm : m < 100000) : Calls Tryz.prog 94 #[.int .i64 (-(m : Int)), .int .i64 m] w fun e w' => e = .returned (.bool true) ∧ w' = w := by
  go_enter Tryz.func94, Tryz.ntmps94
  go_wp2_with fail
  go_ret
  exact ⟨by simp, rfl⟩
end Go.Proofs.YtnjjeanbopclhaaGreatDoor

namespace Go.Proofs.YtnjjeanbopclhaaGreatDoor
open Go.RowKit

/-- The blocks of the held slices. -/
def Own (hs : List Hd) (k : Nat) : Prop := ∃ h ∈ hs, ownB h.a h.c = some k
/-- They lie in rows apart. -/
def Aparts (hs : List Hd) : Prop := ∀ (i j : Nat) (x y : Hd), i ≠ j → hs[i]? = some x → hs[j]? = some y → ∀ k, ownB x.a x.c = some k → ownB y.a y.c ≠ some k
theorem HRow.notOwn {w : World} {base b : Nat} {e e' : TypeId} {v : Value} {rs hs : List Hd} (hr : HRow w base e v rs) (hf : ∀ h ∈ hs, ∃ us, Fr e' w b h.a h.n h.c us) (hne : e' ≠ e) : ∀ k, v.ownBlock = some k → ¬ Own hs k := by
  rintro k hk ⟨h, hh, ho⟩
  obtain ⟨cur, hc⟩ := hr.cur hk
  obtain ⟨us, hu⟩ := hf h hh
  exact hu.own_ne hc hne k ho rfl
theorem mark_set {z : Value} {us : List Value} {k : Nat} (h : k < us.length) : (List.replicate k z ++ us.drop k).set k z = List.replicate (k + 1) z ++ us.drop (k + 1) := by
  have hl : (List.replicate k z).length = k := List.length_replicate
  have hd : us.drop k = us[k] :: us.drop (k + 1) := List.drop_eq_getElem_cons h
  rw [List.set_append_right _ _ (by omega), hl, Nat.sub_self, hd, List.set_cons_zero, List.replicate_succ', List.append_assoc]
  rfl
theorem one_rep (u : Value) (h : u.oneCell' = true) : ∀ x ∈ [u], x.oneCell' = true := by
  intro x hx
  rw [List.mem_singleton] at hx
  exact hx ▸ h
theorem rep_snoc (n : Nat) (z : Value) : List.replicate n z ++ [z] = List.replicate (n + 1) z := List.replicate_succ'.symm

set_option maxRecDepth 100000 in
set_option maxHeartbeats 4000000 in
theorem fillByte_f (g : Nat) (vb : Value) (hs : List Hd) (w : World) (base : Nat) (hv : w.cell? ⟨g, 1, none⟩ = some vb) (hr : HRow w base 89 vb hs)
    (hf : ∀ h ∈ hs, ∃ us, Fr 5 w base h.a h.n h.c us) (hp : Aparts hs) (hm : ∀ h ∈ hs, h.m < 100000) (hg : ¬ Own hs g) (ln : hs.length ≤ 10000) :
    Calls Tryz.prog 42 #[pK g] w fun e w' => e = .returned (.tuple #[]) ∧ But (Own hs) w w' ∧ ∀ h ∈ hs, Fr 5 w' base h.a h.n h.c (List.replicate h.n (.int .u8 (mk8 h.m))) := by
  have hno := hr.notOwn hf (by decide)
  obtain ⟨A0, c0, hv0⟩ := hr.val
  have HV := Lib.hid hv0
  have HP := Lib.hid hp
  have HMM := Lib.hid hm
  have HG := Lib.hid hg
  have HNO := Lib.hid hno
  clear hv0 hp hm hg hno
  unfold pK
  go_enter Tryz.func42, Tryz.ntmps42
  go_wp2_with fail
  go_loopw [2] (fun v wr => ∃ i : Nat, i ≤ hs.length ∧ v = .int .i64 i ∧ But (Own hs) w wr ∧ (∀ j h, hs[j]? = some h → (j < i → Fr 5 wr base h.a h.n h.c (List.replicate h.n (.int .u8 (mk8 h.m)))) ∧ (i ≤ j → ∃ us, Fr 5 wr base h.a h.n h.c us))) (fun v _ => hs.length - (intOf v).toNat)
  case atStart => exact ⟨0, Nat.zero_le _, rfl, But.refl _ _, fun j h hj => ⟨fun h' => absurd h' (Nat.not_lt_zero _), fun _ => hf h (List.mem_of_getElem? hj)⟩⟩
  case round =>
    obtain ⟨i, hi, rfl, hb, hall⟩ := hrel
    have HA := Lib.hid hall
    clear hall
    have cv := hb.cell hv HG.out
    by_cases hlt : i < hs.length
    · obtain ⟨h, hh⟩ : ∃ h, hs[i]? = some h := ⟨_, List.getElem?_eq_getElem hlt⟩
      have hrr := hr.but hb HNO.out
      obtain ⟨gr, cap, hv1, hgr, hgr2, hcap, hcm, hcur, hfz, hcell⟩ := hrr.at_ (by omega)
      have r0 := hcell (i * 3) _ ((cellsOf_at hh (j := 0) (by omega)).trans rfl)
      have r1 := hcell (i * 3 + 1) _ ((cellsOf_at hh (j := 1) (by omega)).trans rfl)
      have r2 := hcell (i * 3 + 2) _ ((cellsOf_at hh (j := 2) (by omega)).trans rfl)
      rw [hv1] at cv
      have HH := Lib.hid hh
      have HV1 := Lib.hid hv1
      have hi1 : (i : Int) < hs.length := by omega
      have hi0 : (0 : Int) ≤ i := by omega
      clear hh hv1 hcell hcur hfz hrr
      go_upto_region 4 with fail
      have bH : Blk (wr.alloc (.cells #[.slice h.a h.n h.c, .slice h.la h.ln h.lc, .int .i64 h.m] 89)) wr.heap.size 89 [.slice h.a h.n h.c, .slice h.la h.ln h.lc, .int .i64 h.m] := Blk.new wr _ _
      have kn : Keep wr (wr.alloc (.cells #[.slice h.a h.n h.c, .slice h.la h.ln h.lc, .int .i64 h.m] 89)) := Keep.alloc1 _ _
      change Code.wp _ _ _ _ (wr.alloc (.cells #[.slice h.a h.n h.c, .slice h.la h.ln h.lc, .int .i64 h.m] 89))
      obtain ⟨us, hu⟩ := (HA.out i h HH.out).2 (Nat.le_refl _)
      replace hu := hu.keep kn
      have hub := (hu.keep (Keep.refl _)).own_ne bH (by decide)
      generalize (wr.alloc (.cells #[.slice h.a h.n h.c, .slice h.la h.ln h.lc, .int .i64 h.m] 89)) = w1 at bH kn hu ⊢
      generalize wr.heap.size = gH at bH hub ⊢
      have HM := Lib.hid (HMM.out h (List.mem_of_getElem? HH.out))
      have hul := hu.len
      have hcp := hu.cap
      have hcpm := hu.capMax
      unfold maxLen at hcpm
      have hn63 : (h.n : Int) ≤ 9223372036854775807 := by omega
      clear r0 r1 r2 cv
      go_wp2_with fail
      obtain ⟨w2, hw2⟩ : ∃ x, x = w1 := ⟨w1, rfl⟩
      subst hw2
      go_loopw [4] (fun v wr => ∃ k : Nat, k ≤ h.n ∧ v = .int .i64 k ∧ But (fun q => ownB h.a h.c = some q) w2 wr ∧ Fr 5 wr base h.a h.n h.c (List.replicate k (.int .u8 (mk8 h.m)) ++ us.drop k)) (fun v _ => h.n - (intOf v).toNat)
      case atStart => exact ⟨0, Nat.zero_le _, rfl, But.refl _ _, hu⟩
      case round =>
        obtain ⟨k, hk, rfl, hb2, hfr⟩ := hrel
        have bR := bH.but hb2 (fun e => hub gH e rfl)
        have b0 := bR.cell_ (i := 0) rfl
        have b2 := bR.cell_ (i := 2) rfl
        by_cases hkl : k < h.n
        · obtain ⟨gb, hga, hgb1, hgb2⟩ := hfr.form (by omega)
          have hne : gb ≠ gH := fun e => hub gb (by rw [hga]; unfold ownB; rw [if_neg (by omega)]; rfl) e.symm
          rw [hga] at b0 hfr
          have HGA := Lib.hid hga
          have hz := hfr.rd.at_ (j := k) (by rw [hfr.len]; exact hkl)
          obtain ⟨b', o', e', ck⟩ := hz
          cases e'
          rw [Nat.zero_add] at ck
          obtain ⟨vk, ck⟩ : ∃ v, wr.cell? ⟨gb, k, none⟩ = some v := ⟨_, ck⟩
          have fk := hfr.frozen (by omega) k
          have hk0 : (0 : Int) ≤ k := by omega
          have hk1 : (k : Int) < h.n := by omega
          clear hga bR
          go_upto_region 7 with fail
          refine wp_region_noPanic ?_
          refine wp_region_held_drew (S := (fun w' => w'.cell? ⟨gH, 0, none⟩ = some (.slice (some ⟨gb, 0, none⟩) h.n h.c) ∧ w'.cell? ⟨gH, 2, none⟩ = some (.int .i64 (h.m : Int)))) (by kernel_rfl) ⟨b0, b2⟩ (fun hS => ?_)
          have kz : Keep wr wr.drew := (Keep.refl _).drew
          have cq := kz.cell ck
          have fq := (kz.frozen (p := ⟨gb, k, none⟩) hgb2).trans fk
          replace hfr := hfr.keep kz
          replace hb2 := hb2.grown2 (row := none) ⟨rfl, rfl, rfl, Nat.le_refl _, fun _ _ _ => rfl⟩ (fun _ e => by cases e) (c := wr.drew)
          generalize wr.drew = v0 at hS hfr hb2 cq fq ⊢
          clear kz
          refine wpAnyH_take (i := 0) (v := ?_) rfl (by kernel_rfl) (by kernel_rfl) (by kernel_rfl) (fun _ _ _ h => h) (Or.inl ⟨by rfl, ?_⟩) hS ?_
          rotate_left
          · (intro w hSw; (try dsimp only at hSw); go_simp; (first | done | with_reducible rfl))
          change wpAnyH _ _ _ _ _ _ _ (Act.put _ (some 28) _) _
          simp only [Act.put, List.setIfInBounds_toArray, List.set_cons_zero, List.set_cons_succ]
          refine wpAnyH_take (i := 1) (v := ?_) rfl (by kernel_rfl) (by kernel_rfl) (by kernel_rfl) (fun _ _ _ h => h) (Or.inl ⟨by rfl, ?_⟩) hS ?_
          rotate_left
          · (intro w hSw; (try dsimp only at hSw); go_simp; (first | done | with_reducible rfl))
          change wpAnyH _ _ _ _ _ _ _ (Act.put _ (some 29) _) _
          simp only [Act.put, List.setIfInBounds_toArray, List.set_cons_zero, List.set_cons_succ]
          refine wpAnyH_take (i := 2) (v := ?_) rfl (by kernel_rfl) (by kernel_rfl) (by kernel_rfl) (fun _ _ _ h => h) (Or.inl ⟨by rfl, ?_⟩) hS ?_
          rotate_left
          · (intro w hSw; (try dsimp only at hSw); go_simp; (first | done | with_reducible rfl))
          change wpAnyH _ _ _ _ _ _ _ (Act.put _ (some 30) _) _
          simp only [Act.put, List.setIfInBounds_toArray, List.set_cons_zero, List.set_cons_succ]
          refine wpAnyH_take (i := 3) (v := ?_) rfl (by kernel_rfl) (by kernel_rfl) (by kernel_rfl) (fun _ _ _ h => h) (Or.inl ⟨by rfl, ?_⟩) hS ?_
          rotate_left
          · (intro w hSw; (try dsimp only at hSw); go_simp; (first | done | with_reducible rfl))
          change wpAnyH _ _ _ _ _ _ _ (Act.put _ (some 31) _) _
          simp only [Act.put, List.setIfInBounds_toArray, List.set_cons_zero, List.set_cons_succ]
          refine wpAnyH_take (i := 4) (v := ?_) rfl (by kernel_rfl) (by kernel_rfl) (by kernel_rfl) (fun _ _ _ h => h) (Or.inl ⟨by rfl, ?_⟩) hS ?_
          rotate_left
          · (intro w hSw; (try dsimp only at hSw); go_simp; (first | done | with_reducible rfl))
          change wpAnyH _ _ _ _ _ _ _ (Act.put _ (some 32) _) _
          simp only [Act.put, List.setIfInBounds_toArray, List.set_cons_zero, List.set_cons_succ]
          refine wpAnyH_ready (rs := [5]) (by kernel_rfl) (by simp) ?_
          refine AllReadyH.cons rfl (fun K hK => ?_) AllReadyH.nil
          go_simp
          refine (markByte_f h.m v0 HM.out).mono ?_
          rintro e v0 ⟨rfl, rfl⟩
          go_wp2_with fail
          refine hK.out _ _ hS (fun hS => ?_)
          clear hK K
          try simp only [Act.put, List.setIfInBounds_toArray, List.set_cons_zero, List.set_cons_succ]
          refine wpAnyH_take (i := 6) (v := ?_) rfl (by kernel_rfl) (by kernel_rfl) (by kernel_rfl) (fun _ _ _ h => h) (Or.inl ⟨by rfl, ?_⟩) hS ?_
          rotate_left
          · (intro w hSw; (try dsimp only at hSw); go_simp; (first | done | with_reducible rfl))
          change wpAnyH _ _ _ _ _ _ _ (Act.put _ (some 34) _) _
          simp only [Act.put, List.setIfInBounds_toArray, List.set_cons_zero, List.set_cons_succ]
          refine wpAnyH_ready (rs := [7]) (by kernel_rfl) (by simp) ?_
          refine AllReadyH.cons rfl (fun K hK => ?_) AllReadyH.nil
          go_simp
          go_simp
          refine hK.out _ _ ⟨(World.cell?_setCell_other v0 ⟨gb, k, none⟩ ⟨gH, 0, none⟩ _ (fun e => by injection e with e1; exact hne e1)).trans hS.1, (World.cell?_setCell_other v0 ⟨gb, k, none⟩ ⟨gH, 2, none⟩ _ (fun e => by injection e with e1; exact hne e1)).trans hS.2⟩ (fun hS => ?_)
          clear hK K
          try simp only [Act.put, List.setIfInBounds_toArray]
          refine wpAnyH_done (by kernel_rfl) ?_ _
          refine NoPanic.normal ?_
          have hst := hfr.stored hkl (.int .u8 (mk8 h.m))
          rw [mark_set (by omega)] at hst
          rw [← HGA.out] at hst
          have hb3 := hb2.setCell2 (p := ⟨gb, k, none⟩) (.inl (by rw [HGA.out]; unfold ownB; rw [if_neg (by omega)]; rfl)) (.int .u8 (mk8 h.m))
          go_wp2_with fail
          go_roundw
          case rel => exact ⟨k + 1, by omega, by go_num, hb3, hst⟩
          case measure => simp [intOf]; omega
        · obtain rfl : k = h.n := by omega
          rw [List.drop_eq_nil_of_le (by omega), List.append_nil] at hfr
          have hb4 : But (Own hs) w wr := (hb.grown2 (row := none) ⟨kn.os, kn.tape, kn.output, kn.size, fun _ hi _ => kn.block hi⟩ (fun _ e => by cases e)).trans (hb2.mono fun q hq => ⟨h, List.mem_of_getElem? HH.out, hq⟩)
          have hall : ∀ j h', hs[j]? = some h' → (j < i + 1 → Fr 5 wr base h'.a h'.n h'.c (List.replicate h'.n (.int .u8 (mk8 h'.m)))) ∧ (i + 1 ≤ j → ∃ us, Fr 5 wr base h'.a h'.n h'.c us) := fun j h' hj => by
            by_cases hji : j = i
            · subst hji
              rw [HH.out] at hj
              cases hj
              exact ⟨fun _ => hfr, fun h' => by omega⟩
            · have hs1 : ∀ q, ownB h'.a h'.c = some q → ¬ (ownB h.a h.c = some q) := fun q h1 h2 => HP.out j i h' h hji hj HH.out q h1 h2
              exact ⟨fun h1 => (((HA.out j h' hj).1 (by omega)).keep kn).but hb2 hs1, fun h1 => by
                obtain ⟨us', h2⟩ := (HA.out j h' hj).2 (by omega)
                exact ⟨us', (h2.keep kn).but hb2 hs1⟩⟩
          have HALL := Lib.hid hall
          clear hall
          go_wp2_with fail
          go_roundw
          case rel => exact ⟨i + 1, by omega, by go_num, hb4, HALL.out⟩
          case measure => simp [intOf]; omega
    · rw [HV.out] at cv
      go_wp2_with fail
      go_end0
      exact ⟨rfl, hb, fun h hh => by
        obtain ⟨j, hj⟩ := List.getElem?_of_mem hh
        exact (HA.out j h hj).1 (by have := (List.getElem?_eq_some_iff.1 hj).1; omega)⟩

set_option maxRecDepth 100000 in
set_option maxHeartbeats 4000000 in
theorem fillInt_f (g : Nat) (vb : Value) (hs : List Hd) (w : World) (base : Nat) (hv : w.cell? ⟨g, 2, none⟩ = some vb) (hr : HRow w base 92 vb hs)
    (hf : ∀ h ∈ hs, ∃ us, Fr 3 w base h.a h.n h.c us) (hp : Aparts hs) (hm : ∀ h ∈ hs, h.m < 100000) (hg : ¬ Own hs g) (ln : hs.length ≤ 10000) :
    Calls Tryz.prog 43 #[pK g] w fun e w' => e = .returned (.tuple #[]) ∧ But (Own hs) w w' ∧ ∀ h ∈ hs, Fr 3 w' base h.a h.n h.c (List.replicate h.n (.int .i64 (-((h.m : Nat) : Int)))) := by
  have hno := hr.notOwn hf (by decide)
  obtain ⟨A0, c0, hv0⟩ := hr.val
  have HV := Lib.hid hv0
  have HP := Lib.hid hp
  have HMM := Lib.hid hm
  have HG := Lib.hid hg
  have HNO := Lib.hid hno
  clear hv0 hp hm hg hno
  unfold pK
  go_enter Tryz.func43, Tryz.ntmps43
  go_wp2_with fail
  go_loopw [2] (fun v wr => ∃ i : Nat, i ≤ hs.length ∧ v = .int .i64 i ∧ But (Own hs) w wr ∧ (∀ j h, hs[j]? = some h → (j < i → Fr 3 wr base h.a h.n h.c (List.replicate h.n (.int .i64 (-((h.m : Nat) : Int))))) ∧ (i ≤ j → ∃ us, Fr 3 wr base h.a h.n h.c us))) (fun v _ => hs.length - (intOf v).toNat)
  case atStart => exact ⟨0, Nat.zero_le _, rfl, But.refl _ _, fun j h hj => ⟨fun h' => absurd h' (Nat.not_lt_zero _), fun _ => hf h (List.mem_of_getElem? hj)⟩⟩
  case round =>
    obtain ⟨i, hi, rfl, hb, hall⟩ := hrel
    have HA := Lib.hid hall
    clear hall
    have cv := hb.cell hv HG.out
    by_cases hlt : i < hs.length
    · obtain ⟨h, hh⟩ : ∃ h, hs[i]? = some h := ⟨_, List.getElem?_eq_getElem hlt⟩
      have hrr := hr.but hb HNO.out
      obtain ⟨gr, cap, hv1, hgr, hgr2, hcap, hcm, hcur, hfz, hcell⟩ := hrr.at_ (by omega)
      have r0 := hcell (i * 3) _ ((cellsOf_at hh (j := 0) (by omega)).trans rfl)
      have r1 := hcell (i * 3 + 1) _ ((cellsOf_at hh (j := 1) (by omega)).trans rfl)
      have r2 := hcell (i * 3 + 2) _ ((cellsOf_at hh (j := 2) (by omega)).trans rfl)
      rw [hv1] at cv
      have HH := Lib.hid hh
      have HV1 := Lib.hid hv1
      have hi1 : (i : Int) < hs.length := by omega
      have hi0 : (0 : Int) ≤ i := by omega
      clear hh hv1 hcell hcur hfz hrr
      go_upto_region 4 with fail
      have bH : Blk (wr.alloc (.cells #[.slice h.a h.n h.c, .slice h.la h.ln h.lc, .int .i64 h.m] 92)) wr.heap.size 92 [.slice h.a h.n h.c, .slice h.la h.ln h.lc, .int .i64 h.m] := Blk.new wr _ _
      have kn : Keep wr (wr.alloc (.cells #[.slice h.a h.n h.c, .slice h.la h.ln h.lc, .int .i64 h.m] 92)) := Keep.alloc1 _ _
      change Code.wp _ _ _ _ (wr.alloc (.cells #[.slice h.a h.n h.c, .slice h.la h.ln h.lc, .int .i64 h.m] 92))
      obtain ⟨us, hu⟩ := (HA.out i h HH.out).2 (Nat.le_refl _)
      replace hu := hu.keep kn
      have hub := (hu.keep (Keep.refl _)).own_ne bH (by decide)
      generalize (wr.alloc (.cells #[.slice h.a h.n h.c, .slice h.la h.ln h.lc, .int .i64 h.m] 92)) = w1 at bH kn hu ⊢
      generalize wr.heap.size = gH at bH hub ⊢
      have HM := Lib.hid (HMM.out h (List.mem_of_getElem? HH.out))
      have hul := hu.len
      have hcp := hu.cap
      have hcpm := hu.capMax
      unfold maxLen at hcpm
      have hn63 : (h.n : Int) ≤ 9223372036854775807 := by omega
      clear r0 r1 r2 cv
      go_wp2_with fail
      obtain ⟨w2, hw2⟩ : ∃ x, x = w1 := ⟨w1, rfl⟩
      subst hw2
      go_loopw [4] (fun v wr => ∃ k : Nat, k ≤ h.n ∧ v = .int .i64 k ∧ But (fun q => ownB h.a h.c = some q) w2 wr ∧ Fr 3 wr base h.a h.n h.c (List.replicate k (.int .i64 (-((h.m : Nat) : Int))) ++ us.drop k)) (fun v _ => h.n - (intOf v).toNat)
      case atStart => exact ⟨0, Nat.zero_le _, rfl, But.refl _ _, hu⟩
      case round =>
        obtain ⟨k, hk, rfl, hb2, hfr⟩ := hrel
        have bR := bH.but hb2 (fun e => hub gH e rfl)
        have b0 := bR.cell_ (i := 0) rfl
        have b2 := bR.cell_ (i := 2) rfl
        by_cases hkl : k < h.n
        · obtain ⟨gb, hga, hgb1, hgb2⟩ := hfr.form (by omega)
          have hne : gb ≠ gH := fun e => hub gb (by rw [hga]; unfold ownB; rw [if_neg (by omega)]; rfl) e.symm
          rw [hga] at b0 hfr
          have HGA := Lib.hid hga
          have hz := hfr.rd.at_ (j := k) (by rw [hfr.len]; exact hkl)
          obtain ⟨b', o', e', ck⟩ := hz
          cases e'
          rw [Nat.zero_add] at ck
          obtain ⟨vk, ck⟩ : ∃ v, wr.cell? ⟨gb, k, none⟩ = some v := ⟨_, ck⟩
          have fk := hfr.frozen (by omega) k
          have hk0 : (0 : Int) ≤ k := by omega
          have hk1 : (k : Int) < h.n := by omega
          clear hga bR
          go_upto_region 7 with fail
          refine wp_region_noPanic ?_
          refine wp_region_held_drew (S := (fun w' => w'.cell? ⟨gH, 0, none⟩ = some (.slice (some ⟨gb, 0, none⟩) h.n h.c) ∧ w'.cell? ⟨gH, 2, none⟩ = some (.int .i64 (h.m : Int)))) (by kernel_rfl) ⟨b0, b2⟩ (fun hS => ?_)
          have kz : Keep wr wr.drew := (Keep.refl _).drew
          have cq := kz.cell ck
          have fq := (kz.frozen (p := ⟨gb, k, none⟩) hgb2).trans fk
          replace hfr := hfr.keep kz
          replace hb2 := hb2.grown2 (row := none) ⟨rfl, rfl, rfl, Nat.le_refl _, fun _ _ _ => rfl⟩ (fun _ e => by cases e) (c := wr.drew)
          generalize wr.drew = v0 at hS hfr hb2 cq fq ⊢
          clear kz
          refine wpAnyH_take (i := 0) (v := ?_) rfl (by kernel_rfl) (by kernel_rfl) (by kernel_rfl) (fun _ _ _ h => h) (Or.inl ⟨by rfl, ?_⟩) hS ?_
          rotate_left
          · (intro w hSw; (try dsimp only at hSw); go_simp; (first | done | with_reducible rfl))
          change wpAnyH _ _ _ _ _ _ _ (Act.put _ (some 28) _) _
          simp only [Act.put, List.setIfInBounds_toArray, List.set_cons_zero, List.set_cons_succ]
          refine wpAnyH_take (i := 1) (v := ?_) rfl (by kernel_rfl) (by kernel_rfl) (by kernel_rfl) (fun _ _ _ h => h) (Or.inl ⟨by rfl, ?_⟩) hS ?_
          rotate_left
          · (intro w hSw; (try dsimp only at hSw); go_simp; (first | done | with_reducible rfl))
          change wpAnyH _ _ _ _ _ _ _ (Act.put _ (some 29) _) _
          simp only [Act.put, List.setIfInBounds_toArray, List.set_cons_zero, List.set_cons_succ]
          refine wpAnyH_take (i := 2) (v := ?_) rfl (by kernel_rfl) (by kernel_rfl) (by kernel_rfl) (fun _ _ _ h => h) (Or.inl ⟨by rfl, ?_⟩) hS ?_
          rotate_left
          · (intro w hSw; (try dsimp only at hSw); go_simp; (first | done | with_reducible rfl))
          change wpAnyH _ _ _ _ _ _ _ (Act.put _ (some 30) _) _
          simp only [Act.put, List.setIfInBounds_toArray, List.set_cons_zero, List.set_cons_succ]
          refine wpAnyH_take (i := 3) (v := ?_) rfl (by kernel_rfl) (by kernel_rfl) (by kernel_rfl) (fun _ _ _ h => h) (Or.inl ⟨by rfl, ?_⟩) hS ?_
          rotate_left
          · (intro w hSw; (try dsimp only at hSw); go_simp; (first | done | with_reducible rfl))
          change wpAnyH _ _ _ _ _ _ _ (Act.put _ (some 31) _) _
          simp only [Act.put, List.setIfInBounds_toArray, List.set_cons_zero, List.set_cons_succ]
          refine wpAnyH_take (i := 4) (v := ?_) rfl (by kernel_rfl) (by kernel_rfl) (by kernel_rfl) (fun _ _ _ h => h) (Or.inl ⟨by rfl, ?_⟩) hS ?_
          rotate_left
          · (intro w hSw; (try dsimp only at hSw); go_simp; (first | done | with_reducible rfl))
          change wpAnyH _ _ _ _ _ _ _ (Act.put _ (some 32) _) _
          simp only [Act.put, List.setIfInBounds_toArray, List.set_cons_zero, List.set_cons_succ]
          refine wpAnyH_ready (rs := [5]) (by kernel_rfl) (by simp) ?_
          refine AllReadyH.cons rfl (fun K hK => ?_) AllReadyH.nil
          go_simp
          refine (markInt_f h.m v0 HM.out).mono ?_
          rintro e v0 ⟨rfl, rfl⟩
          go_wp2_with fail
          refine hK.out _ _ hS (fun hS => ?_)
          clear hK K
          try simp only [Act.put, List.setIfInBounds_toArray, List.set_cons_zero, List.set_cons_succ]
          refine wpAnyH_take (i := 6) (v := ?_) rfl (by kernel_rfl) (by kernel_rfl) (by kernel_rfl) (fun _ _ _ h => h) (Or.inl ⟨by rfl, ?_⟩) hS ?_
          rotate_left
          · (intro w hSw; (try dsimp only at hSw); go_simp; (first | done | with_reducible rfl))
          change wpAnyH _ _ _ _ _ _ _ (Act.put _ (some 34) _) _
          simp only [Act.put, List.setIfInBounds_toArray, List.set_cons_zero, List.set_cons_succ]
          refine wpAnyH_ready (rs := [7]) (by kernel_rfl) (by simp) ?_
          refine AllReadyH.cons rfl (fun K hK => ?_) AllReadyH.nil
          go_simp
          go_simp
          refine hK.out _ _ ⟨(World.cell?_setCell_other v0 ⟨gb, k, none⟩ ⟨gH, 0, none⟩ _ (fun e => by injection e with e1; exact hne e1)).trans hS.1, (World.cell?_setCell_other v0 ⟨gb, k, none⟩ ⟨gH, 2, none⟩ _ (fun e => by injection e with e1; exact hne e1)).trans hS.2⟩ (fun hS => ?_)
          clear hK K
          try simp only [Act.put, List.setIfInBounds_toArray]
          refine wpAnyH_done (by kernel_rfl) ?_ _
          refine NoPanic.normal ?_
          have hst := hfr.stored hkl (.int .i64 (-((h.m : Nat) : Int)))
          rw [mark_set (by omega)] at hst
          rw [← HGA.out] at hst
          have hb3 := hb2.setCell2 (p := ⟨gb, k, none⟩) (.inl (by rw [HGA.out]; unfold ownB; rw [if_neg (by omega)]; rfl)) (.int .i64 (-((h.m : Nat) : Int)))
          go_wp2_with fail
          go_roundw
          case rel => exact ⟨k + 1, by omega, by go_num, hb3, hst⟩
          case measure => simp [intOf]; omega
        · obtain rfl : k = h.n := by omega
          rw [List.drop_eq_nil_of_le (by omega), List.append_nil] at hfr
          have hb4 : But (Own hs) w wr := (hb.grown2 (row := none) ⟨kn.os, kn.tape, kn.output, kn.size, fun _ hi _ => kn.block hi⟩ (fun _ e => by cases e)).trans (hb2.mono fun q hq => ⟨h, List.mem_of_getElem? HH.out, hq⟩)
          have hall : ∀ j h', hs[j]? = some h' → (j < i + 1 → Fr 3 wr base h'.a h'.n h'.c (List.replicate h'.n (.int .i64 (-((h'.m : Nat) : Int))))) ∧ (i + 1 ≤ j → ∃ us, Fr 3 wr base h'.a h'.n h'.c us) := fun j h' hj => by
            by_cases hji : j = i
            · subst hji
              rw [HH.out] at hj
              cases hj
              exact ⟨fun _ => hfr, fun h' => by omega⟩
            · have hs1 : ∀ q, ownB h'.a h'.c = some q → ¬ (ownB h.a h.c = some q) := fun q h1 h2 => HP.out j i h' h hji hj HH.out q h1 h2
              exact ⟨fun h1 => (((HA.out j h' hj).1 (by omega)).keep kn).but hb2 hs1, fun h1 => by
                obtain ⟨us', h2⟩ := (HA.out j h' hj).2 (by omega)
                exact ⟨us', (h2.keep kn).but hb2 hs1⟩⟩
          have HALL := Lib.hid hall
          clear hall
          go_wp2_with fail
          go_roundw
          case rel => exact ⟨i + 1, by omega, by go_num, hb4, HALL.out⟩
          case measure => simp [intOf]; omega
    · rw [HV.out] at cv
      go_wp2_with fail
      go_end0
      exact ⟨rfl, hb, fun h hh => by
        obtain ⟨j, hj⟩ := List.getElem?_of_mem hh
        exact (HA.out j h hj).1 (by have := (List.getElem?_eq_some_iff.1 hj).1; omega)⟩
end Go.Proofs.YtnjjeanbopclhaaGreatDoor

namespace Go.Proofs.YtnjjeanbopclhaaGreatDoor
open Go.RowKit

/-- The same list as before; the longer slice aside. -/
def SameHd (h h' : Hd) : Prop := h'.a = h.a ∧ h'.c = h.c ∧ h'.n = h.n ∧ h'.m = h.m
theorem rep_take (n m : Nat) (z : Value) (h : n ≤ m) : (List.replicate m z).take n = List.replicate n z := by
  rw [List.take_replicate, Nat.min_eq_left h]
theorem fr_take {e : TypeId} {w : World} {base : Nat} {A : Option Addr} {n c : Nat} {vs : List Value} (h : Fr e w base A n c vs) {m : Nat} (hm : m ≤ n) : Fr e w base A m c (vs.take m) := by
  obtain ⟨h1, h2, h3, h4 | ⟨g, cur, hA, hb, hg, hs, ht⟩⟩ := h
  · exact ⟨by rw [List.length_take]; omega, by omega, h3, .inl h4⟩
  · exact ⟨by rw [List.length_take]; omega, by omega, h3, .inr ⟨g, cur, hA, hb, hg, hs, by rw [← ht, List.take_take, Nat.min_eq_left hm]⟩⟩

set_option maxRecDepth 100000 in
set_option maxHeartbeats 4000000 in
theorem growByte_f (g : Nat) (vb : Value) (hs : List Hd) (w : World) (base : Nat) (hv : w.cell? ⟨g, 1, none⟩ = some vb) (hr : HRow w base 89 vb hs)
    (hf : ∀ h ∈ hs, Fr 5 w base h.a h.n h.c (List.replicate h.n (.int .u8 (mk8 h.m)))) (hp : Aparts hs) (hm : ∀ h ∈ hs, h.m < 100000) (hn : ∀ h ∈ hs, h.n ≤ 1000000) (hg : ¬ Own hs g) (hgv : vb.ownBlock ≠ some g) (ln : hs.length ≤ 10000) (hbase : base ≤ w.heap.size) :
    Calls Tryz.prog 51 #[pK g] w fun e w' => e = .returned (.tuple #[]) ∧ But (fun q => Own hs q ∨ vb.ownBlock = some q) w w' ∧ ∃ hs', hs'.length = hs.length ∧ HRow w' base 89 vb hs' ∧
      ∀ (j : Nat) h', hs'[j]? = some h' → ∃ h, hs[j]? = some h ∧ SameHd h h' ∧ Fr 5 w' base h'.a h'.n h'.c (List.replicate h'.n (.int .u8 (mk8 h'.m))) ∧ h'.ln = h'.n + 40 ∧ Fr 5 w' base h'.la h'.ln h'.lc (List.replicate (h'.n + 40) (.int .u8 (mk8 h'.m))) := by
  have hno := hr.notOwn (fun h hh => ⟨_, hf h hh⟩) (by decide)
  obtain ⟨A0, c0, hv0⟩ := hr.val
  have HV := Lib.hid hv0
  have HP := Lib.hid hp
  have HMM := Lib.hid hm
  have HNN := Lib.hid hn
  have HG := Lib.hid hg
  have HGV := Lib.hid hgv
  have HNO := Lib.hid hno
  have HF := Lib.hid hf
  clear hv0 hp hm hn hg hno hf hgv
  have lt_own : ∀ h ∈ hs, ∀ q, ownB h.a h.c = some q → q < w.heap.size := fun h hh q hq => ((HF.out h hh).own_ge hq).2
  have HLT := Lib.hid lt_own
  clear lt_own
  unfold pK
  go_enter Tryz.func51, Tryz.ntmps51
  go_wp2_with fail
  go_loopw [2] (fun v wr => ∃ (i : Nat) (hs' : List Hd), i ≤ hs.length ∧ v = .int .i64 i ∧ But (fun q => Own hs q ∨ vb.ownBlock = some q) w wr ∧ hs'.length = hs.length ∧ HRow wr base 89 vb hs' ∧
      (∀ j h', hs'[j]? = some h' → ∃ h, hs[j]? = some h ∧ SameHd h h' ∧ Fr 5 wr base h'.a h'.n h'.c (List.replicate h'.n (.int .u8 (mk8 h'.m))) ∧ (j < i → h'.ln = h'.n + 40 ∧ Fr 5 wr base h'.la h'.ln h'.lc (List.replicate (h'.n + 40) (.int .u8 (mk8 h'.m))) ∧ ∀ q, ownB h'.la h'.lc = some q → ownB h.a h.c = some q ∨ w.heap.size ≤ q))) (fun v _ => hs.length - (intOf v).toNat)
  case atStart => exact ⟨0, hs, Nat.zero_le _, rfl, But.refl _ _, rfl, hr, fun j h hj => ⟨h, hj, ⟨rfl, rfl, rfl, rfl⟩, HF.out h (List.mem_of_getElem? hj), fun h' => absurd h' (Nat.not_lt_zero _)⟩⟩
  case round =>
    obtain ⟨i, hs', hi, rfl, hb, hl', hrr, hall⟩ := hrel
    have HA := Lib.hid hall
    have HL := Lib.hid hl'
    clear hall hl'
    have cv := hb.cell hv (fun h => h.elim HG.out (fun e => HGV.out e))
    by_cases hlt : i < hs.length
    · obtain ⟨h, hh⟩ : ∃ h, hs'[i]? = some h := ⟨_, List.getElem?_eq_getElem (by rw [HL.out]; exact hlt)⟩
      obtain ⟨ho, hho, hsame, hfo, -⟩ := HA.out i h hh
      obtain ⟨gr, cap, hv1, hgr, hgr2, hcap, hcm, hcur, hfz, hcell⟩ := hrr.at_ (by rw [HL.out]; omega)
      have r0 := hcell (i * 3) _ ((cellsOf_at hh (j := 0) (by omega)).trans rfl)
      have r1 := hcell (i * 3 + 1) _ ((cellsOf_at hh (j := 1) (by omega)).trans rfl)
      have r2 := hcell (i * 3 + 2) _ ((cellsOf_at hh (j := 2) (by omega)).trans rfl)
      have hf1 := hfz (i * 3 + 1)
      rw [hv1, HL.out] at cv
      have HH := Lib.hid hh
      have HV1 := Lib.hid hv1
      have HHO := Lib.hid hho
      have HSM := Lib.hid hsame
      have hi1 : (i : Int) < hs.length := by omega
      have hi0 : (0 : Int) ≤ i := by omega
      have hmn : h.n ≤ 1000000 := by rw [HSM.out.2.2.1]; exact HNN.out ho (List.mem_of_getElem? HHO.out)
      have HM := Lib.hid (show h.m < 100000 by rw [HSM.out.2.2.2]; exact HMM.out ho (List.mem_of_getElem? HHO.out))
      have hbs : base ≤ wr.heap.size := Nat.le_trans hbase hb.size
      have HCUR := Lib.hid hcur
      clear hh hv1 hcell hcur hfz hho hsame
      go_upto_region 4 with fail
      have bH : Blk (wr.alloc (.cells #[.slice h.a h.n h.c, .slice h.la h.ln h.lc, .int .i64 h.m] 89)) wr.heap.size 89 [.slice h.a h.n h.c, .slice h.la h.ln h.lc, .int .i64 h.m] := Blk.new wr _ _
      have kn : Keep wr (wr.alloc (.cells #[.slice h.a h.n h.c, .slice h.la h.ln h.lc, .int .i64 h.m] 89)) := Keep.alloc1 _ _
      change Code.wp _ _ _ _ (wr.alloc (.cells #[.slice h.a h.n h.c, .slice h.la h.ln h.lc, .int .i64 h.m] 89))
      have hu := hfo.keep kn
      have hub := hu.own_ne bH (by decide)
      have hwr := kn.size
      replace r0 := kn.cell r0
      replace r1 := kn.cell r1
      replace r2 := kn.cell r2
      replace cv := kn.cell cv
      replace hf1 := (kn.frozen (p := ⟨gr, i * 3 + 1, none⟩) hgr2).trans hf1
      have hrH : gr ≠ wr.heap.size := by omega
      replace hbs := Nat.le_trans hbs hwr
      generalize hw1d : (wr.alloc (.cells #[.slice h.a h.n h.c, .slice h.la h.ln h.lc, .int .i64 h.m] 89)) = w1 at bH kn hu r0 r1 r2 cv hf1 hbs hwr ⊢
      clear hw1d
      generalize wr.heap.size = gH at bH hub hrH hwr ⊢
      have b0 := bH.cell_ (i := 0) rfl
      go_wp2_with fail
      obtain ⟨w2, hw2⟩ : ∃ x, x = w1 := ⟨w1, rfl⟩
      subst hw2
      go_loopw [4, 5] (fun u v wr => ∃ (q : Nat) (A : Option Addr) (c : Nat), q ≤ 40 ∧ v = .int .i64 q ∧ u = .slice A (h.n + q) c ∧ But (fun x => ownB h.a h.c = some x) w2 wr ∧ Fr 5 wr base h.a h.n h.c (List.replicate h.n (.int .u8 (mk8 h.m))) ∧ Fr 5 wr base A (h.n + q) c (List.replicate (h.n + q) (.int .u8 (mk8 h.m))) ∧ ((A = h.a ∧ c = h.c) ∨ ∀ x, ownB A c = some x → w2.heap.size ≤ x)) (fun _ v _ => 40 - (intOf v).toNat)
      case atStart => exact ⟨0, h.a, h.c, Nat.zero_le _, rfl, rfl, But.refl _ _, hu, hu, .inl ⟨rfl, rfl⟩⟩
      case round =>
        obtain ⟨q, A, c, hq, rfl, rfl, hb2, hfr, hfl, hor⟩ := hrel
        have HOR := Lib.hid hor
        clear hor
        have bR := bH.but hb2 (fun e => hub gH e rfl)
        have b2 := bR.cell_ (i := 2) rfl
        have hbw := Nat.le_trans hbs hb2.size
        by_cases hql : q < 40
        · have hmk := markByte_f h.m wr HM.out
          have hq1 : (q : Int) < 40 := by omega
          go_wp2_with fail
          refine hmk.mono ?_
          rintro e wr ⟨rfl, rfl⟩
          clear hmk
          go_wp2_with (at_builtin; refine wpList_append_x _ rfl _ _ 25 rfl base 5 (.int .u8 0) 1 Tryz.underlying25 infoByte rfl A (h.n + q) c _ rfl (hfl.keep (Keep.alloc1 _ _)) (some ⟨wr.heap.size, 0, none⟩) 1 1 [.int .u8 (mk8 h.m)] (by decide) rfl rfl (Rd.one _ _ _) (one_rep _ rfl) ?c1 ?c2 ?c3 ?_)
          case c1 => unfold maxLen; omega
          case c2 => omega
          case c3 => simp; omega
          intro A' c' w3 happ
          obtain ⟨hf3, hcase⟩ := happ
          rw [rep_snoc] at hf3
          have ka := Keep.alloc1 wr (.cells #[.int .u8 (mk8 h.m)] 5)
          have hb3 : But (fun x => ownB h.a h.c = some x) w2 (wr.alloc (.cells #[.int .u8 (mk8 h.m)] 5)) := hb2.grown2 (row := none) ⟨ka.os, ka.tape, ka.output, ka.size, fun _ hi _ => ka.block hi⟩ (fun _ e => by cases e)
          have hres : But (fun x => ownB h.a h.c = some x) w2 w3 ∧ Fr 5 w3 base h.a h.n h.c (List.replicate h.n (.int .u8 (mk8 h.m))) ∧ ((A' = h.a ∧ c' = h.c) ∨ ∀ x, ownB A' c' = some x → w2.heap.size ≤ x) := by
            have hs2 := hb2.size
            rcases hcase with ⟨rfl, rfl, hgrow⟩ | ⟨hgrow, hown⟩
            · rcases HOR.out with ⟨rfl, rfl⟩ | hnew
              · refine ⟨hb3.grown2 hgrow (fun x hx => .inl hx), ?_, .inl ⟨rfl, rfl⟩⟩
                have := fr_take hf3 (m := h.n) (by omega)
                rwa [rep_take _ _ _ (by omega)] at this
              · exact ⟨hb3.grown2 hgrow (fun x hx => .inr (hnew x hx)), (hfr.keep ka).grown hgrow (fun x hx e => by
                  have h1 := hnew x e
                  have h2 := (hu.own_ge hx).2
                  omega), .inr hnew⟩
            · refine ⟨hb3.grown2 hgrow (fun x hx => by cases hx), (hfr.keep ka).grown hgrow (fun x hx e => by cases e), .inr fun x hx => ?_⟩
              rw [hown] at hx
              injection hx with hx
              have := ka.size
              omega
          obtain ⟨hb4, hf4, hor4⟩ := hres
          have HOR4 := Lib.hid hor4
          clear hcase hor4 hb3 ka
          go_wp2_with fail
          go_roundw
          case rel => exact ⟨q + 1, A', c', by omega, by go_num, by rw [Nat.add_assoc], hb4, hf4, hf3, HOR4.out⟩
          case measure => simp [intOf]; omega
        · obtain rfl : q = 40 := by omega
          have hne : ¬ ownB h.a h.c = some gr := fun e => by
            obtain ⟨cur, hcur⟩ := HCUR.out
            exact hfo.own_ne hcur (by decide) gr e rfl
          have hneg : ¬ ownB h.a h.c = some g := fun e => HG.out ⟨ho, List.mem_of_getElem? HHO.out, by rw [← HSM.out.1, ← HSM.out.2.1]; exact e⟩
          have r0' := hb2.cell r0 hne
          have r1' := hb2.cell r1 hne
          have r2' := hb2.cell r2 hne
          have cv' := hb2.cell cv hneg
          have hf1' : wr.frozen? ⟨gr, i * 3 + 1, none⟩ = false := (World.frozen?_of_block (hb2.block gr (World.block_lt_of_cell? w2 _ r0) hne)).trans hf1
          have hrow2 := ((hrr.keep kn).but hb2 (fun q hq e => by rw [HV1.out] at hq; cases hq; exact hne e))
          rw [HV1.out] at hrow2
          have hset := hrow2.set_ HH.out A (h.n + 40) c
          rw [← HV1.out] at hset
          have hgr0 : w.heap.size ≤ gr ∨ vb.ownBlock = some gr := .inr (by rw [HV1.out]; rfl)
          have hb5 : But (fun x => Own hs x ∨ vb.ownBlock = some x) w (wr.setCell ⟨gr, i * 3 + 1, none⟩ (.slice A (h.n + 40) c)) := by
            have h1 : But (fun x => Own hs x ∨ vb.ownBlock = some x) w w2 := hb.grown2 (row := none) ⟨kn.os, kn.tape, kn.output, kn.size, fun _ hi _ => kn.block hi⟩ (fun _ e => by cases e)
            have h2 := h1.trans (hb2.mono fun x hx => (.inl ⟨ho, List.mem_of_getElem? HHO.out, by rw [← HSM.out.1, ← HSM.out.2.1]; exact hx⟩ : Own hs x ∨ vb.ownBlock = some x))
            exact h2.setCell2 (p := ⟨gr, i * 3 + 1, none⟩) (.inl (.inr (by rw [HV1.out]; rfl))) _
          have hlow := hb.size
          have hkn := kn.size
          have hall : ∀ j h', (hs'.set i (h.long A (h.n + 40) c))[j]? = some h' → ∃ ho, hs[j]? = some ho ∧ SameHd ho h' ∧ Fr 5 (wr.setCell ⟨gr, i * 3 + 1, none⟩ (.slice A (h.n + 40) c)) base h'.a h'.n h'.c (List.replicate h'.n (.int .u8 (mk8 h'.m))) ∧ (j < i + 1 → h'.ln = h'.n + 40 ∧ Fr 5 (wr.setCell ⟨gr, i * 3 + 1, none⟩ (.slice A (h.n + 40) c)) base h'.la h'.ln h'.lc (List.replicate (h'.n + 40) (.int .u8 (mk8 h'.m))) ∧ ∀ q, ownB h'.la h'.lc = some q → ownB ho.a ho.c = some q ∨ w.heap.size ≤ q) := by
            intro j h' hj
            obtain ⟨cur, hcur⟩ := (hrow2.cur (k := gr) rfl)
            by_cases hji : i = j
            · subst hji
              rw [List.getElem?_set, if_pos rfl, if_pos (by rw [HL.out]; exact hlt)] at hj
              cases hj
              refine ⟨ho, HHO.out, HSM.out, hfr.setCell (fun x hx => hfr.own_ne hcur (by decide) x hx) (p := ⟨gr, i * 3 + 1, none⟩) _, fun _ => ⟨rfl, hfl.setCell (fun x hx => hfl.own_ne hcur (by decide) x hx) (p := ⟨gr, i * 3 + 1, none⟩) _, fun x hx => ?_⟩⟩
              rcases HOR.out with ⟨rfl, rfl⟩ | hnew
              · left
                rw [← HSM.out.1, ← HSM.out.2.1]
                exact hx
              · right
                have h1 := hnew x hx
                omega
            · rw [List.getElem?_set_ne hji] at hj
              obtain ⟨ho', hho', hsm', hfo', hrest⟩ := HA.out j h' hj
              have hs1 : ∀ x, ownB h'.a h'.c = some x → ¬ (ownB h.a h.c = some x) := fun x h1 h2 => HP.out j i ho' ho (Ne.symm hji) hho' HHO.out x (by rw [← hsm'.1, ← hsm'.2.1]; exact h1) (by rw [← HSM.out.1, ← HSM.out.2.1]; exact h2)
              have hff := (hfo'.keep kn).but hb2 hs1
              refine ⟨ho', hho', hsm', hff.setCell (fun x hx => hff.own_ne hcur (by decide) x hx) (p := ⟨gr, i * 3 + 1, none⟩) _, fun hjl => ?_⟩
              obtain ⟨e1, e2, e3⟩ := hrest (by omega)
              have hs2 : ∀ x, ownB h'.la h'.lc = some x → ¬ (ownB h.a h.c = some x) := fun x h1 h2 => by
                have h3 : ownB ho.a ho.c = some x := by rw [← HSM.out.1, ← HSM.out.2.1]; exact h2
                rcases e3 x h1 with h4 | h4
                · exact HP.out j i ho' ho (Ne.symm hji) hho' HHO.out x h4 h3
                · have := HLT.out ho (List.mem_of_getElem? HHO.out) x h3
                  omega
              have hfg := (e2.keep kn).but hb2 hs2
              exact ⟨e1, hfg.setCell (fun x hx => hfg.own_ne hcur (by decide) x hx) (p := ⟨gr, i * 3 + 1, none⟩) _, e3⟩
          have HALL := Lib.hid hall
          have hl2 : (hs'.set i (h.long A (h.n + 40) c)).length = hs.length := by rw [List.length_set]; exact HL.out
          have HL2 := Lib.hid hl2
          have HSET : HRow (wr.setCell ⟨gr, i * 3 + 1, none⟩ (.slice A (h.n + 40) c)) base 89 vb (hs'.set i (h.long A (h.n + 40) c)) := hset
          clear hall hl2 r0 r1 r2 cv hgr0 hfl hfr hset hrow2
          go_wp2_with fail
          go_roundw
          case rel => exact ⟨i + 1, _, by omega, by go_num, hb5, HL2.out, HSET, HALL.out⟩
          case measure => simp [intOf]; omega
    · rw [HV.out] at cv
      go_wp2_with fail
      go_end0
      exact ⟨rfl, hb, hs', HL.out, hrr, fun j h' hj => by
        obtain ⟨h, h1, h2, h3, h4⟩ := HA.out j h' hj
        obtain ⟨h5, h6, -⟩ := h4 (by have := (List.getElem?_eq_some_iff.1 hj).1; have := HL.out; omega)
        exact ⟨h, h1, h2, h3, h5, h6⟩⟩

set_option maxRecDepth 100000 in
set_option maxHeartbeats 4000000 in
theorem growInt_f (g : Nat) (vb : Value) (hs : List Hd) (w : World) (base : Nat) (hv : w.cell? ⟨g, 2, none⟩ = some vb) (hr : HRow w base 92 vb hs)
    (hf : ∀ h ∈ hs, Fr 3 w base h.a h.n h.c (List.replicate h.n (.int .i64 (-((h.m : Nat) : Int))))) (hp : Aparts hs) (hm : ∀ h ∈ hs, h.m < 100000) (hn : ∀ h ∈ hs, h.n ≤ 1000000) (hg : ¬ Own hs g) (hgv : vb.ownBlock ≠ some g) (ln : hs.length ≤ 10000) (hbase : base ≤ w.heap.size) :
    Calls Tryz.prog 52 #[pK g] w fun e w' => e = .returned (.tuple #[]) ∧ But (fun q => Own hs q ∨ vb.ownBlock = some q) w w' ∧ ∃ hs', hs'.length = hs.length ∧ HRow w' base 92 vb hs' ∧
      ∀ (j : Nat) h', hs'[j]? = some h' → ∃ h, hs[j]? = some h ∧ SameHd h h' ∧ Fr 3 w' base h'.a h'.n h'.c (List.replicate h'.n (.int .i64 (-((h'.m : Nat) : Int)))) ∧ h'.ln = h'.n + 40 ∧ Fr 3 w' base h'.la h'.ln h'.lc (List.replicate (h'.n + 40) (.int .i64 (-((h'.m : Nat) : Int)))) := by
  have hno := hr.notOwn (fun h hh => ⟨_, hf h hh⟩) (by decide)
  obtain ⟨A0, c0, hv0⟩ := hr.val
  have HV := Lib.hid hv0
  have HP := Lib.hid hp
  have HMM := Lib.hid hm
  have HNN := Lib.hid hn
  have HG := Lib.hid hg
  have HGV := Lib.hid hgv
  have HNO := Lib.hid hno
  have HF := Lib.hid hf
  clear hv0 hp hm hn hg hno hf hgv
  have lt_own : ∀ h ∈ hs, ∀ q, ownB h.a h.c = some q → q < w.heap.size := fun h hh q hq => ((HF.out h hh).own_ge hq).2
  have HLT := Lib.hid lt_own
  clear lt_own
  unfold pK
  go_enter Tryz.func52, Tryz.ntmps52
  go_wp2_with fail
  go_loopw [2] (fun v wr => ∃ (i : Nat) (hs' : List Hd), i ≤ hs.length ∧ v = .int .i64 i ∧ But (fun q => Own hs q ∨ vb.ownBlock = some q) w wr ∧ hs'.length = hs.length ∧ HRow wr base 92 vb hs' ∧
      (∀ j h', hs'[j]? = some h' → ∃ h, hs[j]? = some h ∧ SameHd h h' ∧ Fr 3 wr base h'.a h'.n h'.c (List.replicate h'.n (.int .i64 (-((h'.m : Nat) : Int)))) ∧ (j < i → h'.ln = h'.n + 40 ∧ Fr 3 wr base h'.la h'.ln h'.lc (List.replicate (h'.n + 40) (.int .i64 (-((h'.m : Nat) : Int)))) ∧ ∀ q, ownB h'.la h'.lc = some q → ownB h.a h.c = some q ∨ w.heap.size ≤ q))) (fun v _ => hs.length - (intOf v).toNat)
  case atStart => exact ⟨0, hs, Nat.zero_le _, rfl, But.refl _ _, rfl, hr, fun j h hj => ⟨h, hj, ⟨rfl, rfl, rfl, rfl⟩, HF.out h (List.mem_of_getElem? hj), fun h' => absurd h' (Nat.not_lt_zero _)⟩⟩
  case round =>
    obtain ⟨i, hs', hi, rfl, hb, hl', hrr, hall⟩ := hrel
    have HA := Lib.hid hall
    have HL := Lib.hid hl'
    clear hall hl'
    have cv := hb.cell hv (fun h => h.elim HG.out (fun e => HGV.out e))
    by_cases hlt : i < hs.length
    · obtain ⟨h, hh⟩ : ∃ h, hs'[i]? = some h := ⟨_, List.getElem?_eq_getElem (by rw [HL.out]; exact hlt)⟩
      obtain ⟨ho, hho, hsame, hfo, -⟩ := HA.out i h hh
      obtain ⟨gr, cap, hv1, hgr, hgr2, hcap, hcm, hcur, hfz, hcell⟩ := hrr.at_ (by rw [HL.out]; omega)
      have r0 := hcell (i * 3) _ ((cellsOf_at hh (j := 0) (by omega)).trans rfl)
      have r1 := hcell (i * 3 + 1) _ ((cellsOf_at hh (j := 1) (by omega)).trans rfl)
      have r2 := hcell (i * 3 + 2) _ ((cellsOf_at hh (j := 2) (by omega)).trans rfl)
      have hf1 := hfz (i * 3 + 1)
      rw [hv1, HL.out] at cv
      have HH := Lib.hid hh
      have HV1 := Lib.hid hv1
      have HHO := Lib.hid hho
      have HSM := Lib.hid hsame
      have hi1 : (i : Int) < hs.length := by omega
      have hi0 : (0 : Int) ≤ i := by omega
      have hmn : h.n ≤ 1000000 := by rw [HSM.out.2.2.1]; exact HNN.out ho (List.mem_of_getElem? HHO.out)
      have HM := Lib.hid (show h.m < 100000 by rw [HSM.out.2.2.2]; exact HMM.out ho (List.mem_of_getElem? HHO.out))
      have hbs : base ≤ wr.heap.size := Nat.le_trans hbase hb.size
      have HCUR := Lib.hid hcur
      clear hh hv1 hcell hcur hfz hho hsame
      go_upto_region 4 with fail
      have bH : Blk (wr.alloc (.cells #[.slice h.a h.n h.c, .slice h.la h.ln h.lc, .int .i64 h.m] 92)) wr.heap.size 92 [.slice h.a h.n h.c, .slice h.la h.ln h.lc, .int .i64 h.m] := Blk.new wr _ _
      have kn : Keep wr (wr.alloc (.cells #[.slice h.a h.n h.c, .slice h.la h.ln h.lc, .int .i64 h.m] 92)) := Keep.alloc1 _ _
      change Code.wp _ _ _ _ (wr.alloc (.cells #[.slice h.a h.n h.c, .slice h.la h.ln h.lc, .int .i64 h.m] 92))
      have hu := hfo.keep kn
      have hub := hu.own_ne bH (by decide)
      have hwr := kn.size
      replace r0 := kn.cell r0
      replace r1 := kn.cell r1
      replace r2 := kn.cell r2
      replace cv := kn.cell cv
      replace hf1 := (kn.frozen (p := ⟨gr, i * 3 + 1, none⟩) hgr2).trans hf1
      have hrH : gr ≠ wr.heap.size := by omega
      replace hbs := Nat.le_trans hbs hwr
      generalize hw1d : (wr.alloc (.cells #[.slice h.a h.n h.c, .slice h.la h.ln h.lc, .int .i64 h.m] 92)) = w1 at bH kn hu r0 r1 r2 cv hf1 hbs hwr ⊢
      clear hw1d
      generalize wr.heap.size = gH at bH hub hrH hwr ⊢
      have b0 := bH.cell_ (i := 0) rfl
      go_wp2_with fail
      obtain ⟨w2, hw2⟩ : ∃ x, x = w1 := ⟨w1, rfl⟩
      subst hw2
      go_loopw [4, 5] (fun u v wr => ∃ (q : Nat) (A : Option Addr) (c : Nat), q ≤ 40 ∧ v = .int .i64 q ∧ u = .slice A (h.n + q) c ∧ But (fun x => ownB h.a h.c = some x) w2 wr ∧ Fr 3 wr base h.a h.n h.c (List.replicate h.n (.int .i64 (-((h.m : Nat) : Int)))) ∧ Fr 3 wr base A (h.n + q) c (List.replicate (h.n + q) (.int .i64 (-((h.m : Nat) : Int)))) ∧ ((A = h.a ∧ c = h.c) ∨ ∀ x, ownB A c = some x → w2.heap.size ≤ x)) (fun _ v _ => 40 - (intOf v).toNat)
      case atStart => exact ⟨0, h.a, h.c, Nat.zero_le _, rfl, rfl, But.refl _ _, hu, hu, .inl ⟨rfl, rfl⟩⟩
      case round =>
        obtain ⟨q, A, c, hq, rfl, rfl, hb2, hfr, hfl, hor⟩ := hrel
        have HOR := Lib.hid hor
        clear hor
        have bR := bH.but hb2 (fun e => hub gH e rfl)
        have b2 := bR.cell_ (i := 2) rfl
        have hbw := Nat.le_trans hbs hb2.size
        by_cases hql : q < 40
        · have hmk := markInt_f h.m wr HM.out
          have hq1 : (q : Int) < 40 := by omega
          go_wp2_with fail
          refine hmk.mono ?_
          rintro e wr ⟨rfl, rfl⟩
          clear hmk
          go_wp2_with (at_builtin; refine wpList_append_x _ rfl _ _ 26 rfl base 3 (.int .i64 0) 8 Tryz.underlying26 infoInt rfl A (h.n + q) c _ rfl (hfl.keep (Keep.alloc1 _ _)) (some ⟨wr.heap.size, 0, none⟩) 1 1 [.int .i64 (-((h.m : Nat) : Int))] (by decide) rfl rfl (Rd.one _ _ _) (one_rep _ rfl) ?c1 ?c2 ?c3 ?_)
          case c1 => unfold maxLen; omega
          case c2 => omega
          case c3 => simp; omega
          intro A' c' w3 happ
          obtain ⟨hf3, hcase⟩ := happ
          rw [rep_snoc] at hf3
          have ka := Keep.alloc1 wr (.cells #[.int .i64 (-((h.m : Nat) : Int))] 3)
          have hb3 : But (fun x => ownB h.a h.c = some x) w2 (wr.alloc (.cells #[.int .i64 (-((h.m : Nat) : Int))] 3)) := hb2.grown2 (row := none) ⟨ka.os, ka.tape, ka.output, ka.size, fun _ hi _ => ka.block hi⟩ (fun _ e => by cases e)
          have hres : But (fun x => ownB h.a h.c = some x) w2 w3 ∧ Fr 3 w3 base h.a h.n h.c (List.replicate h.n (.int .i64 (-((h.m : Nat) : Int)))) ∧ ((A' = h.a ∧ c' = h.c) ∨ ∀ x, ownB A' c' = some x → w2.heap.size ≤ x) := by
            have hs2 := hb2.size
            rcases hcase with ⟨rfl, rfl, hgrow⟩ | ⟨hgrow, hown⟩
            · rcases HOR.out with ⟨rfl, rfl⟩ | hnew
              · refine ⟨hb3.grown2 hgrow (fun x hx => .inl hx), ?_, .inl ⟨rfl, rfl⟩⟩
                have := fr_take hf3 (m := h.n) (by omega)
                rwa [rep_take _ _ _ (by omega)] at this
              · exact ⟨hb3.grown2 hgrow (fun x hx => .inr (hnew x hx)), (hfr.keep ka).grown hgrow (fun x hx e => by
                  have h1 := hnew x e
                  have h2 := (hu.own_ge hx).2
                  omega), .inr hnew⟩
            · refine ⟨hb3.grown2 hgrow (fun x hx => by cases hx), (hfr.keep ka).grown hgrow (fun x hx e => by cases e), .inr fun x hx => ?_⟩
              rw [hown] at hx
              injection hx with hx
              have := ka.size
              omega
          obtain ⟨hb4, hf4, hor4⟩ := hres
          have HOR4 := Lib.hid hor4
          clear hcase hor4 hb3 ka
          go_wp2_with fail
          go_roundw
          case rel => exact ⟨q + 1, A', c', by omega, by go_num, by rw [Nat.add_assoc], hb4, hf4, hf3, HOR4.out⟩
          case measure => simp [intOf]; omega
        · obtain rfl : q = 40 := by omega
          have hne : ¬ ownB h.a h.c = some gr := fun e => by
            obtain ⟨cur, hcur⟩ := HCUR.out
            exact hfo.own_ne hcur (by decide) gr e rfl
          have hneg : ¬ ownB h.a h.c = some g := fun e => HG.out ⟨ho, List.mem_of_getElem? HHO.out, by rw [← HSM.out.1, ← HSM.out.2.1]; exact e⟩
          have r0' := hb2.cell r0 hne
          have r1' := hb2.cell r1 hne
          have r2' := hb2.cell r2 hne
          have cv' := hb2.cell cv hneg
          have hf1' : wr.frozen? ⟨gr, i * 3 + 1, none⟩ = false := (World.frozen?_of_block (hb2.block gr (World.block_lt_of_cell? w2 _ r0) hne)).trans hf1
          have hrow2 := ((hrr.keep kn).but hb2 (fun q hq e => by rw [HV1.out] at hq; cases hq; exact hne e))
          rw [HV1.out] at hrow2
          have hset := hrow2.set_ HH.out A (h.n + 40) c
          rw [← HV1.out] at hset
          have hgr0 : w.heap.size ≤ gr ∨ vb.ownBlock = some gr := .inr (by rw [HV1.out]; rfl)
          have hb5 : But (fun x => Own hs x ∨ vb.ownBlock = some x) w (wr.setCell ⟨gr, i * 3 + 1, none⟩ (.slice A (h.n + 40) c)) := by
            have h1 : But (fun x => Own hs x ∨ vb.ownBlock = some x) w w2 := hb.grown2 (row := none) ⟨kn.os, kn.tape, kn.output, kn.size, fun _ hi _ => kn.block hi⟩ (fun _ e => by cases e)
            have h2 := h1.trans (hb2.mono fun x hx => (.inl ⟨ho, List.mem_of_getElem? HHO.out, by rw [← HSM.out.1, ← HSM.out.2.1]; exact hx⟩ : Own hs x ∨ vb.ownBlock = some x))
            exact h2.setCell2 (p := ⟨gr, i * 3 + 1, none⟩) (.inl (.inr (by rw [HV1.out]; rfl))) _
          have hlow := hb.size
          have hkn := kn.size
          have hall : ∀ j h', (hs'.set i (h.long A (h.n + 40) c))[j]? = some h' → ∃ ho, hs[j]? = some ho ∧ SameHd ho h' ∧ Fr 3 (wr.setCell ⟨gr, i * 3 + 1, none⟩ (.slice A (h.n + 40) c)) base h'.a h'.n h'.c (List.replicate h'.n (.int .i64 (-((h'.m : Nat) : Int)))) ∧ (j < i + 1 → h'.ln = h'.n + 40 ∧ Fr 3 (wr.setCell ⟨gr, i * 3 + 1, none⟩ (.slice A (h.n + 40) c)) base h'.la h'.ln h'.lc (List.replicate (h'.n + 40) (.int .i64 (-((h'.m : Nat) : Int)))) ∧ ∀ q, ownB h'.la h'.lc = some q → ownB ho.a ho.c = some q ∨ w.heap.size ≤ q) := by
            intro j h' hj
            obtain ⟨cur, hcur⟩ := (hrow2.cur (k := gr) rfl)
            by_cases hji : i = j
            · subst hji
              rw [List.getElem?_set, if_pos rfl, if_pos (by rw [HL.out]; exact hlt)] at hj
              cases hj
              refine ⟨ho, HHO.out, HSM.out, hfr.setCell (fun x hx => hfr.own_ne hcur (by decide) x hx) (p := ⟨gr, i * 3 + 1, none⟩) _, fun _ => ⟨rfl, hfl.setCell (fun x hx => hfl.own_ne hcur (by decide) x hx) (p := ⟨gr, i * 3 + 1, none⟩) _, fun x hx => ?_⟩⟩
              rcases HOR.out with ⟨rfl, rfl⟩ | hnew
              · left
                rw [← HSM.out.1, ← HSM.out.2.1]
                exact hx
              · right
                have h1 := hnew x hx
                omega
            · rw [List.getElem?_set_ne hji] at hj
              obtain ⟨ho', hho', hsm', hfo', hrest⟩ := HA.out j h' hj
              have hs1 : ∀ x, ownB h'.a h'.c = some x → ¬ (ownB h.a h.c = some x) := fun x h1 h2 => HP.out j i ho' ho (Ne.symm hji) hho' HHO.out x (by rw [← hsm'.1, ← hsm'.2.1]; exact h1) (by rw [← HSM.out.1, ← HSM.out.2.1]; exact h2)
              have hff := (hfo'.keep kn).but hb2 hs1
              refine ⟨ho', hho', hsm', hff.setCell (fun x hx => hff.own_ne hcur (by decide) x hx) (p := ⟨gr, i * 3 + 1, none⟩) _, fun hjl => ?_⟩
              obtain ⟨e1, e2, e3⟩ := hrest (by omega)
              have hs2 : ∀ x, ownB h'.la h'.lc = some x → ¬ (ownB h.a h.c = some x) := fun x h1 h2 => by
                have h3 : ownB ho.a ho.c = some x := by rw [← HSM.out.1, ← HSM.out.2.1]; exact h2
                rcases e3 x h1 with h4 | h4
                · exact HP.out j i ho' ho (Ne.symm hji) hho' HHO.out x h4 h3
                · have := HLT.out ho (List.mem_of_getElem? HHO.out) x h3
                  omega
              have hfg := (e2.keep kn).but hb2 hs2
              exact ⟨e1, hfg.setCell (fun x hx => hfg.own_ne hcur (by decide) x hx) (p := ⟨gr, i * 3 + 1, none⟩) _, e3⟩
          have HALL := Lib.hid hall
          have hl2 : (hs'.set i (h.long A (h.n + 40) c)).length = hs.length := by rw [List.length_set]; exact HL.out
          have HL2 := Lib.hid hl2
          have HSET : HRow (wr.setCell ⟨gr, i * 3 + 1, none⟩ (.slice A (h.n + 40) c)) base 92 vb (hs'.set i (h.long A (h.n + 40) c)) := hset
          clear hall hl2 r0 r1 r2 cv hgr0 hfl hfr hset hrow2
          go_wp2_with fail
          go_roundw
          case rel => exact ⟨i + 1, _, by omega, by go_num, hb5, HL2.out, HSET, HALL.out⟩
          case measure => simp [intOf]; omega
    · rw [HV.out] at cv
      go_wp2_with fail
      go_end0
      exact ⟨rfl, hb, hs', HL.out, hrr, fun j h' hj => by
        obtain ⟨h, h1, h2, h3, h4⟩ := HA.out j h' hj
        obtain ⟨h5, h6, -⟩ := h4 (by have := (List.getElem?_eq_some_iff.1 hj).1; have := HL.out; omega)
        exact ⟨h, h1, h2, h3, h5, h6⟩⟩
end Go.Proofs.YtnjjeanbopclhaaGreatDoor

namespace Go.Proofs.YtnjjeanbopclhaaGreatDoor
open Go.RowKit

set_option maxRecDepth 100000 in
set_option maxHeartbeats 4000000 in
theorem lookByte_f (g : Nat) (vb : Value) (hs : List Hd) (w : World) (base : Nat) (hv : w.cell? ⟨g, 1, none⟩ = some vb) (hr : HRow w base 89 vb hs)
    (hf : ∀ h ∈ hs, h.ln = h.n + 40 ∧ Rd w h.la (List.replicate (h.n + 40) (.int .u8 (mk8 h.m))) ∧ Rd w h.a (List.replicate h.n (.int .u8 (mk8 h.m))) ∧ h.m < 100000 ∧ h.n ≤ 1000000) (ln : hs.length ≤ 10000) :
    Calls Tryz.prog 60 #[pK g] w fun e w' => e = .returned (.bool true) ∧ Keep w w' := by
  obtain ⟨A0, c0, hv0⟩ := hr.val
  have HV := Lib.hid hv0
  have HF := Lib.hid hf
  clear hv0 hf
  unfold pK
  go_enter Tryz.func60, Tryz.ntmps60
  go_wp2_with fail
  go_loopw [3] (fun v wr => ∃ i : Nat, i ≤ hs.length ∧ v = .int .i64 i ∧ Keep w wr) (fun v _ => hs.length - (intOf v).toNat)
  case atStart => exact ⟨0, Nat.zero_le _, rfl, Keep.refl _⟩
  case round =>
    obtain ⟨i, hi, rfl, hk⟩ := hrel
    have cv := hk.cell hv
    by_cases hlt : i < hs.length
    · obtain ⟨h, hh⟩ : ∃ h, hs[i]? = some h := ⟨_, List.getElem?_eq_getElem hlt⟩
      obtain ⟨hln, hrl, hro, hm, hn⟩ := HF.out h (List.mem_of_getElem? hh)
      obtain ⟨gr, cap, hv1, hgr, hgr2, hcap, hcm, hcur, hfz, hcell⟩ := (hr.keep hk).at_ (by omega)
      have r0 := hcell (i * 3) _ ((cellsOf_at hh (j := 0) (by omega)).trans rfl)
      have r1 := hcell (i * 3 + 1) _ ((cellsOf_at hh (j := 1) (by omega)).trans rfl)
      have r2 := hcell (i * 3 + 2) _ ((cellsOf_at hh (j := 2) (by omega)).trans rfl)
      rw [hv1] at cv
      have HM := Lib.hid hm
      have hi1 : (i : Int) < hs.length := by omega
      have hi0 : (0 : Int) ≤ i := by omega
      have hnz : (h.n : Int) ≤ 1000000 := by omega
      have z1 : ((h.ln : Int) != (h.n : Int) + 40) = false := by simp [hln]
      have HLN := Lib.hid hln
      have hlz : (h.ln : Int) ≤ 1000040 := by omega
      clear hh hv1 hcell hcur hfz hm hln
      go_upto_region 5 with fail
      have bH : Blk (wr.alloc (.cells #[.slice h.a h.n h.c, .slice h.la h.ln h.lc, .int .i64 h.m] 89)) wr.heap.size 89 [.slice h.a h.n h.c, .slice h.la h.ln h.lc, .int .i64 h.m] := Blk.new wr _ _
      have kn : Keep wr (wr.alloc (.cells #[.slice h.a h.n h.c, .slice h.la h.ln h.lc, .int .i64 h.m] 89)) := Keep.alloc1 _ _
      change Code.wp _ _ _ _ (wr.alloc (.cells #[.slice h.a h.n h.c, .slice h.la h.ln h.lc, .int .i64 h.m] 89))
      have hrl1 := (hrl.keep hk).keep kn
      have hro1 := (hro.keep hk).keep kn
      replace hk := hk.trans kn
      clear hrl hro
      generalize (wr.alloc (.cells #[.slice h.a h.n h.c, .slice h.la h.ln h.lc, .int .i64 h.m] 89)) = w1 at bH kn hrl1 hro1 hk ⊢
      generalize wr.heap.size = gH at bH ⊢
      clear r0 r1 r2 cv kn
      have e0 := bH.cell_ (i := 0) rfl
      have e1 := bH.cell_ (i := 1) rfl
      go_wp2_with fail
      clear e0 e1
      obtain ⟨w2, hw2⟩ : ∃ x, x = w1 := ⟨w1, rfl⟩
      subst hw2
      go_loopw [5] (fun v wr => ∃ k : Nat, k ≤ h.ln ∧ v = .int .i64 k ∧ Keep w2 wr) (fun v _ => h.ln - (intOf v).toNat)
      case atStart => exact ⟨0, Nat.zero_le _, rfl, Keep.refl _⟩
      case round =>
        obtain ⟨k, hkl, rfl, hk2⟩ := hrel
        have bR := bH.keep hk2
        have e0 := bR.cell_ (i := 0) rfl
        have e1 := bR.cell_ (i := 1) rfl
        have e2 := bR.cell_ (i := 2) rfl
        by_cases hlt2 : k < h.ln
        · obtain ⟨b1, o1, hla, ck⟩ := (hrl1.keep hk2).at_ (j := k) (by rw [List.length_replicate, ← HLN.out]; exact hlt2)
          rw [List.getElem_replicate] at ck
          rw [hla] at e1
          have hk0 : (0 : Int) ≤ k := by omega
          have hk1 : (k : Int) < h.ln := by omega
          clear hla bR
          go_upto_region 10 with fail
          go_cut [63] from 37 to 62 (fun v wx => v = .bool false ∧ Keep wr wx)
          case first =>
            by_cases hlt3 : k < h.n
            · obtain ⟨b2, o2, hsa, ck2⟩ := (hro1.keep hk2).at_ (j := k) (by rw [List.length_replicate]; exact hlt3)
              rw [List.getElem_replicate] at ck2
              rw [hsa] at e0
              have hk3 : (k : Int) < h.n := by omega
              clear hsa
              refine wp_region_noPanic ?_
              refine wp_region_held_drew (S := (fun w' => w'.cell? ⟨gH, 1, none⟩ = some (.slice (some ⟨b1, o1, none⟩) h.ln h.lc) ∧ w'.cell? ⟨gH, 2, none⟩ = some (.int .i64 (h.m : Int)) ∧ w'.cell? ⟨b1, o1 + k, none⟩ = some (.int .u8 (mk8 h.m)) ∧ w'.cell? ⟨gH, 0, none⟩ = some (.slice (some ⟨b2, o2, none⟩) h.n h.c) ∧ w'.cell? ⟨b2, o2 + k, none⟩ = some (.int .u8 (mk8 h.m)))) (by kernel_rfl) ⟨e1, e2, ck, e0, ck2⟩ (fun hS => ?_)
              have kz : Keep wr wr.drew := (Keep.refl _).drew
              generalize wr.drew = v0 at hS kz ⊢
              refine wpAnyH_take (i := 0) (v := ?_) rfl (by kernel_rfl) (by kernel_rfl) (by kernel_rfl) (fun _ _ _ h => h) (Or.inl ⟨by rfl, ?_⟩) hS ?_
              rotate_left
              · (intro w hSw; (try dsimp only at hSw); go_simp; (first | done | with_reducible rfl))
              change wpAnyH _ _ _ _ _ _ _ (Act.put _ (some 37) _) _
              simp only [Act.put, List.setIfInBounds_toArray, List.set_cons_zero, List.set_cons_succ]
              refine wpAnyH_take (i := 1) (v := ?_) rfl (by kernel_rfl) (by kernel_rfl) (by kernel_rfl) (fun _ _ _ h => h) (Or.inl ⟨by rfl, ?_⟩) hS ?_
              rotate_left
              · (intro w hSw; (try dsimp only at hSw); go_simp; (first | done | with_reducible rfl))
              change wpAnyH _ _ _ _ _ _ _ (Act.put _ (some 38) _) _
              simp only [Act.put, List.setIfInBounds_toArray, List.set_cons_zero, List.set_cons_succ]
              refine wpAnyH_take (i := 2) (v := ?_) rfl (by kernel_rfl) (by kernel_rfl) (by kernel_rfl) (fun _ _ _ h => h) (Or.inl ⟨by rfl, ?_⟩) hS ?_
              rotate_left
              · (intro w hSw; (try dsimp only at hSw); go_simp; (first | done | with_reducible rfl))
              change wpAnyH _ _ _ _ _ _ _ (Act.put _ (some 39) _) _
              simp only [Act.put, List.setIfInBounds_toArray, List.set_cons_zero, List.set_cons_succ]
              refine wpAnyH_take (i := 3) (v := ?_) rfl (by kernel_rfl) (by kernel_rfl) (by kernel_rfl) (fun _ _ _ h => h) (Or.inl ⟨by rfl, ?_⟩) hS ?_
              rotate_left
              · (intro w hSw; (try dsimp only at hSw); go_simp; (first | done | with_reducible rfl))
              change wpAnyH _ _ _ _ _ _ _ (Act.put _ (some 40) _) _
              simp only [Act.put, List.setIfInBounds_toArray, List.set_cons_zero, List.set_cons_succ]
              refine wpAnyH_take (i := 4) (v := ?_) rfl (by kernel_rfl) (by kernel_rfl) (by kernel_rfl) (fun _ _ _ h => h) (Or.inl ⟨by rfl, ?_⟩) hS ?_
              rotate_left
              · (intro w hSw; (try dsimp only at hSw); go_simp; (first | done | with_reducible rfl))
              change wpAnyH _ _ _ _ _ _ _ (Act.put _ (some 41) _) _
              simp only [Act.put, List.setIfInBounds_toArray, List.set_cons_zero, List.set_cons_succ]
              refine wpAnyH_take (i := 5) (v := ?_) rfl (by kernel_rfl) (by kernel_rfl) (by kernel_rfl) (fun _ _ _ h => h) (Or.inl ⟨by rfl, ?_⟩) hS ?_
              rotate_left
              · (intro w hSw; (try dsimp only at hSw); go_simp; (first | done | with_reducible rfl))
              change wpAnyH _ _ _ _ _ _ _ (Act.put _ (some 42) _) _
              simp only [Act.put, List.setIfInBounds_toArray, List.set_cons_zero, List.set_cons_succ]
              refine wpAnyH_take (i := 6) (v := ?_) rfl (by kernel_rfl) (by kernel_rfl) (by kernel_rfl) (fun _ _ _ h => h) (Or.inl ⟨by rfl, ?_⟩) hS ?_
              rotate_left
              · (intro w hSw; (try dsimp only at hSw); go_simp; (first | done | with_reducible rfl))
              change wpAnyH _ _ _ _ _ _ _ (Act.put _ (some 43) _) _
              simp only [Act.put, List.setIfInBounds_toArray, List.set_cons_zero, List.set_cons_succ]
              refine wpAnyH_ready (rs := [7]) (by kernel_rfl) (by simp) ?_
              refine AllReadyH.cons rfl (fun K hK => ?_) AllReadyH.nil
              go_simp
              refine (isByte_f h.m v0 HM.out).mono ?_
              rintro e v0 ⟨rfl, rfl⟩
              go_wp2_with fail
              refine hK.out _ _ hS (fun hS => ?_)
              clear hK K
              try simp only [Act.put, List.setIfInBounds_toArray, List.set_cons_zero, List.set_cons_succ]
              refine wpAnyH_take (i := 8) (v := ?_) rfl (by kernel_rfl) (by kernel_rfl) (by kernel_rfl) (fun _ _ _ h => h) (Or.inl ⟨by rfl, ?_⟩) hS ?_
              rotate_left
              · (intro w hSw; (try dsimp only at hSw); go_simp; (first | done | with_reducible rfl))
              change wpAnyH _ _ _ _ _ _ _ (Act.put _ (some 45) _) _
              simp only [Act.put, List.setIfInBounds_toArray, List.set_cons_zero, List.set_cons_succ]
              refine wpAnyH_take (i := 9) (v := ?_) rfl (by kernel_rfl) (by kernel_rfl) (by kernel_rfl) (fun _ _ _ h => h) (Or.inl ⟨by rfl, ?_⟩) hS ?_
              rotate_left
              · (intro w hSw; (try dsimp only at hSw); go_simp; (first | done | with_reducible rfl))
              change wpAnyH _ _ _ _ _ _ _ (Act.put _ (some 46) _) _
              simp only [Act.put, List.setIfInBounds_toArray, List.set_cons_zero, List.set_cons_succ]
              refine wpAnyH_take (i := 10) (v := ?_) rfl (by kernel_rfl) (by kernel_rfl) (by kernel_rfl) (fun _ _ _ h => h) (Or.inl ⟨by rfl, ?_⟩) hS ?_
              rotate_left
              · (intro w hSw; (try dsimp only at hSw); go_simp; (first | done | with_reducible rfl))
              change wpAnyH _ _ _ _ _ _ _ (Act.put _ (some 47) _) _
              simp only [Act.put, List.setIfInBounds_toArray, List.set_cons_zero, List.set_cons_succ]
              refine wpAnyH_take (i := 11) (v := ?_) rfl (by kernel_rfl) (by kernel_rfl) (by kernel_rfl) (fun _ _ _ h => h) (Or.inl ⟨by rfl, ?_⟩) hS ?_
              rotate_left
              · (intro w hSw; (try dsimp only at hSw); go_simp; (first | done | with_reducible rfl))
              change wpAnyH _ _ _ _ _ _ _ (Act.put _ (some 48) _) _
              simp only [Act.put, List.setIfInBounds_toArray, List.set_cons_zero, List.set_cons_succ]
              refine wpAnyH_take (i := 12) (v := ?_) rfl (by kernel_rfl) (by kernel_rfl) (by kernel_rfl) (fun _ _ _ h => h) (Or.inl ⟨by rfl, ?_⟩) hS ?_
              rotate_left
              · (intro w hSw; (try dsimp only at hSw); go_simp; (first | done | with_reducible rfl))
              change wpAnyH _ _ _ _ _ _ _ (Act.put _ (some 49) _) _
              simp only [Act.put, List.setIfInBounds_toArray, List.set_cons_zero, List.set_cons_succ]
              refine wpAnyH_take (i := 13) (v := ?_) rfl (by kernel_rfl) (by kernel_rfl) (by kernel_rfl) (fun _ _ _ h => h) (Or.inl ⟨by rfl, ?_⟩) hS ?_
              rotate_left
              · (intro w hSw; (try dsimp only at hSw); go_simp; (first | done | with_reducible rfl))
              change wpAnyH _ _ _ _ _ _ _ (Act.put _ (some 50) _) _
              simp only [Act.put, List.setIfInBounds_toArray, List.set_cons_zero, List.set_cons_succ]
              refine wpAnyH_take (i := 14) (v := ?_) rfl (by kernel_rfl) (by kernel_rfl) (by kernel_rfl) (fun _ _ _ h => h) (Or.inl ⟨by rfl, ?_⟩) hS ?_
              rotate_left
              · (intro w hSw; (try dsimp only at hSw); go_simp; (first | done | with_reducible rfl))
              change wpAnyH _ _ _ _ _ _ _ (Act.put _ (some 51) _) _
              simp only [Act.put, List.setIfInBounds_toArray, List.set_cons_zero, List.set_cons_succ]
              refine wpAnyH_take (i := 15) (v := ?_) rfl (by kernel_rfl) (by kernel_rfl) (by kernel_rfl) (fun _ _ _ h => h) (Or.inl ⟨by rfl, ?_⟩) hS ?_
              rotate_left
              · (intro w hSw; (try dsimp only at hSw); go_simp; (first | done | with_reducible rfl))
              change wpAnyH _ _ _ _ _ _ _ (Act.put _ (some 52) _) _
              simp only [Act.put, List.setIfInBounds_toArray, List.set_cons_zero, List.set_cons_succ]
              refine wpAnyH_take (i := 16) (v := ?_) rfl (by kernel_rfl) (by kernel_rfl) (by kernel_rfl) (fun _ _ _ h => h) (Or.inl ⟨by rfl, ?_⟩) hS ?_
              rotate_left
              · (intro w hSw; (try dsimp only at hSw); go_simp; (first | done | with_reducible rfl))
              change wpAnyH _ _ _ _ _ _ _ (Act.put _ (some 53) _) _
              simp only [Act.put, List.setIfInBounds_toArray, List.set_cons_zero, List.set_cons_succ]
              refine wpAnyH_take (i := 17) (v := ?_) rfl (by kernel_rfl) (by kernel_rfl) (by kernel_rfl) (fun _ _ _ h => h) (Or.inl ⟨by rfl, ?_⟩) hS ?_
              rotate_left
              · (intro w hSw; (try dsimp only at hSw); go_simp; (first | done | with_reducible rfl))
              change wpAnyH _ _ _ _ _ _ _ (Act.put _ (some 54) _) _
              simp only [Act.put, List.setIfInBounds_toArray, List.set_cons_zero, List.set_cons_succ]
              refine wpAnyH_take (i := 18) (v := ?_) rfl (by kernel_rfl) (by kernel_rfl) (by kernel_rfl) (fun _ _ _ h => h) (Or.inl ⟨by rfl, ?_⟩) hS ?_
              rotate_left
              · (intro w hSw; (try dsimp only at hSw); go_simp; (first | done | with_reducible rfl))
              change wpAnyH _ _ _ _ _ _ _ (Act.put _ (some 55) _) _
              simp only [Act.put, List.setIfInBounds_toArray, List.set_cons_zero, List.set_cons_succ]
              refine wpAnyH_take (i := 19) (v := ?_) rfl (by kernel_rfl) (by kernel_rfl) (by kernel_rfl) (fun _ _ _ h => h) (Or.inl ⟨by rfl, ?_⟩) hS ?_
              rotate_left
              · (intro w hSw; (try dsimp only at hSw); go_simp; (first | done | with_reducible rfl))
              change wpAnyH _ _ _ _ _ _ _ (Act.put _ (some 56) _) _
              simp only [Act.put, List.setIfInBounds_toArray, List.set_cons_zero, List.set_cons_succ]
              refine wpAnyH_take (i := 20) (v := ?_) rfl (by kernel_rfl) (by kernel_rfl) (by kernel_rfl) (fun _ _ _ h => h) (Or.inl ⟨by rfl, ?_⟩) hS ?_
              rotate_left
              · (intro w hSw; (try dsimp only at hSw); go_simp; (first | done | with_reducible rfl))
              change wpAnyH _ _ _ _ _ _ _ (Act.put _ (some 57) _) _
              simp only [Act.put, List.setIfInBounds_toArray, List.set_cons_zero, List.set_cons_succ]
              refine wpAnyH_take (i := 21) (v := ?_) rfl (by kernel_rfl) (by kernel_rfl) (by kernel_rfl) (fun _ _ _ h => h) (Or.inl ⟨by rfl, ?_⟩) hS ?_
              rotate_left
              · (intro w hSw; (try dsimp only at hSw); go_simp; (first | done | with_reducible rfl))
              change wpAnyH _ _ _ _ _ _ _ (Act.put _ (some 58) _) _
              simp only [Act.put, List.setIfInBounds_toArray, List.set_cons_zero, List.set_cons_succ]
              refine wpAnyH_take (i := 22) (v := ?_) rfl (by kernel_rfl) (by kernel_rfl) (by kernel_rfl) (fun _ _ _ h => h) (Or.inl ⟨by rfl, ?_⟩) hS ?_
              rotate_left
              · (intro w hSw; (try dsimp only at hSw); go_simp; (first | done | with_reducible rfl))
              change wpAnyH _ _ _ _ _ _ _ (Act.put _ (some 59) _) _
              simp only [Act.put, List.setIfInBounds_toArray, List.set_cons_zero, List.set_cons_succ]
              refine wpAnyH_ready (rs := [23]) (by kernel_rfl) (by simp) ?_
              refine AllReadyH.cons rfl (fun K hK => ?_) AllReadyH.nil
              go_simp
              refine (isByte_f h.m v0 HM.out).mono ?_
              rintro e v0 ⟨rfl, rfl⟩
              go_wp2_with fail
              refine hK.out _ _ hS (fun hS => ?_)
              clear hK K
              try simp only [Act.put, List.setIfInBounds_toArray, List.set_cons_zero, List.set_cons_succ]
              refine wpAnyH_take (i := 24) (v := ?_) rfl (by kernel_rfl) (by kernel_rfl) (by kernel_rfl) (fun _ _ _ h => h) (Or.inl ⟨by rfl, ?_⟩) hS ?_
              rotate_left
              · (intro w hSw; (try dsimp only at hSw); go_simp; (first | done | with_reducible rfl))
              change wpAnyH _ _ _ _ _ _ _ (Act.put _ (some 61) _) _
              simp only [Act.put, List.setIfInBounds_toArray, List.set_cons_zero, List.set_cons_succ]
              refine wpAnyH_take (i := 25) (v := ?_) rfl (by kernel_rfl) (by kernel_rfl) (by kernel_rfl) (fun _ _ _ h => h) (Or.inl ⟨by rfl, ?_⟩) hS ?_
              rotate_left
              · (intro w hSw; (try dsimp only at hSw); go_simp; (first | done | with_reducible rfl))
              change wpAnyH _ _ _ _ _ _ _ (Act.put _ (some 62) _) _
              simp only [Act.put, List.setIfInBounds_toArray, List.set_cons_zero, List.set_cons_succ]
              refine wpAnyH_take (i := 26) (v := ?_) rfl (by kernel_rfl) (by kernel_rfl) (by kernel_rfl) (fun _ _ _ h => h) (Or.inl ⟨by rfl, ?_⟩) hS ?_
              rotate_left
              · (intro w hSw; (try dsimp only at hSw); go_simp; (first | done | with_reducible rfl))
              change wpAnyH _ _ _ _ _ _ _ (Act.put _ (some 63) _) _
              simp only [Act.put, List.setIfInBounds_toArray, List.set_cons_zero, List.set_cons_succ]
              refine wpAnyH_done (by kernel_rfl) ?_ _
              refine NoPanic.normal ?_
              go_wp2_with fail
              go_meet
              exact ⟨rfl, kz⟩
            · have z2 : decide ((k : Int) < h.n) = false := decide_eq_false (by omega)
              refine wp_region_noPanic ?_
              refine wp_region_held_drew (S := (fun w' => w'.cell? ⟨gH, 1, none⟩ = some (.slice (some ⟨b1, o1, none⟩) h.ln h.lc) ∧ w'.cell? ⟨gH, 2, none⟩ = some (.int .i64 (h.m : Int)) ∧ w'.cell? ⟨b1, o1 + k, none⟩ = some (.int .u8 (mk8 h.m)) ∧ w'.cell? ⟨gH, 0, none⟩ = some (.slice h.a h.n h.c))) (by kernel_rfl) ⟨e1, e2, ck, e0⟩ (fun hS => ?_)
              have kz : Keep wr wr.drew := (Keep.refl _).drew
              generalize wr.drew = v0 at hS kz ⊢
              refine wpAnyH_take (i := 0) (v := ?_) rfl (by kernel_rfl) (by kernel_rfl) (by kernel_rfl) (fun _ _ _ h => h) (Or.inl ⟨by rfl, ?_⟩) hS ?_
              rotate_left
              · (intro w hSw; (try dsimp only at hSw); go_simp; (first | done | with_reducible rfl))
              change wpAnyH _ _ _ _ _ _ _ (Act.put _ (some 37) _) _
              simp only [Act.put, List.setIfInBounds_toArray, List.set_cons_zero, List.set_cons_succ]
              refine wpAnyH_take (i := 1) (v := ?_) rfl (by kernel_rfl) (by kernel_rfl) (by kernel_rfl) (fun _ _ _ h => h) (Or.inl ⟨by rfl, ?_⟩) hS ?_
              rotate_left
              · (intro w hSw; (try dsimp only at hSw); go_simp; (first | done | with_reducible rfl))
              change wpAnyH _ _ _ _ _ _ _ (Act.put _ (some 38) _) _
              simp only [Act.put, List.setIfInBounds_toArray, List.set_cons_zero, List.set_cons_succ]
              refine wpAnyH_take (i := 2) (v := ?_) rfl (by kernel_rfl) (by kernel_rfl) (by kernel_rfl) (fun _ _ _ h => h) (Or.inl ⟨by rfl, ?_⟩) hS ?_
              rotate_left
              · (intro w hSw; (try dsimp only at hSw); go_simp; (first | done | with_reducible rfl))
              change wpAnyH _ _ _ _ _ _ _ (Act.put _ (some 39) _) _
              simp only [Act.put, List.setIfInBounds_toArray, List.set_cons_zero, List.set_cons_succ]
              refine wpAnyH_take (i := 3) (v := ?_) rfl (by kernel_rfl) (by kernel_rfl) (by kernel_rfl) (fun _ _ _ h => h) (Or.inl ⟨by rfl, ?_⟩) hS ?_
              rotate_left
              · (intro w hSw; (try dsimp only at hSw); go_simp; (first | done | with_reducible rfl))
              change wpAnyH _ _ _ _ _ _ _ (Act.put _ (some 40) _) _
              simp only [Act.put, List.setIfInBounds_toArray, List.set_cons_zero, List.set_cons_succ]
              refine wpAnyH_take (i := 4) (v := ?_) rfl (by kernel_rfl) (by kernel_rfl) (by kernel_rfl) (fun _ _ _ h => h) (Or.inl ⟨by rfl, ?_⟩) hS ?_
              rotate_left
              · (intro w hSw; (try dsimp only at hSw); go_simp; (first | done | with_reducible rfl))
              change wpAnyH _ _ _ _ _ _ _ (Act.put _ (some 41) _) _
              simp only [Act.put, List.setIfInBounds_toArray, List.set_cons_zero, List.set_cons_succ]
              refine wpAnyH_take (i := 5) (v := ?_) rfl (by kernel_rfl) (by kernel_rfl) (by kernel_rfl) (fun _ _ _ h => h) (Or.inl ⟨by rfl, ?_⟩) hS ?_
              rotate_left
              · (intro w hSw; (try dsimp only at hSw); go_simp; (first | done | with_reducible rfl))
              change wpAnyH _ _ _ _ _ _ _ (Act.put _ (some 42) _) _
              simp only [Act.put, List.setIfInBounds_toArray, List.set_cons_zero, List.set_cons_succ]
              refine wpAnyH_take (i := 6) (v := ?_) rfl (by kernel_rfl) (by kernel_rfl) (by kernel_rfl) (fun _ _ _ h => h) (Or.inl ⟨by rfl, ?_⟩) hS ?_
              rotate_left
              · (intro w hSw; (try dsimp only at hSw); go_simp; (first | done | with_reducible rfl))
              change wpAnyH _ _ _ _ _ _ _ (Act.put _ (some 43) _) _
              simp only [Act.put, List.setIfInBounds_toArray, List.set_cons_zero, List.set_cons_succ]
              refine wpAnyH_ready (rs := [7]) (by kernel_rfl) (by simp) ?_
              refine AllReadyH.cons rfl (fun K hK => ?_) AllReadyH.nil
              go_simp
              refine (isByte_f h.m v0 HM.out).mono ?_
              rintro e v0 ⟨rfl, rfl⟩
              go_wp2_with fail
              refine hK.out _ _ hS (fun hS => ?_)
              clear hK K
              try simp only [Act.put, List.setIfInBounds_toArray, List.set_cons_zero, List.set_cons_succ]
              refine wpAnyH_take (i := 8) (v := ?_) rfl (by kernel_rfl) (by kernel_rfl) (by kernel_rfl) (fun _ _ _ h => h) (Or.inl ⟨by rfl, ?_⟩) hS ?_
              rotate_left
              · (intro w hSw; (try dsimp only at hSw); go_simp; (first | done | with_reducible rfl))
              change wpAnyH _ _ _ _ _ _ _ (Act.put _ (some 45) _) _
              simp only [Act.put, List.setIfInBounds_toArray, List.set_cons_zero, List.set_cons_succ]
              refine wpAnyH_take (i := 9) (v := ?_) rfl (by kernel_rfl) (by kernel_rfl) (by kernel_rfl) (fun _ _ _ h => h) (Or.inl ⟨by rfl, ?_⟩) hS ?_
              rotate_left
              · (intro w hSw; (try dsimp only at hSw); go_simp; (first | done | with_reducible rfl))
              change wpAnyH _ _ _ _ _ _ _ (Act.put _ (some 46) _) _
              simp only [Act.put, List.setIfInBounds_toArray, List.set_cons_zero, List.set_cons_succ]
              refine wpAnyH_take (i := 10) (v := ?_) rfl (by kernel_rfl) (by kernel_rfl) (by kernel_rfl) (fun _ _ _ h => h) (Or.inl ⟨by rfl, ?_⟩) hS ?_
              rotate_left
              · (intro w hSw; (try dsimp only at hSw); go_simp; (first | done | with_reducible rfl))
              change wpAnyH _ _ _ _ _ _ _ (Act.put _ (some 47) _) _
              simp only [Act.put, List.setIfInBounds_toArray, List.set_cons_zero, List.set_cons_succ]
              refine wpAnyH_take (i := 11) (v := ?_) rfl (by kernel_rfl) (by kernel_rfl) (by kernel_rfl) (fun _ _ _ h => h) (Or.inl ⟨by rfl, ?_⟩) hS ?_
              rotate_left
              · (intro w hSw; (try dsimp only at hSw); go_simp; (first | done | with_reducible rfl))
              change wpAnyH _ _ _ _ _ _ _ (Act.put _ (some 48) _) _
              simp only [Act.put, List.setIfInBounds_toArray, List.set_cons_zero, List.set_cons_succ]
              refine wpAnyH_take (i := 12) (v := ?_) rfl (by kernel_rfl) (by kernel_rfl) (by kernel_rfl) (fun _ _ _ h => h) (Or.inl ⟨by rfl, ?_⟩) hS ?_
              rotate_left
              · (intro w hSw; (try dsimp only at hSw); go_simp; (first | done | with_reducible rfl))
              change wpAnyH _ _ _ _ _ _ _ (Act.put _ (some 49) _) _
              simp only [Act.put, List.setIfInBounds_toArray, List.set_cons_zero, List.set_cons_succ]
              refine wpAnyH_take (i := 13) (v := ?_) rfl (by kernel_rfl) (by kernel_rfl) (by kernel_rfl) (fun _ _ _ h => h) (Or.inl ⟨by rfl, ?_⟩) hS ?_
              rotate_left
              · (intro w hSw; (try dsimp only at hSw); go_simp; (first | done | with_reducible rfl))
              change wpAnyH _ _ _ _ _ _ _ (Act.put _ (some 50) _) _
              simp only [Act.put, List.setIfInBounds_toArray, List.set_cons_zero, List.set_cons_succ]
              refine wpAnyH_take (i := 14) (v := ?_) rfl (by kernel_rfl) (by kernel_rfl) (by kernel_rfl) (fun _ _ _ h => h) (Or.inl ⟨by rfl, ?_⟩) hS ?_
              rotate_left
              · (intro w hSw; (try dsimp only at hSw); go_simp; (first | done | with_reducible rfl))
              change wpAnyH _ _ _ _ _ _ _ (Act.put _ (some 51) _) _
              simp only [Act.put, List.setIfInBounds_toArray, List.set_cons_zero, List.set_cons_succ]
              refine wpAnyH_take (i := 15) (v := ?_) rfl (by kernel_rfl) (by kernel_rfl) (by kernel_rfl) (fun _ _ _ h => h) (Or.inl ⟨by rfl, ?_⟩) hS ?_
              rotate_left
              · (intro w hSw; (try dsimp only at hSw); go_simp; (first | done | with_reducible rfl))
              change wpAnyH _ _ _ _ _ _ _ (Act.put _ (some 52) _) _
              simp only [Act.put, List.setIfInBounds_toArray, List.set_cons_zero, List.set_cons_succ]
              refine wpAnyH_take (i := 16) (v := undef) rfl (by kernel_rfl) (by kernel_rfl) (by kernel_rfl) (fun _ _ _ h => h) (Or.inr ⟨by rfl, rfl⟩) hS ?_
              change wpAnyH _ _ _ _ _ _ _ (Act.put _ (some 53) _) _
              simp only [Act.put, List.setIfInBounds_toArray, List.set_cons_zero, List.set_cons_succ]
              refine wpAnyH_take (i := 17) (v := undef) rfl (by kernel_rfl) (by kernel_rfl) (by kernel_rfl) (fun _ _ _ h => h) (Or.inr ⟨by rfl, rfl⟩) hS ?_
              change wpAnyH _ _ _ _ _ _ _ (Act.put _ (some 54) _) _
              simp only [Act.put, List.setIfInBounds_toArray, List.set_cons_zero, List.set_cons_succ]
              refine wpAnyH_take (i := 18) (v := undef) rfl (by kernel_rfl) (by kernel_rfl) (by kernel_rfl) (fun _ _ _ h => h) (Or.inr ⟨by rfl, rfl⟩) hS ?_
              change wpAnyH _ _ _ _ _ _ _ (Act.put _ (some 55) _) _
              simp only [Act.put, List.setIfInBounds_toArray, List.set_cons_zero, List.set_cons_succ]
              refine wpAnyH_take (i := 19) (v := undef) rfl (by kernel_rfl) (by kernel_rfl) (by kernel_rfl) (fun _ _ _ h => h) (Or.inr ⟨by rfl, rfl⟩) hS ?_
              change wpAnyH _ _ _ _ _ _ _ (Act.put _ (some 56) _) _
              simp only [Act.put, List.setIfInBounds_toArray, List.set_cons_zero, List.set_cons_succ]
              refine wpAnyH_take (i := 20) (v := undef) rfl (by kernel_rfl) (by kernel_rfl) (by kernel_rfl) (fun _ _ _ h => h) (Or.inr ⟨by rfl, rfl⟩) hS ?_
              change wpAnyH _ _ _ _ _ _ _ (Act.put _ (some 57) _) _
              simp only [Act.put, List.setIfInBounds_toArray, List.set_cons_zero, List.set_cons_succ]
              refine wpAnyH_take (i := 21) (v := undef) rfl (by kernel_rfl) (by kernel_rfl) (by kernel_rfl) (fun _ _ _ h => h) (Or.inr ⟨by rfl, rfl⟩) hS ?_
              change wpAnyH _ _ _ _ _ _ _ (Act.put _ (some 58) _) _
              simp only [Act.put, List.setIfInBounds_toArray, List.set_cons_zero, List.set_cons_succ]
              refine wpAnyH_take (i := 22) (v := undef) rfl (by kernel_rfl) (by kernel_rfl) (by kernel_rfl) (fun _ _ _ h => h) (Or.inr ⟨by rfl, rfl⟩) hS ?_
              change wpAnyH _ _ _ _ _ _ _ (Act.put _ (some 59) _) _
              simp only [Act.put, List.setIfInBounds_toArray, List.set_cons_zero, List.set_cons_succ]
              refine wpAnyH_take (i := 23) (v := undef) rfl (by kernel_rfl) (by kernel_rfl) (by kernel_rfl) (fun _ _ _ h => h) (Or.inr ⟨by rfl, rfl⟩) hS ?_
              change wpAnyH _ _ _ _ _ _ _ (Act.put _ (some 60) _) _
              simp only [Act.put, List.setIfInBounds_toArray, List.set_cons_zero, List.set_cons_succ]
              refine wpAnyH_take (i := 24) (v := undef) rfl (by kernel_rfl) (by kernel_rfl) (by kernel_rfl) (fun _ _ _ h => h) (Or.inr ⟨by rfl, rfl⟩) hS ?_
              change wpAnyH _ _ _ _ _ _ _ (Act.put _ (some 61) _) _
              simp only [Act.put, List.setIfInBounds_toArray, List.set_cons_zero, List.set_cons_succ]
              refine wpAnyH_take (i := 25) (v := ?_) rfl (by kernel_rfl) (by kernel_rfl) (by kernel_rfl) (fun _ _ _ h => h) (Or.inl ⟨by rfl, ?_⟩) hS ?_
              rotate_left
              · (intro w hSw; (try dsimp only at hSw); go_simp; (first | done | with_reducible rfl))
              change wpAnyH _ _ _ _ _ _ _ (Act.put _ (some 62) _) _
              simp only [Act.put, List.setIfInBounds_toArray, List.set_cons_zero, List.set_cons_succ]
              refine wpAnyH_take (i := 26) (v := ?_) rfl (by kernel_rfl) (by kernel_rfl) (by kernel_rfl) (fun _ _ _ h => h) (Or.inl ⟨by rfl, ?_⟩) hS ?_
              rotate_left
              · (intro w hSw; (try dsimp only at hSw); go_simp; (first | done | with_reducible rfl))
              change wpAnyH _ _ _ _ _ _ _ (Act.put _ (some 63) _) _
              simp only [Act.put, List.setIfInBounds_toArray, List.set_cons_zero, List.set_cons_succ]
              refine wpAnyH_done (by kernel_rfl) ?_ _
              refine NoPanic.normal ?_
              go_wp2_with fail
              go_meet
              exact ⟨rfl, kz⟩
          case rest =>
          obtain ⟨rfl, kq⟩ := hcut
          go_wp2_with fail
          go_roundw
          case rel => exact ⟨k + 1, by omega, by go_num, hk2.trans kq⟩
          case measure => simp [intOf]; omega
        · go_wp2_with fail
          go_roundw
          case rel => exact ⟨i + 1, by omega, by go_num, hk.trans hk2⟩
          case measure => simp [intOf]; omega
    · rw [HV.out] at cv
      go_wp2_with fail
      go_ret
      exact ⟨rfl, hk⟩

set_option maxRecDepth 100000 in
set_option maxHeartbeats 4000000 in
theorem lookInt_f (g : Nat) (vb : Value) (hs : List Hd) (w : World) (base : Nat) (hv : w.cell? ⟨g, 2, none⟩ = some vb) (hr : HRow w base 92 vb hs)
    (hf : ∀ h ∈ hs, h.ln = h.n + 40 ∧ Rd w h.la (List.replicate (h.n + 40) (.int .i64 (-((h.m : Nat) : Int)))) ∧ Rd w h.a (List.replicate h.n (.int .i64 (-((h.m : Nat) : Int)))) ∧ h.m < 100000 ∧ h.n ≤ 1000000) (ln : hs.length ≤ 10000) :
    Calls Tryz.prog 61 #[pK g] w fun e w' => e = .returned (.bool true) ∧ Keep w w' := by
  obtain ⟨A0, c0, hv0⟩ := hr.val
  have HV := Lib.hid hv0
  have HF := Lib.hid hf
  clear hv0 hf
  unfold pK
  go_enter Tryz.func61, Tryz.ntmps61
  go_wp2_with fail
  go_loopw [3] (fun v wr => ∃ i : Nat, i ≤ hs.length ∧ v = .int .i64 i ∧ Keep w wr) (fun v _ => hs.length - (intOf v).toNat)
  case atStart => exact ⟨0, Nat.zero_le _, rfl, Keep.refl _⟩
  case round =>
    obtain ⟨i, hi, rfl, hk⟩ := hrel
    have cv := hk.cell hv
    by_cases hlt : i < hs.length
    · obtain ⟨h, hh⟩ : ∃ h, hs[i]? = some h := ⟨_, List.getElem?_eq_getElem hlt⟩
      obtain ⟨hln, hrl, hro, hm, hn⟩ := HF.out h (List.mem_of_getElem? hh)
      obtain ⟨gr, cap, hv1, hgr, hgr2, hcap, hcm, hcur, hfz, hcell⟩ := (hr.keep hk).at_ (by omega)
      have r0 := hcell (i * 3) _ ((cellsOf_at hh (j := 0) (by omega)).trans rfl)
      have r1 := hcell (i * 3 + 1) _ ((cellsOf_at hh (j := 1) (by omega)).trans rfl)
      have r2 := hcell (i * 3 + 2) _ ((cellsOf_at hh (j := 2) (by omega)).trans rfl)
      rw [hv1] at cv
      have HM := Lib.hid hm
      have hi1 : (i : Int) < hs.length := by omega
      have hi0 : (0 : Int) ≤ i := by omega
      have hnz : (h.n : Int) ≤ 1000000 := by omega
      have z1 : ((h.ln : Int) != (h.n : Int) + 40) = false := by simp [hln]
      have HLN := Lib.hid hln
      have hlz : (h.ln : Int) ≤ 1000040 := by omega
      clear hh hv1 hcell hcur hfz hm hln
      go_upto_region 5 with fail
      have bH : Blk (wr.alloc (.cells #[.slice h.a h.n h.c, .slice h.la h.ln h.lc, .int .i64 h.m] 92)) wr.heap.size 92 [.slice h.a h.n h.c, .slice h.la h.ln h.lc, .int .i64 h.m] := Blk.new wr _ _
      have kn : Keep wr (wr.alloc (.cells #[.slice h.a h.n h.c, .slice h.la h.ln h.lc, .int .i64 h.m] 92)) := Keep.alloc1 _ _
      change Code.wp _ _ _ _ (wr.alloc (.cells #[.slice h.a h.n h.c, .slice h.la h.ln h.lc, .int .i64 h.m] 92))
      have hrl1 := (hrl.keep hk).keep kn
      have hro1 := (hro.keep hk).keep kn
      replace hk := hk.trans kn
      clear hrl hro
      generalize (wr.alloc (.cells #[.slice h.a h.n h.c, .slice h.la h.ln h.lc, .int .i64 h.m] 92)) = w1 at bH kn hrl1 hro1 hk ⊢
      generalize wr.heap.size = gH at bH ⊢
      clear r0 r1 r2 cv kn
      have e0 := bH.cell_ (i := 0) rfl
      have e1 := bH.cell_ (i := 1) rfl
      go_wp2_with fail
      clear e0 e1
      obtain ⟨w2, hw2⟩ : ∃ x, x = w1 := ⟨w1, rfl⟩
      subst hw2
      go_loopw [5] (fun v wr => ∃ k : Nat, k ≤ h.ln ∧ v = .int .i64 k ∧ Keep w2 wr) (fun v _ => h.ln - (intOf v).toNat)
      case atStart => exact ⟨0, Nat.zero_le _, rfl, Keep.refl _⟩
      case round =>
        obtain ⟨k, hkl, rfl, hk2⟩ := hrel
        have bR := bH.keep hk2
        have e0 := bR.cell_ (i := 0) rfl
        have e1 := bR.cell_ (i := 1) rfl
        have e2 := bR.cell_ (i := 2) rfl
        by_cases hlt2 : k < h.ln
        · obtain ⟨b1, o1, hla, ck⟩ := (hrl1.keep hk2).at_ (j := k) (by rw [List.length_replicate, ← HLN.out]; exact hlt2)
          rw [List.getElem_replicate] at ck
          rw [hla] at e1
          have hk0 : (0 : Int) ≤ k := by omega
          have hk1 : (k : Int) < h.ln := by omega
          clear hla bR
          go_upto_region 10 with fail
          go_cut [63] from 37 to 62 (fun v wx => v = .bool false ∧ Keep wr wx)
          case first =>
            by_cases hlt3 : k < h.n
            · obtain ⟨b2, o2, hsa, ck2⟩ := (hro1.keep hk2).at_ (j := k) (by rw [List.length_replicate]; exact hlt3)
              rw [List.getElem_replicate] at ck2
              rw [hsa] at e0
              have hk3 : (k : Int) < h.n := by omega
              clear hsa
              refine wp_region_noPanic ?_
              refine wp_region_held_drew (S := (fun w' => w'.cell? ⟨gH, 1, none⟩ = some (.slice (some ⟨b1, o1, none⟩) h.ln h.lc) ∧ w'.cell? ⟨gH, 2, none⟩ = some (.int .i64 (h.m : Int)) ∧ w'.cell? ⟨b1, o1 + k, none⟩ = some (.int .i64 (-((h.m : Nat) : Int))) ∧ w'.cell? ⟨gH, 0, none⟩ = some (.slice (some ⟨b2, o2, none⟩) h.n h.c) ∧ w'.cell? ⟨b2, o2 + k, none⟩ = some (.int .i64 (-((h.m : Nat) : Int))))) (by kernel_rfl) ⟨e1, e2, ck, e0, ck2⟩ (fun hS => ?_)
              have kz : Keep wr wr.drew := (Keep.refl _).drew
              generalize wr.drew = v0 at hS kz ⊢
              refine wpAnyH_take (i := 0) (v := ?_) rfl (by kernel_rfl) (by kernel_rfl) (by kernel_rfl) (fun _ _ _ h => h) (Or.inl ⟨by rfl, ?_⟩) hS ?_
              rotate_left
              · (intro w hSw; (try dsimp only at hSw); go_simp; (first | done | with_reducible rfl))
              change wpAnyH _ _ _ _ _ _ _ (Act.put _ (some 37) _) _
              simp only [Act.put, List.setIfInBounds_toArray, List.set_cons_zero, List.set_cons_succ]
              refine wpAnyH_take (i := 1) (v := ?_) rfl (by kernel_rfl) (by kernel_rfl) (by kernel_rfl) (fun _ _ _ h => h) (Or.inl ⟨by rfl, ?_⟩) hS ?_
              rotate_left
              · (intro w hSw; (try dsimp only at hSw); go_simp; (first | done | with_reducible rfl))
              change wpAnyH _ _ _ _ _ _ _ (Act.put _ (some 38) _) _
              simp only [Act.put, List.setIfInBounds_toArray, List.set_cons_zero, List.set_cons_succ]
              refine wpAnyH_take (i := 2) (v := ?_) rfl (by kernel_rfl) (by kernel_rfl) (by kernel_rfl) (fun _ _ _ h => h) (Or.inl ⟨by rfl, ?_⟩) hS ?_
              rotate_left
              · (intro w hSw; (try dsimp only at hSw); go_simp; (first | done | with_reducible rfl))
              change wpAnyH _ _ _ _ _ _ _ (Act.put _ (some 39) _) _
              simp only [Act.put, List.setIfInBounds_toArray, List.set_cons_zero, List.set_cons_succ]
              refine wpAnyH_take (i := 3) (v := ?_) rfl (by kernel_rfl) (by kernel_rfl) (by kernel_rfl) (fun _ _ _ h => h) (Or.inl ⟨by rfl, ?_⟩) hS ?_
              rotate_left
              · (intro w hSw; (try dsimp only at hSw); go_simp; (first | done | with_reducible rfl))
              change wpAnyH _ _ _ _ _ _ _ (Act.put _ (some 40) _) _
              simp only [Act.put, List.setIfInBounds_toArray, List.set_cons_zero, List.set_cons_succ]
              refine wpAnyH_take (i := 4) (v := ?_) rfl (by kernel_rfl) (by kernel_rfl) (by kernel_rfl) (fun _ _ _ h => h) (Or.inl ⟨by rfl, ?_⟩) hS ?_
              rotate_left
              · (intro w hSw; (try dsimp only at hSw); go_simp; (first | done | with_reducible rfl))
              change wpAnyH _ _ _ _ _ _ _ (Act.put _ (some 41) _) _
              simp only [Act.put, List.setIfInBounds_toArray, List.set_cons_zero, List.set_cons_succ]
              refine wpAnyH_take (i := 5) (v := ?_) rfl (by kernel_rfl) (by kernel_rfl) (by kernel_rfl) (fun _ _ _ h => h) (Or.inl ⟨by rfl, ?_⟩) hS ?_
              rotate_left
              · (intro w hSw; (try dsimp only at hSw); go_simp; (first | done | with_reducible rfl))
              change wpAnyH _ _ _ _ _ _ _ (Act.put _ (some 42) _) _
              simp only [Act.put, List.setIfInBounds_toArray, List.set_cons_zero, List.set_cons_succ]
              refine wpAnyH_take (i := 6) (v := ?_) rfl (by kernel_rfl) (by kernel_rfl) (by kernel_rfl) (fun _ _ _ h => h) (Or.inl ⟨by rfl, ?_⟩) hS ?_
              rotate_left
              · (intro w hSw; (try dsimp only at hSw); go_simp; (first | done | with_reducible rfl))
              change wpAnyH _ _ _ _ _ _ _ (Act.put _ (some 43) _) _
              simp only [Act.put, List.setIfInBounds_toArray, List.set_cons_zero, List.set_cons_succ]
              refine wpAnyH_ready (rs := [7]) (by kernel_rfl) (by simp) ?_
              refine AllReadyH.cons rfl (fun K hK => ?_) AllReadyH.nil
              go_simp
              refine (isInt_f h.m v0 HM.out).mono ?_
              rintro e v0 ⟨rfl, rfl⟩
              go_wp2_with fail
              refine hK.out _ _ hS (fun hS => ?_)
              clear hK K
              try simp only [Act.put, List.setIfInBounds_toArray, List.set_cons_zero, List.set_cons_succ]
              refine wpAnyH_take (i := 8) (v := ?_) rfl (by kernel_rfl) (by kernel_rfl) (by kernel_rfl) (fun _ _ _ h => h) (Or.inl ⟨by rfl, ?_⟩) hS ?_
              rotate_left
              · (intro w hSw; (try dsimp only at hSw); go_simp; (first | done | with_reducible rfl))
              change wpAnyH _ _ _ _ _ _ _ (Act.put _ (some 45) _) _
              simp only [Act.put, List.setIfInBounds_toArray, List.set_cons_zero, List.set_cons_succ]
              refine wpAnyH_take (i := 9) (v := ?_) rfl (by kernel_rfl) (by kernel_rfl) (by kernel_rfl) (fun _ _ _ h => h) (Or.inl ⟨by rfl, ?_⟩) hS ?_
              rotate_left
              · (intro w hSw; (try dsimp only at hSw); go_simp; (first | done | with_reducible rfl))
              change wpAnyH _ _ _ _ _ _ _ (Act.put _ (some 46) _) _
              simp only [Act.put, List.setIfInBounds_toArray, List.set_cons_zero, List.set_cons_succ]
              refine wpAnyH_take (i := 10) (v := ?_) rfl (by kernel_rfl) (by kernel_rfl) (by kernel_rfl) (fun _ _ _ h => h) (Or.inl ⟨by rfl, ?_⟩) hS ?_
              rotate_left
              · (intro w hSw; (try dsimp only at hSw); go_simp; (first | done | with_reducible rfl))
              change wpAnyH _ _ _ _ _ _ _ (Act.put _ (some 47) _) _
              simp only [Act.put, List.setIfInBounds_toArray, List.set_cons_zero, List.set_cons_succ]
              refine wpAnyH_take (i := 11) (v := ?_) rfl (by kernel_rfl) (by kernel_rfl) (by kernel_rfl) (fun _ _ _ h => h) (Or.inl ⟨by rfl, ?_⟩) hS ?_
              rotate_left
              · (intro w hSw; (try dsimp only at hSw); go_simp; (first | done | with_reducible rfl))
              change wpAnyH _ _ _ _ _ _ _ (Act.put _ (some 48) _) _
              simp only [Act.put, List.setIfInBounds_toArray, List.set_cons_zero, List.set_cons_succ]
              refine wpAnyH_take (i := 12) (v := ?_) rfl (by kernel_rfl) (by kernel_rfl) (by kernel_rfl) (fun _ _ _ h => h) (Or.inl ⟨by rfl, ?_⟩) hS ?_
              rotate_left
              · (intro w hSw; (try dsimp only at hSw); go_simp; (first | done | with_reducible rfl))
              change wpAnyH _ _ _ _ _ _ _ (Act.put _ (some 49) _) _
              simp only [Act.put, List.setIfInBounds_toArray, List.set_cons_zero, List.set_cons_succ]
              refine wpAnyH_take (i := 13) (v := ?_) rfl (by kernel_rfl) (by kernel_rfl) (by kernel_rfl) (fun _ _ _ h => h) (Or.inl ⟨by rfl, ?_⟩) hS ?_
              rotate_left
              · (intro w hSw; (try dsimp only at hSw); go_simp; (first | done | with_reducible rfl))
              change wpAnyH _ _ _ _ _ _ _ (Act.put _ (some 50) _) _
              simp only [Act.put, List.setIfInBounds_toArray, List.set_cons_zero, List.set_cons_succ]
              refine wpAnyH_take (i := 14) (v := ?_) rfl (by kernel_rfl) (by kernel_rfl) (by kernel_rfl) (fun _ _ _ h => h) (Or.inl ⟨by rfl, ?_⟩) hS ?_
              rotate_left
              · (intro w hSw; (try dsimp only at hSw); go_simp; (first | done | with_reducible rfl))
              change wpAnyH _ _ _ _ _ _ _ (Act.put _ (some 51) _) _
              simp only [Act.put, List.setIfInBounds_toArray, List.set_cons_zero, List.set_cons_succ]
              refine wpAnyH_take (i := 15) (v := ?_) rfl (by kernel_rfl) (by kernel_rfl) (by kernel_rfl) (fun _ _ _ h => h) (Or.inl ⟨by rfl, ?_⟩) hS ?_
              rotate_left
              · (intro w hSw; (try dsimp only at hSw); go_simp; (first | done | with_reducible rfl))
              change wpAnyH _ _ _ _ _ _ _ (Act.put _ (some 52) _) _
              simp only [Act.put, List.setIfInBounds_toArray, List.set_cons_zero, List.set_cons_succ]
              refine wpAnyH_take (i := 16) (v := ?_) rfl (by kernel_rfl) (by kernel_rfl) (by kernel_rfl) (fun _ _ _ h => h) (Or.inl ⟨by rfl, ?_⟩) hS ?_
              rotate_left
              · (intro w hSw; (try dsimp only at hSw); go_simp; (first | done | with_reducible rfl))
              change wpAnyH _ _ _ _ _ _ _ (Act.put _ (some 53) _) _
              simp only [Act.put, List.setIfInBounds_toArray, List.set_cons_zero, List.set_cons_succ]
              refine wpAnyH_take (i := 17) (v := ?_) rfl (by kernel_rfl) (by kernel_rfl) (by kernel_rfl) (fun _ _ _ h => h) (Or.inl ⟨by rfl, ?_⟩) hS ?_
              rotate_left
              · (intro w hSw; (try dsimp only at hSw); go_simp; (first | done | with_reducible rfl))
              change wpAnyH _ _ _ _ _ _ _ (Act.put _ (some 54) _) _
              simp only [Act.put, List.setIfInBounds_toArray, List.set_cons_zero, List.set_cons_succ]
              refine wpAnyH_take (i := 18) (v := ?_) rfl (by kernel_rfl) (by kernel_rfl) (by kernel_rfl) (fun _ _ _ h => h) (Or.inl ⟨by rfl, ?_⟩) hS ?_
              rotate_left
              · (intro w hSw; (try dsimp only at hSw); go_simp; (first | done | with_reducible rfl))
              change wpAnyH _ _ _ _ _ _ _ (Act.put _ (some 55) _) _
              simp only [Act.put, List.setIfInBounds_toArray, List.set_cons_zero, List.set_cons_succ]
              refine wpAnyH_take (i := 19) (v := ?_) rfl (by kernel_rfl) (by kernel_rfl) (by kernel_rfl) (fun _ _ _ h => h) (Or.inl ⟨by rfl, ?_⟩) hS ?_
              rotate_left
              · (intro w hSw; (try dsimp only at hSw); go_simp; (first | done | with_reducible rfl))
              change wpAnyH _ _ _ _ _ _ _ (Act.put _ (some 56) _) _
              simp only [Act.put, List.setIfInBounds_toArray, List.set_cons_zero, List.set_cons_succ]
              refine wpAnyH_take (i := 20) (v := ?_) rfl (by kernel_rfl) (by kernel_rfl) (by kernel_rfl) (fun _ _ _ h => h) (Or.inl ⟨by rfl, ?_⟩) hS ?_
              rotate_left
              · (intro w hSw; (try dsimp only at hSw); go_simp; (first | done | with_reducible rfl))
              change wpAnyH _ _ _ _ _ _ _ (Act.put _ (some 57) _) _
              simp only [Act.put, List.setIfInBounds_toArray, List.set_cons_zero, List.set_cons_succ]
              refine wpAnyH_take (i := 21) (v := ?_) rfl (by kernel_rfl) (by kernel_rfl) (by kernel_rfl) (fun _ _ _ h => h) (Or.inl ⟨by rfl, ?_⟩) hS ?_
              rotate_left
              · (intro w hSw; (try dsimp only at hSw); go_simp; (first | done | with_reducible rfl))
              change wpAnyH _ _ _ _ _ _ _ (Act.put _ (some 58) _) _
              simp only [Act.put, List.setIfInBounds_toArray, List.set_cons_zero, List.set_cons_succ]
              refine wpAnyH_take (i := 22) (v := ?_) rfl (by kernel_rfl) (by kernel_rfl) (by kernel_rfl) (fun _ _ _ h => h) (Or.inl ⟨by rfl, ?_⟩) hS ?_
              rotate_left
              · (intro w hSw; (try dsimp only at hSw); go_simp; (first | done | with_reducible rfl))
              change wpAnyH _ _ _ _ _ _ _ (Act.put _ (some 59) _) _
              simp only [Act.put, List.setIfInBounds_toArray, List.set_cons_zero, List.set_cons_succ]
              refine wpAnyH_ready (rs := [23]) (by kernel_rfl) (by simp) ?_
              refine AllReadyH.cons rfl (fun K hK => ?_) AllReadyH.nil
              go_simp
              refine (isInt_f h.m v0 HM.out).mono ?_
              rintro e v0 ⟨rfl, rfl⟩
              go_wp2_with fail
              refine hK.out _ _ hS (fun hS => ?_)
              clear hK K
              try simp only [Act.put, List.setIfInBounds_toArray, List.set_cons_zero, List.set_cons_succ]
              refine wpAnyH_take (i := 24) (v := ?_) rfl (by kernel_rfl) (by kernel_rfl) (by kernel_rfl) (fun _ _ _ h => h) (Or.inl ⟨by rfl, ?_⟩) hS ?_
              rotate_left
              · (intro w hSw; (try dsimp only at hSw); go_simp; (first | done | with_reducible rfl))
              change wpAnyH _ _ _ _ _ _ _ (Act.put _ (some 61) _) _
              simp only [Act.put, List.setIfInBounds_toArray, List.set_cons_zero, List.set_cons_succ]
              refine wpAnyH_take (i := 25) (v := ?_) rfl (by kernel_rfl) (by kernel_rfl) (by kernel_rfl) (fun _ _ _ h => h) (Or.inl ⟨by rfl, ?_⟩) hS ?_
              rotate_left
              · (intro w hSw; (try dsimp only at hSw); go_simp; (first | done | with_reducible rfl))
              change wpAnyH _ _ _ _ _ _ _ (Act.put _ (some 62) _) _
              simp only [Act.put, List.setIfInBounds_toArray, List.set_cons_zero, List.set_cons_succ]
              refine wpAnyH_take (i := 26) (v := ?_) rfl (by kernel_rfl) (by kernel_rfl) (by kernel_rfl) (fun _ _ _ h => h) (Or.inl ⟨by rfl, ?_⟩) hS ?_
              rotate_left
              · (intro w hSw; (try dsimp only at hSw); go_simp; (first | done | with_reducible rfl))
              change wpAnyH _ _ _ _ _ _ _ (Act.put _ (some 63) _) _
              simp only [Act.put, List.setIfInBounds_toArray, List.set_cons_zero, List.set_cons_succ]
              refine wpAnyH_done (by kernel_rfl) ?_ _
              refine NoPanic.normal ?_
              go_wp2_with fail
              go_meet
              exact ⟨rfl, kz⟩
            · have z2 : decide ((k : Int) < h.n) = false := decide_eq_false (by omega)
              refine wp_region_noPanic ?_
              refine wp_region_held_drew (S := (fun w' => w'.cell? ⟨gH, 1, none⟩ = some (.slice (some ⟨b1, o1, none⟩) h.ln h.lc) ∧ w'.cell? ⟨gH, 2, none⟩ = some (.int .i64 (h.m : Int)) ∧ w'.cell? ⟨b1, o1 + k, none⟩ = some (.int .i64 (-((h.m : Nat) : Int))) ∧ w'.cell? ⟨gH, 0, none⟩ = some (.slice h.a h.n h.c))) (by kernel_rfl) ⟨e1, e2, ck, e0⟩ (fun hS => ?_)
              have kz : Keep wr wr.drew := (Keep.refl _).drew
              generalize wr.drew = v0 at hS kz ⊢
              refine wpAnyH_take (i := 0) (v := ?_) rfl (by kernel_rfl) (by kernel_rfl) (by kernel_rfl) (fun _ _ _ h => h) (Or.inl ⟨by rfl, ?_⟩) hS ?_
              rotate_left
              · (intro w hSw; (try dsimp only at hSw); go_simp; (first | done | with_reducible rfl))
              change wpAnyH _ _ _ _ _ _ _ (Act.put _ (some 37) _) _
              simp only [Act.put, List.setIfInBounds_toArray, List.set_cons_zero, List.set_cons_succ]
              refine wpAnyH_take (i := 1) (v := ?_) rfl (by kernel_rfl) (by kernel_rfl) (by kernel_rfl) (fun _ _ _ h => h) (Or.inl ⟨by rfl, ?_⟩) hS ?_
              rotate_left
              · (intro w hSw; (try dsimp only at hSw); go_simp; (first | done | with_reducible rfl))
              change wpAnyH _ _ _ _ _ _ _ (Act.put _ (some 38) _) _
              simp only [Act.put, List.setIfInBounds_toArray, List.set_cons_zero, List.set_cons_succ]
              refine wpAnyH_take (i := 2) (v := ?_) rfl (by kernel_rfl) (by kernel_rfl) (by kernel_rfl) (fun _ _ _ h => h) (Or.inl ⟨by rfl, ?_⟩) hS ?_
              rotate_left
              · (intro w hSw; (try dsimp only at hSw); go_simp; (first | done | with_reducible rfl))
              change wpAnyH _ _ _ _ _ _ _ (Act.put _ (some 39) _) _
              simp only [Act.put, List.setIfInBounds_toArray, List.set_cons_zero, List.set_cons_succ]
              refine wpAnyH_take (i := 3) (v := ?_) rfl (by kernel_rfl) (by kernel_rfl) (by kernel_rfl) (fun _ _ _ h => h) (Or.inl ⟨by rfl, ?_⟩) hS ?_
              rotate_left
              · (intro w hSw; (try dsimp only at hSw); go_simp; (first | done | with_reducible rfl))
              change wpAnyH _ _ _ _ _ _ _ (Act.put _ (some 40) _) _
              simp only [Act.put, List.setIfInBounds_toArray, List.set_cons_zero, List.set_cons_succ]
              refine wpAnyH_take (i := 4) (v := ?_) rfl (by kernel_rfl) (by kernel_rfl) (by kernel_rfl) (fun _ _ _ h => h) (Or.inl ⟨by rfl, ?_⟩) hS ?_
              rotate_left
              · (intro w hSw; (try dsimp only at hSw); go_simp; (first | done | with_reducible rfl))
              change wpAnyH _ _ _ _ _ _ _ (Act.put _ (some 41) _) _
              simp only [Act.put, List.setIfInBounds_toArray, List.set_cons_zero, List.set_cons_succ]
              refine wpAnyH_take (i := 5) (v := ?_) rfl (by kernel_rfl) (by kernel_rfl) (by kernel_rfl) (fun _ _ _ h => h) (Or.inl ⟨by rfl, ?_⟩) hS ?_
              rotate_left
              · (intro w hSw; (try dsimp only at hSw); go_simp; (first | done | with_reducible rfl))
              change wpAnyH _ _ _ _ _ _ _ (Act.put _ (some 42) _) _
              simp only [Act.put, List.setIfInBounds_toArray, List.set_cons_zero, List.set_cons_succ]
              refine wpAnyH_take (i := 6) (v := ?_) rfl (by kernel_rfl) (by kernel_rfl) (by kernel_rfl) (fun _ _ _ h => h) (Or.inl ⟨by rfl, ?_⟩) hS ?_
              rotate_left
              · (intro w hSw; (try dsimp only at hSw); go_simp; (first | done | with_reducible rfl))
              change wpAnyH _ _ _ _ _ _ _ (Act.put _ (some 43) _) _
              simp only [Act.put, List.setIfInBounds_toArray, List.set_cons_zero, List.set_cons_succ]
              refine wpAnyH_ready (rs := [7]) (by kernel_rfl) (by simp) ?_
              refine AllReadyH.cons rfl (fun K hK => ?_) AllReadyH.nil
              go_simp
              refine (isInt_f h.m v0 HM.out).mono ?_
              rintro e v0 ⟨rfl, rfl⟩
              go_wp2_with fail
              refine hK.out _ _ hS (fun hS => ?_)
              clear hK K
              try simp only [Act.put, List.setIfInBounds_toArray, List.set_cons_zero, List.set_cons_succ]
              refine wpAnyH_take (i := 8) (v := ?_) rfl (by kernel_rfl) (by kernel_rfl) (by kernel_rfl) (fun _ _ _ h => h) (Or.inl ⟨by rfl, ?_⟩) hS ?_
              rotate_left
              · (intro w hSw; (try dsimp only at hSw); go_simp; (first | done | with_reducible rfl))
              change wpAnyH _ _ _ _ _ _ _ (Act.put _ (some 45) _) _
              simp only [Act.put, List.setIfInBounds_toArray, List.set_cons_zero, List.set_cons_succ]
              refine wpAnyH_take (i := 9) (v := ?_) rfl (by kernel_rfl) (by kernel_rfl) (by kernel_rfl) (fun _ _ _ h => h) (Or.inl ⟨by rfl, ?_⟩) hS ?_
              rotate_left
              · (intro w hSw; (try dsimp only at hSw); go_simp; (first | done | with_reducible rfl))
              change wpAnyH _ _ _ _ _ _ _ (Act.put _ (some 46) _) _
              simp only [Act.put, List.setIfInBounds_toArray, List.set_cons_zero, List.set_cons_succ]
              refine wpAnyH_take (i := 10) (v := ?_) rfl (by kernel_rfl) (by kernel_rfl) (by kernel_rfl) (fun _ _ _ h => h) (Or.inl ⟨by rfl, ?_⟩) hS ?_
              rotate_left
              · (intro w hSw; (try dsimp only at hSw); go_simp; (first | done | with_reducible rfl))
              change wpAnyH _ _ _ _ _ _ _ (Act.put _ (some 47) _) _
              simp only [Act.put, List.setIfInBounds_toArray, List.set_cons_zero, List.set_cons_succ]
              refine wpAnyH_take (i := 11) (v := ?_) rfl (by kernel_rfl) (by kernel_rfl) (by kernel_rfl) (fun _ _ _ h => h) (Or.inl ⟨by rfl, ?_⟩) hS ?_
              rotate_left
              · (intro w hSw; (try dsimp only at hSw); go_simp; (first | done | with_reducible rfl))
              change wpAnyH _ _ _ _ _ _ _ (Act.put _ (some 48) _) _
              simp only [Act.put, List.setIfInBounds_toArray, List.set_cons_zero, List.set_cons_succ]
              refine wpAnyH_take (i := 12) (v := ?_) rfl (by kernel_rfl) (by kernel_rfl) (by kernel_rfl) (fun _ _ _ h => h) (Or.inl ⟨by rfl, ?_⟩) hS ?_
              rotate_left
              · (intro w hSw; (try dsimp only at hSw); go_simp; (first | done | with_reducible rfl))
              change wpAnyH _ _ _ _ _ _ _ (Act.put _ (some 49) _) _
              simp only [Act.put, List.setIfInBounds_toArray, List.set_cons_zero, List.set_cons_succ]
              refine wpAnyH_take (i := 13) (v := ?_) rfl (by kernel_rfl) (by kernel_rfl) (by kernel_rfl) (fun _ _ _ h => h) (Or.inl ⟨by rfl, ?_⟩) hS ?_
              rotate_left
              · (intro w hSw; (try dsimp only at hSw); go_simp; (first | done | with_reducible rfl))
              change wpAnyH _ _ _ _ _ _ _ (Act.put _ (some 50) _) _
              simp only [Act.put, List.setIfInBounds_toArray, List.set_cons_zero, List.set_cons_succ]
              refine wpAnyH_take (i := 14) (v := ?_) rfl (by kernel_rfl) (by kernel_rfl) (by kernel_rfl) (fun _ _ _ h => h) (Or.inl ⟨by rfl, ?_⟩) hS ?_
              rotate_left
              · (intro w hSw; (try dsimp only at hSw); go_simp; (first | done | with_reducible rfl))
              change wpAnyH _ _ _ _ _ _ _ (Act.put _ (some 51) _) _
              simp only [Act.put, List.setIfInBounds_toArray, List.set_cons_zero, List.set_cons_succ]
              refine wpAnyH_take (i := 15) (v := ?_) rfl (by kernel_rfl) (by kernel_rfl) (by kernel_rfl) (fun _ _ _ h => h) (Or.inl ⟨by rfl, ?_⟩) hS ?_
              rotate_left
              · (intro w hSw; (try dsimp only at hSw); go_simp; (first | done | with_reducible rfl))
              change wpAnyH _ _ _ _ _ _ _ (Act.put _ (some 52) _) _
              simp only [Act.put, List.setIfInBounds_toArray, List.set_cons_zero, List.set_cons_succ]
              refine wpAnyH_take (i := 16) (v := undef) rfl (by kernel_rfl) (by kernel_rfl) (by kernel_rfl) (fun _ _ _ h => h) (Or.inr ⟨by rfl, rfl⟩) hS ?_
              change wpAnyH _ _ _ _ _ _ _ (Act.put _ (some 53) _) _
              simp only [Act.put, List.setIfInBounds_toArray, List.set_cons_zero, List.set_cons_succ]
              refine wpAnyH_take (i := 17) (v := undef) rfl (by kernel_rfl) (by kernel_rfl) (by kernel_rfl) (fun _ _ _ h => h) (Or.inr ⟨by rfl, rfl⟩) hS ?_
              change wpAnyH _ _ _ _ _ _ _ (Act.put _ (some 54) _) _
              simp only [Act.put, List.setIfInBounds_toArray, List.set_cons_zero, List.set_cons_succ]
              refine wpAnyH_take (i := 18) (v := undef) rfl (by kernel_rfl) (by kernel_rfl) (by kernel_rfl) (fun _ _ _ h => h) (Or.inr ⟨by rfl, rfl⟩) hS ?_
              change wpAnyH _ _ _ _ _ _ _ (Act.put _ (some 55) _) _
              simp only [Act.put, List.setIfInBounds_toArray, List.set_cons_zero, List.set_cons_succ]
              refine wpAnyH_take (i := 19) (v := undef) rfl (by kernel_rfl) (by kernel_rfl) (by kernel_rfl) (fun _ _ _ h => h) (Or.inr ⟨by rfl, rfl⟩) hS ?_
              change wpAnyH _ _ _ _ _ _ _ (Act.put _ (some 56) _) _
              simp only [Act.put, List.setIfInBounds_toArray, List.set_cons_zero, List.set_cons_succ]
              refine wpAnyH_take (i := 20) (v := undef) rfl (by kernel_rfl) (by kernel_rfl) (by kernel_rfl) (fun _ _ _ h => h) (Or.inr ⟨by rfl, rfl⟩) hS ?_
              change wpAnyH _ _ _ _ _ _ _ (Act.put _ (some 57) _) _
              simp only [Act.put, List.setIfInBounds_toArray, List.set_cons_zero, List.set_cons_succ]
              refine wpAnyH_take (i := 21) (v := undef) rfl (by kernel_rfl) (by kernel_rfl) (by kernel_rfl) (fun _ _ _ h => h) (Or.inr ⟨by rfl, rfl⟩) hS ?_
              change wpAnyH _ _ _ _ _ _ _ (Act.put _ (some 58) _) _
              simp only [Act.put, List.setIfInBounds_toArray, List.set_cons_zero, List.set_cons_succ]
              refine wpAnyH_take (i := 22) (v := undef) rfl (by kernel_rfl) (by kernel_rfl) (by kernel_rfl) (fun _ _ _ h => h) (Or.inr ⟨by rfl, rfl⟩) hS ?_
              change wpAnyH _ _ _ _ _ _ _ (Act.put _ (some 59) _) _
              simp only [Act.put, List.setIfInBounds_toArray, List.set_cons_zero, List.set_cons_succ]
              refine wpAnyH_take (i := 23) (v := undef) rfl (by kernel_rfl) (by kernel_rfl) (by kernel_rfl) (fun _ _ _ h => h) (Or.inr ⟨by rfl, rfl⟩) hS ?_
              change wpAnyH _ _ _ _ _ _ _ (Act.put _ (some 60) _) _
              simp only [Act.put, List.setIfInBounds_toArray, List.set_cons_zero, List.set_cons_succ]
              refine wpAnyH_take (i := 24) (v := undef) rfl (by kernel_rfl) (by kernel_rfl) (by kernel_rfl) (fun _ _ _ h => h) (Or.inr ⟨by rfl, rfl⟩) hS ?_
              change wpAnyH _ _ _ _ _ _ _ (Act.put _ (some 61) _) _
              simp only [Act.put, List.setIfInBounds_toArray, List.set_cons_zero, List.set_cons_succ]
              refine wpAnyH_take (i := 25) (v := ?_) rfl (by kernel_rfl) (by kernel_rfl) (by kernel_rfl) (fun _ _ _ h => h) (Or.inl ⟨by rfl, ?_⟩) hS ?_
              rotate_left
              · (intro w hSw; (try dsimp only at hSw); go_simp; (first | done | with_reducible rfl))
              change wpAnyH _ _ _ _ _ _ _ (Act.put _ (some 62) _) _
              simp only [Act.put, List.setIfInBounds_toArray, List.set_cons_zero, List.set_cons_succ]
              refine wpAnyH_take (i := 26) (v := ?_) rfl (by kernel_rfl) (by kernel_rfl) (by kernel_rfl) (fun _ _ _ h => h) (Or.inl ⟨by rfl, ?_⟩) hS ?_
              rotate_left
              · (intro w hSw; (try dsimp only at hSw); go_simp; (first | done | with_reducible rfl))
              change wpAnyH _ _ _ _ _ _ _ (Act.put _ (some 63) _) _
              simp only [Act.put, List.setIfInBounds_toArray, List.set_cons_zero, List.set_cons_succ]
              refine wpAnyH_done (by kernel_rfl) ?_ _
              refine NoPanic.normal ?_
              go_wp2_with fail
              go_meet
              exact ⟨rfl, kz⟩
          case rest =>
          obtain ⟨rfl, kq⟩ := hcut
          go_wp2_with fail
          go_roundw
          case rel => exact ⟨k + 1, by omega, by go_num, hk2.trans kq⟩
          case measure => simp [intOf]; omega
        · go_wp2_with fail
          go_roundw
          case rel => exact ⟨i + 1, by omega, by go_num, hk.trans hk2⟩
          case measure => simp [intOf]; omega
    · rw [HV.out] at cv
      go_wp2_with fail
      go_ret
      exact ⟨rfl, hk⟩
end Go.Proofs.YtnjjeanbopclhaaGreatDoor

namespace Go.Proofs.YtnjjeanbopclhaaGreatDoor
open Go.RowKit

def nilV : Value := .slice none 0 0
section
variable {w : World} {b b' n c g : Nat} {e e' t : TypeId} {A : Option Addr} {vs l : List Value} {v v' : Value} {hs hs' : List Hd}
theorem Fr.off (h : Fr e w b A n c vs) (hf : ∀ x ∈ hs, ∃ us, Fr e' w b' x.a x.n x.c us) (hne : e ≠ e') : ∀ k, ownB A c = some k → ¬ Own hs k := by
  rintro k hk ⟨x, hx, ho⟩
  obtain ⟨us, hu⟩ := hf x hx
  obtain ⟨_, _, _, h4 | ⟨g, cur, e1, _, hg, _⟩⟩ := hu
  · simp [ownB, h4] at ho
  · rw [e1] at ho
    unfold ownB at ho
    split at ho
    · cases ho
    · simp at ho
      exact h.own_ne hg hne k hk ho
theorem Fr.offRow (h : Fr e w b A n c vs) (hr : HRow w b' t v hs) (hne : e ≠ t) : ∀ k, ownB A c = some k → v.ownBlock ≠ some k := by
  intro k hk hv
  obtain ⟨cur, hc⟩ := hr.cur hv
  exact h.own_ne hc hne k hk rfl
theorem HRow.offRow (h : HRow w b e v hs) (h' : HRow w b' e' v' hs') (hne : e ≠ e') : ∀ k, v.ownBlock = some k → v'.ownBlock ≠ some k := by
  intro k hk hv
  obtain ⟨cur, hc⟩ := h.cur hk
  obtain ⟨cur', hc'⟩ := h'.cur hv
  rw [hc] at hc'
  injection hc' with hc'
  injection hc' with _ ht
  exact hne ht
theorem Blk.offOwn (h : Blk w g t l) (hf : ∀ x ∈ hs, ∃ us, Fr e' w b' x.a x.n x.c us) (hne : e' ≠ t) : ¬ Own hs g := by
  rintro ⟨x, hx, ho⟩
  obtain ⟨us, hu⟩ := hf x hx
  exact hu.own_ne h hne g ho rfl
theorem Blk.offRow (h : Blk w g t l) (hr : HRow w b' e v hs) (hne : e ≠ t) : v.ownBlock ≠ some g := by
  intro hv
  obtain ⟨cur, hc⟩ := hr.cur hv
  unfold Blk at h
  rw [hc] at h
  injection h with h
  injection h with _ ht
  exact hne ht
theorem own_ge_of (hf : ∀ x ∈ hs, ∃ us, Fr e' w b x.a x.n x.c us) : ∀ k, Own hs k → b ≤ k := by
  rintro k ⟨x, hx, ho⟩
  obtain ⟨us, hu⟩ := hf x hx
  exact (hu.own_ge ho).1
theorem HRow.own_ge (h : HRow w b e v hs) : ∀ k, v.ownBlock = some k → b ≤ k := by
  intro k hk
  obtain ⟨h1, ⟨rfl, h2⟩ | ⟨g, cap, cur, rfl, hg, r⟩⟩ := h
  · cases hk
  · cases hk
    exact hg
end

/-- The Book in memory: its count n; what it holds of bytes, of ints; nothing else. -/
structure Bk (w : World) (base g n : Nat) (hb hi : List Hd) (vb vi : Value) : Prop where
  b : Blk w g 49 [.int .i64 n, vb, vi, nilV, nilV, nilV, nilV, nilV, nilV, nilV]
  rb : HRow w base 89 vb hb
  ri : HRow w base 92 vi hi
  g : base ≤ g
/-- What it holds lies in rows apart, of the call's own. -/
structure Holds (w : World) (base : Nat) (hb hi : List Hd) : Prop where
  fb : ∀ h ∈ hb, ∃ us, Fr 5 w base h.a h.n h.c us
  fi : ∀ h ∈ hi, ∃ us, Fr 3 w base h.a h.n h.c us
  pb : Aparts hb
  pi : Aparts hi
  mb : ∀ h ∈ hb, h.m < 100000 ∧ h.n ≤ 1000000
  mi : ∀ h ∈ hi, h.m < 100000 ∧ h.n ≤ 1000000
  lb : hb.length ≤ 10000
  li : hi.length ≤ 10000
theorem Bk.keep {w w' : World} {base g n : Nat} {hb hi : List Hd} {vb vi : Value} (h : Bk w base g n hb hi vb vi) (hk : Keep w w') : Bk w' base g n hb hi vb vi := ⟨h.b.keep hk, h.rb.keep hk, h.ri.keep hk, h.g⟩
theorem Bk.cell {w : World} {base g n : Nat} {hb hi : List Hd} {vb vi : Value} (h : Bk w base g n hb hi vb vi) {i : Nat} (h2 : 2 < i) (h9 : i < 10) : w.cell? ⟨g, i, none⟩ = some (.slice none 0 0) := by
  refine h.b.cell_ ?_
  match i, h2, h9 with
  | 3, _, _ => rfl
  | 4, _, _ => rfl
  | 5, _, _ => rfl
  | 6, _, _ => rfl
  | 7, _, _ => rfl
  | 8, _, _ => rfl
  | 9, _, _ => rfl

set_option maxRecDepth 100000 in
set_option maxHeartbeats 4000000 in
theorem apart_f (g n base : Nat) (hb hi : List Hd) (vb vi : Value) (w : World) (hk : Bk w base g n hb hi vb vi) (hh : Holds w base hb hi) :
    Calls Tryz.prog 18 #[pK g] w fun e w' => e = .returned (.bool true) ∧ But (fun q => base ≤ q) w w' := by
  have hbs : base ≤ w.heap.size := Nat.le_trans hk.g (Nat.le_of_lt hk.b.lt)
  have mb1 : ∀ h ∈ hb, h.m < 100000 := fun h x => (hh.mb h x).1
  have mi1 : ∀ h ∈ hi, h.m < 100000 := fun h x => (hh.mi h x).1
  have mb2 : ∀ h ∈ hb, h.n ≤ 1000000 := fun h x => (hh.mb h x).2
  have mi2 : ∀ h ∈ hi, h.n ≤ 1000000 := fun h x => (hh.mi h x).2
  have c1 := fillByte_f g vb hb w base (hk.b.cell_ rfl) hk.rb hh.fb hh.pb mb1 (hk.b.offOwn hh.fb (by decide)) hh.lb
  unfold pK at c1 ⊢
  go_enter Tryz.func18, Tryz.ntmps18
  go_wp2_with fail
  refine c1.mono ?_
  rintro e w1 ⟨rfl, t1, fb1⟩
  clear c1
  have hB1 : But (fun q => base ≤ q) w w1 := t1.mono (own_ge_of hh.fb)
  have hk1 : Bk w1 base g n hb hi vb vi := ⟨hk.b.but t1 (hk.b.offOwn hh.fb (by decide)), hk.rb.but t1 (hk.rb.notOwn hh.fb (by decide)), hk.ri.but t1 (hk.ri.notOwn hh.fb (by decide)), hk.g⟩
  have fi1 : ∀ h ∈ hi, ∃ us, Fr 3 w1 base h.a h.n h.c us := fun h x => by
    obtain ⟨us, hu⟩ := hh.fi h x
    exact ⟨us, hu.but t1 (hu.off hh.fb (by decide))⟩
  have c2 := fillInt_f g vi hi w1 base (hk1.b.cell_ rfl) hk1.ri fi1 hh.pi mi1 (hk1.b.offOwn fi1 (by decide)) hh.li
  unfold pK at c2
  go_wp2_with fail
  refine c2.mono ?_
  rintro e w2 ⟨rfl, t2, fi2⟩
  clear c2
  have hB2 : But (fun q => base ≤ q) w w2 := hB1.trans (t2.mono (own_ge_of fi1))
  have hk2 : Bk w2 base g n hb hi vb vi := ⟨hk1.b.but t2 (hk1.b.offOwn fi1 (by decide)), hk1.rb.but t2 (hk1.rb.notOwn fi1 (by decide)), hk1.ri.but t2 (hk1.ri.notOwn fi1 (by decide)), hk.g⟩
  have fb2 : ∀ h ∈ hb, Fr 5 w2 base h.a h.n h.c (List.replicate h.n (.int .u8 (mk8 h.m))) := fun h x => (fb1 h x).but t2 ((fb1 h x).off fi1 (by decide))
  clear t1 t2 fb1 fi1 hB1 hk1
  have c3 := fillText_no g w2 (hk2.cell (i := 3) (by decide) (by decide))
  unfold pK at c3
  go_wp2_with fail
  refine c3.mono ?_
  rintro e w3 ⟨rfl, kq⟩
  clear c3
  have hk3 := hk2.keep kq
  have hB3 := hB2.trans (But.keep kq _)
  have fb3 := fun h x => (fb2 h x).keep kq
  have fi3 := fun h x => (fi2 h x).keep kq
  clear kq hk2 hB2 fb2 fi2
  have c3 := fillIntList_no g w3 (hk3.cell (i := 4) (by decide) (by decide))
  unfold pK at c3
  go_wp2_with fail
  refine c3.mono ?_
  rintro e w4 ⟨rfl, kq⟩
  clear c3
  have hk4 := hk3.keep kq
  have hB4 := hB3.trans (But.keep kq _)
  have fb4 := fun h x => (fb3 h x).keep kq
  have fi4 := fun h x => (fi3 h x).keep kq
  clear kq hk3 hB3 fb3 fi3
  have c3 := fillByteList_no g w4 (hk4.cell (i := 5) (by decide) (by decide))
  unfold pK at c3
  go_wp2_with fail
  refine c3.mono ?_
  rintro e w5 ⟨rfl, kq⟩
  clear c3
  have hk5 := hk4.keep kq
  have hB5 := hB4.trans (But.keep kq _)
  have fb5 := fun h x => (fb4 h x).keep kq
  have fi5 := fun h x => (fi4 h x).keep kq
  clear kq hk4 hB4 fb4 fi4
  have c3 := fillWhy_no g w5 (hk5.cell (i := 6) (by decide) (by decide))
  unfold pK at c3
  go_wp2_with fail
  refine c3.mono ?_
  rintro e w6 ⟨rfl, kq⟩
  clear c3
  have hk6 := hk5.keep kq
  have hB6 := hB5.trans (But.keep kq _)
  have fb6 := fun h x => (fb5 h x).keep kq
  have fi6 := fun h x => (fi5 h x).keep kq
  clear kq hk5 hB5 fb5 fi5
  have c3 := fillFrame_no g w6 (hk6.cell (i := 7) (by decide) (by decide))
  unfold pK at c3
  go_wp2_with fail
  refine c3.mono ?_
  rintro e w7 ⟨rfl, kq⟩
  clear c3
  have hk7 := hk6.keep kq
  have hB7 := hB6.trans (But.keep kq _)
  have fb7 := fun h x => (fb6 h x).keep kq
  have fi7 := fun h x => (fi6 h x).keep kq
  clear kq hk6 hB6 fb6 fi6
  have c3 := fillReply_no g w7 (hk7.cell (i := 8) (by decide) (by decide))
  unfold pK at c3
  go_wp2_with fail
  refine c3.mono ?_
  rintro e w8 ⟨rfl, kq⟩
  clear c3
  have hk8 := hk7.keep kq
  have hB8 := hB7.trans (But.keep kq _)
  have fb8 := fun h x => (fb7 h x).keep kq
  have fi8 := fun h x => (fi7 h x).keep kq
  clear kq hk7 hB7 fb7 fi7
  have c3 := fillRecord_no g w8 (hk8.cell (i := 9) (by decide) (by decide))
  unfold pK at c3
  go_wp2_with fail
  refine c3.mono ?_
  rintro e w9 ⟨rfl, kq⟩
  clear c3
  have hk9 := hk8.keep kq
  have hB9 := hB8.trans (But.keep kq _)
  have fb9 := fun h x => (fb8 h x).keep kq
  have fi9 := fun h x => (fi8 h x).keep kq
  clear kq hk8 hB8 fb8 fi8
  have xb : ∀ h ∈ hb, ∃ us, Fr 5 w9 base h.a h.n h.c us := fun h x => ⟨_, fb9 h x⟩
  have xi : ∀ h ∈ hi, ∃ us, Fr 3 w9 base h.a h.n h.c us := fun h x => ⟨_, fi9 h x⟩
  have c4 := growByte_f g vb hb w9 base (hk9.b.cell_ rfl) hk9.rb fb9 hh.pb mb1 mb2 (hk9.b.offOwn xb (by decide)) (hk9.b.offRow hk9.rb (by decide)) hh.lb (Nat.le_trans hbs hB9.size)
  unfold pK at c4
  go_wp2_with fail
  refine c4.mono ?_
  rintro e w10 ⟨rfl, t3, hb', lb', rb', fb'⟩
  clear c4
  have hB10 : But (fun q => base ≤ q) w w10 := hB9.trans (t3.mono fun q hq => hq.elim (own_ge_of xb q) (hk9.rb.own_ge q))
  have hk10 : Bk w10 base g n hb' hi vb vi := ⟨hk9.b.but t3 (fun h => h.elim (hk9.b.offOwn xb (by decide)) (hk9.b.offRow hk9.rb (by decide))), rb', hk9.ri.but t3 (fun k e h => h.elim (hk9.ri.notOwn xb (by decide) k e) (hk9.ri.offRow hk9.rb (by decide) k e)), hk.g⟩
  have fi10 : ∀ h ∈ hi, Fr 3 w10 base h.a h.n h.c (List.replicate h.n (.int .i64 (-((h.m : Nat) : Int)))) := fun h x => (fi9 h x).but t3 (fun k e h' => h'.elim ((fi9 h x).off xb (by decide) k e) ((fi9 h x).offRow hk9.rb (by decide) k e))
  have fo10 : ∀ h ∈ hb', h.ln = h.n + 40 ∧ Fr 5 w10 base h.a h.n h.c (List.replicate h.n (.int .u8 (mk8 h.m))) ∧ Fr 5 w10 base h.la h.ln h.lc (List.replicate (h.n + 40) (.int .u8 (mk8 h.m))) ∧ h.m < 100000 ∧ h.n ≤ 1000000 := fun h x => by
    obtain ⟨j, hj⟩ := List.getElem?_of_mem x
    obtain ⟨h0, h1, h2, h3, h4, h5⟩ := fb' j h hj
    exact ⟨h4, h3, h5, by rw [h2.2.2.2]; exact mb1 h0 (List.mem_of_getElem? h1), by rw [h2.2.2.1]; exact mb2 h0 (List.mem_of_getElem? h1)⟩
  clear t3 xb xi fb' rb' fi9 fb9 hk9 hB9
  have xi : ∀ h ∈ hi, ∃ us, Fr 3 w10 base h.a h.n h.c us := fun h x => ⟨_, fi10 h x⟩
  have c4 := growInt_f g vi hi w10 base (hk10.b.cell_ rfl) hk10.ri fi10 hh.pi mi1 mi2 (hk10.b.offOwn xi (by decide)) (hk10.b.offRow hk10.ri (by decide)) hh.li (Nat.le_trans hbs hB10.size)
  unfold pK at c4
  go_wp2_with fail
  refine c4.mono ?_
  rintro e w11 ⟨rfl, t3, hi', li', ri', fi'⟩
  clear c4
  have hB11 : But (fun q => base ≤ q) w w11 := hB10.trans (t3.mono fun q hq => hq.elim (own_ge_of xi q) (hk10.ri.own_ge q))
  have hk11 : Bk w11 base g n hb' hi' vb vi := ⟨hk10.b.but t3 (fun h => h.elim (hk10.b.offOwn xi (by decide)) (hk10.b.offRow hk10.ri (by decide))), hk10.rb.but t3 (fun k e h => h.elim (hk10.rb.notOwn xi (by decide) k e) (hk10.rb.offRow hk10.ri (by decide) k e)), ri', hk.g⟩
  have fo11 : ∀ h ∈ hb', h.ln = h.n + 40 ∧ Fr 5 w11 base h.a h.n h.c (List.replicate h.n (.int .u8 (mk8 h.m))) ∧ Fr 5 w11 base h.la h.ln h.lc (List.replicate (h.n + 40) (.int .u8 (mk8 h.m))) ∧ h.m < 100000 ∧ h.n ≤ 1000000 := fun h x => by
    obtain ⟨h1, h2, h3, h4⟩ := fo10 h x
    exact ⟨h1, h2.but t3 (fun k e h' => h'.elim (h2.off xi (by decide) k e) (h2.offRow hk10.ri (by decide) k e)), h3.but t3 (fun k e h' => h'.elim (h3.off xi (by decide) k e) (h3.offRow hk10.ri (by decide) k e)), h4⟩
  have fp11 : ∀ h ∈ hi', h.ln = h.n + 40 ∧ Fr 3 w11 base h.a h.n h.c (List.replicate h.n (.int .i64 (-((h.m : Nat) : Int)))) ∧ Fr 3 w11 base h.la h.ln h.lc (List.replicate (h.n + 40) (.int .i64 (-((h.m : Nat) : Int)))) ∧ h.m < 100000 ∧ h.n ≤ 1000000 := fun h x => by
    obtain ⟨j, hj⟩ := List.getElem?_of_mem x
    obtain ⟨h0, h1, h2, h3, h4, h5⟩ := fi' j h hj
    exact ⟨h4, h3, h5, by rw [h2.2.2.2]; exact mi1 h0 (List.mem_of_getElem? h1), by rw [h2.2.2.1]; exact mi2 h0 (List.mem_of_getElem? h1)⟩
  clear t3 xi fi' ri' fi10 fo10 hk10 hB10
  have c3 := growText_no g w11 (hk11.cell (i := 3) (by decide) (by decide))
  unfold pK at c3
  go_wp2_with fail
  refine c3.mono ?_
  rintro e w12 ⟨rfl, kq⟩
  clear c3
  have hk12 := hk11.keep kq
  have hB12 := hB11.trans (But.keep kq _)
  have fo12 := fun h x => (⟨(fo11 h x).1, (fo11 h x).2.1.keep kq, (fo11 h x).2.2.1.keep kq, (fo11 h x).2.2.2⟩ : _ ∧ _ ∧ _ ∧ _)
  have fp12 := fun h x => (⟨(fp11 h x).1, (fp11 h x).2.1.keep kq, (fp11 h x).2.2.1.keep kq, (fp11 h x).2.2.2⟩ : _ ∧ _ ∧ _ ∧ _)
  clear kq hk11 hB11 fo11 fp11
  have c3 := growIntList_no g w12 (hk12.cell (i := 4) (by decide) (by decide))
  unfold pK at c3
  go_wp2_with fail
  refine c3.mono ?_
  rintro e w13 ⟨rfl, kq⟩
  clear c3
  have hk13 := hk12.keep kq
  have hB13 := hB12.trans (But.keep kq _)
  have fo13 := fun h x => (⟨(fo12 h x).1, (fo12 h x).2.1.keep kq, (fo12 h x).2.2.1.keep kq, (fo12 h x).2.2.2⟩ : _ ∧ _ ∧ _ ∧ _)
  have fp13 := fun h x => (⟨(fp12 h x).1, (fp12 h x).2.1.keep kq, (fp12 h x).2.2.1.keep kq, (fp12 h x).2.2.2⟩ : _ ∧ _ ∧ _ ∧ _)
  clear kq hk12 hB12 fo12 fp12
  have c3 := growByteList_no g w13 (hk13.cell (i := 5) (by decide) (by decide))
  unfold pK at c3
  go_wp2_with fail
  refine c3.mono ?_
  rintro e w14 ⟨rfl, kq⟩
  clear c3
  have hk14 := hk13.keep kq
  have hB14 := hB13.trans (But.keep kq _)
  have fo14 := fun h x => (⟨(fo13 h x).1, (fo13 h x).2.1.keep kq, (fo13 h x).2.2.1.keep kq, (fo13 h x).2.2.2⟩ : _ ∧ _ ∧ _ ∧ _)
  have fp14 := fun h x => (⟨(fp13 h x).1, (fp13 h x).2.1.keep kq, (fp13 h x).2.2.1.keep kq, (fp13 h x).2.2.2⟩ : _ ∧ _ ∧ _ ∧ _)
  clear kq hk13 hB13 fo13 fp13
  have c3 := growWhy_no g w14 (hk14.cell (i := 6) (by decide) (by decide))
  unfold pK at c3
  go_wp2_with fail
  refine c3.mono ?_
  rintro e w15 ⟨rfl, kq⟩
  clear c3
  have hk15 := hk14.keep kq
  have hB15 := hB14.trans (But.keep kq _)
  have fo15 := fun h x => (⟨(fo14 h x).1, (fo14 h x).2.1.keep kq, (fo14 h x).2.2.1.keep kq, (fo14 h x).2.2.2⟩ : _ ∧ _ ∧ _ ∧ _)
  have fp15 := fun h x => (⟨(fp14 h x).1, (fp14 h x).2.1.keep kq, (fp14 h x).2.2.1.keep kq, (fp14 h x).2.2.2⟩ : _ ∧ _ ∧ _ ∧ _)
  clear kq hk14 hB14 fo14 fp14
  have c3 := growFrame_no g w15 (hk15.cell (i := 7) (by decide) (by decide))
  unfold pK at c3
  go_wp2_with fail
  refine c3.mono ?_
  rintro e w16 ⟨rfl, kq⟩
  clear c3
  have hk16 := hk15.keep kq
  have hB16 := hB15.trans (But.keep kq _)
  have fo16 := fun h x => (⟨(fo15 h x).1, (fo15 h x).2.1.keep kq, (fo15 h x).2.2.1.keep kq, (fo15 h x).2.2.2⟩ : _ ∧ _ ∧ _ ∧ _)
  have fp16 := fun h x => (⟨(fp15 h x).1, (fp15 h x).2.1.keep kq, (fp15 h x).2.2.1.keep kq, (fp15 h x).2.2.2⟩ : _ ∧ _ ∧ _ ∧ _)
  clear kq hk15 hB15 fo15 fp15
  have c3 := growReply_no g w16 (hk16.cell (i := 8) (by decide) (by decide))
  unfold pK at c3
  go_wp2_with fail
  refine c3.mono ?_
  rintro e w17 ⟨rfl, kq⟩
  clear c3
  have hk17 := hk16.keep kq
  have hB17 := hB16.trans (But.keep kq _)
  have fo17 := fun h x => (⟨(fo16 h x).1, (fo16 h x).2.1.keep kq, (fo16 h x).2.2.1.keep kq, (fo16 h x).2.2.2⟩ : _ ∧ _ ∧ _ ∧ _)
  have fp17 := fun h x => (⟨(fp16 h x).1, (fp16 h x).2.1.keep kq, (fp16 h x).2.2.1.keep kq, (fp16 h x).2.2.2⟩ : _ ∧ _ ∧ _ ∧ _)
  clear kq hk16 hB16 fo16 fp16
  have c3 := growRecord_no g w17 (hk17.cell (i := 9) (by decide) (by decide))
  unfold pK at c3
  go_wp2_with fail
  refine c3.mono ?_
  rintro e w18 ⟨rfl, kq⟩
  clear c3
  have hk18 := hk17.keep kq
  have hB18 := hB17.trans (But.keep kq _)
  have fo18 := fun h x => (⟨(fo17 h x).1, (fo17 h x).2.1.keep kq, (fo17 h x).2.2.1.keep kq, (fo17 h x).2.2.2⟩ : _ ∧ _ ∧ _ ∧ _)
  have fp18 := fun h x => (⟨(fp17 h x).1, (fp17 h x).2.1.keep kq, (fp17 h x).2.2.1.keep kq, (fp17 h x).2.2.2⟩ : _ ∧ _ ∧ _ ∧ _)
  clear kq hk17 hB17 fo17 fp17
  have c5 := lookByte_f g vb hb' w18 base (hk18.b.cell_ rfl) hk18.rb (fun h x => ⟨(fo18 h x).1, (fo18 h x).2.2.1.rd, (fo18 h x).2.1.rd, (fo18 h x).2.2.2⟩) (by rw [lb']; exact hh.lb)
  unfold pK at c5
  go_wp2_with fail
  refine c5.mono ?_
  rintro e w19 ⟨rfl, kq⟩
  clear c5
  have hk19 := hk18.keep kq
  have hB19 := hB18.trans (But.keep kq _)
  have fo19 := fun h x => (⟨(fo18 h x).1, (fo18 h x).2.1.keep kq, (fo18 h x).2.2.1.keep kq, (fo18 h x).2.2.2⟩ : _ ∧ _ ∧ _ ∧ _)
  have fp19 := fun h x => (⟨(fp18 h x).1, (fp18 h x).2.1.keep kq, (fp18 h x).2.2.1.keep kq, (fp18 h x).2.2.2⟩ : _ ∧ _ ∧ _ ∧ _)
  clear kq hk18 hB18 fo18 fp18
  have c5 := lookInt_f g vi hi' w19 base (hk19.b.cell_ rfl) hk19.ri (fun h x => ⟨(fp19 h x).1, (fp19 h x).2.2.1.rd, (fp19 h x).2.1.rd, (fp19 h x).2.2.2⟩) (by rw [li']; exact hh.li)
  unfold pK at c5
  go_wp2_with fail
  refine c5.mono ?_
  rintro e w20 ⟨rfl, kq⟩
  clear c5
  have hk20 := hk19.keep kq
  have hB20 := hB19.trans (But.keep kq _)
  have fo20 := fun h x => (⟨(fo19 h x).1, (fo19 h x).2.1.keep kq, (fo19 h x).2.2.1.keep kq, (fo19 h x).2.2.2⟩ : _ ∧ _ ∧ _ ∧ _)
  have fp20 := fun h x => (⟨(fp19 h x).1, (fp19 h x).2.1.keep kq, (fp19 h x).2.2.1.keep kq, (fp19 h x).2.2.2⟩ : _ ∧ _ ∧ _ ∧ _)
  clear kq hk19 hB19 fo19 fp19
  have c5 := lookText_no g w20 (hk20.cell (i := 3) (by decide) (by decide))
  unfold pK at c5
  go_wp2_with fail
  refine c5.mono ?_
  rintro e w21 ⟨rfl, kq⟩
  clear c5
  have hk21 := hk20.keep kq
  have hB21 := hB20.trans (But.keep kq _)
  have fo21 := fun h x => (⟨(fo20 h x).1, (fo20 h x).2.1.keep kq, (fo20 h x).2.2.1.keep kq, (fo20 h x).2.2.2⟩ : _ ∧ _ ∧ _ ∧ _)
  have fp21 := fun h x => (⟨(fp20 h x).1, (fp20 h x).2.1.keep kq, (fp20 h x).2.2.1.keep kq, (fp20 h x).2.2.2⟩ : _ ∧ _ ∧ _ ∧ _)
  clear kq hk20 hB20 fo20 fp20
  have c5 := lookIntList_no g w21 (hk21.cell (i := 4) (by decide) (by decide))
  unfold pK at c5
  go_wp2_with fail
  refine c5.mono ?_
  rintro e w22 ⟨rfl, kq⟩
  clear c5
  have hk22 := hk21.keep kq
  have hB22 := hB21.trans (But.keep kq _)
  have fo22 := fun h x => (⟨(fo21 h x).1, (fo21 h x).2.1.keep kq, (fo21 h x).2.2.1.keep kq, (fo21 h x).2.2.2⟩ : _ ∧ _ ∧ _ ∧ _)
  have fp22 := fun h x => (⟨(fp21 h x).1, (fp21 h x).2.1.keep kq, (fp21 h x).2.2.1.keep kq, (fp21 h x).2.2.2⟩ : _ ∧ _ ∧ _ ∧ _)
  clear kq hk21 hB21 fo21 fp21
  have c5 := lookByteList_no g w22 (hk22.cell (i := 5) (by decide) (by decide))
  unfold pK at c5
  go_wp2_with fail
  refine c5.mono ?_
  rintro e w23 ⟨rfl, kq⟩
  clear c5
  have hk23 := hk22.keep kq
  have hB23 := hB22.trans (But.keep kq _)
  have fo23 := fun h x => (⟨(fo22 h x).1, (fo22 h x).2.1.keep kq, (fo22 h x).2.2.1.keep kq, (fo22 h x).2.2.2⟩ : _ ∧ _ ∧ _ ∧ _)
  have fp23 := fun h x => (⟨(fp22 h x).1, (fp22 h x).2.1.keep kq, (fp22 h x).2.2.1.keep kq, (fp22 h x).2.2.2⟩ : _ ∧ _ ∧ _ ∧ _)
  clear kq hk22 hB22 fo22 fp22
  have c5 := lookWhy_no g w23 (hk23.cell (i := 6) (by decide) (by decide))
  unfold pK at c5
  go_wp2_with fail
  refine c5.mono ?_
  rintro e w24 ⟨rfl, kq⟩
  clear c5
  have hk24 := hk23.keep kq
  have hB24 := hB23.trans (But.keep kq _)
  have fo24 := fun h x => (⟨(fo23 h x).1, (fo23 h x).2.1.keep kq, (fo23 h x).2.2.1.keep kq, (fo23 h x).2.2.2⟩ : _ ∧ _ ∧ _ ∧ _)
  have fp24 := fun h x => (⟨(fp23 h x).1, (fp23 h x).2.1.keep kq, (fp23 h x).2.2.1.keep kq, (fp23 h x).2.2.2⟩ : _ ∧ _ ∧ _ ∧ _)
  clear kq hk23 hB23 fo23 fp23
  have c5 := lookFrame_no g w24 (hk24.cell (i := 7) (by decide) (by decide))
  unfold pK at c5
  go_wp2_with fail
  refine c5.mono ?_
  rintro e w25 ⟨rfl, kq⟩
  clear c5
  have hk25 := hk24.keep kq
  have hB25 := hB24.trans (But.keep kq _)
  have fo25 := fun h x => (⟨(fo24 h x).1, (fo24 h x).2.1.keep kq, (fo24 h x).2.2.1.keep kq, (fo24 h x).2.2.2⟩ : _ ∧ _ ∧ _ ∧ _)
  have fp25 := fun h x => (⟨(fp24 h x).1, (fp24 h x).2.1.keep kq, (fp24 h x).2.2.1.keep kq, (fp24 h x).2.2.2⟩ : _ ∧ _ ∧ _ ∧ _)
  clear kq hk24 hB24 fo24 fp24
  have c5 := lookReply_no g w25 (hk25.cell (i := 8) (by decide) (by decide))
  unfold pK at c5
  go_wp2_with fail
  refine c5.mono ?_
  rintro e w26 ⟨rfl, kq⟩
  clear c5
  have hk26 := hk25.keep kq
  have hB26 := hB25.trans (But.keep kq _)
  have fo26 := fun h x => (⟨(fo25 h x).1, (fo25 h x).2.1.keep kq, (fo25 h x).2.2.1.keep kq, (fo25 h x).2.2.2⟩ : _ ∧ _ ∧ _ ∧ _)
  have fp26 := fun h x => (⟨(fp25 h x).1, (fp25 h x).2.1.keep kq, (fp25 h x).2.2.1.keep kq, (fp25 h x).2.2.2⟩ : _ ∧ _ ∧ _ ∧ _)
  clear kq hk25 hB25 fo25 fp25
  have c5 := lookRecord_no g w26 (hk26.cell (i := 9) (by decide) (by decide))
  unfold pK at c5
  go_wp2_with fail
  refine c5.mono ?_
  rintro e w27 ⟨rfl, kq⟩
  clear c5
  have hk27 := hk26.keep kq
  have hB27 := hB26.trans (But.keep kq _)
  have fo27 := fun h x => (⟨(fo26 h x).1, (fo26 h x).2.1.keep kq, (fo26 h x).2.2.1.keep kq, (fo26 h x).2.2.2⟩ : _ ∧ _ ∧ _ ∧ _)
  have fp27 := fun h x => (⟨(fp26 h x).1, (fp26 h x).2.1.keep kq, (fp26 h x).2.2.1.keep kq, (fp26 h x).2.2.2⟩ : _ ∧ _ ∧ _ ∧ _)
  clear kq hk26 hB26 fo26 fp26
  go_wp2_with fail
  go_ret
  exact ⟨rfl, hB27⟩
end Go.Proofs.YtnjjeanbopclhaaGreatDoor

namespace Go.Proofs.YtnjjeanbopclhaaGreatDoor
open Go.RowKit

theorem infoHB : (Tryz.prog.info? 89).map (fun i => (i.zero, i.size, i.bytes)) = some (some (.agg #[.slice none 0 0, .slice none 0 0, .int .i64 0]), 3, 56) := by kernel_rfl
theorem infoHI : (Tryz.prog.info? 92).map (fun i => (i.zero, i.size, i.bytes)) = some (some (.agg #[.slice none 0 0, .slice none 0 0, .int .i64 0]), 3, 56) := by kernel_rfl
theorem ownsRow_val {w : World} {base size n : Nat} {e : TypeId} {v : Value} {xs : List Value} (h : w.ownsRow base e size v n xs) : ∃ A c, v = .slice A n c := by
  obtain ⟨_, ⟨rfl, rfl⟩ | ⟨g, cap, cur, rfl, _⟩⟩ := h
  · exact ⟨none, 0, rfl⟩
  · exact ⟨_, cap, rfl⟩

set_option maxRecDepth 100000 in
set_option maxHeartbeats 4000000 in
theorem keepByte_f (g n base : Nat) (hb hi : List Hd) (vb vi : Value) (A : Option Addr) (m c : Nat) (w : World) (hk : Bk w base g n hb hi vb vi) (hn : n ≤ 10000) (hl : hb.length ≤ 10000) :
    Calls Tryz.prog 40 #[pK g, .slice A m c] w fun e w' => e = .returned (.tuple #[]) ∧ ∃ v', Bk w' base g (n + 1) (hb ++ [⟨A, c, m, n + 1, none, 0, 0⟩]) hi v' vi ∧ But (fun q => q = g ∨ vb.ownBlock = some q) w w' := by
  obtain ⟨ti, hi2, hzz⟩ := Option.map_eq_some_iff.1 infoHB
  simp only [Prod.mk.injEq] at hzz
  obtain ⟨hz2, hsz2, hby2⟩ := hzz
  have hbs : base ≤ w.heap.size := Nat.le_trans hk.g (Nat.le_of_lt hk.b.lt)
  have b0 := hk.b.cell_ (i := 0) rfl
  have f0 := hk.b.frozen 0
  have hzero : (zeroValue 89).run Tryz.prog w = .ok (.agg #[.slice none 0 0, .slice none 0 0, .int .i64 0]) w := by kernel_rfl
  unfold pK
  go_enter Tryz.func40, Tryz.ntmps40
  go_upto_region 1 with fail
  have h0 : But (fun q => q = g ∨ vb.ownBlock = some q) w (w.setCell ⟨g, 0, none⟩ (.int .i64 ((n : Int) + 1))) := (But.refl _ _).setCell (.inl rfl) _
  have hS1 : But (fun q => q = g) w (w.setCell ⟨g, 0, none⟩ (.int .i64 ((n : Int) + 1))) := (But.refl (fun q => q = g) w).setCell (p := ⟨g, 0, none⟩) rfl _
  have bk : Blk (w.setCell ⟨g, 0, none⟩ (.int .i64 ((n : Int) + 1))) g 49 [.int .i64 ((n : Int) + 1), vb, vi, nilV, nilV, nilV, nilV, nilV, nilV, nilV] := hk.b.set_ 0 _
  have hrow := hk.rb.but hS1 (fun k e e2 => hk.b.offRow hk.rb (by decide) (e2 ▸ e))
  have hother := hk.ri.but hS1 (fun k e e2 => hk.b.offRow hk.ri (by decide) (e2 ▸ e))
  have hog := hk.b.offRow hk.ri (by decide)
  have hoo := hk.ri.offRow hk.rb (by decide)
  have hbs : base ≤ (w.setCell ⟨g, 0, none⟩ (.int .i64 ((n : Int) + 1))).heap.size := Nat.le_trans hbs h0.size
  generalize w.setCell ⟨g, 0, none⟩ (.int .i64 ((n : Int) + 1)) = W at h0 bk hrow hother hbs ⊢
  have e0 := bk.cell_ (i := 0) rfl
  clear b0 f0 hS1
  refine wp_region_noPanic ?_
  refine wp_region_held_drew (S := (fun w' => w'.cell? ⟨g, 0, none⟩ = some (.int .i64 ((n : Int) + 1)))) (by kernel_rfl) e0 (fun hS => ?_)
  have ky : Keep W W.drew := (Keep.refl _).drew
  replace bk := bk.keep ky
  replace hrow := hrow.keep ky
  generalize W.drew = v0 at ky hS bk hrow ⊢
  refine wpAnyH_take (i := 0) (v := ?_) rfl (by kernel_rfl) (by kernel_rfl) (by kernel_rfl) (fun _ _ _ h => h) (Or.inl ⟨by rfl, ?_⟩) hS ?_
  rotate_left
  · (intro w hSw; (try dsimp only at hSw); go_simp; (first | done | with_reducible rfl))
  change wpAnyH _ _ _ _ _ _ _ (Act.put _ (some 11) _) _
  simp only [Act.put, List.setIfInBounds_toArray, List.set_cons_zero, List.set_cons_succ]
  refine wpAnyH_take (i := 1) (v := ?_) rfl (by kernel_rfl) (by kernel_rfl) (by kernel_rfl) (fun _ _ _ h => h) (Or.inl ⟨by rfl, ?_⟩) hS ?_
  rotate_left
  · (intro w hSw; (try dsimp only at hSw); go_simp; (first | done | with_reducible rfl))
  change wpAnyH _ _ _ _ _ _ _ (Act.put _ (some 12) _) _
  simp only [Act.put, List.setIfInBounds_toArray, List.set_cons_zero, List.set_cons_succ]
  refine wpAnyH_take (i := 2) (v := ?_) rfl (by kernel_rfl) (by kernel_rfl) (by kernel_rfl) (fun _ _ _ h => h) (Or.inl ⟨by rfl, ?_⟩) hS ?_
  rotate_left
  · (intro w hSw; (try dsimp only at hSw); go_simp; (first | done | with_reducible rfl))
  change wpAnyH _ _ _ _ _ _ _ (Act.put _ (some 13) _) _
  simp only [Act.put, List.setIfInBounds_toArray, List.set_cons_zero, List.set_cons_succ]
  refine wpAnyH_take (i := 3) (v := ?_) rfl (by kernel_rfl) (by kernel_rfl) (by kernel_rfl) (fun _ _ _ h => h) (Or.inl ⟨by rfl, ?_⟩) hS ?_
  rotate_left
  · (intro w hSw; (try dsimp only at hSw); go_simp; (first | done | with_reducible rfl))
  change wpAnyH _ _ _ _ _ _ _ (Act.put _ (some 14) _) _
  simp only [Act.put, List.setIfInBounds_toArray, List.set_cons_zero, List.set_cons_succ]
  refine wpAnyH_take (i := 5) (v := ?_) rfl (by kernel_rfl) (by kernel_rfl) (by kernel_rfl) (fun _ _ _ h => h) (Or.inl ⟨by rfl, ?_⟩) hS ?_
  rotate_left
  · (intro w hSw; (try dsimp only at hSw); go_simp; (first | done | with_reducible rfl))
  change wpAnyH _ _ _ _ _ _ _ (Act.put _ (some 16) _) _
  simp only [Act.put, List.setIfInBounds_toArray, List.set_cons_zero, List.set_cons_succ]
  refine wpAnyH_take (i := 6) (v := ?_) rfl (by kernel_rfl) (by kernel_rfl) (by kernel_rfl) (fun _ _ _ h => h) (Or.inl ⟨by rfl, ?_⟩) hS ?_
  rotate_left
  · (intro w hSw; (try dsimp only at hSw); go_simp; (first | done | with_reducible rfl))
  change wpAnyH _ _ _ _ _ _ _ (Act.put _ (some 17) _) _
  simp only [Act.put, List.setIfInBounds_toArray, List.set_cons_zero, List.set_cons_succ]
  refine wpAnyH_take (i := 7) (v := ?_) rfl (by kernel_rfl) (by kernel_rfl) (by kernel_rfl) (fun _ _ _ h => h) (Or.inl ⟨by rfl, ?_⟩) hS ?_
  rotate_left
  · (intro w hSw; (try dsimp only at hSw); go_simp; (first | done | with_reducible rfl))
  change wpAnyH _ _ _ _ _ _ _ (Act.put _ (some 18) _) _
  simp only [Act.put, List.setIfInBounds_toArray, List.set_cons_zero, List.set_cons_succ]
  refine wpAnyH_take (i := 8) (v := ?_) rfl (by kernel_rfl) (by kernel_rfl) (by kernel_rfl) (fun _ _ _ h => h) (Or.inl ⟨by rfl, ?_⟩) hS ?_
  rotate_left
  · (intro w hSw; (try dsimp only at hSw); go_simp; (first | done | with_reducible rfl))
  change wpAnyH _ _ _ _ _ _ _ (Act.put _ (some 19) _) _
  simp only [Act.put, List.setIfInBounds_toArray, List.set_cons_zero, List.set_cons_succ]
  refine wpAnyH_take (i := 9) (v := ?_) rfl (by kernel_rfl) (by kernel_rfl) (by kernel_rfl) (fun _ _ _ h => h) (Or.inl ⟨by rfl, ?_⟩) hS ?_
  rotate_left
  · (intro w hSw; (try dsimp only at hSw); go_simp; (first | done | with_reducible rfl))
  change wpAnyH _ _ _ _ _ _ _ (Act.put _ (some 20) _) _
  simp only [Act.put, List.setIfInBounds_toArray, List.set_cons_zero, List.set_cons_succ]
  refine wpAnyH_take (i := 10) (v := ?_) rfl (by kernel_rfl) (by kernel_rfl) (by kernel_rfl) (fun _ _ _ h => h) (Or.inl ⟨by rfl, ?_⟩) hS ?_
  rotate_left
  · (intro w hSw; (try dsimp only at hSw); go_simp; (first | done | with_reducible rfl))
  change wpAnyH _ _ _ _ _ _ _ (Act.put _ (some 21) _) _
  simp only [Act.put, List.setIfInBounds_toArray, List.set_cons_zero, List.set_cons_succ]
  refine wpAnyH_ready (rs := [4, 11]) (by kernel_rfl) (by simp) ?_
  refine AllReadyH.cons rfl (fun K hK => ?_) ?_
  · have cq := bk.cell_ (i := 1) rfl
    go_simp
    refine hK.out _ _ hS (fun hS => ?_)
    clear hK K
    try simp only [Act.put, List.setIfInBounds_toArray, List.set_cons_zero, List.set_cons_succ]
    clear cq
    refine wpAnyH_ready (rs := [11]) (by kernel_rfl) (by simp) ?_
    refine AllReadyH.cons rfl (fun K hK => ?_) AllReadyH.nil
    go_simp
    have kn : Keep v0 (v0.alloc (.cells #[.slice A m c, .slice none 0 0, .int .i64 ((n : Int) + 1)] 89)) := Keep.alloc1 _ _
    have bN : Blk (v0.alloc (.cells #[.slice A m c, .slice none 0 0, .int .i64 ((n : Int) + 1)] 89)) v0.heap.size 89 [.slice A m c, .slice none 0 0, .int .i64 ((n : Int) + 1)] := Blk.new v0 _ _
    refine hK.out _ _ (kn.cell hS) (fun hS => ?_)
    clear hK K
    try simp only [Act.put, List.setIfInBounds_toArray, List.set_cons_zero, List.set_cons_succ]
    generalize (v0.alloc (.cells #[.slice A m c, .slice none 0 0, .int .i64 ((n : Int) + 1)] 89)) = v2 at bN kn hS ⊢
    generalize v0.heap.size = gN at bN ⊢
    replace bk := bk.keep kn
    replace hrow := hrow.keep kn
    replace ky := ky.trans kn
    clear kn
    refine wpAnyH_ready (rs := [12]) (by kernel_rfl) (by simp) ?_
    refine AllReadyH.cons rfl (fun K hK => ?_) AllReadyH.nil
    rw [if_pos (by rfl)]
    have hbs2 : base ≤ v2.heap.size := Nat.le_trans hbs ky.size
    have hoff := bk.offRow hrow (by decide)
    refine wp_append_own v2 (.tmp 15) (.tmp 22) 39 rfl base 89 ti _ 3 56 Tryz.underlying39 hi2 hz2 hsz2 hby2 rfl (by decide) vb hb.length _ rfl hrow ⟨gN, 0, none⟩ 1 1 [.slice A m c, .slice none 0 0, .int .i64 ((n : Int) + 1)] rfl rfl bN.rd.cells (by intro u hu; simp only [List.mem_cons, List.not_mem_nil, or_false] at hu; rcases hu with rfl | rfl | rfl <;> rfl) (by unfold maxLen; omega) (by omega) hbs2 ?_
    intro v' v3 hown hgrow _
    obtain ⟨A', c', rfl⟩ := ownsRow_val hown
    refine hK.out _ _ (hgrow.cell hS (fun e => hoff e.symm)) (fun hS => ?_)
    clear hK K
    change wpAnyH _ _ _ _ _ _ _ (Act.put _ (some 23) _) _
    try simp only [Act.put, List.setIfInBounds_toArray, List.set_cons_zero, List.set_cons_succ]
    have bk2 := bk.grown hgrow (fun e => hoff e.symm)
    have hW := (But.keep ky (fun q => q = g ∨ vb.ownBlock = some q)).grown hgrow (fun k e => .inr e)
    clear hrow bN hoff hbs2
    refine wpAnyH_take (i := 13) (v := ?_) rfl (by kernel_rfl) (by kernel_rfl) (by kernel_rfl) (fun _ _ _ h => h) (Or.inl ⟨by rfl, ?_⟩) hS ?_
    rotate_left
    · (intro w hSw; (try dsimp only at hSw); go_simp; (first | done | with_reducible rfl))
    change wpAnyH _ _ _ _ _ _ _ (Act.put _ (some 24) _) _
    simp only [Act.put, List.setIfInBounds_toArray, List.set_cons_zero, List.set_cons_succ]
    refine wpAnyH_take (i := 14) (v := ?_) rfl (by kernel_rfl) (by kernel_rfl) (by kernel_rfl) (fun _ _ _ h => h) (Or.inl ⟨by rfl, ?_⟩) hS ?_
    rotate_left
    · (intro w hSw; (try dsimp only at hSw); go_simp; (first | done | with_reducible rfl))
    change wpAnyH _ _ _ _ _ _ _ (Act.put _ (some 25) _) _
    simp only [Act.put, List.setIfInBounds_toArray, List.set_cons_zero, List.set_cons_succ]
    refine wpAnyH_ready (rs := [15]) (by kernel_rfl) (by simp) ?_
    refine AllReadyH.cons rfl (fun K hK => ?_) AllReadyH.nil
    have cq := bk2.cell_ (i := 1) rfl
    have fq := bk2.frozen 1
    go_simp
    refine hK.out _ _ ((World.cell?_setCell_other v3 ⟨g, 1, none⟩ ⟨g, 0, none⟩ _ (fun e => by injection e with _ e2; cases e2)).trans hS) (fun hS => ?_)
    clear hK K
    try simp only [Act.put, List.setIfInBounds_toArray]
    refine wpAnyH_done (by kernel_rfl) ?_ _
    refine NoPanic.normal ?_
    have bk3 := bk2.set_ 1 (.slice A' (hb.length + 1) c')
    have hW3 : But (fun q => q = g ∨ vb.ownBlock = some q) W (v3.setCell ⟨g, 1, none⟩ (.slice A' (hb.length + 1) c')) := hW.setCell (.inl rfl) _
    have hr3 : HRow v3 base 89 (.slice A' (hb.length + 1) c') (hb ++ [⟨A, c, m, n + 1, none, 0, 0⟩]) := by
      unfold HRow
      rw [List.length_append, cellsOf_append]
      exact hown
    have hr4 := hr3.but ((But.refl (fun q => q = g) _).setCell (p := ⟨g, 1, none⟩) rfl (.slice A' (hb.length + 1) c')) (fun k e e2 => bk2.offRow hr3 (by decide) (e2 ▸ e))
    have ho3 := hother.but hW3 (fun k e e2 => e2.elim (fun e3 => hog (e3 ▸ e)) (fun e3 => hoo k e e3))
    have h0W := h0.trans hW3
    have HRES := Lib.hid (And.intro bk3 (And.intro hr4 (And.intro ho3 h0W)))
    clear bk3 hr4 ho3 h0W hr3 hown hW3
    go_wp2_with fail
    go_end0
    exact ⟨rfl, _, ⟨HRES.out.1, HRES.out.2.1, HRES.out.2.2.1, hk.g⟩, HRES.out.2.2.2⟩
  refine AllReadyH.cons rfl (fun K hK => ?_) ?_
  · go_simp
    have kn : Keep v0 (v0.alloc (.cells #[.slice A m c, .slice none 0 0, .int .i64 ((n : Int) + 1)] 89)) := Keep.alloc1 _ _
    have bN : Blk (v0.alloc (.cells #[.slice A m c, .slice none 0 0, .int .i64 ((n : Int) + 1)] 89)) v0.heap.size 89 [.slice A m c, .slice none 0 0, .int .i64 ((n : Int) + 1)] := Blk.new v0 _ _
    refine hK.out _ _ (kn.cell hS) (fun hS => ?_)
    clear hK K
    try simp only [Act.put, List.setIfInBounds_toArray, List.set_cons_zero, List.set_cons_succ]
    generalize (v0.alloc (.cells #[.slice A m c, .slice none 0 0, .int .i64 ((n : Int) + 1)] 89)) = v5 at bN kn hS ⊢
    generalize v0.heap.size = gN at bN ⊢
    replace bk := bk.keep kn
    replace hrow := hrow.keep kn
    replace ky := ky.trans kn
    clear kn
    refine wpAnyH_ready (rs := [4]) (by kernel_rfl) (by simp) ?_
    refine AllReadyH.cons rfl (fun K hK => ?_) AllReadyH.nil
    have cq := bk.cell_ (i := 1) rfl
    go_simp
    refine hK.out _ _ hS (fun hS => ?_)
    clear hK K
    try simp only [Act.put, List.setIfInBounds_toArray, List.set_cons_zero, List.set_cons_succ]
    clear cq
    refine wpAnyH_ready (rs := [12]) (by kernel_rfl) (by simp) ?_
    refine AllReadyH.cons rfl (fun K hK => ?_) AllReadyH.nil
    rw [if_pos (by rfl)]
    have hbs2 : base ≤ v5.heap.size := Nat.le_trans hbs ky.size
    have hoff := bk.offRow hrow (by decide)
    refine wp_append_own v5 (.tmp 15) (.tmp 22) 39 rfl base 89 ti _ 3 56 Tryz.underlying39 hi2 hz2 hsz2 hby2 rfl (by decide) vb hb.length _ rfl hrow ⟨gN, 0, none⟩ 1 1 [.slice A m c, .slice none 0 0, .int .i64 ((n : Int) + 1)] rfl rfl bN.rd.cells (by intro u hu; simp only [List.mem_cons, List.not_mem_nil, or_false] at hu; rcases hu with rfl | rfl | rfl <;> rfl) (by unfold maxLen; omega) (by omega) hbs2 ?_
    intro v' v7 hown hgrow _
    obtain ⟨A', c', rfl⟩ := ownsRow_val hown
    refine hK.out _ _ (hgrow.cell hS (fun e => hoff e.symm)) (fun hS => ?_)
    clear hK K
    change wpAnyH _ _ _ _ _ _ _ (Act.put _ (some 23) _) _
    try simp only [Act.put, List.setIfInBounds_toArray, List.set_cons_zero, List.set_cons_succ]
    have bk2 := bk.grown hgrow (fun e => hoff e.symm)
    have hW := (But.keep ky (fun q => q = g ∨ vb.ownBlock = some q)).grown hgrow (fun k e => .inr e)
    clear hrow bN hoff hbs2
    refine wpAnyH_take (i := 13) (v := ?_) rfl (by kernel_rfl) (by kernel_rfl) (by kernel_rfl) (fun _ _ _ h => h) (Or.inl ⟨by rfl, ?_⟩) hS ?_
    rotate_left
    · (intro w hSw; (try dsimp only at hSw); go_simp; (first | done | with_reducible rfl))
    change wpAnyH _ _ _ _ _ _ _ (Act.put _ (some 24) _) _
    simp only [Act.put, List.setIfInBounds_toArray, List.set_cons_zero, List.set_cons_succ]
    refine wpAnyH_take (i := 14) (v := ?_) rfl (by kernel_rfl) (by kernel_rfl) (by kernel_rfl) (fun _ _ _ h => h) (Or.inl ⟨by rfl, ?_⟩) hS ?_
    rotate_left
    · (intro w hSw; (try dsimp only at hSw); go_simp; (first | done | with_reducible rfl))
    change wpAnyH _ _ _ _ _ _ _ (Act.put _ (some 25) _) _
    simp only [Act.put, List.setIfInBounds_toArray, List.set_cons_zero, List.set_cons_succ]
    refine wpAnyH_ready (rs := [15]) (by kernel_rfl) (by simp) ?_
    refine AllReadyH.cons rfl (fun K hK => ?_) AllReadyH.nil
    have cq := bk2.cell_ (i := 1) rfl
    have fq := bk2.frozen 1
    go_simp
    refine hK.out _ _ ((World.cell?_setCell_other v7 ⟨g, 1, none⟩ ⟨g, 0, none⟩ _ (fun e => by injection e with _ e2; cases e2)).trans hS) (fun hS => ?_)
    clear hK K
    try simp only [Act.put, List.setIfInBounds_toArray]
    refine wpAnyH_done (by kernel_rfl) ?_ _
    refine NoPanic.normal ?_
    have bk3 := bk2.set_ 1 (.slice A' (hb.length + 1) c')
    have hW3 : But (fun q => q = g ∨ vb.ownBlock = some q) W (v7.setCell ⟨g, 1, none⟩ (.slice A' (hb.length + 1) c')) := hW.setCell (.inl rfl) _
    have hr3 : HRow v7 base 89 (.slice A' (hb.length + 1) c') (hb ++ [⟨A, c, m, n + 1, none, 0, 0⟩]) := by
      unfold HRow
      rw [List.length_append, cellsOf_append]
      exact hown
    have hr4 := hr3.but ((But.refl (fun q => q = g) _).setCell (p := ⟨g, 1, none⟩) rfl (.slice A' (hb.length + 1) c')) (fun k e e2 => bk2.offRow hr3 (by decide) (e2 ▸ e))
    have ho3 := hother.but hW3 (fun k e e2 => e2.elim (fun e3 => hog (e3 ▸ e)) (fun e3 => hoo k e e3))
    have h0W := h0.trans hW3
    have HRES := Lib.hid (And.intro bk3 (And.intro hr4 (And.intro ho3 h0W)))
    clear bk3 hr4 ho3 h0W hr3 hown hW3
    go_wp2_with fail
    go_end0
    exact ⟨rfl, _, ⟨HRES.out.1, HRES.out.2.1, HRES.out.2.2.1, hk.g⟩, HRES.out.2.2.2⟩
  exact AllReadyH.nil

set_option maxRecDepth 100000 in
set_option maxHeartbeats 1000000 in
theorem bookBytes_f (g n base : Nat) (hb hi : List Hd) (vb vi : Value) (A : Option Addr) (m c : Nat) (w : World) (hk : Bk w base g n hb hi vb vi) (hn : n ≤ 10000) (hl : hb.length ≤ 10000) :
    Calls Tryz.prog 14 #[pK g, .slice A m c] w fun e w' => e = .returned (.tuple #[]) ∧ ∃ v', Bk w' base g (n + 1) (hb ++ [⟨A, c, m, n + 1, none, 0, 0⟩]) hi v' vi ∧ But (fun q => q = g ∨ vb.ownBlock = some q) w w' := by
  have hq := keepByte_f g n base hb hi vb vi A m c w hk hn hl
  unfold pK at hq ⊢
  go_enter Tryz.func14, Tryz.ntmps14
  go_wp2_with fail
  refine hq.mono ?_
  rintro e w1 ⟨rfl, h⟩
  go_wp2_with fail
  go_end0
  exact ⟨rfl, h⟩

set_option maxRecDepth 100000 in
set_option maxHeartbeats 4000000 in
theorem keepInt_f (g n base : Nat) (hb hi : List Hd) (vb vi : Value) (A : Option Addr) (m c : Nat) (w : World) (hk : Bk w base g n hb hi vb vi) (hn : n ≤ 10000) (hl : hi.length ≤ 10000) :
    Calls Tryz.prog 83 #[pK g, .slice A m c] w fun e w' => e = .returned (.tuple #[]) ∧ ∃ v', Bk w' base g (n + 1) hb (hi ++ [⟨A, c, m, n + 1, none, 0, 0⟩]) vb v' ∧ But (fun q => q = g ∨ vi.ownBlock = some q) w w' := by
  obtain ⟨ti, hi2, hzz⟩ := Option.map_eq_some_iff.1 infoHI
  simp only [Prod.mk.injEq] at hzz
  obtain ⟨hz2, hsz2, hby2⟩ := hzz
  have hbs : base ≤ w.heap.size := Nat.le_trans hk.g (Nat.le_of_lt hk.b.lt)
  have b0 := hk.b.cell_ (i := 0) rfl
  have f0 := hk.b.frozen 0
  have hzero : (zeroValue 92).run Tryz.prog w = .ok (.agg #[.slice none 0 0, .slice none 0 0, .int .i64 0]) w := by kernel_rfl
  unfold pK
  go_enter Tryz.func83, Tryz.ntmps83
  go_upto_region 1 with fail
  have h0 : But (fun q => q = g ∨ vi.ownBlock = some q) w (w.setCell ⟨g, 0, none⟩ (.int .i64 ((n : Int) + 1))) := (But.refl _ _).setCell (.inl rfl) _
  have hS1 : But (fun q => q = g) w (w.setCell ⟨g, 0, none⟩ (.int .i64 ((n : Int) + 1))) := (But.refl (fun q => q = g) w).setCell (p := ⟨g, 0, none⟩) rfl _
  have bk : Blk (w.setCell ⟨g, 0, none⟩ (.int .i64 ((n : Int) + 1))) g 49 [.int .i64 ((n : Int) + 1), vb, vi, nilV, nilV, nilV, nilV, nilV, nilV, nilV] := hk.b.set_ 0 _
  have hrow := hk.ri.but hS1 (fun k e e2 => hk.b.offRow hk.ri (by decide) (e2 ▸ e))
  have hother := hk.rb.but hS1 (fun k e e2 => hk.b.offRow hk.rb (by decide) (e2 ▸ e))
  have hog := hk.b.offRow hk.rb (by decide)
  have hoo := hk.rb.offRow hk.ri (by decide)
  have hbs : base ≤ (w.setCell ⟨g, 0, none⟩ (.int .i64 ((n : Int) + 1))).heap.size := Nat.le_trans hbs h0.size
  generalize w.setCell ⟨g, 0, none⟩ (.int .i64 ((n : Int) + 1)) = W at h0 bk hrow hother hbs ⊢
  have e0 := bk.cell_ (i := 0) rfl
  clear b0 f0 hS1
  refine wp_region_noPanic ?_
  refine wp_region_held_drew (S := (fun w' => w'.cell? ⟨g, 0, none⟩ = some (.int .i64 ((n : Int) + 1)))) (by kernel_rfl) e0 (fun hS => ?_)
  have ky : Keep W W.drew := (Keep.refl _).drew
  replace bk := bk.keep ky
  replace hrow := hrow.keep ky
  generalize W.drew = v0 at ky hS bk hrow ⊢
  refine wpAnyH_take (i := 0) (v := ?_) rfl (by kernel_rfl) (by kernel_rfl) (by kernel_rfl) (fun _ _ _ h => h) (Or.inl ⟨by rfl, ?_⟩) hS ?_
  rotate_left
  · (intro w hSw; (try dsimp only at hSw); go_simp; (first | done | with_reducible rfl))
  change wpAnyH _ _ _ _ _ _ _ (Act.put _ (some 11) _) _
  simp only [Act.put, List.setIfInBounds_toArray, List.set_cons_zero, List.set_cons_succ]
  refine wpAnyH_take (i := 1) (v := ?_) rfl (by kernel_rfl) (by kernel_rfl) (by kernel_rfl) (fun _ _ _ h => h) (Or.inl ⟨by rfl, ?_⟩) hS ?_
  rotate_left
  · (intro w hSw; (try dsimp only at hSw); go_simp; (first | done | with_reducible rfl))
  change wpAnyH _ _ _ _ _ _ _ (Act.put _ (some 12) _) _
  simp only [Act.put, List.setIfInBounds_toArray, List.set_cons_zero, List.set_cons_succ]
  refine wpAnyH_take (i := 2) (v := ?_) rfl (by kernel_rfl) (by kernel_rfl) (by kernel_rfl) (fun _ _ _ h => h) (Or.inl ⟨by rfl, ?_⟩) hS ?_
  rotate_left
  · (intro w hSw; (try dsimp only at hSw); go_simp; (first | done | with_reducible rfl))
  change wpAnyH _ _ _ _ _ _ _ (Act.put _ (some 13) _) _
  simp only [Act.put, List.setIfInBounds_toArray, List.set_cons_zero, List.set_cons_succ]
  refine wpAnyH_take (i := 3) (v := ?_) rfl (by kernel_rfl) (by kernel_rfl) (by kernel_rfl) (fun _ _ _ h => h) (Or.inl ⟨by rfl, ?_⟩) hS ?_
  rotate_left
  · (intro w hSw; (try dsimp only at hSw); go_simp; (first | done | with_reducible rfl))
  change wpAnyH _ _ _ _ _ _ _ (Act.put _ (some 14) _) _
  simp only [Act.put, List.setIfInBounds_toArray, List.set_cons_zero, List.set_cons_succ]
  refine wpAnyH_take (i := 5) (v := ?_) rfl (by kernel_rfl) (by kernel_rfl) (by kernel_rfl) (fun _ _ _ h => h) (Or.inl ⟨by rfl, ?_⟩) hS ?_
  rotate_left
  · (intro w hSw; (try dsimp only at hSw); go_simp; (first | done | with_reducible rfl))
  change wpAnyH _ _ _ _ _ _ _ (Act.put _ (some 16) _) _
  simp only [Act.put, List.setIfInBounds_toArray, List.set_cons_zero, List.set_cons_succ]
  refine wpAnyH_take (i := 6) (v := ?_) rfl (by kernel_rfl) (by kernel_rfl) (by kernel_rfl) (fun _ _ _ h => h) (Or.inl ⟨by rfl, ?_⟩) hS ?_
  rotate_left
  · (intro w hSw; (try dsimp only at hSw); go_simp; (first | done | with_reducible rfl))
  change wpAnyH _ _ _ _ _ _ _ (Act.put _ (some 17) _) _
  simp only [Act.put, List.setIfInBounds_toArray, List.set_cons_zero, List.set_cons_succ]
  refine wpAnyH_take (i := 7) (v := ?_) rfl (by kernel_rfl) (by kernel_rfl) (by kernel_rfl) (fun _ _ _ h => h) (Or.inl ⟨by rfl, ?_⟩) hS ?_
  rotate_left
  · (intro w hSw; (try dsimp only at hSw); go_simp; (first | done | with_reducible rfl))
  change wpAnyH _ _ _ _ _ _ _ (Act.put _ (some 18) _) _
  simp only [Act.put, List.setIfInBounds_toArray, List.set_cons_zero, List.set_cons_succ]
  refine wpAnyH_take (i := 8) (v := ?_) rfl (by kernel_rfl) (by kernel_rfl) (by kernel_rfl) (fun _ _ _ h => h) (Or.inl ⟨by rfl, ?_⟩) hS ?_
  rotate_left
  · (intro w hSw; (try dsimp only at hSw); go_simp; (first | done | with_reducible rfl))
  change wpAnyH _ _ _ _ _ _ _ (Act.put _ (some 19) _) _
  simp only [Act.put, List.setIfInBounds_toArray, List.set_cons_zero, List.set_cons_succ]
  refine wpAnyH_take (i := 9) (v := ?_) rfl (by kernel_rfl) (by kernel_rfl) (by kernel_rfl) (fun _ _ _ h => h) (Or.inl ⟨by rfl, ?_⟩) hS ?_
  rotate_left
  · (intro w hSw; (try dsimp only at hSw); go_simp; (first | done | with_reducible rfl))
  change wpAnyH _ _ _ _ _ _ _ (Act.put _ (some 20) _) _
  simp only [Act.put, List.setIfInBounds_toArray, List.set_cons_zero, List.set_cons_succ]
  refine wpAnyH_take (i := 10) (v := ?_) rfl (by kernel_rfl) (by kernel_rfl) (by kernel_rfl) (fun _ _ _ h => h) (Or.inl ⟨by rfl, ?_⟩) hS ?_
  rotate_left
  · (intro w hSw; (try dsimp only at hSw); go_simp; (first | done | with_reducible rfl))
  change wpAnyH _ _ _ _ _ _ _ (Act.put _ (some 21) _) _
  simp only [Act.put, List.setIfInBounds_toArray, List.set_cons_zero, List.set_cons_succ]
  refine wpAnyH_ready (rs := [4, 11]) (by kernel_rfl) (by simp) ?_
  refine AllReadyH.cons rfl (fun K hK => ?_) ?_
  · have cq := bk.cell_ (i := 2) rfl
    go_simp
    refine hK.out _ _ hS (fun hS => ?_)
    clear hK K
    try simp only [Act.put, List.setIfInBounds_toArray, List.set_cons_zero, List.set_cons_succ]
    clear cq
    refine wpAnyH_ready (rs := [11]) (by kernel_rfl) (by simp) ?_
    refine AllReadyH.cons rfl (fun K hK => ?_) AllReadyH.nil
    go_simp
    have kn : Keep v0 (v0.alloc (.cells #[.slice A m c, .slice none 0 0, .int .i64 ((n : Int) + 1)] 92)) := Keep.alloc1 _ _
    have bN : Blk (v0.alloc (.cells #[.slice A m c, .slice none 0 0, .int .i64 ((n : Int) + 1)] 92)) v0.heap.size 92 [.slice A m c, .slice none 0 0, .int .i64 ((n : Int) + 1)] := Blk.new v0 _ _
    refine hK.out _ _ (kn.cell hS) (fun hS => ?_)
    clear hK K
    try simp only [Act.put, List.setIfInBounds_toArray, List.set_cons_zero, List.set_cons_succ]
    generalize (v0.alloc (.cells #[.slice A m c, .slice none 0 0, .int .i64 ((n : Int) + 1)] 92)) = v2 at bN kn hS ⊢
    generalize v0.heap.size = gN at bN ⊢
    replace bk := bk.keep kn
    replace hrow := hrow.keep kn
    replace ky := ky.trans kn
    clear kn
    refine wpAnyH_ready (rs := [12]) (by kernel_rfl) (by simp) ?_
    refine AllReadyH.cons rfl (fun K hK => ?_) AllReadyH.nil
    rw [if_pos (by rfl)]
    have hbs2 : base ≤ v2.heap.size := Nat.le_trans hbs ky.size
    have hoff := bk.offRow hrow (by decide)
    refine wp_append_own v2 (.tmp 15) (.tmp 22) 40 rfl base 92 ti _ 3 56 Tryz.underlying40 hi2 hz2 hsz2 hby2 rfl (by decide) vi hi.length _ rfl hrow ⟨gN, 0, none⟩ 1 1 [.slice A m c, .slice none 0 0, .int .i64 ((n : Int) + 1)] rfl rfl bN.rd.cells (by intro u hu; simp only [List.mem_cons, List.not_mem_nil, or_false] at hu; rcases hu with rfl | rfl | rfl <;> rfl) (by unfold maxLen; omega) (by omega) hbs2 ?_
    intro v' v3 hown hgrow _
    obtain ⟨A', c', rfl⟩ := ownsRow_val hown
    refine hK.out _ _ (hgrow.cell hS (fun e => hoff e.symm)) (fun hS => ?_)
    clear hK K
    change wpAnyH _ _ _ _ _ _ _ (Act.put _ (some 23) _) _
    try simp only [Act.put, List.setIfInBounds_toArray, List.set_cons_zero, List.set_cons_succ]
    have bk2 := bk.grown hgrow (fun e => hoff e.symm)
    have hW := (But.keep ky (fun q => q = g ∨ vi.ownBlock = some q)).grown hgrow (fun k e => .inr e)
    clear hrow bN hoff hbs2
    refine wpAnyH_take (i := 13) (v := ?_) rfl (by kernel_rfl) (by kernel_rfl) (by kernel_rfl) (fun _ _ _ h => h) (Or.inl ⟨by rfl, ?_⟩) hS ?_
    rotate_left
    · (intro w hSw; (try dsimp only at hSw); go_simp; (first | done | with_reducible rfl))
    change wpAnyH _ _ _ _ _ _ _ (Act.put _ (some 24) _) _
    simp only [Act.put, List.setIfInBounds_toArray, List.set_cons_zero, List.set_cons_succ]
    refine wpAnyH_take (i := 14) (v := ?_) rfl (by kernel_rfl) (by kernel_rfl) (by kernel_rfl) (fun _ _ _ h => h) (Or.inl ⟨by rfl, ?_⟩) hS ?_
    rotate_left
    · (intro w hSw; (try dsimp only at hSw); go_simp; (first | done | with_reducible rfl))
    change wpAnyH _ _ _ _ _ _ _ (Act.put _ (some 25) _) _
    simp only [Act.put, List.setIfInBounds_toArray, List.set_cons_zero, List.set_cons_succ]
    refine wpAnyH_ready (rs := [15]) (by kernel_rfl) (by simp) ?_
    refine AllReadyH.cons rfl (fun K hK => ?_) AllReadyH.nil
    have cq := bk2.cell_ (i := 2) rfl
    have fq := bk2.frozen 2
    go_simp
    refine hK.out _ _ ((World.cell?_setCell_other v3 ⟨g, 2, none⟩ ⟨g, 0, none⟩ _ (fun e => by injection e with _ e2; cases e2)).trans hS) (fun hS => ?_)
    clear hK K
    try simp only [Act.put, List.setIfInBounds_toArray]
    refine wpAnyH_done (by kernel_rfl) ?_ _
    refine NoPanic.normal ?_
    have bk3 := bk2.set_ 2 (.slice A' (hi.length + 1) c')
    have hW3 : But (fun q => q = g ∨ vi.ownBlock = some q) W (v3.setCell ⟨g, 2, none⟩ (.slice A' (hi.length + 1) c')) := hW.setCell (.inl rfl) _
    have hr3 : HRow v3 base 92 (.slice A' (hi.length + 1) c') (hi ++ [⟨A, c, m, n + 1, none, 0, 0⟩]) := by
      unfold HRow
      rw [List.length_append, cellsOf_append]
      exact hown
    have hr4 := hr3.but ((But.refl (fun q => q = g) _).setCell (p := ⟨g, 2, none⟩) rfl (.slice A' (hi.length + 1) c')) (fun k e e2 => bk2.offRow hr3 (by decide) (e2 ▸ e))
    have ho3 := hother.but hW3 (fun k e e2 => e2.elim (fun e3 => hog (e3 ▸ e)) (fun e3 => hoo k e e3))
    have h0W := h0.trans hW3
    have HRES := Lib.hid (And.intro bk3 (And.intro hr4 (And.intro ho3 h0W)))
    clear bk3 hr4 ho3 h0W hr3 hown hW3
    go_wp2_with fail
    go_end0
    exact ⟨rfl, _, ⟨HRES.out.1, HRES.out.2.2.1, HRES.out.2.1, hk.g⟩, HRES.out.2.2.2⟩
  refine AllReadyH.cons rfl (fun K hK => ?_) ?_
  · go_simp
    have kn : Keep v0 (v0.alloc (.cells #[.slice A m c, .slice none 0 0, .int .i64 ((n : Int) + 1)] 92)) := Keep.alloc1 _ _
    have bN : Blk (v0.alloc (.cells #[.slice A m c, .slice none 0 0, .int .i64 ((n : Int) + 1)] 92)) v0.heap.size 92 [.slice A m c, .slice none 0 0, .int .i64 ((n : Int) + 1)] := Blk.new v0 _ _
    refine hK.out _ _ (kn.cell hS) (fun hS => ?_)
    clear hK K
    try simp only [Act.put, List.setIfInBounds_toArray, List.set_cons_zero, List.set_cons_succ]
    generalize (v0.alloc (.cells #[.slice A m c, .slice none 0 0, .int .i64 ((n : Int) + 1)] 92)) = v5 at bN kn hS ⊢
    generalize v0.heap.size = gN at bN ⊢
    replace bk := bk.keep kn
    replace hrow := hrow.keep kn
    replace ky := ky.trans kn
    clear kn
    refine wpAnyH_ready (rs := [4]) (by kernel_rfl) (by simp) ?_
    refine AllReadyH.cons rfl (fun K hK => ?_) AllReadyH.nil
    have cq := bk.cell_ (i := 2) rfl
    go_simp
    refine hK.out _ _ hS (fun hS => ?_)
    clear hK K
    try simp only [Act.put, List.setIfInBounds_toArray, List.set_cons_zero, List.set_cons_succ]
    clear cq
    refine wpAnyH_ready (rs := [12]) (by kernel_rfl) (by simp) ?_
    refine AllReadyH.cons rfl (fun K hK => ?_) AllReadyH.nil
    rw [if_pos (by rfl)]
    have hbs2 : base ≤ v5.heap.size := Nat.le_trans hbs ky.size
    have hoff := bk.offRow hrow (by decide)
    refine wp_append_own v5 (.tmp 15) (.tmp 22) 40 rfl base 92 ti _ 3 56 Tryz.underlying40 hi2 hz2 hsz2 hby2 rfl (by decide) vi hi.length _ rfl hrow ⟨gN, 0, none⟩ 1 1 [.slice A m c, .slice none 0 0, .int .i64 ((n : Int) + 1)] rfl rfl bN.rd.cells (by intro u hu; simp only [List.mem_cons, List.not_mem_nil, or_false] at hu; rcases hu with rfl | rfl | rfl <;> rfl) (by unfold maxLen; omega) (by omega) hbs2 ?_
    intro v' v7 hown hgrow _
    obtain ⟨A', c', rfl⟩ := ownsRow_val hown
    refine hK.out _ _ (hgrow.cell hS (fun e => hoff e.symm)) (fun hS => ?_)
    clear hK K
    change wpAnyH _ _ _ _ _ _ _ (Act.put _ (some 23) _) _
    try simp only [Act.put, List.setIfInBounds_toArray, List.set_cons_zero, List.set_cons_succ]
    have bk2 := bk.grown hgrow (fun e => hoff e.symm)
    have hW := (But.keep ky (fun q => q = g ∨ vi.ownBlock = some q)).grown hgrow (fun k e => .inr e)
    clear hrow bN hoff hbs2
    refine wpAnyH_take (i := 13) (v := ?_) rfl (by kernel_rfl) (by kernel_rfl) (by kernel_rfl) (fun _ _ _ h => h) (Or.inl ⟨by rfl, ?_⟩) hS ?_
    rotate_left
    · (intro w hSw; (try dsimp only at hSw); go_simp; (first | done | with_reducible rfl))
    change wpAnyH _ _ _ _ _ _ _ (Act.put _ (some 24) _) _
    simp only [Act.put, List.setIfInBounds_toArray, List.set_cons_zero, List.set_cons_succ]
    refine wpAnyH_take (i := 14) (v := ?_) rfl (by kernel_rfl) (by kernel_rfl) (by kernel_rfl) (fun _ _ _ h => h) (Or.inl ⟨by rfl, ?_⟩) hS ?_
    rotate_left
    · (intro w hSw; (try dsimp only at hSw); go_simp; (first | done | with_reducible rfl))
    change wpAnyH _ _ _ _ _ _ _ (Act.put _ (some 25) _) _
    simp only [Act.put, List.setIfInBounds_toArray, List.set_cons_zero, List.set_cons_succ]
    refine wpAnyH_ready (rs := [15]) (by kernel_rfl) (by simp) ?_
    refine AllReadyH.cons rfl (fun K hK => ?_) AllReadyH.nil
    have cq := bk2.cell_ (i := 2) rfl
    have fq := bk2.frozen 2
    go_simp
    refine hK.out _ _ ((World.cell?_setCell_other v7 ⟨g, 2, none⟩ ⟨g, 0, none⟩ _ (fun e => by injection e with _ e2; cases e2)).trans hS) (fun hS => ?_)
    clear hK K
    try simp only [Act.put, List.setIfInBounds_toArray]
    refine wpAnyH_done (by kernel_rfl) ?_ _
    refine NoPanic.normal ?_
    have bk3 := bk2.set_ 2 (.slice A' (hi.length + 1) c')
    have hW3 : But (fun q => q = g ∨ vi.ownBlock = some q) W (v7.setCell ⟨g, 2, none⟩ (.slice A' (hi.length + 1) c')) := hW.setCell (.inl rfl) _
    have hr3 : HRow v7 base 92 (.slice A' (hi.length + 1) c') (hi ++ [⟨A, c, m, n + 1, none, 0, 0⟩]) := by
      unfold HRow
      rw [List.length_append, cellsOf_append]
      exact hown
    have hr4 := hr3.but ((But.refl (fun q => q = g) _).setCell (p := ⟨g, 2, none⟩) rfl (.slice A' (hi.length + 1) c')) (fun k e e2 => bk2.offRow hr3 (by decide) (e2 ▸ e))
    have ho3 := hother.but hW3 (fun k e e2 => e2.elim (fun e3 => hog (e3 ▸ e)) (fun e3 => hoo k e e3))
    have h0W := h0.trans hW3
    have HRES := Lib.hid (And.intro bk3 (And.intro hr4 (And.intro ho3 h0W)))
    clear bk3 hr4 ho3 h0W hr3 hown hW3
    go_wp2_with fail
    go_end0
    exact ⟨rfl, _, ⟨HRES.out.1, HRES.out.2.2.1, HRES.out.2.1, hk.g⟩, HRES.out.2.2.2⟩
  exact AllReadyH.nil

set_option maxRecDepth 100000 in
set_option maxHeartbeats 1000000 in
theorem bookInts_f (g n base : Nat) (hb hi : List Hd) (vb vi : Value) (A : Option Addr) (m c : Nat) (w : World) (hk : Bk w base g n hb hi vb vi) (hn : n ≤ 10000) (hl : hi.length ≤ 10000) :
    Calls Tryz.prog 39 #[pK g, .slice A m c] w fun e w' => e = .returned (.tuple #[]) ∧ ∃ v', Bk w' base g (n + 1) hb (hi ++ [⟨A, c, m, n + 1, none, 0, 0⟩]) vb v' ∧ But (fun q => q = g ∨ vi.ownBlock = some q) w w' := by
  have hq := keepInt_f g n base hb hi vb vi A m c w hk hn hl
  unfold pK at hq ⊢
  go_enter Tryz.func39, Tryz.ntmps39
  go_wp2_with fail
  refine hq.mono ?_
  rintro e w1 ⟨rfl, h⟩
  go_wp2_with fail
  go_end0
  exact ⟨rfl, h⟩
end Go.Proofs.YtnjjeanbopclhaaGreatDoor

namespace Go.Proofs.YtnjjeanbopclhaaGreatDoor
open Go.RowKit

/-- Lists of the call's own, in rows apart. -/
structure Held (e : TypeId) (w : World) (base : Nat) (hs : List Hd) : Prop where
  f : ∀ h ∈ hs, ∃ us, Fr e w base h.a h.n h.c us
  p : hs.Pairwise fun x y => ∀ k, ownB x.a x.c = some k → ownB y.a y.c ≠ some k
  m : ∀ h ∈ hs, h.m < 100000 ∧ h.n ≤ 1000000
theorem Held.nil (e : TypeId) (w : World) (base : Nat) : Held e w base [] := ⟨fun _ h => (by cases h), List.Pairwise.nil, fun _ h => (by cases h)⟩
theorem Held.keep {e : TypeId} {w w' : World} {base : Nat} {hs : List Hd} (h : Held e w base hs) (hk : Keep w w') : Held e w' base hs :=
  ⟨fun x hx => by obtain ⟨us, hu⟩ := h.f x hx; exact ⟨us, hu.keep hk⟩, h.p, h.m⟩
theorem Held.snoc {e : TypeId} {w w' : World} {base : Nat} {hs : List Hd} {A : Option Addr} {c n : Nat} {us : List Value} (h : Held e w base hs) (hk : Keep w w') (hb : base ≤ w.heap.size) (f : Fr e w' w.heap.size A n c us) (m : Nat) (hm : m < 100000) (hn : n ≤ 1000000) :
    Held e w' base (hs ++ [⟨A, c, n, m, none, 0, 0⟩]) := by
  refine ⟨fun x hx => ?_, ?_, fun x hx => ?_⟩
  · rcases List.mem_append.1 hx with hx | hx
    · obtain ⟨us', hu⟩ := h.f x hx
      exact ⟨us', hu.keep hk⟩
    · rw [List.mem_singleton] at hx
      subst hx
      exact ⟨us, f.mono hb⟩
  · rw [List.pairwise_append]
    refine ⟨h.p, List.pairwise_singleton _ _, fun x hx y hy k h1 h2 => ?_⟩
    rw [List.mem_singleton] at hy
    subst hy
    obtain ⟨us', hu⟩ := h.f x hx
    have := (hu.own_ge h1).2
    have := (f.own_ge h2).1
    omega
  · rcases List.mem_append.1 hx with hx | hx
    · exact h.m x hx
    · rw [List.mem_singleton] at hx
      subst hx
      exact ⟨hm, hn⟩
theorem Held.aparts {e : TypeId} {w : World} {base : Nat} {hs : List Hd} (h : Held e w base hs) : Aparts hs := by
  intro i j x y hij hx hy k h1 h2
  obtain ⟨li, rfl⟩ := List.getElem?_eq_some_iff.1 hx
  obtain ⟨lj, rfl⟩ := List.getElem?_eq_some_iff.1 hy
  rcases Nat.lt_or_gt_of_ne hij with h' | h'
  · exact List.pairwise_iff_getElem.1 h.p i j li lj h' k h1 h2
  · exact List.pairwise_iff_getElem.1 h.p j i lj li h' k h2 h1
theorem Holds.of {w : World} {base : Nat} {hb hi : List Hd} (h1 : Held 5 w base hb) (h2 : Held 3 w base hi) (l1 : hb.length ≤ 10000) (l2 : hi.length ≤ 10000) : Holds w base hb hi := ⟨h1.f, h2.f, h1.aparts, h2.aparts, h1.m, h2.m, l1, l2⟩
theorem Bk.mono {w : World} {base b' g n : Nat} {hb hi : List Hd} {vb vi : Value} (h : Bk w base g n hb hi vb vi) (hb' : b' ≤ base) : Bk w b' g n hb hi vb vi := ⟨h.b, h.rb.mono hb', h.ri.mono hb', Nat.le_trans hb' h.g⟩
/-- A Book that is new. -/
theorem Bk.new (w : World) : Bk (w.alloc (.cells #[.int .i64 0, .slice none 0 0, .slice none 0 0, .slice none 0 0, .slice none 0 0, .slice none 0 0, .slice none 0 0, .slice none 0 0, .slice none 0 0, .slice none 0 0] 49)) w.heap.size w.heap.size 0 [] [] (.slice none 0 0) (.slice none 0 0) :=
  ⟨Blk.new w _ _, HRow.nil _ _ _, HRow.nil _ _ _, Nat.le_refl _⟩
theorem Bk.stepB {w0 w w' : World} {g n : Nat} {hb hi : List Hd} {vb vi : Value} (hk : Bk w w0.heap.size g n hb hi vb vi) (kk : Keep w0 w) (h : But (fun q => q = g ∨ vb.ownBlock = some q) w w') : Keep w0 w' :=
  kk.but h fun q hq => hq.elim (fun e => e ▸ hk.g) (hk.rb.own_ge q)
theorem Bk.stepI {w0 w w' : World} {g n : Nat} {hb hi : List Hd} {vb vi : Value} (hk : Bk w w0.heap.size g n hb hi vb vi) (kk : Keep w0 w) (h : But (fun q => q = g ∨ vi.ownBlock = some q) w w') : Keep w0 w' :=
  kk.but h fun q hq => hq.elim (fun e => e ▸ hk.g) (hk.ri.own_ge q)
end Go.Proofs.YtnjjeanbopclhaaGreatDoor

namespace Go.Proofs.YtnjjeanbopclhaaGreatDoor
open Go.RowKit

theorem Bk.free {w : World} {base g n : Nat} {hb hi : List Hd} {vb vi : Value} (hk : Bk w base g n hb hi vb vi) : (∀ q, (q = g ∨ vb.ownBlock = some q) → q < w.heap.size) ∧ (∀ q, (q = g ∨ vi.ownBlock = some q) → q < w.heap.size) := by
  refine ⟨fun q hq => ?_, fun q hq => ?_⟩
  · rcases hq with rfl | hq
    · exact hk.b.lt
    · obtain ⟨cur, hc⟩ := hk.rb.cur hq
      exact (Array.getElem?_eq_some_iff.1 hc).1
  · rcases hq with rfl | hq
    · exact hk.b.lt
    · obtain ⟨cur, hc⟩ := hk.ri.cur hq
      exact (Array.getElem?_eq_some_iff.1 hc).1

set_option maxRecDepth 100000 in
set_option maxHeartbeats 8000000 in
/-- Frame -/
theorem bookFrame_f (g n : Nat) (hb hi : List Hd) (vb vi : Value) (f : Frm) (w0 w : World) (k0 : Keep w0 w) (hk : Bk w w0.heap.size g n hb hi vb vi) (hn : n ≤ 9000) (h1 : hb.length ≤ 9000) (h2 : hi.length ≤ 9000) :
    Calls Tryz.prog 12 #[pK g, f.val] w fun e w' => e = .returned (.tuple #[]) ∧ ∃ vb' vi', Bk w' w0.heap.size g (n + 2) (hb ++ [⟨f.sa, f.sc, f.v.sec.length, n + 1, none, 0, 0⟩]) (hi ++ [⟨f.ba, f.bc, f.v.bid.length, n + 2, none, 0, 0⟩]) vb' vi' ∧ Keep w0 w' := by
  obtain ⟨f, sa, sc, ba, bc⟩ := f
  unfold Frm.val pK
  simp only
  have kn : Keep w (w.alloc (.cells #[.int .u8 f.ask, .int .u8 f.who, .int .u32 f.seq, .int .u64 f.tok, .slice sa f.sec.length sc, .slice ba f.bid.length bc] 28)) := Keep.alloc1 _ _
  have bF := Blk.new w 28 [.int .u8 f.ask, .int .u8 f.who, .int .u32 f.seq, .int .u64 f.tok, .slice sa f.sec.length sc, .slice ba f.bid.length bc]
  have hfr := Bk.free hk
  go_enter Tryz.func12, Tryz.ntmps12
  go_upto_region 1 with fail
  change Code.wp _ _ _ _ (w.alloc (.cells #[.int .u8 f.ask, .int .u8 f.who, .int .u32 f.seq, .int .u64 f.tok, .slice sa f.sec.length sc, .slice ba f.bid.length bc] 28))
  generalize w.alloc (.cells #[.int .u8 f.ask, .int .u8 f.who, .int .u32 f.seq, .int .u64 f.tok, .slice sa f.sec.length sc, .slice ba f.bid.length bc] 28) = w1 at kn bF ⊢
  have hK := hk.keep kn
  replace k0 := k0.trans kn
  have c1 := bF.cell_ (i := 4) rfl
  have hq := bookBytes_f g n w0.heap.size hb hi vb vi sa f.sec.length sc w1 hK (by omega) (by omega)
  unfold pK at hq
  go_wp2_with fail
  refine hq.mono ?_
  rintro e w2 ⟨rfl, v1, hK1, t1⟩
  have b5 : Blk w2 w.heap.size 28 [.int .u8 f.ask, .int .u8 f.who, .int .u32 f.seq, .int .u64 f.tok, .slice sa f.sec.length sc, .slice ba f.bid.length bc] := Blk.but bF t1 (fun h => by have := hfr.1 _ h; omega)
  replace k0 := hK.stepB k0 t1
  clear hK hq t1 c1
  have c2 := b5.cell_ (i := 5) rfl
  have hq := bookInts_f g (n + 1) w0.heap.size _ _ _ _ ba f.bid.length bc w2 hK1 (by omega) (by omega)
  unfold pK at hq
  go_wp2_with fail
  refine hq.mono ?_
  rintro e w3 ⟨rfl, v2, hK2, t2⟩
  replace k0 := hK1.stepI k0 t2
  go_wp2_with fail
  go_end0
  exact ⟨rfl, v1, v2, hK2, k0⟩

set_option maxRecDepth 100000 in
set_option maxHeartbeats 8000000 in
/-- Reply -/
theorem bookReply_f (g n : Nat) (hb hi : List Hd) (vb vi : Value) (f : Rpl) (w0 w : World) (k0 : Keep w0 w) (hk : Bk w w0.heap.size g n hb hi vb vi) (hn : n ≤ 9000) (h1 : hb.length ≤ 9000) (h2 : hi.length ≤ 9000) :
    Calls Tryz.prog 13 #[pK g, f.val] w fun e w' => e = .returned (.tuple #[]) ∧ ∃ vb' vi', Bk w' w0.heap.size g (n + 2) (hb ++ [⟨f.ca, f.cc, f.v.cert.length, n + 2, none, 0, 0⟩]) (hi ++ [⟨f.ba, f.bc, f.v.bid.length, n + 1, none, 0, 0⟩]) vb' vi' ∧ Keep w0 w' := by
  obtain ⟨f, ba, bc, ca, cc⟩ := f
  unfold Rpl.val pK
  simp only
  have kn : Keep w (w.alloc (.cells #[.int .i64 f.e, .int .u32 f.seq, .int .u64 f.tok, .int .u8 f.ph, .int .u64 f.tm, .bool f.has, .slice ba f.bid.length bc, .int .i64 f.item, .int .i64 f.pays, .slice ca f.cert.length cc] 32)) := Keep.alloc1 _ _
  have bF := Blk.new w 32 [.int .i64 f.e, .int .u32 f.seq, .int .u64 f.tok, .int .u8 f.ph, .int .u64 f.tm, .bool f.has, .slice ba f.bid.length bc, .int .i64 f.item, .int .i64 f.pays, .slice ca f.cert.length cc]
  have hfr := Bk.free hk
  go_enter Tryz.func13, Tryz.ntmps13
  go_upto_region 1 with fail
  change Code.wp _ _ _ _ (w.alloc (.cells #[.int .i64 f.e, .int .u32 f.seq, .int .u64 f.tok, .int .u8 f.ph, .int .u64 f.tm, .bool f.has, .slice ba f.bid.length bc, .int .i64 f.item, .int .i64 f.pays, .slice ca f.cert.length cc] 32))
  generalize w.alloc (.cells #[.int .i64 f.e, .int .u32 f.seq, .int .u64 f.tok, .int .u8 f.ph, .int .u64 f.tm, .bool f.has, .slice ba f.bid.length bc, .int .i64 f.item, .int .i64 f.pays, .slice ca f.cert.length cc] 32) = w1 at kn bF ⊢
  have hK := hk.keep kn
  replace k0 := k0.trans kn
  have c1 := bF.cell_ (i := 6) rfl
  have hq := bookInts_f g n w0.heap.size hb hi vb vi ba f.bid.length bc w1 hK (by omega) (by omega)
  unfold pK at hq
  go_wp2_with fail
  refine hq.mono ?_
  rintro e w2 ⟨rfl, v1, hK1, t1⟩
  have b9 : Blk w2 w.heap.size 32 [.int .i64 f.e, .int .u32 f.seq, .int .u64 f.tok, .int .u8 f.ph, .int .u64 f.tm, .bool f.has, .slice ba f.bid.length bc, .int .i64 f.item, .int .i64 f.pays, .slice ca f.cert.length cc] := Blk.but bF t1 (fun h => by have := hfr.2 _ h; omega)
  replace k0 := hK.stepI k0 t1
  clear hK hq t1 c1
  have c2 := b9.cell_ (i := 9) rfl
  have hq := bookBytes_f g (n + 1) w0.heap.size _ _ _ _ ca f.cert.length cc w2 hK1 (by omega) (by omega)
  unfold pK at hq
  go_wp2_with fail
  refine hq.mono ?_
  rintro e w3 ⟨rfl, v2, hK2, t2⟩
  replace k0 := hK1.stepB k0 t2
  go_wp2_with fail
  go_end0
  exact ⟨rfl, v2, v1, hK2, k0⟩
end Go.Proofs.YtnjjeanbopclhaaGreatDoor
