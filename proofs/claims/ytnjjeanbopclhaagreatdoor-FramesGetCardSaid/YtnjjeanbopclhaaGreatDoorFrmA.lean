/-
  CONTRACTS for the package frames: bid, with what it hands to slices.ContainsFunc. Conditions: the slice reads as a list.
-/
import Derived.Test.YtnjjeanbopclhaaGreatDoorFrmP
import Derived.Test.YtnjjeanbopclhaaGreatDoorAid
import Derived.Deep.LoopGhost
import Derived.Deep.CutRange
namespace Go.Proofs.YtnjjeanbopclhaaGreatDoor
open Go.RowKit

def badN (x : Int) : Bool := decide (x < 0) || decide (1000000 < x)
theorem anyN_take {l : List Int} {k : Nat} {x : Int} (h : (l.take k).any badN = false) (hx : l[k]? = some x) (hp : badN x = false) : (l.take (k + 1)).any badN = false := by
  rw [List.take_add_one, hx, List.any_append, h]
  simp [hp]
theorem anyN_at {l : List Int} {k : Nat} {x : Int} (hx : l[k]? = some x) (hp : badN x = true) : l.any badN = true := List.any_eq_true.2 ⟨x, List.mem_of_getElem? hx, hp⟩
theorem anyN_within (l : List Int) : (!l.any badN) = within 1000000 l := by
  unfold within
  induction l with
  | nil => rfl
  | cons x l ih =>
    rw [List.any_cons, List.all_cons, Bool.not_or, ih]
    congr 1
    unfold badN
    by_cases h : x < 0
    · simp [h]
      omega
    · by_cases h1 : 1000000 < x
      · simp [h, h1]
      · simp [h, h1]
        omega

set_option maxRecDepth 100000 in
theorem fbad_f (x : Int) (w : World) : Calls Tryz.prog 108 #[.int .i64 x] w fun e w' => e = .returned (.bool (badN x)) ∧ Keep w w' := by
  by_cases h : x < 0
  · have e1 : badN x = true := by unfold badN; simp [h]
    have h' : decide (x < 0) = true := decide_eq_true h
    have HB := Lib.hid e1
    clear e1
    go_enter Tryz.func108, Tryz.ntmps108
    go_wp2_with fail
    go_ret
    exact ⟨by rw [HB.out]; rfl, Keep.refl _⟩
  · have e1 : badN x = decide (1000000 < x) := by unfold badN; simp [h]
    have h' : decide (x < 0) = false := decide_eq_false h
    have HB := Lib.hid e1
    clear e1
    go_enter Tryz.func108, Tryz.ntmps108
    go_wp2_with fail
    go_ret
    exact ⟨by rw [HB.out]; rfl, Keep.refl _⟩

set_option maxRecDepth 100000 in
set_option maxHeartbeats 2000000 in
theorem indexN_f (A : Option Addr) (c : Nat) (xs : List Int) (w : World) (ha : Rd w A (cs .i64 xs)) (la : Len xs.length) :
    Calls Tryz.prog 111 #[.slice A xs.length c, .func (.func 108) #[] #[]] w fun e w' => (∃ m : Int, e = .returned (.int .i64 m) ∧ decide (0 ≤ m) = xs.any badN) ∧ Keep w w' := by
  have la' := la.le
  go_enter Tryz.func111, Tryz.ntmps111
  go_wp2_with fail
  go_loopw [8] (fun i wr => ∃ k : Nat, k ≤ xs.length ∧ i = .int .i64 k ∧ (xs.take k).any badN = false ∧ Keep w wr) (fun i _ => xs.length - (intOf i).toNat)
  case atStart => exact ⟨0, Nat.zero_le _, rfl, rfl, Keep.refl _⟩
  case round =>
    obtain ⟨k, hk, rfl, han, hkeep⟩ := hrel
    have HN := Lib.hid han
    clear han
    by_cases hlt : k < xs.length
    · obtain ⟨b1, o1, x, rfl, hx, hc1⟩ := (ha.keep hkeep).int_at hlt
      have HX := Lib.hid hx
      clear hx
      have hq := fbad_f x wr
      cases hb : badN x with
      | true =>
        rw [hb] at hq
        have HB := Lib.hid hb
        clear hb
        go_wp2_with fail
        refine hq.mono ?_
        rintro e w1 ⟨rfl, k1⟩
        go_wp2_with fail
        go_ret
        exact ⟨⟨k, rfl, by rw [anyN_at HX.out HB.out]; simp⟩, hkeep.trans k1⟩
      | false =>
        rw [hb] at hq
        have HB := Lib.hid hb
        clear hb
        go_wp2_with fail
        refine hq.mono ?_
        rintro e w1 ⟨rfl, k1⟩
        go_wp2_with fail
        go_roundw
        case rel => exact ⟨k + 1, by omega, by go_num, anyN_take HN.out HX.out HB.out, hkeep.trans k1⟩
        case measure => simp [intOf]; omega
    · obtain rfl : k = xs.length := by omega
      go_wp2_with fail
      go_ret
      exact ⟨⟨-1, rfl, by have := HN.out; rw [List.take_length] at this; rw [this]; rfl⟩, hkeep⟩

set_option maxRecDepth 100000 in
theorem containsN_f (A : Option Addr) (c : Nat) (xs : List Int) (w : World) (ha : Rd w A (cs .i64 xs)) (la : Len xs.length) :
    Calls Tryz.prog 107 #[.slice A xs.length c, .func (.func 108) #[] #[]] w fun e w' => e = .returned (.bool (xs.any badN)) ∧ Keep w w' := by
  go_enter Tryz.func107, Tryz.ntmps107
  go_wp2_with fail
  refine (indexN_f A c xs w ha la).mono ?_
  rintro e w1 ⟨⟨m, rfl, hm⟩, k1⟩
  have HM := Lib.hid hm
  clear hm
  go_wp2_with fail
  go_ret
  exact ⟨by rw [← HM.out]; rfl, k1⟩

set_option maxRecDepth 100000 in
set_option maxHeartbeats 1000000 in
/-- frames.bid -/
theorem fbid_f (A : Option Addr) (c : Nat) (xs : List Int) (w : World) (ha : Rd w A (cs .i64 xs)) (la : Len xs.length) :
    Calls Tryz.prog 80 #[.slice A xs.length c] w fun e w' => e = .returned (.bool (bidOk xs)) ∧ Keep w w' := by
  have la' := la.le
  have hq := containsN_f A c xs w ha la
  by_cases h1 : 1 ≤ xs.length
  · by_cases h8 : xs.length ≤ 8
    · have e1 : bidOk xs = !xs.any badN := by rw [anyN_within]; unfold bidOk; simp [h1, h8]
      have HB := Lib.hid e1
      clear e1
      have z1 : (1 : Int) ≤ xs.length := by omega
      have z2 : (xs.length : Int) ≤ 8 := by omega
      clear la
      go_enter Tryz.func80, Tryz.ntmps80
      go_wp2_with fail
      refine hq.mono ?_
      rintro e w1 ⟨rfl, k1⟩
      go_wp2_with fail
      go_ret
      exact ⟨by rw [HB.out]; rfl, k1⟩
    · have e1 : bidOk xs = false := by unfold bidOk; simp [h8]
      have HB := Lib.hid e1
      clear e1 hq
      have z1 : (1 : Int) ≤ xs.length := by omega
      have z2 : ¬ (xs.length : Int) ≤ 8 := by omega
      have z3 : (xs.length ≤ 8) = False := eq_false h8
      go_enter Tryz.func80, Tryz.ntmps80
      go_wp2_with fail
      go_ret
      exact ⟨by rw [HB.out]; rfl, Keep.refl _⟩
  · have e1 : bidOk xs = false := by unfold bidOk; simp [h1]
    have HB := Lib.hid e1
    clear e1 hq
    have z2 : ¬ (1 : Int) ≤ xs.length := by omega
    have z3 : (1 ≤ xs.length) = False := eq_false h1
    go_enter Tryz.func80, Tryz.ntmps80
    go_wp2_with fail
    go_ret
    exact ⟨by rw [HB.out]; rfl, Keep.refl _⟩
end Go.Proofs.YtnjjeanbopclhaaGreatDoor
