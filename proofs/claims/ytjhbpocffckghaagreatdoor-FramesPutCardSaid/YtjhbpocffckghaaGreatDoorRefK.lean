/-
  CONTRACTS of the document's answer of chapter 21: bid. Conditions: the slice reads as a list no longer than memory lets it be.
-/
import Derived.Test.YtjhbpocffckghaaGreatDoorFrmP
import Derived.Test.YtjhbpocffckghaaGreatDoorSame
import Derived.Test.YtjhbpocffckghaaGreatDoorOpenC
namespace Go.Proofs.YtjhbpocffckghaaGreatDoor
open Go.RowKit

theorem within_take {most : Int} {l : List Int} {k : Nat} {x : Int} (h : within most (l.take k) = true) (hx : l[k]? = some x) (h0 : 0 ≤ x) (h1 : x ≤ most) : within most (l.take (k + 1)) = true := by
  rw [List.take_add_one, hx]
  unfold within at *
  simp [h, h0, h1]
theorem within_not {most : Int} {l : List Int} {k : Nat} {x : Int} (hx : l[k]? = some x) (h : x < 0 ∨ most < x) : within most l = false := by
  unfold within
  rw [List.all_eq_false]
  exact ⟨x, List.mem_of_getElem? hx, by simp; omega⟩
theorem bidOk_lt {l : List Int} (h : l.length < 1) : bidOk l = false := by
  unfold bidOk
  rw [decide_eq_false (by omega)]
  rfl
theorem bidOk_gt {l : List Int} (h : 8 < l.length) : bidOk l = false := by
  unfold bidOk
  rw [decide_eq_false (p := l.length ≤ 8) (by omega), Bool.and_false]
  rfl
theorem bidOk_in {l : List Int} (h : 1 ≤ l.length) (k : l.length ≤ 8) : bidOk l = within 1000000 l := by
  unfold bidOk
  rw [decide_eq_true h, decide_eq_true k]
  rfl

set_option maxRecDepth 100000 in
set_option maxHeartbeats 800000 in
theorem refBid_f (A : Option Addr) (c : Nat) (xs : List Int) (w : World) (ha : Rd w A (cs .i64 xs)) (la : Len xs.length) :
    Calls Tryz.prog 82 #[.slice A xs.length c] w (Says w (bidOk xs)) := by
  have la' := la.le
  by_cases h1 : xs.length < 1
  · have z1 : ((xs.length : Int) < 1) = True := eq_true (by omega)
    have z2 : decide ((xs.length : Int) < 1) = true := decide_eq_true (by omega)
    have HB := Lib.hid (bidOk_lt h1)
    clear h1
    go_enter Tryz.func82, Tryz.ntmps82
    go_wp2_with fail
    go_ret
    exact Says.of 0 rfl HB.out.symm
  by_cases h8 : 8 < xs.length
  · have z1 : ((xs.length : Int) < 1) = False := eq_false (by omega)
    have z2 : decide ((xs.length : Int) < 1) = false := decide_eq_false (by omega)
    have z3 : ((8 : Int) < (xs.length : Int)) = True := eq_true (by omega)
    have z4 : decide ((8 : Int) < (xs.length : Int)) = true := decide_eq_true (by omega)
    have HB := Lib.hid (bidOk_gt h8)
    clear h1 h8
    go_enter Tryz.func82, Tryz.ntmps82
    go_wp2_with fail
    go_ret
    exact Says.of 0 rfl HB.out.symm
  have z1 : ((xs.length : Int) < 1) = False := eq_false (by omega)
  have z2 : decide ((xs.length : Int) < 1) = false := decide_eq_false (by omega)
  have z3 : ((8 : Int) < (xs.length : Int)) = False := eq_false (by omega)
  have z4 : decide ((8 : Int) < (xs.length : Int)) = false := decide_eq_false (by omega)
  have HB := Lib.hid (bidOk_in (l := xs) (by omega) (by omega))
  have H8 : Hid (xs.length ≤ 8) := Lib.hid (by omega)
  clear h1 h8
  go_enter Tryz.func82, Tryz.ntmps82
  go_wp2_with fail
  go_loop [3] (fun i => ∃ k : Nat, k ≤ xs.length ∧ i = .int .i64 k ∧ within 1000000 (xs.take k) = true) (fun i => xs.length - (intOf i).toNat)
  case atStart => exact ⟨0, Nat.zero_le _, rfl, rfl⟩
  case round =>
    obtain ⟨k, hk, rfl, hwi⟩ := hrel
    have HW := Lib.hid hwi
    clear hwi
    by_cases hlt : k < xs.length
    · obtain ⟨b1, o1, x, rfl, hx, hc1⟩ := ha.int_at hlt
      have HX := Lib.hid hx
      clear hx
      by_cases h0 : x < 0
      · have d0 : decide (x < 0) = true := decide_eq_true h0
        go_wp2_with fail
        try rw [Exit.noGoto_ret]
        go_ret
        exact Says.of 0 rfl (by rw [HB.out, within_not HX.out (.inl h0)])
      · have d0 : decide (x < 0) = false := decide_eq_false h0
        by_cases h1 : 1000000 < x
        · have d1 : decide (1000000 < x) = true := decide_eq_true h1
          go_wp2_with fail
          try rw [Exit.noGoto_ret]
          go_ret
          exact Says.of 0 rfl (by rw [HB.out, within_not HX.out (.inr h1)])
        · have d1 : decide (1000000 < x) = false := decide_eq_false h1
          go_wp2_with fail
          go_round
          case rel => exact ⟨k + 1, by omega, by go_num, within_take HW.out HX.out (by omega) (by omega)⟩
          case measure => simp [intOf]; omega
    · obtain rfl : k = xs.length := by omega
      go_wp2_with fail
      try rw [Exit.noGoto_ret]
      go_ret
      exact Says.of 0 rfl (by have := HW.out; rw [List.take_length] at this; rw [HB.out]; exact this.symm)
end Go.Proofs.YtjhbpocffckghaaGreatDoor
