/-
  CONTRACTS of the package vectors: within, Check: what they answer; nothing that was there is turned. Conditions: the slices are no longer than memory lets them be.
-/
import Derived.Test.YtjaaganaohjmaaaGreatDoorOpen
import Derived.Test.YtjaaganaohjmaaaGreatDoorInfo
import Derived.Test.YtjaaganaohjmaaaGreatDoorTell
import Derived.Deep.LoopGhost
namespace Go.Proofs.YtjaaganaohjmaaaGreatDoor
open Go.RowKit

/-- A length that a slice may have. -/
def Len (n : Nat) : Prop := n ≤ 9223372036854775807
theorem Len.le {n : Nat} (h : Len n) : (n : Int) ≤ 9223372036854775807 := by unfold Len at h; omega
theorem Reach.len {n : Nat} (h : Reach n) : Len n := by unfold Reach at h; unfold Len; omega
theorem In.lenL {k : IntKind} {w : World} {a : Option Addr} {c : Nat} {xs : List Int} (h : In k w a c xs) : Len xs.length := by have := h.len; unfold Len; omega

theorem within_take {most : Int} {l : List Int} {k : Nat} {x : Int} (h : within most (l.take k) = true) (hx : l[k]? = some x) (h0 : 0 ≤ x) (h1 : x ≤ most) : within most (l.take (k + 1)) = true := by
  rw [List.take_add_one, hx]
  unfold within at *
  simp [h, h0, h1]
theorem within_not {most : Int} {l : List Int} {k : Nat} {x : Int} (hx : l[k]? = some x) (h : x < 0 ∨ most < x) : within most l = false := by
  unfold within
  rw [List.all_eq_false]
  exact ⟨x, List.mem_of_getElem? hx, by simp; omega⟩

set_option maxRecDepth 100000 in
set_option maxHeartbeats 800000 in
theorem within_f (most : Int) (A : Option Addr) (c : Nat) (xs : List Int) (w : World) (ha : Rd w A (cs .i64 xs)) (la : Len xs.length) :
    Calls Tryz.prog 140 #[.int .i64 most, .slice A xs.length c] w (Says w (within most xs)) := by
  have la' := la.le
  go_enter Tryz.func140, Tryz.ntmps140
  go_wp2
  go_step3
  go_wp2
  go_step3
  go_wp2
  go_loop [5, 12] (fun l i => ∃ k : Nat, k ≤ xs.length ∧ i = .int .i64 k ∧ l = .int .i64 ((xs.length : Int) - k) ∧ within most (xs.take k) = true) (fun _ i => xs.length - (intOf i).toNat)
  case atStart => exact ⟨0, Nat.zero_le _, rfl, by go_num, rfl⟩
  case round =>
    obtain ⟨k, hk, rfl, rfl, hwi⟩ := hrel
    have HW := Lib.hid hwi
    clear hwi
    by_cases hlt : k < xs.length
    · obtain ⟨b1, o1, x, rfl, hx, hc1⟩ := ha.int_at hlt
      have HX := Lib.hid hx
      clear hx
      by_cases h0 : x < 0
      · go_wp2
        try rw [Exit.noGoto_ret]
        go_ret
        exact Says.of 0 rfl (by rw [within_not HX.out (.inl h0)]; simp; omega)
      · by_cases h1 : most < x
        · go_wp2
          try rw [Exit.noGoto_ret]
          go_ret
          exact Says.of 0 rfl (by rw [within_not HX.out (.inr h1)]; simp; omega)
        · go_wp2
          go_round
          case rel => exact ⟨k + 1, by omega, by go_num, by go_num, within_take HW.out HX.out (by omega) (by omega)⟩
          case measure => simp [intOf]; omega
    · obtain rfl : k = xs.length := by omega
      go_wp2
      try rw [Exit.noGoto_ret]
      go_ret
      exact Says.of 0 rfl (by have := HW.out; rw [List.take_length] at this; exact this.symm)

/-- What a function leaves that may make memory and answers a bool. -/
theorem within_one {n : Int} (h : 1 ≤ n ∧ n ≤ 8) : within 7 [n - 1] = true := by simp [within]; omega
theorem within_one_not {n : Int} (h : ¬ (1 ≤ n ∧ n ≤ 8)) : within 7 [n - 1] = false := by simp [within]; omega
theorem within_wrap {n : Int} (h : (Lit.int .i64 n).wf = true) (h0 : n < -9223372036854775807) : within 7 [wrap64 (n - 1)] = false := by
  simp [Lit.wf, IntKind.min, IntKind.max, IntKind.signed, IntKind.bits] at h
  have e : wrap64 (n - 1) = 9223372036854775807 := by simp only [wrap64]; omega
  rw [e]
  decide
theorem chk_out {l : List Int} {n : Int} (h : ¬ (1 ≤ n ∧ n ≤ 8)) : chk l n = false := by
  unfold chk
  by_cases h1 : 1 ≤ n
  · have h8 : ¬ n ≤ 8 := fun h8 => h ⟨h1, h8⟩
    simp [h8]
  · simp [h1]
theorem chk_len {l : List Int} {n : Int} (h : (l.length : Int) ≠ n) : chk l n = false := by
  unfold chk
  simp [h]
theorem chk_in {l : List Int} {n : Int} (h1 : 1 ≤ n) (h8 : n ≤ 8) (h : (l.length : Int) = n) : chk l n = within 1000000 l := by
  unfold chk
  simp [h, h1, h8]

set_option maxRecDepth 100000 in
set_option maxHeartbeats 1600000 in
theorem check_f (A : Option Addr) (c : Nat) (xs : List Int) (items : Int) (w : World) (ha : Rd w A (cs .i64 xs)) (la : Len xs.length) (hw : (Lit.int .i64 items).wf = true) :
    Calls Tryz.prog 127 #[.slice A xs.length c, .int .i64 items] w fun e w' => e = .returned (.bool (chk xs items)) ∧ Keep w w' := by
  have la' := la.le
  have HW := Lib.hid hw
  clear hw
  by_cases hi : 1 ≤ items ∧ items ≤ 8
  · obtain ⟨i1, i8⟩ := hi
    have hb1 := within_one ⟨i1, i8⟩
    by_cases hl : (xs.length : Int) = items
    · have hb2 : ((xs.length : Int) == items) = true := by simp [hl]
      have HL := Lib.hid hl
      clear hl
      go_enter Tryz.func127, Tryz.ntmps127
      go_wp2_with fail
      refine (saysK (within_f 7 _ 1 [items - 1] _ (Rd.one _ _ _) (by unfold Len; simp))).mono ?_
      rintro e w1 ⟨rfl, hk1⟩
      have hk := (Keep.alloc1 w _).trans hk1
      go_wp2_with fail
      refine (saysK (within_f 1000000 _ _ xs _ (ha.keep hk) la)).mono ?_
      rintro e w2 ⟨rfl, hk2⟩
      go_wp2_with fail
      go_ret
      exact ⟨by rw [chk_in i1 i8 HL.out]; rfl, hk.trans hk2⟩
    · have hb2 : ((xs.length : Int) == items) = false := by simp [hl]
      have HL := Lib.hid hl
      clear hl
      go_enter Tryz.func127, Tryz.ntmps127
      go_wp2_with fail
      refine (saysK (within_f 7 _ 1 [items - 1] _ (Rd.one _ _ _) (by unfold Len; simp))).mono ?_
      rintro e w1 ⟨rfl, hk1⟩
      go_wp2_with fail
      go_ret
      exact ⟨by rw [chk_len HL.out]; rfl, (Keep.alloc1 w _).trans hk1⟩
  · by_cases h0 : -9223372036854775807 ≤ items
    · have hb1 := within_one_not hi
      have HI := Lib.hid hi
      have hi8 : items - 1 ≤ 9223372036854775807 := by
        have := HW.out
        simp [Lit.wf, IntKind.min, IntKind.max, IntKind.signed, IntKind.bits] at this
        omega
      clear hi
      go_enter Tryz.func127, Tryz.ntmps127
      go_wp2_with fail
      refine (saysK (within_f 7 _ 1 [items - 1] _ (Rd.one _ _ _) (by unfold Len; simp))).mono ?_
      rintro e w1 ⟨rfl, hk1⟩
      go_wp2_with fail
      go_ret
      exact ⟨by rw [chk_out HI.out]; rfl, (Keep.alloc1 w _).trans hk1⟩
    · have hb1 := within_wrap HW.out (by omega)
      have HI := Lib.hid hi
      clear hi
      go_enter Tryz.func127, Tryz.ntmps127
      go_wp2_with fail
      refine (saysK (within_f 7 _ 1 [wrap64 (items - 1)] _ (Rd.one _ _ _) (by unfold Len; simp))).mono ?_
      rintro e w1 ⟨rfl, hk1⟩
      go_wp2_with fail
      go_ret
      exact ⟨by rw [chk_out HI.out]; rfl, (Keep.alloc1 w _).trans hk1⟩
end Go.Proofs.YtjaaganaohjmaaaGreatDoor
