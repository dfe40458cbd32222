/-
  CONTRACT of the laws' check 'alive' of the package nums: it answers true; nothing that was there is turned. No condition.
-/
import Derived.Test.YtjhmlcbpbmeicaaNumF
import Derived.Test.YtjhmlcbpbmeicaaDemG
import Derived.Laws.BytesArg
import Derived.Lib.SlBytesConst
namespace Go.Proofs.Ytjhmlcbpbmeicaa
open Go.RowKit

theorem bytes_of {l : List Int} (h : l.all (fun x => decide (0 ≤ x) && decide (x < 256)) = true) : Bytes l := fun x hx => by
  have := List.all_eq_true.1 h x hx
  simp at this
  exact this
/-- 'GetList' at bytes that were just built. -/
theorem getList_lit (xs zs : List Int) (hg : getL xs = some zs) (hb : Bytes xs) (hl : xs.length ≤ 100) (w : World) :
    Calls Try.prog 27 #[.slice (some ⟨w.heap.size, 0, none⟩) xs.length xs.length] (w.alloc (.cells (cs .u8 xs).toArray 5)) fun e w' =>
      ∃ A', e = .returned (.tuple #[.slice A' zs.length zs.length, .int .i64 ((1 + 4 * zs.length : Nat) : Int), .int .i64 0]) ∧ Rd w' A' (cs .i64 zs) ∧ Keep w w' := by
  refine (getList_f _ _ xs _ (Rd.lit w _ _) hb (Nat.le_refl _) (by unfold Len; omega)).mono ?_
  rintro e w' h
  unfold GetLP at h
  rw [hg] at h
  obtain ⟨A', rfl, hf, hk⟩ := h
  exact ⟨A', rfl, hf.rd, (Keep.alloc1 _ _).trans hk⟩
theorem getList_litNo (xs : List Int) (hg : getL xs = none) (hb : Bytes xs) (hl : xs.length ≤ 100) (w : World) :
    Calls Try.prog 27 #[.slice (some ⟨w.heap.size, 0, none⟩) xs.length xs.length] (w.alloc (.cells (cs .u8 xs).toArray 5)) fun e w' =>
      e = .returned (.tuple #[.slice none 0 0, .int .i64 0, .int .i64 5]) ∧ Keep w w' := by
  refine (getList_f _ _ xs _ (Rd.lit w _ _) hb (Nat.le_refl _) (by unfold Len; omega)).mono ?_
  rintro e w' h
  unfold GetLP at h
  rw [hg] at h
  obtain ⟨rfl, hk⟩ := h
  exact ⟨rfl, (Keep.alloc1 _ _).trans hk⟩
theorem get_lit (xs : List Int) (n : Int) (v : Nat) (r : Int) (hg : getV xs n = (v, r)) (hb : Bytes xs) (hl : xs.length ≤ 100) (w : World) :
    Calls Try.prog 26 #[.slice (some ⟨w.heap.size, 0, none⟩) xs.length xs.length, .int .i64 n] (w.alloc (.cells (cs .u8 xs).toArray 5)) fun e w' =>
      e = .returned (.tuple #[.int .u64 (v : Int), .int .i64 r]) ∧ Keep w w' := by
  refine (get_f _ _ xs n _ (Rd.lit w _ _) hb (Nat.le_refl _) (by unfold Len; omega)).mono ?_
  rintro e w' h
  unfold GetP at h
  rw [hg] at h
  obtain ⟨rfl, hk⟩ := h
  exact ⟨rfl, (Keep.alloc1 _ _).trans hk⟩
theorem put_lit (xs : List Int) (v : Nat) (b : Int) (zs : List Int) (hz : xs ++ le v (clampB b) = zs) (hl : xs.length ≤ 100) (hb : -100 ≤ b ∧ b ≤ 100) (w : World) :
    Calls Try.prog 23 #[.slice (some ⟨w.heap.size, 0, none⟩) xs.length xs.length, .int .u64 (v : Int), .int .i64 b] (w.alloc (.cells (cs .u8 xs).toArray 5)) fun e w' =>
      ∃ A', e = .returned (.slice A' zs.length zs.length) ∧ Rd w' A' (cs .u8 zs) ∧ Keep w w' := by
  refine (put_r _ _ xs v b _ (Rd.lit w _ _) (by omega) (fun h => by cases h) (by omega)).mono ?_
  rintro e w' ⟨A', rfl, hf, hk⟩
  rw [hz] at hf ⊢
  exact ⟨A', rfl, hf.rd, (Keep.alloc1 _ _).trans hk⟩
theorem Rd.mark (w : World) (vs : List Value) (t : TypeId) (fr : Nat × Nat) : Rd (w.alloc (.cells vs.toArray t fr)) (some ⟨w.heap.size, 0, none⟩) vs := fun j v hv => by
  refine ⟨_, _, rfl, ?_⟩
  rw [cell_of_row (w.alloc (.cells vs.toArray t fr)) w.heap.size (0 + j) vs.toArray t fr (heap_alloc_new w _)]
  simpa using hv
theorem putBytes_lit (ys zs : List Int) (hz : putBy (ys.take 65535) = zs) (hl : ys.length ≤ 100) (w : World) :
    Calls Try.prog 28 #[.slice none 0 0, .slice (some ⟨w.heap.size, 0, none⟩) ys.length ys.length] (w.alloc (.cells (cs .u8 ys).toArray 5 (ys.length, ys.length + 1))) fun e w' =>
      ∃ A', e = .returned (.slice A' zs.length zs.length) ∧ Rd w' A' (cs .u8 zs) ∧ Keep w w' := by
  refine (putBytes_f none 0 [] _ _ ys _ (Rd.nil _ _) (by simp) (fun _ => rfl) (Rd.mark w _ _ _) (Nat.le_refl _) (by unfold Len; omega)).mono ?_
  rintro e w' ⟨A', rfl, hf, hk⟩
  rw [List.nil_append, hz] at hf ⊢
  exact ⟨A', rfl, hf.rd, (Keep.alloc1 _ _).trans hk⟩

/-- A slice of bytes as a string. -/
theorem conv_str {w : World} {A : Option Addr} {zs : List Int} (hr : Rd w A (cs .u8 zs)) (h0 : 0 < zs.length) : (convert 31 9 (.slice A zs.length zs.length)).run Try.prog w = .ok (.string (strOfNums zs)) w := by
  obtain ⟨b, off, rfl, hc⟩ := hr.ints h0
  exact run_convert_bytes_arg w 31 5 Try.underlying31 Try.underlying5 b off _ _ zs rfl hc 9 Try.underlying9

set_option maxRecDepth 100000 in
set_option maxHeartbeats 2000000 in
theorem alive01_f (w : World) : Calls Try.prog 22 #[] w fun e w' => e = .returned (.bool true) ∧ Keep w w' := by
  go_enter Try.func22, Try.ntmps22
  go_wp2_with fail
  refine (getList_lit [1, 5, 0, 0, 0, 7] [5] (by decide) (bytes_of (by decide)) (by decide) w).mono ?_
  rintro e w1 ⟨A1, rfl, hr1, k1⟩
  go_wp2_with fail
  refine (getList_litNo [1, 5, 0, 0] (by decide) (bytes_of (by decide)) (by decide) w1).mono ?_
  rintro e w2 ⟨rfl, k2⟩
  go_wp2_with fail
  refine (get_lit [1, 1] 2 257 0 (by decide) (bytes_of (by decide)) (by decide) w2).mono ?_
  rintro e w3 ⟨rfl, k3⟩
  go_wp2_with fail
  refine (get_lit [1] 2 0 5 (by decide) (bytes_of (by decide)) (by decide) w3).mono ?_
  rintro e w4 ⟨rfl, k4⟩
  go_wp2_with fail
  refine (get_lit [1] 9 0 1 (by decide) (bytes_of (by decide)) (by decide) w4).mono ?_
  rintro e w5 ⟨rfl, k5⟩
  go_wp2_with fail
  refine (put_lit [9] 258 3 [9, 2, 1, 0] (by decide) (by decide) (by decide) w5).mono ?_
  rintro e w6 ⟨A6, rfl, hr6, k6⟩
  have hcv : (convert 31 9 (.slice A6 4 4)).run Try.prog w6 = .ok (.string ⟨#[9, 2, 1, 0]⟩) w6 := conv_str hr6 (by decide)
  obtain ⟨b1, o1, rfl, hc1⟩ := (((((hr1.keep k2).keep k3).keep k4).keep k5).keep k6).ints (by decide)
  have hc2 : w6.cell? ⟨b1, o1, none⟩ = some (.int .i64 5) := by
    have := hc1 0 (by decide)
    rwa [Nat.add_zero] at this
  have kk : Keep w w6 := k1.trans (k2.trans (k3.trans (k4.trans (k5.trans k6))))
  have hid := Lib.run_convert_bytes_const (P := Try.prog) w6 31 5 #[.int .u8 97, .int .u8 98] 2 2 Try.underlying31 Try.underlying5
  clear hr1 hc1 hr6 k1 k2 k3 k4 k5 k6
  go_wp2_with fail
  refine (putBytes_lit [97, 98] [2, 0, 97, 98] (by decide) (by decide) w6).mono ?_
  rintro e w7 ⟨A7, rfl, hr7, k7⟩
  have hcw : (convert 31 9 (.slice A7 4 4)).run Try.prog w7 = .ok (.string ⟨#[2, 0, 97, 98]⟩) w7 := conv_str hr7 (by decide)
  clear hr7
  go_wp2_with fail
  go_ret
  exact ⟨rfl, kk.trans k7⟩
end Go.Proofs.Ytjhmlcbpbmeicaa
