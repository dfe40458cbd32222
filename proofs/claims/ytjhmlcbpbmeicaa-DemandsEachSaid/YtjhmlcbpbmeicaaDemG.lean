/-
  CONTRACT of the laws' check 'alive' of the package demands: it answers true; nothing that was there is turned. No condition.
-/
import Derived.Test.YtjhmlcbpbmeicaaDemF
namespace Go.Proofs.Ytjhmlcbpbmeicaa
open Go.RowKit

theorem len_small {n : Nat} (h : n ≤ 8) : Len n := by unfold Len; omega

/-- 'Of' at two slices that were just built of constants. -/
theorem of_lit (xs ys L : List Int) (n : Bool) (g r : Int) (hv : ofV xs ys = (L, n, g, r)) (lx : xs.length ≤ 8) (ly : ys.length ≤ 8) (w : World) :
    Calls Try.prog 19 #[.slice (some ⟨w.heap.size, 0, none⟩) xs.length xs.length, .slice (some ⟨w.heap.size + 1, 0, none⟩) ys.length ys.length]
      ((w.alloc (.cells (cs .i64 xs).toArray 3)).alloc (.cells (cs .i64 ys).toArray 3)) fun e w' =>
        ∃ A, e = .returned (.tuple #[.slice A L.length L.length, .bool n, .int .i64 g, .int .i64 r]) ∧ Rd w' A (cs .i64 L) ∧ Keep w w' := by
  have h1 : Rd ((w.alloc (.cells (cs .i64 xs).toArray 3)).alloc (.cells (cs .i64 ys).toArray 3)) (some ⟨w.heap.size, 0, none⟩) (cs .i64 xs) := (Rd.lit w _ _).keep (Keep.alloc1 _ _)
  have h2 : Rd ((w.alloc (.cells (cs .i64 xs).toArray 3)).alloc (.cells (cs .i64 ys).toArray 3)) (some ⟨w.heap.size + 1, 0, none⟩) (cs .i64 ys) := by
    have h := Rd.lit (w.alloc (.cells (cs .i64 xs).toArray 3)) (cs .i64 ys) 3
    rwa [World.size_alloc] at h
  refine (of_f _ _ _ _ xs ys _ h1 (len_small lx) h2 (len_small ly)).mono ?_
  rintro e w' ⟨A, L', n', g', r', rfl, hr, hk, hv'⟩
  rw [hv] at hv'
  cases hv'
  exact ⟨A, rfl, hr, (((Keep.refl w).alloc _).alloc _).trans hk⟩
/-- .. at no list and one of constants. -/
theorem of_lit0 (ys L : List Int) (n : Bool) (g r : Int) (hv : ofV [] ys = (L, n, g, r)) (ly : ys.length ≤ 8) (w : World) :
    Calls Try.prog 19 #[.slice none 0 0, .slice (some ⟨w.heap.size, 0, none⟩) ys.length ys.length]
      (w.alloc (.cells (cs .i64 ys).toArray 3)) fun e w' =>
        ∃ A, e = .returned (.tuple #[.slice A L.length L.length, .bool n, .int .i64 g, .int .i64 r]) ∧ Rd w' A (cs .i64 L) ∧ Keep w w' := by
  refine (of_f _ _ _ _ [] ys _ (Rd.nil _ _) (len_small (Nat.zero_le _)) (Rd.lit w _ _) (len_small ly)).mono ?_
  rintro e w' ⟨A, L', n', g', r', rfl, hr, hk, hv'⟩
  rw [hv] at hv'
  cases hv'
  exact ⟨A, rfl, hr, ((Keep.refl w).alloc _).trans hk⟩

set_option maxRecDepth 100000 in
set_option maxHeartbeats 2000000 in
theorem alive12_f (w : World) : Calls Try.prog 20 #[] w fun e w' => e = .returned (.bool true) ∧ Keep w w' := by
  go_enter Try.func20, Try.ntmps20
  go_wp2_with fail
  refine (of_lit [5, 3] [1, 0] [0] false 4 0 rfl (by decide) (by decide) w).mono ?_
  rintro e w1 ⟨A1, rfl, hr1, k1⟩
  go_wp2_with fail
  refine (of_lit [5, 4] [1, 0] [0, 1] false 4 0 rfl (by decide) (by decide) w1).mono ?_
  rintro e w2 ⟨A2, rfl, hr2, k2⟩
  go_wp2_with fail
  refine (of_lit [5, 3] [5, 3] [0, 1] true 0 0 rfl (by decide) (by decide) w2).mono ?_
  rintro e w3 ⟨A3, rfl, hr3, k3⟩
  go_wp2_with fail
  refine (of_lit [5, 3] [6, 4] [] true 0 0 rfl (by decide) (by decide) w3).mono ?_
  rintro e w4 ⟨A4, rfl, hr4, k4⟩
  go_wp2_with fail
  refine (of_lit0 [1] [] true 0 0 rfl (by decide) w4).mono ?_
  rintro e w5 ⟨A5, rfl, hr5, k5⟩
  go_wp2_with fail
  refine (of_lit [5] [1, 1] [] false 0 1 rfl (by decide) (by decide) w5).mono ?_
  rintro e w6 ⟨A6, rfl, hr6, k6⟩
  go_wp2_with fail
  refine (of_lit [5] [-1] [] false 0 1 rfl (by decide) (by decide) w6).mono ?_
  rintro e w7 ⟨A7, rfl, hr7, k7⟩
  have q1 := ((((((hr1.keep k2).keep k3).keep k4).keep k5).keep k6).keep k7)
  have q2 := ((((((hr2.keep k3).keep k4).keep k5).keep k6).keep k7))
  have q3 := (((((hr3.keep k4).keep k5).keep k6).keep k7))
  have kk : Keep w w7 := k1.trans (k2.trans (k3.trans (k4.trans (k5.trans (k6.trans k7)))))
  clear hr1 hr2 hr3 k1 k2 k3 k4 k5 k6 k7
  go_wp2_with fail
  refine (saysK (sameInts A1 _ 1 1 [0] [0] _ (q1.keep (Keep.alloc1 _ _)) (Rd.lit w7 (cs .i64 [0]) 3) (by unfold Reach; decide) (by unfold Reach; decide))).mono ?_
  rintro e w8 ⟨rfl, k8⟩
  have k8' := (Keep.alloc1 _ _).trans k8
  go_wp2_with fail
  refine (saysK (sameInts A2 _ 2 2 [0, 1] [0, 1] _ ((q2.keep k8').keep (Keep.alloc1 _ _)) (Rd.lit w8 (cs .i64 [0, 1]) 3) (by unfold Reach; decide) (by unfold Reach; decide))).mono ?_
  rintro e w9 ⟨rfl, k9⟩
  have k9' := (Keep.alloc1 _ _).trans k9
  go_wp2_with fail
  refine (saysK (sameInts A3 _ 2 2 [0, 1] [0, 1] _ (((q3.keep k8').keep k9').keep (Keep.alloc1 _ _)) (Rd.lit w9 (cs .i64 [0, 1]) 3) (by unfold Reach; decide) (by unfold Reach; decide))).mono ?_
  rintro e w10 ⟨rfl, k10⟩
  have k10' := (Keep.alloc1 _ _).trans k10
  go_wp2_with fail
  go_ret
  exact ⟨rfl, ((kk.trans k8').trans k9').trans k10'⟩
end Go.Proofs.Ytjhmlcbpbmeicaa
