/-
  CONTRACT of the laws' check 'alive' of the package vectors: it answers true; nothing that was there is turned. No condition.
-/
import Derived.Test.YtjhmlcbpbmeicaaVecC
namespace Go.Proofs.Ytjhmlcbpbmeicaa
open Go.RowKit

/-- Put of [5, 0]. -/
theorem vput_at (A : Option Addr) (w : World) (hr : Rd w A (cs .i64 [5, 0])) :
    Calls Try.prog 31 #[.slice A 2 2] w fun e w' => ∃ A', e = .returned (.slice A' 9 9) ∧ Rd w' A' (cs .u8 [2, 5, 0, 0, 0, 0, 0, 0, 0]) ∧ Keep w w' := by
  refine (vput_f A 2 [5, 0] w hr (by decide) (by unfold Len; decide)).mono ?_
  rintro e w' ⟨A', rfl, hf, hk⟩
  rw [show putL ([5, 0].take 255) = [2, 5, 0, 0, 0, 0, 0, 0, 0] by decide] at hf ⊢
  exact ⟨A', rfl, hf.rd, hk⟩
theorem vget_at (A : Option Addr) (c : Nat) (xs L : List Int) (n r : Int) (hv : vgetV xs n = (L, r)) (hb : Bytes xs) (hc : xs.length ≤ c) (hc2 : c ≤ 100) (hn : -100 ≤ n ∧ n ≤ 100) (w : World) (hr : Rd w A (cs .u8 xs)) :
    Calls Try.prog 32 #[.slice A xs.length c, .int .i64 n] w fun e w' => ∃ A', e = .returned (.tuple #[.slice A' L.length L.length, .int .i64 r]) ∧ Rd w' A' (cs .i64 L) ∧ Keep w w' := by
  refine (vget_f A c xs n w hr hb hc (by unfold Len; omega) (by omega)).mono ?_
  rintro e w' ⟨A', rfl, hf, hk⟩
  rw [hv] at hf ⊢
  exact ⟨A', rfl, hf, hk⟩

theorem check_at (A : Option Addr) (xs : List Int) (n : Int) (r : Bool) (hv : chk xs n = r) (hl : xs.length ≤ 100) (hn : -100 ≤ n ∧ n ≤ 100) (w : World) (hr : Rd w A (cs .i64 xs)) :
    Calls Try.prog 33 #[.slice A xs.length xs.length, .int .i64 n] w fun e w' => e = .returned (.bool r) ∧ Keep w w' := by
  rw [← hv]
  exact check_f A xs.length xs n w hr (by unfold Len; omega) (WalkArith.wf_i64 (by omega))
theorem small_of {l : List Int} (h : l.all (fun x => decide (-1099511627776 ≤ x) && decide (x ≤ 1099511627776)) = true) : Small l := fun x hx => by
  have := List.all_eq_true.1 h x hx
  simp at this
  exact this
theorem worth_at (A B : Option Addr) (xs ys : List Int) (i r : Int) (hv : worth xs ys i = r) (hl : xs.length ≤ 100) (hl2 : ys.length ≤ 100) (sa : Small xs) (sb : Small ys) (w : World) (ha : Rd w A (cs .i64 xs)) (hb : Rd w B (cs .i64 ys)) :
    Calls Try.prog 34 #[.slice A xs.length xs.length, .slice B ys.length ys.length, .int .i64 i] w fun e w' => e = .returned (.int .i64 r) ∧ Keep w w' := by
  rw [← hv]
  exact tellsK (worth_f A B _ _ xs ys i w ha hb (by unfold Reach; omega) (by unfold Reach; omega) sa sb)

set_option maxRecDepth 100000 in
set_option maxHeartbeats 2000000 in
theorem alive04_f (w : World) : Calls Try.prog 30 #[] w fun e w' => e = .returned (.bool true) ∧ Keep w w' := by
  go_enter Try.func30, Try.ntmps30
  go_wp2_with fail
  have r0 : Rd (w.alloc (.cells #[.int .i64 5, .int .i64 0] 3)) (some ⟨w.heap.size, 0, none⟩) (cs .i64 [5, 0]) := Rd.lit w (cs .i64 [5, 0]) 3
  have k0 : Keep w (w.alloc (.cells #[.int .i64 5, .int .i64 0] 3)) := Keep.alloc1 _ _
  generalize w.alloc (.cells #[.int .i64 5, .int .i64 0] 3) = w0 at r0 k0 ⊢
  refine (vput_at _ w0 r0).mono ?_
  rintro e w1 ⟨A1, rfl, h1, k1⟩
  go_wp2_with fail
  refine (vget_at A1 9 [2, 5, 0, 0, 0, 0, 0, 0, 0] [5, 0] 2 0 (by decide) (bytes_of (by decide)) (by decide) (by decide) (by decide) w1 h1).mono ?_
  rintro e w2 ⟨A2, rfl, h2, k2⟩
  go_wp2_with fail
  have r2 := (r0.keep k1).keep k2
  refine (vput_at _ w2 r2).mono ?_
  rintro e w3 ⟨A3, rfl, h3, k3⟩
  go_wp2_with fail
  refine (vget_at A3 9 [2, 5, 0, 0, 0, 0, 0, 0, 0] [] 3 4 (by decide) (bytes_of (by decide)) (by decide) (by decide) (by decide) w3 h3).mono ?_
  rintro e w4 ⟨A4, rfl, _, k4⟩
  go_wp2_with fail
  refine (vget_at none 0 [] [] 2 5 (by decide) Bytes.nil (by decide) (by decide) (by decide) w4 (Rd.nil _ _)).mono ?_
  rintro e w5 ⟨A5, rfl, _, k5⟩
  go_wp2_with fail
  refine (vget_at none 0 [] [] 9 1 (by decide) Bytes.nil (by decide) (by decide) (by decide) w5 (Rd.nil _ _)).mono ?_
  rintro e w6 ⟨A6, rfl, _, k6⟩
  have r6 := (((r2.keep k3).keep k4).keep k5).keep k6
  have q6 := (((h2.keep k3).keep k4).keep k5).keep k6
  have kk := k0.trans (k1.trans (k2.trans (k3.trans (k4.trans (k5.trans k6)))))
  clear h1 h3 h2 r0 r2 k0 k1 k2 k3 k4 k5 k6
  go_wp2_with fail
  refine (check_at _ [5, 0] 2 true (by decide) (by decide) (by decide) w6 r6).mono ?_
  rintro e w7 ⟨rfl, k7⟩
  go_wp2_with fail
  refine (check_at _ [5, 0] 3 false (by decide) (by decide) (by decide) w7 (r6.keep k7)).mono ?_
  rintro e w8 ⟨rfl, k8⟩
  go_wp2_with fail
  refine (check_at _ [5, 1000001] 2 false (by decide) (by decide) (by decide) _ (Rd.lit w8 (cs .i64 [5, 1000001]) 3)).mono ?_
  rintro e w9 ⟨rfl, k9⟩
  go_wp2_with fail
  refine (check_at none [] 0 false (by decide) (by decide) (by decide) w9 (Rd.nil _ _)).mono ?_
  rintro e w10 ⟨rfl, k10⟩
  have k810 : Keep w6 w10 := (k7.trans k8).trans (((Keep.alloc1 _ _).trans k9).trans k10)
  have r10 := r6.keep k810
  have q10 := q6.keep k810
  have kk10 := kk.trans k810
  clear r6 q6 kk k7 k8 k9 k10 k810
  go_wp2_with fail
  refine (worth_at _ _ [5, 0] [3, 1] 0 2 (by decide) (by decide) (by decide) (small_of (by decide)) (small_of (by decide)) _ (r10.keep (Keep.alloc1 _ _)) (Rd.lit w10 (cs .i64 [3, 1]) 3)).mono ?_
  rintro e w11 ⟨rfl, k11⟩
  have k11' := (Keep.alloc1 _ _).trans k11
  go_wp2_with fail
  refine (worth_at _ _ [5, 0] [3, 1] 1 (-1) (by decide) (by decide) (by decide) (small_of (by decide)) (small_of (by decide)) _ ((r10.keep k11').keep (Keep.alloc1 _ _)) (Rd.lit w11 (cs .i64 [3, 1]) 3)).mono ?_
  rintro e w12 ⟨rfl, k12⟩
  have k12' := (Keep.alloc1 _ _).trans k12
  go_wp2_with fail
  refine (worth_at _ _ [5, 0] [3] 1 (-1) (by decide) (by decide) (by decide) (small_of (by decide)) (small_of (by decide)) _ (((r10.keep k11').keep k12').keep (Keep.alloc1 _ _)) (Rd.lit w12 (cs .i64 [3]) 3)).mono ?_
  rintro e w13 ⟨rfl, k13⟩
  have k13' := (Keep.alloc1 _ _).trans k13
  go_wp2_with fail
  refine (saysK (sameInts A2 _ 2 2 [5, 0] [5, 0] _ (((q10.keep k11').keep k12').keep k13') (((r10.keep k11').keep k12').keep k13') (by unfold Reach; decide) (by unfold Reach; decide))).mono ?_
  rintro e w14 ⟨rfl, k14⟩
  go_wp2_with fail
  go_ret
  exact ⟨rfl, (((kk10.trans k11').trans k12').trans k13').trans k14⟩
end Go.Proofs.Ytjhmlcbpbmeicaa
