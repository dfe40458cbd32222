/-
  CONTRACTS of the package vectors: Get. Conditions: the slices are no longer than memory lets them be.
-/
import Derived.Test.YtafiahnaeakcfaaDoorVecB
import Derived.Test.YtafiahnaeakcfaaDoorDemF
namespace Go.Proofs.YtafiahnaeakcfaaDoor
open Go.RowKit

/-- vectors.Get: the bid, the error's number. -/
def vgetV (xs : List Int) (n : Int) : List Int × Int :=
  if n < 1 ∨ 8 < n then ([], 1) else
  match getL xs with
  | none => ([], 5)
  | some zs => if 1 + 4 * zs.length < xs.length ∨ chk zs n = false then ([], 4) else (zs, 0)
def VGetO (xs : List Int) (n : Int) (w : World) (e : Ending) (w' : World) : Prop :=
  ∃ A, e = .returned (.tuple #[.slice A (vgetV xs n).1.length (vgetV xs n).1.length, .int .i64 (vgetV xs n).2]) ∧ Fr 3 w' w.heap.size A (vgetV xs n).1.length (vgetV xs n).1.length (cs .i64 (vgetV xs n).1) ∧ Keep w w'
def VGetP (xs : List Int) (n : Int) (w : World) (e : Ending) (w' : World) : Prop :=
  ∃ A, e = .returned (.tuple #[.slice A (vgetV xs n).1.length (vgetV xs n).1.length, .int .i64 (vgetV xs n).2]) ∧ Rd w' A (cs .i64 (vgetV xs n).1) ∧ Keep w w'

set_option maxRecDepth 100000 in
set_option maxHeartbeats 1600000 in
theorem vget_own (A : Option Addr) (c : Nat) (xs : List Int) (n : Int) (w : World) (ha : Rd w A (cs .u8 xs)) (hb : Bytes xs) (hc : xs.length ≤ c) (lc : Len c) (hn : -9223372036854775808 ≤ n ∧ n ≤ 9223372036854775807) :
    Calls Tryd.prog 32 #[.slice A xs.length c, .int .i64 n] w (VGetO xs n w) := by
  have lc' := lc.le
  have hc' : (xs.length : Int) ≤ c := by omega
  have hwi := fun w => within_f 7 (some ⟨w.heap.size, 0, none⟩) 1 [n - 1] (w.alloc (.cells #[.int .i64 (n - 1)] 3)) (Rd.lit w (cs .i64 [n - 1]) 3) (by unfold Len; simp)
  by_cases h1 : 1 ≤ n ∧ n ≤ 8
  · have e1 : within 7 [n - 1] = true := by unfold within; simp; omega
    rw [e1] at hwi
    go_enter Tryd.func32, Tryd.ntmps32
    go_wp2_with fail
    refine (hwi w).mono ?_
    rintro e w1 ⟨rfl, m, rfl⟩
    have kw : Keep w ((w.alloc (.cells #[.int .i64 (n - 1)] 3)).drewN m) := (Keep.alloc1 _ _).drewN m
    generalize (w.alloc (.cells #[.int .i64 (n - 1)] 3)).drewN m = w2 at kw ⊢
    have hg := getList_f A c xs w2 (ha.keep kw) hb hc lc
    unfold GetLP at hg
    cases hl : getL xs with
    | none =>
      rw [hl] at hg
      have E2 := Lib.hid (show vgetV xs n = ([], 5) by rw [vgetV, if_neg (by omega), hl])
      clear hl hwi e1
      go_wp2_with fail
      refine hg.mono ?_
      rintro e w3 ⟨rfl, k3⟩
      go_wp2_with fail
      refine bodyPost_ret (results_tmp2 rfl _ _ _) rfl ?_
      unfold VGetO
      rw [E2.out]
      exact ⟨none, rfl, Fr.empty _ _ _ _, kw.trans k3⟩
    | some zs =>
      rw [hl] at hg
      dsimp only at hg
      have E2 := Lib.hid (show vgetV xs n = if 1 + 4 * zs.length < xs.length ∨ chk zs n = false then ([], 4) else (zs, 0) by rw [vgetV, if_neg (by omega), hl])
      have hz : zs.length < 256 := by
        unfold getL at hl
        split at hl
        · cases hl
        · cases hl
          have := hb.getD 0
          rw [List.length_map, List.length_range]
          omega
      clear hl hwi e1
      go_wp2_with fail
      refine hg.mono ?_
      rintro e w3 ⟨A3, rfl, hf3, k3⟩
      by_cases hlt : 1 + 4 * zs.length < xs.length
      · have hd : decide ((1 : Int) + 4 * (zs.length : Int) < (xs.length : Int)) = true := decide_eq_true (by omega)
        go_wp2_with fail
        refine bodyPost_ret (results_tmp2 rfl _ _ _) rfl ?_
        unfold VGetO
        rw [E2.out, if_pos (.inl hlt)]
        exact ⟨none, rfl, Fr.empty _ _ _ _, kw.trans k3⟩
      · have hd : decide ((1 : Int) + 4 * (zs.length : Int) < (xs.length : Int)) = false := decide_eq_false (by omega)
        go_wp2_with fail
        refine (check_f A3 zs.length zs n w3 hf3.rd (by unfold Len; omega) (WalkArith.wf_i64 (by omega))).mono ?_
        rintro e w4 ⟨he, k4⟩
        cases hck : chk zs n with
        | true =>
          rw [hck] at he
          subst he
          go_wp2_with fail
          refine bodyPost_ret (results_tmp2 rfl _ _ _) rfl ?_
          unfold VGetO
          rw [E2.out, if_neg (by rw [hck]; simp; omega)]
          exact ⟨A3, rfl, Fr.mono (Fr.keep hf3 k4) kw.size, (kw.trans k3).trans k4⟩
        | false =>
          rw [hck] at he
          subst he
          go_wp2_with fail
          refine bodyPost_ret (results_tmp2 rfl _ _ _) rfl ?_
          unfold VGetO
          rw [E2.out, if_pos (.inr hck)]
          exact ⟨none, rfl, Fr.empty _ _ _ _, (kw.trans k3).trans k4⟩
  · by_cases h0 : -9223372036854775807 ≤ n
    · have e1 : within 7 [n - 1] = false := by unfold within; simp; omega
      have e2 : vgetV xs n = ([], 1) := by rw [vgetV, if_pos (by omega)]
      rw [e1] at hwi
      go_enter Tryd.func32, Tryd.ntmps32
      go_wp2_with fail
      refine (hwi w).mono ?_
      rintro e w1 ⟨rfl, m, rfl⟩
      go_wp2_with fail
      refine bodyPost_ret (results_tmp2 rfl _ _ _) rfl ?_
      unfold VGetO
      rw [e2]
      exact ⟨none, rfl, Fr.empty _ _ _ _, (Keep.alloc1 _ _).drewN m⟩
    · have e1 : within 7 [wrap64 (n - 1)] = false := within_wrap (WalkArith.wf_i64 (by omega)) (by omega)
      have e2 : vgetV xs n = ([], 1) := by rw [vgetV, if_pos (by omega)]
      have hwi := fun w => within_f 7 (some ⟨w.heap.size, 0, none⟩) 1 [wrap64 (n - 1)] (w.alloc (.cells #[.int .i64 (wrap64 (n - 1))] 3)) (Rd.lit w (cs .i64 [wrap64 (n - 1)]) 3) (by unfold Len; simp)
      rw [e1] at hwi
      go_enter Tryd.func32, Tryd.ntmps32
      go_wp2_with fail
      refine (hwi w).mono ?_
      rintro e w1 ⟨rfl, m, rfl⟩
      go_wp2_with fail
      refine bodyPost_ret (results_tmp2 rfl _ _ _) rfl ?_
      unfold VGetO
      rw [e2]
      exact ⟨none, rfl, Fr.empty _ _ _ _, (Keep.alloc1 _ _).drewN m⟩
theorem vget_f (A : Option Addr) (c : Nat) (xs : List Int) (n : Int) (w : World) (ha : Rd w A (cs .u8 xs)) (hb : Bytes xs) (hc : xs.length ≤ c) (lc : Len c) (hn : -9223372036854775808 ≤ n ∧ n ≤ 9223372036854775807) :
    Calls Tryd.prog 32 #[.slice A xs.length c, .int .i64 n] w (VGetP xs n w) := by
  refine (vget_own A c xs n w ha hb hc lc hn).mono ?_
  rintro e w' ⟨A', he, f, k⟩
  exact ⟨A', he, f.rd, k⟩
end Go.Proofs.YtafiahnaeakcfaaDoor
