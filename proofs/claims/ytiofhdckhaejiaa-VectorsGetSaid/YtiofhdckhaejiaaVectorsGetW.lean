/-
  THE WALK OF THE LAW VectorsGet: it answers true, and turns nothing that was there. Conditions: the arguments are a slice of bytes that came in and an int.
-/
import Derived.Test.YtiofhdckhaejiaaVecD
import Derived.Test.YtiofhdckhaejiaaNumP
namespace Go.Proofs.Ytiofhdckhaejiaa
open Go.RowKit

/-- What the law asks of Get's answer. -/
theorem vgetV_cases {xs : List Int} {n : Int} (hb : Bytes xs) : (∃ r, vgetV xs n = ([], r) ∧ r ≠ 0 ∧ ((r = 1 ∧ (n < 1 ∨ 8 < n)) ∨ (r ≠ 1 ∧ 1 ≤ n ∧ n ≤ 8))) ∨ (∃ zs, vgetV xs n = (zs, 0) ∧ chk zs n = true ∧ putL zs = xs ∧ zs.length ≤ 255) := by
  unfold vgetV
  by_cases h1 : n < 1 ∨ 8 < n
  · exact .inl ⟨1, by rw [if_pos h1], by decide, .inl ⟨rfl, h1⟩⟩
  · rw [if_neg h1]
    cases hl : getL xs with
    | none => exact .inl ⟨5, rfl, by decide, .inr ⟨by decide, by omega, by omega⟩⟩
    | some zs =>
      dsimp only
      obtain ⟨g1, g2, g3⟩ := getL_some hb hl
      by_cases h2 : 1 + 4 * zs.length < xs.length ∨ chk zs n = false
      · exact .inl ⟨4, by rw [if_pos h2], by decide, .inr ⟨by decide, by omega, by omega⟩⟩
      · refine .inr ⟨zs, by rw [if_neg h2], by simpa using fun h => h2 (.inr h), ?_, g1⟩
        rw [g3, List.take_of_length_le (by omega)]

set_option maxRecDepth 100000 in
set_option maxHeartbeats 2000000 in
theorem vectorsGet_w (A : Option Addr) (c : Nat) (xs : List Int) (n : Int) (w : World) (hx : In .u8 w A c xs) (hn : -9223372036854775808 ≤ n ∧ n ≤ 9223372036854775807) :
    Calls Try.prog 15 #[.slice A xs.length c, .int .i64 n] w fun e w' => e = .returned (.bool true) ∧ Below w.heap.size w w' := by
  have lx := hx.len
  have lcap : Len c := by have := hx.capI; unfold Len; omega
  by_cases hbig : (3000 : Int) < xs.length
  · go_enter Try.func15, Try.ntmps15
    go_wp2_with fail
    refine (alive04_f w).mono ?_
    rintro e w1 ⟨rfl, k1⟩
    go_wp2_with fail
    refine (alive04_f w1).mono ?_
    rintro e w2 ⟨rfl, k2⟩
    go_wp2_with fail
    go_ret
    exact ⟨rfl, k1.trans k2⟩
  · have hb := hx.bytes
    have hg := fun w1 (k1 : Keep w w1) => vget_f A c xs n w1 (hx.rd.keep k1) hb hx.cap lcap hn
    unfold VGetP at hg
    rcases vgetV_cases (n := n) hb with ⟨r, hv, hr0, hr⟩ | ⟨zs, hv, hck, hp, hz⟩
    · rw [hv] at hg
      clear hv
      rcases hr with ⟨rfl, hr⟩ | ⟨hr1, hr, hr8⟩
      · rcases hr with hr | hr
        all_goals
          clear hr0
          go_enter Try.func15, Try.ntmps15
          go_wp2_with fail
          refine (alive04_f w).mono ?_
          rintro e w1 ⟨rfl, k1⟩
          go_wp2_with fail
          refine (hg w1 k1).mono ?_
          rintro e w2 ⟨A2, rfl, hr2, k2⟩
          go_wp2_with fail
          go_ret
          exact ⟨rfl, k1.trans k2⟩
      · have hra : (r != 0) = true := bne_iff_ne.2 hr0
        have hrb : (r == 1) = false := beq_eq_false_iff_ne.2 hr1
        have hna : decide (n < 1) = false := decide_eq_false (by omega)
        have hnb : decide (8 < n) = false := decide_eq_false (by omega)
        clear hr0 hr1
        go_enter Try.func15, Try.ntmps15
        go_wp2_with fail
        refine (alive04_f w).mono ?_
        rintro e w1 ⟨rfl, k1⟩
        go_wp2_with fail
        refine (hg w1 k1).mono ?_
        rintro e w2 ⟨A2, rfl, hr2, k2⟩
        go_wp2_with fail
        go_ret
        exact ⟨rfl, k1.trans k2⟩
    · rw [hv] at hg
      clear hv
      have HC := Lib.hid hck
      have HP := Lib.hid hp
      have hzt : zs.take 255 = zs := List.take_of_length_le hz
      have HT := Lib.hid hzt
      clear hck hp hzt
      go_enter Try.func15, Try.ntmps15
      go_wp2_with fail
      refine (alive04_f w).mono ?_
      rintro e w1 ⟨rfl, k1⟩
      go_wp2_with fail
      refine (hg w1 k1).mono ?_
      rintro e w2 ⟨A2, rfl, hr2, k2⟩
      go_wp2_with fail
      refine (check_f A2 _ zs n w2 hr2 (by unfold Len; omega) (WalkArith.wf_i64 (by omega))).mono ?_
      rintro e w3 ⟨he, k3⟩
      rw [HC.out] at he
      subst he
      have r3 := hr2.keep k3
      have hvp := vput_f A2 zs.length zs w3 r3 (Nat.le_refl _) (by unfold Len; omega)
      rw [HT.out, HP.out] at hvp
      go_wp2_with fail
      refine hvp.mono ?_
      rintro e w4 ⟨A4, rfl, hf4, k4⟩
      have kk := ((k1.trans k2).trans k3).trans k4
      go_wp2_with fail
      refine (saysK (sameBytes A4 A _ c xs xs w4 hf4.rd (hx.rd.keep kk) (by unfold Reach; omega) (by unfold Reach; omega))).mono ?_
      rintro e w5 ⟨he, k5⟩
      rw [decide_eq_true rfl] at he
      subst he
      have hpl : Calls Try.prog 34 #[.slice none 0 0, .slice A2 zs.length zs.length] w5 (Rows ([] ++ putL (zs.take 255)) w5) := putList_f none 0 [] A2 zs.length zs w5 (Rd.nil _ _) (by simp) (fun _ => rfl) ((r3.keep k4).keep k5) (Nat.le_refl _) (by unfold Len; omega)
      rw [List.nil_append, HT.out, HP.out] at hpl
      go_wp2_with fail
      refine hpl.mono ?_
      rintro e w6 ⟨A6, rfl, hf6, k6⟩
      go_wp2_with fail
      refine (saysK (sameBytes A6 A _ c xs xs w6 hf6.rd (hx.rd.keep ((kk.trans k5).trans k6)) (by unfold Reach; omega) (by unfold Reach; omega))).mono ?_
      rintro e w7 ⟨he, k7⟩
      rw [decide_eq_true rfl] at he
      subst he
      go_wp2_with fail
      go_ret
      exact ⟨rfl, ((kk.trans k5).trans k6).trans k7⟩
end Go.Proofs.Ytiofhdckhaejiaa
