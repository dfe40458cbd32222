/-
  CONTRACTS of the document's answer of chapter 4: Put, Get; and of vectors.Get in one word. Conditions: the slices are no longer than memory lets them be.
-/
import Derived.Test.YtafiahnaeakcfaaDoorRefC
import Derived.Test.YtafiahnaeakcfaaDoorRefD
import Derived.Test.YtafiahnaeakcfaaDoorVecC
import Derived.Test.YtafiahnaeakcfaaDoorNumP
namespace Go.Proofs.YtafiahnaeakcfaaDoor
open Go.RowKit

theorem vgetV_len {xs : List Int} (hb : Bytes xs) (n : Int) : (vgetV xs n).1.length ≤ 255 := by
  unfold vgetV
  split
  · exact Nat.zero_le _
  · split
    · exact Nat.zero_le _
    · rename_i zs h
      have := (getL_some hb h).1
      split
      · exact Nat.zero_le _
      · exact this
theorem vget_u (A : Option Addr) (c : Nat) (xs : List Int) (n : Int) (w : World) (ha : Rd w A (cs .u8 xs)) (hb : Bytes xs) (hc : xs.length ≤ c) (lc : Len c) (hn : -9223372036854775808 ≤ n ∧ n ≤ 9223372036854775807) {L : List Int} {r : Int} (h : vgetV xs n = (L, r)) :
    Calls Tryd.prog 32 #[.slice A xs.length c, .int .i64 n] w fun e w' => ∃ A', e = .returned (.tuple #[.slice A' L.length L.length, .int .i64 r]) ∧ Fr 3 w' w.heap.size A' L.length L.length (cs .i64 L) ∧ Keep w w' := by
  refine (vget_own A c xs n w ha hb hc lc hn).mono ?_
  intro e w' hq
  unfold VGetO at hq
  rw [h] at hq
  exact hq
set_option maxRecDepth 100000 in
theorem refPut04_f (B : Option Addr) (d : Nat) (ys : List Int) (w : World) (hb : Rd w B (cs .i64 ys)) (hd : ys.length ≤ d) (lb : Len d) :
    Calls Tryd.prog 34 #[.slice B ys.length d] w (RowsC (putL (ys.take 255)) w) := by
  have h : Calls Tryd.prog 15 #[.slice none 0 0, .slice B ys.length d] w (RowsC ([] ++ putL (ys.take 255)) w) := refPutList_f none 0 [] B d ys w (Rd.nil _ _) (by simp) hb hd lb
  rw [List.nil_append] at h
  go_enter Tryd.func34, Tryd.ntmps34
  go_wp2_with fail
  refine h.mono ?_
  rintro e w1 ⟨A, c, rfl, hf, hk⟩
  go_wp2_with fail
  go_ret
  exact ⟨A, c, rfl, hf, hk⟩

/-- What the document's Get leaves. -/
def Ref04P (L : List Int) (r : Int) (w : World) (e : Ending) (w' : World) : Prop :=
  ∃ (A' : Option Addr) (c' : Nat), e = .returned (.tuple #[.slice A' L.length c', .int .i64 r]) ∧ Rd w' A' (cs .i64 L) ∧ Keep w w'
set_option maxRecDepth 100000 in
set_option maxHeartbeats 1600000 in
theorem refGet04_f (A : Option Addr) (c : Nat) (xs : List Int) (n : Int) (w : World) (ha : Rd w A (cs .u8 xs)) (hb : Bytes xs) (hc : xs.length ≤ c) (lc : Len c) (hn : -9223372036854775808 ≤ n ∧ n ≤ 9223372036854775807) {L : List Int} {r : Int} (h : vgetV xs n = (L, r)) :
    Calls Tryd.prog 33 #[.slice A xs.length c, .int .i64 n] w (Ref04P L r w) := by
  have lc' := lc.le
  have hc' : (xs.length : Int) ≤ c := by omega
  unfold vgetV at h
  by_cases h1 : n < 1
  · rw [if_pos (.inl h1)] at h
    cases h
    have y1 : decide (n < 1) = true := decide_eq_true h1
    go_enter Tryd.func33, Tryd.ntmps33
    go_wp2_with fail
    refine bodyPost_ret (results_tmp2 rfl _ _ _) rfl ?_
    exact ⟨none, 0, rfl, Rd.nil _ _, Keep.refl _⟩
  have y1 : decide (n < 1) = false := decide_eq_false h1
  by_cases h8 : 8 < n
  · rw [if_pos (.inr h8)] at h
    cases h
    have y2 : decide (8 < n) = true := decide_eq_true h8
    go_enter Tryd.func33, Tryd.ntmps33
    go_wp2_with fail
    refine bodyPost_ret (results_tmp2 rfl _ _ _) rfl ?_
    exact ⟨none, 0, rfl, Rd.nil _ _, Keep.refl _⟩
  have y2 : decide (8 < n) = false := decide_eq_false h8
  rw [if_neg (by omega)] at h
  have hg := refGetList_f A c xs w ha hb hc lc
  unfold RefLP at hg
  cases hl : getL xs with
  | none =>
    rw [hl] at hg h
    cases h
    dsimp only at hg
    clear hl
    go_enter Tryd.func33, Tryd.ntmps33
    go_wp2_with fail
    refine hg.mono ?_
    rintro e w1 ⟨rfl, k1⟩
    go_wp2_with fail
    refine bodyPost_ret (results_tmp2 rfl _ _ _) rfl ?_
    exact ⟨none, 0, rfl, Rd.nil _ _, k1⟩
  | some zs =>
    rw [hl] at hg h
    dsimp only at hg h
    have hz := getL_some hb hl
    have hz1 := hz.1
    have hz2 := hz.2.1
    clear hz hl
    have HL := Lib.hid h
    clear h
    go_enter Tryd.func33, Tryd.ntmps33
    go_wp2_with fail
    refine hg.mono ?_
    rintro e w1 ⟨A1, c1, rfl, r1, k1⟩
    clear hg
    by_cases hlt : 1 + 4 * zs.length < xs.length
    · have y3 : (((1 + 4 * zs.length : Nat) : Int) != (xs.length : Int)) = true := by simp; omega
      have y4 : ((1 : Int) + 4 * (zs.length : Int) != (xs.length : Int)) = true := by simp; omega
      have HL2 := HL.out
      rw [if_pos (.inl hlt)] at HL2
      cases HL2
      clear HL
      go_wp2_with fail
      refine bodyPost_ret (results_tmp2 rfl _ _ _) rfl ?_
      exact ⟨none, 0, rfl, Rd.nil _ _, k1⟩
    · have y3 : (((1 + 4 * zs.length : Nat) : Int) != (xs.length : Int)) = false := by simp; omega
      have y4 : ((1 : Int) + 4 * (zs.length : Int) != (xs.length : Int)) = false := by simp; omega
      have hq := refCheck_f A1 c1 zs n w1 r1 (by unfold Len; omega)
      cases hck : chk zs n with
      | true =>
        have HL2 := HL.out
        rw [if_neg (by rw [hck]; simp; omega)] at HL2
        cases HL2
        clear HL
        rw [hck] at hq
        clear hck
        go_wp2_with fail
        refine hq.mono ?_
        rintro e w2 ⟨rfl, k2⟩
        go_wp2_with fail
        refine bodyPost_ret (results_tmp2 rfl _ _ _) rfl ?_
        exact ⟨A1, c1, rfl, r1.keep k2, k1.trans k2⟩
      | false =>
        have HL2 := HL.out
        rw [if_pos (.inr hck)] at HL2
        cases HL2
        clear HL
        rw [hck] at hq
        clear hck
        go_wp2_with fail
        refine hq.mono ?_
        rintro e w2 ⟨rfl, k2⟩
        go_wp2_with fail
        refine bodyPost_ret (results_tmp2 rfl _ _ _) rfl ?_
        exact ⟨none, 0, rfl, Rd.nil _ _, k1.trans k2⟩
end Go.Proofs.YtafiahnaeakcfaaDoor
