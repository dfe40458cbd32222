/-
  WORDS for the package markets: Put's bytes. Plain theorems. Conditions: those that each theorem states.
-/
import Derived.Test.YtjaaganaohjmaaaGreatDoorMktD
import Derived.Test.YtjaaganaohjmaaaGreatDoorDemF
namespace Go.Proofs.YtjaaganaohjmaaaGreatDoor
open Go.RowKit

/-- markets.Put's bytes. -/
def putM (R : List Int) (B : List (List Int)) (O : List Int) : List Int := putL (R.take 255) ++ le B.length 1 ++ (B.flatMap fun b => putL (b.take 255)) ++ putL (O.take 255)
/-- .. when k bids are put. -/
def putMk (R : List Int) (ss : List Sl) (k : Nat) : List Int := putL (R.take 255) ++ le ss.length 1 ++ ((bidsOf (ss.take k)).flatMap fun b => putL (b.take 255))
theorem putMk_succ {R : List Int} {ss : List Sl} {k : Nat} {s : Sl} (h : ss[k]? = some s) : putMk R ss k ++ putL (s.l.take 255) = putMk R ss (k + 1) := by
  unfold putMk bidsOf
  have e : ss.take (k + 1) = ss.take k ++ [s] := by rw [List.take_add_one, h]; rfl
  rw [e, List.map_append, List.flatMap_append, ← List.append_assoc]
  simp
theorem putMk_all (R : List Int) (ss : List Sl) (O : List Int) : putMk R ss ss.length ++ putL (O.take 255) = putM R (bidsOf ss) O := by
  unfold putMk putM
  rw [List.take_length, length_bids]
theorem length_flatB (ss : List Sl) : ((bidsOf ss).flatMap fun b => putL (b.take 255)).length ≤ 1021 * ss.length := by
  induction ss with
  | nil => simp [bidsOf]
  | cons s ss ih =>
    have : bidsOf (s :: ss) = s.l :: bidsOf ss := rfl
    rw [this, List.flatMap_cons, List.length_append, length_putL, List.length_take, List.length_cons]
    omega
theorem length_putMk (R : List Int) (ss : List Sl) (k : Nat) : (putMk R ss k).length ≤ 1022 + 1021 * k := by
  have h := length_flatB (ss.take k)
  rw [List.length_take] at h
  have h2 : 1021 * min k ss.length ≤ 1021 * k := Nat.mul_le_mul_left _ (Nat.min_le_left _ _)
  unfold putMk
  rw [List.length_append, List.length_append, length_putL, List.length_take, length_le]
  omega
theorem chkM_facts {R : List Int} {B : List (List Int)} {O : List Int} (h : chkM R B O = true) : 1 ≤ R.length ∧ R.length ≤ 8 ∧ 1 ≤ B.length ∧ B.length ≤ 8 := by
  unfold chkM at h
  simp only [Bool.and_eq_true, decide_eq_true_eq] at h
  obtain ⟨⟨⟨⟨h1, h2⟩, h3⟩, _⟩, _⟩ := h
  unfold chk at h1
  simp only [Bool.and_eq_true, decide_eq_true_eq] at h1
  omega

theorem u64_wrap8 {n : Nat} (h : n ≤ 8) : IntKind.u64.wrap (n : Int) = n := by
  simp [IntKind.wrap, IntKind.signed, IntKind.bits]
  omega
/-- What is known of the bids of a market that may be. -/
theorem chkM_bids {R : List Int} {B : List (List Int)} {O : List Int} (h : chkM R B O = true) : (∀ x ∈ R, 0 ≤ x ∧ x ≤ 1000000) ∧ ∀ b ∈ B, b.length = 0 ∨ (b.length = R.length ∧ ∀ x ∈ b, 0 ≤ x ∧ x ≤ 1000000) := by
  unfold chkM at h
  simp only [Bool.and_eq_true] at h
  obtain ⟨⟨⟨⟨h1, _⟩, _⟩, _⟩, h5⟩ := h
  refine ⟨(chk_facts h1).2, fun b hb => ?_⟩
  rw [Bool.not_eq_true', List.any_eq_false] at h5
  have := h5 b hb
  unfold badB at this
  by_cases h0 : b.length = 0
  · exact .inl h0
  · right
    have hc : chk b R.length = true := by
      cases hc : chk b R.length with
      | true => rfl
      | false => exact absurd (by simp [hc]; omega) this
    exact chk_facts hc
end Go.Proofs.YtjaaganaohjmaaaGreatDoor
