/-
  PLAIN LAWS of markets (no program in sight): the bytes of a market that may be. Conditions: those that each theorem states.
-/
import Derived.Test.YtjhmlcbpbmeicaaMktP
namespace Go.Proofs.Ytjhmlcbpbmeicaa
open Go.RowKit

theorem chkM_lens {R : List Int} {B : List (List Int)} {O : List Int} (h : chkM R B O = true) : 1 ≤ R.length ∧ R.length ≤ 8 ∧ 1 ≤ B.length ∧ B.length ≤ 8 ∧ (∀ b ∈ B, b.length ≤ 8) ∧ O.length = B.length := by
  obtain ⟨m1, m2, m3, m4⟩ := chkM_facts h
  obtain ⟨_, pb⟩ := chkM_bids h
  have ho : ordB O B.length = true := by
    unfold chkM at h
    simp only [Bool.and_eq_true] at h
    exact h.1.2
  refine ⟨m1, m2, m3, m4, fun b hb => ?_, ordB_len ho⟩
  rcases pb b hb with h0 | h0 <;> omega
/-- The bytes of a market. -/
def bytesM (R : List Int) (B : List (List Int)) (O : List Int) : List Int := putL R ++ (le B.length 1 ++ (B.flatMap putL ++ putL O))
theorem putM_few {R : List Int} {B : List (List Int)} {O : List Int} (h : chkM R B O = true) : putM R B O = bytesM R B O := by
  obtain ⟨_, h1, _, h2, h3, h4⟩ := chkM_lens h
  unfold putM bytesM
  rw [List.take_of_length_le (by omega), List.take_of_length_le (by omega), List.flatMap_def, List.flatMap_def, List.map_congr_left (g := putL) (fun b hb => by rw [List.take_of_length_le (by have := h3 b hb; omega)])]
  simp only [List.append_assoc]
/-- The bytes of the bids. -/
def sumB : List (List Int) → Nat
  | [] => 0
  | b :: B => 1 + 4 * b.length + sumB B
theorem sumB_append (A B : List (List Int)) : sumB (A ++ B) = sumB A + sumB B := by
  induction A with
  | nil => simp [sumB]
  | cons a A ih => simp [sumB, ih]; omega
theorem sumB_snoc {B : List (List Int)} {k : Nat} {b : List Int} (h : B[k]? = some b) : sumB (B.take (k + 1)) = sumB (B.take k) + (1 + 4 * b.length) := by
  rw [List.take_add_one, h, sumB_append]
  simp [sumB]
theorem sumB_le {B : List (List Int)} (h : ∀ b ∈ B, b.length ≤ 8) : sumB B ≤ 33 * B.length := by
  induction B with
  | nil => simp [sumB]
  | cons b B ih =>
    have h1 := h b List.mem_cons_self
    have h2 := ih (fun x hx => h x (List.mem_cons_of_mem _ hx))
    simp only [sumB, List.length_cons]
    omega
theorem length_flatL (B : List (List Int)) : (B.flatMap putL).length = sumB B := by
  induction B with
  | nil => rfl
  | cons b B ih => rw [List.flatMap_cons, List.length_append, length_putL, ih]; rfl
theorem length_putM {R : List Int} {B : List (List Int)} {O : List Int} (h : chkM R B O = true) : (putM R B O).length = 3 + 4 * R.length + 4 * O.length + sumB B := by
  rw [putM_few h]
  unfold bytesM
  simp only [List.length_append, length_putL, length_le, length_flatL]
  omega
theorem putM_max {R : List Int} {B : List (List Int)} {O : List Int} (h : chkM R B O = true) : (putM R B O).length ≤ 400 := by
  obtain ⟨_, h1, _, h2, h3, h4⟩ := chkM_lens h
  have := sumB_le h3
  rw [length_putM h]
  omega
end Go.Proofs.Ytjhmlcbpbmeicaa
