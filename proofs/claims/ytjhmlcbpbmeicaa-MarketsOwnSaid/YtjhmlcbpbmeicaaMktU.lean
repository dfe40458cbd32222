/-
  PLAIN LAWS of markets (no program in sight): when a market may be, said number by number. Conditions: those that each theorem states.
-/
import Derived.Test.YtjhmlcbpbmeicaaMktS
namespace Go.Proofs.Ytjhmlcbpbmeicaa
open Go.RowKit

/-- Numbers that stand in an order of so many, each once. -/
def goodO (n : Nat) (l : List Int) : Bool := l.all (fun x => decide (0 ≤ x) && decide (x < (n : Int))) && decide l.Nodup
theorem few_of_nodup : ∀ {n : Nat} {l : List Int}, l.Nodup → (∀ x ∈ l, 0 ≤ x ∧ x < (n : Int)) → l.length ≤ n
  | 0, [], _, _ => Nat.le_refl _
  | 0, x :: l, _, h => by have := h x List.mem_cons_self; omega
  | n + 1, l, hd, h => by
    have := few_of_nodup (n := n) (l := l.erase (n : Int)) (hd.erase _) fun x hx => by
      rw [hd.mem_erase_iff] at hx
      have := h x hx.2
      have := hx.1
      omega
    rw [List.length_erase] at this
    split at this <;> omega
theorem ordB_perm {l : List Int} {m : Nat} (h : ordB l m = true) : l.Nodup := by
  unfold ordB at h
  simp only [Bool.and_eq_true, List.all_eq_true, decide_eq_true_eq] at h
  obtain ⟨h1, h2⟩ := h
  rw [List.nodup_iff_count]
  intro a
  by_cases ha : a ∈ l
  · have h3 := h1 a ha
    have := h2 a.toNat (by omega)
    rw [show ((a.toNat : Nat) : Int) = a by omega] at this
    omega
  · rw [List.count_eq_zero_of_not_mem ha]
    omega
theorem ordB_good (O : List Int) (n : Nat) : ordB O n = (decide (O.length = n) && goodO n O) := by
  cases h : ordB O n with
  | true =>
    have h1 := ordB_len h
    have h2 := ordB_perm h
    unfold ordB at h
    simp only [Bool.and_eq_true] at h
    unfold goodO
    rw [decide_eq_true h1, decide_eq_true h2, h.1]
    rfl
  | false =>
    symm
    rw [Bool.and_eq_false_iff]
    by_cases hl : O.length = n
    · right
      cases hg : goodO n O with
      | false => rfl
      | true =>
        exfalso
        unfold goodO at hg
        simp only [Bool.and_eq_true, decide_eq_true_eq] at hg
        obtain ⟨ha, hd⟩ := hg
        have hr : ∀ x ∈ O, 0 ≤ x ∧ x < (n : Int) := fun x hx => by
          rw [List.all_eq_true] at ha
          have := ha x hx
          simpa using this
        unfold ordB at h
        rw [ha, Bool.true_and] at h
        refine absurd (fun i hi => ?_) (of_decide_eq_false h)
        rw [hd.count]
        by_cases hm : (i : Int) ∈ O
        · rw [if_pos hm]
        · exfalso
          have := few_of_nodup (n := n) (l := (i : Int) :: O) (List.nodup_cons.2 ⟨hm, hd⟩) fun x hx => by
            rcases List.mem_cons.1 hx with rfl | hx
            · omega
            · exact hr x hx
          rw [List.length_cons] at this
          omega
    · exact .inl (decide_eq_false hl)

def may0 (R : List Int) (B : List (List Int)) (O : List Int) : Bool := chk R R.length && decide (1 ≤ B.length) && decide (B.length ≤ 8) && decide (O.length = B.length)
def mayB (R : List Int) (B : List (List Int)) (O : List Int) (k : Nat) : Bool := may0 R B O && (B.take k).all (fun b => decide (b.length = 0) || chk b R.length)
def mayO (R : List Int) (B : List (List Int)) (O : List Int) (i : Nat) : Bool := mayB R B O B.length && goodO B.length (O.take i)
theorem may0_cases (R : List Int) (B : List (List Int)) (O : List Int) :
    (chk R R.length = false ∧ may0 R B O = false) ∨ (chk R R.length = true ∧ B.length < 1 ∧ may0 R B O = false) ∨ (chk R R.length = true ∧ 1 ≤ B.length ∧ 8 < B.length ∧ may0 R B O = false) ∨
    (chk R R.length = true ∧ 1 ≤ B.length ∧ B.length ≤ 8 ∧ O.length ≠ B.length ∧ may0 R B O = false) ∨ (chk R R.length = true ∧ 1 ≤ B.length ∧ B.length ≤ 8 ∧ O.length = B.length ∧ may0 R B O = true) := by
  unfold may0
  cases h1 : chk R R.length with
  | false => exact .inl ⟨rfl, by simp⟩
  | true =>
    by_cases h2 : B.length < 1
    · exact .inr (.inl ⟨rfl, h2, by simp; omega⟩)
    · by_cases h3 : 8 < B.length
      · exact .inr (.inr (.inl ⟨rfl, by omega, h3, by simp; omega⟩))
      · have e2 : decide (1 ≤ B.length) = true := decide_eq_true (by omega)
        have e3 : decide (B.length ≤ 8) = true := decide_eq_true (by omega)
        rw [e2, e3]
        by_cases h4 : O.length = B.length
        · exact .inr (.inr (.inr (.inr ⟨rfl, by omega, by omega, h4, by simp [h4]⟩)))
        · exact .inr (.inr (.inr (.inl ⟨rfl, by omega, by omega, h4, by simp [h4]⟩)))
theorem mayB_zero (R : List Int) (B : List (List Int)) (O : List Int) : mayB R B O 0 = may0 R B O := by simp [mayB]
theorem mayB_snoc {R : List Int} {B : List (List Int)} {O : List Int} {k : Nat} {b : List Int} (h : B[k]? = some b) : mayB R B O (k + 1) = (mayB R B O k && (decide (b.length = 0) || chk b R.length)) := by
  unfold mayB
  rw [List.take_add_one, h, List.all_append, ← Bool.and_assoc]
  simp
theorem mayO_zero (R : List Int) (B : List (List Int)) (O : List Int) : mayO R B O 0 = mayB R B O B.length := by simp [mayO, goodO]
/-- With one number more, compared with the first j. -/
def mayX (R : List Int) (B : List (List Int)) (O : List Int) (i j : Nat) (x : Int) : Bool := mayO R B O i && decide (0 ≤ x) && decide (x < (B.length : Int)) && (O.take j).all (fun y => decide (x ≠ y))
theorem mayX_snoc {R : List Int} {B : List (List Int)} {O : List Int} {i j : Nat} {x y : Int} (h : O[j]? = some y) : mayX R B O i (j + 1) x = (mayX R B O i j x && decide (x ≠ y)) := by
  unfold mayX
  rw [List.take_add_one, h, List.all_append, ← Bool.and_assoc]
  simp
theorem mayX_all {R : List Int} {B : List (List Int)} {O : List Int} {i : Nat} {x : Int} (h : O[i]? = some x) : mayX R B O i i x = mayO R B O (i + 1) := by
  have e1 : O.take (i + 1) = O.take i ++ [x] := by rw [List.take_add_one, h]; rfl
  have e2 : decide ((O.take i ++ [x]).Nodup) = (decide ((O.take i).Nodup) && (O.take i).all (fun y => decide (x ≠ y))) := by
    rw [Bool.eq_iff_iff]
    simp only [decide_eq_true_eq, Bool.and_eq_true, List.all_eq_true, List.nodup_append, List.mem_singleton, List.nodup_cons]
    constructor
    · rintro ⟨h1, _, h3⟩
      exact ⟨h1, fun y hy e => h3 y hy x rfl e.symm⟩
    · rintro ⟨h1, h2⟩
      exact ⟨h1, ⟨by simp, List.nodup_nil⟩, fun y hy z hz e => h2 y hy (by rw [e, hz])⟩
  unfold mayX mayO goodO
  rw [e1, e2, List.all_append]
  simp only [List.all_cons, List.all_nil, Bool.and_true]
  ac_rfl
theorem mayO_all (R : List Int) (B : List (List Int)) (O : List Int) : mayO R B O O.length = chkM R B O := by
  have e : B.all (fun b => decide (b.length = 0) || chk b R.length) = !B.any (badB R.length) := by
    rw [List.not_any_eq_all_not]
    congr 1
    funext b
    unfold badB
    by_cases hb : b.length = 0
    · simp [hb]
    · simp [hb]
  unfold mayO mayB may0 chkM
  rw [List.take_length, List.take_length, e, ordB_good]
  ac_rfl
end Go.Proofs.Ytjhmlcbpbmeicaa
