/-
  PLAIN LAWS on the answer of 'Of' (no program in sight): the gain is the largest difference, not below 0; the items are just those that reach it, in order.
-/
import Derived.Test.YtjaaganaohjmaaaGreatDoorDemF
namespace Go.Proofs.YtjaaganaohjmaaaGreatDoor

def dif (xs ys : List Int) (k : Nat) : Int := xs.getD k 0 - ys.getD k 0
def pick (xs ys : List Int) (k : Nat) (g : Int) : List Int := ((List.range k).filter fun j => dif xs ys j == g).map (fun j : Nat => (j : Int))

theorem best_spec (xs ys : List Int) : ∀ k, 0 ≤ (best (gs xs ys k)).2 ∧ (∀ j, j < k → dif xs ys j ≤ (best (gs xs ys k)).2) ∧ (best (gs xs ys k)).1 = pick xs ys k (best (gs xs ys k)).2 ∧ (0 < (best (gs xs ys k)).2 → ∃ j, j < k ∧ dif xs ys j = (best (gs xs ys k)).2)
  | 0 => ⟨Int.le_refl _, fun j h => absurd h (Nat.not_lt_zero _), rfl, fun h => absurd h (Int.lt_irrefl _)⟩
  | k + 1 => by
    obtain ⟨h1, h2, h3, h4⟩ := best_spec xs ys k
    have hs : best (gs xs ys (k + 1)) = stepG (best (gs xs ys k)) (k, dif xs ys k) := by rw [gs_succ, best_snoc]; rfl
    have hp : ∀ g, pick xs ys (k + 1) g = pick xs ys k g ++ (if dif xs ys k == g then [(k : Int)] else []) := fun g => by
      unfold pick
      rw [List.range_succ, List.filter_append, List.map_append]
      congr 1
      by_cases h : dif xs ys k = g <;> simp [h]
    rw [hs]
    unfold stepG
    by_cases hgt : (best (gs xs ys k)).2 < dif xs ys k
    · rw [if_pos hgt]
      refine ⟨by simp only; omega, fun j hj => ?_, ?_, fun _ => ⟨k, by omega, rfl⟩⟩
      · by_cases e : j = k
        · subst e; exact Int.le_refl _
        · have := h2 j (by omega); simp only; omega
      · rw [hp]
        have h0 : pick xs ys k (dif xs ys k) = [] := by
          unfold pick
          rw [List.map_eq_nil_iff, List.filter_eq_nil_iff]
          intro j hj
          rw [List.mem_range] at hj
          have := h2 j hj
          simp only [beq_iff_eq]
          omega
        simp [h0]
    · rw [if_neg hgt]
      by_cases heq : dif xs ys k = (best (gs xs ys k)).2
      · rw [if_pos heq]
        refine ⟨h1, fun j hj => ?_, ?_, fun _ => ⟨k, by omega, heq⟩⟩
        · by_cases e : j = k
          · subst e; simp only; omega
          · exact h2 j (by omega)
        · rw [hp, ← h3]
          simp [heq]
      · rw [if_neg heq]
        refine ⟨h1, fun j hj => ?_, ?_, fun h => ?_⟩
        · by_cases e : j = k
          · subst e; omega
          · exact h2 j (by omega)
        · rw [hp, ← h3]
          simp [heq]
        · obtain ⟨j, hj, e⟩ := h4 h
          exact ⟨j, by omega, e⟩

/-- What the laws ask of an answer that was given. -/
structure Best (xs ys L : List Int) (g : Int) : Prop where
  g0 : 0 ≤ g
  most : ∀ (k : Nat) (x y : Int), xs[k]? = some x → ys[k]? = some y → x - y ≤ g
  mem : ∀ (k : Nat) (x y : Int), xs[k]? = some x → ys[k]? = some y → L.any (· == (k : Int)) = decide (x - y = g)
  ge : ∀ (j : Nat) (v : Int), L[j]? = some v → 0 ≤ v ∧ v < xs.length
  up : ∀ (j : Nat) (u v : Int), L[j]? = some u → L[j + 1]? = some v → u < v
  some_ : 0 < g → L ≠ []
  short : L.length ≤ xs.length

theorem dif_at {xs ys : List Int} {k : Nat} {x y : Int} (hx : xs[k]? = some x) (hy : ys[k]? = some y) : dif xs ys k = x - y := by
  unfold dif
  rw [List.getD_eq_getElem?_getD, hx, List.getD_eq_getElem?_getD, hy]
  rfl
theorem best_of (xs ys : List Int) : Best xs ys (best (gs xs ys xs.length)).1 (best (gs xs ys xs.length)).2 := by
  obtain ⟨h1, h2, h3, h4⟩ := best_spec xs ys xs.length
  have hpw : (pick xs ys xs.length (best (gs xs ys xs.length)).2).Pairwise (· < ·) := by
    unfold pick
    rw [List.pairwise_map]
    exact (List.Pairwise.filter _ List.pairwise_lt_range).imp fun h => by omega
  refine ⟨h1, ?_, ?_, ?_, ?_, ?_, ?_⟩
  · intro k x y hx hy
    rw [← dif_at hx hy]
    exact h2 k (List.getElem?_eq_some_iff.1 hx).1
  · intro k x y hx hy
    rw [← dif_at hx hy, h3, Bool.eq_iff_iff, List.any_eq_true, decide_eq_true_eq]
    have hk := (List.getElem?_eq_some_iff.1 hx).1
    constructor
    · rintro ⟨v, hv, e⟩
      unfold pick at hv
      simp only [List.mem_map, List.mem_filter, List.mem_range, beq_iff_eq] at hv e
      obtain ⟨j, ⟨hj, hd⟩, rfl⟩ := hv
      obtain rfl : j = k := by omega
      exact hd
    · intro e
      refine ⟨k, ?_, by simp⟩
      unfold pick
      simp only [List.mem_map, List.mem_filter, List.mem_range, beq_iff_eq]
      exact ⟨k, ⟨hk, e⟩, rfl⟩
  · intro j v hv
    have hm := List.mem_of_getElem? hv
    rw [h3] at hm
    unfold pick at hm
    simp only [List.mem_map, List.mem_filter, List.mem_range] at hm
    obtain ⟨i, ⟨hi, _⟩, rfl⟩ := hm
    omega
  · intro j u v hu hv
    rw [← h3] at hpw
    obtain ⟨lu, rfl⟩ := List.getElem?_eq_some_iff.1 hu
    obtain ⟨lv, rfl⟩ := List.getElem?_eq_some_iff.1 hv
    exact List.pairwise_iff_getElem.1 hpw j (j + 1) lu lv (by omega)
  · intro hg he
    obtain ⟨j, hj, e⟩ := h4 hg
    rw [h3] at he
    have : (j : Int) ∈ pick xs ys xs.length (best (gs xs ys xs.length)).2 := by
      unfold pick
      simp only [List.mem_map, List.mem_filter, List.mem_range, beq_iff_eq]
      exact ⟨j, ⟨hj, e⟩, rfl⟩
    rw [he] at this
    cases this
  · have h := length_best (gs xs ys xs.length)
    rwa [length_gs] at h

/-- An answer that was given. -/
structure Given (xs ys L : List Int) (n : Bool) (g : Int) : Prop where
  best : Best xs ys L g
  none_ : n = decide (g = 0)
  len : xs.length = 0 ∨ xs.length = ys.length
  items : 1 ≤ ys.length ∧ ys.length ≤ 8
  prices : ∀ y ∈ ys, 0 ≤ y ∧ y ≤ 2000000
  bid : ∀ x ∈ xs, 0 ≤ x ∧ x ≤ 1000000

theorem ofV_cases {xs ys L : List Int} {n : Bool} {g r : Int} (h : ofV xs ys = (L, n, g, r)) : (r = 1 ∧ L = [] ∧ n = false ∧ g = 0 ∧ ofOk xs ys = false) ∨ (r = 0 ∧ ofOk xs ys = true ∧ Given xs ys L n g) := by
  unfold ofV at h
  by_cases hk : ofOk xs ys = true
  · rw [if_pos hk] at h
    injection h with e1 h
    injection h with e2 h
    injection h with e3 e4
    refine .inr ⟨e4.symm, hk, ?_⟩
    have hb := best_of xs ys
    rw [e1, e3] at hb
    unfold ofOk at hk
    rw [Bool.and_eq_true, Bool.or_eq_true, decide_eq_true_eq] at hk
    obtain ⟨m1, m8, m3⟩ := mayP_facts hk.1
    refine ⟨hb, by rw [← e2, e3, Bool.eq_iff_iff]; simp, ?_, ⟨m1, m8⟩, m3, ?_⟩
    · rcases hk.2 with h0 | hc
      · exact .inl h0
      · exact .inr (chk_facts hc).1
    · rcases hk.2 with h0 | hc
      · intro x hx
        rw [List.eq_nil_of_length_eq_zero h0] at hx
        cases hx
      · exact (chk_facts hc).2
  · have hk' : ofOk xs ys = false := by simpa using hk
    rw [if_neg hk] at h
    injection h with e1 h
    injection h with e2 h
    injection h with e3 e4
    exact .inl ⟨e4.symm, e1.symm, e2.symm, e3.symm, hk'⟩
end Go.Proofs.YtjaaganaohjmaaaGreatDoor
