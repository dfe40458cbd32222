/-
  PLAIN LAWS on the answer of 'Of' where one price is another (no program in sight): a higher price of an item, a lower one.
-/
import Derived.Test.YtjhmlcbpbmeicaaDemP
namespace Go.Proofs.Ytjhmlcbpbmeicaa

/-- What is known of an answer that was given. -/
structure Gain (xs ys L : List Int) (n : Bool) (g : Int) : Prop where
  g0 : 0 ≤ g
  le : ∀ j, j < xs.length → dif xs ys j ≤ g
  list : L = pick xs ys xs.length g
  ex : 0 < g → ∃ j, j < xs.length ∧ dif xs ys j = g
  none_ : n = decide (g = 0)
theorem ofV_gain {xs ys L : List Int} {n : Bool} {g : Int} (h : ofV xs ys = (L, n, g, 0)) : ofOk xs ys = true ∧ Gain xs ys L n g := by
  unfold ofV at h
  by_cases hk : ofOk xs ys = true
  · rw [if_pos hk] at h
    injection h with e1 h
    injection h with e2 h
    injection h with e3 e4
    obtain ⟨h1, h2, h3, h4⟩ := best_spec xs ys xs.length
    rw [e1, e3] at h3
    rw [e3] at h1 h2 h4 e2
    exact ⟨hk, ⟨h1, h2, h3, h4, by rw [← e2, Bool.eq_iff_iff]; simp⟩⟩
  · rw [if_neg hk] at h
    injection h with e1 h
    injection h with e2 h
    injection h with e3 e4
    cases e4
theorem ofV_no {xs ys L : List Int} {n : Bool} {g r : Int} (h : ofV xs ys = (L, n, g, r)) : (r = 0 ∧ ofOk xs ys = true) ∨ (r = 1 ∧ ofOk xs ys = false) := by
  rcases ofV_cases h with ⟨a, _, _, _, b⟩ | ⟨a, b, _⟩
  · exact .inr ⟨a, b⟩
  · exact .inl ⟨a, b⟩

theorem dif_set (xs ys : List Int) {k : Nat} (hk : k < ys.length) (v : Int) (j : Nat) : dif xs (ys.set k v) j = if j = k then xs.getD k 0 - v else dif xs ys j := by
  unfold dif
  rw [List.getD_eq_getElem?_getD (l := ys.set k v), List.getElem?_set]
  by_cases e : k = j
  · subst e
    rw [if_pos rfl, if_pos hk, if_pos rfl]
    rfl
  · rw [if_neg e, if_neg (fun h => e h.symm), List.getD_eq_getElem?_getD (l := ys)]
theorem mem_pick {xs ys : List Int} {n : Nat} {g v : Int} : v ∈ pick xs ys n g ↔ ∃ j, j < n ∧ dif xs ys j = g ∧ v = (j : Int) := by
  unfold pick
  simp only [List.mem_map, List.mem_filter, List.mem_range, beq_iff_eq]
  constructor
  · rintro ⟨j, ⟨h1, h2⟩, rfl⟩
    exact ⟨j, h1, h2, rfl⟩
  · rintro ⟨j, h1, h2, rfl⟩
    exact ⟨j, ⟨h1, h2⟩, rfl⟩
theorem gain_eq {xs ys L L' : List Int} {n n' : Bool} {g g' : Int} (h : Gain xs ys L n g) (h0 : 0 ≤ g') (h1 : ∀ j, j < xs.length → dif xs ys j ≤ g') (h2 : 0 < g' → ∃ j, j < xs.length ∧ dif xs ys j = g') (hL : L' = pick xs ys xs.length g') (hn : n' = decide (g' = 0)) : g = g' ∧ L = L' ∧ n = n' := by
  have e : g = g' := by
    have a := h.g0
    by_cases hlt : g < g'
    · obtain ⟨j, hj, e⟩ := h2 (by omega)
      have := h.le j hj
      omega
    · by_cases hgt : g' < g
      · obtain ⟨j, hj, e⟩ := h.ex (by omega)
        have := h1 j hj
        omega
      · omega
  subst e
  exact ⟨rfl, by rw [hL, h.list], by rw [hn, h.none_]⟩

/-- What is wanted where an item costs more. -/
def others (L : List Int) (k : Nat) : List Int := L.filter (· != (k : Int))
theorem pick_raised {xs ys : List Int} {k : Nat} {d g : Int} (hk : k < ys.length) (hd : 0 < d) (hle : ∀ j, j < xs.length → dif xs ys j ≤ g) : pick xs (ys.set k (ys.getD k 0 + d)) xs.length g = others (pick xs ys xs.length g) k := by
  unfold pick others
  rw [List.filter_map, List.filter_filter]
  congr 1
  refine List.filter_congr fun j hj => ?_
  rw [List.mem_range] at hj
  have h1 := hle j hj
  rw [dif_set xs ys hk, Bool.eq_iff_iff]
  simp only [Function.comp_apply, beq_iff_eq, Bool.and_eq_true, bne_iff_ne, ne_eq]
  by_cases e : j = k
  · subst e
    rw [if_pos rfl]
    unfold dif at h1
    constructor
    · intro h
      omega
    · rintro ⟨h, _⟩
      exact absurd rfl h
  · rw [if_neg e]
    constructor
    · intro h
      exact ⟨by omega, h⟩
    · rintro ⟨_, h⟩
      exact h
theorem raised {xs ys L L2 : List Int} {n n2 : Bool} {g g2 d : Int} {k : Nat} (hk : k < ys.length) (hd : 0 < d) (h : Gain xs ys L n g) (h2 : Gain xs (ys.set k (ys.getD k 0 + d)) L2 n2 g2) :
    (others L k = [] ∧ L ≠ [] ∧ g2 ≤ g ∧ 0 ≤ g2 ∧ (0 < g ∨ g2 = 0 ∧ n2 = true)) ∨ (¬ (others L k = [] ∧ L ≠ []) ∧ L2 = others L k ∧ g2 = g ∧ n2 = n) := by
  have hup : ∀ j, j < xs.length → dif xs (ys.set k (ys.getD k 0 + d)) j ≤ dif xs ys j := fun j _ => by
    rw [dif_set xs ys hk]
    by_cases e : j = k
    · subst e
      rw [if_pos rfl]
      unfold dif
      omega
    · rw [if_neg e]
      exact Int.le_refl _
  by_cases hw : others L k = [] ∧ L ≠ []
  · refine .inl ⟨hw.1, hw.2, ?_, h2.g0, ?_⟩
    · by_cases hp : 0 < g2
      · obtain ⟨j, hj, e⟩ := h2.ex hp
        have := hup j hj
        have := h.le j hj
        omega
      · have := h.g0
        omega
    · by_cases hg : 0 < g
      · exact .inl hg
      · have hg0 := h.g0
        have : g2 = 0 := by
          have := h2.g0
          by_cases hp : 0 < g2
          · obtain ⟨j, hj, e⟩ := h2.ex hp
            have := hup j hj
            have := h.le j hj
            omega
          · omega
        exact .inr ⟨this, by rw [h2.none_, this]; rfl⟩
  · refine .inr ⟨hw, ?_⟩
    have hex : 0 < g → ∃ j, j < xs.length ∧ dif xs (ys.set k (ys.getD k 0 + d)) j = g := fun hg => by
      obtain ⟨j, hj, e⟩ := h.ex hg
      have hm : (j : Int) ∈ L := by rw [h.list]; exact mem_pick.2 ⟨j, hj, e, rfl⟩
      have hne : others L k ≠ [] := fun e0 => hw ⟨e0, fun e1 => by rw [e1] at hm; cases hm⟩
      obtain ⟨v, hv⟩ := List.exists_mem_of_ne_nil _ hne
      unfold others at hv
      rw [List.mem_filter, h.list] at hv
      obtain ⟨hv1, hv2⟩ := hv
      obtain ⟨i, hi, ei, rfl⟩ := mem_pick.1 hv1
      refine ⟨i, hi, ?_⟩
      rw [dif_set xs ys hk, if_neg (fun e2 => by subst e2; simp at hv2)]
      exact ei
    have hl : others L k = pick xs (ys.set k (ys.getD k 0 + d)) xs.length g := by rw [pick_raised hk hd h.le, ← h.list]
    obtain ⟨a, b, c⟩ := gain_eq h2 h.g0 (fun j hj => Int.le_trans (hup j hj) (h.le j hj)) hex hl h.none_
    exact ⟨b, a, c⟩
/-- The prices are refused only if that one is too great. -/
theorem raised_no {xs ys : List Int} {d : Int} {k : Nat} (hk : k < ys.length) (hd : 0 < d) (h : ofOk xs ys = true) (h2 : ofOk xs (ys.set k (ys.getD k 0 + d)) = false) : 2000000 < ys.getD k 0 + d := by
  unfold ofOk at h h2
  rw [List.length_set] at h2
  rw [Bool.and_eq_true] at h
  rw [h.2, Bool.and_true] at h2
  have hm := h.1
  unfold mayP at hm h2
  simp only [Bool.and_eq_true, decide_eq_true_eq] at hm
  rw [List.length_set] at h2
  obtain ⟨⟨⟨m1, m8⟩, _⟩, hw⟩ := hm
  simp only [m1, m8, decide_true, Bool.true_and] at h2
  have hall := within_all hw
  unfold within at h2
  rw [List.all_eq_false] at h2
  obtain ⟨x, hx, hn⟩ := h2
  rcases List.mem_or_eq_of_mem_set hx with hx | rfl
  · have := hall x hx
    exact absurd (by simp; omega) hn
  · have := hall (ys.getD k 0) (by rw [List.getD_eq_getElem?_getD, List.getElem?_eq_getElem hk]; exact List.getElem_mem hk)
    have hn2 : ¬ (0 ≤ ys.getD k 0 + d ∧ ys.getD k 0 + d ≤ 2000000) := fun hh => hn (by simp only [hh.1, hh.2, decide_true, Bool.and_true])
    omega

theorem filter_one (k : Nat) : ∀ n, k < n → (List.range n).filter (fun j => j == k) = [k]
  | 0, h => absurd h (Nat.not_lt_zero _)
  | n + 1, h => by
    rw [List.range_succ, List.filter_append]
    by_cases e : n = k
    · subst e
      have : (List.range n).filter (fun j => j == n) = [] := by
        rw [List.filter_eq_nil_iff]
        intro j hj
        rw [List.mem_range] at hj
        simp
        omega
      rw [this]
      simp
    · rw [filter_one k n (by omega)]
      simp [e]
/-- An item's price is lower that was told. -/
theorem lower {xs ys L L2 : List Int} {n n2 : Bool} {g g2 b : Int} {k : Nat} (hk : k < ys.length) (hb : 0 < b) (hkL : (k : Int) ∈ L) (h : Gain xs ys L n g) (h2 : Gain xs (ys.set k (ys.getD k 0 - b)) L2 n2 g2) :
    L2 = [(k : Int)] ∧ g2 = g + b ∧ n2 = false := by
  rw [h.list] at hkL
  obtain ⟨k', hk', ek, e⟩ := mem_pick.1 hkL
  obtain rfl : k = k' := by omega
  have hd : ∀ j, dif xs (ys.set k (ys.getD k 0 - b)) j = if j = k then g + b else dif xs ys j := fun j => by
    rw [dif_set xs ys hk]
    by_cases e1 : j = k
    · rw [if_pos e1, if_pos e1, ← ek]
      unfold dif
      omega
    · rw [if_neg e1, if_neg e1]
  have h0 := h.g0
  have hle : ∀ j, j < xs.length → dif xs (ys.set k (ys.getD k 0 - b)) j ≤ g + b := fun j hj => by
    rw [hd]
    by_cases e1 : j = k
    · rw [if_pos e1]
      exact Int.le_refl _
    · rw [if_neg e1]
      have := h.le j hj
      omega
  have hl : [(k : Int)] = pick xs (ys.set k (ys.getD k 0 - b)) xs.length (g + b) := by
    unfold pick
    have e3 : (List.range xs.length).filter (fun j => dif xs (ys.set k (ys.getD k 0 - b)) j == g + b) = [k] := by
      rw [← filter_one k xs.length hk']
      refine List.filter_congr fun j hj => ?_
      rw [List.mem_range] at hj
      rw [hd]
      by_cases e1 : j = k
      · simp [e1]
      · rw [if_neg e1]
        have := h.le j hj
        rw [Bool.eq_iff_iff]
        simp only [beq_iff_eq]
        omega
    rw [e3]
    rfl
  have hn : false = decide (g + b = 0) := by
    rw [eq_comm, decide_eq_false_iff_not]
    omega
  obtain ⟨a, c, e2⟩ := gain_eq h2 (by omega) hle (fun _ => ⟨k, hk', by rw [hd, if_pos rfl]⟩) hl hn
  exact ⟨c, a, e2⟩
theorem lower_ok {xs ys : List Int} {v : Int} {k : Nat} (h : ofOk xs ys = true) (h0 : 0 ≤ v) (h1 : v ≤ 2000000) : ofOk xs (ys.set k v) = true := by
  unfold ofOk at h ⊢
  rw [List.length_set]
  rw [Bool.and_eq_true] at h ⊢
  refine ⟨?_, h.2⟩
  have hm := h.1
  unfold mayP at hm ⊢
  rw [List.length_set]
  simp only [Bool.and_eq_true, decide_eq_true_eq] at hm ⊢
  refine ⟨hm.1, ?_⟩
  have hall := within_all hm.2
  unfold within
  rw [List.all_eq_true]
  intro x hx
  rcases List.mem_or_eq_of_mem_set hx with hx | rfl
  · have := hall x hx
    simp
    omega
  · simp
    omega
end Go.Proofs.Ytjhmlcbpbmeicaa
