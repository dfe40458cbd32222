/-
  PLAIN LAWS on lists of bytes (no program in sight): what was put is got, whatever stands behind it; what is cut is too short. Conditions: those that each theorem states.
-/
import Derived.Test.YtnjjeanbopclhaaGreatDoorNumP
namespace Go.Proofs.YtnjjeanbopclhaaGreatDoor

/-- The lowest 32 bits of each number. -/
def low (l : List Int) : List Int := l.map (· % 4294967296)
@[simp] theorem length_low (l : List Int) : (low l).length = l.length := by simp [low]
theorem low_id {l : List Int} (h : ∀ x ∈ l, 0 ≤ x ∧ x < 4294967296) : low l = l := by
  unfold low
  rw [List.map_congr_left (g := id) (fun x hx => by have := h x hx; simp only [id]; omega), List.map_id]

theorem flat4_cons (x : Int) (l : List Int) : flat4 (x :: l) = le (u64 x) 4 ++ flat4 l := rfl
theorem flat4_drop (l r : List Int) : ∀ i, (h : i < l.length) → ((flat4 l ++ r).drop (4 * i)).take 4 = le (u64 l[i]) 4 := by
  induction l with
  | nil => intro i h; simp at h
  | cons x l ih =>
    intro i h
    cases i with
    | zero => rw [flat4_cons, List.append_assoc, Nat.mul_zero, List.drop_zero, List.take_append_of_le_length (by simp), List.take_of_length_le (by simp)]; rfl
    | succ i =>
      have h' : i < l.length := by simpa using h
      have e : ((le (u64 x) 4 ++ (flat4 l ++ r)).drop (4 + 4 * i)) = (flat4 l ++ r).drop (4 * i) := by
        rw [← List.drop_drop, List.drop_left' (by simp)]
      rw [flat4_cons, List.append_assoc, show 4 * (i + 1) = 4 + 4 * i by omega, e, ih i h']
      rfl
theorem putL_cons (l : List Int) (hl : l.length ≤ 255) : putL l = (l.length : Int) :: flat4 l := by
  have e : le l.length 1 = [(l.length : Int)] := by
    simp only [le, List.nil_append, Nat.pow_zero, Nat.div_one]
    rw [Nat.mod_eq_of_lt (by omega)]
  show le l.length 1 ++ flat4 l = _
  rw [e]
  rfl
theorem getD_putL (l r : List Int) (hl : l.length ≤ 255) : (putL l ++ r).getD 0 0 = (l.length : Int) := by rw [putL_cons l hl]; rfl
theorem num4_putL (l r : List Int) (hl : l.length ≤ 255) (i : Nat) (h : i < l.length) : num4 (putL l ++ r) i = l[i] % 4294967296 := by
  unfold num4
  rw [putL_cons l hl, List.cons_append, Nat.add_comm 1, List.drop_succ_cons, flat4_drop l r i h, val_le]
  unfold u64
  omega
theorem getL_put (l r : List Int) (hl : l.length ≤ 255) : getL (putL l ++ r) = some (low l) := by
  have h0 := getD_putL l r hl
  have h1 := length_putL l
  unfold getL
  rw [h0, Int.toNat_natCast, if_neg (by rw [List.length_append]; omega)]
  congr 1
  refine List.ext_getElem (by simp) fun i h1 h2 => ?_
  have hi : i < l.length := by simpa using h1
  simp only [List.getElem_map, List.getElem_range, low]
  exact num4_putL l r hl i hi
theorem getL_put' (l : List Int) (hl : l.length ≤ 255) : getL (putL l) = some (low l) := by
  have := getL_put l [] hl
  rwa [List.append_nil] at this
/-- What is cut is too short. -/
theorem getL_cut (l : List Int) (hl : l.length ≤ 255) (k : Nat) (hk : k < (putL l).length) : getL ((putL l).take k) = none := by
  have h1 := length_putL l
  unfold getL
  by_cases h0 : k = 0
  · subst h0
    rw [if_pos (.inl (by simp))]
  · have e : ((putL l).take k).getD 0 0 = (l.length : Int) := by
      rw [putL_cons l hl]
      obtain ⟨j, rfl⟩ : ∃ j, k = j + 1 := ⟨k - 1, by omega⟩
      rfl
    rw [e, Int.toNat_natCast, if_pos (.inr (by rw [List.length_take]; omega))]

theorem val_two (n : Nat) (h : n < 65536) : val (le n 2) = n := by rw [val_le]; omega
theorem getBy_put (l r : List Int) (hl : l.length ≤ 65535) : getBy (putBy l ++ r) = some l := by
  have e1 : (putBy l ++ r).take 2 = le l.length 2 := by
    rw [putBy, List.append_assoc, List.take_append_of_le_length (by simp), List.take_of_length_le (by simp)]
  have e2 : (putBy l ++ r).drop 2 = l ++ r := by
    rw [putBy, List.append_assoc, List.drop_left' (by simp)]
  unfold getBy
  rw [e1, val_two _ (by omega), e2, if_neg (by simp only [List.length_append, putBy, length_le]; omega), List.take_left]
theorem getBy_put' (l : List Int) (hl : l.length ≤ 65535) : getBy (putBy l) = some l := by
  have := getBy_put l [] hl
  rwa [List.append_nil] at this
theorem getBy_cut (l : List Int) (hl : l.length ≤ 65535) (k : Nat) (hk : k < (putBy l).length) : getBy ((putBy l).take k) = none := by
  have hp : (putBy l).length = 2 + l.length := by simp [putBy]
  unfold getBy
  by_cases h0 : k < 2
  · rw [if_pos (.inl (by rw [List.length_take]; omega))]
  · have e1 : ((putBy l).take k).take 2 = le l.length 2 := by
      rw [List.take_take, Nat.min_eq_left (by omega), putBy, List.take_append_of_le_length (by simp), List.take_of_length_le (by simp)]
    rw [e1, val_two _ (by omega), if_pos (.inr (by rw [List.length_take]; omega))]
/-- What was read out of bytes is put as these bytes. -/
theorem getBy_some {xs zs : List Int} (hb : Bytes xs) (h : getBy xs = some zs) : zs.length ≤ 65535 ∧ 2 + zs.length ≤ xs.length ∧ putBy zs = xs.take (2 + zs.length) := by
  unfold getBy at h
  split at h
  · cases h
  · rename_i hno
    injection h with h
    have hby := hb.take 2
    have hV := val_lt hby
    have hl2 : (xs.take 2).length = 2 := by rw [List.length_take]; omega
    rw [hl2] at hV
    have hlen : zs.length = val (xs.take 2) := by rw [← h, List.length_take, List.length_drop]; omega
    refine ⟨by omega, by omega, ?_⟩
    have e1 : le zs.length 2 = xs.take 2 := by
      rw [hlen]
      have := le_val hby
      rwa [hl2] at this
    rw [putBy, e1, hlen, ← h, List.take_add]
end Go.Proofs.YtnjjeanbopclhaaGreatDoor
