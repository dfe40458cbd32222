/-
  PLAIN FUNCTIONS AND LAWS, no program in sight: what the layers nums and vectors compute, as functions on lists of numbers, and what these functions do. Conditions: those that each theorem states.
-/
namespace Go.Proofs.YtnjjeanbopclhaaGreatDoor

/-- The k lowest bytes of n, the lowest first. -/
def le (n : Nat) : Nat → List Int
  | 0 => []
  | k + 1 => le n k ++ [((n / 256 ^ k % 256 : Nat) : Int)]

theorem le_succ (n k : Nat) : le n (k + 1) = le n k ++ [((n / 256 ^ k % 256 : Nat) : Int)] := rfl
@[simp] theorem length_le (n k : Nat) : (le n k).length = k := by
  induction k with
  | zero => rfl
  | succ k ih => simp [le, ih]
theorem le_byte (n k : Nat) : ∀ x ∈ le n k, 0 ≤ x ∧ x < 256 := by
  induction k with
  | zero => intro x hx; simp [le] at hx
  | succ k ih =>
    intro x hx
    rw [le_succ, List.mem_append] at hx
    rcases hx with hx | hx
    · exact ih x hx
    · simp only [List.mem_singleton] at hx
      subst hx
      have := Nat.mod_lt (n / 256 ^ k) (show 0 < 256 by omega)
      omega
theorem pow256_succ (k : Nat) : 256 ^ (k + 1) = 256 ^ k * 256 := Nat.pow_succ ..
theorem div_step (n k : Nat) : n / 256 ^ k / 256 = n / 256 ^ (k + 1) := by rw [pow256_succ, Nat.div_div_eq_div_mul]

/-- The number whose bytes these are, the lowest first. -/
def val : List Int → Nat
  | [] => 0
  | x :: l => x.toNat + 256 * val l
theorem val_append (a b : List Int) : val (a ++ b) = val a + 256 ^ a.length * val b := by
  induction a with
  | nil => simp [val]
  | cons x a ih =>
    simp only [List.cons_append, val, ih, List.length_cons, pow256_succ]
    rw [Nat.mul_add, Nat.add_assoc, ← Nat.mul_assoc, Nat.mul_comm 256 (256 ^ a.length)]
/-- A list of bytes. -/
def Bytes (l : List Int) : Prop := ∀ x ∈ l, 0 ≤ x ∧ x < 256
theorem Bytes.nil : Bytes [] := fun x h => by simp at h
theorem Bytes.append {a b : List Int} (ha : Bytes a) (hb : Bytes b) : Bytes (a ++ b) := fun x h => by
  rcases List.mem_append.1 h with h | h
  · exact ha x h
  · exact hb x h
theorem Bytes.left {a b : List Int} (h : Bytes (a ++ b)) : Bytes a := fun x hx => h x (List.mem_append.2 (.inl hx))
theorem Bytes.right {a b : List Int} (h : Bytes (a ++ b)) : Bytes b := fun x hx => h x (List.mem_append.2 (.inr hx))
theorem Bytes.take {l : List Int} (h : Bytes l) (n : Nat) : Bytes (l.take n) := fun x hx => h x (List.mem_of_mem_take hx)
theorem Bytes.drop {l : List Int} (h : Bytes l) (n : Nat) : Bytes (l.drop n) := fun x hx => h x (List.mem_of_mem_drop hx)
theorem Bytes.tail {x : Int} {l : List Int} (h : Bytes (x :: l)) : Bytes l := fun y hy => h y (List.mem_cons_of_mem _ hy)
theorem Bytes.head {x : Int} {l : List Int} (h : Bytes (x :: l)) : 0 ≤ x ∧ x < 256 := h x List.mem_cons_self
theorem Bytes.get {l : List Int} (h : Bytes l) {i : Nat} (hi : i < l.length) : 0 ≤ l[i] ∧ l[i] < 256 := h _ (List.getElem_mem hi)
theorem Bytes.getD {l : List Int} (h : Bytes l) (i : Nat) : 0 ≤ l.getD i 0 ∧ l.getD i 0 < 256 := by
  by_cases hi : i < l.length
  · rw [List.getD_eq_getElem?_getD, List.getElem?_eq_getElem hi]; exact h.get hi
  · rw [List.getD_eq_getElem?_getD, List.getElem?_eq_none (by omega)]; simp
theorem bytes_le (n k : Nat) : Bytes (le n k) := le_byte n k
theorem val_lt {l : List Int} (h : Bytes l) : val l < 256 ^ l.length := by
  induction l with
  | nil => simp [val]
  | cons x l ih =>
    have h1 := ih h.tail
    have h2 := h.head
    simp only [val, List.length_cons, pow256_succ]
    omega
theorem val_le (n k : Nat) : val (le n k) = n % 256 ^ k := by
  induction k with
  | zero => simp [le, val, Nat.mod_one]
  | succ k ih =>
    rw [le_succ, val_append, ih, length_le, pow256_succ, Nat.mod_mul]
    simp only [val, Int.toNat_natCast, Nat.mul_zero, Nat.add_zero]
theorem val_digit {l : List Int} (h : Bytes l) {k : Nat} (hk : k < l.length) : ((val l / 256 ^ k % 256 : Nat) : Int) = l[k] := by
  have e : l = l.take k ++ (l[k] :: l.drop (k + 1)) := by rw [List.getElem_cons_drop, List.take_append_drop]
  have hl : (l.take k).length = k := by simp; omega
  have h1 := val_lt (h.take k)
  rw [hl] at h1
  have h2 := h.get hk
  have e2 : val l = val (l.take k) + 256 ^ k * (l[k].toNat + 256 * val (l.drop (k + 1))) := by
    have e3 := val_append (l.take k) (l[k] :: l.drop (k + 1))
    rw [← e, hl] at e3
    exact e3
  rw [e2, Nat.add_mul_div_left _ _ (Nat.pow_pos (by omega)), Nat.div_eq_of_lt h1, Nat.zero_add]
  omega
theorem le_val_take {l : List Int} (h : Bytes l) : ∀ k, k ≤ l.length → le (val l) k = l.take k
  | 0, _ => rfl
  | k + 1, hk => by rw [le_succ, le_val_take h k (by omega), val_digit h (by omega), List.take_succ_eq_append_getElem (by omega)]
theorem le_val {l : List Int} (h : Bytes l) : le (val l) l.length = l := by
  rw [le_val_take h _ (Nat.le_refl _), List.take_length]
theorem le_mod (n k : Nat) : le (n % 256 ^ k) k = le n k := by
  rw [← val_le n k]
  have := le_val (bytes_le n k)
  rwa [length_le] at this
theorem le_take (n k m : Nat) (h : k ≤ m) : (le n m).take k = le n k := by
  induction m with
  | zero =>
    obtain rfl : k = 0 := by omega
    rfl
  | succ m ih =>
    by_cases e : k = m + 1
    · subst e; rw [List.take_of_length_le (by simp)]
    · rw [le_succ, List.take_append_of_le_length (by simp; omega), ih (by omega)]
theorem getElem_le (n k i : Nat) (hi : i < k) : (le n k)[i]'(by simpa using hi) = ((n / 256 ^ i % 256 : Nat) : Int) := by
  have h := le_take n (i + 1) k (by omega)
  have h1 : ((le n k).take (i + 1))[i]'(by simp; omega) = (le n k)[i]'(by simpa using hi) := by simp
  rw [← h1]
  simp only [h, le_succ]
  rw [List.getElem_append_right (by simp)]
  simp

/-- A count of bytes, brought to 0 .. 8. -/
def clampB (b : Int) : Nat := (max 0 (min b 8)).toNat
theorem clampB_le (b : Int) : clampB b ≤ 8 := by unfold clampB; omega

/-- An int as a uint64. -/
def u64 (x : Int) : Nat := (x % 18446744073709551616).toNat
theorem u64_lt (x : Int) : u64 x < 18446744073709551616 := by unfold u64; omega
theorem le_u64 (x : Int) : le (u64 x) 4 = le ((x % 4294967296).toNat) 4 := by
  rw [← le_mod (u64 x) 4, ← le_mod ((x % 4294967296).toNat) 4]
  congr 1
  unfold u64
  omega

/-- nums.PutList's bytes. -/
def putL (l : List Int) : List Int := le l.length 1 ++ l.flatMap fun x => le (u64 x) 4
theorem length_flat4 (l : List Int) : (l.flatMap fun x => le (u64 x) 4).length = 4 * l.length := by
  induction l with
  | nil => rfl
  | cons x l ih => simp only [List.flatMap_cons, List.length_append, length_le, ih, List.length_cons]; omega
theorem length_putL (l : List Int) : (putL l).length = 1 + 4 * l.length := by rw [putL, List.length_append, length_le, length_flat4]
theorem bytes_flat4 (l : List Int) : Bytes (l.flatMap fun x => le (u64 x) 4) := fun x hx => by
  obtain ⟨y, _, hy⟩ := List.mem_flatMap.1 hx
  exact bytes_le _ _ x hy
theorem bytes_putL (l : List Int) : Bytes (putL l) := (bytes_le _ _).append (bytes_flat4 l)

/-- The i-th number of a list in bytes, four bytes each, behind the first one. -/
def num4 (b : List Int) (i : Nat) : Int := (val ((b.drop (1 + 4 * i)).take 4) : Int)
/-- nums.GetList: none: too short. -/
def getL (b : List Int) : Option (List Int) :=
  if b.length = 0 ∨ b.length < 1 + 4 * (b.getD 0 0).toNat then none else some ((List.range (b.getD 0 0).toNat).map (num4 b))

/-- nums.PutBytes's bytes. -/
def putBy (l : List Int) : List Int := le l.length 2 ++ l
/-- nums.GetBytes: none: too short. -/
def getBy (b : List Int) : Option (List Int) :=
  if b.length < 2 ∨ b.length < 2 + val (b.take 2) then none else some ((b.drop 2).take (val (b.take 2)))

/-- vectors.within -/
def within (most : Int) (l : List Int) : Bool := l.all fun n => decide (0 ≤ n) && decide (n ≤ most)
/-- vectors.Check -/
def chk (bid : List Int) (items : Int) : Bool := (decide (1 ≤ items) && decide (items ≤ 8)) && decide ((bid.length : Int) = items) && within 1000000 bid
end Go.Proofs.YtnjjeanbopclhaaGreatDoor
