/-
  PLAIN LAWS of markets (no program in sight): what is put is got, whatever stands behind it; what is got is put; what is cut is too short. Conditions: those that each theorem states.
-/
import Derived.Test.YtjhmlcbpbmeicaaMktR
namespace Go.Proofs.Ytjhmlcbpbmeicaa
open Go.RowKit

/-- At most 255 numbers of 32 bits. -/
def Fit (l : List Int) : Prop := l.length ≤ 255 ∧ ∀ x ∈ l, 0 ≤ x ∧ x < 4294967296
theorem getL_fit {l : List Int} (h : Fit l) (r : List Int) : getL (putL l ++ r) = some l := by rw [getL_put l r h.1, low_id h.2]
theorem drop_putL (l r : List Int) : (putL l ++ r).drop (1 + 4 * l.length) = r := by rw [← length_putL l, List.drop_left]
theorem getL_back {xs zs : List Int} (hb : Bytes xs) (h : getL xs = some zs) : Fit zs ∧ xs = putL zs ++ xs.drop (1 + 4 * zs.length) := by
  obtain ⟨h1, h2, h3⟩ := getL_some hb h
  exact ⟨⟨h1, getL_range hb h⟩, by rw [h3, List.take_append_drop]⟩
theorem getLs_put {B : List (List Int)} (h : ∀ b ∈ B, Fit b) (r : List Int) : ∀ n, n ≤ B.length → getLs n (B.flatMap putL ++ r) = some (B.take n, (B.drop n).flatMap putL ++ r)
  | 0, _ => by simp [getLs]
  | n + 1, hn => by
    have hb : B[n]? = some (B[n]'(by omega)) := List.getElem?_eq_getElem (by omega)
    rw [getLs_succ, getLs_put h r n (by omega)]
    have e : B.drop n = B[n]'(by omega) :: B.drop (n + 1) := List.drop_eq_getElem_cons (by omega)
    rw [e, List.flatMap_cons, List.append_assoc]
    simp only
    rw [getL_fit (h _ (List.getElem_mem (by omega)))]
    simp only
    rw [drop_putL, List.take_add_one, hb]
    rfl
theorem getLs_all {B : List (List Int)} (h : ∀ b ∈ B, Fit b) (r : List Int) : getLs B.length (B.flatMap putL ++ r) = some (B, r) := by
  have := getLs_put h r B.length (Nat.le_refl _)
  rwa [List.take_length, List.drop_length] at this
theorem getLs_back {n : Nat} {xs : List Int} (hb : Bytes xs) : ∀ {bl ys}, getLs n xs = some (bl, ys) → xs = bl.flatMap putL ++ ys ∧ bl.length = n ∧ ∀ b ∈ bl, Fit b := by
  induction n with
  | zero =>
    intro bl ys h
    injection h with h
    cases h
    exact ⟨rfl, rfl, fun b h => (by cases h)⟩
  | succ n ih =>
    intro bl ys h
    rw [getLs_succ] at h
    cases h1 : getLs n xs with
    | none => rw [h1] at h; cases h
    | some q =>
      obtain ⟨b0, y0⟩ := q
      rw [h1] at h
      simp only at h
      obtain ⟨i1, i2, i3⟩ := ih h1
      cases h2 : getL y0 with
      | none => rw [h2] at h; cases h
      | some zs =>
        rw [h2] at h
        injection h with h
        cases h
        obtain ⟨f1, f2⟩ := getL_back (getLs_range hb h1).2 h2
        refine ⟨?_, by simp [i2], fun b hb' => ?_⟩
        · rw [List.flatMap_append, List.flatMap_cons, List.flatMap_nil, List.append_nil, List.append_assoc, ← f2]
          exact i1
        · rcases List.mem_append.1 hb' with h' | h'
          · exact i3 b h'
          · rw [List.mem_singleton] at h'
            exact h' ▸ f1
theorem le_one {n : Nat} (h : n < 256) : le n 1 = [(n : Int)] := by
  simp [le]
  omega
/-- What is put is got. -/
theorem g4_put {R : List Int} {B : List (List Int)} {O : List Int} (hR : Fit R) (hB : B.length < 256) (hb : ∀ b ∈ B, Fit b) (hO : Fit O) (r : List Int) : g4 (bytesM R B O ++ r) = some (R, B, O, r) := by
  have e1 : bytesM R B O ++ r = putL R ++ ((B.length : Int) :: (B.flatMap putL ++ (putL O ++ r))) := by
    unfold bytesM
    rw [le_one hB]
    simp only [List.append_assoc, List.cons_append, List.nil_append]
  have h2 : g2 (bytesM R B O ++ r) = some (R, B.length, B.flatMap putL ++ (putL O ++ r)) := by
    unfold g2
    rw [e1, getL_fit hR]
    simp only
    rw [drop_putL]
    simp
  have h3 : g3 (bytesM R B O ++ r) = some (R, B, putL O ++ r) := by
    unfold g3
    rw [h2]
    simp only
    rw [getLs_all hb]
  unfold g4
  rw [h3]
  simp only
  rw [getL_fit hO]
  simp only
  rw [drop_putL]
/-- What is got is put. -/
theorem g4_back {xs R O rest : List Int} {bl : List (List Int)} (hb : Bytes xs) (h : g4 xs = some (R, bl, O, rest)) : xs = bytesM R bl O ++ rest ∧ Fit R ∧ bl.length < 256 ∧ (∀ b ∈ bl, Fit b) ∧ Fit O := by
  unfold g4 at h
  split at h
  · cases h
  · rename_i R' bl' zs h3
    split at h
    · cases h
    · rename_i O' hO
      injection h with h
      cases h
      unfold g3 at h3
      split at h3
      · cases h3
      · rename_i R'' n ys h2
        split at h3
        · cases h3
        · rename_i bl'' zs' hl
          injection h3 with h3
          cases h3
          unfold g2 at h2
          split at h2
          · cases h2
          · rename_i R3 hR
            split at h2
            · cases h2
            · rename_i x ys' hd
              injection h2 with h2
              cases h2
              have hy : Bytes (x :: ys) := hd ▸ hb.drop _
              obtain ⟨x0, x1⟩ := hy.head
              obtain ⟨f1, f2⟩ := getL_back hb hR
              obtain ⟨q1, q2, q3⟩ := getLs_back hy.tail hl
              obtain ⟨o1, o2⟩ := getL_back (getLs_range hy.tail hl).2 hO
              refine ⟨?_, f1, by omega, q3, o1⟩
              rw [hd, q1, o2] at f2
              rw [f2]
              unfold bytesM
              rw [q2, le_one (by omega), Int.toNat_of_nonneg x0]
              simp only [List.append_assoc, List.cons_append, List.nil_append]
/-- What is cut is too short. -/
theorem g4_cut {R : List Int} {B : List (List Int)} {O : List Int} (hR : Fit R) (hB : B.length < 256) (hb : ∀ b ∈ B, Fit b) (hO : Fit O) (hby : Bytes (bytesM R B O)) {k : Nat} (hk : k < (bytesM R B O).length) : g4 ((bytesM R B O).take k) = none := by
  cases h : g4 ((bytesM R B O).take k) with
  | none => rfl
  | some q =>
    obtain ⟨R', bl, O', rest⟩ := q
    obtain ⟨e, f1, f2, f3, f4⟩ := g4_back (hby.take k) h
    have e1 : bytesM R B O = bytesM R' bl O' ++ (rest ++ (bytesM R B O).drop k) := by
      rw [← List.append_assoc, ← e, List.take_append_drop]
    have g1 := g4_put hR hB hb hO []
    rw [List.append_nil, e1, g4_put f1 f2 f3 f4] at g1
    injection g1 with g1
    injection g1 with _ g1
    injection g1 with _ g1
    injection g1 with _ g1
    have hd := (List.append_eq_nil_iff.1 g1).2
    have := congrArg List.length hd
    rw [List.length_drop, List.length_nil] at this
    omega
theorem bytes_bytesM (R : List Int) (B : List (List Int)) (O : List Int) : Bytes (bytesM R B O) := by
  refine (bytes_putL R).append ((bytes_le _ _).append (Bytes.append (fun x hx => ?_) (bytes_putL O)))
  obtain ⟨b, _, hb⟩ := List.mem_flatMap.1 hx
  exact bytes_putL b x hb
theorem chkM_fit {R : List Int} {B : List (List Int)} {O : List Int} (h : chkM R B O = true) : Fit R ∧ B.length < 256 ∧ (∀ b ∈ B, Fit b) ∧ Fit O := by
  obtain ⟨_, h1, _, h2, h3, h4⟩ := chkM_lens h
  obtain ⟨pr, pb⟩ := chkM_bids h
  have ho : ordB O B.length = true := by
    unfold chkM at h
    simp only [Bool.and_eq_true] at h
    exact h.1.2
  refine ⟨⟨by omega, fun x hx => by have := pr x hx; omega⟩, by omega, fun b hb => ⟨by have := h3 b hb; omega, fun x hx => ?_⟩, ⟨by omega, fun x hx => ?_⟩⟩
  · rcases pb b hb with h0 | h0
    · rw [List.eq_nil_of_length_eq_zero h0] at hx
      cases hx
    · have := h0.2 x hx
      omega
  · unfold ordB at ho
    simp only [Bool.and_eq_true, List.all_eq_true, decide_eq_true_eq] at ho
    have := ho.1 x hx
    omega
end Go.Proofs.Ytjhmlcbpbmeicaa
