/-
  PLAIN LAWS of markets (no program in sight): another bid, another order. Conditions: those that each theorem states.
-/
import Derived.Test.YtjhmlcbpbmeicaaMktU
namespace Go.Proofs.Ytjhmlcbpbmeicaa
open Go.RowKit

theorem ordB_of_perm {l l' : List Int} (h : l.Perm l') (n : Nat) : ordB l n = ordB l' n := by
  unfold ordB
  congr 1
  · rw [Bool.eq_iff_iff, List.all_eq_true, List.all_eq_true]
    exact ⟨fun g x hx => g x (h.mem_iff.2 hx), fun g x hx => g x (h.mem_iff.1 hx)⟩
  · rw [decide_eq_decide]
    exact ⟨fun g i hi => by rw [← h.count_eq]; exact g i hi, fun g i hi => by rw [h.count_eq]; exact g i hi⟩
/-- The first one last. -/
theorem perm_rot {l : List Int} {x : Int} (h : l[0]? = some x) : (l.drop 1 ++ [x]).Perm l := by
  cases l with
  | nil => cases h
  | cons y l =>
    cases h
    simp only [List.drop_succ_cons, List.drop_zero]
    exact List.perm_append_comm
theorem any_set {f : List Int → Bool} {B : List (List Int)} {k : Nat} {b : List Int} (hk : k < B.length) (h : B.any f = false) : (B.set k b).any f = f b := by
  rw [List.any_eq_false] at h
  cases hb : f b with
  | true => exact List.any_eq_true.2 ⟨b, List.mem_set hk b, hb⟩
  | false =>
    rw [List.any_eq_false]
    intro x hx
    rcases List.mem_or_eq_of_mem_set hx with h' | rfl
    · exact h x h'
    · rw [hb]
      decide
/-- Another bid and another order. -/
theorem chkM_other {R : List Int} {B : List (List Int)} {O O' : List Int} {k : Nat} (b : List Int) (hk : k < B.length) (hO : O'.Perm O) (h : chkM R B O = true) : chkM R (B.set k b) O' = (decide (b.length = 0) || chk b R.length) := by
  unfold chkM at h ⊢
  simp only [Bool.and_eq_true] at h
  obtain ⟨⟨⟨⟨h1, h2⟩, h3⟩, h4⟩, h5⟩ := h
  rw [Bool.not_eq_true'] at h5
  rw [List.length_set, h1, h2, h3, ordB_of_perm hO, h4, any_set hk h5]
  unfold badB
  by_cases hb : b.length = 0
  · simp [hb]
  · have : 0 < b.length := by omega
    simp [hb, this]
theorem gains_other {R : List Int} {B : List (List Int)} {k i : Nat} {b : List Int} (h : i ≠ k) : (gainsM R (B.set k b))[i]? = (gainsM R B)[i]? := by
  unfold gainsM
  rw [List.getElem?_map, List.getElem?_map, List.getElem?_set_ne (Ne.symm h)]
theorem gains_none {R : List Int} {B : List (List Int)} {k : Nat} {l : List Int} (h : (gainsM R (B.set k []))[k]? = some l) : ∀ x ∈ l, x = -1 := by
  unfold gainsM at h
  rw [List.getElem?_map, List.getElem?_set] at h
  simp only [if_true] at h
  split at h
  · simp only [Option.map_some, Option.some.injEq] at h
    subst h
    intro x hx
    unfold gainRow at hx
    obtain ⟨q, _, rfl⟩ := List.mem_map.1 hx
    exact gainAt_no (by simp)
  · cases h
theorem row_len {R : List Int} {B : List (List Int)} {i : Nat} {l : List Int} (h : (gainsM R B)[i]? = some l) : l.length = R.length := by
  unfold gainsM at h
  rw [List.getElem?_map, Option.map_eq_some_iff] at h
  obtain ⟨b, _, rfl⟩ := h
  exact length_gainRow R b
theorem length_gainsM (R : List Int) (B : List (List Int)) : (gainsM R B).length = B.length := by simp [gainsM]
end Go.Proofs.Ytjhmlcbpbmeicaa
