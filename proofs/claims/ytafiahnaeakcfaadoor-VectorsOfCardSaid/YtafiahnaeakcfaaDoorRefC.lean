/-
  CONTRACTS of GetList, GetBytes and the document's answers in one word each, whether the bytes are too few or not. Conditions: the slices are no longer than memory lets them be.
-/
import Derived.Test.YtafiahnaeakcfaaDoorRefB
namespace Go.Proofs.YtafiahnaeakcfaaDoor
open Go.RowKit

def getLV (xs : List Int) : List Int × Nat × Int := match getL xs with | none => ([], 0, 5) | some zs => (zs, 1 + 4 * zs.length, 0)
def getBV (xs : List Int) : List Int × Nat × Int := match getBy xs with | none => ([], 0, 5) | some zs => (zs, 2 + zs.length, 0)
theorem getLV_len {xs : List Int} (hb : Bytes xs) : (getLV xs).1.length ≤ 255 := by
  unfold getLV getL
  obtain ⟨h0, h1⟩ := hb.getD 0
  split
  · exact Nat.zero_le _
  · rename_i zs h
    split at h
    · cases h
    · cases h
      rw [List.length_map, List.length_range]
      omega
theorem getBV_len {xs : List Int} (hb : Bytes xs) : (getBV xs).1.length ≤ 65535 := by
  unfold getBV getBy
  split
  · exact Nat.zero_le _
  · rename_i zs h
    split at h
    · cases h
    · rename_i h2
      cases h
      have := val_lt (hb.take 2)
      rw [List.length_take, Nat.min_eq_left (by omega)] at this
      rw [List.length_take]
      omega
theorem getList_u (A : Option Addr) (c : Nat) (xs : List Int) (w : World) (ha : Rd w A (cs .u8 xs)) (hb : Bytes xs) (hc : xs.length ≤ c) (lc : Len c) {L : List Int} {t : Nat} {r : Int} (h : getLV xs = (L, t, r)) :
    Calls Tryd.prog 24 #[.slice A xs.length c] w fun e w' => ∃ A', e = .returned (.tuple #[.slice A' L.length L.length, .int .i64 (t : Int), .int .i64 r]) ∧ Fr 3 w' w.heap.size A' L.length L.length (cs .i64 L) ∧ Keep w w' := by
  refine (getList_f A c xs w ha hb hc lc).mono ?_
  intro e w' hq
  unfold GetLP at hq
  unfold getLV at h
  cases hg : getL xs with
  | none =>
    rw [hg] at hq h
    cases h
    exact ⟨none, hq.1, Fr.empty _ _ _ _, hq.2⟩
  | some zs =>
    rw [hg] at hq h
    cases h
    exact hq
theorem refGetList_u (A : Option Addr) (c : Nat) (xs : List Int) (w : World) (ha : Rd w A (cs .u8 xs)) (hb : Bytes xs) (hc : xs.length ≤ c) (lc : Len c) {L : List Int} {t : Nat} {r : Int} (h : getLV xs = (L, t, r)) :
    Calls Tryd.prog 25 #[.slice A xs.length c] w fun e w' => ∃ A' c', e = .returned (.tuple #[.slice A' L.length c', .int .i64 (t : Int), .int .i64 r]) ∧ Rd w' A' (cs .i64 L) ∧ Keep w w' := by
  refine (refGetList_f A c xs w ha hb hc lc).mono ?_
  intro e w' hq
  unfold RefLP at hq
  unfold getLV at h
  cases hg : getL xs with
  | none =>
    rw [hg] at hq h
    cases h
    exact ⟨none, 0, hq.1, Rd.nil _ _, hq.2⟩
  | some zs =>
    rw [hg] at hq h
    cases h
    exact hq
theorem getBytes_u (A : Option Addr) (c : Nat) (xs : List Int) (w : World) (ha : Rd w A (cs .u8 xs)) (hb : Bytes xs) (hc : xs.length ≤ c) (lc : Len c) {L : List Int} {t : Nat} {r : Int} (h : getBV xs = (L, t, r)) :
    Calls Tryd.prog 26 #[.slice A xs.length c] w fun e w' => ∃ A', e = .returned (.tuple #[.slice A' L.length L.length, .int .i64 (t : Int), .int .i64 r]) ∧ Fr 5 w' w.heap.size A' L.length L.length (cs .u8 L) ∧ Keep w w' := by
  refine (getBytes_f A c xs w ha hb hc lc).mono ?_
  intro e w' hq
  unfold GetByP at hq
  unfold getBV at h
  cases hg : getBy xs with
  | none =>
    rw [hg] at hq h
    cases h
    exact ⟨none, hq.1, Fr.empty _ _ _ _, hq.2⟩
  | some zs =>
    rw [hg] at hq h
    cases h
    exact hq
theorem refGetBytes_u (A : Option Addr) (c : Nat) (xs : List Int) (w : World) (ha : Rd w A (cs .u8 xs)) (hb : Bytes xs) (hc : xs.length ≤ c) (lc : Len c) {L : List Int} {t : Nat} {r : Int} (h : getBV xs = (L, t, r)) :
    Calls Tryd.prog 27 #[.slice A xs.length c] w fun e w' => ∃ A' c', e = .returned (.tuple #[.slice A' L.length c', .int .i64 (t : Int), .int .i64 r]) ∧ Rd w' A' (cs .u8 L) ∧ Keep w w' := by
  refine (refGetBytes_f A c xs w ha hb hc lc).mono ?_
  intro e w' hq
  unfold RefByP at hq
  unfold getBV at h
  cases hg : getBy xs with
  | none =>
    rw [hg] at hq h
    cases h
    exact ⟨none, 0, hq.1, Rd.nil _ _, hq.2⟩
  | some zs =>
    rw [hg] at hq h
    cases h
    exact hq
end Go.Proofs.YtafiahnaeakcfaaDoor
