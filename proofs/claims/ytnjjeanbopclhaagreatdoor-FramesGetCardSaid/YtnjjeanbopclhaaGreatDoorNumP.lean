/-
  PLAIN LAWS on lists of bytes (no program in sight): what was read out of bytes is put as these bytes.
-/
import Derived.Test.YtnjjeanbopclhaaGreatDoorNumB
namespace Go.Proofs.YtnjjeanbopclhaaGreatDoor

theorem u64_nat {V : Nat} (h : V < 18446744073709551616) : u64 (V : Int) = V := by unfold u64; omega
theorem flat4_num {xs : List Int} (hb : Bytes xs) : ∀ k, 1 + 4 * k ≤ xs.length → flat4 ((List.range k).map (num4 xs)) = (xs.drop 1).take (4 * k)
  | 0, _ => by simp [flat4]
  | k + 1, h => by
    have hl : ((xs.drop (1 + 4 * k)).take 4).length = 4 := by rw [List.length_take, List.length_drop]; omega
    have hby := (hb.drop (1 + 4 * k)).take 4
    have hV := val_lt hby
    rw [hl] at hV
    rw [List.range_succ, List.map_append, List.map_cons, List.map_nil, flat4_snoc, flat4_num hb k (by omega), num4, u64_nat (by omega)]
    have h4 := le_val hby
    rw [hl] at h4
    rw [h4, show 4 * (k + 1) = 4 * k + 4 by omega, List.take_add, List.drop_drop]
theorem getL_some {xs zs : List Int} (hb : Bytes xs) (h : getL xs = some zs) : zs.length ≤ 255 ∧ 1 + 4 * zs.length ≤ xs.length ∧ putL zs = xs.take (1 + 4 * zs.length) := by
  unfold getL at h
  split at h
  · cases h
  · rename_i hno
    injection h with h
    have hlen : zs.length = (xs.getD 0 0).toNat := by rw [← h]; simp
    have h0 := hb.getD 0
    have hx : 0 < xs.length := by omega
    refine ⟨by omega, by omega, ?_⟩
    have e1 : putL zs = le zs.length 1 ++ flat4 zs := rfl
    have e2 : le zs.length 1 = [xs.getD 0 0] := by
      rw [hlen]
      simp only [le, List.nil_append]
      congr 1
      simp only [Nat.pow_zero, Nat.div_one]
      omega
    have e3 : flat4 zs = (xs.drop 1).take (4 * zs.length) := by
      rw [hlen, ← h]
      exact flat4_num hb _ (by omega)
    rw [e1, e2, e3]
    cases xs with
    | nil => simp at hx
    | cons x l => simp [Nat.add_comm 1]
end Go.Proofs.YtnjjeanbopclhaaGreatDoor
