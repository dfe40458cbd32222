/-
  THE WALK OF THE LAW NumsBytes: it answers true, and turns nothing that was there. Conditions: a uint64 and a byte.
-/
import Derived.Test.YtiofhdckhaejiaaNumG
import Derived.Deep.CutRange
namespace Go.Proofs.Ytiofhdckhaejiaa
open Go.RowKit

set_option maxRecDepth 100000 in
set_option maxHeartbeats 2000000 in
theorem numsBytes_w (v : Nat) (q : Int) (w : World) (hv : v < 18446744073709551616) (hq : 0 ≤ q ∧ q < 256) :
    Calls Try.prog 9 #[.int .u64 (v : Int), .int .u8 q] w fun e w' => e = .returned (.bool true) ∧ Below w.heap.size w w' := by
  obtain ⟨n, hn⟩ : ∃ n : Nat, q % 9 = n := ⟨(q % 9).toNat, by omega⟩
  have hn8 : n ≤ 8 := by omega
  have hp1 : ∀ w, Calls Try.prog 31 #[.slice none 0 0, .int .u64 (v : Int), .int .i64 (n : Int)] w (Rows (le v n) w) := fun w => by
    have h := put_r none 0 [] v (n : Int) w (Rd.nil _ _) (by simp) (fun _ => rfl) (by omega)
    rwa [show clampB (n : Int) = n by unfold clampB; omega, List.nil_append] at h
  have hp2 : ∀ w, Calls Try.prog 31 #[.slice none 0 0, .int .u64 (v : Int), .int .i64 8] w (Rows (le v 8) w) := fun w =>
    put_r none 0 [] v 8 w (Rd.nil _ _) (by simp) (fun _ => rfl) (by omega)
  go_enter Try.func9, Try.ntmps9
  go_wp2_with fail
  refine (hp1 w).mono ?_
  rintro e w1 ⟨A1, rfl, hf1, k1⟩
  rw [length_le] at hf1 ⊢
  go_wp2_with fail
  refine (hp2 w1).mono ?_
  rintro e w2 ⟨A2, rfl, hf2, k2⟩
  rw [length_le] at hf2 ⊢
  go_wp2_with fail
  refine (alive01_f w2).mono ?_
  rintro e w3 ⟨rfl, k3⟩
  have r1 := hf1.rd.keep (k2.trans k3)
  have r2 := hf2.rd.keep k3
  have kk := k1.trans (k2.trans k3)
  have hsb := sameBytes A1 A2 n 8 (le v n) (le v n) w3 r1 (by have := r2.take n; rwa [cs_take, le_take v n 8 hn8] at this) (by rw [length_le]; unfold Reach; omega) (by rw [length_le]; unfold Reach; omega)
  rw [length_le, decide_eq_true rfl] at hsb
  clear hf1 hf2 k1 k2 k3 r1 hp1 hp2
  have HQ := Lib.hid hn
  clear hn
  go_wp2_with fail
  refine hsb.mono ?_
  rintro e w4 ⟨rfl, m, rfl⟩
  have r3 := r2.keep ((Keep.refl _).drewN m)
  have k4 := kk.drewN m
  generalize w3.drewN m = w5 at r3 k4 ⊢
  clear r2 kk hsb
  go_wp2_with fail
  go_loop [0, 8] (fun u i => ∃ k : Nat, k ≤ 8 ∧ i = .int .i64 k ∧ u = .int .u64 ((v / 256 ^ k : Nat) : Int)) (fun _ i => 8 - (intOf i).toNat)
  case atStart => exact ⟨0, Nat.zero_le _, rfl, by simp⟩
  case round =>
    obtain ⟨k, hk, rfl, rfl⟩ := hrel
    have hq2 : v / 256 ^ k ≤ v := Nat.div_le_self _ _
    by_cases hlt : k < 8
    · obtain ⟨b1, o1, x, rfl, hx, hc1⟩ := r3.int_at (j := k) (by rw [length_le]; exact hlt)
      have hx2 : x = ((v / 256 ^ k % 256 : Nat) : Int) := by
        rw [List.getElem?_eq_getElem (by rw [length_le]; exact hlt), getElem_le v 8 k hlt] at hx
        exact (Option.some.inj hx).symm
      obtain ⟨v2, hv2⟩ : ∃ v2, v2 = v / 256 ^ k := ⟨_, rfl⟩
      rw [← hv2] at hq2 hx2 ⊢
      have HV := Lib.hid hv2
      have hx3 : x = (v2 : Int) % 256 := by rw [hx2]; rfl
      subst hx3
      clear hv2 hx hx2
      go_wp2_with fail
      go_round
      case rel => exact ⟨k + 1, by omega, by go_num, by rw [pow256_succ, ← Nat.div_div_eq_div_mul, ← HV.out]; exact congrArg (Value.int .u64) (by omega)⟩
      case measure => simp [intOf]; omega
    · obtain rfl : k = 8 := by omega
      go_wp2_with fail
      go_ret
      exact ⟨rfl, k4⟩
end Go.Proofs.Ytiofhdckhaejiaa
