/-
  CONTRACTS for the package nums: the library's Clone and Clip of a slice of bytes, Put. Conditions: the slice is no longer than an append may take; a nil slice has no capacity.
-/
import Derived.Test.YtnjjeanbopclhaaGreatDoorRange
import Derived.Test.YtnjjeanbopclhaaGreatDoorAid
import Derived.Test.YtnjjeanbopclhaaGreatDoorInfo
namespace Go.Proofs.YtnjjeanbopclhaaGreatDoor
open Go.RowKit

set_option maxRecDepth 100000 in
theorem clipB_f (A : Option Addr) (m c : Nat) (w : World) (hm : m ≤ c) (lm : Len c) :
    Calls Tryz.prog 31 #[.slice A m c] w fun e w' => e = .returned (.slice A m m) ∧ w = w' := by
  have lm' := lm.le
  have hm' : (m : Int) ≤ c := by omega
  go_enter Tryz.func31, Tryz.ntmps31
  go_wp2
  go_ret
  exact ⟨rfl, rfl⟩

theorem one_cs (k : IntKind) (xs : List Int) : ∀ u ∈ cs k xs, u.oneCell' = true := by
  intro u hu
  simp only [cs, List.mem_map] at hu
  obtain ⟨x, _, rfl⟩ := hu
  rfl

set_option maxRecDepth 100000 in
set_option maxHeartbeats 400000 in
theorem cloneB_f (A : Option Addr) (c : Nat) (xs : List Int) (w : World) (ha : Rd w A (cs .u8 xs)) (la : Reach xs.length) (hA : A = none → c = 0) :
    Calls Tryz.prog 81 #[.slice A xs.length c] w fun e w' => ∃ A' c', e = .returned (.slice A' xs.length c') ∧ Fr 5 w' w.heap.size A' xs.length c' (cs .u8 xs) ∧ Keep w w' := by
  have la' := la.le
  cases A with
  | none =>
    obtain rfl := hA rfl
    obtain rfl : xs = [] := by have := ha.none_len; simpa [cs] using this
    have he : ∀ w : World, (binOp .eql 25 (.slice none 0 0) (.slice none 0 0)).run Tryz.prog w = .ok (.bool true) w := fun _ => rfl
    go_enter Tryz.func81, Tryz.ntmps81
    go_wp2_with fail
    go_ret
    exact ⟨none, 0, rfl, Fr.empty _ _ _ _, Keep.refl _⟩
  | some a =>
    have he : ∀ w : World, (binOp .eql 25 (.slice (some a) xs.length c) (.slice none 0 0)).run Tryz.prog w = .ok (.bool false) w := fun _ => rfl
    go_enter Tryz.func81, Tryz.ntmps81
    go_wp2_with (at_builtin; refine wpList_append_fr _ rfl _ _ 25 rfl w.heap.size 5 (.int .u8 0) 1 Tryz.underlying25 infoByte rfl _ 0 0 [] rfl (Fr.empty _ _ _ _) (some a) xs.length c (cs .u8 xs) rfl (length_cs _ _) (ha.keep (Keep.alloc1 _ _)) (one_cs _ _) ?c1 ?c2 ?c3 ?_)
    case c1 => unfold maxLen; omega
    case c2 => omega
    case c3 => simp
    intro A' c' w1 happ
    have hf := happ.fr
    have hk := happ.keep ((Keep.refl w).alloc _) (Fr.empty _ _ _ _)
    clear happ
    go_wp2_with fail
    go_ret
    exact ⟨A', c', rfl, hf, hk⟩

/-- What Put leaves. -/
def PutP (xs : List Int) (v k : Nat) (w : World) (e : Ending) (w' : World) : Prop :=
  ∃ A', e = .returned (.slice A' (xs.length + k) (xs.length + k)) ∧ Fr 5 w' w.heap.size A' (xs.length + k) (xs.length + k) (cs .u8 (xs ++ le v k)) ∧ Keep w w'

set_option maxRecDepth 100000 in
set_option maxHeartbeats 1600000 in
theorem put_f (A : Option Addr) (c : Nat) (xs : List Int) (v : Nat) (b : Int) (w : World) (ha : Rd w A (cs .u8 xs)) (la : xs.length ≤ 140737488351000) (hA : A = none → c = 0) (hb : -9223372036854775808 ≤ b ∧ b ≤ 9223372036854775807) :
    Calls Tryz.prog 29 #[.slice A xs.length c, .int .u64 (v : Int), .int .i64 b] w (PutP xs v (clampB b) w) := by
  have hcl1 : (clampB b : Int) ≤ max 0 (min b 8) := by unfold clampB; omega
  have hcl2 : max 0 (min b 8) ≤ (clampB b : Int) := by unfold clampB; omega
  have hcl3 := clampB_le b
  generalize clampB b = cb at hcl1 hcl2 hcl3 ⊢
  go_enter Tryz.func29, Tryz.ntmps29
  go_wp2_with fail
  refine (cloneB_f A c xs w ha (by unfold Reach; omega) hA).mono ?_
  rintro e w1 ⟨A1, c1, rfl, hf1, hk1⟩
  clear hA ha
  have hs1 := hk1.size
  go_wp2_with fail
  all_goals
    go_loopw [1, 7, 13] (fun u s i wr => ∃ (k : Nat) (A' : Option Addr) (c' : Nat), k ≤ cb ∧ i = .int .i64 k ∧ s = .slice A' (xs.length + k) c' ∧ u = .int .u64 ((v / 256 ^ k : Nat) : Int) ∧ Fr 5 wr w.heap.size A' (xs.length + k) c' (cs .u8 (xs ++ le v k)) ∧ Keep w wr) (fun _ _ i _ => cb - (intOf i).toNat)
    case atStart => exact ⟨0, A1, c1, Nat.zero_le _, rfl, rfl, by simp, by simpa [le] using hf1, hk1⟩
    case round =>
      obtain ⟨k, A2, c2, hk, rfl, rfl, rfl, hfr, hkeep⟩ := hrel
      have hq : v / 256 ^ k ≤ v := Nat.div_le_self _ _
      by_cases hlt : k < cb
      · first
        | exfalso
          omega
        | obtain ⟨v2, hv2⟩ : ∃ v2, v2 = v / 256 ^ k := ⟨_, rfl⟩
          rw [← hv2] at hq ⊢
          have HV := Lib.hid hv2
          clear hv2
          go_wp2_with (at_builtin; refine wpList_append_fr _ rfl _ _ 25 rfl w.heap.size 5 (.int .u8 0) 1 Tryz.underlying25 infoByte rfl A2 _ c2 _ rfl (hfr.keep (Keep.alloc1 _ _)) (some ⟨wr.heap.size, 0, none⟩) 1 1 [.int .u8 ((v2 : Int) % 256)] rfl rfl (Rd.one _ _ _) (one_int _ _) ?c1 ?c2 ?c3 ?_)
          case c1 => unfold maxLen; omega
          case c2 => omega
          case c3 => have := hkeep.size; simp; omega
          intro A' c' w2 happ
          have hk2 := happ.keep (hkeep.alloc _) (hfr.keep (Keep.alloc1 _ _))
          have hf2 := happ.fr
          rw [← cs_one, ← cs_append, List.append_assoc, show le v k ++ [(v2 : Int) % 256] = le v (k + 1) by rw [le_succ, HV.out]; rfl] at hf2
          clear happ hfr
          go_wp2_with fail
          go_roundw
          case rel =>
            refine ⟨k + 1, A', c', by omega, by go_num, rfl, ?_, hf2, hk2⟩
            rw [pow256_succ, ← Nat.div_div_eq_div_mul, ← HV.out]
            exact congrArg (Value.int .u64) (by omega)
          case measure => simp [intOf]; omega
      · obtain rfl : k = cb := by omega
        go_wp2_with fail
        refine (clipB_f A2 (xs.length + k) c2 _ hfr.cap (by have := hfr.capMax; unfold maxLen at this; unfold Len; omega)).mono ?_
        rintro e w3 ⟨rfl, rfl⟩
        go_wp2_with fail
        go_ret
        exact ⟨A2, rfl, hfr.clip, hkeep⟩
end Go.Proofs.YtnjjeanbopclhaaGreatDoor
