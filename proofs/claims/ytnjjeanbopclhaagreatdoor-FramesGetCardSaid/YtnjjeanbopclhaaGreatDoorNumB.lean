/-
  CONTRACTS for the package nums: PutList. Conditions: the slices are no longer than memory lets them be; a nil slice has no capacity.
-/
import Derived.Test.YtnjjeanbopclhaaGreatDoorNumA
namespace Go.Proofs.YtnjjeanbopclhaaGreatDoor
open Go.RowKit

theorem u64_cast (x : Int) : ((u64 x : Nat) : Int) = x % 18446744073709551616 := by unfold u64; omega
/-- The bytes of the first k numbers. -/
def flat4 (l : List Int) : List Int := l.flatMap fun x => le (u64 x) 4
theorem flat4_snoc (l : List Int) (x : Int) : flat4 (l ++ [x]) = flat4 l ++ le (u64 x) 4 := by simp [flat4]
theorem flat4_take {l : List Int} {k : Nat} {x : Int} (h : l[k]? = some x) : flat4 (l.take (k + 1)) = flat4 (l.take k) ++ le (u64 x) 4 := by
  rw [List.take_add_one, h]
  exact flat4_snoc _ _
theorem length_flat (l : List Int) : (flat4 l).length = 4 * l.length := length_flat4 l

/-- What a function leaves that answers a row of bytes of its own. -/
def Rows (zs : List Int) (w : World) (e : Ending) (w' : World) : Prop :=
  ∃ A', e = .returned (.slice A' zs.length zs.length) ∧ Fr 5 w' w.heap.size A' zs.length zs.length (cs .u8 zs) ∧ Keep w w'
theorem PutP.rows {xs : List Int} {v k : Nat} {w w' : World} {e : Ending} (h : PutP xs v k w e w') : Rows (xs ++ le v k) w e w' := by
  obtain ⟨A', rfl, hf, hk⟩ := h
  have e1 : (xs ++ le v k).length = xs.length + k := by simp
  exact ⟨A', by rw [e1], by rw [e1]; exact hf, hk⟩
theorem put_r (A : Option Addr) (c : Nat) (xs : List Int) (v : Nat) (b : Int) (w : World) (ha : Rd w A (cs .u8 xs)) (la : xs.length ≤ 140737488351000) (hA : A = none → c = 0) (hb : -9223372036854775808 ≤ b ∧ b ≤ 9223372036854775807) :
    Calls Tryz.prog 29 #[.slice A xs.length c, .int .u64 (v : Int), .int .i64 b] w (Rows (xs ++ le v (clampB b)) w) :=
  (put_f A c xs v b w ha la hA hb).mono fun _ _ h => h.rows

/-- What has come when k numbers are put. -/
def putAcc (xs zs : List Int) (k : Nat) : List Int := xs ++ (le zs.length 1 ++ flat4 (zs.take k))
theorem putAcc_zero (xs zs : List Int) : xs ++ le zs.length (clampB 1) = putAcc xs zs 0 := by
  rw [putAcc, List.take_zero]
  show _ = xs ++ (le zs.length 1 ++ [])
  rw [List.append_nil]
  rfl
theorem putAcc_succ {xs zs : List Int} {k : Nat} {x : Int} (h : zs[k]? = some x) : putAcc xs zs k ++ le (u64 x) (clampB 4) = putAcc xs zs (k + 1) := by
  rw [putAcc, putAcc, flat4_take h, List.append_assoc, List.append_assoc]
  rfl
theorem putAcc_all (xs zs : List Int) : putAcc xs zs zs.length = xs ++ putL zs := by rw [putAcc, List.take_length]; rfl
theorem length_putAcc (xs zs : List Int) (k : Nat) : (putAcc xs zs k).length ≤ xs.length + 1 + 4 * k := by
  rw [putAcc, List.length_append, List.length_append, length_le, length_flat, List.length_take]
  omega

set_option maxRecDepth 100000 in
set_option maxHeartbeats 1600000 in
theorem putList_f (A : Option Addr) (c : Nat) (xs : List Int) (B : Option Addr) (d : Nat) (ys : List Int) (w : World) (ha : Rd w A (cs .u8 xs)) (la : xs.length ≤ 140737488340000) (hA : A = none → c = 0)
    (hb : Rd w B (cs .i64 ys)) (hd : ys.length ≤ d) (lb : Len d) :
    Calls Tryz.prog 32 #[.slice A xs.length c, .slice B ys.length d] w (Rows (xs ++ putL (ys.take 255)) w) := by
  have lb' := lb.le
  have hd' : (ys.length : Int) ≤ d := by omega
  obtain ⟨zs, hz⟩ : ∃ zs, zs = ys.take 255 := ⟨_, rfl⟩
  have hz1 : (zs.length : Int) = min (ys.length : Int) 255 := by rw [hz, List.length_take]; omega
  have hbz : Rd w B (cs .i64 zs) := by rw [hz, ← cs_take]; exact hb.take 255
  rw [← hz]
  have HZ := Lib.hid hz
  clear hz hb
  have hw0 : Keep w w := Keep.refl w
  by_cases hbig : 255 < ys.length
  case' pos =>
    have hl1 : zs.length ≤ 255 := by omega
    have hl2 : 255 ≤ zs.length := by omega
    have e255 : zs.length = 255 := by omega
    have hp0 := put_r A c xs 255 1 w ha (by omega) hA (by omega)
    rw [← e255, putAcc_zero] at hp0
    have HE := Lib.hid e255
    clear e255 hz1
    have hbI : (255 : Int) < ys.length := by omega
    go_enter Tryz.func32, Tryz.ntmps32
    go_wp2_with fail
    rw [HE.out] at hp0
    refine hp0.mono ?_
  case' neg =>
    have e1 : zs = ys := by rw [HZ.out]; exact List.take_of_length_le (by omega)
    subst e1
    have hl1 : zs.length ≤ 255 := by omega
    have hp0 := put_r A c xs zs.length 1 w ha (by omega) hA (by omega)
    rw [putAcc_zero] at hp0
    clear hz1
    go_enter Tryz.func32, Tryz.ntmps32
    go_wp2_with fail
    refine hp0.mono ?_
  all_goals
    rintro e w1 ⟨A1, rfl, hf1, hk1⟩
    go_wp2_with fail
    go_loopw [5, 20] (fun s i wr => ∃ (k : Nat) (A' : Option Addr), k ≤ zs.length ∧ i = .int .i64 k ∧ s = .slice A' (putAcc xs zs k).length (putAcc xs zs k).length ∧ Fr 5 wr w.heap.size A' (putAcc xs zs k).length (putAcc xs zs k).length (cs .u8 (putAcc xs zs k)) ∧ Keep w wr) (fun _ i _ => zs.length - (intOf i).toNat)
    case atStart => exact ⟨0, A1, Nat.zero_le _, rfl, rfl, hf1, hk1⟩
    case round =>
      obtain ⟨k, A2, hk, rfl, rfl, hfr, hkeep⟩ := hrel
      by_cases hlt : k < zs.length
      · obtain ⟨b1, o1, x, rfl, hxk, hc1⟩ := (hbz.keep hkeep).int_at hlt
        have hla := length_putAcc xs zs k
        have hp := put_r A2 _ (putAcc xs zs k) (u64 x) 4 wr hfr.rd (by omega) (fun h => hfr.capNil h) (by omega)
        rw [u64_cast, putAcc_succ hxk] at hp
        clear hxk hla
        go_wp2_with fail
        refine hp.mono ?_
        rintro e w2 ⟨A3, rfl, hf2, hk2⟩
        go_wp2_with fail
        go_roundw
        case rel => exact ⟨k + 1, A3, by omega, by go_num, rfl, hf2.mono hkeep.size, hkeep.trans hk2⟩
        case measure => simp [intOf]; omega
      · obtain rfl : k = zs.length := by omega
        go_wp2_with fail
        go_ret
        rw [putAcc_all] at hfr ⊢
        exact ⟨A2, rfl, hfr, hkeep⟩
end Go.Proofs.YtnjjeanbopclhaaGreatDoor
