/-
  CONTRACTS of the document's answer of chapter 1: Put, PutList. Conditions: the slices are no longer than memory lets them be.
-/
import Derived.Test.YtjhbpocffckghaaGreatDoorNumB
import Derived.Test.YtjhbpocffckghaaGreatDoorTwinI
namespace Go.Proofs.YtjhbpocffckghaaGreatDoor
open Go.RowKit

theorem sh_byte (v k : Nat) : (v : Int) / 2 ^ (8 * k) % 256 = ((v / 256 ^ k % 256 : Nat) : Int) := by
  have h : (2 : Int) ^ (8 * k) = ((256 ^ k : Nat) : Int) := by
    rw [Int.natCast_pow, Int.pow_mul]
    rfl
  rw [h]
  rfl
/-- A slice of the call's own that reads as zs; there may be room behind. -/
def RowsC (zs : List Int) (w : World) (e : Ending) (w' : World) : Prop :=
  ∃ A' c', e = .returned (.slice A' zs.length c') ∧ Fr 5 w' w.heap.size A' zs.length c' (cs .u8 zs) ∧ Keep w w'

set_option maxRecDepth 100000 in
set_option maxHeartbeats 2000000 in
theorem refPut_f (A : Option Addr) (c : Nat) (xs : List Int) (v : Nat) (b : Int) (w : World) (ha : Rd w A (cs .u8 xs)) (la : xs.length ≤ 1000000) (hb : -9223372036854775808 ≤ b ∧ b ≤ 9223372036854775807) :
    Calls Tryz.prog 34 #[.slice A xs.length c, .int .u64 (v : Int), .int .i64 b] w fun e w' => ∃ A' c', e = .returned (.slice A' (xs.length + clampB b) c') ∧ Fr 5 w' w.heap.size A' (xs.length + clampB b) c' (cs .u8 (xs ++ le v (clampB b))) ∧ Keep w w' := by
  have hcl1 : (clampB b : Int) ≤ max 0 (min b 8) := by unfold clampB; omega
  have hcl2 : max 0 (min b 8) ≤ (clampB b : Int) := by unfold clampB; omega
  obtain ⟨hb0, hb1⟩ := hb
  obtain ⟨cb, hcb⟩ : ∃ cb, cb = clampB b := ⟨_, rfl⟩
  rw [← hcb] at hcl1 hcl2 ⊢
  clear hcb
  go_enter Tryz.func34, Tryz.ntmps34
  go_wp2_with (at_builtin; refine wpList_append_fr _ rfl _ _ 25 rfl w.heap.size 5 (.int .u8 0) 1 Tryz.underlying25 infoByte rfl none 0 0 [] rfl (Fr.empty _ _ _ _) A xs.length c (cs .u8 xs) rfl (length_cs _ _) ha (one_cs _ _) ?c1 ?c2 ?c3 ?_)
  case c1 => unfold maxLen; omega
  case c2 => omega
  case c3 => exact Nat.le_refl _
  intro A1 c1 w1 happ
  have k1 := happ.keep (Keep.refl _) (Fr.empty _ _ _ _)
  have f1 := happ.fr
  clear happ
  try simp only [Nat.zero_add]
  go_wp2_with fail
  go_loopw [7, 8] (fun u i wr => ∃ (k : Nat) (A' : Option Addr) (c' : Nat), k ≤ cb ∧ i = .int .i64 k ∧ u = .slice A' (xs.length + k) c' ∧ Fr 5 wr w.heap.size A' (xs.length + k) c' (cs .u8 (xs ++ le v k)) ∧ Keep w wr) (fun _ i _ => cb - (intOf i).toNat)
  case atStart => exact ⟨0, A1, c1, Nat.zero_le _, rfl, rfl, by rw [show le v 0 = [] from rfl, List.append_nil]; exact f1, k1⟩
  case round =>
    clear f1 k1
    obtain ⟨k, A2, c2, hk, rfl, rfl, hfr, hkeep⟩ := hrel
    by_cases hlt : k < cb
    · have h8 : k < 8 := by omega
      have y1 : decide ((k : Int) < b) = true := decide_eq_true (by omega)
      have y2 : (k : Int) < 8 := by omega
      have hsh := sh_byte v k
      have HSH := Lib.hid hsh
      clear hsh
      go_wp2_with (at_builtin; refine wpList_append_fr _ rfl _ _ 25 rfl w.heap.size 5 (.int .u8 0) 1 Tryz.underlying25 infoByte rfl A2 _ c2 _ rfl (hfr.keep (Keep.alloc1 _ _)) (some ⟨wr.heap.size, 0, none⟩) 1 1 [.int .u8 ((v : Int) / 2 ^ (8 * k) % 256)] rfl rfl (Rd.one _ _ _) (one_int _ _) ?e1 ?e2 ?e3 ?_)
      case e1 => unfold maxLen; omega
      case e2 => omega
      case e3 => have := hkeep.size; simp; omega
      intro A' c' w2 happ
      have hk2 := happ.keep (hkeep.alloc _) (hfr.keep (Keep.alloc1 _ _))
      have hf2 := happ.fr
      rw [HSH.out, ← cs_one, ← cs_append, List.append_assoc, show le v k ++ [((v / 256 ^ k % 256 : Nat) : Int)] = le v (k + 1) from (le_succ v k).symm] at hf2
      clear happ hfr
      go_wp2_with fail
      go_roundw
      case rel => exact ⟨k + 1, A', c', by omega, by go_num, rfl, hf2, hk2⟩
      case measure => simp [intOf]; omega
    · obtain rfl : k = cb := by omega
      by_cases h8 : (k : Int) < b
      · have y1 : decide ((k : Int) < b) = true := decide_eq_true h8
        have y2 : decide ((k : Int) < 8) = false := decide_eq_false (by omega)
        go_wp2_with fail
        go_ret
        exact ⟨A2, c2, rfl, hfr, hkeep⟩
      · have y1 : decide ((k : Int) < b) = false := decide_eq_false h8
        go_wp2_with fail
        go_ret
        exact ⟨A2, c2, rfl, hfr, hkeep⟩
theorem refPut_r (A : Option Addr) (c : Nat) (xs : List Int) (v : Nat) (b : Int) (w : World) (ha : Rd w A (cs .u8 xs)) (la : xs.length ≤ 1000000) (hb : -9223372036854775808 ≤ b ∧ b ≤ 9223372036854775807) :
    Calls Tryz.prog 34 #[.slice A xs.length c, .int .u64 (v : Int), .int .i64 b] w (RowsC (xs ++ le v (clampB b)) w) :=
  (refPut_f A c xs v b w ha la hb).mono fun _ _ ⟨A', c', h1, h2, h3⟩ => by
    have e : (xs ++ le v (clampB b)).length = xs.length + clampB b := by simp
    exact ⟨A', c', by rw [e]; exact h1, by rw [e]; exact h2, h3⟩

set_option maxRecDepth 100000 in
set_option maxHeartbeats 1600000 in
theorem refPutList_f (A : Option Addr) (c : Nat) (xs : List Int) (B : Option Addr) (d : Nat) (ys : List Int) (w : World) (ha : Rd w A (cs .u8 xs)) (la : xs.length ≤ 900000)
    (hb : Rd w B (cs .i64 ys)) (hd : ys.length ≤ d) (lb : Len d) :
    Calls Tryz.prog 36 #[.slice A xs.length c, .slice B ys.length d] w (RowsC (xs ++ putL (ys.take 255)) w) := by
  have lb' := lb.le
  have hd' : (ys.length : Int) ≤ d := by omega
  obtain ⟨zs, hz⟩ : ∃ zs, zs = ys.take 255 := ⟨_, rfl⟩
  have hz1 : (zs.length : Int) = min (ys.length : Int) 255 := by rw [hz, List.length_take]; omega
  have hbz : Rd w B (cs .i64 zs) := by rw [hz, ← cs_take]; exact hb.take 255
  rw [← hz]
  have HZ := Lib.hid hz
  clear hz hb
  have hw0 : Keep w w := Keep.refl w
  by_cases hbig : 255 < ys.length
  case' pos =>
    have hl1 : zs.length ≤ 255 := by omega
    have hl2 : 255 ≤ zs.length := by omega
    have e255 : zs.length = 255 := by omega
    have hp0 := refPut_r A c xs 255 1 w ha (by omega) (by omega)
    rw [← e255, putAcc_zero] at hp0
    have HE := Lib.hid e255
    clear e255 hz1
    have hbI : (255 : Int) < ys.length := by omega
    go_enter Tryz.func36, Tryz.ntmps36
    go_wp2_with fail
    rw [HE.out] at hp0
    refine hp0.mono ?_
  case' neg =>
    have e1 : zs = ys := by rw [HZ.out]; exact List.take_of_length_le (by omega)
    subst e1
    have hl1 : zs.length ≤ 255 := by omega
    have hp0 := refPut_r A c xs zs.length 1 w ha (by omega) (by omega)
    rw [putAcc_zero] at hp0
    clear hz1
    go_enter Tryz.func36, Tryz.ntmps36
    go_wp2_with fail
    refine hp0.mono ?_
  all_goals
    rintro e w1 ⟨A1, c1, rfl, hf1, hk1⟩
    go_wp2_with fail
    go_loopw [5, 6] (fun s i wr => ∃ (k : Nat) (A' : Option Addr) (c' : Nat), k ≤ zs.length ∧ i = .int .i64 k ∧ s = .slice A' (putAcc xs zs k).length c' ∧ Fr 5 wr w.heap.size A' (putAcc xs zs k).length c' (cs .u8 (putAcc xs zs k)) ∧ Keep w wr) (fun _ i _ => zs.length - (intOf i).toNat)
    case atStart => exact ⟨0, A1, c1, Nat.zero_le _, rfl, rfl, hf1, hk1⟩
    case round =>
      obtain ⟨k, A2, c2, hk, rfl, rfl, hfr, hkeep⟩ := hrel
      by_cases hlt : k < zs.length
      · obtain ⟨b1, o1, x, rfl, hxk, hc1⟩ := (hbz.keep hkeep).int_at hlt
        have hla := length_putAcc xs zs k
        have hp := refPut_r A2 c2 (putAcc xs zs k) (u64 x) 4 wr hfr.rd (by omega) (by omega)
        rw [u64_cast, putAcc_succ hxk] at hp
        clear hxk hla
        go_wp2_with fail
        refine hp.mono ?_
        rintro e w2 ⟨A3, c3, rfl, hf2, hk2⟩
        go_wp2_with fail
        go_roundw
        case rel => exact ⟨k + 1, A3, c3, by omega, by go_num, rfl, hf2.mono hkeep.size, hkeep.trans hk2⟩
        case measure => simp [intOf]; omega
      · obtain rfl : k = zs.length := by omega
        go_wp2_with fail
        go_ret
        rw [putAcc_all] at hfr ⊢
        exact ⟨A2, c2, rfl, hfr, hkeep⟩
end Go.Proofs.YtjhbpocffckghaaGreatDoor
