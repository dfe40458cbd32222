/-
  CONTRACTS of the document's answer of chapter 1: Put, PutList, PutBytes. Conditions: the slices are no longer than memory lets them be.
-/
import Derived.Test.YtafiahnaeakcfaaDoorNumF
import Derived.Test.YtafiahnaeakcfaaDoorTwinB
namespace Go.Proofs.YtafiahnaeakcfaaDoor
open Go.RowKit

theorem sh_byte (v k : Nat) : (v : Int) / 2 ^ (8 * k) % 256 = ((v / 256 ^ k % 256 : Nat) : Int) := by
  have h : (2 : Int) ^ (8 * k) = ((256 ^ k : Nat) : Int) := by
    rw [Int.natCast_pow, Int.pow_mul]
    rfl
  rw [h]
  rfl
/-- A slice of the call's own that reads as zs; there may be room behind. -/
def RowsC (zs : List Int) (w : World) (e : Ending) (w' : World) : Prop :=
  ∃ A' c', e = .returned (.slice A' zs.length c') ∧ Fr 5 w' w.heap.size A' zs.length c' (cs .u8 zs) ∧ Keep w w'

set_option maxRecDepth 100000 in
set_option maxHeartbeats 2000000 in
theorem refPut_f (A : Option Addr) (c : Nat) (xs : List Int) (v : Nat) (b : Int) (w : World) (ha : Rd w A (cs .u8 xs)) (la : xs.length ≤ 1000000) (hb : -9223372036854775808 ≤ b ∧ b ≤ 9223372036854775807) :
    Calls Tryd.prog 14 #[.slice A xs.length c, .int .u64 (v : Int), .int .i64 b] w fun e w' => ∃ A' c', e = .returned (.slice A' (xs.length + clampB b) c') ∧ Fr 5 w' w.heap.size A' (xs.length + clampB b) c' (cs .u8 (xs ++ le v (clampB b))) ∧ Keep w w' := by
  have hcl1 : (clampB b : Int) ≤ max 0 (min b 8) := by unfold clampB; omega
  have hcl2 : max 0 (min b 8) ≤ (clampB b : Int) := by unfold clampB; omega
  obtain ⟨hb0, hb1⟩ := hb
  obtain ⟨cb, hcb⟩ : ∃ cb, cb = clampB b := ⟨_, rfl⟩
  rw [← hcb] at hcl1 hcl2 ⊢
  clear hcb
  go_enter Tryd.func14, Tryd.ntmps14
  go_wp2_with (at_builtin; refine wpList_append_fr _ rfl _ _ 22 rfl w.heap.size 5 (.int .u8 0) 1 Tryd.underlying22 infoByte rfl none 0 0 [] rfl (Fr.empty _ _ _ _) A xs.length c (cs .u8 xs) rfl (length_cs _ _) ha (one_cs _ _) ?c1 ?c2 ?c3 ?_)
  case c1 => unfold maxLen; omega
  case c2 => omega
  case c3 => exact Nat.le_refl _
  intro A1 c1 w1 happ
  have k1 := happ.keep (Keep.refl _) (Fr.empty _ _ _ _)
  have f1 := happ.fr
  clear happ
  try simp only [Nat.zero_add]
  go_wp2_with fail
  go_loopw [7, 8] (fun u i wr => ∃ (k : Nat) (A' : Option Addr) (c' : Nat), k ≤ cb ∧ i = .int .i64 k ∧ u = .slice A' (xs.length + k) c' ∧ Fr 5 wr w.heap.size A' (xs.length + k) c' (cs .u8 (xs ++ le v k)) ∧ Keep w wr) (fun _ i _ => cb - (intOf i).toNat)
  case atStart => exact ⟨0, A1, c1, Nat.zero_le _, rfl, rfl, by rw [show le v 0 = [] from rfl, List.append_nil]; exact f1, k1⟩
  case round =>
    clear f1 k1
    obtain ⟨k, A2, c2, hk, rfl, rfl, hfr, hkeep⟩ := hrel
    by_cases hlt : k < cb
    · have h8 : k < 8 := by omega
      have y1 : decide ((k : Int) < b) = true := decide_eq_true (by omega)
      have y2 : (k : Int) < 8 := by omega
      have hsh := sh_byte v k
      have HSH := Lib.hid hsh
      clear hsh
      go_wp2_with (at_builtin; refine wpList_append_fr _ rfl _ _ 22 rfl w.heap.size 5 (.int .u8 0) 1 Tryd.underlying22 infoByte rfl A2 _ c2 _ rfl (hfr.keep (Keep.alloc1 _ _)) (some ⟨wr.heap.size, 0, none⟩) 1 1 [.int .u8 ((v : Int) / 2 ^ (8 * k) % 256)] rfl rfl (Rd.one _ _ _) (one_int _ _) ?e1 ?e2 ?e3 ?_)
      case e1 => unfold maxLen; omega
      case e2 => omega
      case e3 => have := hkeep.size; simp; omega
      intro A' c' w2 happ
      have hk2 := happ.keep (hkeep.alloc _) (hfr.keep (Keep.alloc1 _ _))
      have hf2 := happ.fr
      rw [HSH.out, ← cs_one, ← cs_append, List.append_assoc, show le v k ++ [((v / 256 ^ k % 256 : Nat) : Int)] = le v (k + 1) from (le_succ v k).symm] at hf2
      clear happ hfr
      go_wp2_with fail
      go_roundw
      case rel => exact ⟨k + 1, A', c', by omega, by go_num, rfl, hf2, hk2⟩
      case measure => simp [intOf]; omega
    · obtain rfl : k = cb := by omega
      by_cases h8 : (k : Int) < b
      · have y1 : decide ((k : Int) < b) = true := decide_eq_true h8
        have y2 : decide ((k : Int) < 8) = false := decide_eq_false (by omega)
        go_wp2_with fail
        go_ret
        exact ⟨A2, c2, rfl, hfr, hkeep⟩
      · have y1 : decide ((k : Int) < b) = false := decide_eq_false h8
        go_wp2_with fail
        go_ret
        exact ⟨A2, c2, rfl, hfr, hkeep⟩
theorem refPut_r (A : Option Addr) (c : Nat) (xs : List Int) (v : Nat) (b : Int) (w : World) (ha : Rd w A (cs .u8 xs)) (la : xs.length ≤ 1000000) (hb : -9223372036854775808 ≤ b ∧ b ≤ 9223372036854775807) :
    Calls Tryd.prog 14 #[.slice A xs.length c, .int .u64 (v : Int), .int .i64 b] w (RowsC (xs ++ le v (clampB b)) w) :=
  (refPut_f A c xs v b w ha la hb).mono fun _ _ ⟨A', c', h1, h2, h3⟩ => by
    have e : (xs ++ le v (clampB b)).length = xs.length + clampB b := by simp
    exact ⟨A', c', by rw [e]; exact h1, by rw [e]; exact h2, h3⟩

set_option maxRecDepth 100000 in
set_option maxHeartbeats 1600000 in
theorem refPutList_f (A : Option Addr) (c : Nat) (xs : List Int) (B : Option Addr) (d : Nat) (ys : List Int) (w : World) (ha : Rd w A (cs .u8 xs)) (la : xs.length ≤ 900000)
    (hb : Rd w B (cs .i64 ys)) (hd : ys.length ≤ d) (lb : Len d) :
    Calls Tryd.prog 15 #[.slice A xs.length c, .slice B ys.length d] w (RowsC (xs ++ putL (ys.take 255)) w) := by
  have lb' := lb.le
  have hd' : (ys.length : Int) ≤ d := by omega
  obtain ⟨zs, hz⟩ : ∃ zs, zs = ys.take 255 := ⟨_, rfl⟩
  have hz1 : (zs.length : Int) = min (ys.length : Int) 255 := by rw [hz, List.length_take]; omega
  have hbz : Rd w B (cs .i64 zs) := by rw [hz, ← cs_take]; exact hb.take 255
  rw [← hz]
  have HZ := Lib.hid hz
  clear hz hb
  have hw0 : Keep w w := Keep.refl w
  by_cases hbig : 255 < ys.length
  case' pos =>
    have hl1 : zs.length ≤ 255 := by omega
    have hl2 : 255 ≤ zs.length := by omega
    have e255 : zs.length = 255 := by omega
    have hp0 := refPut_r A c xs 255 1 w ha (by omega) (by omega)
    rw [← e255, putAcc_zero] at hp0
    have HE := Lib.hid e255
    clear e255 hz1
    have hbI : (255 : Int) < ys.length := by omega
    go_enter Tryd.func15, Tryd.ntmps15
    go_wp2_with fail
    rw [HE.out] at hp0
    refine hp0.mono ?_
  case' neg =>
    have e1 : zs = ys := by rw [HZ.out]; exact List.take_of_length_le (by omega)
    subst e1
    have hl1 : zs.length ≤ 255 := by omega
    have hp0 := refPut_r A c xs zs.length 1 w ha (by omega) (by omega)
    rw [putAcc_zero] at hp0
    clear hz1
    go_enter Tryd.func15, Tryd.ntmps15
    go_wp2_with fail
    refine hp0.mono ?_
  all_goals
    rintro e w1 ⟨A1, c1, rfl, hf1, hk1⟩
    go_wp2_with fail
    go_loopw [5, 6] (fun s i wr => ∃ (k : Nat) (A' : Option Addr) (c' : Nat), k ≤ zs.length ∧ i = .int .i64 k ∧ s = .slice A' (putAcc xs zs k).length c' ∧ Fr 5 wr w.heap.size A' (putAcc xs zs k).length c' (cs .u8 (putAcc xs zs k)) ∧ Keep w wr) (fun _ i _ => zs.length - (intOf i).toNat)
    case atStart => exact ⟨0, A1, c1, Nat.zero_le _, rfl, rfl, hf1, hk1⟩
    case round =>
      obtain ⟨k, A2, c2, hk, rfl, rfl, hfr, hkeep⟩ := hrel
      by_cases hlt : k < zs.length
      · obtain ⟨b1, o1, x, rfl, hxk, hc1⟩ := (hbz.keep hkeep).int_at hlt
        have hla := length_putAcc xs zs k
        have hp := refPut_r A2 c2 (putAcc xs zs k) (u64 x) 4 wr hfr.rd (by omega) (by omega)
        rw [u64_cast, putAcc_succ hxk] at hp
        clear hxk hla
        go_wp2_with fail
        refine hp.mono ?_
        rintro e w2 ⟨A3, c3, rfl, hf2, hk2⟩
        go_wp2_with fail
        go_roundw
        case rel => exact ⟨k + 1, A3, c3, by omega, by go_num, rfl, hf2.mono hkeep.size, hkeep.trans hk2⟩
        case measure => simp [intOf]; omega
      · obtain rfl : k = zs.length := by omega
        go_wp2_with fail
        go_ret
        rw [putAcc_all] at hfr ⊢
        exact ⟨A2, c2, rfl, hfr, hkeep⟩

set_option maxRecDepth 100000 in
set_option maxHeartbeats 1600000 in
theorem refPutBytes_f (A : Option Addr) (c : Nat) (xs : List Int) (B : Option Addr) (d : Nat) (ys : List Int) (w : World) (ha : Rd w A (cs .u8 xs)) (la : xs.length ≤ 900000)
    (hb : Rd w B (cs .u8 ys)) (hd : ys.length ≤ d) (lb : Len d) :
    Calls Tryd.prog 16 #[.slice A xs.length c, .slice B ys.length d] w (RowsC (xs ++ putBy (ys.take 65535)) w) := by
  have lb' := lb.le
  have hd' : (ys.length : Int) ≤ d := by omega
  by_cases hbig : 65535 < ys.length
  · have hbI : (65535 : Int) < ys.length := by omega
    obtain ⟨zs, hz, e65⟩ : ∃ zs, zs = ys.take 65535 ∧ zs.length = 65535 := ⟨_, rfl, by simp; omega⟩
    have hbz : Rd w B (cs .u8 zs) := by rw [hz, ← cs_take]; exact hb.take 65535
    rw [← hz]
    have HE := Lib.hid e65
    clear hz e65 hb
    have hp0 := refPut_f A c xs 65535 2 w ha (by omega) (by omega)
    go_enter Tryd.func16, Tryd.ntmps16
    go_wp2_with fail
    refine hp0.mono ?_
    rintro e w1 ⟨A1, c1, rfl, hf1, hk1⟩
    rw [show clampB 2 = 2 from rfl] at hf1 ⊢
    go_wp2_with (at_builtin; refine wpList_append_fr _ rfl _ _ 22 rfl w.heap.size 5 (.int .u8 0) 1 Tryd.underlying22 infoByte rfl A1 _ _ _ rfl hf1 B 65535 d (cs .u8 zs) rfl ((length_cs _ _).trans HE.out) (hbz.keep hk1) (one_cs _ _) ?c1 ?c2 ?c3 ?_)
    case c1 => unfold maxLen; omega
    case c2 => omega
    case c3 => exact hk1.size
    intro A' c' w2 happ
    have hk2 := happ.keep hk1 hf1
    have hf2 := happ.fr
    clear happ
    rw [← cs_append, List.append_assoc] at hf2
    have hlz : (xs ++ putBy zs).length = xs.length + 2 + 65535 := by rw [List.length_append, length_putBy, HE.out]
    have hf3 : Fr 5 w2 w.heap.size A' (xs.length + 2 + 65535) c' (cs .u8 (xs ++ putBy zs)) := by rw [putBy, HE.out]; exact hf2
    have HLZ := Lib.hid hlz
    clear hf2 hlz
    go_wp2_with fail
    go_ret
    exact ⟨A', c', by rw [HLZ.out]; rfl, by rw [HLZ.out]; exact hf3, hk2⟩
  · have e1 : ys.take 65535 = ys := List.take_of_length_le (by omega)
    rw [e1]
    clear e1
    have hp0 := refPut_f A c xs ys.length 2 w ha (by omega) (by omega)
    go_enter Tryd.func16, Tryd.ntmps16
    go_wp2_with fail
    refine hp0.mono ?_
    rintro e w1 ⟨A1, c1, rfl, hf1, hk1⟩
    rw [show clampB 2 = 2 from rfl] at hf1 ⊢
    go_wp2_with (at_builtin; refine wpList_append_fr _ rfl _ _ 22 rfl w.heap.size 5 (.int .u8 0) 1 Tryd.underlying22 infoByte rfl A1 _ _ _ rfl hf1 B ys.length d (cs .u8 ys) rfl (length_cs _ _) (hb.keep hk1) (one_cs _ _) ?c1 ?c2 ?c3 ?_)
    case c1 => unfold maxLen; omega
    case c2 => omega
    case c3 => exact hk1.size
    intro A' c' w2 happ
    have hk2 := happ.keep hk1 hf1
    have hf2 := happ.fr
    clear happ
    rw [← cs_append, List.append_assoc] at hf2
    have hlz : (xs ++ putBy ys).length = xs.length + 2 + ys.length := by rw [List.length_append, length_putBy]; omega
    have HLZ := Lib.hid hlz
    clear hlz
    go_wp2_with fail
    go_ret
    exact ⟨A', c', by rw [HLZ.out]; rfl, by rw [HLZ.out]; exact hf2, hk2⟩
end Go.Proofs.YtafiahnaeakcfaaDoor
