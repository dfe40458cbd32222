/-
  CONTRACT of the document's answer of chapter 1: PutBytes. Conditions: the slices are no longer than memory lets them be.
-/
import Derived.Test.YtjhbpocffckghaaGreatDoorRefA
import Derived.Test.YtjhbpocffckghaaGreatDoorNumF
import Derived.Test.YtjhbpocffckghaaGreatDoorTwinB
namespace Go.Proofs.YtjhbpocffckghaaGreatDoor
open Go.RowKit

set_option maxRecDepth 100000 in
set_option maxHeartbeats 1600000 in
theorem refPutBytes_f (A : Option Addr) (c : Nat) (xs : List Int) (B : Option Addr) (d : Nat) (ys : List Int) (w : World) (ha : Rd w A (cs .u8 xs)) (la : xs.length ≤ 900000)
    (hb : Rd w B (cs .u8 ys)) (hd : ys.length ≤ d) (lb : Len d) :
    Calls Tryz.prog 35 #[.slice A xs.length c, .slice B ys.length d] w (RowsC (xs ++ putBy (ys.take 65535)) w) := by
  have lb' := lb.le
  have hd' : (ys.length : Int) ≤ d := by omega
  by_cases hbig : 65535 < ys.length
  · have hbI : (65535 : Int) < ys.length := by omega
    obtain ⟨zs, hz, e65⟩ : ∃ zs, zs = ys.take 65535 ∧ zs.length = 65535 := ⟨_, rfl, by simp; omega⟩
    have hbz : Rd w B (cs .u8 zs) := by rw [hz, ← cs_take]; exact hb.take 65535
    rw [← hz]
    have HE := Lib.hid e65
    clear hz e65 hb
    have hp0 := refPut_f A c xs 65535 2 w ha (by omega) (by omega)
    go_enter Tryz.func35, Tryz.ntmps35
    go_wp2_with fail
    refine hp0.mono ?_
    rintro e w1 ⟨A1, c1, rfl, hf1, hk1⟩
    rw [show clampB 2 = 2 from rfl] at hf1 ⊢
    go_wp2_with (at_builtin; refine wpList_append_fr _ rfl _ _ 25 rfl w.heap.size 5 (.int .u8 0) 1 Tryz.underlying25 infoByte rfl A1 _ _ _ rfl hf1 B 65535 d (cs .u8 zs) rfl ((length_cs _ _).trans HE.out) (hbz.keep hk1) (one_cs _ _) ?c1 ?c2 ?c3 ?_)
    case c1 => unfold maxLen; omega
    case c2 => omega
    case c3 => exact hk1.size
    intro A' c' w2 happ
    have hk2 := happ.keep hk1 hf1
    have hf2 := happ.fr
    clear happ
    rw [← cs_append, List.append_assoc] at hf2
    have hlz : (xs ++ putBy zs).length = xs.length + 2 + 65535 := by rw [List.length_append, length_putBy, HE.out]
    have hf3 : Fr 5 w2 w.heap.size A' (xs.length + 2 + 65535) c' (cs .u8 (xs ++ putBy zs)) := by rw [putBy, HE.out]; exact hf2
    have HLZ := Lib.hid hlz
    clear hf2 hlz
    go_wp2_with fail
    go_ret
    exact ⟨A', c', by rw [HLZ.out]; rfl, by rw [HLZ.out]; exact hf3, hk2⟩
  · have e1 : ys.take 65535 = ys := List.take_of_length_le (by omega)
    rw [e1]
    clear e1
    have hp0 := refPut_f A c xs ys.length 2 w ha (by omega) (by omega)
    go_enter Tryz.func35, Tryz.ntmps35
    go_wp2_with fail
    refine hp0.mono ?_
    rintro e w1 ⟨A1, c1, rfl, hf1, hk1⟩
    rw [show clampB 2 = 2 from rfl] at hf1 ⊢
    go_wp2_with (at_builtin; refine wpList_append_fr _ rfl _ _ 25 rfl w.heap.size 5 (.int .u8 0) 1 Tryz.underlying25 infoByte rfl A1 _ _ _ rfl hf1 B ys.length d (cs .u8 ys) rfl (length_cs _ _) (hb.keep hk1) (one_cs _ _) ?c1 ?c2 ?c3 ?_)
    case c1 => unfold maxLen; omega
    case c2 => omega
    case c3 => exact hk1.size
    intro A' c' w2 happ
    have hk2 := happ.keep hk1 hf1
    have hf2 := happ.fr
    clear happ
    rw [← cs_append, List.append_assoc] at hf2
    have hlz : (xs ++ putBy ys).length = xs.length + 2 + ys.length := by rw [List.length_append, length_putBy]; omega
    have HLZ := Lib.hid hlz
    clear hlz
    go_wp2_with fail
    go_ret
    exact ⟨A', c', by rw [HLZ.out]; rfl, by rw [HLZ.out]; exact hf2, hk2⟩
end Go.Proofs.YtjhbpocffckghaaGreatDoor
