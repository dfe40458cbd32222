/-
  THE WALK OF THE LAW VectorsWorth: it answers true, and turns nothing that was there. Conditions: the arguments are slices of int32 that came in.
-/
import Derived.Test.YtiofhdckhaejiaaWorth
import Derived.Test.YtiofhdckhaejiaaOpen
import Derived.Test.YtiofhdckhaejiaaInfo
namespace Go.Proofs.Ytiofhdckhaejiaa
open Go.RowKit

theorem reach600 {l : List Int} (h : (l.length : Int) ≤ 600) : Reach l.length := by unfold Reach; omega
theorem In.small_i32 {w : World} {a : Option Addr} {c : Nat} {xs : List Int} (h : In .i32 w a c xs) : Small xs := fun x hx => by
  obtain ⟨j, hj⟩ := List.getElem?_of_mem hx
  have := h.bd_i32 hj
  omega

set_option maxRecDepth 100000 in
set_option maxHeartbeats 1600000 in
theorem vectorsWorth_w (A0 : Option Addr) (c0 : Nat) (xs : List Int) (A1 : Option Addr) (c1 : Nat) (ys : List Int) (i : Int) (w : World) (hx : In .i32 w A0 c0 xs) (hy : In .i32 w A1 c1 ys) :
    Calls Try.prog 3 #[.slice A0 xs.length c0, .slice A1 ys.length c1, .int .i64 i] w fun e w' => e = .returned (.bool true) ∧ Below w.heap.size w w' := by
  have lx := hx.len
  have ly := hy.len
  by_cases hL0 : (600 : Int) < xs.length
  · go_enter Try.func3, Try.ntmps3
    go_wp2
    go_ret
    exact ⟨rfl, Below.refl _ _⟩
  by_cases hL1 : (600 : Int) < ys.length
  · go_enter Try.func3, Try.ntmps3
    go_wp2
    go_ret
    exact ⟨rfl, Below.refl _ _⟩
  have rx := reach600 (l := xs) (by omega)
  have ry := reach600 (l := ys) (by omega)
  have sx := hx.small_i32
  have sy := hy.small_i32
  go_enter Try.func3, Try.ntmps3
  go_wp2_with fail
  go_loopw [7, 9] (fun v i wr => ∃ (k : Nat) (A : Option Addr) (c : Nat), k ≤ xs.length ∧ i = .int .i64 k ∧ v = .slice A k c ∧ Fr 3 wr w.heap.size A k c (cs .i64 (xs.take k)) ∧ Keep w wr) (fun _ i _ => xs.length - (intOf i).toNat)
  case atStart => exact ⟨0, none, 0, Nat.zero_le _, rfl, rfl, Fr.empty _ _ _ _, Keep.refl _⟩
  case round =>
    obtain ⟨k, A, c, hk, rfl, rfl, hfr, hkeep⟩ := hrel
    by_cases hlt : k < xs.length
    · obtain ⟨b1, o1, x, rfl, hxk, hc1⟩ := (hx.rd.keep hkeep).int_at hlt
      have bx := hx.bd_i32 hxk
      have HX := Lib.hid hxk
      clear hxk
      go_wp2_with (at_builtin; refine wpList_append_fr _ rfl _ _ 23 rfl w.heap.size 3 (.int .i64 0) 8 Try.underlying23 infoInt rfl A k c _ rfl (hfr.keep (Keep.alloc1 _ _)) (some ⟨wr.heap.size, 0, none⟩) 1 1 [.int .i64 x] rfl rfl (Rd.one _ _ _) (one_int _ _) ?c1 ?c2 ?c3 ?_)
      case c1 => unfold maxLen; omega
      case c2 => omega
      case c3 => have := hkeep.size; simp; omega
      intro A' c' w1 happ
      have hk1 := happ.keep (hkeep.alloc _) (hfr.keep (Keep.alloc1 _ _))
      have hf1 := happ.fr
      rw [cs_take_succ HX.out] at hf1
      clear happ hfr
      go_wp2_with fail
      go_roundw
      case rel => exact ⟨k + 1, A', c', by omega, by go_num, rfl, hf1, hk1⟩
      case measure => simp [intOf]; omega
    · obtain rfl : k = xs.length := by omega
      rw [List.take_length] at hfr
      go_wp2_with fail
      obtain ⟨W1, hW1⟩ : ∃ W1, W1 = wr := ⟨_, rfl⟩
      subst hW1
      go_loopw [8, 10] (fun v i wr => ∃ (k : Nat) (B : Option Addr) (d : Nat), k ≤ ys.length ∧ i = .int .i64 k ∧ v = .slice B k d ∧ Fr 3 wr W1.heap.size B k d (cs .i64 (ys.take k)) ∧ Keep W1 wr) (fun _ i _ => ys.length - (intOf i).toNat)
      case atStart => exact ⟨0, none, 0, Nat.zero_le _, rfl, rfl, Fr.empty _ _ _ _, Keep.refl _⟩
      case round =>
        obtain ⟨k, B, d, hk, rfl, rfl, hfb, hkb⟩ := hrel
        by_cases hlt : k < ys.length
        · obtain ⟨b1, o1, x, rfl, hxk, hc1⟩ := (hy.rd.keep (hkeep.trans hkb)).int_at hlt
          have bx := hy.bd_i32 hxk
          have HX := Lib.hid hxk
          clear hxk
          go_wp2_with (at_builtin; refine wpList_append_fr _ rfl _ _ 23 rfl W1.heap.size 3 (.int .i64 0) 8 Try.underlying23 infoInt rfl B k d _ rfl (hfb.keep (Keep.alloc1 _ _)) (some ⟨wr.heap.size, 0, none⟩) 1 1 [.int .i64 x] rfl rfl (Rd.one _ _ _) (one_int _ _) ?d1 ?d2 ?d3 ?_)
          case d1 => unfold maxLen; omega
          case d2 => omega
          case d3 => have := hkb.size; simp; omega
          intro A' c' w1 happ
          have hk1 := happ.keep (hkb.alloc _) (hfb.keep (Keep.alloc1 _ _))
          have hf1 := happ.fr
          rw [cs_take_succ HX.out] at hf1
          clear happ hfb
          go_wp2_with fail
          go_roundw
          case rel => exact ⟨k + 1, A', c', by omega, by go_num, rfl, hf1, hk1⟩
          case measure => simp [intOf]; omega
        · obtain rfl : k = ys.length := by omega
          rw [List.take_length] at hfb
          have hra := (hfr.keep hkb).rd
          have hrb := hfb.rd
          have hkk := hkeep.trans hkb
          clear hfr hfb hkeep hkb
          go_wp2_with fail
          obtain ⟨W2, hW2⟩ : ∃ W2, W2 = wr := ⟨_, rfl⟩
          subst hW2
          go_loopw [11] (fun i wr => ∃ j : Int, -1 ≤ j ∧ j ≤ xs.length + 1 ∧ i = .int .i64 j ∧ Keep W2 wr) (fun i _ => ((xs.length : Int) + 1 - intOf i).toNat)
          case atStart => exact ⟨-1, by omega, by omega, rfl, Keep.refl _⟩
          case round =>
            obtain ⟨j, hj0, hj1, rfl, hk2⟩ := hrel
            by_cases hlt : j ≤ xs.length
            · go_wp2_with fail
              refine (tellsK (worth_f _ _ _ _ _ _ _ _ (hra.keep hk2) (hrb.keep hk2) rx ry sx sy)).mono ?_
              rintro e w3 ⟨rfl, hk3⟩
              go_wp2_with fail
              refine (tellsK (refWorth_f _ _ _ _ _ _ _ _ (hra.keep (hk2.trans hk3)) (hrb.keep (hk2.trans hk3)) rx ry sx sy)).mono ?_
              rintro e w4 ⟨rfl, hk4⟩
              go_wp2_with fail
              go_roundw
              case rel => exact ⟨j + 1, by omega, by omega, rfl, (hk2.trans hk3).trans hk4⟩
              case measure => simp [intOf]; omega
            · go_wp2_with fail
              refine (tellsK (worth_f _ _ _ _ _ _ _ _ (hra.keep hk2) (hrb.keep hk2) rx ry sx sy)).mono ?_
              rintro e w3 ⟨rfl, hk3⟩
              go_wp2_with fail
              refine (tellsK (refWorth_f _ _ _ _ _ _ _ _ (hra.keep (hk2.trans hk3)) (hrb.keep (hk2.trans hk3)) rx ry sx sy)).mono ?_
              rintro e w4 ⟨rfl, hk4⟩
              go_wp2_with fail
              go_ret
              exact ⟨by simp, ((hkk.trans hk2).trans hk3).trans hk4⟩
end Go.Proofs.Ytiofhdckhaejiaa
