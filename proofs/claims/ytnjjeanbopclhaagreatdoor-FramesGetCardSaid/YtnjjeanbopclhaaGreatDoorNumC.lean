/-
  CONTRACTS for the package nums: the library's Backward over a slice of bytes, and the iterator that it hands back, for every loop body that turns no more than it may. Conditions: the slice is no longer than memory lets it be.
-/
import Derived.Test.YtnjjeanbopclhaaGreatDoorNumB
import Derived.Test.YtnjjeanbopclhaaGreatDoorAid
namespace Go.Proofs.YtnjjeanbopclhaaGreatDoor
open Go.RowKit
attribute [local go_sem] Oper.semAt_some

/-- What has come when k rounds are over: the last first. -/
def rs (l : List Int) (k : Nat) : List (Nat × Int) := (List.range k).map fun j => (l.length - 1 - j, l.getD (l.length - 1 - j) 0)
theorem rs_at {l : List Int} {k j : Nat} {x : Int} (hj : l.length = k + j + 1) (hx : l[j]? = some x) : rs l (k + 1) = rs l k ++ [(j, x)] := by
  have e : l.length - 1 - k = j := by omega
  unfold rs
  rw [List.range_succ, List.map_append, List.map_cons, List.map_nil, e, List.getD_eq_getElem?_getD, hx]
  rfl
theorem length_rs (l : List Int) (k : Nat) : (rs l k).length = k := by simp [rs]

set_option maxRecDepth 100000 in
theorem backward_f (A : Option Addr) (n c : Nat) (w : World) :
    Calls Tryz.prog 110 #[.slice A n c] w fun e w' =>
      e = .returned (.func (.func 113) #[] #[.pointer (some ⟨w.heap.size, 0, none⟩)]) ∧ w' = w.alloc (.cells #[.slice A n c] 25) := by
  go_enter Tryz.func110, Tryz.ntmps110
  go_wp2
  go_ret
  exact ⟨rfl, rfl⟩

set_option maxRecDepth 100000 in
set_option maxHeartbeats 2000000 in
theorem backward1_in (F : Fence) (n : Nat) (hF : F.fn 113) (hro : F.round = none) (hn : 1 ≤ n) (l Bb lo hi n₁ c : Nat) (A : Option Addr) (xs : List Int)
    (lx : Reach xs.length) (hp1 : hi ≤ Bb) (hp2 : Bb < n₁) (hlo : lo ≤ n₁) (J Jx : List (Nat × Int) → World → Prop)
    (hY : ∀ pre x W, J pre W → pre.length < xs.length → YieldAt F (n - 1) Tryz.prog l #[.int .i64 (x.1 : Int), .int .u8 x.2] W fun e W' =>
      (e = .returned (.bool true) ∧ J (pre ++ [x]) W' ∧ KeepX lo hi n₁ W W') ∨ (e = .returned (.bool false) ∧ Jx (pre ++ [x]) W'))
    (W : World) (hBb : Boxed W Bb 25 (.slice A xs.length c)) (ha : RdB lo W A (cs .u8 xs)) (h0 : J [] W) :
    CallsIn F n Tryz.prog 113 #[.func (.yield l) #[] #[], .pointer (some ⟨Bb, 0, none⟩)] W fun e W' => (∃ v, e = .returned v) ∧
      ((∃ zs, zs = rs xs xs.length ∧ J zs W') ∨ (∃ pre, True ∧ Jx pre W')) := by
  have lx' := lx.le
  have cBb := hBb.cell
  refine callsIn_of_wp Tryz.func113 rfl hF ?_ hro
  simp only [Tryz.ntmps113, List.size_toArray, List.length_cons, List.length_nil, Nat.reduceAdd, Nat.reduceSub, Array.replicate_succ, Array.replicate_zero, List.push_toArray, List.append_toArray, List.nil_append, List.cons_append]
  gi_wp2
  gi_loopw [3] (fun v wr => ∃ (k : Nat) (i : Int), v = .int .i64 i ∧ i + 1 + k = xs.length ∧ k ≤ xs.length ∧ J (rs xs k) wr ∧ KeepX lo hi n₁ W wr) (fun v _ => (intOf v + 1).toNat)
  case atStart => exact ⟨0, (xs.length : Int) - 1, by go_num, by omega, Nat.zero_le _, h0, KeepX.refl _ _ _ _⟩
  case round =>
    obtain ⟨k, i, rfl, hi1, hk, hJ, hkx⟩ := hrel
    have cBk := (hkx.boxed hBb hp2 (.inr hp1)).cell
    by_cases hlt : k < xs.length
    · obtain ⟨j, hj⟩ : ∃ j : Nat, xs.length = k + j + 1 := ⟨xs.length - 1 - k, by omega⟩
      obtain rfl : i = (j : Int) := by omega
      have hlj : j < xs.length := by omega
      obtain ⟨b1, o1, x, rfl, hx, hc1⟩ := (ha.keepX hkx hlo).rd.int_at hlj
      have HG := Lib.hid (rs_at hj hx)
      have HJ := Lib.hid hj
      clear hx hj hi1
      obtain ⟨fn, tmps, assign, body, hyi, hR⟩ := hY _ (j, x) wr hJ (by rw [length_rs]; exact hlt)
      dsimp only at hyi
      gi_wp2
      refine hR.mono ?_
      rintro e W3 (⟨rfl, hJ3, hk3⟩ | ⟨rfl, hJx3⟩)
      · gi_wp2
        go_roundw
        case rel => exact ⟨k + 1, (j : Int) - 1, by go_num, by have := HJ.out; omega, by omega, by rw [HG.out]; exact hJ3, hkx.trans hk3⟩
        case measure => simp [intOf]
      · gi_wp2
        refine bodyPost_ret (results_none rfl _ _ _) rfl ?_
        exact ⟨⟨_, rfl⟩, .inr ⟨_, trivial, hJx3⟩⟩
    · obtain rfl : k = xs.length := by omega
      obtain rfl : i = -1 := by omega
      gi_wp2
      go_end0
      exact ⟨⟨_, rfl⟩, .inl ⟨_, rfl, hJ⟩⟩

/-- The iterator, as a range over it takes it. -/
theorem backward_stops (F : Fence) (n : Nat) (hF : F.fn 113) (hro : F.round = none) (hn : 1 ≤ n) (Bb lo hi n₁ c : Nat) (A : Option Addr) (xs : List Int)
    (lx : Reach xs.length) (hp1 : hi ≤ Bb) (hp2 : Bb < n₁) (hlo : lo ≤ n₁)
    (w : World) (hBb : Boxed w Bb 25 (.slice A xs.length c)) (ha : RdB lo w A (cs .u8 xs)) :
    SeqStopsK F n Tryz.prog 113 #[.pointer (some ⟨Bb, 0, none⟩)] (fun x : Nat × Int => #[Value.int .i64 (x.1 : Int), Value.int .u8 x.2]) (KeepX lo hi n₁)
      (fun zs => zs = rs xs xs.length) (fun _ => True) xs.length w := fun l J Jx W hW _ _ hY h0 =>
  have hk : Keep w W := hW
  backward1_in F n hF hro hn l Bb lo hi n₁ c A xs lx hp1 hp2 hlo J Jx hY W (hk.boxed hBb) (ha.keep hk) h0
end Go.Proofs.YtnjjeanbopclhaaGreatDoor
