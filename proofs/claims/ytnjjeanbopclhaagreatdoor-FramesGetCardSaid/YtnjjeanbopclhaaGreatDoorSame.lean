/-
  CONTRACTS: SameInts and SameBytes say whether two slices read as the same list; 'has' whether a number is in a list; nothing is written. Conditions: the slices are within the reach of memory.
-/
import Derived.Test.YtnjjeanbopclhaaGreatDoorWords
import Derived.Test.YtnjjeanbopclhaaGreatDoorPlain
import Derived.Test.YtnjjeanbopclhaaGreatDoorProg
import Derived.BigQuiet
import Derived.Deep.QuietTactic
namespace Go.Proofs.YtnjjeanbopclhaaGreatDoor
open Go.RowKit

/-- Within the reach of memory. -/
def Reach (n : Nat) : Prop := n ≤ 140737488351232
theorem Reach.le {n : Nat} (h : Reach n) : (n : Int) ≤ 140737488351232 := by unfold Reach at h; omega

theorem Rd.int_at {w : World} {A : Option Addr} {k : IntKind} {xs : List Int} (h : Rd w A (cs k xs)) {j : Nat} (hj : j < xs.length) :
    ∃ b off x, A = some ⟨b, off, none⟩ ∧ xs[j]? = some x ∧ w.cell? ⟨b, off + j, none⟩ = some (.int k x) := by
  obtain ⟨b, off, e, hc⟩ := h j (.int k xs[j]) (by rw [cs_at, List.getElem?_eq_getElem hj]; rfl)
  exact ⟨b, off, xs[j], e, List.getElem?_eq_getElem hj, hc⟩

theorem take_same {xs ys : List Int} {k : Nat} {x : Int} (h : xs.take k = ys.take k) (hx : xs[k]? = some x) (hy : ys[k]? = some x) : xs.take (k + 1) = ys.take (k + 1) := by
  rw [List.take_add_one, List.take_add_one, h, hx, hy]
theorem ne_of_at {xs ys : List Int} {k : Nat} {x y : Int} (hx : xs[k]? = some x) (hy : ys[k]? = some y) (h : x ≠ y) : xs ≠ ys := by
  rintro rfl
  rw [hx] at hy
  exact h (Option.some.inj hy)

/-- What a function leaves that only reads and answers a bool. -/
def Says (w : World) (b : Bool) (e : Ending) (w' : World) : Prop := e = .returned (.bool b) ∧ ∃ n, w' = w.drewN n
theorem Says.of {w w' : World} {b b' : Bool} (n : Nat) (hw : w' = w.drewN n) (h : b' = b) : Says w b (.returned (.bool b')) w' := ⟨by rw [h], n, hw⟩
theorem Says.keep {w w' : World} {b : Bool} {e : Ending} (h : Says w b e w') : e = .returned (.bool b) ∧ Keep w w' := by
  obtain ⟨rfl, n, rfl⟩ := h
  exact ⟨rfl, (Keep.refl w).drewN n⟩

/-- .. in the words that callers take: the world behind the call is any that keeps what lay. -/
theorem saysK {P : Program} {f : FuncId} {args : Array Value} {w : World} {b : Bool} (h : Calls P f args w (Says w b)) : Calls P f args w fun e w' => e = .returned (.bool b) ∧ Keep w w' := h.mono fun _ _ h => h.keep

set_option maxRecDepth 100000 in
set_option maxHeartbeats 400000 in
theorem sameInts (A B : Option Addr) (ca cb : Nat) (xs ys : List Int) (w : World) (ha : Rd w A (cs .i64 xs)) (hb : Rd w B (cs .i64 ys)) (la : Reach xs.length) (lb : Reach ys.length) :
    Calls Tryz.prog 78 #[.slice A xs.length ca, .slice B ys.length cb] w (Says w (decide (xs = ys))) := by
  have la' := la.le
  have lb' := lb.le
  by_cases hlen : xs.length = ys.length
  · have hlenB : ((xs.length : Int) != (ys.length : Int)) = false := by simp [hlen]
    have HL := Lib.hid hlen
    clear hlen
    go_enter Tryz.func78, Tryz.ntmps78
    go_wp2
    go_loopw [5] (fun i wr => ∃ k : Nat, k ≤ xs.length ∧ i = .int .i64 k ∧ xs.take k = ys.take k ∧ ∃ n, wr = w.drewN n) (fun i _ => xs.length - (intOf i).toNat)
    case atStart => exact ⟨0, Nat.zero_le _, rfl, rfl, 0, rfl⟩
    case round =>
      obtain ⟨k, hk, rfl, htk, n, rfl⟩ := hrel
      have HT := Lib.hid htk
      clear htk
      by_cases hlt : k < xs.length
      · have hlt2 : k < ys.length := by have := HL.out; omega
        obtain ⟨b1, o1, x, rfl, hx, hc1⟩ := ha.int_at hlt
        obtain ⟨b2, o2, y, rfl, hy, hc2⟩ := hb.int_at hlt2
        have HX := Lib.hid hx
        have HY := Lib.hid hy
        clear hx hy
        by_cases hxy : x = y
        · subst hxy
          have hd : (x != x) = false := by simp
          go_wp2
          go_quiet (fail)
          go_wp2
          go_roundw
          case rel => exact ⟨k + 1, by omega, by go_num, take_same HT.out HX.out HY.out, _, rfl⟩
          case measure => simp [intOf]; omega
        · have hd : (x != y) = true := by simpa using hxy
          have HD := Lib.hid hxy
          clear hxy
          go_wp2
          go_quiet (fail)
          go_wp2
          go_ret
          exact Says.of (n + nq) (by rw [World.drewN_drewN]) (decide_eq_false (ne_of_at HX.out HY.out HD.out)).symm
      · go_wp2
        go_ret
        refine Says.of n rfl ?_
        have h1 := HT.out
        have h2 := HL.out
        rw [List.take_of_length_le (by omega), List.take_of_length_le (by omega)] at h1
        exact (decide_eq_true h1).symm
  · have hlenB : ((xs.length : Int) != (ys.length : Int)) = true := by simp; omega
    have HL := Lib.hid hlen
    clear hlen
    go_enter Tryz.func78, Tryz.ntmps78
    go_wp2
    go_ret
    exact Says.of 0 rfl (decide_eq_false (fun h => HL.out (by rw [h]))).symm
set_option maxRecDepth 100000 in
set_option maxHeartbeats 400000 in
theorem sameBytes (A B : Option Addr) (ca cb : Nat) (xs ys : List Int) (w : World) (ha : Rd w A (cs .u8 xs)) (hb : Rd w B (cs .u8 ys)) (la : Reach xs.length) (lb : Reach ys.length) :
    Calls Tryz.prog 15 #[.slice A xs.length ca, .slice B ys.length cb] w (Says w (decide (xs = ys))) := by
  have la' := la.le
  have lb' := lb.le
  by_cases hlen : xs.length = ys.length
  · have hlenB : ((xs.length : Int) != (ys.length : Int)) = false := by simp [hlen]
    have HL := Lib.hid hlen
    clear hlen
    go_enter Tryz.func15, Tryz.ntmps15
    go_wp2
    go_loopw [5] (fun i wr => ∃ k : Nat, k ≤ xs.length ∧ i = .int .i64 k ∧ xs.take k = ys.take k ∧ ∃ n, wr = w.drewN n) (fun i _ => xs.length - (intOf i).toNat)
    case atStart => exact ⟨0, Nat.zero_le _, rfl, rfl, 0, rfl⟩
    case round =>
      obtain ⟨k, hk, rfl, htk, n, rfl⟩ := hrel
      have HT := Lib.hid htk
      clear htk
      by_cases hlt : k < xs.length
      · have hlt2 : k < ys.length := by have := HL.out; omega
        obtain ⟨b1, o1, x, rfl, hx, hc1⟩ := ha.int_at hlt
        obtain ⟨b2, o2, y, rfl, hy, hc2⟩ := hb.int_at hlt2
        have HX := Lib.hid hx
        have HY := Lib.hid hy
        clear hx hy
        by_cases hxy : x = y
        · subst hxy
          have hd : (x != x) = false := by simp
          go_wp2
          go_quiet (fail)
          go_wp2
          go_roundw
          case rel => exact ⟨k + 1, by omega, by go_num, take_same HT.out HX.out HY.out, _, rfl⟩
          case measure => simp [intOf]; omega
        · have hd : (x != y) = true := by simpa using hxy
          have HD := Lib.hid hxy
          clear hxy
          go_wp2
          go_quiet (fail)
          go_wp2
          go_ret
          exact Says.of (n + nq) (by rw [World.drewN_drewN]) (decide_eq_false (ne_of_at HX.out HY.out HD.out)).symm
      · go_wp2
        go_ret
        refine Says.of n rfl ?_
        have h1 := HT.out
        have h2 := HL.out
        rw [List.take_of_length_le (by omega), List.take_of_length_le (by omega)] at h1
        exact (decide_eq_true h1).symm
  · have hlenB : ((xs.length : Int) != (ys.length : Int)) = true := by simp; omega
    have HL := Lib.hid hlen
    clear hlen
    go_enter Tryz.func15, Tryz.ntmps15
    go_wp2
    go_ret
    exact Says.of 0 rfl (decide_eq_false (fun h => HL.out (by rw [h]))).symm
end Go.Proofs.YtnjjeanbopclhaaGreatDoor
