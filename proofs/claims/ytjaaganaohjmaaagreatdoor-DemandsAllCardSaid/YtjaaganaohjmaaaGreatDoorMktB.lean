/-
  CONTRACT for the package markets: 'ordered'. Conditions: the count is 1 to 8; the slice is no longer than memory lets it be.
-/
import Derived.Test.YtjaaganaohjmaaaGreatDoorMktA
import Derived.IntWalk
namespace Go.Proofs.YtjaaganaohjmaaaGreatDoor
open Go.RowKit

set_option maxRecDepth 100000 in
set_option maxHeartbeats 4000000 in
theorem ordered_f (A : Option Addr) (c : Nat) (xs : List Int) (m : Nat) (w : World) (ha : Rd w A (cs .i64 xs)) (la : Len xs.length) (hm : 1 ≤ m ∧ m ≤ 8) :
    Calls Tryz.prog 128 #[.slice A xs.length c, .int .i64 m] w fun e w' => e = .returned (.bool (ordB xs m)) ∧ Keep w w' := by
  have la' := la.le
  go_enter Tryz.func128, Tryz.ntmps128
  go_wp2_with fail
  have z0 : Eight ((w.alloc (.cells #[.int .i64 0, .int .i64 0, .int .i64 0, .int .i64 0, .int .i64 0, .int .i64 0, .int .i64 0, .int .i64 0] 167)).alloc (.cells #[.int .i64 0, .int .i64 0, .int .i64 0, .int .i64 0, .int .i64 0, .int .i64 0, .int .i64 0, .int .i64 0] 167)) w.heap.size (fun _ => 0) :=
    (Keep.alloc1 _ _).heap (heap_alloc_new w _)
  have z1 : Eight ((w.alloc (.cells #[.int .i64 0, .int .i64 0, .int .i64 0, .int .i64 0, .int .i64 0, .int .i64 0, .int .i64 0, .int .i64 0] 167)).alloc (.cells #[.int .i64 0, .int .i64 0, .int .i64 0, .int .i64 0, .int .i64 0, .int .i64 0, .int .i64 0, .int .i64 0] 167)) (w.heap.size + 1) (fun _ => 0) := by
    have h := heap_alloc_new (w.alloc (.cells #[.int .i64 0, .int .i64 0, .int .i64 0, .int .i64 0, .int .i64 0, .int .i64 0, .int .i64 0, .int .i64 0] 167)) (.cells #[.int .i64 0, .int .i64 0, .int .i64 0, .int .i64 0, .int .i64 0, .int .i64 0, .int .i64 0, .int .i64 0] 167)
    rw [World.size_alloc] at h
    exact h
  have zk : Keep w ((w.alloc (.cells #[.int .i64 0, .int .i64 0, .int .i64 0, .int .i64 0, .int .i64 0, .int .i64 0, .int .i64 0, .int .i64 0] 167)).alloc (.cells #[.int .i64 0, .int .i64 0, .int .i64 0, .int .i64 0, .int .i64 0, .int .i64 0, .int .i64 0, .int .i64 0] 167)) := (Keep.alloc1 _ _).trans (Keep.alloc1 _ _)
  generalize (w.alloc (.cells #[.int .i64 0, .int .i64 0, .int .i64 0, .int .i64 0, .int .i64 0, .int .i64 0, .int .i64 0, .int .i64 0] 167)).alloc (.cells #[.int .i64 0, .int .i64 0, .int .i64 0, .int .i64 0, .int .i64 0, .int .i64 0, .int .i64 0, .int .i64 0] 167) = w0 at z0 z1 zk ⊢
  go_loopw [11] (fun i wr => ∃ k : Nat, k ≤ m ∧ i = .int .i64 k ∧ Eight wr w.heap.size (fun _ => 0) ∧ Eight wr (w.heap.size + 1) (onceF k) ∧ Keep w wr) (fun i _ => m - (intOf i).toNat)
  case atStart => exact ⟨0, Nat.zero_le _, rfl, z0, z1, zk⟩
  case round =>
    obtain ⟨k, hk, rfl, e0, e1, hkeep⟩ := hrel
    by_cases hlt : k < m
    · have c1 := e1.cell (i := k) (by omega)
      have f1 := e1.frozen k
      have hk8 : (k : Int) < 8 := by omega
      go_wp2_with fail
      go_roundw
      case rel =>
        refine ⟨k + 1, by omega, by go_num, e0.far (by simp) _, (e1.set k 1).congr (fun i hi => ?_), hkeep.setCell (by simp) _⟩
        unfold onceF
        by_cases e : i = k
        · rw [if_pos e, if_pos (by omega)]
        · rw [if_neg e]
          by_cases h : i < k
          · rw [if_pos h, if_pos (by omega)]
          · rw [if_neg h, if_neg (by omega)]
      case measure => simp [intOf]; omega
    · obtain rfl : k = m := by omega
      go_wp2_with fail
      go_loopw [19] (fun i wr => ∃ j : Nat, j ≤ xs.length ∧ i = .int .i64 j ∧ Eight wr w.heap.size (timesF (xs.take j)) ∧ Eight wr (w.heap.size + 1) (onceF k) ∧ Hid (∀ x ∈ xs.take j, 0 ≤ x ∧ x < k) ∧ Keep w wr) (fun i _ => xs.length - (intOf i).toNat)
      case atStart => exact ⟨0, Nat.zero_le _, rfl, e0, e1, Lib.hid (fun x h => by simp at h), hkeep⟩
      case round =>
        obtain ⟨j, hj, rfl, t0, t1, HA, hkp⟩ := hrel
        by_cases hjl : j < xs.length
        · obtain ⟨b1, o1, x, rfl, hxk, hc1⟩ := (ha.keep hkp).int_at hjl
          by_cases hx0 : x < 0
          · have HX := Lib.hid hxk
            clear hxk
            go_wp2_with fail
            go_ret
            exact ⟨by rw [ordB_no HX.out (.inl hx0)]; rfl, hkp⟩
          · by_cases hx1 : (k : Int) ≤ x
            · have HX := Lib.hid hxk
              clear hxk
              go_wp2_with fail
              go_ret
              exact ⟨by rw [ordB_no HX.out (.inr hx1)]; rfl, hkp⟩
            · obtain ⟨n, rfl⟩ : ∃ n : Nat, x = n := ⟨x.toNat, by omega⟩
              have c0 := t0.cell (i := n) (by omega)
              have f0 := t0.frozen n
              have hn8 : (n : Int) < 8 := by omega
              have hct : timesF (xs.take j) n ≤ j := by
                have h1 := List.count_le_length (a := (n : Int)) (l := xs.take j)
                rw [List.length_take] at h1
                unfold timesF
                omega
              have hct0 : 0 ≤ timesF (xs.take j) n := by unfold timesF; omega
              obtain ⟨T, hT⟩ : ∃ T, T = timesF (xs.take j) n := ⟨_, rfl⟩
              rw [← hT] at c0 hct hct0
              have HT := Lib.hid hT
              have HX := Lib.hid hxk
              clear hT hxk
              go_wp2_with fail
              go_roundw
              case rel =>
                refine ⟨j + 1, by omega, by go_num, (t0.set n (T + 1)).congr (fun i hi => ?_), t1.far (by simp) _, Lib.hid ?_, hkp.setCell (by simp) _⟩
                · rw [timesF_snoc xs j n HX.out, HT.out]
                · intro y hy
                  rw [List.take_add_one, HX.out, List.mem_append] at hy
                  rcases hy with hy | hy
                  · exact HA.out y hy
                  · simp at hy
                    omega
              case measure => simp [intOf]; omega
        · obtain rfl : j = xs.length := by omega
          rw [List.take_length] at t0 HA
          have hob := ordB_eq hm.2 HA.out
          have hq : (Op.equalIn 10000 167 (.agg (cs .i64 [timesF xs 0, timesF xs 1, timesF xs 2, timesF xs 3, timesF xs 4, timesF xs 5, timesF xs 6, timesF xs 7]).toArray) (.agg (cs .i64 [onceF k 0, onceF k 1, onceF k 2, onceF k 3, onceF k 4, onceF k 5, onceF k 6, onceF k 7]).toArray)).run Tryz.prog wr = .ok (ordB xs k) wr := by
            have h := eql_eight ((List.range 8).map (timesF xs)) ((List.range 8).map (onceF k)) (by simp) (by simp) wr
            rw [hob] at h
            exact h
          clear hob
          go_wp2_with (first
            | (refine wpList_load_row (by rfl) 167 (.tmp 5) (by rfl) w.heap.size (by rfl) _ _ _ _ t0 Tryz.underlying167 rfl (by kernel_rfl) ?_)
            | (refine wpList_load_row (by rfl) 167 (.tmp 6) (by rfl) (w.heap.size + 1) (by rfl) _ _ _ _ t1 Tryz.underlying167 rfl (by kernel_rfl) ?_))
          go_ret
          exact ⟨rfl, hkp⟩
end Go.Proofs.YtjaaganaohjmaaaGreatDoor
