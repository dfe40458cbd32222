/-
  CONTRACTS for the package nums: GetList. Conditions: the slice is no longer than memory lets it be.
-/
import Derived.Test.YtnjjeanbopclhaaGreatDoorNumE
import Derived.Deep.OwnRows
import Derived.Test.YtnjjeanbopclhaaGreatDoorBlk
namespace Go.Proofs.YtnjjeanbopclhaaGreatDoor
open Go.RowKit

/-- What GetList leaves. -/
def GetLP (xs : List Int) (w : World) (e : Ending) (w' : World) : Prop :=
  match getL xs with
  | none => e = .returned (.tuple #[.slice none 0 0, .int .i64 0, .int .i64 5]) ∧ Keep w w'
  | some zs => ∃ A', e = .returned (.tuple #[.slice A' zs.length zs.length, .int .i64 ((1 + 4 * zs.length : Nat) : Int), .int .i64 0]) ∧ Fr 3 w' w.heap.size A' zs.length zs.length (cs .i64 zs) ∧ Keep w w'

/-- The row when k numbers are in. -/
def gl (xs : List Int) (n k : Nat) : List Int := (List.range n).map fun i => if i < k then num4 xs i else 0
theorem length_gl (xs : List Int) (n k : Nat) : (gl xs n k).length = n := by simp [gl]
theorem gl_set (xs : List Int) (n k : Nat) : (cs .i64 (gl xs n k)).set k (.int .i64 (num4 xs k)) = cs .i64 (gl xs n (k + 1)) := by
  unfold cs
  rw [← List.map_set]
  congr 1
  refine List.ext_getElem (by simp [gl]) fun i h1 h2 => ?_
  rw [List.getElem_set]
  simp only [gl, List.getElem_map, List.getElem_range]
  by_cases e : k = i
  · subst e
    simp
  · rw [if_neg e]
    by_cases h : i < k
    · rw [if_pos h, if_pos (by omega)]
    · rw [if_neg h, if_neg (by omega)]
theorem gl_all (xs : List Int) (n : Nat) : gl xs n n = (List.range n).map (num4 xs) := by
  unfold gl
  refine List.map_congr_left fun i hi => ?_
  rw [List.mem_range] at hi
  rw [if_pos hi]
theorem gl_zero (xs : List Int) (n : Nat) : cs .i64 (gl xs n 0) = List.replicate n (.int .i64 0) := by
  refine List.ext_getElem (by simp [cs, gl]) fun i h1 h2 => ?_
  simp [cs, gl]

set_option maxRecDepth 100000 in
set_option maxHeartbeats 1600000 in
theorem getList_f (A : Option Addr) (c : Nat) (xs : List Int) (w : World) (ha : Rd w A (cs .u8 xs)) (hb : Bytes xs) (hc : xs.length ≤ c) (lc : Len c) :
    Calls Tryz.prog 106 #[.slice A xs.length c] w (GetLP xs w) := by
  have lc' := lc.le
  have hc' : (xs.length : Int) ≤ c := by omega
  by_cases h0 : 0 < xs.length
  · obtain ⟨b, off, rfl, hcell⟩ := ha.ad (by rw [length_cs]; exact h0)
    have hx0 : xs[0]? = some (xs.getD 0 0) := by rw [List.getD_eq_getElem?_getD, List.getElem?_eq_getElem h0]; rfl
    have hc0 : w.cell? ⟨b, off, none⟩ = some (.int .u8 (xs.getD 0 0)) := by
      have := hcell 0 (.int .u8 (xs.getD 0 0)) (by rw [cs_at, hx0]; rfl)
      rwa [Nat.add_zero] at this
    obtain ⟨m0, m1⟩ := hb.getD 0
    obtain ⟨n, hn⟩ : ∃ n : Nat, xs.getD 0 0 = n := ⟨(xs.getD 0 0).toNat, by omega⟩
    have HN := Lib.hid (show n = (xs.getD 0 0).toNat by omega)
    rw [hn] at hc0 m1
    clear hcell hx0 hn m0
    by_cases h4 : xs.length < 1 + 4 * n
    · have hg : getL xs = none := by rw [getL, if_pos (.inr (by rw [← HN.out]; exact h4))]
      unfold GetLP
      rw [hg]
      clear hg
      go_enter Tryz.func106, Tryz.ntmps106
      go_wp2_with fail
      go_ret3
      exact ⟨rfl, Keep.refl _⟩
    · have hg : getL xs = some (gl xs n n) := by rw [getL, if_neg (by rw [← HN.out]; omega), ← HN.out, gl_all]
      unfold GetLP
      rw [hg]
      dsimp only
      rw [length_gl]
      clear hg
      have hz0 : ((xs.length : Int) == 0) = false := beq_eq_false_iff_ne.2 (by omega)
      have hz1 : decide ((xs.length : Int) < 1 + 4 * (n : Int)) = false := decide_eq_false (by omega)
      have hmk := run_make_row' (P := Tryz.prog) 26 3 (.int .i64 0) 8 Tryz.underlying26 infoInt rfl .u8 .u8 n (by omega) (by omega)
      go_enter Tryz.func106, Tryz.ntmps106
      go_wp2_with fail
      have hst : Fr 3 (w.alloc (.cells (madeCells #[.int .i64 0] n) 3)) w.heap.size (some ⟨w.heap.size, 0, none⟩) n n (cs .i64 (gl xs n 0)) := by
        have h := Fr.new w (madeCells #[.int .i64 0] n) 3 (base := w.heap.size) (n := n) (c := n) (Nat.le_refl _) (by unfold maxLen; omega) (by rw [size_madeCells]; exact Nat.le_refl _) (Nat.le_refl _)
        rwa [toList_madeCells, List.take_of_length_le (by simp), ← gl_zero xs n] at h
      have kst : Keep w (w.alloc (.cells (madeCells #[.int .i64 0] n) 3)) := Keep.alloc1 _ _
      generalize w.alloc (.cells (madeCells #[.int .i64 0] n) 3) = w1 at hst kst ⊢
      clear hmk
      go_loopw [27] (fun i wr => ∃ k : Nat, k ≤ n ∧ i = .int .i64 k ∧ Fr 3 wr w.heap.size (some ⟨w.heap.size, 0, none⟩) n n (cs .i64 (gl xs n k)) ∧ Keep w wr) (fun i _ => n - (intOf i).toNat)
      case atStart => exact ⟨0, Nat.zero_le _, rfl, hst, kst⟩
      case round =>
        obtain ⟨k, hk, rfl, hfr, hkeep⟩ := hrel
        by_cases hlt : k < n
        · have hrz : Rd wr (some ⟨b, off + (1 + 4 * k), none⟩) (cs .u8 (xs.drop (1 + 4 * k))) := by
            rw [← cs_drop]
            exact (ha.keep hkeep).drop (n := 1 + 4 * k) (cap := xs.length + (1 + 4 * k)) (by rw [length_cs]; omega) _ (fun _ => by simp [Addr.add_lit])
          have hgv : getV (xs.drop (1 + 4 * k)) 4 = (val ((xs.drop (1 + 4 * k)).take 4), 0) := by
            rw [getV, if_neg (by omega), if_neg (by rw [List.length_drop]; omega)]
            rfl
          have hp := get_f _ (c - (1 + 4 * k)) (xs.drop (1 + 4 * k)) 4 wr hrz (hb.drop _) (by rw [List.length_drop]; omega) (by unfold Len at lc ⊢; omega)
          unfold GetP at hp
          rw [hgv, List.length_drop] at hp
          have hV : val ((xs.drop (1 + 4 * k)).take 4) < 4294967296 := by
            have h := val_lt ((hb.drop (1 + 4 * k)).take 4)
            rw [List.length_take, List.length_drop, Nat.min_eq_left (by omega)] at h
            simpa using h
          obtain ⟨V, hv⟩ : ∃ V, V = val ((xs.drop (1 + 4 * k)).take 4) := ⟨_, rfl⟩
          rw [← hv] at hp hV
          have HV := Lib.hid (show (V : Int) = num4 xs k by rw [hv]; rfl)
          clear hv hgv hrz
          go_wp2_with fail
          refine hp.mono ?_
          rintro e w2 ⟨rfl, hk2⟩
          have hf2 := hfr.keep hk2
          have ff := hf2.frozen (by omega) k
          obtain ⟨b2, o2, y, e2, _, hcy⟩ := hf2.rd.int_at (j := k) (by rw [length_gl]; exact hlt)
          cases e2
          rw [Nat.zero_add] at hcy
          go_wp2_with fail
          go_roundw
          case rel =>
            have h3 := hf2.stored hlt (.int .i64 (V : Int))
            rw [HV.out, gl_set] at h3
            rw [HV.out]
            exact ⟨k + 1, by omega, by go_num, h3, (hkeep.trans hk2).setCell (Nat.le_refl _) _⟩
          case measure => simp [intOf]; omega
        · obtain rfl : k = n := by omega
          go_wp2_with fail
          go_ret3
          exact ⟨_, rfl, hfr, hkeep⟩
  · have hg : getL xs = none := by rw [getL, if_pos (.inl (by omega))]
    unfold GetLP
    rw [hg]
    clear hg
    go_enter Tryz.func106, Tryz.ntmps106
    go_wp2_with fail
    go_ret3
    exact ⟨rfl, Keep.refl _⟩
end Go.Proofs.YtnjjeanbopclhaaGreatDoor
