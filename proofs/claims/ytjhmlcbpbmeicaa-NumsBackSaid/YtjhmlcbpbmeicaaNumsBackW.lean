/-
  THE WALK OF THE LAW NumsBack: it answers true, and turns nothing that was there. Conditions: the arguments are an array of two slices of bytes that came in, a struct of a uint64 and an int, a slice of int that came in.
-/
import Derived.Test.YtjhmlcbpbmeicaaNumG
import Derived.Test.YtjhmlcbpbmeicaaNumQ
import Derived.Deep.RegionHeld3
import Derived.Deep.CutRange
import Derived.IntWalk
import Derived.BigQuiet
import Derived.Laws.BitsAllLaws
namespace Go.Proofs.Ytjhmlcbpbmeicaa
open Go.RowKit

/-- The lowest bytes of a number, by a mask. -/
theorem mask_lit (v : Nat) (hv : v < 18446744073709551616) (m : Nat) (k : Nat) (hk : k < 64) (hm : m = 2 ^ k - 1) : bits .and .u64 (v : Int) (m : Int) = ((v % 2 ^ k : Nat) : Int) := by
  have h2 : 2 ^ k ≤ 2 ^ 63 := Nat.pow_le_pow_right (by omega) (by omega)
  rw [u64_and_nat v m hv (by omega), hm, Nat.and_two_pow_sub_one_eq_mod]

/-- What the law asks of 'Get' behind bytes that were put. -/
theorem getV_back (v M : Nat) (ys : List Int) (hM : M ≤ 8) : (M = 0 ∧ getV (le v M ++ ys) (M : Int) = (0, 1)) ∨ (0 < M ∧ getV (le v M ++ ys) (M : Int) = (v % 256 ^ M, 0)) := by
  by_cases h : M = 0
  · subst h
    exact .inl ⟨rfl, rfl⟩
  · refine .inr ⟨by omega, ?_⟩
    rw [getV, if_neg (by omega), if_neg (by rw [List.length_append, length_le]; omega), Int.toNat_natCast, List.take_left' (length_le v M), val_le]

theorem get_n (A : Option Addr) (c n : Nat) (xs : List Int) (k : Int) (w : World) (ha : Rd w A (cs .u8 xs)) (hb : Bytes xs) (hn : xs.length = n) (hc : n ≤ c) (lc : Len c) :
    Calls Try.prog 26 #[.slice A n c, .int .i64 k] w (GetP xs k w) := by
  subst hn
  exact get_f A c xs k w ha hb hc lc
theorem getL_n (A : Option Addr) (c n : Nat) (xs zs : List Int) (w : World) (ha : Rd w A (cs .u8 xs)) (hb : Bytes xs) (hn : xs.length = n) (hc : n ≤ c) (lc : Len c) (hg : getL xs = some zs) (m : Nat) (hm : zs.length = m) :
    Calls Try.prog 27 #[.slice A n c] w fun e w' => ∃ A', e = .returned (.tuple #[.slice A' m m, .int .i64 (1 + 4 * (m : Int)), .int .i64 0]) ∧ Rd w' A' (cs .i64 zs) ∧ Keep w w' := by
  subst hn
  subst hm
  refine (getList_f A c xs w ha hb hc lc).mono fun e w' h => ?_
  unfold GetLP at h
  rw [hg] at h
  obtain ⟨A', rfl, hf, hk⟩ := h
  exact ⟨A', by simp, hf.rd, hk⟩
theorem putL_n (A B : Option Addr) (c d n m : Nat) (xs ys : List Int) (w : World) (hm : n + (1 + 4 * ys.length) = m) (ha : Rd w A (cs .u8 xs)) (hx : xs.length = n) (la : n ≤ 200000) (hA : A = none → c = 0) (hb : Rd w B (cs .i64 ys)) (hd : ys.length ≤ d) (lb : Len d) (hy : ys.length ≤ 255) :
    Calls Try.prog 24 #[.slice A n c, .slice B ys.length d] w fun e w' => ∃ A', e = .returned (.slice A' m m) ∧ Fr 5 w' w.heap.size A' m m (cs .u8 (xs ++ putL ys)) ∧ Keep w w' := by
  subst hx
  subst hm
  refine (putList_f A c xs B d ys w ha (by omega) hA hb hd lb).mono fun e w' h => ?_
  rw [List.take_of_length_le hy] at h
  obtain ⟨A', rfl, hf, hk⟩ := h
  have e1 : (xs ++ putL ys).length = xs.length + (1 + 4 * ys.length) := by rw [List.length_append, length_putL]
  rw [e1] at hf ⊢
  exact ⟨A', rfl, hf, hk⟩
theorem same_pre2 (A' A : Option Addr) (c' c m : Nat) (xs : List Int) (w : World) (hm : xs.length = m) (lx : m ≤ 70000) (h' : Rd w A' (cs .u8 xs)) (h : Rd w A (cs .u8 xs)) :
    Calls Try.prog 25 #[.slice A' m c', .slice A m c] w fun e w' => e = .returned (.bool true) ∧ Keep w w' := by
  subst hm
  have hs := sameBytes A' A c' c xs xs w h' h (by unfold Reach; omega) (by unfold Reach; omega)
  rw [decide_eq_true rfl] at hs
  exact saysK hs
theorem low_at {l : List Int} {k : Nat} {x : Int} (h : l[k]? = some x) : (low l)[k]? = some (x % 4294967296) := by simp [low, h]
/-- A part of a row, from n on. -/
theorem Rd.behind {w : World} {A : Option Addr} {xs ys : List Int} {k : IntKind} {n m : Nat} (h : Rd w A (cs k (xs ++ ys))) (hx : xs.length = n) (hy : ys.length = m) (A' : Option Addr) (hA : m ≠ 0 → A' = A.map (·.add n)) : Rd w A' (cs k ys) := by
  have h2 := h.drop (n := n) (cap := n + m) (by rw [length_cs, List.length_append, hx, hy]; exact Nat.le_refl _) A' (fun e => hA (by omega))
  rwa [cs_drop, List.drop_left' hx] at h2

set_option maxRecDepth 100000 in
set_option maxHeartbeats 16000000 in
theorem numsBack_w (A0 A1 A2 : Option Addr) (c0 c1 c2 : Nat) (xs ys zs : List Int) (v : Nat) (b : Int) (w : World) (hx : In .u8 w A0 c0 xs) (hx0 : A0 = none → c0 = 0) (hy : In .u8 w A1 c1 ys) (hz : In .i64 w A2 c2 zs) (hv : v < 18446744073709551616) (hb : -9223372036854775808 ≤ b ∧ b ≤ 9223372036854775807) :
    Calls Try.prog 5 #[.agg #[.slice A0 xs.length c0, .slice A1 ys.length c1], .agg #[.int .u64 (v : Int), .int .i64 b], .slice A2 zs.length c2] w fun e w' => e = .returned (.bool true) ∧ Below w.heap.size w w' := by
  have lx := hx.len
  have ly := hy.len
  have lz := hz.len
  by_cases hb0 : 9000 < xs.length
  · skip
    have hb0' : (9000 : Int) < xs.length := by omega
    go_enter Try.func5, Try.ntmps5
    go_wp2_with fail
    have k0 : Keep w ((w.alloc (.cells #[.slice A0 xs.length c0, .slice A1 ys.length c1] 32)).alloc (.cells #[.int .u64 (v : Int), .int .i64 b] 35)) := (Keep.alloc1 _ _).trans (Keep.alloc1 _ _)
    have d0 : ((w.alloc (.cells #[.slice A0 xs.length c0, .slice A1 ys.length c1] 32)).alloc (.cells #[.int .u64 (v : Int), .int .i64 b] 35)).cell? ⟨w.heap.size, 0, none⟩ = some (.slice A0 xs.length c0) := by simp
    have d1 : ((w.alloc (.cells #[.slice A0 xs.length c0, .slice A1 ys.length c1] 32)).alloc (.cells #[.int .u64 (v : Int), .int .i64 b] 35)).cell? ⟨w.heap.size, 1, none⟩ = some (.slice A1 ys.length c1) := by simp
    have d2 : ((w.alloc (.cells #[.slice A0 xs.length c0, .slice A1 ys.length c1] 32)).alloc (.cells #[.int .u64 (v : Int), .int .i64 b] 35)).cell? ⟨w.heap.size + 1, 0, none⟩ = some (.int .u64 (v : Int)) := by simp
    have d3 : ((w.alloc (.cells #[.slice A0 xs.length c0, .slice A1 ys.length c1] 32)).alloc (.cells #[.int .u64 (v : Int), .int .i64 b] 35)).cell? ⟨w.heap.size + 1, 1, none⟩ = some (.int .i64 b) := by simp
    generalize (w.alloc (.cells #[.slice A0 xs.length c0, .slice A1 ys.length c1] 32)).alloc (.cells #[.int .u64 (v : Int), .int .i64 b] 35) = w0 at k0 d0 d1 d2 d3 ⊢
    refine (alive01_f w0).mono ?_
    rintro e w1 ⟨rfl, k1⟩
    have e0 := k1.cell d0
    have e1 := k1.cell d1
    go_wp2_with fail
    refine (alive01_f w1).mono ?_
    rintro e w2 ⟨rfl, k2⟩
    go_wp2_with fail
    go_ret
    exact ⟨rfl, k0.trans (k1.trans k2)⟩
  by_cases hb1 : 9000 < ys.length
  · skip
    have hb0' : (xs.length : Int) ≤ 9000 := by omega
    have hb1' : (9000 : Int) < ys.length := by omega
    go_enter Try.func5, Try.ntmps5
    go_wp2_with fail
    have k0 : Keep w ((w.alloc (.cells #[.slice A0 xs.length c0, .slice A1 ys.length c1] 32)).alloc (.cells #[.int .u64 (v : Int), .int .i64 b] 35)) := (Keep.alloc1 _ _).trans (Keep.alloc1 _ _)
    have d0 : ((w.alloc (.cells #[.slice A0 xs.length c0, .slice A1 ys.length c1] 32)).alloc (.cells #[.int .u64 (v : Int), .int .i64 b] 35)).cell? ⟨w.heap.size, 0, none⟩ = some (.slice A0 xs.length c0) := by simp
    have d1 : ((w.alloc (.cells #[.slice A0 xs.length c0, .slice A1 ys.length c1] 32)).alloc (.cells #[.int .u64 (v : Int), .int .i64 b] 35)).cell? ⟨w.heap.size, 1, none⟩ = some (.slice A1 ys.length c1) := by simp
    have d2 : ((w.alloc (.cells #[.slice A0 xs.length c0, .slice A1 ys.length c1] 32)).alloc (.cells #[.int .u64 (v : Int), .int .i64 b] 35)).cell? ⟨w.heap.size + 1, 0, none⟩ = some (.int .u64 (v : Int)) := by simp
    have d3 : ((w.alloc (.cells #[.slice A0 xs.length c0, .slice A1 ys.length c1] 32)).alloc (.cells #[.int .u64 (v : Int), .int .i64 b] 35)).cell? ⟨w.heap.size + 1, 1, none⟩ = some (.int .i64 b) := by simp
    generalize (w.alloc (.cells #[.slice A0 xs.length c0, .slice A1 ys.length c1] 32)).alloc (.cells #[.int .u64 (v : Int), .int .i64 b] 35) = w0 at k0 d0 d1 d2 d3 ⊢
    refine (alive01_f w0).mono ?_
    rintro e w1 ⟨rfl, k1⟩
    have e0 := k1.cell d0
    have e1 := k1.cell d1
    go_wp2_with fail
    refine (alive01_f w1).mono ?_
    rintro e w2 ⟨rfl, k2⟩
    go_wp2_with fail
    go_ret
    exact ⟨rfl, k0.trans (k1.trans k2)⟩
  by_cases hb2 : 255 < zs.length
  · skip
    have hb0' : (xs.length : Int) ≤ 9000 := by omega
    have hb1' : (ys.length : Int) ≤ 9000 := by omega
    have hb2' : (255 : Int) < zs.length := by omega
    go_enter Try.func5, Try.ntmps5
    go_wp2_with fail
    have k0 : Keep w ((w.alloc (.cells #[.slice A0 xs.length c0, .slice A1 ys.length c1] 32)).alloc (.cells #[.int .u64 (v : Int), .int .i64 b] 35)) := (Keep.alloc1 _ _).trans (Keep.alloc1 _ _)
    have d0 : ((w.alloc (.cells #[.slice A0 xs.length c0, .slice A1 ys.length c1] 32)).alloc (.cells #[.int .u64 (v : Int), .int .i64 b] 35)).cell? ⟨w.heap.size, 0, none⟩ = some (.slice A0 xs.length c0) := by simp
    have d1 : ((w.alloc (.cells #[.slice A0 xs.length c0, .slice A1 ys.length c1] 32)).alloc (.cells #[.int .u64 (v : Int), .int .i64 b] 35)).cell? ⟨w.heap.size, 1, none⟩ = some (.slice A1 ys.length c1) := by simp
    have d2 : ((w.alloc (.cells #[.slice A0 xs.length c0, .slice A1 ys.length c1] 32)).alloc (.cells #[.int .u64 (v : Int), .int .i64 b] 35)).cell? ⟨w.heap.size + 1, 0, none⟩ = some (.int .u64 (v : Int)) := by simp
    have d3 : ((w.alloc (.cells #[.slice A0 xs.length c0, .slice A1 ys.length c1] 32)).alloc (.cells #[.int .u64 (v : Int), .int .i64 b] 35)).cell? ⟨w.heap.size + 1, 1, none⟩ = some (.int .i64 b) := by simp
    generalize (w.alloc (.cells #[.slice A0 xs.length c0, .slice A1 ys.length c1] 32)).alloc (.cells #[.int .u64 (v : Int), .int .i64 b] 35) = w0 at k0 d0 d1 d2 d3 ⊢
    refine (alive01_f w0).mono ?_
    rintro e w1 ⟨rfl, k1⟩
    have e0 := k1.cell d0
    have e1 := k1.cell d1
    go_wp2_with fail
    refine (alive01_f w1).mono ?_
    rintro e w2 ⟨rfl, k2⟩
    go_wp2_with fail
    go_ret
    exact ⟨rfl, k0.trans (k1.trans k2)⟩
  have hb0' : (xs.length : Int) ≤ 9000 := by omega
  have hb1' : (ys.length : Int) ≤ 9000 := by omega
  have hb2' : (zs.length : Int) ≤ 255 := by omega
  have l0 : Len c0 := by have := hx.capI; unfold Len; omega
  have l1 : Len c1 := by have := hy.capI; unfold Len; omega
  have l2 : Len c2 := by have := hz.capI; unfold Len; omega
  have hq1 := fun w' (k : Keep w w') => put_f A0 c0 xs v b w' (hx.rd.keep k) (by omega) hx0 hb
  have hM8 := clampB_le b
  have hMb : (clampB b : Int) = max 0 (min b 8) := by unfold clampB; omega
  obtain ⟨M, hM⟩ : ∃ M, M = clampB b := ⟨_, rfl⟩
  rw [← hM] at hq1 hM8 hMb
  unfold PutP at hq1
  have HMb := Lib.hid hMb
  clear hM hMb
  go_enter Try.func5, Try.ntmps5
  go_wp2_with fail
  have k0 : Keep w ((w.alloc (.cells #[.slice A0 xs.length c0, .slice A1 ys.length c1] 32)).alloc (.cells #[.int .u64 (v : Int), .int .i64 b] 35)) := (Keep.alloc1 _ _).trans (Keep.alloc1 _ _)
  have d0 : ((w.alloc (.cells #[.slice A0 xs.length c0, .slice A1 ys.length c1] 32)).alloc (.cells #[.int .u64 (v : Int), .int .i64 b] 35)).cell? ⟨w.heap.size, 0, none⟩ = some (.slice A0 xs.length c0) := by simp
  have d1 : ((w.alloc (.cells #[.slice A0 xs.length c0, .slice A1 ys.length c1] 32)).alloc (.cells #[.int .u64 (v : Int), .int .i64 b] 35)).cell? ⟨w.heap.size, 1, none⟩ = some (.slice A1 ys.length c1) := by simp
  have d2 : ((w.alloc (.cells #[.slice A0 xs.length c0, .slice A1 ys.length c1] 32)).alloc (.cells #[.int .u64 (v : Int), .int .i64 b] 35)).cell? ⟨w.heap.size + 1, 0, none⟩ = some (.int .u64 (v : Int)) := by simp
  have d3 : ((w.alloc (.cells #[.slice A0 xs.length c0, .slice A1 ys.length c1] 32)).alloc (.cells #[.int .u64 (v : Int), .int .i64 b] 35)).cell? ⟨w.heap.size + 1, 1, none⟩ = some (.int .i64 b) := by simp
  generalize (w.alloc (.cells #[.slice A0 xs.length c0, .slice A1 ys.length c1] 32)).alloc (.cells #[.int .u64 (v : Int), .int .i64 b] 35) = w0 at k0 d0 d1 d2 d3 ⊢
  refine (alive01_f w0).mono ?_
  rintro e w1 ⟨rfl, k1⟩
  replace d0 := k1.cell d0
  replace d1 := k1.cell d1
  replace d2 := k1.cell d2
  replace d3 := k1.cell d3
  replace k0 := k0.trans k1
  clear k1
  go_upto_region 3 with fail
  go_cut [7] from 38 to 41 (fun u wx => u = .int .i64 (M : Int) ∧ wx = w1)
  case first =>
    by_cases hbn : b < 0
    · obtain rfl : M = 0 := by have := HMb.out; omega
      go_wp2_with fail
      go_meet
      exact ⟨rfl, rfl⟩
    · by_cases hb8 : b ≤ 8
      · obtain rfl : b = M := by have := HMb.out; omega
        by_cases he8 : M = 8
        · subst he8
          go_wp2_with fail
          go_meet
          exact ⟨rfl, rfl⟩
        · by_cases he0 : M = 0
          · subst he0
            go_wp2_with fail
            go_meet
            exact ⟨rfl, rfl⟩
          · have ha : (0 : Int) < M := by omega
            have hc : (M : Int) < 8 := by omega
            go_wp2_with fail
            go_meet
            exact ⟨rfl, rfl⟩
      · obtain rfl : M = 8 := by have := HMb.out; omega
        have ha : 0 < b := by omega
        have hc : 8 < b := by omega
        go_wp2_with fail
        go_meet
        exact ⟨rfl, rfl⟩
  case rest =>
  obtain ⟨rfl, rfl⟩ := hcut
  clear HMb
  go_wp2_with fail
  refine (hq1 wc k0).mono ?_
  rintro e w2 ⟨B2, rfl, f2, k2⟩
  replace d0 := k2.cell d0
  replace d1 := k2.cell d1
  replace d2 := k2.cell d2
  replace d3 := k2.cell d3
  replace k0 := k0.trans k2
  have r2 := f2.rd
  have n2 : B2 = none → xs.length + M = 0 := fun h => f2.capNil h
  clear k2 f2 hq1
  go_wp2_with fail
  refine (putL_n A0 A2 c0 c2 xs.length (xs.length + (1 + 4 * zs.length)) xs zs w2 rfl (hx.rd.keep k0) rfl (by omega) hx0 (hz.rd.keep k0) hz.cap l2 (by omega)).mono ?_
  rintro e w3 ⟨B3, rfl, f3, k3⟩
  replace d0 := k3.cell d0
  replace d1 := k3.cell d1
  replace d2 := k3.cell d2
  replace d3 := k3.cell d3
  replace k0 := k0.trans k3
  replace r2 := r2.keep k3
  obtain ⟨g3, rfl, _, _⟩ := f3.form (by omega)
  have r3 := f3.rd
  clear k3 f3
  go_wp2_with fail
  have q2 : Rd w3 B2 (cs .u8 xs) := by
    have h := r2.take xs.length
    rwa [cs_take, List.take_left] at h
  have q3 : Rd w3 (some ⟨g3, 0, none⟩) (cs .u8 xs) := by
    have h := r3.take xs.length
    rwa [cs_take, List.take_left] at h
  have i0 : (0 : Int) ≤ xs.length := by omega
  have i1 : (xs.length : Int) ≤ (xs.length : Int) + (M : Int) := by omega
  have i2 : (xs.length : Int) ≤ (xs.length : Int) + (1 + 4 * (zs.length : Int)) := by omega
  have j1 : IntKind.i64.wrap ((xs.length : Int) + (M : Int)) = (xs.length : Int) + (M : Int) := IntWalk.i64_in _ (by omega)
  have j2 : IntKind.i64.wrap ((xs.length : Int) + 1) = (xs.length : Int) + 1 := IntWalk.i64_in _ (by omega)
  have j3 : IntKind.i64.wrap (4 * (zs.length : Int)) = 4 * (zs.length : Int) := IntWalk.i64_in _ (by omega)
  have j4 : IntKind.i64.wrap ((xs.length : Int) + 1 + 4 * (zs.length : Int)) = (xs.length : Int) + 1 + 4 * (zs.length : Int) := IntWalk.i64_in _ (by omega)
  have j5 : ((xs.length : Int) + (1 + 4 * (zs.length : Int)) != (xs.length : Int) + 1 + 4 * (zs.length : Int)) = false := bne_eq_false_iff_eq.2 (by omega)
  refine wp_region_noPanic ?_
  refine wp_region_held_drew (S := (fun w' => w'.cell? ⟨w.heap.size, 0, none⟩ = some (.slice A0 xs.length c0) ∧ w'.cell? ⟨w.heap.size, 1, none⟩ = some (.slice A1 ys.length c1))) (by kernel_rfl) ⟨d0, d1⟩ (fun hS => ?_)
  refine wpAnyH_take (i := 0) (v := ?_) rfl (by kernel_rfl) (by kernel_rfl) (by kernel_rfl) (fun _ _ _ h => h) (Or.inl ⟨by rfl, ?_⟩) hS ?_
  rotate_left
  · (intro w hSw; (try dsimp only at hSw); go_simp; (first | done | with_reducible rfl))
  change wpAnyH _ _ _ _ _ _ _ (Act.put _ (some 56) _) _
  simp only [Act.put, List.setIfInBounds_toArray, List.set_cons_zero, List.set_cons_succ]
  refine wpAnyH_take (i := 1) (v := ?_) rfl (by kernel_rfl) (by kernel_rfl) (by kernel_rfl) (fun _ _ _ h => h) (Or.inl ⟨by rfl, ?_⟩) hS ?_
  rotate_left
  · (intro w hSw; (try dsimp only at hSw); go_simp; (first | done | with_reducible rfl))
  change wpAnyH _ _ _ _ _ _ _ (Act.put _ (some 57) _) _
  simp only [Act.put, List.setIfInBounds_toArray, List.set_cons_zero, List.set_cons_succ]
  refine wpAnyH_take (i := 2) (v := ?_) rfl (by kernel_rfl) (by kernel_rfl) (by kernel_rfl) (fun _ _ _ h => h) (Or.inl ⟨by rfl, ?_⟩) hS ?_
  rotate_left
  · (intro w hSw; (try dsimp only at hSw); go_simp; (first | done | with_reducible rfl))
  change wpAnyH _ _ _ _ _ _ _ (Act.put _ (some 58) _) _
  simp only [Act.put, List.setIfInBounds_toArray, List.set_cons_zero, List.set_cons_succ]
  refine wpAnyH_take (i := 3) (v := ?_) rfl (by kernel_rfl) (by kernel_rfl) (by kernel_rfl) (fun _ _ _ h => h) (Or.inl ⟨by rfl, ?_⟩) hS ?_
  rotate_left
  · (intro w hSw; (try dsimp only at hSw); go_simp; (first | done | with_reducible rfl))
  change wpAnyH _ _ _ _ _ _ _ (Act.put _ (some 59) _) _
  simp only [Act.put, List.setIfInBounds_toArray, List.set_cons_zero, List.set_cons_succ]
  refine wpAnyH_take (i := 4) (v := ?_) rfl (by kernel_rfl) (by kernel_rfl) (by kernel_rfl) (fun _ _ _ h => h) (Or.inl ⟨by rfl, ?_⟩) hS ?_
  rotate_left
  · (intro w hSw; (try dsimp only at hSw); go_simp; (first | done | with_reducible rfl))
  change wpAnyH _ _ _ _ _ _ _ (Act.put _ (some 60) _) _
  simp only [Act.put, List.setIfInBounds_toArray, List.set_cons_zero, List.set_cons_succ]
  refine wpAnyH_take (i := 5) (v := ?_) rfl (by kernel_rfl) (by kernel_rfl) (by kernel_rfl) (fun _ _ _ h => h) (Or.inl ⟨by rfl, ?_⟩) hS ?_
  rotate_left
  · (intro w hSw; (try dsimp only at hSw); go_simp; (first | done | with_reducible rfl))
  change wpAnyH _ _ _ _ _ _ _ (Act.put _ (some 61) _) _
  simp only [Act.put, List.setIfInBounds_toArray, List.set_cons_zero, List.set_cons_succ]
  refine wpAnyH_take (i := 6) (v := ?_) rfl (by kernel_rfl) (by kernel_rfl) (by kernel_rfl) (fun _ _ _ h => h) (Or.inl ⟨by rfl, ?_⟩) hS ?_
  rotate_left
  · (intro w hSw; (try dsimp only at hSw); go_simp; (first | done | with_reducible rfl))
  change wpAnyH _ _ _ _ _ _ _ (Act.put _ (some 62) _) _
  simp only [Act.put, List.setIfInBounds_toArray, List.set_cons_zero, List.set_cons_succ]
  refine wpAnyH_take (i := 7) (v := ?_) rfl (by kernel_rfl) (by kernel_rfl) (by kernel_rfl) (fun _ _ _ h => h) (Or.inl ⟨by rfl, ?_⟩) hS ?_
  rotate_left
  · (intro w hSw; (try dsimp only at hSw); go_simp; (first | done | with_reducible rfl))
  change wpAnyH _ _ _ _ _ _ _ (Act.put _ (some 63) _) _
  simp only [Act.put, List.setIfInBounds_toArray, List.set_cons_zero, List.set_cons_succ]
  refine wpAnyH_take (i := 8) (v := ?_) rfl (by kernel_rfl) (by kernel_rfl) (by kernel_rfl) (fun _ _ _ h => h) (Or.inl ⟨by rfl, ?_⟩) hS ?_
  rotate_left
  · (intro w hSw; (try dsimp only at hSw); go_simp; (first | done | with_reducible rfl))
  change wpAnyH _ _ _ _ _ _ _ (Act.put _ (some 64) _) _
  simp only [Act.put, List.setIfInBounds_toArray, List.set_cons_zero, List.set_cons_succ]
  refine wpAnyH_take (i := 9) (v := ?_) rfl (by kernel_rfl) (by kernel_rfl) (by kernel_rfl) (fun _ _ _ h => h) (Or.inl ⟨by rfl, ?_⟩) hS ?_
  rotate_left
  · (intro w hSw; (try dsimp only at hSw); go_simp; (first | done | with_reducible rfl))
  change wpAnyH _ _ _ _ _ _ _ (Act.put _ (some 65) _) _
  simp only [Act.put, List.setIfInBounds_toArray, List.set_cons_zero, List.set_cons_succ]
  refine wpAnyH_take (i := 10) (v := ?_) rfl (by kernel_rfl) (by kernel_rfl) (by kernel_rfl) (fun _ _ _ h => h) (Or.inl ⟨by rfl, ?_⟩) hS ?_
  rotate_left
  · (intro w hSw; (try dsimp only at hSw); go_simp; (first | done | with_reducible rfl))
  change wpAnyH _ _ _ _ _ _ _ (Act.put _ (some 66) _) _
  simp only [Act.put, List.setIfInBounds_toArray, List.set_cons_zero, List.set_cons_succ]
  refine wpAnyH_take (i := 11) (v := ?_) rfl (by kernel_rfl) (by kernel_rfl) (by kernel_rfl) (fun _ _ _ h => h) (Or.inl ⟨by rfl, ?_⟩) hS ?_
  rotate_left
  · (intro w hSw; (try dsimp only at hSw); go_simp; (first | done | with_reducible rfl))
  change wpAnyH _ _ _ _ _ _ _ (Act.put _ (some 67) _) _
  simp only [Act.put, List.setIfInBounds_toArray, List.set_cons_zero, List.set_cons_succ]
  refine wpAnyH_take (i := 12) (v := ?_) rfl (by kernel_rfl) (by kernel_rfl) (by kernel_rfl) (fun _ _ _ h => h) (Or.inl ⟨by rfl, ?_⟩) hS ?_
  rotate_left
  · (intro w hSw; (try dsimp only at hSw); go_simp; (first | done | with_reducible rfl))
  change wpAnyH _ _ _ _ _ _ _ (Act.put _ (some 68) _) _
  simp only [Act.put, List.setIfInBounds_toArray, List.set_cons_zero, List.set_cons_succ]
  refine wpAnyH_take (i := 13) (v := ?_) rfl (by kernel_rfl) (by kernel_rfl) (by kernel_rfl) (fun _ _ _ h => h) (Or.inl ⟨by rfl, ?_⟩) hS ?_
  rotate_left
  · (intro w hSw; (try dsimp only at hSw); go_simp; (first | done | with_reducible rfl))
  change wpAnyH _ _ _ _ _ _ _ (Act.put _ (some 69) _) _
  simp only [Act.put, List.setIfInBounds_toArray, List.set_cons_zero, List.set_cons_succ]
  refine wpAnyH_take (i := 14) (v := ?_) rfl (by kernel_rfl) (by kernel_rfl) (by kernel_rfl) (fun _ _ _ h => h) (Or.inl ⟨by rfl, ?_⟩) hS ?_
  rotate_left
  · (intro w hSw; (try dsimp only at hSw); go_simp; (first | done | with_reducible rfl))
  change wpAnyH _ _ _ _ _ _ _ (Act.put _ (some 70) _) _
  simp only [Act.put, List.setIfInBounds_toArray, List.set_cons_zero, List.set_cons_succ]
  refine wpAnyH_take (i := 15) (v := ?_) rfl (by kernel_rfl) (by kernel_rfl) (by kernel_rfl) (fun _ _ _ h => h) (Or.inl ⟨by rfl, ?_⟩) hS ?_
  rotate_left
  · (intro w hSw; (try dsimp only at hSw); go_simp; (first | done | with_reducible rfl))
  change wpAnyH _ _ _ _ _ _ _ (Act.put _ (some 71) _) _
  simp only [Act.put, List.setIfInBounds_toArray, List.set_cons_zero, List.set_cons_succ]
  refine wpAnyH_take (i := 16) (v := ?_) rfl (by kernel_rfl) (by kernel_rfl) (by kernel_rfl) (fun _ _ _ h => h) (Or.inl ⟨by rfl, ?_⟩) hS ?_
  rotate_left
  · (intro w hSw; (try dsimp only at hSw); go_simp; (first | done | with_reducible rfl))
  change wpAnyH _ _ _ _ _ _ _ (Act.put _ (some 72) _) _
  simp only [Act.put, List.setIfInBounds_toArray, List.set_cons_zero, List.set_cons_succ]
  refine wpAnyH_take (i := 17) (v := ?_) rfl (by kernel_rfl) (by kernel_rfl) (by kernel_rfl) (fun _ _ _ h => h) (Or.inl ⟨by rfl, ?_⟩) hS ?_
  rotate_left
  · (intro w hSw; (try dsimp only at hSw); go_simp; (first | done | with_reducible rfl))
  change wpAnyH _ _ _ _ _ _ _ (Act.put _ (some 73) _) _
  simp only [Act.put, List.setIfInBounds_toArray, List.set_cons_zero, List.set_cons_succ]
  refine wpAnyH_take (i := 18) (v := ?_) rfl (by kernel_rfl) (by kernel_rfl) (by kernel_rfl) (fun _ _ _ h => h) (Or.inl ⟨by rfl, ?_⟩) hS ?_
  rotate_left
  · (intro w hSw; (try dsimp only at hSw); go_simp; (first | done | with_reducible rfl))
  change wpAnyH _ _ _ _ _ _ _ (Act.put _ (some 74) _) _
  simp only [Act.put, List.setIfInBounds_toArray, List.set_cons_zero, List.set_cons_succ]
  refine wpAnyH_take (i := 19) (v := ?_) rfl (by kernel_rfl) (by kernel_rfl) (by kernel_rfl) (fun _ _ _ h => h) (Or.inl ⟨by rfl, ?_⟩) hS ?_
  rotate_left
  · (intro w hSw; (try dsimp only at hSw); go_simp; (first | done | with_reducible rfl))
  change wpAnyH _ _ _ _ _ _ _ (Act.put _ (some 75) _) _
  simp only [Act.put, List.setIfInBounds_toArray, List.set_cons_zero, List.set_cons_succ]
  refine wpAnyH_take (i := 20) (v := ?_) rfl (by kernel_rfl) (by kernel_rfl) (by kernel_rfl) (fun _ _ _ h => h) (Or.inl ⟨by rfl, ?_⟩) hS ?_
  rotate_left
  · (intro w hSw; (try dsimp only at hSw); go_simp; (first | done | with_reducible rfl))
  change wpAnyH _ _ _ _ _ _ _ (Act.put _ (some 76) _) _
  simp only [Act.put, List.setIfInBounds_toArray, List.set_cons_zero, List.set_cons_succ]
  refine wpAnyH_take (i := 21) (v := ?_) rfl (by kernel_rfl) (by kernel_rfl) (by kernel_rfl) (fun _ _ _ h => h) (Or.inl ⟨by rfl, ?_⟩) hS ?_
  rotate_left
  · (intro w hSw; (try dsimp only at hSw); go_simp; (first | done | with_reducible rfl))
  change wpAnyH _ _ _ _ _ _ _ (Act.put _ (some 77) _) _
  simp only [Act.put, List.setIfInBounds_toArray, List.set_cons_zero, List.set_cons_succ]
  refine wpAnyH_take (i := 22) (v := ?_) rfl (by kernel_rfl) (by kernel_rfl) (by kernel_rfl) (fun _ _ _ h => h) (Or.inl ⟨by rfl, ?_⟩) hS ?_
  rotate_left
  · (intro w hSw; (try dsimp only at hSw); go_simp; (first | done | with_reducible rfl))
  change wpAnyH _ _ _ _ _ _ _ (Act.put _ (some 78) _) _
  simp only [Act.put, List.setIfInBounds_toArray, List.set_cons_zero, List.set_cons_succ]
  refine wpAnyH_ready (rs := [23]) (by kernel_rfl) (by simp) ?_
  refine AllReadyH.cons rfl (fun K hK => ?_) AllReadyH.nil
  go_simp
  refine (same_pre2 B2 A0 _ c0 xs.length xs _ rfl (by omega) (by exact q2.keep ((Keep.refl _).drew)) (by exact hx.rd.keep (k0.drew))).mono ?_
  rintro e w4 ⟨rfl, k4⟩
  go_wp2_with fail
  refine hK.out _ _ ⟨k4.cell hS.1, k4.cell hS.2⟩ (fun hS => ?_)
  clear hK K
  try simp only [Act.put, List.setIfInBounds_toArray, List.set_cons_zero, List.set_cons_succ]
  refine wpAnyH_take (i := 24) (v := ?_) rfl (by kernel_rfl) (by kernel_rfl) (by kernel_rfl) (fun _ _ _ h => h) (Or.inl ⟨by rfl, ?_⟩) hS ?_
  rotate_left
  · (intro w hSw; (try dsimp only at hSw); go_simp; (first | done | with_reducible rfl))
  change wpAnyH _ _ _ _ _ _ _ (Act.put _ (some 80) _) _
  simp only [Act.put, List.setIfInBounds_toArray, List.set_cons_zero, List.set_cons_succ]
  refine wpAnyH_take (i := 25) (v := ?_) rfl (by kernel_rfl) (by kernel_rfl) (by kernel_rfl) (fun _ _ _ h => h) (Or.inl ⟨by rfl, ?_⟩) hS ?_
  rotate_left
  · (intro w hSw; (try dsimp only at hSw); go_simp; (first | done | with_reducible rfl))
  change wpAnyH _ _ _ _ _ _ _ (Act.put _ (some 81) _) _
  simp only [Act.put, List.setIfInBounds_toArray, List.set_cons_zero, List.set_cons_succ]
  refine wpAnyH_take (i := 26) (v := ?_) rfl (by kernel_rfl) (by kernel_rfl) (by kernel_rfl) (fun _ _ _ h => h) (Or.inl ⟨by rfl, ?_⟩) hS ?_
  rotate_left
  · (intro w hSw; (try dsimp only at hSw); go_simp; (first | done | with_reducible rfl))
  change wpAnyH _ _ _ _ _ _ _ (Act.put _ (some 82) _) _
  simp only [Act.put, List.setIfInBounds_toArray, List.set_cons_zero, List.set_cons_succ]
  refine wpAnyH_take (i := 27) (v := ?_) rfl (by kernel_rfl) (by kernel_rfl) (by kernel_rfl) (fun _ _ _ h => h) (Or.inl ⟨by rfl, ?_⟩) hS ?_
  rotate_left
  · (intro w hSw; (try dsimp only at hSw); go_simp; (first | done | with_reducible rfl))
  change wpAnyH _ _ _ _ _ _ _ (Act.put _ (some 83) _) _
  simp only [Act.put, List.setIfInBounds_toArray, List.set_cons_zero, List.set_cons_succ]
  refine wpAnyH_take (i := 28) (v := ?_) rfl (by kernel_rfl) (by kernel_rfl) (by kernel_rfl) (fun _ _ _ h => h) (Or.inl ⟨by rfl, ?_⟩) hS ?_
  rotate_left
  · (intro w hSw; (try dsimp only at hSw); go_simp; (first | done | with_reducible rfl))
  change wpAnyH _ _ _ _ _ _ _ (Act.put _ (some 84) _) _
  simp only [Act.put, List.setIfInBounds_toArray, List.set_cons_zero, List.set_cons_succ]
  refine wpAnyH_take (i := 29) (v := ?_) rfl (by kernel_rfl) (by kernel_rfl) (by kernel_rfl) (fun _ _ _ h => h) (Or.inl ⟨by rfl, ?_⟩) hS ?_
  rotate_left
  · (intro w hSw; (try dsimp only at hSw); go_simp; (first | done | with_reducible rfl))
  change wpAnyH _ _ _ _ _ _ _ (Act.put _ (some 85) _) _
  simp only [Act.put, List.setIfInBounds_toArray, List.set_cons_zero, List.set_cons_succ]
  refine wpAnyH_take (i := 30) (v := ?_) rfl (by kernel_rfl) (by kernel_rfl) (by kernel_rfl) (fun _ _ _ h => h) (Or.inl ⟨by rfl, ?_⟩) hS ?_
  rotate_left
  · (intro w hSw; (try dsimp only at hSw); go_simp; (first | done | with_reducible rfl))
  change wpAnyH _ _ _ _ _ _ _ (Act.put _ (some 86) _) _
  simp only [Act.put, List.setIfInBounds_toArray, List.set_cons_zero, List.set_cons_succ]
  refine wpAnyH_take (i := 31) (v := ?_) rfl (by kernel_rfl) (by kernel_rfl) (by kernel_rfl) (fun _ _ _ h => h) (Or.inl ⟨by rfl, ?_⟩) hS ?_
  rotate_left
  · (intro w hSw; (try dsimp only at hSw); go_simp; (first | done | with_reducible rfl))
  change wpAnyH _ _ _ _ _ _ _ (Act.put _ (some 87) _) _
  simp only [Act.put, List.setIfInBounds_toArray, List.set_cons_zero, List.set_cons_succ]
  refine wpAnyH_ready (rs := [32]) (by kernel_rfl) (by simp) ?_
  refine AllReadyH.cons rfl (fun K hK => ?_) AllReadyH.nil
  go_simp
  refine (same_pre2 _ A0 _ c0 xs.length xs _ rfl (by omega) (by exact (q3.keep ((Keep.refl _).drew)).keep k4) (by exact (hx.rd.keep (k0.drew)).keep k4)).mono ?_
  rintro e w5 ⟨rfl, k5⟩
  go_wp2_with fail
  refine hK.out _ _ ⟨k5.cell hS.1, k5.cell hS.2⟩ (fun hS => ?_)
  clear hK K
  try simp only [Act.put, List.setIfInBounds_toArray, List.set_cons_zero, List.set_cons_succ]
  refine wpAnyH_take (i := 33) (v := ?_) rfl (by kernel_rfl) (by kernel_rfl) (by kernel_rfl) (fun _ _ _ h => h) (Or.inl ⟨by rfl, ?_⟩) hS ?_
  rotate_left
  · (intro w hSw; (try dsimp only at hSw); go_simp; (first | done | with_reducible rfl))
  change wpAnyH _ _ _ _ _ _ _ (Act.put _ (some 89) _) _
  simp only [Act.put, List.setIfInBounds_toArray, List.set_cons_zero, List.set_cons_succ]
  refine wpAnyH_take (i := 34) (v := ?_) rfl (by kernel_rfl) (by kernel_rfl) (by kernel_rfl) (fun _ _ _ h => h) (Or.inl ⟨by rfl, ?_⟩) hS ?_
  rotate_left
  · (intro w hSw; (try dsimp only at hSw); go_simp; (first | done | with_reducible rfl))
  change wpAnyH _ _ _ _ _ _ _ (Act.put _ (some 90) _) _
  simp only [Act.put, List.setIfInBounds_toArray, List.set_cons_zero, List.set_cons_succ]
  refine wpAnyH_done (by kernel_rfl) ?_ _
  refine NoPanic.normal ?_
  have k35 := ((Keep.refl w3).drew.trans k4).trans k5
  replace d0 := k35.cell d0
  replace d1 := k35.cell d1
  replace d2 := k35.cell d2
  replace d3 := k35.cell d3
  replace k0 := k0.trans k35
  replace r2 := r2.keep k35
  replace r3 := r3.keep k35
  clear q2 q3 k4 k5 k35 hS
  go_upto_if 94 with fail
  go_cut [11] from 95 to 100 (fun u wx => u = .int .u64 ((v % 256 ^ M : Nat) : Int) ∧ wx = w5)
  case first =>
    clear r2 r3
    have hM : M = 0 ∨ M = 1 ∨ M = 2 ∨ M = 3 ∨ M = 4 ∨ M = 5 ∨ M = 6 ∨ M = 7 ∨ M = 8 := by omega
    rcases hM with rfl | rfl | rfl | rfl | rfl | rfl | rfl | rfl | rfl
    · have hm : bits .and .u64 (v : Int) 0 = ((v % 2 ^ 0 : Nat) : Int) := mask_lit v hv 0 0 (by omega) rfl
      go_wp2_with fail
      go_meet
      exact ⟨by rw [Nat.pow_zero, Nat.mod_one]; rfl, rfl⟩
    · have hm : bits .and .u64 (v : Int) 255 = ((v % 2 ^ 8 : Nat) : Int) := mask_lit v hv 255 8 (by omega) rfl
      go_wp2_with fail
      go_meet
      exact ⟨rfl, rfl⟩
    · have hm : bits .and .u64 (v : Int) 65535 = ((v % 2 ^ 16 : Nat) : Int) := mask_lit v hv 65535 16 (by omega) rfl
      go_wp2_with fail
      go_meet
      exact ⟨rfl, rfl⟩
    · have hm : bits .and .u64 (v : Int) 16777215 = ((v % 2 ^ 24 : Nat) : Int) := mask_lit v hv 16777215 24 (by omega) rfl
      go_wp2_with fail
      go_meet
      exact ⟨rfl, rfl⟩
    · have hm : bits .and .u64 (v : Int) 4294967295 = ((v % 2 ^ 32 : Nat) : Int) := mask_lit v hv 4294967295 32 (by omega) rfl
      go_wp2_with fail
      go_meet
      exact ⟨rfl, rfl⟩
    · have hm : bits .and .u64 (v : Int) 1099511627775 = ((v % 2 ^ 40 : Nat) : Int) := mask_lit v hv 1099511627775 40 (by omega) rfl
      go_wp2_with fail
      go_meet
      exact ⟨rfl, rfl⟩
    · have hm : bits .and .u64 (v : Int) 281474976710655 = ((v % 2 ^ 48 : Nat) : Int) := mask_lit v hv 281474976710655 48 (by omega) rfl
      go_wp2_with fail
      go_meet
      exact ⟨rfl, rfl⟩
    · have hm : bits .and .u64 (v : Int) 72057594037927935 = ((v % 2 ^ 56 : Nat) : Int) := mask_lit v hv 72057594037927935 56 (by omega) rfl
      go_wp2_with fail
      go_meet
      exact ⟨rfl, rfl⟩
    · have hm : v % 256 ^ 8 = v := Nat.mod_eq_of_lt hv
      have HM := Lib.hid hm
      clear hm
      go_wp2_with fail
      go_meet
      exact ⟨by rw [HM.out], rfl⟩
  case rest =>
  obtain ⟨rfl, rfl⟩ := hcut
  go_wp2_with fail
  obtain ⟨N, r, hNr, hcase⟩ : ∃ N r, getV (le v M ++ ys) (M : Int) = (N, r) ∧ (M = 0 ∧ N = 0 ∧ r = 1 ∨ 0 < M ∧ N = v % 256 ^ M ∧ r = 0) := by
    rcases getV_back v M ys hM8 with ⟨h1, h2⟩ | ⟨h1, h2⟩
    · exact ⟨0, 1, h2, .inl ⟨h1, rfl, rfl⟩⟩
    · exact ⟨_, 0, h2, .inr ⟨h1, rfl, rfl⟩⟩
  have hg := fun (A : Option Addr) (c : Nat) (w' : World) (ha : Rd w' A (cs .u8 (le v M ++ ys))) (hc : M + ys.length ≤ c) (lc : Len c) => get_n A c (M + ys.length) (le v M ++ ys) (M : Int) w' ha ((bytes_le v M).append hy.bytes) (by rw [List.length_append, length_le]) hc lc
  unfold GetP at hg
  rw [hNr] at hg
  have hl := fun (A : Option Addr) (c : Nat) (w' : World) (ha : Rd w' A (cs .u8 (putL zs ++ ys))) (hc : 1 + 4 * zs.length + ys.length ≤ c) (lc : Len c) => getL_n A c (1 + 4 * zs.length + ys.length) (putL zs ++ ys) (low zs) w' ha ((bytes_putL zs).append hy.bytes) (by rw [List.length_append, length_putL]) hc lc (getL_put zs ys (by omega)) zs.length (length_low zs)
  have HC := Lib.hid hcase
  clear hNr hcase
  obtain ⟨W, hW⟩ : ∃ W, W = wc := ⟨_, rfl⟩
  go_cut [12, 13] from 101 to 112 (fun a e wx => a = .int .u64 (N : Int) ∧ e = .int .i64 r ∧ Keep W wx)
  case first =>
    subst hW
    by_cases hM0 : M = 0
    · have hT : (M = 0) = True := eq_true hM0
      have HM0 := Lib.hid hM0
      clear hM0
      refine wp_region_noPanic ?_
      refine wp_region_held_drew (S := (fun w' => w'.cell? ⟨w.heap.size, 0, none⟩ = some (.slice A0 xs.length c0) ∧ w'.cell? ⟨w.heap.size, 1, none⟩ = some (.slice A1 ys.length c1))) (by kernel_rfl) ⟨d0, d1⟩ (fun hS => ?_)
      refine wpAnyH_take (i := 0) (v := ?_) rfl (by kernel_rfl) (by kernel_rfl) (by kernel_rfl) (fun _ _ _ h => h) (Or.inl ⟨by rfl, ?_⟩) hS ?_
      rotate_left
      · (intro w hSw; (try dsimp only at hSw); go_simp; (first | done | with_reducible rfl))
      change wpAnyH _ _ _ _ _ _ _ (Act.put _ (some 102) _) _
      simp only [Act.put, List.setIfInBounds_toArray, List.set_cons_zero, List.set_cons_succ]
      refine wpAnyH_take (i := 1) (v := ?_) rfl (by kernel_rfl) (by kernel_rfl) (by kernel_rfl) (fun _ _ _ h => h) (Or.inl ⟨by rfl, ?_⟩) hS ?_
      rotate_left
      · (intro w hSw; (try dsimp only at hSw); go_simp; (first | done | with_reducible rfl))
      change wpAnyH _ _ _ _ _ _ _ (Act.put _ (some 103) _) _
      simp only [Act.put, List.setIfInBounds_toArray, List.set_cons_zero, List.set_cons_succ]
      refine wpAnyH_take (i := 2) (v := ?_) rfl (by kernel_rfl) (by kernel_rfl) (by kernel_rfl) (fun _ _ _ h => h) (Or.inl ⟨by rfl, ?_⟩) hS ?_
      rotate_left
      · (intro w hSw; (try dsimp only at hSw); go_simp; (first | done | with_reducible rfl))
      change wpAnyH _ _ _ _ _ _ _ (Act.put _ (some 104) _) _
      simp only [Act.put, List.setIfInBounds_toArray, List.set_cons_zero, List.set_cons_succ]
      refine wpAnyH_take (i := 4) (v := ?_) rfl (by kernel_rfl) (by kernel_rfl) (by kernel_rfl) (fun _ _ _ h => h) (Or.inl ⟨by rfl, ?_⟩) hS ?_
      rotate_left
      · (intro w hSw; (try dsimp only at hSw); go_simp; (first | done | with_reducible rfl))
      change wpAnyH _ _ _ _ _ _ _ (Act.put _ (some 106) _) _
      simp only [Act.put, List.setIfInBounds_toArray, List.set_cons_zero, List.set_cons_succ]
      refine wpAnyH_take (i := 5) (v := ?_) rfl (by kernel_rfl) (by kernel_rfl) (by kernel_rfl) (fun _ _ _ h => h) (Or.inl ⟨by rfl, ?_⟩) hS ?_
      rotate_left
      · (intro w hSw; (try dsimp only at hSw); go_simp; (first | done | with_reducible rfl))
      change wpAnyH _ _ _ _ _ _ _ (Act.put _ (some 107) _) _
      simp only [Act.put, List.setIfInBounds_toArray, List.set_cons_zero, List.set_cons_succ]
      refine wpAnyH_take (i := 7) (v := ?_) rfl (by kernel_rfl) (by kernel_rfl) (by kernel_rfl) (fun _ _ _ h => h) (Or.inl ⟨by rfl, ?_⟩) hS ?_
      rotate_left
      · (intro w hSw; (try dsimp only at hSw); go_simp; (first | done | with_reducible rfl))
      change wpAnyH _ _ _ _ _ _ _ (Act.put _ (some 109) _) _
      simp only [Act.put, List.setIfInBounds_toArray, List.set_cons_zero, List.set_cons_succ]
      refine wpAnyH_ready (rs := [3]) (by kernel_rfl) (by simp) ?_
      refine AllReadyH.cons rfl (fun K hK => ?_) AllReadyH.nil
      rw [if_pos (by rfl)]
      refine wp_append_fr _ (.const (.slice none 0 0)) (.tmp 104) 31 rfl W.heap.size 5 (.int .u8 0) 1 Try.underlying31 infoByte rfl none 0 0 [] rfl (Fr.empty _ _ _ _) _ M M (cs .u8 (le v M)) rfl ((length_cs _ _).trans (length_le v M)) ?hr (one_cs _ _) ?c1 ?c2 ?c3 ?_
      case hr => exact (r2.keep (Keep.refl _).drew).behind rfl (length_le v M) _ (fun hM => by exact absurd HM0.out hM)
      case c1 => unfold maxLen; omega
      case c2 => omega
      case c3 => exact Nat.le_refl _
      intro A6 c6 w6 happ
      have k6 := happ.keep ((Keep.refl W).drew) (Fr.empty _ _ _ _)
      have f6 := happ.fr
      simp only [Nat.zero_add, List.nil_append] at f6
      clear happ
      refine hK.out _ _ ⟨k6.cell d0, k6.cell d1⟩ (fun hS => ?_)
      clear hK K
      change wpAnyH _ _ _ _ _ _ _ (Act.put _ (some 105) _) _
      try simp only [Act.put, List.setIfInBounds_toArray, List.set_cons_zero, List.set_cons_succ, Nat.zero_add]
      refine wpAnyH_ready (rs := [6]) (by kernel_rfl) (by simp) ?_
      refine AllReadyH.cons rfl (fun K hK => ?_) AllReadyH.nil
      rw [if_pos (by rfl)]
      refine wp_append_fr _ (.tmp 105) (.tmp 107) 31 rfl W.heap.size 5 (.int .u8 0) 1 Try.underlying31 infoByte rfl A6 M c6 _ rfl f6 A1 ys.length c1 (cs .u8 ys) rfl (length_cs _ _) (hy.rd.keep (k0.trans k6)) (one_cs _ _) ?e1 ?e2 ?e3 ?_
      case e1 => unfold maxLen; omega
      case e2 => omega
      case e3 => exact k6.size
      intro A7 c7 w7 happ
      have k7 := happ.keep k6 f6
      have f7 := happ.fr
      rw [← cs_append] at f7
      clear happ f6
      refine hK.out _ _ ⟨k7.cell d0, k7.cell d1⟩ (fun hS => ?_)
      clear hK K
      change wpAnyH _ _ _ _ _ _ _ (Act.put _ (some 108) _) _
      try simp only [Act.put, List.setIfInBounds_toArray, List.set_cons_zero, List.set_cons_succ]
      refine wpAnyH_ready (rs := [8]) (by kernel_rfl) (by simp) ?_
      refine AllReadyH.cons rfl (fun K hK => ?_) AllReadyH.nil
      go_simp
      refine (hg A7 c7 _ f7.rd f7.cap (lenMax f7.capMax)).mono ?_
      rintro e w8 ⟨rfl, k8⟩
      go_wp2_with fail
      refine hK.out _ _ ⟨k8.cell hS.1, k8.cell hS.2⟩ (fun hS => ?_)
      clear hK K
      try simp only [Act.put, List.setIfInBounds_toArray, List.set_cons_zero, List.set_cons_succ]
      refine wpAnyH_take (i := 9) (v := ?_) rfl (by kernel_rfl) (by kernel_rfl) (by kernel_rfl) (fun _ _ _ h => h) (Or.inl ⟨by rfl, ?_⟩) hS ?_
      rotate_left
      · (intro w hSw; (try dsimp only at hSw); go_simp; (first | done | with_reducible rfl))
      change wpAnyH _ _ _ _ _ _ _ (Act.put _ (some 101) _) _
      simp only [Act.put, List.setIfInBounds_toArray, List.set_cons_zero, List.set_cons_succ]
      refine wpAnyH_take (i := 10) (v := ?_) rfl (by kernel_rfl) (by kernel_rfl) (by kernel_rfl) (fun _ _ _ h => h) (Or.inl ⟨by rfl, ?_⟩) hS ?_
      rotate_left
      · (intro w hSw; (try dsimp only at hSw); go_simp; (first | done | with_reducible rfl))
      change wpAnyH _ _ _ _ _ _ _ (Act.put _ (some 111) _) _
      simp only [Act.put, List.setIfInBounds_toArray, List.set_cons_zero, List.set_cons_succ]
      refine wpAnyH_take (i := 11) (v := ?_) rfl (by kernel_rfl) (by kernel_rfl) (by kernel_rfl) (fun _ _ _ h => h) (Or.inl ⟨by rfl, ?_⟩) hS ?_
      rotate_left
      · (intro w hSw; (try dsimp only at hSw); go_simp; (first | done | with_reducible rfl))
      change wpAnyH _ _ _ _ _ _ _ (Act.put _ (some 112) _) _
      simp only [Act.put, List.setIfInBounds_toArray, List.set_cons_zero, List.set_cons_succ]
      refine wpAnyH_take (i := 12) (v := ?_) rfl (by kernel_rfl) (by kernel_rfl) (by kernel_rfl) (fun _ _ _ h => h) (Or.inl ⟨by rfl, ?_⟩) hS ?_
      rotate_left
      · (intro w hSw; (try dsimp only at hSw); go_simp; (first | done | with_reducible rfl))
      change wpAnyH _ _ _ _ _ _ _ (Act.put _ (some 12) _) _
      simp only [Act.put, List.setIfInBounds_toArray, List.set_cons_zero, List.set_cons_succ]
      refine wpAnyH_take (i := 13) (v := ?_) rfl (by kernel_rfl) (by kernel_rfl) (by kernel_rfl) (fun _ _ _ h => h) (Or.inl ⟨by rfl, ?_⟩) hS ?_
      rotate_left
      · (intro w hSw; (try dsimp only at hSw); go_simp; (first | done | with_reducible rfl))
      change wpAnyH _ _ _ _ _ _ _ (Act.put _ (some 13) _) _
      simp only [Act.put, List.setIfInBounds_toArray, List.set_cons_zero, List.set_cons_succ]
      refine wpAnyH_done (by kernel_rfl) ?_ _
      refine NoPanic.normal ?_
      go_wp2_with fail
      go_meet
      exact ⟨rfl, rfl, k7.trans k8⟩
    · skip
      refine wp_region_noPanic ?_
      refine wp_region_held_drew (S := (fun w' => w'.cell? ⟨w.heap.size, 0, none⟩ = some (.slice A0 xs.length c0) ∧ w'.cell? ⟨w.heap.size, 1, none⟩ = some (.slice A1 ys.length c1))) (by kernel_rfl) ⟨d0, d1⟩ (fun hS => ?_)
      refine wpAnyH_take (i := 0) (v := ?_) rfl (by kernel_rfl) (by kernel_rfl) (by kernel_rfl) (fun _ _ _ h => h) (Or.inl ⟨by rfl, ?_⟩) hS ?_
      rotate_left
      · (intro w hSw; (try dsimp only at hSw); go_simp; (first | done | with_reducible rfl))
      change wpAnyH _ _ _ _ _ _ _ (Act.put _ (some 102) _) _
      simp only [Act.put, List.setIfInBounds_toArray, List.set_cons_zero, List.set_cons_succ]
      refine wpAnyH_take (i := 1) (v := ?_) rfl (by kernel_rfl) (by kernel_rfl) (by kernel_rfl) (fun _ _ _ h => h) (Or.inl ⟨by rfl, ?_⟩) hS ?_
      rotate_left
      · (intro w hSw; (try dsimp only at hSw); go_simp; (first | done | with_reducible rfl))
      change wpAnyH _ _ _ _ _ _ _ (Act.put _ (some 103) _) _
      simp only [Act.put, List.setIfInBounds_toArray, List.set_cons_zero, List.set_cons_succ]
      refine wpAnyH_take (i := 2) (v := ?_) rfl (by kernel_rfl) (by kernel_rfl) (by kernel_rfl) (fun _ _ _ h => h) (Or.inl ⟨by rfl, ?_⟩) hS ?_
      rotate_left
      · (intro w hSw; (try dsimp only at hSw); go_simp; (first | done | with_reducible rfl))
      change wpAnyH _ _ _ _ _ _ _ (Act.put _ (some 104) _) _
      simp only [Act.put, List.setIfInBounds_toArray, List.set_cons_zero, List.set_cons_succ]
      refine wpAnyH_take (i := 4) (v := ?_) rfl (by kernel_rfl) (by kernel_rfl) (by kernel_rfl) (fun _ _ _ h => h) (Or.inl ⟨by rfl, ?_⟩) hS ?_
      rotate_left
      · (intro w hSw; (try dsimp only at hSw); go_simp; (first | done | with_reducible rfl))
      change wpAnyH _ _ _ _ _ _ _ (Act.put _ (some 106) _) _
      simp only [Act.put, List.setIfInBounds_toArray, List.set_cons_zero, List.set_cons_succ]
      refine wpAnyH_take (i := 5) (v := ?_) rfl (by kernel_rfl) (by kernel_rfl) (by kernel_rfl) (fun _ _ _ h => h) (Or.inl ⟨by rfl, ?_⟩) hS ?_
      rotate_left
      · (intro w hSw; (try dsimp only at hSw); go_simp; (first | done | with_reducible rfl))
      change wpAnyH _ _ _ _ _ _ _ (Act.put _ (some 107) _) _
      simp only [Act.put, List.setIfInBounds_toArray, List.set_cons_zero, List.set_cons_succ]
      refine wpAnyH_take (i := 7) (v := ?_) rfl (by kernel_rfl) (by kernel_rfl) (by kernel_rfl) (fun _ _ _ h => h) (Or.inl ⟨by rfl, ?_⟩) hS ?_
      rotate_left
      · (intro w hSw; (try dsimp only at hSw); go_simp; (first | done | with_reducible rfl))
      change wpAnyH _ _ _ _ _ _ _ (Act.put _ (some 109) _) _
      simp only [Act.put, List.setIfInBounds_toArray, List.set_cons_zero, List.set_cons_succ]
      refine wpAnyH_ready (rs := [3]) (by kernel_rfl) (by simp) ?_
      refine AllReadyH.cons rfl (fun K hK => ?_) AllReadyH.nil
      rw [if_pos (by rfl)]
      refine wp_append_fr _ (.const (.slice none 0 0)) (.tmp 104) 31 rfl W.heap.size 5 (.int .u8 0) 1 Try.underlying31 infoByte rfl none 0 0 [] rfl (Fr.empty _ _ _ _) _ M M (cs .u8 (le v M)) rfl ((length_cs _ _).trans (length_le v M)) ?hr (one_cs _ _) ?c1 ?c2 ?c3 ?_
      case hr => exact (r2.keep (Keep.refl _).drew).behind rfl (length_le v M) _ (fun hM => by first | rfl | exact absurd rfl hM)
      case c1 => unfold maxLen; omega
      case c2 => omega
      case c3 => exact Nat.le_refl _
      intro A6 c6 w6 happ
      have k6 := happ.keep ((Keep.refl W).drew) (Fr.empty _ _ _ _)
      have f6 := happ.fr
      simp only [Nat.zero_add, List.nil_append] at f6
      clear happ
      refine hK.out _ _ ⟨k6.cell d0, k6.cell d1⟩ (fun hS => ?_)
      clear hK K
      change wpAnyH _ _ _ _ _ _ _ (Act.put _ (some 105) _) _
      try simp only [Act.put, List.setIfInBounds_toArray, List.set_cons_zero, List.set_cons_succ, Nat.zero_add]
      refine wpAnyH_ready (rs := [6]) (by kernel_rfl) (by simp) ?_
      refine AllReadyH.cons rfl (fun K hK => ?_) AllReadyH.nil
      rw [if_pos (by rfl)]
      refine wp_append_fr _ (.tmp 105) (.tmp 107) 31 rfl W.heap.size 5 (.int .u8 0) 1 Try.underlying31 infoByte rfl A6 M c6 _ rfl f6 A1 ys.length c1 (cs .u8 ys) rfl (length_cs _ _) (hy.rd.keep (k0.trans k6)) (one_cs _ _) ?e1 ?e2 ?e3 ?_
      case e1 => unfold maxLen; omega
      case e2 => omega
      case e3 => exact k6.size
      intro A7 c7 w7 happ
      have k7 := happ.keep k6 f6
      have f7 := happ.fr
      rw [← cs_append] at f7
      clear happ f6
      refine hK.out _ _ ⟨k7.cell d0, k7.cell d1⟩ (fun hS => ?_)
      clear hK K
      change wpAnyH _ _ _ _ _ _ _ (Act.put _ (some 108) _) _
      try simp only [Act.put, List.setIfInBounds_toArray, List.set_cons_zero, List.set_cons_succ]
      refine wpAnyH_ready (rs := [8]) (by kernel_rfl) (by simp) ?_
      refine AllReadyH.cons rfl (fun K hK => ?_) AllReadyH.nil
      go_simp
      refine (hg A7 c7 _ f7.rd f7.cap (lenMax f7.capMax)).mono ?_
      rintro e w8 ⟨rfl, k8⟩
      go_wp2_with fail
      refine hK.out _ _ ⟨k8.cell hS.1, k8.cell hS.2⟩ (fun hS => ?_)
      clear hK K
      try simp only [Act.put, List.setIfInBounds_toArray, List.set_cons_zero, List.set_cons_succ]
      refine wpAnyH_take (i := 9) (v := ?_) rfl (by kernel_rfl) (by kernel_rfl) (by kernel_rfl) (fun _ _ _ h => h) (Or.inl ⟨by rfl, ?_⟩) hS ?_
      rotate_left
      · (intro w hSw; (try dsimp only at hSw); go_simp; (first | done | with_reducible rfl))
      change wpAnyH _ _ _ _ _ _ _ (Act.put _ (some 101) _) _
      simp only [Act.put, List.setIfInBounds_toArray, List.set_cons_zero, List.set_cons_succ]
      refine wpAnyH_take (i := 10) (v := ?_) rfl (by kernel_rfl) (by kernel_rfl) (by kernel_rfl) (fun _ _ _ h => h) (Or.inl ⟨by rfl, ?_⟩) hS ?_
      rotate_left
      · (intro w hSw; (try dsimp only at hSw); go_simp; (first | done | with_reducible rfl))
      change wpAnyH _ _ _ _ _ _ _ (Act.put _ (some 111) _) _
      simp only [Act.put, List.setIfInBounds_toArray, List.set_cons_zero, List.set_cons_succ]
      refine wpAnyH_take (i := 11) (v := ?_) rfl (by kernel_rfl) (by kernel_rfl) (by kernel_rfl) (fun _ _ _ h => h) (Or.inl ⟨by rfl, ?_⟩) hS ?_
      rotate_left
      · (intro w hSw; (try dsimp only at hSw); go_simp; (first | done | with_reducible rfl))
      change wpAnyH _ _ _ _ _ _ _ (Act.put _ (some 112) _) _
      simp only [Act.put, List.setIfInBounds_toArray, List.set_cons_zero, List.set_cons_succ]
      refine wpAnyH_take (i := 12) (v := ?_) rfl (by kernel_rfl) (by kernel_rfl) (by kernel_rfl) (fun _ _ _ h => h) (Or.inl ⟨by rfl, ?_⟩) hS ?_
      rotate_left
      · (intro w hSw; (try dsimp only at hSw); go_simp; (first | done | with_reducible rfl))
      change wpAnyH _ _ _ _ _ _ _ (Act.put _ (some 12) _) _
      simp only [Act.put, List.setIfInBounds_toArray, List.set_cons_zero, List.set_cons_succ]
      refine wpAnyH_take (i := 13) (v := ?_) rfl (by kernel_rfl) (by kernel_rfl) (by kernel_rfl) (fun _ _ _ h => h) (Or.inl ⟨by rfl, ?_⟩) hS ?_
      rotate_left
      · (intro w hSw; (try dsimp only at hSw); go_simp; (first | done | with_reducible rfl))
      change wpAnyH _ _ _ _ _ _ _ (Act.put _ (some 13) _) _
      simp only [Act.put, List.setIfInBounds_toArray, List.set_cons_zero, List.set_cons_succ]
      refine wpAnyH_done (by kernel_rfl) ?_ _
      refine NoPanic.normal ?_
      go_wp2_with fail
      go_meet
      exact ⟨rfl, rfl, k7.trans k8⟩
  case rest =>
  subst hW
  obtain ⟨rfl, rfl, k58⟩ := hcut
  replace d0 := k58.cell d0
  replace d1 := k58.cell d1
  replace d2 := k58.cell d2
  replace d3 := k58.cell d3
  replace k0 := k0.trans k58
  replace r3 := r3.keep k58
  clear hg k58 r2
  go_wp2_with fail
  have hz4 : (xs.length : Int) ≤ (xs.length : Int) + (1 + 4 * (zs.length : Int)) := i2
  clear j1 j2 j3 j4 j5
  refine wp_region_noPanic ?_
  refine wp_region_held_drew (S := (fun w' => w'.cell? ⟨w.heap.size, 0, none⟩ = some (.slice A0 xs.length c0) ∧ w'.cell? ⟨w.heap.size, 1, none⟩ = some (.slice A1 ys.length c1))) (by kernel_rfl) ⟨d0, d1⟩ (fun hS => ?_)
  refine wpAnyH_take (i := 0) (v := ?_) rfl (by kernel_rfl) (by kernel_rfl) (by kernel_rfl) (fun _ _ _ h => h) (Or.inl ⟨by rfl, ?_⟩) hS ?_
  rotate_left
  · (intro w hSw; (try dsimp only at hSw); go_simp; (first | done | with_reducible rfl))
  change wpAnyH _ _ _ _ _ _ _ (Act.put _ (some 114) _) _
  simp only [Act.put, List.setIfInBounds_toArray, List.set_cons_zero, List.set_cons_succ]
  refine wpAnyH_take (i := 1) (v := ?_) rfl (by kernel_rfl) (by kernel_rfl) (by kernel_rfl) (fun _ _ _ h => h) (Or.inl ⟨by rfl, ?_⟩) hS ?_
  rotate_left
  · (intro w hSw; (try dsimp only at hSw); go_simp; (first | done | with_reducible rfl))
  change wpAnyH _ _ _ _ _ _ _ (Act.put _ (some 115) _) _
  simp only [Act.put, List.setIfInBounds_toArray, List.set_cons_zero, List.set_cons_succ]
  refine wpAnyH_take (i := 2) (v := ?_) rfl (by kernel_rfl) (by kernel_rfl) (by kernel_rfl) (fun _ _ _ h => h) (Or.inl ⟨by rfl, ?_⟩) hS ?_
  rotate_left
  · (intro w hSw; (try dsimp only at hSw); go_simp; (first | done | with_reducible rfl))
  change wpAnyH _ _ _ _ _ _ _ (Act.put _ (some 116) _) _
  simp only [Act.put, List.setIfInBounds_toArray, List.set_cons_zero, List.set_cons_succ]
  refine wpAnyH_take (i := 4) (v := ?_) rfl (by kernel_rfl) (by kernel_rfl) (by kernel_rfl) (fun _ _ _ h => h) (Or.inl ⟨by rfl, ?_⟩) hS ?_
  rotate_left
  · (intro w hSw; (try dsimp only at hSw); go_simp; (first | done | with_reducible rfl))
  change wpAnyH _ _ _ _ _ _ _ (Act.put _ (some 118) _) _
  simp only [Act.put, List.setIfInBounds_toArray, List.set_cons_zero, List.set_cons_succ]
  refine wpAnyH_take (i := 5) (v := ?_) rfl (by kernel_rfl) (by kernel_rfl) (by kernel_rfl) (fun _ _ _ h => h) (Or.inl ⟨by rfl, ?_⟩) hS ?_
  rotate_left
  · (intro w hSw; (try dsimp only at hSw); go_simp; (first | done | with_reducible rfl))
  change wpAnyH _ _ _ _ _ _ _ (Act.put _ (some 119) _) _
  simp only [Act.put, List.setIfInBounds_toArray, List.set_cons_zero, List.set_cons_succ]
  refine wpAnyH_ready (rs := [3]) (by kernel_rfl) (by simp) ?_
  refine AllReadyH.cons rfl (fun K hK => ?_) AllReadyH.nil
  rw [if_pos (by rfl)]
  refine wp_append_fr _ (.const (.slice none 0 0)) (.tmp 116) 31 rfl wc.heap.size 5 (.int .u8 0) 1 Try.underlying31 infoByte rfl none 0 0 [] rfl (Fr.empty _ _ _ _) _ (1 + 4 * zs.length) (1 + 4 * zs.length) (cs .u8 (putL zs)) rfl ((length_cs _ _).trans (length_putL zs)) ?gr (one_cs _ _) ?g1 ?g2 ?g3 ?_
  case gr => exact (r3.keep (Keep.refl _).drew).behind rfl (length_putL zs) _ (fun hM => by simp [Addr.add_lit])
  case g1 => unfold maxLen; omega
  case g2 => omega
  case g3 => exact Nat.le_refl _
  intro A6 c6 w6 happ
  have k6 := happ.keep ((Keep.refl wc).drew) (Fr.empty _ _ _ _)
  have f6 := happ.fr
  simp only [Nat.zero_add, List.nil_append] at f6
  clear happ
  refine hK.out _ _ ⟨k6.cell d0, k6.cell d1⟩ (fun hS => ?_)
  clear hK K
  change wpAnyH _ _ _ _ _ _ _ (Act.put _ (some 117) _) _
  try simp only [Act.put, List.setIfInBounds_toArray, List.set_cons_zero, List.set_cons_succ, Nat.zero_add]
  refine wpAnyH_ready (rs := [6]) (by kernel_rfl) (by simp) ?_
  refine AllReadyH.cons rfl (fun K hK => ?_) AllReadyH.nil
  rw [if_pos (by rfl)]
  refine wp_append_fr _ (.tmp 117) (.tmp 119) 31 rfl wc.heap.size 5 (.int .u8 0) 1 Try.underlying31 infoByte rfl A6 (1 + 4 * zs.length) c6 _ rfl f6 A1 ys.length c1 (cs .u8 ys) rfl (length_cs _ _) (hy.rd.keep (k0.trans k6)) (one_cs _ _) ?p1 ?p2 ?p3 ?_
  case p1 => unfold maxLen; omega
  case p2 => omega
  case p3 => exact k6.size
  intro A7 c7 w7 happ
  have k7 := happ.keep k6 f6
  have f7 := happ.fr
  rw [← cs_append] at f7
  clear happ f6
  refine hK.out _ _ ⟨k7.cell d0, k7.cell d1⟩ (fun hS => ?_)
  clear hK K
  change wpAnyH _ _ _ _ _ _ _ (Act.put _ (some 120) _) _
  try simp only [Act.put, List.setIfInBounds_toArray, List.set_cons_zero, List.set_cons_succ]
  refine wpAnyH_ready (rs := [7]) (by kernel_rfl) (by simp) ?_
  refine AllReadyH.cons rfl (fun K hK => ?_) AllReadyH.nil
  go_simp
  refine (hl A7 c7 _ f7.rd f7.cap (lenMax f7.capMax)).mono ?_
  rintro e w8 ⟨A8, rfl, r8, k8⟩
  go_wp2_with fail
  refine hK.out _ _ ⟨k8.cell hS.1, k8.cell hS.2⟩ (fun hS => ?_)
  clear hK K
  try simp only [Act.put, List.setIfInBounds_toArray, List.set_cons_zero, List.set_cons_succ]
  refine wpAnyH_take (i := 8) (v := ?_) rfl (by kernel_rfl) (by kernel_rfl) (by kernel_rfl) (fun _ _ _ h => h) (Or.inl ⟨by rfl, ?_⟩) hS ?_
  rotate_left
  · (intro w hSw; (try dsimp only at hSw); go_simp; (first | done | with_reducible rfl))
  change wpAnyH _ _ _ _ _ _ _ (Act.put _ (some 113) _) _
  simp only [Act.put, List.setIfInBounds_toArray, List.set_cons_zero, List.set_cons_succ]
  refine wpAnyH_take (i := 9) (v := ?_) rfl (by kernel_rfl) (by kernel_rfl) (by kernel_rfl) (fun _ _ _ h => h) (Or.inl ⟨by rfl, ?_⟩) hS ?_
  rotate_left
  · (intro w hSw; (try dsimp only at hSw); go_simp; (first | done | with_reducible rfl))
  change wpAnyH _ _ _ _ _ _ _ (Act.put _ (some 122) _) _
  simp only [Act.put, List.setIfInBounds_toArray, List.set_cons_zero, List.set_cons_succ]
  refine wpAnyH_take (i := 10) (v := ?_) rfl (by kernel_rfl) (by kernel_rfl) (by kernel_rfl) (fun _ _ _ h => h) (Or.inl ⟨by rfl, ?_⟩) hS ?_
  rotate_left
  · (intro w hSw; (try dsimp only at hSw); go_simp; (first | done | with_reducible rfl))
  change wpAnyH _ _ _ _ _ _ _ (Act.put _ (some 123) _) _
  simp only [Act.put, List.setIfInBounds_toArray, List.set_cons_zero, List.set_cons_succ]
  refine wpAnyH_take (i := 11) (v := ?_) rfl (by kernel_rfl) (by kernel_rfl) (by kernel_rfl) (fun _ _ _ h => h) (Or.inl ⟨by rfl, ?_⟩) hS ?_
  rotate_left
  · (intro w hSw; (try dsimp only at hSw); go_simp; (first | done | with_reducible rfl))
  change wpAnyH _ _ _ _ _ _ _ (Act.put _ (some 124) _) _
  simp only [Act.put, List.setIfInBounds_toArray, List.set_cons_zero, List.set_cons_succ]
  refine wpAnyH_take (i := 12) (v := ?_) rfl (by kernel_rfl) (by kernel_rfl) (by kernel_rfl) (fun _ _ _ h => h) (Or.inl ⟨by rfl, ?_⟩) hS ?_
  rotate_left
  · (intro w hSw; (try dsimp only at hSw); go_simp; (first | done | with_reducible rfl))
  change wpAnyH _ _ _ _ _ _ _ (Act.put _ (some 14) _) _
  simp only [Act.put, List.setIfInBounds_toArray, List.set_cons_zero, List.set_cons_succ]
  refine wpAnyH_take (i := 13) (v := ?_) rfl (by kernel_rfl) (by kernel_rfl) (by kernel_rfl) (fun _ _ _ h => h) (Or.inl ⟨by rfl, ?_⟩) hS ?_
  rotate_left
  · (intro w hSw; (try dsimp only at hSw); go_simp; (first | done | with_reducible rfl))
  change wpAnyH _ _ _ _ _ _ _ (Act.put _ (some 15) _) _
  simp only [Act.put, List.setIfInBounds_toArray, List.set_cons_zero, List.set_cons_succ]
  refine wpAnyH_take (i := 14) (v := ?_) rfl (by kernel_rfl) (by kernel_rfl) (by kernel_rfl) (fun _ _ _ h => h) (Or.inl ⟨by rfl, ?_⟩) hS ?_
  rotate_left
  · (intro w hSw; (try dsimp only at hSw); go_simp; (first | done | with_reducible rfl))
  change wpAnyH _ _ _ _ _ _ _ (Act.put _ (some 16) _) _
  simp only [Act.put, List.setIfInBounds_toArray, List.set_cons_zero, List.set_cons_succ]
  refine wpAnyH_done (by kernel_rfl) ?_ _
  refine NoPanic.normal ?_
  have k58 := k7.trans k8
  replace d0 := k58.cell d0
  replace d1 := k58.cell d1
  replace d2 := k58.cell d2
  replace d3 := k58.cell d3
  replace k0 := k0.trans k58
  have hz0 := hz.rd.keep k0
  clear k6 k7 k8 f7 hl k58 hS r3 d0 d1 d2 d3
  obtain ⟨W, hW⟩ : ∃ W, W = w8 := ⟨_, rfl⟩
  go_upto_region 14 with fail
  go_cut [12, 13, 162] from 125 to 162 (fun _ _ c wx => c = .bool false ∧ wx = W)
  case first =>
    subst hW
    clear r8 hz0
    rcases HC.out with ⟨hM, hN, hr⟩ | ⟨hM, hN, hr⟩
    · have m1 : decide ((0 : Int) < M) = false := decide_eq_false (by omega)
      have m5 : decide (0 < M) = false := decide_eq_false (by omega)
      have m6 : (0 < M) = False := eq_false (by omega)
      have m2 : (M = 0) = True := eq_true hM
      have m3 : (r != 1) = false := bne_eq_false_iff_eq.2 hr
      clear hM hN hr
      go_wp2_with fail
      go_meet
      exact ⟨rfl, rfl⟩
    · have m1 : decide ((0 : Int) < M) = true := decide_eq_true (by omega)
      have m2 : ((M : Int) == 0) = false := beq_eq_false_iff_ne.2 (by omega)
      have m5 : decide (0 < M) = true := decide_eq_true (by omega)
      have m6 : (M = 0) = False := eq_false (by omega)
      have m3 : (r != 0) = false := bne_eq_false_iff_eq.2 hr
      have m4 : ((N : Int) != (v : Int) % 256 ^ M) = false := bne_eq_false_iff_eq.2 (by rw [hN]; simp)
      clear hM hN hr
      go_wp2_with fail
      go_meet
      exact ⟨rfl, rfl⟩
  case rest =>
  subst hW
  obtain ⟨rfl, rfl⟩ := hcut
  go_wp2_with fail
  obtain ⟨W, hW⟩ : ∃ W, W = wc := ⟨_, rfl⟩
  subst hW
  go_loopw [17] (fun i wr => ∃ k : Nat, k ≤ zs.length ∧ i = .int .i64 k ∧ ∃ m, wr = W.drewN m) (fun i _ => zs.length - (intOf i).toNat)
  case atStart => exact ⟨0, Nat.zero_le _, rfl, 0, rfl⟩
  case round =>
    obtain ⟨k, hk, rfl, m, rfl⟩ := hrel
    by_cases hlt : k < zs.length
    · obtain ⟨b1, o1, x, rfl, hxk, hc1⟩ := hz0.int_at hlt
      obtain ⟨b2, o2, y, rfl, hyk, hc2⟩ := r8.int_at (j := k) (by rw [length_low]; exact hlt)
      rw [low_at hxk] at hyk
      obtain rfl := Option.some.inj hyk
      clear hxk hyk
      have hd : (x % 4294967296 != x % 4294967296) = false := by simp
      go_wp2_with fail
      go_quiet (fail)
      go_wp2_with fail
      go_roundw
      case rel => exact ⟨k + 1, by omega, by go_num, m + nq, rfl⟩
      case measure => simp [intOf]; omega
    · obtain rfl : k = zs.length := by omega
      go_wp2_with fail
      go_ret
      exact ⟨rfl, k0.drewN m⟩
end Go.Proofs.Ytjhmlcbpbmeicaa
