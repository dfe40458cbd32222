/-
  CONTRACTS of the document's answer of chapter 1: Get, GetList, GetBytes. Conditions: the slices are no longer than memory lets them be.
-/
import Derived.Test.YtafiahnaeakcfaaDoorRefA
import Derived.Deep.RegionHeld3
import Derived.IntWalk
namespace Go.Proofs.YtafiahnaeakcfaaDoor
open Go.RowKit

theorem val_drop {xs : List Int} {k j : Nat} {x : Int} (hj : j < k) (hx : xs[j]? = some x) : val ((xs.take k).drop j) = x.toNat + 256 * val ((xs.take k).drop (j + 1)) := by
  have h1 : (xs.take k)[j]? = some x := by rw [List.getElem?_take, if_pos hj, hx]
  obtain ⟨hl, he⟩ := List.getElem?_eq_some_iff.1 h1
  rw [List.drop_eq_getElem_cons hl, he]
  rfl

set_option maxRecDepth 100000 in
set_option maxHeartbeats 2000000 in
theorem refGet_f (A : Option Addr) (c : Nat) (xs : List Int) (n : Int) (w : World) (ha : Rd w A (cs .u8 xs)) (hb : Bytes xs) (hc : xs.length ≤ c) (lc : Len c) (hn : -9223372036854775808 ≤ n ∧ n ≤ 9223372036854775807) :
    Calls Tryd.prog 23 #[.slice A xs.length c, .int .i64 n] w (GetP xs n w) := by
  have lc' := lc.le
  have hc' : (xs.length : Int) ≤ c := by omega
  obtain ⟨n0, n1⟩ := hn
  unfold GetP
  by_cases h1 : n < 1
  · have e : getV xs n = (0, 1) := by unfold getV; rw [if_pos (.inl h1)]
    rw [e]
    clear e
    have y1 : decide (n < 1) = true := decide_eq_true h1
    go_enter Tryd.func23, Tryd.ntmps23
    go_wp2_with fail
    go_ret2
    exact ⟨rfl, Keep.refl _⟩
  by_cases h8 : 8 < n
  · have e : getV xs n = (0, 1) := by unfold getV; rw [if_pos (.inr h8)]
    rw [e]
    clear e
    have y1 : decide (n < 1) = false := decide_eq_false h1
    go_enter Tryd.func23, Tryd.ntmps23
    go_wp2_with fail
    go_ret2
    exact ⟨rfl, Keep.refl _⟩
  have y1 : decide (n < 1) = false := decide_eq_false h1
  have y2 : decide (8 < n) = false := decide_eq_false h8
  by_cases hs : (xs.length : Int) < n
  · have e : getV xs n = (0, 5) := by unfold getV; rw [if_neg (by omega), if_pos hs]
    rw [e]
    clear e
    go_enter Tryd.func23, Tryd.ntmps23
    go_wp2_with fail
    go_ret2
    exact ⟨rfl, Keep.refl _⟩
  obtain ⟨k, hk⟩ : ∃ k : Nat, n = k := ⟨n.toNat, by omega⟩
  subst hk
  have e : getV xs k = (val (xs.take k), 0) := by unfold getV; rw [if_neg (by omega), if_neg hs, Int.toNat_natCast]
  rw [e]
  clear e
  have hkl : k ≤ xs.length := by omega
  have hk8 : k ≤ 8 := by omega
  go_enter Tryd.func23, Tryd.ntmps23
  go_wp2_with fail
  go_loopw [6, 7] (fun u i wr => ∃ j : Nat, j ≤ k ∧ i = .int .i64 ((j : Int) - 1) ∧ u = .int .u64 (val ((xs.take k).drop j) : Int) ∧ Keep w wr) (fun _ i _ => (intOf i + 1).toNat)
  case atStart => exact ⟨k, Nat.le_refl _, by go_num, by rw [List.drop_eq_nil_of_le (by rw [List.length_take]; omega)]; rfl, Keep.refl _⟩
  case round =>
    obtain ⟨j, hj, rfl, rfl, hk2⟩ := hrel
    by_cases hj0 : 0 < j
    · obtain ⟨i, rfl⟩ : ∃ i, j = i + 1 := ⟨j - 1, by omega⟩
      obtain ⟨b1, o1, x, rfl, hx, hc1⟩ := (ha.keep hk2).int_at (j := i) (by omega)
      have hv := val_drop (xs := xs) (k := k) (by omega) hx
      obtain ⟨x0, x1⟩ := hb x (List.mem_of_getElem? hx)
      have hlt := val_lt (l := (xs.take k).drop (i + 1)) (fun y hy => hb y (List.mem_of_mem_take (List.mem_of_mem_drop hy)))
      rw [List.length_drop, List.length_take] at hlt
      have hp : 256 ^ (min k xs.length - (i + 1)) ≤ 256 ^ 7 := Nat.pow_le_pow_right (by decide) (by omega)
      obtain ⟨m, hm⟩ : ∃ m, m = val ((xs.take k).drop (i + 1)) := ⟨_, rfl⟩
      rw [← hm] at hv hlt ⊢
      have hm7 : m < 72057594037927936 := Nat.lt_of_lt_of_le hlt hp
      have HV := Lib.hid hv
      have hi1 : (((i + 1 : Nat) : Int) - 1) = i := by omega
      rw [hi1]
      have hi2 : (i : Int) < xs.length := by omega
      have hi0 : (0 : Int) ≤ i := by omega
      clear hx hv hlt hp hm hi1
      go_wp2_with fail
      go_roundw
      case rel => exact ⟨i, by omega, rfl, congrArg (Value.int .u64) (by rw [HV.out]; omega), hk2⟩
      case measure => simp [intOf]
    · obtain rfl : j = 0 := by omega
      have hm1 : (((0 : Nat) : Int) - 1) = -1 := rfl
      rw [hm1]
      clear hm1
      go_wp2_with fail
      go_ret2
      exact ⟨rfl, hk2⟩
/-- What GetList leaves. -/
def RefLP (xs : List Int) (w : World) (e : Ending) (w' : World) : Prop :=
  match getL xs with
  | none => e = .returned (.tuple #[.slice none 0 0, .int .i64 0, .int .i64 5]) ∧ Keep w w'
  | some zs => ∃ A' c', e = .returned (.tuple #[.slice A' zs.length c', .int .i64 ((1 + 4 * zs.length : Nat) : Int), .int .i64 0]) ∧ Rd w' A' (cs .i64 zs) ∧ Keep w w'
theorem num4_snoc (xs : List Int) (k : Nat) : (List.range (k + 1)).map (num4 xs) = (List.range k).map (num4 xs) ++ [num4 xs k] := by rw [List.range_succ, List.map_append]; rfl

set_option maxRecDepth 100000 in
set_option maxHeartbeats 4000000 in
theorem refGetList_f (A : Option Addr) (c : Nat) (xs : List Int) (w : World) (ha : Rd w A (cs .u8 xs)) (hb : Bytes xs) (hc : xs.length ≤ c) (lc : Len c) :
    Calls Tryd.prog 25 #[.slice A xs.length c] w (RefLP xs w) := by
  have lc' := lc.le
  have hc' : (xs.length : Int) ≤ c := by omega
  by_cases h0 : 0 < xs.length
  · obtain ⟨b, off, rfl, hcell⟩ := ha.ad (by rw [length_cs]; exact h0)
    have hx0 : xs[0]? = some (xs.getD 0 0) := by rw [List.getD_eq_getElem?_getD, List.getElem?_eq_getElem h0]; rfl
    have hc0 : w.cell? ⟨b, off, none⟩ = some (.int .u8 (xs.getD 0 0)) := by
      have := hcell 0 (.int .u8 (xs.getD 0 0)) (by rw [cs_at, hx0]; rfl)
      rwa [Nat.add_zero] at this
    obtain ⟨m0, m1⟩ := hb.getD 0
    obtain ⟨n, hn⟩ : ∃ n : Nat, xs.getD 0 0 = n := ⟨(xs.getD 0 0).toNat, by omega⟩
    have HN := Lib.hid (show n = (xs.getD 0 0).toNat by omega)
    rw [hn] at hc0 m1
    clear hcell hx0 hn m0
    have q1 : decide ((xs.length : Int) < 1) = false := decide_eq_false (by omega)
    have q0 : (0 : Int) < xs.length := by omega
    by_cases h4 : xs.length < 1 + 4 * n
    · have hg : getL xs = none := by rw [getL, if_pos (.inr (by rw [← HN.out]; exact h4))]
      unfold RefLP
      rw [hg]
      clear hg
      go_enter Tryd.func25, Tryd.ntmps25
      go_wp2_with fail
      go_ret3
      exact ⟨rfl, Keep.refl _⟩
    · have hg : getL xs = some ((List.range n).map (num4 xs)) := by rw [getL, if_neg (by rw [← HN.out]; omega), ← HN.out]
      unfold RefLP
      rw [hg]
      dsimp only
      rw [List.length_map, List.length_range]
      clear hg
      have hz1 : decide ((xs.length : Int) < 1 + 4 * (n : Int)) = false := decide_eq_false (by omega)
      go_enter Tryd.func25, Tryd.ntmps25
      go_wp2_with fail
      go_loopw [5, 6] (fun u i wr => ∃ (k : Nat) (A' : Option Addr) (c' : Nat), k ≤ n ∧ i = .int .i64 k ∧ u = .slice A' k c' ∧ Fr 3 wr w.heap.size A' k c' (cs .i64 ((List.range k).map (num4 xs))) ∧ Keep w wr) (fun _ i _ => n - (intOf i).toNat)
      case atStart => exact ⟨0, none, 0, Nat.zero_le _, rfl, rfl, Fr.empty _ _ _ _, Keep.refl _⟩
      case round =>
        obtain ⟨k, A1, c1, hk, rfl, rfl, hfr, hkeep⟩ := hrel
        have cb := hkeep.cell hc0
        by_cases hlt : k < n
        · have hrz : Rd wr (some ⟨b, off + (1 + 4 * k), none⟩) (cs .u8 (xs.drop (1 + 4 * k))) := by
            rw [← cs_drop]
            exact (ha.keep hkeep).drop (n := 1 + 4 * k) (cap := xs.length + (1 + 4 * k)) (by rw [length_cs]; omega) _ (fun _ => by simp [Addr.add_lit])
          have hgv : getV (xs.drop (1 + 4 * k)) 4 = (val ((xs.drop (1 + 4 * k)).take 4), 0) := by
            rw [getV, if_neg (by omega), if_neg (by rw [List.length_drop]; omega)]
            rfl
          have hp := refGet_f _ (c - (1 + 4 * k)) (xs.drop (1 + 4 * k)) 4 wr hrz (hb.drop _) (by rw [List.length_drop]; omega) (by unfold Len at lc ⊢; omega) (by omega)
          unfold GetP at hp
          rw [hgv, List.length_drop] at hp
          have hV : val ((xs.drop (1 + 4 * k)).take 4) < 4294967296 := by
            have h := val_lt ((hb.drop (1 + 4 * k)).take 4)
            rw [List.length_take, List.length_drop, Nat.min_eq_left (by omega)] at h
            simpa using h
          obtain ⟨V, hv⟩ : ∃ V, V = val ((xs.drop (1 + 4 * k)).take 4) := ⟨_, rfl⟩
          rw [← hv] at hp hV
          have HV := Lib.hid (show (V : Int) = num4 xs k by rw [hv]; rfl)
          clear hv hgv hrz
          go_wp2_with fail
          refine hp.mono ?_
          rintro e w2 ⟨rfl, hk2⟩
          have hf2 := hfr.keep hk2
          have hkk := hkeep.trans hk2
          clear hp
          go_wp2_with (at_builtin; refine wpList_append_fr _ rfl _ _ 23 rfl w.heap.size 3 (.int .i64 0) 8 Tryd.underlying23 infoInt rfl A1 k c1 _ rfl (hf2.keep (Keep.alloc1 _ _)) (some ⟨w2.heap.size, 0, none⟩) 1 1 [.int .i64 (V : Int)] rfl rfl (Rd.one _ _ _) (one_int _ _) ?c1 ?c2 ?c3 ?_)
          case c1 => unfold maxLen; omega
          case c2 => omega
          case c3 => have := hkk.size; simp; omega
          intro A' c' w3 happ
          have hk3 := happ.keep (hkk.alloc _) (hf2.keep (Keep.alloc1 _ _))
          have hf3 := happ.fr
          rw [HV.out, ← cs_one, ← cs_append, ← num4_snoc] at hf3
          clear happ hfr
          go_wp2_with fail
          go_roundw
          case rel => exact ⟨k + 1, A', c', by omega, by go_num, rfl, hf3, hk3⟩
          case measure => simp [intOf]; omega
        · obtain rfl : k = n := by omega
          have ww1 : IntKind.i64.wrap (k : Int) = k := IntWalk.i64_in _ (by omega)
          have ww2 : IntKind.i64.wrap (4 * (k : Int)) = 4 * k := IntWalk.i64_in _ (by omega)
          have ww3 : IntKind.i64.wrap (1 + 4 * (k : Int)) = 1 + 4 * k := IntWalk.i64_in _ (by omega)
          go_upto_region 9 with fail
          refine wp_region_noPanic ?_
          refine wp_region_held_drew (S := (fun w' => w'.cell? ⟨b, off, none⟩ = some (.int .u8 (k : Int)))) (by kernel_rfl) cb (fun hS => ?_)
          refine wpAnyH_take (i := 0) (v := ?_) rfl (by kernel_rfl) (by kernel_rfl) (by kernel_rfl) (fun _ _ _ h => h) (Or.inl ⟨by rfl, ?_⟩) hS ?_
          rotate_left
          · (intro w hSw; (try dsimp only at hSw); go_simp; (first | done | with_reducible rfl))
          change wpAnyH _ _ _ _ _ _ _ (Act.put _ (some 45) _) _
          simp only [Act.put, List.setIfInBounds_toArray, List.set_cons_zero, List.set_cons_succ]
          refine wpAnyH_take (i := 7) (v := ?_) rfl (by kernel_rfl) (by kernel_rfl) (by kernel_rfl) (fun _ _ _ h => h) (Or.inl ⟨by rfl, ?_⟩) hS ?_
          rotate_left
          · (intro w hSw; (try dsimp only at hSw); go_simp; (first | done | with_reducible rfl))
          change wpAnyH _ _ _ _ _ _ _ (Act.put _ (some 2) _) _
          simp only [Act.put, List.setIfInBounds_toArray, List.set_cons_zero, List.set_cons_succ]
          refine wpAnyH_take (i := 1) (v := ?_) rfl (by kernel_rfl) (by kernel_rfl) (by kernel_rfl) (fun _ _ _ h => h) (Or.inl ⟨by rfl, ?_⟩) hS ?_
          rotate_left
          · (intro w hSw; (try dsimp only at hSw); go_simp; (first | done | with_reducible rfl))
          change wpAnyH _ _ _ _ _ _ _ (Act.put _ (some 46) _) _
          simp only [Act.put, List.setIfInBounds_toArray, List.set_cons_zero, List.set_cons_succ]
          refine wpAnyH_take (i := 2) (v := ?_) rfl (by kernel_rfl) (by kernel_rfl) (by kernel_rfl) (fun _ _ _ h => h) (Or.inl ⟨by rfl, ?_⟩) hS ?_
          rotate_left
          · (intro w hSw; (try dsimp only at hSw); go_simp; (first | done | with_reducible rfl))
          change wpAnyH _ _ _ _ _ _ _ (Act.put _ (some 47) _) _
          simp only [Act.put, List.setIfInBounds_toArray, List.set_cons_zero, List.set_cons_succ]
          refine wpAnyH_take (i := 3) (v := ?_) rfl (by kernel_rfl) (by kernel_rfl) (by kernel_rfl) (fun _ _ _ h => h) (Or.inl ⟨by rfl, ?_⟩) hS ?_
          rotate_left
          · (intro w hSw; (try dsimp only at hSw); go_simp; (first | done | with_reducible rfl))
          change wpAnyH _ _ _ _ _ _ _ (Act.put _ (some 48) _) _
          simp only [Act.put, List.setIfInBounds_toArray, List.set_cons_zero, List.set_cons_succ]
          refine wpAnyH_take (i := 4) (v := ?_) rfl (by kernel_rfl) (by kernel_rfl) (by kernel_rfl) (fun _ _ _ h => h) (Or.inl ⟨by rfl, ?_⟩) hS ?_
          rotate_left
          · (intro w hSw; (try dsimp only at hSw); go_simp; (first | done | with_reducible rfl))
          change wpAnyH _ _ _ _ _ _ _ (Act.put _ (some 49) _) _
          simp only [Act.put, List.setIfInBounds_toArray, List.set_cons_zero, List.set_cons_succ]
          refine wpAnyH_take (i := 5) (v := ?_) rfl (by kernel_rfl) (by kernel_rfl) (by kernel_rfl) (fun _ _ _ h => h) (Or.inl ⟨by rfl, ?_⟩) hS ?_
          rotate_left
          · (intro w hSw; (try dsimp only at hSw); go_simp; (first | done | with_reducible rfl))
          change wpAnyH _ _ _ _ _ _ _ (Act.put _ (some 50) _) _
          simp only [Act.put, List.setIfInBounds_toArray, List.set_cons_zero, List.set_cons_succ]
          refine wpAnyH_take (i := 6) (v := ?_) rfl (by kernel_rfl) (by kernel_rfl) (by kernel_rfl) (fun _ _ _ h => h) (Or.inl ⟨by rfl, ?_⟩) hS ?_
          rotate_left
          · (intro w hSw; (try dsimp only at hSw); go_simp; (first | done | with_reducible rfl))
          change wpAnyH _ _ _ _ _ _ _ (Act.put _ (some 51) _) _
          simp only [Act.put, List.setIfInBounds_toArray, List.set_cons_zero, List.set_cons_succ]
          refine wpAnyH_take (i := 8) (v := ?_) rfl (by kernel_rfl) (by kernel_rfl) (by kernel_rfl) (fun _ _ _ h => h) (Or.inl ⟨by rfl, ?_⟩) hS ?_
          rotate_left
          · (intro w hSw; (try dsimp only at hSw); go_simp; (first | done | with_reducible rfl))
          change wpAnyH _ _ _ _ _ _ _ (Act.put _ (some 3) _) _
          simp only [Act.put, List.setIfInBounds_toArray, List.set_cons_zero, List.set_cons_succ]
          refine wpAnyH_take (i := 9) (v := ?_) rfl (by kernel_rfl) (by kernel_rfl) (by kernel_rfl) (fun _ _ _ h => h) (Or.inl ⟨by rfl, ?_⟩) hS ?_
          rotate_left
          · (intro w hSw; (try dsimp only at hSw); go_simp; (first | done | with_reducible rfl))
          change wpAnyH _ _ _ _ _ _ _ (Act.put _ (some 4) _) _
          simp only [Act.put, List.setIfInBounds_toArray, List.set_cons_zero, List.set_cons_succ]
          refine wpAnyH_done (by kernel_rfl) ?_ _
          refine NoPanic.normal ?_
          go_wp2_with fail
          go_ret3
          exact ⟨A1, c1, by first | rfl | (simp; rfl), (hfr.keep ((Keep.refl _).drew)).rd, hkeep.drew⟩
  · have hg : getL xs = none := by rw [getL, if_pos (.inl (by omega))]
    have q1 : decide ((xs.length : Int) < 1) = true := decide_eq_true (by omega)
    unfold RefLP
    rw [hg]
    clear hg
    go_enter Tryd.func25, Tryd.ntmps25
    go_wp2_with fail
    go_ret3
    exact ⟨rfl, Keep.refl _⟩

/-- What GetBytes leaves. -/
def RefByP (xs : List Int) (w : World) (e : Ending) (w' : World) : Prop :=
  match getBy xs with
  | none => e = .returned (.tuple #[.slice none 0 0, .int .i64 0, .int .i64 5]) ∧ Keep w w'
  | some zs => ∃ A' c', e = .returned (.tuple #[.slice A' zs.length c', .int .i64 ((2 + zs.length : Nat) : Int), .int .i64 0]) ∧ Rd w' A' (cs .u8 zs) ∧ Keep w w'
set_option maxRecDepth 100000 in
set_option maxHeartbeats 4000000 in
theorem refGetBytes_f (A : Option Addr) (c : Nat) (xs : List Int) (w : World) (ha : Rd w A (cs .u8 xs)) (hb : Bytes xs) (hc : xs.length ≤ c) (lc : Len c) :
    Calls Tryd.prog 27 #[.slice A xs.length c] w (RefByP xs w) := by
  have lc' := lc.le
  have hc' : (xs.length : Int) ≤ c := by omega
  by_cases h2 : xs.length < 2
  · have hg : getV xs 2 = (0, 5) := by rw [getV, if_neg (by omega), if_pos (by omega)]
    have hn : getBy xs = none := by rw [getBy, if_pos (.inl h2)]
    unfold RefByP
    rw [hn]
    have hp := refGet_f A c xs 2 w ha hb hc lc (by omega)
    unfold GetP at hp
    rw [hg] at hp
    clear hg hn
    go_enter Tryd.func27, Tryd.ntmps27
    go_wp2_with fail
    refine hp.mono ?_
    rintro e w1 ⟨rfl, hk1⟩
    go_wp2_with fail
    go_ret3
    exact ⟨rfl, hk1⟩
  · have hg : getV xs 2 = (val (xs.take 2), 0) := by rw [getV, if_neg (by omega), if_neg (by omega)]; rfl
    have hp := refGet_f A c xs 2 w ha hb hc lc (by omega)
    unfold GetP at hp
    rw [hg] at hp
    have hV : val (xs.take 2) < 65536 := by
      have := val_lt (hb.take 2)
      rw [List.length_take, Nat.min_eq_left (by omega)] at this
      simpa using this
    obtain ⟨V, hv⟩ : ∃ V, V = val (xs.take 2) := ⟨_, rfl⟩
    rw [← hv] at hp hV
    have HV := Lib.hid hv
    clear hg hv
    by_cases h3 : xs.length < 2 + V
    · have hn : getBy xs = none := by rw [getBy, if_pos (.inr (by rw [← HV.out]; exact h3))]
      have y1 : decide ((xs.length : Int) < 2 + V) = true := decide_eq_true (by omega)
      unfold RefByP
      rw [hn]
      clear hn
      go_enter Tryd.func27, Tryd.ntmps27
      go_wp2_with fail
      refine hp.mono ?_
      rintro e w1 ⟨rfl, hk1⟩
      go_wp2_with fail
      go_ret3
      exact ⟨rfl, hk1⟩
    · obtain ⟨zs, hz⟩ : ∃ zs, zs = (xs.drop 2).take V := ⟨_, rfl⟩
      have hn : getBy xs = some zs := by rw [getBy, ← HV.out, if_neg (by omega), hz]
      have y1 : decide ((xs.length : Int) < 2 + V) = false := decide_eq_false (by omega)
      unfold RefByP
      rw [hn]
      clear hn
      have hzl : zs.length = V := by rw [hz, List.length_take, List.length_drop]; omega
      have hrz : Rd w (if c = 2 then A else A.map (·.add 2)) (cs .u8 zs) := by
        rw [hz, ← cs_take, ← cs_drop]
        exact (ha.drop (n := 2) (cap := c) (by rw [length_cs]; exact hc) _ (fun h => by rw [if_neg h])).take V
      obtain ⟨b, off, rfl, hcell⟩ := ha.ad (by rw [length_cs]; omega)
      have HZ := Lib.hid hzl
      have HR := Lib.hid hrz
      clear hz hzl hcell ha hb hrz
      go_enter Tryd.func27, Tryd.ntmps27
      go_wp2_with fail
      refine hp.mono ?_
      rintro e w1 ⟨rfl, hk1⟩
      have q2 : (2 : Int) + V ≤ c := by omega
      clear hp
      go_wp2_with (at_builtin; refine wpList_append_fr _ rfl _ _ 22 rfl w1.heap.size 5 (.int .u8 0) 1 Tryd.underlying22 infoByte rfl none 0 0 [] rfl (Fr.empty _ _ _ _) _ (2 + V - 2) _ (cs .u8 zs) rfl ((length_cs _ _).trans (HZ.out.trans (Nat.add_sub_cancel_left 2 V).symm)) (by have h := HR.out.keep hk1; simpa [Addr.add_lit] using h) (one_cs _ _) ?c1 ?c2 ?c3 ?_)
      case c1 => unfold maxLen; omega
      case c2 => omega
      case c3 => exact Nat.le_refl _
      all_goals
        intro A' c' w2 happ
        have e22 : 2 + V - 2 = V := Nat.add_sub_cancel_left 2 V
        try simp only [Nat.zero_add, e22] at happ
        try simp only [Nat.zero_add, e22]
        clear e22
        have hk2 := happ.keep (Keep.refl _) (Fr.empty _ _ _ _)
        have hf2 := happ.fr
        clear happ
        go_wp2_with fail
        go_ret3
        rw [HZ.out]
        exact ⟨A', c', rfl, hf2.rd, hk1.trans hk2⟩
end Go.Proofs.YtafiahnaeakcfaaDoor
