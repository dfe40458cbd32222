/-
  SEVERAL TEXTS IN ONE (merged by a program of mine: a claim has at most 60 files). CONTRACTS of the document's answer of chapter 1: Get, GetList, GetBytes. Conditions: the slices are no longer than memory lets them be. CONTRACTS of GetList, GetBytes and the document's answers in one word each, whether the bytes are too few or not. Conditions: the slices are no longer than memory lets them be. PLAIN LAWS on what the document's answer reads of a frame's and a reply's bytes (no program in sight), and on strings of bytes. Conditions: those that each theorem states. CONTRACT of the document's answer of chapter 21: what frame any bytes are. Conditions: the slice reads as bytes, and is no longer than memory lets it be. CONTRACT of the document's answer of chapter 21: what reply any bytes are. Conditions: the slice reads as bytes, and is no longer than memory lets it be.
-/
import Derived.Test.YtnjjeanbopclhaaGreatDoorNumD
import Derived.Deep.RegionHeld3
import Derived.IntWalk
import Derived.Test.YtnjjeanbopclhaaGreatDoorNumF
import Derived.Test.YtnjjeanbopclhaaGreatDoorFrmP
import Derived.Test.YtnjjeanbopclhaaGreatDoorFrmK
import Derived.Laws.BytesArg
import Derived.Test.YtnjjeanbopclhaaGreatDoorFrmM
import Derived.Test.YtnjjeanbopclhaaGreatDoorFrmQ
import Derived.Test.YtnjjeanbopclhaaGreatDoorRefO

namespace Go.Proofs.YtnjjeanbopclhaaGreatDoor
open Go.RowKit

theorem val_drop {xs : List Int} {k j : Nat} {x : Int} (hj : j < k) (hx : xs[j]? = some x) : val ((xs.take k).drop j) = x.toNat + 256 * val ((xs.take k).drop (j + 1)) := by
  have h1 : (xs.take k)[j]? = some x := by rw [List.getElem?_take, if_pos hj, hx]
  obtain ⟨hl, he⟩ := List.getElem?_eq_some_iff.1 h1
  rw [List.drop_eq_getElem_cons hl, he]
  rfl

set_option maxRecDepth 100000 in
set_option maxHeartbeats 2000000 in
theorem refGet_f (A : Option Addr) (c : Nat) (xs : List Int) (n : Int) (w : World) (ha : Rd w A (cs .u8 xs)) (hb : Bytes xs) (hc : xs.length ≤ c) (lc : Len c) (hn : -9223372036854775808 ≤ n ∧ n ≤ 9223372036854775807) :
    Calls Tryz.prog 74 #[.slice A xs.length c, .int .i64 n] w (GetP xs n w) := by
  have lc' := lc.le
  have hc' : (xs.length : Int) ≤ c := by omega
  obtain ⟨n0, n1⟩ := hn
  unfold GetP
  by_cases h1 : n < 1
  · have e : getV xs n = (0, 1) := by unfold getV; rw [if_pos (.inl h1)]
    rw [e]
    clear e
    have y1 : decide (n < 1) = true := decide_eq_true h1
    go_enter Tryz.func74, Tryz.ntmps74
    go_wp2_with fail
    go_ret2
    exact ⟨rfl, Keep.refl _⟩
  by_cases h8 : 8 < n
  · have e : getV xs n = (0, 1) := by unfold getV; rw [if_pos (.inr h8)]
    rw [e]
    clear e
    have y1 : decide (n < 1) = false := decide_eq_false h1
    go_enter Tryz.func74, Tryz.ntmps74
    go_wp2_with fail
    go_ret2
    exact ⟨rfl, Keep.refl _⟩
  have y1 : decide (n < 1) = false := decide_eq_false h1
  have y2 : decide (8 < n) = false := decide_eq_false h8
  by_cases hs : (xs.length : Int) < n
  · have e : getV xs n = (0, 5) := by unfold getV; rw [if_neg (by omega), if_pos hs]
    rw [e]
    clear e
    go_enter Tryz.func74, Tryz.ntmps74
    go_wp2_with fail
    go_ret2
    exact ⟨rfl, Keep.refl _⟩
  obtain ⟨k, hk⟩ : ∃ k : Nat, n = k := ⟨n.toNat, by omega⟩
  subst hk
  have e : getV xs k = (val (xs.take k), 0) := by unfold getV; rw [if_neg (by omega), if_neg hs, Int.toNat_natCast]
  rw [e]
  clear e
  have hkl : k ≤ xs.length := by omega
  have hk8 : k ≤ 8 := by omega
  go_enter Tryz.func74, Tryz.ntmps74
  go_wp2_with fail
  go_loopw [6, 7] (fun u i wr => ∃ j : Nat, j ≤ k ∧ i = .int .i64 ((j : Int) - 1) ∧ u = .int .u64 (val ((xs.take k).drop j) : Int) ∧ Keep w wr) (fun _ i _ => (intOf i + 1).toNat)
  case atStart => exact ⟨k, Nat.le_refl _, by go_num, by rw [List.drop_eq_nil_of_le (by rw [List.length_take]; omega)]; rfl, Keep.refl _⟩
  case round =>
    obtain ⟨j, hj, rfl, rfl, hk2⟩ := hrel
    by_cases hj0 : 0 < j
    · obtain ⟨i, rfl⟩ : ∃ i, j = i + 1 := ⟨j - 1, by omega⟩
      obtain ⟨b1, o1, x, rfl, hx, hc1⟩ := (ha.keep hk2).int_at (j := i) (by omega)
      have hv := val_drop (xs := xs) (k := k) (by omega) hx
      obtain ⟨x0, x1⟩ := hb x (List.mem_of_getElem? hx)
      have hlt := val_lt (l := (xs.take k).drop (i + 1)) (fun y hy => hb y (List.mem_of_mem_take (List.mem_of_mem_drop hy)))
      rw [List.length_drop, List.length_take] at hlt
      have hp : 256 ^ (min k xs.length - (i + 1)) ≤ 256 ^ 7 := Nat.pow_le_pow_right (by decide) (by omega)
      obtain ⟨m, hm⟩ : ∃ m, m = val ((xs.take k).drop (i + 1)) := ⟨_, rfl⟩
      rw [← hm] at hv hlt ⊢
      have hm7 : m < 72057594037927936 := Nat.lt_of_lt_of_le hlt hp
      have HV := Lib.hid hv
      have hi1 : (((i + 1 : Nat) : Int) - 1) = i := by omega
      rw [hi1]
      have hi2 : (i : Int) < xs.length := by omega
      have hi0 : (0 : Int) ≤ i := by omega
      clear hx hv hlt hp hm hi1
      go_wp2_with fail
      go_roundw
      case rel => exact ⟨i, by omega, rfl, congrArg (Value.int .u64) (by rw [HV.out]; omega), hk2⟩
      case measure => simp [intOf]
    · obtain rfl : j = 0 := by omega
      have hm1 : (((0 : Nat) : Int) - 1) = -1 := rfl
      rw [hm1]
      clear hm1
      go_wp2_with fail
      go_ret2
      exact ⟨rfl, hk2⟩
/-- What GetList leaves: a list of the call's own. -/
def RefLO (xs : List Int) (w : World) (e : Ending) (w' : World) : Prop :=
  match getL xs with
  | none => e = .returned (.tuple #[.slice none 0 0, .int .i64 0, .int .i64 5]) ∧ Keep w w'
  | some zs => ∃ A' c', e = .returned (.tuple #[.slice A' zs.length c', .int .i64 ((1 + 4 * zs.length : Nat) : Int), .int .i64 0]) ∧ Fr 3 w' w.heap.size A' zs.length c' (cs .i64 zs) ∧ Keep w w'
/-- What GetList leaves. -/
def RefLP (xs : List Int) (w : World) (e : Ending) (w' : World) : Prop :=
  match getL xs with
  | none => e = .returned (.tuple #[.slice none 0 0, .int .i64 0, .int .i64 5]) ∧ Keep w w'
  | some zs => ∃ A' c', e = .returned (.tuple #[.slice A' zs.length c', .int .i64 ((1 + 4 * zs.length : Nat) : Int), .int .i64 0]) ∧ Rd w' A' (cs .i64 zs) ∧ Keep w w'
theorem num4_snoc (xs : List Int) (k : Nat) : (List.range (k + 1)).map (num4 xs) = (List.range k).map (num4 xs) ++ [num4 xs k] := by rw [List.range_succ, List.map_append]; rfl

set_option maxRecDepth 100000 in
set_option maxHeartbeats 4000000 in
theorem refGetList_o (A : Option Addr) (c : Nat) (xs : List Int) (w : World) (ha : Rd w A (cs .u8 xs)) (hb : Bytes xs) (hc : xs.length ≤ c) (lc : Len c) :
    Calls Tryz.prog 76 #[.slice A xs.length c] w (RefLO xs w) := by
  have lc' := lc.le
  have hc' : (xs.length : Int) ≤ c := by omega
  by_cases h0 : 0 < xs.length
  · obtain ⟨b, off, rfl, hcell⟩ := ha.ad (by rw [length_cs]; exact h0)
    have hx0 : xs[0]? = some (xs.getD 0 0) := by rw [List.getD_eq_getElem?_getD, List.getElem?_eq_getElem h0]; rfl
    have hc0 : w.cell? ⟨b, off, none⟩ = some (.int .u8 (xs.getD 0 0)) := by
      have := hcell 0 (.int .u8 (xs.getD 0 0)) (by rw [cs_at, hx0]; rfl)
      rwa [Nat.add_zero] at this
    obtain ⟨m0, m1⟩ := hb.getD 0
    obtain ⟨n, hn⟩ : ∃ n : Nat, xs.getD 0 0 = n := ⟨(xs.getD 0 0).toNat, by omega⟩
    have HN := Lib.hid (show n = (xs.getD 0 0).toNat by omega)
    rw [hn] at hc0 m1
    clear hcell hx0 hn m0
    have q1 : decide ((xs.length : Int) < 1) = false := decide_eq_false (by omega)
    have q0 : (0 : Int) < xs.length := by omega
    by_cases h4 : xs.length < 1 + 4 * n
    · have hg : getL xs = none := by rw [getL, if_pos (.inr (by rw [← HN.out]; exact h4))]
      unfold RefLO
      rw [hg]
      clear hg
      go_enter Tryz.func76, Tryz.ntmps76
      go_wp2_with fail
      go_ret3
      exact ⟨rfl, Keep.refl _⟩
    · have hg : getL xs = some ((List.range n).map (num4 xs)) := by rw [getL, if_neg (by rw [← HN.out]; omega), ← HN.out]
      unfold RefLO
      rw [hg]
      dsimp only
      rw [List.length_map, List.length_range]
      clear hg
      have hz1 : decide ((xs.length : Int) < 1 + 4 * (n : Int)) = false := decide_eq_false (by omega)
      go_enter Tryz.func76, Tryz.ntmps76
      go_wp2_with fail
      go_loopw [5, 6] (fun u i wr => ∃ (k : Nat) (A' : Option Addr) (c' : Nat), k ≤ n ∧ i = .int .i64 k ∧ u = .slice A' k c' ∧ Fr 3 wr w.heap.size A' k c' (cs .i64 ((List.range k).map (num4 xs))) ∧ Keep w wr) (fun _ i _ => n - (intOf i).toNat)
      case atStart => exact ⟨0, none, 0, Nat.zero_le _, rfl, rfl, Fr.empty _ _ _ _, Keep.refl _⟩
      case round =>
        obtain ⟨k, A1, c1, hk, rfl, rfl, hfr, hkeep⟩ := hrel
        have cb := hkeep.cell hc0
        by_cases hlt : k < n
        · have hrz : Rd wr (some ⟨b, off + (1 + 4 * k), none⟩) (cs .u8 (xs.drop (1 + 4 * k))) := by
            rw [← cs_drop]
            exact (ha.keep hkeep).drop (n := 1 + 4 * k) (cap := xs.length + (1 + 4 * k)) (by rw [length_cs]; omega) _ (fun _ => by simp [Addr.add_lit])
          have hgv : getV (xs.drop (1 + 4 * k)) 4 = (val ((xs.drop (1 + 4 * k)).take 4), 0) := by
            rw [getV, if_neg (by omega), if_neg (by rw [List.length_drop]; omega)]
            rfl
          have hp := refGet_f _ (c - (1 + 4 * k)) (xs.drop (1 + 4 * k)) 4 wr hrz (hb.drop _) (by rw [List.length_drop]; omega) (by unfold Len at lc ⊢; omega) (by omega)
          unfold GetP at hp
          rw [hgv, List.length_drop] at hp
          have hV : val ((xs.drop (1 + 4 * k)).take 4) < 4294967296 := by
            have h := val_lt ((hb.drop (1 + 4 * k)).take 4)
            rw [List.length_take, List.length_drop, Nat.min_eq_left (by omega)] at h
            simpa using h
          obtain ⟨V, hv⟩ : ∃ V, V = val ((xs.drop (1 + 4 * k)).take 4) := ⟨_, rfl⟩
          rw [← hv] at hp hV
          have HV := Lib.hid (show (V : Int) = num4 xs k by rw [hv]; rfl)
          clear hv hgv hrz
          go_wp2_with fail
          refine hp.mono ?_
          rintro e w2 ⟨rfl, hk2⟩
          have hf2 := hfr.keep hk2
          have hkk := hkeep.trans hk2
          clear hp
          go_wp2_with (at_builtin; refine wpList_append_fr _ rfl _ _ 26 rfl w.heap.size 3 (.int .i64 0) 8 Tryz.underlying26 infoInt rfl A1 k c1 _ rfl (hf2.keep (Keep.alloc1 _ _)) (some ⟨w2.heap.size, 0, none⟩) 1 1 [.int .i64 (V : Int)] rfl rfl (Rd.one _ _ _) (one_int _ _) ?c1 ?c2 ?c3 ?_)
          case c1 => unfold maxLen; omega
          case c2 => omega
          case c3 => have := hkk.size; simp; omega
          intro A' c' w3 happ
          have hk3 := happ.keep (hkk.alloc _) (hf2.keep (Keep.alloc1 _ _))
          have hf3 := happ.fr
          rw [HV.out, ← cs_one, ← cs_append, ← num4_snoc] at hf3
          clear happ hfr
          go_wp2_with fail
          go_roundw
          case rel => exact ⟨k + 1, A', c', by omega, by go_num, rfl, hf3, hk3⟩
          case measure => simp [intOf]; omega
        · obtain rfl : k = n := by omega
          have ww1 : IntKind.i64.wrap (k : Int) = k := IntWalk.i64_in _ (by omega)
          have ww2 : IntKind.i64.wrap (4 * (k : Int)) = 4 * k := IntWalk.i64_in _ (by omega)
          have ww3 : IntKind.i64.wrap (1 + 4 * (k : Int)) = 1 + 4 * k := IntWalk.i64_in _ (by omega)
          go_upto_region 9 with fail
          refine wp_region_noPanic ?_
          refine wp_region_held_drew (S := (fun w' => w'.cell? ⟨b, off, none⟩ = some (.int .u8 (k : Int)))) (by kernel_rfl) cb (fun hS => ?_)
          refine wpAnyH_take (i := 0) (v := ?_) rfl (by kernel_rfl) (by kernel_rfl) (by kernel_rfl) (fun _ _ _ h => h) (Or.inl ⟨by rfl, ?_⟩) hS ?_
          rotate_left
          · (intro w hSw; (try dsimp only at hSw); go_simp; (first | done | with_reducible rfl))
          change wpAnyH _ _ _ _ _ _ _ (Act.put _ (some 45) _) _
          simp only [Act.put, List.setIfInBounds_toArray, List.set_cons_zero, List.set_cons_succ]
          refine wpAnyH_take (i := 7) (v := ?_) rfl (by kernel_rfl) (by kernel_rfl) (by kernel_rfl) (fun _ _ _ h => h) (Or.inl ⟨by rfl, ?_⟩) hS ?_
          rotate_left
          · (intro w hSw; (try dsimp only at hSw); go_simp; (first | done | with_reducible rfl))
          change wpAnyH _ _ _ _ _ _ _ (Act.put _ (some 2) _) _
          simp only [Act.put, List.setIfInBounds_toArray, List.set_cons_zero, List.set_cons_succ]
          refine wpAnyH_take (i := 1) (v := ?_) rfl (by kernel_rfl) (by kernel_rfl) (by kernel_rfl) (fun _ _ _ h => h) (Or.inl ⟨by rfl, ?_⟩) hS ?_
          rotate_left
          · (intro w hSw; (try dsimp only at hSw); go_simp; (first | done | with_reducible rfl))
          change wpAnyH _ _ _ _ _ _ _ (Act.put _ (some 46) _) _
          simp only [Act.put, List.setIfInBounds_toArray, List.set_cons_zero, List.set_cons_succ]
          refine wpAnyH_take (i := 2) (v := ?_) rfl (by kernel_rfl) (by kernel_rfl) (by kernel_rfl) (fun _ _ _ h => h) (Or.inl ⟨by rfl, ?_⟩) hS ?_
          rotate_left
          · (intro w hSw; (try dsimp only at hSw); go_simp; (first | done | with_reducible rfl))
          change wpAnyH _ _ _ _ _ _ _ (Act.put _ (some 47) _) _
          simp only [Act.put, List.setIfInBounds_toArray, List.set_cons_zero, List.set_cons_succ]
          refine wpAnyH_take (i := 3) (v := ?_) rfl (by kernel_rfl) (by kernel_rfl) (by kernel_rfl) (fun _ _ _ h => h) (Or.inl ⟨by rfl, ?_⟩) hS ?_
          rotate_left
          · (intro w hSw; (try dsimp only at hSw); go_simp; (first | done | with_reducible rfl))
          change wpAnyH _ _ _ _ _ _ _ (Act.put _ (some 48) _) _
          simp only [Act.put, List.setIfInBounds_toArray, List.set_cons_zero, List.set_cons_succ]
          refine wpAnyH_take (i := 4) (v := ?_) rfl (by kernel_rfl) (by kernel_rfl) (by kernel_rfl) (fun _ _ _ h => h) (Or.inl ⟨by rfl, ?_⟩) hS ?_
          rotate_left
          · (intro w hSw; (try dsimp only at hSw); go_simp; (first | done | with_reducible rfl))
          change wpAnyH _ _ _ _ _ _ _ (Act.put _ (some 49) _) _
          simp only [Act.put, List.setIfInBounds_toArray, List.set_cons_zero, List.set_cons_succ]
          refine wpAnyH_take (i := 5) (v := ?_) rfl (by kernel_rfl) (by kernel_rfl) (by kernel_rfl) (fun _ _ _ h => h) (Or.inl ⟨by rfl, ?_⟩) hS ?_
          rotate_left
          · (intro w hSw; (try dsimp only at hSw); go_simp; (first | done | with_reducible rfl))
          change wpAnyH _ _ _ _ _ _ _ (Act.put _ (some 50) _) _
          simp only [Act.put, List.setIfInBounds_toArray, List.set_cons_zero, List.set_cons_succ]
          refine wpAnyH_take (i := 6) (v := ?_) rfl (by kernel_rfl) (by kernel_rfl) (by kernel_rfl) (fun _ _ _ h => h) (Or.inl ⟨by rfl, ?_⟩) hS ?_
          rotate_left
          · (intro w hSw; (try dsimp only at hSw); go_simp; (first | done | with_reducible rfl))
          change wpAnyH _ _ _ _ _ _ _ (Act.put _ (some 51) _) _
          simp only [Act.put, List.setIfInBounds_toArray, List.set_cons_zero, List.set_cons_succ]
          refine wpAnyH_take (i := 8) (v := ?_) rfl (by kernel_rfl) (by kernel_rfl) (by kernel_rfl) (fun _ _ _ h => h) (Or.inl ⟨by rfl, ?_⟩) hS ?_
          rotate_left
          · (intro w hSw; (try dsimp only at hSw); go_simp; (first | done | with_reducible rfl))
          change wpAnyH _ _ _ _ _ _ _ (Act.put _ (some 3) _) _
          simp only [Act.put, List.setIfInBounds_toArray, List.set_cons_zero, List.set_cons_succ]
          refine wpAnyH_take (i := 9) (v := ?_) rfl (by kernel_rfl) (by kernel_rfl) (by kernel_rfl) (fun _ _ _ h => h) (Or.inl ⟨by rfl, ?_⟩) hS ?_
          rotate_left
          · (intro w hSw; (try dsimp only at hSw); go_simp; (first | done | with_reducible rfl))
          change wpAnyH _ _ _ _ _ _ _ (Act.put _ (some 4) _) _
          simp only [Act.put, List.setIfInBounds_toArray, List.set_cons_zero, List.set_cons_succ]
          refine wpAnyH_done (by kernel_rfl) ?_ _
          refine NoPanic.normal ?_
          go_wp2_with fail
          go_ret3
          exact ⟨A1, c1, by first | rfl | (simp; rfl), hfr.keep ((Keep.refl _).drew), hkeep.drew⟩
  · have hg : getL xs = none := by rw [getL, if_pos (.inl (by omega))]
    have q1 : decide ((xs.length : Int) < 1) = true := decide_eq_true (by omega)
    unfold RefLO
    rw [hg]
    clear hg
    go_enter Tryz.func76, Tryz.ntmps76
    go_wp2_with fail
    go_ret3
    exact ⟨rfl, Keep.refl _⟩

theorem refGetList_f (A : Option Addr) (c : Nat) (xs : List Int) (w : World) (ha : Rd w A (cs .u8 xs)) (hb : Bytes xs) (hc : xs.length ≤ c) (lc : Len c) :
    Calls Tryz.prog 76 #[.slice A xs.length c] w (RefLP xs w) := by
  refine (refGetList_o A c xs w ha hb hc lc).mono ?_
  intro e w' h
  unfold RefLO at h
  unfold RefLP
  cases hg : getL xs with
  | none => rw [hg] at h; exact h
  | some zs =>
    rw [hg] at h
    obtain ⟨A', c', h1, h2, h3⟩ := h
    exact ⟨A', c', h1, h2.rd, h3⟩

/-- What GetBytes leaves. -/
def RefByP (xs : List Int) (w : World) (e : Ending) (w' : World) : Prop :=
  match getBy xs with
  | none => e = .returned (.tuple #[.slice none 0 0, .int .i64 0, .int .i64 5]) ∧ Keep w w'
  | some zs => ∃ A' c', e = .returned (.tuple #[.slice A' zs.length c', .int .i64 ((2 + zs.length : Nat) : Int), .int .i64 0]) ∧ Rd w' A' (cs .u8 zs) ∧ Keep w w'
/-- What GetBytes leaves: a slice of its own. -/
def RefByO (xs : List Int) (w : World) (e : Ending) (w' : World) : Prop :=
  match getBy xs with
  | none => e = .returned (.tuple #[.slice none 0 0, .int .i64 0, .int .i64 5]) ∧ Keep w w'
  | some zs => ∃ A' c', e = .returned (.tuple #[.slice A' zs.length c', .int .i64 ((2 + zs.length : Nat) : Int), .int .i64 0]) ∧ Fr 5 w' w.heap.size A' zs.length c' (cs .u8 zs) ∧ Keep w w'

set_option maxRecDepth 100000 in
set_option maxHeartbeats 4000000 in
theorem refGetBytes_o (A : Option Addr) (c : Nat) (xs : List Int) (w : World) (ha : Rd w A (cs .u8 xs)) (hb : Bytes xs) (hc : xs.length ≤ c) (lc : Len c) :
    Calls Tryz.prog 75 #[.slice A xs.length c] w (RefByO xs w) := by
  have lc' := lc.le
  have hc' : (xs.length : Int) ≤ c := by omega
  by_cases h2 : xs.length < 2
  · have hg : getV xs 2 = (0, 5) := by rw [getV, if_neg (by omega), if_pos (by omega)]
    have hn : getBy xs = none := by rw [getBy, if_pos (.inl h2)]
    unfold RefByO
    rw [hn]
    have hp := refGet_f A c xs 2 w ha hb hc lc (by omega)
    unfold GetP at hp
    rw [hg] at hp
    clear hg hn
    go_enter Tryz.func75, Tryz.ntmps75
    go_wp2_with fail
    refine hp.mono ?_
    rintro e w1 ⟨rfl, hk1⟩
    go_wp2_with fail
    go_ret3
    exact ⟨rfl, hk1⟩
  · have hg : getV xs 2 = (val (xs.take 2), 0) := by rw [getV, if_neg (by omega), if_neg (by omega)]; rfl
    have hp := refGet_f A c xs 2 w ha hb hc lc (by omega)
    unfold GetP at hp
    rw [hg] at hp
    have hV : val (xs.take 2) < 65536 := by
      have := val_lt (hb.take 2)
      rw [List.length_take, Nat.min_eq_left (by omega)] at this
      simpa using this
    obtain ⟨V, hv⟩ : ∃ V, V = val (xs.take 2) := ⟨_, rfl⟩
    rw [← hv] at hp hV
    have HV := Lib.hid hv
    clear hg hv
    by_cases h3 : xs.length < 2 + V
    · have hn : getBy xs = none := by rw [getBy, if_pos (.inr (by rw [← HV.out]; exact h3))]
      have y1 : decide ((xs.length : Int) < 2 + V) = true := decide_eq_true (by omega)
      unfold RefByO
      rw [hn]
      clear hn
      go_enter Tryz.func75, Tryz.ntmps75
      go_wp2_with fail
      refine hp.mono ?_
      rintro e w1 ⟨rfl, hk1⟩
      go_wp2_with fail
      go_ret3
      exact ⟨rfl, hk1⟩
    · obtain ⟨zs, hz⟩ : ∃ zs, zs = (xs.drop 2).take V := ⟨_, rfl⟩
      have hn : getBy xs = some zs := by rw [getBy, ← HV.out, if_neg (by omega), hz]
      have y1 : decide ((xs.length : Int) < 2 + V) = false := decide_eq_false (by omega)
      unfold RefByO
      rw [hn]
      clear hn
      have hzl : zs.length = V := by rw [hz, List.length_take, List.length_drop]; omega
      have hrz : Rd w (if c = 2 then A else A.map (·.add 2)) (cs .u8 zs) := by
        rw [hz, ← cs_take, ← cs_drop]
        exact (ha.drop (n := 2) (cap := c) (by rw [length_cs]; exact hc) _ (fun h => by rw [if_neg h])).take V
      obtain ⟨b, off, rfl, hcell⟩ := ha.ad (by rw [length_cs]; omega)
      have HZ := Lib.hid hzl
      have HR := Lib.hid hrz
      clear hz hzl hcell ha hb hrz
      go_enter Tryz.func75, Tryz.ntmps75
      go_wp2_with fail
      refine hp.mono ?_
      rintro e w1 ⟨rfl, hk1⟩
      have q2 : (2 : Int) + V ≤ c := by omega
      clear hp
      go_wp2_with (at_builtin; refine wpList_append_fr _ rfl _ _ 25 rfl w1.heap.size 5 (.int .u8 0) 1 Tryz.underlying25 infoByte rfl none 0 0 [] rfl (Fr.empty _ _ _ _) _ (2 + V - 2) _ (cs .u8 zs) rfl ((length_cs _ _).trans (HZ.out.trans (Nat.add_sub_cancel_left 2 V).symm)) (by have h := HR.out.keep hk1; simpa [Addr.add_lit] using h) (one_cs _ _) ?c1 ?c2 ?c3 ?_)
      case c1 => unfold maxLen; omega
      case c2 => omega
      case c3 => exact Nat.le_refl _
      all_goals
        intro A' c' w2 happ
        have e22 : 2 + V - 2 = V := Nat.add_sub_cancel_left 2 V
        try simp only [Nat.zero_add, e22] at happ
        try simp only [Nat.zero_add, e22]
        clear e22
        have hk2 := happ.keep (Keep.refl _) (Fr.empty _ _ _ _)
        have hf2 := happ.fr
        clear happ
        go_wp2_with fail
        go_ret3
        rw [HZ.out]
        exact ⟨A', c', rfl, hf2.mono hk1.size, hk1.trans hk2⟩

theorem refGetBytes_f (A : Option Addr) (c : Nat) (xs : List Int) (w : World) (ha : Rd w A (cs .u8 xs)) (hb : Bytes xs) (hc : xs.length ≤ c) (lc : Len c) :
    Calls Tryz.prog 75 #[.slice A xs.length c] w (RefByP xs w) := by
  refine (refGetBytes_o A c xs w ha hb hc lc).mono ?_
  intro e w' h
  unfold RefByO at h
  unfold RefByP
  cases hg : getBy xs with
  | none => rw [hg] at h; exact h
  | some zs =>
    rw [hg] at h
    obtain ⟨A', c', h1, h2, h3⟩ := h
    exact ⟨A', c', h1, h2.rd, h3⟩
end Go.Proofs.YtnjjeanbopclhaaGreatDoor

namespace Go.Proofs.YtnjjeanbopclhaaGreatDoor
open Go.RowKit

def getLV (xs : List Int) : List Int × Nat × Int := match getL xs with | none => ([], 0, 5) | some zs => (zs, 1 + 4 * zs.length, 0)
def getBV (xs : List Int) : List Int × Nat × Int := match getBy xs with | none => ([], 0, 5) | some zs => (zs, 2 + zs.length, 0)
theorem getLV_len {xs : List Int} (hb : Bytes xs) : (getLV xs).1.length ≤ 255 := by
  unfold getLV getL
  obtain ⟨h0, h1⟩ := hb.getD 0
  split
  · exact Nat.zero_le _
  · rename_i zs h
    split at h
    · cases h
    · cases h
      rw [List.length_map, List.length_range]
      omega
theorem getBV_len {xs : List Int} (hb : Bytes xs) : (getBV xs).1.length ≤ 65535 := by
  unfold getBV getBy
  split
  · exact Nat.zero_le _
  · rename_i zs h
    split at h
    · cases h
    · rename_i h2
      cases h
      have := val_lt (hb.take 2)
      rw [List.length_take, Nat.min_eq_left (by omega)] at this
      rw [List.length_take]
      omega
theorem getList_u (A : Option Addr) (c : Nat) (xs : List Int) (w : World) (ha : Rd w A (cs .u8 xs)) (hb : Bytes xs) (hc : xs.length ≤ c) (lc : Len c) {L : List Int} {t : Nat} {r : Int} (h : getLV xs = (L, t, r)) :
    Calls Tryz.prog 106 #[.slice A xs.length c] w fun e w' => ∃ A', e = .returned (.tuple #[.slice A' L.length L.length, .int .i64 (t : Int), .int .i64 r]) ∧ Fr 3 w' w.heap.size A' L.length L.length (cs .i64 L) ∧ Keep w w' := by
  refine (getList_f A c xs w ha hb hc lc).mono ?_
  intro e w' hq
  unfold GetLP at hq
  unfold getLV at h
  cases hg : getL xs with
  | none =>
    rw [hg] at hq h
    cases h
    exact ⟨none, hq.1, Fr.empty _ _ _ _, hq.2⟩
  | some zs =>
    rw [hg] at hq h
    cases h
    exact hq
theorem refGetList_u (A : Option Addr) (c : Nat) (xs : List Int) (w : World) (ha : Rd w A (cs .u8 xs)) (hb : Bytes xs) (hc : xs.length ≤ c) (lc : Len c) {L : List Int} {t : Nat} {r : Int} (h : getLV xs = (L, t, r)) :
    Calls Tryz.prog 76 #[.slice A xs.length c] w fun e w' => ∃ A' c', e = .returned (.tuple #[.slice A' L.length c', .int .i64 (t : Int), .int .i64 r]) ∧ Rd w' A' (cs .i64 L) ∧ Keep w w' := by
  refine (refGetList_f A c xs w ha hb hc lc).mono ?_
  intro e w' hq
  unfold RefLP at hq
  unfold getLV at h
  cases hg : getL xs with
  | none =>
    rw [hg] at hq h
    cases h
    exact ⟨none, 0, hq.1, Rd.nil _ _, hq.2⟩
  | some zs =>
    rw [hg] at hq h
    cases h
    exact hq
theorem getBytes_u (A : Option Addr) (c : Nat) (xs : List Int) (w : World) (ha : Rd w A (cs .u8 xs)) (hb : Bytes xs) (hc : xs.length ≤ c) (lc : Len c) {L : List Int} {t : Nat} {r : Int} (h : getBV xs = (L, t, r)) :
    Calls Tryz.prog 105 #[.slice A xs.length c] w fun e w' => ∃ A', e = .returned (.tuple #[.slice A' L.length L.length, .int .i64 (t : Int), .int .i64 r]) ∧ Fr 5 w' w.heap.size A' L.length L.length (cs .u8 L) ∧ Keep w w' := by
  refine (getBytes_f A c xs w ha hb hc lc).mono ?_
  intro e w' hq
  unfold GetByP at hq
  unfold getBV at h
  cases hg : getBy xs with
  | none =>
    rw [hg] at hq h
    cases h
    exact ⟨none, hq.1, Fr.empty _ _ _ _, hq.2⟩
  | some zs =>
    rw [hg] at hq h
    cases h
    exact hq
theorem refGetBytes_u (A : Option Addr) (c : Nat) (xs : List Int) (w : World) (ha : Rd w A (cs .u8 xs)) (hb : Bytes xs) (hc : xs.length ≤ c) (lc : Len c) {L : List Int} {t : Nat} {r : Int} (h : getBV xs = (L, t, r)) :
    Calls Tryz.prog 75 #[.slice A xs.length c] w fun e w' => ∃ A' c', e = .returned (.tuple #[.slice A' L.length c', .int .i64 (t : Int), .int .i64 r]) ∧ Rd w' A' (cs .u8 L) ∧ Keep w w' := by
  refine (refGetBytes_f A c xs w ha hb hc lc).mono ?_
  intro e w' hq
  unfold RefByP at hq
  unfold getBV at h
  cases hg : getBy xs with
  | none =>
    rw [hg] at hq h
    cases h
    exact ⟨none, 0, hq.1, Rd.nil _ _, hq.2⟩
  | some zs =>
    rw [hg] at hq h
    cases h
    exact hq
end Go.Proofs.YtnjjeanbopclhaaGreatDoor

namespace Go.Proofs.YtnjjeanbopclhaaGreatDoor
open Go.RowKit

theorem rdN_yes {k : Nat} {xs : List Int} (h : k ≤ xs.length) : rdN k xs = some (val (xs.take k), xs.drop k) := by
  unfold rdN
  rw [if_neg (by omega)]
theorem rdN_no {k : Nat} {xs : List Int} (h : xs.length < k) : rdN k xs = none := by
  unfold rdN
  rw [if_pos h]
theorem val_one {xs : List Int} {j : Nat} {a : Int} (h : xs[j]? = some a) : val ((xs.drop j).take 1) = a.toNat := by
  obtain ⟨hl, he⟩ := List.getElem?_eq_some_iff.1 h
  rw [List.drop_eq_getElem_cons hl, he]
  simp [val]
theorem rdB_none {xs : List Int} (h : getBy xs = none) : rdB xs = none := by unfold rdB; rw [h]
theorem rdB_yes {xs l : List Int} (h : getBy xs = some l) : rdB xs = some (l, xs.drop (2 + l.length)) := by unfold rdB; rw [h]
theorem rdL_none {xs : List Int} (h : getL xs = none) : rdL xs = none := by unfold rdL; rw [h]
theorem rdL_yes {xs l : List Int} (h : getL xs = some l) : rdL xs = some (l, xs.drop (1 + 4 * l.length)) := by unfold rdL; rw [h]

theorem readF_short {xs : List Int} (h : xs.length < 14) : readF xs = none := by
  unfold readF
  by_cases h1 : xs.length < 1
  · rw [rdN_no h1]; rfl
  rw [rdN_yes (by omega)]
  simp only [Option.bind_some]
  by_cases h2 : xs.length < 2
  · rw [rdN_no (by rw [List.length_drop]; omega)]; rfl
  rw [rdN_yes (by rw [List.length_drop]; omega)]
  simp only [Option.bind_some]
  by_cases h3 : xs.length < 6
  · rw [rdN_no (by rw [List.length_drop, List.length_drop]; omega)]; rfl
  rw [rdN_yes (by rw [List.length_drop, List.length_drop]; omega)]
  simp only [Option.bind_some]
  rw [rdN_no (by rw [List.length_drop, List.length_drop, List.length_drop]; omega)]
  rfl
theorem readF_eq {xs : List Int} {a0 a1 : Int} (h : 14 ≤ xs.length) (h0 : xs[0]? = some a0) (h1 : xs[1]? = some a1) :
    readF xs = (rdB (xs.drop 14)).bind fun s => (rdL s.2).bind fun l => some (⟨a0.toNat, a1.toNat, val ((xs.drop 2).take 4), val ((xs.drop 6).take 8), s.1, l.1⟩, l.2) := by
  have v0 := val_one h0
  have v1 := val_one h1
  rw [List.drop_zero] at v0
  unfold readF
  rw [rdN_yes (by omega)]
  simp only [Option.bind_some]
  rw [rdN_yes (by rw [List.length_drop]; omega)]
  simp only [Option.bind_some]
  rw [rdN_yes (by rw [List.length_drop, List.length_drop]; omega)]
  simp only [Option.bind_some]
  rw [rdN_yes (by rw [List.length_drop, List.length_drop, List.length_drop]; omega)]
  simp only [Option.bind_some, List.drop_drop]
  rw [v0, v1]
theorem readF_none2 {xs : List Int} (h : 14 ≤ xs.length) (g : getBy (xs.drop 14) = none) : readF xs = none := by
  rw [readF_eq h (List.getElem?_eq_getElem (by omega)) (List.getElem?_eq_getElem (by omega)), rdB_none g]
  rfl
theorem readF_none3 {xs s : List Int} (h : 14 ≤ xs.length) (g : getBy (xs.drop 14) = some s) (k : getL (xs.drop (14 + (2 + s.length))) = none) : readF xs = none := by
  rw [readF_eq h (List.getElem?_eq_getElem (by omega)) (List.getElem?_eq_getElem (by omega)), rdB_yes g]
  simp only [Option.bind_some, List.drop_drop]
  rw [rdL_none k]
  rfl
theorem readF_yes {xs s l : List Int} {a0 a1 : Int} (h : 14 ≤ xs.length) (h0 : xs[0]? = some a0) (h1 : xs[1]? = some a1) (g : getBy (xs.drop 14) = some s) (k : getL (xs.drop (14 + (2 + s.length))) = some l) :
    ∃ rest, readF xs = some (⟨a0.toNat, a1.toNat, val ((xs.drop 2).take 4), val ((xs.drop 6).take 8), s, l⟩, rest) := by
  rw [readF_eq h h0 h1, rdB_yes g]
  simp only [Option.bind_some, List.drop_drop]
  rw [rdL_yes k]
  exact ⟨_, rfl⟩
/-- What is read, put and compared is what is read with nothing left. -/
theorem getF_ref {xs rest : List Int} {f : FV} (hb : Bytes xs) (h : readF xs = some (f, rest)) (hl : ¬ 256 < xs.length) : getFV xs = if mayF f = true ∧ bytesF f = xs then (f, 0) else (zeroF, 4) := by
  have e := (readF_some hb h).1
  unfold getFV
  rw [if_neg hl, h]
  simp only
  by_cases hm : mayF f = true
  · by_cases hr : rest = []
    · rw [if_pos ⟨hr, hm⟩, if_pos ⟨hm, by rw [hr, List.append_nil] at e; exact e⟩]
    · rw [if_neg (fun q => hr q.1), if_neg (fun q => hr (by
        have := congrArg List.length e
        rw [q.2, List.length_append] at this
        exact List.eq_nil_of_length_eq_zero (by omega)))]
  · rw [if_neg (fun q => hm q.2), if_neg (fun q => hm q.1)]
theorem getF_big {xs : List Int} (h : 256 < xs.length) : getFV xs = (zeroF, 3) := by unfold getFV; rw [if_pos h]
theorem getF_none {xs : List Int} (hl : ¬ 256 < xs.length) (h : readF xs = none) : getFV xs = (zeroF, 4) := by unfold getFV; rw [if_neg hl, h]

theorem readR_short {xs : List Int} (h : xs.length < 23) : readR xs = none := by
  unfold readR
  by_cases h1 : xs.length < 1
  · rw [rdN_no h1]; rfl
  rw [rdN_yes (by omega)]
  simp only [Option.bind_some]
  by_cases h2 : xs.length < 5
  · rw [rdN_no (by rw [List.length_drop]; omega)]; rfl
  rw [rdN_yes (by rw [List.length_drop]; omega)]
  simp only [Option.bind_some, List.drop_drop]
  by_cases h3 : xs.length < 13
  · rw [rdN_no (by rw [List.length_drop]; omega)]; rfl
  rw [rdN_yes (by rw [List.length_drop]; omega)]
  simp only [Option.bind_some, List.drop_drop]
  by_cases h4 : xs.length < 14
  · rw [rdN_no (by rw [List.length_drop]; omega)]; rfl
  rw [rdN_yes (by rw [List.length_drop]; omega)]
  simp only [Option.bind_some, List.drop_drop]
  by_cases h5 : xs.length < 22
  · rw [rdN_no (by rw [List.length_drop]; omega)]; rfl
  rw [rdN_yes (by rw [List.length_drop]; omega)]
  simp only [Option.bind_some, List.drop_drop]
  rw [rdN_no (by rw [List.length_drop]; omega)]
  rfl
theorem readR_eq {xs : List Int} {a0 a13 a22 : Int} (h : 23 ≤ xs.length) (h0 : xs[0]? = some a0) (h1 : xs[13]? = some a13) (h2 : xs[22]? = some a22) :
    readR xs = (rdL (xs.drop 23)).bind fun l => (rdN 1 l.2).bind fun i => (rdN 4 i.2).bind fun p => (rdB p.2).bind fun s =>
      some (⟨(a0.toNat : Int), val ((xs.drop 1).take 4), val ((xs.drop 5).take 8), a13.toNat, val ((xs.drop 14).take 8), a22.toNat == 1, l.1, itemV i.1, (p.1 : Int), s.1⟩, a22.toNat, s.2) := by
  have v0 := val_one h0
  have v1 := val_one h1
  have v2 := val_one h2
  rw [List.drop_zero] at v0
  unfold readR
  rw [rdN_yes (by omega)]
  simp only [Option.bind_some]
  rw [rdN_yes (by rw [List.length_drop]; omega)]
  simp only [Option.bind_some, List.drop_drop]
  rw [rdN_yes (by rw [List.length_drop]; omega)]
  simp only [Option.bind_some, List.drop_drop]
  rw [rdN_yes (by rw [List.length_drop]; omega)]
  simp only [Option.bind_some, List.drop_drop]
  rw [rdN_yes (by rw [List.length_drop]; omega)]
  simp only [Option.bind_some, List.drop_drop]
  rw [rdN_yes (by rw [List.length_drop]; omega)]
  simp only [Option.bind_some, List.drop_drop, Nat.reduceAdd]
  rw [v0, v1, v2]
theorem readR_none2 {xs : List Int} (h : 23 ≤ xs.length) (g : getL (xs.drop 23) = none) : readR xs = none := by
  rw [readR_eq h (List.getElem?_eq_getElem (by omega)) (List.getElem?_eq_getElem (by omega)) (List.getElem?_eq_getElem (by omega)), rdL_none g]
  rfl
theorem readR_none3 {xs l : List Int} (h : 23 ≤ xs.length) (g : getL (xs.drop 23) = some l) (k : xs.length < 23 + (1 + 4 * l.length) + 5) : readR xs = none := by
  rw [readR_eq h (List.getElem?_eq_getElem (by omega)) (List.getElem?_eq_getElem (by omega)) (List.getElem?_eq_getElem (by omega)), rdL_yes g]
  simp only [Option.bind_some, List.drop_drop]
  by_cases h1 : xs.length < 23 + (1 + 4 * l.length) + 1
  · rw [rdN_no (by rw [List.length_drop]; omega)]; rfl
  rw [rdN_yes (by rw [List.length_drop]; omega)]
  simp only [Option.bind_some, List.drop_drop]
  rw [rdN_no (by rw [List.length_drop]; omega)]
  rfl
theorem readR_eq4 {xs l : List Int} {a0 a13 a22 ai : Int} (h : 23 ≤ xs.length) (h0 : xs[0]? = some a0) (h1 : xs[13]? = some a13) (h2 : xs[22]? = some a22) (g : getL (xs.drop 23) = some l) (k : ¬ xs.length < 23 + (1 + 4 * l.length) + 5) (hi : xs[23 + (1 + 4 * l.length)]? = some ai) :
    readR xs = (rdB (xs.drop (23 + (1 + 4 * l.length) + 5))).bind fun s =>
      some (⟨(a0.toNat : Int), val ((xs.drop 1).take 4), val ((xs.drop 5).take 8), a13.toNat, val ((xs.drop 14).take 8), a22.toNat == 1, l, itemV ai.toNat, (val ((xs.drop (23 + (1 + 4 * l.length) + 1)).take 4) : Int), s.1⟩, a22.toNat, s.2) := by
  have v := val_one hi
  rw [readR_eq h h0 h1 h2, rdL_yes g]
  simp only [Option.bind_some, List.drop_drop]
  rw [rdN_yes (by rw [List.length_drop]; omega)]
  simp only [Option.bind_some, List.drop_drop]
  rw [rdN_yes (by rw [List.length_drop]; omega)]
  simp only [Option.bind_some, List.drop_drop]
  rw [v]
theorem readR_none4 {xs l : List Int} (h : 23 ≤ xs.length) (g : getL (xs.drop 23) = some l) (k : ¬ xs.length < 23 + (1 + 4 * l.length) + 5) (g2 : getBy (xs.drop (23 + (1 + 4 * l.length) + 5)) = none) : readR xs = none := by
  rw [readR_eq4 h (List.getElem?_eq_getElem (by omega)) (List.getElem?_eq_getElem (by omega)) (List.getElem?_eq_getElem (by omega)) g k (List.getElem?_eq_getElem (by omega)), rdB_none g2]
  rfl
theorem readR_yes {xs l s : List Int} {a0 a13 a22 ai : Int} (h : 23 ≤ xs.length) (h0 : xs[0]? = some a0) (h1 : xs[13]? = some a13) (h2 : xs[22]? = some a22) (g : getL (xs.drop 23) = some l) (k : ¬ xs.length < 23 + (1 + 4 * l.length) + 5) (hi : xs[23 + (1 + 4 * l.length)]? = some ai) (g2 : getBy (xs.drop (23 + (1 + 4 * l.length) + 5)) = some s) :
    ∃ rest, readR xs = some (⟨(a0.toNat : Int), val ((xs.drop 1).take 4), val ((xs.drop 5).take 8), a13.toNat, val ((xs.drop 14).take 8), a22.toNat == 1, l, itemV ai.toNat, (val ((xs.drop (23 + (1 + 4 * l.length) + 1)).take 4) : Int), s⟩, a22.toNat, rest) := by
  rw [readR_eq4 h h0 h1 h2 g k hi, rdB_yes g2]
  exact ⟨_, rfl⟩
theorem getR_ref {xs rest : List Int} {r : RV} {n : Nat} (hb : Bytes xs) (h : readR xs = some (r, n, rest)) (hl : ¬ 4096 < xs.length) (h1 : r.seq < 4294967296) (h2 : r.tok < 18446744073709551616) : getRV xs = if mayR r = true ∧ bytesR r = xs then (r, 0) else (zeroR, 4) := by
  unfold getRV
  rw [if_neg hl, h]
  simp only
  by_cases hm : mayR r = true
  · by_cases hr : rest = [] ∧ n ≤ 1
    · have e := (readR_some hb h hr.2).1
      rw [if_pos ⟨hr.1, hr.2, hm⟩, if_pos ⟨hm, by rw [hr.1, List.append_nil] at e; exact e⟩]
    · rw [if_neg (fun q => hr ⟨q.1, q.2.1⟩), if_neg (fun q => hr (by
        have e := readR_put (mayR_fit hm h1 h2) []
        rw [List.append_nil, q.2, h] at e
        simp only [Option.some.injEq, Prod.mk.injEq, true_and] at e
        refine ⟨e.2, ?_⟩
        rw [e.1]
        unfold hasN
        split <;> omega))]
  · rw [if_neg (fun q => hm q.2.2), if_neg (fun q => hm q.1)]
theorem getR_big {xs : List Int} (h : 4096 < xs.length) : getRV xs = (zeroR, 3) := by unfold getRV; rw [if_pos h]
theorem getR_none {xs : List Int} (hl : ¬ 4096 < xs.length) (h : readR xs = none) : getRV xs = (zeroR, 4) := by unfold getRV; rw [if_neg hl, h]

/-- Strings of bytes are alike just if the bytes are. -/
theorem str_inj {a b : List Int} (ha : Bytes a) (hb : Bytes b) (h : strOfNums a = strOfNums b) : a = b := by
  have e : (strOfNums a).data.toList = (strOfNums b).data.toList := by rw [h]
  rw [strOfNums_data, strOfNums_data] at e
  clear h
  induction a generalizing b with
  | nil => cases b with
    | nil => rfl
    | cons y b => cases e
  | cons x a ih => cases b with
    | nil => cases e
    | cons y b =>
      rw [List.map_cons, List.map_cons, List.cons.injEq] at e
      have hx := ha x List.mem_cons_self
      have hy := hb y List.mem_cons_self
      have e1 := congrArg UInt8.toNat e.1
      simp only [UInt8.toNat_ofNat'] at e1
      rw [ih (fun z hz => ha z (List.mem_cons_of_mem _ hz)) (fun z hz => hb z (List.mem_cons_of_mem _ hz)) e.2, show x = y by omega]
theorem str_eq {a b : List Int} (ha : Bytes a) (hb : Bytes b) : ((strOfNums a).toList == (strOfNums b).toList) = decide (a = b) := by
  rw [ByteArray.toList_eq, ByteArray.toList_eq]
  by_cases h : a = b
  · subst h
    rw [decide_eq_true rfl]
    exact beq_iff_eq.2 rfl
  · rw [decide_eq_false h]
    exact beq_false_of_ne fun e => h (str_inj ha hb (by
      show ByteArray.mk _ = ByteArray.mk _
      rw [strOfNums_data, strOfNums_data] at e
      rw [e]))
end Go.Proofs.YtnjjeanbopclhaaGreatDoor

namespace Go.Proofs.YtnjjeanbopclhaaGreatDoor
open Go.RowKit

/-- What the document's Get leaves. -/
def RGetF (f : FV) (r : Int) (w : World) (e : Ending) (w' : World) : Prop := ∃ sa sc ba bc, e = .returned (.tuple #[(Frm.mk f sa sc ba bc).val, .int .i64 r]) ∧ (Frm.mk f sa sc ba bc).Ok w' ∧ Keep w w'
theorem RGetF.zero {w w' : World} (k : Keep w w') (r : Int) : RGetF zeroF r w (.returned (.tuple #[.agg #[.int .u8 0, .int .u8 0, .int .u32 0, .int .u64 0, .slice none 0 0, .slice none 0 0], .int .i64 r])) w' :=
  ⟨none, 0, none, 0, rfl, ⟨nil_ok _ _, nil_ok _ _, by decide, by decide, by decide, by decide⟩, k⟩
/-- A slice of bytes as a string, whatever room stands behind it. -/
theorem conv_strc {w : World} {A : Option Addr} {zs : List Int} {c : Nat} (hr : Rd w A (cs .u8 zs)) (h0 : 0 < zs.length) : (convert 25 9 (.slice A zs.length c)).run Tryz.prog w = .ok (.string (strOfNums zs)) w := by
  obtain ⟨b, off, rfl, hc⟩ := hr.ints h0
  exact run_convert_bytes_arg w 25 5 Tryz.underlying25 Tryz.underlying5 b off _ _ zs rfl hc 9 Tryz.underlying9
theorem getD_bytes {xs : List Int} (h : Bytes xs) (i : Nat) : 0 ≤ xs.getD i 0 := by
  rw [List.getD_eq_getElem?_getD]
  cases hx : xs[i]? with
  | none => exact Int.le_refl _
  | some x => exact (h x (List.mem_of_getElem? hx)).1
theorem Rd.from_ {w : World} {A : Option Addr} {c k : Nat} {xs : List Int} (h : Rd w A (cs .u8 xs)) (hc : xs.length ≤ c) (A' : Option Addr) (hA : c ≠ k → A' = A.map (·.add k)) : Rd w A' (cs .u8 (xs.drop k)) := by
  rw [← cs_drop]
  exact h.drop (cap := c) (by rw [length_cs]; exact hc) A' hA

set_option maxRecDepth 100000 in
set_option maxHeartbeats 16000000 in
/-- salesroomref21.Get -/
theorem refGetF_f (A : Option Addr) (c : Nat) (xs : List Int) (w : World) (rd : Rd w A (cs .u8 xs)) (hB : Bytes xs) (hc : xs.length ≤ c) (lc : Len c) {f : FV} {r : Int} (hv : getFV xs = (f, r)) :
    Calls Tryz.prog 21 #[.slice A xs.length c] w (RGetF f r w) := by
  have lc' := lc.le
  have kz : Keep w (w.alloc (.cells #[.int .u8 0, .int .u8 0, .int .u32 0, .int .u64 0, .slice none 0 0, .slice none 0 0] 28)) := Keep.alloc1 _ _
  have b1 := Blk.new w 28 [.int .u8 0, .int .u8 0, .int .u32 0, .int .u64 0, .slice none 0 0, .slice none 0 0]
  by_cases h256 : 256 < xs.length
  · rw [getF_big h256] at hv
    cases hv
    obtain ⟨z1, z1'⟩ := dT (p := (256 : Int) < xs.length) (by omega)
    have z2 := eq_true h256
    clear h256
    have c0 := b1.cell_ (i := 0) rfl
    have f0 := b1.frozen 0
    have c1 := b1.cell_ (i := 1) rfl
    have f1 := b1.frozen 1
    have c2 := b1.cell_ (i := 2) rfl
    have f2 := b1.frozen 2
    have c3 := b1.cell_ (i := 3) rfl
    have f3 := b1.frozen 3
    have c4 := b1.cell_ (i := 4) rfl
    have f4 := b1.frozen 4
    have c5 := b1.cell_ (i := 5) rfl
    have f5 := b1.frozen 5
    go_enter Tryz.func21, Tryz.ntmps21
    go_wp2_with fail
    have d0 := b1.cell_ (i := 0) rfl
    have d1 := b1.cell_ (i := 1) rfl
    have d2 := b1.cell_ (i := 2) rfl
    have d3 := b1.cell_ (i := 3) rfl
    have d4 := b1.cell_ (i := 4) rfl
    have d5 := b1.cell_ (i := 5) rfl
    refine bodyPost_ret (v := .tuple #[.agg #[.int .u8 0, .int .u8 0, .int .u32 0, .int .u64 0, .slice none 0 0, .slice none 0 0], .int .i64 3]) (by simp [results, Tryz.results21, go_sem, d0, d1, d2, d3, d4, d5]) rfl ?_
    exact RGetF.zero kz _
  obtain ⟨z1, z1'⟩ := dF (p := (256 : Int) < xs.length) (by omega)
  have z2 := eq_false h256
  by_cases h14 : xs.length < 14
  · rw [getF_none h256 (readF_short h14)] at hv
    cases hv
    obtain ⟨z3, z3'⟩ := dT (p := (xs.length : Int) < 14) (by omega)
    have z4 := eq_true h14
    clear h14 h256
    have c0 := b1.cell_ (i := 0) rfl
    have f0 := b1.frozen 0
    have c1 := b1.cell_ (i := 1) rfl
    have f1 := b1.frozen 1
    have c2 := b1.cell_ (i := 2) rfl
    have f2 := b1.frozen 2
    have c3 := b1.cell_ (i := 3) rfl
    have f3 := b1.frozen 3
    have c4 := b1.cell_ (i := 4) rfl
    have f4 := b1.frozen 4
    have c5 := b1.cell_ (i := 5) rfl
    have f5 := b1.frozen 5
    go_enter Tryz.func21, Tryz.ntmps21
    go_wp2_with fail
    have d0 := b1.cell_ (i := 0) rfl
    have d1 := b1.cell_ (i := 1) rfl
    have d2 := b1.cell_ (i := 2) rfl
    have d3 := b1.cell_ (i := 3) rfl
    have d4 := b1.cell_ (i := 4) rfl
    have d5 := b1.cell_ (i := 5) rfl
    refine bodyPost_ret (v := .tuple #[.agg #[.int .u8 0, .int .u8 0, .int .u32 0, .int .u64 0, .slice none 0 0, .slice none 0 0], .int .i64 4]) (by simp [results, Tryz.results21, go_sem, d0, d1, d2, d3, d4, d5]) rfl ?_
    exact RGetF.zero kz _
  obtain ⟨z3, z3'⟩ := dF (p := (xs.length : Int) < 14) (by omega)
  have z4 := eq_false h14
  have p0 : (0 < xs.length) = True := eq_true (by omega)
  have p1 : ((0 : Int) < (xs.length : Int)) = True := eq_true (by omega)
  have p2 : (1 < xs.length) = True := eq_true (by omega)
  have p3 : ((1 : Int) < (xs.length : Int)) = True := eq_true (by omega)
  have HV := Lib.hid hv
  have H256 := Lib.hid h256
  have H14 := Lib.hid h14
  have hl : 14 ≤ xs.length := by omega
  clear hv
  obtain ⟨b, off, rfl, hcell⟩ := rd.ints (by omega)
  obtain ⟨a0, ha0⟩ : ∃ a : Nat, (a : Int) = xs.getD 0 0 := ⟨(xs.getD 0 0).toNat, Int.toNat_of_nonneg (getD_bytes hB 0)⟩
  obtain ⟨a1, ha1⟩ : ∃ a : Nat, (a : Int) = xs.getD 1 0 := ⟨(xs.getD 1 0).toNat, Int.toNat_of_nonneg (getD_bytes hB 1)⟩
  have x0 := hcell 0 (by omega)
  have x1 := hcell 1 (by omega)
  rw [← ha0] at x0
  rw [← ha1] at x1
  rw [Nat.add_zero] at x0
  have hbw : b < w.heap.size := World.block_lt_of_cell? w _ x0
  have y0 : xs[0]? = some (a0 : Int) := by rw [ha0, List.getD_eq_getElem?_getD, List.getElem?_eq_getElem (by omega)]; rfl
  have y1 : xs[1]? = some (a1 : Int) := by rw [ha1, List.getD_eq_getElem?_getD, List.getElem?_eq_getElem (by omega)]; rfl
  have g0 := hB a0 (List.mem_of_getElem? y0)
  have g1 := hB a1 (List.mem_of_getElem? y1)
  have Y0 := Lib.hid y0
  have Y1 := Lib.hid y1
  obtain ⟨B, hBq⟩ : ∃ B, B = w.heap.size := ⟨_, rfl⟩
  rw [← hBq] at b1 hbw
  have HBQ := Lib.hid hBq
  have HB := Lib.hid hB
  clear hcell ha0 ha1 y0 y1 h256 h14 hB
  go_enter Tryz.func21, Tryz.ntmps21
  go_upto_region 5 with fail
  rw [← HBQ.out]
  clear hBq
  generalize w.alloc (.cells #[.int .u8 0, .int .u8 0, .int .u32 0, .int .u64 0, .slice none 0 0, .slice none 0 0] 28) = w1 at kz b1 ⊢
  have KS : ∀ v, Keep w v → (fun v => v.cell? ⟨b, off, none⟩ = some (.int .u8 a0) ∧ v.cell? ⟨b, off + 1, none⟩ = some (.int .u8 a1)) v := fun v k => ⟨k.cell x0, k.cell x1⟩
  refine wp_region_noPanic ?_
  refine wp_region_held_drew (S := (fun v => v.cell? ⟨b, off, none⟩ = some (.int .u8 a0) ∧ v.cell? ⟨b, off + 1, none⟩ = some (.int .u8 a1))) (by kernel_rfl) (KS _ kz.drew) (fun hS => ?_)
  replace kz := kz.drew
  replace b1 := b1.keep (Keep.refl w1).drew
  generalize w1.drew = v0 at hS kz b1 ⊢
  refine wpAnyH_take (i := 0) (v := ?_) rfl (by kernel_rfl) (by kernel_rfl) (by kernel_rfl) (fun _ _ _ h => h) (Or.inl ⟨by rfl, ?_⟩) hS ?_
  rotate_left
  · (intro w hSw; (try dsimp only at hSw); go_simp; (first | done | with_reducible rfl))
  change wpAnyH _ _ _ _ _ _ _ (Act.put _ (some 21) _) _
  simp only [Act.put, List.setIfInBounds_toArray, List.set_cons_zero, List.set_cons_succ]
  refine wpAnyH_take (i := 1) (v := ?_) rfl (by kernel_rfl) (by kernel_rfl) (by kernel_rfl) (fun _ _ _ h => h) (Or.inl ⟨by rfl, ?_⟩) hS ?_
  rotate_left
  · (intro w hSw; (try dsimp only at hSw); go_simp; (first | done | with_reducible rfl))
  change wpAnyH _ _ _ _ _ _ _ (Act.put _ (some 22) _) _
  simp only [Act.put, List.setIfInBounds_toArray, List.set_cons_zero, List.set_cons_succ]
  refine wpAnyH_take (i := 2) (v := ?_) rfl (by kernel_rfl) (by kernel_rfl) (by kernel_rfl) (fun _ _ _ h => h) (Or.inl ⟨by rfl, ?_⟩) hS ?_
  rotate_left
  · (intro w hSw; (try dsimp only at hSw); go_simp; (first | done | with_reducible rfl))
  change wpAnyH _ _ _ _ _ _ _ (Act.put _ (some 23) _) _
  simp only [Act.put, List.setIfInBounds_toArray, List.set_cons_zero, List.set_cons_succ]
  refine wpAnyH_take (i := 3) (v := ?_) rfl (by kernel_rfl) (by kernel_rfl) (by kernel_rfl) (fun _ _ _ h => h) (Or.inl ⟨by rfl, ?_⟩) hS ?_
  rotate_left
  · (intro w hSw; (try dsimp only at hSw); go_simp; (first | done | with_reducible rfl))
  change wpAnyH _ _ _ _ _ _ _ (Act.put _ (some 24) _) _
  simp only [Act.put, List.setIfInBounds_toArray, List.set_cons_zero, List.set_cons_succ]
  refine wpAnyH_take (i := 4) (v := ?_) rfl (by kernel_rfl) (by kernel_rfl) (by kernel_rfl) (fun _ _ _ h => h) (Or.inl ⟨by rfl, ?_⟩) hS ?_
  rotate_left
  · (intro w hSw; (try dsimp only at hSw); go_simp; (first | done | with_reducible rfl))
  change wpAnyH _ _ _ _ _ _ _ (Act.put _ (some 25) _) _
  simp only [Act.put, List.setIfInBounds_toArray, List.set_cons_zero, List.set_cons_succ]
  refine wpAnyH_take (i := 5) (v := ?_) rfl (by kernel_rfl) (by kernel_rfl) (by kernel_rfl) (fun _ _ _ h => h) (Or.inl ⟨by rfl, ?_⟩) hS ?_
  rotate_left
  · (intro w hSw; (try dsimp only at hSw); go_simp; (first | done | with_reducible rfl))
  change wpAnyH _ _ _ _ _ _ _ (Act.put _ (some 26) _) _
  simp only [Act.put, List.setIfInBounds_toArray, List.set_cons_zero, List.set_cons_succ]
  refine wpAnyH_take (i := 6) (v := ?_) rfl (by kernel_rfl) (by kernel_rfl) (by kernel_rfl) (fun _ _ _ h => h) (Or.inl ⟨by rfl, ?_⟩) hS ?_
  rotate_left
  · (intro w hSw; (try dsimp only at hSw); go_simp; (first | done | with_reducible rfl))
  change wpAnyH _ _ _ _ _ _ _ (Act.put _ (some 27) _) _
  simp only [Act.put, List.setIfInBounds_toArray, List.set_cons_zero, List.set_cons_succ]
  refine wpAnyH_ready (rs := [7]) (by kernel_rfl) (by simp) ?_
  refine AllReadyH.cons rfl (fun K hK => ?_) AllReadyH.nil
  go_simp
  have kn : Keep v0 (v0.alloc (.cells #[.int .u8 0, .int .u8 0, .int .u32 0, .int .u64 0, .slice none 0 0, .slice none 0 0] 28)) := Keep.alloc1 _ _
  refine hK.out _ _ (KS _ (kz.trans kn)) (fun hS => ?_)
  clear hK K
  try simp only [Act.put, List.setIfInBounds_toArray, List.set_cons_zero, List.set_cons_succ]
  refine wpAnyH_ready (rs := [8]) (by kernel_rfl) (by simp) ?_
  refine AllReadyH.cons rfl (fun K hK => ?_) AllReadyH.nil
  rw [if_pos (by rfl)]
  have bM := Blk.new v0 28 [.int .u8 0, .int .u8 0, .int .u32 0, .int .u64 0, .slice none 0 0, .slice none 0 0]
  have hlt : B < v0.heap.size := b1.lt
  have b1n := b1.keep kn
  generalize v0.alloc (.cells #[.int .u8 0, .int .u8 0, .int .u32 0, .int .u64 0, .slice none 0 0, .slice none 0 0] 28) = v1 at kn bM b1n ⊢
  generalize v0.heap.size = B2 at bM hlt ⊢
  refine wp_store_row 28 _ _ rfl B2 #[.int .u8 a0, .int .u8 a1, .int .u32 0, .int .u64 0, .slice none 0 0, .slice none 0 0] rfl rfl _ _ bM (by kernel_rfl) rfl (by simp [Value.oneCell']) ?_
  refine hK.out _ _ ⟨(cell_setRow_other _ _ _ _ (show b ≠ B2 by omega)).trans (KS _ (kz.trans kn)).1, (cell_setRow_other _ _ _ _ (show b ≠ B2 by omega)).trans (KS _ (kz.trans kn)).2⟩ (fun hS => ?_)
  clear hK K
  try simp only [Act.put, List.setIfInBounds_toArray]
  refine wpAnyH_done (by kernel_rfl) ?_ _
  refine NoPanic.normal ?_
  have og := only_row v1 B2 #[.int .u8 a0, .int .u8 a1, .int .u32 0, .int .u64 0, .slice none 0 0, .slice none 0 0]
  have bM' := bM.row #[.int .u8 a0, .int .u8 a1, .int .u32 0, .int .u64 0, .slice none 0 0, .slice none 0 0]
  have kk := (kz.trans kn).grown og (fun k e => by injection e with e; have := HBQ.out; omega)
  replace b1 := b1n.grown og (fun e => by injection e with e; omega)
  generalize v1.setRow B2 #[.int .u8 a0, .int .u8 a1, .int .u32 0, .int .u64 0, .slice none 0 0, .slice none 0 0] = w2 at og bM' kk b1 ⊢
  replace bM := bM'
  clear bM' og b1n kn kz hS KS x0 x1
  obtain ⟨n4, hn4⟩ : ∃ n, n = val ((xs.drop 2).take 4) := ⟨_, rfl⟩
  obtain ⟨n8, hn8⟩ : ∃ n, n = val ((xs.drop 6).take 8) := ⟨_, rfl⟩
  have l4 : n4 < 4294967296 := by
    have := val_lt ((HB.out.drop 2).take 4)
    rw [List.length_take, List.length_drop, Nat.min_eq_left (by omega)] at this
    rw [hn4]
    simpa using this
  have l8 : n8 < 18446744073709551616 := by
    have := val_lt ((HB.out.drop 6).take 8)
    rw [List.length_take, List.length_drop, Nat.min_eq_left (by omega)] at this
    rw [hn8]
    simpa using this
  have zS : IntKind.u32.wrap (n4 : Int) = n4 := by
    show (n4 : Int) % 4294967296 = n4
    omega
  have G2 : getV (xs.drop 2) 4 = (n4, 0) := by rw [getV, if_neg (by omega), if_neg (by rw [List.length_drop]; omega), hn4]; rfl
  have G6 : getV (xs.drop 6) 8 = (n8, 0) := by rw [getV, if_neg (by omega), if_neg (by rw [List.length_drop]; omega), hn8]; rfl
  have N4 := Lib.hid hn4
  have N8 := Lib.hid hn8
  have k2 : (c = 2) = False := eq_false (by omega)
  have k6 : (c = 6) = False := eq_false (by omega)
  clear hn4 hn8
  have rd2 := (rd.keep kk).from_ (k := 2) hc (some ⟨b, off + 2, none⟩) (fun _ => rfl)
  have hq := refGet_f _ (c - 2) (xs.drop 2) 4 w2 rd2 (HB.out.drop 2) (by rw [List.length_drop]; omega) (by unfold Len at lc ⊢; omega) (by omega)
  unfold GetP at hq
  rw [G2, List.length_drop] at hq
  go_wp2_with fail
  refine hq.mono ?_
  rintro e w3 ⟨rfl, kq⟩
  clear hq rd2
  replace bM := bM.keep kq
  replace b1 := b1.keep kq
  replace kk := kk.trans kq
  clear kq
  have m2 := bM.cell_ (i := 2) rfl
  have fm2 := bM.frozen 2
  go_upto_region 8 with fail
  clear m2 fm2
  replace kk := kk.setCell (p := ⟨B2, 2, none⟩) (by have := HBQ.out; show _ ≤ B2; omega) (.int .u32 n4)
  replace b1 := b1.far (p := ⟨B2, 2, none⟩) (show B2 ≠ B by omega) (.int .u32 n4)
  have bM' : Blk (w3.setCell ⟨B2, 2, none⟩ (.int .u32 n4)) B2 28 [.int .u8 a0, .int .u8 a1, .int .u32 n4, .int .u64 0, .slice none 0 0, .slice none 0 0] := bM.set_ 2 (.int .u32 n4)
  clear bM
  have bM := bM'
  clear bM'
  generalize w3.setCell ⟨B2, 2, none⟩ (.int .u32 n4) = w4 at kk b1 bM ⊢
  have rd2 := (rd.keep kk).from_ (k := 6) hc (some ⟨b, off + 6, none⟩) (fun _ => rfl)
  have hq := refGet_f _ (c - 6) (xs.drop 6) 8 w4 rd2 (HB.out.drop 6) (by rw [List.length_drop]; omega) (by unfold Len at lc ⊢; omega) (by omega)
  unfold GetP at hq
  rw [G6, List.length_drop] at hq
  go_wp2_with fail
  refine hq.mono ?_
  rintro e w5 ⟨rfl, kq⟩
  clear hq rd2
  replace bM := bM.keep kq
  replace b1 := b1.keep kq
  replace kk := kk.trans kq
  clear kq
  have m3 := bM.cell_ (i := 3) rfl
  have fm3 := bM.frozen 3
  go_upto_region 9 with fail
  clear m3 fm3
  replace kk := kk.setCell (p := ⟨B2, 3, none⟩) (by have := HBQ.out; show _ ≤ B2; omega) (.int .u64 n8)
  replace b1 := b1.far (p := ⟨B2, 3, none⟩) (show B2 ≠ B by omega) (.int .u64 n8)
  have bM' : Blk (w5.setCell ⟨B2, 3, none⟩ (.int .u64 n8)) B2 28 [.int .u8 a0, .int .u8 a1, .int .u32 n4, .int .u64 n8, .slice none 0 0, .slice none 0 0] := bM.set_ 3 (.int .u64 n8)
  clear bM
  have bM := bM'
  clear bM'
  generalize w5.setCell ⟨B2, 3, none⟩ (.int .u64 n8) = w6 at kk b1 bM ⊢
  have R14 := fun A' hA => (rd.keep kk).from_ (k := 14) hc A' hA
  have hqB := fun A' hA => refGetBytes_o A' (c - 14) (xs.drop 14) w6 (R14 A' hA) (HB.out.drop 14) (by rw [List.length_drop]; omega) (by unfold Len at lc ⊢; omega)
  unfold RefByO at hqB
  cases hg : getBy (xs.drop 14) with
  | none =>
    have HG := Lib.hid hg
    rw [hg, List.length_drop] at hqB
    simp only at hqB
    clear hg R14
    by_cases hk : c = 14
    · have hq := hqB (some ⟨b, off, none⟩) (fun e => absurd hk e)
      clear hqB
      subst hk
      rw [show xs.length - 14 = 0 by omega, Nat.sub_self] at hq
      go_wp2_with fail
      refine hq.mono ?_
      rintro e w7 ⟨rfl, kq⟩
      clear hq
      replace bM := bM.keep kq
      replace b1 := b1.keep kq
      replace kk := kk.trans kq
      clear kq
      have hv := HV.out
      rw [getF_none H256.out (readF_none2 hl HG.out)] at hv
      cases hv
      go_wp2_with (refine wpList_store_row rfl 28 _ _ rfl B #[.int .u8 0, .int .u8 0, .int .u32 0, .int .u64 0, .slice none 0 0, .slice none 0 0] rfl rfl _ _ b1 (by kernel_rfl) rfl (by simp [Value.oneCell']) ?_)
      have og := only_row w7 B #[.int .u8 0, .int .u8 0, .int .u32 0, .int .u64 0, .slice none 0 0, .slice none 0 0]
      have hR := b1.row #[.int .u8 0, .int .u8 0, .int .u32 0, .int .u64 0, .slice none 0 0, .slice none 0 0]
      have kz := kk.grown og (fun k e => by injection e with e; have := HBQ.out; omega)
      generalize w7.setRow B #[.int .u8 0, .int .u8 0, .int .u32 0, .int .u64 0, .slice none 0 0, .slice none 0 0] = wz at hR kz ⊢
      have d0 := hR.cell_ (i := 0) rfl
      have d1 := hR.cell_ (i := 1) rfl
      have d2 := hR.cell_ (i := 2) rfl
      have d3 := hR.cell_ (i := 3) rfl
      have d4 := hR.cell_ (i := 4) rfl
      have d5 := hR.cell_ (i := 5) rfl
      refine bodyPost_ret (v := .tuple #[.agg #[.int .u8 0, .int .u8 0, .int .u32 0, .int .u64 0, .slice none 0 0, .slice none 0 0], .int .i64 4]) (by simp [results, Tryz.results21, go_sem, d0, d1, d2, d3, d4, d5]) rfl ?_
      exact RGetF.zero kz _
    · have hq := hqB (some ⟨b, off + 14, none⟩) (fun e => rfl)
      clear hqB
      have hk' : (c = 14) = False := eq_false hk
      go_wp2_with fail
      refine hq.mono ?_
      rintro e w7 ⟨rfl, kq⟩
      clear hq
      replace bM := bM.keep kq
      replace b1 := b1.keep kq
      replace kk := kk.trans kq
      clear kq
      have hv := HV.out
      rw [getF_none H256.out (readF_none2 hl HG.out)] at hv
      cases hv
      go_wp2_with (refine wpList_store_row rfl 28 _ _ rfl B #[.int .u8 0, .int .u8 0, .int .u32 0, .int .u64 0, .slice none 0 0, .slice none 0 0] rfl rfl _ _ b1 (by kernel_rfl) rfl (by simp [Value.oneCell']) ?_)
      have og := only_row w7 B #[.int .u8 0, .int .u8 0, .int .u32 0, .int .u64 0, .slice none 0 0, .slice none 0 0]
      have hR := b1.row #[.int .u8 0, .int .u8 0, .int .u32 0, .int .u64 0, .slice none 0 0, .slice none 0 0]
      have kz := kk.grown og (fun k e => by injection e with e; have := HBQ.out; omega)
      generalize w7.setRow B #[.int .u8 0, .int .u8 0, .int .u32 0, .int .u64 0, .slice none 0 0, .slice none 0 0] = wz at hR kz ⊢
      have d0 := hR.cell_ (i := 0) rfl
      have d1 := hR.cell_ (i := 1) rfl
      have d2 := hR.cell_ (i := 2) rfl
      have d3 := hR.cell_ (i := 3) rfl
      have d4 := hR.cell_ (i := 4) rfl
      have d5 := hR.cell_ (i := 5) rfl
      refine bodyPost_ret (v := .tuple #[.agg #[.int .u8 0, .int .u8 0, .int .u32 0, .int .u64 0, .slice none 0 0, .slice none 0 0], .int .i64 4]) (by simp [results, Tryz.results21, go_sem, d0, d1, d2, d3, d4, d5]) rfl ?_
      exact RGetF.zero kz _
  | some s =>
    have hs2 : s.length + 16 ≤ xs.length := by
      have := (rdB_some (HB.out.drop 14) (rdB_yes hg)).2.2.2.1
      rw [List.length_drop] at this
      omega
    have sB : Bytes s := rdB_bytes (HB.out.drop 14) (rdB_yes hg)
    have HG := Lib.hid hg
    have SB := Lib.hid sB
    rw [hg, List.length_drop] at hqB
    simp only at hqB
    have hq := hqB (some ⟨b, off + 14, none⟩) (fun _ => rfl)
    clear hg R14 hqB sB
    have hk' : (c = 14) = False := eq_false (by omega)
    go_wp2_with fail
    refine hq.mono ?_
    rintro e w7 ⟨As, c4, rfl, f4, kq⟩
    clear hq
    replace f4 := Fr.mono f4 kk.size
    replace bM := bM.keep kq
    replace b1 := b1.keep kq
    replace kk := kk.trans kq
    clear kq
    have m4 := bM.cell_ (i := 4) rfl
    have fm4 := bM.frozen 4
    go_upto_region 13 with fail
    clear m4 fm4
    replace kk := kk.setCell (p := ⟨B2, 4, none⟩) (by have := HBQ.out; show _ ≤ B2; omega) (.slice As s.length c4)
    replace b1 := b1.far (p := ⟨B2, 4, none⟩) (show B2 ≠ B by omega) (.slice As s.length c4)
    replace f4 := f4.setCell (p := ⟨B2, 4, none⟩) (fun k hk => f4.own_ne bM (by decide) k hk) (.slice As s.length c4)
    have bM' : Blk (w7.setCell ⟨B2, 4, none⟩ (.slice As s.length c4)) B2 28 [.int .u8 a0, .int .u8 a1, .int .u32 n4, .int .u64 n8, .slice As s.length c4, .slice none 0 0] := bM.set_ 4 (.slice As s.length c4)
    clear bM
    have bM := bM'
    clear bM'
    generalize w7.setCell ⟨B2, 4, none⟩ (.slice As s.length c4) = w8 at kk b1 bM f4 ⊢
    have hql : 14 + (2 + s.length) ≤ xs.length := by omega
    have R14 := fun A' hA => (rd.keep kk).from_ (k := (14 + (2 + s.length))) hc A' hA
    have hqL := fun A' hA => refGetList_o A' (c - (14 + (2 + s.length))) (xs.drop (14 + (2 + s.length))) w8 (R14 A' hA) (HB.out.drop (14 + (2 + s.length))) (by rw [List.length_drop]; omega) (by unfold Len at lc ⊢; omega)
    unfold RefLO at hqL
    cases hg : getL (xs.drop (14 + (2 + s.length))) with
    | none =>
      have HG2 := Lib.hid hg
      rw [hg, List.length_drop] at hqL
      simp only at hqL
      clear hg R14
      by_cases hk : c = (14 + (2 + s.length))
      · have hq := hqL (some ⟨b, off, none⟩) (fun e => absurd hk e)
        clear hqL
        have hk' : (c = (14 + (2 + s.length))) = True := eq_true hk
        rw [show c - (14 + (2 + s.length)) = 0 by omega] at hq
        replace hk := Lib.hid hk
        go_wp2_with fail
        refine hq.mono ?_
        rintro e w9 ⟨rfl, kq⟩
        clear hq
        replace bM := bM.keep kq
        replace b1 := b1.keep kq
        replace f4 := f4.keep kq
        replace kk := kk.trans kq
        clear kq
        have hv := HV.out
        rw [getF_none H256.out (readF_none3 hl HG.out HG2.out)] at hv
        cases hv
        go_wp2_with (refine wpList_store_row rfl 28 _ _ rfl B #[.int .u8 0, .int .u8 0, .int .u32 0, .int .u64 0, .slice none 0 0, .slice none 0 0] rfl rfl _ _ b1 (by kernel_rfl) rfl (by simp [Value.oneCell']) ?_)
        have og := only_row w9 B #[.int .u8 0, .int .u8 0, .int .u32 0, .int .u64 0, .slice none 0 0, .slice none 0 0]
        have hR := b1.row #[.int .u8 0, .int .u8 0, .int .u32 0, .int .u64 0, .slice none 0 0, .slice none 0 0]
        have kz := kk.grown og (fun k e => by injection e with e; have := HBQ.out; omega)
        generalize w9.setRow B #[.int .u8 0, .int .u8 0, .int .u32 0, .int .u64 0, .slice none 0 0, .slice none 0 0] = wz at hR kz ⊢
        have d0 := hR.cell_ (i := 0) rfl
        have d1 := hR.cell_ (i := 1) rfl
        have d2 := hR.cell_ (i := 2) rfl
        have d3 := hR.cell_ (i := 3) rfl
        have d4 := hR.cell_ (i := 4) rfl
        have d5 := hR.cell_ (i := 5) rfl
        refine bodyPost_ret (v := .tuple #[.agg #[.int .u8 0, .int .u8 0, .int .u32 0, .int .u64 0, .slice none 0 0, .slice none 0 0], .int .i64 4]) (by simp [results, Tryz.results21, go_sem, d0, d1, d2, d3, d4, d5]) rfl ?_
        exact RGetF.zero kz _
      · have hq := hqL (some ⟨b, off + (14 + (2 + s.length)), none⟩) (fun e => by simp [Addr.add_lit])
        clear hqL
        have hk' : (c = (14 + (2 + s.length))) = False := eq_false hk
        go_wp2_with fail
        refine hq.mono ?_
        rintro e w9 ⟨rfl, kq⟩
        clear hq
        replace bM := bM.keep kq
        replace b1 := b1.keep kq
        replace f4 := f4.keep kq
        replace kk := kk.trans kq
        clear kq
        have hv := HV.out
        rw [getF_none H256.out (readF_none3 hl HG.out HG2.out)] at hv
        cases hv
        go_wp2_with (refine wpList_store_row rfl 28 _ _ rfl B #[.int .u8 0, .int .u8 0, .int .u32 0, .int .u64 0, .slice none 0 0, .slice none 0 0] rfl rfl _ _ b1 (by kernel_rfl) rfl (by simp [Value.oneCell']) ?_)
        have og := only_row w9 B #[.int .u8 0, .int .u8 0, .int .u32 0, .int .u64 0, .slice none 0 0, .slice none 0 0]
        have hR := b1.row #[.int .u8 0, .int .u8 0, .int .u32 0, .int .u64 0, .slice none 0 0, .slice none 0 0]
        have kz := kk.grown og (fun k e => by injection e with e; have := HBQ.out; omega)
        generalize w9.setRow B #[.int .u8 0, .int .u8 0, .int .u32 0, .int .u64 0, .slice none 0 0, .slice none 0 0] = wz at hR kz ⊢
        have d0 := hR.cell_ (i := 0) rfl
        have d1 := hR.cell_ (i := 1) rfl
        have d2 := hR.cell_ (i := 2) rfl
        have d3 := hR.cell_ (i := 3) rfl
        have d4 := hR.cell_ (i := 4) rfl
        have d5 := hR.cell_ (i := 5) rfl
        refine bodyPost_ret (v := .tuple #[.agg #[.int .u8 0, .int .u8 0, .int .u32 0, .int .u64 0, .slice none 0 0, .slice none 0 0], .int .i64 4]) (by simp [results, Tryz.results21, go_sem, d0, d1, d2, d3, d4, d5]) rfl ?_
        exact RGetF.zero kz _
    | some l =>
      have hl2 : (14 + (2 + s.length)) + 1 + 4 * l.length ≤ xs.length := by
        have := (rdL_some (HB.out.drop (14 + (2 + s.length))) (rdL_yes hg)).2.2.2.2.1
        rw [List.length_drop] at this
        omega
      have lLow := getL_low (HB.out.drop (14 + (2 + s.length))) hg
      have HG2 := Lib.hid hg
      have LLow := Lib.hid lLow
      rw [hg, List.length_drop] at hqL
      simp only at hqL
      have hq := hqL (some ⟨b, off + (14 + (2 + s.length)), none⟩) (fun _ => by simp [Addr.add_lit])
      clear hg R14 hqL lLow
      have hk2 : (c = (14 + (2 + s.length))) = False := eq_false (by omega)
      go_wp2_with fail
      refine hq.mono ?_
      rintro e w9 ⟨Al, c5, rfl, f5, kq⟩
      clear hq
      replace f5 := Fr.mono f5 kk.size
      replace bM := bM.keep kq
      replace b1 := b1.keep kq
      replace f4 := f4.keep kq
      replace kk := kk.trans kq
      clear kq
      have m5 := bM.cell_ (i := 5) rfl
      have fm5 := bM.frozen 5
      go_upto_region 17 with fail
      clear m5 fm5
      replace kk := kk.setCell (p := ⟨B2, 5, none⟩) (by have := HBQ.out; show _ ≤ B2; omega) (.slice Al l.length c5)
      replace b1 := b1.far (p := ⟨B2, 5, none⟩) (show B2 ≠ B by omega) (.slice Al l.length c5)
      replace f4 := f4.setCell (p := ⟨B2, 5, none⟩) (fun k hk => f4.own_ne bM (by decide) k hk) (.slice Al l.length c5)
      replace f5 := f5.setCell (p := ⟨B2, 5, none⟩) (fun k hk => f5.own_ne bM (by decide) k hk) (.slice Al l.length c5)
      have bM' : Blk (w9.setCell ⟨B2, 5, none⟩ (.slice Al l.length c5)) B2 28 [.int .u8 a0, .int .u8 a1, .int .u32 n4, .int .u64 n8, .slice As s.length c4, .slice Al l.length c5] := bM.set_ 5 (.slice Al l.length c5)
      clear bM
      have bM := bM'
      clear bM'
      generalize w9.setCell ⟨B2, 5, none⟩ (.slice Al l.length c5) = w10 at kk b1 bM f4 f5 ⊢
      obtain ⟨F, hF⟩ : ∃ F : FV, F = ⟨a0, a1, n4, n8, s, l⟩ := ⟨_, rfl⟩
      have e1 := readF_yes hl Y0.out Y1.out HG.out HG2.out
      simp only [Int.toNat_natCast] at e1
      rw [← N4.out, ← N8.out, ← hF] at e1
      obtain ⟨rest, e1⟩ := e1
      have e2 := getF_ref HB.out e1 H256.out
      have sec : F.sec = s := by rw [hF]
      have bidE : F.bid = l := by rw [hF]
      have ok := fun v (p4 : Fr 5 v w.heap.size As s.length c4 (cs .u8 s)) (p5 : Fr 3 v w.heap.size Al l.length c5 (cs .i64 l)) => (show (Frm.mk ⟨a0, a1, n4, n8, s, l⟩ As c4 Al c5).Ok v from ⟨⟨⟨p4.rd, p4.cap, p4.capMax, wf_bytes SB.out⟩, fun h => p4.capNil h⟩, ⟨⟨p5.rd, p5.cap, p5.capMax, wf_low LLow.out⟩, fun h => p5.capNil h⟩, by show a0 < 256; omega, by show a1 < 256; omega, l4, l8⟩)
      have hok := ok w10 f4 f5
      have OK := Lib.hid ok
      skip
      clear e1 sec bidE ok
      have m0 := bM.cell_ (i := 0) rfl
      have m1 := bM.cell_ (i := 1) rfl
      have m2 := bM.cell_ (i := 2) rfl
      have m3 := bM.cell_ (i := 3) rfl
      have m4 := bM.cell_ (i := 4) rfl
      have m5 := bM.cell_ (i := 5) rfl
      cases hmay : mayF F with
      | false =>
        have hp : putFV ⟨a0, a1, n4, n8, s, l⟩ = ([], 1) := by rw [← hF]; unfold putFV; rw [hmay]; rfl
        rw [if_neg (fun q => by rw [hmay] at q; cases q.1)] at e2
        have E2 := Lib.hid e2
        have hq := refPutF_f (Frm.mk ⟨a0, a1, n4, n8, s, l⟩ As c4 Al c5) w10 hok hp
        unfold Frm.val at hq
        simp only at hq
        clear e2 hp hmay hF hok
        go_wp2_with fail
        refine hq.mono ?_
        rintro e w11 ⟨A6, c6, rfl, -, kq⟩
        clear hq m0 m1 m2 m3 m4 m5
        replace bM := bM.keep kq
        replace b1 := b1.keep kq
        replace f4 := f4.keep kq
        replace f5 := f5.keep kq
        replace kk := kk.trans kq
        clear kq
        have hv := HV.out
        rw [E2.out] at hv
        cases hv
        go_wp2_with (refine wpList_store_row rfl 28 _ _ rfl B #[.int .u8 0, .int .u8 0, .int .u32 0, .int .u64 0, .slice none 0 0, .slice none 0 0] rfl rfl _ _ b1 (by kernel_rfl) rfl (by simp [Value.oneCell']) ?_)
        have og := only_row w11 B #[.int .u8 0, .int .u8 0, .int .u32 0, .int .u64 0, .slice none 0 0, .slice none 0 0]
        have hR := b1.row #[.int .u8 0, .int .u8 0, .int .u32 0, .int .u64 0, .slice none 0 0, .slice none 0 0]
        have kz := kk.grown og (fun k e => by injection e with e; have := HBQ.out; omega)
        generalize w11.setRow B #[.int .u8 0, .int .u8 0, .int .u32 0, .int .u64 0, .slice none 0 0, .slice none 0 0] = wz at hR kz ⊢
        have d0 := hR.cell_ (i := 0) rfl
        have d1 := hR.cell_ (i := 1) rfl
        have d2 := hR.cell_ (i := 2) rfl
        have d3 := hR.cell_ (i := 3) rfl
        have d4 := hR.cell_ (i := 4) rfl
        have d5 := hR.cell_ (i := 5) rfl
        refine bodyPost_ret (v := .tuple #[.agg #[.int .u8 0, .int .u8 0, .int .u32 0, .int .u64 0, .slice none 0 0, .slice none 0 0], .int .i64 4]) (by simp [results, Tryz.results21, go_sem, d0, d1, d2, d3, d4, d5]) rfl ?_
        exact RGetF.zero kz _
      | true =>
        have hp : putFV ⟨a0, a1, n4, n8, s, l⟩ = (bytesF F, 0) := by rw [← hF]; unfold putFV; rw [if_pos hmay]
        have hLb : Bytes (bytesF F) := bytes_bytesF (by rw [hF]; exact SB.out)
        have hLn : 0 < (bytesF F).length := by rw [length_bytesF]; omega
        have hst := str_eq hLb HB.out
        obtain ⟨L, hL⟩ : ∃ L, L = bytesF F := ⟨_, rfl⟩
        rw [← hL] at hp hLn hst e2
        have hq := refPutF_f (Frm.mk ⟨a0, a1, n4, n8, s, l⟩ As c4 Al c5) w10 hok hp
        unfold Frm.val at hq
        simp only at hq
        have FE := Lib.hid hF
        have HM := Lib.hid hmay
        clear hp hmay hF hL hok hLb
        go_wp2_with fail
        refine hq.mono ?_
        rintro e w11 ⟨A6, c6, rfl, f6, kq⟩
        clear hq m0 m1 m2 m3 m4 m5
        replace bM := bM.keep kq
        replace b1 := b1.keep kq
        replace f4 := f4.keep kq
        replace f5 := f5.keep kq
        replace kk := kk.trans kq
        clear kq
        have v1 := conv_strc (c := c6) f6.rd hLn
        have v2 := conv_strc (c := c) (rd.keep kk) (by omega)
        generalize strOfNums L = S1 at v1 hst
        generalize strOfNums xs = S2 at v2 hst
        clear f6
        have m0 := bM.cell_ (i := 0) rfl
        have m1 := bM.cell_ (i := 1) rfl
        have m2 := bM.cell_ (i := 2) rfl
        have m3 := bM.cell_ (i := 3) rfl
        have m4 := bM.cell_ (i := 4) rfl
        have m5 := bM.cell_ (i := 5) rfl
        by_cases hx : L = xs
        · rw [decide_eq_true hx] at hst
          rw [if_pos ⟨HM.out, hx⟩] at e2
          have E2 := Lib.hid e2
          clear e2 hx
          go_wp2_with (refine wpList_store_row rfl 28 _ _ rfl B #[.int .u8 a0, .int .u8 a1, .int .u32 n4, .int .u64 n8, .slice As s.length c4, .slice Al l.length c5] rfl rfl _ _ b1 (by kernel_rfl) rfl (by simp [Value.oneCell']) ?_)
          have og := only_row w11 B #[.int .u8 a0, .int .u8 a1, .int .u32 n4, .int .u64 n8, .slice As s.length c4, .slice Al l.length c5]
          have hR := b1.row #[.int .u8 a0, .int .u8 a1, .int .u32 n4, .int .u64 n8, .slice As s.length c4, .slice Al l.length c5]
          have p4 := f4.grown og (fun k hk e => by injection e with e; exact f4.own_ne b1 (by decide) k hk e)
          have p5 := f5.grown og (fun k hk e => by injection e with e; exact f5.own_ne b1 (by decide) k hk e)
          have kz := kk.grown og (fun k e => by injection e with e; have := HBQ.out; omega)
          generalize w11.setRow B #[.int .u8 a0, .int .u8 a1, .int .u32 n4, .int .u64 n8, .slice As s.length c4, .slice Al l.length c5] = w12 at hR p4 p5 kz ⊢
          have d0 := hR.cell_ (i := 0) rfl
          have d1 := hR.cell_ (i := 1) rfl
          have d2 := hR.cell_ (i := 2) rfl
          have d3 := hR.cell_ (i := 3) rfl
          have d4 := hR.cell_ (i := 4) rfl
          have d5 := hR.cell_ (i := 5) rfl
          refine bodyPost_ret (v := .tuple #[.agg #[.int .u8 a0, .int .u8 a1, .int .u32 n4, .int .u64 n8, .slice As s.length c4, .slice Al l.length c5], .int .i64 0]) (by simp [results, Tryz.results21, go_sem, d0, d1, d2, d3, d4, d5]) rfl ?_
          have hv := HV.out
          rw [E2.out, FE.out] at hv
          cases hv
          exact ⟨As, c4, Al, c5, rfl, OK.out _ p4 p5, kz⟩
        · rw [decide_eq_false hx] at hst
          rw [if_neg (fun q => hx q.2)] at e2
          have E2 := Lib.hid e2
          clear e2 hx
          have hv := HV.out
          rw [E2.out] at hv
          cases hv
          go_wp2_with (refine wpList_store_row rfl 28 _ _ rfl B #[.int .u8 0, .int .u8 0, .int .u32 0, .int .u64 0, .slice none 0 0, .slice none 0 0] rfl rfl _ _ b1 (by kernel_rfl) rfl (by simp [Value.oneCell']) ?_)
          have og := only_row w11 B #[.int .u8 0, .int .u8 0, .int .u32 0, .int .u64 0, .slice none 0 0, .slice none 0 0]
          have hR := b1.row #[.int .u8 0, .int .u8 0, .int .u32 0, .int .u64 0, .slice none 0 0, .slice none 0 0]
          have kz := kk.grown og (fun k e => by injection e with e; have := HBQ.out; omega)
          generalize w11.setRow B #[.int .u8 0, .int .u8 0, .int .u32 0, .int .u64 0, .slice none 0 0, .slice none 0 0] = wz at hR kz ⊢
          have d0 := hR.cell_ (i := 0) rfl
          have d1 := hR.cell_ (i := 1) rfl
          have d2 := hR.cell_ (i := 2) rfl
          have d3 := hR.cell_ (i := 3) rfl
          have d4 := hR.cell_ (i := 4) rfl
          have d5 := hR.cell_ (i := 5) rfl
          refine bodyPost_ret (v := .tuple #[.agg #[.int .u8 0, .int .u8 0, .int .u32 0, .int .u64 0, .slice none 0 0, .slice none 0 0], .int .i64 4]) (by simp [results, Tryz.results21, go_sem, d0, d1, d2, d3, d4, d5]) rfl ?_
          exact RGetF.zero kz _
end Go.Proofs.YtnjjeanbopclhaaGreatDoor

namespace Go.Proofs.YtnjjeanbopclhaaGreatDoor
open Go.RowKit

/-- What the document's GetReply leaves. -/
def RGetR (f : RV) (r : Int) (w : World) (e : Ending) (w' : World) : Prop := ∃ ba bc ca cc, e = .returned (.tuple #[(Rpl.mk f ba bc ca cc).val, .int .i64 r]) ∧ (Rpl.mk f ba bc ca cc).Ok w' ∧ Keep w w'
theorem RGetR.zero {w w' : World} (k : Keep w w') (r : Int) : RGetR zeroR r w (.returned (.tuple #[.agg #[.int .i64 0, .int .u32 0, .int .u64 0, .int .u8 0, .int .u64 0, .bool false, .slice none 0 0, .int .i64 0, .int .i64 0, .slice none 0 0], .int .i64 r])) w' :=
  ⟨none, 0, none, 0, rfl, ⟨nil_ok _ _, nil_ok _ _, by decide, by decide, by decide, by decide, by decide, by decide, by decide⟩, k⟩

set_option maxRecDepth 100000 in
set_option maxHeartbeats 32000000 in
/-- salesroomref21.GetReply -/
theorem refGetR_f (A : Option Addr) (c : Nat) (xs : List Int) (w : World) (rd : Rd w A (cs .u8 xs)) (hB : Bytes xs) (hc : xs.length ≤ c) (lc : Len c) {f : RV} {r : Int} (hv : getRV xs = (f, r)) :
    Calls Tryz.prog 23 #[.slice A xs.length c] w (RGetR f r w) := by
  have lc' := lc.le
  have kz : Keep w (w.alloc (.cells #[.int .i64 0, .int .u32 0, .int .u64 0, .int .u8 0, .int .u64 0, .bool false, .slice none 0 0, .int .i64 0, .int .i64 0, .slice none 0 0] 32)) := Keep.alloc1 _ _
  have b1 := Blk.new w 32 [.int .i64 0, .int .u32 0, .int .u64 0, .int .u8 0, .int .u64 0, .bool false, .slice none 0 0, .int .i64 0, .int .i64 0, .slice none 0 0]
  by_cases h256 : 4096 < xs.length
  · rw [getR_big h256] at hv
    cases hv
    obtain ⟨z1, z1'⟩ := dT (p := (4096 : Int) < xs.length) (by omega)
    have z2 := eq_true h256
    clear h256
    have c0 := b1.cell_ (i := 0) rfl
    have f0 := b1.frozen 0
    have c1 := b1.cell_ (i := 1) rfl
    have f1 := b1.frozen 1
    have c2 := b1.cell_ (i := 2) rfl
    have f2 := b1.frozen 2
    have c3 := b1.cell_ (i := 3) rfl
    have f3 := b1.frozen 3
    have c4 := b1.cell_ (i := 4) rfl
    have f4 := b1.frozen 4
    have c5 := b1.cell_ (i := 5) rfl
    have f5 := b1.frozen 5
    have c6 := b1.cell_ (i := 6) rfl
    have f6 := b1.frozen 6
    have c7 := b1.cell_ (i := 7) rfl
    have f7 := b1.frozen 7
    have c8 := b1.cell_ (i := 8) rfl
    have f8 := b1.frozen 8
    have c9 := b1.cell_ (i := 9) rfl
    have f9 := b1.frozen 9
    go_enter Tryz.func23, Tryz.ntmps23
    go_wp2_with fail
    have d0 := b1.cell_ (i := 0) rfl
    have d1 := b1.cell_ (i := 1) rfl
    have d2 := b1.cell_ (i := 2) rfl
    have d3 := b1.cell_ (i := 3) rfl
    have d4 := b1.cell_ (i := 4) rfl
    have d5 := b1.cell_ (i := 5) rfl
    have d6 := b1.cell_ (i := 6) rfl
    have d7 := b1.cell_ (i := 7) rfl
    have d8 := b1.cell_ (i := 8) rfl
    have d9 := b1.cell_ (i := 9) rfl
    refine bodyPost_ret (v := .tuple #[.agg #[.int .i64 0, .int .u32 0, .int .u64 0, .int .u8 0, .int .u64 0, .bool false, .slice none 0 0, .int .i64 0, .int .i64 0, .slice none 0 0], .int .i64 3]) (by simp [results, Tryz.results23, go_sem, d0, d1, d2, d3, d4, d5, d6, d7, d8, d9]) rfl ?_
    exact RGetR.zero kz _
  obtain ⟨z1, z1'⟩ := dF (p := (4096 : Int) < xs.length) (by omega)
  have z2 := eq_false h256
  by_cases h14 : xs.length < 23
  · rw [getR_none h256 (readR_short h14)] at hv
    cases hv
    obtain ⟨z3, z3'⟩ := dT (p := (xs.length : Int) < 23) (by omega)
    have z4 := eq_true h14
    clear h14 h256
    have c0 := b1.cell_ (i := 0) rfl
    have f0 := b1.frozen 0
    have c1 := b1.cell_ (i := 1) rfl
    have f1 := b1.frozen 1
    have c2 := b1.cell_ (i := 2) rfl
    have f2 := b1.frozen 2
    have c3 := b1.cell_ (i := 3) rfl
    have f3 := b1.frozen 3
    have c4 := b1.cell_ (i := 4) rfl
    have f4 := b1.frozen 4
    have c5 := b1.cell_ (i := 5) rfl
    have f5 := b1.frozen 5
    have c6 := b1.cell_ (i := 6) rfl
    have f6 := b1.frozen 6
    have c7 := b1.cell_ (i := 7) rfl
    have f7 := b1.frozen 7
    have c8 := b1.cell_ (i := 8) rfl
    have f8 := b1.frozen 8
    have c9 := b1.cell_ (i := 9) rfl
    have f9 := b1.frozen 9
    go_enter Tryz.func23, Tryz.ntmps23
    go_wp2_with fail
    have d0 := b1.cell_ (i := 0) rfl
    have d1 := b1.cell_ (i := 1) rfl
    have d2 := b1.cell_ (i := 2) rfl
    have d3 := b1.cell_ (i := 3) rfl
    have d4 := b1.cell_ (i := 4) rfl
    have d5 := b1.cell_ (i := 5) rfl
    have d6 := b1.cell_ (i := 6) rfl
    have d7 := b1.cell_ (i := 7) rfl
    have d8 := b1.cell_ (i := 8) rfl
    have d9 := b1.cell_ (i := 9) rfl
    refine bodyPost_ret (v := .tuple #[.agg #[.int .i64 0, .int .u32 0, .int .u64 0, .int .u8 0, .int .u64 0, .bool false, .slice none 0 0, .int .i64 0, .int .i64 0, .slice none 0 0], .int .i64 4]) (by simp [results, Tryz.results23, go_sem, d0, d1, d2, d3, d4, d5, d6, d7, d8, d9]) rfl ?_
    exact RGetR.zero kz _
  obtain ⟨z3, z3'⟩ := dF (p := (xs.length : Int) < 23) (by omega)
  have z4 := eq_false h14
  have p0 : (0 < xs.length) = True := eq_true (by omega)
  have p0' : ((0 : Int) < (xs.length : Int)) = True := eq_true (by omega)
  have p13 : (13 < xs.length) = True := eq_true (by omega)
  have p13' : ((13 : Int) < (xs.length : Int)) = True := eq_true (by omega)
  have p22 : (22 < xs.length) = True := eq_true (by omega)
  have p22' : ((22 : Int) < (xs.length : Int)) = True := eq_true (by omega)
  have HV := Lib.hid hv
  have H256 := Lib.hid h256
  have hl : 23 ≤ xs.length := by omega
  have hmx : xs.length ≤ 4096 := by omega
  clear hv
  obtain ⟨b, off, rfl, hcell⟩ := rd.ints (by omega)
  obtain ⟨a0, ha0⟩ : ∃ a : Nat, (a : Int) = xs.getD 0 0 := ⟨(xs.getD 0 0).toNat, Int.toNat_of_nonneg (getD_bytes hB 0)⟩
  have x0 := hcell 0 (by omega)
  rw [← ha0] at x0
  have y0 : xs[0]? = some (a0 : Int) := by rw [ha0, List.getD_eq_getElem?_getD, List.getElem?_eq_getElem (by omega)]; rfl
  have g0 := hB a0 (List.mem_of_getElem? y0)
  have Y0 := Lib.hid y0
  obtain ⟨a13, ha13⟩ : ∃ a : Nat, (a : Int) = xs.getD 13 0 := ⟨(xs.getD 13 0).toNat, Int.toNat_of_nonneg (getD_bytes hB 13)⟩
  have x13 := hcell 13 (by omega)
  rw [← ha13] at x13
  have y13 : xs[13]? = some (a13 : Int) := by rw [ha13, List.getD_eq_getElem?_getD, List.getElem?_eq_getElem (by omega)]; rfl
  have g13 := hB a13 (List.mem_of_getElem? y13)
  have Y13 := Lib.hid y13
  obtain ⟨a22, ha22⟩ : ∃ a : Nat, (a : Int) = xs.getD 22 0 := ⟨(xs.getD 22 0).toNat, Int.toNat_of_nonneg (getD_bytes hB 22)⟩
  have x22 := hcell 22 (by omega)
  rw [← ha22] at x22
  have y22 : xs[22]? = some (a22 : Int) := by rw [ha22, List.getD_eq_getElem?_getD, List.getElem?_eq_getElem (by omega)]; rfl
  have g22 := hB a22 (List.mem_of_getElem? y22)
  have Y22 := Lib.hid y22
  rw [Nat.add_zero] at x0
  have hbw : b < w.heap.size := World.block_lt_of_cell? w _ x0
  obtain ⟨hs, hhs⟩ : ∃ h : Bool, h = (a22 == 1) := ⟨_, rfl⟩
  have zh : ((a22 : Int) == 1) = hs := by
    rw [hhs]
    by_cases h : a22 = 1
    · rw [h]; rfl
    · rw [beq_false_of_ne h]; exact beq_false_of_ne (by omega)
  have ZH := Lib.hid hhs
  have zE : IntKind.i64.wrap (a0 : Int) = a0 := wrapI64 (by omega)
  obtain ⟨B, hBq⟩ : ∃ B, B = w.heap.size := ⟨_, rfl⟩
  rw [← hBq] at b1 hbw
  have HBQ := Lib.hid hBq
  have HB := Lib.hid hB
  have HC := Lib.hid hcell
  clear hcell ha0 ha13 ha22 y0 y13 y22 h256 h14 hB hhs
  go_enter Tryz.func23, Tryz.ntmps23
  go_upto_region 5 with fail
  rw [← HBQ.out]
  clear hBq
  generalize w.alloc (.cells #[.int .i64 0, .int .u32 0, .int .u64 0, .int .u8 0, .int .u64 0, .bool false, .slice none 0 0, .int .i64 0, .int .i64 0, .slice none 0 0] 32) = w1 at kz b1 ⊢
  have KS : ∀ v, Keep w v → (fun v => v.cell? ⟨b, off, none⟩ = some (.int .u8 a0) ∧ v.cell? ⟨b, off + 13, none⟩ = some (.int .u8 a13) ∧ v.cell? ⟨b, off + 22, none⟩ = some (.int .u8 a22)) v := fun v k => ⟨k.cell x0, k.cell x13, k.cell x22⟩
  refine wp_region_noPanic ?_
  refine wp_region_held_drew (S := (fun v => v.cell? ⟨b, off, none⟩ = some (.int .u8 a0) ∧ v.cell? ⟨b, off + 13, none⟩ = some (.int .u8 a13) ∧ v.cell? ⟨b, off + 22, none⟩ = some (.int .u8 a22))) (by kernel_rfl) (KS _ kz.drew) (fun hS => ?_)
  replace kz := kz.drew
  replace b1 := b1.keep (Keep.refl w1).drew
  generalize w1.drew = v0 at hS kz b1 ⊢
  refine wpAnyH_take (i := 0) (v := ?_) rfl (by kernel_rfl) (by kernel_rfl) (by kernel_rfl) (fun _ _ _ h => h) (Or.inl ⟨by rfl, ?_⟩) hS ?_
  rotate_left
  · (intro w hSw; (try dsimp only at hSw); go_simp; (first | done | with_reducible rfl))
  change wpAnyH _ _ _ _ _ _ _ (Act.put _ (some 22) _) _
  simp only [Act.put, List.setIfInBounds_toArray, List.set_cons_zero, List.set_cons_succ]
  refine wpAnyH_take (i := 1) (v := ?_) rfl (by kernel_rfl) (by kernel_rfl) (by kernel_rfl) (fun _ _ _ h => h) (Or.inl ⟨by rfl, ?_⟩) hS ?_
  rotate_left
  · (intro w hSw; (try dsimp only at hSw); go_simp; (first | done | with_reducible rfl))
  change wpAnyH _ _ _ _ _ _ _ (Act.put _ (some 23) _) _
  simp only [Act.put, List.setIfInBounds_toArray, List.set_cons_zero, List.set_cons_succ]
  refine wpAnyH_take (i := 2) (v := ?_) rfl (by kernel_rfl) (by kernel_rfl) (by kernel_rfl) (fun _ _ _ h => h) (Or.inl ⟨by rfl, ?_⟩) hS ?_
  rotate_left
  · (intro w hSw; (try dsimp only at hSw); go_simp; (first | done | with_reducible rfl))
  change wpAnyH _ _ _ _ _ _ _ (Act.put _ (some 24) _) _
  simp only [Act.put, List.setIfInBounds_toArray, List.set_cons_zero, List.set_cons_succ]
  refine wpAnyH_take (i := 3) (v := ?_) rfl (by kernel_rfl) (by kernel_rfl) (by kernel_rfl) (fun _ _ _ h => h) (Or.inl ⟨by rfl, ?_⟩) hS ?_
  rotate_left
  · (intro w hSw; (try dsimp only at hSw); go_simp; (first | done | with_reducible rfl))
  change wpAnyH _ _ _ _ _ _ _ (Act.put _ (some 25) _) _
  simp only [Act.put, List.setIfInBounds_toArray, List.set_cons_zero, List.set_cons_succ]
  refine wpAnyH_take (i := 4) (v := ?_) rfl (by kernel_rfl) (by kernel_rfl) (by kernel_rfl) (fun _ _ _ h => h) (Or.inl ⟨by rfl, ?_⟩) hS ?_
  rotate_left
  · (intro w hSw; (try dsimp only at hSw); go_simp; (first | done | with_reducible rfl))
  change wpAnyH _ _ _ _ _ _ _ (Act.put _ (some 26) _) _
  simp only [Act.put, List.setIfInBounds_toArray, List.set_cons_zero, List.set_cons_succ]
  refine wpAnyH_take (i := 5) (v := ?_) rfl (by kernel_rfl) (by kernel_rfl) (by kernel_rfl) (fun _ _ _ h => h) (Or.inl ⟨by rfl, ?_⟩) hS ?_
  rotate_left
  · (intro w hSw; (try dsimp only at hSw); go_simp; (first | done | with_reducible rfl))
  change wpAnyH _ _ _ _ _ _ _ (Act.put _ (some 27) _) _
  simp only [Act.put, List.setIfInBounds_toArray, List.set_cons_zero, List.set_cons_succ]
  refine wpAnyH_take (i := 6) (v := ?_) rfl (by kernel_rfl) (by kernel_rfl) (by kernel_rfl) (fun _ _ _ h => h) (Or.inl ⟨by rfl, ?_⟩) hS ?_
  rotate_left
  · (intro w hSw; (try dsimp only at hSw); go_simp; (first | done | with_reducible rfl))
  change wpAnyH _ _ _ _ _ _ _ (Act.put _ (some 28) _) _
  simp only [Act.put, List.setIfInBounds_toArray, List.set_cons_zero, List.set_cons_succ]
  refine wpAnyH_take (i := 7) (v := ?_) rfl (by kernel_rfl) (by kernel_rfl) (by kernel_rfl) (fun _ _ _ h => h) (Or.inl ⟨by rfl, ?_⟩) hS ?_
  rotate_left
  · (intro w hSw; (try dsimp only at hSw); go_simp; (first | done | with_reducible rfl))
  change wpAnyH _ _ _ _ _ _ _ (Act.put _ (some 29) _) _
  simp only [Act.put, List.setIfInBounds_toArray, List.set_cons_zero, List.set_cons_succ]
  refine wpAnyH_take (i := 8) (v := ?_) rfl (by kernel_rfl) (by kernel_rfl) (by kernel_rfl) (fun _ _ _ h => h) (Or.inl ⟨by rfl, ?_⟩) hS ?_
  rotate_left
  · (intro w hSw; (try dsimp only at hSw); go_simp; (first | done | with_reducible rfl))
  change wpAnyH _ _ _ _ _ _ _ (Act.put _ (some 30) _) _
  simp only [Act.put, List.setIfInBounds_toArray, List.set_cons_zero, List.set_cons_succ]
  refine wpAnyH_take (i := 9) (v := ?_) rfl (by kernel_rfl) (by kernel_rfl) (by kernel_rfl) (fun _ _ _ h => h) (Or.inl ⟨by rfl, ?_⟩) hS ?_
  rotate_left
  · (intro w hSw; (try dsimp only at hSw); go_simp; (first | done | with_reducible rfl))
  change wpAnyH _ _ _ _ _ _ _ (Act.put _ (some 31) _) _
  simp only [Act.put, List.setIfInBounds_toArray, List.set_cons_zero, List.set_cons_succ]
  refine wpAnyH_take (i := 10) (v := ?_) rfl (by kernel_rfl) (by kernel_rfl) (by kernel_rfl) (fun _ _ _ h => h) (Or.inl ⟨by rfl, ?_⟩) hS ?_
  rotate_left
  · (intro w hSw; (try dsimp only at hSw); go_simp; (first | done | with_reducible rfl))
  change wpAnyH _ _ _ _ _ _ _ (Act.put _ (some 32) _) _
  simp only [Act.put, List.setIfInBounds_toArray, List.set_cons_zero, List.set_cons_succ]
  refine wpAnyH_take (i := 11) (v := ?_) rfl (by kernel_rfl) (by kernel_rfl) (by kernel_rfl) (fun _ _ _ h => h) (Or.inl ⟨by rfl, ?_⟩) hS ?_
  rotate_left
  · (intro w hSw; (try dsimp only at hSw); go_simp; (first | done | with_reducible rfl))
  change wpAnyH _ _ _ _ _ _ _ (Act.put _ (some 33) _) _
  simp only [Act.put, List.setIfInBounds_toArray, List.set_cons_zero, List.set_cons_succ]
  refine wpAnyH_ready (rs := [12]) (by kernel_rfl) (by simp) ?_
  refine AllReadyH.cons rfl (fun K hK => ?_) AllReadyH.nil
  go_simp
  have kn : Keep v0 (v0.alloc (.cells #[.int .i64 0, .int .u32 0, .int .u64 0, .int .u8 0, .int .u64 0, .bool false, .slice none 0 0, .int .i64 0, .int .i64 0, .slice none 0 0] 32)) := Keep.alloc1 _ _
  refine hK.out _ _ (KS _ (kz.trans kn)) (fun hS => ?_)
  clear hK K
  try simp only [Act.put, List.setIfInBounds_toArray, List.set_cons_zero, List.set_cons_succ]
  refine wpAnyH_ready (rs := [13]) (by kernel_rfl) (by simp) ?_
  refine AllReadyH.cons rfl (fun K hK => ?_) AllReadyH.nil
  rw [if_pos (by rfl)]
  have bM := Blk.new v0 32 [.int .i64 0, .int .u32 0, .int .u64 0, .int .u8 0, .int .u64 0, .bool false, .slice none 0 0, .int .i64 0, .int .i64 0, .slice none 0 0]
  have hlt : B < v0.heap.size := b1.lt
  have b1n := b1.keep kn
  generalize v0.alloc (.cells #[.int .i64 0, .int .u32 0, .int .u64 0, .int .u8 0, .int .u64 0, .bool false, .slice none 0 0, .int .i64 0, .int .i64 0, .slice none 0 0] 32) = v1 at kn bM b1n ⊢
  generalize v0.heap.size = B2 at bM hlt ⊢
  refine wp_store_row 32 _ _ rfl B2 #[.int .i64 a0, .int .u32 0, .int .u64 0, .int .u8 a13, .int .u64 0, .bool hs, .slice none 0 0, .int .i64 (-1), .int .i64 0, .slice none 0 0] rfl rfl _ _ bM (by kernel_rfl) rfl (by simp [Value.oneCell']) ?_
  refine hK.out _ _ ⟨(cell_setRow_other _ _ _ _ (show b ≠ B2 by omega)).trans (KS _ (kz.trans kn)).1, (cell_setRow_other _ _ _ _ (show b ≠ B2 by omega)).trans (KS _ (kz.trans kn)).2.1, (cell_setRow_other _ _ _ _ (show b ≠ B2 by omega)).trans (KS _ (kz.trans kn)).2.2⟩ (fun hS => ?_)
  clear hK K
  try simp only [Act.put, List.setIfInBounds_toArray]
  refine wpAnyH_done (by kernel_rfl) ?_ _
  refine NoPanic.normal ?_
  have og := only_row v1 B2 #[.int .i64 a0, .int .u32 0, .int .u64 0, .int .u8 a13, .int .u64 0, .bool hs, .slice none 0 0, .int .i64 (-1), .int .i64 0, .slice none 0 0]
  have bM' := bM.row #[.int .i64 a0, .int .u32 0, .int .u64 0, .int .u8 a13, .int .u64 0, .bool hs, .slice none 0 0, .int .i64 (-1), .int .i64 0, .slice none 0 0]
  have kk := (kz.trans kn).grown og (fun k e => by injection e with e; have := HBQ.out; omega)
  replace b1 := b1n.grown og (fun e => by injection e with e; omega)
  generalize v1.setRow B2 #[.int .i64 a0, .int .u32 0, .int .u64 0, .int .u8 a13, .int .u64 0, .bool hs, .slice none 0 0, .int .i64 (-1), .int .i64 0, .slice none 0 0] = w2 at og bM' kk b1 ⊢
  replace bM := bM'
  clear bM' og b1n kn kz hS KS x0 x13 x22
  obtain ⟨n4, hn4⟩ : ∃ n, n = val ((xs.drop 1).take 4) := ⟨_, rfl⟩
  have ln4 : n4 < 4294967296 := by
    have := val_lt ((HB.out.drop 1).take 4)
    rw [List.length_take, List.length_drop, Nat.min_eq_left (by omega)] at this
    rw [hn4]
    simpa using this
  have Gn4 : getV (xs.drop 1) 4 = (n4, 0) := by rw [getV, if_neg (by omega), if_neg (by rw [List.length_drop]; omega), hn4]; rfl
  have Vn4 := Lib.hid hn4
  have kn4 : (c = 1) = False := eq_false (by omega)
  clear hn4
  obtain ⟨n8, hn8⟩ : ∃ n, n = val ((xs.drop 5).take 8) := ⟨_, rfl⟩
  have ln8 : n8 < 18446744073709551616 := by
    have := val_lt ((HB.out.drop 5).take 8)
    rw [List.length_take, List.length_drop, Nat.min_eq_left (by omega)] at this
    rw [hn8]
    simpa using this
  have Gn8 : getV (xs.drop 5) 8 = (n8, 0) := by rw [getV, if_neg (by omega), if_neg (by rw [List.length_drop]; omega), hn8]; rfl
  have Vn8 := Lib.hid hn8
  have kn8 : (c = 5) = False := eq_false (by omega)
  clear hn8
  obtain ⟨m8, hm8⟩ : ∃ n, n = val ((xs.drop 14).take 8) := ⟨_, rfl⟩
  have lm8 : m8 < 18446744073709551616 := by
    have := val_lt ((HB.out.drop 14).take 8)
    rw [List.length_take, List.length_drop, Nat.min_eq_left (by omega)] at this
    rw [hm8]
    simpa using this
  have Gm8 : getV (xs.drop 14) 8 = (m8, 0) := by rw [getV, if_neg (by omega), if_neg (by rw [List.length_drop]; omega), hm8]; rfl
  have Vm8 := Lib.hid hm8
  have km8 : (c = 14) = False := eq_false (by omega)
  clear hm8
  have zS : IntKind.u32.wrap (n4 : Int) = n4 := wrapU32 ln4
  have rd2 := (rd.keep kk).from_ (k := 1) hc (some ⟨b, off + 1, none⟩) (fun _ => rfl)
  have hq := refGet_f _ (c - 1) (xs.drop 1) 4 w2 rd2 (HB.out.drop 1) (by rw [List.length_drop]; omega) (by unfold Len at lc ⊢; omega) (by omega)
  unfold GetP at hq
  rw [Gn4, List.length_drop] at hq
  go_wp2_with fail
  refine hq.mono ?_
  rintro e w3 ⟨rfl, kq⟩
  clear hq rd2
  replace bM := bM.keep kq
  replace b1 := b1.keep kq
  replace kk := kk.trans kq
  clear kq
  have m := bM.cell_ (i := 1) rfl
  have fm := bM.frozen 1
  go_upto_region 8 with fail
  clear m fm
  replace kk := kk.setCell (p := ⟨B2, 1, none⟩) (by have := HBQ.out; show _ ≤ B2; omega) (.int .u32 n4)
  replace b1 := b1.far (p := ⟨B2, 1, none⟩) (show B2 ≠ B by omega) (.int .u32 n4)
  have bM' : Blk (w3.setCell ⟨B2, 1, none⟩ (.int .u32 n4)) B2 32 [.int .i64 a0, .int .u32 n4, .int .u64 0, .int .u8 a13, .int .u64 0, .bool hs, .slice none 0 0, .int .i64 (-1), .int .i64 0, .slice none 0 0] := bM.set_ 1 (.int .u32 n4)
  clear bM
  have bM := bM'
  clear bM'
  generalize w3.setCell ⟨B2, 1, none⟩ (.int .u32 n4) = w4 at kk b1 bM ⊢
  have rd2 := (rd.keep kk).from_ (k := 5) hc (some ⟨b, off + 5, none⟩) (fun _ => rfl)
  have hq := refGet_f _ (c - 5) (xs.drop 5) 8 w4 rd2 (HB.out.drop 5) (by rw [List.length_drop]; omega) (by unfold Len at lc ⊢; omega) (by omega)
  unfold GetP at hq
  rw [Gn8, List.length_drop] at hq
  go_wp2_with fail
  refine hq.mono ?_
  rintro e w5 ⟨rfl, kq⟩
  clear hq rd2
  replace bM := bM.keep kq
  replace b1 := b1.keep kq
  replace kk := kk.trans kq
  clear kq
  have m := bM.cell_ (i := 2) rfl
  have fm := bM.frozen 2
  go_upto_region 9 with fail
  clear m fm
  replace kk := kk.setCell (p := ⟨B2, 2, none⟩) (by have := HBQ.out; show _ ≤ B2; omega) (.int .u64 n8)
  replace b1 := b1.far (p := ⟨B2, 2, none⟩) (show B2 ≠ B by omega) (.int .u64 n8)
  have bM' : Blk (w5.setCell ⟨B2, 2, none⟩ (.int .u64 n8)) B2 32 [.int .i64 a0, .int .u32 n4, .int .u64 n8, .int .u8 a13, .int .u64 0, .bool hs, .slice none 0 0, .int .i64 (-1), .int .i64 0, .slice none 0 0] := bM.set_ 2 (.int .u64 n8)
  clear bM
  have bM := bM'
  clear bM'
  generalize w5.setCell ⟨B2, 2, none⟩ (.int .u64 n8) = w6 at kk b1 bM ⊢
  have rd2 := (rd.keep kk).from_ (k := 14) hc (some ⟨b, off + 14, none⟩) (fun _ => rfl)
  have hq := refGet_f _ (c - 14) (xs.drop 14) 8 w6 rd2 (HB.out.drop 14) (by rw [List.length_drop]; omega) (by unfold Len at lc ⊢; omega) (by omega)
  unfold GetP at hq
  rw [Gm8, List.length_drop] at hq
  go_wp2_with fail
  refine hq.mono ?_
  rintro e w7 ⟨rfl, kq⟩
  clear hq rd2
  replace bM := bM.keep kq
  replace b1 := b1.keep kq
  replace kk := kk.trans kq
  clear kq
  have m := bM.cell_ (i := 4) rfl
  have fm := bM.frozen 4
  go_upto_region 10 with fail
  clear m fm
  replace kk := kk.setCell (p := ⟨B2, 4, none⟩) (by have := HBQ.out; show _ ≤ B2; omega) (.int .u64 m8)
  replace b1 := b1.far (p := ⟨B2, 4, none⟩) (show B2 ≠ B by omega) (.int .u64 m8)
  have bM' : Blk (w7.setCell ⟨B2, 4, none⟩ (.int .u64 m8)) B2 32 [.int .i64 a0, .int .u32 n4, .int .u64 n8, .int .u8 a13, .int .u64 m8, .bool hs, .slice none 0 0, .int .i64 (-1), .int .i64 0, .slice none 0 0] := bM.set_ 4 (.int .u64 m8)
  clear bM
  have bM := bM'
  clear bM'
  generalize w7.setCell ⟨B2, 4, none⟩ (.int .u64 m8) = w8 at kk b1 bM ⊢
  have R14 := fun A' hA => (rd.keep kk).from_ (k := 23) hc A' hA
  have hqL := fun A' hA => refGetList_o A' (c - 23) (xs.drop 23) w8 (R14 A' hA) (HB.out.drop 23) (by rw [List.length_drop]; omega) (by unfold Len at lc ⊢; omega)
  unfold RefLO at hqL
  cases hg : getL (xs.drop 23) with
  | none =>
    have HG := Lib.hid hg
    rw [hg, List.length_drop] at hqL
    simp only at hqL
    clear hg R14
    by_cases hk : c = 23
    · have hq := hqL (some ⟨b, off, none⟩) (fun e => absurd hk e)
      clear hqL
      subst hk
      rw [show xs.length - 23 = 0 by omega, Nat.sub_self] at hq
      go_wp2_with fail
      refine hq.mono ?_
      rintro e w9 ⟨rfl, kq⟩
      clear hq
      replace bM := bM.keep kq
      replace b1 := b1.keep kq
      replace kk := kk.trans kq
      clear kq
      have hv := HV.out
      rw [getR_none H256.out (readR_none2 hl HG.out)] at hv
      cases hv
      go_wp2_with (refine wpList_store_row rfl 32 _ _ rfl B #[.int .i64 0, .int .u32 0, .int .u64 0, .int .u8 0, .int .u64 0, .bool false, .slice none 0 0, .int .i64 0, .int .i64 0, .slice none 0 0] rfl rfl _ _ b1 (by kernel_rfl) rfl (by simp [Value.oneCell']) ?_)
      have og := only_row w9 B #[.int .i64 0, .int .u32 0, .int .u64 0, .int .u8 0, .int .u64 0, .bool false, .slice none 0 0, .int .i64 0, .int .i64 0, .slice none 0 0]
      have hR := b1.row #[.int .i64 0, .int .u32 0, .int .u64 0, .int .u8 0, .int .u64 0, .bool false, .slice none 0 0, .int .i64 0, .int .i64 0, .slice none 0 0]
      have kz := kk.grown og (fun k e => by injection e with e; have := HBQ.out; omega)
      generalize w9.setRow B #[.int .i64 0, .int .u32 0, .int .u64 0, .int .u8 0, .int .u64 0, .bool false, .slice none 0 0, .int .i64 0, .int .i64 0, .slice none 0 0] = wz at hR kz ⊢
      have d0 := hR.cell_ (i := 0) rfl
      have d1 := hR.cell_ (i := 1) rfl
      have d2 := hR.cell_ (i := 2) rfl
      have d3 := hR.cell_ (i := 3) rfl
      have d4 := hR.cell_ (i := 4) rfl
      have d5 := hR.cell_ (i := 5) rfl
      have d6 := hR.cell_ (i := 6) rfl
      have d7 := hR.cell_ (i := 7) rfl
      have d8 := hR.cell_ (i := 8) rfl
      have d9 := hR.cell_ (i := 9) rfl
      refine bodyPost_ret (v := .tuple #[.agg #[.int .i64 0, .int .u32 0, .int .u64 0, .int .u8 0, .int .u64 0, .bool false, .slice none 0 0, .int .i64 0, .int .i64 0, .slice none 0 0], .int .i64 4]) (by simp [results, Tryz.results23, go_sem, d0, d1, d2, d3, d4, d5, d6, d7, d8, d9]) rfl ?_
      exact RGetR.zero kz _
    · have hq := hqL (some ⟨b, off + 23, none⟩) (fun e => rfl)
      clear hqL
      have hk' : (c = 23) = False := eq_false hk
      go_wp2_with fail
      refine hq.mono ?_
      rintro e w10 ⟨rfl, kq⟩
      clear hq
      replace bM := bM.keep kq
      replace b1 := b1.keep kq
      replace kk := kk.trans kq
      clear kq
      have hv := HV.out
      rw [getR_none H256.out (readR_none2 hl HG.out)] at hv
      cases hv
      go_wp2_with (refine wpList_store_row rfl 32 _ _ rfl B #[.int .i64 0, .int .u32 0, .int .u64 0, .int .u8 0, .int .u64 0, .bool false, .slice none 0 0, .int .i64 0, .int .i64 0, .slice none 0 0] rfl rfl _ _ b1 (by kernel_rfl) rfl (by simp [Value.oneCell']) ?_)
      have og := only_row w10 B #[.int .i64 0, .int .u32 0, .int .u64 0, .int .u8 0, .int .u64 0, .bool false, .slice none 0 0, .int .i64 0, .int .i64 0, .slice none 0 0]
      have hR := b1.row #[.int .i64 0, .int .u32 0, .int .u64 0, .int .u8 0, .int .u64 0, .bool false, .slice none 0 0, .int .i64 0, .int .i64 0, .slice none 0 0]
      have kz := kk.grown og (fun k e => by injection e with e; have := HBQ.out; omega)
      generalize w10.setRow B #[.int .i64 0, .int .u32 0, .int .u64 0, .int .u8 0, .int .u64 0, .bool false, .slice none 0 0, .int .i64 0, .int .i64 0, .slice none 0 0] = wz at hR kz ⊢
      have d0 := hR.cell_ (i := 0) rfl
      have d1 := hR.cell_ (i := 1) rfl
      have d2 := hR.cell_ (i := 2) rfl
      have d3 := hR.cell_ (i := 3) rfl
      have d4 := hR.cell_ (i := 4) rfl
      have d5 := hR.cell_ (i := 5) rfl
      have d6 := hR.cell_ (i := 6) rfl
      have d7 := hR.cell_ (i := 7) rfl
      have d8 := hR.cell_ (i := 8) rfl
      have d9 := hR.cell_ (i := 9) rfl
      refine bodyPost_ret (v := .tuple #[.agg #[.int .i64 0, .int .u32 0, .int .u64 0, .int .u8 0, .int .u64 0, .bool false, .slice none 0 0, .int .i64 0, .int .i64 0, .slice none 0 0], .int .i64 4]) (by simp [results, Tryz.results23, go_sem, d0, d1, d2, d3, d4, d5, d6, d7, d8, d9]) rfl ?_
      exact RGetR.zero kz _
  | some l =>
    have hl2 : 24 + 4 * l.length ≤ xs.length := by
      have := (rdL_some (HB.out.drop 23) (rdL_yes hg)).2.2.2.2.1
      rw [List.length_drop] at this
      omega
    have lLow := getL_low (HB.out.drop 23) hg
    have HG := Lib.hid hg
    have LLow := Lib.hid lLow
    rw [hg, List.length_drop] at hqL
    simp only at hqL
    have hq := hqL (some ⟨b, off + 23, none⟩) (fun _ => rfl)
    clear hg R14 hqL lLow
    have hk' : (c = 23) = False := eq_false (by omega)
    go_wp2_with fail
    refine hq.mono ?_
    rintro e w11 ⟨Al, cl, rfl, fl, kq⟩
    clear hq
    replace fl := Fr.mono fl kk.size
    replace bM := bM.keep kq
    replace b1 := b1.keep kq
    replace kk := kk.trans kq
    clear kq
    by_cases hsh : xs.length < 23 + (1 + 4 * l.length) + 5
    · obtain ⟨s1, s1'⟩ := dT (p := (xs.length : Int) < 23 + ((1 + 4 * l.length : Nat) : Int) + 5) (by omega)
      obtain ⟨s2, s2'⟩ := dT (p := (xs.length : Int) < 23 + (1 + 4 * (l.length : Int)) + 5) (by omega)
      obtain ⟨s3, s3'⟩ := dT (p := xs.length < 23 + (1 + 4 * l.length) + 5) (by omega)
      have hv := HV.out
      rw [getR_none H256.out (readR_none3 hl HG.out hsh)] at hv
      cases hv
      go_wp2_with (refine wpList_store_row rfl 32 _ _ rfl B #[.int .i64 0, .int .u32 0, .int .u64 0, .int .u8 0, .int .u64 0, .bool false, .slice none 0 0, .int .i64 0, .int .i64 0, .slice none 0 0] rfl rfl _ _ b1 (by kernel_rfl) rfl (by simp [Value.oneCell']) ?_)
      have og := only_row w11 B #[.int .i64 0, .int .u32 0, .int .u64 0, .int .u8 0, .int .u64 0, .bool false, .slice none 0 0, .int .i64 0, .int .i64 0, .slice none 0 0]
      have hR := b1.row #[.int .i64 0, .int .u32 0, .int .u64 0, .int .u8 0, .int .u64 0, .bool false, .slice none 0 0, .int .i64 0, .int .i64 0, .slice none 0 0]
      have kz := kk.grown og (fun k e => by injection e with e; have := HBQ.out; omega)
      generalize w11.setRow B #[.int .i64 0, .int .u32 0, .int .u64 0, .int .u8 0, .int .u64 0, .bool false, .slice none 0 0, .int .i64 0, .int .i64 0, .slice none 0 0] = wz at hR kz ⊢
      have d0 := hR.cell_ (i := 0) rfl
      have d1 := hR.cell_ (i := 1) rfl
      have d2 := hR.cell_ (i := 2) rfl
      have d3 := hR.cell_ (i := 3) rfl
      have d4 := hR.cell_ (i := 4) rfl
      have d5 := hR.cell_ (i := 5) rfl
      have d6 := hR.cell_ (i := 6) rfl
      have d7 := hR.cell_ (i := 7) rfl
      have d8 := hR.cell_ (i := 8) rfl
      have d9 := hR.cell_ (i := 9) rfl
      refine bodyPost_ret (v := .tuple #[.agg #[.int .i64 0, .int .u32 0, .int .u64 0, .int .u8 0, .int .u64 0, .bool false, .slice none 0 0, .int .i64 0, .int .i64 0, .slice none 0 0], .int .i64 4]) (by simp [results, Tryz.results23, go_sem, d0, d1, d2, d3, d4, d5, d6, d7, d8, d9]) rfl ?_
      exact RGetR.zero kz _
    obtain ⟨s1, s1'⟩ := dF (p := (xs.length : Int) < 23 + ((1 + 4 * l.length : Nat) : Int) + 5) (by omega)
    obtain ⟨s2, s2'⟩ := dF (p := (xs.length : Int) < 23 + (1 + 4 * (l.length : Int)) + 5) (by omega)
    obtain ⟨s3, s3'⟩ := dF (p := xs.length < 23 + (1 + 4 * l.length) + 5) (by omega)
    have hln : 23 + (1 + 4 * l.length) + 5 ≤ xs.length := by omega
    have HSH := Lib.hid hsh
    clear hsh
    have m6 := bM.cell_ (i := 6) rfl
    have fm6 := bM.frozen 6
    go_upto_region 14 with fail
    clear m6 fm6
    replace kk := kk.setCell (p := ⟨B2, 6, none⟩) (by have := HBQ.out; show _ ≤ B2; omega) (.slice Al l.length cl)
    replace b1 := b1.far (p := ⟨B2, 6, none⟩) (show B2 ≠ B by omega) (.slice Al l.length cl)
    replace fl := fl.setCell (p := ⟨B2, 6, none⟩) (fun k hk => fl.own_ne bM (by decide) k hk) (.slice Al l.length cl)
    have bM' : Blk (w11.setCell ⟨B2, 6, none⟩ (.slice Al l.length cl)) B2 32 [.int .i64 a0, .int .u32 n4, .int .u64 n8, .int .u8 a13, .int .u64 m8, .bool hs, .slice Al l.length cl, .int .i64 (-1), .int .i64 0, .slice none 0 0] := bM.set_ 6 (.slice Al l.length cl)
    clear bM
    have bM := bM'
    clear bM'
    generalize w11.setCell ⟨B2, 6, none⟩ (.slice Al l.length cl) = w12 at kk b1 bM fl ⊢
    obtain ⟨ai, hai⟩ : ∃ a : Nat, (a : Int) = xs.getD (23 + (1 + 4 * l.length)) 0 := ⟨(xs.getD (23 + (1 + 4 * l.length)) 0).toNat, Int.toNat_of_nonneg (getD_bytes HB.out _)⟩
    have yi : xs[23 + (1 + 4 * l.length)]? = some (ai : Int) := by rw [hai, List.getD_eq_getElem?_getD, List.getElem?_eq_getElem (by omega)]; rfl
    have gi := HB.out ai (List.mem_of_getElem? yi)
    have YI := Lib.hid yi
    have ci := kk.cell (HC.out (23 + (1 + 4 * l.length)) (by omega))
    rw [← hai] at ci
    clear hai yi
    have zi : IntKind.i64.wrap (ai : Int) = ai := wrapI64 (by omega)
    by_cases h255 : ai = 255
    · have q1 : ((ai : Int) == 255) = true := beq_iff_eq.2 (by omega)
      have q2 : ((ai : Int) != 255) = false := by simp only [bne, q1, Bool.not_true]
      have hiv : itemV ai = -1 := by rw [h255]; rfl
      have HIV := Lib.hid hiv
      replace h255 := Lib.hid h255
      clear hiv
      go_upto_region 17 with fail
      clear ci q1 q2
      obtain ⟨pn, hpn⟩ : ∃ n, n = val ((xs.drop (23 + (1 + 4 * l.length) + 1)).take 4) := ⟨_, rfl⟩
      have lpn : pn < 4294967296 := by
        have := val_lt ((HB.out.drop (23 + (1 + 4 * l.length) + 1)).take 4)
        rw [List.length_take, List.length_drop, Nat.min_eq_left (by omega)] at this
        rw [hpn]
        simpa using this
      have Gpn : getV (xs.drop (23 + (1 + 4 * l.length) + 1)) 4 = (pn, 0) := by rw [getV, if_neg (by omega), if_neg (by rw [List.length_drop]; omega), hpn]; rfl
      have VPN := Lib.hid hpn
      have kpn : (c = 23 + (1 + 4 * l.length) + 1) = False := eq_false (by omega)
      clear hpn
      have zpn : IntKind.i64.wrap (pn : Int) = pn := wrapI64 lpn
      have rd2 := (rd.keep kk).from_ (k := (23 + (1 + 4 * l.length) + 1)) hc (some ⟨b, off + (23 + (1 + 4 * l.length) + 1), none⟩) (fun _ => by simp [Addr.add_lit])
      have hq := refGet_f _ (c - (23 + (1 + 4 * l.length) + 1)) (xs.drop (23 + (1 + 4 * l.length) + 1)) 4 w12 rd2 (HB.out.drop (23 + (1 + 4 * l.length) + 1)) (by rw [List.length_drop]; omega) (by unfold Len at lc ⊢; omega) (by omega)
      unfold GetP at hq
      rw [Gpn, List.length_drop] at hq
      go_wp2_with fail
      refine hq.mono ?_
      rintro e w13 ⟨rfl, kq⟩
      clear hq rd2
      replace bM := bM.keep kq
      replace b1 := b1.keep kq
      replace fl := fl.keep kq
      replace kk := kk.trans kq
      clear kq
      have m := bM.cell_ (i := 8) rfl
      have fm := bM.frozen 8
      go_upto_region 19 with fail
      clear m fm
      replace kk := kk.setCell (p := ⟨B2, 8, none⟩) (by have := HBQ.out; show _ ≤ B2; omega) (.int .i64 pn)
      replace b1 := b1.far (p := ⟨B2, 8, none⟩) (show B2 ≠ B by omega) (.int .i64 pn)
      replace fl := fl.setCell (p := ⟨B2, 8, none⟩) (fun k hk => fl.own_ne bM (by decide) k hk) (.int .i64 pn)
      have bM' : Blk (w13.setCell ⟨B2, 8, none⟩ (.int .i64 pn)) B2 32 [.int .i64 a0, .int .u32 n4, .int .u64 n8, .int .u8 a13, .int .u64 m8, .bool hs, .slice Al l.length cl, .int .i64 (-1), .int .i64 pn, .slice none 0 0] := bM.set_ 8 (.int .i64 pn)
      clear bM
      have bM := bM'
      clear bM'
      generalize w13.setCell ⟨B2, 8, none⟩ (.int .i64 pn) = w14 at kk b1 bM fl ⊢
      have R14 := fun A' hA => (rd.keep kk).from_ (k := 23 + (1 + 4 * l.length) + 5) hc A' hA
      have hqB := fun A' hA => refGetBytes_o A' (c - (23 + (1 + 4 * l.length) + 5)) (xs.drop (23 + (1 + 4 * l.length) + 5)) w14 (R14 A' hA) (HB.out.drop (23 + (1 + 4 * l.length) + 5)) (by rw [List.length_drop]; omega) (by unfold Len at lc ⊢; omega)
      unfold RefByO at hqB
      cases hg : getBy (xs.drop (23 + (1 + 4 * l.length) + 5)) with
      | none =>
        have HG2 := Lib.hid hg
        rw [hg, List.length_drop] at hqB
        simp only at hqB
        clear hg R14
        by_cases hk : c = 23 + (1 + 4 * l.length) + 5
        · have hq := hqB (some ⟨b, off, none⟩) (fun e => absurd hk e)
          clear hqB
          have hk' : (c = 23 + (1 + 4 * l.length) + 5) = True := eq_true hk
          rw [show c - (23 + (1 + 4 * l.length) + 5) = 0 by omega] at hq
          replace hk := Lib.hid hk
          go_wp2_with fail
          refine hq.mono ?_
          rintro e w15 ⟨rfl, kq⟩
          clear hq
          replace bM := bM.keep kq
          replace b1 := b1.keep kq
          replace fl := fl.keep kq
          replace kk := kk.trans kq
          clear kq
          have hv := HV.out
          rw [getR_none H256.out (readR_none4 hl HG.out HSH.out HG2.out)] at hv
          cases hv
          go_wp2_with (refine wpList_store_row rfl 32 _ _ rfl B #[.int .i64 0, .int .u32 0, .int .u64 0, .int .u8 0, .int .u64 0, .bool false, .slice none 0 0, .int .i64 0, .int .i64 0, .slice none 0 0] rfl rfl _ _ b1 (by kernel_rfl) rfl (by simp [Value.oneCell']) ?_)
          have og := only_row w15 B #[.int .i64 0, .int .u32 0, .int .u64 0, .int .u8 0, .int .u64 0, .bool false, .slice none 0 0, .int .i64 0, .int .i64 0, .slice none 0 0]
          have hR := b1.row #[.int .i64 0, .int .u32 0, .int .u64 0, .int .u8 0, .int .u64 0, .bool false, .slice none 0 0, .int .i64 0, .int .i64 0, .slice none 0 0]
          have kz := kk.grown og (fun k e => by injection e with e; have := HBQ.out; omega)
          generalize w15.setRow B #[.int .i64 0, .int .u32 0, .int .u64 0, .int .u8 0, .int .u64 0, .bool false, .slice none 0 0, .int .i64 0, .int .i64 0, .slice none 0 0] = wz at hR kz ⊢
          have d0 := hR.cell_ (i := 0) rfl
          have d1 := hR.cell_ (i := 1) rfl
          have d2 := hR.cell_ (i := 2) rfl
          have d3 := hR.cell_ (i := 3) rfl
          have d4 := hR.cell_ (i := 4) rfl
          have d5 := hR.cell_ (i := 5) rfl
          have d6 := hR.cell_ (i := 6) rfl
          have d7 := hR.cell_ (i := 7) rfl
          have d8 := hR.cell_ (i := 8) rfl
          have d9 := hR.cell_ (i := 9) rfl
          refine bodyPost_ret (v := .tuple #[.agg #[.int .i64 0, .int .u32 0, .int .u64 0, .int .u8 0, .int .u64 0, .bool false, .slice none 0 0, .int .i64 0, .int .i64 0, .slice none 0 0], .int .i64 4]) (by simp [results, Tryz.results23, go_sem, d0, d1, d2, d3, d4, d5, d6, d7, d8, d9]) rfl ?_
          exact RGetR.zero kz _
        · have hq := hqB (some ⟨b, off + (23 + (1 + 4 * l.length) + 5), none⟩) (fun e => by simp [Addr.add_lit])
          clear hqB
          have hk' : (c = 23 + (1 + 4 * l.length) + 5) = False := eq_false hk
          go_wp2_with fail
          refine hq.mono ?_
          rintro e w16 ⟨rfl, kq⟩
          clear hq
          replace bM := bM.keep kq
          replace b1 := b1.keep kq
          replace fl := fl.keep kq
          replace kk := kk.trans kq
          clear kq
          have hv := HV.out
          rw [getR_none H256.out (readR_none4 hl HG.out HSH.out HG2.out)] at hv
          cases hv
          go_wp2_with (refine wpList_store_row rfl 32 _ _ rfl B #[.int .i64 0, .int .u32 0, .int .u64 0, .int .u8 0, .int .u64 0, .bool false, .slice none 0 0, .int .i64 0, .int .i64 0, .slice none 0 0] rfl rfl _ _ b1 (by kernel_rfl) rfl (by simp [Value.oneCell']) ?_)
          have og := only_row w16 B #[.int .i64 0, .int .u32 0, .int .u64 0, .int .u8 0, .int .u64 0, .bool false, .slice none 0 0, .int .i64 0, .int .i64 0, .slice none 0 0]
          have hR := b1.row #[.int .i64 0, .int .u32 0, .int .u64 0, .int .u8 0, .int .u64 0, .bool false, .slice none 0 0, .int .i64 0, .int .i64 0, .slice none 0 0]
          have kz := kk.grown og (fun k e => by injection e with e; have := HBQ.out; omega)
          generalize w16.setRow B #[.int .i64 0, .int .u32 0, .int .u64 0, .int .u8 0, .int .u64 0, .bool false, .slice none 0 0, .int .i64 0, .int .i64 0, .slice none 0 0] = wz at hR kz ⊢
          have d0 := hR.cell_ (i := 0) rfl
          have d1 := hR.cell_ (i := 1) rfl
          have d2 := hR.cell_ (i := 2) rfl
          have d3 := hR.cell_ (i := 3) rfl
          have d4 := hR.cell_ (i := 4) rfl
          have d5 := hR.cell_ (i := 5) rfl
          have d6 := hR.cell_ (i := 6) rfl
          have d7 := hR.cell_ (i := 7) rfl
          have d8 := hR.cell_ (i := 8) rfl
          have d9 := hR.cell_ (i := 9) rfl
          refine bodyPost_ret (v := .tuple #[.agg #[.int .i64 0, .int .u32 0, .int .u64 0, .int .u8 0, .int .u64 0, .bool false, .slice none 0 0, .int .i64 0, .int .i64 0, .slice none 0 0], .int .i64 4]) (by simp [results, Tryz.results23, go_sem, d0, d1, d2, d3, d4, d5, d6, d7, d8, d9]) rfl ?_
          exact RGetR.zero kz _
      | some s =>
        have hs2 : 23 + (1 + 4 * l.length) + 5 + 2 + s.length ≤ xs.length := by
          have := (rdB_some (HB.out.drop (23 + (1 + 4 * l.length) + 5)) (rdB_yes hg)).2.2.2.1
          rw [List.length_drop] at this
          omega
        have sB : Bytes s := rdB_bytes (HB.out.drop (23 + (1 + 4 * l.length) + 5)) (rdB_yes hg)
        have HG2 := Lib.hid hg
        have SB := Lib.hid sB
        rw [hg, List.length_drop] at hqB
        simp only at hqB
        have hq := hqB (some ⟨b, off + (23 + (1 + 4 * l.length) + 5), none⟩) (fun _ => by simp [Addr.add_lit])
        clear hg R14 hqB sB
        have hk3 : (c = 23 + (1 + 4 * l.length) + 5) = False := eq_false (by omega)
        go_wp2_with fail
        refine hq.mono ?_
        rintro e w17 ⟨As, ct, rfl, fs, kq⟩
        clear hq
        replace fs := Fr.mono fs kk.size
        replace bM := bM.keep kq
        replace b1 := b1.keep kq
        replace fl := fl.keep kq
        replace kk := kk.trans kq
        clear kq
        have m9 := bM.cell_ (i := 9) rfl
        have fm9 := bM.frozen 9
        go_upto_region 23 with fail
        clear m9 fm9
        replace kk := kk.setCell (p := ⟨B2, 9, none⟩) (by have := HBQ.out; show _ ≤ B2; omega) (.slice As s.length ct)
        replace b1 := b1.far (p := ⟨B2, 9, none⟩) (show B2 ≠ B by omega) (.slice As s.length ct)
        replace fl := fl.setCell (p := ⟨B2, 9, none⟩) (fun k hk => fl.own_ne bM (by decide) k hk) (.slice As s.length ct)
        replace fs := fs.setCell (p := ⟨B2, 9, none⟩) (fun k hk => fs.own_ne bM (by decide) k hk) (.slice As s.length ct)
        have bM' : Blk (w17.setCell ⟨B2, 9, none⟩ (.slice As s.length ct)) B2 32 [.int .i64 a0, .int .u32 n4, .int .u64 n8, .int .u8 a13, .int .u64 m8, .bool hs, .slice Al l.length cl, .int .i64 (-1), .int .i64 pn, .slice As s.length ct] := bM.set_ 9 (.slice As s.length ct)
        clear bM
        have bM := bM'
        clear bM'
        generalize w17.setCell ⟨B2, 9, none⟩ (.slice As s.length ct) = w18 at kk b1 bM fl fs ⊢
        obtain ⟨G, hG⟩ : ∃ G : RV, G = ⟨a0, n4, n8, a13, m8, hs, l, -1, pn, s⟩ := ⟨_, rfl⟩
        have e1 := readR_yes hl Y0.out Y13.out Y22.out HG.out HSH.out YI.out HG2.out
        simp only [Int.toNat_natCast] at e1
        rw [← Vn4.out, ← Vn8.out, ← Vm8.out, ← VPN.out, ← ZH.out, HIV.out, ← hG] at e1
        obtain ⟨rest, e1⟩ := e1
        have e2 := getR_ref HB.out e1 H256.out (by rw [hG]; exact ln4) (by rw [hG]; exact ln8)
        have ok := fun v (p4 : Fr 3 v w.heap.size Al l.length cl (cs .i64 l)) (p5 : Fr 5 v w.heap.size As s.length ct (cs .u8 s)) => (show (Rpl.mk ⟨a0, n4, n8, a13, m8, hs, l, -1, pn, s⟩ Al cl As ct).Ok v from ⟨⟨⟨p4.rd, p4.cap, p4.capMax, wf_low LLow.out⟩, fun h => p4.capNil h⟩, ⟨⟨p5.rd, p5.cap, p5.capMax, wf_bytes SB.out⟩, fun h => p5.capNil h⟩, WalkArith.wf_i64 (by show -9223372036854775808 ≤ (a0 : Int) ∧ (a0 : Int) ≤ 9223372036854775807; omega), ln4, ln8, by show a13 < 256; omega, lm8, (show (Lit.int .i64 (-1)).wf = true by decide), WalkArith.wf_i64 (by show -9223372036854775808 ≤ (pn : Int) ∧ (pn : Int) ≤ 9223372036854775807; omega)⟩)
        have hok := ok w18 fl fs
        have OK := Lib.hid ok
        clear e1 ok
        have mc0 := bM.cell_ (i := 0) rfl
        have mc1 := bM.cell_ (i := 1) rfl
        have mc2 := bM.cell_ (i := 2) rfl
        have mc3 := bM.cell_ (i := 3) rfl
        have mc4 := bM.cell_ (i := 4) rfl
        have mc5 := bM.cell_ (i := 5) rfl
        have mc6 := bM.cell_ (i := 6) rfl
        have mc7 := bM.cell_ (i := 7) rfl
        have mc8 := bM.cell_ (i := 8) rfl
        have mc9 := bM.cell_ (i := 9) rfl
        cases hmay : mayR G with
        | false =>
          have hp : putRV ⟨a0, n4, n8, a13, m8, hs, l, -1, pn, s⟩ = ([], 1) := by rw [← hG]; unfold putRV; rw [hmay]; rfl
          rw [if_neg (fun q => by rw [hmay] at q; cases q.1)] at e2
          have E2 := Lib.hid e2
          have hq := refPutR_f (Rpl.mk ⟨a0, n4, n8, a13, m8, hs, l, -1, pn, s⟩ Al cl As ct) w18 hok hp
          unfold Rpl.val at hq
          simp only at hq
          clear e2 hp hmay hG hok
          go_wp2_with fail
          refine hq.mono ?_
          rintro e w19 ⟨A6, c6, rfl, -, kq⟩
          clear hq mc0 mc1 mc2 mc3 mc4 mc5 mc6 mc7 mc8 mc9
          replace bM := bM.keep kq
          replace b1 := b1.keep kq
          replace fl := fl.keep kq
          replace fs := fs.keep kq
          replace kk := kk.trans kq
          clear kq
          have hv := HV.out
          rw [E2.out] at hv
          cases hv
          go_wp2_with (refine wpList_store_row rfl 32 _ _ rfl B #[.int .i64 0, .int .u32 0, .int .u64 0, .int .u8 0, .int .u64 0, .bool false, .slice none 0 0, .int .i64 0, .int .i64 0, .slice none 0 0] rfl rfl _ _ b1 (by kernel_rfl) rfl (by simp [Value.oneCell']) ?_)
          have og := only_row w19 B #[.int .i64 0, .int .u32 0, .int .u64 0, .int .u8 0, .int .u64 0, .bool false, .slice none 0 0, .int .i64 0, .int .i64 0, .slice none 0 0]
          have hR := b1.row #[.int .i64 0, .int .u32 0, .int .u64 0, .int .u8 0, .int .u64 0, .bool false, .slice none 0 0, .int .i64 0, .int .i64 0, .slice none 0 0]
          have kz := kk.grown og (fun k e => by injection e with e; have := HBQ.out; omega)
          generalize w19.setRow B #[.int .i64 0, .int .u32 0, .int .u64 0, .int .u8 0, .int .u64 0, .bool false, .slice none 0 0, .int .i64 0, .int .i64 0, .slice none 0 0] = wz at hR kz ⊢
          have d0 := hR.cell_ (i := 0) rfl
          have d1 := hR.cell_ (i := 1) rfl
          have d2 := hR.cell_ (i := 2) rfl
          have d3 := hR.cell_ (i := 3) rfl
          have d4 := hR.cell_ (i := 4) rfl
          have d5 := hR.cell_ (i := 5) rfl
          have d6 := hR.cell_ (i := 6) rfl
          have d7 := hR.cell_ (i := 7) rfl
          have d8 := hR.cell_ (i := 8) rfl
          have d9 := hR.cell_ (i := 9) rfl
          refine bodyPost_ret (v := .tuple #[.agg #[.int .i64 0, .int .u32 0, .int .u64 0, .int .u8 0, .int .u64 0, .bool false, .slice none 0 0, .int .i64 0, .int .i64 0, .slice none 0 0], .int .i64 4]) (by simp [results, Tryz.results23, go_sem, d0, d1, d2, d3, d4, d5, d6, d7, d8, d9]) rfl ?_
          exact RGetR.zero kz _
        | true =>
          have hp : putRV ⟨a0, n4, n8, a13, m8, hs, l, -1, pn, s⟩ = (bytesR G, 0) := by rw [← hG]; unfold putRV; rw [if_pos hmay]
          have hLb : Bytes (bytesR G) := bytes_bytesR (by rw [hG]; exact SB.out)
          have hLn : 0 < (bytesR G).length := by rw [length_bytesR]; omega
          have hst := str_eq hLb HB.out
          obtain ⟨L, hL⟩ : ∃ L, L = bytesR G := ⟨_, rfl⟩
          rw [← hL] at hp hLn hst e2
          have hq := refPutR_f (Rpl.mk ⟨a0, n4, n8, a13, m8, hs, l, -1, pn, s⟩ Al cl As ct) w18 hok hp
          unfold Rpl.val at hq
          simp only at hq
          have FE := Lib.hid hG
          have HM := Lib.hid hmay
          clear hp hmay hG hL hok hLb
          go_wp2_with fail
          refine hq.mono ?_
          rintro e w20 ⟨A6, c6, rfl, f6, kq⟩
          clear hq mc0 mc1 mc2 mc3 mc4 mc5 mc6 mc7 mc8 mc9
          replace bM := bM.keep kq
          replace b1 := b1.keep kq
          replace fl := fl.keep kq
          replace fs := fs.keep kq
          replace kk := kk.trans kq
          clear kq
          have v1 := conv_strc (c := c6) f6.rd hLn
          have v2 := conv_strc (c := c) (rd.keep kk) (by omega)
          generalize strOfNums L = S1 at v1 hst
          generalize strOfNums xs = S2 at v2 hst
          clear f6
          have mc0 := bM.cell_ (i := 0) rfl
          have mc1 := bM.cell_ (i := 1) rfl
          have mc2 := bM.cell_ (i := 2) rfl
          have mc3 := bM.cell_ (i := 3) rfl
          have mc4 := bM.cell_ (i := 4) rfl
          have mc5 := bM.cell_ (i := 5) rfl
          have mc6 := bM.cell_ (i := 6) rfl
          have mc7 := bM.cell_ (i := 7) rfl
          have mc8 := bM.cell_ (i := 8) rfl
          have mc9 := bM.cell_ (i := 9) rfl
          by_cases hx : L = xs
          · rw [decide_eq_true hx] at hst
            rw [if_pos ⟨HM.out, hx⟩] at e2
            have E2 := Lib.hid e2
            clear e2 hx
            go_wp2_with (refine wpList_store_row rfl 32 _ _ rfl B #[.int .i64 a0, .int .u32 n4, .int .u64 n8, .int .u8 a13, .int .u64 m8, .bool hs, .slice Al l.length cl, .int .i64 (-1), .int .i64 pn, .slice As s.length ct] rfl rfl _ _ b1 (by kernel_rfl) rfl (by simp [Value.oneCell']) ?_)
            have og := only_row w20 B #[.int .i64 a0, .int .u32 n4, .int .u64 n8, .int .u8 a13, .int .u64 m8, .bool hs, .slice Al l.length cl, .int .i64 (-1), .int .i64 pn, .slice As s.length ct]
            have hR := b1.row #[.int .i64 a0, .int .u32 n4, .int .u64 n8, .int .u8 a13, .int .u64 m8, .bool hs, .slice Al l.length cl, .int .i64 (-1), .int .i64 pn, .slice As s.length ct]
            have p4 := fl.grown og (fun k hk e => by injection e with e; exact fl.own_ne b1 (by decide) k hk e)
            have p5 := fs.grown og (fun k hk e => by injection e with e; exact fs.own_ne b1 (by decide) k hk e)
            have kz := kk.grown og (fun k e => by injection e with e; have := HBQ.out; omega)
            generalize w20.setRow B #[.int .i64 a0, .int .u32 n4, .int .u64 n8, .int .u8 a13, .int .u64 m8, .bool hs, .slice Al l.length cl, .int .i64 (-1), .int .i64 pn, .slice As s.length ct] = wz at hR p4 p5 kz ⊢
            have d0 := hR.cell_ (i := 0) rfl
            have d1 := hR.cell_ (i := 1) rfl
            have d2 := hR.cell_ (i := 2) rfl
            have d3 := hR.cell_ (i := 3) rfl
            have d4 := hR.cell_ (i := 4) rfl
            have d5 := hR.cell_ (i := 5) rfl
            have d6 := hR.cell_ (i := 6) rfl
            have d7 := hR.cell_ (i := 7) rfl
            have d8 := hR.cell_ (i := 8) rfl
            have d9 := hR.cell_ (i := 9) rfl
            refine bodyPost_ret (v := .tuple #[.agg #[.int .i64 a0, .int .u32 n4, .int .u64 n8, .int .u8 a13, .int .u64 m8, .bool hs, .slice Al l.length cl, .int .i64 (-1), .int .i64 pn, .slice As s.length ct], .int .i64 0]) (by simp [results, Tryz.results23, go_sem, d0, d1, d2, d3, d4, d5, d6, d7, d8, d9]) rfl ?_
            have hv := HV.out
            rw [E2.out, FE.out] at hv
            cases hv
            exact ⟨Al, cl, As, ct, rfl, OK.out _ p4 p5, kz⟩
          · rw [decide_eq_false hx] at hst
            rw [if_neg (fun q => hx q.2)] at e2
            have E2 := Lib.hid e2
            clear e2 hx
            have hv := HV.out
            rw [E2.out] at hv
            cases hv
            go_wp2_with (refine wpList_store_row rfl 32 _ _ rfl B #[.int .i64 0, .int .u32 0, .int .u64 0, .int .u8 0, .int .u64 0, .bool false, .slice none 0 0, .int .i64 0, .int .i64 0, .slice none 0 0] rfl rfl _ _ b1 (by kernel_rfl) rfl (by simp [Value.oneCell']) ?_)
            have og := only_row w20 B #[.int .i64 0, .int .u32 0, .int .u64 0, .int .u8 0, .int .u64 0, .bool false, .slice none 0 0, .int .i64 0, .int .i64 0, .slice none 0 0]
            have hR := b1.row #[.int .i64 0, .int .u32 0, .int .u64 0, .int .u8 0, .int .u64 0, .bool false, .slice none 0 0, .int .i64 0, .int .i64 0, .slice none 0 0]
            have kz := kk.grown og (fun k e => by injection e with e; have := HBQ.out; omega)
            generalize w20.setRow B #[.int .i64 0, .int .u32 0, .int .u64 0, .int .u8 0, .int .u64 0, .bool false, .slice none 0 0, .int .i64 0, .int .i64 0, .slice none 0 0] = wz at hR kz ⊢
            have d0 := hR.cell_ (i := 0) rfl
            have d1 := hR.cell_ (i := 1) rfl
            have d2 := hR.cell_ (i := 2) rfl
            have d3 := hR.cell_ (i := 3) rfl
            have d4 := hR.cell_ (i := 4) rfl
            have d5 := hR.cell_ (i := 5) rfl
            have d6 := hR.cell_ (i := 6) rfl
            have d7 := hR.cell_ (i := 7) rfl
            have d8 := hR.cell_ (i := 8) rfl
            have d9 := hR.cell_ (i := 9) rfl
            refine bodyPost_ret (v := .tuple #[.agg #[.int .i64 0, .int .u32 0, .int .u64 0, .int .u8 0, .int .u64 0, .bool false, .slice none 0 0, .int .i64 0, .int .i64 0, .slice none 0 0], .int .i64 4]) (by simp [results, Tryz.results23, go_sem, d0, d1, d2, d3, d4, d5, d6, d7, d8, d9]) rfl ?_
            exact RGetR.zero kz _
    · have q1 : ((ai : Int) == 255) = false := beq_false_of_ne (by omega)
      have q2 : ((ai : Int) != 255) = true := by simp only [bne, q1, Bool.not_false]
      have hiv : itemV ai = ai := by unfold itemV; rw [if_neg h255]
      have HIV := Lib.hid hiv
      replace h255 := Lib.hid h255
      clear hiv
      have m := bM.cell_ (i := 7) rfl
      have fm := bM.frozen 7
      go_upto_region 17 with fail
      clear ci q1 q2 m fm
      replace kk := kk.setCell (p := ⟨B2, 7, none⟩) (by have := HBQ.out; show _ ≤ B2; omega) (.int .i64 ai)
      replace b1 := b1.far (p := ⟨B2, 7, none⟩) (show B2 ≠ B by omega) (.int .i64 ai)
      replace fl := fl.setCell (p := ⟨B2, 7, none⟩) (fun k hk => fl.own_ne bM (by decide) k hk) (.int .i64 ai)
      have bM' : Blk (w12.setCell ⟨B2, 7, none⟩ (.int .i64 ai)) B2 32 [.int .i64 a0, .int .u32 n4, .int .u64 n8, .int .u8 a13, .int .u64 m8, .bool hs, .slice Al l.length cl, .int .i64 ai, .int .i64 0, .slice none 0 0] := bM.set_ 7 (.int .i64 ai)
      clear bM
      have bM := bM'
      clear bM'
      generalize w12.setCell ⟨B2, 7, none⟩ (.int .i64 ai) = w21 at kk b1 bM fl ⊢
      obtain ⟨pn, hpn⟩ : ∃ n, n = val ((xs.drop (23 + (1 + 4 * l.length) + 1)).take 4) := ⟨_, rfl⟩
      have lpn : pn < 4294967296 := by
        have := val_lt ((HB.out.drop (23 + (1 + 4 * l.length) + 1)).take 4)
        rw [List.length_take, List.length_drop, Nat.min_eq_left (by omega)] at this
        rw [hpn]
        simpa using this
      have Gpn : getV (xs.drop (23 + (1 + 4 * l.length) + 1)) 4 = (pn, 0) := by rw [getV, if_neg (by omega), if_neg (by rw [List.length_drop]; omega), hpn]; rfl
      have VPN := Lib.hid hpn
      have kpn : (c = 23 + (1 + 4 * l.length) + 1) = False := eq_false (by omega)
      clear hpn
      have zpn : IntKind.i64.wrap (pn : Int) = pn := wrapI64 lpn
      have rd2 := (rd.keep kk).from_ (k := (23 + (1 + 4 * l.length) + 1)) hc (some ⟨b, off + (23 + (1 + 4 * l.length) + 1), none⟩) (fun _ => by simp [Addr.add_lit])
      have hq := refGet_f _ (c - (23 + (1 + 4 * l.length) + 1)) (xs.drop (23 + (1 + 4 * l.length) + 1)) 4 w21 rd2 (HB.out.drop (23 + (1 + 4 * l.length) + 1)) (by rw [List.length_drop]; omega) (by unfold Len at lc ⊢; omega) (by omega)
      unfold GetP at hq
      rw [Gpn, List.length_drop] at hq
      go_wp2_with fail
      refine hq.mono ?_
      rintro e w22 ⟨rfl, kq⟩
      clear hq rd2
      replace bM := bM.keep kq
      replace b1 := b1.keep kq
      replace fl := fl.keep kq
      replace kk := kk.trans kq
      clear kq
      have m := bM.cell_ (i := 8) rfl
      have fm := bM.frozen 8
      go_upto_region 19 with fail
      clear m fm
      replace kk := kk.setCell (p := ⟨B2, 8, none⟩) (by have := HBQ.out; show _ ≤ B2; omega) (.int .i64 pn)
      replace b1 := b1.far (p := ⟨B2, 8, none⟩) (show B2 ≠ B by omega) (.int .i64 pn)
      replace fl := fl.setCell (p := ⟨B2, 8, none⟩) (fun k hk => fl.own_ne bM (by decide) k hk) (.int .i64 pn)
      have bM' : Blk (w22.setCell ⟨B2, 8, none⟩ (.int .i64 pn)) B2 32 [.int .i64 a0, .int .u32 n4, .int .u64 n8, .int .u8 a13, .int .u64 m8, .bool hs, .slice Al l.length cl, .int .i64 ai, .int .i64 pn, .slice none 0 0] := bM.set_ 8 (.int .i64 pn)
      clear bM
      have bM := bM'
      clear bM'
      generalize w22.setCell ⟨B2, 8, none⟩ (.int .i64 pn) = w23 at kk b1 bM fl ⊢
      have R14 := fun A' hA => (rd.keep kk).from_ (k := 23 + (1 + 4 * l.length) + 5) hc A' hA
      have hqB := fun A' hA => refGetBytes_o A' (c - (23 + (1 + 4 * l.length) + 5)) (xs.drop (23 + (1 + 4 * l.length) + 5)) w23 (R14 A' hA) (HB.out.drop (23 + (1 + 4 * l.length) + 5)) (by rw [List.length_drop]; omega) (by unfold Len at lc ⊢; omega)
      unfold RefByO at hqB
      cases hg : getBy (xs.drop (23 + (1 + 4 * l.length) + 5)) with
      | none =>
        have HG2 := Lib.hid hg
        rw [hg, List.length_drop] at hqB
        simp only at hqB
        clear hg R14
        by_cases hk : c = 23 + (1 + 4 * l.length) + 5
        · have hq := hqB (some ⟨b, off, none⟩) (fun e => absurd hk e)
          clear hqB
          have hk' : (c = 23 + (1 + 4 * l.length) + 5) = True := eq_true hk
          rw [show c - (23 + (1 + 4 * l.length) + 5) = 0 by omega] at hq
          replace hk := Lib.hid hk
          go_wp2_with fail
          refine hq.mono ?_
          rintro e w24 ⟨rfl, kq⟩
          clear hq
          replace bM := bM.keep kq
          replace b1 := b1.keep kq
          replace fl := fl.keep kq
          replace kk := kk.trans kq
          clear kq
          have hv := HV.out
          rw [getR_none H256.out (readR_none4 hl HG.out HSH.out HG2.out)] at hv
          cases hv
          go_wp2_with (refine wpList_store_row rfl 32 _ _ rfl B #[.int .i64 0, .int .u32 0, .int .u64 0, .int .u8 0, .int .u64 0, .bool false, .slice none 0 0, .int .i64 0, .int .i64 0, .slice none 0 0] rfl rfl _ _ b1 (by kernel_rfl) rfl (by simp [Value.oneCell']) ?_)
          have og := only_row w24 B #[.int .i64 0, .int .u32 0, .int .u64 0, .int .u8 0, .int .u64 0, .bool false, .slice none 0 0, .int .i64 0, .int .i64 0, .slice none 0 0]
          have hR := b1.row #[.int .i64 0, .int .u32 0, .int .u64 0, .int .u8 0, .int .u64 0, .bool false, .slice none 0 0, .int .i64 0, .int .i64 0, .slice none 0 0]
          have kz := kk.grown og (fun k e => by injection e with e; have := HBQ.out; omega)
          generalize w24.setRow B #[.int .i64 0, .int .u32 0, .int .u64 0, .int .u8 0, .int .u64 0, .bool false, .slice none 0 0, .int .i64 0, .int .i64 0, .slice none 0 0] = wz at hR kz ⊢
          have d0 := hR.cell_ (i := 0) rfl
          have d1 := hR.cell_ (i := 1) rfl
          have d2 := hR.cell_ (i := 2) rfl
          have d3 := hR.cell_ (i := 3) rfl
          have d4 := hR.cell_ (i := 4) rfl
          have d5 := hR.cell_ (i := 5) rfl
          have d6 := hR.cell_ (i := 6) rfl
          have d7 := hR.cell_ (i := 7) rfl
          have d8 := hR.cell_ (i := 8) rfl
          have d9 := hR.cell_ (i := 9) rfl
          refine bodyPost_ret (v := .tuple #[.agg #[.int .i64 0, .int .u32 0, .int .u64 0, .int .u8 0, .int .u64 0, .bool false, .slice none 0 0, .int .i64 0, .int .i64 0, .slice none 0 0], .int .i64 4]) (by simp [results, Tryz.results23, go_sem, d0, d1, d2, d3, d4, d5, d6, d7, d8, d9]) rfl ?_
          exact RGetR.zero kz _
        · have hq := hqB (some ⟨b, off + (23 + (1 + 4 * l.length) + 5), none⟩) (fun e => by simp [Addr.add_lit])
          clear hqB
          have hk' : (c = 23 + (1 + 4 * l.length) + 5) = False := eq_false hk
          go_wp2_with fail
          refine hq.mono ?_
          rintro e w25 ⟨rfl, kq⟩
          clear hq
          replace bM := bM.keep kq
          replace b1 := b1.keep kq
          replace fl := fl.keep kq
          replace kk := kk.trans kq
          clear kq
          have hv := HV.out
          rw [getR_none H256.out (readR_none4 hl HG.out HSH.out HG2.out)] at hv
          cases hv
          go_wp2_with (refine wpList_store_row rfl 32 _ _ rfl B #[.int .i64 0, .int .u32 0, .int .u64 0, .int .u8 0, .int .u64 0, .bool false, .slice none 0 0, .int .i64 0, .int .i64 0, .slice none 0 0] rfl rfl _ _ b1 (by kernel_rfl) rfl (by simp [Value.oneCell']) ?_)
          have og := only_row w25 B #[.int .i64 0, .int .u32 0, .int .u64 0, .int .u8 0, .int .u64 0, .bool false, .slice none 0 0, .int .i64 0, .int .i64 0, .slice none 0 0]
          have hR := b1.row #[.int .i64 0, .int .u32 0, .int .u64 0, .int .u8 0, .int .u64 0, .bool false, .slice none 0 0, .int .i64 0, .int .i64 0, .slice none 0 0]
          have kz := kk.grown og (fun k e => by injection e with e; have := HBQ.out; omega)
          generalize w25.setRow B #[.int .i64 0, .int .u32 0, .int .u64 0, .int .u8 0, .int .u64 0, .bool false, .slice none 0 0, .int .i64 0, .int .i64 0, .slice none 0 0] = wz at hR kz ⊢
          have d0 := hR.cell_ (i := 0) rfl
          have d1 := hR.cell_ (i := 1) rfl
          have d2 := hR.cell_ (i := 2) rfl
          have d3 := hR.cell_ (i := 3) rfl
          have d4 := hR.cell_ (i := 4) rfl
          have d5 := hR.cell_ (i := 5) rfl
          have d6 := hR.cell_ (i := 6) rfl
          have d7 := hR.cell_ (i := 7) rfl
          have d8 := hR.cell_ (i := 8) rfl
          have d9 := hR.cell_ (i := 9) rfl
          refine bodyPost_ret (v := .tuple #[.agg #[.int .i64 0, .int .u32 0, .int .u64 0, .int .u8 0, .int .u64 0, .bool false, .slice none 0 0, .int .i64 0, .int .i64 0, .slice none 0 0], .int .i64 4]) (by simp [results, Tryz.results23, go_sem, d0, d1, d2, d3, d4, d5, d6, d7, d8, d9]) rfl ?_
          exact RGetR.zero kz _
      | some s =>
        have hs2 : 23 + (1 + 4 * l.length) + 5 + 2 + s.length ≤ xs.length := by
          have := (rdB_some (HB.out.drop (23 + (1 + 4 * l.length) + 5)) (rdB_yes hg)).2.2.2.1
          rw [List.length_drop] at this
          omega
        have sB : Bytes s := rdB_bytes (HB.out.drop (23 + (1 + 4 * l.length) + 5)) (rdB_yes hg)
        have HG2 := Lib.hid hg
        have SB := Lib.hid sB
        rw [hg, List.length_drop] at hqB
        simp only at hqB
        have hq := hqB (some ⟨b, off + (23 + (1 + 4 * l.length) + 5), none⟩) (fun _ => by simp [Addr.add_lit])
        clear hg R14 hqB sB
        have hk3 : (c = 23 + (1 + 4 * l.length) + 5) = False := eq_false (by omega)
        go_wp2_with fail
        refine hq.mono ?_
        rintro e w26 ⟨As, ct, rfl, fs, kq⟩
        clear hq
        replace fs := Fr.mono fs kk.size
        replace bM := bM.keep kq
        replace b1 := b1.keep kq
        replace fl := fl.keep kq
        replace kk := kk.trans kq
        clear kq
        have m9 := bM.cell_ (i := 9) rfl
        have fm9 := bM.frozen 9
        go_upto_region 23 with fail
        clear m9 fm9
        replace kk := kk.setCell (p := ⟨B2, 9, none⟩) (by have := HBQ.out; show _ ≤ B2; omega) (.slice As s.length ct)
        replace b1 := b1.far (p := ⟨B2, 9, none⟩) (show B2 ≠ B by omega) (.slice As s.length ct)
        replace fl := fl.setCell (p := ⟨B2, 9, none⟩) (fun k hk => fl.own_ne bM (by decide) k hk) (.slice As s.length ct)
        replace fs := fs.setCell (p := ⟨B2, 9, none⟩) (fun k hk => fs.own_ne bM (by decide) k hk) (.slice As s.length ct)
        have bM' : Blk (w26.setCell ⟨B2, 9, none⟩ (.slice As s.length ct)) B2 32 [.int .i64 a0, .int .u32 n4, .int .u64 n8, .int .u8 a13, .int .u64 m8, .bool hs, .slice Al l.length cl, .int .i64 ai, .int .i64 pn, .slice As s.length ct] := bM.set_ 9 (.slice As s.length ct)
        clear bM
        have bM := bM'
        clear bM'
        generalize w26.setCell ⟨B2, 9, none⟩ (.slice As s.length ct) = w27 at kk b1 bM fl fs ⊢
        obtain ⟨G, hG⟩ : ∃ G : RV, G = ⟨a0, n4, n8, a13, m8, hs, l, (ai : Int), pn, s⟩ := ⟨_, rfl⟩
        have e1 := readR_yes hl Y0.out Y13.out Y22.out HG.out HSH.out YI.out HG2.out
        simp only [Int.toNat_natCast] at e1
        rw [← Vn4.out, ← Vn8.out, ← Vm8.out, ← VPN.out, ← ZH.out, HIV.out, ← hG] at e1
        obtain ⟨rest, e1⟩ := e1
        have e2 := getR_ref HB.out e1 H256.out (by rw [hG]; exact ln4) (by rw [hG]; exact ln8)
        have ok := fun v (p4 : Fr 3 v w.heap.size Al l.length cl (cs .i64 l)) (p5 : Fr 5 v w.heap.size As s.length ct (cs .u8 s)) => (show (Rpl.mk ⟨a0, n4, n8, a13, m8, hs, l, (ai : Int), pn, s⟩ Al cl As ct).Ok v from ⟨⟨⟨p4.rd, p4.cap, p4.capMax, wf_low LLow.out⟩, fun h => p4.capNil h⟩, ⟨⟨p5.rd, p5.cap, p5.capMax, wf_bytes SB.out⟩, fun h => p5.capNil h⟩, WalkArith.wf_i64 (by show -9223372036854775808 ≤ (a0 : Int) ∧ (a0 : Int) ≤ 9223372036854775807; omega), ln4, ln8, by show a13 < 256; omega, lm8, WalkArith.wf_i64 (by show -9223372036854775808 ≤ (ai : Int) ∧ (ai : Int) ≤ 9223372036854775807; omega), WalkArith.wf_i64 (by show -9223372036854775808 ≤ (pn : Int) ∧ (pn : Int) ≤ 9223372036854775807; omega)⟩)
        have hok := ok w27 fl fs
        have OK := Lib.hid ok
        clear e1 ok
        have mc0 := bM.cell_ (i := 0) rfl
        have mc1 := bM.cell_ (i := 1) rfl
        have mc2 := bM.cell_ (i := 2) rfl
        have mc3 := bM.cell_ (i := 3) rfl
        have mc4 := bM.cell_ (i := 4) rfl
        have mc5 := bM.cell_ (i := 5) rfl
        have mc6 := bM.cell_ (i := 6) rfl
        have mc7 := bM.cell_ (i := 7) rfl
        have mc8 := bM.cell_ (i := 8) rfl
        have mc9 := bM.cell_ (i := 9) rfl
        cases hmay : mayR G with
        | false =>
          have hp : putRV ⟨a0, n4, n8, a13, m8, hs, l, (ai : Int), pn, s⟩ = ([], 1) := by rw [← hG]; unfold putRV; rw [hmay]; rfl
          rw [if_neg (fun q => by rw [hmay] at q; cases q.1)] at e2
          have E2 := Lib.hid e2
          have hq := refPutR_f (Rpl.mk ⟨a0, n4, n8, a13, m8, hs, l, (ai : Int), pn, s⟩ Al cl As ct) w27 hok hp
          unfold Rpl.val at hq
          simp only at hq
          clear e2 hp hmay hG hok
          go_wp2_with fail
          refine hq.mono ?_
          rintro e w28 ⟨A6, c6, rfl, -, kq⟩
          clear hq mc0 mc1 mc2 mc3 mc4 mc5 mc6 mc7 mc8 mc9
          replace bM := bM.keep kq
          replace b1 := b1.keep kq
          replace fl := fl.keep kq
          replace fs := fs.keep kq
          replace kk := kk.trans kq
          clear kq
          have hv := HV.out
          rw [E2.out] at hv
          cases hv
          go_wp2_with (refine wpList_store_row rfl 32 _ _ rfl B #[.int .i64 0, .int .u32 0, .int .u64 0, .int .u8 0, .int .u64 0, .bool false, .slice none 0 0, .int .i64 0, .int .i64 0, .slice none 0 0] rfl rfl _ _ b1 (by kernel_rfl) rfl (by simp [Value.oneCell']) ?_)
          have og := only_row w28 B #[.int .i64 0, .int .u32 0, .int .u64 0, .int .u8 0, .int .u64 0, .bool false, .slice none 0 0, .int .i64 0, .int .i64 0, .slice none 0 0]
          have hR := b1.row #[.int .i64 0, .int .u32 0, .int .u64 0, .int .u8 0, .int .u64 0, .bool false, .slice none 0 0, .int .i64 0, .int .i64 0, .slice none 0 0]
          have kz := kk.grown og (fun k e => by injection e with e; have := HBQ.out; omega)
          generalize w28.setRow B #[.int .i64 0, .int .u32 0, .int .u64 0, .int .u8 0, .int .u64 0, .bool false, .slice none 0 0, .int .i64 0, .int .i64 0, .slice none 0 0] = wz at hR kz ⊢
          have d0 := hR.cell_ (i := 0) rfl
          have d1 := hR.cell_ (i := 1) rfl
          have d2 := hR.cell_ (i := 2) rfl
          have d3 := hR.cell_ (i := 3) rfl
          have d4 := hR.cell_ (i := 4) rfl
          have d5 := hR.cell_ (i := 5) rfl
          have d6 := hR.cell_ (i := 6) rfl
          have d7 := hR.cell_ (i := 7) rfl
          have d8 := hR.cell_ (i := 8) rfl
          have d9 := hR.cell_ (i := 9) rfl
          refine bodyPost_ret (v := .tuple #[.agg #[.int .i64 0, .int .u32 0, .int .u64 0, .int .u8 0, .int .u64 0, .bool false, .slice none 0 0, .int .i64 0, .int .i64 0, .slice none 0 0], .int .i64 4]) (by simp [results, Tryz.results23, go_sem, d0, d1, d2, d3, d4, d5, d6, d7, d8, d9]) rfl ?_
          exact RGetR.zero kz _
        | true =>
          have hp : putRV ⟨a0, n4, n8, a13, m8, hs, l, (ai : Int), pn, s⟩ = (bytesR G, 0) := by rw [← hG]; unfold putRV; rw [if_pos hmay]
          have hLb : Bytes (bytesR G) := bytes_bytesR (by rw [hG]; exact SB.out)
          have hLn : 0 < (bytesR G).length := by rw [length_bytesR]; omega
          have hst := str_eq hLb HB.out
          obtain ⟨L, hL⟩ : ∃ L, L = bytesR G := ⟨_, rfl⟩
          rw [← hL] at hp hLn hst e2
          have hq := refPutR_f (Rpl.mk ⟨a0, n4, n8, a13, m8, hs, l, (ai : Int), pn, s⟩ Al cl As ct) w27 hok hp
          unfold Rpl.val at hq
          simp only at hq
          have FE := Lib.hid hG
          have HM := Lib.hid hmay
          clear hp hmay hG hL hok hLb
          go_wp2_with fail
          refine hq.mono ?_
          rintro e w29 ⟨A6, c6, rfl, f6, kq⟩
          clear hq mc0 mc1 mc2 mc3 mc4 mc5 mc6 mc7 mc8 mc9
          replace bM := bM.keep kq
          replace b1 := b1.keep kq
          replace fl := fl.keep kq
          replace fs := fs.keep kq
          replace kk := kk.trans kq
          clear kq
          have v1 := conv_strc (c := c6) f6.rd hLn
          have v2 := conv_strc (c := c) (rd.keep kk) (by omega)
          generalize strOfNums L = S1 at v1 hst
          generalize strOfNums xs = S2 at v2 hst
          clear f6
          have mc0 := bM.cell_ (i := 0) rfl
          have mc1 := bM.cell_ (i := 1) rfl
          have mc2 := bM.cell_ (i := 2) rfl
          have mc3 := bM.cell_ (i := 3) rfl
          have mc4 := bM.cell_ (i := 4) rfl
          have mc5 := bM.cell_ (i := 5) rfl
          have mc6 := bM.cell_ (i := 6) rfl
          have mc7 := bM.cell_ (i := 7) rfl
          have mc8 := bM.cell_ (i := 8) rfl
          have mc9 := bM.cell_ (i := 9) rfl
          by_cases hx : L = xs
          · rw [decide_eq_true hx] at hst
            rw [if_pos ⟨HM.out, hx⟩] at e2
            have E2 := Lib.hid e2
            clear e2 hx
            go_wp2_with (refine wpList_store_row rfl 32 _ _ rfl B #[.int .i64 a0, .int .u32 n4, .int .u64 n8, .int .u8 a13, .int .u64 m8, .bool hs, .slice Al l.length cl, .int .i64 ai, .int .i64 pn, .slice As s.length ct] rfl rfl _ _ b1 (by kernel_rfl) rfl (by simp [Value.oneCell']) ?_)
            have og := only_row w29 B #[.int .i64 a0, .int .u32 n4, .int .u64 n8, .int .u8 a13, .int .u64 m8, .bool hs, .slice Al l.length cl, .int .i64 ai, .int .i64 pn, .slice As s.length ct]
            have hR := b1.row #[.int .i64 a0, .int .u32 n4, .int .u64 n8, .int .u8 a13, .int .u64 m8, .bool hs, .slice Al l.length cl, .int .i64 ai, .int .i64 pn, .slice As s.length ct]
            have p4 := fl.grown og (fun k hk e => by injection e with e; exact fl.own_ne b1 (by decide) k hk e)
            have p5 := fs.grown og (fun k hk e => by injection e with e; exact fs.own_ne b1 (by decide) k hk e)
            have kz := kk.grown og (fun k e => by injection e with e; have := HBQ.out; omega)
            generalize w29.setRow B #[.int .i64 a0, .int .u32 n4, .int .u64 n8, .int .u8 a13, .int .u64 m8, .bool hs, .slice Al l.length cl, .int .i64 ai, .int .i64 pn, .slice As s.length ct] = wz at hR p4 p5 kz ⊢
            have d0 := hR.cell_ (i := 0) rfl
            have d1 := hR.cell_ (i := 1) rfl
            have d2 := hR.cell_ (i := 2) rfl
            have d3 := hR.cell_ (i := 3) rfl
            have d4 := hR.cell_ (i := 4) rfl
            have d5 := hR.cell_ (i := 5) rfl
            have d6 := hR.cell_ (i := 6) rfl
            have d7 := hR.cell_ (i := 7) rfl
            have d8 := hR.cell_ (i := 8) rfl
            have d9 := hR.cell_ (i := 9) rfl
            refine bodyPost_ret (v := .tuple #[.agg #[.int .i64 a0, .int .u32 n4, .int .u64 n8, .int .u8 a13, .int .u64 m8, .bool hs, .slice Al l.length cl, .int .i64 ai, .int .i64 pn, .slice As s.length ct], .int .i64 0]) (by simp [results, Tryz.results23, go_sem, d0, d1, d2, d3, d4, d5, d6, d7, d8, d9]) rfl ?_
            have hv := HV.out
            rw [E2.out, FE.out] at hv
            cases hv
            exact ⟨Al, cl, As, ct, rfl, OK.out _ p4 p5, kz⟩
          · rw [decide_eq_false hx] at hst
            rw [if_neg (fun q => hx q.2)] at e2
            have E2 := Lib.hid e2
            clear e2 hx
            have hv := HV.out
            rw [E2.out] at hv
            cases hv
            go_wp2_with (refine wpList_store_row rfl 32 _ _ rfl B #[.int .i64 0, .int .u32 0, .int .u64 0, .int .u8 0, .int .u64 0, .bool false, .slice none 0 0, .int .i64 0, .int .i64 0, .slice none 0 0] rfl rfl _ _ b1 (by kernel_rfl) rfl (by simp [Value.oneCell']) ?_)
            have og := only_row w29 B #[.int .i64 0, .int .u32 0, .int .u64 0, .int .u8 0, .int .u64 0, .bool false, .slice none 0 0, .int .i64 0, .int .i64 0, .slice none 0 0]
            have hR := b1.row #[.int .i64 0, .int .u32 0, .int .u64 0, .int .u8 0, .int .u64 0, .bool false, .slice none 0 0, .int .i64 0, .int .i64 0, .slice none 0 0]
            have kz := kk.grown og (fun k e => by injection e with e; have := HBQ.out; omega)
            generalize w29.setRow B #[.int .i64 0, .int .u32 0, .int .u64 0, .int .u8 0, .int .u64 0, .bool false, .slice none 0 0, .int .i64 0, .int .i64 0, .slice none 0 0] = wz at hR kz ⊢
            have d0 := hR.cell_ (i := 0) rfl
            have d1 := hR.cell_ (i := 1) rfl
            have d2 := hR.cell_ (i := 2) rfl
            have d3 := hR.cell_ (i := 3) rfl
            have d4 := hR.cell_ (i := 4) rfl
            have d5 := hR.cell_ (i := 5) rfl
            have d6 := hR.cell_ (i := 6) rfl
            have d7 := hR.cell_ (i := 7) rfl
            have d8 := hR.cell_ (i := 8) rfl
            have d9 := hR.cell_ (i := 9) rfl
            refine bodyPost_ret (v := .tuple #[.agg #[.int .i64 0, .int .u32 0, .int .u64 0, .int .u8 0, .int .u64 0, .bool false, .slice none 0 0, .int .i64 0, .int .i64 0, .slice none 0 0], .int .i64 4]) (by simp [results, Tryz.results23, go_sem, d0, d1, d2, d3, d4, d5, d6, d7, d8, d9]) rfl ?_
            exact RGetR.zero kz _
end Go.Proofs.YtnjjeanbopclhaaGreatDoor
