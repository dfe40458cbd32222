/-
  THE WALK OF THE LAW VectorsCheck: it answers true, and turns nothing that was there. Conditions: the arguments are a slice of int that came in and an int.
-/
import Derived.Test.YtjhmlcbpbmeicaaVecD
import Derived.Deep.RegionHeld3
import Derived.Deep.CutRange
import Derived.IntWalk
namespace Go.Proofs.Ytjhmlcbpbmeicaa
open Go.RowKit

/-- As many numbers as items, 1 to 8. -/
def fitB (xs : List Int) (n : Int) : Bool := decide ((xs.length : Int) = n) && decide (1 ≤ n) && decide (n ≤ 8)
theorem fitB_cases (xs : List Int) (n : Int) : (((xs.length : Int) == n) = false ∧ fitB xs n = false) ∨ (((xs.length : Int) == n) = true ∧ decide (1 ≤ n) = false ∧ fitB xs n = false) ∨ (((xs.length : Int) == n) = true ∧ decide (1 ≤ n) = true ∧ decide (n ≤ 8) = false ∧ fitB xs n = false) ∨ (((xs.length : Int) == n) = true ∧ decide (1 ≤ n) = true ∧ decide (n ≤ 8) = true ∧ fitB xs n = true) := by
  unfold fitB
  by_cases h : (xs.length : Int) = n
  · by_cases h1 : n < 1
    · exact .inr (.inl ⟨beq_iff_eq.2 h, decide_eq_false (by omega), by simp; omega⟩)
    · by_cases h8 : 8 < n
      · exact .inr (.inr (.inl ⟨beq_iff_eq.2 h, decide_eq_true (by omega), decide_eq_false (by omega), by simp; omega⟩))
      · exact .inr (.inr (.inr ⟨beq_iff_eq.2 h, decide_eq_true (by omega), decide_eq_true (by omega), by simp; omega⟩))
  · exact .inl ⟨beq_eq_false_iff_ne.2 h, by simp [h]⟩
theorem chk_fit (xs : List Int) (n : Int) : chk xs n = (fitB xs n && within 1000000 xs) := by
  unfold chk fitB
  cases within 1000000 xs <;> cases decide ((xs.length : Int) = n) <;> cases decide (1 ≤ n) <;> cases decide (n ≤ 8) <;> rfl
theorem chk_one (x : Int) : chk [x] 1 = within 1000000 [x] := by
  unfold chk
  simp
theorem within_snoc {most : Int} {l : List Int} {k : Nat} {x : Int} (hx : l[k]? = some x) : within most (l.take (k + 1)) = (within most (l.take k) && within most [x]) := by
  rw [List.take_add_one, hx]
  unfold within
  simp
theorem within_x {x : Int} : (x < 0 ∧ within 1000000 [x] = false) ∨ (0 ≤ x ∧ 1000000 < x ∧ within 1000000 [x] = false) ∨ (0 ≤ x ∧ x ≤ 1000000 ∧ within 1000000 [x] = true) := by
  have e : within 1000000 [x] = (decide (0 ≤ x) && decide (x ≤ 1000000)) := by unfold within; simp
  rw [e]
  by_cases h0 : x < 0
  · exact .inl ⟨h0, by simp; omega⟩
  · by_cases h1 : 1000000 < x
    · exact .inr (.inl ⟨by omega, h1, by simp; omega⟩)
    · exact .inr (.inr ⟨by omega, by omega, by simp; omega⟩)
theorem check_one (A : Option Addr) (c : Nat) (x : Int) (v : Bool) (hv : within 1000000 [x] = v) (w : World) (ha : Rd w A (cs .i64 [x])) :
    Calls Try.prog 33 #[.slice A 1 c, .int .i64 1] w fun e w' => e = .returned (.bool v) ∧ Keep w w' := by
  have h := check_f A c [x] 1 w ha (by unfold Len; simp) (WalkArith.wf_i64 (by omega))
  rw [chk_one, hv] at h
  exact h
theorem Rd.part {w : World} {b o k : Nat} {kd : IntKind} {xs : List Int} {x : Int} (h : Rd w (some ⟨b, o, none⟩) (cs kd xs)) (hx : xs[k]? = some x) : Rd w (some ⟨b, o + k, none⟩) (cs kd [x]) := fun j u hu => by
  match j, hu with
  | 0, hu =>
    simp [cs] at hu
    subst hu
    obtain ⟨b', o', e, hc⟩ := h k (.int kd x) (by rw [cs_at, hx]; rfl)
    cases e
    exact ⟨_, _, rfl, hc⟩

set_option maxRecDepth 100000 in
set_option maxHeartbeats 4000000 in
theorem vectorsCheck_w (A : Option Addr) (c : Nat) (xs : List Int) (n : Int) (w : World) (hx : In .i64 w A c xs) (hn : (Lit.int .i64 n).wf = true) :
    Calls Try.prog 9 #[.slice A xs.length c, .int .i64 n] w fun e w' => e = .returned (.bool true) ∧ Below w.heap.size w w' := by
  have lx := hx.len
  by_cases hbig : (600 : Int) < xs.length
  · go_enter Try.func9, Try.ntmps9
    go_wp2_with fail
    refine (alive04_f w).mono ?_
    rintro e w1 ⟨rfl, k1⟩
    go_wp2_with fail
    refine (alive04_f w1).mono ?_
    rintro e w2 ⟨rfl, k2⟩
    go_wp2_with fail
    go_ret
    exact ⟨rfl, k1.trans k2⟩
  · have lxc := hx.cap
    have lxc' : (xs.length : Int) ≤ c := by omega
    have lc := hx.capI
    have hall := fun w1 (k1 : Keep w w1) => check_f A c xs n w1 (hx.rd.keep k1) hx.lenL hn
    have HN := Lib.hid hn
    clear hn
    go_enter Try.func9, Try.ntmps9
    go_wp2_with fail
    refine (alive04_f w).mono ?_
    rintro e w1 ⟨rfl, k1⟩
    go_upto_region 3 with fail
    go_cut [5] from 15 to 26 (fun v wx => (∃ b, v = .bool b ∧ Hid (b = fitB xs n)) ∧ wx = w1)
    case first =>
      rcases fitB_cases xs n with ⟨hl, hb⟩ | ⟨hl, h1, hb⟩ | ⟨hl, h1, h8, hb⟩ | ⟨hl, h1, h8, hb⟩
      all_goals
        have HB := Lib.hid hb
        clear hb
        go_wp2_with fail
        go_meet
        exact ⟨⟨_, rfl, Lib.hid HB.out.symm⟩, rfl⟩
    case rest =>
    obtain ⟨⟨bf, rfl, HF⟩, rfl⟩ := hcut
    go_wp2_with fail
    go_loopw [5, 6] (fun v i wr => ∃ (k : Nat) (b : Bool), k ≤ xs.length ∧ i = .int .i64 k ∧ v = .bool b ∧ Hid (b = (fitB xs n && within 1000000 (xs.take k))) ∧ Keep w wr) (fun _ i _ => xs.length - (intOf i).toNat)
    case atStart =>
      exact ⟨0, bf, Nat.zero_le _, rfl, rfl, Lib.hid (by rw [List.take_zero, HF.out]; unfold within; simp), k1⟩
    case round =>
      obtain ⟨k, b, hk, rfl, rfl, HB, hkeep⟩ := hrel
      by_cases hlt : k < xs.length
      · obtain ⟨b1, o1, x, rfl, hxk, hc1⟩ := (hx.rd.keep hkeep).int_at hlt
        have hr1 := (hx.rd.keep hkeep).part hxk
        have HX := Lib.hid hxk
        clear hxk
        have hkc : (k : Int) + 1 ≤ c := by omega
        have hk0 : (0 : Int) ≤ k := by omega
        have hk1 : (k : Int) ≤ k + 1 := by omega
        have hk2 : (0 : Int) ≤ (k : Int) + 1 := by omega
        have hk3 : (k : Int) < xs.length := by omega
        have hw1 : IntKind.i64.wrap ((k : Int) + 1) = (k : Int) + 1 := IntWalk.i64_in _ (by omega)
        have ht1 : ((k : Int) + 1).toNat = k + 1 := by omega
        have hne : ¬ c = k := by omega
        cases b with
        | false =>
          rcases within_x (x := x) with ⟨x0, wv⟩ | x01
          · have x1 : decide (0 ≤ x) = false := decide_eq_false (by omega)
            have hck := fun w' (hr : Rd w' (some ⟨b1, o1 + k, none⟩) (cs .i64 [x])) => check_one (some ⟨b1, o1 + k, none⟩) (c - k) x _ wv w' hr
            have HV := Lib.hid wv
            clear wv
            go_wp2_with fail
            refine wp_region_noPanic ?_
            refine wp_region_held_drew (S := (fun w' => w'.cell? ⟨b1, o1 + k, none⟩ = some (.int .i64 x))) (by kernel_rfl) (by exact hc1) (fun hS => ?_)
            refine wpAnyH_take (i := 0) (v := ?_) rfl (by kernel_rfl) (by kernel_rfl) (by kernel_rfl) (fun _ _ _ h => h) (Or.inl ⟨by rfl, ?_⟩) hS ?_
            rotate_left
            · (intro w hSw; (try dsimp only at hSw); go_simp; (first | done | with_reducible rfl))
            change wpAnyH _ _ _ _ _ _ _ (Act.put _ (some 42) _) _
            simp only [Act.put, List.setIfInBounds_toArray, List.set_cons_zero, List.set_cons_succ]
            refine wpAnyH_take (i := 1) (v := ?_) rfl (by kernel_rfl) (by kernel_rfl) (by kernel_rfl) (fun _ _ _ h => h) (Or.inl ⟨by rfl, ?_⟩) hS ?_
            rotate_left
            · (intro w hSw; (try dsimp only at hSw); go_simp; (first | done | with_reducible rfl))
            change wpAnyH _ _ _ _ _ _ _ (Act.put _ (some 43) _) _
            simp only [Act.put, List.setIfInBounds_toArray, List.set_cons_zero, List.set_cons_succ]
            refine wpAnyH_take (i := 2) (v := ?_) rfl (by kernel_rfl) (by kernel_rfl) (by kernel_rfl) (fun _ _ _ h => h) (Or.inl ⟨by rfl, ?_⟩) hS ?_
            rotate_left
            · (intro w hSw; (try dsimp only at hSw); go_simp; (first | done | with_reducible rfl))
            change wpAnyH _ _ _ _ _ _ _ (Act.put _ (some 44) _) _
            simp only [Act.put, List.setIfInBounds_toArray, List.set_cons_zero, List.set_cons_succ]
            refine wpAnyH_take (i := 3) (v := ?_) rfl (by kernel_rfl) (by kernel_rfl) (by kernel_rfl) (fun _ _ _ h => h) (Or.inl ⟨by rfl, ?_⟩) hS ?_
            rotate_left
            · (intro w hSw; (try dsimp only at hSw); go_simp; (first | done | with_reducible rfl))
            change wpAnyH _ _ _ _ _ _ _ (Act.put _ (some 45) _) _
            simp only [Act.put, List.setIfInBounds_toArray, List.set_cons_zero, List.set_cons_succ]
            refine wpAnyH_take (i := 4) (v := ?_) rfl (by kernel_rfl) (by kernel_rfl) (by kernel_rfl) (fun _ _ _ h => h) (Or.inl ⟨by rfl, ?_⟩) hS ?_
            rotate_left
            · (intro w hSw; (try dsimp only at hSw); go_simp; (first | done | with_reducible rfl))
            change wpAnyH _ _ _ _ _ _ _ (Act.put _ (some 46) _) _
            simp only [Act.put, List.setIfInBounds_toArray, List.set_cons_zero, List.set_cons_succ]
            refine wpAnyH_take (i := 6) (v := ?_) rfl (by kernel_rfl) (by kernel_rfl) (by kernel_rfl) (fun _ _ _ h => h) (Or.inl ⟨by rfl, ?_⟩) hS ?_
            rotate_left
            · (intro w hSw; (try dsimp only at hSw); go_simp; (first | done | with_reducible rfl))
            change wpAnyH _ _ _ _ _ _ _ (Act.put _ (some 48) _) _
            simp only [Act.put, List.setIfInBounds_toArray, List.set_cons_zero, List.set_cons_succ]
            refine wpAnyH_take (i := 7) (v := ?_) rfl (by kernel_rfl) (by kernel_rfl) (by kernel_rfl) (fun _ _ _ h => h) (Or.inl ⟨by rfl, ?_⟩) hS ?_
            rotate_left
            · (intro w hSw; (try dsimp only at hSw); go_simp; (first | done | with_reducible rfl))
            change wpAnyH _ _ _ _ _ _ _ (Act.put _ (some 49) _) _
            simp only [Act.put, List.setIfInBounds_toArray, List.set_cons_zero, List.set_cons_succ]
            refine wpAnyH_take (i := 8) (v := ?_) rfl (by kernel_rfl) (by kernel_rfl) (by kernel_rfl) (fun _ _ _ h => h) (Or.inl ⟨by rfl, ?_⟩) hS ?_
            rotate_left
            · (intro w hSw; (try dsimp only at hSw); go_simp; (first | done | with_reducible rfl))
            change wpAnyH _ _ _ _ _ _ _ (Act.put _ (some 50) _) _
            simp only [Act.put, List.setIfInBounds_toArray, List.set_cons_zero, List.set_cons_succ]
            refine wpAnyH_take (i := 9) (v := ?_) rfl (by kernel_rfl) (by kernel_rfl) (by kernel_rfl) (fun _ _ _ h => h) (Or.inl ⟨by rfl, ?_⟩) hS ?_
            rotate_left
            · (intro w hSw; (try dsimp only at hSw); go_simp; (first | done | with_reducible rfl))
            change wpAnyH _ _ _ _ _ _ _ (Act.put _ (some 51) _) _
            simp only [Act.put, List.setIfInBounds_toArray, List.set_cons_zero, List.set_cons_succ]
            refine wpAnyH_take (i := 10) (v := ?_) rfl (by kernel_rfl) (by kernel_rfl) (by kernel_rfl) (fun _ _ _ h => h) (Or.inl ⟨by rfl, ?_⟩) hS ?_
            rotate_left
            · (intro w hSw; (try dsimp only at hSw); go_simp; (first | done | with_reducible rfl))
            change wpAnyH _ _ _ _ _ _ _ (Act.put _ (some 52) _) _
            simp only [Act.put, List.setIfInBounds_toArray, List.set_cons_zero, List.set_cons_succ]
            refine wpAnyH_ready (rs := [5]) (by kernel_rfl) (by simp) ?_
            refine AllReadyH.cons rfl (fun K hK => ?_) AllReadyH.nil
            go_simp
            refine (hck _ (by exact hr1)).mono ?_
            rintro e w3 ⟨rfl, k3⟩
            go_wp2_with fail
            refine hK.out _ _ (k3.cell hS) (fun hS => ?_)
            clear hK K
            try simp only [Act.put, List.setIfInBounds_toArray, List.set_cons_zero, List.set_cons_succ]
            refine wpAnyH_take (i := 11) (v := ?_) rfl (by kernel_rfl) (by kernel_rfl) (by kernel_rfl) (fun _ _ _ h => h) (Or.inl ⟨by rfl, ?_⟩) hS ?_
            rotate_left
            · (intro w hSw; (try dsimp only at hSw); go_simp; (first | done | with_reducible rfl))
            change wpAnyH _ _ _ _ _ _ _ (Act.put _ (some 53) _) _
            simp only [Act.put, List.setIfInBounds_toArray, List.set_cons_zero, List.set_cons_succ]
            refine wpAnyH_take (i := 12) (v := undef) rfl (by kernel_rfl) (by kernel_rfl) (by kernel_rfl) (fun _ _ _ h => h) (Or.inr ⟨by rfl, rfl⟩) hS ?_
            change wpAnyH _ _ _ _ _ _ _ (Act.put _ (some 54) _) _
            simp only [Act.put, List.setIfInBounds_toArray, List.set_cons_zero, List.set_cons_succ]
            refine wpAnyH_take (i := 13) (v := undef) rfl (by kernel_rfl) (by kernel_rfl) (by kernel_rfl) (fun _ _ _ h => h) (Or.inr ⟨by rfl, rfl⟩) hS ?_
            change wpAnyH _ _ _ _ _ _ _ (Act.put _ (some 55) _) _
            simp only [Act.put, List.setIfInBounds_toArray, List.set_cons_zero, List.set_cons_succ]
            refine wpAnyH_take (i := 14) (v := undef) rfl (by kernel_rfl) (by kernel_rfl) (by kernel_rfl) (fun _ _ _ h => h) (Or.inr ⟨by rfl, rfl⟩) hS ?_
            change wpAnyH _ _ _ _ _ _ _ (Act.put _ (some 56) _) _
            simp only [Act.put, List.setIfInBounds_toArray, List.set_cons_zero, List.set_cons_succ]
            refine wpAnyH_take (i := 15) (v := undef) rfl (by kernel_rfl) (by kernel_rfl) (by kernel_rfl) (fun _ _ _ h => h) (Or.inr ⟨by rfl, rfl⟩) hS ?_
            change wpAnyH _ _ _ _ _ _ _ (Act.put _ (some 57) _) _
            simp only [Act.put, List.setIfInBounds_toArray, List.set_cons_zero, List.set_cons_succ]
            refine wpAnyH_take (i := 16) (v := undef) rfl (by kernel_rfl) (by kernel_rfl) (by kernel_rfl) (fun _ _ _ h => h) (Or.inr ⟨by rfl, rfl⟩) hS ?_
            change wpAnyH _ _ _ _ _ _ _ (Act.put _ (some 58) _) _
            simp only [Act.put, List.setIfInBounds_toArray, List.set_cons_zero, List.set_cons_succ]
            refine wpAnyH_take (i := 17) (v := ?_) rfl (by kernel_rfl) (by kernel_rfl) (by kernel_rfl) (fun _ _ _ h => h) (Or.inl ⟨by rfl, ?_⟩) hS ?_
            rotate_left
            · (intro w hSw; (try dsimp only at hSw); go_simp; (first | done | with_reducible rfl))
            change wpAnyH _ _ _ _ _ _ _ (Act.put _ (some 59) _) _
            simp only [Act.put, List.setIfInBounds_toArray, List.set_cons_zero, List.set_cons_succ]
            refine wpAnyH_take (i := 18) (v := ?_) rfl (by kernel_rfl) (by kernel_rfl) (by kernel_rfl) (fun _ _ _ h => h) (Or.inl ⟨by rfl, ?_⟩) hS ?_
            rotate_left
            · (intro w hSw; (try dsimp only at hSw); go_simp; (first | done | with_reducible rfl))
            change wpAnyH _ _ _ _ _ _ _ (Act.put _ (some 60) _) _
            simp only [Act.put, List.setIfInBounds_toArray, List.set_cons_zero, List.set_cons_succ]
            refine wpAnyH_done (by kernel_rfl) ?_ _
            refine NoPanic.normal ?_
            go_wp2_with fail
            go_roundw
            case rel =>
              refine ⟨k + 1, false, by omega, by go_num, rfl, Lib.hid ?_, (hkeep.drew).trans k3⟩
              rw [within_snoc HX.out, ← Bool.and_assoc, ← HB.out, Bool.false_and]
            case measure => simp [intOf]; omega
          · rcases x01 with ⟨x0, x1, wv⟩ | ⟨x0, x1, wv⟩
            all_goals
              have hck := fun w' (hr : Rd w' (some ⟨b1, o1 + k, none⟩) (cs .i64 [x])) => check_one (some ⟨b1, o1 + k, none⟩) (c - k) x _ wv w' hr
              have HV := Lib.hid wv
              clear wv
              go_wp2_with fail
              go_region_held3 (fun w' => w'.cell? ⟨b1, o1 + k, none⟩ = some (.int .i64 x)) (first | assumption | (exact Keep.cell k3 (by assumption)))
                (first | (go_at_call 33; refine (hck _ (by exact hr1)).mono ?_; rintro e w3 ⟨rfl, k3⟩))
              go_wp2_with fail
              go_roundw
              case rel =>
                refine ⟨k + 1, false, by omega, by go_num, rfl, Lib.hid ?_, (hkeep.drew).trans k3⟩
                rw [within_snoc HX.out, ← Bool.and_assoc, ← HB.out, Bool.false_and]
              case measure => simp [intOf]; omega
        | true =>
          rcases within_x (x := x) with ⟨x0, wv⟩ | x01
          · have x1 : decide (0 ≤ x) = false := decide_eq_false (by omega)
            have hck := fun w' (hr : Rd w' (some ⟨b1, o1 + k, none⟩) (cs .i64 [x])) => check_one (some ⟨b1, o1 + k, none⟩) (c - k) x _ wv w' hr
            have HV := Lib.hid wv
            clear wv
            go_wp2_with fail
            refine (hck _ hr1).mono ?_
            rintro e w2 ⟨rfl, k2⟩
            have hr2 := hr1.keep k2
            have hc2 := k2.cell hc1
            go_wp2_with fail
            refine wp_region_noPanic ?_
            refine wp_region_held_drew (S := (fun w' => w'.cell? ⟨b1, o1 + k, none⟩ = some (.int .i64 x))) (by kernel_rfl) (by exact hc2) (fun hS => ?_)
            refine wpAnyH_take (i := 0) (v := ?_) rfl (by kernel_rfl) (by kernel_rfl) (by kernel_rfl) (fun _ _ _ h => h) (Or.inl ⟨by rfl, ?_⟩) hS ?_
            rotate_left
            · (intro w hSw; (try dsimp only at hSw); go_simp; (first | done | with_reducible rfl))
            change wpAnyH _ _ _ _ _ _ _ (Act.put _ (some 42) _) _
            simp only [Act.put, List.setIfInBounds_toArray, List.set_cons_zero, List.set_cons_succ]
            refine wpAnyH_take (i := 1) (v := ?_) rfl (by kernel_rfl) (by kernel_rfl) (by kernel_rfl) (fun _ _ _ h => h) (Or.inl ⟨by rfl, ?_⟩) hS ?_
            rotate_left
            · (intro w hSw; (try dsimp only at hSw); go_simp; (first | done | with_reducible rfl))
            change wpAnyH _ _ _ _ _ _ _ (Act.put _ (some 43) _) _
            simp only [Act.put, List.setIfInBounds_toArray, List.set_cons_zero, List.set_cons_succ]
            refine wpAnyH_take (i := 2) (v := ?_) rfl (by kernel_rfl) (by kernel_rfl) (by kernel_rfl) (fun _ _ _ h => h) (Or.inl ⟨by rfl, ?_⟩) hS ?_
            rotate_left
            · (intro w hSw; (try dsimp only at hSw); go_simp; (first | done | with_reducible rfl))
            change wpAnyH _ _ _ _ _ _ _ (Act.put _ (some 44) _) _
            simp only [Act.put, List.setIfInBounds_toArray, List.set_cons_zero, List.set_cons_succ]
            refine wpAnyH_take (i := 3) (v := ?_) rfl (by kernel_rfl) (by kernel_rfl) (by kernel_rfl) (fun _ _ _ h => h) (Or.inl ⟨by rfl, ?_⟩) hS ?_
            rotate_left
            · (intro w hSw; (try dsimp only at hSw); go_simp; (first | done | with_reducible rfl))
            change wpAnyH _ _ _ _ _ _ _ (Act.put _ (some 45) _) _
            simp only [Act.put, List.setIfInBounds_toArray, List.set_cons_zero, List.set_cons_succ]
            refine wpAnyH_take (i := 4) (v := ?_) rfl (by kernel_rfl) (by kernel_rfl) (by kernel_rfl) (fun _ _ _ h => h) (Or.inl ⟨by rfl, ?_⟩) hS ?_
            rotate_left
            · (intro w hSw; (try dsimp only at hSw); go_simp; (first | done | with_reducible rfl))
            change wpAnyH _ _ _ _ _ _ _ (Act.put _ (some 46) _) _
            simp only [Act.put, List.setIfInBounds_toArray, List.set_cons_zero, List.set_cons_succ]
            refine wpAnyH_take (i := 6) (v := ?_) rfl (by kernel_rfl) (by kernel_rfl) (by kernel_rfl) (fun _ _ _ h => h) (Or.inl ⟨by rfl, ?_⟩) hS ?_
            rotate_left
            · (intro w hSw; (try dsimp only at hSw); go_simp; (first | done | with_reducible rfl))
            change wpAnyH _ _ _ _ _ _ _ (Act.put _ (some 48) _) _
            simp only [Act.put, List.setIfInBounds_toArray, List.set_cons_zero, List.set_cons_succ]
            refine wpAnyH_take (i := 7) (v := ?_) rfl (by kernel_rfl) (by kernel_rfl) (by kernel_rfl) (fun _ _ _ h => h) (Or.inl ⟨by rfl, ?_⟩) hS ?_
            rotate_left
            · (intro w hSw; (try dsimp only at hSw); go_simp; (first | done | with_reducible rfl))
            change wpAnyH _ _ _ _ _ _ _ (Act.put _ (some 49) _) _
            simp only [Act.put, List.setIfInBounds_toArray, List.set_cons_zero, List.set_cons_succ]
            refine wpAnyH_take (i := 8) (v := ?_) rfl (by kernel_rfl) (by kernel_rfl) (by kernel_rfl) (fun _ _ _ h => h) (Or.inl ⟨by rfl, ?_⟩) hS ?_
            rotate_left
            · (intro w hSw; (try dsimp only at hSw); go_simp; (first | done | with_reducible rfl))
            change wpAnyH _ _ _ _ _ _ _ (Act.put _ (some 50) _) _
            simp only [Act.put, List.setIfInBounds_toArray, List.set_cons_zero, List.set_cons_succ]
            refine wpAnyH_take (i := 9) (v := ?_) rfl (by kernel_rfl) (by kernel_rfl) (by kernel_rfl) (fun _ _ _ h => h) (Or.inl ⟨by rfl, ?_⟩) hS ?_
            rotate_left
            · (intro w hSw; (try dsimp only at hSw); go_simp; (first | done | with_reducible rfl))
            change wpAnyH _ _ _ _ _ _ _ (Act.put _ (some 51) _) _
            simp only [Act.put, List.setIfInBounds_toArray, List.set_cons_zero, List.set_cons_succ]
            refine wpAnyH_take (i := 10) (v := ?_) rfl (by kernel_rfl) (by kernel_rfl) (by kernel_rfl) (fun _ _ _ h => h) (Or.inl ⟨by rfl, ?_⟩) hS ?_
            rotate_left
            · (intro w hSw; (try dsimp only at hSw); go_simp; (first | done | with_reducible rfl))
            change wpAnyH _ _ _ _ _ _ _ (Act.put _ (some 52) _) _
            simp only [Act.put, List.setIfInBounds_toArray, List.set_cons_zero, List.set_cons_succ]
            refine wpAnyH_ready (rs := [5]) (by kernel_rfl) (by simp) ?_
            refine AllReadyH.cons rfl (fun K hK => ?_) AllReadyH.nil
            go_simp
            refine (hck _ (by exact hr2)).mono ?_
            rintro e w3 ⟨rfl, k3⟩
            go_wp2_with fail
            refine hK.out _ _ (k3.cell hS) (fun hS => ?_)
            clear hK K
            try simp only [Act.put, List.setIfInBounds_toArray, List.set_cons_zero, List.set_cons_succ]
            refine wpAnyH_take (i := 11) (v := ?_) rfl (by kernel_rfl) (by kernel_rfl) (by kernel_rfl) (fun _ _ _ h => h) (Or.inl ⟨by rfl, ?_⟩) hS ?_
            rotate_left
            · (intro w hSw; (try dsimp only at hSw); go_simp; (first | done | with_reducible rfl))
            change wpAnyH _ _ _ _ _ _ _ (Act.put _ (some 53) _) _
            simp only [Act.put, List.setIfInBounds_toArray, List.set_cons_zero, List.set_cons_succ]
            refine wpAnyH_take (i := 12) (v := undef) rfl (by kernel_rfl) (by kernel_rfl) (by kernel_rfl) (fun _ _ _ h => h) (Or.inr ⟨by rfl, rfl⟩) hS ?_
            change wpAnyH _ _ _ _ _ _ _ (Act.put _ (some 54) _) _
            simp only [Act.put, List.setIfInBounds_toArray, List.set_cons_zero, List.set_cons_succ]
            refine wpAnyH_take (i := 13) (v := undef) rfl (by kernel_rfl) (by kernel_rfl) (by kernel_rfl) (fun _ _ _ h => h) (Or.inr ⟨by rfl, rfl⟩) hS ?_
            change wpAnyH _ _ _ _ _ _ _ (Act.put _ (some 55) _) _
            simp only [Act.put, List.setIfInBounds_toArray, List.set_cons_zero, List.set_cons_succ]
            refine wpAnyH_take (i := 14) (v := undef) rfl (by kernel_rfl) (by kernel_rfl) (by kernel_rfl) (fun _ _ _ h => h) (Or.inr ⟨by rfl, rfl⟩) hS ?_
            change wpAnyH _ _ _ _ _ _ _ (Act.put _ (some 56) _) _
            simp only [Act.put, List.setIfInBounds_toArray, List.set_cons_zero, List.set_cons_succ]
            refine wpAnyH_take (i := 15) (v := undef) rfl (by kernel_rfl) (by kernel_rfl) (by kernel_rfl) (fun _ _ _ h => h) (Or.inr ⟨by rfl, rfl⟩) hS ?_
            change wpAnyH _ _ _ _ _ _ _ (Act.put _ (some 57) _) _
            simp only [Act.put, List.setIfInBounds_toArray, List.set_cons_zero, List.set_cons_succ]
            refine wpAnyH_take (i := 16) (v := undef) rfl (by kernel_rfl) (by kernel_rfl) (by kernel_rfl) (fun _ _ _ h => h) (Or.inr ⟨by rfl, rfl⟩) hS ?_
            change wpAnyH _ _ _ _ _ _ _ (Act.put _ (some 58) _) _
            simp only [Act.put, List.setIfInBounds_toArray, List.set_cons_zero, List.set_cons_succ]
            refine wpAnyH_take (i := 17) (v := ?_) rfl (by kernel_rfl) (by kernel_rfl) (by kernel_rfl) (fun _ _ _ h => h) (Or.inl ⟨by rfl, ?_⟩) hS ?_
            rotate_left
            · (intro w hSw; (try dsimp only at hSw); go_simp; (first | done | with_reducible rfl))
            change wpAnyH _ _ _ _ _ _ _ (Act.put _ (some 59) _) _
            simp only [Act.put, List.setIfInBounds_toArray, List.set_cons_zero, List.set_cons_succ]
            refine wpAnyH_take (i := 18) (v := ?_) rfl (by kernel_rfl) (by kernel_rfl) (by kernel_rfl) (fun _ _ _ h => h) (Or.inl ⟨by rfl, ?_⟩) hS ?_
            rotate_left
            · (intro w hSw; (try dsimp only at hSw); go_simp; (first | done | with_reducible rfl))
            change wpAnyH _ _ _ _ _ _ _ (Act.put _ (some 60) _) _
            simp only [Act.put, List.setIfInBounds_toArray, List.set_cons_zero, List.set_cons_succ]
            refine wpAnyH_done (by kernel_rfl) ?_ _
            refine NoPanic.normal ?_
            go_wp2_with fail
            go_roundw
            case rel =>
              refine ⟨k + 1, _, by omega, by go_num, rfl, Lib.hid ?_, ((hkeep.trans k2).drew).trans k3⟩
              rw [within_snoc HX.out, ← Bool.and_assoc, ← HB.out, Bool.true_and, HV.out]
            case measure => simp [intOf]; omega
          · rcases x01 with ⟨x0, x1, wv⟩ | ⟨x0, x1, wv⟩
            all_goals
              have hck := fun w' (hr : Rd w' (some ⟨b1, o1 + k, none⟩) (cs .i64 [x])) => check_one (some ⟨b1, o1 + k, none⟩) (c - k) x _ wv w' hr
              have HV := Lib.hid wv
              clear wv
              go_wp2_with fail
              refine (hck _ hr1).mono ?_
              rintro e w2 ⟨rfl, k2⟩
              have hr2 := hr1.keep k2
              have hc2 := k2.cell hc1
              go_wp2_with fail
              go_region_held3 (fun w' => w'.cell? ⟨b1, o1 + k, none⟩ = some (.int .i64 x)) (first | assumption | (exact Keep.cell k3 (by assumption)))
                (first | (go_at_call 33; refine (hck _ (by exact hr2)).mono ?_; rintro e w3 ⟨rfl, k3⟩))
              go_wp2_with fail
              go_roundw
              case rel =>
                refine ⟨k + 1, _, by omega, by go_num, rfl, Lib.hid ?_, ((hkeep.trans k2).drew).trans k3⟩
                rw [within_snoc HX.out, ← Bool.and_assoc, ← HB.out, Bool.true_and, HV.out]
              case measure => simp [intOf]; omega
      · obtain rfl : k = xs.length := by omega
        rw [List.take_length] at HB
        go_wp2_with fail
        refine (hall _ hkeep).mono ?_
        rintro e w2 ⟨rfl, k2⟩
        have hb2 : (chk xs n == b) = true := by rw [chk_fit, ← HB.out]; simp
        go_wp2_with fail
        go_ret
        exact ⟨rfl, hkeep.trans k2⟩
end Go.Proofs.Ytjhmlcbpbmeicaa
