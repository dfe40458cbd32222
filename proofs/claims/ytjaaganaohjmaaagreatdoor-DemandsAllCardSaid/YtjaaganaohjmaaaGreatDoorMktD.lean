/-
  CONTRACT for the package markets: Check in one word. Conditions: the slices of the market read as lists, and are no longer than memory lets them be.
-/
import Derived.Test.YtjaaganaohjmaaaGreatDoorMktC
import Derived.RegionTactic
import Derived.Deep.RegionHeld3
namespace Go.Proofs.YtjaaganaohjmaaaGreatDoor
open Go.RowKit

theorem chkM_parts (R : List Int) (B : List (List Int)) (O : List Int) :
    (chk R R.length = false ∧ chkM R B O = false) ∨ (chk R R.length = true ∧ B.length < 1 ∧ chkM R B O = false) ∨ (chk R R.length = true ∧ 8 < B.length ∧ chkM R B O = false) ∨
    (chk R R.length = true ∧ 1 ≤ B.length ∧ B.length ≤ 8 ∧ ordB O B.length = false ∧ chkM R B O = false) ∨ (chk R R.length = true ∧ 1 ≤ B.length ∧ B.length ≤ 8 ∧ ordB O B.length = true ∧ chkM R B O = !B.any (badB R.length)) := by
  unfold chkM
  cases h1 : chk R R.length with
  | false => exact .inl ⟨rfl, by simp⟩
  | true =>
    by_cases h2 : B.length < 1
    · exact .inr (.inl ⟨rfl, h2, by simp; omega⟩)
    · by_cases h3 : 8 < B.length
      · exact .inr (.inr (.inl ⟨rfl, h3, by simp; omega⟩))
      · have e2 : decide (1 ≤ B.length) = true := decide_eq_true (by omega)
        have e3 : decide (B.length ≤ 8) = true := decide_eq_true (by omega)
        rw [e2, e3]
        cases h4 : ordB O B.length with
        | false => exact .inr (.inr (.inr (.inl ⟨rfl, by omega, by omega, rfl, by simp⟩)))
        | true => exact .inr (.inr (.inr (.inr ⟨rfl, by omega, by omega, rfl, by simp⟩)))
theorem length_bids (ss : List Sl) : (bidsOf ss).length = ss.length := by simp [bidsOf]

set_option maxRecDepth 100000 in
set_option maxHeartbeats 4000000 in
theorem mcheck_f (M : Mkt) (w : World) (hM : M.Ok w) :
    Calls Tryz.prog 91 #[M.val] w fun e w' => e = .returned (.bool (chkM M.r.l (bidsOf M.bs) M.o.l)) ∧ Keep w w' := by
  have lr := hM.r.len.le
  have lb := hM.b.len.le
  unfold Mkt.val
  go_enter Tryz.func91, Tryz.ntmps91
  go_upto_region 1 with fail
  have k0 : Keep w (w.alloc (.cells #[.slice M.r.a M.r.l.length M.r.c, .slice M.ba M.bs.length M.bc, .slice M.o.a M.o.l.length M.o.c] 65)) := Keep.alloc1 _ _
  have d0 : (w.alloc (.cells #[.slice M.r.a M.r.l.length M.r.c, .slice M.ba M.bs.length M.bc, .slice M.o.a M.o.l.length M.o.c] 65)).cell? ⟨w.heap.size, 0, none⟩ = some (.slice M.r.a M.r.l.length M.r.c) := by simp
  have d1 : (w.alloc (.cells #[.slice M.r.a M.r.l.length M.r.c, .slice M.ba M.bs.length M.bc, .slice M.o.a M.o.l.length M.o.c] 65)).cell? ⟨w.heap.size, 1, none⟩ = some (.slice M.ba M.bs.length M.bc) := by simp
  have d2 : (w.alloc (.cells #[.slice M.r.a M.r.l.length M.r.c, .slice M.ba M.bs.length M.bc, .slice M.o.a M.o.l.length M.o.c] 65)).cell? ⟨w.heap.size, 2, none⟩ = some (.slice M.o.a M.o.l.length M.o.c) := by simp
  generalize w.alloc (.cells #[.slice M.r.a M.r.l.length M.r.c, .slice M.ba M.bs.length M.bc, .slice M.o.a M.o.l.length M.o.c] 65) = w0 at k0 d0 d1 d2 ⊢
  go_cut [3, 4] from 5 to 10 (fun p n wx => n = .int .i64 (M.bs.length : Int) ∧ p = .pointer (some ⟨w0.heap.size, 0, none⟩) ∧ wx.cell? ⟨w0.heap.size, 0, none⟩ = some (.int .i64 (M.r.l.length : Int)) ∧ Keep w0 wx)
  case first =>
    have a0 := (Keep.alloc1 w0 (.cells #[.int .i64 0] 3)).cell d0
    have a1 := (Keep.alloc1 w0 (.cells #[.int .i64 0] 3)).cell d1
    have b0 := (Keep.alloc1 w0 (.cells #[.int .i64 (M.r.l.length : Int)] 3)).cell d0
    have b1 := (Keep.alloc1 w0 (.cells #[.int .i64 (M.r.l.length : Int)] 3)).cell d1
    have e0 : (w0.alloc (.cells #[.int .i64 (M.r.l.length : Int)] 3)).cell? ⟨w0.heap.size, 0, none⟩ = some (.int .i64 (M.r.l.length : Int)) := by simp
    have e1 : Keep w0 (w0.alloc (.cells #[.int .i64 (M.r.l.length : Int)] 3)) := Keep.alloc1 _ _
    refine wp_region_noPanic ?_
    refine wp_region_held_drew (S := (fun w' => w'.cell? ⟨w.heap.size, 0, none⟩ = some (.slice M.r.a M.r.l.length M.r.c) ∧ w'.cell? ⟨w.heap.size, 1, none⟩ = some (.slice M.ba M.bs.length M.bc))) (by kernel_rfl) ⟨d0, d1⟩ (fun hS => ?_)
    refine wpAnyH_take (i := 0) (v := ?_) rfl (by kernel_rfl) (by kernel_rfl) (by kernel_rfl) (fun _ _ _ h => h) (Or.inl ⟨by rfl, ?_⟩) hS ?_
    rotate_left
    · (intro w hSw; (try dsimp only at hSw); go_simp; (first | done | with_reducible rfl))
    change wpAnyH _ _ _ _ _ _ _ (Act.put _ (some 5) _) _
    simp only [Act.put, List.setIfInBounds_toArray, List.set_cons_zero, List.set_cons_succ]
    refine wpAnyH_take (i := 1) (v := ?_) rfl (by kernel_rfl) (by kernel_rfl) (by kernel_rfl) (fun _ _ _ h => h) (Or.inl ⟨by rfl, ?_⟩) hS ?_
    rotate_left
    · (intro w hSw; (try dsimp only at hSw); go_simp; (first | done | with_reducible rfl))
    change wpAnyH _ _ _ _ _ _ _ (Act.put _ (some 6) _) _
    simp only [Act.put, List.setIfInBounds_toArray, List.set_cons_zero, List.set_cons_succ]
    refine wpAnyH_take (i := 2) (v := ?_) rfl (by kernel_rfl) (by kernel_rfl) (by kernel_rfl) (fun _ _ _ h => h) (Or.inl ⟨by rfl, ?_⟩) hS ?_
    rotate_left
    · (intro w hSw; (try dsimp only at hSw); go_simp; (first | done | with_reducible rfl))
    change wpAnyH _ _ _ _ _ _ _ (Act.put _ (some 7) _) _
    simp only [Act.put, List.setIfInBounds_toArray, List.set_cons_zero, List.set_cons_succ]
    refine wpAnyH_take (i := 3) (v := ?_) rfl (by kernel_rfl) (by kernel_rfl) (by kernel_rfl) (fun _ _ _ h => h) (Or.inl ⟨by rfl, ?_⟩) hS ?_
    rotate_left
    · (intro w hSw; (try dsimp only at hSw); go_simp; (first | done | with_reducible rfl))
    change wpAnyH _ _ _ _ _ _ _ (Act.put _ (some 8) _) _
    simp only [Act.put, List.setIfInBounds_toArray, List.set_cons_zero, List.set_cons_succ]
    refine wpAnyH_take (i := 4) (v := ?_) rfl (by kernel_rfl) (by kernel_rfl) (by kernel_rfl) (fun _ _ _ h => h) (Or.inl ⟨by rfl, ?_⟩) hS ?_
    rotate_left
    · (intro w hSw; (try dsimp only at hSw); go_simp; (first | done | with_reducible rfl))
    change wpAnyH _ _ _ _ _ _ _ (Act.put _ (some 9) _) _
    simp only [Act.put, List.setIfInBounds_toArray, List.set_cons_zero, List.set_cons_succ]
    refine wpAnyH_take (i := 5) (v := ?_) rfl (by kernel_rfl) (by kernel_rfl) (by kernel_rfl) (fun _ _ _ h => h) (Or.inl ⟨by rfl, ?_⟩) hS ?_
    rotate_left
    · (intro w hSw; (try dsimp only at hSw); go_simp; (first | done | with_reducible rfl))
    change wpAnyH _ _ _ _ _ _ _ (Act.put _ (some 10) _) _
    simp only [Act.put, List.setIfInBounds_toArray, List.set_cons_zero, List.set_cons_succ]
    refine wpAnyH_ready (rs := [6]) (by kernel_rfl) (by simp) ?_
    refine AllReadyH.cons rfl (fun K hK => ?_) AllReadyH.nil
    go_simp
    refine hK.out _ _ ⟨a0, a1⟩ (fun hS => ?_)
    clear hK K
    try simp only [Act.put, List.setIfInBounds_toArray, List.set_cons_zero, List.set_cons_succ]
    refine wpAnyH_ready (rs := [7]) (by kernel_rfl) (by simp) ?_
    refine AllReadyH.cons rfl (fun K hK => ?_) AllReadyH.nil
    go_simp
    refine hK.out _ _ ⟨b0, b1⟩ (fun hS => ?_)
    clear hK K
    try simp only [Act.put, List.setIfInBounds_toArray, List.set_cons_zero, List.set_cons_succ]
    refine wpAnyH_take (i := 8) (v := ?_) rfl (by kernel_rfl) (by kernel_rfl) (by kernel_rfl) (fun _ _ _ h => h) (Or.inl ⟨by rfl, ?_⟩) hS ?_
    rotate_left
    · (intro w hSw; (try dsimp only at hSw); go_simp; (first | done | with_reducible rfl))
    change wpAnyH _ _ _ _ _ _ _ (Act.put _ (some 4) _) _
    simp only [Act.put, List.setIfInBounds_toArray, List.set_cons_zero, List.set_cons_succ]
    refine wpAnyH_done (by kernel_rfl) ?_ _
    refine NoPanic.normal ?_
    go_wp2_with fail
    go_meet
    exact ⟨rfl, rfl, e0, e1.drew⟩
  case rest =>
  obtain ⟨rfl, rfl, ci, k1⟩ := hcut
  have c0 := k1.cell d0
  have c1 := k1.cell d1
  have c2 := k1.cell d2
  replace k0 := k0.trans k1
  have hM' := hM.keep k0
  generalize w0.heap.size = g at ci ⊢
  clear d0 d1 d2 k1
  have hck := check_f M.r.a M.r.c M.r.l M.r.l.length wc hM'.r.rd hM'.r.len (WalkArith.wf_i64 (by omega))
  rcases chkM_parts M.r.l (bidsOf M.bs) M.o.l with ⟨h1, hr⟩ | ⟨h1, h2, hr⟩ | ⟨h1, h2, hr⟩ | ⟨h1, h2, h3, h4, hr⟩ | ⟨h1, h2, h3, h4, hr⟩
  · rw [h1] at hck
    have HR := Lib.hid hr
    clear h1 hr
    go_wp2_with fail
    refine hck.mono ?_
    rintro e w2 ⟨rfl, k2⟩
    go_wp2_with fail
    go_ret
    exact ⟨by rw [HR.out]; rfl, k0.trans k2⟩
  · rw [h1] at hck
    rw [length_bids] at h2
    have HR := Lib.hid hr
    have hb : decide ((1 : Int) ≤ M.bs.length) = false := decide_eq_false (by omega)
    have hb2 : decide (1 ≤ M.bs.length) = false := decide_eq_false (by omega)
    have hb3 : (M.bs.length = 0) = True := eq_true (by omega)
    clear h1 hr h2
    go_wp2_with fail
    refine hck.mono ?_
    rintro e w2 ⟨rfl, k2⟩
    go_wp2_with fail
    go_ret
    exact ⟨by rw [HR.out]; rfl, k0.trans k2⟩
  · rw [h1] at hck
    rw [length_bids] at h2
    have HR := Lib.hid hr
    have hb : (1 : Int) ≤ M.bs.length := by omega
    have hb3 : (8 : Int) < M.bs.length := by omega
    clear h1 hr h2
    go_wp2_with fail
    refine hck.mono ?_
    rintro e w2 ⟨rfl, k2⟩
    go_wp2_with fail
    go_ret
    exact ⟨by rw [HR.out]; rfl, k0.trans k2⟩
  · rw [h1] at hck
    rw [length_bids] at h2 h3 h4
    have ho := fun w2 (k2 : Keep wc w2) => ordered_f M.o.a M.o.c M.o.l M.bs.length w2 ((hM'.keep k2).o.rd) hM.o.len ⟨h2, h3⟩
    rw [h4] at ho
    have HR := Lib.hid hr
    have hb : (1 : Int) ≤ M.bs.length := by omega
    have hb3 : (M.bs.length : Int) ≤ 8 := by omega
    clear h1 hr h4
    go_wp2_with fail
    refine hck.mono ?_
    rintro e w2 ⟨rfl, k2⟩
    have c2' := k2.cell c2
    go_wp2_with fail
    refine (ho w2 k2).mono ?_
    rintro e w3 ⟨rfl, k3⟩
    go_wp2_with fail
    go_ret
    exact ⟨by rw [HR.out]; rfl, (k0.trans k2).trans k3⟩
  · rw [h1] at hck
    rw [length_bids] at h2 h3 h4
    have ho := fun w2 (k2 : Keep wc w2) => ordered_f M.o.a M.o.c M.o.l M.bs.length w2 ((hM'.keep k2).o.rd) hM.o.len ⟨h2, h3⟩
    rw [h4] at ho
    have hcn := fun w2 (k2 : Keep wc w2) => containsM_f M.ba M.bc g M.r.l.length M.bs w2 ((hM'.keep k2).b) lr (k2.cell ci)
    have HR := Lib.hid hr
    have hb : (1 : Int) ≤ M.bs.length := by omega
    have hb3 : (M.bs.length : Int) ≤ 8 := by omega
    clear h1 hr h4
    go_wp2_with fail
    refine hck.mono ?_
    rintro e w2 ⟨rfl, k2⟩
    have c2' := k2.cell c2
    go_wp2_with fail
    refine (ho w2 k2).mono ?_
    rintro e w3 ⟨rfl, k3⟩
    have c1' := (k2.trans k3).cell c1
    go_wp2_with fail
    refine (hcn w3 (k2.trans k3)).mono ?_
    rintro e w4 ⟨rfl, k4⟩
    go_wp2_with fail
    go_ret
    exact ⟨by rw [HR.out]; rfl, ((k0.trans k2).trans k3).trans k4⟩
end Go.Proofs.YtjaaganaohjmaaaGreatDoor
