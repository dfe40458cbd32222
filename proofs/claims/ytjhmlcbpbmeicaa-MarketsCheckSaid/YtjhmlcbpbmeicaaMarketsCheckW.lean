/-
  THE WALK OF THE LAW MarketsCheck: it answers true, and turns nothing that was there. Conditions: the argument is a market that came in.
-/
import Derived.Test.YtjhmlcbpbmeicaaMktT
import Derived.Test.YtjhmlcbpbmeicaaMktU
import Derived.Deep.RegionHeld3
import Derived.Deep.CutRange
namespace Go.Proofs.Ytjhmlcbpbmeicaa
open Go.RowKit

set_option maxRecDepth 100000 in
set_option maxHeartbeats 8000000 in
theorem marketsCheck_w (M : Mkt) (w : World) (hM : M.Ok w) :
    Calls Try.prog 14 #[M.val] w fun e w' => e = .returned (.bool true) ∧ Below w.heap.size w w' := by
  have lr := hM.r.len.le
  have lb := hM.b.len.le
  have lo := hM.o.len.le
  have bM := Blk.new w 62 [.slice M.r.a M.r.l.length M.r.c, .slice M.ba M.bs.length M.bc, .slice M.o.a M.o.l.length M.o.c]
  have kk : Keep w (w.alloc (.cells #[.slice M.r.a M.r.l.length M.r.c, .slice M.ba M.bs.length M.bc, .slice M.o.a M.o.l.length M.o.c] 62)) := Keep.alloc1 _ _
  have hz := marketSize_f M _ (hM.keep kk)
  replace hM := hM.keep kk
  unfold Mkt.val at hz ⊢
  go_enter Try.func14, Try.ntmps14
  go_wp2_with fail
  refine hz.mono ?_
  rintro e w1 ⟨⟨z, rfl⟩, k1⟩
  clear hz
  generalize (w.alloc (.cells #[.slice M.r.a M.r.l.length M.r.c, .slice M.ba M.bs.length M.bc, .slice M.o.a M.o.l.length M.o.c] 62)) = wA at bM kk hM k1 ⊢
  generalize w.heap.size = gA at bM ⊢
  replace bM := bM.keep k1
  replace hM := hM.keep k1
  replace kk := kk.trans k1
  clear k1
  by_cases hzz : 3000 < z
  · have ha := alive05_f w1
    go_wp2_with fail
    refine ha.mono ?_
    rintro e w2 ⟨rfl, k2⟩
    go_wp2_with fail
    go_ret
    exact ⟨rfl, kk.trans k2⟩
  · have c0 := bM.cell_ (i := 0) rfl
    have c1 := bM.cell_ (i := 1) rfl
    have c2 := bM.cell_ (i := 2) rfl
    have hck := check_f M.r.a M.r.c M.r.l (M.r.l.length : Int) w1 hM.r.rd hM.r.len (WalkArith.wf_i64 (by omega))
    go_upto_region 4 with fail
    go_cut [4] from 15 to 39 (fun v wx => (∃ b, v = .bool b ∧ Hid (b = may0 M.r.l (bidsOf M.bs) M.o.l)) ∧ Keep w1 wx)
    case first =>
      rcases may0_cases M.r.l (bidsOf M.bs) M.o.l with ⟨h1, hb⟩ | ⟨h1, h2, hb⟩ | ⟨h1, h2, h3, hb⟩ | ⟨h1, h2, h3, h4, hb⟩ | ⟨h1, h2, h3, h4, hb⟩
      all_goals
        rw [h1] at hck
        try rw [length_bids] at h2
        try rw [length_bids] at h3
        try rw [length_bids] at h4
        have HB := Lib.hid hb
        clear hb h1
      · go_wp2_with fail
        refine hck.mono ?_
        rintro e w2 ⟨rfl, k2⟩
        go_wp2_with fail
        go_meet
        exact ⟨⟨_, rfl, Lib.hid HB.out.symm⟩, k2⟩
      · have z2 : decide ((1 : Int) ≤ M.bs.length) = false := decide_eq_false (by omega)
        clear h2
        go_wp2_with fail
        refine hck.mono ?_
        rintro e w2 ⟨rfl, k2⟩
        replace c1 := k2.cell c1
        go_wp2_with fail
        go_meet
        exact ⟨⟨_, rfl, Lib.hid HB.out.symm⟩, k2⟩
      · have z2 : decide ((1 : Int) ≤ M.bs.length) = true := decide_eq_true (by omega)
        have z3 : decide ((M.bs.length : Int) ≤ 8) = false := decide_eq_false (by omega)
        clear h2 h3
        go_wp2_with fail
        refine hck.mono ?_
        rintro e w2 ⟨rfl, k2⟩
        replace c1 := k2.cell c1
        go_wp2_with fail
        go_meet
        exact ⟨⟨_, rfl, Lib.hid HB.out.symm⟩, k2⟩
      · have z2 : decide ((1 : Int) ≤ M.bs.length) = true := decide_eq_true (by omega)
        have z3 : decide ((M.bs.length : Int) ≤ 8) = true := decide_eq_true (by omega)
        have z4 : ((M.o.l.length : Int) == M.bs.length) = false := beq_eq_false_iff_ne.2 (by omega)
        clear h2 h3 h4
        go_wp2_with fail
        refine hck.mono ?_
        rintro e w2 ⟨rfl, k2⟩
        replace c1 := k2.cell c1
        replace c2 := k2.cell c2
        go_wp2_with fail
        go_meet
        exact ⟨⟨_, rfl, Lib.hid HB.out.symm⟩, k2⟩
      · have z2 : decide ((1 : Int) ≤ M.bs.length) = true := decide_eq_true (by omega)
        have z3 : decide ((M.bs.length : Int) ≤ 8) = true := decide_eq_true (by omega)
        have z4 : ((M.o.l.length : Int) == M.bs.length) = true := beq_iff_eq.2 (by omega)
        clear h2 h3 h4
        go_wp2_with fail
        refine hck.mono ?_
        rintro e w2 ⟨rfl, k2⟩
        replace c1 := k2.cell c1
        replace c2 := k2.cell c2
        go_wp2_with fail
        go_meet
        exact ⟨⟨_, rfl, Lib.hid HB.out.symm⟩, k2⟩
    case rest =>
    obtain ⟨⟨b0, rfl, H0⟩, k2⟩ := hcut
    clear hck c0 c1 c2
    obtain ⟨w2, hw2⟩ : ∃ x, x = wc := ⟨wc, rfl⟩
    subst hw2
    replace bM := bM.keep k2
    replace hM := hM.keep k2
    replace kk := kk.trans k2
    clear k2
    go_wp2_with fail
    go_loopw [4, 5] (fun v i wr => ∃ (k : Nat) (b : Bool), k ≤ M.bs.length ∧ i = .int .i64 k ∧ v = .bool b ∧ Hid (b = mayB M.r.l (bidsOf M.bs) M.o.l k) ∧ Keep w2 wr) (fun _ i _ => M.bs.length - (intOf i).toNat)
    case atStart => exact ⟨0, b0, Nat.zero_le _, rfl, rfl, Lib.hid (by rw [H0.out, mayB_zero]), Keep.refl _⟩
    case round =>
      obtain ⟨k, b, hk, rfl, rfl, HB, hkeep⟩ := hrel
      have bR := bM.keep hkeep
      have d1 := bR.cell_ (i := 1) rfl
      by_cases hlt : k < M.bs.length
      · have hMr := hM.keep hkeep
        obtain ⟨b1, o1, s, hba, hsk, hc1, hs⟩ := hMr.b.at_ hlt
        have hbk : (bidsOf M.bs)[k]? = some s.l := by rw [bidsOf, List.getElem?_map, hsk]; rfl
        have HN := Lib.hid (mayB_snoc (R := M.r.l) (O := M.o.l) hbk)
        have HBA := Lib.hid hba
        rw [hba] at d1
        have ls := hs.len.le
        clear hbk hsk hba
        cases b with
        | false =>
          go_wp2_with fail
          go_roundw
          case rel => exact ⟨k + 1, false, by omega, by go_num, rfl, Lib.hid (by rw [HN.out, ← HB.out]; rfl), hkeep⟩
          case measure => simp [intOf]; omega
        | true =>
          by_cases hl : s.l.length = 0
          · have z1 : ((s.l.length : Int) == 0) = true := beq_iff_eq.2 (by omega)
            have HL := Lib.hid hl
            clear hl
            go_wp2_with fail
            go_roundw
            case rel => exact ⟨k + 1, true, by omega, by go_num, rfl, Lib.hid (by rw [HN.out, ← HB.out, decide_eq_true HL.out]; rfl), hkeep⟩
            case measure => simp [intOf]; omega
          · have z1 : ((s.l.length : Int) == 0) = false := beq_eq_false_iff_ne.2 (by omega)
            have hq := check_f s.a s.c s.l (M.r.l.length : Int) wr hs.rd hs.len (WalkArith.wf_i64 (by omega))
            have HL := Lib.hid hl
            clear hl
            go_wp2_with fail
            refine hq.mono ?_
            rintro e w3 ⟨rfl, k3⟩
            go_wp2_with fail
            go_roundw
            case rel => exact ⟨k + 1, chk s.l M.r.l.length, by omega, by go_num, rfl, Lib.hid (by rw [HN.out, ← HB.out, decide_eq_false HL.out]; rfl), hkeep.trans k3⟩
            case measure => simp [intOf]; omega
      · have hke : k = (bidsOf M.bs).length := by rw [length_bids]; omega
        have HS : Hid (b = mayO M.r.l (bidsOf M.bs) M.o.l 0) := Lib.hid (by rw [HB.out, mayO_zero, hke])
        clear hke HB H0
        go_wp2_with fail
        replace kk := kk.trans hkeep
        replace hM := hM.keep hkeep
        replace bM := bR
        clear bR d1 hkeep
        obtain ⟨w3, hw3⟩ : ∃ x, x = wr := ⟨wr, rfl⟩
        subst hw3
        go_loopw [4, 6] (fun v i wr => ∃ (i' : Nat) (b : Bool), i' ≤ M.o.l.length ∧ i = .int .i64 i' ∧ v = .bool b ∧ Hid (b = mayO M.r.l (bidsOf M.bs) M.o.l i') ∧ Keep w3 wr) (fun _ i _ => M.o.l.length - (intOf i).toNat)
        case atStart => exact ⟨0, b, Nat.zero_le _, rfl, rfl, HS, Keep.refl _⟩
        case round =>
          clear HS
          obtain ⟨i, b, hi, rfl, rfl, HB, hkeep⟩ := hrel
          have bR := bM.keep hkeep
          have d1 := bR.cell_ (i := 1) rfl
          have d2 := bR.cell_ (i := 2) rfl
          by_cases hlt : i < M.o.l.length
          · have hMr := hM.keep hkeep
            obtain ⟨b2, o2, x, hoa, hxk, hc2⟩ := hMr.o.rd.int_at hlt
            have HX := Lib.hid hxk
            have HOA := Lib.hid hoa
            rw [hoa] at d2
            clear hxk hoa
            have hi1 : (i : Int) < M.o.l.length := by omega
            go_upto_region 12 with fail
            go_cut [4] from 73 to 92 (fun v wx => (∃ b', v = .bool b' ∧ Hid (b' = mayX M.r.l (bidsOf M.bs) M.o.l i 0 x)) ∧ Keep w3 wx)
            case first =>
              cases b with
              | false =>
                have HR : Hid (false = mayX M.r.l (bidsOf M.bs) M.o.l i 0 x) := Lib.hid (by unfold mayX; rw [← HB.out]; rfl)
                refine wp_region_noPanic ?_
                refine wp_region_held_drew (S := (fun w' => w'.cell? ⟨gA, 1, none⟩ = some (.slice M.ba M.bs.length M.bc) ∧ w'.cell? ⟨gA, 2, none⟩ = some (.slice (some ⟨b2, o2, none⟩) M.o.l.length M.o.c) ∧ w'.cell? ⟨b2, o2 + i, none⟩ = some (.int .i64 x))) (by kernel_rfl) ⟨d1, d2, hc2⟩ (fun hS => ?_)
                refine wpAnyH_take (i := 0) (v := ?_) rfl (by kernel_rfl) (by kernel_rfl) (by kernel_rfl) (fun _ _ _ h => h) (Or.inl ⟨by rfl, ?_⟩) hS ?_
                rotate_left
                · (intro w hSw; (try dsimp only at hSw); go_simp; (first | done | with_reducible rfl))
                change wpAnyH _ _ _ _ _ _ _ (Act.put _ (some 73) _) _
                simp only [Act.put, List.setIfInBounds_toArray, List.set_cons_zero, List.set_cons_succ]
                refine wpAnyH_take (i := 1) (v := ?_) rfl (by kernel_rfl) (by kernel_rfl) (by kernel_rfl) (fun _ _ _ h => h) (Or.inl ⟨by rfl, ?_⟩) hS ?_
                rotate_left
                · (intro w hSw; (try dsimp only at hSw); go_simp; (first | done | with_reducible rfl))
                change wpAnyH _ _ _ _ _ _ _ (Act.put _ (some 74) _) _
                simp only [Act.put, List.setIfInBounds_toArray, List.set_cons_zero, List.set_cons_succ]
                refine wpAnyH_take (i := 2) (v := undef) rfl (by kernel_rfl) (by kernel_rfl) (by kernel_rfl) (fun _ _ _ h => h) (Or.inr ⟨by rfl, rfl⟩) hS ?_
                change wpAnyH _ _ _ _ _ _ _ (Act.put _ (some 75) _) _
                simp only [Act.put, List.setIfInBounds_toArray, List.set_cons_zero, List.set_cons_succ]
                refine wpAnyH_take (i := 3) (v := undef) rfl (by kernel_rfl) (by kernel_rfl) (by kernel_rfl) (fun _ _ _ h => h) (Or.inr ⟨by rfl, rfl⟩) hS ?_
                change wpAnyH _ _ _ _ _ _ _ (Act.put _ (some 76) _) _
                simp only [Act.put, List.setIfInBounds_toArray, List.set_cons_zero, List.set_cons_succ]
                refine wpAnyH_take (i := 4) (v := undef) rfl (by kernel_rfl) (by kernel_rfl) (by kernel_rfl) (fun _ _ _ h => h) (Or.inr ⟨by rfl, rfl⟩) hS ?_
                change wpAnyH _ _ _ _ _ _ _ (Act.put _ (some 77) _) _
                simp only [Act.put, List.setIfInBounds_toArray, List.set_cons_zero, List.set_cons_succ]
                refine wpAnyH_take (i := 5) (v := undef) rfl (by kernel_rfl) (by kernel_rfl) (by kernel_rfl) (fun _ _ _ h => h) (Or.inr ⟨by rfl, rfl⟩) hS ?_
                change wpAnyH _ _ _ _ _ _ _ (Act.put _ (some 78) _) _
                simp only [Act.put, List.setIfInBounds_toArray, List.set_cons_zero, List.set_cons_succ]
                refine wpAnyH_take (i := 6) (v := undef) rfl (by kernel_rfl) (by kernel_rfl) (by kernel_rfl) (fun _ _ _ h => h) (Or.inr ⟨by rfl, rfl⟩) hS ?_
                change wpAnyH _ _ _ _ _ _ _ (Act.put _ (some 79) _) _
                simp only [Act.put, List.setIfInBounds_toArray, List.set_cons_zero, List.set_cons_succ]
                refine wpAnyH_take (i := 7) (v := undef) rfl (by kernel_rfl) (by kernel_rfl) (by kernel_rfl) (fun _ _ _ h => h) (Or.inr ⟨by rfl, rfl⟩) hS ?_
                change wpAnyH _ _ _ _ _ _ _ (Act.put _ (some 80) _) _
                simp only [Act.put, List.setIfInBounds_toArray, List.set_cons_zero, List.set_cons_succ]
                refine wpAnyH_take (i := 8) (v := ?_) rfl (by kernel_rfl) (by kernel_rfl) (by kernel_rfl) (fun _ _ _ h => h) (Or.inl ⟨by rfl, ?_⟩) hS ?_
                rotate_left
                · (intro w hSw; (try dsimp only at hSw); go_simp; (first | done | with_reducible rfl))
                change wpAnyH _ _ _ _ _ _ _ (Act.put _ (some 81) _) _
                simp only [Act.put, List.setIfInBounds_toArray, List.set_cons_zero, List.set_cons_succ]
                refine wpAnyH_take (i := 9) (v := ?_) rfl (by kernel_rfl) (by kernel_rfl) (by kernel_rfl) (fun _ _ _ h => h) (Or.inl ⟨by rfl, ?_⟩) hS ?_
                rotate_left
                · (intro w hSw; (try dsimp only at hSw); go_simp; (first | done | with_reducible rfl))
                change wpAnyH _ _ _ _ _ _ _ (Act.put _ (some 82) _) _
                simp only [Act.put, List.setIfInBounds_toArray, List.set_cons_zero, List.set_cons_succ]
                refine wpAnyH_take (i := 10) (v := undef) rfl (by kernel_rfl) (by kernel_rfl) (by kernel_rfl) (fun _ _ _ h => h) (Or.inr ⟨by rfl, rfl⟩) hS ?_
                change wpAnyH _ _ _ _ _ _ _ (Act.put _ (some 83) _) _
                simp only [Act.put, List.setIfInBounds_toArray, List.set_cons_zero, List.set_cons_succ]
                refine wpAnyH_take (i := 11) (v := undef) rfl (by kernel_rfl) (by kernel_rfl) (by kernel_rfl) (fun _ _ _ h => h) (Or.inr ⟨by rfl, rfl⟩) hS ?_
                change wpAnyH _ _ _ _ _ _ _ (Act.put _ (some 84) _) _
                simp only [Act.put, List.setIfInBounds_toArray, List.set_cons_zero, List.set_cons_succ]
                refine wpAnyH_take (i := 12) (v := undef) rfl (by kernel_rfl) (by kernel_rfl) (by kernel_rfl) (fun _ _ _ h => h) (Or.inr ⟨by rfl, rfl⟩) hS ?_
                change wpAnyH _ _ _ _ _ _ _ (Act.put _ (some 85) _) _
                simp only [Act.put, List.setIfInBounds_toArray, List.set_cons_zero, List.set_cons_succ]
                refine wpAnyH_take (i := 13) (v := undef) rfl (by kernel_rfl) (by kernel_rfl) (by kernel_rfl) (fun _ _ _ h => h) (Or.inr ⟨by rfl, rfl⟩) hS ?_
                change wpAnyH _ _ _ _ _ _ _ (Act.put _ (some 86) _) _
                simp only [Act.put, List.setIfInBounds_toArray, List.set_cons_zero, List.set_cons_succ]
                refine wpAnyH_take (i := 14) (v := undef) rfl (by kernel_rfl) (by kernel_rfl) (by kernel_rfl) (fun _ _ _ h => h) (Or.inr ⟨by rfl, rfl⟩) hS ?_
                change wpAnyH _ _ _ _ _ _ _ (Act.put _ (some 87) _) _
                simp only [Act.put, List.setIfInBounds_toArray, List.set_cons_zero, List.set_cons_succ]
                refine wpAnyH_take (i := 15) (v := undef) rfl (by kernel_rfl) (by kernel_rfl) (by kernel_rfl) (fun _ _ _ h => h) (Or.inr ⟨by rfl, rfl⟩) hS ?_
                change wpAnyH _ _ _ _ _ _ _ (Act.put _ (some 88) _) _
                simp only [Act.put, List.setIfInBounds_toArray, List.set_cons_zero, List.set_cons_succ]
                refine wpAnyH_take (i := 16) (v := undef) rfl (by kernel_rfl) (by kernel_rfl) (by kernel_rfl) (fun _ _ _ h => h) (Or.inr ⟨by rfl, rfl⟩) hS ?_
                change wpAnyH _ _ _ _ _ _ _ (Act.put _ (some 89) _) _
                simp only [Act.put, List.setIfInBounds_toArray, List.set_cons_zero, List.set_cons_succ]
                refine wpAnyH_take (i := 17) (v := undef) rfl (by kernel_rfl) (by kernel_rfl) (by kernel_rfl) (fun _ _ _ h => h) (Or.inr ⟨by rfl, rfl⟩) hS ?_
                change wpAnyH _ _ _ _ _ _ _ (Act.put _ (some 90) _) _
                simp only [Act.put, List.setIfInBounds_toArray, List.set_cons_zero, List.set_cons_succ]
                refine wpAnyH_take (i := 18) (v := undef) rfl (by kernel_rfl) (by kernel_rfl) (by kernel_rfl) (fun _ _ _ h => h) (Or.inr ⟨by rfl, rfl⟩) hS ?_
                change wpAnyH _ _ _ _ _ _ _ (Act.put _ (some 91) _) _
                simp only [Act.put, List.setIfInBounds_toArray, List.set_cons_zero, List.set_cons_succ]
                refine wpAnyH_take (i := 19) (v := ?_) rfl (by kernel_rfl) (by kernel_rfl) (by kernel_rfl) (fun _ _ _ h => h) (Or.inl ⟨by rfl, ?_⟩) hS ?_
                rotate_left
                · (intro w hSw; (try dsimp only at hSw); go_simp; (first | done | with_reducible rfl))
                change wpAnyH _ _ _ _ _ _ _ (Act.put _ (some 92) _) _
                simp only [Act.put, List.setIfInBounds_toArray, List.set_cons_zero, List.set_cons_succ]
                refine wpAnyH_take (i := 20) (v := ?_) rfl (by kernel_rfl) (by kernel_rfl) (by kernel_rfl) (fun _ _ _ h => h) (Or.inl ⟨by rfl, ?_⟩) hS ?_
                rotate_left
                · (intro w hSw; (try dsimp only at hSw); go_simp; (first | done | with_reducible rfl))
                change wpAnyH _ _ _ _ _ _ _ (Act.put _ (some 4) _) _
                simp only [Act.put, List.setIfInBounds_toArray, List.set_cons_zero, List.set_cons_succ]
                refine wpAnyH_done (by kernel_rfl) ?_ _
                refine NoPanic.normal ?_
                go_wp2_with fail
                go_meet
                exact ⟨⟨_, rfl, HR⟩, hkeep.drew⟩
              | true =>
                by_cases hx0 : 0 ≤ x
                · by_cases hx1 : x < (M.bs.length : Int)
                  · have HR : Hid (true = mayX M.r.l (bidsOf M.bs) M.o.l i 0 x) := Lib.hid (by unfold mayX; rw [← HB.out, length_bids, decide_eq_true hx0, decide_eq_true hx1]; rfl)
                    refine wp_region_noPanic ?_
                    refine wp_region_held_drew (S := (fun w' => w'.cell? ⟨gA, 1, none⟩ = some (.slice M.ba M.bs.length M.bc) ∧ w'.cell? ⟨gA, 2, none⟩ = some (.slice (some ⟨b2, o2, none⟩) M.o.l.length M.o.c) ∧ w'.cell? ⟨b2, o2 + i, none⟩ = some (.int .i64 x))) (by kernel_rfl) ⟨d1, d2, hc2⟩ (fun hS => ?_)
                    refine wpAnyH_take (i := 0) (v := ?_) rfl (by kernel_rfl) (by kernel_rfl) (by kernel_rfl) (fun _ _ _ h => h) (Or.inl ⟨by rfl, ?_⟩) hS ?_
                    rotate_left
                    · (intro w hSw; (try dsimp only at hSw); go_simp; (first | done | with_reducible rfl))
                    change wpAnyH _ _ _ _ _ _ _ (Act.put _ (some 73) _) _
                    simp only [Act.put, List.setIfInBounds_toArray, List.set_cons_zero, List.set_cons_succ]
                    refine wpAnyH_take (i := 1) (v := ?_) rfl (by kernel_rfl) (by kernel_rfl) (by kernel_rfl) (fun _ _ _ h => h) (Or.inl ⟨by rfl, ?_⟩) hS ?_
                    rotate_left
                    · (intro w hSw; (try dsimp only at hSw); go_simp; (first | done | with_reducible rfl))
                    change wpAnyH _ _ _ _ _ _ _ (Act.put _ (some 74) _) _
                    simp only [Act.put, List.setIfInBounds_toArray, List.set_cons_zero, List.set_cons_succ]
                    refine wpAnyH_take (i := 2) (v := ?_) rfl (by kernel_rfl) (by kernel_rfl) (by kernel_rfl) (fun _ _ _ h => h) (Or.inl ⟨by rfl, ?_⟩) hS ?_
                    rotate_left
                    · (intro w hSw; (try dsimp only at hSw); go_simp; (first | done | with_reducible rfl))
                    change wpAnyH _ _ _ _ _ _ _ (Act.put _ (some 75) _) _
                    simp only [Act.put, List.setIfInBounds_toArray, List.set_cons_zero, List.set_cons_succ]
                    refine wpAnyH_take (i := 3) (v := ?_) rfl (by kernel_rfl) (by kernel_rfl) (by kernel_rfl) (fun _ _ _ h => h) (Or.inl ⟨by rfl, ?_⟩) hS ?_
                    rotate_left
                    · (intro w hSw; (try dsimp only at hSw); go_simp; (first | done | with_reducible rfl))
                    change wpAnyH _ _ _ _ _ _ _ (Act.put _ (some 76) _) _
                    simp only [Act.put, List.setIfInBounds_toArray, List.set_cons_zero, List.set_cons_succ]
                    refine wpAnyH_take (i := 4) (v := ?_) rfl (by kernel_rfl) (by kernel_rfl) (by kernel_rfl) (fun _ _ _ h => h) (Or.inl ⟨by rfl, ?_⟩) hS ?_
                    rotate_left
                    · (intro w hSw; (try dsimp only at hSw); go_simp; (first | done | with_reducible rfl))
                    change wpAnyH _ _ _ _ _ _ _ (Act.put _ (some 77) _) _
                    simp only [Act.put, List.setIfInBounds_toArray, List.set_cons_zero, List.set_cons_succ]
                    refine wpAnyH_take (i := 5) (v := ?_) rfl (by kernel_rfl) (by kernel_rfl) (by kernel_rfl) (fun _ _ _ h => h) (Or.inl ⟨by rfl, ?_⟩) hS ?_
                    rotate_left
                    · (intro w hSw; (try dsimp only at hSw); go_simp; (first | done | with_reducible rfl))
                    change wpAnyH _ _ _ _ _ _ _ (Act.put _ (some 78) _) _
                    simp only [Act.put, List.setIfInBounds_toArray, List.set_cons_zero, List.set_cons_succ]
                    refine wpAnyH_take (i := 6) (v := ?_) rfl (by kernel_rfl) (by kernel_rfl) (by kernel_rfl) (fun _ _ _ h => h) (Or.inl ⟨by rfl, ?_⟩) hS ?_
                    rotate_left
                    · (intro w hSw; (try dsimp only at hSw); go_simp; (first | done | with_reducible rfl))
                    change wpAnyH _ _ _ _ _ _ _ (Act.put _ (some 79) _) _
                    simp only [Act.put, List.setIfInBounds_toArray, List.set_cons_zero, List.set_cons_succ]
                    refine wpAnyH_take (i := 7) (v := ?_) rfl (by kernel_rfl) (by kernel_rfl) (by kernel_rfl) (fun _ _ _ h => h) (Or.inl ⟨by rfl, ?_⟩) hS ?_
                    rotate_left
                    · (intro w hSw; (try dsimp only at hSw); go_simp; (first | done | with_reducible rfl))
                    change wpAnyH _ _ _ _ _ _ _ (Act.put _ (some 80) _) _
                    simp only [Act.put, List.setIfInBounds_toArray, List.set_cons_zero, List.set_cons_succ]
                    refine wpAnyH_take (i := 8) (v := ?_) rfl (by kernel_rfl) (by kernel_rfl) (by kernel_rfl) (fun _ _ _ h => h) (Or.inl ⟨by rfl, ?_⟩) hS ?_
                    rotate_left
                    · (intro w hSw; (try dsimp only at hSw); go_simp; (first | done | with_reducible rfl))
                    change wpAnyH _ _ _ _ _ _ _ (Act.put _ (some 81) _) _
                    simp only [Act.put, List.setIfInBounds_toArray, List.set_cons_zero, List.set_cons_succ]
                    refine wpAnyH_take (i := 9) (v := ?_) rfl (by kernel_rfl) (by kernel_rfl) (by kernel_rfl) (fun _ _ _ h => h) (Or.inl ⟨by rfl, ?_⟩) hS ?_
                    rotate_left
                    · (intro w hSw; (try dsimp only at hSw); go_simp; (first | done | with_reducible rfl))
                    change wpAnyH _ _ _ _ _ _ _ (Act.put _ (some 82) _) _
                    simp only [Act.put, List.setIfInBounds_toArray, List.set_cons_zero, List.set_cons_succ]
                    refine wpAnyH_take (i := 10) (v := ?_) rfl (by kernel_rfl) (by kernel_rfl) (by kernel_rfl) (fun _ _ _ h => h) (Or.inl ⟨by rfl, ?_⟩) hS ?_
                    rotate_left
                    · (intro w hSw; (try dsimp only at hSw); go_simp; (first | done | with_reducible rfl))
                    change wpAnyH _ _ _ _ _ _ _ (Act.put _ (some 83) _) _
                    simp only [Act.put, List.setIfInBounds_toArray, List.set_cons_zero, List.set_cons_succ]
                    refine wpAnyH_take (i := 11) (v := ?_) rfl (by kernel_rfl) (by kernel_rfl) (by kernel_rfl) (fun _ _ _ h => h) (Or.inl ⟨by rfl, ?_⟩) hS ?_
                    rotate_left
                    · (intro w hSw; (try dsimp only at hSw); go_simp; (first | done | with_reducible rfl))
                    change wpAnyH _ _ _ _ _ _ _ (Act.put _ (some 84) _) _
                    simp only [Act.put, List.setIfInBounds_toArray, List.set_cons_zero, List.set_cons_succ]
                    refine wpAnyH_take (i := 12) (v := ?_) rfl (by kernel_rfl) (by kernel_rfl) (by kernel_rfl) (fun _ _ _ h => h) (Or.inl ⟨by rfl, ?_⟩) hS ?_
                    rotate_left
                    · (intro w hSw; (try dsimp only at hSw); go_simp; (first | done | with_reducible rfl))
                    change wpAnyH _ _ _ _ _ _ _ (Act.put _ (some 85) _) _
                    simp only [Act.put, List.setIfInBounds_toArray, List.set_cons_zero, List.set_cons_succ]
                    refine wpAnyH_take (i := 13) (v := ?_) rfl (by kernel_rfl) (by kernel_rfl) (by kernel_rfl) (fun _ _ _ h => h) (Or.inl ⟨by rfl, ?_⟩) hS ?_
                    rotate_left
                    · (intro w hSw; (try dsimp only at hSw); go_simp; (first | done | with_reducible rfl))
                    change wpAnyH _ _ _ _ _ _ _ (Act.put _ (some 86) _) _
                    simp only [Act.put, List.setIfInBounds_toArray, List.set_cons_zero, List.set_cons_succ]
                    refine wpAnyH_take (i := 14) (v := ?_) rfl (by kernel_rfl) (by kernel_rfl) (by kernel_rfl) (fun _ _ _ h => h) (Or.inl ⟨by rfl, ?_⟩) hS ?_
                    rotate_left
                    · (intro w hSw; (try dsimp only at hSw); go_simp; (first | done | with_reducible rfl))
                    change wpAnyH _ _ _ _ _ _ _ (Act.put _ (some 87) _) _
                    simp only [Act.put, List.setIfInBounds_toArray, List.set_cons_zero, List.set_cons_succ]
                    refine wpAnyH_take (i := 15) (v := ?_) rfl (by kernel_rfl) (by kernel_rfl) (by kernel_rfl) (fun _ _ _ h => h) (Or.inl ⟨by rfl, ?_⟩) hS ?_
                    rotate_left
                    · (intro w hSw; (try dsimp only at hSw); go_simp; (first | done | with_reducible rfl))
                    change wpAnyH _ _ _ _ _ _ _ (Act.put _ (some 88) _) _
                    simp only [Act.put, List.setIfInBounds_toArray, List.set_cons_zero, List.set_cons_succ]
                    refine wpAnyH_take (i := 16) (v := ?_) rfl (by kernel_rfl) (by kernel_rfl) (by kernel_rfl) (fun _ _ _ h => h) (Or.inl ⟨by rfl, ?_⟩) hS ?_
                    rotate_left
                    · (intro w hSw; (try dsimp only at hSw); go_simp; (first | done | with_reducible rfl))
                    change wpAnyH _ _ _ _ _ _ _ (Act.put _ (some 89) _) _
                    simp only [Act.put, List.setIfInBounds_toArray, List.set_cons_zero, List.set_cons_succ]
                    refine wpAnyH_take (i := 17) (v := ?_) rfl (by kernel_rfl) (by kernel_rfl) (by kernel_rfl) (fun _ _ _ h => h) (Or.inl ⟨by rfl, ?_⟩) hS ?_
                    rotate_left
                    · (intro w hSw; (try dsimp only at hSw); go_simp; (first | done | with_reducible rfl))
                    change wpAnyH _ _ _ _ _ _ _ (Act.put _ (some 90) _) _
                    simp only [Act.put, List.setIfInBounds_toArray, List.set_cons_zero, List.set_cons_succ]
                    refine wpAnyH_take (i := 18) (v := ?_) rfl (by kernel_rfl) (by kernel_rfl) (by kernel_rfl) (fun _ _ _ h => h) (Or.inl ⟨by rfl, ?_⟩) hS ?_
                    rotate_left
                    · (intro w hSw; (try dsimp only at hSw); go_simp; (first | done | with_reducible rfl))
                    change wpAnyH _ _ _ _ _ _ _ (Act.put _ (some 91) _) _
                    simp only [Act.put, List.setIfInBounds_toArray, List.set_cons_zero, List.set_cons_succ]
                    refine wpAnyH_take (i := 19) (v := ?_) rfl (by kernel_rfl) (by kernel_rfl) (by kernel_rfl) (fun _ _ _ h => h) (Or.inl ⟨by rfl, ?_⟩) hS ?_
                    rotate_left
                    · (intro w hSw; (try dsimp only at hSw); go_simp; (first | done | with_reducible rfl))
                    change wpAnyH _ _ _ _ _ _ _ (Act.put _ (some 92) _) _
                    simp only [Act.put, List.setIfInBounds_toArray, List.set_cons_zero, List.set_cons_succ]
                    refine wpAnyH_take (i := 20) (v := ?_) rfl (by kernel_rfl) (by kernel_rfl) (by kernel_rfl) (fun _ _ _ h => h) (Or.inl ⟨by rfl, ?_⟩) hS ?_
                    rotate_left
                    · (intro w hSw; (try dsimp only at hSw); go_simp; (first | done | with_reducible rfl))
                    change wpAnyH _ _ _ _ _ _ _ (Act.put _ (some 4) _) _
                    simp only [Act.put, List.setIfInBounds_toArray, List.set_cons_zero, List.set_cons_succ]
                    refine wpAnyH_done (by kernel_rfl) ?_ _
                    refine NoPanic.normal ?_
                    go_wp2_with fail
                    go_meet
                    exact ⟨⟨_, rfl, HR⟩, hkeep.drew⟩
                  · have HR : Hid (false = mayX M.r.l (bidsOf M.bs) M.o.l i 0 x) := Lib.hid (by unfold mayX; rw [← HB.out, length_bids, decide_eq_true hx0, decide_eq_false hx1]; rfl)
                    have z1 : decide (x < (M.bs.length : Int)) = false := decide_eq_false hx1
                    refine wp_region_noPanic ?_
                    refine wp_region_held_drew (S := (fun w' => w'.cell? ⟨gA, 1, none⟩ = some (.slice M.ba M.bs.length M.bc) ∧ w'.cell? ⟨gA, 2, none⟩ = some (.slice (some ⟨b2, o2, none⟩) M.o.l.length M.o.c) ∧ w'.cell? ⟨b2, o2 + i, none⟩ = some (.int .i64 x))) (by kernel_rfl) ⟨d1, d2, hc2⟩ (fun hS => ?_)
                    refine wpAnyH_take (i := 0) (v := ?_) rfl (by kernel_rfl) (by kernel_rfl) (by kernel_rfl) (fun _ _ _ h => h) (Or.inl ⟨by rfl, ?_⟩) hS ?_
                    rotate_left
                    · (intro w hSw; (try dsimp only at hSw); go_simp; (first | done | with_reducible rfl))
                    change wpAnyH _ _ _ _ _ _ _ (Act.put _ (some 73) _) _
                    simp only [Act.put, List.setIfInBounds_toArray, List.set_cons_zero, List.set_cons_succ]
                    refine wpAnyH_take (i := 1) (v := ?_) rfl (by kernel_rfl) (by kernel_rfl) (by kernel_rfl) (fun _ _ _ h => h) (Or.inl ⟨by rfl, ?_⟩) hS ?_
                    rotate_left
                    · (intro w hSw; (try dsimp only at hSw); go_simp; (first | done | with_reducible rfl))
                    change wpAnyH _ _ _ _ _ _ _ (Act.put _ (some 74) _) _
                    simp only [Act.put, List.setIfInBounds_toArray, List.set_cons_zero, List.set_cons_succ]
                    refine wpAnyH_take (i := 2) (v := ?_) rfl (by kernel_rfl) (by kernel_rfl) (by kernel_rfl) (fun _ _ _ h => h) (Or.inl ⟨by rfl, ?_⟩) hS ?_
                    rotate_left
                    · (intro w hSw; (try dsimp only at hSw); go_simp; (first | done | with_reducible rfl))
                    change wpAnyH _ _ _ _ _ _ _ (Act.put _ (some 75) _) _
                    simp only [Act.put, List.setIfInBounds_toArray, List.set_cons_zero, List.set_cons_succ]
                    refine wpAnyH_take (i := 3) (v := ?_) rfl (by kernel_rfl) (by kernel_rfl) (by kernel_rfl) (fun _ _ _ h => h) (Or.inl ⟨by rfl, ?_⟩) hS ?_
                    rotate_left
                    · (intro w hSw; (try dsimp only at hSw); go_simp; (first | done | with_reducible rfl))
                    change wpAnyH _ _ _ _ _ _ _ (Act.put _ (some 76) _) _
                    simp only [Act.put, List.setIfInBounds_toArray, List.set_cons_zero, List.set_cons_succ]
                    refine wpAnyH_take (i := 4) (v := ?_) rfl (by kernel_rfl) (by kernel_rfl) (by kernel_rfl) (fun _ _ _ h => h) (Or.inl ⟨by rfl, ?_⟩) hS ?_
                    rotate_left
                    · (intro w hSw; (try dsimp only at hSw); go_simp; (first | done | with_reducible rfl))
                    change wpAnyH _ _ _ _ _ _ _ (Act.put _ (some 77) _) _
                    simp only [Act.put, List.setIfInBounds_toArray, List.set_cons_zero, List.set_cons_succ]
                    refine wpAnyH_take (i := 5) (v := ?_) rfl (by kernel_rfl) (by kernel_rfl) (by kernel_rfl) (fun _ _ _ h => h) (Or.inl ⟨by rfl, ?_⟩) hS ?_
                    rotate_left
                    · (intro w hSw; (try dsimp only at hSw); go_simp; (first | done | with_reducible rfl))
                    change wpAnyH _ _ _ _ _ _ _ (Act.put _ (some 78) _) _
                    simp only [Act.put, List.setIfInBounds_toArray, List.set_cons_zero, List.set_cons_succ]
                    refine wpAnyH_take (i := 6) (v := ?_) rfl (by kernel_rfl) (by kernel_rfl) (by kernel_rfl) (fun _ _ _ h => h) (Or.inl ⟨by rfl, ?_⟩) hS ?_
                    rotate_left
                    · (intro w hSw; (try dsimp only at hSw); go_simp; (first | done | with_reducible rfl))
                    change wpAnyH _ _ _ _ _ _ _ (Act.put _ (some 79) _) _
                    simp only [Act.put, List.setIfInBounds_toArray, List.set_cons_zero, List.set_cons_succ]
                    refine wpAnyH_take (i := 7) (v := ?_) rfl (by kernel_rfl) (by kernel_rfl) (by kernel_rfl) (fun _ _ _ h => h) (Or.inl ⟨by rfl, ?_⟩) hS ?_
                    rotate_left
                    · (intro w hSw; (try dsimp only at hSw); go_simp; (first | done | with_reducible rfl))
                    change wpAnyH _ _ _ _ _ _ _ (Act.put _ (some 80) _) _
                    simp only [Act.put, List.setIfInBounds_toArray, List.set_cons_zero, List.set_cons_succ]
                    refine wpAnyH_take (i := 8) (v := ?_) rfl (by kernel_rfl) (by kernel_rfl) (by kernel_rfl) (fun _ _ _ h => h) (Or.inl ⟨by rfl, ?_⟩) hS ?_
                    rotate_left
                    · (intro w hSw; (try dsimp only at hSw); go_simp; (first | done | with_reducible rfl))
                    change wpAnyH _ _ _ _ _ _ _ (Act.put _ (some 81) _) _
                    simp only [Act.put, List.setIfInBounds_toArray, List.set_cons_zero, List.set_cons_succ]
                    refine wpAnyH_take (i := 9) (v := ?_) rfl (by kernel_rfl) (by kernel_rfl) (by kernel_rfl) (fun _ _ _ h => h) (Or.inl ⟨by rfl, ?_⟩) hS ?_
                    rotate_left
                    · (intro w hSw; (try dsimp only at hSw); go_simp; (first | done | with_reducible rfl))
                    change wpAnyH _ _ _ _ _ _ _ (Act.put _ (some 82) _) _
                    simp only [Act.put, List.setIfInBounds_toArray, List.set_cons_zero, List.set_cons_succ]
                    refine wpAnyH_take (i := 10) (v := ?_) rfl (by kernel_rfl) (by kernel_rfl) (by kernel_rfl) (fun _ _ _ h => h) (Or.inl ⟨by rfl, ?_⟩) hS ?_
                    rotate_left
                    · (intro w hSw; (try dsimp only at hSw); go_simp; (first | done | with_reducible rfl))
                    change wpAnyH _ _ _ _ _ _ _ (Act.put _ (some 83) _) _
                    simp only [Act.put, List.setIfInBounds_toArray, List.set_cons_zero, List.set_cons_succ]
                    refine wpAnyH_take (i := 11) (v := ?_) rfl (by kernel_rfl) (by kernel_rfl) (by kernel_rfl) (fun _ _ _ h => h) (Or.inl ⟨by rfl, ?_⟩) hS ?_
                    rotate_left
                    · (intro w hSw; (try dsimp only at hSw); go_simp; (first | done | with_reducible rfl))
                    change wpAnyH _ _ _ _ _ _ _ (Act.put _ (some 84) _) _
                    simp only [Act.put, List.setIfInBounds_toArray, List.set_cons_zero, List.set_cons_succ]
                    refine wpAnyH_take (i := 12) (v := ?_) rfl (by kernel_rfl) (by kernel_rfl) (by kernel_rfl) (fun _ _ _ h => h) (Or.inl ⟨by rfl, ?_⟩) hS ?_
                    rotate_left
                    · (intro w hSw; (try dsimp only at hSw); go_simp; (first | done | with_reducible rfl))
                    change wpAnyH _ _ _ _ _ _ _ (Act.put _ (some 85) _) _
                    simp only [Act.put, List.setIfInBounds_toArray, List.set_cons_zero, List.set_cons_succ]
                    refine wpAnyH_take (i := 13) (v := ?_) rfl (by kernel_rfl) (by kernel_rfl) (by kernel_rfl) (fun _ _ _ h => h) (Or.inl ⟨by rfl, ?_⟩) hS ?_
                    rotate_left
                    · (intro w hSw; (try dsimp only at hSw); go_simp; (first | done | with_reducible rfl))
                    change wpAnyH _ _ _ _ _ _ _ (Act.put _ (some 86) _) _
                    simp only [Act.put, List.setIfInBounds_toArray, List.set_cons_zero, List.set_cons_succ]
                    refine wpAnyH_take (i := 14) (v := ?_) rfl (by kernel_rfl) (by kernel_rfl) (by kernel_rfl) (fun _ _ _ h => h) (Or.inl ⟨by rfl, ?_⟩) hS ?_
                    rotate_left
                    · (intro w hSw; (try dsimp only at hSw); go_simp; (first | done | with_reducible rfl))
                    change wpAnyH _ _ _ _ _ _ _ (Act.put _ (some 87) _) _
                    simp only [Act.put, List.setIfInBounds_toArray, List.set_cons_zero, List.set_cons_succ]
                    refine wpAnyH_take (i := 15) (v := ?_) rfl (by kernel_rfl) (by kernel_rfl) (by kernel_rfl) (fun _ _ _ h => h) (Or.inl ⟨by rfl, ?_⟩) hS ?_
                    rotate_left
                    · (intro w hSw; (try dsimp only at hSw); go_simp; (first | done | with_reducible rfl))
                    change wpAnyH _ _ _ _ _ _ _ (Act.put _ (some 88) _) _
                    simp only [Act.put, List.setIfInBounds_toArray, List.set_cons_zero, List.set_cons_succ]
                    refine wpAnyH_take (i := 16) (v := ?_) rfl (by kernel_rfl) (by kernel_rfl) (by kernel_rfl) (fun _ _ _ h => h) (Or.inl ⟨by rfl, ?_⟩) hS ?_
                    rotate_left
                    · (intro w hSw; (try dsimp only at hSw); go_simp; (first | done | with_reducible rfl))
                    change wpAnyH _ _ _ _ _ _ _ (Act.put _ (some 89) _) _
                    simp only [Act.put, List.setIfInBounds_toArray, List.set_cons_zero, List.set_cons_succ]
                    refine wpAnyH_take (i := 17) (v := ?_) rfl (by kernel_rfl) (by kernel_rfl) (by kernel_rfl) (fun _ _ _ h => h) (Or.inl ⟨by rfl, ?_⟩) hS ?_
                    rotate_left
                    · (intro w hSw; (try dsimp only at hSw); go_simp; (first | done | with_reducible rfl))
                    change wpAnyH _ _ _ _ _ _ _ (Act.put _ (some 90) _) _
                    simp only [Act.put, List.setIfInBounds_toArray, List.set_cons_zero, List.set_cons_succ]
                    refine wpAnyH_take (i := 18) (v := ?_) rfl (by kernel_rfl) (by kernel_rfl) (by kernel_rfl) (fun _ _ _ h => h) (Or.inl ⟨by rfl, ?_⟩) hS ?_
                    rotate_left
                    · (intro w hSw; (try dsimp only at hSw); go_simp; (first | done | with_reducible rfl))
                    change wpAnyH _ _ _ _ _ _ _ (Act.put _ (some 91) _) _
                    simp only [Act.put, List.setIfInBounds_toArray, List.set_cons_zero, List.set_cons_succ]
                    refine wpAnyH_take (i := 19) (v := ?_) rfl (by kernel_rfl) (by kernel_rfl) (by kernel_rfl) (fun _ _ _ h => h) (Or.inl ⟨by rfl, ?_⟩) hS ?_
                    rotate_left
                    · (intro w hSw; (try dsimp only at hSw); go_simp; (first | done | with_reducible rfl))
                    change wpAnyH _ _ _ _ _ _ _ (Act.put _ (some 92) _) _
                    simp only [Act.put, List.setIfInBounds_toArray, List.set_cons_zero, List.set_cons_succ]
                    refine wpAnyH_take (i := 20) (v := ?_) rfl (by kernel_rfl) (by kernel_rfl) (by kernel_rfl) (fun _ _ _ h => h) (Or.inl ⟨by rfl, ?_⟩) hS ?_
                    rotate_left
                    · (intro w hSw; (try dsimp only at hSw); go_simp; (first | done | with_reducible rfl))
                    change wpAnyH _ _ _ _ _ _ _ (Act.put _ (some 4) _) _
                    simp only [Act.put, List.setIfInBounds_toArray, List.set_cons_zero, List.set_cons_succ]
                    refine wpAnyH_done (by kernel_rfl) ?_ _
                    refine NoPanic.normal ?_
                    go_wp2_with fail
                    go_meet
                    exact ⟨⟨_, rfl, HR⟩, hkeep.drew⟩
                · have HR : Hid (false = mayX M.r.l (bidsOf M.bs) M.o.l i 0 x) := Lib.hid (by unfold mayX; rw [← HB.out, decide_eq_false hx0]; rfl)
                  have z1 : decide (0 ≤ x) = false := decide_eq_false hx0
                  refine wp_region_noPanic ?_
                  refine wp_region_held_drew (S := (fun w' => w'.cell? ⟨gA, 1, none⟩ = some (.slice M.ba M.bs.length M.bc) ∧ w'.cell? ⟨gA, 2, none⟩ = some (.slice (some ⟨b2, o2, none⟩) M.o.l.length M.o.c) ∧ w'.cell? ⟨b2, o2 + i, none⟩ = some (.int .i64 x))) (by kernel_rfl) ⟨d1, d2, hc2⟩ (fun hS => ?_)
                  refine wpAnyH_take (i := 0) (v := ?_) rfl (by kernel_rfl) (by kernel_rfl) (by kernel_rfl) (fun _ _ _ h => h) (Or.inl ⟨by rfl, ?_⟩) hS ?_
                  rotate_left
                  · (intro w hSw; (try dsimp only at hSw); go_simp; (first | done | with_reducible rfl))
                  change wpAnyH _ _ _ _ _ _ _ (Act.put _ (some 73) _) _
                  simp only [Act.put, List.setIfInBounds_toArray, List.set_cons_zero, List.set_cons_succ]
                  refine wpAnyH_take (i := 1) (v := ?_) rfl (by kernel_rfl) (by kernel_rfl) (by kernel_rfl) (fun _ _ _ h => h) (Or.inl ⟨by rfl, ?_⟩) hS ?_
                  rotate_left
                  · (intro w hSw; (try dsimp only at hSw); go_simp; (first | done | with_reducible rfl))
                  change wpAnyH _ _ _ _ _ _ _ (Act.put _ (some 74) _) _
                  simp only [Act.put, List.setIfInBounds_toArray, List.set_cons_zero, List.set_cons_succ]
                  refine wpAnyH_take (i := 2) (v := ?_) rfl (by kernel_rfl) (by kernel_rfl) (by kernel_rfl) (fun _ _ _ h => h) (Or.inl ⟨by rfl, ?_⟩) hS ?_
                  rotate_left
                  · (intro w hSw; (try dsimp only at hSw); go_simp; (first | done | with_reducible rfl))
                  change wpAnyH _ _ _ _ _ _ _ (Act.put _ (some 75) _) _
                  simp only [Act.put, List.setIfInBounds_toArray, List.set_cons_zero, List.set_cons_succ]
                  refine wpAnyH_take (i := 3) (v := ?_) rfl (by kernel_rfl) (by kernel_rfl) (by kernel_rfl) (fun _ _ _ h => h) (Or.inl ⟨by rfl, ?_⟩) hS ?_
                  rotate_left
                  · (intro w hSw; (try dsimp only at hSw); go_simp; (first | done | with_reducible rfl))
                  change wpAnyH _ _ _ _ _ _ _ (Act.put _ (some 76) _) _
                  simp only [Act.put, List.setIfInBounds_toArray, List.set_cons_zero, List.set_cons_succ]
                  refine wpAnyH_take (i := 4) (v := ?_) rfl (by kernel_rfl) (by kernel_rfl) (by kernel_rfl) (fun _ _ _ h => h) (Or.inl ⟨by rfl, ?_⟩) hS ?_
                  rotate_left
                  · (intro w hSw; (try dsimp only at hSw); go_simp; (first | done | with_reducible rfl))
                  change wpAnyH _ _ _ _ _ _ _ (Act.put _ (some 77) _) _
                  simp only [Act.put, List.setIfInBounds_toArray, List.set_cons_zero, List.set_cons_succ]
                  refine wpAnyH_take (i := 5) (v := ?_) rfl (by kernel_rfl) (by kernel_rfl) (by kernel_rfl) (fun _ _ _ h => h) (Or.inl ⟨by rfl, ?_⟩) hS ?_
                  rotate_left
                  · (intro w hSw; (try dsimp only at hSw); go_simp; (first | done | with_reducible rfl))
                  change wpAnyH _ _ _ _ _ _ _ (Act.put _ (some 78) _) _
                  simp only [Act.put, List.setIfInBounds_toArray, List.set_cons_zero, List.set_cons_succ]
                  refine wpAnyH_take (i := 6) (v := ?_) rfl (by kernel_rfl) (by kernel_rfl) (by kernel_rfl) (fun _ _ _ h => h) (Or.inl ⟨by rfl, ?_⟩) hS ?_
                  rotate_left
                  · (intro w hSw; (try dsimp only at hSw); go_simp; (first | done | with_reducible rfl))
                  change wpAnyH _ _ _ _ _ _ _ (Act.put _ (some 79) _) _
                  simp only [Act.put, List.setIfInBounds_toArray, List.set_cons_zero, List.set_cons_succ]
                  refine wpAnyH_take (i := 7) (v := ?_) rfl (by kernel_rfl) (by kernel_rfl) (by kernel_rfl) (fun _ _ _ h => h) (Or.inl ⟨by rfl, ?_⟩) hS ?_
                  rotate_left
                  · (intro w hSw; (try dsimp only at hSw); go_simp; (first | done | with_reducible rfl))
                  change wpAnyH _ _ _ _ _ _ _ (Act.put _ (some 80) _) _
                  simp only [Act.put, List.setIfInBounds_toArray, List.set_cons_zero, List.set_cons_succ]
                  refine wpAnyH_take (i := 8) (v := ?_) rfl (by kernel_rfl) (by kernel_rfl) (by kernel_rfl) (fun _ _ _ h => h) (Or.inl ⟨by rfl, ?_⟩) hS ?_
                  rotate_left
                  · (intro w hSw; (try dsimp only at hSw); go_simp; (first | done | with_reducible rfl))
                  change wpAnyH _ _ _ _ _ _ _ (Act.put _ (some 81) _) _
                  simp only [Act.put, List.setIfInBounds_toArray, List.set_cons_zero, List.set_cons_succ]
                  refine wpAnyH_take (i := 9) (v := ?_) rfl (by kernel_rfl) (by kernel_rfl) (by kernel_rfl) (fun _ _ _ h => h) (Or.inl ⟨by rfl, ?_⟩) hS ?_
                  rotate_left
                  · (intro w hSw; (try dsimp only at hSw); go_simp; (first | done | with_reducible rfl))
                  change wpAnyH _ _ _ _ _ _ _ (Act.put _ (some 82) _) _
                  simp only [Act.put, List.setIfInBounds_toArray, List.set_cons_zero, List.set_cons_succ]
                  refine wpAnyH_take (i := 10) (v := undef) rfl (by kernel_rfl) (by kernel_rfl) (by kernel_rfl) (fun _ _ _ h => h) (Or.inr ⟨by rfl, rfl⟩) hS ?_
                  change wpAnyH _ _ _ _ _ _ _ (Act.put _ (some 83) _) _
                  simp only [Act.put, List.setIfInBounds_toArray, List.set_cons_zero, List.set_cons_succ]
                  refine wpAnyH_take (i := 11) (v := undef) rfl (by kernel_rfl) (by kernel_rfl) (by kernel_rfl) (fun _ _ _ h => h) (Or.inr ⟨by rfl, rfl⟩) hS ?_
                  change wpAnyH _ _ _ _ _ _ _ (Act.put _ (some 84) _) _
                  simp only [Act.put, List.setIfInBounds_toArray, List.set_cons_zero, List.set_cons_succ]
                  refine wpAnyH_take (i := 12) (v := undef) rfl (by kernel_rfl) (by kernel_rfl) (by kernel_rfl) (fun _ _ _ h => h) (Or.inr ⟨by rfl, rfl⟩) hS ?_
                  change wpAnyH _ _ _ _ _ _ _ (Act.put _ (some 85) _) _
                  simp only [Act.put, List.setIfInBounds_toArray, List.set_cons_zero, List.set_cons_succ]
                  refine wpAnyH_take (i := 13) (v := undef) rfl (by kernel_rfl) (by kernel_rfl) (by kernel_rfl) (fun _ _ _ h => h) (Or.inr ⟨by rfl, rfl⟩) hS ?_
                  change wpAnyH _ _ _ _ _ _ _ (Act.put _ (some 86) _) _
                  simp only [Act.put, List.setIfInBounds_toArray, List.set_cons_zero, List.set_cons_succ]
                  refine wpAnyH_take (i := 14) (v := undef) rfl (by kernel_rfl) (by kernel_rfl) (by kernel_rfl) (fun _ _ _ h => h) (Or.inr ⟨by rfl, rfl⟩) hS ?_
                  change wpAnyH _ _ _ _ _ _ _ (Act.put _ (some 87) _) _
                  simp only [Act.put, List.setIfInBounds_toArray, List.set_cons_zero, List.set_cons_succ]
                  refine wpAnyH_take (i := 15) (v := undef) rfl (by kernel_rfl) (by kernel_rfl) (by kernel_rfl) (fun _ _ _ h => h) (Or.inr ⟨by rfl, rfl⟩) hS ?_
                  change wpAnyH _ _ _ _ _ _ _ (Act.put _ (some 88) _) _
                  simp only [Act.put, List.setIfInBounds_toArray, List.set_cons_zero, List.set_cons_succ]
                  refine wpAnyH_take (i := 16) (v := undef) rfl (by kernel_rfl) (by kernel_rfl) (by kernel_rfl) (fun _ _ _ h => h) (Or.inr ⟨by rfl, rfl⟩) hS ?_
                  change wpAnyH _ _ _ _ _ _ _ (Act.put _ (some 89) _) _
                  simp only [Act.put, List.setIfInBounds_toArray, List.set_cons_zero, List.set_cons_succ]
                  refine wpAnyH_take (i := 17) (v := undef) rfl (by kernel_rfl) (by kernel_rfl) (by kernel_rfl) (fun _ _ _ h => h) (Or.inr ⟨by rfl, rfl⟩) hS ?_
                  change wpAnyH _ _ _ _ _ _ _ (Act.put _ (some 90) _) _
                  simp only [Act.put, List.setIfInBounds_toArray, List.set_cons_zero, List.set_cons_succ]
                  refine wpAnyH_take (i := 18) (v := undef) rfl (by kernel_rfl) (by kernel_rfl) (by kernel_rfl) (fun _ _ _ h => h) (Or.inr ⟨by rfl, rfl⟩) hS ?_
                  change wpAnyH _ _ _ _ _ _ _ (Act.put _ (some 91) _) _
                  simp only [Act.put, List.setIfInBounds_toArray, List.set_cons_zero, List.set_cons_succ]
                  refine wpAnyH_take (i := 19) (v := ?_) rfl (by kernel_rfl) (by kernel_rfl) (by kernel_rfl) (fun _ _ _ h => h) (Or.inl ⟨by rfl, ?_⟩) hS ?_
                  rotate_left
                  · (intro w hSw; (try dsimp only at hSw); go_simp; (first | done | with_reducible rfl))
                  change wpAnyH _ _ _ _ _ _ _ (Act.put _ (some 92) _) _
                  simp only [Act.put, List.setIfInBounds_toArray, List.set_cons_zero, List.set_cons_succ]
                  refine wpAnyH_take (i := 20) (v := ?_) rfl (by kernel_rfl) (by kernel_rfl) (by kernel_rfl) (fun _ _ _ h => h) (Or.inl ⟨by rfl, ?_⟩) hS ?_
                  rotate_left
                  · (intro w hSw; (try dsimp only at hSw); go_simp; (first | done | with_reducible rfl))
                  change wpAnyH _ _ _ _ _ _ _ (Act.put _ (some 4) _) _
                  simp only [Act.put, List.setIfInBounds_toArray, List.set_cons_zero, List.set_cons_succ]
                  refine wpAnyH_done (by kernel_rfl) ?_ _
                  refine NoPanic.normal ?_
                  go_wp2_with fail
                  go_meet
                  exact ⟨⟨_, rfl, HR⟩, hkeep.drew⟩
            case rest =>
            obtain ⟨⟨b', rfl, HR⟩, k4⟩ := hcut
            clear HB d1 d2 hc2 bR hMr hkeep
            go_wp2_with fail
            go_loopw [4, 7] (fun v j wr => ∃ (j' : Nat) (c : Bool), j' ≤ i ∧ j = .int .i64 j' ∧ v = .bool c ∧ Hid (c = mayX M.r.l (bidsOf M.bs) M.o.l i j' x) ∧ Keep w3 wr) (fun _ j _ => i - (intOf j).toNat)
            case atStart => exact ⟨0, b', Nat.zero_le _, rfl, rfl, HR, k4⟩
            case round =>
              clear HR
              obtain ⟨j, c, hj, rfl, rfl, HC, hkeep⟩ := hrel
              by_cases hjl : j < i
              · have bR := bM.keep hkeep
                have d2 := bR.cell_ (i := 2) rfl
                have hMr := hM.keep hkeep
                obtain ⟨b3, o3, x', hoa, hxk, hc2⟩ := hMr.o.rd.int_at hlt
                have hxx : x' = x := Option.some.inj (hxk.symm.trans HX.out)
                subst hxx
                obtain ⟨b4, o4, y, hob, hyk, hc3⟩ := hMr.o.rd.int_at (show j < M.o.l.length by omega)
                rw [hoa] at hob d2
                injection hob with hob
                injection hob with hob1 hob2
                subst hob1
                subst hob2
                have HN := Lib.hid (mayX_snoc (R := M.r.l) (B := bidsOf M.bs) (i := i) (x := x') hyk)
                clear hoa hxk hyk bR hMr
                have hi1 : (i : Int) < M.o.l.length := by omega
                have hj1 : (j : Int) < M.o.l.length := by omega
                go_upto_region 16 with fail
                cases c with
                | false =>
                  refine wp_region_noPanic ?_
                  refine wp_region_held_drew (S := (fun w' => w'.cell? ⟨gA, 2, none⟩ = some (.slice (some ⟨b3, o3, none⟩) M.o.l.length M.o.c) ∧ w'.cell? ⟨b3, o3 + i, none⟩ = some (.int .i64 x') ∧ w'.cell? ⟨b3, o3 + j, none⟩ = some (.int .i64 y))) (by kernel_rfl) ⟨d2, hc2, hc3⟩ (fun hS => ?_)
                  refine wpAnyH_take (i := 0) (v := ?_) rfl (by kernel_rfl) (by kernel_rfl) (by kernel_rfl) (fun _ _ _ h => h) (Or.inl ⟨by rfl, ?_⟩) hS ?_
                  rotate_left
                  · (intro w hSw; (try dsimp only at hSw); go_simp; (first | done | with_reducible rfl))
                  change wpAnyH _ _ _ _ _ _ _ (Act.put _ (some 98) _) _
                  simp only [Act.put, List.setIfInBounds_toArray, List.set_cons_zero, List.set_cons_succ]
                  refine wpAnyH_take (i := 1) (v := ?_) rfl (by kernel_rfl) (by kernel_rfl) (by kernel_rfl) (fun _ _ _ h => h) (Or.inl ⟨by rfl, ?_⟩) hS ?_
                  rotate_left
                  · (intro w hSw; (try dsimp only at hSw); go_simp; (first | done | with_reducible rfl))
                  change wpAnyH _ _ _ _ _ _ _ (Act.put _ (some 99) _) _
                  simp only [Act.put, List.setIfInBounds_toArray, List.set_cons_zero, List.set_cons_succ]
                  refine wpAnyH_take (i := 2) (v := undef) rfl (by kernel_rfl) (by kernel_rfl) (by kernel_rfl) (fun _ _ _ h => h) (Or.inr ⟨by rfl, rfl⟩) hS ?_
                  change wpAnyH _ _ _ _ _ _ _ (Act.put _ (some 100) _) _
                  simp only [Act.put, List.setIfInBounds_toArray, List.set_cons_zero, List.set_cons_succ]
                  refine wpAnyH_take (i := 3) (v := undef) rfl (by kernel_rfl) (by kernel_rfl) (by kernel_rfl) (fun _ _ _ h => h) (Or.inr ⟨by rfl, rfl⟩) hS ?_
                  change wpAnyH _ _ _ _ _ _ _ (Act.put _ (some 101) _) _
                  simp only [Act.put, List.setIfInBounds_toArray, List.set_cons_zero, List.set_cons_succ]
                  refine wpAnyH_take (i := 4) (v := undef) rfl (by kernel_rfl) (by kernel_rfl) (by kernel_rfl) (fun _ _ _ h => h) (Or.inr ⟨by rfl, rfl⟩) hS ?_
                  change wpAnyH _ _ _ _ _ _ _ (Act.put _ (some 102) _) _
                  simp only [Act.put, List.setIfInBounds_toArray, List.set_cons_zero, List.set_cons_succ]
                  refine wpAnyH_take (i := 5) (v := undef) rfl (by kernel_rfl) (by kernel_rfl) (by kernel_rfl) (fun _ _ _ h => h) (Or.inr ⟨by rfl, rfl⟩) hS ?_
                  change wpAnyH _ _ _ _ _ _ _ (Act.put _ (some 103) _) _
                  simp only [Act.put, List.setIfInBounds_toArray, List.set_cons_zero, List.set_cons_succ]
                  refine wpAnyH_take (i := 6) (v := undef) rfl (by kernel_rfl) (by kernel_rfl) (by kernel_rfl) (fun _ _ _ h => h) (Or.inr ⟨by rfl, rfl⟩) hS ?_
                  change wpAnyH _ _ _ _ _ _ _ (Act.put _ (some 104) _) _
                  simp only [Act.put, List.setIfInBounds_toArray, List.set_cons_zero, List.set_cons_succ]
                  refine wpAnyH_take (i := 7) (v := undef) rfl (by kernel_rfl) (by kernel_rfl) (by kernel_rfl) (fun _ _ _ h => h) (Or.inr ⟨by rfl, rfl⟩) hS ?_
                  change wpAnyH _ _ _ _ _ _ _ (Act.put _ (some 105) _) _
                  simp only [Act.put, List.setIfInBounds_toArray, List.set_cons_zero, List.set_cons_succ]
                  refine wpAnyH_take (i := 8) (v := undef) rfl (by kernel_rfl) (by kernel_rfl) (by kernel_rfl) (fun _ _ _ h => h) (Or.inr ⟨by rfl, rfl⟩) hS ?_
                  change wpAnyH _ _ _ _ _ _ _ (Act.put _ (some 106) _) _
                  simp only [Act.put, List.setIfInBounds_toArray, List.set_cons_zero, List.set_cons_succ]
                  refine wpAnyH_take (i := 9) (v := undef) rfl (by kernel_rfl) (by kernel_rfl) (by kernel_rfl) (fun _ _ _ h => h) (Or.inr ⟨by rfl, rfl⟩) hS ?_
                  change wpAnyH _ _ _ _ _ _ _ (Act.put _ (some 107) _) _
                  simp only [Act.put, List.setIfInBounds_toArray, List.set_cons_zero, List.set_cons_succ]
                  refine wpAnyH_take (i := 10) (v := undef) rfl (by kernel_rfl) (by kernel_rfl) (by kernel_rfl) (fun _ _ _ h => h) (Or.inr ⟨by rfl, rfl⟩) hS ?_
                  change wpAnyH _ _ _ _ _ _ _ (Act.put _ (some 108) _) _
                  simp only [Act.put, List.setIfInBounds_toArray, List.set_cons_zero, List.set_cons_succ]
                  refine wpAnyH_take (i := 11) (v := undef) rfl (by kernel_rfl) (by kernel_rfl) (by kernel_rfl) (fun _ _ _ h => h) (Or.inr ⟨by rfl, rfl⟩) hS ?_
                  change wpAnyH _ _ _ _ _ _ _ (Act.put _ (some 109) _) _
                  simp only [Act.put, List.setIfInBounds_toArray, List.set_cons_zero, List.set_cons_succ]
                  refine wpAnyH_take (i := 12) (v := undef) rfl (by kernel_rfl) (by kernel_rfl) (by kernel_rfl) (fun _ _ _ h => h) (Or.inr ⟨by rfl, rfl⟩) hS ?_
                  change wpAnyH _ _ _ _ _ _ _ (Act.put _ (some 110) _) _
                  simp only [Act.put, List.setIfInBounds_toArray, List.set_cons_zero, List.set_cons_succ]
                  refine wpAnyH_take (i := 13) (v := ?_) rfl (by kernel_rfl) (by kernel_rfl) (by kernel_rfl) (fun _ _ _ h => h) (Or.inl ⟨by rfl, ?_⟩) hS ?_
                  rotate_left
                  · (intro w hSw; (try dsimp only at hSw); go_simp; (first | done | with_reducible rfl))
                  change wpAnyH _ _ _ _ _ _ _ (Act.put _ (some 111) _) _
                  simp only [Act.put, List.setIfInBounds_toArray, List.set_cons_zero, List.set_cons_succ]
                  refine wpAnyH_take (i := 14) (v := ?_) rfl (by kernel_rfl) (by kernel_rfl) (by kernel_rfl) (fun _ _ _ h => h) (Or.inl ⟨by rfl, ?_⟩) hS ?_
                  rotate_left
                  · (intro w hSw; (try dsimp only at hSw); go_simp; (first | done | with_reducible rfl))
                  change wpAnyH _ _ _ _ _ _ _ (Act.put _ (some 4) _) _
                  simp only [Act.put, List.setIfInBounds_toArray, List.set_cons_zero, List.set_cons_succ]
                  refine wpAnyH_done (by kernel_rfl) ?_ _
                  refine NoPanic.normal ?_
                  go_wp2_with fail
                  go_roundw
                  case rel => exact ⟨j + 1, false, by omega, by go_num, rfl, Lib.hid (by rw [HN.out, ← HC.out]; rfl), hkeep.drew⟩
                  case measure => simp [intOf]; omega
                | true =>
                  by_cases hxy : x' = y
                  · have z1 : (x' != y) = false := by simp [hxy]
                    have HXY := Lib.hid hxy
                    clear hxy
                    refine wp_region_noPanic ?_
                    refine wp_region_held_drew (S := (fun w' => w'.cell? ⟨gA, 2, none⟩ = some (.slice (some ⟨b3, o3, none⟩) M.o.l.length M.o.c) ∧ w'.cell? ⟨b3, o3 + i, none⟩ = some (.int .i64 x') ∧ w'.cell? ⟨b3, o3 + j, none⟩ = some (.int .i64 y))) (by kernel_rfl) ⟨d2, hc2, hc3⟩ (fun hS => ?_)
                    refine wpAnyH_take (i := 0) (v := ?_) rfl (by kernel_rfl) (by kernel_rfl) (by kernel_rfl) (fun _ _ _ h => h) (Or.inl ⟨by rfl, ?_⟩) hS ?_
                    rotate_left
                    · (intro w hSw; (try dsimp only at hSw); go_simp; (first | done | with_reducible rfl))
                    change wpAnyH _ _ _ _ _ _ _ (Act.put _ (some 98) _) _
                    simp only [Act.put, List.setIfInBounds_toArray, List.set_cons_zero, List.set_cons_succ]
                    refine wpAnyH_take (i := 1) (v := ?_) rfl (by kernel_rfl) (by kernel_rfl) (by kernel_rfl) (fun _ _ _ h => h) (Or.inl ⟨by rfl, ?_⟩) hS ?_
                    rotate_left
                    · (intro w hSw; (try dsimp only at hSw); go_simp; (first | done | with_reducible rfl))
                    change wpAnyH _ _ _ _ _ _ _ (Act.put _ (some 99) _) _
                    simp only [Act.put, List.setIfInBounds_toArray, List.set_cons_zero, List.set_cons_succ]
                    refine wpAnyH_take (i := 2) (v := ?_) rfl (by kernel_rfl) (by kernel_rfl) (by kernel_rfl) (fun _ _ _ h => h) (Or.inl ⟨by rfl, ?_⟩) hS ?_
                    rotate_left
                    · (intro w hSw; (try dsimp only at hSw); go_simp; (first | done | with_reducible rfl))
                    change wpAnyH _ _ _ _ _ _ _ (Act.put _ (some 100) _) _
                    simp only [Act.put, List.setIfInBounds_toArray, List.set_cons_zero, List.set_cons_succ]
                    refine wpAnyH_take (i := 3) (v := ?_) rfl (by kernel_rfl) (by kernel_rfl) (by kernel_rfl) (fun _ _ _ h => h) (Or.inl ⟨by rfl, ?_⟩) hS ?_
                    rotate_left
                    · (intro w hSw; (try dsimp only at hSw); go_simp; (first | done | with_reducible rfl))
                    change wpAnyH _ _ _ _ _ _ _ (Act.put _ (some 101) _) _
                    simp only [Act.put, List.setIfInBounds_toArray, List.set_cons_zero, List.set_cons_succ]
                    refine wpAnyH_take (i := 4) (v := ?_) rfl (by kernel_rfl) (by kernel_rfl) (by kernel_rfl) (fun _ _ _ h => h) (Or.inl ⟨by rfl, ?_⟩) hS ?_
                    rotate_left
                    · (intro w hSw; (try dsimp only at hSw); go_simp; (first | done | with_reducible rfl))
                    change wpAnyH _ _ _ _ _ _ _ (Act.put _ (some 102) _) _
                    simp only [Act.put, List.setIfInBounds_toArray, List.set_cons_zero, List.set_cons_succ]
                    refine wpAnyH_take (i := 5) (v := ?_) rfl (by kernel_rfl) (by kernel_rfl) (by kernel_rfl) (fun _ _ _ h => h) (Or.inl ⟨by rfl, ?_⟩) hS ?_
                    rotate_left
                    · (intro w hSw; (try dsimp only at hSw); go_simp; (first | done | with_reducible rfl))
                    change wpAnyH _ _ _ _ _ _ _ (Act.put _ (some 103) _) _
                    simp only [Act.put, List.setIfInBounds_toArray, List.set_cons_zero, List.set_cons_succ]
                    refine wpAnyH_take (i := 6) (v := ?_) rfl (by kernel_rfl) (by kernel_rfl) (by kernel_rfl) (fun _ _ _ h => h) (Or.inl ⟨by rfl, ?_⟩) hS ?_
                    rotate_left
                    · (intro w hSw; (try dsimp only at hSw); go_simp; (first | done | with_reducible rfl))
                    change wpAnyH _ _ _ _ _ _ _ (Act.put _ (some 104) _) _
                    simp only [Act.put, List.setIfInBounds_toArray, List.set_cons_zero, List.set_cons_succ]
                    refine wpAnyH_take (i := 7) (v := ?_) rfl (by kernel_rfl) (by kernel_rfl) (by kernel_rfl) (fun _ _ _ h => h) (Or.inl ⟨by rfl, ?_⟩) hS ?_
                    rotate_left
                    · (intro w hSw; (try dsimp only at hSw); go_simp; (first | done | with_reducible rfl))
                    change wpAnyH _ _ _ _ _ _ _ (Act.put _ (some 105) _) _
                    simp only [Act.put, List.setIfInBounds_toArray, List.set_cons_zero, List.set_cons_succ]
                    refine wpAnyH_take (i := 8) (v := ?_) rfl (by kernel_rfl) (by kernel_rfl) (by kernel_rfl) (fun _ _ _ h => h) (Or.inl ⟨by rfl, ?_⟩) hS ?_
                    rotate_left
                    · (intro w hSw; (try dsimp only at hSw); go_simp; (first | done | with_reducible rfl))
                    change wpAnyH _ _ _ _ _ _ _ (Act.put _ (some 106) _) _
                    simp only [Act.put, List.setIfInBounds_toArray, List.set_cons_zero, List.set_cons_succ]
                    refine wpAnyH_take (i := 9) (v := ?_) rfl (by kernel_rfl) (by kernel_rfl) (by kernel_rfl) (fun _ _ _ h => h) (Or.inl ⟨by rfl, ?_⟩) hS ?_
                    rotate_left
                    · (intro w hSw; (try dsimp only at hSw); go_simp; (first | done | with_reducible rfl))
                    change wpAnyH _ _ _ _ _ _ _ (Act.put _ (some 107) _) _
                    simp only [Act.put, List.setIfInBounds_toArray, List.set_cons_zero, List.set_cons_succ]
                    refine wpAnyH_take (i := 10) (v := ?_) rfl (by kernel_rfl) (by kernel_rfl) (by kernel_rfl) (fun _ _ _ h => h) (Or.inl ⟨by rfl, ?_⟩) hS ?_
                    rotate_left
                    · (intro w hSw; (try dsimp only at hSw); go_simp; (first | done | with_reducible rfl))
                    change wpAnyH _ _ _ _ _ _ _ (Act.put _ (some 108) _) _
                    simp only [Act.put, List.setIfInBounds_toArray, List.set_cons_zero, List.set_cons_succ]
                    refine wpAnyH_take (i := 11) (v := ?_) rfl (by kernel_rfl) (by kernel_rfl) (by kernel_rfl) (fun _ _ _ h => h) (Or.inl ⟨by rfl, ?_⟩) hS ?_
                    rotate_left
                    · (intro w hSw; (try dsimp only at hSw); go_simp; (first | done | with_reducible rfl))
                    change wpAnyH _ _ _ _ _ _ _ (Act.put _ (some 109) _) _
                    simp only [Act.put, List.setIfInBounds_toArray, List.set_cons_zero, List.set_cons_succ]
                    refine wpAnyH_take (i := 12) (v := ?_) rfl (by kernel_rfl) (by kernel_rfl) (by kernel_rfl) (fun _ _ _ h => h) (Or.inl ⟨by rfl, ?_⟩) hS ?_
                    rotate_left
                    · (intro w hSw; (try dsimp only at hSw); go_simp; (first | done | with_reducible rfl))
                    change wpAnyH _ _ _ _ _ _ _ (Act.put _ (some 110) _) _
                    simp only [Act.put, List.setIfInBounds_toArray, List.set_cons_zero, List.set_cons_succ]
                    refine wpAnyH_take (i := 13) (v := ?_) rfl (by kernel_rfl) (by kernel_rfl) (by kernel_rfl) (fun _ _ _ h => h) (Or.inl ⟨by rfl, ?_⟩) hS ?_
                    rotate_left
                    · (intro w hSw; (try dsimp only at hSw); go_simp; (first | done | with_reducible rfl))
                    change wpAnyH _ _ _ _ _ _ _ (Act.put _ (some 111) _) _
                    simp only [Act.put, List.setIfInBounds_toArray, List.set_cons_zero, List.set_cons_succ]
                    refine wpAnyH_take (i := 14) (v := ?_) rfl (by kernel_rfl) (by kernel_rfl) (by kernel_rfl) (fun _ _ _ h => h) (Or.inl ⟨by rfl, ?_⟩) hS ?_
                    rotate_left
                    · (intro w hSw; (try dsimp only at hSw); go_simp; (first | done | with_reducible rfl))
                    change wpAnyH _ _ _ _ _ _ _ (Act.put _ (some 4) _) _
                    simp only [Act.put, List.setIfInBounds_toArray, List.set_cons_zero, List.set_cons_succ]
                    refine wpAnyH_done (by kernel_rfl) ?_ _
                    refine NoPanic.normal ?_
                    go_wp2_with fail
                    go_roundw
                    case rel => exact ⟨j + 1, false, by omega, by go_num, rfl, Lib.hid (by rw [HN.out, ← HC.out, decide_eq_false (fun h => h HXY.out)]; rfl), hkeep.drew⟩
                    case measure => simp [intOf]; omega
                  · have z1 : (x' != y) = true := by simp [hxy]
                    have HXY := Lib.hid hxy
                    clear hxy
                    refine wp_region_noPanic ?_
                    refine wp_region_held_drew (S := (fun w' => w'.cell? ⟨gA, 2, none⟩ = some (.slice (some ⟨b3, o3, none⟩) M.o.l.length M.o.c) ∧ w'.cell? ⟨b3, o3 + i, none⟩ = some (.int .i64 x') ∧ w'.cell? ⟨b3, o3 + j, none⟩ = some (.int .i64 y))) (by kernel_rfl) ⟨d2, hc2, hc3⟩ (fun hS => ?_)
                    refine wpAnyH_take (i := 0) (v := ?_) rfl (by kernel_rfl) (by kernel_rfl) (by kernel_rfl) (fun _ _ _ h => h) (Or.inl ⟨by rfl, ?_⟩) hS ?_
                    rotate_left
                    · (intro w hSw; (try dsimp only at hSw); go_simp; (first | done | with_reducible rfl))
                    change wpAnyH _ _ _ _ _ _ _ (Act.put _ (some 98) _) _
                    simp only [Act.put, List.setIfInBounds_toArray, List.set_cons_zero, List.set_cons_succ]
                    refine wpAnyH_take (i := 1) (v := ?_) rfl (by kernel_rfl) (by kernel_rfl) (by kernel_rfl) (fun _ _ _ h => h) (Or.inl ⟨by rfl, ?_⟩) hS ?_
                    rotate_left
                    · (intro w hSw; (try dsimp only at hSw); go_simp; (first | done | with_reducible rfl))
                    change wpAnyH _ _ _ _ _ _ _ (Act.put _ (some 99) _) _
                    simp only [Act.put, List.setIfInBounds_toArray, List.set_cons_zero, List.set_cons_succ]
                    refine wpAnyH_take (i := 2) (v := ?_) rfl (by kernel_rfl) (by kernel_rfl) (by kernel_rfl) (fun _ _ _ h => h) (Or.inl ⟨by rfl, ?_⟩) hS ?_
                    rotate_left
                    · (intro w hSw; (try dsimp only at hSw); go_simp; (first | done | with_reducible rfl))
                    change wpAnyH _ _ _ _ _ _ _ (Act.put _ (some 100) _) _
                    simp only [Act.put, List.setIfInBounds_toArray, List.set_cons_zero, List.set_cons_succ]
                    refine wpAnyH_take (i := 3) (v := ?_) rfl (by kernel_rfl) (by kernel_rfl) (by kernel_rfl) (fun _ _ _ h => h) (Or.inl ⟨by rfl, ?_⟩) hS ?_
                    rotate_left
                    · (intro w hSw; (try dsimp only at hSw); go_simp; (first | done | with_reducible rfl))
                    change wpAnyH _ _ _ _ _ _ _ (Act.put _ (some 101) _) _
                    simp only [Act.put, List.setIfInBounds_toArray, List.set_cons_zero, List.set_cons_succ]
                    refine wpAnyH_take (i := 4) (v := ?_) rfl (by kernel_rfl) (by kernel_rfl) (by kernel_rfl) (fun _ _ _ h => h) (Or.inl ⟨by rfl, ?_⟩) hS ?_
                    rotate_left
                    · (intro w hSw; (try dsimp only at hSw); go_simp; (first | done | with_reducible rfl))
                    change wpAnyH _ _ _ _ _ _ _ (Act.put _ (some 102) _) _
                    simp only [Act.put, List.setIfInBounds_toArray, List.set_cons_zero, List.set_cons_succ]
                    refine wpAnyH_take (i := 5) (v := ?_) rfl (by kernel_rfl) (by kernel_rfl) (by kernel_rfl) (fun _ _ _ h => h) (Or.inl ⟨by rfl, ?_⟩) hS ?_
                    rotate_left
                    · (intro w hSw; (try dsimp only at hSw); go_simp; (first | done | with_reducible rfl))
                    change wpAnyH _ _ _ _ _ _ _ (Act.put _ (some 103) _) _
                    simp only [Act.put, List.setIfInBounds_toArray, List.set_cons_zero, List.set_cons_succ]
                    refine wpAnyH_take (i := 6) (v := ?_) rfl (by kernel_rfl) (by kernel_rfl) (by kernel_rfl) (fun _ _ _ h => h) (Or.inl ⟨by rfl, ?_⟩) hS ?_
                    rotate_left
                    · (intro w hSw; (try dsimp only at hSw); go_simp; (first | done | with_reducible rfl))
                    change wpAnyH _ _ _ _ _ _ _ (Act.put _ (some 104) _) _
                    simp only [Act.put, List.setIfInBounds_toArray, List.set_cons_zero, List.set_cons_succ]
                    refine wpAnyH_take (i := 7) (v := ?_) rfl (by kernel_rfl) (by kernel_rfl) (by kernel_rfl) (fun _ _ _ h => h) (Or.inl ⟨by rfl, ?_⟩) hS ?_
                    rotate_left
                    · (intro w hSw; (try dsimp only at hSw); go_simp; (first | done | with_reducible rfl))
                    change wpAnyH _ _ _ _ _ _ _ (Act.put _ (some 105) _) _
                    simp only [Act.put, List.setIfInBounds_toArray, List.set_cons_zero, List.set_cons_succ]
                    refine wpAnyH_take (i := 8) (v := ?_) rfl (by kernel_rfl) (by kernel_rfl) (by kernel_rfl) (fun _ _ _ h => h) (Or.inl ⟨by rfl, ?_⟩) hS ?_
                    rotate_left
                    · (intro w hSw; (try dsimp only at hSw); go_simp; (first | done | with_reducible rfl))
                    change wpAnyH _ _ _ _ _ _ _ (Act.put _ (some 106) _) _
                    simp only [Act.put, List.setIfInBounds_toArray, List.set_cons_zero, List.set_cons_succ]
                    refine wpAnyH_take (i := 9) (v := ?_) rfl (by kernel_rfl) (by kernel_rfl) (by kernel_rfl) (fun _ _ _ h => h) (Or.inl ⟨by rfl, ?_⟩) hS ?_
                    rotate_left
                    · (intro w hSw; (try dsimp only at hSw); go_simp; (first | done | with_reducible rfl))
                    change wpAnyH _ _ _ _ _ _ _ (Act.put _ (some 107) _) _
                    simp only [Act.put, List.setIfInBounds_toArray, List.set_cons_zero, List.set_cons_succ]
                    refine wpAnyH_take (i := 10) (v := ?_) rfl (by kernel_rfl) (by kernel_rfl) (by kernel_rfl) (fun _ _ _ h => h) (Or.inl ⟨by rfl, ?_⟩) hS ?_
                    rotate_left
                    · (intro w hSw; (try dsimp only at hSw); go_simp; (first | done | with_reducible rfl))
                    change wpAnyH _ _ _ _ _ _ _ (Act.put _ (some 108) _) _
                    simp only [Act.put, List.setIfInBounds_toArray, List.set_cons_zero, List.set_cons_succ]
                    refine wpAnyH_take (i := 11) (v := ?_) rfl (by kernel_rfl) (by kernel_rfl) (by kernel_rfl) (fun _ _ _ h => h) (Or.inl ⟨by rfl, ?_⟩) hS ?_
                    rotate_left
                    · (intro w hSw; (try dsimp only at hSw); go_simp; (first | done | with_reducible rfl))
                    change wpAnyH _ _ _ _ _ _ _ (Act.put _ (some 109) _) _
                    simp only [Act.put, List.setIfInBounds_toArray, List.set_cons_zero, List.set_cons_succ]
                    refine wpAnyH_take (i := 12) (v := ?_) rfl (by kernel_rfl) (by kernel_rfl) (by kernel_rfl) (fun _ _ _ h => h) (Or.inl ⟨by rfl, ?_⟩) hS ?_
                    rotate_left
                    · (intro w hSw; (try dsimp only at hSw); go_simp; (first | done | with_reducible rfl))
                    change wpAnyH _ _ _ _ _ _ _ (Act.put _ (some 110) _) _
                    simp only [Act.put, List.setIfInBounds_toArray, List.set_cons_zero, List.set_cons_succ]
                    refine wpAnyH_take (i := 13) (v := ?_) rfl (by kernel_rfl) (by kernel_rfl) (by kernel_rfl) (fun _ _ _ h => h) (Or.inl ⟨by rfl, ?_⟩) hS ?_
                    rotate_left
                    · (intro w hSw; (try dsimp only at hSw); go_simp; (first | done | with_reducible rfl))
                    change wpAnyH _ _ _ _ _ _ _ (Act.put _ (some 111) _) _
                    simp only [Act.put, List.setIfInBounds_toArray, List.set_cons_zero, List.set_cons_succ]
                    refine wpAnyH_take (i := 14) (v := ?_) rfl (by kernel_rfl) (by kernel_rfl) (by kernel_rfl) (fun _ _ _ h => h) (Or.inl ⟨by rfl, ?_⟩) hS ?_
                    rotate_left
                    · (intro w hSw; (try dsimp only at hSw); go_simp; (first | done | with_reducible rfl))
                    change wpAnyH _ _ _ _ _ _ _ (Act.put _ (some 4) _) _
                    simp only [Act.put, List.setIfInBounds_toArray, List.set_cons_zero, List.set_cons_succ]
                    refine wpAnyH_done (by kernel_rfl) ?_ _
                    refine NoPanic.normal ?_
                    go_wp2_with fail
                    go_roundw
                    case rel => exact ⟨j + 1, true, by omega, by go_num, rfl, Lib.hid (by rw [HN.out, ← HC.out, decide_eq_true HXY.out]; rfl), hkeep.drew⟩
                    case measure => simp [intOf]; omega
              · have HE : Hid (c = mayO M.r.l (bidsOf M.bs) M.o.l (i + 1)) := Lib.hid (by rw [HC.out, show j = i by omega, mayX_all HX.out])
                clear HC
                go_wp2_with fail
                go_roundw
                case rel => exact ⟨i + 1, c, by omega, by go_num, rfl, HE, hkeep⟩
                case measure => simp [intOf]; omega
          · have hb : b = chkM M.r.l (bidsOf M.bs) M.o.l := by rw [HB.out, show i = M.o.l.length by omega, mayO_all]
            have hmc := fun w' (k' : Keep wr w') => mcheck_f M w' ((hM.keep hkeep).keep k')
            rw [← hb] at hmc
            clear hb HB d1
            have ha := alive05_f wr
            unfold Mkt.val at hmc
            replace kk := kk.trans hkeep
            cases b
            all_goals
              go_wp2_with fail
              refine ha.mono ?_
              rintro e w5 ⟨rfl, k5⟩
              have bS := bR.keep k5
              have c0 := bS.cell_ (i := 0) rfl
              have c1 := bS.cell_ (i := 1) rfl
              have c2 := bS.cell_ (i := 2) rfl
              have hq := hmc _ k5
              go_wp2_with fail
              refine hq.mono ?_
              rintro e w6 ⟨rfl, k6⟩
              go_wp2_with fail
              go_ret
              exact ⟨rfl, (kk.trans k5).trans k6⟩
end Go.Proofs.Ytjhmlcbpbmeicaa
