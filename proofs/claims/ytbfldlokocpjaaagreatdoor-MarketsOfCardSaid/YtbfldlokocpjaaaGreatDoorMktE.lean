/-
  CONTRACT for the package markets: Put. Conditions: the slices of the market read as lists, and are no longer than memory lets them be.
-/
import Derived.Test.YtbfldlokocpjaaaGreatDoorMktD
import Derived.Test.YtbfldlokocpjaaaGreatDoorNumB
import Derived.Test.YtbfldlokocpjaaaGreatDoorPutM
namespace Go.Proofs.YtbfldlokocpjaaaGreatDoor
open Go.RowKit

/-- What Put leaves. -/
def MPutP (R : List Int) (B : List (List Int)) (O : List Int) (w : World) (e : Ending) (w' : World) : Prop :=
  if chkM R B O then ∃ A', e = .returned (.tuple #[.slice A' (putM R B O).length (putM R B O).length, .int .i64 0]) ∧ Fr 5 w' w.heap.size A' (putM R B O).length (putM R B O).length (cs .u8 (putM R B O)) ∧ Keep w w'
  else e = .returned (.tuple #[.slice none 0 0, .int .i64 1]) ∧ Keep w w'

set_option maxRecDepth 100000 in
set_option maxHeartbeats 4000000 in
theorem mput_f (M : Mkt) (w : World) (hM : M.Ok w) :
    Calls Tryz.prog 11 #[M.val] w (MPutP M.r.l (bidsOf M.bs) M.o.l w) := by
  have lr := hM.r.len.le
  have lb := hM.b.len.le
  have hck := fun w1 (k1 : Keep w w1) => mcheck_f M w1 (hM.keep k1)
  unfold Mkt.val at hck ⊢
  unfold MPutP
  cases hc : chkM M.r.l (bidsOf M.bs) M.o.l with
  | false =>
    rw [hc] at hck
    simp only [Bool.false_eq_true, if_false]
    clear hc
    go_enter Tryz.func11, Tryz.ntmps11
    go_wp2_with fail
    have k0 : Keep w (w.alloc (.cells #[.slice M.r.a M.r.l.length M.r.c, .slice M.ba M.bs.length M.bc, .slice M.o.a M.o.l.length M.o.c] 25)) := Keep.alloc1 _ _
    refine (hck _ k0).mono ?_
    rintro e w1 ⟨rfl, k1⟩
    go_wp2_with fail
    go_ret2
    exact ⟨rfl, k0.trans k1⟩
  | true =>
    rw [hc] at hck
    simp only [if_true]
    obtain ⟨m1, m2, m3, m4⟩ := chkM_facts hc
    rw [length_bids] at m3 m4
    clear hc
    go_enter Tryz.func11, Tryz.ntmps11
    go_wp2_with fail
    have k0 : Keep w (w.alloc (.cells #[.slice M.r.a M.r.l.length M.r.c, .slice M.ba M.bs.length M.bc, .slice M.o.a M.o.l.length M.o.c] 25)) := Keep.alloc1 _ _
    have d0 : (w.alloc (.cells #[.slice M.r.a M.r.l.length M.r.c, .slice M.ba M.bs.length M.bc, .slice M.o.a M.o.l.length M.o.c] 25)).cell? ⟨w.heap.size, 0, none⟩ = some (.slice M.r.a M.r.l.length M.r.c) := by simp
    have d1 : (w.alloc (.cells #[.slice M.r.a M.r.l.length M.r.c, .slice M.ba M.bs.length M.bc, .slice M.o.a M.o.l.length M.o.c] 25)).cell? ⟨w.heap.size, 1, none⟩ = some (.slice M.ba M.bs.length M.bc) := by simp
    have d2 : (w.alloc (.cells #[.slice M.r.a M.r.l.length M.r.c, .slice M.ba M.bs.length M.bc, .slice M.o.a M.o.l.length M.o.c] 25)).cell? ⟨w.heap.size, 2, none⟩ = some (.slice M.o.a M.o.l.length M.o.c) := by simp
    generalize w.alloc (.cells #[.slice M.r.a M.r.l.length M.r.c, .slice M.ba M.bs.length M.bc, .slice M.o.a M.o.l.length M.o.c] 25) = w0 at k0 d0 d1 d2 ⊢
    refine (hck _ k0).mono ?_
    rintro e w1 ⟨rfl, k1⟩
    replace d0 := k1.cell d0
    replace d1 := k1.cell d1
    replace d2 := k1.cell d2
    replace k0 := k0.trans k1
    have hM1 := hM.keep k0
    go_wp2_with fail
    obtain ⟨P1, hP1, hl1⟩ : ∃ P1, P1 = putL (M.r.l.take 255) ∧ P1.length ≤ 1021 := ⟨_, rfl, by rw [length_putL, List.length_take]; omega⟩
    have hq1 := fun w' (k : Keep w1 w') => putList_f none 0 [] M.r.a M.r.c M.r.l w' (Rd.nil _ _) (by simp) (fun _ => rfl) (hM1.keep k).r.rd hM.r.inn.cap (by have := hM.r.inn.capI; unfold Len; omega)
    rw [List.nil_append, ← hP1] at hq1
    have h0 : P1 ++ le M.bs.length (clampB 1) = putMk M.r.l M.bs 0 := by
      rw [hP1]
      show _ = putL (M.r.l.take 255) ++ le M.bs.length 1 ++ []
      rw [List.append_nil]
      rfl
    have hq2 := fun (A' : Option Addr) w' (hf : Fr 5 w' w1.heap.size A' P1.length P1.length (cs .u8 P1)) => put_r A' P1.length P1 M.bs.length 1 w' hf.rd (by omega) (fun h => hf.capNil h) (by omega)
    rw [h0] at hq2
    have hu : IntKind.u64.wrap (M.bs.length : Int) = M.bs.length := u64_wrap8 m4
    have HP1 := Lib.hid hP1
    clear hP1 hck h0
    refine wp_region_noPanic ?_
    refine wp_region_held_drew (S := (fun w' => w'.cell? ⟨w.heap.size, 0, none⟩ = some (.slice M.r.a M.r.l.length M.r.c) ∧ w'.cell? ⟨w.heap.size, 1, none⟩ = some (.slice M.ba M.bs.length M.bc))) (by kernel_rfl) ⟨d0, d1⟩ (fun hS => ?_)
    refine wpAnyH_take (i := 0) (v := ?_) rfl (by kernel_rfl) (by kernel_rfl) (by kernel_rfl) (fun _ _ _ h => h) (Or.inl ⟨by rfl, ?_⟩) hS ?_
    rotate_left
    · (intro w hSw; (try dsimp only at hSw); go_simp; (first | done | with_reducible rfl))
    change wpAnyH _ _ _ _ _ _ _ (Act.put _ (some 10) _) _
    simp only [Act.put, List.setIfInBounds_toArray, List.set_cons_zero, List.set_cons_succ]
    refine wpAnyH_take (i := 1) (v := ?_) rfl (by kernel_rfl) (by kernel_rfl) (by kernel_rfl) (fun _ _ _ h => h) (Or.inl ⟨by rfl, ?_⟩) hS ?_
    rotate_left
    · (intro w hSw; (try dsimp only at hSw); go_simp; (first | done | with_reducible rfl))
    change wpAnyH _ _ _ _ _ _ _ (Act.put _ (some 11) _) _
    simp only [Act.put, List.setIfInBounds_toArray, List.set_cons_zero, List.set_cons_succ]
    refine wpAnyH_take (i := 3) (v := ?_) rfl (by kernel_rfl) (by kernel_rfl) (by kernel_rfl) (fun _ _ _ h => h) (Or.inl ⟨by rfl, ?_⟩) hS ?_
    rotate_left
    · (intro w hSw; (try dsimp only at hSw); go_simp; (first | done | with_reducible rfl))
    change wpAnyH _ _ _ _ _ _ _ (Act.put _ (some 13) _) _
    simp only [Act.put, List.setIfInBounds_toArray, List.set_cons_zero, List.set_cons_succ]
    refine wpAnyH_take (i := 4) (v := ?_) rfl (by kernel_rfl) (by kernel_rfl) (by kernel_rfl) (fun _ _ _ h => h) (Or.inl ⟨by rfl, ?_⟩) hS ?_
    rotate_left
    · (intro w hSw; (try dsimp only at hSw); go_simp; (first | done | with_reducible rfl))
    change wpAnyH _ _ _ _ _ _ _ (Act.put _ (some 14) _) _
    simp only [Act.put, List.setIfInBounds_toArray, List.set_cons_zero, List.set_cons_succ]
    refine wpAnyH_take (i := 5) (v := ?_) rfl (by kernel_rfl) (by kernel_rfl) (by kernel_rfl) (fun _ _ _ h => h) (Or.inl ⟨by rfl, ?_⟩) hS ?_
    rotate_left
    · (intro w hSw; (try dsimp only at hSw); go_simp; (first | done | with_reducible rfl))
    change wpAnyH _ _ _ _ _ _ _ (Act.put _ (some 15) _) _
    simp only [Act.put, List.setIfInBounds_toArray, List.set_cons_zero, List.set_cons_succ]
    refine wpAnyH_take (i := 6) (v := ?_) rfl (by kernel_rfl) (by kernel_rfl) (by kernel_rfl) (fun _ _ _ h => h) (Or.inl ⟨by rfl, ?_⟩) hS ?_
    rotate_left
    · (intro w hSw; (try dsimp only at hSw); go_simp; (first | done | with_reducible rfl))
    change wpAnyH _ _ _ _ _ _ _ (Act.put _ (some 16) _) _
    simp only [Act.put, List.setIfInBounds_toArray, List.set_cons_zero, List.set_cons_succ]
    refine wpAnyH_ready (rs := [2]) (by kernel_rfl) (by simp) ?_
    refine AllReadyH.cons rfl (fun K hK => ?_) AllReadyH.nil
    go_simp
    refine (hq1 _ ((Keep.refl w1).drew)).mono ?_
    rintro e w2 ⟨A2, rfl, f2, k2⟩
    go_wp2_with fail
    refine hK.out _ _ ⟨k2.cell hS.1, k2.cell hS.2⟩ (fun hS => ?_)
    clear hK K
    try simp only [Act.put, List.setIfInBounds_toArray, List.set_cons_zero, List.set_cons_succ]
    refine wpAnyH_ready (rs := [7]) (by kernel_rfl) (by simp) ?_
    refine AllReadyH.cons rfl (fun K hK => ?_) AllReadyH.nil
    go_simp
    refine (hq2 A2 w2 f2).mono ?_
    rintro e w3 ⟨A3, rfl, f3, k3⟩
    go_wp2_with fail
    refine hK.out _ _ ⟨k3.cell hS.1, k3.cell hS.2⟩ (fun hS => ?_)
    clear hK K
    try simp only [Act.put, List.setIfInBounds_toArray, List.set_cons_zero, List.set_cons_succ]
    refine wpAnyH_take (i := 8) (v := ?_) rfl (by kernel_rfl) (by kernel_rfl) (by kernel_rfl) (fun _ _ _ h => h) (Or.inl ⟨by rfl, ?_⟩) hS ?_
    rotate_left
    · (intro w hSw; (try dsimp only at hSw); go_simp; (first | done | with_reducible rfl))
    change wpAnyH _ _ _ _ _ _ _ (Act.put _ (some 4) _) _
    simp only [Act.put, List.setIfInBounds_toArray, List.set_cons_zero, List.set_cons_succ]
    refine wpAnyH_done (by kernel_rfl) ?_ _
    refine NoPanic.normal ?_
    have k13 := (((Keep.refl w1).drew).trans k2).trans k3
    replace d0 := k13.cell d0
    replace d1 := k13.cell d1
    replace d2 := k13.cell d2
    have s13 := ((k0.drew).trans k2).size
    replace f3 := f3.mono s13
    replace k0 := k0.trans k13
    have hM3 := hM.keep k0
    clear k2 k3 k13 f2 hq1 hq2 hS hl1
    go_wp2_with fail
    obtain ⟨W, hW⟩ : ∃ W, W = w3 := ⟨_, rfl⟩
    subst hW
    go_loopw [4, 21] (fun v i wr => ∃ (k : Nat) (A' : Option Addr), k ≤ M.bs.length ∧ i = .int .i64 k ∧ v = .slice A' (putMk M.r.l M.bs k).length (putMk M.r.l M.bs k).length ∧ Fr 5 wr w.heap.size A' (putMk M.r.l M.bs k).length (putMk M.r.l M.bs k).length (cs .u8 (putMk M.r.l M.bs k)) ∧ Keep W wr) (fun _ i _ => M.bs.length - (intOf i).toNat)
    case atStart => exact ⟨0, A3, Nat.zero_le _, rfl, rfl, f3, Keep.refl _⟩
    case round =>
      obtain ⟨k, A', hk, rfl, rfl, hfr, hkeep⟩ := hrel
      have hlk := length_putMk M.r.l M.bs k
      by_cases hlt : k < M.bs.length
      · obtain ⟨b1, o1, s, hba, hsk, hc1, hs⟩ := (hM3.b.keep hkeep).at_ hlt
        have hp := putList_f A' _ (putMk M.r.l M.bs k) s.a s.c s.l wr hfr.rd (by omega) (fun h => hfr.capNil h) hs.rd hs.inn.cap (by have := hs.inn.capI; unfold Len; omega)
        rw [putMk_succ hsk] at hp
        have hsz := (k0.trans hkeep).size
        have HBA := Lib.hid hba
        clear hsk hlk
        rw [hba]
        go_wp2_with fail
        refine hp.mono ?_
        rintro e w5 ⟨A5, rfl, f5, k5⟩
        go_wp2_with fail
        go_roundw
        case rel => exact ⟨k + 1, A5, by omega, by go_num, rfl, f5.mono hsz, hkeep.trans k5⟩
        case measure => simp [intOf]; omega
      · obtain rfl : k = M.bs.length := by omega
        have hMr := hM3.keep hkeep
        have hp := putList_f A' _ (putMk M.r.l M.bs M.bs.length) M.o.a M.o.c M.o.l wr hfr.rd (by omega) (fun h => hfr.capNil h) hMr.o.rd hM.o.inn.cap (by have := hM.o.inn.capI; unfold Len; omega)
        rw [putMk_all] at hp
        have hsz := (k0.trans hkeep).size
        have d2' := hkeep.cell d2
        clear hlk
        go_wp2_with fail
        refine hp.mono ?_
        rintro e w5 ⟨A5, rfl, f5, k5⟩
        go_wp2_with fail
        go_ret2
        exact ⟨A5, rfl, f5.mono hsz, (k0.trans hkeep).trans k5⟩
end Go.Proofs.YtbfldlokocpjaaaGreatDoor
