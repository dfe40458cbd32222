/-
  CONTRACT of the laws' copy of a frame: in memory of its own, marks in the room behind. Conditions: the slices read as lists, and are not too long.
-/
import Derived.Test.YtnjjeanbopclhaaGreatDoorFrmB
import Derived.Test.YtnjjeanbopclhaaGreatDoorTwinB
import Derived.Test.YtnjjeanbopclhaaGreatDoorTwinI
import Derived.Deep.RegionHeld3
namespace Go.Proofs.YtnjjeanbopclhaaGreatDoor
open Go.RowKit

theorem Blk.row {w : World} {g : Nat} {t : TypeId} {l : List Value} (h : Blk w g t l) (cs : Array Value) : Blk (w.setRow g cs) g t cs.toList := by
  unfold Blk
  rw [setRow_heap w g _ cs t (0, 0) h]
theorem only_row (w : World) (g : Nat) (cs : Array Value) : w.grownBy (w.setRow g cs) (some g) :=
  ⟨rfl, rfl, rfl, by rw [setRow_size]; exact Nat.le_refl _, fun i hi hne => by
    unfold World.setRow
    simp only
    rw [Array.getElem?_modify, if_neg (fun e => hne (by rw [e]))]⟩

set_option maxRecDepth 100000 in
set_option maxHeartbeats 8000000 in
/-- TwinFrame -/
theorem twinFrm_f (f : Frm) (w : World) (hf : f.Ok w) (l1 : f.v.sec.length ≤ 1000000) (l2 : f.v.bid.length ≤ 1000000) :
    Calls Tryz.prog 6 #[f.val] w fun e w' => ∃ sa sc ba bc, e = .returned (Frm.mk f.v sa sc ba bc).val ∧ TwinB w' w.heap.size ⟨sa, sc, f.v.sec⟩ ∧ Twin w' w.heap.size ⟨ba, bc, f.v.bid⟩ ∧ Keep w w' := by
  have bM := (Blk.new w 28 [.int .u8 f.v.ask, .int .u8 f.v.who, .int .u32 f.v.seq, .int .u64 f.v.tok, .slice f.sa f.v.sec.length f.sc, .slice f.ba f.v.bid.length f.bc]).keep (Keep.alloc1 (w.alloc (.cells #[.int .u8 f.v.ask, .int .u8 f.v.who, .int .u32 f.v.seq, .int .u64 f.v.tok, .slice f.sa f.v.sec.length f.sc, .slice f.ba f.v.bid.length f.bc] 28)) (.cells #[.int .u8 0, .int .u8 0, .int .u32 0, .int .u64 0, .slice none 0 0, .slice none 0 0] 28))
  have kk : Keep w ((w.alloc (.cells #[.int .u8 f.v.ask, .int .u8 f.v.who, .int .u32 f.v.seq, .int .u64 f.v.tok, .slice f.sa f.v.sec.length f.sc, .slice f.ba f.v.bid.length f.bc] 28)).alloc (.cells #[.int .u8 0, .int .u8 0, .int .u32 0, .int .u64 0, .slice none 0 0, .slice none 0 0] 28)) := (Keep.alloc1 _ _).trans (Keep.alloc1 _ _)
  have bO : Blk ((w.alloc (.cells #[.int .u8 f.v.ask, .int .u8 f.v.who, .int .u32 f.v.seq, .int .u64 f.v.tok, .slice f.sa f.v.sec.length f.sc, .slice f.ba f.v.bid.length f.bc] 28)).alloc (.cells #[.int .u8 0, .int .u8 0, .int .u32 0, .int .u64 0, .slice none 0 0, .slice none 0 0] 28)) (w.heap.size + 1) 28 [.int .u8 0, .int .u8 0, .int .u32 0, .int .u64 0, .slice none 0 0, .slice none 0 0] := by
    have h := Blk.new (w.alloc (.cells #[.int .u8 f.v.ask, .int .u8 f.v.who, .int .u32 f.v.seq, .int .u64 f.v.tok, .slice f.sa f.v.sec.length f.sc, .slice f.ba f.v.bid.length f.bc] 28)) 28 [.int .u8 0, .int .u8 0, .int .u32 0, .int .u64 0, .slice none 0 0, .slice none 0 0]
    simpa using h
  have L1 := Lib.hid l1
  have L2 := Lib.hid l2
  clear l1 l2
  unfold Frm.val
  go_enter Tryz.func6, Tryz.ntmps6
  go_upto_region 1 with fail
  generalize ((w.alloc (.cells #[.int .u8 f.v.ask, .int .u8 f.v.who, .int .u32 f.v.seq, .int .u64 f.v.tok, .slice f.sa f.v.sec.length f.sc, .slice f.ba f.v.bid.length f.bc] 28)).alloc (.cells #[.int .u8 0, .int .u8 0, .int .u32 0, .int .u64 0, .slice none 0 0, .slice none 0 0] 28)) = w0 at bM kk bO ⊢
  have d0 := bM.cell_ (i := 0) rfl
  have d1 := bM.cell_ (i := 1) rfl
  have d2 := bM.cell_ (i := 2) rfl
  have d3 := bM.cell_ (i := 3) rfl
  have d4 := bM.cell_ (i := 4) rfl
  have d5 := bM.cell_ (i := 5) rfl
  refine wp_region_noPanic ?_
  refine wp_region_held_drew (S := (fun w' => w'.cell? ⟨w.heap.size, 0, none⟩ = some (.int .u8 f.v.ask) ∧ w'.cell? ⟨w.heap.size, 1, none⟩ = some (.int .u8 f.v.who) ∧ w'.cell? ⟨w.heap.size, 2, none⟩ = some (.int .u32 f.v.seq) ∧ w'.cell? ⟨w.heap.size, 3, none⟩ = some (.int .u64 f.v.tok) ∧ w'.cell? ⟨w.heap.size, 4, none⟩ = some (.slice f.sa f.v.sec.length f.sc) ∧ w'.cell? ⟨w.heap.size, 5, none⟩ = some (.slice f.ba f.v.bid.length f.bc))) (by kernel_rfl) ⟨d0, d1, d2, d3, d4, d5⟩ (fun hS => ?_)
  have kn : Keep w0 w0.drew := (Keep.refl _).drew
  replace kk := kk.trans kn
  replace bO := bO.keep kn
  generalize w0.drew = v0 at hS kk bO ⊢
  clear kn d0 d1 d2 d3 d4 d5 bM
  refine wpAnyH_take (i := 0) (v := ?_) rfl (by kernel_rfl) (by kernel_rfl) (by kernel_rfl) (fun _ _ _ h => h) (Or.inl ⟨by rfl, ?_⟩) hS ?_
  rotate_left
  · (intro w hSw; (try dsimp only at hSw); go_simp; (first | done | with_reducible rfl))
  change wpAnyH _ _ _ _ _ _ _ (Act.put _ (some 3) _) _
  simp only [Act.put, List.setIfInBounds_toArray, List.set_cons_zero, List.set_cons_succ]
  refine wpAnyH_take (i := 1) (v := ?_) rfl (by kernel_rfl) (by kernel_rfl) (by kernel_rfl) (fun _ _ _ h => h) (Or.inl ⟨by rfl, ?_⟩) hS ?_
  rotate_left
  · (intro w hSw; (try dsimp only at hSw); go_simp; (first | done | with_reducible rfl))
  change wpAnyH _ _ _ _ _ _ _ (Act.put _ (some 4) _) _
  simp only [Act.put, List.setIfInBounds_toArray, List.set_cons_zero, List.set_cons_succ]
  refine wpAnyH_take (i := 2) (v := ?_) rfl (by kernel_rfl) (by kernel_rfl) (by kernel_rfl) (fun _ _ _ h => h) (Or.inl ⟨by rfl, ?_⟩) hS ?_
  rotate_left
  · (intro w hSw; (try dsimp only at hSw); go_simp; (first | done | with_reducible rfl))
  change wpAnyH _ _ _ _ _ _ _ (Act.put _ (some 5) _) _
  simp only [Act.put, List.setIfInBounds_toArray, List.set_cons_zero, List.set_cons_succ]
  refine wpAnyH_take (i := 3) (v := ?_) rfl (by kernel_rfl) (by kernel_rfl) (by kernel_rfl) (fun _ _ _ h => h) (Or.inl ⟨by rfl, ?_⟩) hS ?_
  rotate_left
  · (intro w hSw; (try dsimp only at hSw); go_simp; (first | done | with_reducible rfl))
  change wpAnyH _ _ _ _ _ _ _ (Act.put _ (some 6) _) _
  simp only [Act.put, List.setIfInBounds_toArray, List.set_cons_zero, List.set_cons_succ]
  refine wpAnyH_take (i := 4) (v := ?_) rfl (by kernel_rfl) (by kernel_rfl) (by kernel_rfl) (fun _ _ _ h => h) (Or.inl ⟨by rfl, ?_⟩) hS ?_
  rotate_left
  · (intro w hSw; (try dsimp only at hSw); go_simp; (first | done | with_reducible rfl))
  change wpAnyH _ _ _ _ _ _ _ (Act.put _ (some 7) _) _
  simp only [Act.put, List.setIfInBounds_toArray, List.set_cons_zero, List.set_cons_succ]
  refine wpAnyH_take (i := 5) (v := ?_) rfl (by kernel_rfl) (by kernel_rfl) (by kernel_rfl) (fun _ _ _ h => h) (Or.inl ⟨by rfl, ?_⟩) hS ?_
  rotate_left
  · (intro w hSw; (try dsimp only at hSw); go_simp; (first | done | with_reducible rfl))
  change wpAnyH _ _ _ _ _ _ _ (Act.put _ (some 8) _) _
  simp only [Act.put, List.setIfInBounds_toArray, List.set_cons_zero, List.set_cons_succ]
  refine wpAnyH_take (i := 6) (v := ?_) rfl (by kernel_rfl) (by kernel_rfl) (by kernel_rfl) (fun _ _ _ h => h) (Or.inl ⟨by rfl, ?_⟩) hS ?_
  rotate_left
  · (intro w hSw; (try dsimp only at hSw); go_simp; (first | done | with_reducible rfl))
  change wpAnyH _ _ _ _ _ _ _ (Act.put _ (some 9) _) _
  simp only [Act.put, List.setIfInBounds_toArray, List.set_cons_zero, List.set_cons_succ]
  refine wpAnyH_take (i := 7) (v := ?_) rfl (by kernel_rfl) (by kernel_rfl) (by kernel_rfl) (fun _ _ _ h => h) (Or.inl ⟨by rfl, ?_⟩) hS ?_
  rotate_left
  · (intro w hSw; (try dsimp only at hSw); go_simp; (first | done | with_reducible rfl))
  change wpAnyH _ _ _ _ _ _ _ (Act.put _ (some 10) _) _
  simp only [Act.put, List.setIfInBounds_toArray, List.set_cons_zero, List.set_cons_succ]
  refine wpAnyH_take (i := 8) (v := ?_) rfl (by kernel_rfl) (by kernel_rfl) (by kernel_rfl) (fun _ _ _ h => h) (Or.inl ⟨by rfl, ?_⟩) hS ?_
  rotate_left
  · (intro w hSw; (try dsimp only at hSw); go_simp; (first | done | with_reducible rfl))
  change wpAnyH _ _ _ _ _ _ _ (Act.put _ (some 11) _) _
  simp only [Act.put, List.setIfInBounds_toArray, List.set_cons_zero, List.set_cons_succ]
  refine wpAnyH_take (i := 9) (v := ?_) rfl (by kernel_rfl) (by kernel_rfl) (by kernel_rfl) (fun _ _ _ h => h) (Or.inl ⟨by rfl, ?_⟩) hS ?_
  rotate_left
  · (intro w hSw; (try dsimp only at hSw); go_simp; (first | done | with_reducible rfl))
  change wpAnyH _ _ _ _ _ _ _ (Act.put _ (some 12) _) _
  simp only [Act.put, List.setIfInBounds_toArray, List.set_cons_zero, List.set_cons_succ]
  refine wpAnyH_take (i := 11) (v := ?_) rfl (by kernel_rfl) (by kernel_rfl) (by kernel_rfl) (fun _ _ _ h => h) (Or.inl ⟨by rfl, ?_⟩) hS ?_
  rotate_left
  · (intro w hSw; (try dsimp only at hSw); go_simp; (first | done | with_reducible rfl))
  change wpAnyH _ _ _ _ _ _ _ (Act.put _ (some 14) _) _
  simp only [Act.put, List.setIfInBounds_toArray, List.set_cons_zero, List.set_cons_succ]
  refine wpAnyH_take (i := 12) (v := ?_) rfl (by kernel_rfl) (by kernel_rfl) (by kernel_rfl) (fun _ _ _ h => h) (Or.inl ⟨by rfl, ?_⟩) hS ?_
  rotate_left
  · (intro w hSw; (try dsimp only at hSw); go_simp; (first | done | with_reducible rfl))
  change wpAnyH _ _ _ _ _ _ _ (Act.put _ (some 15) _) _
  simp only [Act.put, List.setIfInBounds_toArray, List.set_cons_zero, List.set_cons_succ]
  refine wpAnyH_ready (rs := [10]) (by kernel_rfl) (by simp) ?_
  refine AllReadyH.cons rfl (fun K hK => ?_) AllReadyH.nil
  go_simp
  refine (twinBytes_f ⟨f.sa, f.sc, f.v.sec⟩ v0 (hf.keep kk).s L1.out).mono ?_
  rintro e v1 ⟨A1, c1, rfl, t1, kn⟩
  replace t1 : TwinB v1 w.heap.size ⟨A1, c1, f.v.sec⟩ := Fr.mono t1 kk.size
  go_wp2_with fail
  refine hK.out _ _ ⟨kn.cell hS.1, kn.cell hS.2.1, kn.cell hS.2.2.1, kn.cell hS.2.2.2.1, kn.cell hS.2.2.2.2.1, kn.cell hS.2.2.2.2.2⟩ (fun hS => ?_)
  clear hK K
  try simp only [Act.put, List.setIfInBounds_toArray, List.set_cons_zero, List.set_cons_succ]
  refine wpAnyH_ready (rs := [13]) (by kernel_rfl) (by simp) ?_
  refine AllReadyH.cons rfl (fun K hK => ?_) AllReadyH.nil
  go_simp
  replace kk := kk.trans kn
  replace bO := bO.keep kn
  skip
  clear kn
  refine (twinInts_f ⟨f.ba, f.bc, f.v.bid⟩ v1 (hf.keep kk).b L2.out).mono ?_
  rintro e v2 ⟨A2, c2, rfl, t2, kn⟩
  replace t2 : Twin v2 w.heap.size ⟨A2, c2, f.v.bid⟩ := Fr.mono t2 kk.size
  replace t1 := TwinB.keep t1 kn
  go_wp2_with fail
  refine hK.out _ _ ⟨kn.cell hS.1, kn.cell hS.2.1, kn.cell hS.2.2.1, kn.cell hS.2.2.2.1, kn.cell hS.2.2.2.2.1, kn.cell hS.2.2.2.2.2⟩ (fun hS => ?_)
  clear hK K
  try simp only [Act.put, List.setIfInBounds_toArray, List.set_cons_zero, List.set_cons_succ]
  refine wpAnyH_take (i := 14) (v := ?_) rfl (by kernel_rfl) (by kernel_rfl) (by kernel_rfl) (fun _ _ _ h => h) (Or.inl ⟨by rfl, ?_⟩) hS ?_
  rotate_left
  · (intro w hSw; (try dsimp only at hSw); go_simp; (first | done | with_reducible rfl))
  change wpAnyH _ _ _ _ _ _ _ (Act.put _ (some 17) _) _
  simp only [Act.put, List.setIfInBounds_toArray, List.set_cons_zero, List.set_cons_succ]
  refine wpAnyH_ready (rs := [15]) (by kernel_rfl) (by simp) ?_
  refine AllReadyH.cons rfl (fun K hK => ?_) AllReadyH.nil
  rw [if_pos (by rfl)]
  replace kk := kk.trans kn
  replace bO := bO.keep kn
  clear kn
  refine wp_store_row 28 _ _ rfl (w.heap.size + 1) #[.int .u8 f.v.ask, .int .u8 f.v.who, .int .u32 f.v.seq, .int .u64 f.v.tok, .slice A1 f.v.sec.length c1, .slice A2 f.v.bid.length c2] rfl rfl _ _ bO (by kernel_rfl) rfl (by simp [Value.oneCell']) ?_
  refine hK.out _ _ ⟨(cell_setRow_other _ _ _ _ (show w.heap.size ≠ w.heap.size + 1 by omega)).trans hS.1, (cell_setRow_other _ _ _ _ (show w.heap.size ≠ w.heap.size + 1 by omega)).trans hS.2.1, (cell_setRow_other _ _ _ _ (show w.heap.size ≠ w.heap.size + 1 by omega)).trans hS.2.2.1, (cell_setRow_other _ _ _ _ (show w.heap.size ≠ w.heap.size + 1 by omega)).trans hS.2.2.2.1, (cell_setRow_other _ _ _ _ (show w.heap.size ≠ w.heap.size + 1 by omega)).trans hS.2.2.2.2.1, (cell_setRow_other _ _ _ _ (show w.heap.size ≠ w.heap.size + 1 by omega)).trans hS.2.2.2.2.2⟩ (fun hS => ?_)
  clear hK K
  try simp only [Act.put, List.setIfInBounds_toArray]
  refine wpAnyH_done (by kernel_rfl) ?_ _
  refine NoPanic.normal ?_
  have og := only_row v2 (w.heap.size + 1) #[.int .u8 f.v.ask, .int .u8 f.v.who, .int .u32 f.v.seq, .int .u64 f.v.tok, .slice A1 f.v.sec.length c1, .slice A2 f.v.bid.length c2]
  have bR := bO.row #[.int .u8 f.v.ask, .int .u8 f.v.who, .int .u32 f.v.seq, .int .u64 f.v.tok, .slice A1 f.v.sec.length c1, .slice A2 f.v.bid.length c2]
  go_wp2_with fail
  refine bodyPost_ret (results_cell_row rfl _ _ (w.heap.size + 1) 28 _ (0, 0) _ rfl bR Tryz.underlying28 rfl (by kernel_rfl)) rfl ?_
  exact ⟨A1, c1, A2, c2, rfl, Fr.grown t1 og (fun k hk e => by injection e with e; exact Fr.own_ne t1 bO (by decide) k hk e), Fr.grown t2 og (fun k hk e => by injection e with e; exact Fr.own_ne t2 bO (by decide) k hk e), kk.grown og (fun k e => by injection e with e; omega)⟩
end Go.Proofs.YtnjjeanbopclhaaGreatDoor
