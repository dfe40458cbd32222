/-
  SEVERAL TEXTS IN ONE (merged by a program of mine: a claim has at most 60 files). CONTRACT of the laws' copy of a reply: in memory of its own, marks in the room behind. Conditions: the slices read as lists, and are not too long. CONTRACTS of the laws' LeftFrame, LeftReply: where the copies stand as they were made they answer true. Conditions: the copies are the call's own, the slices read as lists, and are not too long. CONTRACT of the document's answer of chapter 21: may a reply be? Conditions: the slices of the reply read as lists. CONTRACT of the document's answer of chapter 21: a frame's bytes. Conditions: the slices of the frame read as lists. CONTRACT of the document's answer of chapter 21: a reply's bytes. Conditions: the slices of the reply read as lists. CONTRACTS of the laws' Book: Frame, Reply: the lists of a frame, of a reply, are held. Conditions: the Book is the call's own. THE WALK OF THE 3 FramesPut: it answers true, and turns nothing that was there. Conditions: the arguments are a frame and a reply that came in, no slice of them longer than the form lets it be; the program's list of parts stands as its text lays it.
-/
import Derived.Test.YtjhbpocffckghaaGreatDoorFrmC
import Derived.Test.YtjhbpocffckghaaGreatDoorFrmQ
import Derived.Test.YtjhbpocffckghaaGreatDoorTwinI
import Derived.Deep.RegionHeld3
import Derived.Test.YtjhbpocffckghaaGreatDoorFrmB
import Derived.Test.YtjhbpocffckghaaGreatDoorLeft
import Derived.Test.YtjhbpocffckghaaGreatDoorLeftI
import Derived.Test.YtjhbpocffckghaaGreatDoorRefL
import Derived.Test.YtjhbpocffckghaaGreatDoorRefAb
import Derived.Test.YtjhbpocffckghaaGreatDoorFrmD
import Derived.Test.YtjhbpocffckghaaGreatDoorFrmL
import Derived.Test.YtjhbpocffckghaaGreatDoorBookH
import Derived.Test.YtjhbpocffckghaaGreatDoorFrmM

namespace Go.Proofs.YtjhbpocffckghaaGreatDoor
open Go.RowKit

set_option maxRecDepth 100000 in
set_option maxHeartbeats 8000000 in
/-- TwinReply -/
theorem twinRpl_f (r : Rpl) (w : World) (hf : r.Ok w) (l1 : r.v.bid.length ≤ 1000000) (l2 : r.v.cert.length ≤ 1000000) :
    Calls Tryz.prog 7 #[r.val] w fun e w' => ∃ ba bc ca cc, e = .returned (Rpl.mk r.v ba bc ca cc).val ∧ Twin w' w.heap.size ⟨ba, bc, r.v.bid⟩ ∧ TwinB w' w.heap.size ⟨ca, cc, r.v.cert⟩ ∧ Keep w w' := by
  have bM := (Blk.new w 32 [.int .i64 r.v.e, .int .u32 r.v.seq, .int .u64 r.v.tok, .int .u8 r.v.ph, .int .u64 r.v.tm, .bool r.v.has, .slice r.ba r.v.bid.length r.bc, .int .i64 r.v.item, .int .i64 r.v.pays, .slice r.ca r.v.cert.length r.cc]).keep (Keep.alloc1 (w.alloc (.cells #[.int .i64 r.v.e, .int .u32 r.v.seq, .int .u64 r.v.tok, .int .u8 r.v.ph, .int .u64 r.v.tm, .bool r.v.has, .slice r.ba r.v.bid.length r.bc, .int .i64 r.v.item, .int .i64 r.v.pays, .slice r.ca r.v.cert.length r.cc] 32)) (.cells #[.int .i64 0, .int .u32 0, .int .u64 0, .int .u8 0, .int .u64 0, .bool false, .slice none 0 0, .int .i64 0, .int .i64 0, .slice none 0 0] 32))
  have kk : Keep w ((w.alloc (.cells #[.int .i64 r.v.e, .int .u32 r.v.seq, .int .u64 r.v.tok, .int .u8 r.v.ph, .int .u64 r.v.tm, .bool r.v.has, .slice r.ba r.v.bid.length r.bc, .int .i64 r.v.item, .int .i64 r.v.pays, .slice r.ca r.v.cert.length r.cc] 32)).alloc (.cells #[.int .i64 0, .int .u32 0, .int .u64 0, .int .u8 0, .int .u64 0, .bool false, .slice none 0 0, .int .i64 0, .int .i64 0, .slice none 0 0] 32)) := (Keep.alloc1 _ _).trans (Keep.alloc1 _ _)
  have bO : Blk ((w.alloc (.cells #[.int .i64 r.v.e, .int .u32 r.v.seq, .int .u64 r.v.tok, .int .u8 r.v.ph, .int .u64 r.v.tm, .bool r.v.has, .slice r.ba r.v.bid.length r.bc, .int .i64 r.v.item, .int .i64 r.v.pays, .slice r.ca r.v.cert.length r.cc] 32)).alloc (.cells #[.int .i64 0, .int .u32 0, .int .u64 0, .int .u8 0, .int .u64 0, .bool false, .slice none 0 0, .int .i64 0, .int .i64 0, .slice none 0 0] 32)) (w.heap.size + 1) 32 [.int .i64 0, .int .u32 0, .int .u64 0, .int .u8 0, .int .u64 0, .bool false, .slice none 0 0, .int .i64 0, .int .i64 0, .slice none 0 0] := by
    have h := Blk.new (w.alloc (.cells #[.int .i64 r.v.e, .int .u32 r.v.seq, .int .u64 r.v.tok, .int .u8 r.v.ph, .int .u64 r.v.tm, .bool r.v.has, .slice r.ba r.v.bid.length r.bc, .int .i64 r.v.item, .int .i64 r.v.pays, .slice r.ca r.v.cert.length r.cc] 32)) 32 [.int .i64 0, .int .u32 0, .int .u64 0, .int .u8 0, .int .u64 0, .bool false, .slice none 0 0, .int .i64 0, .int .i64 0, .slice none 0 0]
    simpa using h
  have L1 := Lib.hid l1
  have L2 := Lib.hid l2
  clear l1 l2
  unfold Rpl.val
  go_enter Tryz.func7, Tryz.ntmps7
  go_upto_region 1 with fail
  generalize ((w.alloc (.cells #[.int .i64 r.v.e, .int .u32 r.v.seq, .int .u64 r.v.tok, .int .u8 r.v.ph, .int .u64 r.v.tm, .bool r.v.has, .slice r.ba r.v.bid.length r.bc, .int .i64 r.v.item, .int .i64 r.v.pays, .slice r.ca r.v.cert.length r.cc] 32)).alloc (.cells #[.int .i64 0, .int .u32 0, .int .u64 0, .int .u8 0, .int .u64 0, .bool false, .slice none 0 0, .int .i64 0, .int .i64 0, .slice none 0 0] 32)) = w0 at bM kk bO ⊢
  have d0 := bM.cell_ (i := 0) rfl
  have d1 := bM.cell_ (i := 1) rfl
  have d2 := bM.cell_ (i := 2) rfl
  have d3 := bM.cell_ (i := 3) rfl
  have d4 := bM.cell_ (i := 4) rfl
  have d5 := bM.cell_ (i := 5) rfl
  have d6 := bM.cell_ (i := 6) rfl
  have d7 := bM.cell_ (i := 7) rfl
  have d8 := bM.cell_ (i := 8) rfl
  have d9 := bM.cell_ (i := 9) rfl
  refine wp_region_noPanic ?_
  refine wp_region_held_drew (S := (fun w' => w'.cell? ⟨w.heap.size, 0, none⟩ = some (.int .i64 r.v.e) ∧ w'.cell? ⟨w.heap.size, 1, none⟩ = some (.int .u32 r.v.seq) ∧ w'.cell? ⟨w.heap.size, 2, none⟩ = some (.int .u64 r.v.tok) ∧ w'.cell? ⟨w.heap.size, 3, none⟩ = some (.int .u8 r.v.ph) ∧ w'.cell? ⟨w.heap.size, 4, none⟩ = some (.int .u64 r.v.tm) ∧ w'.cell? ⟨w.heap.size, 5, none⟩ = some (.bool r.v.has) ∧ w'.cell? ⟨w.heap.size, 6, none⟩ = some (.slice r.ba r.v.bid.length r.bc) ∧ w'.cell? ⟨w.heap.size, 7, none⟩ = some (.int .i64 r.v.item) ∧ w'.cell? ⟨w.heap.size, 8, none⟩ = some (.int .i64 r.v.pays) ∧ w'.cell? ⟨w.heap.size, 9, none⟩ = some (.slice r.ca r.v.cert.length r.cc))) (by kernel_rfl) ⟨d0, d1, d2, d3, d4, d5, d6, d7, d8, d9⟩ (fun hS => ?_)
  have kn : Keep w0 w0.drew := (Keep.refl _).drew
  replace kk := kk.trans kn
  replace bO := bO.keep kn
  generalize w0.drew = v0 at hS kk bO ⊢
  clear kn d0 d1 d2 d3 d4 d5 d6 d7 d8 d9 bM
  refine wpAnyH_take (i := 0) (v := ?_) rfl (by kernel_rfl) (by kernel_rfl) (by kernel_rfl) (fun _ _ _ h => h) (Or.inl ⟨by rfl, ?_⟩) hS ?_
  rotate_left
  · (intro w hSw; (try dsimp only at hSw); go_simp; (first | done | with_reducible rfl))
  change wpAnyH _ _ _ _ _ _ _ (Act.put _ (some 3) _) _
  simp only [Act.put, List.setIfInBounds_toArray, List.set_cons_zero, List.set_cons_succ]
  refine wpAnyH_take (i := 1) (v := ?_) rfl (by kernel_rfl) (by kernel_rfl) (by kernel_rfl) (fun _ _ _ h => h) (Or.inl ⟨by rfl, ?_⟩) hS ?_
  rotate_left
  · (intro w hSw; (try dsimp only at hSw); go_simp; (first | done | with_reducible rfl))
  change wpAnyH _ _ _ _ _ _ _ (Act.put _ (some 4) _) _
  simp only [Act.put, List.setIfInBounds_toArray, List.set_cons_zero, List.set_cons_succ]
  refine wpAnyH_take (i := 2) (v := ?_) rfl (by kernel_rfl) (by kernel_rfl) (by kernel_rfl) (fun _ _ _ h => h) (Or.inl ⟨by rfl, ?_⟩) hS ?_
  rotate_left
  · (intro w hSw; (try dsimp only at hSw); go_simp; (first | done | with_reducible rfl))
  change wpAnyH _ _ _ _ _ _ _ (Act.put _ (some 5) _) _
  simp only [Act.put, List.setIfInBounds_toArray, List.set_cons_zero, List.set_cons_succ]
  refine wpAnyH_take (i := 3) (v := ?_) rfl (by kernel_rfl) (by kernel_rfl) (by kernel_rfl) (fun _ _ _ h => h) (Or.inl ⟨by rfl, ?_⟩) hS ?_
  rotate_left
  · (intro w hSw; (try dsimp only at hSw); go_simp; (first | done | with_reducible rfl))
  change wpAnyH _ _ _ _ _ _ _ (Act.put _ (some 6) _) _
  simp only [Act.put, List.setIfInBounds_toArray, List.set_cons_zero, List.set_cons_succ]
  refine wpAnyH_take (i := 4) (v := ?_) rfl (by kernel_rfl) (by kernel_rfl) (by kernel_rfl) (fun _ _ _ h => h) (Or.inl ⟨by rfl, ?_⟩) hS ?_
  rotate_left
  · (intro w hSw; (try dsimp only at hSw); go_simp; (first | done | with_reducible rfl))
  change wpAnyH _ _ _ _ _ _ _ (Act.put _ (some 7) _) _
  simp only [Act.put, List.setIfInBounds_toArray, List.set_cons_zero, List.set_cons_succ]
  refine wpAnyH_take (i := 5) (v := ?_) rfl (by kernel_rfl) (by kernel_rfl) (by kernel_rfl) (fun _ _ _ h => h) (Or.inl ⟨by rfl, ?_⟩) hS ?_
  rotate_left
  · (intro w hSw; (try dsimp only at hSw); go_simp; (first | done | with_reducible rfl))
  change wpAnyH _ _ _ _ _ _ _ (Act.put _ (some 8) _) _
  simp only [Act.put, List.setIfInBounds_toArray, List.set_cons_zero, List.set_cons_succ]
  refine wpAnyH_take (i := 6) (v := ?_) rfl (by kernel_rfl) (by kernel_rfl) (by kernel_rfl) (fun _ _ _ h => h) (Or.inl ⟨by rfl, ?_⟩) hS ?_
  rotate_left
  · (intro w hSw; (try dsimp only at hSw); go_simp; (first | done | with_reducible rfl))
  change wpAnyH _ _ _ _ _ _ _ (Act.put _ (some 9) _) _
  simp only [Act.put, List.setIfInBounds_toArray, List.set_cons_zero, List.set_cons_succ]
  refine wpAnyH_take (i := 7) (v := ?_) rfl (by kernel_rfl) (by kernel_rfl) (by kernel_rfl) (fun _ _ _ h => h) (Or.inl ⟨by rfl, ?_⟩) hS ?_
  rotate_left
  · (intro w hSw; (try dsimp only at hSw); go_simp; (first | done | with_reducible rfl))
  change wpAnyH _ _ _ _ _ _ _ (Act.put _ (some 10) _) _
  simp only [Act.put, List.setIfInBounds_toArray, List.set_cons_zero, List.set_cons_succ]
  refine wpAnyH_take (i := 8) (v := ?_) rfl (by kernel_rfl) (by kernel_rfl) (by kernel_rfl) (fun _ _ _ h => h) (Or.inl ⟨by rfl, ?_⟩) hS ?_
  rotate_left
  · (intro w hSw; (try dsimp only at hSw); go_simp; (first | done | with_reducible rfl))
  change wpAnyH _ _ _ _ _ _ _ (Act.put _ (some 11) _) _
  simp only [Act.put, List.setIfInBounds_toArray, List.set_cons_zero, List.set_cons_succ]
  refine wpAnyH_take (i := 9) (v := ?_) rfl (by kernel_rfl) (by kernel_rfl) (by kernel_rfl) (fun _ _ _ h => h) (Or.inl ⟨by rfl, ?_⟩) hS ?_
  rotate_left
  · (intro w hSw; (try dsimp only at hSw); go_simp; (first | done | with_reducible rfl))
  change wpAnyH _ _ _ _ _ _ _ (Act.put _ (some 12) _) _
  simp only [Act.put, List.setIfInBounds_toArray, List.set_cons_zero, List.set_cons_succ]
  refine wpAnyH_take (i := 10) (v := ?_) rfl (by kernel_rfl) (by kernel_rfl) (by kernel_rfl) (fun _ _ _ h => h) (Or.inl ⟨by rfl, ?_⟩) hS ?_
  rotate_left
  · (intro w hSw; (try dsimp only at hSw); go_simp; (first | done | with_reducible rfl))
  change wpAnyH _ _ _ _ _ _ _ (Act.put _ (some 13) _) _
  simp only [Act.put, List.setIfInBounds_toArray, List.set_cons_zero, List.set_cons_succ]
  refine wpAnyH_take (i := 11) (v := ?_) rfl (by kernel_rfl) (by kernel_rfl) (by kernel_rfl) (fun _ _ _ h => h) (Or.inl ⟨by rfl, ?_⟩) hS ?_
  rotate_left
  · (intro w hSw; (try dsimp only at hSw); go_simp; (first | done | with_reducible rfl))
  change wpAnyH _ _ _ _ _ _ _ (Act.put _ (some 14) _) _
  simp only [Act.put, List.setIfInBounds_toArray, List.set_cons_zero, List.set_cons_succ]
  refine wpAnyH_take (i := 12) (v := ?_) rfl (by kernel_rfl) (by kernel_rfl) (by kernel_rfl) (fun _ _ _ h => h) (Or.inl ⟨by rfl, ?_⟩) hS ?_
  rotate_left
  · (intro w hSw; (try dsimp only at hSw); go_simp; (first | done | with_reducible rfl))
  change wpAnyH _ _ _ _ _ _ _ (Act.put _ (some 15) _) _
  simp only [Act.put, List.setIfInBounds_toArray, List.set_cons_zero, List.set_cons_succ]
  refine wpAnyH_take (i := 13) (v := ?_) rfl (by kernel_rfl) (by kernel_rfl) (by kernel_rfl) (fun _ _ _ h => h) (Or.inl ⟨by rfl, ?_⟩) hS ?_
  rotate_left
  · (intro w hSw; (try dsimp only at hSw); go_simp; (first | done | with_reducible rfl))
  change wpAnyH _ _ _ _ _ _ _ (Act.put _ (some 16) _) _
  simp only [Act.put, List.setIfInBounds_toArray, List.set_cons_zero, List.set_cons_succ]
  refine wpAnyH_take (i := 15) (v := ?_) rfl (by kernel_rfl) (by kernel_rfl) (by kernel_rfl) (fun _ _ _ h => h) (Or.inl ⟨by rfl, ?_⟩) hS ?_
  rotate_left
  · (intro w hSw; (try dsimp only at hSw); go_simp; (first | done | with_reducible rfl))
  change wpAnyH _ _ _ _ _ _ _ (Act.put _ (some 18) _) _
  simp only [Act.put, List.setIfInBounds_toArray, List.set_cons_zero, List.set_cons_succ]
  refine wpAnyH_take (i := 16) (v := ?_) rfl (by kernel_rfl) (by kernel_rfl) (by kernel_rfl) (fun _ _ _ h => h) (Or.inl ⟨by rfl, ?_⟩) hS ?_
  rotate_left
  · (intro w hSw; (try dsimp only at hSw); go_simp; (first | done | with_reducible rfl))
  change wpAnyH _ _ _ _ _ _ _ (Act.put _ (some 19) _) _
  simp only [Act.put, List.setIfInBounds_toArray, List.set_cons_zero, List.set_cons_succ]
  refine wpAnyH_take (i := 17) (v := ?_) rfl (by kernel_rfl) (by kernel_rfl) (by kernel_rfl) (fun _ _ _ h => h) (Or.inl ⟨by rfl, ?_⟩) hS ?_
  rotate_left
  · (intro w hSw; (try dsimp only at hSw); go_simp; (first | done | with_reducible rfl))
  change wpAnyH _ _ _ _ _ _ _ (Act.put _ (some 20) _) _
  simp only [Act.put, List.setIfInBounds_toArray, List.set_cons_zero, List.set_cons_succ]
  refine wpAnyH_take (i := 18) (v := ?_) rfl (by kernel_rfl) (by kernel_rfl) (by kernel_rfl) (fun _ _ _ h => h) (Or.inl ⟨by rfl, ?_⟩) hS ?_
  rotate_left
  · (intro w hSw; (try dsimp only at hSw); go_simp; (first | done | with_reducible rfl))
  change wpAnyH _ _ _ _ _ _ _ (Act.put _ (some 21) _) _
  simp only [Act.put, List.setIfInBounds_toArray, List.set_cons_zero, List.set_cons_succ]
  refine wpAnyH_take (i := 19) (v := ?_) rfl (by kernel_rfl) (by kernel_rfl) (by kernel_rfl) (fun _ _ _ h => h) (Or.inl ⟨by rfl, ?_⟩) hS ?_
  rotate_left
  · (intro w hSw; (try dsimp only at hSw); go_simp; (first | done | with_reducible rfl))
  change wpAnyH _ _ _ _ _ _ _ (Act.put _ (some 22) _) _
  simp only [Act.put, List.setIfInBounds_toArray, List.set_cons_zero, List.set_cons_succ]
  refine wpAnyH_take (i := 20) (v := ?_) rfl (by kernel_rfl) (by kernel_rfl) (by kernel_rfl) (fun _ _ _ h => h) (Or.inl ⟨by rfl, ?_⟩) hS ?_
  rotate_left
  · (intro w hSw; (try dsimp only at hSw); go_simp; (first | done | with_reducible rfl))
  change wpAnyH _ _ _ _ _ _ _ (Act.put _ (some 23) _) _
  simp only [Act.put, List.setIfInBounds_toArray, List.set_cons_zero, List.set_cons_succ]
  refine wpAnyH_ready (rs := [14]) (by kernel_rfl) (by simp) ?_
  refine AllReadyH.cons rfl (fun K hK => ?_) AllReadyH.nil
  go_simp
  refine (twinInts_f ⟨r.ba, r.bc, r.v.bid⟩ v0 (hf.keep kk).b L1.out).mono ?_
  rintro e v1 ⟨A1, c1, rfl, t1, kn⟩
  replace t1 : Twin v1 w.heap.size ⟨A1, c1, r.v.bid⟩ := Fr.mono t1 kk.size
  go_wp2_with fail
  refine hK.out _ _ ⟨kn.cell hS.1, kn.cell hS.2.1, kn.cell hS.2.2.1, kn.cell hS.2.2.2.1, kn.cell hS.2.2.2.2.1, kn.cell hS.2.2.2.2.2.1, kn.cell hS.2.2.2.2.2.2.1, kn.cell hS.2.2.2.2.2.2.2.1, kn.cell hS.2.2.2.2.2.2.2.2.1, kn.cell hS.2.2.2.2.2.2.2.2.2⟩ (fun hS => ?_)
  clear hK K
  try simp only [Act.put, List.setIfInBounds_toArray, List.set_cons_zero, List.set_cons_succ]
  refine wpAnyH_ready (rs := [21]) (by kernel_rfl) (by simp) ?_
  refine AllReadyH.cons rfl (fun K hK => ?_) AllReadyH.nil
  go_simp
  replace kk := kk.trans kn
  replace bO := bO.keep kn
  skip
  clear kn
  refine (twinBytes_f ⟨r.ca, r.cc, r.v.cert⟩ v1 (hf.keep kk).c L2.out).mono ?_
  rintro e v2 ⟨A2, c2, rfl, t2, kn⟩
  replace t2 : TwinB v2 w.heap.size ⟨A2, c2, r.v.cert⟩ := Fr.mono t2 kk.size
  replace t1 := Twin.keep t1 kn
  go_wp2_with fail
  refine hK.out _ _ ⟨kn.cell hS.1, kn.cell hS.2.1, kn.cell hS.2.2.1, kn.cell hS.2.2.2.1, kn.cell hS.2.2.2.2.1, kn.cell hS.2.2.2.2.2.1, kn.cell hS.2.2.2.2.2.2.1, kn.cell hS.2.2.2.2.2.2.2.1, kn.cell hS.2.2.2.2.2.2.2.2.1, kn.cell hS.2.2.2.2.2.2.2.2.2⟩ (fun hS => ?_)
  clear hK K
  try simp only [Act.put, List.setIfInBounds_toArray, List.set_cons_zero, List.set_cons_succ]
  refine wpAnyH_take (i := 22) (v := ?_) rfl (by kernel_rfl) (by kernel_rfl) (by kernel_rfl) (fun _ _ _ h => h) (Or.inl ⟨by rfl, ?_⟩) hS ?_
  rotate_left
  · (intro w hSw; (try dsimp only at hSw); go_simp; (first | done | with_reducible rfl))
  change wpAnyH _ _ _ _ _ _ _ (Act.put _ (some 25) _) _
  simp only [Act.put, List.setIfInBounds_toArray, List.set_cons_zero, List.set_cons_succ]
  refine wpAnyH_ready (rs := [23]) (by kernel_rfl) (by simp) ?_
  refine AllReadyH.cons rfl (fun K hK => ?_) AllReadyH.nil
  rw [if_pos (by rfl)]
  replace kk := kk.trans kn
  replace bO := bO.keep kn
  clear kn
  refine wp_store_row 32 _ _ rfl (w.heap.size + 1) #[.int .i64 r.v.e, .int .u32 r.v.seq, .int .u64 r.v.tok, .int .u8 r.v.ph, .int .u64 r.v.tm, .bool r.v.has, .slice A1 r.v.bid.length c1, .int .i64 r.v.item, .int .i64 r.v.pays, .slice A2 r.v.cert.length c2] rfl rfl _ _ bO (by kernel_rfl) rfl (by simp [Value.oneCell']) ?_
  refine hK.out _ _ ⟨(cell_setRow_other _ _ _ _ (show w.heap.size ≠ w.heap.size + 1 by omega)).trans hS.1, (cell_setRow_other _ _ _ _ (show w.heap.size ≠ w.heap.size + 1 by omega)).trans hS.2.1, (cell_setRow_other _ _ _ _ (show w.heap.size ≠ w.heap.size + 1 by omega)).trans hS.2.2.1, (cell_setRow_other _ _ _ _ (show w.heap.size ≠ w.heap.size + 1 by omega)).trans hS.2.2.2.1, (cell_setRow_other _ _ _ _ (show w.heap.size ≠ w.heap.size + 1 by omega)).trans hS.2.2.2.2.1, (cell_setRow_other _ _ _ _ (show w.heap.size ≠ w.heap.size + 1 by omega)).trans hS.2.2.2.2.2.1, (cell_setRow_other _ _ _ _ (show w.heap.size ≠ w.heap.size + 1 by omega)).trans hS.2.2.2.2.2.2.1, (cell_setRow_other _ _ _ _ (show w.heap.size ≠ w.heap.size + 1 by omega)).trans hS.2.2.2.2.2.2.2.1, (cell_setRow_other _ _ _ _ (show w.heap.size ≠ w.heap.size + 1 by omega)).trans hS.2.2.2.2.2.2.2.2.1, (cell_setRow_other _ _ _ _ (show w.heap.size ≠ w.heap.size + 1 by omega)).trans hS.2.2.2.2.2.2.2.2.2⟩ (fun hS => ?_)
  clear hK K
  try simp only [Act.put, List.setIfInBounds_toArray]
  refine wpAnyH_done (by kernel_rfl) ?_ _
  refine NoPanic.normal ?_
  have og := only_row v2 (w.heap.size + 1) #[.int .i64 r.v.e, .int .u32 r.v.seq, .int .u64 r.v.tok, .int .u8 r.v.ph, .int .u64 r.v.tm, .bool r.v.has, .slice A1 r.v.bid.length c1, .int .i64 r.v.item, .int .i64 r.v.pays, .slice A2 r.v.cert.length c2]
  have bR := bO.row #[.int .i64 r.v.e, .int .u32 r.v.seq, .int .u64 r.v.tok, .int .u8 r.v.ph, .int .u64 r.v.tm, .bool r.v.has, .slice A1 r.v.bid.length c1, .int .i64 r.v.item, .int .i64 r.v.pays, .slice A2 r.v.cert.length c2]
  go_wp2_with fail
  refine bodyPost_ret (results_cell_row rfl _ _ (w.heap.size + 1) 32 _ (0, 0) _ rfl bR Tryz.underlying32 rfl (by kernel_rfl)) rfl ?_
  exact ⟨A1, c1, A2, c2, rfl, Fr.grown t1 og (fun k hk e => by injection e with e; exact Fr.own_ne t1 bO (by decide) k hk e), Fr.grown t2 og (fun k hk e => by injection e with e; exact Fr.own_ne t2 bO (by decide) k hk e), kk.grown og (fun k e => by injection e with e; omega)⟩
end Go.Proofs.YtjhbpocffckghaaGreatDoor

namespace Go.Proofs.YtjhbpocffckghaaGreatDoor
open Go.RowKit

set_option maxRecDepth 100000 in
set_option maxHeartbeats 16000000 in
/-- LeftFrame -/
theorem leftFrm_f (f : Frm) (A1 A2 : Option Addr) (c1 c2 base : Nat) (w : World) (hf : f.Ok w) (t1 : TwinB w base ⟨A1, c1, f.v.sec⟩) (t2 : Twin w base ⟨A2, c2, f.v.bid⟩) (l1 : f.v.sec.length ≤ 1000000) (l2 : f.v.bid.length ≤ 1000000) :
    Calls Tryz.prog 16 #[(Frm.mk f.v A1 c1 A2 c2).val, f.val] w fun e w' => e = .returned (.bool true) ∧ Keep w w' := by
  have kb : Keep w ((w.alloc (.cells #[.int .u8 f.v.ask, .int .u8 f.v.who, .int .u32 f.v.seq, .int .u64 f.v.tok, .slice A1 f.v.sec.length c1, .slice A2 f.v.bid.length c2] 28)).alloc (.cells #[.int .u8 f.v.ask, .int .u8 f.v.who, .int .u32 f.v.seq, .int .u64 f.v.tok, .slice f.sa f.v.sec.length f.sc, .slice f.ba f.v.bid.length f.bc] 28)) := (Keep.alloc1 _ _).trans (Keep.alloc1 _ _)
  obtain ⟨w0, hw0⟩ : ∃ w0, w0 = (w.alloc (.cells #[.int .u8 f.v.ask, .int .u8 f.v.who, .int .u32 f.v.seq, .int .u64 f.v.tok, .slice A1 f.v.sec.length c1, .slice A2 f.v.bid.length c2] 28)).alloc (.cells #[.int .u8 f.v.ask, .int .u8 f.v.who, .int .u32 f.v.seq, .int .u64 f.v.tok, .slice f.sa f.v.sec.length f.sc, .slice f.ba f.v.bid.length f.bc] 28) := ⟨_, rfl⟩
  have bX : Blk w0 w.heap.size 28 [.int .u8 f.v.ask, .int .u8 f.v.who, .int .u32 f.v.seq, .int .u64 f.v.tok, .slice A1 f.v.sec.length c1, .slice A2 f.v.bid.length c2] := hw0 ▸ (Blk.new w 28 [.int .u8 f.v.ask, .int .u8 f.v.who, .int .u32 f.v.seq, .int .u64 f.v.tok, .slice A1 f.v.sec.length c1, .slice A2 f.v.bid.length c2]).keep (Keep.alloc1 _ _)
  have bY : Blk w0 (w.heap.size + 1) 28 [.int .u8 f.v.ask, .int .u8 f.v.who, .int .u32 f.v.seq, .int .u64 f.v.tok, .slice f.sa f.v.sec.length f.sc, .slice f.ba f.v.bid.length f.bc] := by
    have h := Blk.new (w.alloc (.cells #[.int .u8 f.v.ask, .int .u8 f.v.who, .int .u32 f.v.seq, .int .u64 f.v.tok, .slice A1 f.v.sec.length c1, .slice A2 f.v.bid.length c2] 28)) 28 [.int .u8 f.v.ask, .int .u8 f.v.who, .int .u32 f.v.seq, .int .u64 f.v.tok, .slice f.sa f.v.sec.length f.sc, .slice f.ba f.v.bid.length f.bc]
    rw [show (w.alloc (.cells #[.int .u8 f.v.ask, .int .u8 f.v.who, .int .u32 f.v.seq, .int .u64 f.v.tok, .slice A1 f.v.sec.length c1, .slice A2 f.v.bid.length c2] 28)).heap.size = w.heap.size + 1 by simp] at h
    exact hw0 ▸ h
  rw [← hw0] at kb
  have HW := Lib.hid hw0
  clear hw0
  have h1 := fun w' (k : Keep w w') => leftBytes_f A1 f.sa c1 f.sc f.v.sec base w' (t1.keep k) (hf.keep k).s.rd l1
  have h2 := fun w' (k : Keep w w') => leftInts_f A2 f.ba c2 f.bc f.v.bid base w' (t2.keep k) (hf.keep k).b.rd l2
  clear t1 t2 hf l1 l2
  have p0 := bX.cell_ (i := 0) rfl
  have q0 := bY.cell_ (i := 0) rfl
  have p1 := bX.cell_ (i := 1) rfl
  have q1 := bY.cell_ (i := 1) rfl
  have p2 := bX.cell_ (i := 2) rfl
  have q2 := bY.cell_ (i := 2) rfl
  have p3 := bX.cell_ (i := 3) rfl
  have q3 := bY.cell_ (i := 3) rfl
  have p4 := bX.cell_ (i := 4) rfl
  have q4 := bY.cell_ (i := 4) rfl
  have p5 := bX.cell_ (i := 5) rfl
  have q5 := bY.cell_ (i := 5) rfl
  unfold Frm.val
  simp only
  go_enter Tryz.func16, Tryz.ntmps16
  go_upto_region 1 with fail
  rw [← HW.out]
  go_wp2_with fail
  refine (h1 w0 kb).mono ?_
  rintro e v0 ⟨rfl, k0⟩
  have p5_0 := (bX.keep k0).cell_ (i := 5) rfl
  have q5_0 := (bY.keep k0).cell_ (i := 5) rfl
  go_wp2_with fail
  refine (h2 v0 (kb.trans k0)).mono ?_
  rintro e v1 ⟨rfl, k1⟩
  go_wp2_with fail
  go_ret
  exact ⟨rfl, ((kb.trans k0).trans k1)⟩
set_option maxRecDepth 100000 in
set_option maxHeartbeats 16000000 in
/-- LeftReply -/
theorem leftRpl_f (r : Rpl) (A1 A2 : Option Addr) (c1 c2 base : Nat) (w : World) (hf : r.Ok w) (t1 : Twin w base ⟨A1, c1, r.v.bid⟩) (t2 : TwinB w base ⟨A2, c2, r.v.cert⟩) (l1 : r.v.bid.length ≤ 1000000) (l2 : r.v.cert.length ≤ 1000000) :
    Calls Tryz.prog 17 #[(Rpl.mk r.v A1 c1 A2 c2).val, r.val] w fun e w' => e = .returned (.bool true) ∧ Keep w w' := by
  have kb : Keep w ((w.alloc (.cells #[.int .i64 r.v.e, .int .u32 r.v.seq, .int .u64 r.v.tok, .int .u8 r.v.ph, .int .u64 r.v.tm, .bool r.v.has, .slice A1 r.v.bid.length c1, .int .i64 r.v.item, .int .i64 r.v.pays, .slice A2 r.v.cert.length c2] 32)).alloc (.cells #[.int .i64 r.v.e, .int .u32 r.v.seq, .int .u64 r.v.tok, .int .u8 r.v.ph, .int .u64 r.v.tm, .bool r.v.has, .slice r.ba r.v.bid.length r.bc, .int .i64 r.v.item, .int .i64 r.v.pays, .slice r.ca r.v.cert.length r.cc] 32)) := (Keep.alloc1 _ _).trans (Keep.alloc1 _ _)
  obtain ⟨w0, hw0⟩ : ∃ w0, w0 = (w.alloc (.cells #[.int .i64 r.v.e, .int .u32 r.v.seq, .int .u64 r.v.tok, .int .u8 r.v.ph, .int .u64 r.v.tm, .bool r.v.has, .slice A1 r.v.bid.length c1, .int .i64 r.v.item, .int .i64 r.v.pays, .slice A2 r.v.cert.length c2] 32)).alloc (.cells #[.int .i64 r.v.e, .int .u32 r.v.seq, .int .u64 r.v.tok, .int .u8 r.v.ph, .int .u64 r.v.tm, .bool r.v.has, .slice r.ba r.v.bid.length r.bc, .int .i64 r.v.item, .int .i64 r.v.pays, .slice r.ca r.v.cert.length r.cc] 32) := ⟨_, rfl⟩
  have bX : Blk w0 w.heap.size 32 [.int .i64 r.v.e, .int .u32 r.v.seq, .int .u64 r.v.tok, .int .u8 r.v.ph, .int .u64 r.v.tm, .bool r.v.has, .slice A1 r.v.bid.length c1, .int .i64 r.v.item, .int .i64 r.v.pays, .slice A2 r.v.cert.length c2] := hw0 ▸ (Blk.new w 32 [.int .i64 r.v.e, .int .u32 r.v.seq, .int .u64 r.v.tok, .int .u8 r.v.ph, .int .u64 r.v.tm, .bool r.v.has, .slice A1 r.v.bid.length c1, .int .i64 r.v.item, .int .i64 r.v.pays, .slice A2 r.v.cert.length c2]).keep (Keep.alloc1 _ _)
  have bY : Blk w0 (w.heap.size + 1) 32 [.int .i64 r.v.e, .int .u32 r.v.seq, .int .u64 r.v.tok, .int .u8 r.v.ph, .int .u64 r.v.tm, .bool r.v.has, .slice r.ba r.v.bid.length r.bc, .int .i64 r.v.item, .int .i64 r.v.pays, .slice r.ca r.v.cert.length r.cc] := by
    have h := Blk.new (w.alloc (.cells #[.int .i64 r.v.e, .int .u32 r.v.seq, .int .u64 r.v.tok, .int .u8 r.v.ph, .int .u64 r.v.tm, .bool r.v.has, .slice A1 r.v.bid.length c1, .int .i64 r.v.item, .int .i64 r.v.pays, .slice A2 r.v.cert.length c2] 32)) 32 [.int .i64 r.v.e, .int .u32 r.v.seq, .int .u64 r.v.tok, .int .u8 r.v.ph, .int .u64 r.v.tm, .bool r.v.has, .slice r.ba r.v.bid.length r.bc, .int .i64 r.v.item, .int .i64 r.v.pays, .slice r.ca r.v.cert.length r.cc]
    rw [show (w.alloc (.cells #[.int .i64 r.v.e, .int .u32 r.v.seq, .int .u64 r.v.tok, .int .u8 r.v.ph, .int .u64 r.v.tm, .bool r.v.has, .slice A1 r.v.bid.length c1, .int .i64 r.v.item, .int .i64 r.v.pays, .slice A2 r.v.cert.length c2] 32)).heap.size = w.heap.size + 1 by simp] at h
    exact hw0 ▸ h
  rw [← hw0] at kb
  have HW := Lib.hid hw0
  clear hw0
  have h1 := fun w' (k : Keep w w') => leftInts_f A1 r.ba c1 r.bc r.v.bid base w' (t1.keep k) (hf.keep k).b.rd l1
  have h2 := fun w' (k : Keep w w') => leftBytes_f A2 r.ca c2 r.cc r.v.cert base w' (t2.keep k) (hf.keep k).c.rd l2
  clear t1 t2 hf l1 l2
  have p0 := bX.cell_ (i := 0) rfl
  have q0 := bY.cell_ (i := 0) rfl
  have p1 := bX.cell_ (i := 1) rfl
  have q1 := bY.cell_ (i := 1) rfl
  have p2 := bX.cell_ (i := 2) rfl
  have q2 := bY.cell_ (i := 2) rfl
  have p3 := bX.cell_ (i := 3) rfl
  have q3 := bY.cell_ (i := 3) rfl
  have p4 := bX.cell_ (i := 4) rfl
  have q4 := bY.cell_ (i := 4) rfl
  have p5 := bX.cell_ (i := 5) rfl
  have q5 := bY.cell_ (i := 5) rfl
  have p6 := bX.cell_ (i := 6) rfl
  have q6 := bY.cell_ (i := 6) rfl
  have p7 := bX.cell_ (i := 7) rfl
  have q7 := bY.cell_ (i := 7) rfl
  have p8 := bX.cell_ (i := 8) rfl
  have q8 := bY.cell_ (i := 8) rfl
  have p9 := bX.cell_ (i := 9) rfl
  have q9 := bY.cell_ (i := 9) rfl
  unfold Rpl.val
  simp only
  go_enter Tryz.func17, Tryz.ntmps17
  simp only [List.append_eq, List.cons_append, List.nil_append]
  go_wp2_with fail
  rw [← HW.out]
  refine (h1 w0 kb).mono ?_
  rintro e v0 ⟨rfl, k0⟩
  have p7_0 := (bX.keep k0).cell_ (i := 7) rfl
  have q7_0 := (bY.keep k0).cell_ (i := 7) rfl
  have p8_0 := (bX.keep k0).cell_ (i := 8) rfl
  have q8_0 := (bY.keep k0).cell_ (i := 8) rfl
  have p9_0 := (bX.keep k0).cell_ (i := 9) rfl
  have q9_0 := (bY.keep k0).cell_ (i := 9) rfl
  go_wp2_with fail
  refine (h2 v0 (kb.trans k0)).mono ?_
  rintro e v1 ⟨rfl, k1⟩
  go_wp2_with fail
  go_ret
  exact ⟨rfl, ((kb.trans k0).trans k1)⟩
end Go.Proofs.YtjhbpocffckghaaGreatDoor

namespace Go.Proofs.YtjhbpocffckghaaGreatDoor
open Go.RowKit

set_option maxRecDepth 100000 in
set_option maxHeartbeats 16000000 in
/-- salesroomref21.mayReply -/
theorem refMayR_f (r : Rpl) (w : World) (hr : r.Ok w) :
    Calls Tryz.prog 38 #[r.val] w fun e w' => e = .returned (.bool (mayR r.v)) ∧ Keep w w' := by
  have lc := hr.c.len.le
  have lb := hr.b.len.le
  have hb := fun w1 (k1 : Keep w w1) => saysK (refBid_f r.ba r.bc r.v.bid w1 (hr.keep k1).b.rd hr.b.len)
  obtain ⟨⟨e, seq, tok, ph, tm, has, bid, item, pays, cert⟩, ba, bc, ca, cc⟩ := r
  obtain ⟨M, hm⟩ : ∃ M, M = mayR ⟨e, seq, tok, ph, tm, has, bid, item, pays, cert⟩ := ⟨_, rfl⟩
  unfold Rpl.val
  simp only at lc lb hb ⊢
  rw [← hm]
  clear hr
  have b0' : ((bid.length : Int) == 0) = decide (bid.length = 0) := by
    by_cases h : bid.length = 0 <;> simp [h]
  generalize hBl : decide (bid.length = 0) = Bl at b0'
  obtain ⟨x, hx⟩ : ∃ x : Int, x = ph := ⟨_, rfl⟩
  obtain ⟨y, hy⟩ : ∃ y : Int, y = tm := ⟨_, rfl⟩
  rw [← hx, ← hy]
  have bF := Blk.new w 32 [.int .i64 e, .int .u32 seq, .int .u64 tok, .int .u8 x, .int .u64 y, .bool has, .slice ba bid.length bc, .int .i64 item, .int .i64 pays, .slice ca cert.length cc]
  have kk : Keep w (w.alloc (.cells #[.int .i64 e, .int .u32 seq, .int .u64 tok, .int .u8 x, .int .u64 y, .bool has, .slice ba bid.length bc, .int .i64 item, .int .i64 pays, .slice ca cert.length cc] 32)) := Keep.alloc1 _ _
  generalize hw1 : w.alloc (.cells #[.int .i64 e, .int .u32 seq, .int .u64 tok, .int .u8 x, .int .u64 y, .bool has, .slice ba bid.length bc, .int .i64 item, .int .i64 pays, .slice ca cert.length cc] 32) = w1 at kk bF
  have HW := Lib.hid hw1
  clear hw1
  have u0 := bF.cell_ (i := 0) rfl
  have u3 := bF.cell_ (i := 3) rfl
  have u4 := bF.cell_ (i := 4) rfl
  have u5 := bF.cell_ (i := 5) rfl
  have u6 := bF.cell_ (i := 6) rfl
  have u7 := bF.cell_ (i := 7) rfl
  have u8 := bF.cell_ (i := 8) rfl
  have u9 := bF.cell_ (i := 9) rfl
  clear bF
  by_cases g0 : 0 ≤ e
  rotate_left
  · obtain ⟨d00, d00'⟩ := dT (p := e < 0) (by omega)
    have HM : Hid (M = false) := Lib.hid (by rw [hm]; clear hm hb kk; unfold mayR; simp [*])
    clear hm hx hy
    try replace g0 := Lib.hid g0
    try replace g1 := Lib.hid g1
    try replace g2 := Lib.hid g2
    try replace g3 := Lib.hid g3
    try replace g4 := Lib.hid g4
    try replace g5 := Lib.hid g5
    try replace g6 := Lib.hid g6
    try replace g7 := Lib.hid g7
    try replace g8 := Lib.hid g8
    go_enter Tryz.func38, Tryz.ntmps38
    go_upto_region 1 with fail
    rw [HW.out]
    go_wp2_with fail
    go_ret
    exact ⟨by first | (rw [HM.out]; done) | (rw [HM.out]; rfl), kk⟩
  obtain ⟨d00, d00'⟩ := dF (p := e < 0) (by omega)
  by_cases g1 : e ≤ 12
  rotate_left
  · obtain ⟨d10, d10'⟩ := dT (p := 12 < e) (by omega)
    have HM : Hid (M = false) := Lib.hid (by rw [hm]; clear hm hb kk; unfold mayR; simp [*])
    clear hm hx hy
    try replace g0 := Lib.hid g0
    try replace g1 := Lib.hid g1
    try replace g2 := Lib.hid g2
    try replace g3 := Lib.hid g3
    try replace g4 := Lib.hid g4
    try replace g5 := Lib.hid g5
    try replace g6 := Lib.hid g6
    try replace g7 := Lib.hid g7
    try replace g8 := Lib.hid g8
    go_enter Tryz.func38, Tryz.ntmps38
    go_upto_region 1 with fail
    rw [HW.out]
    go_wp2_with fail
    go_ret
    exact ⟨by first | (rw [HM.out]; done) | (rw [HM.out]; rfl), kk⟩
  obtain ⟨d10, d10'⟩ := dF (p := 12 < e) (by omega)
  by_cases g2 : ph ≤ 3
  rotate_left
  · obtain ⟨d20, d20'⟩ := dT (p := 3 < x) (by omega)
    have HM : Hid (M = false) := Lib.hid (by rw [hm]; clear hm hb kk; unfold mayR; simp [*])
    clear hm hx hy
    try replace g0 := Lib.hid g0
    try replace g1 := Lib.hid g1
    try replace g2 := Lib.hid g2
    try replace g3 := Lib.hid g3
    try replace g4 := Lib.hid g4
    try replace g5 := Lib.hid g5
    try replace g6 := Lib.hid g6
    try replace g7 := Lib.hid g7
    try replace g8 := Lib.hid g8
    go_enter Tryz.func38, Tryz.ntmps38
    go_upto_region 1 with fail
    rw [HW.out]
    go_wp2_with fail
    go_ret
    exact ⟨by first | (rw [HM.out]; done) | (rw [HM.out]; rfl), kk⟩
  obtain ⟨d20, d20'⟩ := dF (p := 3 < x) (by omega)
  by_cases g3 : tm ≤ 1099511627776
  rotate_left
  · obtain ⟨d30, d30'⟩ := dT (p := 1099511627776 < y) (by omega)
    have HM : Hid (M = false) := Lib.hid (by rw [hm]; clear hm hb kk; unfold mayR; simp [*])
    clear hm hx hy
    try replace g0 := Lib.hid g0
    try replace g1 := Lib.hid g1
    try replace g2 := Lib.hid g2
    try replace g3 := Lib.hid g3
    try replace g4 := Lib.hid g4
    try replace g5 := Lib.hid g5
    try replace g6 := Lib.hid g6
    try replace g7 := Lib.hid g7
    try replace g8 := Lib.hid g8
    go_enter Tryz.func38, Tryz.ntmps38
    go_upto_region 1 with fail
    rw [HW.out]
    go_wp2_with fail
    go_ret
    exact ⟨by first | (rw [HM.out]; done) | (rw [HM.out]; rfl), kk⟩
  obtain ⟨d30, d30'⟩ := dF (p := 1099511627776 < y) (by omega)
  by_cases g4 : -1 ≤ item
  rotate_left
  · obtain ⟨d40, d40'⟩ := dT (p := item < -1) (by omega)
    have HM : Hid (M = false) := Lib.hid (by rw [hm]; clear hm hb kk; unfold mayR; simp [*])
    clear hm hx hy
    try replace g0 := Lib.hid g0
    try replace g1 := Lib.hid g1
    try replace g2 := Lib.hid g2
    try replace g3 := Lib.hid g3
    try replace g4 := Lib.hid g4
    try replace g5 := Lib.hid g5
    try replace g6 := Lib.hid g6
    try replace g7 := Lib.hid g7
    try replace g8 := Lib.hid g8
    go_enter Tryz.func38, Tryz.ntmps38
    go_upto_region 1 with fail
    rw [HW.out]
    go_wp2_with fail
    go_ret
    exact ⟨by first | (rw [HM.out]; done) | (rw [HM.out]; rfl), kk⟩
  obtain ⟨d40, d40'⟩ := dF (p := item < -1) (by omega)
  by_cases g5 : item < 8
  rotate_left
  · obtain ⟨d50, d50'⟩ := dT (p := 8 ≤ item) (by omega)
    obtain ⟨d51, d51'⟩ := dF (p := item < 8) (by omega)
    have HM : Hid (M = false) := Lib.hid (by rw [hm]; clear hm hb kk; unfold mayR; simp [*])
    clear hm hx hy
    try replace g0 := Lib.hid g0
    try replace g1 := Lib.hid g1
    try replace g2 := Lib.hid g2
    try replace g3 := Lib.hid g3
    try replace g4 := Lib.hid g4
    try replace g5 := Lib.hid g5
    try replace g6 := Lib.hid g6
    try replace g7 := Lib.hid g7
    try replace g8 := Lib.hid g8
    go_enter Tryz.func38, Tryz.ntmps38
    go_upto_region 1 with fail
    rw [HW.out]
    go_wp2_with fail
    go_ret
    exact ⟨by first | (rw [HM.out]; done) | (rw [HM.out]; rfl), kk⟩
  obtain ⟨d50, d50'⟩ := dF (p := 8 ≤ item) (by omega)
  obtain ⟨d51, d51'⟩ := dT (p := item < 8) (by omega)
  by_cases g6 : 0 ≤ pays
  rotate_left
  · obtain ⟨d60, d60'⟩ := dT (p := pays < 0) (by omega)
    have HM : Hid (M = false) := Lib.hid (by rw [hm]; clear hm hb kk; unfold mayR; simp [*])
    clear hm hx hy
    try replace g0 := Lib.hid g0
    try replace g1 := Lib.hid g1
    try replace g2 := Lib.hid g2
    try replace g3 := Lib.hid g3
    try replace g4 := Lib.hid g4
    try replace g5 := Lib.hid g5
    try replace g6 := Lib.hid g6
    try replace g7 := Lib.hid g7
    try replace g8 := Lib.hid g8
    go_enter Tryz.func38, Tryz.ntmps38
    go_upto_region 1 with fail
    rw [HW.out]
    go_wp2_with fail
    go_ret
    exact ⟨by first | (rw [HM.out]; done) | (rw [HM.out]; rfl), kk⟩
  obtain ⟨d60, d60'⟩ := dF (p := pays < 0) (by omega)
  by_cases g7 : pays ≤ 2000000
  rotate_left
  · obtain ⟨d70, d70'⟩ := dT (p := 2000000 < pays) (by omega)
    have HM : Hid (M = false) := Lib.hid (by rw [hm]; clear hm hb kk; unfold mayR; simp [*])
    clear hm hx hy
    try replace g0 := Lib.hid g0
    try replace g1 := Lib.hid g1
    try replace g2 := Lib.hid g2
    try replace g3 := Lib.hid g3
    try replace g4 := Lib.hid g4
    try replace g5 := Lib.hid g5
    try replace g6 := Lib.hid g6
    try replace g7 := Lib.hid g7
    try replace g8 := Lib.hid g8
    go_enter Tryz.func38, Tryz.ntmps38
    go_upto_region 1 with fail
    rw [HW.out]
    go_wp2_with fail
    go_ret
    exact ⟨by first | (rw [HM.out]; done) | (rw [HM.out]; rfl), kk⟩
  obtain ⟨d70, d70'⟩ := dF (p := 2000000 < pays) (by omega)
  by_cases g8 : cert.length ≤ 1024
  rotate_left
  · obtain ⟨d80, d80'⟩ := dT (p := (1024 : Int) < (cert.length : Int)) (by omega)
    obtain ⟨d81, d81'⟩ := dT (p := 1024 < cert.length) (by omega)
    have HM : Hid (M = false) := Lib.hid (by rw [hm]; clear hm hb kk; unfold mayR; simp [*])
    clear hm hx hy
    try replace g0 := Lib.hid g0
    try replace g1 := Lib.hid g1
    try replace g2 := Lib.hid g2
    try replace g3 := Lib.hid g3
    try replace g4 := Lib.hid g4
    try replace g5 := Lib.hid g5
    try replace g6 := Lib.hid g6
    try replace g7 := Lib.hid g7
    try replace g8 := Lib.hid g8
    go_enter Tryz.func38, Tryz.ntmps38
    go_upto_region 1 with fail
    rw [HW.out]
    go_wp2_with fail
    go_ret
    exact ⟨by first | (rw [HM.out]; done) | (rw [HM.out]; rfl), kk⟩
  obtain ⟨d80, d80'⟩ := dF (p := (1024 : Int) < (cert.length : Int)) (by omega)
  obtain ⟨d81, d81'⟩ := dF (p := 1024 < cert.length) (by omega)
  cases has with
  | true =>
    have HM : Hid (M = bidOk bid) := Lib.hid (by rw [hm]; clear hm hb kk; unfold mayR; simp [*])
    clear hm hx hy
    try replace g0 := Lib.hid g0
    try replace g1 := Lib.hid g1
    try replace g2 := Lib.hid g2
    try replace g3 := Lib.hid g3
    try replace g4 := Lib.hid g4
    try replace g5 := Lib.hid g5
    try replace g6 := Lib.hid g6
    try replace g7 := Lib.hid g7
    try replace g8 := Lib.hid g8
    go_enter Tryz.func38, Tryz.ntmps38
    go_upto_region 1 with fail
    rw [HW.out]
    go_wp2_with fail
    refine (hb _ kk).mono ?_
    rintro e w2 ⟨rfl, k2⟩
    go_wp2_with fail
    go_ret
    exact ⟨by first | (rw [HM.out]; done) | (rw [HM.out]; rfl), kk.trans k2⟩
  | false =>
    have HM : Hid (M = Bl) := Lib.hid (by rw [hm]; clear hm hb kk; unfold mayR; simp [*]; rw [← hBl]; simp)
    clear hm hx hy
    try replace g0 := Lib.hid g0
    try replace g1 := Lib.hid g1
    try replace g2 := Lib.hid g2
    try replace g3 := Lib.hid g3
    try replace g4 := Lib.hid g4
    try replace g5 := Lib.hid g5
    try replace g6 := Lib.hid g6
    try replace g7 := Lib.hid g7
    try replace g8 := Lib.hid g8
    go_enter Tryz.func38, Tryz.ntmps38
    go_upto_region 1 with fail
    rw [HW.out]
    go_wp2_with fail
    go_ret
    exact ⟨by first | (rw [HM.out]; done) | (rw [HM.out]; rfl), kk⟩
end Go.Proofs.YtjhbpocffckghaaGreatDoor

namespace Go.Proofs.YtjhbpocffckghaaGreatDoor
open Go.RowKit

set_option maxRecDepth 100000 in
set_option maxHeartbeats 8000000 in
/-- salesroomref21.Put -/
theorem refPutF_f (f : Frm) (w : World) (hf : f.Ok w) {L : List Int} {r : Int} (hv : putFV f.v = (L, r)) :
    Calls Tryz.prog 9 #[f.val] w fun e w' => ∃ A c, e = .returned (.tuple #[.slice A L.length c, .int .i64 r]) ∧ Fr 5 w' w.heap.size A L.length c (cs .u8 L) ∧ Keep w w' := by
  have ls := hf.s.len.le
  have lb := hf.b.len.le
  have hq2 := hf.seq
  have la := hf.ask
  have lw := hf.who
  have kk : Keep w w := Keep.refl _
  obtain ⟨f, sa, sc, ba, bc⟩ := f
  unfold Frm.val
  simp only at ls lb hq2 la lw hv ⊢
  have z1 : IntKind.u64.wrap (f.seq : Int) = f.seq := by
    show (f.seq : Int) % 18446744073709551616 = f.seq
    omega
  unfold putFV at hv
  cases hmay : mayF f with
  | false =>
    rw [hmay, if_neg (by decide)] at hv
    cases hv
    have HM := Lib.hid hmay
    clear hmay
    go_enter Tryz.func9, Tryz.ntmps9
    go_upto_region 1 with fail
    have kq : Keep w (w.alloc (.cells #[.int .u8 f.ask, .int .u8 f.who, .int .u32 f.seq, .int .u64 f.tok, .slice sa f.sec.length sc, .slice ba f.bid.length bc] 28)) := Keep.alloc1 _ _
    have bF := Blk.new w 28 [.int .u8 f.ask, .int .u8 f.who, .int .u32 f.seq, .int .u64 f.tok, .slice sa f.sec.length sc, .slice ba f.bid.length bc]
    change Code.wp _ _ _ _ (w.alloc (.cells #[.int .u8 f.ask, .int .u8 f.who, .int .u32 f.seq, .int .u64 f.tok, .slice sa f.sec.length sc, .slice ba f.bid.length bc] 28))
    generalize w.alloc (.cells #[.int .u8 f.ask, .int .u8 f.who, .int .u32 f.seq, .int .u64 f.tok, .slice sa f.sec.length sc, .slice ba f.bid.length bc] 28) = w1 at kq bF ⊢
    generalize w.heap.size = gbF at bF ⊢
    replace hf := hf.keep kq
    replace kk := kk.trans kq
    clear kq
    have bF_0 := bF.cell_ (i := 0) rfl
    have bF_1 := bF.cell_ (i := 1) rfl
    have bF_2 := bF.cell_ (i := 2) rfl
    have bF_3 := bF.cell_ (i := 3) rfl
    have bF_4 := bF.cell_ (i := 4) rfl
    have bF_5 := bF.cell_ (i := 5) rfl
    have hq := refMay_f (Frm.mk f sa sc ba bc) w1 hf
    unfold Frm.val at hq
    simp only at hq
    rw [HM.out] at hq
    go_wp2_with fail
    refine hq.mono ?_
    rintro e w2 ⟨rfl, kq⟩
    clear hq
    replace hf := hf.keep kq
    replace bF := bF.keep kq
    replace kk := kk.trans kq
    clear kq
    clear bF_0 bF_1 bF_2 bF_3 bF_4 bF_5
    go_wp2_with fail
    refine bodyPost_ret (results_tmp2 rfl _ _ _) rfl ?_
    exact ⟨none, 0, rfl, Fr.empty _ _ _ _, kk⟩
  | true =>
    obtain ⟨g1, g2, g3, g4, g5⟩ := mayF_facts hmay
    have LL : Hid (L = bytesF f ∧ r = 0) := by
      rw [hmay, if_pos rfl] at hv
      cases hv
      exact Lib.hid ⟨rfl, rfl⟩
    have LE := Lib.hid (And.intro (le_one la) (le_one lw))
    have HM := Lib.hid hmay
    obtain ⟨X0, hX0⟩ : ∃ X, X = [(f.ask : Int), (f.who : Int)] := ⟨_, rfl⟩
    obtain ⟨X1, hX1⟩ : ∃ X, X = X0 ++ le f.seq 4 := ⟨_, rfl⟩
    obtain ⟨X2, hX2⟩ : ∃ X, X = X1 ++ le f.tok 8 := ⟨_, rfl⟩
    obtain ⟨X3, hX3⟩ : ∃ X, X = X2 ++ putBy (f.sec.take 65535) := ⟨_, rfl⟩
    obtain ⟨X4, hX4⟩ : ∃ X, X = X3 ++ putL (f.bid.take 255) := ⟨_, rfl⟩
    have e0 : X0.length = 2 := by rw [hX0]; rfl
    have e1 : X1.length = 6 := by rw [hX1, List.length_append, length_le, e0]
    have e2 : X2.length = 14 := by rw [hX2, List.length_append, length_le, e1]
    have e3 : X3.length ≤ 100 := by rw [hX3, List.length_append, length_putBy', List.length_take, e2]; omega
    have hL : L = X4 := by
      rw [LL.out.1, hX4, hX3, hX2, hX1, hX0, show f.sec.take 65535 = f.sec from List.take_of_length_le (by omega), show f.bid.take 255 = f.bid from List.take_of_length_le (by omega)]
      unfold bytesF
      rw [LE.out.1, LE.out.2]
      simp only [List.append_assoc, List.cons_append, List.nil_append]
    have hr0 := LL.out.2
    subst hr0
    rw [hL]
    have E0 := Lib.hid e0
    have E1 := Lib.hid e1
    have E2 := Lib.hid e2
    have E3 := Lib.hid e3
    have H0 := Lib.hid hX0
    have H1 := Lib.hid hX1
    have H2 := Lib.hid hX2
    have H3 := Lib.hid hX3
    have H4 := Lib.hid hX4
    clear e0 e1 e2 e3 hX0 hX1 hX2 hX3 hX4 hL LL LE hmay hv g1 g2 g3 g4 g5 la lw hq2
    go_enter Tryz.func9, Tryz.ntmps9
    go_upto_region 1 with fail
    have kq : Keep w (w.alloc (.cells #[.int .u8 f.ask, .int .u8 f.who, .int .u32 f.seq, .int .u64 f.tok, .slice sa f.sec.length sc, .slice ba f.bid.length bc] 28)) := Keep.alloc1 _ _
    have bF := Blk.new w 28 [.int .u8 f.ask, .int .u8 f.who, .int .u32 f.seq, .int .u64 f.tok, .slice sa f.sec.length sc, .slice ba f.bid.length bc]
    change Code.wp _ _ _ _ (w.alloc (.cells #[.int .u8 f.ask, .int .u8 f.who, .int .u32 f.seq, .int .u64 f.tok, .slice sa f.sec.length sc, .slice ba f.bid.length bc] 28))
    generalize w.alloc (.cells #[.int .u8 f.ask, .int .u8 f.who, .int .u32 f.seq, .int .u64 f.tok, .slice sa f.sec.length sc, .slice ba f.bid.length bc] 28) = w1 at kq bF ⊢
    generalize w.heap.size = gbF at bF ⊢
    replace hf := hf.keep kq
    replace kk := kk.trans kq
    clear kq
    have bF_0 := bF.cell_ (i := 0) rfl
    have bF_1 := bF.cell_ (i := 1) rfl
    have bF_2 := bF.cell_ (i := 2) rfl
    have bF_3 := bF.cell_ (i := 3) rfl
    have bF_4 := bF.cell_ (i := 4) rfl
    have bF_5 := bF.cell_ (i := 5) rfl
    have hq := refMay_f (Frm.mk f sa sc ba bc) w1 hf
    unfold Frm.val at hq
    simp only at hq
    rw [HM.out] at hq
    go_wp2_with fail
    refine hq.mono ?_
    rintro e w2 ⟨rfl, kq⟩
    clear hq
    replace hf := hf.keep kq
    replace bF := bF.keep kq
    replace kk := kk.trans kq
    clear kq
    clear bF_0 bF_1 bF_2 bF_3 bF_4 bF_5
    have bF_0 := bF.cell_ (i := 0) rfl
    have bF_1 := bF.cell_ (i := 1) rfl
    have bF_2 := bF.cell_ (i := 2) rfl
    have bF_3 := bF.cell_ (i := 3) rfl
    have bF_4 := bF.cell_ (i := 4) rfl
    have bF_5 := bF.cell_ (i := 5) rfl
    go_upto_region 4 with fail
    have kq : Keep w2 (w2.alloc (.cells #[.int .u8 f.ask, .int .u8 f.who] 5)) := Keep.alloc1 _ _
    have r0 : Rd (w2.alloc (.cells #[.int .u8 f.ask, .int .u8 f.who] 5)) (some ⟨w2.heap.size, 0, none⟩) (cs .u8 X0) := by rw [H0.out]; exact (Blk.new w2 5 [.int .u8 f.ask, .int .u8 f.who]).rd
    change Code.wp _ _ _ _ (w2.alloc (.cells #[.int .u8 f.ask, .int .u8 f.who] 5))
    generalize w2.alloc (.cells #[.int .u8 f.ask, .int .u8 f.who] 5) = v0 at kq r0 ⊢
    generalize w2.heap.size = g0 at r0 ⊢
    clear bF_0 bF_1 bF_2 bF_3 bF_4 bF_5
    replace hf := hf.keep kq
    replace bF := bF.keep kq
    replace kk := kk.trans kq
    clear kq
    have bF_0 := bF.cell_ (i := 0) rfl
    have bF_1 := bF.cell_ (i := 1) rfl
    have bF_2 := bF.cell_ (i := 2) rfl
    have bF_3 := bF.cell_ (i := 3) rfl
    have bF_4 := bF.cell_ (i := 4) rfl
    have bF_5 := bF.cell_ (i := 5) rfl
    have hq := (show Calls Tryz.prog 34 #[.slice (some ⟨g0, 0, none⟩) 2 2, .int .u64 (f.seq : Int), .int .i64 4] v0 (RowsC (X0 ++ le f.seq 4) v0) by have h := refPut_r (some ⟨g0, 0, none⟩) 2 X0 f.seq 4 v0 r0 (by rw [E0.out]; decide) (by decide); rw [E0.out] at h; exact h)
    unfold RowsC at hq
    rw [← H1.out, E1.out] at hq
    go_wp2_with fail
    refine hq.mono ?_
    rintro e w3 ⟨A1, c1, rfl, f1, kq⟩
    clear hq
    have r1 := f1.rd
    clear f1 r0
    replace hf := hf.keep kq
    replace bF := bF.keep kq
    replace kk := kk.trans kq
    clear kq
    clear bF_0 bF_1 bF_2 bF_3 bF_4 bF_5
    have bF_0 := bF.cell_ (i := 0) rfl
    have bF_1 := bF.cell_ (i := 1) rfl
    have bF_2 := bF.cell_ (i := 2) rfl
    have bF_3 := bF.cell_ (i := 3) rfl
    have bF_4 := bF.cell_ (i := 4) rfl
    have bF_5 := bF.cell_ (i := 5) rfl
    have hq := (show Calls Tryz.prog 34 #[.slice A1 6 c1, .int .u64 (f.tok : Int), .int .i64 8] w3 (RowsC (X1 ++ le f.tok 8) w3) by have h := refPut_r A1 c1 X1 f.tok 8 w3 r1 (by rw [E1.out]; decide) (by decide); rw [E1.out] at h; exact h)
    unfold RowsC at hq
    rw [← H2.out, E2.out] at hq
    go_wp2_with fail
    refine hq.mono ?_
    rintro e w4 ⟨A2, c2, rfl, f2, kq⟩
    clear hq
    have r2 := f2.rd
    clear f2 r1
    replace hf := hf.keep kq
    replace bF := bF.keep kq
    replace kk := kk.trans kq
    clear kq
    clear bF_0 bF_1 bF_2 bF_3 bF_4 bF_5
    have bF_0 := bF.cell_ (i := 0) rfl
    have bF_1 := bF.cell_ (i := 1) rfl
    have bF_2 := bF.cell_ (i := 2) rfl
    have bF_3 := bF.cell_ (i := 3) rfl
    have bF_4 := bF.cell_ (i := 4) rfl
    have bF_5 := bF.cell_ (i := 5) rfl
    have hq := (show Calls Tryz.prog 35 #[.slice A2 14 c2, .slice sa f.sec.length sc] w4 (RowsC (X2 ++ putBy (f.sec.take 65535)) w4) by have h := refPutBytes_f A2 c2 X2 sa sc f.sec w4 r2 (by rw [E2.out]; decide) hf.s.rd hf.s.inn.cap (by unfold Len; have := hf.s.inn.capI; simp only at this; omega); rw [E2.out] at h; exact h)
    unfold RowsC at hq
    rw [← H3.out] at hq
    go_wp2_with fail
    refine hq.mono ?_
    rintro e w5 ⟨A3, c3, rfl, f3, kq⟩
    clear hq
    have r3 := f3.rd
    clear f3 r2
    replace hf := hf.keep kq
    replace bF := bF.keep kq
    replace kk := kk.trans kq
    clear kq
    clear bF_0 bF_1 bF_2 bF_3 bF_4 bF_5
    have bF_0 := bF.cell_ (i := 0) rfl
    have bF_1 := bF.cell_ (i := 1) rfl
    have bF_2 := bF.cell_ (i := 2) rfl
    have bF_3 := bF.cell_ (i := 3) rfl
    have bF_4 := bF.cell_ (i := 4) rfl
    have bF_5 := bF.cell_ (i := 5) rfl
    have hwb := kk.size
    have hq := refPutList_f A3 c3 X3 ba bc f.bid w5 r3 (by have := E3.out; omega) hf.b.rd hf.b.inn.cap (by unfold Len; have := hf.b.inn.capI; simp only at this; omega)
    unfold RowsC at hq
    rw [← H4.out] at hq
    go_wp2_with fail
    refine hq.mono ?_
    rintro e w6 ⟨A4, c4, rfl, f4, kq⟩
    clear hq
    replace f4 := Fr.mono f4 hwb
    replace hf := hf.keep kq
    replace bF := bF.keep kq
    replace kk := kk.trans kq
    clear kq
    clear bF_0 bF_1 bF_2 bF_3 bF_4 bF_5
    go_wp2_with fail
    refine bodyPost_ret (results_tmp2 rfl _ _ _) rfl ?_
    exact ⟨A4, c4, rfl, f4, kk⟩
end Go.Proofs.YtjhbpocffckghaaGreatDoor

namespace Go.Proofs.YtjhbpocffckghaaGreatDoor
open Go.RowKit

set_option maxRecDepth 100000 in
set_option maxHeartbeats 16000000 in
/-- salesroomref21.PutReply -/
theorem refPutR_f (r : Rpl) (w : World) (hr : r.Ok w) {L : List Int} {x : Int} (hv : putRV r.v = (L, x)) :
    Calls Tryz.prog 11 #[r.val] w fun e w' => ∃ A c, e = .returned (.tuple #[.slice A L.length c, .int .i64 x]) ∧ Fr 5 w' w.heap.size A L.length c (cs .u8 L) ∧ Keep w w' := by
  have lb := hr.b.len.le
  have lc := hr.c.len.le
  have hq1 := hr.seq
  have hq2 := hr.ph
  have kk : Keep w w := Keep.refl _
  obtain ⟨r, ba, bc, ca, cc⟩ := r
  unfold Rpl.val
  simp only at lb lc hq1 hq2 hv ⊢
  unfold putRV at hv
  cases hmay : mayR r with
  | false =>
    rw [hmay, if_neg (by decide)] at hv
    cases hv
    have HM := Lib.hid hmay
    clear hmay
    go_enter Tryz.func11, Tryz.ntmps11
    go_upto_region 1 with fail
    have kq : Keep w (w.alloc (.cells #[.int .i64 r.e, .int .u32 r.seq, .int .u64 r.tok, .int .u8 r.ph, .int .u64 r.tm, .bool r.has, .slice ba r.bid.length bc, .int .i64 r.item, .int .i64 r.pays, .slice ca r.cert.length cc] 32)) := Keep.alloc1 _ _
    have bF := Blk.new w 32 [.int .i64 r.e, .int .u32 r.seq, .int .u64 r.tok, .int .u8 r.ph, .int .u64 r.tm, .bool r.has, .slice ba r.bid.length bc, .int .i64 r.item, .int .i64 r.pays, .slice ca r.cert.length cc]
    change Code.wp _ _ _ _ (w.alloc (.cells #[.int .i64 r.e, .int .u32 r.seq, .int .u64 r.tok, .int .u8 r.ph, .int .u64 r.tm, .bool r.has, .slice ba r.bid.length bc, .int .i64 r.item, .int .i64 r.pays, .slice ca r.cert.length cc] 32))
    generalize w.alloc (.cells #[.int .i64 r.e, .int .u32 r.seq, .int .u64 r.tok, .int .u8 r.ph, .int .u64 r.tm, .bool r.has, .slice ba r.bid.length bc, .int .i64 r.item, .int .i64 r.pays, .slice ca r.cert.length cc] 32) = w1 at kq bF ⊢
    generalize w.heap.size = gbF at bF ⊢
    replace hr := hr.keep kq
    replace kk := kk.trans kq
    clear kq
    have bF_0 := bF.cell_ (i := 0) rfl
    have bF_1 := bF.cell_ (i := 1) rfl
    have bF_2 := bF.cell_ (i := 2) rfl
    have bF_3 := bF.cell_ (i := 3) rfl
    have bF_4 := bF.cell_ (i := 4) rfl
    have bF_5 := bF.cell_ (i := 5) rfl
    have bF_6 := bF.cell_ (i := 6) rfl
    have bF_7 := bF.cell_ (i := 7) rfl
    have bF_8 := bF.cell_ (i := 8) rfl
    have bF_9 := bF.cell_ (i := 9) rfl
    have hq := refMayR_f (Rpl.mk r ba bc ca cc) w1 hr
    unfold Rpl.val at hq
    simp only at hq
    rw [HM.out] at hq
    go_wp2_with fail
    refine hq.mono ?_
    rintro e w2 ⟨rfl, kq⟩
    clear hq
    replace hr := hr.keep kq
    replace bF := bF.keep kq
    replace kk := kk.trans kq
    clear kq
    clear bF_0 bF_1 bF_2 bF_3 bF_4 bF_5 bF_6 bF_7 bF_8 bF_9
    go_wp2_with fail
    refine bodyPost_ret (results_tmp2 rfl _ _ _) rfl ?_
    exact ⟨none, 0, rfl, Fr.empty _ _ _ _, kk⟩
  | true =>
    obtain ⟨g1, g2, g3, g4, g5, g6, g7, g8, g9, g10, g11⟩ := mayR_facts hmay
    have LL : Hid (L = bytesR r ∧ x = 0) := by
      rw [hmay, if_pos rfl] at hv
      cases hv
      exact Lib.hid ⟨rfl, rfl⟩
    have HM := Lib.hid hmay
    have zE := small_u8 (i := r.e) (by omega)
    have zI := item_u8 (i := r.item) (by omega)
    have zP := small_u64 (i := r.pays) (by omega)
    have zS := u32_u64 hq1
    obtain ⟨pn, hpn⟩ : ∃ pn : Nat, pn = r.pays.toNat := ⟨_, rfl⟩
    rw [← hpn] at zP
    obtain ⟨it, hit⟩ : ∃ it : Int, it = (itemN r.item : Int) := ⟨_, rfl⟩
    rw [← hit] at zI
    obtain ⟨hs, hhs⟩ : ∃ hs : Int, hs = (hasN r.has : Int) := ⟨_, rfl⟩
    obtain ⟨X0, hX0⟩ : ∃ X, X = [r.e] := ⟨_, rfl⟩
    obtain ⟨X1, hX1⟩ : ∃ X, X = X0 ++ le r.seq 4 := ⟨_, rfl⟩
    obtain ⟨X2, hX2⟩ : ∃ X, X = X1 ++ le r.tok 8 := ⟨_, rfl⟩
    obtain ⟨X3, hX3⟩ : ∃ X, X = X2 ++ [(r.ph : Int)] := ⟨_, rfl⟩
    obtain ⟨X4, hX4⟩ : ∃ X, X = X3 ++ le r.tm 8 := ⟨_, rfl⟩
    obtain ⟨X5, hX5⟩ : ∃ X, X = X4 ++ [hs] := ⟨_, rfl⟩
    obtain ⟨X6, hX6⟩ : ∃ X, X = X5 ++ putL (r.bid.take 255) := ⟨_, rfl⟩
    obtain ⟨X7, hX7⟩ : ∃ X, X = X6 ++ [it] := ⟨_, rfl⟩
    obtain ⟨X8, hX8⟩ : ∃ X, X = X7 ++ le pn 4 := ⟨_, rfl⟩
    obtain ⟨X9, hX9⟩ : ∃ X, X = X8 ++ putBy (r.cert.take 65535) := ⟨_, rfl⟩
    have e0 : X0.length = 1 := by rw [hX0]; rfl
    have e1 : X1.length = 5 := by rw [hX1, List.length_append, length_le, e0]
    have e2 : X2.length = 13 := by rw [hX2, List.length_append, length_le, e1]
    have e3 : X3.length = 14 := by rw [hX3, List.length_append, e2]; rfl
    have e4 : X4.length = 22 := by rw [hX4, List.length_append, length_le, e3]
    have e5 : X5.length = 23 := by rw [hX5, List.length_append, e4]; rfl
    have e6 : X6.length ≤ 100 := by rw [hX6, List.length_append, length_putL, List.length_take, e5]; omega
    have e7 : X7.length = X6.length + 1 := by rw [hX7, List.length_append]; rfl
    have e8 : X8.length = X6.length + 5 := by rw [hX8, List.length_append, length_le, e7]
    have hL : L = X9 := by
      have l1 := le_one (n := r.e.toNat) (by omega)
      have l2 := le_one (n := r.ph) hq2
      have l3 := le_one (n := hasN r.has) (by unfold hasN; split <;> omega)
      have l4 := le_one (n := itemN r.item) (by unfold itemN; split <;> omega)
      rw [Int.toNat_of_nonneg g1] at l1
      rw [LL.out.1, hX9, hX8, hX7, hX6, hX5, hX4, hX3, hX2, hX1, hX0, show r.cert.take 65535 = r.cert from List.take_of_length_le (by omega), show r.bid.take 255 = r.bid from List.take_of_length_le (by omega)]
      unfold bytesR
      rw [l1, l2, l3, l4, hpn, hit, hhs]
      simp only [List.append_assoc, List.cons_append, List.nil_append]
    have hx0 := LL.out.2
    subst hx0
    rw [hL]
    have hI : (r.item < 0 ∧ it = 255) ∨ 0 ≤ r.item := by
      rw [hit]
      unfold itemN
      by_cases h : r.item < 0
      · exact .inl ⟨h, by rw [if_pos h]; rfl⟩
      · exact .inr (by omega)
    have hH : (r.has = true ∧ hs = 1) ∨ (r.has = false ∧ hs = 0) := by
      rw [hhs]
      cases r.has
      · exact .inr ⟨rfl, rfl⟩
      · exact .inl ⟨rfl, rfl⟩
    have hi1 : 0 ≤ it ∧ it < 256 := by
      rw [hit]
      unfold itemN
      split <;> omega
    have E0 := Lib.hid e0
    have E1 := Lib.hid e1
    have E2 := Lib.hid e2
    have E3 := Lib.hid e3
    have E4 := Lib.hid e4
    have E5 := Lib.hid e5
    have E6 := Lib.hid e6
    have E7 := Lib.hid e7
    have E8 := Lib.hid e8
    have H0 := Lib.hid hX0
    have H1 := Lib.hid hX1
    have H2 := Lib.hid hX2
    have H3 := Lib.hid hX3
    have H4 := Lib.hid hX4
    have H5 := Lib.hid hX5
    have H6 := Lib.hid hX6
    have H7 := Lib.hid hX7
    have H8 := Lib.hid hX8
    have H9 := Lib.hid hX9
    replace hI := Lib.hid hI
    replace hH := Lib.hid hH
    clear e0 e1 e2 e3 e4 e5 e6 e7 e8 hX0 hX1 hX2 hX3 hX4 hX5 hX6 hX7 hX8 hX9 hL LL hmay hv g1 g2 g3 g4 g5 g6 g7 g8 g9 g10 g11 hq1 hq2 hpn hit hhs hi1
    go_enter Tryz.func11, Tryz.ntmps11
    go_upto_region 1 with fail
    have kq : Keep w (w.alloc (.cells #[.int .i64 r.e, .int .u32 r.seq, .int .u64 r.tok, .int .u8 r.ph, .int .u64 r.tm, .bool r.has, .slice ba r.bid.length bc, .int .i64 r.item, .int .i64 r.pays, .slice ca r.cert.length cc] 32)) := Keep.alloc1 _ _
    have bF := Blk.new w 32 [.int .i64 r.e, .int .u32 r.seq, .int .u64 r.tok, .int .u8 r.ph, .int .u64 r.tm, .bool r.has, .slice ba r.bid.length bc, .int .i64 r.item, .int .i64 r.pays, .slice ca r.cert.length cc]
    change Code.wp _ _ _ _ (w.alloc (.cells #[.int .i64 r.e, .int .u32 r.seq, .int .u64 r.tok, .int .u8 r.ph, .int .u64 r.tm, .bool r.has, .slice ba r.bid.length bc, .int .i64 r.item, .int .i64 r.pays, .slice ca r.cert.length cc] 32))
    generalize w.alloc (.cells #[.int .i64 r.e, .int .u32 r.seq, .int .u64 r.tok, .int .u8 r.ph, .int .u64 r.tm, .bool r.has, .slice ba r.bid.length bc, .int .i64 r.item, .int .i64 r.pays, .slice ca r.cert.length cc] 32) = w1 at kq bF ⊢
    generalize w.heap.size = gbF at bF ⊢
    replace hr := hr.keep kq
    replace kk := kk.trans kq
    clear kq
    have bF_0 := bF.cell_ (i := 0) rfl
    have bF_1 := bF.cell_ (i := 1) rfl
    have bF_2 := bF.cell_ (i := 2) rfl
    have bF_3 := bF.cell_ (i := 3) rfl
    have bF_4 := bF.cell_ (i := 4) rfl
    have bF_5 := bF.cell_ (i := 5) rfl
    have bF_6 := bF.cell_ (i := 6) rfl
    have bF_7 := bF.cell_ (i := 7) rfl
    have bF_8 := bF.cell_ (i := 8) rfl
    have bF_9 := bF.cell_ (i := 9) rfl
    have hq := refMayR_f (Rpl.mk r ba bc ca cc) w1 hr
    unfold Rpl.val at hq
    simp only at hq
    rw [HM.out] at hq
    go_wp2_with fail
    refine hq.mono ?_
    rintro e w2 ⟨rfl, kq⟩
    clear hq
    replace hr := hr.keep kq
    replace bF := bF.keep kq
    replace kk := kk.trans kq
    clear kq
    clear bF_0 bF_1 bF_2 bF_3 bF_4 bF_5 bF_6 bF_7 bF_8 bF_9
    have kb := kk
    clear kk
    have kz := Keep.refl w2
    have bz := bF.keep kz
    have c0 := bz.cell_ (i := 0) rfl
    have c1 := bz.cell_ (i := 1) rfl
    have c2 := bz.cell_ (i := 2) rfl
    have c3 := bz.cell_ (i := 3) rfl
    have c4 := bz.cell_ (i := 4) rfl
    have c5 := bz.cell_ (i := 5) rfl
    have c6 := bz.cell_ (i := 6) rfl
    have c7 := bz.cell_ (i := 7) rfl
    have c8 := bz.cell_ (i := 8) rfl
    have c9 := bz.cell_ (i := 9) rfl
    clear bz
    go_upto_region 4 with fail
    have kn : Keep w2 (w2.alloc (.cells #[.int .u8 r.e] 5)) := Keep.alloc1 _ _
    have r0 : Rd (w2.alloc (.cells #[.int .u8 r.e] 5)) (some ⟨w2.heap.size, 0, none⟩) (cs .u8 X0) := by rw [H0.out]; exact Rd.one _ _ _
    change Code.wp _ _ _ _ (w2.alloc (.cells #[.int .u8 r.e] 5))
    generalize w2.alloc (.cells #[.int .u8 r.e] 5) = v0 at kn r0 ⊢
    skip
    replace kz := kz.trans kn
    clear kn
    clear c0 c1 c2 c3 c4 c5 c6 c7 c8 c9
    have bz := bF.keep kz
    have c0 := bz.cell_ (i := 0) rfl
    have c1 := bz.cell_ (i := 1) rfl
    have c2 := bz.cell_ (i := 2) rfl
    have c3 := bz.cell_ (i := 3) rfl
    have c4 := bz.cell_ (i := 4) rfl
    have c5 := bz.cell_ (i := 5) rfl
    have c6 := bz.cell_ (i := 6) rfl
    have c7 := bz.cell_ (i := 7) rfl
    have c8 := bz.cell_ (i := 8) rfl
    have c9 := bz.cell_ (i := 9) rfl
    clear bz
    have hq : Calls Tryz.prog 34 #[.slice (some ⟨w2.heap.size, 0, none⟩) 1 1, .int .u64 (r.seq : Int), .int .i64 4] v0 (RowsC (X0 ++ le r.seq 4) v0) := by
      have h := refPut_r (some ⟨w2.heap.size, 0, none⟩) 1 X0 r.seq 4 v0 r0 (by rw [E0.out]; decide) (by decide)
      rw [E0.out] at h
      exact h
    unfold RowsC at hq
    rw [← H1.out, E1.out] at hq
    go_wp2_with fail
    refine hq.mono ?_
    rintro e v1 ⟨A1, c1', rfl, f1, kq⟩
    clear hq
    replace f1 := Fr.mono f1 kz.size
    replace kz := kz.trans kq
    clear kq
    clear r0
    clear c0 c1 c2 c3 c4 c5 c6 c7 c8 c9
    have bz := bF.keep kz
    have c0 := bz.cell_ (i := 0) rfl
    have c1 := bz.cell_ (i := 1) rfl
    have c2 := bz.cell_ (i := 2) rfl
    have c3 := bz.cell_ (i := 3) rfl
    have c4 := bz.cell_ (i := 4) rfl
    have c5 := bz.cell_ (i := 5) rfl
    have c6 := bz.cell_ (i := 6) rfl
    have c7 := bz.cell_ (i := 7) rfl
    have c8 := bz.cell_ (i := 8) rfl
    have c9 := bz.cell_ (i := 9) rfl
    clear bz
    have hq : Calls Tryz.prog 34 #[.slice A1 5 c1', .int .u64 (r.tok : Int), .int .i64 8] v1 (RowsC (X1 ++ le r.tok 8) v1) := by
      have h := refPut_r A1 c1' X1 r.tok 8 v1 f1.rd (by rw [E1.out]; decide) (by decide)
      rw [E1.out] at h
      exact h
    unfold RowsC at hq
    rw [← H2.out, E2.out] at hq
    go_wp2_with fail
    refine hq.mono ?_
    rintro e v2 ⟨A2, c2', rfl, f2, kq⟩
    clear hq
    replace f2 := Fr.mono f2 kz.size
    replace kz := kz.trans kq
    clear kq
    clear f1
    clear c0 c1 c2 c3 c4 c5 c6 c7 c8 c9
    have bz := bF.keep kz
    have c0 := bz.cell_ (i := 0) rfl
    have c1 := bz.cell_ (i := 1) rfl
    have c2 := bz.cell_ (i := 2) rfl
    have c3 := bz.cell_ (i := 3) rfl
    have c4 := bz.cell_ (i := 4) rfl
    have c5 := bz.cell_ (i := 5) rfl
    have c6 := bz.cell_ (i := 6) rfl
    have c7 := bz.cell_ (i := 7) rfl
    have c8 := bz.cell_ (i := 8) rfl
    have c9 := bz.cell_ (i := 9) rfl
    clear bz
    go_wp2_with (at_builtin; refine wpList_append_fr _ rfl _ _ 25 rfl w2.heap.size 5 (.int .u8 0) 1 Tryz.underlying25 infoByte rfl A2 13 c2' _ rfl (f2.keep (Keep.alloc1 _ _)) (some ⟨v2.heap.size, 0, none⟩) 1 1 [.int .u8 (r.ph : Int)] rfl rfl (Rd.one _ _ _) (one_int _ _) ?d1 ?d2 ?d3 ?_)
    case d1 => unfold maxLen; omega
    case d2 => omega
    case d3 => exact (kz.alloc _).size
    intro A3 c3' v3 happ
    replace kz := happ.keep (kz.alloc _) (f2.keep (Keep.alloc1 _ _))
    have f3 := happ.fr
    rw [← cs_one, ← cs_append, ← H3.out] at f3
    clear happ f2
    clear c0 c1 c2 c3 c4 c5 c6 c7 c8 c9
    have bz := bF.keep kz
    have c0 := bz.cell_ (i := 0) rfl
    have c1 := bz.cell_ (i := 1) rfl
    have c2 := bz.cell_ (i := 2) rfl
    have c3 := bz.cell_ (i := 3) rfl
    have c4 := bz.cell_ (i := 4) rfl
    have c5 := bz.cell_ (i := 5) rfl
    have c6 := bz.cell_ (i := 6) rfl
    have c7 := bz.cell_ (i := 7) rfl
    have c8 := bz.cell_ (i := 8) rfl
    have c9 := bz.cell_ (i := 9) rfl
    clear bz
    have hq : Calls Tryz.prog 34 #[.slice A3 14 c3', .int .u64 (r.tm : Int), .int .i64 8] v3 (RowsC (X3 ++ le r.tm 8) v3) := by
      have h := refPut_r A3 c3' X3 r.tm 8 v3 f3.rd (by rw [E3.out]; decide) (by decide)
      rw [E3.out] at h
      exact h
    unfold RowsC at hq
    rw [← H4.out, E4.out] at hq
    go_wp2_with fail
    refine hq.mono ?_
    rintro e v4 ⟨A4, c4', rfl, f4, kq⟩
    clear hq
    replace f4 := Fr.mono f4 kz.size
    replace kz := kz.trans kq
    clear kq
    clear f3
    clear c0 c1 c2 c3 c4 c5 c6 c7 c8 c9
    have bz := bF.keep kz
    have c0 := bz.cell_ (i := 0) rfl
    have c1 := bz.cell_ (i := 1) rfl
    have c2 := bz.cell_ (i := 2) rfl
    have c3 := bz.cell_ (i := 3) rfl
    have c4 := bz.cell_ (i := 4) rfl
    have c5 := bz.cell_ (i := 5) rfl
    have c6 := bz.cell_ (i := 6) rfl
    have c7 := bz.cell_ (i := 7) rfl
    have c8 := bz.cell_ (i := 8) rfl
    have c9 := bz.cell_ (i := 9) rfl
    clear bz
    rcases hH.out with ⟨q1, rfl⟩ | ⟨q1, rfl⟩
    · rw [q1] at c5
      replace q1 := Lib.hid q1
      rcases hI.out with ⟨q2, rfl⟩ | q2
      · have d1 : decide (0 ≤ r.item) = false := decide_eq_false (by omega)
        have d2 : (0 ≤ r.item) = False := eq_false (by omega)
        replace q2 := Lib.hid q2
        go_upto_region 11 with fail
        clear c0 c1 c2 c3 c4 c5 c6 c7 c8 c9
        have HS : ∀ v, Keep w2 v → (fun v => v.cell? ⟨gbF, 6, none⟩ = some (.slice ba r.bid.length bc)) v := fun v k => (bF.keep k).cell_ (i := 6) rfl
        refine wp_region_noPanic ?_
        refine wp_region_held_drew (S := (fun v => v.cell? ⟨gbF, 6, none⟩ = some (.slice ba r.bid.length bc))) (by kernel_rfl) (HS _ kz.drew) (fun hS => ?_)
        replace kz := kz.drew
        replace f4 := f4.keep (Keep.refl v4).drew
        generalize v4.drew = u0 at hS kz f4 ⊢
        refine wpAnyH_take (i := 0) (v := ?_) rfl (by kernel_rfl) (by kernel_rfl) (by kernel_rfl) (fun _ _ _ h => h) (Or.inl ⟨by rfl, ?_⟩) hS ?_
        rotate_left
        · (intro w hSw; (try dsimp only at hSw); go_simp; (first | done | with_reducible rfl))
        change wpAnyH _ _ _ _ _ _ _ (Act.put _ (some 34) _) _
        simp only [Act.put, List.setIfInBounds_toArray, List.set_cons_zero, List.set_cons_succ]
        refine wpAnyH_take (i := 1) (v := ?_) rfl (by kernel_rfl) (by kernel_rfl) (by kernel_rfl) (fun _ _ _ h => h) (Or.inl ⟨by rfl, ?_⟩) hS ?_
        rotate_left
        · (intro w hSw; (try dsimp only at hSw); go_simp; (first | done | with_reducible rfl))
        change wpAnyH _ _ _ _ _ _ _ (Act.put _ (some 35) _) _
        simp only [Act.put, List.setIfInBounds_toArray, List.set_cons_zero, List.set_cons_succ]
        refine wpAnyH_take (i := 4) (v := ?_) rfl (by kernel_rfl) (by kernel_rfl) (by kernel_rfl) (fun _ _ _ h => h) (Or.inl ⟨by rfl, ?_⟩) hS ?_
        rotate_left
        · (intro w hSw; (try dsimp only at hSw); go_simp; (first | done | with_reducible rfl))
        change wpAnyH _ _ _ _ _ _ _ (Act.put _ (some 38) _) _
        simp only [Act.put, List.setIfInBounds_toArray, List.set_cons_zero, List.set_cons_succ]
        refine wpAnyH_take (i := 5) (v := ?_) rfl (by kernel_rfl) (by kernel_rfl) (by kernel_rfl) (fun _ _ _ h => h) (Or.inl ⟨by rfl, ?_⟩) hS ?_
        rotate_left
        · (intro w hSw; (try dsimp only at hSw); go_simp; (first | done | with_reducible rfl))
        change wpAnyH _ _ _ _ _ _ _ (Act.put _ (some 39) _) _
        simp only [Act.put, List.setIfInBounds_toArray, List.set_cons_zero, List.set_cons_succ]
        refine wpAnyH_ready (rs := [2]) (by kernel_rfl) (by simp) ?_
        refine AllReadyH.cons rfl (fun K hK => ?_) AllReadyH.nil
        go_simp
        have kn : Keep u0 (u0.alloc (.cells #[.int .u8 1] 5)) := Keep.alloc1 _ _
        refine hK.out _ _ (HS _ (kz.trans kn)) (fun hS => ?_)
        clear hK K
        try simp only [Act.put, List.setIfInBounds_toArray, List.set_cons_zero, List.set_cons_succ]
        refine wpAnyH_ready (rs := [3]) (by kernel_rfl) (by simp) ?_
        refine AllReadyH.cons rfl (fun K hK => ?_) AllReadyH.nil
        rw [if_pos (by rfl)]
        refine wp_append_fr _ (.tmp 34) (.tmp 36) 25 rfl w2.heap.size 5 (.int .u8 0) 1 Tryz.underlying25 infoByte rfl A4 22 c4' _ rfl (f4.keep kn) (some ⟨u0.heap.size, 0, none⟩) 1 1 [.int .u8 1] rfl rfl (Rd.one _ _ _) (one_int _ _) ?g1 ?g2 ?g3 ?_
        case g1 => have := E6.out; unfold maxLen; omega
        case g2 => have := E6.out; omega
        case g3 => exact (kz.trans kn).size
        intro A5 c5' u5 happ
        replace kz := happ.keep (kz.trans kn) (f4.keep kn)
        have f5 := happ.fr
        rw [← cs_one, ← cs_append, ← H5.out] at f5
        clear happ f4 kn
        refine hK.out _ _ (HS _ kz) (fun hS => ?_)
        clear hK K
        change wpAnyH _ _ _ _ _ _ _ (Act.put _ (some 37) _) _
        try simp only [Act.put, List.setIfInBounds_toArray, List.set_cons_zero, List.set_cons_succ]
        refine wpAnyH_ready (rs := [6]) (by kernel_rfl) (by simp) ?_
        refine AllReadyH.cons rfl (fun K hK => ?_) AllReadyH.nil
        go_simp
        have hq : Calls Tryz.prog 36 #[.slice A5 23 c5', .slice ba r.bid.length bc] u5 (RowsC (X5 ++ putL (r.bid.take 255)) u5) := by
          have h := refPutList_f A5 c5' X5 ba bc r.bid u5 f5.rd (by rw [E5.out]; decide) (hr.keep kz).b.rd hr.b.inn.cap (by unfold Len; have := hr.b.inn.capI; simp only at this; omega)
          rw [E5.out] at h
          exact h
        unfold RowsC at hq
        rw [← H6.out] at hq
        refine hq.mono ?_
        rintro e u6 ⟨A6, c6', rfl, f6, kq⟩
        clear hq
        replace f6 := Fr.mono f6 kz.size
        replace kz := kz.trans kq
        clear kq f5
        go_wp2_with fail
        refine hK.out _ _ (HS _ kz) (fun hS => ?_)
        clear hK K
        try simp only [Act.put, List.setIfInBounds_toArray, List.set_cons_zero, List.set_cons_succ]
        refine wpAnyH_take (i := 7) (v := ?_) rfl (by kernel_rfl) (by kernel_rfl) (by kernel_rfl) (fun _ _ _ h => h) (Or.inl ⟨by rfl, ?_⟩) hS ?_
        rotate_left
        · (intro w hSw; (try dsimp only at hSw); go_simp; (first | done | with_reducible rfl))
        change wpAnyH _ _ _ _ _ _ _ (Act.put _ (some 4) _) _
        simp only [Act.put, List.setIfInBounds_toArray, List.set_cons_zero, List.set_cons_succ]
        refine wpAnyH_done (by kernel_rfl) ?_ _
        refine NoPanic.normal ?_
        clear HS hS
        have bz := bF.keep kz
        have c0 := bz.cell_ (i := 0) rfl
        have c1 := bz.cell_ (i := 1) rfl
        have c2 := bz.cell_ (i := 2) rfl
        have c3 := bz.cell_ (i := 3) rfl
        have c4 := bz.cell_ (i := 4) rfl
        have c5 := bz.cell_ (i := 5) rfl
        rw [q1.out] at c5
        have c6 := bz.cell_ (i := 6) rfl
        have c7 := bz.cell_ (i := 7) rfl
        have c8 := bz.cell_ (i := 8) rfl
        have c9 := bz.cell_ (i := 9) rfl
        clear bz
        go_upto_region 15 with fail
        clear c0 c1 c2 c3 c4 c5 c6 c7 c8 c9
        have HS : ∀ v, Keep w2 v → (fun v => v.cell? ⟨gbF, 8, none⟩ = some (.int .i64 r.pays)) v := fun v k => (bF.keep k).cell_ (i := 8) rfl
        refine wp_region_noPanic ?_
        refine wp_region_held_drew (S := (fun v => v.cell? ⟨gbF, 8, none⟩ = some (.int .i64 r.pays))) (by kernel_rfl) (HS _ kz.drew) (fun hS => ?_)
        replace kz := kz.drew
        replace f6 := f6.keep (Keep.refl u6).drew
        generalize u6.drew = u0 at hS kz f6 ⊢
        refine wpAnyH_take (i := 0) (v := ?_) rfl (by kernel_rfl) (by kernel_rfl) (by kernel_rfl) (fun _ _ _ h => h) (Or.inl ⟨by rfl, ?_⟩) hS ?_
        rotate_left
        · (intro w hSw; (try dsimp only at hSw); go_simp; (first | done | with_reducible rfl))
        change wpAnyH _ _ _ _ _ _ _ (Act.put _ (some 47) _) _
        simp only [Act.put, List.setIfInBounds_toArray, List.set_cons_zero, List.set_cons_succ]
        refine wpAnyH_take (i := 1) (v := ?_) rfl (by kernel_rfl) (by kernel_rfl) (by kernel_rfl) (fun _ _ _ h => h) (Or.inl ⟨by rfl, ?_⟩) hS ?_
        rotate_left
        · (intro w hSw; (try dsimp only at hSw); go_simp; (first | done | with_reducible rfl))
        change wpAnyH _ _ _ _ _ _ _ (Act.put _ (some 48) _) _
        simp only [Act.put, List.setIfInBounds_toArray, List.set_cons_zero, List.set_cons_succ]
        refine wpAnyH_take (i := 4) (v := ?_) rfl (by kernel_rfl) (by kernel_rfl) (by kernel_rfl) (fun _ _ _ h => h) (Or.inl ⟨by rfl, ?_⟩) hS ?_
        rotate_left
        · (intro w hSw; (try dsimp only at hSw); go_simp; (first | done | with_reducible rfl))
        change wpAnyH _ _ _ _ _ _ _ (Act.put _ (some 51) _) _
        simp only [Act.put, List.setIfInBounds_toArray, List.set_cons_zero, List.set_cons_succ]
        refine wpAnyH_take (i := 5) (v := ?_) rfl (by kernel_rfl) (by kernel_rfl) (by kernel_rfl) (fun _ _ _ h => h) (Or.inl ⟨by rfl, ?_⟩) hS ?_
        rotate_left
        · (intro w hSw; (try dsimp only at hSw); go_simp; (first | done | with_reducible rfl))
        change wpAnyH _ _ _ _ _ _ _ (Act.put _ (some 52) _) _
        simp only [Act.put, List.setIfInBounds_toArray, List.set_cons_zero, List.set_cons_succ]
        refine wpAnyH_take (i := 6) (v := ?_) rfl (by kernel_rfl) (by kernel_rfl) (by kernel_rfl) (fun _ _ _ h => h) (Or.inl ⟨by rfl, ?_⟩) hS ?_
        rotate_left
        · (intro w hSw; (try dsimp only at hSw); go_simp; (first | done | with_reducible rfl))
        change wpAnyH _ _ _ _ _ _ _ (Act.put _ (some 53) _) _
        simp only [Act.put, List.setIfInBounds_toArray, List.set_cons_zero, List.set_cons_succ]
        refine wpAnyH_ready (rs := [2]) (by kernel_rfl) (by simp) ?_
        refine AllReadyH.cons rfl (fun K hK => ?_) AllReadyH.nil
        go_simp
        have kn : Keep u0 (u0.alloc (.cells #[.int .u8 255] 5)) := Keep.alloc1 _ _
        refine hK.out _ _ (HS _ (kz.trans kn)) (fun hS => ?_)
        clear hK K
        try simp only [Act.put, List.setIfInBounds_toArray, List.set_cons_zero, List.set_cons_succ]
        refine wpAnyH_ready (rs := [3]) (by kernel_rfl) (by simp) ?_
        refine AllReadyH.cons rfl (fun K hK => ?_) AllReadyH.nil
        rw [if_pos (by rfl)]
        refine wp_append_fr _ (.tmp 47) (.tmp 49) 25 rfl w2.heap.size 5 (.int .u8 0) 1 Tryz.underlying25 infoByte rfl A6 X6.length c6' _ rfl (f6.keep kn) (some ⟨u0.heap.size, 0, none⟩) 1 1 [.int .u8 255] rfl rfl (Rd.one _ _ _) (one_int _ _) ?g1 ?g2 ?g3 ?_
        case g1 => have := E6.out; unfold maxLen; omega
        case g2 => have := E6.out; omega
        case g3 => exact (kz.trans kn).size
        intro A7 c7' u7 happ
        replace kz := happ.keep (kz.trans kn) (f6.keep kn)
        have f7 := happ.fr
        rw [← cs_one, ← cs_append, ← H7.out] at f7
        clear happ f6 kn
        refine hK.out _ _ (HS _ kz) (fun hS => ?_)
        clear hK K
        change wpAnyH _ _ _ _ _ _ _ (Act.put _ (some 50) _) _
        try simp only [Act.put, List.setIfInBounds_toArray, List.set_cons_zero, List.set_cons_succ]
        refine wpAnyH_ready (rs := [7]) (by kernel_rfl) (by simp) ?_
        refine AllReadyH.cons rfl (fun K hK => ?_) AllReadyH.nil
        go_simp
        have hq : Calls Tryz.prog 34 #[.slice A7 (X6.length + 1) c7', .int .u64 (pn : Int), .int .i64 4] u7 (RowsC (X7 ++ le pn 4) u7) := by
          have h := refPut_r A7 c7' X7 pn 4 u7 f7.rd (by have := E7.out; have := E6.out; omega) (by decide)
          rw [E7.out] at h
          exact h
        unfold RowsC at hq
        rw [← H8.out, E8.out] at hq
        refine hq.mono ?_
        rintro e u8 ⟨A8, c8', rfl, f8, kq⟩
        clear hq
        replace f8 := Fr.mono f8 kz.size
        replace kz := kz.trans kq
        clear kq f7
        go_wp2_with fail
        refine hK.out _ _ (HS _ kz) (fun hS => ?_)
        clear hK K
        try simp only [Act.put, List.setIfInBounds_toArray, List.set_cons_zero, List.set_cons_succ]
        refine wpAnyH_take (i := 8) (v := ?_) rfl (by kernel_rfl) (by kernel_rfl) (by kernel_rfl) (fun _ _ _ h => h) (Or.inl ⟨by rfl, ?_⟩) hS ?_
        rotate_left
        · (intro w hSw; (try dsimp only at hSw); go_simp; (first | done | with_reducible rfl))
        change wpAnyH _ _ _ _ _ _ _ (Act.put _ (some 4) _) _
        simp only [Act.put, List.setIfInBounds_toArray, List.set_cons_zero, List.set_cons_succ]
        refine wpAnyH_done (by kernel_rfl) ?_ _
        refine NoPanic.normal ?_
        clear HS hS
        have bz := bF.keep kz
        have c0 := bz.cell_ (i := 0) rfl
        have c1 := bz.cell_ (i := 1) rfl
        have c2 := bz.cell_ (i := 2) rfl
        have c3 := bz.cell_ (i := 3) rfl
        have c4 := bz.cell_ (i := 4) rfl
        have c5 := bz.cell_ (i := 5) rfl
        rw [q1.out] at c5
        have c6 := bz.cell_ (i := 6) rfl
        have c7 := bz.cell_ (i := 7) rfl
        have c8 := bz.cell_ (i := 8) rfl
        have c9 := bz.cell_ (i := 9) rfl
        clear bz
        have hq : Calls Tryz.prog 35 #[.slice A8 (X6.length + 5) c8', .slice ca r.cert.length cc] u8 (RowsC (X8 ++ putBy (r.cert.take 65535)) u8) := by
          have h := refPutBytes_f A8 c8' X8 ca cc r.cert u8 f8.rd (by have := E8.out; have := E6.out; omega) (hr.keep kz).c.rd hr.c.inn.cap (by unfold Len; have := hr.c.inn.capI; simp only at this; omega)
          rw [E8.out] at h
          exact h
        unfold RowsC at hq
        rw [← H9.out] at hq
        go_wp2_with fail
        refine hq.mono ?_
        rintro e v9 ⟨A9, c9', rfl, f9, kq⟩
        clear hq
        replace f9 := Fr.mono (Fr.mono f9 kz.size) kb.size
        replace kz := kz.trans kq
        clear c0 c1 c2 c3 c4 c5 c6 c7 c8 c9
        go_wp2_with fail
        refine bodyPost_ret (results_tmp2 rfl _ _ _) rfl ?_
        exact ⟨A9, c9', rfl, f9, kb.trans kz⟩
      · have d1 : decide (0 ≤ r.item) = true := decide_eq_true q2
        have d2 : (0 ≤ r.item) = True := eq_true q2
        replace q2 := Lib.hid q2
        go_upto_region 11 with fail
        clear c0 c1 c2 c3 c4 c5 c6 c7 c8 c9
        have HS : ∀ v, Keep w2 v → (fun v => v.cell? ⟨gbF, 6, none⟩ = some (.slice ba r.bid.length bc)) v := fun v k => (bF.keep k).cell_ (i := 6) rfl
        refine wp_region_noPanic ?_
        refine wp_region_held_drew (S := (fun v => v.cell? ⟨gbF, 6, none⟩ = some (.slice ba r.bid.length bc))) (by kernel_rfl) (HS _ kz.drew) (fun hS => ?_)
        replace kz := kz.drew
        replace f4 := f4.keep (Keep.refl v4).drew
        generalize v4.drew = u0 at hS kz f4 ⊢
        refine wpAnyH_take (i := 0) (v := ?_) rfl (by kernel_rfl) (by kernel_rfl) (by kernel_rfl) (fun _ _ _ h => h) (Or.inl ⟨by rfl, ?_⟩) hS ?_
        rotate_left
        · (intro w hSw; (try dsimp only at hSw); go_simp; (first | done | with_reducible rfl))
        change wpAnyH _ _ _ _ _ _ _ (Act.put _ (some 34) _) _
        simp only [Act.put, List.setIfInBounds_toArray, List.set_cons_zero, List.set_cons_succ]
        refine wpAnyH_take (i := 1) (v := ?_) rfl (by kernel_rfl) (by kernel_rfl) (by kernel_rfl) (fun _ _ _ h => h) (Or.inl ⟨by rfl, ?_⟩) hS ?_
        rotate_left
        · (intro w hSw; (try dsimp only at hSw); go_simp; (first | done | with_reducible rfl))
        change wpAnyH _ _ _ _ _ _ _ (Act.put _ (some 35) _) _
        simp only [Act.put, List.setIfInBounds_toArray, List.set_cons_zero, List.set_cons_succ]
        refine wpAnyH_take (i := 4) (v := ?_) rfl (by kernel_rfl) (by kernel_rfl) (by kernel_rfl) (fun _ _ _ h => h) (Or.inl ⟨by rfl, ?_⟩) hS ?_
        rotate_left
        · (intro w hSw; (try dsimp only at hSw); go_simp; (first | done | with_reducible rfl))
        change wpAnyH _ _ _ _ _ _ _ (Act.put _ (some 38) _) _
        simp only [Act.put, List.setIfInBounds_toArray, List.set_cons_zero, List.set_cons_succ]
        refine wpAnyH_take (i := 5) (v := ?_) rfl (by kernel_rfl) (by kernel_rfl) (by kernel_rfl) (fun _ _ _ h => h) (Or.inl ⟨by rfl, ?_⟩) hS ?_
        rotate_left
        · (intro w hSw; (try dsimp only at hSw); go_simp; (first | done | with_reducible rfl))
        change wpAnyH _ _ _ _ _ _ _ (Act.put _ (some 39) _) _
        simp only [Act.put, List.setIfInBounds_toArray, List.set_cons_zero, List.set_cons_succ]
        refine wpAnyH_ready (rs := [2]) (by kernel_rfl) (by simp) ?_
        refine AllReadyH.cons rfl (fun K hK => ?_) AllReadyH.nil
        go_simp
        have kn : Keep u0 (u0.alloc (.cells #[.int .u8 1] 5)) := Keep.alloc1 _ _
        refine hK.out _ _ (HS _ (kz.trans kn)) (fun hS => ?_)
        clear hK K
        try simp only [Act.put, List.setIfInBounds_toArray, List.set_cons_zero, List.set_cons_succ]
        refine wpAnyH_ready (rs := [3]) (by kernel_rfl) (by simp) ?_
        refine AllReadyH.cons rfl (fun K hK => ?_) AllReadyH.nil
        rw [if_pos (by rfl)]
        refine wp_append_fr _ (.tmp 34) (.tmp 36) 25 rfl w2.heap.size 5 (.int .u8 0) 1 Tryz.underlying25 infoByte rfl A4 22 c4' _ rfl (f4.keep kn) (some ⟨u0.heap.size, 0, none⟩) 1 1 [.int .u8 1] rfl rfl (Rd.one _ _ _) (one_int _ _) ?g1 ?g2 ?g3 ?_
        case g1 => have := E6.out; unfold maxLen; omega
        case g2 => have := E6.out; omega
        case g3 => exact (kz.trans kn).size
        intro A5 c5' u5 happ
        replace kz := happ.keep (kz.trans kn) (f4.keep kn)
        have f5 := happ.fr
        rw [← cs_one, ← cs_append, ← H5.out] at f5
        clear happ f4 kn
        refine hK.out _ _ (HS _ kz) (fun hS => ?_)
        clear hK K
        change wpAnyH _ _ _ _ _ _ _ (Act.put _ (some 37) _) _
        try simp only [Act.put, List.setIfInBounds_toArray, List.set_cons_zero, List.set_cons_succ]
        refine wpAnyH_ready (rs := [6]) (by kernel_rfl) (by simp) ?_
        refine AllReadyH.cons rfl (fun K hK => ?_) AllReadyH.nil
        go_simp
        have hq : Calls Tryz.prog 36 #[.slice A5 23 c5', .slice ba r.bid.length bc] u5 (RowsC (X5 ++ putL (r.bid.take 255)) u5) := by
          have h := refPutList_f A5 c5' X5 ba bc r.bid u5 f5.rd (by rw [E5.out]; decide) (hr.keep kz).b.rd hr.b.inn.cap (by unfold Len; have := hr.b.inn.capI; simp only at this; omega)
          rw [E5.out] at h
          exact h
        unfold RowsC at hq
        rw [← H6.out] at hq
        refine hq.mono ?_
        rintro e u6 ⟨A6, c6', rfl, f6, kq⟩
        clear hq
        replace f6 := Fr.mono f6 kz.size
        replace kz := kz.trans kq
        clear kq f5
        go_wp2_with fail
        refine hK.out _ _ (HS _ kz) (fun hS => ?_)
        clear hK K
        try simp only [Act.put, List.setIfInBounds_toArray, List.set_cons_zero, List.set_cons_succ]
        refine wpAnyH_take (i := 7) (v := ?_) rfl (by kernel_rfl) (by kernel_rfl) (by kernel_rfl) (fun _ _ _ h => h) (Or.inl ⟨by rfl, ?_⟩) hS ?_
        rotate_left
        · (intro w hSw; (try dsimp only at hSw); go_simp; (first | done | with_reducible rfl))
        change wpAnyH _ _ _ _ _ _ _ (Act.put _ (some 4) _) _
        simp only [Act.put, List.setIfInBounds_toArray, List.set_cons_zero, List.set_cons_succ]
        refine wpAnyH_done (by kernel_rfl) ?_ _
        refine NoPanic.normal ?_
        clear HS hS
        have bz := bF.keep kz
        have c0 := bz.cell_ (i := 0) rfl
        have c1 := bz.cell_ (i := 1) rfl
        have c2 := bz.cell_ (i := 2) rfl
        have c3 := bz.cell_ (i := 3) rfl
        have c4 := bz.cell_ (i := 4) rfl
        have c5 := bz.cell_ (i := 5) rfl
        rw [q1.out] at c5
        have c6 := bz.cell_ (i := 6) rfl
        have c7 := bz.cell_ (i := 7) rfl
        have c8 := bz.cell_ (i := 8) rfl
        have c9 := bz.cell_ (i := 9) rfl
        clear bz
        go_upto_region 15 with fail
        clear c0 c1 c2 c3 c4 c5 c6 c7 c8 c9
        have HS : ∀ v, Keep w2 v → (fun v => v.cell? ⟨gbF, 8, none⟩ = some (.int .i64 r.pays)) v := fun v k => (bF.keep k).cell_ (i := 8) rfl
        refine wp_region_noPanic ?_
        refine wp_region_held_drew (S := (fun v => v.cell? ⟨gbF, 8, none⟩ = some (.int .i64 r.pays))) (by kernel_rfl) (HS _ kz.drew) (fun hS => ?_)
        replace kz := kz.drew
        replace f6 := f6.keep (Keep.refl u6).drew
        generalize u6.drew = u0 at hS kz f6 ⊢
        refine wpAnyH_take (i := 0) (v := ?_) rfl (by kernel_rfl) (by kernel_rfl) (by kernel_rfl) (fun _ _ _ h => h) (Or.inl ⟨by rfl, ?_⟩) hS ?_
        rotate_left
        · (intro w hSw; (try dsimp only at hSw); go_simp; (first | done | with_reducible rfl))
        change wpAnyH _ _ _ _ _ _ _ (Act.put _ (some 47) _) _
        simp only [Act.put, List.setIfInBounds_toArray, List.set_cons_zero, List.set_cons_succ]
        refine wpAnyH_take (i := 1) (v := ?_) rfl (by kernel_rfl) (by kernel_rfl) (by kernel_rfl) (fun _ _ _ h => h) (Or.inl ⟨by rfl, ?_⟩) hS ?_
        rotate_left
        · (intro w hSw; (try dsimp only at hSw); go_simp; (first | done | with_reducible rfl))
        change wpAnyH _ _ _ _ _ _ _ (Act.put _ (some 48) _) _
        simp only [Act.put, List.setIfInBounds_toArray, List.set_cons_zero, List.set_cons_succ]
        refine wpAnyH_take (i := 4) (v := ?_) rfl (by kernel_rfl) (by kernel_rfl) (by kernel_rfl) (fun _ _ _ h => h) (Or.inl ⟨by rfl, ?_⟩) hS ?_
        rotate_left
        · (intro w hSw; (try dsimp only at hSw); go_simp; (first | done | with_reducible rfl))
        change wpAnyH _ _ _ _ _ _ _ (Act.put _ (some 51) _) _
        simp only [Act.put, List.setIfInBounds_toArray, List.set_cons_zero, List.set_cons_succ]
        refine wpAnyH_take (i := 5) (v := ?_) rfl (by kernel_rfl) (by kernel_rfl) (by kernel_rfl) (fun _ _ _ h => h) (Or.inl ⟨by rfl, ?_⟩) hS ?_
        rotate_left
        · (intro w hSw; (try dsimp only at hSw); go_simp; (first | done | with_reducible rfl))
        change wpAnyH _ _ _ _ _ _ _ (Act.put _ (some 52) _) _
        simp only [Act.put, List.setIfInBounds_toArray, List.set_cons_zero, List.set_cons_succ]
        refine wpAnyH_take (i := 6) (v := ?_) rfl (by kernel_rfl) (by kernel_rfl) (by kernel_rfl) (fun _ _ _ h => h) (Or.inl ⟨by rfl, ?_⟩) hS ?_
        rotate_left
        · (intro w hSw; (try dsimp only at hSw); go_simp; (first | done | with_reducible rfl))
        change wpAnyH _ _ _ _ _ _ _ (Act.put _ (some 53) _) _
        simp only [Act.put, List.setIfInBounds_toArray, List.set_cons_zero, List.set_cons_succ]
        refine wpAnyH_ready (rs := [2]) (by kernel_rfl) (by simp) ?_
        refine AllReadyH.cons rfl (fun K hK => ?_) AllReadyH.nil
        go_simp
        have kn : Keep u0 (u0.alloc (.cells #[.int .u8 it] 5)) := Keep.alloc1 _ _
        refine hK.out _ _ (HS _ (kz.trans kn)) (fun hS => ?_)
        clear hK K
        try simp only [Act.put, List.setIfInBounds_toArray, List.set_cons_zero, List.set_cons_succ]
        refine wpAnyH_ready (rs := [3]) (by kernel_rfl) (by simp) ?_
        refine AllReadyH.cons rfl (fun K hK => ?_) AllReadyH.nil
        rw [if_pos (by rfl)]
        refine wp_append_fr _ (.tmp 47) (.tmp 49) 25 rfl w2.heap.size 5 (.int .u8 0) 1 Tryz.underlying25 infoByte rfl A6 X6.length c6' _ rfl (f6.keep kn) (some ⟨u0.heap.size, 0, none⟩) 1 1 [.int .u8 it] rfl rfl (Rd.one _ _ _) (one_int _ _) ?g1 ?g2 ?g3 ?_
        case g1 => have := E6.out; unfold maxLen; omega
        case g2 => have := E6.out; omega
        case g3 => exact (kz.trans kn).size
        intro A7 c7' u7 happ
        replace kz := happ.keep (kz.trans kn) (f6.keep kn)
        have f7 := happ.fr
        rw [← cs_one, ← cs_append, ← H7.out] at f7
        clear happ f6 kn
        refine hK.out _ _ (HS _ kz) (fun hS => ?_)
        clear hK K
        change wpAnyH _ _ _ _ _ _ _ (Act.put _ (some 50) _) _
        try simp only [Act.put, List.setIfInBounds_toArray, List.set_cons_zero, List.set_cons_succ]
        refine wpAnyH_ready (rs := [7]) (by kernel_rfl) (by simp) ?_
        refine AllReadyH.cons rfl (fun K hK => ?_) AllReadyH.nil
        go_simp
        have hq : Calls Tryz.prog 34 #[.slice A7 (X6.length + 1) c7', .int .u64 (pn : Int), .int .i64 4] u7 (RowsC (X7 ++ le pn 4) u7) := by
          have h := refPut_r A7 c7' X7 pn 4 u7 f7.rd (by have := E7.out; have := E6.out; omega) (by decide)
          rw [E7.out] at h
          exact h
        unfold RowsC at hq
        rw [← H8.out, E8.out] at hq
        refine hq.mono ?_
        rintro e u8 ⟨A8, c8', rfl, f8, kq⟩
        clear hq
        replace f8 := Fr.mono f8 kz.size
        replace kz := kz.trans kq
        clear kq f7
        go_wp2_with fail
        refine hK.out _ _ (HS _ kz) (fun hS => ?_)
        clear hK K
        try simp only [Act.put, List.setIfInBounds_toArray, List.set_cons_zero, List.set_cons_succ]
        refine wpAnyH_take (i := 8) (v := ?_) rfl (by kernel_rfl) (by kernel_rfl) (by kernel_rfl) (fun _ _ _ h => h) (Or.inl ⟨by rfl, ?_⟩) hS ?_
        rotate_left
        · (intro w hSw; (try dsimp only at hSw); go_simp; (first | done | with_reducible rfl))
        change wpAnyH _ _ _ _ _ _ _ (Act.put _ (some 4) _) _
        simp only [Act.put, List.setIfInBounds_toArray, List.set_cons_zero, List.set_cons_succ]
        refine wpAnyH_done (by kernel_rfl) ?_ _
        refine NoPanic.normal ?_
        clear HS hS
        have bz := bF.keep kz
        have c0 := bz.cell_ (i := 0) rfl
        have c1 := bz.cell_ (i := 1) rfl
        have c2 := bz.cell_ (i := 2) rfl
        have c3 := bz.cell_ (i := 3) rfl
        have c4 := bz.cell_ (i := 4) rfl
        have c5 := bz.cell_ (i := 5) rfl
        rw [q1.out] at c5
        have c6 := bz.cell_ (i := 6) rfl
        have c7 := bz.cell_ (i := 7) rfl
        have c8 := bz.cell_ (i := 8) rfl
        have c9 := bz.cell_ (i := 9) rfl
        clear bz
        have hq : Calls Tryz.prog 35 #[.slice A8 (X6.length + 5) c8', .slice ca r.cert.length cc] u8 (RowsC (X8 ++ putBy (r.cert.take 65535)) u8) := by
          have h := refPutBytes_f A8 c8' X8 ca cc r.cert u8 f8.rd (by have := E8.out; have := E6.out; omega) (hr.keep kz).c.rd hr.c.inn.cap (by unfold Len; have := hr.c.inn.capI; simp only at this; omega)
          rw [E8.out] at h
          exact h
        unfold RowsC at hq
        rw [← H9.out] at hq
        go_wp2_with fail
        refine hq.mono ?_
        rintro e v9 ⟨A9, c9', rfl, f9, kq⟩
        clear hq
        replace f9 := Fr.mono (Fr.mono f9 kz.size) kb.size
        replace kz := kz.trans kq
        clear c0 c1 c2 c3 c4 c5 c6 c7 c8 c9
        go_wp2_with fail
        refine bodyPost_ret (results_tmp2 rfl _ _ _) rfl ?_
        exact ⟨A9, c9', rfl, f9, kb.trans kz⟩
    · rw [q1] at c5
      replace q1 := Lib.hid q1
      rcases hI.out with ⟨q2, rfl⟩ | q2
      · have d1 : decide (0 ≤ r.item) = false := decide_eq_false (by omega)
        have d2 : (0 ≤ r.item) = False := eq_false (by omega)
        replace q2 := Lib.hid q2
        go_upto_region 11 with fail
        clear c0 c1 c2 c3 c4 c5 c6 c7 c8 c9
        have HS : ∀ v, Keep w2 v → (fun v => v.cell? ⟨gbF, 6, none⟩ = some (.slice ba r.bid.length bc)) v := fun v k => (bF.keep k).cell_ (i := 6) rfl
        refine wp_region_noPanic ?_
        refine wp_region_held_drew (S := (fun v => v.cell? ⟨gbF, 6, none⟩ = some (.slice ba r.bid.length bc))) (by kernel_rfl) (HS _ kz.drew) (fun hS => ?_)
        replace kz := kz.drew
        replace f4 := f4.keep (Keep.refl v4).drew
        generalize v4.drew = u0 at hS kz f4 ⊢
        refine wpAnyH_take (i := 0) (v := ?_) rfl (by kernel_rfl) (by kernel_rfl) (by kernel_rfl) (fun _ _ _ h => h) (Or.inl ⟨by rfl, ?_⟩) hS ?_
        rotate_left
        · (intro w hSw; (try dsimp only at hSw); go_simp; (first | done | with_reducible rfl))
        change wpAnyH _ _ _ _ _ _ _ (Act.put _ (some 34) _) _
        simp only [Act.put, List.setIfInBounds_toArray, List.set_cons_zero, List.set_cons_succ]
        refine wpAnyH_take (i := 1) (v := ?_) rfl (by kernel_rfl) (by kernel_rfl) (by kernel_rfl) (fun _ _ _ h => h) (Or.inl ⟨by rfl, ?_⟩) hS ?_
        rotate_left
        · (intro w hSw; (try dsimp only at hSw); go_simp; (first | done | with_reducible rfl))
        change wpAnyH _ _ _ _ _ _ _ (Act.put _ (some 35) _) _
        simp only [Act.put, List.setIfInBounds_toArray, List.set_cons_zero, List.set_cons_succ]
        refine wpAnyH_take (i := 4) (v := ?_) rfl (by kernel_rfl) (by kernel_rfl) (by kernel_rfl) (fun _ _ _ h => h) (Or.inl ⟨by rfl, ?_⟩) hS ?_
        rotate_left
        · (intro w hSw; (try dsimp only at hSw); go_simp; (first | done | with_reducible rfl))
        change wpAnyH _ _ _ _ _ _ _ (Act.put _ (some 38) _) _
        simp only [Act.put, List.setIfInBounds_toArray, List.set_cons_zero, List.set_cons_succ]
        refine wpAnyH_take (i := 5) (v := ?_) rfl (by kernel_rfl) (by kernel_rfl) (by kernel_rfl) (fun _ _ _ h => h) (Or.inl ⟨by rfl, ?_⟩) hS ?_
        rotate_left
        · (intro w hSw; (try dsimp only at hSw); go_simp; (first | done | with_reducible rfl))
        change wpAnyH _ _ _ _ _ _ _ (Act.put _ (some 39) _) _
        simp only [Act.put, List.setIfInBounds_toArray, List.set_cons_zero, List.set_cons_succ]
        refine wpAnyH_ready (rs := [2]) (by kernel_rfl) (by simp) ?_
        refine AllReadyH.cons rfl (fun K hK => ?_) AllReadyH.nil
        go_simp
        have kn : Keep u0 (u0.alloc (.cells #[.int .u8 0] 5)) := Keep.alloc1 _ _
        refine hK.out _ _ (HS _ (kz.trans kn)) (fun hS => ?_)
        clear hK K
        try simp only [Act.put, List.setIfInBounds_toArray, List.set_cons_zero, List.set_cons_succ]
        refine wpAnyH_ready (rs := [3]) (by kernel_rfl) (by simp) ?_
        refine AllReadyH.cons rfl (fun K hK => ?_) AllReadyH.nil
        rw [if_pos (by rfl)]
        refine wp_append_fr _ (.tmp 34) (.tmp 36) 25 rfl w2.heap.size 5 (.int .u8 0) 1 Tryz.underlying25 infoByte rfl A4 22 c4' _ rfl (f4.keep kn) (some ⟨u0.heap.size, 0, none⟩) 1 1 [.int .u8 0] rfl rfl (Rd.one _ _ _) (one_int _ _) ?g1 ?g2 ?g3 ?_
        case g1 => have := E6.out; unfold maxLen; omega
        case g2 => have := E6.out; omega
        case g3 => exact (kz.trans kn).size
        intro A5 c5' u5 happ
        replace kz := happ.keep (kz.trans kn) (f4.keep kn)
        have f5 := happ.fr
        rw [← cs_one, ← cs_append, ← H5.out] at f5
        clear happ f4 kn
        refine hK.out _ _ (HS _ kz) (fun hS => ?_)
        clear hK K
        change wpAnyH _ _ _ _ _ _ _ (Act.put _ (some 37) _) _
        try simp only [Act.put, List.setIfInBounds_toArray, List.set_cons_zero, List.set_cons_succ]
        refine wpAnyH_ready (rs := [6]) (by kernel_rfl) (by simp) ?_
        refine AllReadyH.cons rfl (fun K hK => ?_) AllReadyH.nil
        go_simp
        have hq : Calls Tryz.prog 36 #[.slice A5 23 c5', .slice ba r.bid.length bc] u5 (RowsC (X5 ++ putL (r.bid.take 255)) u5) := by
          have h := refPutList_f A5 c5' X5 ba bc r.bid u5 f5.rd (by rw [E5.out]; decide) (hr.keep kz).b.rd hr.b.inn.cap (by unfold Len; have := hr.b.inn.capI; simp only at this; omega)
          rw [E5.out] at h
          exact h
        unfold RowsC at hq
        rw [← H6.out] at hq
        refine hq.mono ?_
        rintro e u6 ⟨A6, c6', rfl, f6, kq⟩
        clear hq
        replace f6 := Fr.mono f6 kz.size
        replace kz := kz.trans kq
        clear kq f5
        go_wp2_with fail
        refine hK.out _ _ (HS _ kz) (fun hS => ?_)
        clear hK K
        try simp only [Act.put, List.setIfInBounds_toArray, List.set_cons_zero, List.set_cons_succ]
        refine wpAnyH_take (i := 7) (v := ?_) rfl (by kernel_rfl) (by kernel_rfl) (by kernel_rfl) (fun _ _ _ h => h) (Or.inl ⟨by rfl, ?_⟩) hS ?_
        rotate_left
        · (intro w hSw; (try dsimp only at hSw); go_simp; (first | done | with_reducible rfl))
        change wpAnyH _ _ _ _ _ _ _ (Act.put _ (some 4) _) _
        simp only [Act.put, List.setIfInBounds_toArray, List.set_cons_zero, List.set_cons_succ]
        refine wpAnyH_done (by kernel_rfl) ?_ _
        refine NoPanic.normal ?_
        clear HS hS
        have bz := bF.keep kz
        have c0 := bz.cell_ (i := 0) rfl
        have c1 := bz.cell_ (i := 1) rfl
        have c2 := bz.cell_ (i := 2) rfl
        have c3 := bz.cell_ (i := 3) rfl
        have c4 := bz.cell_ (i := 4) rfl
        have c5 := bz.cell_ (i := 5) rfl
        rw [q1.out] at c5
        have c6 := bz.cell_ (i := 6) rfl
        have c7 := bz.cell_ (i := 7) rfl
        have c8 := bz.cell_ (i := 8) rfl
        have c9 := bz.cell_ (i := 9) rfl
        clear bz
        go_upto_region 15 with fail
        clear c0 c1 c2 c3 c4 c5 c6 c7 c8 c9
        have HS : ∀ v, Keep w2 v → (fun v => v.cell? ⟨gbF, 8, none⟩ = some (.int .i64 r.pays)) v := fun v k => (bF.keep k).cell_ (i := 8) rfl
        refine wp_region_noPanic ?_
        refine wp_region_held_drew (S := (fun v => v.cell? ⟨gbF, 8, none⟩ = some (.int .i64 r.pays))) (by kernel_rfl) (HS _ kz.drew) (fun hS => ?_)
        replace kz := kz.drew
        replace f6 := f6.keep (Keep.refl u6).drew
        generalize u6.drew = u0 at hS kz f6 ⊢
        refine wpAnyH_take (i := 0) (v := ?_) rfl (by kernel_rfl) (by kernel_rfl) (by kernel_rfl) (fun _ _ _ h => h) (Or.inl ⟨by rfl, ?_⟩) hS ?_
        rotate_left
        · (intro w hSw; (try dsimp only at hSw); go_simp; (first | done | with_reducible rfl))
        change wpAnyH _ _ _ _ _ _ _ (Act.put _ (some 47) _) _
        simp only [Act.put, List.setIfInBounds_toArray, List.set_cons_zero, List.set_cons_succ]
        refine wpAnyH_take (i := 1) (v := ?_) rfl (by kernel_rfl) (by kernel_rfl) (by kernel_rfl) (fun _ _ _ h => h) (Or.inl ⟨by rfl, ?_⟩) hS ?_
        rotate_left
        · (intro w hSw; (try dsimp only at hSw); go_simp; (first | done | with_reducible rfl))
        change wpAnyH _ _ _ _ _ _ _ (Act.put _ (some 48) _) _
        simp only [Act.put, List.setIfInBounds_toArray, List.set_cons_zero, List.set_cons_succ]
        refine wpAnyH_take (i := 4) (v := ?_) rfl (by kernel_rfl) (by kernel_rfl) (by kernel_rfl) (fun _ _ _ h => h) (Or.inl ⟨by rfl, ?_⟩) hS ?_
        rotate_left
        · (intro w hSw; (try dsimp only at hSw); go_simp; (first | done | with_reducible rfl))
        change wpAnyH _ _ _ _ _ _ _ (Act.put _ (some 51) _) _
        simp only [Act.put, List.setIfInBounds_toArray, List.set_cons_zero, List.set_cons_succ]
        refine wpAnyH_take (i := 5) (v := ?_) rfl (by kernel_rfl) (by kernel_rfl) (by kernel_rfl) (fun _ _ _ h => h) (Or.inl ⟨by rfl, ?_⟩) hS ?_
        rotate_left
        · (intro w hSw; (try dsimp only at hSw); go_simp; (first | done | with_reducible rfl))
        change wpAnyH _ _ _ _ _ _ _ (Act.put _ (some 52) _) _
        simp only [Act.put, List.setIfInBounds_toArray, List.set_cons_zero, List.set_cons_succ]
        refine wpAnyH_take (i := 6) (v := ?_) rfl (by kernel_rfl) (by kernel_rfl) (by kernel_rfl) (fun _ _ _ h => h) (Or.inl ⟨by rfl, ?_⟩) hS ?_
        rotate_left
        · (intro w hSw; (try dsimp only at hSw); go_simp; (first | done | with_reducible rfl))
        change wpAnyH _ _ _ _ _ _ _ (Act.put _ (some 53) _) _
        simp only [Act.put, List.setIfInBounds_toArray, List.set_cons_zero, List.set_cons_succ]
        refine wpAnyH_ready (rs := [2]) (by kernel_rfl) (by simp) ?_
        refine AllReadyH.cons rfl (fun K hK => ?_) AllReadyH.nil
        go_simp
        have kn : Keep u0 (u0.alloc (.cells #[.int .u8 255] 5)) := Keep.alloc1 _ _
        refine hK.out _ _ (HS _ (kz.trans kn)) (fun hS => ?_)
        clear hK K
        try simp only [Act.put, List.setIfInBounds_toArray, List.set_cons_zero, List.set_cons_succ]
        refine wpAnyH_ready (rs := [3]) (by kernel_rfl) (by simp) ?_
        refine AllReadyH.cons rfl (fun K hK => ?_) AllReadyH.nil
        rw [if_pos (by rfl)]
        refine wp_append_fr _ (.tmp 47) (.tmp 49) 25 rfl w2.heap.size 5 (.int .u8 0) 1 Tryz.underlying25 infoByte rfl A6 X6.length c6' _ rfl (f6.keep kn) (some ⟨u0.heap.size, 0, none⟩) 1 1 [.int .u8 255] rfl rfl (Rd.one _ _ _) (one_int _ _) ?g1 ?g2 ?g3 ?_
        case g1 => have := E6.out; unfold maxLen; omega
        case g2 => have := E6.out; omega
        case g3 => exact (kz.trans kn).size
        intro A7 c7' u7 happ
        replace kz := happ.keep (kz.trans kn) (f6.keep kn)
        have f7 := happ.fr
        rw [← cs_one, ← cs_append, ← H7.out] at f7
        clear happ f6 kn
        refine hK.out _ _ (HS _ kz) (fun hS => ?_)
        clear hK K
        change wpAnyH _ _ _ _ _ _ _ (Act.put _ (some 50) _) _
        try simp only [Act.put, List.setIfInBounds_toArray, List.set_cons_zero, List.set_cons_succ]
        refine wpAnyH_ready (rs := [7]) (by kernel_rfl) (by simp) ?_
        refine AllReadyH.cons rfl (fun K hK => ?_) AllReadyH.nil
        go_simp
        have hq : Calls Tryz.prog 34 #[.slice A7 (X6.length + 1) c7', .int .u64 (pn : Int), .int .i64 4] u7 (RowsC (X7 ++ le pn 4) u7) := by
          have h := refPut_r A7 c7' X7 pn 4 u7 f7.rd (by have := E7.out; have := E6.out; omega) (by decide)
          rw [E7.out] at h
          exact h
        unfold RowsC at hq
        rw [← H8.out, E8.out] at hq
        refine hq.mono ?_
        rintro e u8 ⟨A8, c8', rfl, f8, kq⟩
        clear hq
        replace f8 := Fr.mono f8 kz.size
        replace kz := kz.trans kq
        clear kq f7
        go_wp2_with fail
        refine hK.out _ _ (HS _ kz) (fun hS => ?_)
        clear hK K
        try simp only [Act.put, List.setIfInBounds_toArray, List.set_cons_zero, List.set_cons_succ]
        refine wpAnyH_take (i := 8) (v := ?_) rfl (by kernel_rfl) (by kernel_rfl) (by kernel_rfl) (fun _ _ _ h => h) (Or.inl ⟨by rfl, ?_⟩) hS ?_
        rotate_left
        · (intro w hSw; (try dsimp only at hSw); go_simp; (first | done | with_reducible rfl))
        change wpAnyH _ _ _ _ _ _ _ (Act.put _ (some 4) _) _
        simp only [Act.put, List.setIfInBounds_toArray, List.set_cons_zero, List.set_cons_succ]
        refine wpAnyH_done (by kernel_rfl) ?_ _
        refine NoPanic.normal ?_
        clear HS hS
        have bz := bF.keep kz
        have c0 := bz.cell_ (i := 0) rfl
        have c1 := bz.cell_ (i := 1) rfl
        have c2 := bz.cell_ (i := 2) rfl
        have c3 := bz.cell_ (i := 3) rfl
        have c4 := bz.cell_ (i := 4) rfl
        have c5 := bz.cell_ (i := 5) rfl
        rw [q1.out] at c5
        have c6 := bz.cell_ (i := 6) rfl
        have c7 := bz.cell_ (i := 7) rfl
        have c8 := bz.cell_ (i := 8) rfl
        have c9 := bz.cell_ (i := 9) rfl
        clear bz
        have hq : Calls Tryz.prog 35 #[.slice A8 (X6.length + 5) c8', .slice ca r.cert.length cc] u8 (RowsC (X8 ++ putBy (r.cert.take 65535)) u8) := by
          have h := refPutBytes_f A8 c8' X8 ca cc r.cert u8 f8.rd (by have := E8.out; have := E6.out; omega) (hr.keep kz).c.rd hr.c.inn.cap (by unfold Len; have := hr.c.inn.capI; simp only at this; omega)
          rw [E8.out] at h
          exact h
        unfold RowsC at hq
        rw [← H9.out] at hq
        go_wp2_with fail
        refine hq.mono ?_
        rintro e v9 ⟨A9, c9', rfl, f9, kq⟩
        clear hq
        replace f9 := Fr.mono (Fr.mono f9 kz.size) kb.size
        replace kz := kz.trans kq
        clear c0 c1 c2 c3 c4 c5 c6 c7 c8 c9
        go_wp2_with fail
        refine bodyPost_ret (results_tmp2 rfl _ _ _) rfl ?_
        exact ⟨A9, c9', rfl, f9, kb.trans kz⟩
      · have d1 : decide (0 ≤ r.item) = true := decide_eq_true q2
        have d2 : (0 ≤ r.item) = True := eq_true q2
        replace q2 := Lib.hid q2
        go_upto_region 11 with fail
        clear c0 c1 c2 c3 c4 c5 c6 c7 c8 c9
        have HS : ∀ v, Keep w2 v → (fun v => v.cell? ⟨gbF, 6, none⟩ = some (.slice ba r.bid.length bc)) v := fun v k => (bF.keep k).cell_ (i := 6) rfl
        refine wp_region_noPanic ?_
        refine wp_region_held_drew (S := (fun v => v.cell? ⟨gbF, 6, none⟩ = some (.slice ba r.bid.length bc))) (by kernel_rfl) (HS _ kz.drew) (fun hS => ?_)
        replace kz := kz.drew
        replace f4 := f4.keep (Keep.refl v4).drew
        generalize v4.drew = u0 at hS kz f4 ⊢
        refine wpAnyH_take (i := 0) (v := ?_) rfl (by kernel_rfl) (by kernel_rfl) (by kernel_rfl) (fun _ _ _ h => h) (Or.inl ⟨by rfl, ?_⟩) hS ?_
        rotate_left
        · (intro w hSw; (try dsimp only at hSw); go_simp; (first | done | with_reducible rfl))
        change wpAnyH _ _ _ _ _ _ _ (Act.put _ (some 34) _) _
        simp only [Act.put, List.setIfInBounds_toArray, List.set_cons_zero, List.set_cons_succ]
        refine wpAnyH_take (i := 1) (v := ?_) rfl (by kernel_rfl) (by kernel_rfl) (by kernel_rfl) (fun _ _ _ h => h) (Or.inl ⟨by rfl, ?_⟩) hS ?_
        rotate_left
        · (intro w hSw; (try dsimp only at hSw); go_simp; (first | done | with_reducible rfl))
        change wpAnyH _ _ _ _ _ _ _ (Act.put _ (some 35) _) _
        simp only [Act.put, List.setIfInBounds_toArray, List.set_cons_zero, List.set_cons_succ]
        refine wpAnyH_take (i := 4) (v := ?_) rfl (by kernel_rfl) (by kernel_rfl) (by kernel_rfl) (fun _ _ _ h => h) (Or.inl ⟨by rfl, ?_⟩) hS ?_
        rotate_left
        · (intro w hSw; (try dsimp only at hSw); go_simp; (first | done | with_reducible rfl))
        change wpAnyH _ _ _ _ _ _ _ (Act.put _ (some 38) _) _
        simp only [Act.put, List.setIfInBounds_toArray, List.set_cons_zero, List.set_cons_succ]
        refine wpAnyH_take (i := 5) (v := ?_) rfl (by kernel_rfl) (by kernel_rfl) (by kernel_rfl) (fun _ _ _ h => h) (Or.inl ⟨by rfl, ?_⟩) hS ?_
        rotate_left
        · (intro w hSw; (try dsimp only at hSw); go_simp; (first | done | with_reducible rfl))
        change wpAnyH _ _ _ _ _ _ _ (Act.put _ (some 39) _) _
        simp only [Act.put, List.setIfInBounds_toArray, List.set_cons_zero, List.set_cons_succ]
        refine wpAnyH_ready (rs := [2]) (by kernel_rfl) (by simp) ?_
        refine AllReadyH.cons rfl (fun K hK => ?_) AllReadyH.nil
        go_simp
        have kn : Keep u0 (u0.alloc (.cells #[.int .u8 0] 5)) := Keep.alloc1 _ _
        refine hK.out _ _ (HS _ (kz.trans kn)) (fun hS => ?_)
        clear hK K
        try simp only [Act.put, List.setIfInBounds_toArray, List.set_cons_zero, List.set_cons_succ]
        refine wpAnyH_ready (rs := [3]) (by kernel_rfl) (by simp) ?_
        refine AllReadyH.cons rfl (fun K hK => ?_) AllReadyH.nil
        rw [if_pos (by rfl)]
        refine wp_append_fr _ (.tmp 34) (.tmp 36) 25 rfl w2.heap.size 5 (.int .u8 0) 1 Tryz.underlying25 infoByte rfl A4 22 c4' _ rfl (f4.keep kn) (some ⟨u0.heap.size, 0, none⟩) 1 1 [.int .u8 0] rfl rfl (Rd.one _ _ _) (one_int _ _) ?g1 ?g2 ?g3 ?_
        case g1 => have := E6.out; unfold maxLen; omega
        case g2 => have := E6.out; omega
        case g3 => exact (kz.trans kn).size
        intro A5 c5' u5 happ
        replace kz := happ.keep (kz.trans kn) (f4.keep kn)
        have f5 := happ.fr
        rw [← cs_one, ← cs_append, ← H5.out] at f5
        clear happ f4 kn
        refine hK.out _ _ (HS _ kz) (fun hS => ?_)
        clear hK K
        change wpAnyH _ _ _ _ _ _ _ (Act.put _ (some 37) _) _
        try simp only [Act.put, List.setIfInBounds_toArray, List.set_cons_zero, List.set_cons_succ]
        refine wpAnyH_ready (rs := [6]) (by kernel_rfl) (by simp) ?_
        refine AllReadyH.cons rfl (fun K hK => ?_) AllReadyH.nil
        go_simp
        have hq : Calls Tryz.prog 36 #[.slice A5 23 c5', .slice ba r.bid.length bc] u5 (RowsC (X5 ++ putL (r.bid.take 255)) u5) := by
          have h := refPutList_f A5 c5' X5 ba bc r.bid u5 f5.rd (by rw [E5.out]; decide) (hr.keep kz).b.rd hr.b.inn.cap (by unfold Len; have := hr.b.inn.capI; simp only at this; omega)
          rw [E5.out] at h
          exact h
        unfold RowsC at hq
        rw [← H6.out] at hq
        refine hq.mono ?_
        rintro e u6 ⟨A6, c6', rfl, f6, kq⟩
        clear hq
        replace f6 := Fr.mono f6 kz.size
        replace kz := kz.trans kq
        clear kq f5
        go_wp2_with fail
        refine hK.out _ _ (HS _ kz) (fun hS => ?_)
        clear hK K
        try simp only [Act.put, List.setIfInBounds_toArray, List.set_cons_zero, List.set_cons_succ]
        refine wpAnyH_take (i := 7) (v := ?_) rfl (by kernel_rfl) (by kernel_rfl) (by kernel_rfl) (fun _ _ _ h => h) (Or.inl ⟨by rfl, ?_⟩) hS ?_
        rotate_left
        · (intro w hSw; (try dsimp only at hSw); go_simp; (first | done | with_reducible rfl))
        change wpAnyH _ _ _ _ _ _ _ (Act.put _ (some 4) _) _
        simp only [Act.put, List.setIfInBounds_toArray, List.set_cons_zero, List.set_cons_succ]
        refine wpAnyH_done (by kernel_rfl) ?_ _
        refine NoPanic.normal ?_
        clear HS hS
        have bz := bF.keep kz
        have c0 := bz.cell_ (i := 0) rfl
        have c1 := bz.cell_ (i := 1) rfl
        have c2 := bz.cell_ (i := 2) rfl
        have c3 := bz.cell_ (i := 3) rfl
        have c4 := bz.cell_ (i := 4) rfl
        have c5 := bz.cell_ (i := 5) rfl
        rw [q1.out] at c5
        have c6 := bz.cell_ (i := 6) rfl
        have c7 := bz.cell_ (i := 7) rfl
        have c8 := bz.cell_ (i := 8) rfl
        have c9 := bz.cell_ (i := 9) rfl
        clear bz
        go_upto_region 15 with fail
        clear c0 c1 c2 c3 c4 c5 c6 c7 c8 c9
        have HS : ∀ v, Keep w2 v → (fun v => v.cell? ⟨gbF, 8, none⟩ = some (.int .i64 r.pays)) v := fun v k => (bF.keep k).cell_ (i := 8) rfl
        refine wp_region_noPanic ?_
        refine wp_region_held_drew (S := (fun v => v.cell? ⟨gbF, 8, none⟩ = some (.int .i64 r.pays))) (by kernel_rfl) (HS _ kz.drew) (fun hS => ?_)
        replace kz := kz.drew
        replace f6 := f6.keep (Keep.refl u6).drew
        generalize u6.drew = u0 at hS kz f6 ⊢
        refine wpAnyH_take (i := 0) (v := ?_) rfl (by kernel_rfl) (by kernel_rfl) (by kernel_rfl) (fun _ _ _ h => h) (Or.inl ⟨by rfl, ?_⟩) hS ?_
        rotate_left
        · (intro w hSw; (try dsimp only at hSw); go_simp; (first | done | with_reducible rfl))
        change wpAnyH _ _ _ _ _ _ _ (Act.put _ (some 47) _) _
        simp only [Act.put, List.setIfInBounds_toArray, List.set_cons_zero, List.set_cons_succ]
        refine wpAnyH_take (i := 1) (v := ?_) rfl (by kernel_rfl) (by kernel_rfl) (by kernel_rfl) (fun _ _ _ h => h) (Or.inl ⟨by rfl, ?_⟩) hS ?_
        rotate_left
        · (intro w hSw; (try dsimp only at hSw); go_simp; (first | done | with_reducible rfl))
        change wpAnyH _ _ _ _ _ _ _ (Act.put _ (some 48) _) _
        simp only [Act.put, List.setIfInBounds_toArray, List.set_cons_zero, List.set_cons_succ]
        refine wpAnyH_take (i := 4) (v := ?_) rfl (by kernel_rfl) (by kernel_rfl) (by kernel_rfl) (fun _ _ _ h => h) (Or.inl ⟨by rfl, ?_⟩) hS ?_
        rotate_left
        · (intro w hSw; (try dsimp only at hSw); go_simp; (first | done | with_reducible rfl))
        change wpAnyH _ _ _ _ _ _ _ (Act.put _ (some 51) _) _
        simp only [Act.put, List.setIfInBounds_toArray, List.set_cons_zero, List.set_cons_succ]
        refine wpAnyH_take (i := 5) (v := ?_) rfl (by kernel_rfl) (by kernel_rfl) (by kernel_rfl) (fun _ _ _ h => h) (Or.inl ⟨by rfl, ?_⟩) hS ?_
        rotate_left
        · (intro w hSw; (try dsimp only at hSw); go_simp; (first | done | with_reducible rfl))
        change wpAnyH _ _ _ _ _ _ _ (Act.put _ (some 52) _) _
        simp only [Act.put, List.setIfInBounds_toArray, List.set_cons_zero, List.set_cons_succ]
        refine wpAnyH_take (i := 6) (v := ?_) rfl (by kernel_rfl) (by kernel_rfl) (by kernel_rfl) (fun _ _ _ h => h) (Or.inl ⟨by rfl, ?_⟩) hS ?_
        rotate_left
        · (intro w hSw; (try dsimp only at hSw); go_simp; (first | done | with_reducible rfl))
        change wpAnyH _ _ _ _ _ _ _ (Act.put _ (some 53) _) _
        simp only [Act.put, List.setIfInBounds_toArray, List.set_cons_zero, List.set_cons_succ]
        refine wpAnyH_ready (rs := [2]) (by kernel_rfl) (by simp) ?_
        refine AllReadyH.cons rfl (fun K hK => ?_) AllReadyH.nil
        go_simp
        have kn : Keep u0 (u0.alloc (.cells #[.int .u8 it] 5)) := Keep.alloc1 _ _
        refine hK.out _ _ (HS _ (kz.trans kn)) (fun hS => ?_)
        clear hK K
        try simp only [Act.put, List.setIfInBounds_toArray, List.set_cons_zero, List.set_cons_succ]
        refine wpAnyH_ready (rs := [3]) (by kernel_rfl) (by simp) ?_
        refine AllReadyH.cons rfl (fun K hK => ?_) AllReadyH.nil
        rw [if_pos (by rfl)]
        refine wp_append_fr _ (.tmp 47) (.tmp 49) 25 rfl w2.heap.size 5 (.int .u8 0) 1 Tryz.underlying25 infoByte rfl A6 X6.length c6' _ rfl (f6.keep kn) (some ⟨u0.heap.size, 0, none⟩) 1 1 [.int .u8 it] rfl rfl (Rd.one _ _ _) (one_int _ _) ?g1 ?g2 ?g3 ?_
        case g1 => have := E6.out; unfold maxLen; omega
        case g2 => have := E6.out; omega
        case g3 => exact (kz.trans kn).size
        intro A7 c7' u7 happ
        replace kz := happ.keep (kz.trans kn) (f6.keep kn)
        have f7 := happ.fr
        rw [← cs_one, ← cs_append, ← H7.out] at f7
        clear happ f6 kn
        refine hK.out _ _ (HS _ kz) (fun hS => ?_)
        clear hK K
        change wpAnyH _ _ _ _ _ _ _ (Act.put _ (some 50) _) _
        try simp only [Act.put, List.setIfInBounds_toArray, List.set_cons_zero, List.set_cons_succ]
        refine wpAnyH_ready (rs := [7]) (by kernel_rfl) (by simp) ?_
        refine AllReadyH.cons rfl (fun K hK => ?_) AllReadyH.nil
        go_simp
        have hq : Calls Tryz.prog 34 #[.slice A7 (X6.length + 1) c7', .int .u64 (pn : Int), .int .i64 4] u7 (RowsC (X7 ++ le pn 4) u7) := by
          have h := refPut_r A7 c7' X7 pn 4 u7 f7.rd (by have := E7.out; have := E6.out; omega) (by decide)
          rw [E7.out] at h
          exact h
        unfold RowsC at hq
        rw [← H8.out, E8.out] at hq
        refine hq.mono ?_
        rintro e u8 ⟨A8, c8', rfl, f8, kq⟩
        clear hq
        replace f8 := Fr.mono f8 kz.size
        replace kz := kz.trans kq
        clear kq f7
        go_wp2_with fail
        refine hK.out _ _ (HS _ kz) (fun hS => ?_)
        clear hK K
        try simp only [Act.put, List.setIfInBounds_toArray, List.set_cons_zero, List.set_cons_succ]
        refine wpAnyH_take (i := 8) (v := ?_) rfl (by kernel_rfl) (by kernel_rfl) (by kernel_rfl) (fun _ _ _ h => h) (Or.inl ⟨by rfl, ?_⟩) hS ?_
        rotate_left
        · (intro w hSw; (try dsimp only at hSw); go_simp; (first | done | with_reducible rfl))
        change wpAnyH _ _ _ _ _ _ _ (Act.put _ (some 4) _) _
        simp only [Act.put, List.setIfInBounds_toArray, List.set_cons_zero, List.set_cons_succ]
        refine wpAnyH_done (by kernel_rfl) ?_ _
        refine NoPanic.normal ?_
        clear HS hS
        have bz := bF.keep kz
        have c0 := bz.cell_ (i := 0) rfl
        have c1 := bz.cell_ (i := 1) rfl
        have c2 := bz.cell_ (i := 2) rfl
        have c3 := bz.cell_ (i := 3) rfl
        have c4 := bz.cell_ (i := 4) rfl
        have c5 := bz.cell_ (i := 5) rfl
        rw [q1.out] at c5
        have c6 := bz.cell_ (i := 6) rfl
        have c7 := bz.cell_ (i := 7) rfl
        have c8 := bz.cell_ (i := 8) rfl
        have c9 := bz.cell_ (i := 9) rfl
        clear bz
        have hq : Calls Tryz.prog 35 #[.slice A8 (X6.length + 5) c8', .slice ca r.cert.length cc] u8 (RowsC (X8 ++ putBy (r.cert.take 65535)) u8) := by
          have h := refPutBytes_f A8 c8' X8 ca cc r.cert u8 f8.rd (by have := E8.out; have := E6.out; omega) (hr.keep kz).c.rd hr.c.inn.cap (by unfold Len; have := hr.c.inn.capI; simp only at this; omega)
          rw [E8.out] at h
          exact h
        unfold RowsC at hq
        rw [← H9.out] at hq
        go_wp2_with fail
        refine hq.mono ?_
        rintro e v9 ⟨A9, c9', rfl, f9, kq⟩
        clear hq
        replace f9 := Fr.mono (Fr.mono f9 kz.size) kb.size
        replace kz := kz.trans kq
        clear c0 c1 c2 c3 c4 c5 c6 c7 c8 c9
        go_wp2_with fail
        refine bodyPost_ret (results_tmp2 rfl _ _ _) rfl ?_
        exact ⟨A9, c9', rfl, f9, kb.trans kz⟩
end Go.Proofs.YtjhbpocffckghaaGreatDoor

namespace Go.Proofs.YtjhbpocffckghaaGreatDoor
open Go.RowKit

theorem Bk.free {w : World} {base g n : Nat} {hb hi : List Hd} {vb vi : Value} (hk : Bk w base g n hb hi vb vi) : (∀ q, (q = g ∨ vb.ownBlock = some q) → q < w.heap.size) ∧ (∀ q, (q = g ∨ vi.ownBlock = some q) → q < w.heap.size) := by
  refine ⟨fun q hq => ?_, fun q hq => ?_⟩
  · rcases hq with rfl | hq
    · exact hk.b.lt
    · obtain ⟨cur, hc⟩ := hk.rb.cur hq
      exact (Array.getElem?_eq_some_iff.1 hc).1
  · rcases hq with rfl | hq
    · exact hk.b.lt
    · obtain ⟨cur, hc⟩ := hk.ri.cur hq
      exact (Array.getElem?_eq_some_iff.1 hc).1

set_option maxRecDepth 100000 in
set_option maxHeartbeats 8000000 in
/-- Frame -/
theorem bookFrame_f (g n : Nat) (hb hi : List Hd) (vb vi : Value) (f : Frm) (w0 w : World) (k0 : Keep w0 w) (hk : Bk w w0.heap.size g n hb hi vb vi) (hn : n ≤ 9000) (h1 : hb.length ≤ 9000) (h2 : hi.length ≤ 9000) :
    Calls Tryz.prog 12 #[pK g, f.val] w fun e w' => e = .returned (.tuple #[]) ∧ ∃ vb' vi', Bk w' w0.heap.size g (n + 2) (hb ++ [⟨f.sa, f.sc, f.v.sec.length, n + 1, none, 0, 0⟩]) (hi ++ [⟨f.ba, f.bc, f.v.bid.length, n + 2, none, 0, 0⟩]) vb' vi' ∧ Keep w0 w' := by
  obtain ⟨f, sa, sc, ba, bc⟩ := f
  unfold Frm.val pK
  simp only
  have kn : Keep w (w.alloc (.cells #[.int .u8 f.ask, .int .u8 f.who, .int .u32 f.seq, .int .u64 f.tok, .slice sa f.sec.length sc, .slice ba f.bid.length bc] 28)) := Keep.alloc1 _ _
  have bF := Blk.new w 28 [.int .u8 f.ask, .int .u8 f.who, .int .u32 f.seq, .int .u64 f.tok, .slice sa f.sec.length sc, .slice ba f.bid.length bc]
  have hfr := Bk.free hk
  go_enter Tryz.func12, Tryz.ntmps12
  go_upto_region 1 with fail
  change Code.wp _ _ _ _ (w.alloc (.cells #[.int .u8 f.ask, .int .u8 f.who, .int .u32 f.seq, .int .u64 f.tok, .slice sa f.sec.length sc, .slice ba f.bid.length bc] 28))
  generalize w.alloc (.cells #[.int .u8 f.ask, .int .u8 f.who, .int .u32 f.seq, .int .u64 f.tok, .slice sa f.sec.length sc, .slice ba f.bid.length bc] 28) = w1 at kn bF ⊢
  have hK := hk.keep kn
  replace k0 := k0.trans kn
  have c1 := bF.cell_ (i := 4) rfl
  have hq := bookBytes_f g n w0.heap.size hb hi vb vi sa f.sec.length sc w1 hK (by omega) (by omega)
  unfold pK at hq
  go_wp2_with fail
  refine hq.mono ?_
  rintro e w2 ⟨rfl, v1, hK1, t1⟩
  have b5 : Blk w2 w.heap.size 28 [.int .u8 f.ask, .int .u8 f.who, .int .u32 f.seq, .int .u64 f.tok, .slice sa f.sec.length sc, .slice ba f.bid.length bc] := Blk.but bF t1 (fun h => by have := hfr.1 _ h; omega)
  replace k0 := hK.stepB k0 t1
  clear hK hq t1 c1
  have c2 := b5.cell_ (i := 5) rfl
  have hq := bookInts_f g (n + 1) w0.heap.size _ _ _ _ ba f.bid.length bc w2 hK1 (by omega) (by omega)
  unfold pK at hq
  go_wp2_with fail
  refine hq.mono ?_
  rintro e w3 ⟨rfl, v2, hK2, t2⟩
  replace k0 := hK1.stepI k0 t2
  go_wp2_with fail
  go_end0
  exact ⟨rfl, v1, v2, hK2, k0⟩

set_option maxRecDepth 100000 in
set_option maxHeartbeats 8000000 in
/-- Reply -/
theorem bookReply_f (g n : Nat) (hb hi : List Hd) (vb vi : Value) (f : Rpl) (w0 w : World) (k0 : Keep w0 w) (hk : Bk w w0.heap.size g n hb hi vb vi) (hn : n ≤ 9000) (h1 : hb.length ≤ 9000) (h2 : hi.length ≤ 9000) :
    Calls Tryz.prog 13 #[pK g, f.val] w fun e w' => e = .returned (.tuple #[]) ∧ ∃ vb' vi', Bk w' w0.heap.size g (n + 2) (hb ++ [⟨f.ca, f.cc, f.v.cert.length, n + 2, none, 0, 0⟩]) (hi ++ [⟨f.ba, f.bc, f.v.bid.length, n + 1, none, 0, 0⟩]) vb' vi' ∧ Keep w0 w' := by
  obtain ⟨f, ba, bc, ca, cc⟩ := f
  unfold Rpl.val pK
  simp only
  have kn : Keep w (w.alloc (.cells #[.int .i64 f.e, .int .u32 f.seq, .int .u64 f.tok, .int .u8 f.ph, .int .u64 f.tm, .bool f.has, .slice ba f.bid.length bc, .int .i64 f.item, .int .i64 f.pays, .slice ca f.cert.length cc] 32)) := Keep.alloc1 _ _
  have bF := Blk.new w 32 [.int .i64 f.e, .int .u32 f.seq, .int .u64 f.tok, .int .u8 f.ph, .int .u64 f.tm, .bool f.has, .slice ba f.bid.length bc, .int .i64 f.item, .int .i64 f.pays, .slice ca f.cert.length cc]
  have hfr := Bk.free hk
  go_enter Tryz.func13, Tryz.ntmps13
  go_upto_region 1 with fail
  change Code.wp _ _ _ _ (w.alloc (.cells #[.int .i64 f.e, .int .u32 f.seq, .int .u64 f.tok, .int .u8 f.ph, .int .u64 f.tm, .bool f.has, .slice ba f.bid.length bc, .int .i64 f.item, .int .i64 f.pays, .slice ca f.cert.length cc] 32))
  generalize w.alloc (.cells #[.int .i64 f.e, .int .u32 f.seq, .int .u64 f.tok, .int .u8 f.ph, .int .u64 f.tm, .bool f.has, .slice ba f.bid.length bc, .int .i64 f.item, .int .i64 f.pays, .slice ca f.cert.length cc] 32) = w1 at kn bF ⊢
  have hK := hk.keep kn
  replace k0 := k0.trans kn
  have c1 := bF.cell_ (i := 6) rfl
  have hq := bookInts_f g n w0.heap.size hb hi vb vi ba f.bid.length bc w1 hK (by omega) (by omega)
  unfold pK at hq
  go_wp2_with fail
  refine hq.mono ?_
  rintro e w2 ⟨rfl, v1, hK1, t1⟩
  have b9 : Blk w2 w.heap.size 32 [.int .i64 f.e, .int .u32 f.seq, .int .u64 f.tok, .int .u8 f.ph, .int .u64 f.tm, .bool f.has, .slice ba f.bid.length bc, .int .i64 f.item, .int .i64 f.pays, .slice ca f.cert.length cc] := Blk.but bF t1 (fun h => by have := hfr.2 _ h; omega)
  replace k0 := hK.stepI k0 t1
  clear hK hq t1 c1
  have c2 := b9.cell_ (i := 9) rfl
  have hq := bookBytes_f g (n + 1) w0.heap.size _ _ _ _ ca f.cert.length cc w2 hK1 (by omega) (by omega)
  unfold pK at hq
  go_wp2_with fail
  refine hq.mono ?_
  rintro e w3 ⟨rfl, v2, hK2, t2⟩
  replace k0 := hK1.stepB k0 t2
  go_wp2_with fail
  go_end0
  exact ⟨rfl, v2, v1, hK2, k0⟩
end Go.Proofs.YtjhbpocffckghaaGreatDoor

namespace Go.Proofs.YtjhbpocffckghaaGreatDoor
open Go.RowKit

theorem putFV_len {f : FV} {L : List Int} {e : Int} (h : putFV f = (L, e)) : L.length ≤ 2000 := by
  unfold putFV at h
  split at h
  · rename_i q
    obtain ⟨-, -, l1, l2, -⟩ := mayF_facts q
    cases h
    rw [length_bytesF]
    omega
  · cases h
    exact Nat.zero_le _
theorem putRV_len {r : RV} {L : List Int} {e : Int} (h : putRV r = (L, e)) : L.length ≤ 2000 := by
  unfold putRV at h
  split at h
  · rename_i q
    obtain ⟨-, -, -, -, -, -, -, -, l1, l2, -⟩ := mayR_facts q
    cases h
    rw [length_bytesR]
    omega
  · cases h
    exact Nat.zero_le _

set_option maxRecDepth 100000 in
set_option maxHeartbeats 32000000 in
theorem framesPut_w (f : Frm) (r : Rpl) (w : World) (hf : f.Ok w) (hr : r.Ok w) (hP : Parts w) (s1 : f.v.sec.length ≤ 140737488351232) (s2 : f.v.bid.length ≤ 140737488351232) (s3 : r.v.bid.length ≤ 140737488351232) (s4 : r.v.cert.length ≤ 140737488351232) :
    Calls Tryz.prog 3 #[f.val, r.val] w fun e w' => e = .returned (.bool true) ∧ Below w.heap.size w w' := by
  have kk : Keep w w := Keep.refl _
  obtain ⟨f, fsa, fsc, fba, fbc⟩ := f
  obtain ⟨r, rba, rbc, rca, rcc⟩ := r
  unfold Frm.val Rpl.val
  simp only at s1 s2 s3 s4 ⊢
  have hP0 := Lib.hid hP
  have kq : Keep w (w.alloc (.cells #[.int .u8 f.ask, .int .u8 f.who, .int .u32 f.seq, .int .u64 f.tok, .slice fsa f.sec.length fsc, .slice fba f.bid.length fbc] 28)) := Keep.alloc1 _ _
  have bF := Blk.new w 28 [.int .u8 f.ask, .int .u8 f.who, .int .u32 f.seq, .int .u64 f.tok, .slice fsa f.sec.length fsc, .slice fba f.bid.length fbc]
  have hsz : (w.alloc (.cells #[.int .u8 f.ask, .int .u8 f.who, .int .u32 f.seq, .int .u64 f.tok, .slice fsa f.sec.length fsc, .slice fba f.bid.length fbc] 28)).heap.size = w.heap.size + 1 := by simp
  obtain ⟨w0, hw0⟩ : ∃ w0, w0 = w.alloc (.cells #[.int .u8 f.ask, .int .u8 f.who, .int .u32 f.seq, .int .u64 f.tok, .slice fsa f.sec.length fsc, .slice fba f.bid.length fbc] 28) := ⟨_, rfl⟩
  rw [← hw0] at kq bF hsz
  have HW0 := Lib.hid hw0
  clear hw0
  replace hP := hP.keep kq
  replace hf := hf.keep kq
  replace hr := hr.keep kq
  replace kk := kk.trans kq
  clear kq
  have kq : Keep w0 (w0.alloc (.cells #[.int .i64 r.e, .int .u32 r.seq, .int .u64 r.tok, .int .u8 r.ph, .int .u64 r.tm, .bool r.has, .slice rba r.bid.length rbc, .int .i64 r.item, .int .i64 r.pays, .slice rca r.cert.length rcc] 32)) := Keep.alloc1 _ _
  have bR : Blk (w0.alloc (.cells #[.int .i64 r.e, .int .u32 r.seq, .int .u64 r.tok, .int .u8 r.ph, .int .u64 r.tm, .bool r.has, .slice rba r.bid.length rbc, .int .i64 r.item, .int .i64 r.pays, .slice rca r.cert.length rcc] 32)) (w.heap.size + 1) 32 [.int .i64 r.e, .int .u32 r.seq, .int .u64 r.tok, .int .u8 r.ph, .int .u64 r.tm, .bool r.has, .slice rba r.bid.length rbc, .int .i64 r.item, .int .i64 r.pays, .slice rca r.cert.length rcc] := hsz ▸ Blk.new w0 32 [.int .i64 r.e, .int .u32 r.seq, .int .u64 r.tok, .int .u8 r.ph, .int .u64 r.tm, .bool r.has, .slice rba r.bid.length rbc, .int .i64 r.item, .int .i64 r.pays, .slice rca r.cert.length rcc]
  clear hsz
  obtain ⟨w1, hw1⟩ : ∃ w1, w1 = w0.alloc (.cells #[.int .i64 r.e, .int .u32 r.seq, .int .u64 r.tok, .int .u8 r.ph, .int .u64 r.tm, .bool r.has, .slice rba r.bid.length rbc, .int .i64 r.item, .int .i64 r.pays, .slice rca r.cert.length rcc] 32) := ⟨_, rfl⟩
  rw [← hw1] at kq bR
  have HW1 := Lib.hid hw1
  clear hw1
  replace hP := hP.keep kq
  replace hf := hf.keep kq
  replace hr := hr.keep kq
  replace bF := bF.keep kq
  replace kk := kk.trans kq
  clear kq
  have bF_0 := bF.cell_ (i := 0) rfl
  have bF_1 := bF.cell_ (i := 1) rfl
  have bF_2 := bF.cell_ (i := 2) rfl
  have bF_3 := bF.cell_ (i := 3) rfl
  have bF_4 := bF.cell_ (i := 4) rfl
  have bF_5 := bF.cell_ (i := 5) rfl
  have bR_0 := bR.cell_ (i := 0) rfl
  have bR_1 := bR.cell_ (i := 1) rfl
  have bR_2 := bR.cell_ (i := 2) rfl
  have bR_3 := bR.cell_ (i := 3) rfl
  have bR_4 := bR.cell_ (i := 4) rfl
  have bR_5 := bR.cell_ (i := 5) rfl
  have bR_6 := bR.cell_ (i := 6) rfl
  have bR_7 := bR.cell_ (i := 7) rfl
  have bR_8 := bR.cell_ (i := 8) rfl
  have bR_9 := bR.cell_ (i := 9) rfl
  by_cases b1 : 2000 < f.sec.length + f.bid.length
  · obtain ⟨z1, z1'⟩ := dT (p := (2000 : Int) < (f.sec.length : Int) + (f.bid.length : Int)) (by omega)
    go_enter Tryz.func3, Tryz.ntmps3
    go_upto_region 1 with fail
    rw [← HW0.out, ← HW1.out]
    go_wp2_with fail
    refine (lives_f w1 hP).mono ?_
    rintro e w2 ⟨rfl, kq⟩
    go_wp2_with fail
    go_ret
    exact ⟨rfl, kk.trans kq⟩
  by_cases b2 : 5000 < r.bid.length + r.cert.length
  · obtain ⟨z1, z1'⟩ := dF (p := (2000 : Int) < (f.sec.length : Int) + (f.bid.length : Int)) (by omega)
    obtain ⟨z2, z2'⟩ := dT (p := (5000 : Int) < (r.bid.length : Int) + (r.cert.length : Int)) (by omega)
    go_enter Tryz.func3, Tryz.ntmps3
    go_upto_region 1 with fail
    rw [← HW0.out, ← HW1.out]
    go_wp2_with fail
    refine (lives_f w1 hP).mono ?_
    rintro e w2 ⟨rfl, kq⟩
    go_wp2_with fail
    go_ret
    exact ⟨rfl, kk.trans kq⟩
  obtain ⟨z1, z1'⟩ := dF (p := (2000 : Int) < (f.sec.length : Int) + (f.bid.length : Int)) (by omega)
  obtain ⟨z2, z2'⟩ := dF (p := (5000 : Int) < (r.bid.length : Int) + (r.cert.length : Int)) (by omega)
  have l1 : f.sec.length ≤ 2000 := by omega
  have l2 : f.bid.length ≤ 2000 := by omega
  have l3 : r.bid.length ≤ 5000 := by omega
  have l4 : r.cert.length ≤ 5000 := by omega
  clear s1 s2 s3 s4 b1 b2
  obtain ⟨L1, e1, p1⟩ : ∃ L e, putFV f = (L, e) := ⟨_, _, rfl⟩
  obtain ⟨L2, e2, p2⟩ : ∃ L e, putRV r = (L, e) := ⟨_, _, rfl⟩
  have n1 := putFV_len p1
  have n2 := putRV_len p2
  replace p1 := Lib.hid p1
  replace p2 := Lib.hid p2
  go_enter Tryz.func3, Tryz.ntmps3
  go_upto_region 1 with fail
  rw [← HW0.out, ← HW1.out]
  have HB0 := Held.nil 5 w1 w.heap.size
  have HI0 := Held.nil 3 w1 w.heap.size
  have hq := twinFrm_f (Frm.mk f fsa fsc fba fbc) w1 hf (by show f.sec.length ≤ _; omega) (by show f.bid.length ≤ _; omega)
  unfold Frm.val at hq
  simp only at hq
  go_wp2_with fail
  refine hq.mono ?_
  rintro e w2 ⟨A1, c1, A2, c2, rfl, t1, t2, kq⟩
  clear hq
  have HB1 := HB0.snoc kq kk.size (TwinB.fr t1) 1 (by decide) (by show f.sec.length ≤ _; omega)
  clear HB0
  have HI1 := HI0.snoc kq kk.size (Twin.fr t2) 2 (by decide) (by show f.bid.length ≤ _; omega)
  clear HI0
  have hb := kk.size
  replace t1 : TwinB w2 w.heap.size ⟨A1, c1, f.sec⟩ := Fr.mono t1 hb
  replace t2 : Twin w2 w.heap.size ⟨A2, c2, f.bid⟩ := Fr.mono t2 hb
  clear hb
  replace hP := hP.keep kq
  replace hf := hf.keep kq
  replace hr := hr.keep kq
  replace bF := bF.keep kq
  replace bR := bR.keep kq
  replace kk := kk.trans kq
  clear kq
  clear bF_0 bF_1 bF_2 bF_3 bF_4 bF_5
  clear bR_0 bR_1 bR_2 bR_3 bR_4 bR_5 bR_6 bR_7 bR_8 bR_9
  go_upto_region 4 with fail
  have kq : Keep w2 (w2.alloc (.cells #[.int .u8 f.ask, .int .u8 f.who, .int .u32 f.seq, .int .u64 f.tok, .slice A1 f.sec.length c1, .slice A2 f.bid.length c2] 28)) := Keep.alloc1 _ _
  have bX := Blk.new w2 28 [.int .u8 f.ask, .int .u8 f.who, .int .u32 f.seq, .int .u64 f.tok, .slice A1 f.sec.length c1, .slice A2 f.bid.length c2]
  change Code.wp _ _ _ _ (w2.alloc (.cells #[.int .u8 f.ask, .int .u8 f.who, .int .u32 f.seq, .int .u64 f.tok, .slice A1 f.sec.length c1, .slice A2 f.bid.length c2] 28))
  generalize w2.alloc (.cells #[.int .u8 f.ask, .int .u8 f.who, .int .u32 f.seq, .int .u64 f.tok, .slice A1 f.sec.length c1, .slice A2 f.bid.length c2] 28) = w3 at kq bX ⊢
  generalize w2.heap.size = gbX at bX ⊢
  replace hP := hP.keep kq
  replace hf := hf.keep kq
  replace hr := hr.keep kq
  replace bF := bF.keep kq
  replace bR := bR.keep kq
  replace HB1 := HB1.keep kq
  replace HI1 := HI1.keep kq
  replace t1 := TwinB.keep t1 kq
  replace t2 := Twin.keep t2 kq
  replace kk := kk.trans kq
  clear kq
  have bR_0 := bR.cell_ (i := 0) rfl
  have bR_1 := bR.cell_ (i := 1) rfl
  have bR_2 := bR.cell_ (i := 2) rfl
  have bR_3 := bR.cell_ (i := 3) rfl
  have bR_4 := bR.cell_ (i := 4) rfl
  have bR_5 := bR.cell_ (i := 5) rfl
  have bR_6 := bR.cell_ (i := 6) rfl
  have bR_7 := bR.cell_ (i := 7) rfl
  have bR_8 := bR.cell_ (i := 8) rfl
  have bR_9 := bR.cell_ (i := 9) rfl
  have hq := twinRpl_f (Rpl.mk r rba rbc rca rcc) w3 hr (by show r.bid.length ≤ _; omega) (by show r.cert.length ≤ _; omega)
  unfold Rpl.val at hq
  simp only at hq
  go_wp2_with fail
  refine hq.mono ?_
  rintro e w4 ⟨A3, c3, A4, c4, rfl, t3, t4, kq⟩
  clear hq
  have HB2 := HB1.snoc kq kk.size (TwinB.fr t4) 4 (by decide) (by show r.cert.length ≤ _; omega)
  clear HB1
  have HI2 := HI1.snoc kq kk.size (Twin.fr t3) 3 (by decide) (by show r.bid.length ≤ _; omega)
  clear HI1
  have hb := kk.size
  replace t3 : Twin w4 w.heap.size ⟨A3, c3, r.bid⟩ := Fr.mono t3 hb
  replace t4 : TwinB w4 w.heap.size ⟨A4, c4, r.cert⟩ := Fr.mono t4 hb
  clear hb
  replace hP := hP.keep kq
  replace hf := hf.keep kq
  replace hr := hr.keep kq
  replace bF := bF.keep kq
  replace bR := bR.keep kq
  replace t1 := TwinB.keep t1 kq
  replace t2 := Twin.keep t2 kq
  replace bX := bX.keep kq
  replace kk := kk.trans kq
  clear kq
  clear bR_0 bR_1 bR_2 bR_3 bR_4 bR_5 bR_6 bR_7 bR_8 bR_9
  go_upto_region 5 with fail
  have kq : Keep w4 (w4.alloc (.cells #[.int .i64 r.e, .int .u32 r.seq, .int .u64 r.tok, .int .u8 r.ph, .int .u64 r.tm, .bool r.has, .slice A3 r.bid.length c3, .int .i64 r.item, .int .i64 r.pays, .slice A4 r.cert.length c4] 32)) := Keep.alloc1 _ _
  have bY := Blk.new w4 32 [.int .i64 r.e, .int .u32 r.seq, .int .u64 r.tok, .int .u8 r.ph, .int .u64 r.tm, .bool r.has, .slice A3 r.bid.length c3, .int .i64 r.item, .int .i64 r.pays, .slice A4 r.cert.length c4]
  change Code.wp _ _ _ _ (w4.alloc (.cells #[.int .i64 r.e, .int .u32 r.seq, .int .u64 r.tok, .int .u8 r.ph, .int .u64 r.tm, .bool r.has, .slice A3 r.bid.length c3, .int .i64 r.item, .int .i64 r.pays, .slice A4 r.cert.length c4] 32))
  generalize w4.alloc (.cells #[.int .i64 r.e, .int .u32 r.seq, .int .u64 r.tok, .int .u8 r.ph, .int .u64 r.tm, .bool r.has, .slice A3 r.bid.length c3, .int .i64 r.item, .int .i64 r.pays, .slice A4 r.cert.length c4] 32) = w5 at kq bY ⊢
  generalize w4.heap.size = gbY at bY ⊢
  replace hP := hP.keep kq
  replace hf := hf.keep kq
  replace hr := hr.keep kq
  replace bF := bF.keep kq
  replace bR := bR.keep kq
  replace t1 := TwinB.keep t1 kq
  replace t2 := Twin.keep t2 kq
  replace bX := bX.keep kq
  replace HB2 := HB2.keep kq
  replace HI2 := HI2.keep kq
  replace t3 := Twin.keep t3 kq
  replace t4 := TwinB.keep t4 kq
  replace kk := kk.trans kq
  clear kq
  have bX_0 := bX.cell_ (i := 0) rfl
  have bX_1 := bX.cell_ (i := 1) rfl
  have bX_2 := bX.cell_ (i := 2) rfl
  have bX_3 := bX.cell_ (i := 3) rfl
  have bX_4 := bX.cell_ (i := 4) rfl
  have bX_5 := bX.cell_ (i := 5) rfl
  have okX : (Frm.mk f A1 c1 A2 c2).Ok w5 := ⟨TwinB.ok (t := ⟨A1, c1, f.sec⟩) t1 hf.s.inn.wf, Twin.ok (t := ⟨A2, c2, f.bid⟩) t2 hf.b.inn.wf, hf.ask, hf.who, hf.seq, hf.tok⟩
  have okY : (Rpl.mk r A3 c3 A4 c4).Ok w5 := ⟨Twin.ok (t := ⟨A3, c3, r.bid⟩) t3 hr.b.inn.wf, TwinB.ok (t := ⟨A4, c4, r.cert⟩) t4 hr.c.inn.wf, hr.e, hr.seq, hr.tok, hr.ph, hr.tm, hr.item, hr.pays⟩
  have hq := putF_f (Frm.mk f A1 c1 A2 c2) w5 okX hP p1.out
  unfold Frm.val at hq
  simp only at hq
  go_wp2_with fail
  refine hq.mono ?_
  rintro e w6 ⟨A5, rfl, f5, kq⟩
  clear hq
  have HB3 := HB2.snoc kq kk.size f5 5 (by decide) (by show L1.length ≤ _; omega)
  clear HB2
  have r5 := f5.rd
  clear f5
  replace hP := hP.keep kq
  replace hf := hf.keep kq
  replace hr := hr.keep kq
  replace bF := bF.keep kq
  replace bR := bR.keep kq
  replace t1 := TwinB.keep t1 kq
  replace t2 := Twin.keep t2 kq
  replace bX := bX.keep kq
  replace HI2 := HI2.keep kq
  replace t3 := Twin.keep t3 kq
  replace t4 := TwinB.keep t4 kq
  replace bY := bY.keep kq
  replace okX := okX.keep kq
  replace okY := okY.keep kq
  replace kk := kk.trans kq
  clear kq
  clear bX_0 bX_1 bX_2 bX_3 bX_4 bX_5
  have bF_0 := bF.cell_ (i := 0) rfl
  have bF_1 := bF.cell_ (i := 1) rfl
  have bF_2 := bF.cell_ (i := 2) rfl
  have bF_3 := bF.cell_ (i := 3) rfl
  have bF_4 := bF.cell_ (i := 4) rfl
  have bF_5 := bF.cell_ (i := 5) rfl
  have hq := refPutF_f (Frm.mk f fsa fsc fba fbc) w6 hf p1.out
  unfold Frm.val at hq
  simp only at hq
  go_wp2_with fail
  refine hq.mono ?_
  rintro e w7 ⟨A6, c6, rfl, f6, kq⟩
  clear hq
  have r6 := f6.rd
  clear f6
  replace hP := hP.keep kq
  replace hf := hf.keep kq
  replace hr := hr.keep kq
  replace bF := bF.keep kq
  replace bR := bR.keep kq
  replace t1 := TwinB.keep t1 kq
  replace t2 := Twin.keep t2 kq
  replace bX := bX.keep kq
  replace HI2 := HI2.keep kq
  replace t3 := Twin.keep t3 kq
  replace t4 := TwinB.keep t4 kq
  replace bY := bY.keep kq
  replace okX := okX.keep kq
  replace okY := okY.keep kq
  replace HB3 := HB3.keep kq
  replace r5 := r5.keep kq
  replace kk := kk.trans kq
  clear kq
  clear bF_0 bF_1 bF_2 bF_3 bF_4 bF_5
  have bY_0 := bY.cell_ (i := 0) rfl
  have bY_1 := bY.cell_ (i := 1) rfl
  have bY_2 := bY.cell_ (i := 2) rfl
  have bY_3 := bY.cell_ (i := 3) rfl
  have bY_4 := bY.cell_ (i := 4) rfl
  have bY_5 := bY.cell_ (i := 5) rfl
  have bY_6 := bY.cell_ (i := 6) rfl
  have bY_7 := bY.cell_ (i := 7) rfl
  have bY_8 := bY.cell_ (i := 8) rfl
  have bY_9 := bY.cell_ (i := 9) rfl
  have hq := putR_f (Rpl.mk r A3 c3 A4 c4) w7 okY p2.out
  unfold Rpl.val at hq
  simp only at hq
  go_wp2_with fail
  refine hq.mono ?_
  rintro e w8 ⟨A7, rfl, f7, kq⟩
  clear hq
  have HB4 := HB3.snoc kq kk.size f7 6 (by decide) (by show L2.length ≤ _; omega)
  clear HB3
  have r7 := f7.rd
  clear f7
  replace hP := hP.keep kq
  replace hf := hf.keep kq
  replace hr := hr.keep kq
  replace bF := bF.keep kq
  replace bR := bR.keep kq
  replace t1 := TwinB.keep t1 kq
  replace t2 := Twin.keep t2 kq
  replace bX := bX.keep kq
  replace HI2 := HI2.keep kq
  replace t3 := Twin.keep t3 kq
  replace t4 := TwinB.keep t4 kq
  replace bY := bY.keep kq
  replace okX := okX.keep kq
  replace okY := okY.keep kq
  replace r5 := r5.keep kq
  replace r6 := r6.keep kq
  replace kk := kk.trans kq
  clear kq
  clear bY_0 bY_1 bY_2 bY_3 bY_4 bY_5 bY_6 bY_7 bY_8 bY_9
  have bR_0 := bR.cell_ (i := 0) rfl
  have bR_1 := bR.cell_ (i := 1) rfl
  have bR_2 := bR.cell_ (i := 2) rfl
  have bR_3 := bR.cell_ (i := 3) rfl
  have bR_4 := bR.cell_ (i := 4) rfl
  have bR_5 := bR.cell_ (i := 5) rfl
  have bR_6 := bR.cell_ (i := 6) rfl
  have bR_7 := bR.cell_ (i := 7) rfl
  have bR_8 := bR.cell_ (i := 8) rfl
  have bR_9 := bR.cell_ (i := 9) rfl
  have hq := refPutR_f (Rpl.mk r rba rbc rca rcc) w8 hr p2.out
  unfold Rpl.val at hq
  simp only at hq
  go_wp2_with fail
  refine hq.mono ?_
  rintro e w9 ⟨A8, c8, rfl, f8, kq⟩
  clear hq
  have r8 := f8.rd
  clear f8
  replace hP := hP.keep kq
  replace hf := hf.keep kq
  replace hr := hr.keep kq
  replace bF := bF.keep kq
  replace bR := bR.keep kq
  replace t1 := TwinB.keep t1 kq
  replace t2 := Twin.keep t2 kq
  replace bX := bX.keep kq
  replace HI2 := HI2.keep kq
  replace t3 := Twin.keep t3 kq
  replace t4 := TwinB.keep t4 kq
  replace bY := bY.keep kq
  replace okX := okX.keep kq
  replace okY := okY.keep kq
  replace r5 := r5.keep kq
  replace r6 := r6.keep kq
  replace HB4 := HB4.keep kq
  replace r7 := r7.keep kq
  replace kk := kk.trans kq
  clear kq
  clear bR_0 bR_1 bR_2 bR_3 bR_4 bR_5 bR_6 bR_7 bR_8 bR_9
  clear okX okY
  go_upto_region 10 with fail
  have hK := Bk.new w9
  have k0 : Keep w9 (w9.alloc (.cells #[.int .i64 0, .slice none 0 0, .slice none 0 0, .slice none 0 0, .slice none 0 0, .slice none 0 0, .slice none 0 0, .slice none 0 0, .slice none 0 0, .slice none 0 0] 49)) := Keep.alloc1 _ _
  generalize w9.alloc (.cells #[.int .i64 0, .slice none 0 0, .slice none 0 0, .slice none 0 0, .slice none 0 0, .slice none 0 0, .slice none 0 0, .slice none 0 0, .slice none 0 0, .slice none 0 0] 49) = v0 at hK k0 ⊢
  have bz := bX.keep k0
  have cz0 := bz.cell_ (i := 0) rfl
  have cz1 := bz.cell_ (i := 1) rfl
  have cz2 := bz.cell_ (i := 2) rfl
  have cz3 := bz.cell_ (i := 3) rfl
  have cz4 := bz.cell_ (i := 4) rfl
  have cz5 := bz.cell_ (i := 5) rfl
  clear bz
  have hq := bookFrame_f w9.heap.size 0 _ _ _ _ (Frm.mk f A1 c1 A2 c2) w9 v0 k0 hK (by decide) (by simp) (by simp)
  unfold Frm.val pK at hq
  simp only at hq
  go_wp2_with fail
  refine hq.mono ?_
  rintro e v1 ⟨rfl, x1, y1, hK1, k1⟩
  clear hK hq k0 cz0 cz1 cz2 cz3 cz4 cz5
  have hK := hK1
  have k0 := k1
  clear hK1 k1
  have bz := bY.keep k0
  have cz0 := bz.cell_ (i := 0) rfl
  have cz1 := bz.cell_ (i := 1) rfl
  have cz2 := bz.cell_ (i := 2) rfl
  have cz3 := bz.cell_ (i := 3) rfl
  have cz4 := bz.cell_ (i := 4) rfl
  have cz5 := bz.cell_ (i := 5) rfl
  have cz6 := bz.cell_ (i := 6) rfl
  have cz7 := bz.cell_ (i := 7) rfl
  have cz8 := bz.cell_ (i := 8) rfl
  have cz9 := bz.cell_ (i := 9) rfl
  clear bz
  have hq := bookReply_f w9.heap.size 2 _ _ _ _ (Rpl.mk r A3 c3 A4 c4) w9 v1 k0 hK (by decide) (by simp) (by simp)
  unfold Rpl.val pK at hq
  simp only at hq
  go_wp2_with fail
  refine hq.mono ?_
  rintro e v2 ⟨rfl, x2, y2, hK1, k1⟩
  clear hK hq k0 cz0 cz1 cz2 cz3 cz4 cz5 cz6 cz7 cz8 cz9
  have hK := hK1
  have k0 := k1
  clear hK1 k1
  have hq := bookBytes_f w9.heap.size 4 w9.heap.size _ _ _ _ A5 L1.length L1.length v2 hK (by decide) (by simp)
  unfold pK at hq
  go_wp2_with fail
  refine hq.mono ?_
  rintro e v3 ⟨rfl, x3, hK1, t3'⟩
  replace k0 := hK.stepB k0 t3'
  clear hK hq t3'
  have hK := hK1
  clear hK1
  have hq := bookBytes_f w9.heap.size 5 w9.heap.size _ _ _ _ A7 L2.length L2.length v3 hK (by decide) (by simp)
  unfold pK at hq
  go_wp2_with fail
  refine hq.mono ?_
  rintro e v4 ⟨rfl, x4, hK1, t4'⟩
  replace k0 := hK.stepB k0 t4'
  clear hK hq t4'
  have hK := hK1
  clear hK1
  have hsz := kk.size
  replace hK := hK.mono hsz
  clear hsz
  replace hP := hP.keep k0
  replace hf := hf.keep k0
  replace hr := hr.keep k0
  replace bF := bF.keep k0
  replace bR := bR.keep k0
  replace t1 := TwinB.keep t1 k0
  replace t2 := Twin.keep t2 k0
  replace bX := bX.keep k0
  replace HI2 := HI2.keep k0
  replace t3 := Twin.keep t3 k0
  replace t4 := TwinB.keep t4 k0
  replace bY := bY.keep k0
  replace r5 := r5.keep k0
  replace r6 := r6.keep k0
  replace HB4 := HB4.keep k0
  replace r7 := r7.keep k0
  replace r8 := r8.keep k0
  replace kk := kk.trans k0
  clear k0
  have hq := saysK (sameBytes A5 A6 L1.length c6 L1 L1 v4 r5 r6 (by unfold Reach; omega) (by unfold Reach; omega))
  rw [decide_eq_true rfl] at hq
  go_wp2_with fail
  refine hq.mono ?_
  rintro e w21 ⟨rfl, kq⟩
  clear hq
  replace hP := hP.keep kq
  replace hf := hf.keep kq
  replace hr := hr.keep kq
  replace bF := bF.keep kq
  replace bR := bR.keep kq
  replace t1 := TwinB.keep t1 kq
  replace t2 := Twin.keep t2 kq
  replace bX := bX.keep kq
  replace HI2 := HI2.keep kq
  replace t3 := Twin.keep t3 kq
  replace t4 := TwinB.keep t4 kq
  replace bY := bY.keep kq
  replace r5 := r5.keep kq
  replace r6 := r6.keep kq
  replace HB4 := HB4.keep kq
  replace r7 := r7.keep kq
  replace r8 := r8.keep kq
  replace hK := hK.keep kq
  replace kk := kk.trans kq
  clear kq
  have hq := saysK (sameBytes A7 A8 L2.length c8 L2 L2 w21 r7 r8 (by unfold Reach; omega) (by unfold Reach; omega))
  rw [decide_eq_true rfl] at hq
  go_wp2_with fail
  refine hq.mono ?_
  rintro e w22 ⟨rfl, kq⟩
  clear hq
  replace hP := hP.keep kq
  replace hf := hf.keep kq
  replace hr := hr.keep kq
  replace bF := bF.keep kq
  replace bR := bR.keep kq
  replace t1 := TwinB.keep t1 kq
  replace t2 := Twin.keep t2 kq
  replace bX := bX.keep kq
  replace HI2 := HI2.keep kq
  replace t3 := Twin.keep t3 kq
  replace t4 := TwinB.keep t4 kq
  replace bY := bY.keep kq
  replace r5 := r5.keep kq
  replace r6 := r6.keep kq
  replace HB4 := HB4.keep kq
  replace r7 := r7.keep kq
  replace r8 := r8.keep kq
  replace hK := hK.keep kq
  replace kk := kk.trans kq
  clear kq
  clear r5 r6 r7 r8
  have bX_0 := bX.cell_ (i := 0) rfl
  have bX_1 := bX.cell_ (i := 1) rfl
  have bX_2 := bX.cell_ (i := 2) rfl
  have bX_3 := bX.cell_ (i := 3) rfl
  have bX_4 := bX.cell_ (i := 4) rfl
  have bX_5 := bX.cell_ (i := 5) rfl
  have bF_0 := bF.cell_ (i := 0) rfl
  have bF_1 := bF.cell_ (i := 1) rfl
  have bF_2 := bF.cell_ (i := 2) rfl
  have bF_3 := bF.cell_ (i := 3) rfl
  have bF_4 := bF.cell_ (i := 4) rfl
  have bF_5 := bF.cell_ (i := 5) rfl
  have hq := leftFrm_f (Frm.mk f fsa fsc fba fbc) A1 A2 c1 c2 w.heap.size w22 hf t1 t2 (by show f.sec.length ≤ _; omega) (by show f.bid.length ≤ _; omega)
  unfold Frm.val at hq
  simp only at hq
  go_wp2_with fail
  refine hq.mono ?_
  rintro e w23 ⟨rfl, kq⟩
  clear hq
  replace hP := hP.keep kq
  replace hf := hf.keep kq
  replace hr := hr.keep kq
  replace bF := bF.keep kq
  replace bR := bR.keep kq
  replace t1 := TwinB.keep t1 kq
  replace t2 := Twin.keep t2 kq
  replace bX := bX.keep kq
  replace HI2 := HI2.keep kq
  replace t3 := Twin.keep t3 kq
  replace t4 := TwinB.keep t4 kq
  replace bY := bY.keep kq
  replace HB4 := HB4.keep kq
  replace hK := hK.keep kq
  replace kk := kk.trans kq
  clear kq
  clear bX_0 bX_1 bX_2 bX_3 bX_4 bX_5
  clear bF_0 bF_1 bF_2 bF_3 bF_4 bF_5
  have bY_0 := bY.cell_ (i := 0) rfl
  have bY_1 := bY.cell_ (i := 1) rfl
  have bY_2 := bY.cell_ (i := 2) rfl
  have bY_3 := bY.cell_ (i := 3) rfl
  have bY_4 := bY.cell_ (i := 4) rfl
  have bY_5 := bY.cell_ (i := 5) rfl
  have bY_6 := bY.cell_ (i := 6) rfl
  have bY_7 := bY.cell_ (i := 7) rfl
  have bY_8 := bY.cell_ (i := 8) rfl
  have bY_9 := bY.cell_ (i := 9) rfl
  have bR_0 := bR.cell_ (i := 0) rfl
  have bR_1 := bR.cell_ (i := 1) rfl
  have bR_2 := bR.cell_ (i := 2) rfl
  have bR_3 := bR.cell_ (i := 3) rfl
  have bR_4 := bR.cell_ (i := 4) rfl
  have bR_5 := bR.cell_ (i := 5) rfl
  have bR_6 := bR.cell_ (i := 6) rfl
  have bR_7 := bR.cell_ (i := 7) rfl
  have bR_8 := bR.cell_ (i := 8) rfl
  have bR_9 := bR.cell_ (i := 9) rfl
  have hq := leftRpl_f (Rpl.mk r rba rbc rca rcc) A3 A4 c3 c4 w.heap.size w23 hr t3 t4 (by show r.bid.length ≤ _; omega) (by show r.cert.length ≤ _; omega)
  unfold Rpl.val at hq
  simp only at hq
  go_wp2_with fail
  refine hq.mono ?_
  rintro e w24 ⟨rfl, kq⟩
  clear hq
  replace hP := hP.keep kq
  replace hf := hf.keep kq
  replace hr := hr.keep kq
  replace bF := bF.keep kq
  replace bR := bR.keep kq
  replace t1 := TwinB.keep t1 kq
  replace t2 := Twin.keep t2 kq
  replace bX := bX.keep kq
  replace HI2 := HI2.keep kq
  replace t3 := Twin.keep t3 kq
  replace t4 := TwinB.keep t4 kq
  replace bY := bY.keep kq
  replace HB4 := HB4.keep kq
  replace hK := hK.keep kq
  replace kk := kk.trans kq
  clear kq
  clear bY_0 bY_1 bY_2 bY_3 bY_4 bY_5 bY_6 bY_7 bY_8 bY_9
  clear bR_0 bR_1 bR_2 bR_3 bR_4 bR_5 bR_6 bR_7 bR_8 bR_9
  have hH := Holds.of HB4 HI2 (by simp) (by simp)
  have hq := apart_f w9.heap.size 6 w.heap.size _ _ _ _ w24 hK hH
  unfold pK at hq
  clear hH
  go_wp2_with fail
  refine hq.mono ?_
  rintro e u1 ⟨rfl, tb⟩
  have k9 := kk.but tb fun i h => h
  have hq := lives_f u1 (hP0.out.keep k9)
  go_wp2_with fail
  refine hq.mono ?_
  rintro e u2 ⟨rfl, kq⟩
  go_wp2_with fail
  go_ret
  exact ⟨rfl, k9.trans kq⟩
end Go.Proofs.YtjhbpocffckghaaGreatDoor
