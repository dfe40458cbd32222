/-
  CONTRACT for the package demands: All. Conditions: the slices of the market and the prices read as lists, and are no longer than memory lets them be.
-/
import Derived.Test.YtjhmlcbpbmeicaaMktX
import Derived.Test.YtjhmlcbpbmeicaaMktR
import Derived.Deep.CutRange
namespace Go.Proofs.Ytjhmlcbpbmeicaa
open Go.RowKit

theorem fill_set {a : List Value} {z v : Value} {i n : Nat} (h : a.length = i) (hi : i < n) : (a ++ List.replicate (n - i) z).set i v = (a ++ [v]) ++ List.replicate (n - (i + 1)) z := by
  subst h
  rw [List.set_append_right _ _ (Nat.le_refl _), Nat.sub_self, show n - a.length = (n - (a.length + 1)) + 1 by omega, List.replicate_succ, List.set_cons_zero, List.append_assoc]
  rfl
theorem bids_append (a b : List Sl) : bidsOf (a ++ b) = bidsOf a ++ bidsOf b := List.map_append
theorem fill_at {a : List Value} {z : Value} {i n : Nat} (h : a.length = i) (hi : i < n) : (a ++ List.replicate (n - i) z)[i]? = some z := by
  subst h
  rw [List.getElem?_append_right (Nat.le_refl _), Nat.sub_self, List.getElem?_replicate, if_pos (by omega)]

/-- May all be asked? -/
def allOk (R : List Int) (B : List (List Int)) (O P : List Int) : Bool := chkM R B O && mayP P R.length
/-- What All leaves. -/
def AllP (R : List Int) (B : List (List Int)) (O P : List Int) (w : World) (e : Ending) (w' : World) : Prop :=
  if allOk R B O P then ∃ (gI gN : Nat) (ts : List Sl) (ns : List Bool), e = .returned (.tuple #[.slice (some ⟨gI, 0, none⟩) B.length B.length, .slice (some ⟨gN, 0, none⟩) B.length B.length, .int .i64 0]) ∧ bidsOf ts = B.map (fun b => (ofV b P).1) ∧ ns = B.map (fun b => (ofV b P).2.1) ∧
    Blk w' gI 22 (ts.map Sl.val) ∧ Blk w' gN 4 (ns.map Value.bool) ∧ w.heap.size ≤ gI ∧ w.heap.size ≤ gN ∧ OwnAll w' w.heap.size ts ∧ Keep w w'
  else e = .returned (.tuple #[.slice none 0 0, .slice none 0 0, .int .i64 1]) ∧ Keep w w'

theorem allOk_of {R : List Int} {B : List (List Int)} {O P : List Int} (h : allOk R B O P = true) : mayP P P.length = true ∧ P.length = R.length ∧ P.length ≤ 8 ∧ ∀ b ∈ B, ofOk b P = true := by
  unfold allOk at h
  simp only [Bool.and_eq_true] at h
  obtain ⟨hc, hm⟩ := h
  have hl : P.length = R.length := by
    unfold mayP at hm
    simp only [Bool.and_eq_true, decide_eq_true_eq] at hm
    omega
  rw [← hl] at hm
  obtain ⟨m1, m2, m3⟩ := mayP_facts hm
  refine ⟨hm, hl, m2, fun b hb => ?_⟩
  unfold ofOk
  rw [hm, Bool.true_and]
  unfold chkM at hc
  simp only [Bool.and_eq_true] at hc
  have h5 := hc.2
  rw [Bool.not_eq_true', List.any_eq_false] at h5
  have := h5 b hb
  unfold badB at this
  rw [hl]
  by_cases h0 : b.length = 0
  · simp [h0]
  · cases hk : chk b R.length with
    | true => simp
    | false => exact absurd (by simp [hk]; omega) this

set_option maxRecDepth 100000 in
set_option maxHeartbeats 4000000 in
theorem all_f (M : Mkt) (s : Sl) (w : World) (hM : M.Ok w) (hs : s.Ok .i64 w) :
    Calls Try.prog 35 #[M.val, .slice s.a s.l.length s.c] w (AllP M.r.l (bidsOf M.bs) M.o.l s.l w) := by
  have lr := hM.r.len.le
  have lb := hM.b.len.le
  have ls := hs.len.le
  have bM := Blk.new w 62 [.slice M.r.a M.r.l.length M.r.c, .slice M.ba M.bs.length M.bc, .slice M.o.a M.o.l.length M.o.c]
  have kk : Keep w (w.alloc (.cells #[.slice M.r.a M.r.l.length M.r.c, .slice M.ba M.bs.length M.bc, .slice M.o.a M.o.l.length M.o.c] 62)) := Keep.alloc1 _ _
  have hck := mcheck_f M _ (hM.keep kk)
  unfold AllP
  unfold Mkt.val at hck ⊢
  have HL := Lib.hid (length_bids M.bs)
  cases hc : chkM M.r.l (bidsOf M.bs) M.o.l with
  | false =>
    have hall : allOk M.r.l (bidsOf M.bs) M.o.l s.l = false := by unfold allOk; rw [hc]; rfl
    rw [hc] at hck
    rw [hall]
    simp only [Bool.false_eq_true, if_false]
    clear hall hc
    go_enter Try.func35, Try.ntmps35
    go_wp2_with fail
    refine hck.mono ?_
    rintro e w1 ⟨rfl, k1⟩
    go_wp2_with fail
    go_ret3
    exact ⟨rfl, kk.trans k1⟩
  | true =>
    rw [hc] at hck
    cases hm : mayP s.l (M.r.l.length : Int) with
    | false =>
      have hall : allOk M.r.l (bidsOf M.bs) M.o.l s.l = false := by unfold allOk; rw [hc, hm]; rfl
      rw [hall]
      simp only [Bool.false_eq_true, if_false]
      clear hall hc
      go_enter Try.func35, Try.ntmps35
      go_wp2_with fail
      refine hck.mono ?_
      rintro e w1 ⟨rfl, k1⟩
      have c0 := (bM.keep k1).cell_ (i := 0) rfl
      have hq := saysK (may_f s.a s.c s.l (M.r.l.length : Int) w1 ((hs.rd.keep kk).keep k1) hs.len)
      rw [hm] at hq
      clear hm
      go_wp2_with fail
      refine hq.mono ?_
      rintro e w2 ⟨rfl, k2⟩
      go_wp2_with fail
      go_ret3
      exact ⟨rfl, (kk.trans k1).trans k2⟩
    | true =>
      have hall : allOk M.r.l (bidsOf M.bs) M.o.l s.l = true := by unfold allOk; rw [hc, hm]; rfl
      obtain ⟨a1, a2, a3, a4⟩ := allOk_of hall
      obtain ⟨-, -, h3, h4, -, -⟩ := chkM_lens hc
      rw [length_bids] at h3 h4
      have HA := Lib.hid a4
      rw [hall]
      simp only [if_true]
      clear hall hc a1 a2 a4
      have hmk1 := run_make_row' (P := Try.prog) 60 22 (.slice none 0 0) 24 Try.underlying60 infoInts rfl .i64 .i64 M.bs.length (by omega) (by omega)
      have hmk2 := run_make_row' (P := Try.prog) 63 4 (.bool false) 1 Try.underlying63 infoBool rfl .i64 .i64 M.bs.length (by omega) (by omega)
      replace hM := hM.keep kk
      replace hs := hs.keep kk
      go_enter Try.func35, Try.ntmps35
      go_wp2_with fail
      refine hck.mono ?_
      rintro e w1 ⟨rfl, k1⟩
      clear hck
      have hws := kk.size
      generalize (w.alloc (.cells #[.slice M.r.a M.r.l.length M.r.c, .slice M.ba M.bs.length M.bc, .slice M.o.a M.o.l.length M.o.c] 62)) = wA at bM kk hM hs k1 hws ⊢
      generalize hgA : w.heap.size = gA at bM hws ⊢
      replace hgA := Lib.hid hgA
      replace bM := bM.keep k1
      replace hM := hM.keep k1
      replace hs := hs.keep k1
      replace kk := kk.trans k1
      clear k1
      have c0 := bM.cell_ (i := 0) rfl
      have c1 := bM.cell_ (i := 1) rfl
      have c2 := bM.cell_ (i := 2) rfl
      have hq := saysK (may_f s.a s.c s.l (M.r.l.length : Int) w1 hs.rd hs.len)
      rw [hm] at hq
      clear hm
      go_wp2_with fail
      refine hq.mono ?_
      rintro e w2 ⟨rfl, kq⟩
      clear hq
      clear c0 c1 c2
      replace bM := bM.keep kq
      replace hM := hM.keep kq
      replace hs := hs.keep kq
      replace kk := kk.trans kq
      clear kq
      have d1 := bM.cell_ (i := 1) rfl
      go_upto_region 3 with fail
      go_cut [4, 5] from 20 to 27 (fun a b wx => ∃ gI gN : Nat, a = .slice (some ⟨gI, 0, none⟩) M.bs.length M.bs.length ∧ b = .slice (some ⟨gN, 0, none⟩) M.bs.length M.bs.length ∧ Blk wx gI 22 (List.replicate M.bs.length (.slice none 0 0)) ∧ Blk wx gN 4 (List.replicate M.bs.length (.bool false)) ∧ w2.heap.size ≤ gI ∧ w2.heap.size ≤ gN ∧ Keep w2 wx)
      case first =>
        refine wp_region_noPanic ?_
        refine wp_region_held_drew (S := (fun w' => w'.cell? ⟨gA, 1, none⟩ = some (.slice M.ba M.bs.length M.bc))) (by kernel_rfl) d1 (fun hS => ?_)
        have ky : Keep w2 w2.drew := (Keep.refl _).drew
        generalize w2.drew = v0 at ky hS ⊢
        refine wpAnyH_take (i := 0) (v := ?_) rfl (by kernel_rfl) (by kernel_rfl) (by kernel_rfl) (fun _ _ _ h => h) (Or.inl ⟨by rfl, ?_⟩) hS ?_
        rotate_left
        · (intro w hSw; (try dsimp only at hSw); go_simp; (first | done | with_reducible rfl))
        change wpAnyH _ _ _ _ _ _ _ (Act.put _ (some 20) _) _
        simp only [Act.put, List.setIfInBounds_toArray, List.set_cons_zero, List.set_cons_succ]
        refine wpAnyH_take (i := 1) (v := ?_) rfl (by kernel_rfl) (by kernel_rfl) (by kernel_rfl) (fun _ _ _ h => h) (Or.inl ⟨by rfl, ?_⟩) hS ?_
        rotate_left
        · (intro w hSw; (try dsimp only at hSw); go_simp; (first | done | with_reducible rfl))
        change wpAnyH _ _ _ _ _ _ _ (Act.put _ (some 21) _) _
        simp only [Act.put, List.setIfInBounds_toArray, List.set_cons_zero, List.set_cons_succ]
        refine wpAnyH_take (i := 2) (v := ?_) rfl (by kernel_rfl) (by kernel_rfl) (by kernel_rfl) (fun _ _ _ h => h) (Or.inl ⟨by rfl, ?_⟩) hS ?_
        rotate_left
        · (intro w hSw; (try dsimp only at hSw); go_simp; (first | done | with_reducible rfl))
        change wpAnyH _ _ _ _ _ _ _ (Act.put _ (some 22) _) _
        simp only [Act.put, List.setIfInBounds_toArray, List.set_cons_zero, List.set_cons_succ]
        refine wpAnyH_take (i := 4) (v := ?_) rfl (by kernel_rfl) (by kernel_rfl) (by kernel_rfl) (fun _ _ _ h => h) (Or.inl ⟨by rfl, ?_⟩) hS ?_
        rotate_left
        · (intro w hSw; (try dsimp only at hSw); go_simp; (first | done | with_reducible rfl))
        change wpAnyH _ _ _ _ _ _ _ (Act.put _ (some 24) _) _
        simp only [Act.put, List.setIfInBounds_toArray, List.set_cons_zero, List.set_cons_succ]
        refine wpAnyH_take (i := 5) (v := ?_) rfl (by kernel_rfl) (by kernel_rfl) (by kernel_rfl) (fun _ _ _ h => h) (Or.inl ⟨by rfl, ?_⟩) hS ?_
        rotate_left
        · (intro w hSw; (try dsimp only at hSw); go_simp; (first | done | with_reducible rfl))
        change wpAnyH _ _ _ _ _ _ _ (Act.put _ (some 25) _) _
        simp only [Act.put, List.setIfInBounds_toArray, List.set_cons_zero, List.set_cons_succ]
        refine wpAnyH_take (i := 6) (v := ?_) rfl (by kernel_rfl) (by kernel_rfl) (by kernel_rfl) (fun _ _ _ h => h) (Or.inl ⟨by rfl, ?_⟩) hS ?_
        rotate_left
        · (intro w hSw; (try dsimp only at hSw); go_simp; (first | done | with_reducible rfl))
        change wpAnyH _ _ _ _ _ _ _ (Act.put _ (some 26) _) _
        simp only [Act.put, List.setIfInBounds_toArray, List.set_cons_zero, List.set_cons_succ]
        refine wpAnyH_ready (rs := [3, 7]) (by kernel_rfl) (by simp) ?_
        refine AllReadyH.cons rfl (fun K hK => ?_) ?_
        · go_simp
          have bI := Blk.of_make v0 22 (.slice none 0 0) M.bs.length
          have kn : Keep v0 (v0.alloc (.cells (madeCells #[.slice none 0 0] M.bs.length) 22)) := Keep.alloc1 _ _
          have hgI := ky.size
          refine hK.out _ _ (kn.cell hS) (fun hS => ?_)
          clear hK K
          try simp only [Act.put, List.setIfInBounds_toArray, List.set_cons_zero, List.set_cons_succ]
          generalize (v0.alloc (.cells (madeCells #[.slice none 0 0] M.bs.length) 22)) = v1 at bI kn hS ⊢
          generalize v0.heap.size = gI at bI hgI ⊢
          replace ky := ky.trans kn
          clear kn
          refine wpAnyH_take (i := 8) (v := ?_) rfl (by kernel_rfl) (by kernel_rfl) (by kernel_rfl) (fun _ _ _ h => h) (Or.inl ⟨by rfl, ?_⟩) hS ?_
          rotate_left
          · (intro w hSw; (try dsimp only at hSw); go_simp; (first | done | with_reducible rfl))
          change wpAnyH _ _ _ _ _ _ _ (Act.put _ (some 4) _) _
          simp only [Act.put, List.setIfInBounds_toArray, List.set_cons_zero, List.set_cons_succ]
          refine wpAnyH_ready (rs := [7]) (by kernel_rfl) (by simp) ?_
          refine AllReadyH.cons rfl (fun K hK => ?_) AllReadyH.nil
          go_simp
          have bN := Blk.of_make v1 4 (.bool false) M.bs.length
          have kn : Keep v1 (v1.alloc (.cells (madeCells #[.bool false] M.bs.length) 4)) := Keep.alloc1 _ _
          have hgN := ky.size
          refine hK.out _ _ (kn.cell hS) (fun hS => ?_)
          clear hK K
          try simp only [Act.put, List.setIfInBounds_toArray, List.set_cons_zero, List.set_cons_succ]
          generalize (v1.alloc (.cells (madeCells #[.bool false] M.bs.length) 4)) = v2 at bN kn hS ⊢
          generalize v1.heap.size = gN at bN hgN ⊢
          replace ky := ky.trans kn
          replace bI := bI.keep kn
          clear kn
          refine wpAnyH_take (i := 9) (v := ?_) rfl (by kernel_rfl) (by kernel_rfl) (by kernel_rfl) (fun _ _ _ h => h) (Or.inl ⟨by rfl, ?_⟩) hS ?_
          rotate_left
          · (intro w hSw; (try dsimp only at hSw); go_simp; (first | done | with_reducible rfl))
          change wpAnyH _ _ _ _ _ _ _ (Act.put _ (some 5) _) _
          simp only [Act.put, List.setIfInBounds_toArray, List.set_cons_zero, List.set_cons_succ]
          refine wpAnyH_done (by kernel_rfl) ?_ _
          refine NoPanic.normal ?_
          go_wp2_with fail
          go_meet
          exact ⟨gI, gN, rfl, rfl, bI, bN, hgI, hgN, ky⟩
        refine AllReadyH.cons rfl (fun K hK => ?_) ?_
        · go_simp
          have bN := Blk.of_make v0 4 (.bool false) M.bs.length
          have kn : Keep v0 (v0.alloc (.cells (madeCells #[.bool false] M.bs.length) 4)) := Keep.alloc1 _ _
          have hgN := ky.size
          refine hK.out _ _ (kn.cell hS) (fun hS => ?_)
          clear hK K
          try simp only [Act.put, List.setIfInBounds_toArray, List.set_cons_zero, List.set_cons_succ]
          generalize (v0.alloc (.cells (madeCells #[.bool false] M.bs.length) 4)) = v3 at bN kn hS ⊢
          generalize v0.heap.size = gN at bN hgN ⊢
          replace ky := ky.trans kn
          clear kn
          refine wpAnyH_ready (rs := [3]) (by kernel_rfl) (by simp) ?_
          refine AllReadyH.cons rfl (fun K hK => ?_) AllReadyH.nil
          go_simp
          have bI := Blk.of_make v3 22 (.slice none 0 0) M.bs.length
          have kn : Keep v3 (v3.alloc (.cells (madeCells #[.slice none 0 0] M.bs.length) 22)) := Keep.alloc1 _ _
          have hgI := ky.size
          refine hK.out _ _ (kn.cell hS) (fun hS => ?_)
          clear hK K
          try simp only [Act.put, List.setIfInBounds_toArray, List.set_cons_zero, List.set_cons_succ]
          generalize (v3.alloc (.cells (madeCells #[.slice none 0 0] M.bs.length) 22)) = v4 at bI kn hS ⊢
          generalize v3.heap.size = gI at bI hgI ⊢
          replace ky := ky.trans kn
          replace bN := bN.keep kn
          clear kn
          refine wpAnyH_take (i := 8) (v := ?_) rfl (by kernel_rfl) (by kernel_rfl) (by kernel_rfl) (fun _ _ _ h => h) (Or.inl ⟨by rfl, ?_⟩) hS ?_
          rotate_left
          · (intro w hSw; (try dsimp only at hSw); go_simp; (first | done | with_reducible rfl))
          change wpAnyH _ _ _ _ _ _ _ (Act.put _ (some 4) _) _
          simp only [Act.put, List.setIfInBounds_toArray, List.set_cons_zero, List.set_cons_succ]
          refine wpAnyH_take (i := 9) (v := ?_) rfl (by kernel_rfl) (by kernel_rfl) (by kernel_rfl) (fun _ _ _ h => h) (Or.inl ⟨by rfl, ?_⟩) hS ?_
          rotate_left
          · (intro w hSw; (try dsimp only at hSw); go_simp; (first | done | with_reducible rfl))
          change wpAnyH _ _ _ _ _ _ _ (Act.put _ (some 5) _) _
          simp only [Act.put, List.setIfInBounds_toArray, List.set_cons_zero, List.set_cons_succ]
          refine wpAnyH_done (by kernel_rfl) ?_ _
          refine NoPanic.normal ?_
          go_wp2_with fail
          go_meet
          exact ⟨gI, gN, rfl, rfl, bI, bN, hgI, hgN, ky⟩
        exact AllReadyH.nil
      case rest =>
      obtain ⟨gI, gN, rfl, rfl, bI, bN, hgI, hgN, k3⟩ := hcut
      have e1 := k3.cell d1
      have hne : gI ≠ gN := fun e => bI.ne bN (by decide) e
      clear hmk1 hmk2 d1
      go_wp2_with fail
      go_loopw [6, 31] (fun v u wr => v = .int .i64 0 ∧ ∃ (i : Nat) (ts : List Sl) (ns : List Bool), i ≤ M.bs.length ∧ u = .int .i64 i ∧ Blk wr gI 22 (ts.map Sl.val ++ List.replicate (M.bs.length - i) (.slice none 0 0)) ∧ Blk wr gN 4 (ns.map Value.bool ++ List.replicate (M.bs.length - i) (.bool false)) ∧
        bidsOf ts = ((bidsOf M.bs).take i).map (fun b => (ofV b s.l).1) ∧ ns = ((bidsOf M.bs).take i).map (fun b => (ofV b s.l).2.1) ∧ OwnAll wr w2.heap.size ts ∧ Keep w2 wr) (fun _ u _ => M.bs.length - (intOf u).toNat)
      case atStart => exact ⟨rfl, 0, [], [], Nat.zero_le _, rfl, bI, bN, rfl, rfl, ⟨fun t h => (by cases h), List.Pairwise.nil⟩, k3⟩
      case round =>
        clear bI bN k3 e1
        obtain ⟨rfl, i, ts, ns, hi, rfl, bI, bN, hts, hns, how, hkeep⟩ := hrel
        have HTS := Lib.hid hts
        have HNS := Lib.hid hns
        have lts : ts.length = i := by
          have := congrArg List.length hts
          rw [bidsOf, List.length_map, List.length_map, List.length_take, length_bids] at this
          omega
        have lns : ns.length = i := by
          have := congrArg List.length hns
          rw [List.length_map, List.length_take, length_bids] at this
          omega
        have LTS := Lib.hid lts
        have LNS := Lib.hid lns
        clear hts hns lts lns
        by_cases hlt : i < M.bs.length
        · have hMr := hM.keep hkeep
          have hsr := hs.keep hkeep
          obtain ⟨b1, o1, x, hba, hsk, hc1, hx⟩ := hMr.b.at_ hlt
          have HX := Lib.hid (show (bidsOf M.bs)[i]? = some x.l by rw [bidsOf, List.getElem?_map, hsk]; rfl)
          have hok := HA.out x.l (List.mem_map.2 ⟨x, List.mem_of_getElem? hsk, rfl⟩)
          have lx := hx.len.le
          have hq := of_own x.a s.a x.c s.c x.l s.l wr hx.rd hx.len hsr.rd hsr.len
          have hi1 : (i : Int) < M.bs.length := by omega
          have hi0 : (0 : Int) ≤ i := by omega
          have HOK := Lib.hid hok
          rw [hba]
          clear hba hsk hok hMr hsr
          go_wp2_with fail
          refine hq.mono ?_
          rintro e w4 ⟨A, L, n, g, r, rfl, hf, k4, hv⟩
          have hr : r = 0 := by
            unfold ofV at hv
            rw [if_pos HOK.out] at hv
            injection hv with _ hv
            injection hv with _ hv
            injection hv with _ hv
            exact hv.symm
          subst hr
          have hv1 : (ofV x.l s.l).1 = L := by rw [hv]
          have hv2 : (ofV x.l s.l).2.1 = n := by rw [hv]
          have HV1 := Lib.hid hv1
          have HV2 := Lib.hid hv2
          have hsep : ∀ t ∈ ts, Sep t ⟨A, L.length, L⟩ := fun t ht => Sep.new (how.1 t ht) hf
          have HSEP := Lib.hid hsep
          replace hf : Fr 3 w4 w2.heap.size A L.length L.length (cs .i64 L) := hf.mono hkeep.size
          replace bI := bI.keep k4
          replace bN := bN.keep k4
          replace how := how.keep k4
          replace hkeep := hkeep.trans k4
          have eI := bI.cell_ (fill_at (a := ts.map Sl.val) (by rw [List.length_map]; exact LTS.out) hlt)
          have eN := bN.cell_ (fill_at (a := ns.map Value.bool) (by rw [List.length_map]; exact LNS.out) hlt)
          have fI := bI.frozen i
          have fN := bN.frozen i
          have sI := bI.set_ i (.slice A L.length L.length)
          rw [fill_set (by rw [List.length_map]; exact LTS.out) hlt] at sI
          have sN := (bN.far (p := ⟨gI, i, none⟩) hne (.slice A L.length L.length)).set_ i (.bool n)
          rw [fill_set (by rw [List.length_map]; exact LNS.out) hlt] at sN
          have sI2 := sI.far (p := ⟨gN, i, none⟩) (Ne.symm hne) (.bool n)
          have eN2 : ((w4.setCell ⟨gI, i, none⟩ (.slice A L.length L.length)).cell? ⟨gN, i, none⟩) = some (.bool false) := (World.cell?_setCell_other w4 ⟨gI, i, none⟩ ⟨gN, i, none⟩ _ (fun e => by injection e with e1; exact hne e1)).trans eN
          have fN2 := (bN.far (p := ⟨gI, i, none⟩) hne (.slice A L.length L.length)).frozen i
          have fr : ∀ (t : Sl), Fr 3 w4 w2.heap.size t.a t.l.length t.c (cs .i64 t.l) → Fr 3 ((w4.setCell ⟨gI, i, none⟩ (.slice A L.length L.length)).setCell ⟨gN, i, none⟩ (.bool n)) w2.heap.size t.a t.l.length t.c (cs .i64 t.l) := fun t f => by
            have f1 := f.setCell (fun k hk => f.own_ne bI (by decide) k hk) (p := ⟨gI, i, none⟩) (.slice A L.length L.length)
            exact f1.setCell (fun k hk => f1.own_ne (bN.far (p := ⟨gI, i, none⟩) hne _) (by decide) k hk) (p := ⟨gN, i, none⟩) (.bool n)
          have FR := Lib.hid fr
          have hk2 : Keep w2 ((w4.setCell ⟨gI, i, none⟩ (.slice A L.length L.length)).setCell ⟨gN, i, none⟩ (.bool n)) := (hkeep.setCell (p := ⟨gI, i, none⟩) hgI _).setCell (p := ⟨gN, i, none⟩) hgN _
          have hm1 : ts.map Sl.val ++ [.slice A L.length L.length] = (ts ++ [(⟨A, L.length, L⟩ : Sl)]).map Sl.val := by rw [List.map_append]; rfl
          have hm2 : ns.map Value.bool ++ [.bool n] = (ns ++ [n]).map Value.bool := by rw [List.map_append]; rfl
          rw [hm1] at sI2
          rw [hm2] at sN
          have HF := Lib.hid hf
          clear hq hv hv1 hv2 hsep fr sI eN hm1 hm2 hf hc1 hx k4 lx
          go_wp2_with fail
          go_roundw
          case rel =>
            refine ⟨rfl, i + 1, _, _, by omega, by go_num, sI2, sN, ?_, ?_, ⟨fun t ht => ?_, ?_⟩, hk2⟩
            · rw [List.take_add_one, HX.out, bids_append, HTS.out, List.map_append]
              simp [bidsOf, HV1.out]
            · rw [List.take_add_one, HX.out, List.map_append, ← HNS.out]
              simp [HV2.out]
            · rcases List.mem_append.1 ht with ht | ht
              · exact FR.out t (how.1 t ht)
              · rw [List.mem_singleton] at ht
                subst ht
                exact FR.out ⟨A, L.length, L⟩ HF.out
            · rw [List.pairwise_append]
              exact ⟨how.2, List.pairwise_singleton _ _, fun u hu v hv => by rw [List.mem_singleton] at hv; exact hv ▸ HSEP.out u hu⟩
          case measure => simp [intOf]; omega
        · have hie : i = M.bs.length := by omega
          subst hie
          rw [Nat.sub_self, List.replicate_zero, List.append_nil] at bI bN
          have hts := HTS.out
          have hns := HNS.out
          rw [List.take_of_length_le (by rw [length_bids]; exact Nat.le_refl _)] at hts hns
          have H1 := Lib.hid hts
          have H2 := Lib.hid hns
          have hw2 := kk.size
          clear hts hns HTS HNS
          go_wp2_with fail
          go_ret3
          rw [HL.out]
          exact ⟨gI, gN, ts, ns, rfl, H1.out, H2.out, bI, bN, by omega, by omega, ⟨fun t ht => (how.1 t ht).mono hw2, how.2⟩, kk.trans hkeep⟩

theorem all_yes (M : Mkt) (s : Sl) (w : World) (hM : M.Ok w) (hs : s.Ok .i64 w) (h : allOk M.r.l (bidsOf M.bs) M.o.l s.l = true) :
    Calls Try.prog 35 #[M.val, .slice s.a s.l.length s.c] w fun e w' => ∃ (gI gN : Nat) (ts : List Sl) (ns : List Bool), e = .returned (.tuple #[.slice (some ⟨gI, 0, none⟩) M.bs.length M.bs.length, .slice (some ⟨gN, 0, none⟩) M.bs.length M.bs.length, .int .i64 0]) ∧ bidsOf ts = (bidsOf M.bs).map (fun b => (ofV b s.l).1) ∧ ns = (bidsOf M.bs).map (fun b => (ofV b s.l).2.1) ∧
      Blk w' gI 22 (ts.map Sl.val) ∧ Blk w' gN 4 (ns.map Value.bool) ∧ w.heap.size ≤ gI ∧ w.heap.size ≤ gN ∧ OwnAll w' w.heap.size ts ∧ Keep w w' := by
  have hq := all_f M s w hM hs
  unfold AllP at hq
  rw [h, length_bids] at hq
  simpa only [if_true] using hq
theorem all_no (M : Mkt) (s : Sl) (w : World) (hM : M.Ok w) (hs : s.Ok .i64 w) (h : allOk M.r.l (bidsOf M.bs) M.o.l s.l = false) :
    Calls Try.prog 35 #[M.val, .slice s.a s.l.length s.c] w fun e w' => e = .returned (.tuple #[.slice none 0 0, .slice none 0 0, .int .i64 1]) ∧ Keep w w' := by
  have hq := all_f M s w hM hs
  unfold AllP at hq
  rw [h] at hq
  simpa only [Bool.false_eq_true, if_false] using hq
theorem allOk_set {R : List Int} {B : List (List Int)} {O P : List Int} (p : Nat) (h : allOk R B O P = true) : allOk R (B.set p []) O P = true := by
  unfold allOk at h ⊢
  simp only [Bool.and_eq_true] at h ⊢
  exact ⟨chkM_set p h.1, h.2⟩
theorem ofV_nil {P : List Int} (h : mayP P P.length = true) : ofV [] P = ([], true, 0, 0) := by
  have hk : ofOk [] P = true := by unfold ofOk; rw [h]; simp
  unfold ofV
  rw [if_pos hk]
  rfl
end Go.Proofs.Ytjhmlcbpbmeicaa
