/-
  CONTRACTS for the package markets: the count of the bids inside Get. Conditions: the cells that it captured are blocks of their own, the bytes read as a list.
-/
import Derived.Test.YtjhmlcbpbmeicaaMktI
import Derived.Test.YtjhmlcbpbmeicaaMktE
namespace Go.Proofs.Ytjhmlcbpbmeicaa
open Go.RowKit

/-- What the count leaves. -/
def CountP (xs : List Int) (gb ge gm : Nat) (L : List Value) (w0 w : World) (e : Ending) (w' : World) : Prop :=
  e = .returned (.tuple #[]) ∧ But (fun k => k = gb ∨ k = ge ∨ k = gm) w w' ∧
  match xs with
  | [] => Blk w' gm 62 L ∧ Blk w' ge 25 [.int .i64 5]
  | x :: ys => ∃ gr, w.heap.size ≤ gr ∧ Blk w' gr 22 (List.replicate x.toNat (.slice none 0 0)) ∧ Blk w' gm 62 (L.set 1 (.slice (some ⟨gr, 0, none⟩) x.toNat x.toNat)) ∧ Blk w' ge 25 [.int .i64 0] ∧ Left w0 w' gb ys

set_option maxRecDepth 100000 in
set_option maxHeartbeats 2000000 in
theorem count_no (w : World) (gb gm ge : Nat) (ec : Int) (he : Blk w ge 25 [.int .i64 ec]) (h0 : (ec == 0) = false) :
    Calls Try.prog 58 #[ptr ge 0, ptr gb 0, ptr gm 0] w fun e w' => e = .returned (.tuple #[]) ∧ Keep w w' := by
  have c0 := he.cell_ (i := 0) rfl
  go_enter Try.func58, Try.ntmps58
  go_wp2_with fail
  go_end0
  exact ⟨rfl, Keep.refl _⟩

set_option maxRecDepth 100000 in
set_option maxHeartbeats 4000000 in
theorem count_f (xs : List Int) (gb ge gm : Nat) (L : List Value) (w0 w : World) (k0 : Keep w0 w) (h1 : gb ≠ ge) (h2 : gm ≠ gb) (h3 : gm ≠ ge) (hi : L.length = 3)
    (hb : Left w0 w gb xs) (he : Blk w ge 25 [.int .i64 0]) (hm : Blk w gm 62 L) :
    Calls Try.prog 58 #[ptr ge 0, ptr gb 0, ptr gm 0] w (CountP xs gb ge gm L w0 w) := by
  obtain ⟨A, c, bb, rd, hB, hc, lc⟩ := hb
  have c0 := he.cell_ (i := 0) rfl
  have c1 := bb.cell_ (i := 0) rfl
  have hgl := fun w1 (k1 : Keep w w1) => get_f A c xs 1 w1 ((rd.keep k0).keep k1) hB hc lc
  cases xs with
  | nil =>
    go_enter Try.func58, Try.ntmps58
    go_wp2_with fail
    refine (hgl _ (Keep.refl _)).mono ?_
    intro e w1 hp
    unfold GetP at hp
    rw [show getV [] 1 = (0, 5) from rfl] at hp
    obtain ⟨rfl, k1⟩ := hp
    have e1 := he.keep k1
    have m1 := hm.keep k1
    have ce := e1.cell_ (i := 0) rfl
    have fe := e1.frozen 0
    have e2 := e1.set_ 0 (.int .i64 5)
    have m2 := m1.far (p := ⟨ge, 0, none⟩) h3.symm (.int .i64 5)
    have t2 : But (fun k => k = gb ∨ k = ge ∨ k = gm) w (w1.setCell ⟨ge, 0, none⟩ (.int .i64 5)) := (But.keep k1 _).setCell (.inr (.inl rfl)) _
    go_wp2_with fail
    go_end0
    exact ⟨rfl, t2, m2, e2⟩
  | cons x ys =>
    obtain ⟨x0, x1⟩ := hB.head
    obtain ⟨b, off, rfl, _⟩ := rd.ad (by simp [cs])
    obtain ⟨n, hn⟩ : ∃ n : Nat, x = n := ⟨x.toNat, by omega⟩
    subst hn
    have hy := hB.tail
    have hgv : getV ((n : Int) :: ys) 1 = (n, 0) := by
      rw [getV, if_neg (by omega), if_neg (by simp only [List.length_cons]; omega)]
      simp [val]
    have hmk1 := run_make_row' (P := Try.prog) 60 22 (.slice none 0 0) 24 Try.underlying60 infoInts rfl .u64 .u64 n (by omega) (by omega)
    have HV := Lib.hid hgv
    clear hgv
    have fin : ∀ V, (∃ A2 c2, V = .slice A2 ys.length c2 ∧ Rd w0 A2 (cs .u8 ys) ∧ ys.length ≤ c2 ∧ Len c2) → ∀ gr w2, w.heap.size ≤ gr → But (fun k => k = gb ∨ k = ge ∨ k = gm) w w2 → Blk w2 gm 62 (L.set 1 (.slice (some ⟨gr, 0, none⟩) n n)) → Blk w2 gr 22 (List.replicate n (.slice none 0 0)) → Blk w2 gb 31 [V] → Blk w2 ge 25 [.int .i64 0] → CountP ((n : Int) :: ys) gb ge gm L w0 w (.returned (.tuple #[])) w2 := by
      rintro V ⟨A2, c2, rfl, r2, s2, t2⟩ gr w2 hgr kb bm br bb be
      exact ⟨rfl, kb, gr, hgr, br, bm, be, ⟨A2, c2, bb, r2, hy, s2, t2⟩⟩
    have HF := Lib.hid fin
    clear fin
    have lb := bb.lt
    have lm := hm.lt
    go_enter Try.func58, Try.ntmps58
    go_wp2_with fail
    refine (hgl _ (Keep.refl _)).mono ?_
    intro e w1 hp
    unfold GetP at hp
    rw [HV.out] at hp
    obtain ⟨rfl, k1⟩ := hp
    have be := he.keep k1
    have ce := be.cell_ (i := 0) rfl
    have fe := be.frozen 0
    have kb : But (fun k => k = gb ∨ k = ge ∨ k = gm) w (w1.setCell ⟨ge, 0, none⟩ (.int .i64 0)) := (But.keep k1 _).setCell (.inr (.inl rfl)) _
    have bm := (hm.keep k1).far (p := ⟨ge, 0, none⟩) h3.symm (.int .i64 0)
    replace bb := (bb.keep k1).far (p := ⟨ge, 0, none⟩) h1.symm (.int .i64 0)
    replace be := be.set_ 0 (.int .i64 0)
    have cb := bb.cell_ (i := 0) rfl
    clear hgl
    go_upto_region 4 with fail
    clear c0 c1 cb ce fe
    simp only [List.length_cons] at bb
    generalize w1.setCell ⟨ge, 0, none⟩ (.int .i64 0) = w2 at bb be bm kb ⊢
    have hl : ys.length + 1 ≤ c := by simpa using hc
    have hz : (1 : Int) ≤ (ys.length : Int) + 1 := by omega
    by_cases hc1 : c = 1
    · have r2 : Rd w0 (some ⟨b, off, none⟩) (cs .u8 ys) := by
        have := rd.drop (n := 1) (cap := c) (by rw [length_cs]; exact hc) (some ⟨b, off, none⟩) (fun e => absurd hc1 e)
        simpa [cs] using this
      replace HF := Lib.hid (HF.out (.slice (some ⟨b, off, none⟩) ys.length 0) ⟨some ⟨b, off, none⟩, 0, rfl, r2, by omega, by unfold Len; omega⟩)
      subst hc1
      clear hc hl
      refine wp_region_noPanic ?_
      refine wp_region_held_drew (S := (fun _ => True)) (by kernel_rfl) trivial (fun hS => ?_)
      replace bb := bb.keep (Keep.refl _).drew
      replace be := be.keep (Keep.refl _).drew
      replace bm := bm.keep (Keep.refl _).drew
      replace kb := kb.trans (But.keep (Keep.refl _).drew _)
      generalize World.drew _ = v0 at bb be bm kb ⊢
      refine wpAnyH_take (i := 2) (v := ?_) rfl (by kernel_rfl) (by kernel_rfl) (by kernel_rfl) (fun _ _ _ h => h) (Or.inl ⟨by rfl, ?_⟩) hS ?_
      rotate_left
      · (intro w hSw; (try dsimp only at hSw); go_simp; (first | done | with_reducible rfl))
      change wpAnyH _ _ _ _ _ _ _ (Act.put _ (some 15) _) _
      simp only [Act.put, List.setIfInBounds_toArray, List.set_cons_zero, List.set_cons_succ]
      refine wpAnyH_ready (rs := [0, 3]) (by kernel_rfl) (by simp) ?_
      refine AllReadyH.cons rfl (fun K hK => ?_) ?_
      · have cb := bb.cell_ (i := 0) rfl
        go_simp
        refine hK.out _ _ trivial (fun hS => ?_)
        clear hK K
        try simp only [Act.put, List.setIfInBounds_toArray, List.set_cons_zero, List.set_cons_succ]
        clear cb
        refine wpAnyH_take (i := 1) (v := ?_) rfl (by kernel_rfl) (by kernel_rfl) (by kernel_rfl) (fun _ _ _ h => h) (Or.inl ⟨by rfl, ?_⟩) hS ?_
        rotate_left
        · (intro w hSw; (try dsimp only at hSw); go_simp; (first | done | with_reducible rfl))
        change wpAnyH _ _ _ _ _ _ _ (Act.put _ (some 14) _) _
        simp only [Act.put, List.setIfInBounds_toArray, List.set_cons_zero, List.set_cons_succ]
        refine wpAnyH_ready (rs := [3, 4]) (by kernel_rfl) (by simp) ?_
        refine AllReadyH.cons rfl (fun K hK => ?_) ?_
        · go_simp
          have br := Blk.of_make v0 22 (.slice none 0 0) n
          have kn := Keep.alloc1 v0 (.cells (madeCells #[.slice none 0 0] n) 22)
          have hgr := kb.size
          refine hK.out _ _ trivial (fun hS => ?_)
          clear hK K
          try simp only [Act.put, List.setIfInBounds_toArray, List.set_cons_zero, List.set_cons_succ]
          generalize v0.alloc (.cells (madeCells #[.slice none 0 0] n) 22) = v2 at br kn ⊢
          generalize v0.heap.size = gr at br hgr ⊢
          replace bb := bb.keep kn
          replace be := be.keep kn
          replace bm := bm.keep kn
          replace kb := kb.trans (But.keep kn _)
          clear kn
          refine wpAnyH_ready (rs := [4]) (by kernel_rfl) (by simp) ?_
          refine AllReadyH.cons rfl (fun K hK => ?_) AllReadyH.nil
          have cb := bb.cell_ (i := 0) rfl
          have fb := bb.frozen 0
          go_simp
          refine hK.out _ _ trivial (fun hS => ?_)
          clear hK K
          try simp only [Act.put, List.setIfInBounds_toArray]
          clear cb fb
          have b2 := bb.set_ 0 (.slice (some ⟨b, off, none⟩) ys.length 0)
          replace be := be.far (p := ⟨gb, 0, none⟩) h1 (.slice (some ⟨b, off, none⟩) ys.length 0)
          replace bm := bm.far (p := ⟨gb, 0, none⟩) h2.symm (.slice (some ⟨b, off, none⟩) ys.length 0)
          replace kb := kb.setCell (p := ⟨gb, 0, none⟩) (.inl rfl) (.slice (some ⟨b, off, none⟩) ys.length 0)
          replace br := br.far (p := ⟨gb, 0, none⟩) (by simp only; omega) (.slice (some ⟨b, off, none⟩) ys.length 0)
          replace bb := b2
          clear b2
          generalize v2.setCell ⟨gb, 0, none⟩ (.slice (some ⟨b, off, none⟩) ys.length 0) = v3 at bb be bm kb br ⊢
          refine wpAnyH_take (i := 5) (v := ?_) rfl (by kernel_rfl) (by kernel_rfl) (by kernel_rfl) (fun _ _ _ h => h) (Or.inl ⟨by rfl, ?_⟩) hS ?_
          rotate_left
          · (intro w hSw; (try dsimp only at hSw); go_simp; (first | done | with_reducible rfl))
          change wpAnyH _ _ _ _ _ _ _ (Act.put _ (some 17) _) _
          simp only [Act.put, List.setIfInBounds_toArray, List.set_cons_zero, List.set_cons_succ]
          refine wpAnyH_ready (rs := [6]) (by kernel_rfl) (by simp) ?_
          refine AllReadyH.cons rfl (fun K hK => ?_) AllReadyH.nil
          have cm := bm.cell_ (List.getElem?_eq_getElem (show 1 < L.length by omega))
          have fm := bm.frozen 1
          go_simp
          refine hK.out _ _ trivial (fun hS => ?_)
          clear hK K
          try simp only [Act.put, List.setIfInBounds_toArray]
          clear cm fm
          have b2 := bm.set_ 1 (.slice (some ⟨gr, 0, none⟩) n n)
          replace be := be.far (p := ⟨gm, 1, none⟩) h3 (.slice (some ⟨gr, 0, none⟩) n n)
          replace bb := bb.far (p := ⟨gm, 1, none⟩) h2 (.slice (some ⟨gr, 0, none⟩) n n)
          replace kb := kb.setCell (p := ⟨gm, 1, none⟩) (.inr (.inr rfl)) (.slice (some ⟨gr, 0, none⟩) n n)
          replace br := br.far (p := ⟨gm, 1, none⟩) (by simp only; omega) (.slice (some ⟨gr, 0, none⟩) n n)
          replace bm := b2
          clear b2
          generalize v3.setCell ⟨gm, 1, none⟩ (.slice (some ⟨gr, 0, none⟩) n n) = v4 at bb be bm kb br ⊢
          refine wpAnyH_done (by kernel_rfl) ?_ _
          refine NoPanic.normal ?_
          go_wp2_with fail
          go_end0
          exact HF.out _ _ hgr kb bm br bb be
        refine AllReadyH.cons rfl (fun K hK => ?_) ?_
        · have cb := bb.cell_ (i := 0) rfl
          have fb := bb.frozen 0
          go_simp
          refine hK.out _ _ trivial (fun hS => ?_)
          clear hK K
          try simp only [Act.put, List.setIfInBounds_toArray]
          clear cb fb
          have b2 := bb.set_ 0 (.slice (some ⟨b, off, none⟩) ys.length 0)
          replace be := be.far (p := ⟨gb, 0, none⟩) h1 (.slice (some ⟨b, off, none⟩) ys.length 0)
          replace bm := bm.far (p := ⟨gb, 0, none⟩) h2.symm (.slice (some ⟨b, off, none⟩) ys.length 0)
          replace kb := kb.setCell (p := ⟨gb, 0, none⟩) (.inl rfl) (.slice (some ⟨b, off, none⟩) ys.length 0)
          replace bb := b2
          clear b2
          generalize v0.setCell ⟨gb, 0, none⟩ (.slice (some ⟨b, off, none⟩) ys.length 0) = v5 at bb be bm kb ⊢
          refine wpAnyH_ready (rs := [3]) (by kernel_rfl) (by simp) ?_
          refine AllReadyH.cons rfl (fun K hK => ?_) AllReadyH.nil
          go_simp
          have br := Blk.of_make v5 22 (.slice none 0 0) n
          have kn := Keep.alloc1 v5 (.cells (madeCells #[.slice none 0 0] n) 22)
          have hgr := kb.size
          refine hK.out _ _ trivial (fun hS => ?_)
          clear hK K
          try simp only [Act.put, List.setIfInBounds_toArray, List.set_cons_zero, List.set_cons_succ]
          generalize v5.alloc (.cells (madeCells #[.slice none 0 0] n) 22) = v6 at br kn ⊢
          generalize v5.heap.size = gr at br hgr ⊢
          replace bb := bb.keep kn
          replace be := be.keep kn
          replace bm := bm.keep kn
          replace kb := kb.trans (But.keep kn _)
          clear kn
          refine wpAnyH_take (i := 5) (v := ?_) rfl (by kernel_rfl) (by kernel_rfl) (by kernel_rfl) (fun _ _ _ h => h) (Or.inl ⟨by rfl, ?_⟩) hS ?_
          rotate_left
          · (intro w hSw; (try dsimp only at hSw); go_simp; (first | done | with_reducible rfl))
          change wpAnyH _ _ _ _ _ _ _ (Act.put _ (some 17) _) _
          simp only [Act.put, List.setIfInBounds_toArray, List.set_cons_zero, List.set_cons_succ]
          refine wpAnyH_ready (rs := [6]) (by kernel_rfl) (by simp) ?_
          refine AllReadyH.cons rfl (fun K hK => ?_) AllReadyH.nil
          have cm := bm.cell_ (List.getElem?_eq_getElem (show 1 < L.length by omega))
          have fm := bm.frozen 1
          go_simp
          refine hK.out _ _ trivial (fun hS => ?_)
          clear hK K
          try simp only [Act.put, List.setIfInBounds_toArray]
          clear cm fm
          have b2 := bm.set_ 1 (.slice (some ⟨gr, 0, none⟩) n n)
          replace be := be.far (p := ⟨gm, 1, none⟩) h3 (.slice (some ⟨gr, 0, none⟩) n n)
          replace bb := bb.far (p := ⟨gm, 1, none⟩) h2 (.slice (some ⟨gr, 0, none⟩) n n)
          replace kb := kb.setCell (p := ⟨gm, 1, none⟩) (.inr (.inr rfl)) (.slice (some ⟨gr, 0, none⟩) n n)
          replace br := br.far (p := ⟨gm, 1, none⟩) (by simp only; omega) (.slice (some ⟨gr, 0, none⟩) n n)
          replace bm := b2
          clear b2
          generalize v6.setCell ⟨gm, 1, none⟩ (.slice (some ⟨gr, 0, none⟩) n n) = v7 at bb be bm kb br ⊢
          refine wpAnyH_done (by kernel_rfl) ?_ _
          refine NoPanic.normal ?_
          go_wp2_with fail
          go_end0
          exact HF.out _ _ hgr kb bm br bb be
        exact AllReadyH.nil
      refine AllReadyH.cons rfl (fun K hK => ?_) ?_
      · go_simp
        have br := Blk.of_make v0 22 (.slice none 0 0) n
        have kn := Keep.alloc1 v0 (.cells (madeCells #[.slice none 0 0] n) 22)
        have hgr := kb.size
        refine hK.out _ _ trivial (fun hS => ?_)
        clear hK K
        try simp only [Act.put, List.setIfInBounds_toArray, List.set_cons_zero, List.set_cons_succ]
        generalize v0.alloc (.cells (madeCells #[.slice none 0 0] n) 22) = v8 at br kn ⊢
        generalize v0.heap.size = gr at br hgr ⊢
        replace bb := bb.keep kn
        replace be := be.keep kn
        replace bm := bm.keep kn
        replace kb := kb.trans (But.keep kn _)
        clear kn
        refine wpAnyH_ready (rs := [0]) (by kernel_rfl) (by simp) ?_
        refine AllReadyH.cons rfl (fun K hK => ?_) AllReadyH.nil
        have cb := bb.cell_ (i := 0) rfl
        go_simp
        refine hK.out _ _ trivial (fun hS => ?_)
        clear hK K
        try simp only [Act.put, List.setIfInBounds_toArray, List.set_cons_zero, List.set_cons_succ]
        clear cb
        refine wpAnyH_take (i := 1) (v := ?_) rfl (by kernel_rfl) (by kernel_rfl) (by kernel_rfl) (fun _ _ _ h => h) (Or.inl ⟨by rfl, ?_⟩) hS ?_
        rotate_left
        · (intro w hSw; (try dsimp only at hSw); go_simp; (first | done | with_reducible rfl))
        change wpAnyH _ _ _ _ _ _ _ (Act.put _ (some 14) _) _
        simp only [Act.put, List.setIfInBounds_toArray, List.set_cons_zero, List.set_cons_succ]
        refine wpAnyH_ready (rs := [4]) (by kernel_rfl) (by simp) ?_
        refine AllReadyH.cons rfl (fun K hK => ?_) AllReadyH.nil
        have cb := bb.cell_ (i := 0) rfl
        have fb := bb.frozen 0
        go_simp
        refine hK.out _ _ trivial (fun hS => ?_)
        clear hK K
        try simp only [Act.put, List.setIfInBounds_toArray]
        clear cb fb
        have b2 := bb.set_ 0 (.slice (some ⟨b, off, none⟩) ys.length 0)
        replace be := be.far (p := ⟨gb, 0, none⟩) h1 (.slice (some ⟨b, off, none⟩) ys.length 0)
        replace bm := bm.far (p := ⟨gb, 0, none⟩) h2.symm (.slice (some ⟨b, off, none⟩) ys.length 0)
        replace kb := kb.setCell (p := ⟨gb, 0, none⟩) (.inl rfl) (.slice (some ⟨b, off, none⟩) ys.length 0)
        replace br := br.far (p := ⟨gb, 0, none⟩) (by simp only; omega) (.slice (some ⟨b, off, none⟩) ys.length 0)
        replace bb := b2
        clear b2
        generalize v8.setCell ⟨gb, 0, none⟩ (.slice (some ⟨b, off, none⟩) ys.length 0) = v10 at bb be bm kb br ⊢
        refine wpAnyH_take (i := 5) (v := ?_) rfl (by kernel_rfl) (by kernel_rfl) (by kernel_rfl) (fun _ _ _ h => h) (Or.inl ⟨by rfl, ?_⟩) hS ?_
        rotate_left
        · (intro w hSw; (try dsimp only at hSw); go_simp; (first | done | with_reducible rfl))
        change wpAnyH _ _ _ _ _ _ _ (Act.put _ (some 17) _) _
        simp only [Act.put, List.setIfInBounds_toArray, List.set_cons_zero, List.set_cons_succ]
        refine wpAnyH_ready (rs := [6]) (by kernel_rfl) (by simp) ?_
        refine AllReadyH.cons rfl (fun K hK => ?_) AllReadyH.nil
        have cm := bm.cell_ (List.getElem?_eq_getElem (show 1 < L.length by omega))
        have fm := bm.frozen 1
        go_simp
        refine hK.out _ _ trivial (fun hS => ?_)
        clear hK K
        try simp only [Act.put, List.setIfInBounds_toArray]
        clear cm fm
        have b2 := bm.set_ 1 (.slice (some ⟨gr, 0, none⟩) n n)
        replace be := be.far (p := ⟨gm, 1, none⟩) h3 (.slice (some ⟨gr, 0, none⟩) n n)
        replace bb := bb.far (p := ⟨gm, 1, none⟩) h2 (.slice (some ⟨gr, 0, none⟩) n n)
        replace kb := kb.setCell (p := ⟨gm, 1, none⟩) (.inr (.inr rfl)) (.slice (some ⟨gr, 0, none⟩) n n)
        replace br := br.far (p := ⟨gm, 1, none⟩) (by simp only; omega) (.slice (some ⟨gr, 0, none⟩) n n)
        replace bm := b2
        clear b2
        generalize v10.setCell ⟨gm, 1, none⟩ (.slice (some ⟨gr, 0, none⟩) n n) = v11 at bb be bm kb br ⊢
        refine wpAnyH_done (by kernel_rfl) ?_ _
        refine NoPanic.normal ?_
        go_wp2_with fail
        go_end0
        exact HF.out _ _ hgr kb bm br bb be
      exact AllReadyH.nil

    · have r2 : Rd w0 (some ⟨b, off + 1, none⟩) (cs .u8 ys) := by
        have := rd.drop (n := 1) (cap := c) (by rw [length_cs]; exact hc) (some ⟨b, off + 1, none⟩) (fun _ => by simp [Addr.add])
        simpa [cs] using this
      replace HF := Lib.hid (HF.out (.slice (some ⟨b, off + 1, none⟩) ys.length (c - 1)) ⟨some ⟨b, off + 1, none⟩, c - 1, rfl, r2, by omega, by unfold Len at lc ⊢; omega⟩)
      refine wp_region_noPanic ?_
      refine wp_region_held_drew (S := (fun _ => True)) (by kernel_rfl) trivial (fun hS => ?_)
      replace bb := bb.keep (Keep.refl _).drew
      replace be := be.keep (Keep.refl _).drew
      replace bm := bm.keep (Keep.refl _).drew
      replace kb := kb.trans (But.keep (Keep.refl _).drew _)
      generalize World.drew _ = v0 at bb be bm kb ⊢
      refine wpAnyH_take (i := 2) (v := ?_) rfl (by kernel_rfl) (by kernel_rfl) (by kernel_rfl) (fun _ _ _ h => h) (Or.inl ⟨by rfl, ?_⟩) hS ?_
      rotate_left
      · (intro w hSw; (try dsimp only at hSw); go_simp; (first | done | with_reducible rfl))
      change wpAnyH _ _ _ _ _ _ _ (Act.put _ (some 15) _) _
      simp only [Act.put, List.setIfInBounds_toArray, List.set_cons_zero, List.set_cons_succ]
      refine wpAnyH_ready (rs := [0, 3]) (by kernel_rfl) (by simp) ?_
      refine AllReadyH.cons rfl (fun K hK => ?_) ?_
      · have cb := bb.cell_ (i := 0) rfl
        go_simp
        refine hK.out _ _ trivial (fun hS => ?_)
        clear hK K
        try simp only [Act.put, List.setIfInBounds_toArray, List.set_cons_zero, List.set_cons_succ]
        clear cb
        refine wpAnyH_take (i := 1) (v := ?_) rfl (by kernel_rfl) (by kernel_rfl) (by kernel_rfl) (fun _ _ _ h => h) (Or.inl ⟨by rfl, ?_⟩) hS ?_
        rotate_left
        · (intro w hSw; (try dsimp only at hSw); go_simp; (first | done | with_reducible rfl))
        change wpAnyH _ _ _ _ _ _ _ (Act.put _ (some 14) _) _
        simp only [Act.put, List.setIfInBounds_toArray, List.set_cons_zero, List.set_cons_succ]
        refine wpAnyH_ready (rs := [3, 4]) (by kernel_rfl) (by simp) ?_
        refine AllReadyH.cons rfl (fun K hK => ?_) ?_
        · go_simp
          have br := Blk.of_make v0 22 (.slice none 0 0) n
          have kn := Keep.alloc1 v0 (.cells (madeCells #[.slice none 0 0] n) 22)
          have hgr := kb.size
          refine hK.out _ _ trivial (fun hS => ?_)
          clear hK K
          try simp only [Act.put, List.setIfInBounds_toArray, List.set_cons_zero, List.set_cons_succ]
          generalize v0.alloc (.cells (madeCells #[.slice none 0 0] n) 22) = v2 at br kn ⊢
          generalize v0.heap.size = gr at br hgr ⊢
          replace bb := bb.keep kn
          replace be := be.keep kn
          replace bm := bm.keep kn
          replace kb := kb.trans (But.keep kn _)
          clear kn
          refine wpAnyH_ready (rs := [4]) (by kernel_rfl) (by simp) ?_
          refine AllReadyH.cons rfl (fun K hK => ?_) AllReadyH.nil
          have cb := bb.cell_ (i := 0) rfl
          have fb := bb.frozen 0
          go_simp
          refine hK.out _ _ trivial (fun hS => ?_)
          clear hK K
          try simp only [Act.put, List.setIfInBounds_toArray]
          clear cb fb
          have b2 := bb.set_ 0 (.slice (some ⟨b, off + 1, none⟩) ys.length (c - 1))
          replace be := be.far (p := ⟨gb, 0, none⟩) h1 (.slice (some ⟨b, off + 1, none⟩) ys.length (c - 1))
          replace bm := bm.far (p := ⟨gb, 0, none⟩) h2.symm (.slice (some ⟨b, off + 1, none⟩) ys.length (c - 1))
          replace kb := kb.setCell (p := ⟨gb, 0, none⟩) (.inl rfl) (.slice (some ⟨b, off + 1, none⟩) ys.length (c - 1))
          replace br := br.far (p := ⟨gb, 0, none⟩) (by simp only; omega) (.slice (some ⟨b, off + 1, none⟩) ys.length (c - 1))
          replace bb := b2
          clear b2
          generalize v2.setCell ⟨gb, 0, none⟩ (.slice (some ⟨b, off + 1, none⟩) ys.length (c - 1)) = v3 at bb be bm kb br ⊢
          refine wpAnyH_take (i := 5) (v := ?_) rfl (by kernel_rfl) (by kernel_rfl) (by kernel_rfl) (fun _ _ _ h => h) (Or.inl ⟨by rfl, ?_⟩) hS ?_
          rotate_left
          · (intro w hSw; (try dsimp only at hSw); go_simp; (first | done | with_reducible rfl))
          change wpAnyH _ _ _ _ _ _ _ (Act.put _ (some 17) _) _
          simp only [Act.put, List.setIfInBounds_toArray, List.set_cons_zero, List.set_cons_succ]
          refine wpAnyH_ready (rs := [6]) (by kernel_rfl) (by simp) ?_
          refine AllReadyH.cons rfl (fun K hK => ?_) AllReadyH.nil
          have cm := bm.cell_ (List.getElem?_eq_getElem (show 1 < L.length by omega))
          have fm := bm.frozen 1
          go_simp
          refine hK.out _ _ trivial (fun hS => ?_)
          clear hK K
          try simp only [Act.put, List.setIfInBounds_toArray]
          clear cm fm
          have b2 := bm.set_ 1 (.slice (some ⟨gr, 0, none⟩) n n)
          replace be := be.far (p := ⟨gm, 1, none⟩) h3 (.slice (some ⟨gr, 0, none⟩) n n)
          replace bb := bb.far (p := ⟨gm, 1, none⟩) h2 (.slice (some ⟨gr, 0, none⟩) n n)
          replace kb := kb.setCell (p := ⟨gm, 1, none⟩) (.inr (.inr rfl)) (.slice (some ⟨gr, 0, none⟩) n n)
          replace br := br.far (p := ⟨gm, 1, none⟩) (by simp only; omega) (.slice (some ⟨gr, 0, none⟩) n n)
          replace bm := b2
          clear b2
          generalize v3.setCell ⟨gm, 1, none⟩ (.slice (some ⟨gr, 0, none⟩) n n) = v4 at bb be bm kb br ⊢
          refine wpAnyH_done (by kernel_rfl) ?_ _
          refine NoPanic.normal ?_
          go_wp2_with fail
          go_end0
          exact HF.out _ _ hgr kb bm br bb be
        refine AllReadyH.cons rfl (fun K hK => ?_) ?_
        · have cb := bb.cell_ (i := 0) rfl
          have fb := bb.frozen 0
          go_simp
          refine hK.out _ _ trivial (fun hS => ?_)
          clear hK K
          try simp only [Act.put, List.setIfInBounds_toArray]
          clear cb fb
          have b2 := bb.set_ 0 (.slice (some ⟨b, off + 1, none⟩) ys.length (c - 1))
          replace be := be.far (p := ⟨gb, 0, none⟩) h1 (.slice (some ⟨b, off + 1, none⟩) ys.length (c - 1))
          replace bm := bm.far (p := ⟨gb, 0, none⟩) h2.symm (.slice (some ⟨b, off + 1, none⟩) ys.length (c - 1))
          replace kb := kb.setCell (p := ⟨gb, 0, none⟩) (.inl rfl) (.slice (some ⟨b, off + 1, none⟩) ys.length (c - 1))
          replace bb := b2
          clear b2
          generalize v0.setCell ⟨gb, 0, none⟩ (.slice (some ⟨b, off + 1, none⟩) ys.length (c - 1)) = v5 at bb be bm kb ⊢
          refine wpAnyH_ready (rs := [3]) (by kernel_rfl) (by simp) ?_
          refine AllReadyH.cons rfl (fun K hK => ?_) AllReadyH.nil
          go_simp
          have br := Blk.of_make v5 22 (.slice none 0 0) n
          have kn := Keep.alloc1 v5 (.cells (madeCells #[.slice none 0 0] n) 22)
          have hgr := kb.size
          refine hK.out _ _ trivial (fun hS => ?_)
          clear hK K
          try simp only [Act.put, List.setIfInBounds_toArray, List.set_cons_zero, List.set_cons_succ]
          generalize v5.alloc (.cells (madeCells #[.slice none 0 0] n) 22) = v6 at br kn ⊢
          generalize v5.heap.size = gr at br hgr ⊢
          replace bb := bb.keep kn
          replace be := be.keep kn
          replace bm := bm.keep kn
          replace kb := kb.trans (But.keep kn _)
          clear kn
          refine wpAnyH_take (i := 5) (v := ?_) rfl (by kernel_rfl) (by kernel_rfl) (by kernel_rfl) (fun _ _ _ h => h) (Or.inl ⟨by rfl, ?_⟩) hS ?_
          rotate_left
          · (intro w hSw; (try dsimp only at hSw); go_simp; (first | done | with_reducible rfl))
          change wpAnyH _ _ _ _ _ _ _ (Act.put _ (some 17) _) _
          simp only [Act.put, List.setIfInBounds_toArray, List.set_cons_zero, List.set_cons_succ]
          refine wpAnyH_ready (rs := [6]) (by kernel_rfl) (by simp) ?_
          refine AllReadyH.cons rfl (fun K hK => ?_) AllReadyH.nil
          have cm := bm.cell_ (List.getElem?_eq_getElem (show 1 < L.length by omega))
          have fm := bm.frozen 1
          go_simp
          refine hK.out _ _ trivial (fun hS => ?_)
          clear hK K
          try simp only [Act.put, List.setIfInBounds_toArray]
          clear cm fm
          have b2 := bm.set_ 1 (.slice (some ⟨gr, 0, none⟩) n n)
          replace be := be.far (p := ⟨gm, 1, none⟩) h3 (.slice (some ⟨gr, 0, none⟩) n n)
          replace bb := bb.far (p := ⟨gm, 1, none⟩) h2 (.slice (some ⟨gr, 0, none⟩) n n)
          replace kb := kb.setCell (p := ⟨gm, 1, none⟩) (.inr (.inr rfl)) (.slice (some ⟨gr, 0, none⟩) n n)
          replace br := br.far (p := ⟨gm, 1, none⟩) (by simp only; omega) (.slice (some ⟨gr, 0, none⟩) n n)
          replace bm := b2
          clear b2
          generalize v6.setCell ⟨gm, 1, none⟩ (.slice (some ⟨gr, 0, none⟩) n n) = v7 at bb be bm kb br ⊢
          refine wpAnyH_done (by kernel_rfl) ?_ _
          refine NoPanic.normal ?_
          go_wp2_with fail
          go_end0
          exact HF.out _ _ hgr kb bm br bb be
        exact AllReadyH.nil
      refine AllReadyH.cons rfl (fun K hK => ?_) ?_
      · go_simp
        have br := Blk.of_make v0 22 (.slice none 0 0) n
        have kn := Keep.alloc1 v0 (.cells (madeCells #[.slice none 0 0] n) 22)
        have hgr := kb.size
        refine hK.out _ _ trivial (fun hS => ?_)
        clear hK K
        try simp only [Act.put, List.setIfInBounds_toArray, List.set_cons_zero, List.set_cons_succ]
        generalize v0.alloc (.cells (madeCells #[.slice none 0 0] n) 22) = v8 at br kn ⊢
        generalize v0.heap.size = gr at br hgr ⊢
        replace bb := bb.keep kn
        replace be := be.keep kn
        replace bm := bm.keep kn
        replace kb := kb.trans (But.keep kn _)
        clear kn
        refine wpAnyH_ready (rs := [0]) (by kernel_rfl) (by simp) ?_
        refine AllReadyH.cons rfl (fun K hK => ?_) AllReadyH.nil
        have cb := bb.cell_ (i := 0) rfl
        go_simp
        refine hK.out _ _ trivial (fun hS => ?_)
        clear hK K
        try simp only [Act.put, List.setIfInBounds_toArray, List.set_cons_zero, List.set_cons_succ]
        clear cb
        refine wpAnyH_take (i := 1) (v := ?_) rfl (by kernel_rfl) (by kernel_rfl) (by kernel_rfl) (fun _ _ _ h => h) (Or.inl ⟨by rfl, ?_⟩) hS ?_
        rotate_left
        · (intro w hSw; (try dsimp only at hSw); go_simp; (first | done | with_reducible rfl))
        change wpAnyH _ _ _ _ _ _ _ (Act.put _ (some 14) _) _
        simp only [Act.put, List.setIfInBounds_toArray, List.set_cons_zero, List.set_cons_succ]
        refine wpAnyH_ready (rs := [4]) (by kernel_rfl) (by simp) ?_
        refine AllReadyH.cons rfl (fun K hK => ?_) AllReadyH.nil
        have cb := bb.cell_ (i := 0) rfl
        have fb := bb.frozen 0
        go_simp
        refine hK.out _ _ trivial (fun hS => ?_)
        clear hK K
        try simp only [Act.put, List.setIfInBounds_toArray]
        clear cb fb
        have b2 := bb.set_ 0 (.slice (some ⟨b, off + 1, none⟩) ys.length (c - 1))
        replace be := be.far (p := ⟨gb, 0, none⟩) h1 (.slice (some ⟨b, off + 1, none⟩) ys.length (c - 1))
        replace bm := bm.far (p := ⟨gb, 0, none⟩) h2.symm (.slice (some ⟨b, off + 1, none⟩) ys.length (c - 1))
        replace kb := kb.setCell (p := ⟨gb, 0, none⟩) (.inl rfl) (.slice (some ⟨b, off + 1, none⟩) ys.length (c - 1))
        replace br := br.far (p := ⟨gb, 0, none⟩) (by simp only; omega) (.slice (some ⟨b, off + 1, none⟩) ys.length (c - 1))
        replace bb := b2
        clear b2
        generalize v8.setCell ⟨gb, 0, none⟩ (.slice (some ⟨b, off + 1, none⟩) ys.length (c - 1)) = v10 at bb be bm kb br ⊢
        refine wpAnyH_take (i := 5) (v := ?_) rfl (by kernel_rfl) (by kernel_rfl) (by kernel_rfl) (fun _ _ _ h => h) (Or.inl ⟨by rfl, ?_⟩) hS ?_
        rotate_left
        · (intro w hSw; (try dsimp only at hSw); go_simp; (first | done | with_reducible rfl))
        change wpAnyH _ _ _ _ _ _ _ (Act.put _ (some 17) _) _
        simp only [Act.put, List.setIfInBounds_toArray, List.set_cons_zero, List.set_cons_succ]
        refine wpAnyH_ready (rs := [6]) (by kernel_rfl) (by simp) ?_
        refine AllReadyH.cons rfl (fun K hK => ?_) AllReadyH.nil
        have cm := bm.cell_ (List.getElem?_eq_getElem (show 1 < L.length by omega))
        have fm := bm.frozen 1
        go_simp
        refine hK.out _ _ trivial (fun hS => ?_)
        clear hK K
        try simp only [Act.put, List.setIfInBounds_toArray]
        clear cm fm
        have b2 := bm.set_ 1 (.slice (some ⟨gr, 0, none⟩) n n)
        replace be := be.far (p := ⟨gm, 1, none⟩) h3 (.slice (some ⟨gr, 0, none⟩) n n)
        replace bb := bb.far (p := ⟨gm, 1, none⟩) h2 (.slice (some ⟨gr, 0, none⟩) n n)
        replace kb := kb.setCell (p := ⟨gm, 1, none⟩) (.inr (.inr rfl)) (.slice (some ⟨gr, 0, none⟩) n n)
        replace br := br.far (p := ⟨gm, 1, none⟩) (by simp only; omega) (.slice (some ⟨gr, 0, none⟩) n n)
        replace bm := b2
        clear b2
        generalize v10.setCell ⟨gm, 1, none⟩ (.slice (some ⟨gr, 0, none⟩) n n) = v11 at bb be bm kb br ⊢
        refine wpAnyH_done (by kernel_rfl) ?_ _
        refine NoPanic.normal ?_
        go_wp2_with fail
        go_end0
        exact HF.out _ _ hgr kb bm br bb be
      exact AllReadyH.nil

end Go.Proofs.Ytjhmlcbpbmeicaa
