/-
  THE WALK OF THE 15 MarketsOwn: it answers true, and turns nothing that was there. Conditions: the arguments are a market that came in, a slice of ints that came in, and a byte.
-/
import Derived.Test.YtjhmlcbpbmeicaaMktX
import Derived.Test.YtjhmlcbpbmeicaaMktY
import Derived.Deep.RegionHeld3
import Derived.Deep.CutRange
namespace Go.Proofs.Ytjhmlcbpbmeicaa
open Go.RowKit

set_option maxRecDepth 100000 in
set_option maxHeartbeats 8000000 in
theorem marketsOwn_w (M : Mkt) (s : Sl) (p : Int) (w : World) (hM : M.Ok w) (hs : s.Ok .i64 w) (hp : 0 ≤ p ∧ p < 256) :
    Calls Try.prog 15 #[M.val, .slice s.a s.l.length s.c, .int .u8 p] w fun e w' => e = .returned (.bool true) ∧ Below w.heap.size w w' := by
  obtain ⟨p0, p1⟩ := hp
  have lb := hM.b.len.le
  have ls := hs.len.le
  have bM := Blk.new w 62 [.slice M.r.a M.r.l.length M.r.c, .slice M.ba M.bs.length M.bc, .slice M.o.a M.o.l.length M.o.c]
  have kk : Keep w (w.alloc (.cells #[.slice M.r.a M.r.l.length M.r.c, .slice M.ba M.bs.length M.bc, .slice M.o.a M.o.l.length M.o.c] 62)) := Keep.alloc1 _ _
  cases hck : chkM M.r.l (bidsOf M.bs) M.o.l with
  | false =>
    have hq := gains_no M _ (hM.keep kk) hck
    unfold Mkt.val at hq ⊢
    clear hck
    go_enter Try.func15, Try.ntmps15
    go_wp2_with fail
    refine hq.mono ?_
    rintro e w1 ⟨rfl, k1⟩
    have ha := alive05_f w1
    go_wp2_with fail
    refine ha.mono ?_
    rintro e w2 ⟨rfl, k2⟩
    go_wp2_with fail
    go_ret
    exact ⟨rfl, (kk.trans k1).trans k2⟩
  | true =>
    have hq := gains_yes M _ (hM.keep kk) hck
    by_cases hbig : 100 < s.l.length
    · have z1 : (100 : Int) < s.l.length := by omega
      have z2 : decide ((100 : Int) < s.l.length) = true := decide_eq_true z1
      unfold Mkt.val at hq ⊢
      clear hck hbig
      go_enter Try.func15, Try.ntmps15
      go_wp2_with fail
      refine hq.mono ?_
      rintro e w1 ⟨ga, sa, rfl, hA, hsa, k1⟩
      have ha := alive05_f w1
      clear hsa
      go_wp2_with fail
      refine ha.mono ?_
      rintro e w2 ⟨rfl, k2⟩
      go_wp2_with fail
      go_ret
      exact ⟨rfl, (kk.trans k1).trans k2⟩
    · have z1 : decide ((100 : Int) < s.l.length) = false := decide_eq_false (by omega)
      have z2 : ((100 : Int) < s.l.length) = False := eq_false (by omega)
      have hs1 : s.l.length ≤ 100 := by omega
      obtain ⟨hr1, hr8, h3, h4, h5, h6⟩ := chkM_lens hck
      rw [length_bids] at h3 h4 h6
      obtain ⟨k, hk⟩ : ∃ k : Nat, p % (M.bs.length : Int) = k := ⟨(p % (M.bs.length : Int)).toNat, by
        have := Int.emod_nonneg p (b := (M.bs.length : Int)) (by omega)
        omega⟩
      have hk1 : k < M.bs.length := by
        have := Int.emod_lt_of_pos p (b := (M.bs.length : Int)) (by omega)
        omega
      have hne0 : ((M.bs.length : Int) == 0) = false := beq_eq_false_iff_ne.2 (by omega)
      have HC := Lib.hid hck
      have HF := Lib.hid (chkM_few hck)
      have HO := Lib.hid h6
      have ho1 : 0 < M.o.l.length := by omega
      have ho8 : M.o.l.length ≤ 8 := by omega
      have HR8 := Lib.hid hr8
      clear hck hbig h5 h6 hr1 hr8
      unfold Mkt.val at hq ⊢
      replace hM := hM.keep kk
      replace hs := hs.keep kk
      go_enter Try.func15, Try.ntmps15
      go_wp2_with fail
      refine hq.mono ?_
      rintro e w1 ⟨ga, sa, rfl, hA, hsa, k1⟩
      have la : sa.length = M.bs.length := by rw [← length_bids, hsa, gainsM, List.length_map, length_bids]
      have HA := Lib.hid hsa
      have hla : ((sa.length : Int) != M.bs.length) = false := by simp [la]
      have HL := Lib.hid la
      clear hsa hq la
      generalize (w.alloc (.cells #[.slice M.r.a M.r.l.length M.r.c, .slice M.ba M.bs.length M.bc, .slice M.o.a M.o.l.length M.o.c] 62)) = wA at bM kk hM hs k1 ⊢
      generalize w.heap.size = gA at bM ⊢
      replace bM := bM.keep k1
      replace hM := hM.keep k1
      replace hs := hs.keep k1
      replace kk := kk.trans k1
      clear k1
      have c0 := bM.cell_ (i := 0) rfl
      have c1 := bM.cell_ (i := 1) rfl
      have c2 := bM.cell_ (i := 2) rfl
      go_upto_region 5 with fail
      have hT := twinMarket_f M w1 hM HF.out.r (by omega) HF.out.b HF.out.o
      unfold Mkt.val at hT
      go_wp2_with fail
      refine hT.mono ?_
      rintro e w2 ⟨N, rfl, tN, kq⟩
      clear hT
      have e2 := tN.len
      obtain ⟨zz, hz1, hz2, hz3⟩ := tN.outer
      have HNL := Lib.hid e2
      rw [e2] at hz2
      clear hz1 hz3
      obtain ⟨gB, hB, hB1, hB2⟩ := hz2.form (by omega)
      have hNB : w2.heap.size ≠ gB := by omega
      rw [e2, hB]
      rw [hB] at hz2
      have HB := Lib.hid hB
      clear e2 hB
      go_upto_region 6 with fail
      have bN := Blk.new w2 62 [.slice N.r.a N.r.l.length N.r.c, .slice (some ⟨gB, 0, none⟩) M.bs.length N.bc, .slice N.o.a N.o.l.length N.o.c]
      have kn : Keep w2 (w2.alloc (.cells #[.slice N.r.a N.r.l.length N.r.c, .slice (some ⟨gB, 0, none⟩) M.bs.length N.bc, .slice N.o.a N.o.l.length N.o.c] 62)) := Keep.alloc1 _ _
      have hN1 := kq.size
      change Code.wp _ _ _ _ (w2.alloc (.cells #[.slice N.r.a N.r.l.length N.r.c, .slice (some ⟨gB, 0, none⟩) M.bs.length N.bc, .slice N.o.a N.o.l.length N.o.c] 62))
      generalize w2.alloc (.cells #[.slice N.r.a N.r.l.length N.r.c, .slice (some ⟨gB, 0, none⟩) M.bs.length N.bc, .slice N.o.a N.o.l.length N.o.c] 62) = w3 at bN kn ⊢
      replace hz2 := hz2.keep kn
      replace tN := tN.keep kn
      replace kq := kq.trans kn
      clear kn
      generalize w2.heap.size = gN at bN hNB hN1 hB2 ⊢
      have fz := hz2.frozen (by omega) k
      obtain ⟨b', off', e', ec⟩ := hz2.rd.at_ (j := k) (by simp; have := HNL.out; omega)
      cases e'
      rw [Nat.zero_add] at ec
      obtain ⟨v0, ec⟩ : ∃ v, w3.cell? ⟨gB, k, none⟩ = some v := ⟨_, ec⟩
      have d1 := bN.cell_ (i := 1) rfl
      go_upto_region 7 with fail
      obtain ⟨bo, oo, x0, hoa, hx0, hc0⟩ := hM.o.rd.int_at ho1
      have c2' := c2
      rw [hoa] at c2'
      generalize hw4 : w3.setCell ⟨gB, k, none⟩ (.slice s.a s.l.length s.c) = w4
      have kq4 : Keep w1 w4 := hw4 ▸ kq.setCell (p := ⟨gB, k, none⟩) hB1 _
      have bN4 := hw4 ▸ bN.far (p := ⟨gB, k, none⟩) (Ne.symm hNB) (.slice s.a s.l.length s.c)
      replace hw4 := Lib.hid hw4
      have hAN : gA ≠ gN := by have := World.block_lt_of_cell? w1 _ c0; simp only at this; omega
      have hON : bo ≠ gN := by have := World.block_lt_of_cell? w1 _ hc0; simp only at this; omega
      have e2 := kq4.cell c2'
      have e0 := kq4.cell hc0
      have HX0 := Lib.hid hx0
      have HOA := Lib.hid hoa
      have y1 : (1 : Int) ≤ M.o.l.length := by omega
      have y2 : (0 : Int) < M.o.l.length := by omega
      have y3 : (M.o.l.length : Int) ≤ M.o.c := by have := hM.o.inn.cap; omega
      have y4 : ((M.o.l.length : Int) - 1).toNat = M.o.l.length - 1 := by omega
      have y5 : ((M.o.c : Int) - 1).toNat = M.o.c - 1 := by omega
      rw [Nat.add_zero] at e0
      clear hx0 hoa c2' fz ec d1
      have z0 : (0 : Int) ≤ k := by omega
      go_cut [71] from 62 to 72 (fun _ wx => ∃ (A6 : Option Addr) (c6 : Nat) (w5 : World), wx = w5.setCell ⟨gN, 2, none⟩ (.slice A6 M.o.l.length c6) ∧ Keep w4 w5 ∧ Fr 3 w5 w4.heap.size A6 M.o.l.length c6 (cs .i64 (M.o.l.drop 1 ++ [x0])))
      case first =>
        refine wp_region_noPanic ?_
        refine wp_region_held_drew (S := (fun w' => w'.cell? ⟨gA, 2, none⟩ = some (.slice (some ⟨bo, oo, none⟩) M.o.l.length M.o.c) ∧ w'.cell? ⟨bo, oo, none⟩ = some (.int .i64 x0))) (by kernel_rfl) ⟨e2, e0⟩ (fun hS => ?_)
        have ky : Keep w4 w4.drew := (Keep.refl _).drew
        generalize w4.drew = v0 at ky hS ⊢
        refine wpAnyH_take (i := 0) (v := ?_) rfl (by kernel_rfl) (by kernel_rfl) (by kernel_rfl) (fun _ _ _ h => h) (Or.inl ⟨by rfl, ?_⟩) hS ?_
        rotate_left
        · (intro w hSw; (try dsimp only at hSw); go_simp; (first | done | with_reducible rfl))
        change wpAnyH _ _ _ _ _ _ _ (Act.put _ (some 62) _) _
        simp only [Act.put, List.setIfInBounds_toArray, List.set_cons_zero, List.set_cons_succ]
        refine wpAnyH_take (i := 1) (v := ?_) rfl (by kernel_rfl) (by kernel_rfl) (by kernel_rfl) (fun _ _ _ h => h) (Or.inl ⟨by rfl, ?_⟩) hS ?_
        rotate_left
        · (intro w hSw; (try dsimp only at hSw); go_simp; (first | done | with_reducible rfl))
        change wpAnyH _ _ _ _ _ _ _ (Act.put _ (some 63) _) _
        simp only [Act.put, List.setIfInBounds_toArray, List.set_cons_zero, List.set_cons_succ]
        refine wpAnyH_take (i := 2) (v := ?_) rfl (by kernel_rfl) (by kernel_rfl) (by kernel_rfl) (fun _ _ _ h => h) (Or.inl ⟨by rfl, ?_⟩) hS ?_
        rotate_left
        · (intro w hSw; (try dsimp only at hSw); go_simp; (first | done | with_reducible rfl))
        change wpAnyH _ _ _ _ _ _ _ (Act.put _ (some 64) _) _
        simp only [Act.put, List.setIfInBounds_toArray, List.set_cons_zero, List.set_cons_succ]
        refine wpAnyH_take (i := 4) (v := ?_) rfl (by kernel_rfl) (by kernel_rfl) (by kernel_rfl) (fun _ _ _ h => h) (Or.inl ⟨by rfl, ?_⟩) hS ?_
        rotate_left
        · (intro w hSw; (try dsimp only at hSw); go_simp; (first | done | with_reducible rfl))
        change wpAnyH _ _ _ _ _ _ _ (Act.put _ (some 66) _) _
        simp only [Act.put, List.setIfInBounds_toArray, List.set_cons_zero, List.set_cons_succ]
        refine wpAnyH_take (i := 5) (v := ?_) rfl (by kernel_rfl) (by kernel_rfl) (by kernel_rfl) (fun _ _ _ h => h) (Or.inl ⟨by rfl, ?_⟩) hS ?_
        rotate_left
        · (intro w hSw; (try dsimp only at hSw); go_simp; (first | done | with_reducible rfl))
        change wpAnyH _ _ _ _ _ _ _ (Act.put _ (some 67) _) _
        simp only [Act.put, List.setIfInBounds_toArray, List.set_cons_zero, List.set_cons_succ]
        refine wpAnyH_take (i := 6) (v := ?_) rfl (by kernel_rfl) (by kernel_rfl) (by kernel_rfl) (fun _ _ _ h => h) (Or.inl ⟨by rfl, ?_⟩) hS ?_
        rotate_left
        · (intro w hSw; (try dsimp only at hSw); go_simp; (first | done | with_reducible rfl))
        change wpAnyH _ _ _ _ _ _ _ (Act.put _ (some 68) _) _
        simp only [Act.put, List.setIfInBounds_toArray, List.set_cons_zero, List.set_cons_succ]
        refine wpAnyH_take (i := 7) (v := ?_) rfl (by kernel_rfl) (by kernel_rfl) (by kernel_rfl) (fun _ _ _ h => h) (Or.inl ⟨by rfl, ?_⟩) hS ?_
        rotate_left
        · (intro w hSw; (try dsimp only at hSw); go_simp; (first | done | with_reducible rfl))
        change wpAnyH _ _ _ _ _ _ _ (Act.put _ (some 69) _) _
        simp only [Act.put, List.setIfInBounds_toArray, List.set_cons_zero, List.set_cons_succ]
        refine wpAnyH_ready (rs := [3, 8]) (by kernel_rfl) (by simp) ?_
        refine AllReadyH.cons rfl (fun K hK => ?_) ?_
        · rw [if_pos (by rfl)]
          refine wp_append_fr _ (.const (.slice none 0 0)) (.tmp 64) 22 rfl w4.heap.size 3 (.int .i64 0) 8 Try.underlying22 infoInt rfl none 0 0 [] rfl (Fr.empty _ _ _ _) _ (M.o.l.length - 1) (M.o.c - 1) (cs .i64 (M.o.l.drop 1)) rfl (by rw [length_cs, List.length_drop]) ?hr1 (one_cs _ _) ?ca1 ?cb1 ?cc1 ?_
          case hr1 =>
            have hd := ((hM.o.rd.keep kq4).keep ky).drop (n := 1) (cap := M.o.c) (by rw [length_cs]; exact hM.o.inn.cap) (if M.o.c = 1 then some ⟨bo, oo, none⟩ else some ⟨bo, oo + 1, none⟩) (fun h => by rw [if_neg h, HOA.out]; rfl)
            rw [cs_drop] at hd
            exact hd
          case ca1 => unfold maxLen; omega
          case cb1 => omega
          case cc1 => exact ky.size
          intro A5 c5 v1 happ
          have kn := happ.keep (Keep.refl _) (Fr.empty _ _ _ _)
          have f5 := happ.fr
          rw [List.nil_append, Nat.zero_add] at f5
          clear happ
          refine hK.out _ _ ⟨kn.cell hS.1, kn.cell hS.2⟩ (fun hS => ?_)
          clear hK K
          change wpAnyH _ _ _ _ _ _ _ (Act.put _ (some 65) _) _
          try simp only [Act.put, List.setIfInBounds_toArray, List.set_cons_zero, List.set_cons_succ]
          try simp only [Nat.zero_add]
          replace ky := ky.trans kn
          clear kn
          refine wpAnyH_ready (rs := [8]) (by kernel_rfl) (by simp) ?_
          refine AllReadyH.cons rfl (fun K hK => ?_) AllReadyH.nil
          go_simp
          have kn : Keep v1 (v1.alloc (.cells #[.int .i64 x0] 3)) := Keep.alloc1 _ _
          have rb := Rd.one v1 (.int .i64 x0) 3
          refine hK.out _ _ ⟨kn.cell hS.1, kn.cell hS.2⟩ (fun hS => ?_)
          clear hK K
          try simp only [Act.put, List.setIfInBounds_toArray, List.set_cons_zero, List.set_cons_succ]
          generalize (v1.alloc (.cells #[.int .i64 x0] 3)) = v2 at rb kn hS ⊢
          generalize v1.heap.size = gb at rb ⊢
          replace ky := ky.trans kn
          replace f5 := f5.keep kn
          clear kn
          refine wpAnyH_ready (rs := [9]) (by kernel_rfl) (by simp) ?_
          refine AllReadyH.cons rfl (fun K hK => ?_) AllReadyH.nil
          rw [if_pos (by rfl)]
          refine wp_append_fr _ (.tmp 65) (.tmp 70) 22 rfl w4.heap.size 3 (.int .i64 0) 8 Try.underlying22 infoInt rfl A5 (M.o.l.length - 1) c5 _ rfl f5 (some ⟨gb, 0, none⟩) 1 1 [.int .i64 x0] rfl rfl rb (one_int _ _) ?ca3 ?cb3 ?cc3 ?_
          case ca3 => unfold maxLen; omega
          case cb3 => omega
          case cc3 => exact ky.size
          intro A6 c6 v3 happ
          have kn4 := happ.keep ky f5
          have f6 := happ.fr
          rw [← cs_one, ← cs_append] at f6
          have e6 : M.o.l.length - 1 + 1 = M.o.l.length := by omega
          rw [e6] at f6
          clear happ f5 rb
          refine hK.out _ _ ⟨kn4.cell e2, kn4.cell e0⟩ (fun hS => ?_)
          clear hK K
          change wpAnyH _ _ _ _ _ _ _ (Act.put _ (some 71) _) _
          try simp only [Act.put, List.setIfInBounds_toArray, List.set_cons_zero, List.set_cons_succ]
          rw [e6]
          clear e6
          replace ky := kn4
          clear kn4
          refine wpAnyH_take (i := 10) (v := ?_) rfl (by kernel_rfl) (by kernel_rfl) (by kernel_rfl) (fun _ _ _ h => h) (Or.inl ⟨by rfl, ?_⟩) hS ?_
          rotate_left
          · (intro w hSw; (try dsimp only at hSw); go_simp; (first | done | with_reducible rfl))
          change wpAnyH _ _ _ _ _ _ _ (Act.put _ (some 72) _) _
          simp only [Act.put, List.setIfInBounds_toArray, List.set_cons_zero, List.set_cons_succ]
          refine wpAnyH_ready (rs := [11]) (by kernel_rfl) (by simp) ?_
          refine AllReadyH.cons rfl (fun K hK => ?_) AllReadyH.nil
          have bq := bN4.keep ky
          have fq := bq.frozen 2
          have cq := bq.cell_ (i := 2) rfl
          go_simp
          refine hK.out _ _ ⟨(World.cell?_setCell_other v3 ⟨gN, 2, none⟩ ⟨gA, 2, none⟩ _ (fun e => by injection e with e1; exact hAN e1.symm)).trans hS.1, (World.cell?_setCell_other v3 ⟨gN, 2, none⟩ ⟨bo, oo, none⟩ _ (fun e => by injection e with e1; exact hON e1.symm)).trans hS.2⟩ (fun hS => ?_)
          clear hK K
          try simp only [Act.put, List.setIfInBounds_toArray]
          refine wpAnyH_done (by kernel_rfl) ?_ _
          refine NoPanic.normal ?_
          generalize (if M.o.c = 1 then (some ⟨bo, oo, none⟩ : Option Addr) else some ⟨bo, oo + 1, none⟩) = ax
          go_wp2_with fail
          go_meet
          exact ⟨A6, c6, v3, rfl, ky, f6⟩
        refine AllReadyH.cons rfl (fun K hK => ?_) ?_
        · go_simp
          have kn : Keep v0 (v0.alloc (.cells #[.int .i64 x0] 3)) := Keep.alloc1 _ _
          have rb := Rd.one v0 (.int .i64 x0) 3
          refine hK.out _ _ ⟨kn.cell hS.1, kn.cell hS.2⟩ (fun hS => ?_)
          clear hK K
          try simp only [Act.put, List.setIfInBounds_toArray, List.set_cons_zero, List.set_cons_succ]
          generalize (v0.alloc (.cells #[.int .i64 x0] 3)) = v5 at rb kn hS ⊢
          generalize v0.heap.size = gb at rb ⊢
          replace ky := ky.trans kn
          clear kn
          refine wpAnyH_ready (rs := [3]) (by kernel_rfl) (by simp) ?_
          refine AllReadyH.cons rfl (fun K hK => ?_) AllReadyH.nil
          rw [if_pos (by rfl)]
          refine wp_append_fr _ (.const (.slice none 0 0)) (.tmp 64) 22 rfl w4.heap.size 3 (.int .i64 0) 8 Try.underlying22 infoInt rfl none 0 0 [] rfl (Fr.empty _ _ _ _) _ (M.o.l.length - 1) (M.o.c - 1) (cs .i64 (M.o.l.drop 1)) rfl (by rw [length_cs, List.length_drop]) ?hr6 (one_cs _ _) ?ca6 ?cb6 ?cc6 ?_
          case hr6 =>
            have hd := ((hM.o.rd.keep kq4).keep ky).drop (n := 1) (cap := M.o.c) (by rw [length_cs]; exact hM.o.inn.cap) (if M.o.c = 1 then some ⟨bo, oo, none⟩ else some ⟨bo, oo + 1, none⟩) (fun h => by rw [if_neg h, HOA.out]; rfl)
            rw [cs_drop] at hd
            exact hd
          case ca6 => unfold maxLen; omega
          case cb6 => omega
          case cc6 => exact ky.size
          intro A5 c5 v6 happ
          have kn := happ.keep (Keep.refl _) (Fr.empty _ _ _ _)
          have f5 := happ.fr
          rw [List.nil_append, Nat.zero_add] at f5
          clear happ
          refine hK.out _ _ ⟨kn.cell hS.1, kn.cell hS.2⟩ (fun hS => ?_)
          clear hK K
          change wpAnyH _ _ _ _ _ _ _ (Act.put _ (some 65) _) _
          try simp only [Act.put, List.setIfInBounds_toArray, List.set_cons_zero, List.set_cons_succ]
          try simp only [Nat.zero_add]
          replace ky := ky.trans kn
          replace rb := rb.keep kn
          clear kn
          refine wpAnyH_ready (rs := [9]) (by kernel_rfl) (by simp) ?_
          refine AllReadyH.cons rfl (fun K hK => ?_) AllReadyH.nil
          rw [if_pos (by rfl)]
          refine wp_append_fr _ (.tmp 65) (.tmp 70) 22 rfl w4.heap.size 3 (.int .i64 0) 8 Try.underlying22 infoInt rfl A5 (M.o.l.length - 1) c5 _ rfl f5 (some ⟨gb, 0, none⟩) 1 1 [.int .i64 x0] rfl rfl rb (one_int _ _) ?ca7 ?cb7 ?cc7 ?_
          case ca7 => unfold maxLen; omega
          case cb7 => omega
          case cc7 => exact ky.size
          intro A6 c6 v7 happ
          have kn4 := happ.keep ky f5
          have f6 := happ.fr
          rw [← cs_one, ← cs_append] at f6
          have e6 : M.o.l.length - 1 + 1 = M.o.l.length := by omega
          rw [e6] at f6
          clear happ f5 rb
          refine hK.out _ _ ⟨kn4.cell e2, kn4.cell e0⟩ (fun hS => ?_)
          clear hK K
          change wpAnyH _ _ _ _ _ _ _ (Act.put _ (some 71) _) _
          try simp only [Act.put, List.setIfInBounds_toArray, List.set_cons_zero, List.set_cons_succ]
          rw [e6]
          clear e6
          replace ky := kn4
          clear kn4
          refine wpAnyH_take (i := 10) (v := ?_) rfl (by kernel_rfl) (by kernel_rfl) (by kernel_rfl) (fun _ _ _ h => h) (Or.inl ⟨by rfl, ?_⟩) hS ?_
          rotate_left
          · (intro w hSw; (try dsimp only at hSw); go_simp; (first | done | with_reducible rfl))
          change wpAnyH _ _ _ _ _ _ _ (Act.put _ (some 72) _) _
          simp only [Act.put, List.setIfInBounds_toArray, List.set_cons_zero, List.set_cons_succ]
          refine wpAnyH_ready (rs := [11]) (by kernel_rfl) (by simp) ?_
          refine AllReadyH.cons rfl (fun K hK => ?_) AllReadyH.nil
          have bq := bN4.keep ky
          have fq := bq.frozen 2
          have cq := bq.cell_ (i := 2) rfl
          go_simp
          refine hK.out _ _ ⟨(World.cell?_setCell_other v7 ⟨gN, 2, none⟩ ⟨gA, 2, none⟩ _ (fun e => by injection e with e1; exact hAN e1.symm)).trans hS.1, (World.cell?_setCell_other v7 ⟨gN, 2, none⟩ ⟨bo, oo, none⟩ _ (fun e => by injection e with e1; exact hON e1.symm)).trans hS.2⟩ (fun hS => ?_)
          clear hK K
          try simp only [Act.put, List.setIfInBounds_toArray]
          refine wpAnyH_done (by kernel_rfl) ?_ _
          refine NoPanic.normal ?_
          generalize (if M.o.c = 1 then (some ⟨bo, oo, none⟩ : Option Addr) else some ⟨bo, oo + 1, none⟩) = ax
          go_wp2_with fail
          go_meet
          exact ⟨A6, c6, v7, rfl, ky, f6⟩
        exact AllReadyH.nil
      case rest =>
      obtain ⟨A6, c6, w5, rfl, k45, f6⟩ := hcut
      have hl2 : (M.o.l.drop 1 ++ [x0]).length = M.o.l.length := by rw [List.length_append, List.length_drop]; simp; omega
      have hN' : Mkt.Ok (w5.setCell ⟨gN, 2, none⟩ (.slice A6 M.o.l.length c6)) (⟨N.r, some ⟨gB, 0, none⟩, N.bc, N.bs.set k s, ⟨A6, c6, M.o.l.drop 1 ++ [x0]⟩⟩ : Mkt) := by
        have e4 := hw4.out
        rw [← e4] at k45
        refine tN.other (o := ⟨A6, c6, M.o.l.drop 1 ++ [x0]⟩) hM hs (by rw [HNL.out]; exact hk1) (by rw [HNL.out]; exact hz2) hB1 hN1 kq k45 (bN4.keep (by rw [← e4]; exact k45)) (by show Fr _ _ _ _ (M.o.l.drop 1 ++ [x0]).length _ _; rw [hl2]; exact f6.mono kq4.size) (fun x hx => ?_)
        rcases List.mem_append.1 hx with hx | hx
        · exact hM.o.inn.wf x (List.mem_of_mem_drop hx)
        · rw [List.mem_singleton] at hx
          rw [hx]
          exact hM.o.inn.wf x0 (List.mem_of_getElem? HX0.out)
      have bN6 := (bN4.keep k45).set_ 2 (.slice A6 M.o.l.length c6)
      simp only [List.set_cons_succ, List.set_cons_zero] at bN6
      have k6 : Keep w1 (w5.setCell ⟨gN, 2, none⟩ (.slice A6 M.o.l.length c6)) := (kq4.trans k45).setCell (p := ⟨gN, 2, none⟩) hN1 _
      generalize w5.setCell ⟨gN, 2, none⟩ (.slice A6 M.o.l.length c6) = w6 at hN' bN6 k6 ⊢
      have hv : (⟨N.r, some ⟨gB, 0, none⟩, N.bc, N.bs.set k s, ⟨A6, c6, M.o.l.drop 1 ++ [x0]⟩⟩ : Mkt).val = .agg #[.slice N.r.a N.r.l.length N.r.c, .slice (some ⟨gB, 0, none⟩) M.bs.length N.bc, .slice A6 M.o.l.length c6] := by
        unfold Mkt.val
        simp only [List.length_set, hl2, HNL.out]
      have hcN : chkM N.r.l (bidsOf (N.bs.set k s)) (M.o.l.drop 1 ++ [x0]) = (decide (s.l.length = 0) || chk s.l M.r.l.length) := by
        rw [tN.r, bids_set, tN.b]
        exact chkM_other s.l (by rw [length_bids]; exact hk1) (perm_rot HX0.out) HC.out
      have hgN : gainsM N.r.l (bidsOf (N.bs.set k s)) = gainsM M.r.l ((bidsOf M.bs).set k s.l) := by rw [tN.r, bids_set, tN.b]
      replace bM := bM.keep k6
      replace hM := hM.keep k6
      replace hs := hs.keep k6
      replace hA := hA.keep k6
      replace kk := kk.trans k6
      clear k6 k45 f6 bN4 hN1 hB1 hB2 kq kq4 hw4 e2 e0 hc0 c0 c1 c2 bN tN hz2 hAN hON hNB y1 y2 y3 y4 y5 HX0 HOA HB hl2 ho1 ho8 HO
      obtain ⟨d, hd⟩ : ∃ d, d = (decide (s.l.length = 0) || chk s.l M.r.l.length) := ⟨_, rfl⟩
      rw [← hd] at hcN
      have HD := Lib.hid hd
      clear hd
      have HMO := Lib.hid hM
      cases d with
      | true =>
        have hq := gains_yes (⟨N.r, some ⟨gB, 0, none⟩, N.bc, N.bs.set k s, ⟨A6, c6, M.o.l.drop 1 ++ [x0]⟩⟩ : Mkt) w6 hN' hcN
        rw [hv] at hq
        clear HMO hv
        have c0 := bN6.cell_ (i := 0) rfl
        have c1 := bN6.cell_ (i := 1) rfl
        have c2 := bN6.cell_ (i := 2) rfl
        go_wp2_with fail
        refine hq.mono ?_
        rintro e w7 ⟨gb, sb, rfl, hSB, hsb, kq⟩
        clear hq bN6 hN'
        clear c0 c1 c2
        replace bM := bM.keep kq
        replace hM := hM.keep kq
        replace hs := hs.keep kq
        replace hA := hA.keep kq
        replace kk := kk.trans kq
        clear kq
        have HSB : Hid (bidsOf sb = gainsM M.r.l ((bidsOf M.bs).set k s.l)) := Lib.hid (hsb.trans hgN)
        have lb2 : sb.length = M.bs.length := by rw [← length_bids, HSB.out, length_gainsM, List.length_set, length_bids]
        have HLB := Lib.hid lb2
        clear hsb hgN lb2 hcN
        have c0 := bM.cell_ (i := 0) rfl
        have c1 := bM.cell_ (i := 1) rfl
        have c2 := bM.cell_ (i := 2) rfl
        have hq := without_ok M k w7 hM HC.out hk1
        unfold Mkt.val at hq
        go_wp2_with fail
        refine hq.mono ?_
        rintro e w8 ⟨O, rfl, hO, o1, o2, o3, kq⟩
        clear hq
        try unfold Mkt.val
        clear c0 c1 c2
        replace bM := bM.keep kq
        replace hM := hM.keep kq
        replace hs := hs.keep kq
        replace hA := hA.keep kq
        replace hSB := hSB.keep kq
        replace kk := kk.trans kq
        clear kq
        have RO := Lib.hid (And.intro o1 (And.intro o2 o3))
        clear o1 o2 o3
        go_upto_region 10 with fail
        have bO := Blk.new w8 62 [.slice O.r.a O.r.l.length O.r.c, .slice O.ba O.bs.length O.bc, .slice O.o.a O.o.l.length O.o.c]
        have kn : Keep w8 (w8.alloc (.cells #[.slice O.r.a O.r.l.length O.r.c, .slice O.ba O.bs.length O.bc, .slice O.o.a O.o.l.length O.o.c] 62)) := Keep.alloc1 _ _
        change Code.wp _ _ _ _ (w8.alloc (.cells #[.slice O.r.a O.r.l.length O.r.c, .slice O.ba O.bs.length O.bc, .slice O.o.a O.o.l.length O.o.c] 62))
        generalize w8.alloc (.cells #[.slice O.r.a O.r.l.length O.r.c, .slice O.ba O.bs.length O.bc, .slice O.o.a O.o.l.length O.o.c] 62) = w9 at bO kn ⊢
        generalize w8.heap.size = gbO at bO ⊢
        replace bM := bM.keep kn
        replace hM := hM.keep kn
        replace hs := hs.keep kn
        replace hA := hA.keep kn
        replace hSB := hSB.keep kn
        replace hO := hO.keep kn
        replace kk := kk.trans kn
        clear kn
        have CO := Lib.hid (chkM_out (p := k) HC.out RO.out)
        have c0 := bO.cell_ (i := 0) rfl
        have c1 := bO.cell_ (i := 1) rfl
        have c2 := bO.cell_ (i := 2) rfl
        have hq := gains_yes O w9 hO CO.out
        unfold Mkt.val at hq
        go_wp2_with fail
        refine hq.mono ?_
        rintro e w10 ⟨gc, sc, rfl, hSC, hsc, kq⟩
        clear hq
        clear c0 c1 c2
        replace bM := bM.keep kq
        replace hM := hM.keep kq
        replace hs := hs.keep kq
        replace hA := hA.keep kq
        replace hSB := hSB.keep kq
        replace hO := hO.keep kq
        replace bO := bO.keep kq
        replace kk := kk.trans kq
        clear kq
        have HSC : Hid (bidsOf sc = gainsM M.r.l ((bidsOf M.bs).set k [])) := Lib.hid (by rw [hsc, RO.out.1, RO.out.2.1])
        have lc : sc.length = M.bs.length := by rw [← length_bids, HSC.out, length_gainsM, List.length_set, length_bids]
        have hlc : ((sc.length : Int) != sa.length) = false := by simp [lc, HL.out]
        have HLC := Lib.hid lc
        clear hsc lc
        have hlb : ((sb.length : Int) != sa.length) = false := by simp [HLB.out, HL.out]
        have c0 := bM.cell_ (i := 0) rfl
        go_upto_region 11 with fail
        go_cut [127] from 89 to 126 (fun v wx => v = .bool false ∧ Keep w10 wx)
        case first =>
          have hq := check_f s.a s.c s.l (M.r.l.length : Int) w10 hs.rd hs.len (WalkArith.wf_i64 (by have := hM.r.len.le; omega))
          by_cases hl0 : s.l.length = 0
          · have z5 : ((s.l.length : Int) == 0) = true := beq_iff_eq.2 (by omega)
            have z6 : (s.l.length = 0) = True := eq_true hl0
            clear hq hl0
            go_wp2_with fail
            go_meet
            exact ⟨rfl, Keep.refl _⟩
          · have z5 : ((s.l.length : Int) == 0) = false := beq_eq_false_iff_ne.2 (by omega)
            have hck1 : chk s.l M.r.l.length = true := by have := HD.out; rw [decide_eq_false hl0, Bool.false_or] at this; exact this.symm
            rw [hck1] at hq
            clear hck1
            have z6 : (s.l.length = 0) = False := eq_false hl0
            go_wp2_with fail
            refine hq.mono ?_
            rintro e w11 ⟨rfl, kq⟩
            go_wp2_with fail
            go_meet
            exact ⟨rfl, kq⟩
        case rest =>
        obtain ⟨rfl, kq⟩ := hcut
        clear bO hO hs RO CO c0
        replace bM := bM.keep kq
        replace hM := hM.keep kq
        replace hA := hA.keep kq
        replace hSB := hSB.keep kq
        replace hSC := hSC.keep kq
        replace kk := kk.trans kq
        clear kq
        obtain ⟨w11, hw11⟩ : ∃ x, x = wc := ⟨wc, rfl⟩
        subst hw11
        go_wp2_with fail
        go_loopw [17] (fun v wr => ∃ i : Nat, i ≤ sa.length ∧ v = .int .i64 i ∧ Keep w11 wr) (fun v _ => sa.length - (intOf v).toNat)
        case atStart => exact ⟨0, Nat.zero_le _, rfl, Keep.refl _⟩
        case round =>
          obtain ⟨i, hi, rfl, hkeep⟩ := hrel
          by_cases hlt : i < sa.length
          · have hA1 := hA.keep hkeep
            have hC1 := hSC.keep hkeep
            obtain ⟨b1, o1, a1, e1, hai, ca, hoa⟩ := hA1.at_ hlt
            cases e1
            rw [Nat.zero_add] at ca
            obtain ⟨b1, o1, a2, e1, hci, cc, hoc⟩ := hC1.at_ (show i < sc.length by rw [HLC.out, ← HL.out]; exact hlt)
            cases e1
            rw [Nat.zero_add] at cc
            have y1 : (i : Int) < sa.length := by omega
            have y2 : (i : Int) < sc.length := by rw [HLC.out, ← HL.out]; exact y1
            have y0 : (0 : Int) ≤ i := by omega
            have y4 : (i : Int) ≤ 8 := by have := HL.out; omega
            obtain ⟨b1, o1, a3, e1, hbi, cb, hob⟩ := (hSB.keep hkeep).at_ (show i < sb.length by rw [HLB.out, ← HL.out]; exact hlt)
            cases e1
            rw [Nat.zero_add] at cb
            have y3 : (i : Int) < sb.length := by rw [HLB.out, ← HL.out]; exact y1
            have ea : (gainsM M.r.l (bidsOf M.bs))[i]? = some a1.l := by rw [← HA.out, bidsOf, List.getElem?_map, hai]; rfl
            have ec : (gainsM M.r.l ((bidsOf M.bs).set k []))[i]? = some a2.l := by rw [← HSC.out, bidsOf, List.getElem?_map, hci]; rfl
            have eb : (gainsM M.r.l ((bidsOf M.bs).set k s.l))[i]? = some a3.l := by rw [← HSB.out, bidsOf, List.getElem?_map, hbi]; rfl
            have la2 := hoc.len.le
            have HCI := Lib.hid hci
            clear hai hci hbi
            go_upto_region 16 with fail
            go_cut [164] from 134 to 163 (fun v wx => v = .bool false ∧ Keep wr wx)
            case first =>
              by_cases hik : i = k
              · have z5 : ((i : Int) != k) = false := by simp [hik]
                clear hik
                refine wp_region_noPanic ?_
                refine wp_region_held_drew (S := (fun w' => w'.cell? ⟨ga, i, none⟩ = some (.slice a1.a a1.l.length a1.c) ∧ w'.cell? ⟨gc, i, none⟩ = some (.slice a2.a a2.l.length a2.c) ∧ w'.cell? ⟨gb, i, none⟩ = some (.slice a3.a a3.l.length a3.c))) (by kernel_rfl) ⟨ca, cc, cb⟩ (fun hS => ?_)
                refine wpAnyH_take (i := 0) (v := ?_) rfl (by kernel_rfl) (by kernel_rfl) (by kernel_rfl) (fun _ _ _ h => h) (Or.inl ⟨by rfl, ?_⟩) hS ?_
                rotate_left
                · (intro w hSw; (try dsimp only at hSw); go_simp; (first | done | with_reducible rfl))
                change wpAnyH _ _ _ _ _ _ _ (Act.put _ (some 134) _) _
                simp only [Act.put, List.setIfInBounds_toArray, List.set_cons_zero, List.set_cons_succ]
                refine wpAnyH_take (i := 1) (v := ?_) rfl (by kernel_rfl) (by kernel_rfl) (by kernel_rfl) (fun _ _ _ h => h) (Or.inl ⟨by rfl, ?_⟩) hS ?_
                rotate_left
                · (intro w hSw; (try dsimp only at hSw); go_simp; (first | done | with_reducible rfl))
                change wpAnyH _ _ _ _ _ _ _ (Act.put _ (some 135) _) _
                simp only [Act.put, List.setIfInBounds_toArray, List.set_cons_zero, List.set_cons_succ]
                refine wpAnyH_take (i := 2) (v := ?_) rfl (by kernel_rfl) (by kernel_rfl) (by kernel_rfl) (fun _ _ _ h => h) (Or.inl ⟨by rfl, ?_⟩) hS ?_
                rotate_left
                · (intro w hSw; (try dsimp only at hSw); go_simp; (first | done | with_reducible rfl))
                change wpAnyH _ _ _ _ _ _ _ (Act.put _ (some 136) _) _
                simp only [Act.put, List.setIfInBounds_toArray, List.set_cons_zero, List.set_cons_succ]
                refine wpAnyH_take (i := 3) (v := ?_) rfl (by kernel_rfl) (by kernel_rfl) (by kernel_rfl) (fun _ _ _ h => h) (Or.inl ⟨by rfl, ?_⟩) hS ?_
                rotate_left
                · (intro w hSw; (try dsimp only at hSw); go_simp; (first | done | with_reducible rfl))
                change wpAnyH _ _ _ _ _ _ _ (Act.put _ (some 137) _) _
                simp only [Act.put, List.setIfInBounds_toArray, List.set_cons_zero, List.set_cons_succ]
                refine wpAnyH_take (i := 4) (v := undef) rfl (by kernel_rfl) (by kernel_rfl) (by kernel_rfl) (fun _ _ _ h => h) (Or.inr ⟨by rfl, rfl⟩) hS ?_
                change wpAnyH _ _ _ _ _ _ _ (Act.put _ (some 138) _) _
                simp only [Act.put, List.setIfInBounds_toArray, List.set_cons_zero, List.set_cons_succ]
                refine wpAnyH_take (i := 5) (v := undef) rfl (by kernel_rfl) (by kernel_rfl) (by kernel_rfl) (fun _ _ _ h => h) (Or.inr ⟨by rfl, rfl⟩) hS ?_
                change wpAnyH _ _ _ _ _ _ _ (Act.put _ (some 139) _) _
                simp only [Act.put, List.setIfInBounds_toArray, List.set_cons_zero, List.set_cons_succ]
                refine wpAnyH_take (i := 6) (v := undef) rfl (by kernel_rfl) (by kernel_rfl) (by kernel_rfl) (fun _ _ _ h => h) (Or.inr ⟨by rfl, rfl⟩) hS ?_
                change wpAnyH _ _ _ _ _ _ _ (Act.put _ (some 140) _) _
                simp only [Act.put, List.setIfInBounds_toArray, List.set_cons_zero, List.set_cons_succ]
                refine wpAnyH_take (i := 7) (v := undef) rfl (by kernel_rfl) (by kernel_rfl) (by kernel_rfl) (fun _ _ _ h => h) (Or.inr ⟨by rfl, rfl⟩) hS ?_
                change wpAnyH _ _ _ _ _ _ _ (Act.put _ (some 141) _) _
                simp only [Act.put, List.setIfInBounds_toArray, List.set_cons_zero, List.set_cons_succ]
                refine wpAnyH_take (i := 8) (v := undef) rfl (by kernel_rfl) (by kernel_rfl) (by kernel_rfl) (fun _ _ _ h => h) (Or.inr ⟨by rfl, rfl⟩) hS ?_
                change wpAnyH _ _ _ _ _ _ _ (Act.put _ (some 142) _) _
                simp only [Act.put, List.setIfInBounds_toArray, List.set_cons_zero, List.set_cons_succ]
                refine wpAnyH_take (i := 9) (v := undef) rfl (by kernel_rfl) (by kernel_rfl) (by kernel_rfl) (fun _ _ _ h => h) (Or.inr ⟨by rfl, rfl⟩) hS ?_
                change wpAnyH _ _ _ _ _ _ _ (Act.put _ (some 143) _) _
                simp only [Act.put, List.setIfInBounds_toArray, List.set_cons_zero, List.set_cons_succ]
                refine wpAnyH_take (i := 10) (v := undef) rfl (by kernel_rfl) (by kernel_rfl) (by kernel_rfl) (fun _ _ _ h => h) (Or.inr ⟨by rfl, rfl⟩) hS ?_
                change wpAnyH _ _ _ _ _ _ _ (Act.put _ (some 144) _) _
                simp only [Act.put, List.setIfInBounds_toArray, List.set_cons_zero, List.set_cons_succ]
                refine wpAnyH_take (i := 11) (v := undef) rfl (by kernel_rfl) (by kernel_rfl) (by kernel_rfl) (fun _ _ _ h => h) (Or.inr ⟨by rfl, rfl⟩) hS ?_
                change wpAnyH _ _ _ _ _ _ _ (Act.put _ (some 145) _) _
                simp only [Act.put, List.setIfInBounds_toArray, List.set_cons_zero, List.set_cons_succ]
                refine wpAnyH_take (i := 12) (v := undef) rfl (by kernel_rfl) (by kernel_rfl) (by kernel_rfl) (fun _ _ _ h => h) (Or.inr ⟨by rfl, rfl⟩) hS ?_
                change wpAnyH _ _ _ _ _ _ _ (Act.put _ (some 146) _) _
                simp only [Act.put, List.setIfInBounds_toArray, List.set_cons_zero, List.set_cons_succ]
                refine wpAnyH_take (i := 13) (v := undef) rfl (by kernel_rfl) (by kernel_rfl) (by kernel_rfl) (fun _ _ _ h => h) (Or.inr ⟨by rfl, rfl⟩) hS ?_
                change wpAnyH _ _ _ _ _ _ _ (Act.put _ (some 147) _) _
                simp only [Act.put, List.setIfInBounds_toArray, List.set_cons_zero, List.set_cons_succ]
                refine wpAnyH_take (i := 14) (v := undef) rfl (by kernel_rfl) (by kernel_rfl) (by kernel_rfl) (fun _ _ _ h => h) (Or.inr ⟨by rfl, rfl⟩) hS ?_
                change wpAnyH _ _ _ _ _ _ _ (Act.put _ (some 148) _) _
                simp only [Act.put, List.setIfInBounds_toArray, List.set_cons_zero, List.set_cons_succ]
                refine wpAnyH_take (i := 15) (v := undef) rfl (by kernel_rfl) (by kernel_rfl) (by kernel_rfl) (fun _ _ _ h => h) (Or.inr ⟨by rfl, rfl⟩) hS ?_
                change wpAnyH _ _ _ _ _ _ _ (Act.put _ (some 149) _) _
                simp only [Act.put, List.setIfInBounds_toArray, List.set_cons_zero, List.set_cons_succ]
                refine wpAnyH_take (i := 16) (v := undef) rfl (by kernel_rfl) (by kernel_rfl) (by kernel_rfl) (fun _ _ _ h => h) (Or.inr ⟨by rfl, rfl⟩) hS ?_
                change wpAnyH _ _ _ _ _ _ _ (Act.put _ (some 150) _) _
                simp only [Act.put, List.setIfInBounds_toArray, List.set_cons_zero, List.set_cons_succ]
                refine wpAnyH_take (i := 17) (v := undef) rfl (by kernel_rfl) (by kernel_rfl) (by kernel_rfl) (fun _ _ _ h => h) (Or.inr ⟨by rfl, rfl⟩) hS ?_
                change wpAnyH _ _ _ _ _ _ _ (Act.put _ (some 151) _) _
                simp only [Act.put, List.setIfInBounds_toArray, List.set_cons_zero, List.set_cons_succ]
                refine wpAnyH_take (i := 18) (v := undef) rfl (by kernel_rfl) (by kernel_rfl) (by kernel_rfl) (fun _ _ _ h => h) (Or.inr ⟨by rfl, rfl⟩) hS ?_
                change wpAnyH _ _ _ _ _ _ _ (Act.put _ (some 152) _) _
                simp only [Act.put, List.setIfInBounds_toArray, List.set_cons_zero, List.set_cons_succ]
                refine wpAnyH_take (i := 19) (v := undef) rfl (by kernel_rfl) (by kernel_rfl) (by kernel_rfl) (fun _ _ _ h => h) (Or.inr ⟨by rfl, rfl⟩) hS ?_
                change wpAnyH _ _ _ _ _ _ _ (Act.put _ (some 153) _) _
                simp only [Act.put, List.setIfInBounds_toArray, List.set_cons_zero, List.set_cons_succ]
                refine wpAnyH_take (i := 20) (v := undef) rfl (by kernel_rfl) (by kernel_rfl) (by kernel_rfl) (fun _ _ _ h => h) (Or.inr ⟨by rfl, rfl⟩) hS ?_
                change wpAnyH _ _ _ _ _ _ _ (Act.put _ (some 154) _) _
                simp only [Act.put, List.setIfInBounds_toArray, List.set_cons_zero, List.set_cons_succ]
                refine wpAnyH_take (i := 21) (v := undef) rfl (by kernel_rfl) (by kernel_rfl) (by kernel_rfl) (fun _ _ _ h => h) (Or.inr ⟨by rfl, rfl⟩) hS ?_
                change wpAnyH _ _ _ _ _ _ _ (Act.put _ (some 155) _) _
                simp only [Act.put, List.setIfInBounds_toArray, List.set_cons_zero, List.set_cons_succ]
                refine wpAnyH_take (i := 22) (v := undef) rfl (by kernel_rfl) (by kernel_rfl) (by kernel_rfl) (fun _ _ _ h => h) (Or.inr ⟨by rfl, rfl⟩) hS ?_
                change wpAnyH _ _ _ _ _ _ _ (Act.put _ (some 156) _) _
                simp only [Act.put, List.setIfInBounds_toArray, List.set_cons_zero, List.set_cons_succ]
                refine wpAnyH_take (i := 23) (v := undef) rfl (by kernel_rfl) (by kernel_rfl) (by kernel_rfl) (fun _ _ _ h => h) (Or.inr ⟨by rfl, rfl⟩) hS ?_
                change wpAnyH _ _ _ _ _ _ _ (Act.put _ (some 157) _) _
                simp only [Act.put, List.setIfInBounds_toArray, List.set_cons_zero, List.set_cons_succ]
                refine wpAnyH_take (i := 24) (v := undef) rfl (by kernel_rfl) (by kernel_rfl) (by kernel_rfl) (fun _ _ _ h => h) (Or.inr ⟨by rfl, rfl⟩) hS ?_
                change wpAnyH _ _ _ _ _ _ _ (Act.put _ (some 158) _) _
                simp only [Act.put, List.setIfInBounds_toArray, List.set_cons_zero, List.set_cons_succ]
                refine wpAnyH_take (i := 25) (v := undef) rfl (by kernel_rfl) (by kernel_rfl) (by kernel_rfl) (fun _ _ _ h => h) (Or.inr ⟨by rfl, rfl⟩) hS ?_
                change wpAnyH _ _ _ _ _ _ _ (Act.put _ (some 159) _) _
                simp only [Act.put, List.setIfInBounds_toArray, List.set_cons_zero, List.set_cons_succ]
                refine wpAnyH_take (i := 26) (v := undef) rfl (by kernel_rfl) (by kernel_rfl) (by kernel_rfl) (fun _ _ _ h => h) (Or.inr ⟨by rfl, rfl⟩) hS ?_
                change wpAnyH _ _ _ _ _ _ _ (Act.put _ (some 160) _) _
                simp only [Act.put, List.setIfInBounds_toArray, List.set_cons_zero, List.set_cons_succ]
                refine wpAnyH_take (i := 27) (v := undef) rfl (by kernel_rfl) (by kernel_rfl) (by kernel_rfl) (fun _ _ _ h => h) (Or.inr ⟨by rfl, rfl⟩) hS ?_
                change wpAnyH _ _ _ _ _ _ _ (Act.put _ (some 161) _) _
                simp only [Act.put, List.setIfInBounds_toArray, List.set_cons_zero, List.set_cons_succ]
                refine wpAnyH_take (i := 28) (v := undef) rfl (by kernel_rfl) (by kernel_rfl) (by kernel_rfl) (fun _ _ _ h => h) (Or.inr ⟨by rfl, rfl⟩) hS ?_
                change wpAnyH _ _ _ _ _ _ _ (Act.put _ (some 162) _) _
                simp only [Act.put, List.setIfInBounds_toArray, List.set_cons_zero, List.set_cons_succ]
                refine wpAnyH_take (i := 29) (v := undef) rfl (by kernel_rfl) (by kernel_rfl) (by kernel_rfl) (fun _ _ _ h => h) (Or.inr ⟨by rfl, rfl⟩) hS ?_
                change wpAnyH _ _ _ _ _ _ _ (Act.put _ (some 163) _) _
                simp only [Act.put, List.setIfInBounds_toArray, List.set_cons_zero, List.set_cons_succ]
                refine wpAnyH_take (i := 30) (v := ?_) rfl (by kernel_rfl) (by kernel_rfl) (by kernel_rfl) (fun _ _ _ h => h) (Or.inl ⟨by rfl, ?_⟩) hS ?_
                rotate_left
                · (intro w hSw; (try dsimp only at hSw); go_simp; (first | done | with_reducible rfl))
                change wpAnyH _ _ _ _ _ _ _ (Act.put _ (some 164) _) _
                simp only [Act.put, List.setIfInBounds_toArray, List.set_cons_zero, List.set_cons_succ]
                refine wpAnyH_done (by kernel_rfl) ?_ _
                refine NoPanic.normal ?_
                go_wp2_with fail
                go_meet
                exact ⟨rfl, (Keep.refl _).drew⟩
              · have z5 : ((i : Int) != k) = true := by simp; omega
                have h12 : a1.l = a2.l := Option.some.inj (ea.symm.trans ((gains_other hik).symm.trans ec))
                have h13 : a1.l = a3.l := Option.some.inj (ea.symm.trans ((gains_other hik).symm.trans eb))
                have H12 := Lib.hid h12
                have H13 := Lib.hid h13
                clear h13
                have l1 : a1.l.length ≤ 8 := by have := row_len ea; have := HR8.out; omega
                have l2 : a2.l.length ≤ 8 := by have := row_len ec; have := HR8.out; omega
                have l3 : a3.l.length ≤ 8 := by have := row_len eb; have := HR8.out; omega
                clear h12 hik
                refine wp_region_noPanic ?_
                refine wp_region_held_drew (S := (fun w' => w'.cell? ⟨ga, i, none⟩ = some (.slice a1.a a1.l.length a1.c) ∧ w'.cell? ⟨gc, i, none⟩ = some (.slice a2.a a2.l.length a2.c) ∧ w'.cell? ⟨gb, i, none⟩ = some (.slice a3.a a3.l.length a3.c))) (by kernel_rfl) ⟨ca, cc, cb⟩ (fun hS => ?_)
                have kz : Keep wr wr.drew := (Keep.refl _).drew
                generalize wr.drew = v0 at hS kz ⊢
                refine wpAnyH_take (i := 0) (v := ?_) rfl (by kernel_rfl) (by kernel_rfl) (by kernel_rfl) (fun _ _ _ h => h) (Or.inl ⟨by rfl, ?_⟩) hS ?_
                rotate_left
                · (intro w hSw; (try dsimp only at hSw); go_simp; (first | done | with_reducible rfl))
                change wpAnyH _ _ _ _ _ _ _ (Act.put _ (some 134) _) _
                simp only [Act.put, List.setIfInBounds_toArray, List.set_cons_zero, List.set_cons_succ]
                refine wpAnyH_take (i := 1) (v := ?_) rfl (by kernel_rfl) (by kernel_rfl) (by kernel_rfl) (fun _ _ _ h => h) (Or.inl ⟨by rfl, ?_⟩) hS ?_
                rotate_left
                · (intro w hSw; (try dsimp only at hSw); go_simp; (first | done | with_reducible rfl))
                change wpAnyH _ _ _ _ _ _ _ (Act.put _ (some 135) _) _
                simp only [Act.put, List.setIfInBounds_toArray, List.set_cons_zero, List.set_cons_succ]
                refine wpAnyH_take (i := 2) (v := ?_) rfl (by kernel_rfl) (by kernel_rfl) (by kernel_rfl) (fun _ _ _ h => h) (Or.inl ⟨by rfl, ?_⟩) hS ?_
                rotate_left
                · (intro w hSw; (try dsimp only at hSw); go_simp; (first | done | with_reducible rfl))
                change wpAnyH _ _ _ _ _ _ _ (Act.put _ (some 136) _) _
                simp only [Act.put, List.setIfInBounds_toArray, List.set_cons_zero, List.set_cons_succ]
                refine wpAnyH_take (i := 3) (v := ?_) rfl (by kernel_rfl) (by kernel_rfl) (by kernel_rfl) (fun _ _ _ h => h) (Or.inl ⟨by rfl, ?_⟩) hS ?_
                rotate_left
                · (intro w hSw; (try dsimp only at hSw); go_simp; (first | done | with_reducible rfl))
                change wpAnyH _ _ _ _ _ _ _ (Act.put _ (some 137) _) _
                simp only [Act.put, List.setIfInBounds_toArray, List.set_cons_zero, List.set_cons_succ]
                refine wpAnyH_take (i := 4) (v := ?_) rfl (by kernel_rfl) (by kernel_rfl) (by kernel_rfl) (fun _ _ _ h => h) (Or.inl ⟨by rfl, ?_⟩) hS ?_
                rotate_left
                · (intro w hSw; (try dsimp only at hSw); go_simp; (first | done | with_reducible rfl))
                change wpAnyH _ _ _ _ _ _ _ (Act.put _ (some 138) _) _
                simp only [Act.put, List.setIfInBounds_toArray, List.set_cons_zero, List.set_cons_succ]
                refine wpAnyH_take (i := 5) (v := ?_) rfl (by kernel_rfl) (by kernel_rfl) (by kernel_rfl) (fun _ _ _ h => h) (Or.inl ⟨by rfl, ?_⟩) hS ?_
                rotate_left
                · (intro w hSw; (try dsimp only at hSw); go_simp; (first | done | with_reducible rfl))
                change wpAnyH _ _ _ _ _ _ _ (Act.put _ (some 139) _) _
                simp only [Act.put, List.setIfInBounds_toArray, List.set_cons_zero, List.set_cons_succ]
                refine wpAnyH_take (i := 6) (v := ?_) rfl (by kernel_rfl) (by kernel_rfl) (by kernel_rfl) (fun _ _ _ h => h) (Or.inl ⟨by rfl, ?_⟩) hS ?_
                rotate_left
                · (intro w hSw; (try dsimp only at hSw); go_simp; (first | done | with_reducible rfl))
                change wpAnyH _ _ _ _ _ _ _ (Act.put _ (some 140) _) _
                simp only [Act.put, List.setIfInBounds_toArray, List.set_cons_zero, List.set_cons_succ]
                refine wpAnyH_take (i := 7) (v := ?_) rfl (by kernel_rfl) (by kernel_rfl) (by kernel_rfl) (fun _ _ _ h => h) (Or.inl ⟨by rfl, ?_⟩) hS ?_
                rotate_left
                · (intro w hSw; (try dsimp only at hSw); go_simp; (first | done | with_reducible rfl))
                change wpAnyH _ _ _ _ _ _ _ (Act.put _ (some 141) _) _
                simp only [Act.put, List.setIfInBounds_toArray, List.set_cons_zero, List.set_cons_succ]
                refine wpAnyH_take (i := 8) (v := ?_) rfl (by kernel_rfl) (by kernel_rfl) (by kernel_rfl) (fun _ _ _ h => h) (Or.inl ⟨by rfl, ?_⟩) hS ?_
                rotate_left
                · (intro w hSw; (try dsimp only at hSw); go_simp; (first | done | with_reducible rfl))
                change wpAnyH _ _ _ _ _ _ _ (Act.put _ (some 142) _) _
                simp only [Act.put, List.setIfInBounds_toArray, List.set_cons_zero, List.set_cons_succ]
                refine wpAnyH_take (i := 9) (v := ?_) rfl (by kernel_rfl) (by kernel_rfl) (by kernel_rfl) (fun _ _ _ h => h) (Or.inl ⟨by rfl, ?_⟩) hS ?_
                rotate_left
                · (intro w hSw; (try dsimp only at hSw); go_simp; (first | done | with_reducible rfl))
                change wpAnyH _ _ _ _ _ _ _ (Act.put _ (some 143) _) _
                simp only [Act.put, List.setIfInBounds_toArray, List.set_cons_zero, List.set_cons_succ]
                refine wpAnyH_take (i := 10) (v := ?_) rfl (by kernel_rfl) (by kernel_rfl) (by kernel_rfl) (fun _ _ _ h => h) (Or.inl ⟨by rfl, ?_⟩) hS ?_
                rotate_left
                · (intro w hSw; (try dsimp only at hSw); go_simp; (first | done | with_reducible rfl))
                change wpAnyH _ _ _ _ _ _ _ (Act.put _ (some 144) _) _
                simp only [Act.put, List.setIfInBounds_toArray, List.set_cons_zero, List.set_cons_succ]
                refine wpAnyH_take (i := 11) (v := ?_) rfl (by kernel_rfl) (by kernel_rfl) (by kernel_rfl) (fun _ _ _ h => h) (Or.inl ⟨by rfl, ?_⟩) hS ?_
                rotate_left
                · (intro w hSw; (try dsimp only at hSw); go_simp; (first | done | with_reducible rfl))
                change wpAnyH _ _ _ _ _ _ _ (Act.put _ (some 145) _) _
                simp only [Act.put, List.setIfInBounds_toArray, List.set_cons_zero, List.set_cons_succ]
                refine wpAnyH_ready (rs := [12]) (by kernel_rfl) (by simp) ?_
                refine AllReadyH.cons rfl (fun K hK => ?_) AllReadyH.nil
                go_simp
                refine (saysK (sameInts a1.a a2.a a1.c a2.c a1.l a2.l v0 ((hoa.rd.keep kz)) (hoc.rd.keep kz) (by have := l1; unfold Reach; omega) (by have := l2; unfold Reach; omega))).mono ?_
                rintro e v1 ⟨rfl, kn⟩
                rw [decide_eq_true H12.out]
                go_wp2_with fail
                refine hK.out _ _ ⟨kn.cell hS.1, kn.cell hS.2.1, kn.cell hS.2.2⟩ (fun hS => ?_)
                clear hK K
                try simp only [Act.put, List.setIfInBounds_toArray, List.set_cons_zero, List.set_cons_succ]
                refine wpAnyH_take (i := 13) (v := ?_) rfl (by kernel_rfl) (by kernel_rfl) (by kernel_rfl) (fun _ _ _ h => h) (Or.inl ⟨by rfl, ?_⟩) hS ?_
                rotate_left
                · (intro w hSw; (try dsimp only at hSw); go_simp; (first | done | with_reducible rfl))
                change wpAnyH _ _ _ _ _ _ _ (Act.put _ (some 147) _) _
                simp only [Act.put, List.setIfInBounds_toArray, List.set_cons_zero, List.set_cons_succ]
                refine wpAnyH_take (i := 14) (v := ?_) rfl (by kernel_rfl) (by kernel_rfl) (by kernel_rfl) (fun _ _ _ h => h) (Or.inl ⟨by rfl, ?_⟩) hS ?_
                rotate_left
                · (intro w hSw; (try dsimp only at hSw); go_simp; (first | done | with_reducible rfl))
                change wpAnyH _ _ _ _ _ _ _ (Act.put _ (some 148) _) _
                simp only [Act.put, List.setIfInBounds_toArray, List.set_cons_zero, List.set_cons_succ]
                refine wpAnyH_take (i := 15) (v := ?_) rfl (by kernel_rfl) (by kernel_rfl) (by kernel_rfl) (fun _ _ _ h => h) (Or.inl ⟨by rfl, ?_⟩) hS ?_
                rotate_left
                · (intro w hSw; (try dsimp only at hSw); go_simp; (first | done | with_reducible rfl))
                change wpAnyH _ _ _ _ _ _ _ (Act.put _ (some 149) _) _
                simp only [Act.put, List.setIfInBounds_toArray, List.set_cons_zero, List.set_cons_succ]
                refine wpAnyH_take (i := 16) (v := ?_) rfl (by kernel_rfl) (by kernel_rfl) (by kernel_rfl) (fun _ _ _ h => h) (Or.inl ⟨by rfl, ?_⟩) hS ?_
                rotate_left
                · (intro w hSw; (try dsimp only at hSw); go_simp; (first | done | with_reducible rfl))
                change wpAnyH _ _ _ _ _ _ _ (Act.put _ (some 150) _) _
                simp only [Act.put, List.setIfInBounds_toArray, List.set_cons_zero, List.set_cons_succ]
                refine wpAnyH_take (i := 17) (v := ?_) rfl (by kernel_rfl) (by kernel_rfl) (by kernel_rfl) (fun _ _ _ h => h) (Or.inl ⟨by rfl, ?_⟩) hS ?_
                rotate_left
                · (intro w hSw; (try dsimp only at hSw); go_simp; (first | done | with_reducible rfl))
                change wpAnyH _ _ _ _ _ _ _ (Act.put _ (some 151) _) _
                simp only [Act.put, List.setIfInBounds_toArray, List.set_cons_zero, List.set_cons_succ]
                refine wpAnyH_take (i := 18) (v := ?_) rfl (by kernel_rfl) (by kernel_rfl) (by kernel_rfl) (fun _ _ _ h => h) (Or.inl ⟨by rfl, ?_⟩) hS ?_
                rotate_left
                · (intro w hSw; (try dsimp only at hSw); go_simp; (first | done | with_reducible rfl))
                change wpAnyH _ _ _ _ _ _ _ (Act.put _ (some 152) _) _
                simp only [Act.put, List.setIfInBounds_toArray, List.set_cons_zero, List.set_cons_succ]
                refine wpAnyH_take (i := 19) (v := ?_) rfl (by kernel_rfl) (by kernel_rfl) (by kernel_rfl) (fun _ _ _ h => h) (Or.inl ⟨by rfl, ?_⟩) hS ?_
                rotate_left
                · (intro w hSw; (try dsimp only at hSw); go_simp; (first | done | with_reducible rfl))
                change wpAnyH _ _ _ _ _ _ _ (Act.put _ (some 153) _) _
                simp only [Act.put, List.setIfInBounds_toArray, List.set_cons_zero, List.set_cons_succ]
                refine wpAnyH_take (i := 20) (v := ?_) rfl (by kernel_rfl) (by kernel_rfl) (by kernel_rfl) (fun _ _ _ h => h) (Or.inl ⟨by rfl, ?_⟩) hS ?_
                rotate_left
                · (intro w hSw; (try dsimp only at hSw); go_simp; (first | done | with_reducible rfl))
                change wpAnyH _ _ _ _ _ _ _ (Act.put _ (some 154) _) _
                simp only [Act.put, List.setIfInBounds_toArray, List.set_cons_zero, List.set_cons_succ]
                refine wpAnyH_take (i := 21) (v := ?_) rfl (by kernel_rfl) (by kernel_rfl) (by kernel_rfl) (fun _ _ _ h => h) (Or.inl ⟨by rfl, ?_⟩) hS ?_
                rotate_left
                · (intro w hSw; (try dsimp only at hSw); go_simp; (first | done | with_reducible rfl))
                change wpAnyH _ _ _ _ _ _ _ (Act.put _ (some 155) _) _
                simp only [Act.put, List.setIfInBounds_toArray, List.set_cons_zero, List.set_cons_succ]
                refine wpAnyH_take (i := 22) (v := ?_) rfl (by kernel_rfl) (by kernel_rfl) (by kernel_rfl) (fun _ _ _ h => h) (Or.inl ⟨by rfl, ?_⟩) hS ?_
                rotate_left
                · (intro w hSw; (try dsimp only at hSw); go_simp; (first | done | with_reducible rfl))
                change wpAnyH _ _ _ _ _ _ _ (Act.put _ (some 156) _) _
                simp only [Act.put, List.setIfInBounds_toArray, List.set_cons_zero, List.set_cons_succ]
                refine wpAnyH_take (i := 23) (v := ?_) rfl (by kernel_rfl) (by kernel_rfl) (by kernel_rfl) (fun _ _ _ h => h) (Or.inl ⟨by rfl, ?_⟩) hS ?_
                rotate_left
                · (intro w hSw; (try dsimp only at hSw); go_simp; (first | done | with_reducible rfl))
                change wpAnyH _ _ _ _ _ _ _ (Act.put _ (some 157) _) _
                simp only [Act.put, List.setIfInBounds_toArray, List.set_cons_zero, List.set_cons_succ]
                refine wpAnyH_take (i := 24) (v := ?_) rfl (by kernel_rfl) (by kernel_rfl) (by kernel_rfl) (fun _ _ _ h => h) (Or.inl ⟨by rfl, ?_⟩) hS ?_
                rotate_left
                · (intro w hSw; (try dsimp only at hSw); go_simp; (first | done | with_reducible rfl))
                change wpAnyH _ _ _ _ _ _ _ (Act.put _ (some 158) _) _
                simp only [Act.put, List.setIfInBounds_toArray, List.set_cons_zero, List.set_cons_succ]
                refine wpAnyH_take (i := 25) (v := ?_) rfl (by kernel_rfl) (by kernel_rfl) (by kernel_rfl) (fun _ _ _ h => h) (Or.inl ⟨by rfl, ?_⟩) hS ?_
                rotate_left
                · (intro w hSw; (try dsimp only at hSw); go_simp; (first | done | with_reducible rfl))
                change wpAnyH _ _ _ _ _ _ _ (Act.put _ (some 159) _) _
                simp only [Act.put, List.setIfInBounds_toArray, List.set_cons_zero, List.set_cons_succ]
                refine wpAnyH_ready (rs := [26]) (by kernel_rfl) (by simp) ?_
                refine AllReadyH.cons rfl (fun K hK => ?_) AllReadyH.nil
                go_simp
                replace kz := kz.trans kn
                refine (saysK (sameInts a1.a a3.a a1.c a3.c a1.l a3.l v1 ((hoa.rd.keep kz)) (hob.rd.keep kz) (by have := l1; unfold Reach; omega) (by have := l3; unfold Reach; omega))).mono ?_
                rintro e v2 ⟨rfl, kn2⟩
                rw [decide_eq_true H13.out]
                go_wp2_with fail
                refine hK.out _ _ ⟨kn2.cell hS.1, kn2.cell hS.2.1, kn2.cell hS.2.2⟩ (fun hS => ?_)
                clear hK K
                try simp only [Act.put, List.setIfInBounds_toArray, List.set_cons_zero, List.set_cons_succ]
                refine wpAnyH_take (i := 27) (v := ?_) rfl (by kernel_rfl) (by kernel_rfl) (by kernel_rfl) (fun _ _ _ h => h) (Or.inl ⟨by rfl, ?_⟩) hS ?_
                rotate_left
                · (intro w hSw; (try dsimp only at hSw); go_simp; (first | done | with_reducible rfl))
                change wpAnyH _ _ _ _ _ _ _ (Act.put _ (some 161) _) _
                simp only [Act.put, List.setIfInBounds_toArray, List.set_cons_zero, List.set_cons_succ]
                refine wpAnyH_take (i := 28) (v := ?_) rfl (by kernel_rfl) (by kernel_rfl) (by kernel_rfl) (fun _ _ _ h => h) (Or.inl ⟨by rfl, ?_⟩) hS ?_
                rotate_left
                · (intro w hSw; (try dsimp only at hSw); go_simp; (first | done | with_reducible rfl))
                change wpAnyH _ _ _ _ _ _ _ (Act.put _ (some 162) _) _
                simp only [Act.put, List.setIfInBounds_toArray, List.set_cons_zero, List.set_cons_succ]
                refine wpAnyH_take (i := 29) (v := ?_) rfl (by kernel_rfl) (by kernel_rfl) (by kernel_rfl) (fun _ _ _ h => h) (Or.inl ⟨by rfl, ?_⟩) hS ?_
                rotate_left
                · (intro w hSw; (try dsimp only at hSw); go_simp; (first | done | with_reducible rfl))
                change wpAnyH _ _ _ _ _ _ _ (Act.put _ (some 163) _) _
                simp only [Act.put, List.setIfInBounds_toArray, List.set_cons_zero, List.set_cons_succ]
                refine wpAnyH_take (i := 30) (v := ?_) rfl (by kernel_rfl) (by kernel_rfl) (by kernel_rfl) (fun _ _ _ h => h) (Or.inl ⟨by rfl, ?_⟩) hS ?_
                rotate_left
                · (intro w hSw; (try dsimp only at hSw); go_simp; (first | done | with_reducible rfl))
                change wpAnyH _ _ _ _ _ _ _ (Act.put _ (some 164) _) _
                simp only [Act.put, List.setIfInBounds_toArray, List.set_cons_zero, List.set_cons_succ]
                refine wpAnyH_done (by kernel_rfl) ?_ _
                refine NoPanic.normal ?_
                go_wp2_with fail
                go_meet
                exact ⟨rfl, kz.trans kn2⟩
            case rest =>
            obtain ⟨rfl, kq⟩ := hcut
            replace hkeep := hkeep.trans kq
            replace cc := kq.cell cc
            replace hoc := hoc.keep kq
            clear kq ca hoa hA1 hC1 ea cb hob eb
            obtain ⟨w12, hw12⟩ : ∃ x, x = wc := ⟨wc, rfl⟩
            subst hw12
            go_wp2_with fail
            go_loopw [18] (fun v wr => ∃ j : Nat, j ≤ a2.l.length ∧ v = .int .i64 j ∧ Keep w12 wr) (fun v _ => a2.l.length - (intOf v).toNat)
            case atStart => exact ⟨0, Nat.zero_le _, rfl, Keep.refl _⟩
            case round =>
              obtain ⟨j, hj, rfl, hk2⟩ := hrel
              replace cc := hk2.cell cc
              by_cases hjl : j < a2.l.length ∧ i = k
              · obtain ⟨hj1, hik⟩ := hjl
                obtain ⟨b5, o5, x5, ha2, hxj, hcj⟩ := (hoc.rd.keep hk2).int_at hj1
                have hx5 : x5 = -1 := gains_none (hik ▸ ec) x5 (List.mem_of_getElem? hxj)
                have z5 : ((i : Int) == k) = true := beq_iff_eq.2 (by omega)
                have z6 : (x5 != -1) = false := by simp [hx5]
                rw [ha2] at cc
                have z7 : (j : Int) < a2.l.length := by omega
                have z8 : (0 : Int) ≤ j := by omega
                clear ha2 hxj hx5 hik
                go_wp2_with fail
                go_roundw
                case rel => exact ⟨j + 1, by omega, by go_num, hk2⟩
                case measure => simp [intOf]; omega
              · by_cases hj1 : j < a2.l.length
                · have z5 : ((i : Int) == k) = false := beq_eq_false_iff_ne.2 (fun h => hjl ⟨hj1, by omega⟩)
                  have z7 : (j : Int) < a2.l.length := by omega
                  clear hjl
                  go_wp2_with fail
                  go_roundw
                  case rel => exact ⟨i + 1, by omega, by go_num, hkeep.trans hk2⟩
                  case measure => simp [intOf]; omega
                · clear hjl
                  go_wp2_with fail
                  go_roundw
                  case rel => exact ⟨i + 1, by omega, by go_num, hkeep.trans hk2⟩
                  case measure => simp [intOf]; omega
          · have ha := alive05_f wr
            go_wp2_with fail
            refine ha.mono ?_
            rintro e w13 ⟨rfl, k13⟩
            go_wp2_with fail
            go_ret
            exact ⟨rfl, (kk.trans hkeep).trans k13⟩
      | false =>
        have hq := gains_no (⟨N.r, some ⟨gB, 0, none⟩, N.bc, N.bs.set k s, ⟨A6, c6, M.o.l.drop 1 ++ [x0]⟩⟩ : Mkt) w6 hN' hcN
        rw [hv] at hq
        clear HMO hv
        have c0 := bN6.cell_ (i := 0) rfl
        have c1 := bN6.cell_ (i := 1) rfl
        have c2 := bN6.cell_ (i := 2) rfl
        go_wp2_with fail
        refine hq.mono ?_
        rintro e w7 ⟨rfl, kq⟩
        clear hq bN6 hN'
        clear c0 c1 c2
        replace bM := bM.keep kq
        replace hM := hM.keep kq
        replace hs := hs.keep kq
        replace hA := hA.keep kq
        replace kk := kk.trans kq
        clear kq
        clear hgN hcN
        have c0 := bM.cell_ (i := 0) rfl
        have c1 := bM.cell_ (i := 1) rfl
        have c2 := bM.cell_ (i := 2) rfl
        have hq := without_ok M k w7 hM HC.out hk1
        unfold Mkt.val at hq
        go_wp2_with fail
        refine hq.mono ?_
        rintro e w8 ⟨O, rfl, hO, o1, o2, o3, kq⟩
        clear hq
        try unfold Mkt.val
        clear c0 c1 c2
        replace bM := bM.keep kq
        replace hM := hM.keep kq
        replace hs := hs.keep kq
        replace hA := hA.keep kq
        replace kk := kk.trans kq
        clear kq
        have RO := Lib.hid (And.intro o1 (And.intro o2 o3))
        clear o1 o2 o3
        go_upto_region 10 with fail
        have bO := Blk.new w8 62 [.slice O.r.a O.r.l.length O.r.c, .slice O.ba O.bs.length O.bc, .slice O.o.a O.o.l.length O.o.c]
        have kn : Keep w8 (w8.alloc (.cells #[.slice O.r.a O.r.l.length O.r.c, .slice O.ba O.bs.length O.bc, .slice O.o.a O.o.l.length O.o.c] 62)) := Keep.alloc1 _ _
        change Code.wp _ _ _ _ (w8.alloc (.cells #[.slice O.r.a O.r.l.length O.r.c, .slice O.ba O.bs.length O.bc, .slice O.o.a O.o.l.length O.o.c] 62))
        generalize w8.alloc (.cells #[.slice O.r.a O.r.l.length O.r.c, .slice O.ba O.bs.length O.bc, .slice O.o.a O.o.l.length O.o.c] 62) = w9 at bO kn ⊢
        generalize w8.heap.size = gbO at bO ⊢
        replace bM := bM.keep kn
        replace hM := hM.keep kn
        replace hs := hs.keep kn
        replace hA := hA.keep kn
        replace hO := hO.keep kn
        replace kk := kk.trans kn
        clear kn
        have CO := Lib.hid (chkM_out (p := k) HC.out RO.out)
        have c0 := bO.cell_ (i := 0) rfl
        have c1 := bO.cell_ (i := 1) rfl
        have c2 := bO.cell_ (i := 2) rfl
        have hq := gains_yes O w9 hO CO.out
        unfold Mkt.val at hq
        go_wp2_with fail
        refine hq.mono ?_
        rintro e w10 ⟨gc, sc, rfl, hSC, hsc, kq⟩
        clear hq
        clear c0 c1 c2
        replace bM := bM.keep kq
        replace hM := hM.keep kq
        replace hs := hs.keep kq
        replace hA := hA.keep kq
        replace hO := hO.keep kq
        replace bO := bO.keep kq
        replace kk := kk.trans kq
        clear kq
        have HSC : Hid (bidsOf sc = gainsM M.r.l ((bidsOf M.bs).set k [])) := Lib.hid (by rw [hsc, RO.out.1, RO.out.2.1])
        have lc : sc.length = M.bs.length := by rw [← length_bids, HSC.out, length_gainsM, List.length_set, length_bids]
        have hlc : ((sc.length : Int) != sa.length) = false := by simp [lc, HL.out]
        have HLC := Lib.hid lc
        clear hsc lc
        have c0 := bM.cell_ (i := 0) rfl
        go_upto_region 11 with fail
        go_cut [127] from 89 to 126 (fun v wx => v = .bool false ∧ Keep w10 wx)
        case first =>
          have hq := check_f s.a s.c s.l (M.r.l.length : Int) w10 hs.rd hs.len (WalkArith.wf_i64 (by have := hM.r.len.le; omega))
          have hd2 := HD.out
          rw [eq_comm, Bool.or_eq_false_iff] at hd2
          obtain ⟨hl0, hck1⟩ := hd2
          have z5 : ((s.l.length : Int) == 0) = false := beq_eq_false_iff_ne.2 (by have := of_decide_eq_false hl0; omega)
          have z6 : (s.l.length = 0) = False := eq_false (of_decide_eq_false hl0)
          rw [hck1] at hq
          clear hck1 hl0
          go_wp2_with fail
          refine hq.mono ?_
          rintro e w11 ⟨rfl, kq⟩
          go_wp2_with fail
          go_meet
          exact ⟨rfl, kq⟩
        case rest =>
        obtain ⟨rfl, kq⟩ := hcut
        clear bO hO hs RO CO c0
        replace bM := bM.keep kq
        replace hM := hM.keep kq
        replace hA := hA.keep kq
        replace hSC := hSC.keep kq
        replace kk := kk.trans kq
        clear kq
        obtain ⟨w11, hw11⟩ : ∃ x, x = wc := ⟨wc, rfl⟩
        subst hw11
        go_wp2_with fail
        go_loopw [17] (fun v wr => ∃ i : Nat, i ≤ sa.length ∧ v = .int .i64 i ∧ Keep w11 wr) (fun v _ => sa.length - (intOf v).toNat)
        case atStart => exact ⟨0, Nat.zero_le _, rfl, Keep.refl _⟩
        case round =>
          obtain ⟨i, hi, rfl, hkeep⟩ := hrel
          by_cases hlt : i < sa.length
          · have hA1 := hA.keep hkeep
            have hC1 := hSC.keep hkeep
            obtain ⟨b1, o1, a1, e1, hai, ca, hoa⟩ := hA1.at_ hlt
            cases e1
            rw [Nat.zero_add] at ca
            obtain ⟨b1, o1, a2, e1, hci, cc, hoc⟩ := hC1.at_ (show i < sc.length by rw [HLC.out, ← HL.out]; exact hlt)
            cases e1
            rw [Nat.zero_add] at cc
            have y1 : (i : Int) < sa.length := by omega
            have y2 : (i : Int) < sc.length := by rw [HLC.out, ← HL.out]; exact y1
            have y0 : (0 : Int) ≤ i := by omega
            have y4 : (i : Int) ≤ 8 := by have := HL.out; omega
            have ea : (gainsM M.r.l (bidsOf M.bs))[i]? = some a1.l := by rw [← HA.out, bidsOf, List.getElem?_map, hai]; rfl
            have ec : (gainsM M.r.l ((bidsOf M.bs).set k []))[i]? = some a2.l := by rw [← HSC.out, bidsOf, List.getElem?_map, hci]; rfl
            have la2 := hoc.len.le
            have HCI := Lib.hid hci
            clear hai hci
            go_upto_region 16 with fail
            go_cut [164] from 134 to 163 (fun v wx => v = .bool false ∧ Keep wr wx)
            case first =>
              by_cases hik : i = k
              · have z5 : ((i : Int) != k) = false := by simp [hik]
                clear hik
                refine wp_region_noPanic ?_
                refine wp_region_held_drew (S := (fun w' => w'.cell? ⟨ga, i, none⟩ = some (.slice a1.a a1.l.length a1.c) ∧ w'.cell? ⟨gc, i, none⟩ = some (.slice a2.a a2.l.length a2.c))) (by kernel_rfl) ⟨ca, cc⟩ (fun hS => ?_)
                refine wpAnyH_take (i := 0) (v := ?_) rfl (by kernel_rfl) (by kernel_rfl) (by kernel_rfl) (fun _ _ _ h => h) (Or.inl ⟨by rfl, ?_⟩) hS ?_
                rotate_left
                · (intro w hSw; (try dsimp only at hSw); go_simp; (first | done | with_reducible rfl))
                change wpAnyH _ _ _ _ _ _ _ (Act.put _ (some 134) _) _
                simp only [Act.put, List.setIfInBounds_toArray, List.set_cons_zero, List.set_cons_succ]
                refine wpAnyH_take (i := 1) (v := ?_) rfl (by kernel_rfl) (by kernel_rfl) (by kernel_rfl) (fun _ _ _ h => h) (Or.inl ⟨by rfl, ?_⟩) hS ?_
                rotate_left
                · (intro w hSw; (try dsimp only at hSw); go_simp; (first | done | with_reducible rfl))
                change wpAnyH _ _ _ _ _ _ _ (Act.put _ (some 135) _) _
                simp only [Act.put, List.setIfInBounds_toArray, List.set_cons_zero, List.set_cons_succ]
                refine wpAnyH_take (i := 2) (v := ?_) rfl (by kernel_rfl) (by kernel_rfl) (by kernel_rfl) (fun _ _ _ h => h) (Or.inl ⟨by rfl, ?_⟩) hS ?_
                rotate_left
                · (intro w hSw; (try dsimp only at hSw); go_simp; (first | done | with_reducible rfl))
                change wpAnyH _ _ _ _ _ _ _ (Act.put _ (some 136) _) _
                simp only [Act.put, List.setIfInBounds_toArray, List.set_cons_zero, List.set_cons_succ]
                refine wpAnyH_take (i := 3) (v := ?_) rfl (by kernel_rfl) (by kernel_rfl) (by kernel_rfl) (fun _ _ _ h => h) (Or.inl ⟨by rfl, ?_⟩) hS ?_
                rotate_left
                · (intro w hSw; (try dsimp only at hSw); go_simp; (first | done | with_reducible rfl))
                change wpAnyH _ _ _ _ _ _ _ (Act.put _ (some 137) _) _
                simp only [Act.put, List.setIfInBounds_toArray, List.set_cons_zero, List.set_cons_succ]
                refine wpAnyH_take (i := 4) (v := undef) rfl (by kernel_rfl) (by kernel_rfl) (by kernel_rfl) (fun _ _ _ h => h) (Or.inr ⟨by rfl, rfl⟩) hS ?_
                change wpAnyH _ _ _ _ _ _ _ (Act.put _ (some 138) _) _
                simp only [Act.put, List.setIfInBounds_toArray, List.set_cons_zero, List.set_cons_succ]
                refine wpAnyH_take (i := 5) (v := undef) rfl (by kernel_rfl) (by kernel_rfl) (by kernel_rfl) (fun _ _ _ h => h) (Or.inr ⟨by rfl, rfl⟩) hS ?_
                change wpAnyH _ _ _ _ _ _ _ (Act.put _ (some 139) _) _
                simp only [Act.put, List.setIfInBounds_toArray, List.set_cons_zero, List.set_cons_succ]
                refine wpAnyH_take (i := 6) (v := undef) rfl (by kernel_rfl) (by kernel_rfl) (by kernel_rfl) (fun _ _ _ h => h) (Or.inr ⟨by rfl, rfl⟩) hS ?_
                change wpAnyH _ _ _ _ _ _ _ (Act.put _ (some 140) _) _
                simp only [Act.put, List.setIfInBounds_toArray, List.set_cons_zero, List.set_cons_succ]
                refine wpAnyH_take (i := 7) (v := undef) rfl (by kernel_rfl) (by kernel_rfl) (by kernel_rfl) (fun _ _ _ h => h) (Or.inr ⟨by rfl, rfl⟩) hS ?_
                change wpAnyH _ _ _ _ _ _ _ (Act.put _ (some 141) _) _
                simp only [Act.put, List.setIfInBounds_toArray, List.set_cons_zero, List.set_cons_succ]
                refine wpAnyH_take (i := 8) (v := undef) rfl (by kernel_rfl) (by kernel_rfl) (by kernel_rfl) (fun _ _ _ h => h) (Or.inr ⟨by rfl, rfl⟩) hS ?_
                change wpAnyH _ _ _ _ _ _ _ (Act.put _ (some 142) _) _
                simp only [Act.put, List.setIfInBounds_toArray, List.set_cons_zero, List.set_cons_succ]
                refine wpAnyH_take (i := 9) (v := undef) rfl (by kernel_rfl) (by kernel_rfl) (by kernel_rfl) (fun _ _ _ h => h) (Or.inr ⟨by rfl, rfl⟩) hS ?_
                change wpAnyH _ _ _ _ _ _ _ (Act.put _ (some 143) _) _
                simp only [Act.put, List.setIfInBounds_toArray, List.set_cons_zero, List.set_cons_succ]
                refine wpAnyH_take (i := 10) (v := undef) rfl (by kernel_rfl) (by kernel_rfl) (by kernel_rfl) (fun _ _ _ h => h) (Or.inr ⟨by rfl, rfl⟩) hS ?_
                change wpAnyH _ _ _ _ _ _ _ (Act.put _ (some 144) _) _
                simp only [Act.put, List.setIfInBounds_toArray, List.set_cons_zero, List.set_cons_succ]
                refine wpAnyH_take (i := 11) (v := undef) rfl (by kernel_rfl) (by kernel_rfl) (by kernel_rfl) (fun _ _ _ h => h) (Or.inr ⟨by rfl, rfl⟩) hS ?_
                change wpAnyH _ _ _ _ _ _ _ (Act.put _ (some 145) _) _
                simp only [Act.put, List.setIfInBounds_toArray, List.set_cons_zero, List.set_cons_succ]
                refine wpAnyH_take (i := 12) (v := undef) rfl (by kernel_rfl) (by kernel_rfl) (by kernel_rfl) (fun _ _ _ h => h) (Or.inr ⟨by rfl, rfl⟩) hS ?_
                change wpAnyH _ _ _ _ _ _ _ (Act.put _ (some 146) _) _
                simp only [Act.put, List.setIfInBounds_toArray, List.set_cons_zero, List.set_cons_succ]
                refine wpAnyH_take (i := 13) (v := undef) rfl (by kernel_rfl) (by kernel_rfl) (by kernel_rfl) (fun _ _ _ h => h) (Or.inr ⟨by rfl, rfl⟩) hS ?_
                change wpAnyH _ _ _ _ _ _ _ (Act.put _ (some 147) _) _
                simp only [Act.put, List.setIfInBounds_toArray, List.set_cons_zero, List.set_cons_succ]
                refine wpAnyH_take (i := 14) (v := undef) rfl (by kernel_rfl) (by kernel_rfl) (by kernel_rfl) (fun _ _ _ h => h) (Or.inr ⟨by rfl, rfl⟩) hS ?_
                change wpAnyH _ _ _ _ _ _ _ (Act.put _ (some 148) _) _
                simp only [Act.put, List.setIfInBounds_toArray, List.set_cons_zero, List.set_cons_succ]
                refine wpAnyH_take (i := 15) (v := undef) rfl (by kernel_rfl) (by kernel_rfl) (by kernel_rfl) (fun _ _ _ h => h) (Or.inr ⟨by rfl, rfl⟩) hS ?_
                change wpAnyH _ _ _ _ _ _ _ (Act.put _ (some 149) _) _
                simp only [Act.put, List.setIfInBounds_toArray, List.set_cons_zero, List.set_cons_succ]
                refine wpAnyH_take (i := 16) (v := undef) rfl (by kernel_rfl) (by kernel_rfl) (by kernel_rfl) (fun _ _ _ h => h) (Or.inr ⟨by rfl, rfl⟩) hS ?_
                change wpAnyH _ _ _ _ _ _ _ (Act.put _ (some 150) _) _
                simp only [Act.put, List.setIfInBounds_toArray, List.set_cons_zero, List.set_cons_succ]
                refine wpAnyH_take (i := 17) (v := undef) rfl (by kernel_rfl) (by kernel_rfl) (by kernel_rfl) (fun _ _ _ h => h) (Or.inr ⟨by rfl, rfl⟩) hS ?_
                change wpAnyH _ _ _ _ _ _ _ (Act.put _ (some 151) _) _
                simp only [Act.put, List.setIfInBounds_toArray, List.set_cons_zero, List.set_cons_succ]
                refine wpAnyH_take (i := 18) (v := undef) rfl (by kernel_rfl) (by kernel_rfl) (by kernel_rfl) (fun _ _ _ h => h) (Or.inr ⟨by rfl, rfl⟩) hS ?_
                change wpAnyH _ _ _ _ _ _ _ (Act.put _ (some 152) _) _
                simp only [Act.put, List.setIfInBounds_toArray, List.set_cons_zero, List.set_cons_succ]
                refine wpAnyH_take (i := 19) (v := undef) rfl (by kernel_rfl) (by kernel_rfl) (by kernel_rfl) (fun _ _ _ h => h) (Or.inr ⟨by rfl, rfl⟩) hS ?_
                change wpAnyH _ _ _ _ _ _ _ (Act.put _ (some 153) _) _
                simp only [Act.put, List.setIfInBounds_toArray, List.set_cons_zero, List.set_cons_succ]
                refine wpAnyH_take (i := 20) (v := undef) rfl (by kernel_rfl) (by kernel_rfl) (by kernel_rfl) (fun _ _ _ h => h) (Or.inr ⟨by rfl, rfl⟩) hS ?_
                change wpAnyH _ _ _ _ _ _ _ (Act.put _ (some 154) _) _
                simp only [Act.put, List.setIfInBounds_toArray, List.set_cons_zero, List.set_cons_succ]
                refine wpAnyH_take (i := 21) (v := undef) rfl (by kernel_rfl) (by kernel_rfl) (by kernel_rfl) (fun _ _ _ h => h) (Or.inr ⟨by rfl, rfl⟩) hS ?_
                change wpAnyH _ _ _ _ _ _ _ (Act.put _ (some 155) _) _
                simp only [Act.put, List.setIfInBounds_toArray, List.set_cons_zero, List.set_cons_succ]
                refine wpAnyH_take (i := 22) (v := undef) rfl (by kernel_rfl) (by kernel_rfl) (by kernel_rfl) (fun _ _ _ h => h) (Or.inr ⟨by rfl, rfl⟩) hS ?_
                change wpAnyH _ _ _ _ _ _ _ (Act.put _ (some 156) _) _
                simp only [Act.put, List.setIfInBounds_toArray, List.set_cons_zero, List.set_cons_succ]
                refine wpAnyH_take (i := 23) (v := undef) rfl (by kernel_rfl) (by kernel_rfl) (by kernel_rfl) (fun _ _ _ h => h) (Or.inr ⟨by rfl, rfl⟩) hS ?_
                change wpAnyH _ _ _ _ _ _ _ (Act.put _ (some 157) _) _
                simp only [Act.put, List.setIfInBounds_toArray, List.set_cons_zero, List.set_cons_succ]
                refine wpAnyH_take (i := 24) (v := undef) rfl (by kernel_rfl) (by kernel_rfl) (by kernel_rfl) (fun _ _ _ h => h) (Or.inr ⟨by rfl, rfl⟩) hS ?_
                change wpAnyH _ _ _ _ _ _ _ (Act.put _ (some 158) _) _
                simp only [Act.put, List.setIfInBounds_toArray, List.set_cons_zero, List.set_cons_succ]
                refine wpAnyH_take (i := 25) (v := undef) rfl (by kernel_rfl) (by kernel_rfl) (by kernel_rfl) (fun _ _ _ h => h) (Or.inr ⟨by rfl, rfl⟩) hS ?_
                change wpAnyH _ _ _ _ _ _ _ (Act.put _ (some 159) _) _
                simp only [Act.put, List.setIfInBounds_toArray, List.set_cons_zero, List.set_cons_succ]
                refine wpAnyH_take (i := 26) (v := undef) rfl (by kernel_rfl) (by kernel_rfl) (by kernel_rfl) (fun _ _ _ h => h) (Or.inr ⟨by rfl, rfl⟩) hS ?_
                change wpAnyH _ _ _ _ _ _ _ (Act.put _ (some 160) _) _
                simp only [Act.put, List.setIfInBounds_toArray, List.set_cons_zero, List.set_cons_succ]
                refine wpAnyH_take (i := 27) (v := undef) rfl (by kernel_rfl) (by kernel_rfl) (by kernel_rfl) (fun _ _ _ h => h) (Or.inr ⟨by rfl, rfl⟩) hS ?_
                change wpAnyH _ _ _ _ _ _ _ (Act.put _ (some 161) _) _
                simp only [Act.put, List.setIfInBounds_toArray, List.set_cons_zero, List.set_cons_succ]
                refine wpAnyH_take (i := 28) (v := undef) rfl (by kernel_rfl) (by kernel_rfl) (by kernel_rfl) (fun _ _ _ h => h) (Or.inr ⟨by rfl, rfl⟩) hS ?_
                change wpAnyH _ _ _ _ _ _ _ (Act.put _ (some 162) _) _
                simp only [Act.put, List.setIfInBounds_toArray, List.set_cons_zero, List.set_cons_succ]
                refine wpAnyH_take (i := 29) (v := undef) rfl (by kernel_rfl) (by kernel_rfl) (by kernel_rfl) (fun _ _ _ h => h) (Or.inr ⟨by rfl, rfl⟩) hS ?_
                change wpAnyH _ _ _ _ _ _ _ (Act.put _ (some 163) _) _
                simp only [Act.put, List.setIfInBounds_toArray, List.set_cons_zero, List.set_cons_succ]
                refine wpAnyH_take (i := 30) (v := ?_) rfl (by kernel_rfl) (by kernel_rfl) (by kernel_rfl) (fun _ _ _ h => h) (Or.inl ⟨by rfl, ?_⟩) hS ?_
                rotate_left
                · (intro w hSw; (try dsimp only at hSw); go_simp; (first | done | with_reducible rfl))
                change wpAnyH _ _ _ _ _ _ _ (Act.put _ (some 164) _) _
                simp only [Act.put, List.setIfInBounds_toArray, List.set_cons_zero, List.set_cons_succ]
                refine wpAnyH_done (by kernel_rfl) ?_ _
                refine NoPanic.normal ?_
                go_wp2_with fail
                go_meet
                exact ⟨rfl, (Keep.refl _).drew⟩
              · have z5 : ((i : Int) != k) = true := by simp; omega
                have h12 : a1.l = a2.l := Option.some.inj (ea.symm.trans ((gains_other hik).symm.trans ec))
                have H12 := Lib.hid h12
                have l1 : a1.l.length ≤ 8 := by have := row_len ea; have := HR8.out; omega
                have l2 : a2.l.length ≤ 8 := by have := row_len ec; have := HR8.out; omega
                clear h12 hik
                refine wp_region_noPanic ?_
                refine wp_region_held_drew (S := (fun w' => w'.cell? ⟨ga, i, none⟩ = some (.slice a1.a a1.l.length a1.c) ∧ w'.cell? ⟨gc, i, none⟩ = some (.slice a2.a a2.l.length a2.c))) (by kernel_rfl) ⟨ca, cc⟩ (fun hS => ?_)
                have kz : Keep wr wr.drew := (Keep.refl _).drew
                generalize wr.drew = v0 at hS kz ⊢
                refine wpAnyH_take (i := 0) (v := ?_) rfl (by kernel_rfl) (by kernel_rfl) (by kernel_rfl) (fun _ _ _ h => h) (Or.inl ⟨by rfl, ?_⟩) hS ?_
                rotate_left
                · (intro w hSw; (try dsimp only at hSw); go_simp; (first | done | with_reducible rfl))
                change wpAnyH _ _ _ _ _ _ _ (Act.put _ (some 134) _) _
                simp only [Act.put, List.setIfInBounds_toArray, List.set_cons_zero, List.set_cons_succ]
                refine wpAnyH_take (i := 1) (v := ?_) rfl (by kernel_rfl) (by kernel_rfl) (by kernel_rfl) (fun _ _ _ h => h) (Or.inl ⟨by rfl, ?_⟩) hS ?_
                rotate_left
                · (intro w hSw; (try dsimp only at hSw); go_simp; (first | done | with_reducible rfl))
                change wpAnyH _ _ _ _ _ _ _ (Act.put _ (some 135) _) _
                simp only [Act.put, List.setIfInBounds_toArray, List.set_cons_zero, List.set_cons_succ]
                refine wpAnyH_take (i := 2) (v := ?_) rfl (by kernel_rfl) (by kernel_rfl) (by kernel_rfl) (fun _ _ _ h => h) (Or.inl ⟨by rfl, ?_⟩) hS ?_
                rotate_left
                · (intro w hSw; (try dsimp only at hSw); go_simp; (first | done | with_reducible rfl))
                change wpAnyH _ _ _ _ _ _ _ (Act.put _ (some 136) _) _
                simp only [Act.put, List.setIfInBounds_toArray, List.set_cons_zero, List.set_cons_succ]
                refine wpAnyH_take (i := 3) (v := ?_) rfl (by kernel_rfl) (by kernel_rfl) (by kernel_rfl) (fun _ _ _ h => h) (Or.inl ⟨by rfl, ?_⟩) hS ?_
                rotate_left
                · (intro w hSw; (try dsimp only at hSw); go_simp; (first | done | with_reducible rfl))
                change wpAnyH _ _ _ _ _ _ _ (Act.put _ (some 137) _) _
                simp only [Act.put, List.setIfInBounds_toArray, List.set_cons_zero, List.set_cons_succ]
                refine wpAnyH_take (i := 4) (v := ?_) rfl (by kernel_rfl) (by kernel_rfl) (by kernel_rfl) (fun _ _ _ h => h) (Or.inl ⟨by rfl, ?_⟩) hS ?_
                rotate_left
                · (intro w hSw; (try dsimp only at hSw); go_simp; (first | done | with_reducible rfl))
                change wpAnyH _ _ _ _ _ _ _ (Act.put _ (some 138) _) _
                simp only [Act.put, List.setIfInBounds_toArray, List.set_cons_zero, List.set_cons_succ]
                refine wpAnyH_take (i := 5) (v := ?_) rfl (by kernel_rfl) (by kernel_rfl) (by kernel_rfl) (fun _ _ _ h => h) (Or.inl ⟨by rfl, ?_⟩) hS ?_
                rotate_left
                · (intro w hSw; (try dsimp only at hSw); go_simp; (first | done | with_reducible rfl))
                change wpAnyH _ _ _ _ _ _ _ (Act.put _ (some 139) _) _
                simp only [Act.put, List.setIfInBounds_toArray, List.set_cons_zero, List.set_cons_succ]
                refine wpAnyH_take (i := 6) (v := ?_) rfl (by kernel_rfl) (by kernel_rfl) (by kernel_rfl) (fun _ _ _ h => h) (Or.inl ⟨by rfl, ?_⟩) hS ?_
                rotate_left
                · (intro w hSw; (try dsimp only at hSw); go_simp; (first | done | with_reducible rfl))
                change wpAnyH _ _ _ _ _ _ _ (Act.put _ (some 140) _) _
                simp only [Act.put, List.setIfInBounds_toArray, List.set_cons_zero, List.set_cons_succ]
                refine wpAnyH_take (i := 7) (v := ?_) rfl (by kernel_rfl) (by kernel_rfl) (by kernel_rfl) (fun _ _ _ h => h) (Or.inl ⟨by rfl, ?_⟩) hS ?_
                rotate_left
                · (intro w hSw; (try dsimp only at hSw); go_simp; (first | done | with_reducible rfl))
                change wpAnyH _ _ _ _ _ _ _ (Act.put _ (some 141) _) _
                simp only [Act.put, List.setIfInBounds_toArray, List.set_cons_zero, List.set_cons_succ]
                refine wpAnyH_take (i := 8) (v := ?_) rfl (by kernel_rfl) (by kernel_rfl) (by kernel_rfl) (fun _ _ _ h => h) (Or.inl ⟨by rfl, ?_⟩) hS ?_
                rotate_left
                · (intro w hSw; (try dsimp only at hSw); go_simp; (first | done | with_reducible rfl))
                change wpAnyH _ _ _ _ _ _ _ (Act.put _ (some 142) _) _
                simp only [Act.put, List.setIfInBounds_toArray, List.set_cons_zero, List.set_cons_succ]
                refine wpAnyH_take (i := 9) (v := ?_) rfl (by kernel_rfl) (by kernel_rfl) (by kernel_rfl) (fun _ _ _ h => h) (Or.inl ⟨by rfl, ?_⟩) hS ?_
                rotate_left
                · (intro w hSw; (try dsimp only at hSw); go_simp; (first | done | with_reducible rfl))
                change wpAnyH _ _ _ _ _ _ _ (Act.put _ (some 143) _) _
                simp only [Act.put, List.setIfInBounds_toArray, List.set_cons_zero, List.set_cons_succ]
                refine wpAnyH_take (i := 10) (v := ?_) rfl (by kernel_rfl) (by kernel_rfl) (by kernel_rfl) (fun _ _ _ h => h) (Or.inl ⟨by rfl, ?_⟩) hS ?_
                rotate_left
                · (intro w hSw; (try dsimp only at hSw); go_simp; (first | done | with_reducible rfl))
                change wpAnyH _ _ _ _ _ _ _ (Act.put _ (some 144) _) _
                simp only [Act.put, List.setIfInBounds_toArray, List.set_cons_zero, List.set_cons_succ]
                refine wpAnyH_take (i := 11) (v := ?_) rfl (by kernel_rfl) (by kernel_rfl) (by kernel_rfl) (fun _ _ _ h => h) (Or.inl ⟨by rfl, ?_⟩) hS ?_
                rotate_left
                · (intro w hSw; (try dsimp only at hSw); go_simp; (first | done | with_reducible rfl))
                change wpAnyH _ _ _ _ _ _ _ (Act.put _ (some 145) _) _
                simp only [Act.put, List.setIfInBounds_toArray, List.set_cons_zero, List.set_cons_succ]
                refine wpAnyH_ready (rs := [12]) (by kernel_rfl) (by simp) ?_
                refine AllReadyH.cons rfl (fun K hK => ?_) AllReadyH.nil
                go_simp
                refine (saysK (sameInts a1.a a2.a a1.c a2.c a1.l a2.l v0 ((hoa.rd.keep kz)) (hoc.rd.keep kz) (by have := l1; unfold Reach; omega) (by have := l2; unfold Reach; omega))).mono ?_
                rintro e v1 ⟨rfl, kn⟩
                rw [decide_eq_true H12.out]
                go_wp2_with fail
                refine hK.out _ _ ⟨kn.cell hS.1, kn.cell hS.2⟩ (fun hS => ?_)
                clear hK K
                try simp only [Act.put, List.setIfInBounds_toArray, List.set_cons_zero, List.set_cons_succ]
                refine wpAnyH_take (i := 13) (v := ?_) rfl (by kernel_rfl) (by kernel_rfl) (by kernel_rfl) (fun _ _ _ h => h) (Or.inl ⟨by rfl, ?_⟩) hS ?_
                rotate_left
                · (intro w hSw; (try dsimp only at hSw); go_simp; (first | done | with_reducible rfl))
                change wpAnyH _ _ _ _ _ _ _ (Act.put _ (some 147) _) _
                simp only [Act.put, List.setIfInBounds_toArray, List.set_cons_zero, List.set_cons_succ]
                refine wpAnyH_take (i := 14) (v := ?_) rfl (by kernel_rfl) (by kernel_rfl) (by kernel_rfl) (fun _ _ _ h => h) (Or.inl ⟨by rfl, ?_⟩) hS ?_
                rotate_left
                · (intro w hSw; (try dsimp only at hSw); go_simp; (first | done | with_reducible rfl))
                change wpAnyH _ _ _ _ _ _ _ (Act.put _ (some 148) _) _
                simp only [Act.put, List.setIfInBounds_toArray, List.set_cons_zero, List.set_cons_succ]
                refine wpAnyH_take (i := 15) (v := ?_) rfl (by kernel_rfl) (by kernel_rfl) (by kernel_rfl) (fun _ _ _ h => h) (Or.inl ⟨by rfl, ?_⟩) hS ?_
                rotate_left
                · (intro w hSw; (try dsimp only at hSw); go_simp; (first | done | with_reducible rfl))
                change wpAnyH _ _ _ _ _ _ _ (Act.put _ (some 149) _) _
                simp only [Act.put, List.setIfInBounds_toArray, List.set_cons_zero, List.set_cons_succ]
                refine wpAnyH_take (i := 16) (v := ?_) rfl (by kernel_rfl) (by kernel_rfl) (by kernel_rfl) (fun _ _ _ h => h) (Or.inl ⟨by rfl, ?_⟩) hS ?_
                rotate_left
                · (intro w hSw; (try dsimp only at hSw); go_simp; (first | done | with_reducible rfl))
                change wpAnyH _ _ _ _ _ _ _ (Act.put _ (some 150) _) _
                simp only [Act.put, List.setIfInBounds_toArray, List.set_cons_zero, List.set_cons_succ]
                refine wpAnyH_take (i := 17) (v := ?_) rfl (by kernel_rfl) (by kernel_rfl) (by kernel_rfl) (fun _ _ _ h => h) (Or.inl ⟨by rfl, ?_⟩) hS ?_
                rotate_left
                · (intro w hSw; (try dsimp only at hSw); go_simp; (first | done | with_reducible rfl))
                change wpAnyH _ _ _ _ _ _ _ (Act.put _ (some 151) _) _
                simp only [Act.put, List.setIfInBounds_toArray, List.set_cons_zero, List.set_cons_succ]
                refine wpAnyH_take (i := 18) (v := undef) rfl (by kernel_rfl) (by kernel_rfl) (by kernel_rfl) (fun _ _ _ h => h) (Or.inr ⟨by rfl, rfl⟩) hS ?_
                change wpAnyH _ _ _ _ _ _ _ (Act.put _ (some 152) _) _
                simp only [Act.put, List.setIfInBounds_toArray, List.set_cons_zero, List.set_cons_succ]
                refine wpAnyH_take (i := 19) (v := undef) rfl (by kernel_rfl) (by kernel_rfl) (by kernel_rfl) (fun _ _ _ h => h) (Or.inr ⟨by rfl, rfl⟩) hS ?_
                change wpAnyH _ _ _ _ _ _ _ (Act.put _ (some 153) _) _
                simp only [Act.put, List.setIfInBounds_toArray, List.set_cons_zero, List.set_cons_succ]
                refine wpAnyH_take (i := 20) (v := undef) rfl (by kernel_rfl) (by kernel_rfl) (by kernel_rfl) (fun _ _ _ h => h) (Or.inr ⟨by rfl, rfl⟩) hS ?_
                change wpAnyH _ _ _ _ _ _ _ (Act.put _ (some 154) _) _
                simp only [Act.put, List.setIfInBounds_toArray, List.set_cons_zero, List.set_cons_succ]
                refine wpAnyH_take (i := 21) (v := undef) rfl (by kernel_rfl) (by kernel_rfl) (by kernel_rfl) (fun _ _ _ h => h) (Or.inr ⟨by rfl, rfl⟩) hS ?_
                change wpAnyH _ _ _ _ _ _ _ (Act.put _ (some 155) _) _
                simp only [Act.put, List.setIfInBounds_toArray, List.set_cons_zero, List.set_cons_succ]
                refine wpAnyH_take (i := 22) (v := undef) rfl (by kernel_rfl) (by kernel_rfl) (by kernel_rfl) (fun _ _ _ h => h) (Or.inr ⟨by rfl, rfl⟩) hS ?_
                change wpAnyH _ _ _ _ _ _ _ (Act.put _ (some 156) _) _
                simp only [Act.put, List.setIfInBounds_toArray, List.set_cons_zero, List.set_cons_succ]
                refine wpAnyH_take (i := 23) (v := undef) rfl (by kernel_rfl) (by kernel_rfl) (by kernel_rfl) (fun _ _ _ h => h) (Or.inr ⟨by rfl, rfl⟩) hS ?_
                change wpAnyH _ _ _ _ _ _ _ (Act.put _ (some 157) _) _
                simp only [Act.put, List.setIfInBounds_toArray, List.set_cons_zero, List.set_cons_succ]
                refine wpAnyH_take (i := 24) (v := undef) rfl (by kernel_rfl) (by kernel_rfl) (by kernel_rfl) (fun _ _ _ h => h) (Or.inr ⟨by rfl, rfl⟩) hS ?_
                change wpAnyH _ _ _ _ _ _ _ (Act.put _ (some 158) _) _
                simp only [Act.put, List.setIfInBounds_toArray, List.set_cons_zero, List.set_cons_succ]
                refine wpAnyH_take (i := 25) (v := undef) rfl (by kernel_rfl) (by kernel_rfl) (by kernel_rfl) (fun _ _ _ h => h) (Or.inr ⟨by rfl, rfl⟩) hS ?_
                change wpAnyH _ _ _ _ _ _ _ (Act.put _ (some 159) _) _
                simp only [Act.put, List.setIfInBounds_toArray, List.set_cons_zero, List.set_cons_succ]
                refine wpAnyH_take (i := 26) (v := undef) rfl (by kernel_rfl) (by kernel_rfl) (by kernel_rfl) (fun _ _ _ h => h) (Or.inr ⟨by rfl, rfl⟩) hS ?_
                change wpAnyH _ _ _ _ _ _ _ (Act.put _ (some 160) _) _
                simp only [Act.put, List.setIfInBounds_toArray, List.set_cons_zero, List.set_cons_succ]
                refine wpAnyH_take (i := 27) (v := undef) rfl (by kernel_rfl) (by kernel_rfl) (by kernel_rfl) (fun _ _ _ h => h) (Or.inr ⟨by rfl, rfl⟩) hS ?_
                change wpAnyH _ _ _ _ _ _ _ (Act.put _ (some 161) _) _
                simp only [Act.put, List.setIfInBounds_toArray, List.set_cons_zero, List.set_cons_succ]
                refine wpAnyH_take (i := 28) (v := ?_) rfl (by kernel_rfl) (by kernel_rfl) (by kernel_rfl) (fun _ _ _ h => h) (Or.inl ⟨by rfl, ?_⟩) hS ?_
                rotate_left
                · (intro w hSw; (try dsimp only at hSw); go_simp; (first | done | with_reducible rfl))
                change wpAnyH _ _ _ _ _ _ _ (Act.put _ (some 162) _) _
                simp only [Act.put, List.setIfInBounds_toArray, List.set_cons_zero, List.set_cons_succ]
                refine wpAnyH_take (i := 29) (v := ?_) rfl (by kernel_rfl) (by kernel_rfl) (by kernel_rfl) (fun _ _ _ h => h) (Or.inl ⟨by rfl, ?_⟩) hS ?_
                rotate_left
                · (intro w hSw; (try dsimp only at hSw); go_simp; (first | done | with_reducible rfl))
                change wpAnyH _ _ _ _ _ _ _ (Act.put _ (some 163) _) _
                simp only [Act.put, List.setIfInBounds_toArray, List.set_cons_zero, List.set_cons_succ]
                refine wpAnyH_take (i := 30) (v := ?_) rfl (by kernel_rfl) (by kernel_rfl) (by kernel_rfl) (fun _ _ _ h => h) (Or.inl ⟨by rfl, ?_⟩) hS ?_
                rotate_left
                · (intro w hSw; (try dsimp only at hSw); go_simp; (first | done | with_reducible rfl))
                change wpAnyH _ _ _ _ _ _ _ (Act.put _ (some 164) _) _
                simp only [Act.put, List.setIfInBounds_toArray, List.set_cons_zero, List.set_cons_succ]
                refine wpAnyH_done (by kernel_rfl) ?_ _
                refine NoPanic.normal ?_
                go_wp2_with fail
                go_meet
                exact ⟨rfl, kz.trans kn⟩
            case rest =>
            obtain ⟨rfl, kq⟩ := hcut
            replace hkeep := hkeep.trans kq
            replace cc := kq.cell cc
            replace hoc := hoc.keep kq
            clear kq ca hoa hA1 hC1 ea
            obtain ⟨w12, hw12⟩ : ∃ x, x = wc := ⟨wc, rfl⟩
            subst hw12
            go_wp2_with fail
            go_loopw [18] (fun v wr => ∃ j : Nat, j ≤ a2.l.length ∧ v = .int .i64 j ∧ Keep w12 wr) (fun v _ => a2.l.length - (intOf v).toNat)
            case atStart => exact ⟨0, Nat.zero_le _, rfl, Keep.refl _⟩
            case round =>
              obtain ⟨j, hj, rfl, hk2⟩ := hrel
              replace cc := hk2.cell cc
              by_cases hjl : j < a2.l.length ∧ i = k
              · obtain ⟨hj1, hik⟩ := hjl
                obtain ⟨b5, o5, x5, ha2, hxj, hcj⟩ := (hoc.rd.keep hk2).int_at hj1
                have hx5 : x5 = -1 := gains_none (hik ▸ ec) x5 (List.mem_of_getElem? hxj)
                have z5 : ((i : Int) == k) = true := beq_iff_eq.2 (by omega)
                have z6 : (x5 != -1) = false := by simp [hx5]
                rw [ha2] at cc
                have z7 : (j : Int) < a2.l.length := by omega
                have z8 : (0 : Int) ≤ j := by omega
                clear ha2 hxj hx5 hik
                go_wp2_with fail
                go_roundw
                case rel => exact ⟨j + 1, by omega, by go_num, hk2⟩
                case measure => simp [intOf]; omega
              · by_cases hj1 : j < a2.l.length
                · have z5 : ((i : Int) == k) = false := beq_eq_false_iff_ne.2 (fun h => hjl ⟨hj1, by omega⟩)
                  have z7 : (j : Int) < a2.l.length := by omega
                  clear hjl
                  go_wp2_with fail
                  go_roundw
                  case rel => exact ⟨i + 1, by omega, by go_num, hkeep.trans hk2⟩
                  case measure => simp [intOf]; omega
                · clear hjl
                  go_wp2_with fail
                  go_roundw
                  case rel => exact ⟨i + 1, by omega, by go_num, hkeep.trans hk2⟩
                  case measure => simp [intOf]; omega
          · have ha := alive05_f wr
            go_wp2_with fail
            refine ha.mono ?_
            rintro e w13 ⟨rfl, k13⟩
            go_wp2_with fail
            go_ret
            exact ⟨rfl, (kk.trans hkeep).trans k13⟩
end Go.Proofs.Ytjhmlcbpbmeicaa
