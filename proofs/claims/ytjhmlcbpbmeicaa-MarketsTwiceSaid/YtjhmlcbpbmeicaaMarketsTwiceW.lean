/-
  THE WALK OF THE LAW MarketsTwice: it answers true, and turns nothing that was there. Conditions: the arguments are a market that came in and two bytes.
-/
import Derived.Test.YtjhmlcbpbmeicaaMktR
import Derived.Deep.CutRange
namespace Go.Proofs.Ytjhmlcbpbmeicaa
open Go.RowKit

set_option maxRecDepth 100000 in
set_option maxHeartbeats 4000000 in
theorem marketsTwice_w (M : Mkt) (p q : Int) (w : World) (hM : M.Ok w) (hp : 0 ≤ p ∧ p < 256) (hq : 0 ≤ q ∧ q < 256) :
    Calls Try.prog 16 #[M.val, .int .u8 p, .int .u8 q] w fun e w' => e = .returned (.bool true) ∧ Below w.heap.size w w' := by
  obtain ⟨p0, p1⟩ := hp
  obtain ⟨q0, q1⟩ := hq
  have lb := hM.b.len.le
  have bM := Blk.new w 62 [.slice M.r.a M.r.l.length M.r.c, .slice M.ba M.bs.length M.bc, .slice M.o.a M.o.l.length M.o.c]
  have kk : Keep w (w.alloc (.cells #[.slice M.r.a M.r.l.length M.r.c, .slice M.ba M.bs.length M.bc, .slice M.o.a M.o.l.length M.o.c] 62)) := Keep.alloc1 _ _
  have hc := mcheck_f M _ (hM.keep kk)
  cases hck : chkM M.r.l (bidsOf M.bs) M.o.l with
  | false =>
    rw [hck] at hc
    unfold Mkt.val at hc ⊢
    clear hck
    go_enter Try.func16, Try.ntmps16
    go_wp2_with fail
    refine hc.mono ?_
    rintro e w1 ⟨rfl, k1⟩
    have ha := alive05_f w1
    go_wp2_with fail
    refine ha.mono ?_
    rintro e w2 ⟨rfl, k2⟩
    go_wp2_with fail
    go_ret
    exact ⟨rfl, (kk.trans k1).trans k2⟩
  | true =>
    rw [hck] at hc
    obtain ⟨-, -, h3, h4, -, -⟩ := chkM_lens hck
    rw [length_bids] at h3 h4
    obtain ⟨i, hi⟩ : ∃ i : Nat, p % (M.bs.length : Int) = i := ⟨(p % (M.bs.length : Int)).toNat, by
      have := Int.emod_nonneg p (b := (M.bs.length : Int)) (by omega)
      omega⟩
    have hi1 : i < M.bs.length := by
      have := Int.emod_lt_of_pos p (b := (M.bs.length : Int)) (by omega)
      omega
    obtain ⟨k, hk⟩ : ∃ k : Nat, q % (M.bs.length : Int) = k := ⟨(q % (M.bs.length : Int)).toNat, by
      have := Int.emod_nonneg q (b := (M.bs.length : Int)) (by omega)
      omega⟩
    have hk1 : k < M.bs.length := by
      have := Int.emod_lt_of_pos q (b := (M.bs.length : Int)) (by omega)
      omega
    have hne0 : ((M.bs.length : Int) == 0) = false := beq_eq_false_iff_ne.2 (by omega)
    have HC := Lib.hid hck
    have HI := Lib.hid hi1
    have HK := Lib.hid hk1
    have hF := chkM_few hck
    clear hck hi1 hk1
    unfold Mkt.val at hc ⊢
    replace hM := hM.keep kk
    go_enter Try.func16, Try.ntmps16
    go_wp2_with fail
    refine hc.mono ?_
    rintro e w1 ⟨rfl, k1⟩
    clear hc
    generalize w.alloc (.cells #[.slice M.r.a M.r.l.length M.r.c, .slice M.ba M.bs.length M.bc, .slice M.o.a M.o.l.length M.o.c] 62) = wA at bM kk hM k1 ⊢
    generalize w.heap.size = gA at bM ⊢
    replace bM := bM.keep k1
    replace hM := hM.keep k1
    replace kk := kk.trans k1
    clear k1
    have y1 : (0 : Int) ≤ i := by omega
    have c0 := bM.cell_ (i := 0) rfl
    have c1 := bM.cell_ (i := 1) rfl
    have c2 := bM.cell_ (i := 2) rfl
    go_upto_region 5 with fail
    clear c0 c1 c2
    have c0 := bM.cell_ (i := 0) rfl
    have c1 := bM.cell_ (i := 1) rfl
    have c2 := bM.cell_ (i := 2) rfl
    have hq := without_ok M i w1 hM HC.out HI.out
    unfold Mkt.val at hq
    go_wp2_with fail
    refine hq.mono ?_
    rintro e w2 ⟨A, rfl, hA, A1, A2, A3, kq⟩
    try unfold Mkt.val
    clear hq
    replace bM := bM.keep kq
    replace hM := hM.keep kq
    replace kk := kk.trans kq
    clear kq
    clear c0 c1 c2
    have RA := Lib.hid (And.intro A1 (And.intro A2 A3))
    clear A1 A2 A3
    go_upto_region 6 with fail
    have bA := Blk.new w2 62 [.slice A.r.a A.r.l.length A.r.c, .slice A.ba A.bs.length A.bc, .slice A.o.a A.o.l.length A.o.c]
    have kn : Keep w2 (w2.alloc (.cells #[.slice A.r.a A.r.l.length A.r.c, .slice A.ba A.bs.length A.bc, .slice A.o.a A.o.l.length A.o.c] 62)) := Keep.alloc1 _ _
    change Code.wp _ _ _ _ (w2.alloc (.cells #[.slice A.r.a A.r.l.length A.r.c, .slice A.ba A.bs.length A.bc, .slice A.o.a A.o.l.length A.o.c] 62))
    generalize w2.alloc (.cells #[.slice A.r.a A.r.l.length A.r.c, .slice A.ba A.bs.length A.bc, .slice A.o.a A.o.l.length A.o.c] 62) = w3 at bA kn ⊢
    generalize w2.heap.size = gbA at bA ⊢
    replace bM := bM.keep kn
    replace hM := hM.keep kn
    replace hA := hA.keep kn
    replace kk := kk.trans kn
    clear kn
    have c0 := bM.cell_ (i := 0) rfl
    have c1 := bM.cell_ (i := 1) rfl
    have c2 := bM.cell_ (i := 2) rfl
    have hq := without_ok M k w3 hM HC.out HK.out
    unfold Mkt.val at hq
    go_wp2_with fail
    refine hq.mono ?_
    rintro e w4 ⟨B, rfl, hB, B1, B2, B3, kq⟩
    try unfold Mkt.val
    clear hq
    replace bM := bM.keep kq
    replace hM := hM.keep kq
    replace hA := hA.keep kq
    replace bA := bA.keep kq
    replace kk := kk.trans kq
    clear kq
    clear c0 c1 c2
    have RB := Lib.hid (And.intro B1 (And.intro B2 B3))
    clear B1 B2 B3
    go_upto_region 7 with fail
    have bB := Blk.new w4 62 [.slice B.r.a B.r.l.length B.r.c, .slice B.ba B.bs.length B.bc, .slice B.o.a B.o.l.length B.o.c]
    have kn : Keep w4 (w4.alloc (.cells #[.slice B.r.a B.r.l.length B.r.c, .slice B.ba B.bs.length B.bc, .slice B.o.a B.o.l.length B.o.c] 62)) := Keep.alloc1 _ _
    change Code.wp _ _ _ _ (w4.alloc (.cells #[.slice B.r.a B.r.l.length B.r.c, .slice B.ba B.bs.length B.bc, .slice B.o.a B.o.l.length B.o.c] 62))
    generalize w4.alloc (.cells #[.slice B.r.a B.r.l.length B.r.c, .slice B.ba B.bs.length B.bc, .slice B.o.a B.o.l.length B.o.c] 62) = w5 at bB kn ⊢
    generalize w4.heap.size = gbB at bB ⊢
    replace bM := bM.keep kn
    replace hM := hM.keep kn
    replace hA := hA.keep kn
    replace bA := bA.keep kn
    replace hB := hB.keep kn
    replace kk := kk.trans kn
    clear kn
    have CA := Lib.hid (chkM_out (p := i) HC.out RA.out)
    have CB := Lib.hid (chkM_out (p := k) HC.out RB.out)
    have c0 := bA.cell_ (i := 0) rfl
    have c1 := bA.cell_ (i := 1) rfl
    have c2 := bA.cell_ (i := 2) rfl
    have hq := without_ok A k w5 hA CA.out (by rw [out_len RA.out]; exact HK.out)
    unfold Mkt.val at hq
    go_wp2_with fail
    refine hq.mono ?_
    rintro e w6 ⟨C, rfl, hC, C1, C2, C3, kq⟩
    try unfold Mkt.val
    clear hq
    replace bM := bM.keep kq
    replace hM := hM.keep kq
    replace hA := hA.keep kq
    replace bA := bA.keep kq
    replace hB := hB.keep kq
    replace bB := bB.keep kq
    replace kk := kk.trans kq
    clear kq
    clear c0 c1 c2
    have RC := Lib.hid (And.intro C1 (And.intro C2 C3))
    clear C1 C2 C3
    go_upto_region 8 with fail
    have bC := Blk.new w6 62 [.slice C.r.a C.r.l.length C.r.c, .slice C.ba C.bs.length C.bc, .slice C.o.a C.o.l.length C.o.c]
    have kn : Keep w6 (w6.alloc (.cells #[.slice C.r.a C.r.l.length C.r.c, .slice C.ba C.bs.length C.bc, .slice C.o.a C.o.l.length C.o.c] 62)) := Keep.alloc1 _ _
    change Code.wp _ _ _ _ (w6.alloc (.cells #[.slice C.r.a C.r.l.length C.r.c, .slice C.ba C.bs.length C.bc, .slice C.o.a C.o.l.length C.o.c] 62))
    generalize w6.alloc (.cells #[.slice C.r.a C.r.l.length C.r.c, .slice C.ba C.bs.length C.bc, .slice C.o.a C.o.l.length C.o.c] 62) = w7 at bC kn ⊢
    generalize w6.heap.size = gbC at bC ⊢
    replace bM := bM.keep kn
    replace hM := hM.keep kn
    replace hA := hA.keep kn
    replace bA := bA.keep kn
    replace hB := hB.keep kn
    replace bB := bB.keep kn
    replace hC := hC.keep kn
    replace kk := kk.trans kn
    clear kn
    have c0 := bB.cell_ (i := 0) rfl
    have c1 := bB.cell_ (i := 1) rfl
    have c2 := bB.cell_ (i := 2) rfl
    have hq := without_ok B i w7 hB CB.out (by rw [out_len RB.out]; exact HI.out)
    unfold Mkt.val at hq
    go_wp2_with fail
    refine hq.mono ?_
    rintro e w8 ⟨D, rfl, hD, D1, D2, D3, kq⟩
    try unfold Mkt.val
    clear hq
    replace bM := bM.keep kq
    replace hM := hM.keep kq
    replace hA := hA.keep kq
    replace bA := bA.keep kq
    replace hB := hB.keep kq
    replace bB := bB.keep kq
    replace hC := hC.keep kq
    replace bC := bC.keep kq
    replace kk := kk.trans kq
    clear kq
    clear c0 c1 c2
    have RD := Lib.hid (And.intro D1 (And.intro D2 D3))
    clear D1 D2 D3
    go_upto_region 9 with fail
    have bD := Blk.new w8 62 [.slice D.r.a D.r.l.length D.r.c, .slice D.ba D.bs.length D.bc, .slice D.o.a D.o.l.length D.o.c]
    have kn : Keep w8 (w8.alloc (.cells #[.slice D.r.a D.r.l.length D.r.c, .slice D.ba D.bs.length D.bc, .slice D.o.a D.o.l.length D.o.c] 62)) := Keep.alloc1 _ _
    change Code.wp _ _ _ _ (w8.alloc (.cells #[.slice D.r.a D.r.l.length D.r.c, .slice D.ba D.bs.length D.bc, .slice D.o.a D.o.l.length D.o.c] 62))
    generalize w8.alloc (.cells #[.slice D.r.a D.r.l.length D.r.c, .slice D.ba D.bs.length D.bc, .slice D.o.a D.o.l.length D.o.c] 62) = w9 at bD kn ⊢
    generalize w8.heap.size = gbD at bD ⊢
    replace bM := bM.keep kn
    replace hM := hM.keep kn
    replace hA := hA.keep kn
    replace bA := bA.keep kn
    replace hB := hB.keep kn
    replace bB := bB.keep kn
    replace hC := hC.keep kn
    replace bC := bC.keep kn
    replace hD := hD.keep kn
    replace kk := kk.trans kn
    clear kn
    have c0 := bA.cell_ (i := 0) rfl
    have c1 := bA.cell_ (i := 1) rfl
    have c2 := bA.cell_ (i := 2) rfl
    have hq := without_ok A i w9 hA CA.out (by rw [out_len RA.out]; exact HI.out)
    unfold Mkt.val at hq
    go_wp2_with fail
    refine hq.mono ?_
    rintro e w10 ⟨E, rfl, hE, E1, E2, E3, kq⟩
    try unfold Mkt.val
    clear hq
    replace bM := bM.keep kq
    replace hM := hM.keep kq
    replace hA := hA.keep kq
    replace bA := bA.keep kq
    replace hB := hB.keep kq
    replace bB := bB.keep kq
    replace hC := hC.keep kq
    replace bC := bC.keep kq
    replace hD := hD.keep kq
    replace bD := bD.keep kq
    replace kk := kk.trans kq
    clear kq
    clear c0 c1 c2
    have RE := Lib.hid (And.intro E1 (And.intro E2 E3))
    clear E1 E2 E3
    go_upto_region 10 with fail
    have bE := Blk.new w10 62 [.slice E.r.a E.r.l.length E.r.c, .slice E.ba E.bs.length E.bc, .slice E.o.a E.o.l.length E.o.c]
    have kn : Keep w10 (w10.alloc (.cells #[.slice E.r.a E.r.l.length E.r.c, .slice E.ba E.bs.length E.bc, .slice E.o.a E.o.l.length E.o.c] 62)) := Keep.alloc1 _ _
    change Code.wp _ _ _ _ (w10.alloc (.cells #[.slice E.r.a E.r.l.length E.r.c, .slice E.ba E.bs.length E.bc, .slice E.o.a E.o.l.length E.o.c] 62))
    generalize w10.alloc (.cells #[.slice E.r.a E.r.l.length E.r.c, .slice E.ba E.bs.length E.bc, .slice E.o.a E.o.l.length E.o.c] 62) = w11 at bE kn ⊢
    generalize w10.heap.size = gbE at bE ⊢
    replace bM := bM.keep kn
    replace hM := hM.keep kn
    replace hA := hA.keep kn
    replace bA := bA.keep kn
    replace hB := hB.keep kn
    replace bB := bB.keep kn
    replace hC := hC.keep kn
    replace bC := bC.keep kn
    replace hD := hD.keep kn
    replace bD := bD.keep kn
    replace hE := hE.keep kn
    replace kk := kk.trans kn
    clear kn
    have CC := Lib.hid (chkM_out (p := k) CA.out RC.out)
    have CD := Lib.hid (chkM_out (p := i) CB.out RD.out)
    have CE := Lib.hid (chkM_out (p := i) CA.out RE.out)
    have ha := alive05_f w11
    go_wp2_with fail
    refine ha.mono ?_
    rintro e w12 ⟨rfl, kq⟩
    clear ha
    replace bM := bM.keep kq
    replace hM := hM.keep kq
    replace hA := hA.keep kq
    replace bA := bA.keep kq
    replace hB := hB.keep kq
    replace bB := bB.keep kq
    replace hC := hC.keep kq
    replace bC := bC.keep kq
    replace hD := hD.keep kq
    replace bD := bD.keep kq
    replace hE := hE.keep kq
    replace bE := bE.keep kq
    replace kk := kk.trans kq
    clear kq
    have c0 := bC.cell_ (i := 0) rfl
    have c1 := bC.cell_ (i := 1) rfl
    have c2 := bC.cell_ (i := 2) rfl
    have d0 := bD.cell_ (i := 0) rfl
    have d1 := bD.cell_ (i := 1) rfl
    have d2 := bD.cell_ (i := 2) rfl
    have hq := same_yes C D w12 hC hD CC.out CD.out ⟨by rw [RC.out.1, RA.out.1, RD.out.1, RB.out.1], by rw [RC.out.2.1, RA.out.2.1, RD.out.2.1, RB.out.2.1]; exact set_swap _ _ _, by rw [RC.out.2.2, RA.out.2.2, RD.out.2.2, RB.out.2.2]⟩
    unfold Mkt.val at hq
    go_wp2_with fail
    refine hq.mono ?_
    rintro e w13 ⟨rfl, kq⟩
    clear hq
    replace bM := bM.keep kq
    replace hM := hM.keep kq
    replace hA := hA.keep kq
    replace bA := bA.keep kq
    replace hB := hB.keep kq
    replace bB := bB.keep kq
    replace hC := hC.keep kq
    replace bC := bC.keep kq
    replace hD := hD.keep kq
    replace bD := bD.keep kq
    replace hE := hE.keep kq
    replace bE := bE.keep kq
    replace kk := kk.trans kq
    clear kq
    clear c0 c1 c2 d0 d1 d2
    have c0 := bA.cell_ (i := 0) rfl
    have c1 := bA.cell_ (i := 1) rfl
    have c2 := bA.cell_ (i := 2) rfl
    have d0 := bE.cell_ (i := 0) rfl
    have d1 := bE.cell_ (i := 1) rfl
    have d2 := bE.cell_ (i := 2) rfl
    have hq := same_yes A E w13 hA hE CA.out CE.out ⟨by rw [RE.out.1], by rw [RE.out.2.1, RA.out.2.1, List.set_set], by rw [RE.out.2.2]⟩
    unfold Mkt.val at hq
    go_wp2_with fail
    refine hq.mono ?_
    rintro e w14 ⟨rfl, kq⟩
    clear hq
    replace bM := bM.keep kq
    replace hM := hM.keep kq
    replace hA := hA.keep kq
    replace bA := bA.keep kq
    replace hB := hB.keep kq
    replace bB := bB.keep kq
    replace hC := hC.keep kq
    replace bC := bC.keep kq
    replace hD := hD.keep kq
    replace bD := bD.keep kq
    replace hE := hE.keep kq
    replace bE := bE.keep kq
    replace kk := kk.trans kq
    clear kq
    clear c0 c1 c2 d0 d1 d2
    obtain ⟨b1, o1, s, hba, hsi, hcs, hs⟩ := hM.b.at_ HI.out
    have y2 : (i : Int) < M.bs.length := by have := HI.out; omega
    have HS := Lib.hid hsi
    clear hsi
    rw [hba] at bM
    have c1 := bM.cell_ (i := 1) rfl
    by_cases hl : 0 < s.l.length
    · have z1 : (0 : Int) < s.l.length := by omega
      clear hba
      go_wp2_with fail
      go_ret
      exact ⟨rfl, kk⟩
    · have h0 : s.l.length = 0 := by omega
      have z1 : decide ((0 : Int) < s.l.length) = false := decide_eq_false (by omega)
      have z2 : (s.l.length = 0) = True := eq_true h0
      have he : (bidsOf M.bs).set i [] = bidsOf M.bs := set_same (by rw [bidsOf, List.getElem?_map, HS.out, ← List.eq_nil_of_length_eq_zero h0]; rfl)
      have hq := same_yes A M w14 hA hM CA.out HC.out ⟨RA.out.1, by rw [RA.out.2.1, he], RA.out.2.2⟩
      unfold Mkt.val at hq
      rw [hba] at hq
      clear hba h0 he hl
      have c0 := bM.cell_ (i := 0) rfl
      have c2 := bM.cell_ (i := 2) rfl
      have d0 := bA.cell_ (i := 0) rfl
      have d1 := bA.cell_ (i := 1) rfl
      have d2 := bA.cell_ (i := 2) rfl
      go_wp2_with fail
      refine hq.mono ?_
      rintro e w15 ⟨rfl, kq⟩
      go_wp2_with fail
      go_ret
      exact ⟨rfl, kk.trans kq⟩
end Go.Proofs.Ytjhmlcbpbmeicaa
