/-
  CONTRACT of the laws' check 'alive' of the package markets: it answers true; nothing that was there is turned. No condition.
-/
import Derived.Test.YtjhmlcbpbmeicaaMktO
import Derived.Test.YtjhmlcbpbmeicaaNumG
namespace Go.Proofs.Ytjhmlcbpbmeicaa
open Go.RowKit

/-- Two lists of two numbers, just built. -/
theorem lit_lists (w : World) (a b c d : Int) (hl : ([a, b, c, d] : List Int).all (fun x => decide (-9223372036854775808 ≤ x) && decide (x ≤ 9223372036854775807)) = true) :
    InR .i64 (((w.alloc (.cells #[.int .i64 a, .int .i64 b] 3)).alloc (.cells #[.int .i64 c, .int .i64 d] 3)).alloc (.cells #[.slice (some ⟨w.heap.size, 0, none⟩) 2 2, .slice (some ⟨w.heap.size + 1, 0, none⟩) 2 2] 22))
      (some ⟨w.heap.size + 1 + 1, 0, none⟩) 2 [⟨some ⟨w.heap.size, 0, none⟩, 2, [a, b]⟩, ⟨some ⟨w.heap.size + 1, 0, none⟩, 2, [c, d]⟩] := by
  have b1 : Blk (w.alloc (.cells #[.int .i64 a, .int .i64 b] 3)) w.heap.size 3 (cs .i64 [a, b]) := Blk.new w _ (cs .i64 [a, b])
  generalize hw1 : w.alloc (.cells #[.int .i64 a, .int .i64 b] 3) = w1 at b1 ⊢
  have e1 : w1.heap.size = w.heap.size + 1 := by rw [← hw1]; simp
  have b2 : Blk (w1.alloc (.cells #[.int .i64 c, .int .i64 d] 3)) (w.heap.size + 1) 3 (cs .i64 [c, d]) := e1 ▸ Blk.new w1 _ (cs .i64 [c, d])
  have k2 : Keep w1 (w1.alloc (.cells #[.int .i64 c, .int .i64 d] 3)) := Keep.alloc1 _ _
  have e2 : (w1.alloc (.cells #[.int .i64 c, .int .i64 d] 3)).heap.size = w.heap.size + 1 + 1 := by simp [e1]
  generalize w1.alloc (.cells #[.int .i64 c, .int .i64 d] 3) = w2 at b2 k2 e2 ⊢
  have b3 : Blk (w2.alloc (.cells #[.slice (some ⟨w.heap.size, 0, none⟩) 2 2, .slice (some ⟨w.heap.size + 1, 0, none⟩) 2 2] 22)) (w.heap.size + 1 + 1) 22 [.slice (some ⟨w.heap.size, 0, none⟩) 2 2, .slice (some ⟨w.heap.size + 1, 0, none⟩) 2 2] := e2 ▸ Blk.new w2 _ _
  have k3 : Keep w2 (w2.alloc (.cells #[.slice (some ⟨w.heap.size, 0, none⟩) 2 2, .slice (some ⟨w.heap.size + 1, 0, none⟩) 2 2] 22)) := Keep.alloc1 _ _
  have wf : ∀ x ∈ ([a, b, c, d] : List Int), (Lit.int .i64 x).wf = true := fun x hx => by
    have := List.all_eq_true.1 hl x hx
    simp only [Bool.and_eq_true, decide_eq_true_eq] at this
    exact WalkArith.wf_i64 (by omega)
  refine ⟨b3.rd, Nat.le_refl _, (show 2 ≤ maxLen by decide), fun s h => ?_⟩
  simp only [List.mem_cons, List.not_mem_nil, or_false] at h
  rcases h with rfl | rfl
  · exact ⟨⟨((b1.keep k2).keep k3).rd, (show 2 ≤ 2 by decide), (show 2 ≤ maxLen by decide), fun x hx => wf x (by simp only [List.mem_cons, List.not_mem_nil, or_false] at hx ⊢; rcases hx with h | h <;> simp [h])⟩, fun h => by cases h⟩
  · exact ⟨⟨(b2.keep k3).rd, (show 2 ≤ 2 by decide), (show 2 ≤ maxLen by decide), fun x hx => wf x (by simp only [List.mem_cons, List.not_mem_nil, or_false] at hx ⊢; rcases hx with h | h <;> simp [h])⟩, fun h => by cases h⟩
theorem lit_nils (w : World) : InR .i64 (w.alloc (.cells #[nilS, nilS] 22)) (some ⟨w.heap.size, 0, none⟩) 2 [⟨none, 0, []⟩, ⟨none, 0, []⟩] := by
  refine ⟨(Blk.new w 22 [nilS, nilS]).rd, Nat.le_refl _, (show 2 ≤ maxLen by decide), fun s h => ?_⟩
  simp only [List.mem_cons, List.not_mem_nil, or_false, or_self] at h
  subst h
  exact ⟨⟨Rd.nil _ _, Nat.le_refl _, Nat.zero_le _, fun x h => by cases h⟩, fun _ => rfl⟩
theorem short_of {ss : List Sl} {l : List (List Int)} (h : bidsOf ss = l) (hl : l.all (fun x => decide (x.length ≤ 1000000)) = true) : Short ss := fun s hs => by
  have h1 : s.l ∈ l := h ▸ List.mem_map.2 ⟨s, hs, rfl⟩
  simpa using List.all_eq_true.1 hl _ h1
theorem same_true (A B : Option Addr) (ca cb n m : Nat) (ss ts : List Sl) (w : World) (hn : n = ss.length) (hm : m = ts.length) (ha : InR .i64 w A ca ss) (hb : InR .i64 w B cb ts) (la : Short ss) (lb : Short ts) (h : bidsOf ss = bidsOf ts) :
    Calls Try.prog 55 #[.slice A n ca, .slice B m cb] w fun e w' => e = .returned (.bool true) ∧ Keep w w' := by
  subst hn hm
  refine (sameLists A B ca cb ss ts w ha hb la lb).mono ?_
  intro e w' hs
  rw [decide_eq_true h] at hs
  exact hs.keep
theorem known_g4 : g4 (putM [3, 1] [[5, 0], []] [1, 0]) = some ([3, 1], [[5, 0], []], [1, 0], []) := by decide
theorem known_bytes : Bytes (putM [3, 1] [[5, 0], []] [1, 0]) := bytes_of (by decide)

set_option maxRecDepth 100000 in
set_option maxHeartbeats 4000000 in
theorem alive05_f (w : World) : Calls Try.prog 38 #[] w fun e w' => e = .returned (.bool true) ∧ Keep w w' := by
  go_enter Try.func38, Try.ntmps38
  go_wp2_with fail
  refine (known_f w).mono ?_
  rintro e w1 ⟨M, rfl, hM, m1, m2, m3, k1⟩
  have hck : chkM M.r.l (bidsOf M.bs) M.o.l = true := by rw [m1, m2, m3]; decide
  have hF := chkM_few hck
  have hlen : M.bs.length = 2 := by rw [← length_bids, m2]; rfl
  have H1 := Lib.hid m1
  have H2 := Lib.hid m2
  have H3 := Lib.hid m3
  have HL := Lib.hid hlen
  have HC := Lib.hid hck
  clear m1 m2 m3 hlen hck
  unfold Mkt.val
  go_upto_region 2 with fail
  have bA := Blk.new w1 62 [.slice M.r.a M.r.l.length M.r.c, .slice M.ba M.bs.length M.bc, .slice M.o.a M.o.l.length M.o.c]
  have kA : Keep w1 (w1.alloc (.cells #[.slice M.r.a M.r.l.length M.r.c, .slice M.ba M.bs.length M.bc, .slice M.o.a M.o.l.length M.o.c] 62)) := Keep.alloc1 _ _
  change Code.wp _ _ _ _ (w1.alloc (.cells #[.slice M.r.a M.r.l.length M.r.c, .slice M.ba M.bs.length M.bc, .slice M.o.a M.o.l.length M.o.c] 62))
  generalize w1.alloc (.cells #[.slice M.r.a M.r.l.length M.r.c, .slice M.ba M.bs.length M.bc, .slice M.o.a M.o.l.length M.o.c] 62) = wA at bA kA ⊢
  generalize w1.heap.size = gA at bA ⊢
  replace hM := hM.keep kA
  have kk := k1.trans kA
  clear k1 kA
  have hq := gains_yes M wA hM HC.out
  unfold Mkt.val at hq
  have c0 := bA.cell_ (i := 0) rfl
  have c1 := bA.cell_ (i := 1) rfl
  have c2 := bA.cell_ (i := 2) rfl
  go_wp2_with fail
  refine hq.mono ?_
  rintro e w2 ⟨g, ss, rfl, hss, hsl, k2⟩
  replace bA := bA.keep k2
  replace hM := hM.keep k2
  replace kk := kk.trans k2
  clear k2
  clear c0 c1 c2 hq
  have hq : Calls Try.prog 36 #[M.val, .int .i64 0] w2 (WithoutP M 0 w2) := without_yes M 0 w2 hM HC.out (by rw [HL.out]; decide)
  unfold Mkt.val at hq
  have c0 := bA.cell_ (i := 0) rfl
  have c1 := bA.cell_ (i := 1) rfl
  have c2 := bA.cell_ (i := 2) rfl
  go_wp2_with fail
  refine hq.mono ?_
  rintro e w3 ⟨N, rfl, hN, n1, n2, n3, _, k3⟩
  have HN := Lib.hid n2
  clear n1 n2 n3 hq c0 c1 c2
  unfold Mkt.val
  replace bA := bA.keep k3
  replace hM := hM.keep k3
  replace hss := hss.keep k3
  replace kk := kk.trans k3
  clear k3
  go_upto_region 4 with fail
  have bN := Blk.new w3 62 [.slice N.r.a N.r.l.length N.r.c, .slice N.ba N.bs.length N.bc, .slice N.o.a N.o.l.length N.o.c]
  have kn : Keep w3 (w3.alloc (.cells #[.slice N.r.a N.r.l.length N.r.c, .slice N.ba N.bs.length N.bc, .slice N.o.a N.o.l.length N.o.c] 62)) := Keep.alloc1 _ _
  change Code.wp _ _ _ _ (w3.alloc (.cells #[.slice N.r.a N.r.l.length N.r.c, .slice N.ba N.bs.length N.bc, .slice N.o.a N.o.l.length N.o.c] 62))
  generalize w3.alloc (.cells #[.slice N.r.a N.r.l.length N.r.c, .slice N.ba N.bs.length N.bc, .slice N.o.a N.o.l.length N.o.c] 62) = w4 at bN kn ⊢
  generalize w3.heap.size = gbN at bN ⊢
  replace bA := bA.keep kn
  replace hM := hM.keep kn
  replace hN := hN.keep kn
  replace hss := hss.keep kn
  replace kk := kk.trans kn
  clear kn
  have hq := mput_yes M w4 hM HC.out
  unfold Mkt.val at hq
  have c0 := bA.cell_ (i := 0) rfl
  have c1 := bA.cell_ (i := 1) rfl
  have c2 := bA.cell_ (i := 2) rfl
  go_wp2_with fail
  refine hq.mono ?_
  rintro e w5 ⟨A5, n5, hn5, rfl, f5, k5⟩
  rw [H1.out, H2.out, H3.out] at f5 hn5
  have HP := Lib.hid hn5
  clear hn5 hq c0 c1 c2
  replace bA := bA.keep k5
  replace bN := bN.keep k5
  replace hM := hM.keep k5
  replace hN := hN.keep k5
  replace hss := hss.keep k5
  replace kk := kk.trans k5
  clear k5
  have hq := getM_yes A5 n5 n5 _ w5 f5.rd known_bytes HP.out (Nat.le_refl _) (by rw [HP.out]; unfold Len; decide) known_g4 (by decide)
  go_wp2_with fail
  refine hq.mono ?_
  rintro e w6 ⟨K, rfl, hK, q1, q2, q3, _, k6⟩
  have HK := Lib.hid (And.intro q1 (And.intro q2 q3))
  clear q1 q2 q3 hq f5
  unfold Mkt.val
  replace bA := bA.keep k6
  replace bN := bN.keep k6
  replace hM := hM.keep k6
  replace hN := hN.keep k6
  replace hss := hss.keep k6
  replace kk := kk.trans k6
  clear k6
  go_upto_region 6 with fail
  have bK := Blk.new w6 62 [.slice K.r.a K.r.l.length K.r.c, .slice K.ba K.bs.length K.bc, .slice K.o.a K.o.l.length K.o.c]
  have kn : Keep w6 (w6.alloc (.cells #[.slice K.r.a K.r.l.length K.r.c, .slice K.ba K.bs.length K.bc, .slice K.o.a K.o.l.length K.o.c] 62)) := Keep.alloc1 _ _
  change Code.wp _ _ _ _ (w6.alloc (.cells #[.slice K.r.a K.r.l.length K.r.c, .slice K.ba K.bs.length K.bc, .slice K.o.a K.o.l.length K.o.c] 62))
  generalize w6.alloc (.cells #[.slice K.r.a K.r.l.length K.r.c, .slice K.ba K.bs.length K.bc, .slice K.o.a K.o.l.length K.o.c] 62) = w7 at bK kn ⊢
  generalize w6.heap.size = gbK at bK ⊢
  replace bA := bA.keep kn
  replace bN := bN.keep kn
  replace hM := hM.keep kn
  replace hN := hN.keep kn
  replace hK := hK.keep kn
  replace hss := hss.keep kn
  replace kk := kk.trans kn
  clear kn
  have hq := getM_short none 0 0 [] w7 (Rd.nil _ _) Bytes.nil rfl (Nat.le_refl _) (by unfold Len; decide) rfl
  go_wp2_with fail
  refine hq.mono ?_
  rintro e w8 ⟨rfl, k8⟩
  clear hq
  replace bA := bA.keep k8
  replace bN := bN.keep k8
  replace bK := bK.keep k8
  replace hM := hM.keep k8
  replace hN := hN.keep k8
  replace hK := hK.keep k8
  replace hss := hss.keep k8
  replace kk := kk.trans k8
  clear k8
  go_upto_region 7 with fail
  have b1 := Blk.new w8 62 [.slice none 0 0, .slice none 0 0, .slice none 0 0]
  have kn : Keep w8 (w8.alloc (.cells #[.slice none 0 0, .slice none 0 0, .slice none 0 0] 62)) := Keep.alloc1 _ _
  change Code.wp _ _ _ _ (w8.alloc (.cells #[.slice none 0 0, .slice none 0 0, .slice none 0 0] 62))
  generalize w8.alloc (.cells #[.slice none 0 0, .slice none 0 0, .slice none 0 0] 62) = w9 at b1 kn ⊢
  generalize w8.heap.size = gb1 at b1 ⊢
  replace bA := bA.keep kn
  replace bN := bN.keep kn
  replace bK := bK.keep kn
  replace hM := hM.keep kn
  replace hN := hN.keep kn
  replace hK := hK.keep kn
  replace hss := hss.keep kn
  replace kk := kk.trans kn
  clear kn
  have hq : Calls Try.prog 36 #[M.val, .int .i64 2] w9 _ := without_many M 2 w9 hM HC.out (by rw [HL.out]; decide)
  unfold Mkt.val at hq
  have c0 := bA.cell_ (i := 0) rfl
  have c1 := bA.cell_ (i := 1) rfl
  have c2 := bA.cell_ (i := 2) rfl
  go_wp2_with fail
  refine hq.mono ?_
  rintro e w10 ⟨rfl, k10⟩
  clear hq c0 c1 c2
  replace bA := bA.keep k10
  replace bN := bN.keep k10
  replace bK := bK.keep k10
  replace b1 := b1.keep k10
  replace hM := hM.keep k10
  replace hN := hN.keep k10
  replace hK := hK.keep k10
  replace hss := hss.keep k10
  replace kk := kk.trans k10
  clear k10
  go_upto_region 8 with fail
  have b2 := Blk.new w10 62 [.slice none 0 0, .slice none 0 0, .slice none 0 0]
  have kn : Keep w10 (w10.alloc (.cells #[.slice none 0 0, .slice none 0 0, .slice none 0 0] 62)) := Keep.alloc1 _ _
  change Code.wp _ _ _ _ (w10.alloc (.cells #[.slice none 0 0, .slice none 0 0, .slice none 0 0] 62))
  generalize w10.alloc (.cells #[.slice none 0 0, .slice none 0 0, .slice none 0 0] 62) = w11 at b2 kn ⊢
  generalize w10.heap.size = gb2 at b2 ⊢
  replace bA := bA.keep kn
  replace bN := bN.keep kn
  replace bK := bK.keep kn
  replace b1 := b1.keep kn
  replace hM := hM.keep kn
  replace hN := hN.keep kn
  replace hK := hK.keep kn
  replace hss := hss.keep kn
  replace kk := kk.trans kn
  clear kn
  have hq := mcheck_f M w11 hM
  rw [HC.out] at hq
  unfold Mkt.val at hq
  have c0 := bA.cell_ (i := 0) rfl
  have c1 := bA.cell_ (i := 1) rfl
  have c2 := bA.cell_ (i := 2) rfl
  go_wp2_with fail
  refine hq.mono ?_
  rintro e w12 ⟨rfl, k12⟩
  clear hq c0 c1 c2
  replace bA := bA.keep k12
  replace bN := bN.keep k12
  replace bK := bK.keep k12
  replace b1 := b1.keep k12
  replace b2 := b2.keep k12
  replace hM := hM.keep k12
  replace hN := hN.keep k12
  replace hK := hK.keep k12
  replace hss := hss.keep k12
  replace kk := kk.trans k12
  clear k12
  have hl := lit_lists w12 2 (-1) (-1) (-1) (by decide)
  have kn : Keep w12 (((w12.alloc (.cells #[.int .i64 2, .int .i64 (-1)] 3)).alloc (.cells #[.int .i64 (-1), .int .i64 (-1)] 3)).alloc (.cells #[.slice (some ⟨w12.heap.size, 0, none⟩) 2 2, .slice (some ⟨w12.heap.size + 1, 0, none⟩) 2 2] 22)) := (((Keep.alloc1 _ _).trans (Keep.alloc1 _ _)).trans (Keep.alloc1 _ _))
  have hb : bidsOf ss = [[2, -1], [-1, -1]] := by rw [hsl, H1.out, H2.out]; decide
  have hq := same_true (some ⟨g, 0, none⟩) (some ⟨w12.heap.size + 1 + 1, 0, none⟩) ss.length 2 ss.length 2 ss _ _ rfl rfl (hss.keep kn) hl (short_of hb (by decide)) (short_of (l := [[2, -1], [-1, -1]]) rfl (by decide)) hb
  clear hl hb hsl
  go_wp2_with fail
  refine hq.mono ?_
  rintro e w13 ⟨rfl, k13⟩
  clear hq
  replace bA := bA.keep kn
  replace bN := bN.keep kn
  replace bK := bK.keep kn
  replace b1 := b1.keep kn
  replace b2 := b2.keep kn
  replace hM := hM.keep kn
  replace hN := hN.keep kn
  replace hK := hK.keep kn
  replace hss := hss.keep kn
  replace kk := kk.trans kn
  clear kn
  replace bA := bA.keep k13
  replace bN := bN.keep k13
  replace bK := bK.keep k13
  replace b1 := b1.keep k13
  replace b2 := b2.keep k13
  replace hM := hM.keep k13
  replace hN := hN.keep k13
  replace hK := hK.keep k13
  replace hss := hss.keep k13
  replace kk := kk.trans k13
  clear k13
  have hl := lit_nils w13
  have kn : Keep w13 (w13.alloc (.cells #[.slice none 0 0, .slice none 0 0] 22)) := Keep.alloc1 _ _
  have hb : bidsOf N.bs = [[], []] := by rw [HN.out, H2.out]; decide
  have hq := same_true N.ba (some ⟨w13.heap.size, 0, none⟩) N.bc 2 N.bs.length 2 N.bs _ _ rfl rfl (hN.keep kn).b hl (short_of hb (by decide)) (short_of (l := [[], []]) rfl (by decide)) hb
  clear hl hb
  have d1 := bN.cell_ (i := 1) rfl
  go_wp2_with fail
  refine hq.mono ?_
  rintro e w14 ⟨rfl, k14⟩
  clear hq d1
  replace bA := bA.keep kn
  replace bN := bN.keep kn
  replace bK := bK.keep kn
  replace b1 := b1.keep kn
  replace b2 := b2.keep kn
  replace hM := hM.keep kn
  replace hN := hN.keep kn
  replace hK := hK.keep kn
  replace hss := hss.keep kn
  replace kk := kk.trans kn
  clear kn
  replace bA := bA.keep k14
  replace bN := bN.keep k14
  replace bK := bK.keep k14
  replace b1 := b1.keep k14
  replace b2 := b2.keep k14
  replace hM := hM.keep k14
  replace hN := hN.keep k14
  replace hK := hK.keep k14
  replace hss := hss.keep k14
  replace kk := kk.trans k14
  clear k14
  have fK : K.Few := chkM_few (by rw [HK.out.1, HK.out.2.1, HK.out.2.2]; decide)
  have hq := sameMarket_f M K w14 hM hK hF fK
  rw [show sameM M K = true by unfold sameM; rw [H1.out, H2.out, H3.out, HK.out.1, HK.out.2.1, HK.out.2.2]; decide] at hq
  unfold Mkt.val at hq
  have c0 := bA.cell_ (i := 0) rfl
  have c1 := bA.cell_ (i := 1) rfl
  have c2 := bA.cell_ (i := 2) rfl
  have d0 := bK.cell_ (i := 0) rfl
  have d1 := bK.cell_ (i := 1) rfl
  have d2 := bK.cell_ (i := 2) rfl
  go_wp2_with fail
  refine hq.mono ?_
  rintro e w15 ⟨rfl, k15⟩
  clear hq c0 c1 c2 d0 d1 d2
  replace bA := bA.keep k15
  replace bN := bN.keep k15
  replace bK := bK.keep k15
  replace b1 := b1.keep k15
  replace b2 := b2.keep k15
  replace hM := hM.keep k15
  replace hN := hN.keep k15
  replace hK := hK.keep k15
  replace hss := hss.keep k15
  replace kk := kk.trans k15
  clear k15
  have hq := mcheck_f noM w15 (noM_ok w15)
  rw [show chkM noM.r.l (bidsOf noM.bs) noM.o.l = false from rfl] at hq
  unfold Mkt.val noM at hq
  simp only [List.length_nil] at hq
  go_wp2_with fail
  refine hq.mono ?_
  rintro e w16 ⟨rfl, k16⟩
  go_wp2_with fail
  go_ret
  exact ⟨rfl, kk.trans k16⟩
end Go.Proofs.Ytjhmlcbpbmeicaa
