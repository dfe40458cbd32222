/-
  THE WALK OF THE LAW MarketsBack: it answers true, and turns nothing that was there. Conditions: the arguments are a market that came in, a byte and a number of 16 bits.
-/
import Derived.Test.YtjhmlcbpbmeicaaMktS
namespace Go.Proofs.Ytjhmlcbpbmeicaa
open Go.RowKit

theorem bytes1 {m : Int} (h : 0 ≤ m ∧ m < 256) : Bytes [m] := fun x hx => by
  simp at hx
  subst hx
  exact h

set_option maxRecDepth 100000 in
set_option maxHeartbeats 4000000 in
theorem marketsBack_w (M : Mkt) (m cut : Int) (w : World) (hM : M.Ok w) (hm : 0 ≤ m ∧ m < 256) (hu : 0 ≤ cut ∧ cut < 65536) :
    Calls Try.prog 12 #[M.val, .int .u8 m, .int .u16 cut] w fun e w' => e = .returned (.bool true) ∧ Below w.heap.size w w' := by
  have lr := hM.r.len.le
  have lb := hM.b.len.le
  have lo := hM.o.len.le
  have bM := Blk.new w 62 [.slice M.r.a M.r.l.length M.r.c, .slice M.ba M.bs.length M.bc, .slice M.o.a M.o.l.length M.o.c]
  have kk : Keep w (w.alloc (.cells #[.slice M.r.a M.r.l.length M.r.c, .slice M.ba M.bs.length M.bc, .slice M.o.a M.o.l.length M.o.c] 62)) := Keep.alloc1 _ _
  cases hck : chkM M.r.l (bidsOf M.bs) M.o.l with
  | false =>
    have hq := mput_no M _ (hM.keep kk) hck
    unfold Mkt.val at hq ⊢
    clear hck
    go_enter Try.func12, Try.ntmps12
    go_wp2_with fail
    refine hq.mono ?_
    rintro e w1 ⟨rfl, k1⟩
    have ha := alive05_f w1
    go_wp2_with fail
    refine ha.mono ?_
    rintro e w2 ⟨rfl, k2⟩
    go_wp2_with fail
    go_ret
    exact ⟨rfl, (kk.trans k1).trans k2⟩
  | true =>
    have hq := mput_yes M _ (hM.keep kk) hck
    obtain ⟨FR, FB, Fb, FO⟩ := chkM_fit hck
    have hpe := putM_few hck
    have hmx := putM_max hck
    have hln := length_putM hck
    obtain ⟨ps, hps⟩ : ∃ ps, ps = putM M.r.l (bidsOf M.bs) M.o.l := ⟨_, rfl⟩
    rw [← hps] at hpe hmx hln hq
    have hpb : Bytes ps := by rw [hpe]; exact bytes_bytesM _ _ _
    have v1 : g4 ps = some (M.r.l, bidsOf M.bs, M.o.l, []) := by
      have := g4_put FR FB Fb FO []
      rwa [List.append_nil, ← hpe] at this
    have v2 : g4 (ps ++ [m]) = some (M.r.l, bidsOf M.bs, M.o.l, [m]) := by rw [hpe]; exact g4_put FR FB Fb FO [m]
    have hpos : 0 < ps.length := by omega
    obtain ⟨n, hn⟩ : ∃ n, n = ps.length := ⟨_, rfl⟩
    obtain ⟨hu0, hu1⟩ := hu
    have hm1 := bytes1 hm
    obtain ⟨hm0, hm2⟩ := hm
    rw [← hn] at hmx hpos hq
    obtain ⟨k, hk⟩ : ∃ k : Nat, cut % (n : Int) = k := ⟨(cut % (n : Int)).toNat, by
      have := Int.emod_nonneg cut (b := (n : Int)) (by omega)
      omega⟩
    have hk1 : k < n := by
      have := Int.emod_lt_of_pos cut (b := (n : Int)) (by omega)
      omega
    have v3 : g4 (ps.take k) = none := by
      rw [hpe]
      exact g4_cut FR FB Fb FO (bytes_bytesM _ _ _) (by rw [← hpe, ← hn]; exact hk1)
    have q1 := fun (B : Option Addr) w1 (r : Rd w1 B (cs .u8 ps)) => getM_yes B n n ps w1 r hpb hn (Nat.le_refl _) (by unfold Len; omega) v1 hck
    have q2 := fun (B : Option Addr) (d : Nat) w1 (r : Rd w1 B (cs .u8 (ps ++ [m]))) (hd : n + 1 ≤ d) (ld : Len d) => getM_form B d (n + 1) (ps ++ [m]) w1 r (hpb.append hm1) (by rw [List.length_append, ← hn]; rfl) hd ld v2 (fun h => by cases h.1)
    have q3 := fun (B : Option Addr) w1 (r : Rd w1 B (cs .u8 (ps.take k))) => getM_short B n k (ps.take k) w1 r (hpb.take _) (by rw [List.length_take]; omega) (by omega) (by unfold Len; omega) v3
    have hn0 : ((n : Int) == 0) = false := beq_eq_false_iff_ne.2 (by omega)
    have HC := Lib.hid hck
    have HN := Lib.hid hn
    unfold Mkt.val at hq ⊢
    replace hM := hM.keep kk
    clear hck hn v1 v2 v3 hln hpe hps FR FB Fb FO hpb
    go_enter Try.func12, Try.ntmps12
    go_wp2_with fail
    refine hq.mono ?_
    rintro e w1 ⟨A1, n1, hn1, rfl, f1, k1⟩
    have hn2 := hn1.symm
    clear hn1
    subst hn2
    clear hq
    generalize w.alloc (.cells #[.slice M.r.a M.r.l.length M.r.c, .slice M.ba M.bs.length M.bc, .slice M.o.a M.o.l.length M.o.c] 62) = wA at bM kk hM k1 f1 ⊢
    generalize w.heap.size = gA at bM ⊢
    have r1 := f1.rd
    clear f1
    replace bM := bM.keep k1
    replace hM := hM.keep k1
    replace kk := kk.trans k1
    clear k1
    have ha := q1 A1 w1 r1
    go_wp2_with fail
    refine ha.mono ?_
    rintro e w2 ⟨N, rfl, hN, n1, n2, n3, -, kq⟩
    clear ha
    try unfold Mkt.val
    replace bM := bM.keep kq
    replace hM := hM.keep kq
    replace r1 := r1.keep kq
    replace kk := kk.trans kq
    clear kq
    have RN := Lib.hid (And.intro n1 (And.intro n2 n3))
    clear n1 n2 n3
    go_upto_region 5 with fail
    have bN := Blk.new w2 62 [.slice N.r.a N.r.l.length N.r.c, .slice N.ba N.bs.length N.bc, .slice N.o.a N.o.l.length N.o.c]
    have kn : Keep w2 (w2.alloc (.cells #[.slice N.r.a N.r.l.length N.r.c, .slice N.ba N.bs.length N.bc, .slice N.o.a N.o.l.length N.o.c] 62)) := Keep.alloc1 _ _
    change Code.wp _ _ _ _ (w2.alloc (.cells #[.slice N.r.a N.r.l.length N.r.c, .slice N.ba N.bs.length N.bc, .slice N.o.a N.o.l.length N.o.c] 62))
    generalize w2.alloc (.cells #[.slice N.r.a N.r.l.length N.r.c, .slice N.ba N.bs.length N.bc, .slice N.o.a N.o.l.length N.o.c] 62) = w3 at bN kn ⊢
    generalize w2.heap.size = gbN at bN ⊢
    replace bM := bM.keep kn
    replace hM := hM.keep kn
    replace r1 := r1.keep kn
    replace hN := hN.keep kn
    replace kk := kk.trans kn
    clear kn
    go_wp2_with (at_builtin; refine wpList_append_fr _ rfl _ _ 31 rfl w3.heap.size 5 (.int .u8 0) 1 Try.underlying31 infoByte rfl none 0 0 [] rfl (Fr.empty _ _ _ _) A1 n n (cs .u8 ps) rfl ((length_cs _ _).trans HN.out.symm) r1 (one_cs _ _) ?c1 ?c2 ?c3 ?_)
    case c1 => unfold maxLen; omega
    case c2 => omega
    case c3 => exact Nat.le_refl _
    intro A4 c4 w4 happ
    have hk4 := happ.keep (Keep.refl _) (Fr.empty _ _ _ _)
    have hf4 := happ.fr
    clear happ
    go_wp2_with (at_builtin; refine wpList_append_fr _ rfl _ _ 31 rfl w3.heap.size 5 (.int .u8 0) 1 Try.underlying31 infoByte rfl A4 n c4 _ rfl (hf4.keep (Keep.alloc1 _ _)) (some ⟨w4.heap.size, 0, none⟩) 1 1 [.int .u8 m] rfl rfl (Rd.one _ _ _) (one_int _ _) ?d1 ?d2 ?d3 ?_)
    case d1 => unfold maxLen; omega
    case d2 => omega
    case d3 => have := hk4.size; simp; omega
    intro A5 c5 w5 happ
    have k5 := happ.keep (hk4.alloc _) (hf4.keep (Keep.alloc1 _ _))
    have hf5 := happ.fr
    rw [← cs_one, ← cs_append] at hf5
    have hc5 := hf5.cap
    have hm5 := lenMax hf5.capMax
    have r5 := hf5.rd
    clear happ hf4 hk4 hf5
    replace bM := bM.keep k5
    replace hM := hM.keep k5
    replace r1 := r1.keep k5
    replace hN := hN.keep k5
    replace bN := bN.keep k5
    replace kk := kk.trans k5
    clear k5
    have hs := q2 A5 c5 w5 r5 hc5 hm5
    go_wp2_with fail
    refine hs.mono ?_
    rintro e w6 ⟨rfl, kq⟩
    clear hs r5
    replace bM := bM.keep kq
    replace hM := hM.keep kq
    replace r1 := r1.keep kq
    replace hN := hN.keep kq
    replace bN := bN.keep kq
    replace kk := kk.trans kq
    clear kq
    go_upto_region 6 with fail
    have bZ := Blk.new w6 62 [nilS, nilS, nilS]
    have kn : Keep w6 (w6.alloc (.cells #[nilS, nilS, nilS] 62)) := Keep.alloc1 _ _
    change Code.wp _ _ _ _ (w6.alloc (.cells #[nilS, nilS, nilS] 62))
    generalize w6.alloc (.cells #[nilS, nilS, nilS] 62) = w7 at bZ kn ⊢
    generalize w6.heap.size = gbZ at bZ ⊢
    replace bM := bM.keep kn
    replace hM := hM.keep kn
    replace r1 := r1.keep kn
    replace hN := hN.keep kn
    replace bN := bN.keep kn
    replace kk := kk.trans kn
    clear kn
    have p6 := r1.take k
    rw [cs_take] at p6
    have hs := q3 A1 w7 p6
    have y0 : (0 : Int) ≤ k := by omega
    have y1 : (k : Int) ≤ n := by omega
    go_wp2_with fail
    refine hs.mono ?_
    rintro e w8 ⟨rfl, kq⟩
    clear hs p6
    replace bM := bM.keep kq
    replace hM := hM.keep kq
    replace r1 := r1.keep kq
    replace hN := hN.keep kq
    replace bN := bN.keep kq
    replace bZ := bZ.keep kq
    replace kk := kk.trans kq
    clear kq
    go_upto_region 7 with fail
    have bY := Blk.new w8 62 [nilS, nilS, nilS]
    have kn : Keep w8 (w8.alloc (.cells #[nilS, nilS, nilS] 62)) := Keep.alloc1 _ _
    change Code.wp _ _ _ _ (w8.alloc (.cells #[nilS, nilS, nilS] 62))
    generalize w8.alloc (.cells #[nilS, nilS, nilS] 62) = w9 at bY kn ⊢
    generalize w8.heap.size = gbY at bY ⊢
    replace bM := bM.keep kn
    replace hM := hM.keep kn
    replace r1 := r1.keep kn
    replace hN := hN.keep kn
    replace bN := bN.keep kn
    replace bZ := bZ.keep kn
    replace kk := kk.trans kn
    clear kn
    have ha := alive05_f w9
    go_wp2_with fail
    refine ha.mono ?_
    rintro e w10 ⟨rfl, kq⟩
    clear ha
    replace bM := bM.keep kq
    replace hM := hM.keep kq
    replace r1 := r1.keep kq
    replace hN := hN.keep kq
    replace bN := bN.keep kq
    replace bZ := bZ.keep kq
    replace bY := bY.keep kq
    replace kk := kk.trans kq
    clear kq
    have CN : chkM N.r.l (bidsOf N.bs) N.o.l = true := by rw [RN.out.1, RN.out.2.1, RN.out.2.2]; exact HC.out
    have hs := same_yes M N w10 hM hN HC.out CN ⟨RN.out.1.symm, RN.out.2.1.symm, RN.out.2.2.symm⟩
    clear CN
    unfold Mkt.val at hs
    have c0 := bM.cell_ (i := 0) rfl
    have c1 := bM.cell_ (i := 1) rfl
    have c2 := bM.cell_ (i := 2) rfl
    have d0 := bN.cell_ (i := 0) rfl
    have d1 := bN.cell_ (i := 1) rfl
    have d2 := bN.cell_ (i := 2) rfl
    go_wp2_with fail
    refine hs.mono ?_
    rintro e w11 ⟨rfl, kq⟩
    replace bM := bM.keep kq
    replace hM := hM.keep kq
    replace r1 := r1.keep kq
    replace hN := hN.keep kq
    replace bN := bN.keep kq
    replace bZ := bZ.keep kq
    replace bY := bY.keep kq
    replace kk := kk.trans kq
    clear kq
    go_wp2_with fail
    go_ret
    exact ⟨rfl, kk⟩
end Go.Proofs.Ytjhmlcbpbmeicaa
