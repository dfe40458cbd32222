/-
  THE WALK OF THE 5 FramesBack: it answers true, and turns nothing that was there. Conditions: the arguments are a frame and a reply that came in; the program's list of parts stands as its text lays it.
-/
import Derived.Test.YtjhbpocffckghaaDoorFrmM
import Derived.Test.YtjhbpocffckghaaDoorFrmN
import Derived.Test.YtjhbpocffckghaaDoorFrmO
import Derived.Test.YtjhbpocffckghaaDoorFrmL
import Derived.Test.YtjhbpocffckghaaDoorFrmK
import Derived.Test.YtjhbpocffckghaaDoorTwinB
namespace Go.Proofs.YtjhbpocffckghaaDoor
open Go.RowKit

theorem bytes_zero : Bytes [0] := fun x hx => by
  rw [List.mem_singleton] at hx
  subst hx
  exact ⟨by decide, by decide⟩
/-- What the law asks of a frame's bytes. -/
theorem backF {f : FV} (h : mayF f = true) (hf : FitF f) (hb : Bytes f.sec) : ∃ L : List Int, ∃ m : Nat, L.length = m + 1 ∧ m ≤ 100 ∧ Bytes L ∧ putFV f = (L, 0) ∧ getFV L = (f, 0) ∧ getFV (L ++ [0]) = (zeroF, 4) ∧ getFV (L.take m) = (zeroF, 4) := by
  obtain ⟨-, -, l1, l2, -⟩ := mayF_facts h
  have hl := length_bytesF f
  have h3 := getF_less h hf hb
  refine ⟨bytesF f, (bytesF f).length - 1, by omega, by omega, bytes_bytesF hb, ?_, getF_put h hf, getF_more h hf, h3⟩
  unfold putFV
  rw [if_pos h]
theorem backR {r : RV} (h : mayR r = true) (hf : FitR r) (hb : Bytes r.cert) : ∃ L : List Int, ∃ m : Nat, L.length = m + 1 ∧ m ≤ 2000 ∧ Bytes L ∧ putRV r = (L, 0) ∧ getRV L = (r, 0) ∧ getRV (L ++ [0]) = (zeroR, 4) := by
  obtain ⟨-, -, -, -, -, -, -, -, l1, l2, -⟩ := mayR_facts h
  have hl := length_bytesR r
  refine ⟨bytesR r, (bytesR r).length - 1, by omega, by omega, bytes_bytesR hb, ?_, getR_put h hf, getR_more h hf⟩
  unfold putRV
  rw [if_pos h]

set_option maxRecDepth 100000 in
set_option maxHeartbeats 32000000 in
theorem framesBack_w (f : Frm) (r : Rpl) (w : World) (hf : f.Ok w) (hr : r.Ok w) (hP : Parts w) :
    Calls Tryd.prog 5 #[f.val, r.val] w fun e w' => e = .returned (.bool true) ∧ Below w.heap.size w w' := by
  have kk : Keep w w := Keep.refl _
  have bsec := hf.s.inn.bytes
  have bcert := hr.c.inn.bytes
  obtain ⟨f, fsa, fsc, fba, fbc⟩ := f
  obtain ⟨r, rba, rbc, rca, rcc⟩ := r
  simp only at bsec bcert
  have q1 : (∃ L : List Int, ∃ m : Nat, (f.sec.length ≤ 100 ∧ f.bid.length ≤ 100) ∧ L.length = m + 1 ∧ m ≤ 100 ∧ Bytes L ∧ putFV f = (L, 0) ∧ getFV L = (f, 0) ∧ getFV (L ++ [0]) = (zeroF, 4) ∧ getFV (L.take m) = (zeroF, 4)) ∨ putFV f = ([], 1) := by
    by_cases h : mayF f = true
    · obtain ⟨-, -, l1, l2, -⟩ := mayF_facts h
      obtain ⟨L, m, p⟩ := backF h (mayF_fit h hf.who hf.seq hf.tok) bsec
      exact .inl ⟨L, m, ⟨by omega, by omega⟩, p⟩
    · refine .inr ?_
      unfold putFV
      rw [if_neg h]
  have q2 : Hid ((∃ L : List Int, ∃ m : Nat, (r.bid.length ≤ 100 ∧ r.cert.length ≤ 2000) ∧ L.length = m + 1 ∧ m ≤ 2000 ∧ Bytes L ∧ putRV r = (L, 0) ∧ getRV L = (r, 0) ∧ getRV (L ++ [0]) = (zeroR, 4)) ∨ putRV r = ([], 1)) := by
    refine Lib.hid ?_
    by_cases h : mayR r = true
    · obtain ⟨-, -, -, -, -, -, -, -, l1, l2, -⟩ := mayR_facts h
      obtain ⟨L, m, p⟩ := backR h (mayR_fit h hr.seq hr.tok) bcert
      exact .inl ⟨L, m, ⟨by omega, by omega⟩, p⟩
    · refine .inr ?_
      unfold putRV
      rw [if_neg h]
  clear bsec bcert
  unfold Frm.val Rpl.val
  simp only
  rcases q1 with ⟨L, m, ⟨l1, l2⟩, n1, hmL, n2, hp1, hg1, hg2, hg3⟩ | hp1
  · have HNL := Lib.hid n1
    have HBL := Lib.hid n2
    replace hp1 := Lib.hid hp1
    replace hg1 := Lib.hid hg1
    replace hg2 := Lib.hid hg2
    replace hg3 := Lib.hid hg3
    clear n1 n2
    have zs : ((m : Int) + 1 == 0) = false := beq_false_of_ne (by omega)
    go_enter Tryd.func5, Tryd.ntmps5
    go_upto_region 1 with fail
    have kq : Keep w (w.alloc (.cells #[.int .u8 f.ask, .int .u8 f.who, .int .u32 f.seq, .int .u64 f.tok, .slice fsa f.sec.length fsc, .slice fba f.bid.length fbc] 28)) := Keep.alloc1 _ _
    have bF := Blk.new w 28 [.int .u8 f.ask, .int .u8 f.who, .int .u32 f.seq, .int .u64 f.tok, .slice fsa f.sec.length fsc, .slice fba f.bid.length fbc]
    change Code.wp _ _ _ _ ((w.alloc (.cells #[.int .u8 f.ask, .int .u8 f.who, .int .u32 f.seq, .int .u64 f.tok, .slice fsa f.sec.length fsc, .slice fba f.bid.length fbc] 28)).alloc (.cells #[.int .i64 r.e, .int .u32 r.seq, .int .u64 r.tok, .int .u8 r.ph, .int .u64 r.tm, .bool r.has, .slice rba r.bid.length rbc, .int .i64 r.item, .int .i64 r.pays, .slice rca r.cert.length rcc] 37))
    have hsz : (w.alloc (.cells #[.int .u8 f.ask, .int .u8 f.who, .int .u32 f.seq, .int .u64 f.tok, .slice fsa f.sec.length fsc, .slice fba f.bid.length fbc] 28)).heap.size = w.heap.size + 1 := by simp
    generalize w.alloc (.cells #[.int .u8 f.ask, .int .u8 f.who, .int .u32 f.seq, .int .u64 f.tok, .slice fsa f.sec.length fsc, .slice fba f.bid.length fbc] 28) = w0 at kq bF hsz ⊢
    replace hP := hP.keep kq
    replace hf := hf.keep kq
    replace hr := hr.keep kq
    replace kk := kk.trans kq
    clear kq
    have kq : Keep w0 (w0.alloc (.cells #[.int .i64 r.e, .int .u32 r.seq, .int .u64 r.tok, .int .u8 r.ph, .int .u64 r.tm, .bool r.has, .slice rba r.bid.length rbc, .int .i64 r.item, .int .i64 r.pays, .slice rca r.cert.length rcc] 37)) := Keep.alloc1 _ _
    have bR : Blk (w0.alloc (.cells #[.int .i64 r.e, .int .u32 r.seq, .int .u64 r.tok, .int .u8 r.ph, .int .u64 r.tm, .bool r.has, .slice rba r.bid.length rbc, .int .i64 r.item, .int .i64 r.pays, .slice rca r.cert.length rcc] 37)) (w.heap.size + 1) 37 [.int .i64 r.e, .int .u32 r.seq, .int .u64 r.tok, .int .u8 r.ph, .int .u64 r.tm, .bool r.has, .slice rba r.bid.length rbc, .int .i64 r.item, .int .i64 r.pays, .slice rca r.cert.length rcc] := hsz ▸ Blk.new w0 37 [.int .i64 r.e, .int .u32 r.seq, .int .u64 r.tok, .int .u8 r.ph, .int .u64 r.tm, .bool r.has, .slice rba r.bid.length rbc, .int .i64 r.item, .int .i64 r.pays, .slice rca r.cert.length rcc]
    clear hsz
    generalize w0.alloc (.cells #[.int .i64 r.e, .int .u32 r.seq, .int .u64 r.tok, .int .u8 r.ph, .int .u64 r.tm, .bool r.has, .slice rba r.bid.length rbc, .int .i64 r.item, .int .i64 r.pays, .slice rca r.cert.length rcc] 37) = w1 at kq bR ⊢
    replace hP := hP.keep kq
    replace hf := hf.keep kq
    replace hr := hr.keep kq
    replace bF := bF.keep kq
    replace kk := kk.trans kq
    clear kq
    have bF_0 := bF.cell_ (i := 0) rfl
    have bF_1 := bF.cell_ (i := 1) rfl
    have bF_2 := bF.cell_ (i := 2) rfl
    have bF_3 := bF.cell_ (i := 3) rfl
    have bF_4 := bF.cell_ (i := 4) rfl
    have bF_5 := bF.cell_ (i := 5) rfl
    have hq := putF_f (Frm.mk f fsa fsc fba fbc) w1 hf hP (hp1.out)
    unfold Frm.val at hq
    simp only at hq
    rw [HNL.out] at hq
    go_wp2_with fail
    refine hq.mono ?_
    rintro e w2 ⟨A1, rfl, f1, kq⟩
    clear hq
    replace hP := hP.keep kq
    replace hf := hf.keep kq
    replace hr := hr.keep kq
    replace bF := bF.keep kq
    replace bR := bR.keep kq
    replace kk := kk.trans kq
    clear kq
    have hq := getF_f A1 (m + 1) L w2 f1.rd HBL.out (by rw [HNL.out]; exact Nat.le_refl _) (by unfold Len; omega) hP hg1.out
    rw [HNL.out] at hq
    go_wp2_with fail
    refine hq.mono ?_
    rintro e w3 ⟨xsa, xba, rfl, okx, -, -, kq⟩
    clear hq
    unfold Frm.val
    simp only
    replace hP := hP.keep kq
    replace hf := hf.keep kq
    replace hr := hr.keep kq
    replace bF := bF.keep kq
    replace bR := bR.keep kq
    replace f1 := f1.keep kq
    replace kk := kk.trans kq
    clear kq
    go_upto_region 4 with fail
    have kq : Keep w3 (w3.alloc (.cells #[.int .u8 f.ask, .int .u8 f.who, .int .u32 f.seq, .int .u64 f.tok, .slice xsa f.sec.length f.sec.length, .slice xba f.bid.length f.bid.length] 28)) := Keep.alloc1 _ _
    have bX := Blk.new w3 28 [.int .u8 f.ask, .int .u8 f.who, .int .u32 f.seq, .int .u64 f.tok, .slice xsa f.sec.length f.sec.length, .slice xba f.bid.length f.bid.length]
    change Code.wp _ _ _ _ (w3.alloc (.cells #[.int .u8 f.ask, .int .u8 f.who, .int .u32 f.seq, .int .u64 f.tok, .slice xsa f.sec.length f.sec.length, .slice xba f.bid.length f.bid.length] 28))
    generalize w3.alloc (.cells #[.int .u8 f.ask, .int .u8 f.who, .int .u32 f.seq, .int .u64 f.tok, .slice xsa f.sec.length f.sec.length, .slice xba f.bid.length f.bid.length] 28) = w4 at kq bX ⊢
    generalize w3.heap.size = gbX at bX ⊢
    replace hP := hP.keep kq
    replace hf := hf.keep kq
    replace hr := hr.keep kq
    replace bF := bF.keep kq
    replace bR := bR.keep kq
    replace f1 := f1.keep kq
    replace okx := okx.keep kq
    replace kk := kk.trans kq
    clear kq
    have okL : Sl.Ok .u8 w4 ⟨A1, m + 1, L⟩ := ⟨⟨f1.rd, by rw [HNL.out]; exact Nat.le_refl _, (show m + 1 ≤ maxLen by unfold maxLen; omega), wf_bytes HBL.out⟩, fun h => by have := f1.capNil h; omega⟩
    have hq := twinBytes_f ⟨A1, m + 1, L⟩ w4 okL (by show L.length ≤ _; rw [HNL.out]; omega)
    simp only at hq
    rw [HNL.out] at hq
    go_wp2_with fail
    refine hq.mono ?_
    rintro e v1 ⟨At, ct, rfl, tt, kq⟩
    clear hq okL
    have ft := TwinB.fr tt
    simp only at ft
    rw [HNL.out] at ft
    clear tt
    go_wp2_with (at_builtin; refine wpList_append_fr _ rfl _ _ 25 rfl w4.heap.size 5 (.int .u8 0) 1 Tryd.underlying25 infoByte rfl At (m + 1) ct _ rfl (ft.keep (Keep.alloc1 _ _)) (some ⟨v1.heap.size, 0, none⟩) 1 1 [.int .u8 0] rfl rfl (Rd.one _ _ _) (one_int _ _) ?d1 ?d2 ?d3 ?_)
    case d1 => unfold maxLen; omega
    case d2 => omega
    case d3 => have := kq.size; simp; omega
    intro At c5 v2 happ
    have kz := happ.keep (kq.alloc _) (ft.keep (Keep.alloc1 _ _))
    have f5 := happ.fr
    rw [← cs_one, ← cs_append] at f5
    have hc5 := f5.cap
    have hm5 := lenMax f5.capMax
    have r5 := f5.rd
    clear happ ft kq f5
    replace hP := hP.keep kz
    replace hf := hf.keep kz
    replace hr := hr.keep kz
    replace bF := bF.keep kz
    replace bR := bR.keep kz
    replace f1 := f1.keep kz
    replace okx := okx.keep kz
    replace bX := bX.keep kz
    replace kk := kk.trans kz
    clear kz
    have hq := getF_f At c5 (L ++ [0]) v2 r5 (HBL.out.append bytes_zero) (by rw [List.length_append, HNL.out]; exact hc5) hm5 hP hg2.out
    rw [List.length_append, HNL.out] at hq
    go_wp2_with fail
    refine hq.mono ?_
    rintro e w5 ⟨zsa, zba, rfl, -, -, -, kq⟩
    clear hq
    clear r5 hc5 hm5
    unfold Frm.val
    replace hP := hP.keep kq
    replace hf := hf.keep kq
    replace hr := hr.keep kq
    replace bF := bF.keep kq
    replace bR := bR.keep kq
    replace f1 := f1.keep kq
    replace okx := okx.keep kq
    replace bX := bX.keep kq
    replace kk := kk.trans kq
    clear kq
    go_upto_region 5 with fail
    have kq : Keep w5 (w5.alloc (.cells #[.int .u8 zeroF.ask, .int .u8 zeroF.who, .int .u32 zeroF.seq, .int .u64 zeroF.tok, .slice zsa zeroF.sec.length zeroF.sec.length, .slice zba zeroF.bid.length zeroF.bid.length] 28)) := Keep.alloc1 _ _
    change Code.wp _ _ _ _ (w5.alloc (.cells #[.int .u8 zeroF.ask, .int .u8 zeroF.who, .int .u32 zeroF.seq, .int .u64 zeroF.tok, .slice zsa zeroF.sec.length zeroF.sec.length, .slice zba zeroF.bid.length zeroF.bid.length] 28))
    generalize w5.alloc (.cells #[.int .u8 zeroF.ask, .int .u8 zeroF.who, .int .u32 zeroF.seq, .int .u64 zeroF.tok, .slice zsa zeroF.sec.length zeroF.sec.length, .slice zba zeroF.bid.length zeroF.bid.length] 28) = w6 at kq ⊢
    generalize w5.heap.size = gbZ at ⊢
    replace hP := hP.keep kq
    replace hf := hf.keep kq
    replace hr := hr.keep kq
    replace bF := bF.keep kq
    replace bR := bR.keep kq
    replace f1 := f1.keep kq
    replace okx := okx.keep kq
    replace bX := bX.keep kq
    replace kk := kk.trans kq
    clear kq
    have bX_0 := bX.cell_ (i := 0) rfl
    have bX_1 := bX.cell_ (i := 1) rfl
    have bX_2 := bX.cell_ (i := 2) rfl
    have bX_3 := bX.cell_ (i := 3) rfl
    have bX_4 := bX.cell_ (i := 4) rfl
    have bX_5 := bX.cell_ (i := 5) rfl
    have bF_0 := bF.cell_ (i := 0) rfl
    have bF_1 := bF.cell_ (i := 1) rfl
    have bF_2 := bF.cell_ (i := 2) rfl
    have bF_3 := bF.cell_ (i := 3) rfl
    have bF_4 := bF.cell_ (i := 4) rfl
    have bF_5 := bF.cell_ (i := 5) rfl
    have hq := sameFrame_f (Frm.mk f xsa _ xba _) (Frm.mk f fsa fsc fba fbc) w6 okx hf (by unfold Reach; simp only; omega) (by unfold Reach; simp only; omega) (by unfold Reach; simp only; omega) (by unfold Reach; simp only; omega)
    unfold Frm.val at hq
    simp only at hq
    rw [sameFV_self] at hq
    go_wp2_with fail
    refine hq.mono ?_
    rintro e w7 ⟨rfl, kq⟩
    clear hq
    replace hP := hP.keep kq
    replace hf := hf.keep kq
    replace hr := hr.keep kq
    replace bF := bF.keep kq
    replace bR := bR.keep kq
    replace f1 := f1.keep kq
    replace okx := okx.keep kq
    replace bX := bX.keep kq
    replace kk := kk.trans kq
    clear kq
    clear bX_0 bX_1 bX_2 bX_3 bX_4 bX_5
    clear bF_0 bF_1 bF_2 bF_3 bF_4 bF_5
    clear bX bF okx
    have hq := getF_f A1 (m + 1) (L.take m) w7 (by rw [← cs_take]; exact f1.rd.take m) (HBL.out.take m) (by rw [List.length_take]; omega) (by unfold Len; omega) hP hg3.out
    rw [show (L.take m).length = m by rw [List.length_take, HNL.out]; omega] at hq
    go_wp2_with fail
    refine hq.mono ?_
    rintro e w8 ⟨zsb, zbb, rfl, -, -, -, kq⟩
    clear hq
    unfold Frm.val
    replace hP := hP.keep kq
    replace hf := hf.keep kq
    replace hr := hr.keep kq
    replace bR := bR.keep kq
    replace f1 := f1.keep kq
    replace kk := kk.trans kq
    clear kq
    clear f1 hg1 hg2 hg3 hp1 HNL HBL hmL
    rcases q2.out with ⟨M, m2, ⟨l3, l4⟩, n3, hmM, n4, hp2, hg4, hg5⟩ | hp2
    · have HNM := Lib.hid n3
      have HBM := Lib.hid n4
      replace hp2 := Lib.hid hp2
      replace hg4 := Lib.hid hg4
      replace hg5 := Lib.hid hg5
      clear n3 n4
      go_upto_region 10 with fail
      have bR_0 := bR.cell_ (i := 0) rfl
      have bR_1 := bR.cell_ (i := 1) rfl
      have bR_2 := bR.cell_ (i := 2) rfl
      have bR_3 := bR.cell_ (i := 3) rfl
      have bR_4 := bR.cell_ (i := 4) rfl
      have bR_5 := bR.cell_ (i := 5) rfl
      have bR_6 := bR.cell_ (i := 6) rfl
      have bR_7 := bR.cell_ (i := 7) rfl
      have bR_8 := bR.cell_ (i := 8) rfl
      have bR_9 := bR.cell_ (i := 9) rfl
      have hq := putR_f (Rpl.mk r rba rbc rca rcc) w8 hr hp2.out
      unfold Rpl.val at hq
      simp only at hq
      rw [HNM.out] at hq
      go_wp2_with fail
      refine hq.mono ?_
      rintro e w9 ⟨A6, rfl, f6, kq⟩
      clear hq
      replace hP := hP.keep kq
      replace hf := hf.keep kq
      replace hr := hr.keep kq
      replace bR := bR.keep kq
      replace kk := kk.trans kq
      clear kq
      clear bR_0 bR_1 bR_2 bR_3 bR_4 bR_5 bR_6 bR_7 bR_8 bR_9
      have hq := getR_f A6 (m2 + 1) M w9 f6.rd HBM.out (by rw [HNM.out]; exact Nat.le_refl _) (by unfold Len; omega) hg4.out
      rw [HNM.out] at hq
      go_wp2_with fail
      refine hq.mono ?_
      rintro e w10 ⟨yba, yca, rfl, oky, -, -, kq⟩
      clear hq
      unfold Rpl.val
      simp only
      replace hP := hP.keep kq
      replace hf := hf.keep kq
      replace hr := hr.keep kq
      replace bR := bR.keep kq
      replace f6 := f6.keep kq
      replace kk := kk.trans kq
      clear kq
      go_upto_region 14 with fail
      have kq : Keep w10 (w10.alloc (.cells #[.int .i64 r.e, .int .u32 r.seq, .int .u64 r.tok, .int .u8 r.ph, .int .u64 r.tm, .bool r.has, .slice yba r.bid.length r.bid.length, .int .i64 r.item, .int .i64 r.pays, .slice yca r.cert.length r.cert.length] 37)) := Keep.alloc1 _ _
      have bY := Blk.new w10 37 [.int .i64 r.e, .int .u32 r.seq, .int .u64 r.tok, .int .u8 r.ph, .int .u64 r.tm, .bool r.has, .slice yba r.bid.length r.bid.length, .int .i64 r.item, .int .i64 r.pays, .slice yca r.cert.length r.cert.length]
      change Code.wp _ _ _ _ (w10.alloc (.cells #[.int .i64 r.e, .int .u32 r.seq, .int .u64 r.tok, .int .u8 r.ph, .int .u64 r.tm, .bool r.has, .slice yba r.bid.length r.bid.length, .int .i64 r.item, .int .i64 r.pays, .slice yca r.cert.length r.cert.length] 37))
      generalize w10.alloc (.cells #[.int .i64 r.e, .int .u32 r.seq, .int .u64 r.tok, .int .u8 r.ph, .int .u64 r.tm, .bool r.has, .slice yba r.bid.length r.bid.length, .int .i64 r.item, .int .i64 r.pays, .slice yca r.cert.length r.cert.length] 37) = w11 at kq bY ⊢
      generalize w10.heap.size = gbY at bY ⊢
      replace hP := hP.keep kq
      replace hf := hf.keep kq
      replace hr := hr.keep kq
      replace bR := bR.keep kq
      replace f6 := f6.keep kq
      replace oky := oky.keep kq
      replace kk := kk.trans kq
      clear kq
      have okL : Sl.Ok .u8 w11 ⟨A6, m2 + 1, M⟩ := ⟨⟨f6.rd, by rw [HNM.out]; exact Nat.le_refl _, (show m2 + 1 ≤ maxLen by unfold maxLen; omega), wf_bytes HBM.out⟩, fun h => by have := f6.capNil h; omega⟩
      have hq := twinBytes_f ⟨A6, m2 + 1, M⟩ w11 okL (by show M.length ≤ _; rw [HNM.out]; omega)
      simp only at hq
      rw [HNM.out] at hq
      go_wp2_with fail
      refine hq.mono ?_
      rintro e v1 ⟨At, ct, rfl, tt, kq⟩
      clear hq okL
      have ft := TwinB.fr tt
      simp only at ft
      rw [HNM.out] at ft
      clear tt
      go_wp2_with (at_builtin; refine wpList_append_fr _ rfl _ _ 25 rfl w11.heap.size 5 (.int .u8 0) 1 Tryd.underlying25 infoByte rfl At (m2 + 1) ct _ rfl (ft.keep (Keep.alloc1 _ _)) (some ⟨v1.heap.size, 0, none⟩) 1 1 [.int .u8 0] rfl rfl (Rd.one _ _ _) (one_int _ _) ?d1 ?d2 ?d3 ?_)
      case d1 => unfold maxLen; omega
      case d2 => omega
      case d3 => have := kq.size; simp; omega
      intro At c5 v2 happ
      have kz := happ.keep (kq.alloc _) (ft.keep (Keep.alloc1 _ _))
      have f5 := happ.fr
      rw [← cs_one, ← cs_append] at f5
      have hc5 := f5.cap
      have hm5 := lenMax f5.capMax
      have r5 := f5.rd
      clear happ ft kq f5
      replace hP := hP.keep kz
      replace hf := hf.keep kz
      replace hr := hr.keep kz
      replace bR := bR.keep kz
      replace f6 := f6.keep kz
      replace oky := oky.keep kz
      replace bY := bY.keep kz
      replace kk := kk.trans kz
      clear kz
      have hq := getR_f At c5 (M ++ [0]) v2 r5 (HBM.out.append bytes_zero) (by rw [List.length_append, HNM.out]; exact hc5) hm5 hg5.out
      rw [List.length_append, HNM.out] at hq
      go_wp2_with fail
      refine hq.mono ?_
      rintro e w12 ⟨zba2, zca2, rfl, -, -, -, kq⟩
      clear hq
      clear r5 hc5 hm5
      unfold Rpl.val
      replace hP := hP.keep kq
      replace hf := hf.keep kq
      replace hr := hr.keep kq
      replace bR := bR.keep kq
      replace f6 := f6.keep kq
      replace oky := oky.keep kq
      replace bY := bY.keep kq
      replace kk := kk.trans kq
      clear kq
      go_upto_region 15 with fail
      have kq : Keep w12 (w12.alloc (.cells #[.int .i64 zeroR.e, .int .u32 zeroR.seq, .int .u64 zeroR.tok, .int .u8 zeroR.ph, .int .u64 zeroR.tm, .bool zeroR.has, .slice zba2 zeroR.bid.length zeroR.bid.length, .int .i64 zeroR.item, .int .i64 zeroR.pays, .slice zca2 zeroR.cert.length zeroR.cert.length] 37)) := Keep.alloc1 _ _
      change Code.wp _ _ _ _ (w12.alloc (.cells #[.int .i64 zeroR.e, .int .u32 zeroR.seq, .int .u64 zeroR.tok, .int .u8 zeroR.ph, .int .u64 zeroR.tm, .bool zeroR.has, .slice zba2 zeroR.bid.length zeroR.bid.length, .int .i64 zeroR.item, .int .i64 zeroR.pays, .slice zca2 zeroR.cert.length zeroR.cert.length] 37))
      generalize w12.alloc (.cells #[.int .i64 zeroR.e, .int .u32 zeroR.seq, .int .u64 zeroR.tok, .int .u8 zeroR.ph, .int .u64 zeroR.tm, .bool zeroR.has, .slice zba2 zeroR.bid.length zeroR.bid.length, .int .i64 zeroR.item, .int .i64 zeroR.pays, .slice zca2 zeroR.cert.length zeroR.cert.length] 37) = w13 at kq ⊢
      generalize w12.heap.size = gbW at ⊢
      replace hP := hP.keep kq
      replace hf := hf.keep kq
      replace hr := hr.keep kq
      replace bR := bR.keep kq
      replace f6 := f6.keep kq
      replace oky := oky.keep kq
      replace bY := bY.keep kq
      replace kk := kk.trans kq
      clear kq
      have bY_0 := bY.cell_ (i := 0) rfl
      have bY_1 := bY.cell_ (i := 1) rfl
      have bY_2 := bY.cell_ (i := 2) rfl
      have bY_3 := bY.cell_ (i := 3) rfl
      have bY_4 := bY.cell_ (i := 4) rfl
      have bY_5 := bY.cell_ (i := 5) rfl
      have bY_6 := bY.cell_ (i := 6) rfl
      have bY_7 := bY.cell_ (i := 7) rfl
      have bY_8 := bY.cell_ (i := 8) rfl
      have bY_9 := bY.cell_ (i := 9) rfl
      have bR_0 := bR.cell_ (i := 0) rfl
      have bR_1 := bR.cell_ (i := 1) rfl
      have bR_2 := bR.cell_ (i := 2) rfl
      have bR_3 := bR.cell_ (i := 3) rfl
      have bR_4 := bR.cell_ (i := 4) rfl
      have bR_5 := bR.cell_ (i := 5) rfl
      have bR_6 := bR.cell_ (i := 6) rfl
      have bR_7 := bR.cell_ (i := 7) rfl
      have bR_8 := bR.cell_ (i := 8) rfl
      have bR_9 := bR.cell_ (i := 9) rfl
      have hq := sameReply_f (Rpl.mk r yba _ yca _) (Rpl.mk r rba rbc rca rcc) w13 oky hr (by unfold Reach; simp only; omega) (by unfold Reach; simp only; omega) (by unfold Reach; simp only; omega) (by unfold Reach; simp only; omega)
      unfold Rpl.val at hq
      simp only at hq
      rw [sameRV_self] at hq
      go_wp2_with fail
      refine hq.mono ?_
      rintro e w14 ⟨rfl, kq⟩
      clear hq
      replace hP := hP.keep kq
      replace hf := hf.keep kq
      replace hr := hr.keep kq
      replace bR := bR.keep kq
      replace f6 := f6.keep kq
      replace oky := oky.keep kq
      replace bY := bY.keep kq
      replace kk := kk.trans kq
      clear kq
      clear bY_0 bY_1 bY_2 bY_3 bY_4 bY_5 bY_6 bY_7 bY_8 bY_9
      clear bR_0 bR_1 bR_2 bR_3 bR_4 bR_5 bR_6 bR_7 bR_8 bR_9
      have hq := lives_f w14 hP
      go_wp2_with fail
      refine hq.mono ?_
      rintro e w15 ⟨rfl, kq⟩
      clear hq
      replace hP := hP.keep kq
      replace hf := hf.keep kq
      replace hr := hr.keep kq
      replace bR := bR.keep kq
      replace f6 := f6.keep kq
      replace oky := oky.keep kq
      replace bY := bY.keep kq
      replace kk := kk.trans kq
      clear kq
      go_wp2_with fail
      go_ret
      exact ⟨rfl, kk⟩
    · replace hp2 := Lib.hid hp2
      go_upto_region 10 with fail
      have bR_0 := bR.cell_ (i := 0) rfl
      have bR_1 := bR.cell_ (i := 1) rfl
      have bR_2 := bR.cell_ (i := 2) rfl
      have bR_3 := bR.cell_ (i := 3) rfl
      have bR_4 := bR.cell_ (i := 4) rfl
      have bR_5 := bR.cell_ (i := 5) rfl
      have bR_6 := bR.cell_ (i := 6) rfl
      have bR_7 := bR.cell_ (i := 7) rfl
      have bR_8 := bR.cell_ (i := 8) rfl
      have bR_9 := bR.cell_ (i := 9) rfl
      have hq := putR_f (Rpl.mk r rba rbc rca rcc) w8 hr hp2.out
      unfold Rpl.val at hq
      simp only at hq
      go_wp2_with fail
      refine hq.mono ?_
      rintro e w9 ⟨A6, rfl, -, kq⟩
      clear hq
      replace hP := hP.keep kq
      replace hf := hf.keep kq
      replace hr := hr.keep kq
      replace bR := bR.keep kq
      replace kk := kk.trans kq
      clear kq
      clear bR_0 bR_1 bR_2 bR_3 bR_4 bR_5 bR_6 bR_7 bR_8 bR_9
      have hq := lives_f w9 hP
      go_wp2_with fail
      refine hq.mono ?_
      rintro e w10 ⟨rfl, kq⟩
      clear hq
      replace hP := hP.keep kq
      replace hf := hf.keep kq
      replace hr := hr.keep kq
      replace bR := bR.keep kq
      replace kk := kk.trans kq
      clear kq
      go_wp2_with fail
      go_ret
      exact ⟨rfl, kk⟩
  · replace hp1 := Lib.hid hp1
    go_enter Tryd.func5, Tryd.ntmps5
    go_upto_region 1 with fail
    have kq : Keep w (w.alloc (.cells #[.int .u8 f.ask, .int .u8 f.who, .int .u32 f.seq, .int .u64 f.tok, .slice fsa f.sec.length fsc, .slice fba f.bid.length fbc] 28)) := Keep.alloc1 _ _
    have bF := Blk.new w 28 [.int .u8 f.ask, .int .u8 f.who, .int .u32 f.seq, .int .u64 f.tok, .slice fsa f.sec.length fsc, .slice fba f.bid.length fbc]
    change Code.wp _ _ _ _ ((w.alloc (.cells #[.int .u8 f.ask, .int .u8 f.who, .int .u32 f.seq, .int .u64 f.tok, .slice fsa f.sec.length fsc, .slice fba f.bid.length fbc] 28)).alloc (.cells #[.int .i64 r.e, .int .u32 r.seq, .int .u64 r.tok, .int .u8 r.ph, .int .u64 r.tm, .bool r.has, .slice rba r.bid.length rbc, .int .i64 r.item, .int .i64 r.pays, .slice rca r.cert.length rcc] 37))
    have hsz : (w.alloc (.cells #[.int .u8 f.ask, .int .u8 f.who, .int .u32 f.seq, .int .u64 f.tok, .slice fsa f.sec.length fsc, .slice fba f.bid.length fbc] 28)).heap.size = w.heap.size + 1 := by simp
    generalize w.alloc (.cells #[.int .u8 f.ask, .int .u8 f.who, .int .u32 f.seq, .int .u64 f.tok, .slice fsa f.sec.length fsc, .slice fba f.bid.length fbc] 28) = w0 at kq bF hsz ⊢
    replace hP := hP.keep kq
    replace hf := hf.keep kq
    replace hr := hr.keep kq
    replace kk := kk.trans kq
    clear kq
    have kq : Keep w0 (w0.alloc (.cells #[.int .i64 r.e, .int .u32 r.seq, .int .u64 r.tok, .int .u8 r.ph, .int .u64 r.tm, .bool r.has, .slice rba r.bid.length rbc, .int .i64 r.item, .int .i64 r.pays, .slice rca r.cert.length rcc] 37)) := Keep.alloc1 _ _
    have bR : Blk (w0.alloc (.cells #[.int .i64 r.e, .int .u32 r.seq, .int .u64 r.tok, .int .u8 r.ph, .int .u64 r.tm, .bool r.has, .slice rba r.bid.length rbc, .int .i64 r.item, .int .i64 r.pays, .slice rca r.cert.length rcc] 37)) (w.heap.size + 1) 37 [.int .i64 r.e, .int .u32 r.seq, .int .u64 r.tok, .int .u8 r.ph, .int .u64 r.tm, .bool r.has, .slice rba r.bid.length rbc, .int .i64 r.item, .int .i64 r.pays, .slice rca r.cert.length rcc] := hsz ▸ Blk.new w0 37 [.int .i64 r.e, .int .u32 r.seq, .int .u64 r.tok, .int .u8 r.ph, .int .u64 r.tm, .bool r.has, .slice rba r.bid.length rbc, .int .i64 r.item, .int .i64 r.pays, .slice rca r.cert.length rcc]
    clear hsz
    generalize w0.alloc (.cells #[.int .i64 r.e, .int .u32 r.seq, .int .u64 r.tok, .int .u8 r.ph, .int .u64 r.tm, .bool r.has, .slice rba r.bid.length rbc, .int .i64 r.item, .int .i64 r.pays, .slice rca r.cert.length rcc] 37) = w1 at kq bR ⊢
    replace hP := hP.keep kq
    replace hf := hf.keep kq
    replace hr := hr.keep kq
    replace bF := bF.keep kq
    replace kk := kk.trans kq
    clear kq
    have bF_0 := bF.cell_ (i := 0) rfl
    have bF_1 := bF.cell_ (i := 1) rfl
    have bF_2 := bF.cell_ (i := 2) rfl
    have bF_3 := bF.cell_ (i := 3) rfl
    have bF_4 := bF.cell_ (i := 4) rfl
    have bF_5 := bF.cell_ (i := 5) rfl
    have hq := putF_f (Frm.mk f fsa fsc fba fbc) w1 hf hP (hp1.out)
    unfold Frm.val at hq
    simp only at hq
    go_wp2_with fail
    refine hq.mono ?_
    rintro e w2 ⟨A1, rfl, -, kq⟩
    clear hq
    replace hP := hP.keep kq
    replace hf := hf.keep kq
    replace hr := hr.keep kq
    replace bF := bF.keep kq
    replace bR := bR.keep kq
    replace kk := kk.trans kq
    clear kq
    clear bF_0 bF_1 bF_2 bF_3 bF_4 bF_5
    clear bF hp1
    rcases q2.out with ⟨M, m2, ⟨l3, l4⟩, n3, hmM, n4, hp2, hg4, hg5⟩ | hp2
    · have HNM := Lib.hid n3
      have HBM := Lib.hid n4
      replace hp2 := Lib.hid hp2
      replace hg4 := Lib.hid hg4
      replace hg5 := Lib.hid hg5
      clear n3 n4
      go_upto_region 10 with fail
      have bR_0 := bR.cell_ (i := 0) rfl
      have bR_1 := bR.cell_ (i := 1) rfl
      have bR_2 := bR.cell_ (i := 2) rfl
      have bR_3 := bR.cell_ (i := 3) rfl
      have bR_4 := bR.cell_ (i := 4) rfl
      have bR_5 := bR.cell_ (i := 5) rfl
      have bR_6 := bR.cell_ (i := 6) rfl
      have bR_7 := bR.cell_ (i := 7) rfl
      have bR_8 := bR.cell_ (i := 8) rfl
      have bR_9 := bR.cell_ (i := 9) rfl
      have hq := putR_f (Rpl.mk r rba rbc rca rcc) w2 hr hp2.out
      unfold Rpl.val at hq
      simp only at hq
      rw [HNM.out] at hq
      go_wp2_with fail
      refine hq.mono ?_
      rintro e w3 ⟨A6, rfl, f6, kq⟩
      clear hq
      replace hP := hP.keep kq
      replace hf := hf.keep kq
      replace hr := hr.keep kq
      replace bR := bR.keep kq
      replace kk := kk.trans kq
      clear kq
      clear bR_0 bR_1 bR_2 bR_3 bR_4 bR_5 bR_6 bR_7 bR_8 bR_9
      have hq := getR_f A6 (m2 + 1) M w3 f6.rd HBM.out (by rw [HNM.out]; exact Nat.le_refl _) (by unfold Len; omega) hg4.out
      rw [HNM.out] at hq
      go_wp2_with fail
      refine hq.mono ?_
      rintro e w4 ⟨yba, yca, rfl, oky, -, -, kq⟩
      clear hq
      unfold Rpl.val
      simp only
      replace hP := hP.keep kq
      replace hf := hf.keep kq
      replace hr := hr.keep kq
      replace bR := bR.keep kq
      replace f6 := f6.keep kq
      replace kk := kk.trans kq
      clear kq
      go_upto_region 14 with fail
      have kq : Keep w4 (w4.alloc (.cells #[.int .i64 r.e, .int .u32 r.seq, .int .u64 r.tok, .int .u8 r.ph, .int .u64 r.tm, .bool r.has, .slice yba r.bid.length r.bid.length, .int .i64 r.item, .int .i64 r.pays, .slice yca r.cert.length r.cert.length] 37)) := Keep.alloc1 _ _
      have bY := Blk.new w4 37 [.int .i64 r.e, .int .u32 r.seq, .int .u64 r.tok, .int .u8 r.ph, .int .u64 r.tm, .bool r.has, .slice yba r.bid.length r.bid.length, .int .i64 r.item, .int .i64 r.pays, .slice yca r.cert.length r.cert.length]
      change Code.wp _ _ _ _ (w4.alloc (.cells #[.int .i64 r.e, .int .u32 r.seq, .int .u64 r.tok, .int .u8 r.ph, .int .u64 r.tm, .bool r.has, .slice yba r.bid.length r.bid.length, .int .i64 r.item, .int .i64 r.pays, .slice yca r.cert.length r.cert.length] 37))
      generalize w4.alloc (.cells #[.int .i64 r.e, .int .u32 r.seq, .int .u64 r.tok, .int .u8 r.ph, .int .u64 r.tm, .bool r.has, .slice yba r.bid.length r.bid.length, .int .i64 r.item, .int .i64 r.pays, .slice yca r.cert.length r.cert.length] 37) = w5 at kq bY ⊢
      generalize w4.heap.size = gbY at bY ⊢
      replace hP := hP.keep kq
      replace hf := hf.keep kq
      replace hr := hr.keep kq
      replace bR := bR.keep kq
      replace f6 := f6.keep kq
      replace oky := oky.keep kq
      replace kk := kk.trans kq
      clear kq
      have okL : Sl.Ok .u8 w5 ⟨A6, m2 + 1, M⟩ := ⟨⟨f6.rd, by rw [HNM.out]; exact Nat.le_refl _, (show m2 + 1 ≤ maxLen by unfold maxLen; omega), wf_bytes HBM.out⟩, fun h => by have := f6.capNil h; omega⟩
      have hq := twinBytes_f ⟨A6, m2 + 1, M⟩ w5 okL (by show M.length ≤ _; rw [HNM.out]; omega)
      simp only at hq
      rw [HNM.out] at hq
      go_wp2_with fail
      refine hq.mono ?_
      rintro e v1 ⟨At, ct, rfl, tt, kq⟩
      clear hq okL
      have ft := TwinB.fr tt
      simp only at ft
      rw [HNM.out] at ft
      clear tt
      go_wp2_with (at_builtin; refine wpList_append_fr _ rfl _ _ 25 rfl w5.heap.size 5 (.int .u8 0) 1 Tryd.underlying25 infoByte rfl At (m2 + 1) ct _ rfl (ft.keep (Keep.alloc1 _ _)) (some ⟨v1.heap.size, 0, none⟩) 1 1 [.int .u8 0] rfl rfl (Rd.one _ _ _) (one_int _ _) ?d1 ?d2 ?d3 ?_)
      case d1 => unfold maxLen; omega
      case d2 => omega
      case d3 => have := kq.size; simp; omega
      intro At c5 v2 happ
      have kz := happ.keep (kq.alloc _) (ft.keep (Keep.alloc1 _ _))
      have f5 := happ.fr
      rw [← cs_one, ← cs_append] at f5
      have hc5 := f5.cap
      have hm5 := lenMax f5.capMax
      have r5 := f5.rd
      clear happ ft kq f5
      replace hP := hP.keep kz
      replace hf := hf.keep kz
      replace hr := hr.keep kz
      replace bR := bR.keep kz
      replace f6 := f6.keep kz
      replace oky := oky.keep kz
      replace bY := bY.keep kz
      replace kk := kk.trans kz
      clear kz
      have hq := getR_f At c5 (M ++ [0]) v2 r5 (HBM.out.append bytes_zero) (by rw [List.length_append, HNM.out]; exact hc5) hm5 hg5.out
      rw [List.length_append, HNM.out] at hq
      go_wp2_with fail
      refine hq.mono ?_
      rintro e w6 ⟨zba2, zca2, rfl, -, -, -, kq⟩
      clear hq
      clear r5 hc5 hm5
      unfold Rpl.val
      replace hP := hP.keep kq
      replace hf := hf.keep kq
      replace hr := hr.keep kq
      replace bR := bR.keep kq
      replace f6 := f6.keep kq
      replace oky := oky.keep kq
      replace bY := bY.keep kq
      replace kk := kk.trans kq
      clear kq
      go_upto_region 15 with fail
      have kq : Keep w6 (w6.alloc (.cells #[.int .i64 zeroR.e, .int .u32 zeroR.seq, .int .u64 zeroR.tok, .int .u8 zeroR.ph, .int .u64 zeroR.tm, .bool zeroR.has, .slice zba2 zeroR.bid.length zeroR.bid.length, .int .i64 zeroR.item, .int .i64 zeroR.pays, .slice zca2 zeroR.cert.length zeroR.cert.length] 37)) := Keep.alloc1 _ _
      change Code.wp _ _ _ _ (w6.alloc (.cells #[.int .i64 zeroR.e, .int .u32 zeroR.seq, .int .u64 zeroR.tok, .int .u8 zeroR.ph, .int .u64 zeroR.tm, .bool zeroR.has, .slice zba2 zeroR.bid.length zeroR.bid.length, .int .i64 zeroR.item, .int .i64 zeroR.pays, .slice zca2 zeroR.cert.length zeroR.cert.length] 37))
      generalize w6.alloc (.cells #[.int .i64 zeroR.e, .int .u32 zeroR.seq, .int .u64 zeroR.tok, .int .u8 zeroR.ph, .int .u64 zeroR.tm, .bool zeroR.has, .slice zba2 zeroR.bid.length zeroR.bid.length, .int .i64 zeroR.item, .int .i64 zeroR.pays, .slice zca2 zeroR.cert.length zeroR.cert.length] 37) = w7 at kq ⊢
      generalize w6.heap.size = gbW at ⊢
      replace hP := hP.keep kq
      replace hf := hf.keep kq
      replace hr := hr.keep kq
      replace bR := bR.keep kq
      replace f6 := f6.keep kq
      replace oky := oky.keep kq
      replace bY := bY.keep kq
      replace kk := kk.trans kq
      clear kq
      have bY_0 := bY.cell_ (i := 0) rfl
      have bY_1 := bY.cell_ (i := 1) rfl
      have bY_2 := bY.cell_ (i := 2) rfl
      have bY_3 := bY.cell_ (i := 3) rfl
      have bY_4 := bY.cell_ (i := 4) rfl
      have bY_5 := bY.cell_ (i := 5) rfl
      have bY_6 := bY.cell_ (i := 6) rfl
      have bY_7 := bY.cell_ (i := 7) rfl
      have bY_8 := bY.cell_ (i := 8) rfl
      have bY_9 := bY.cell_ (i := 9) rfl
      have bR_0 := bR.cell_ (i := 0) rfl
      have bR_1 := bR.cell_ (i := 1) rfl
      have bR_2 := bR.cell_ (i := 2) rfl
      have bR_3 := bR.cell_ (i := 3) rfl
      have bR_4 := bR.cell_ (i := 4) rfl
      have bR_5 := bR.cell_ (i := 5) rfl
      have bR_6 := bR.cell_ (i := 6) rfl
      have bR_7 := bR.cell_ (i := 7) rfl
      have bR_8 := bR.cell_ (i := 8) rfl
      have bR_9 := bR.cell_ (i := 9) rfl
      have hq := sameReply_f (Rpl.mk r yba _ yca _) (Rpl.mk r rba rbc rca rcc) w7 oky hr (by unfold Reach; simp only; omega) (by unfold Reach; simp only; omega) (by unfold Reach; simp only; omega) (by unfold Reach; simp only; omega)
      unfold Rpl.val at hq
      simp only at hq
      rw [sameRV_self] at hq
      go_wp2_with fail
      refine hq.mono ?_
      rintro e w8 ⟨rfl, kq⟩
      clear hq
      replace hP := hP.keep kq
      replace hf := hf.keep kq
      replace hr := hr.keep kq
      replace bR := bR.keep kq
      replace f6 := f6.keep kq
      replace oky := oky.keep kq
      replace bY := bY.keep kq
      replace kk := kk.trans kq
      clear kq
      clear bY_0 bY_1 bY_2 bY_3 bY_4 bY_5 bY_6 bY_7 bY_8 bY_9
      clear bR_0 bR_1 bR_2 bR_3 bR_4 bR_5 bR_6 bR_7 bR_8 bR_9
      have hq := lives_f w8 hP
      go_wp2_with fail
      refine hq.mono ?_
      rintro e w9 ⟨rfl, kq⟩
      clear hq
      replace hP := hP.keep kq
      replace hf := hf.keep kq
      replace hr := hr.keep kq
      replace bR := bR.keep kq
      replace f6 := f6.keep kq
      replace oky := oky.keep kq
      replace bY := bY.keep kq
      replace kk := kk.trans kq
      clear kq
      go_wp2_with fail
      go_ret
      exact ⟨rfl, kk⟩
    · replace hp2 := Lib.hid hp2
      go_upto_region 10 with fail
      have bR_0 := bR.cell_ (i := 0) rfl
      have bR_1 := bR.cell_ (i := 1) rfl
      have bR_2 := bR.cell_ (i := 2) rfl
      have bR_3 := bR.cell_ (i := 3) rfl
      have bR_4 := bR.cell_ (i := 4) rfl
      have bR_5 := bR.cell_ (i := 5) rfl
      have bR_6 := bR.cell_ (i := 6) rfl
      have bR_7 := bR.cell_ (i := 7) rfl
      have bR_8 := bR.cell_ (i := 8) rfl
      have bR_9 := bR.cell_ (i := 9) rfl
      have hq := putR_f (Rpl.mk r rba rbc rca rcc) w2 hr hp2.out
      unfold Rpl.val at hq
      simp only at hq
      go_wp2_with fail
      refine hq.mono ?_
      rintro e w3 ⟨A6, rfl, -, kq⟩
      clear hq
      replace hP := hP.keep kq
      replace hf := hf.keep kq
      replace hr := hr.keep kq
      replace bR := bR.keep kq
      replace kk := kk.trans kq
      clear kq
      clear bR_0 bR_1 bR_2 bR_3 bR_4 bR_5 bR_6 bR_7 bR_8 bR_9
      have hq := lives_f w3 hP
      go_wp2_with fail
      refine hq.mono ?_
      rintro e w4 ⟨rfl, kq⟩
      clear hq
      replace hP := hP.keep kq
      replace hf := hf.keep kq
      replace hr := hr.keep kq
      replace bR := bR.keep kq
      replace kk := kk.trans kq
      clear kq
      go_wp2_with fail
      go_ret
      exact ⟨rfl, kk⟩
end Go.Proofs.YtjhbpocffckghaaDoor
