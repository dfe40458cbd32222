/-
  THE WALK OF THE 3 FramesParts: it answers true, and turns nothing that was there. Conditions: the arguments are a frame that came in and a byte; the program's list of parts stands as its text lays it.
-/
import Derived.Test.YtjhbpocffckghaaDoorFrmM
import Derived.Test.YtjhbpocffckghaaDoorFrmQ
namespace Go.Proofs.YtjhbpocffckghaaDoor
open Go.RowKit

theorem part0a {f : FV} (h : f.ask = 2 ∨ f.ask = 3) : mayF ⟨f.ask, f.who, 0, f.tok, f.sec, f.bid⟩ = false := by
  unfold mayF
  simp [h]
theorem part0b {f : FV} (h : ¬(f.ask = 2 ∨ f.ask = 3)) : mayF ⟨f.ask, f.who, 1, f.tok, f.sec, f.bid⟩ = false := by
  unfold mayF
  simp [h]
theorem part1a {f : FV} (h : f.ask = 1) : mayF ⟨f.ask, f.who, f.seq, f.tok, [], f.bid⟩ = false := by
  unfold mayF
  simp [h]
theorem part1b {f : FV} (h : ¬f.ask = 1) : mayF ⟨f.ask, f.who, f.seq, f.tok, [1], f.bid⟩ = false := by
  unfold mayF
  simp [h]
theorem part2a {f : FV} (h : f.ask = 2) : mayF ⟨f.ask, f.who, f.seq, f.tok, f.sec, []⟩ = false := by
  unfold mayF bidOk
  simp [h]
theorem part2b {f : FV} (h : ¬f.ask = 2) : mayF ⟨f.ask, f.who, f.seq, f.tok, f.sec, [1]⟩ = false := by
  unfold mayF
  simp [h]
theorem part3 (f : FV) : mayF ⟨0, f.who, f.seq, f.tok, f.sec, f.bid⟩ = false := by
  unfold mayF
  simp
theorem putF_no {f : FV} (h : mayF f = false) : putFV f = ([], 1) := by
  unfold putFV
  rw [h]
  rfl

set_option maxRecDepth 100000 in
set_option maxHeartbeats 16000000 in
theorem framesParts_w (f : Frm) (n : Int) (w : World) (hf : f.Ok w) (hn : 0 ≤ n ∧ n < 256) (hP : Parts w) :
    Calls Tryd.prog 3 #[f.val, .int .u8 n] w fun e w' => e = .returned (.bool true) ∧ Below w.heap.size w w' := by
  have kk : Keep w w := Keep.refl _
  obtain ⟨f, sa, sc, ba, bc⟩ := f
  unfold Frm.val
  simp only
  by_cases h : mayF f = true
  · have hp : Hid (putFV f = (bytesF f, 0)) := Lib.hid (by unfold putFV; rw [if_pos h])
    obtain ⟨-, -, l1, l2, -⟩ := mayF_facts h
    clear h
    have HF := Lib.hid hf
    have HP := Lib.hid hP
    go_enter Tryd.func3, Tryd.ntmps3
    go_upto_region 1 with fail
    have kq : Keep w (w.alloc (.cells #[.int .u8 f.ask, .int .u8 f.who, .int .u32 f.seq, .int .u64 f.tok, .slice sa f.sec.length sc, .slice ba f.bid.length bc] 28)) := Keep.alloc1 _ _
    have bF := Blk.new w 28 [.int .u8 f.ask, .int .u8 f.who, .int .u32 f.seq, .int .u64 f.tok, .slice sa f.sec.length sc, .slice ba f.bid.length bc]
    change Code.wp _ _ _ _ (w.alloc (.cells #[.int .u8 f.ask, .int .u8 f.who, .int .u32 f.seq, .int .u64 f.tok, .slice sa f.sec.length sc, .slice ba f.bid.length bc] 28))
    generalize w.alloc (.cells #[.int .u8 f.ask, .int .u8 f.who, .int .u32 f.seq, .int .u64 f.tok, .slice sa f.sec.length sc, .slice ba f.bid.length bc] 28) = w1 at kq bF ⊢
    generalize w.heap.size = gbF at bF ⊢
    replace hP := hP.keep kq
    replace hf := hf.keep kq
    replace kk := kk.trans kq
    clear kq
    have bF_0 := bF.cell_ (i := 0) rfl
    have bF_1 := bF.cell_ (i := 1) rfl
    have bF_2 := bF.cell_ (i := 2) rfl
    have bF_3 := bF.cell_ (i := 3) rfl
    have bF_4 := bF.cell_ (i := 4) rfl
    have bF_5 := bF.cell_ (i := 5) rfl
    have hq := putF_f (Frm.mk f sa sc ba bc) w1 hf hP hp.out
    unfold Frm.val at hq
    simp only at hq
    go_wp2_with fail
    refine hq.mono ?_
    rintro e w2 ⟨A3, rfl, -, kq⟩
    clear hq
    replace hP := hP.keep kq
    replace hf := hf.keep kq
    replace bF := bF.keep kq
    replace kk := kk.trans kq
    clear kq
    clear bF_0 bF_1 bF_2 bF_3 bF_4 bF_5
    have bF_0 := bF.cell_ (i := 0) rfl
    have bF_1 := bF.cell_ (i := 1) rfl
    have bF_2 := bF.cell_ (i := 2) rfl
    have bF_3 := bF.cell_ (i := 3) rfl
    have bF_4 := bF.cell_ (i := 4) rfl
    have bF_5 := bF.cell_ (i := 5) rfl
    have hq := twinFrm_f (Frm.mk f sa sc ba bc) w2 hf (by show f.sec.length ≤ _; omega) (by show f.bid.length ≤ _; omega)
    unfold Frm.val at hq
    simp only at hq
    go_wp2_with fail
    refine hq.mono ?_
    rintro e w3 ⟨A1, c1, A2, c2, rfl, t1, t2, kq⟩
    clear hq
    have hb := kk.size
    replace t1 := Fr.mono t1 hb
    replace t2 := Fr.mono t2 hb
    clear hb
    replace hP := hP.keep kq
    replace hf := hf.keep kq
    replace bF := bF.keep kq
    replace kk := kk.trans kq
    clear kq
    clear bF_0 bF_1 bF_2 bF_3 bF_4 bF_5
    go_upto_region 5 with fail
    have kq : Keep w3 (w3.alloc (.cells #[.int .u8 f.ask, .int .u8 f.who, .int .u32 f.seq, .int .u64 f.tok, .slice A1 f.sec.length c1, .slice A2 f.bid.length c2] 28)) := Keep.alloc1 _ _
    have bN := Blk.new w3 28 [.int .u8 f.ask, .int .u8 f.who, .int .u32 f.seq, .int .u64 f.tok, .slice A1 f.sec.length c1, .slice A2 f.bid.length c2]
    change Code.wp _ _ _ _ (w3.alloc (.cells #[.int .u8 f.ask, .int .u8 f.who, .int .u32 f.seq, .int .u64 f.tok, .slice A1 f.sec.length c1, .slice A2 f.bid.length c2] 28))
    have hgbN : w.heap.size ≤ w3.heap.size := kk.size
    have hlt := bF.lt
    generalize w3.alloc (.cells #[.int .u8 f.ask, .int .u8 f.who, .int .u32 f.seq, .int .u64 f.tok, .slice A1 f.sec.length c1, .slice A2 f.bid.length c2] 28) = w4 at kq bN ⊢
    generalize w3.heap.size = gbN at bN hgbN hlt ⊢
    replace hP := hP.keep kq
    replace hf := hf.keep kq
    replace bF := bF.keep kq
    replace t1 := Fr.keep t1 kq
    replace t2 := Fr.keep t2 kq
    replace kk := kk.trans kq
    clear kq
    clear hf hP
    rcases (by omega : f.ask = 1 ∨ f.ask = 2 ∨ f.ask = 3 ∨ (f.ask ≠ 1 ∧ f.ask ≠ 2 ∧ f.ask ≠ 3)) with ha | ha | ha | ha
    · have z1 : ((f.ask : Int) == 1) = true := by rw [ha]; rfl
      have z2 : ((f.ask : Int) == 2) = false := beq_false_of_ne (by omega)
      have z3 : ((f.ask : Int) == 3) = false := beq_false_of_ne (by omega)
      rcases (by omega : n % 4 = 0 ∨ n % 4 = 1 ∨ n % 4 = 2 ∨ n % 4 = 3) with hk | hk | hk | hk
      · have y0 : (n % 4 == 0) = true := by rw [hk]; rfl
        have y1 : (n % 4 == 1) = false := by rw [hk]; rfl
        have y2 : (n % 4 == 2) = false := by rw [hk]; rfl
        have y3 : (n % 4 == 3) = false := by rw [hk]; rfl
        replace hk := Lib.hid hk
        replace ha := Lib.hid ha
        have x0 := bF.cell_ (i := 0) rfl
        have x1 := bF.cell_ (i := 1) rfl
        have x2 := bF.cell_ (i := 2) rfl
        have x3 := bF.cell_ (i := 3) rfl
        have x4 := bF.cell_ (i := 4) rfl
        have x5 := bF.cell_ (i := 5) rfl
        have zf := bN.frozen 2
        have zc := bN.cell_ (i := 2) rfl
        go_upto_region 9 with fail
        have kn := kk.setCell (p := ⟨gbN, 2, none⟩) hgbN (.int .u32 1)
        have bN' : Blk (w4.setCell ⟨gbN, 2, none⟩ (.int .u32 1)) gbN 28 [.int .u8 f.ask, .int .u8 f.who, .int .u32 1, .int .u64 f.tok, .slice A1 f.sec.length c1, .slice A2 f.bid.length c2] := bN.set_ 2 (.int .u32 1)
        have bF' := bF.far (p := ⟨gbN, 2, none⟩) (show gbN ≠ gbF by omega) (.int .u32 1)
        have t1' := Fr.setCell t1 (p := ⟨gbN, 2, none⟩) (fun k hk => Fr.own_ne t1 bN (by decide) k hk) (.int .u32 1)
        have t2' := Fr.setCell t2 (p := ⟨gbN, 2, none⟩) (fun k hk => Fr.own_ne t2 bN (by decide) k hk) (.int .u32 1)
        generalize w4.setCell ⟨gbN, 2, none⟩ (.int .u32 1) = w6 at kn bN' bF' t1' t2' ⊢
        clear bN bF t1 t2 kk zf zc x0 x1 x2 x3 x4 x5
        have kk := kn
        have bN := bN'
        have bF := bF'
        have t1 := t1'
        have t2 := t2'
        clear kn bN' bF' t1' t2'
        have x0 := bF.cell_ (i := 0) rfl
        have x1 := bF.cell_ (i := 1) rfl
        have x2 := bF.cell_ (i := 2) rfl
        have x3 := bF.cell_ (i := 3) rfl
        have x4 := bF.cell_ (i := 4) rfl
        have x5 := bF.cell_ (i := 5) rfl
        go_upto_region 21 with fail
        clear x0 x1 x2 x3 x4 x5 bF
        have okN : (Frm.mk ⟨f.ask, f.who, 1, f.tok, f.sec, f.bid⟩ A1 c1 A2 c2).Ok w6 := ⟨(TwinB.ok (t := ⟨A1, c1, f.sec⟩) t1 HF.out.s.inn.wf), (Twin.ok (t := ⟨A2, c2, f.bid⟩) t2 HF.out.b.inn.wf), HF.out.ask, HF.out.who, (show 1 < 4294967296 by decide), HF.out.tok⟩
        have n0 := bN.cell_ (i := 0) rfl
        have n1 := bN.cell_ (i := 1) rfl
        have n2 := bN.cell_ (i := 2) rfl
        have n3 := bN.cell_ (i := 3) rfl
        have n4 := bN.cell_ (i := 4) rfl
        have n5 := bN.cell_ (i := 5) rfl
        have hP' := HP.out.keep kk
        have hq : Calls Tryd.prog 7 #[.agg #[.int .u8 f.ask, .int .u8 f.who, .int .u32 1, .int .u64 f.tok, .slice A1 f.sec.length c1, .slice A2 f.bid.length c2]] w6 fun e w' => ∃ A, e = .returned (.tuple #[.slice A 0 0, .int .i64 1]) ∧ Fr 5 w' w6.heap.size A 0 0 (cs .u8 []) ∧ Keep w6 w' := putF_f _ w6 okN hP' (putF_no (part0b (f := f) (by have := ha.out; omega)))
        clear okN t1 t2
        go_wp2_with fail
        refine hq.mono ?_
        rintro e w8 ⟨A8, rfl, -, kq⟩
        clear hq
        replace hP' := hP'.keep kq
        replace kk := kk.trans kq
        have hq := lives_f w8 hP'
        clear kq n0 n1 n2 n3 n4 n5 bN
        go_wp2_with fail
        refine hq.mono ?_
        rintro e w9 ⟨rfl, kq⟩
        go_wp2_with fail
        go_ret
        exact ⟨rfl, kk.trans kq⟩
      · have y0 : (n % 4 == 0) = false := by rw [hk]; rfl
        have y1 : (n % 4 == 1) = true := by rw [hk]; rfl
        have y2 : (n % 4 == 2) = false := by rw [hk]; rfl
        have y3 : (n % 4 == 3) = false := by rw [hk]; rfl
        replace hk := Lib.hid hk
        replace ha := Lib.hid ha
        have x0 := bF.cell_ (i := 0) rfl
        have x1 := bF.cell_ (i := 1) rfl
        have x2 := bF.cell_ (i := 2) rfl
        have x3 := bF.cell_ (i := 3) rfl
        have x4 := bF.cell_ (i := 4) rfl
        have x5 := bF.cell_ (i := 5) rfl
        have kn : Keep w4 (w4.alloc (.cells #[.int .u8 1] 5)) := Keep.alloc1 _ _
        have zf := (bN.keep kn).frozen 4
        have zc := (bN.keep kn).cell_ (i := 4) rfl
        clear kn
        go_upto_region 13 with fail
        clear zf zc
        have kn : Keep w4 (w4.alloc (.cells #[.int .u8 1] 5)) := Keep.alloc1 _ _
        have bO := Blk.new w4 5 [.int .u8 1]
        have hO := bN.lt
        generalize w4.alloc (.cells #[.int .u8 1] 5) = w5 at kn bO ⊢
        generalize w4.heap.size = gO at bO hO ⊢
        replace bN := bN.keep kn
        replace bF := bF.keep kn
        replace t1 := Fr.keep t1 kn
        replace t2 := Fr.keep t2 kn
        replace kk := kk.trans kn
        clear kn
        have kn := kk.setCell (p := ⟨gbN, 4, none⟩) hgbN ((.slice (some ⟨gO, 0, none⟩) 1 1))
        have bN' : Blk (w5.setCell ⟨gbN, 4, none⟩ ((.slice (some ⟨gO, 0, none⟩) 1 1))) gbN 28 [.int .u8 f.ask, .int .u8 f.who, .int .u32 f.seq, .int .u64 f.tok, .slice (some ⟨gO, 0, none⟩) 1 1, .slice A2 f.bid.length c2] := bN.set_ 4 ((.slice (some ⟨gO, 0, none⟩) 1 1))
        have bF' := bF.far (p := ⟨gbN, 4, none⟩) (show gbN ≠ gbF by omega) ((.slice (some ⟨gO, 0, none⟩) 1 1))
        have t1' := Fr.setCell t1 (p := ⟨gbN, 4, none⟩) (fun k hk => Fr.own_ne t1 bN (by decide) k hk) ((.slice (some ⟨gO, 0, none⟩) 1 1))
        have t2' := Fr.setCell t2 (p := ⟨gbN, 4, none⟩) (fun k hk => Fr.own_ne t2 bN (by decide) k hk) ((.slice (some ⟨gO, 0, none⟩) 1 1))
        have bO' := bO.far (p := ⟨gbN, 4, none⟩) (show gbN ≠ gO by omega) ((.slice (some ⟨gO, 0, none⟩) 1 1))
        generalize w5.setCell ⟨gbN, 4, none⟩ ((.slice (some ⟨gO, 0, none⟩) 1 1)) = w6 at kn bN' bF' t1' t2' bO' ⊢
        clear bN bF t1 t2 kk bO x0 x1 x2 x3 x4 x5
        have kk := kn
        have bN := bN'
        have bF := bF'
        have t1 := t1'
        have t2 := t2'
        have bO := bO'
        clear kn bN' bF' t1' t2' bO'
        have x0 := bF.cell_ (i := 0) rfl
        have x1 := bF.cell_ (i := 1) rfl
        have x2 := bF.cell_ (i := 2) rfl
        have x3 := bF.cell_ (i := 3) rfl
        have x4 := bF.cell_ (i := 4) rfl
        have x5 := bF.cell_ (i := 5) rfl
        have zf := bN.frozen 4
        have zc := bN.cell_ (i := 4) rfl
        go_upto_region 21 with fail
        have kn := kk.setCell (p := ⟨gbN, 4, none⟩) hgbN (.slice none 0 0)
        have bN' : Blk (w6.setCell ⟨gbN, 4, none⟩ (.slice none 0 0)) gbN 28 [.int .u8 f.ask, .int .u8 f.who, .int .u32 f.seq, .int .u64 f.tok, .slice none 0 0, .slice A2 f.bid.length c2] := bN.set_ 4 (.slice none 0 0)
        have bF' := bF.far (p := ⟨gbN, 4, none⟩) (show gbN ≠ gbF by omega) (.slice none 0 0)
        have t1' := Fr.setCell t1 (p := ⟨gbN, 4, none⟩) (fun k hk => Fr.own_ne t1 bN (by decide) k hk) (.slice none 0 0)
        have t2' := Fr.setCell t2 (p := ⟨gbN, 4, none⟩) (fun k hk => Fr.own_ne t2 bN (by decide) k hk) (.slice none 0 0)
        have bO' := bO.far (p := ⟨gbN, 4, none⟩) (show gbN ≠ gO by omega) (.slice none 0 0)
        generalize w6.setCell ⟨gbN, 4, none⟩ (.slice none 0 0) = w7 at kn bN' bF' t1' t2' bO' ⊢
        clear bN bF t1 t2 kk bO zf zc x0 x1 x2 x3 x4 x5
        have kk := kn
        have bN := bN'
        have bF := bF'
        have t1 := t1'
        have t2 := t2'
        have bO := bO'
        clear kn bN' bF' t1' t2' bO'
        have x0 := bF.cell_ (i := 0) rfl
        have x1 := bF.cell_ (i := 1) rfl
        have x2 := bF.cell_ (i := 2) rfl
        have x3 := bF.cell_ (i := 3) rfl
        have x4 := bF.cell_ (i := 4) rfl
        have x5 := bF.cell_ (i := 5) rfl
        clear x0 x1 x2 x3 x4 x5 bF
        have okN : (Frm.mk ⟨f.ask, f.who, f.seq, f.tok, [], f.bid⟩ none 0 A2 c2).Ok w7 := ⟨(nil_ok _ _), (Twin.ok (t := ⟨A2, c2, f.bid⟩) t2 HF.out.b.inn.wf), HF.out.ask, HF.out.who, HF.out.seq, HF.out.tok⟩
        have n0 := bN.cell_ (i := 0) rfl
        have n1 := bN.cell_ (i := 1) rfl
        have n2 := bN.cell_ (i := 2) rfl
        have n3 := bN.cell_ (i := 3) rfl
        have n4 := bN.cell_ (i := 4) rfl
        have n5 := bN.cell_ (i := 5) rfl
        have hP' := HP.out.keep kk
        have hq : Calls Tryd.prog 7 #[.agg #[.int .u8 f.ask, .int .u8 f.who, .int .u32 f.seq, .int .u64 f.tok, .slice none 0 0, .slice A2 f.bid.length c2]] w7 fun e w' => ∃ A, e = .returned (.tuple #[.slice A 0 0, .int .i64 1]) ∧ Fr 5 w' w7.heap.size A 0 0 (cs .u8 []) ∧ Keep w7 w' := putF_f _ w7 okN hP' (putF_no (part1a (f := f) (by have := ha.out; omega)))
        clear okN t1 t2 bO
        go_wp2_with fail
        refine hq.mono ?_
        rintro e w8 ⟨A8, rfl, -, kq⟩
        clear hq
        replace hP' := hP'.keep kq
        replace kk := kk.trans kq
        have hq := lives_f w8 hP'
        clear kq n0 n1 n2 n3 n4 n5 bN
        go_wp2_with fail
        refine hq.mono ?_
        rintro e w9 ⟨rfl, kq⟩
        go_wp2_with fail
        go_ret
        exact ⟨rfl, kk.trans kq⟩
      · have y0 : (n % 4 == 0) = false := by rw [hk]; rfl
        have y1 : (n % 4 == 1) = false := by rw [hk]; rfl
        have y2 : (n % 4 == 2) = true := by rw [hk]; rfl
        have y3 : (n % 4 == 3) = false := by rw [hk]; rfl
        replace hk := Lib.hid hk
        replace ha := Lib.hid ha
        have x0 := bF.cell_ (i := 0) rfl
        have x1 := bF.cell_ (i := 1) rfl
        have x2 := bF.cell_ (i := 2) rfl
        have x3 := bF.cell_ (i := 3) rfl
        have x4 := bF.cell_ (i := 4) rfl
        have x5 := bF.cell_ (i := 5) rfl
        have kn : Keep w4 (w4.alloc (.cells #[.int .i64 1] 3)) := Keep.alloc1 _ _
        have zf := (bN.keep kn).frozen 5
        have zc := (bN.keep kn).cell_ (i := 5) rfl
        clear kn
        go_upto_region 17 with fail
        clear zf zc
        have kn : Keep w4 (w4.alloc (.cells #[.int .i64 1] 3)) := Keep.alloc1 _ _
        have bO := Blk.new w4 3 [.int .i64 1]
        have hO := bN.lt
        generalize w4.alloc (.cells #[.int .i64 1] 3) = w5 at kn bO ⊢
        generalize w4.heap.size = gO at bO hO ⊢
        replace bN := bN.keep kn
        replace bF := bF.keep kn
        replace t1 := Fr.keep t1 kn
        replace t2 := Fr.keep t2 kn
        replace kk := kk.trans kn
        clear kn
        have kn := kk.setCell (p := ⟨gbN, 5, none⟩) hgbN ((.slice (some ⟨gO, 0, none⟩) 1 1))
        have bN' : Blk (w5.setCell ⟨gbN, 5, none⟩ ((.slice (some ⟨gO, 0, none⟩) 1 1))) gbN 28 [.int .u8 f.ask, .int .u8 f.who, .int .u32 f.seq, .int .u64 f.tok, .slice A1 f.sec.length c1, .slice (some ⟨gO, 0, none⟩) 1 1] := bN.set_ 5 ((.slice (some ⟨gO, 0, none⟩) 1 1))
        have bF' := bF.far (p := ⟨gbN, 5, none⟩) (show gbN ≠ gbF by omega) ((.slice (some ⟨gO, 0, none⟩) 1 1))
        have t1' := Fr.setCell t1 (p := ⟨gbN, 5, none⟩) (fun k hk => Fr.own_ne t1 bN (by decide) k hk) ((.slice (some ⟨gO, 0, none⟩) 1 1))
        have t2' := Fr.setCell t2 (p := ⟨gbN, 5, none⟩) (fun k hk => Fr.own_ne t2 bN (by decide) k hk) ((.slice (some ⟨gO, 0, none⟩) 1 1))
        have bO' := bO.far (p := ⟨gbN, 5, none⟩) (show gbN ≠ gO by omega) ((.slice (some ⟨gO, 0, none⟩) 1 1))
        generalize w5.setCell ⟨gbN, 5, none⟩ ((.slice (some ⟨gO, 0, none⟩) 1 1)) = w6 at kn bN' bF' t1' t2' bO' ⊢
        clear bN bF t1 t2 kk bO x0 x1 x2 x3 x4 x5
        have kk := kn
        have bN := bN'
        have bF := bF'
        have t1 := t1'
        have t2 := t2'
        have bO := bO'
        clear kn bN' bF' t1' t2' bO'
        have x0 := bF.cell_ (i := 0) rfl
        have x1 := bF.cell_ (i := 1) rfl
        have x2 := bF.cell_ (i := 2) rfl
        have x3 := bF.cell_ (i := 3) rfl
        have x4 := bF.cell_ (i := 4) rfl
        have x5 := bF.cell_ (i := 5) rfl
        go_upto_region 21 with fail
        clear x0 x1 x2 x3 x4 x5 bF
        have okN : (Frm.mk ⟨f.ask, f.who, f.seq, f.tok, f.sec, [1]⟩ A1 c1 (some ⟨gO, 0, none⟩) 1).Ok w6 := ⟨(TwinB.ok (t := ⟨A1, c1, f.sec⟩) t1 HF.out.s.inn.wf), ⟨⟨bO.rd, Nat.le_refl _, (show 1 ≤ maxLen by decide), fun y hy => by rw [List.mem_singleton] at hy; subst hy; rfl⟩, fun h => by cases h⟩, HF.out.ask, HF.out.who, HF.out.seq, HF.out.tok⟩
        have n0 := bN.cell_ (i := 0) rfl
        have n1 := bN.cell_ (i := 1) rfl
        have n2 := bN.cell_ (i := 2) rfl
        have n3 := bN.cell_ (i := 3) rfl
        have n4 := bN.cell_ (i := 4) rfl
        have n5 := bN.cell_ (i := 5) rfl
        have hP' := HP.out.keep kk
        have hq : Calls Tryd.prog 7 #[.agg #[.int .u8 f.ask, .int .u8 f.who, .int .u32 f.seq, .int .u64 f.tok, .slice A1 f.sec.length c1, .slice (some ⟨gO, 0, none⟩) 1 1]] w6 fun e w' => ∃ A, e = .returned (.tuple #[.slice A 0 0, .int .i64 1]) ∧ Fr 5 w' w6.heap.size A 0 0 (cs .u8 []) ∧ Keep w6 w' := putF_f _ w6 okN hP' (putF_no (part2b (f := f) (by have := ha.out; omega)))
        clear okN t1 t2 bO
        go_wp2_with fail
        refine hq.mono ?_
        rintro e w8 ⟨A8, rfl, -, kq⟩
        clear hq
        replace hP' := hP'.keep kq
        replace kk := kk.trans kq
        have hq := lives_f w8 hP'
        clear kq n0 n1 n2 n3 n4 n5 bN
        go_wp2_with fail
        refine hq.mono ?_
        rintro e w9 ⟨rfl, kq⟩
        go_wp2_with fail
        go_ret
        exact ⟨rfl, kk.trans kq⟩
      · have y0 : (n % 4 == 0) = false := by rw [hk]; rfl
        have y1 : (n % 4 == 1) = false := by rw [hk]; rfl
        have y2 : (n % 4 == 2) = false := by rw [hk]; rfl
        have y3 : (n % 4 == 3) = true := by rw [hk]; rfl
        replace hk := Lib.hid hk
        replace ha := Lib.hid ha
        have x0 := bF.cell_ (i := 0) rfl
        have x1 := bF.cell_ (i := 1) rfl
        have x2 := bF.cell_ (i := 2) rfl
        have x3 := bF.cell_ (i := 3) rfl
        have x4 := bF.cell_ (i := 4) rfl
        have x5 := bF.cell_ (i := 5) rfl
        have zf := bN.frozen 0
        have zc := bN.cell_ (i := 0) rfl
        go_upto_region 21 with fail
        have kn := kk.setCell (p := ⟨gbN, 0, none⟩) hgbN (.int .u8 0)
        have bN' : Blk (w4.setCell ⟨gbN, 0, none⟩ (.int .u8 0)) gbN 28 [.int .u8 0, .int .u8 f.who, .int .u32 f.seq, .int .u64 f.tok, .slice A1 f.sec.length c1, .slice A2 f.bid.length c2] := bN.set_ 0 (.int .u8 0)
        have bF' := bF.far (p := ⟨gbN, 0, none⟩) (show gbN ≠ gbF by omega) (.int .u8 0)
        have t1' := Fr.setCell t1 (p := ⟨gbN, 0, none⟩) (fun k hk => Fr.own_ne t1 bN (by decide) k hk) (.int .u8 0)
        have t2' := Fr.setCell t2 (p := ⟨gbN, 0, none⟩) (fun k hk => Fr.own_ne t2 bN (by decide) k hk) (.int .u8 0)
        generalize w4.setCell ⟨gbN, 0, none⟩ (.int .u8 0) = w6 at kn bN' bF' t1' t2' ⊢
        clear bN bF t1 t2 kk zf zc x0 x1 x2 x3 x4 x5
        have kk := kn
        have bN := bN'
        have bF := bF'
        have t1 := t1'
        have t2 := t2'
        clear kn bN' bF' t1' t2'
        have x0 := bF.cell_ (i := 0) rfl
        have x1 := bF.cell_ (i := 1) rfl
        have x2 := bF.cell_ (i := 2) rfl
        have x3 := bF.cell_ (i := 3) rfl
        have x4 := bF.cell_ (i := 4) rfl
        have x5 := bF.cell_ (i := 5) rfl
        clear x0 x1 x2 x3 x4 x5 bF
        have okN : (Frm.mk ⟨0, f.who, f.seq, f.tok, f.sec, f.bid⟩ A1 c1 A2 c2).Ok w6 := ⟨(TwinB.ok (t := ⟨A1, c1, f.sec⟩) t1 HF.out.s.inn.wf), (Twin.ok (t := ⟨A2, c2, f.bid⟩) t2 HF.out.b.inn.wf), (show 0 < 256 by decide), HF.out.who, HF.out.seq, HF.out.tok⟩
        have n0 := bN.cell_ (i := 0) rfl
        have n1 := bN.cell_ (i := 1) rfl
        have n2 := bN.cell_ (i := 2) rfl
        have n3 := bN.cell_ (i := 3) rfl
        have n4 := bN.cell_ (i := 4) rfl
        have n5 := bN.cell_ (i := 5) rfl
        have hP' := HP.out.keep kk
        have hq : Calls Tryd.prog 7 #[.agg #[.int .u8 0, .int .u8 f.who, .int .u32 f.seq, .int .u64 f.tok, .slice A1 f.sec.length c1, .slice A2 f.bid.length c2]] w6 fun e w' => ∃ A, e = .returned (.tuple #[.slice A 0 0, .int .i64 1]) ∧ Fr 5 w' w6.heap.size A 0 0 (cs .u8 []) ∧ Keep w6 w' := putF_f _ w6 okN hP' (putF_no (part3 f))
        clear okN t1 t2
        go_wp2_with fail
        refine hq.mono ?_
        rintro e w8 ⟨A8, rfl, -, kq⟩
        clear hq
        replace hP' := hP'.keep kq
        replace kk := kk.trans kq
        have hq := lives_f w8 hP'
        clear kq n0 n1 n2 n3 n4 n5 bN
        go_wp2_with fail
        refine hq.mono ?_
        rintro e w9 ⟨rfl, kq⟩
        go_wp2_with fail
        go_ret
        exact ⟨rfl, kk.trans kq⟩
    · have z1 : ((f.ask : Int) == 1) = false := beq_false_of_ne (by omega)
      have z2 : ((f.ask : Int) == 2) = true := by rw [ha]; rfl
      have z3 : ((f.ask : Int) == 3) = false := beq_false_of_ne (by omega)
      rcases (by omega : n % 4 = 0 ∨ n % 4 = 1 ∨ n % 4 = 2 ∨ n % 4 = 3) with hk | hk | hk | hk
      · have y0 : (n % 4 == 0) = true := by rw [hk]; rfl
        have y1 : (n % 4 == 1) = false := by rw [hk]; rfl
        have y2 : (n % 4 == 2) = false := by rw [hk]; rfl
        have y3 : (n % 4 == 3) = false := by rw [hk]; rfl
        replace hk := Lib.hid hk
        replace ha := Lib.hid ha
        have x0 := bF.cell_ (i := 0) rfl
        have x1 := bF.cell_ (i := 1) rfl
        have x2 := bF.cell_ (i := 2) rfl
        have x3 := bF.cell_ (i := 3) rfl
        have x4 := bF.cell_ (i := 4) rfl
        have x5 := bF.cell_ (i := 5) rfl
        have zf := bN.frozen 2
        have zc := bN.cell_ (i := 2) rfl
        go_upto_region 9 with fail
        have kn := kk.setCell (p := ⟨gbN, 2, none⟩) hgbN (.int .u32 1)
        have bN' : Blk (w4.setCell ⟨gbN, 2, none⟩ (.int .u32 1)) gbN 28 [.int .u8 f.ask, .int .u8 f.who, .int .u32 1, .int .u64 f.tok, .slice A1 f.sec.length c1, .slice A2 f.bid.length c2] := bN.set_ 2 (.int .u32 1)
        have bF' := bF.far (p := ⟨gbN, 2, none⟩) (show gbN ≠ gbF by omega) (.int .u32 1)
        have t1' := Fr.setCell t1 (p := ⟨gbN, 2, none⟩) (fun k hk => Fr.own_ne t1 bN (by decide) k hk) (.int .u32 1)
        have t2' := Fr.setCell t2 (p := ⟨gbN, 2, none⟩) (fun k hk => Fr.own_ne t2 bN (by decide) k hk) (.int .u32 1)
        generalize w4.setCell ⟨gbN, 2, none⟩ (.int .u32 1) = w6 at kn bN' bF' t1' t2' ⊢
        clear bN bF t1 t2 kk zf zc x0 x1 x2 x3 x4 x5
        have kk := kn
        have bN := bN'
        have bF := bF'
        have t1 := t1'
        have t2 := t2'
        clear kn bN' bF' t1' t2'
        have x0 := bF.cell_ (i := 0) rfl
        have x1 := bF.cell_ (i := 1) rfl
        have x2 := bF.cell_ (i := 2) rfl
        have x3 := bF.cell_ (i := 3) rfl
        have x4 := bF.cell_ (i := 4) rfl
        have x5 := bF.cell_ (i := 5) rfl
        have zf := bN.frozen 2
        have zc := bN.cell_ (i := 2) rfl
        go_upto_region 21 with fail
        have kn := kk.setCell (p := ⟨gbN, 2, none⟩) hgbN (.int .u32 0)
        have bN' : Blk (w6.setCell ⟨gbN, 2, none⟩ (.int .u32 0)) gbN 28 [.int .u8 f.ask, .int .u8 f.who, .int .u32 0, .int .u64 f.tok, .slice A1 f.sec.length c1, .slice A2 f.bid.length c2] := bN.set_ 2 (.int .u32 0)
        have bF' := bF.far (p := ⟨gbN, 2, none⟩) (show gbN ≠ gbF by omega) (.int .u32 0)
        have t1' := Fr.setCell t1 (p := ⟨gbN, 2, none⟩) (fun k hk => Fr.own_ne t1 bN (by decide) k hk) (.int .u32 0)
        have t2' := Fr.setCell t2 (p := ⟨gbN, 2, none⟩) (fun k hk => Fr.own_ne t2 bN (by decide) k hk) (.int .u32 0)
        generalize w6.setCell ⟨gbN, 2, none⟩ (.int .u32 0) = w7 at kn bN' bF' t1' t2' ⊢
        clear bN bF t1 t2 kk zf zc x0 x1 x2 x3 x4 x5
        have kk := kn
        have bN := bN'
        have bF := bF'
        have t1 := t1'
        have t2 := t2'
        clear kn bN' bF' t1' t2'
        have x0 := bF.cell_ (i := 0) rfl
        have x1 := bF.cell_ (i := 1) rfl
        have x2 := bF.cell_ (i := 2) rfl
        have x3 := bF.cell_ (i := 3) rfl
        have x4 := bF.cell_ (i := 4) rfl
        have x5 := bF.cell_ (i := 5) rfl
        clear x0 x1 x2 x3 x4 x5 bF
        have okN : (Frm.mk ⟨f.ask, f.who, 0, f.tok, f.sec, f.bid⟩ A1 c1 A2 c2).Ok w7 := ⟨(TwinB.ok (t := ⟨A1, c1, f.sec⟩) t1 HF.out.s.inn.wf), (Twin.ok (t := ⟨A2, c2, f.bid⟩) t2 HF.out.b.inn.wf), HF.out.ask, HF.out.who, (show 0 < 4294967296 by decide), HF.out.tok⟩
        have n0 := bN.cell_ (i := 0) rfl
        have n1 := bN.cell_ (i := 1) rfl
        have n2 := bN.cell_ (i := 2) rfl
        have n3 := bN.cell_ (i := 3) rfl
        have n4 := bN.cell_ (i := 4) rfl
        have n5 := bN.cell_ (i := 5) rfl
        have hP' := HP.out.keep kk
        have hq : Calls Tryd.prog 7 #[.agg #[.int .u8 f.ask, .int .u8 f.who, .int .u32 0, .int .u64 f.tok, .slice A1 f.sec.length c1, .slice A2 f.bid.length c2]] w7 fun e w' => ∃ A, e = .returned (.tuple #[.slice A 0 0, .int .i64 1]) ∧ Fr 5 w' w7.heap.size A 0 0 (cs .u8 []) ∧ Keep w7 w' := putF_f _ w7 okN hP' (putF_no (part0a (f := f) (by have := ha.out; omega)))
        clear okN t1 t2
        go_wp2_with fail
        refine hq.mono ?_
        rintro e w8 ⟨A8, rfl, -, kq⟩
        clear hq
        replace hP' := hP'.keep kq
        replace kk := kk.trans kq
        have hq := lives_f w8 hP'
        clear kq n0 n1 n2 n3 n4 n5 bN
        go_wp2_with fail
        refine hq.mono ?_
        rintro e w9 ⟨rfl, kq⟩
        go_wp2_with fail
        go_ret
        exact ⟨rfl, kk.trans kq⟩
      · have y0 : (n % 4 == 0) = false := by rw [hk]; rfl
        have y1 : (n % 4 == 1) = true := by rw [hk]; rfl
        have y2 : (n % 4 == 2) = false := by rw [hk]; rfl
        have y3 : (n % 4 == 3) = false := by rw [hk]; rfl
        replace hk := Lib.hid hk
        replace ha := Lib.hid ha
        have x0 := bF.cell_ (i := 0) rfl
        have x1 := bF.cell_ (i := 1) rfl
        have x2 := bF.cell_ (i := 2) rfl
        have x3 := bF.cell_ (i := 3) rfl
        have x4 := bF.cell_ (i := 4) rfl
        have x5 := bF.cell_ (i := 5) rfl
        have kn : Keep w4 (w4.alloc (.cells #[.int .u8 1] 5)) := Keep.alloc1 _ _
        have zf := (bN.keep kn).frozen 4
        have zc := (bN.keep kn).cell_ (i := 4) rfl
        clear kn
        go_upto_region 13 with fail
        clear zf zc
        have kn : Keep w4 (w4.alloc (.cells #[.int .u8 1] 5)) := Keep.alloc1 _ _
        have bO := Blk.new w4 5 [.int .u8 1]
        have hO := bN.lt
        generalize w4.alloc (.cells #[.int .u8 1] 5) = w5 at kn bO ⊢
        generalize w4.heap.size = gO at bO hO ⊢
        replace bN := bN.keep kn
        replace bF := bF.keep kn
        replace t1 := Fr.keep t1 kn
        replace t2 := Fr.keep t2 kn
        replace kk := kk.trans kn
        clear kn
        have kn := kk.setCell (p := ⟨gbN, 4, none⟩) hgbN ((.slice (some ⟨gO, 0, none⟩) 1 1))
        have bN' : Blk (w5.setCell ⟨gbN, 4, none⟩ ((.slice (some ⟨gO, 0, none⟩) 1 1))) gbN 28 [.int .u8 f.ask, .int .u8 f.who, .int .u32 f.seq, .int .u64 f.tok, .slice (some ⟨gO, 0, none⟩) 1 1, .slice A2 f.bid.length c2] := bN.set_ 4 ((.slice (some ⟨gO, 0, none⟩) 1 1))
        have bF' := bF.far (p := ⟨gbN, 4, none⟩) (show gbN ≠ gbF by omega) ((.slice (some ⟨gO, 0, none⟩) 1 1))
        have t1' := Fr.setCell t1 (p := ⟨gbN, 4, none⟩) (fun k hk => Fr.own_ne t1 bN (by decide) k hk) ((.slice (some ⟨gO, 0, none⟩) 1 1))
        have t2' := Fr.setCell t2 (p := ⟨gbN, 4, none⟩) (fun k hk => Fr.own_ne t2 bN (by decide) k hk) ((.slice (some ⟨gO, 0, none⟩) 1 1))
        have bO' := bO.far (p := ⟨gbN, 4, none⟩) (show gbN ≠ gO by omega) ((.slice (some ⟨gO, 0, none⟩) 1 1))
        generalize w5.setCell ⟨gbN, 4, none⟩ ((.slice (some ⟨gO, 0, none⟩) 1 1)) = w6 at kn bN' bF' t1' t2' bO' ⊢
        clear bN bF t1 t2 kk bO x0 x1 x2 x3 x4 x5
        have kk := kn
        have bN := bN'
        have bF := bF'
        have t1 := t1'
        have t2 := t2'
        have bO := bO'
        clear kn bN' bF' t1' t2' bO'
        have x0 := bF.cell_ (i := 0) rfl
        have x1 := bF.cell_ (i := 1) rfl
        have x2 := bF.cell_ (i := 2) rfl
        have x3 := bF.cell_ (i := 3) rfl
        have x4 := bF.cell_ (i := 4) rfl
        have x5 := bF.cell_ (i := 5) rfl
        go_upto_region 21 with fail
        clear x0 x1 x2 x3 x4 x5 bF
        have okN : (Frm.mk ⟨f.ask, f.who, f.seq, f.tok, [1], f.bid⟩ (some ⟨gO, 0, none⟩) 1 A2 c2).Ok w6 := ⟨⟨⟨bO.rd, Nat.le_refl _, (show 1 ≤ maxLen by decide), fun y hy => by rw [List.mem_singleton] at hy; subst hy; rfl⟩, fun h => by cases h⟩, (Twin.ok (t := ⟨A2, c2, f.bid⟩) t2 HF.out.b.inn.wf), HF.out.ask, HF.out.who, HF.out.seq, HF.out.tok⟩
        have n0 := bN.cell_ (i := 0) rfl
        have n1 := bN.cell_ (i := 1) rfl
        have n2 := bN.cell_ (i := 2) rfl
        have n3 := bN.cell_ (i := 3) rfl
        have n4 := bN.cell_ (i := 4) rfl
        have n5 := bN.cell_ (i := 5) rfl
        have hP' := HP.out.keep kk
        have hq : Calls Tryd.prog 7 #[.agg #[.int .u8 f.ask, .int .u8 f.who, .int .u32 f.seq, .int .u64 f.tok, .slice (some ⟨gO, 0, none⟩) 1 1, .slice A2 f.bid.length c2]] w6 fun e w' => ∃ A, e = .returned (.tuple #[.slice A 0 0, .int .i64 1]) ∧ Fr 5 w' w6.heap.size A 0 0 (cs .u8 []) ∧ Keep w6 w' := putF_f _ w6 okN hP' (putF_no (part1b (f := f) (by have := ha.out; omega)))
        clear okN t1 t2 bO
        go_wp2_with fail
        refine hq.mono ?_
        rintro e w8 ⟨A8, rfl, -, kq⟩
        clear hq
        replace hP' := hP'.keep kq
        replace kk := kk.trans kq
        have hq := lives_f w8 hP'
        clear kq n0 n1 n2 n3 n4 n5 bN
        go_wp2_with fail
        refine hq.mono ?_
        rintro e w9 ⟨rfl, kq⟩
        go_wp2_with fail
        go_ret
        exact ⟨rfl, kk.trans kq⟩
      · have y0 : (n % 4 == 0) = false := by rw [hk]; rfl
        have y1 : (n % 4 == 1) = false := by rw [hk]; rfl
        have y2 : (n % 4 == 2) = true := by rw [hk]; rfl
        have y3 : (n % 4 == 3) = false := by rw [hk]; rfl
        replace hk := Lib.hid hk
        replace ha := Lib.hid ha
        have x0 := bF.cell_ (i := 0) rfl
        have x1 := bF.cell_ (i := 1) rfl
        have x2 := bF.cell_ (i := 2) rfl
        have x3 := bF.cell_ (i := 3) rfl
        have x4 := bF.cell_ (i := 4) rfl
        have x5 := bF.cell_ (i := 5) rfl
        have kn : Keep w4 (w4.alloc (.cells #[.int .i64 1] 3)) := Keep.alloc1 _ _
        have zf := (bN.keep kn).frozen 5
        have zc := (bN.keep kn).cell_ (i := 5) rfl
        clear kn
        go_upto_region 17 with fail
        clear zf zc
        have kn : Keep w4 (w4.alloc (.cells #[.int .i64 1] 3)) := Keep.alloc1 _ _
        have bO := Blk.new w4 3 [.int .i64 1]
        have hO := bN.lt
        generalize w4.alloc (.cells #[.int .i64 1] 3) = w5 at kn bO ⊢
        generalize w4.heap.size = gO at bO hO ⊢
        replace bN := bN.keep kn
        replace bF := bF.keep kn
        replace t1 := Fr.keep t1 kn
        replace t2 := Fr.keep t2 kn
        replace kk := kk.trans kn
        clear kn
        have kn := kk.setCell (p := ⟨gbN, 5, none⟩) hgbN ((.slice (some ⟨gO, 0, none⟩) 1 1))
        have bN' : Blk (w5.setCell ⟨gbN, 5, none⟩ ((.slice (some ⟨gO, 0, none⟩) 1 1))) gbN 28 [.int .u8 f.ask, .int .u8 f.who, .int .u32 f.seq, .int .u64 f.tok, .slice A1 f.sec.length c1, .slice (some ⟨gO, 0, none⟩) 1 1] := bN.set_ 5 ((.slice (some ⟨gO, 0, none⟩) 1 1))
        have bF' := bF.far (p := ⟨gbN, 5, none⟩) (show gbN ≠ gbF by omega) ((.slice (some ⟨gO, 0, none⟩) 1 1))
        have t1' := Fr.setCell t1 (p := ⟨gbN, 5, none⟩) (fun k hk => Fr.own_ne t1 bN (by decide) k hk) ((.slice (some ⟨gO, 0, none⟩) 1 1))
        have t2' := Fr.setCell t2 (p := ⟨gbN, 5, none⟩) (fun k hk => Fr.own_ne t2 bN (by decide) k hk) ((.slice (some ⟨gO, 0, none⟩) 1 1))
        have bO' := bO.far (p := ⟨gbN, 5, none⟩) (show gbN ≠ gO by omega) ((.slice (some ⟨gO, 0, none⟩) 1 1))
        generalize w5.setCell ⟨gbN, 5, none⟩ ((.slice (some ⟨gO, 0, none⟩) 1 1)) = w6 at kn bN' bF' t1' t2' bO' ⊢
        clear bN bF t1 t2 kk bO x0 x1 x2 x3 x4 x5
        have kk := kn
        have bN := bN'
        have bF := bF'
        have t1 := t1'
        have t2 := t2'
        have bO := bO'
        clear kn bN' bF' t1' t2' bO'
        have x0 := bF.cell_ (i := 0) rfl
        have x1 := bF.cell_ (i := 1) rfl
        have x2 := bF.cell_ (i := 2) rfl
        have x3 := bF.cell_ (i := 3) rfl
        have x4 := bF.cell_ (i := 4) rfl
        have x5 := bF.cell_ (i := 5) rfl
        have zf := bN.frozen 5
        have zc := bN.cell_ (i := 5) rfl
        go_upto_region 21 with fail
        have kn := kk.setCell (p := ⟨gbN, 5, none⟩) hgbN (.slice none 0 0)
        have bN' : Blk (w6.setCell ⟨gbN, 5, none⟩ (.slice none 0 0)) gbN 28 [.int .u8 f.ask, .int .u8 f.who, .int .u32 f.seq, .int .u64 f.tok, .slice A1 f.sec.length c1, .slice none 0 0] := bN.set_ 5 (.slice none 0 0)
        have bF' := bF.far (p := ⟨gbN, 5, none⟩) (show gbN ≠ gbF by omega) (.slice none 0 0)
        have t1' := Fr.setCell t1 (p := ⟨gbN, 5, none⟩) (fun k hk => Fr.own_ne t1 bN (by decide) k hk) (.slice none 0 0)
        have t2' := Fr.setCell t2 (p := ⟨gbN, 5, none⟩) (fun k hk => Fr.own_ne t2 bN (by decide) k hk) (.slice none 0 0)
        have bO' := bO.far (p := ⟨gbN, 5, none⟩) (show gbN ≠ gO by omega) (.slice none 0 0)
        generalize w6.setCell ⟨gbN, 5, none⟩ (.slice none 0 0) = w7 at kn bN' bF' t1' t2' bO' ⊢
        clear bN bF t1 t2 kk bO zf zc x0 x1 x2 x3 x4 x5
        have kk := kn
        have bN := bN'
        have bF := bF'
        have t1 := t1'
        have t2 := t2'
        have bO := bO'
        clear kn bN' bF' t1' t2' bO'
        have x0 := bF.cell_ (i := 0) rfl
        have x1 := bF.cell_ (i := 1) rfl
        have x2 := bF.cell_ (i := 2) rfl
        have x3 := bF.cell_ (i := 3) rfl
        have x4 := bF.cell_ (i := 4) rfl
        have x5 := bF.cell_ (i := 5) rfl
        clear x0 x1 x2 x3 x4 x5 bF
        have okN : (Frm.mk ⟨f.ask, f.who, f.seq, f.tok, f.sec, []⟩ A1 c1 none 0).Ok w7 := ⟨(TwinB.ok (t := ⟨A1, c1, f.sec⟩) t1 HF.out.s.inn.wf), (nil_ok _ _), HF.out.ask, HF.out.who, HF.out.seq, HF.out.tok⟩
        have n0 := bN.cell_ (i := 0) rfl
        have n1 := bN.cell_ (i := 1) rfl
        have n2 := bN.cell_ (i := 2) rfl
        have n3 := bN.cell_ (i := 3) rfl
        have n4 := bN.cell_ (i := 4) rfl
        have n5 := bN.cell_ (i := 5) rfl
        have hP' := HP.out.keep kk
        have hq : Calls Tryd.prog 7 #[.agg #[.int .u8 f.ask, .int .u8 f.who, .int .u32 f.seq, .int .u64 f.tok, .slice A1 f.sec.length c1, .slice none 0 0]] w7 fun e w' => ∃ A, e = .returned (.tuple #[.slice A 0 0, .int .i64 1]) ∧ Fr 5 w' w7.heap.size A 0 0 (cs .u8 []) ∧ Keep w7 w' := putF_f _ w7 okN hP' (putF_no (part2a (f := f) (by have := ha.out; omega)))
        clear okN t1 t2 bO
        go_wp2_with fail
        refine hq.mono ?_
        rintro e w8 ⟨A8, rfl, -, kq⟩
        clear hq
        replace hP' := hP'.keep kq
        replace kk := kk.trans kq
        have hq := lives_f w8 hP'
        clear kq n0 n1 n2 n3 n4 n5 bN
        go_wp2_with fail
        refine hq.mono ?_
        rintro e w9 ⟨rfl, kq⟩
        go_wp2_with fail
        go_ret
        exact ⟨rfl, kk.trans kq⟩
      · have y0 : (n % 4 == 0) = false := by rw [hk]; rfl
        have y1 : (n % 4 == 1) = false := by rw [hk]; rfl
        have y2 : (n % 4 == 2) = false := by rw [hk]; rfl
        have y3 : (n % 4 == 3) = true := by rw [hk]; rfl
        replace hk := Lib.hid hk
        replace ha := Lib.hid ha
        have x0 := bF.cell_ (i := 0) rfl
        have x1 := bF.cell_ (i := 1) rfl
        have x2 := bF.cell_ (i := 2) rfl
        have x3 := bF.cell_ (i := 3) rfl
        have x4 := bF.cell_ (i := 4) rfl
        have x5 := bF.cell_ (i := 5) rfl
        have zf := bN.frozen 0
        have zc := bN.cell_ (i := 0) rfl
        go_upto_region 21 with fail
        have kn := kk.setCell (p := ⟨gbN, 0, none⟩) hgbN (.int .u8 0)
        have bN' : Blk (w4.setCell ⟨gbN, 0, none⟩ (.int .u8 0)) gbN 28 [.int .u8 0, .int .u8 f.who, .int .u32 f.seq, .int .u64 f.tok, .slice A1 f.sec.length c1, .slice A2 f.bid.length c2] := bN.set_ 0 (.int .u8 0)
        have bF' := bF.far (p := ⟨gbN, 0, none⟩) (show gbN ≠ gbF by omega) (.int .u8 0)
        have t1' := Fr.setCell t1 (p := ⟨gbN, 0, none⟩) (fun k hk => Fr.own_ne t1 bN (by decide) k hk) (.int .u8 0)
        have t2' := Fr.setCell t2 (p := ⟨gbN, 0, none⟩) (fun k hk => Fr.own_ne t2 bN (by decide) k hk) (.int .u8 0)
        generalize w4.setCell ⟨gbN, 0, none⟩ (.int .u8 0) = w6 at kn bN' bF' t1' t2' ⊢
        clear bN bF t1 t2 kk zf zc x0 x1 x2 x3 x4 x5
        have kk := kn
        have bN := bN'
        have bF := bF'
        have t1 := t1'
        have t2 := t2'
        clear kn bN' bF' t1' t2'
        have x0 := bF.cell_ (i := 0) rfl
        have x1 := bF.cell_ (i := 1) rfl
        have x2 := bF.cell_ (i := 2) rfl
        have x3 := bF.cell_ (i := 3) rfl
        have x4 := bF.cell_ (i := 4) rfl
        have x5 := bF.cell_ (i := 5) rfl
        clear x0 x1 x2 x3 x4 x5 bF
        have okN : (Frm.mk ⟨0, f.who, f.seq, f.tok, f.sec, f.bid⟩ A1 c1 A2 c2).Ok w6 := ⟨(TwinB.ok (t := ⟨A1, c1, f.sec⟩) t1 HF.out.s.inn.wf), (Twin.ok (t := ⟨A2, c2, f.bid⟩) t2 HF.out.b.inn.wf), (show 0 < 256 by decide), HF.out.who, HF.out.seq, HF.out.tok⟩
        have n0 := bN.cell_ (i := 0) rfl
        have n1 := bN.cell_ (i := 1) rfl
        have n2 := bN.cell_ (i := 2) rfl
        have n3 := bN.cell_ (i := 3) rfl
        have n4 := bN.cell_ (i := 4) rfl
        have n5 := bN.cell_ (i := 5) rfl
        have hP' := HP.out.keep kk
        have hq : Calls Tryd.prog 7 #[.agg #[.int .u8 0, .int .u8 f.who, .int .u32 f.seq, .int .u64 f.tok, .slice A1 f.sec.length c1, .slice A2 f.bid.length c2]] w6 fun e w' => ∃ A, e = .returned (.tuple #[.slice A 0 0, .int .i64 1]) ∧ Fr 5 w' w6.heap.size A 0 0 (cs .u8 []) ∧ Keep w6 w' := putF_f _ w6 okN hP' (putF_no (part3 f))
        clear okN t1 t2
        go_wp2_with fail
        refine hq.mono ?_
        rintro e w8 ⟨A8, rfl, -, kq⟩
        clear hq
        replace hP' := hP'.keep kq
        replace kk := kk.trans kq
        have hq := lives_f w8 hP'
        clear kq n0 n1 n2 n3 n4 n5 bN
        go_wp2_with fail
        refine hq.mono ?_
        rintro e w9 ⟨rfl, kq⟩
        go_wp2_with fail
        go_ret
        exact ⟨rfl, kk.trans kq⟩
    · have z1 : ((f.ask : Int) == 1) = false := beq_false_of_ne (by omega)
      have z2 : ((f.ask : Int) == 2) = false := beq_false_of_ne (by omega)
      have z3 : ((f.ask : Int) == 3) = true := by rw [ha]; rfl
      rcases (by omega : n % 4 = 0 ∨ n % 4 = 1 ∨ n % 4 = 2 ∨ n % 4 = 3) with hk | hk | hk | hk
      · have y0 : (n % 4 == 0) = true := by rw [hk]; rfl
        have y1 : (n % 4 == 1) = false := by rw [hk]; rfl
        have y2 : (n % 4 == 2) = false := by rw [hk]; rfl
        have y3 : (n % 4 == 3) = false := by rw [hk]; rfl
        replace hk := Lib.hid hk
        replace ha := Lib.hid ha
        have x0 := bF.cell_ (i := 0) rfl
        have x1 := bF.cell_ (i := 1) rfl
        have x2 := bF.cell_ (i := 2) rfl
        have x3 := bF.cell_ (i := 3) rfl
        have x4 := bF.cell_ (i := 4) rfl
        have x5 := bF.cell_ (i := 5) rfl
        have zf := bN.frozen 2
        have zc := bN.cell_ (i := 2) rfl
        go_upto_region 9 with fail
        have kn := kk.setCell (p := ⟨gbN, 2, none⟩) hgbN (.int .u32 1)
        have bN' : Blk (w4.setCell ⟨gbN, 2, none⟩ (.int .u32 1)) gbN 28 [.int .u8 f.ask, .int .u8 f.who, .int .u32 1, .int .u64 f.tok, .slice A1 f.sec.length c1, .slice A2 f.bid.length c2] := bN.set_ 2 (.int .u32 1)
        have bF' := bF.far (p := ⟨gbN, 2, none⟩) (show gbN ≠ gbF by omega) (.int .u32 1)
        have t1' := Fr.setCell t1 (p := ⟨gbN, 2, none⟩) (fun k hk => Fr.own_ne t1 bN (by decide) k hk) (.int .u32 1)
        have t2' := Fr.setCell t2 (p := ⟨gbN, 2, none⟩) (fun k hk => Fr.own_ne t2 bN (by decide) k hk) (.int .u32 1)
        generalize w4.setCell ⟨gbN, 2, none⟩ (.int .u32 1) = w6 at kn bN' bF' t1' t2' ⊢
        clear bN bF t1 t2 kk zf zc x0 x1 x2 x3 x4 x5
        have kk := kn
        have bN := bN'
        have bF := bF'
        have t1 := t1'
        have t2 := t2'
        clear kn bN' bF' t1' t2'
        have x0 := bF.cell_ (i := 0) rfl
        have x1 := bF.cell_ (i := 1) rfl
        have x2 := bF.cell_ (i := 2) rfl
        have x3 := bF.cell_ (i := 3) rfl
        have x4 := bF.cell_ (i := 4) rfl
        have x5 := bF.cell_ (i := 5) rfl
        have zf := bN.frozen 2
        have zc := bN.cell_ (i := 2) rfl
        go_upto_region 21 with fail
        have kn := kk.setCell (p := ⟨gbN, 2, none⟩) hgbN (.int .u32 0)
        have bN' : Blk (w6.setCell ⟨gbN, 2, none⟩ (.int .u32 0)) gbN 28 [.int .u8 f.ask, .int .u8 f.who, .int .u32 0, .int .u64 f.tok, .slice A1 f.sec.length c1, .slice A2 f.bid.length c2] := bN.set_ 2 (.int .u32 0)
        have bF' := bF.far (p := ⟨gbN, 2, none⟩) (show gbN ≠ gbF by omega) (.int .u32 0)
        have t1' := Fr.setCell t1 (p := ⟨gbN, 2, none⟩) (fun k hk => Fr.own_ne t1 bN (by decide) k hk) (.int .u32 0)
        have t2' := Fr.setCell t2 (p := ⟨gbN, 2, none⟩) (fun k hk => Fr.own_ne t2 bN (by decide) k hk) (.int .u32 0)
        generalize w6.setCell ⟨gbN, 2, none⟩ (.int .u32 0) = w7 at kn bN' bF' t1' t2' ⊢
        clear bN bF t1 t2 kk zf zc x0 x1 x2 x3 x4 x5
        have kk := kn
        have bN := bN'
        have bF := bF'
        have t1 := t1'
        have t2 := t2'
        clear kn bN' bF' t1' t2'
        have x0 := bF.cell_ (i := 0) rfl
        have x1 := bF.cell_ (i := 1) rfl
        have x2 := bF.cell_ (i := 2) rfl
        have x3 := bF.cell_ (i := 3) rfl
        have x4 := bF.cell_ (i := 4) rfl
        have x5 := bF.cell_ (i := 5) rfl
        clear x0 x1 x2 x3 x4 x5 bF
        have okN : (Frm.mk ⟨f.ask, f.who, 0, f.tok, f.sec, f.bid⟩ A1 c1 A2 c2).Ok w7 := ⟨(TwinB.ok (t := ⟨A1, c1, f.sec⟩) t1 HF.out.s.inn.wf), (Twin.ok (t := ⟨A2, c2, f.bid⟩) t2 HF.out.b.inn.wf), HF.out.ask, HF.out.who, (show 0 < 4294967296 by decide), HF.out.tok⟩
        have n0 := bN.cell_ (i := 0) rfl
        have n1 := bN.cell_ (i := 1) rfl
        have n2 := bN.cell_ (i := 2) rfl
        have n3 := bN.cell_ (i := 3) rfl
        have n4 := bN.cell_ (i := 4) rfl
        have n5 := bN.cell_ (i := 5) rfl
        have hP' := HP.out.keep kk
        have hq : Calls Tryd.prog 7 #[.agg #[.int .u8 f.ask, .int .u8 f.who, .int .u32 0, .int .u64 f.tok, .slice A1 f.sec.length c1, .slice A2 f.bid.length c2]] w7 fun e w' => ∃ A, e = .returned (.tuple #[.slice A 0 0, .int .i64 1]) ∧ Fr 5 w' w7.heap.size A 0 0 (cs .u8 []) ∧ Keep w7 w' := putF_f _ w7 okN hP' (putF_no (part0a (f := f) (by have := ha.out; omega)))
        clear okN t1 t2
        go_wp2_with fail
        refine hq.mono ?_
        rintro e w8 ⟨A8, rfl, -, kq⟩
        clear hq
        replace hP' := hP'.keep kq
        replace kk := kk.trans kq
        have hq := lives_f w8 hP'
        clear kq n0 n1 n2 n3 n4 n5 bN
        go_wp2_with fail
        refine hq.mono ?_
        rintro e w9 ⟨rfl, kq⟩
        go_wp2_with fail
        go_ret
        exact ⟨rfl, kk.trans kq⟩
      · have y0 : (n % 4 == 0) = false := by rw [hk]; rfl
        have y1 : (n % 4 == 1) = true := by rw [hk]; rfl
        have y2 : (n % 4 == 2) = false := by rw [hk]; rfl
        have y3 : (n % 4 == 3) = false := by rw [hk]; rfl
        replace hk := Lib.hid hk
        replace ha := Lib.hid ha
        have x0 := bF.cell_ (i := 0) rfl
        have x1 := bF.cell_ (i := 1) rfl
        have x2 := bF.cell_ (i := 2) rfl
        have x3 := bF.cell_ (i := 3) rfl
        have x4 := bF.cell_ (i := 4) rfl
        have x5 := bF.cell_ (i := 5) rfl
        have kn : Keep w4 (w4.alloc (.cells #[.int .u8 1] 5)) := Keep.alloc1 _ _
        have zf := (bN.keep kn).frozen 4
        have zc := (bN.keep kn).cell_ (i := 4) rfl
        clear kn
        go_upto_region 13 with fail
        clear zf zc
        have kn : Keep w4 (w4.alloc (.cells #[.int .u8 1] 5)) := Keep.alloc1 _ _
        have bO := Blk.new w4 5 [.int .u8 1]
        have hO := bN.lt
        generalize w4.alloc (.cells #[.int .u8 1] 5) = w5 at kn bO ⊢
        generalize w4.heap.size = gO at bO hO ⊢
        replace bN := bN.keep kn
        replace bF := bF.keep kn
        replace t1 := Fr.keep t1 kn
        replace t2 := Fr.keep t2 kn
        replace kk := kk.trans kn
        clear kn
        have kn := kk.setCell (p := ⟨gbN, 4, none⟩) hgbN ((.slice (some ⟨gO, 0, none⟩) 1 1))
        have bN' : Blk (w5.setCell ⟨gbN, 4, none⟩ ((.slice (some ⟨gO, 0, none⟩) 1 1))) gbN 28 [.int .u8 f.ask, .int .u8 f.who, .int .u32 f.seq, .int .u64 f.tok, .slice (some ⟨gO, 0, none⟩) 1 1, .slice A2 f.bid.length c2] := bN.set_ 4 ((.slice (some ⟨gO, 0, none⟩) 1 1))
        have bF' := bF.far (p := ⟨gbN, 4, none⟩) (show gbN ≠ gbF by omega) ((.slice (some ⟨gO, 0, none⟩) 1 1))
        have t1' := Fr.setCell t1 (p := ⟨gbN, 4, none⟩) (fun k hk => Fr.own_ne t1 bN (by decide) k hk) ((.slice (some ⟨gO, 0, none⟩) 1 1))
        have t2' := Fr.setCell t2 (p := ⟨gbN, 4, none⟩) (fun k hk => Fr.own_ne t2 bN (by decide) k hk) ((.slice (some ⟨gO, 0, none⟩) 1 1))
        have bO' := bO.far (p := ⟨gbN, 4, none⟩) (show gbN ≠ gO by omega) ((.slice (some ⟨gO, 0, none⟩) 1 1))
        generalize w5.setCell ⟨gbN, 4, none⟩ ((.slice (some ⟨gO, 0, none⟩) 1 1)) = w6 at kn bN' bF' t1' t2' bO' ⊢
        clear bN bF t1 t2 kk bO x0 x1 x2 x3 x4 x5
        have kk := kn
        have bN := bN'
        have bF := bF'
        have t1 := t1'
        have t2 := t2'
        have bO := bO'
        clear kn bN' bF' t1' t2' bO'
        have x0 := bF.cell_ (i := 0) rfl
        have x1 := bF.cell_ (i := 1) rfl
        have x2 := bF.cell_ (i := 2) rfl
        have x3 := bF.cell_ (i := 3) rfl
        have x4 := bF.cell_ (i := 4) rfl
        have x5 := bF.cell_ (i := 5) rfl
        go_upto_region 21 with fail
        clear x0 x1 x2 x3 x4 x5 bF
        have okN : (Frm.mk ⟨f.ask, f.who, f.seq, f.tok, [1], f.bid⟩ (some ⟨gO, 0, none⟩) 1 A2 c2).Ok w6 := ⟨⟨⟨bO.rd, Nat.le_refl _, (show 1 ≤ maxLen by decide), fun y hy => by rw [List.mem_singleton] at hy; subst hy; rfl⟩, fun h => by cases h⟩, (Twin.ok (t := ⟨A2, c2, f.bid⟩) t2 HF.out.b.inn.wf), HF.out.ask, HF.out.who, HF.out.seq, HF.out.tok⟩
        have n0 := bN.cell_ (i := 0) rfl
        have n1 := bN.cell_ (i := 1) rfl
        have n2 := bN.cell_ (i := 2) rfl
        have n3 := bN.cell_ (i := 3) rfl
        have n4 := bN.cell_ (i := 4) rfl
        have n5 := bN.cell_ (i := 5) rfl
        have hP' := HP.out.keep kk
        have hq : Calls Tryd.prog 7 #[.agg #[.int .u8 f.ask, .int .u8 f.who, .int .u32 f.seq, .int .u64 f.tok, .slice (some ⟨gO, 0, none⟩) 1 1, .slice A2 f.bid.length c2]] w6 fun e w' => ∃ A, e = .returned (.tuple #[.slice A 0 0, .int .i64 1]) ∧ Fr 5 w' w6.heap.size A 0 0 (cs .u8 []) ∧ Keep w6 w' := putF_f _ w6 okN hP' (putF_no (part1b (f := f) (by have := ha.out; omega)))
        clear okN t1 t2 bO
        go_wp2_with fail
        refine hq.mono ?_
        rintro e w8 ⟨A8, rfl, -, kq⟩
        clear hq
        replace hP' := hP'.keep kq
        replace kk := kk.trans kq
        have hq := lives_f w8 hP'
        clear kq n0 n1 n2 n3 n4 n5 bN
        go_wp2_with fail
        refine hq.mono ?_
        rintro e w9 ⟨rfl, kq⟩
        go_wp2_with fail
        go_ret
        exact ⟨rfl, kk.trans kq⟩
      · have y0 : (n % 4 == 0) = false := by rw [hk]; rfl
        have y1 : (n % 4 == 1) = false := by rw [hk]; rfl
        have y2 : (n % 4 == 2) = true := by rw [hk]; rfl
        have y3 : (n % 4 == 3) = false := by rw [hk]; rfl
        replace hk := Lib.hid hk
        replace ha := Lib.hid ha
        have x0 := bF.cell_ (i := 0) rfl
        have x1 := bF.cell_ (i := 1) rfl
        have x2 := bF.cell_ (i := 2) rfl
        have x3 := bF.cell_ (i := 3) rfl
        have x4 := bF.cell_ (i := 4) rfl
        have x5 := bF.cell_ (i := 5) rfl
        have kn : Keep w4 (w4.alloc (.cells #[.int .i64 1] 3)) := Keep.alloc1 _ _
        have zf := (bN.keep kn).frozen 5
        have zc := (bN.keep kn).cell_ (i := 5) rfl
        clear kn
        go_upto_region 17 with fail
        clear zf zc
        have kn : Keep w4 (w4.alloc (.cells #[.int .i64 1] 3)) := Keep.alloc1 _ _
        have bO := Blk.new w4 3 [.int .i64 1]
        have hO := bN.lt
        generalize w4.alloc (.cells #[.int .i64 1] 3) = w5 at kn bO ⊢
        generalize w4.heap.size = gO at bO hO ⊢
        replace bN := bN.keep kn
        replace bF := bF.keep kn
        replace t1 := Fr.keep t1 kn
        replace t2 := Fr.keep t2 kn
        replace kk := kk.trans kn
        clear kn
        have kn := kk.setCell (p := ⟨gbN, 5, none⟩) hgbN ((.slice (some ⟨gO, 0, none⟩) 1 1))
        have bN' : Blk (w5.setCell ⟨gbN, 5, none⟩ ((.slice (some ⟨gO, 0, none⟩) 1 1))) gbN 28 [.int .u8 f.ask, .int .u8 f.who, .int .u32 f.seq, .int .u64 f.tok, .slice A1 f.sec.length c1, .slice (some ⟨gO, 0, none⟩) 1 1] := bN.set_ 5 ((.slice (some ⟨gO, 0, none⟩) 1 1))
        have bF' := bF.far (p := ⟨gbN, 5, none⟩) (show gbN ≠ gbF by omega) ((.slice (some ⟨gO, 0, none⟩) 1 1))
        have t1' := Fr.setCell t1 (p := ⟨gbN, 5, none⟩) (fun k hk => Fr.own_ne t1 bN (by decide) k hk) ((.slice (some ⟨gO, 0, none⟩) 1 1))
        have t2' := Fr.setCell t2 (p := ⟨gbN, 5, none⟩) (fun k hk => Fr.own_ne t2 bN (by decide) k hk) ((.slice (some ⟨gO, 0, none⟩) 1 1))
        have bO' := bO.far (p := ⟨gbN, 5, none⟩) (show gbN ≠ gO by omega) ((.slice (some ⟨gO, 0, none⟩) 1 1))
        generalize w5.setCell ⟨gbN, 5, none⟩ ((.slice (some ⟨gO, 0, none⟩) 1 1)) = w6 at kn bN' bF' t1' t2' bO' ⊢
        clear bN bF t1 t2 kk bO x0 x1 x2 x3 x4 x5
        have kk := kn
        have bN := bN'
        have bF := bF'
        have t1 := t1'
        have t2 := t2'
        have bO := bO'
        clear kn bN' bF' t1' t2' bO'
        have x0 := bF.cell_ (i := 0) rfl
        have x1 := bF.cell_ (i := 1) rfl
        have x2 := bF.cell_ (i := 2) rfl
        have x3 := bF.cell_ (i := 3) rfl
        have x4 := bF.cell_ (i := 4) rfl
        have x5 := bF.cell_ (i := 5) rfl
        go_upto_region 21 with fail
        clear x0 x1 x2 x3 x4 x5 bF
        have okN : (Frm.mk ⟨f.ask, f.who, f.seq, f.tok, f.sec, [1]⟩ A1 c1 (some ⟨gO, 0, none⟩) 1).Ok w6 := ⟨(TwinB.ok (t := ⟨A1, c1, f.sec⟩) t1 HF.out.s.inn.wf), ⟨⟨bO.rd, Nat.le_refl _, (show 1 ≤ maxLen by decide), fun y hy => by rw [List.mem_singleton] at hy; subst hy; rfl⟩, fun h => by cases h⟩, HF.out.ask, HF.out.who, HF.out.seq, HF.out.tok⟩
        have n0 := bN.cell_ (i := 0) rfl
        have n1 := bN.cell_ (i := 1) rfl
        have n2 := bN.cell_ (i := 2) rfl
        have n3 := bN.cell_ (i := 3) rfl
        have n4 := bN.cell_ (i := 4) rfl
        have n5 := bN.cell_ (i := 5) rfl
        have hP' := HP.out.keep kk
        have hq : Calls Tryd.prog 7 #[.agg #[.int .u8 f.ask, .int .u8 f.who, .int .u32 f.seq, .int .u64 f.tok, .slice A1 f.sec.length c1, .slice (some ⟨gO, 0, none⟩) 1 1]] w6 fun e w' => ∃ A, e = .returned (.tuple #[.slice A 0 0, .int .i64 1]) ∧ Fr 5 w' w6.heap.size A 0 0 (cs .u8 []) ∧ Keep w6 w' := putF_f _ w6 okN hP' (putF_no (part2b (f := f) (by have := ha.out; omega)))
        clear okN t1 t2 bO
        go_wp2_with fail
        refine hq.mono ?_
        rintro e w8 ⟨A8, rfl, -, kq⟩
        clear hq
        replace hP' := hP'.keep kq
        replace kk := kk.trans kq
        have hq := lives_f w8 hP'
        clear kq n0 n1 n2 n3 n4 n5 bN
        go_wp2_with fail
        refine hq.mono ?_
        rintro e w9 ⟨rfl, kq⟩
        go_wp2_with fail
        go_ret
        exact ⟨rfl, kk.trans kq⟩
      · have y0 : (n % 4 == 0) = false := by rw [hk]; rfl
        have y1 : (n % 4 == 1) = false := by rw [hk]; rfl
        have y2 : (n % 4 == 2) = false := by rw [hk]; rfl
        have y3 : (n % 4 == 3) = true := by rw [hk]; rfl
        replace hk := Lib.hid hk
        replace ha := Lib.hid ha
        have x0 := bF.cell_ (i := 0) rfl
        have x1 := bF.cell_ (i := 1) rfl
        have x2 := bF.cell_ (i := 2) rfl
        have x3 := bF.cell_ (i := 3) rfl
        have x4 := bF.cell_ (i := 4) rfl
        have x5 := bF.cell_ (i := 5) rfl
        have zf := bN.frozen 0
        have zc := bN.cell_ (i := 0) rfl
        go_upto_region 21 with fail
        have kn := kk.setCell (p := ⟨gbN, 0, none⟩) hgbN (.int .u8 0)
        have bN' : Blk (w4.setCell ⟨gbN, 0, none⟩ (.int .u8 0)) gbN 28 [.int .u8 0, .int .u8 f.who, .int .u32 f.seq, .int .u64 f.tok, .slice A1 f.sec.length c1, .slice A2 f.bid.length c2] := bN.set_ 0 (.int .u8 0)
        have bF' := bF.far (p := ⟨gbN, 0, none⟩) (show gbN ≠ gbF by omega) (.int .u8 0)
        have t1' := Fr.setCell t1 (p := ⟨gbN, 0, none⟩) (fun k hk => Fr.own_ne t1 bN (by decide) k hk) (.int .u8 0)
        have t2' := Fr.setCell t2 (p := ⟨gbN, 0, none⟩) (fun k hk => Fr.own_ne t2 bN (by decide) k hk) (.int .u8 0)
        generalize w4.setCell ⟨gbN, 0, none⟩ (.int .u8 0) = w6 at kn bN' bF' t1' t2' ⊢
        clear bN bF t1 t2 kk zf zc x0 x1 x2 x3 x4 x5
        have kk := kn
        have bN := bN'
        have bF := bF'
        have t1 := t1'
        have t2 := t2'
        clear kn bN' bF' t1' t2'
        have x0 := bF.cell_ (i := 0) rfl
        have x1 := bF.cell_ (i := 1) rfl
        have x2 := bF.cell_ (i := 2) rfl
        have x3 := bF.cell_ (i := 3) rfl
        have x4 := bF.cell_ (i := 4) rfl
        have x5 := bF.cell_ (i := 5) rfl
        clear x0 x1 x2 x3 x4 x5 bF
        have okN : (Frm.mk ⟨0, f.who, f.seq, f.tok, f.sec, f.bid⟩ A1 c1 A2 c2).Ok w6 := ⟨(TwinB.ok (t := ⟨A1, c1, f.sec⟩) t1 HF.out.s.inn.wf), (Twin.ok (t := ⟨A2, c2, f.bid⟩) t2 HF.out.b.inn.wf), (show 0 < 256 by decide), HF.out.who, HF.out.seq, HF.out.tok⟩
        have n0 := bN.cell_ (i := 0) rfl
        have n1 := bN.cell_ (i := 1) rfl
        have n2 := bN.cell_ (i := 2) rfl
        have n3 := bN.cell_ (i := 3) rfl
        have n4 := bN.cell_ (i := 4) rfl
        have n5 := bN.cell_ (i := 5) rfl
        have hP' := HP.out.keep kk
        have hq : Calls Tryd.prog 7 #[.agg #[.int .u8 0, .int .u8 f.who, .int .u32 f.seq, .int .u64 f.tok, .slice A1 f.sec.length c1, .slice A2 f.bid.length c2]] w6 fun e w' => ∃ A, e = .returned (.tuple #[.slice A 0 0, .int .i64 1]) ∧ Fr 5 w' w6.heap.size A 0 0 (cs .u8 []) ∧ Keep w6 w' := putF_f _ w6 okN hP' (putF_no (part3 f))
        clear okN t1 t2
        go_wp2_with fail
        refine hq.mono ?_
        rintro e w8 ⟨A8, rfl, -, kq⟩
        clear hq
        replace hP' := hP'.keep kq
        replace kk := kk.trans kq
        have hq := lives_f w8 hP'
        clear kq n0 n1 n2 n3 n4 n5 bN
        go_wp2_with fail
        refine hq.mono ?_
        rintro e w9 ⟨rfl, kq⟩
        go_wp2_with fail
        go_ret
        exact ⟨rfl, kk.trans kq⟩
    · have z1 : ((f.ask : Int) == 1) = false := beq_false_of_ne (by omega)
      have z2 : ((f.ask : Int) == 2) = false := beq_false_of_ne (by omega)
      have z3 : ((f.ask : Int) == 3) = false := beq_false_of_ne (by omega)
      rcases (by omega : n % 4 = 0 ∨ n % 4 = 1 ∨ n % 4 = 2 ∨ n % 4 = 3) with hk | hk | hk | hk
      · have y0 : (n % 4 == 0) = true := by rw [hk]; rfl
        have y1 : (n % 4 == 1) = false := by rw [hk]; rfl
        have y2 : (n % 4 == 2) = false := by rw [hk]; rfl
        have y3 : (n % 4 == 3) = false := by rw [hk]; rfl
        replace hk := Lib.hid hk
        replace ha := Lib.hid ha
        have x0 := bF.cell_ (i := 0) rfl
        have x1 := bF.cell_ (i := 1) rfl
        have x2 := bF.cell_ (i := 2) rfl
        have x3 := bF.cell_ (i := 3) rfl
        have x4 := bF.cell_ (i := 4) rfl
        have x5 := bF.cell_ (i := 5) rfl
        have zf := bN.frozen 2
        have zc := bN.cell_ (i := 2) rfl
        go_upto_region 9 with fail
        have kn := kk.setCell (p := ⟨gbN, 2, none⟩) hgbN (.int .u32 1)
        have bN' : Blk (w4.setCell ⟨gbN, 2, none⟩ (.int .u32 1)) gbN 28 [.int .u8 f.ask, .int .u8 f.who, .int .u32 1, .int .u64 f.tok, .slice A1 f.sec.length c1, .slice A2 f.bid.length c2] := bN.set_ 2 (.int .u32 1)
        have bF' := bF.far (p := ⟨gbN, 2, none⟩) (show gbN ≠ gbF by omega) (.int .u32 1)
        have t1' := Fr.setCell t1 (p := ⟨gbN, 2, none⟩) (fun k hk => Fr.own_ne t1 bN (by decide) k hk) (.int .u32 1)
        have t2' := Fr.setCell t2 (p := ⟨gbN, 2, none⟩) (fun k hk => Fr.own_ne t2 bN (by decide) k hk) (.int .u32 1)
        generalize w4.setCell ⟨gbN, 2, none⟩ (.int .u32 1) = w6 at kn bN' bF' t1' t2' ⊢
        clear bN bF t1 t2 kk zf zc x0 x1 x2 x3 x4 x5
        have kk := kn
        have bN := bN'
        have bF := bF'
        have t1 := t1'
        have t2 := t2'
        clear kn bN' bF' t1' t2'
        have x0 := bF.cell_ (i := 0) rfl
        have x1 := bF.cell_ (i := 1) rfl
        have x2 := bF.cell_ (i := 2) rfl
        have x3 := bF.cell_ (i := 3) rfl
        have x4 := bF.cell_ (i := 4) rfl
        have x5 := bF.cell_ (i := 5) rfl
        go_upto_region 21 with fail
        clear x0 x1 x2 x3 x4 x5 bF
        have okN : (Frm.mk ⟨f.ask, f.who, 1, f.tok, f.sec, f.bid⟩ A1 c1 A2 c2).Ok w6 := ⟨(TwinB.ok (t := ⟨A1, c1, f.sec⟩) t1 HF.out.s.inn.wf), (Twin.ok (t := ⟨A2, c2, f.bid⟩) t2 HF.out.b.inn.wf), HF.out.ask, HF.out.who, (show 1 < 4294967296 by decide), HF.out.tok⟩
        have n0 := bN.cell_ (i := 0) rfl
        have n1 := bN.cell_ (i := 1) rfl
        have n2 := bN.cell_ (i := 2) rfl
        have n3 := bN.cell_ (i := 3) rfl
        have n4 := bN.cell_ (i := 4) rfl
        have n5 := bN.cell_ (i := 5) rfl
        have hP' := HP.out.keep kk
        have hq : Calls Tryd.prog 7 #[.agg #[.int .u8 f.ask, .int .u8 f.who, .int .u32 1, .int .u64 f.tok, .slice A1 f.sec.length c1, .slice A2 f.bid.length c2]] w6 fun e w' => ∃ A, e = .returned (.tuple #[.slice A 0 0, .int .i64 1]) ∧ Fr 5 w' w6.heap.size A 0 0 (cs .u8 []) ∧ Keep w6 w' := putF_f _ w6 okN hP' (putF_no (part0b (f := f) (by have := ha.out; omega)))
        clear okN t1 t2
        go_wp2_with fail
        refine hq.mono ?_
        rintro e w8 ⟨A8, rfl, -, kq⟩
        clear hq
        replace hP' := hP'.keep kq
        replace kk := kk.trans kq
        have hq := lives_f w8 hP'
        clear kq n0 n1 n2 n3 n4 n5 bN
        go_wp2_with fail
        refine hq.mono ?_
        rintro e w9 ⟨rfl, kq⟩
        go_wp2_with fail
        go_ret
        exact ⟨rfl, kk.trans kq⟩
      · have y0 : (n % 4 == 0) = false := by rw [hk]; rfl
        have y1 : (n % 4 == 1) = true := by rw [hk]; rfl
        have y2 : (n % 4 == 2) = false := by rw [hk]; rfl
        have y3 : (n % 4 == 3) = false := by rw [hk]; rfl
        replace hk := Lib.hid hk
        replace ha := Lib.hid ha
        have x0 := bF.cell_ (i := 0) rfl
        have x1 := bF.cell_ (i := 1) rfl
        have x2 := bF.cell_ (i := 2) rfl
        have x3 := bF.cell_ (i := 3) rfl
        have x4 := bF.cell_ (i := 4) rfl
        have x5 := bF.cell_ (i := 5) rfl
        have kn : Keep w4 (w4.alloc (.cells #[.int .u8 1] 5)) := Keep.alloc1 _ _
        have zf := (bN.keep kn).frozen 4
        have zc := (bN.keep kn).cell_ (i := 4) rfl
        clear kn
        go_upto_region 13 with fail
        clear zf zc
        have kn : Keep w4 (w4.alloc (.cells #[.int .u8 1] 5)) := Keep.alloc1 _ _
        have bO := Blk.new w4 5 [.int .u8 1]
        have hO := bN.lt
        generalize w4.alloc (.cells #[.int .u8 1] 5) = w5 at kn bO ⊢
        generalize w4.heap.size = gO at bO hO ⊢
        replace bN := bN.keep kn
        replace bF := bF.keep kn
        replace t1 := Fr.keep t1 kn
        replace t2 := Fr.keep t2 kn
        replace kk := kk.trans kn
        clear kn
        have kn := kk.setCell (p := ⟨gbN, 4, none⟩) hgbN ((.slice (some ⟨gO, 0, none⟩) 1 1))
        have bN' : Blk (w5.setCell ⟨gbN, 4, none⟩ ((.slice (some ⟨gO, 0, none⟩) 1 1))) gbN 28 [.int .u8 f.ask, .int .u8 f.who, .int .u32 f.seq, .int .u64 f.tok, .slice (some ⟨gO, 0, none⟩) 1 1, .slice A2 f.bid.length c2] := bN.set_ 4 ((.slice (some ⟨gO, 0, none⟩) 1 1))
        have bF' := bF.far (p := ⟨gbN, 4, none⟩) (show gbN ≠ gbF by omega) ((.slice (some ⟨gO, 0, none⟩) 1 1))
        have t1' := Fr.setCell t1 (p := ⟨gbN, 4, none⟩) (fun k hk => Fr.own_ne t1 bN (by decide) k hk) ((.slice (some ⟨gO, 0, none⟩) 1 1))
        have t2' := Fr.setCell t2 (p := ⟨gbN, 4, none⟩) (fun k hk => Fr.own_ne t2 bN (by decide) k hk) ((.slice (some ⟨gO, 0, none⟩) 1 1))
        have bO' := bO.far (p := ⟨gbN, 4, none⟩) (show gbN ≠ gO by omega) ((.slice (some ⟨gO, 0, none⟩) 1 1))
        generalize w5.setCell ⟨gbN, 4, none⟩ ((.slice (some ⟨gO, 0, none⟩) 1 1)) = w6 at kn bN' bF' t1' t2' bO' ⊢
        clear bN bF t1 t2 kk bO x0 x1 x2 x3 x4 x5
        have kk := kn
        have bN := bN'
        have bF := bF'
        have t1 := t1'
        have t2 := t2'
        have bO := bO'
        clear kn bN' bF' t1' t2' bO'
        have x0 := bF.cell_ (i := 0) rfl
        have x1 := bF.cell_ (i := 1) rfl
        have x2 := bF.cell_ (i := 2) rfl
        have x3 := bF.cell_ (i := 3) rfl
        have x4 := bF.cell_ (i := 4) rfl
        have x5 := bF.cell_ (i := 5) rfl
        go_upto_region 21 with fail
        clear x0 x1 x2 x3 x4 x5 bF
        have okN : (Frm.mk ⟨f.ask, f.who, f.seq, f.tok, [1], f.bid⟩ (some ⟨gO, 0, none⟩) 1 A2 c2).Ok w6 := ⟨⟨⟨bO.rd, Nat.le_refl _, (show 1 ≤ maxLen by decide), fun y hy => by rw [List.mem_singleton] at hy; subst hy; rfl⟩, fun h => by cases h⟩, (Twin.ok (t := ⟨A2, c2, f.bid⟩) t2 HF.out.b.inn.wf), HF.out.ask, HF.out.who, HF.out.seq, HF.out.tok⟩
        have n0 := bN.cell_ (i := 0) rfl
        have n1 := bN.cell_ (i := 1) rfl
        have n2 := bN.cell_ (i := 2) rfl
        have n3 := bN.cell_ (i := 3) rfl
        have n4 := bN.cell_ (i := 4) rfl
        have n5 := bN.cell_ (i := 5) rfl
        have hP' := HP.out.keep kk
        have hq : Calls Tryd.prog 7 #[.agg #[.int .u8 f.ask, .int .u8 f.who, .int .u32 f.seq, .int .u64 f.tok, .slice (some ⟨gO, 0, none⟩) 1 1, .slice A2 f.bid.length c2]] w6 fun e w' => ∃ A, e = .returned (.tuple #[.slice A 0 0, .int .i64 1]) ∧ Fr 5 w' w6.heap.size A 0 0 (cs .u8 []) ∧ Keep w6 w' := putF_f _ w6 okN hP' (putF_no (part1b (f := f) (by have := ha.out; omega)))
        clear okN t1 t2 bO
        go_wp2_with fail
        refine hq.mono ?_
        rintro e w8 ⟨A8, rfl, -, kq⟩
        clear hq
        replace hP' := hP'.keep kq
        replace kk := kk.trans kq
        have hq := lives_f w8 hP'
        clear kq n0 n1 n2 n3 n4 n5 bN
        go_wp2_with fail
        refine hq.mono ?_
        rintro e w9 ⟨rfl, kq⟩
        go_wp2_with fail
        go_ret
        exact ⟨rfl, kk.trans kq⟩
      · have y0 : (n % 4 == 0) = false := by rw [hk]; rfl
        have y1 : (n % 4 == 1) = false := by rw [hk]; rfl
        have y2 : (n % 4 == 2) = true := by rw [hk]; rfl
        have y3 : (n % 4 == 3) = false := by rw [hk]; rfl
        replace hk := Lib.hid hk
        replace ha := Lib.hid ha
        have x0 := bF.cell_ (i := 0) rfl
        have x1 := bF.cell_ (i := 1) rfl
        have x2 := bF.cell_ (i := 2) rfl
        have x3 := bF.cell_ (i := 3) rfl
        have x4 := bF.cell_ (i := 4) rfl
        have x5 := bF.cell_ (i := 5) rfl
        have kn : Keep w4 (w4.alloc (.cells #[.int .i64 1] 3)) := Keep.alloc1 _ _
        have zf := (bN.keep kn).frozen 5
        have zc := (bN.keep kn).cell_ (i := 5) rfl
        clear kn
        go_upto_region 17 with fail
        clear zf zc
        have kn : Keep w4 (w4.alloc (.cells #[.int .i64 1] 3)) := Keep.alloc1 _ _
        have bO := Blk.new w4 3 [.int .i64 1]
        have hO := bN.lt
        generalize w4.alloc (.cells #[.int .i64 1] 3) = w5 at kn bO ⊢
        generalize w4.heap.size = gO at bO hO ⊢
        replace bN := bN.keep kn
        replace bF := bF.keep kn
        replace t1 := Fr.keep t1 kn
        replace t2 := Fr.keep t2 kn
        replace kk := kk.trans kn
        clear kn
        have kn := kk.setCell (p := ⟨gbN, 5, none⟩) hgbN ((.slice (some ⟨gO, 0, none⟩) 1 1))
        have bN' : Blk (w5.setCell ⟨gbN, 5, none⟩ ((.slice (some ⟨gO, 0, none⟩) 1 1))) gbN 28 [.int .u8 f.ask, .int .u8 f.who, .int .u32 f.seq, .int .u64 f.tok, .slice A1 f.sec.length c1, .slice (some ⟨gO, 0, none⟩) 1 1] := bN.set_ 5 ((.slice (some ⟨gO, 0, none⟩) 1 1))
        have bF' := bF.far (p := ⟨gbN, 5, none⟩) (show gbN ≠ gbF by omega) ((.slice (some ⟨gO, 0, none⟩) 1 1))
        have t1' := Fr.setCell t1 (p := ⟨gbN, 5, none⟩) (fun k hk => Fr.own_ne t1 bN (by decide) k hk) ((.slice (some ⟨gO, 0, none⟩) 1 1))
        have t2' := Fr.setCell t2 (p := ⟨gbN, 5, none⟩) (fun k hk => Fr.own_ne t2 bN (by decide) k hk) ((.slice (some ⟨gO, 0, none⟩) 1 1))
        have bO' := bO.far (p := ⟨gbN, 5, none⟩) (show gbN ≠ gO by omega) ((.slice (some ⟨gO, 0, none⟩) 1 1))
        generalize w5.setCell ⟨gbN, 5, none⟩ ((.slice (some ⟨gO, 0, none⟩) 1 1)) = w6 at kn bN' bF' t1' t2' bO' ⊢
        clear bN bF t1 t2 kk bO x0 x1 x2 x3 x4 x5
        have kk := kn
        have bN := bN'
        have bF := bF'
        have t1 := t1'
        have t2 := t2'
        have bO := bO'
        clear kn bN' bF' t1' t2' bO'
        have x0 := bF.cell_ (i := 0) rfl
        have x1 := bF.cell_ (i := 1) rfl
        have x2 := bF.cell_ (i := 2) rfl
        have x3 := bF.cell_ (i := 3) rfl
        have x4 := bF.cell_ (i := 4) rfl
        have x5 := bF.cell_ (i := 5) rfl
        go_upto_region 21 with fail
        clear x0 x1 x2 x3 x4 x5 bF
        have okN : (Frm.mk ⟨f.ask, f.who, f.seq, f.tok, f.sec, [1]⟩ A1 c1 (some ⟨gO, 0, none⟩) 1).Ok w6 := ⟨(TwinB.ok (t := ⟨A1, c1, f.sec⟩) t1 HF.out.s.inn.wf), ⟨⟨bO.rd, Nat.le_refl _, (show 1 ≤ maxLen by decide), fun y hy => by rw [List.mem_singleton] at hy; subst hy; rfl⟩, fun h => by cases h⟩, HF.out.ask, HF.out.who, HF.out.seq, HF.out.tok⟩
        have n0 := bN.cell_ (i := 0) rfl
        have n1 := bN.cell_ (i := 1) rfl
        have n2 := bN.cell_ (i := 2) rfl
        have n3 := bN.cell_ (i := 3) rfl
        have n4 := bN.cell_ (i := 4) rfl
        have n5 := bN.cell_ (i := 5) rfl
        have hP' := HP.out.keep kk
        have hq : Calls Tryd.prog 7 #[.agg #[.int .u8 f.ask, .int .u8 f.who, .int .u32 f.seq, .int .u64 f.tok, .slice A1 f.sec.length c1, .slice (some ⟨gO, 0, none⟩) 1 1]] w6 fun e w' => ∃ A, e = .returned (.tuple #[.slice A 0 0, .int .i64 1]) ∧ Fr 5 w' w6.heap.size A 0 0 (cs .u8 []) ∧ Keep w6 w' := putF_f _ w6 okN hP' (putF_no (part2b (f := f) (by have := ha.out; omega)))
        clear okN t1 t2 bO
        go_wp2_with fail
        refine hq.mono ?_
        rintro e w8 ⟨A8, rfl, -, kq⟩
        clear hq
        replace hP' := hP'.keep kq
        replace kk := kk.trans kq
        have hq := lives_f w8 hP'
        clear kq n0 n1 n2 n3 n4 n5 bN
        go_wp2_with fail
        refine hq.mono ?_
        rintro e w9 ⟨rfl, kq⟩
        go_wp2_with fail
        go_ret
        exact ⟨rfl, kk.trans kq⟩
      · have y0 : (n % 4 == 0) = false := by rw [hk]; rfl
        have y1 : (n % 4 == 1) = false := by rw [hk]; rfl
        have y2 : (n % 4 == 2) = false := by rw [hk]; rfl
        have y3 : (n % 4 == 3) = true := by rw [hk]; rfl
        replace hk := Lib.hid hk
        replace ha := Lib.hid ha
        have x0 := bF.cell_ (i := 0) rfl
        have x1 := bF.cell_ (i := 1) rfl
        have x2 := bF.cell_ (i := 2) rfl
        have x3 := bF.cell_ (i := 3) rfl
        have x4 := bF.cell_ (i := 4) rfl
        have x5 := bF.cell_ (i := 5) rfl
        have zf := bN.frozen 0
        have zc := bN.cell_ (i := 0) rfl
        go_upto_region 21 with fail
        have kn := kk.setCell (p := ⟨gbN, 0, none⟩) hgbN (.int .u8 0)
        have bN' : Blk (w4.setCell ⟨gbN, 0, none⟩ (.int .u8 0)) gbN 28 [.int .u8 0, .int .u8 f.who, .int .u32 f.seq, .int .u64 f.tok, .slice A1 f.sec.length c1, .slice A2 f.bid.length c2] := bN.set_ 0 (.int .u8 0)
        have bF' := bF.far (p := ⟨gbN, 0, none⟩) (show gbN ≠ gbF by omega) (.int .u8 0)
        have t1' := Fr.setCell t1 (p := ⟨gbN, 0, none⟩) (fun k hk => Fr.own_ne t1 bN (by decide) k hk) (.int .u8 0)
        have t2' := Fr.setCell t2 (p := ⟨gbN, 0, none⟩) (fun k hk => Fr.own_ne t2 bN (by decide) k hk) (.int .u8 0)
        generalize w4.setCell ⟨gbN, 0, none⟩ (.int .u8 0) = w6 at kn bN' bF' t1' t2' ⊢
        clear bN bF t1 t2 kk zf zc x0 x1 x2 x3 x4 x5
        have kk := kn
        have bN := bN'
        have bF := bF'
        have t1 := t1'
        have t2 := t2'
        clear kn bN' bF' t1' t2'
        have x0 := bF.cell_ (i := 0) rfl
        have x1 := bF.cell_ (i := 1) rfl
        have x2 := bF.cell_ (i := 2) rfl
        have x3 := bF.cell_ (i := 3) rfl
        have x4 := bF.cell_ (i := 4) rfl
        have x5 := bF.cell_ (i := 5) rfl
        clear x0 x1 x2 x3 x4 x5 bF
        have okN : (Frm.mk ⟨0, f.who, f.seq, f.tok, f.sec, f.bid⟩ A1 c1 A2 c2).Ok w6 := ⟨(TwinB.ok (t := ⟨A1, c1, f.sec⟩) t1 HF.out.s.inn.wf), (Twin.ok (t := ⟨A2, c2, f.bid⟩) t2 HF.out.b.inn.wf), (show 0 < 256 by decide), HF.out.who, HF.out.seq, HF.out.tok⟩
        have n0 := bN.cell_ (i := 0) rfl
        have n1 := bN.cell_ (i := 1) rfl
        have n2 := bN.cell_ (i := 2) rfl
        have n3 := bN.cell_ (i := 3) rfl
        have n4 := bN.cell_ (i := 4) rfl
        have n5 := bN.cell_ (i := 5) rfl
        have hP' := HP.out.keep kk
        have hq : Calls Tryd.prog 7 #[.agg #[.int .u8 0, .int .u8 f.who, .int .u32 f.seq, .int .u64 f.tok, .slice A1 f.sec.length c1, .slice A2 f.bid.length c2]] w6 fun e w' => ∃ A, e = .returned (.tuple #[.slice A 0 0, .int .i64 1]) ∧ Fr 5 w' w6.heap.size A 0 0 (cs .u8 []) ∧ Keep w6 w' := putF_f _ w6 okN hP' (putF_no (part3 f))
        clear okN t1 t2
        go_wp2_with fail
        refine hq.mono ?_
        rintro e w8 ⟨A8, rfl, -, kq⟩
        clear hq
        replace hP' := hP'.keep kq
        replace kk := kk.trans kq
        have hq := lives_f w8 hP'
        clear kq n0 n1 n2 n3 n4 n5 bN
        go_wp2_with fail
        refine hq.mono ?_
        rintro e w9 ⟨rfl, kq⟩
        go_wp2_with fail
        go_ret
        exact ⟨rfl, kk.trans kq⟩
  · have hp : Hid (putFV f = ([], 1)) := Lib.hid (putF_no (by simpa using h))
    clear h
    go_enter Tryd.func3, Tryd.ntmps3
    go_upto_region 1 with fail
    have kq : Keep w (w.alloc (.cells #[.int .u8 f.ask, .int .u8 f.who, .int .u32 f.seq, .int .u64 f.tok, .slice sa f.sec.length sc, .slice ba f.bid.length bc] 28)) := Keep.alloc1 _ _
    have bF := Blk.new w 28 [.int .u8 f.ask, .int .u8 f.who, .int .u32 f.seq, .int .u64 f.tok, .slice sa f.sec.length sc, .slice ba f.bid.length bc]
    change Code.wp _ _ _ _ (w.alloc (.cells #[.int .u8 f.ask, .int .u8 f.who, .int .u32 f.seq, .int .u64 f.tok, .slice sa f.sec.length sc, .slice ba f.bid.length bc] 28))
    generalize w.alloc (.cells #[.int .u8 f.ask, .int .u8 f.who, .int .u32 f.seq, .int .u64 f.tok, .slice sa f.sec.length sc, .slice ba f.bid.length bc] 28) = w1 at kq bF ⊢
    generalize w.heap.size = gbF at bF ⊢
    replace hP := hP.keep kq
    replace hf := hf.keep kq
    replace kk := kk.trans kq
    clear kq
    have bF_0 := bF.cell_ (i := 0) rfl
    have bF_1 := bF.cell_ (i := 1) rfl
    have bF_2 := bF.cell_ (i := 2) rfl
    have bF_3 := bF.cell_ (i := 3) rfl
    have bF_4 := bF.cell_ (i := 4) rfl
    have bF_5 := bF.cell_ (i := 5) rfl
    have hq := putF_f (Frm.mk f sa sc ba bc) w1 hf hP hp.out
    unfold Frm.val at hq
    simp only at hq
    go_wp2_with fail
    refine hq.mono ?_
    rintro e w2 ⟨A3, rfl, -, kq⟩
    clear hq
    replace hP := hP.keep kq
    replace hf := hf.keep kq
    replace bF := bF.keep kq
    replace kk := kk.trans kq
    clear kq
    clear bF_0 bF_1 bF_2 bF_3 bF_4 bF_5
    have hq := lives_f w2 hP
    go_wp2_with fail
    refine hq.mono ?_
    rintro e w3 ⟨rfl, kq⟩
    clear hq
    replace hP := hP.keep kq
    replace hf := hf.keep kq
    replace bF := bF.keep kq
    replace kk := kk.trans kq
    clear kq
    go_wp2_with fail
    go_ret
    exact ⟨rfl, kk⟩
end Go.Proofs.YtjhbpocffckghaaDoor
