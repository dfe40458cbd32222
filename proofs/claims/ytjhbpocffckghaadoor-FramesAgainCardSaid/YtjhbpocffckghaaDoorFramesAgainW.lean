/-
  THE WALK OF THE 6 FramesAgain: it answers true, and turns nothing that was there. Conditions: the argument is a slice of bytes that came in; the program's list of parts stands as its text lays it.
-/
import Derived.Test.YtjhbpocffckghaaDoorFrmM
import Derived.Test.YtjhbpocffckghaaDoorFrmL
import Derived.Test.YtjhbpocffckghaaDoorFrmK
namespace Go.Proofs.YtjhbpocffckghaaDoor
open Go.RowKit

set_option maxRecDepth 100000 in
set_option maxHeartbeats 16000000 in
theorem framesAgain_w (A : Option Addr) (c : Nat) (xs : List Int) (w : World) (hx : In .u8 w A c xs) (hP : Parts w) :
    Calls Tryd.prog 6 #[.slice A xs.length c] w fun e w' => e = .returned (.bool true) ∧ Below w.heap.size w w' := by
  have lx := hx.len
  have lcc : Len c := by have := hx.capI; unfold Len; omega
  have hxb := hx.bytes
  have hxc := hx.cap
  have rx := hx.rd
  have kk : Keep w w := Keep.refl _
  clear hx
  obtain ⟨f, e1, hf⟩ : ∃ f e, getFV xs = (f, e) := ⟨_, _, rfl⟩
  obtain ⟨r, e2, hr⟩ : ∃ f e, getRV xs = (f, e) := ⟨_, _, rfl⟩
  have HR : (e2 = 0 ∧ Hid (getRV xs = (r, 0)) ∧ Hid (putRV r = (xs, 0)) ∧ xs.length ≤ 2000) ∨ ((e2 == 0) = false ∧ (e2 != 0) = true ∧ Hid (getRV xs = (r, e2))) := by
    by_cases h : e2 = 0
    · subst h
      obtain ⟨h1, h2, h3⟩ := putR_get hxb hr
      refine .inl ⟨rfl, Lib.hid hr, Lib.hid ?_, ?_⟩
      · unfold putRV
        rw [if_pos h1, h2]
      · obtain ⟨-, -, -, -, -, -, -, -, q1, q2, -⟩ := mayR_facts h1
        rw [← h2, length_bytesR]
        omega
    · exact .inr ⟨by simpa using h, by simpa using h, Lib.hid hr⟩
  clear hr
  by_cases h1 : e1 = 0
  · subst h1
    obtain ⟨h1, h2, h3⟩ := putF_get hxb hf
    have hPF : Hid (putFV f = (xs, 0)) := by
      refine Lib.hid ?_
      unfold putFV
      rw [if_pos h1, h2]
    replace hf := Lib.hid hf
    have lxf : xs.length ≤ 65 := by
      obtain ⟨-, -, q1, q2, -⟩ := mayF_facts h1
      rw [← h2, length_bytesF]
      omega
    clear h1 h2 h3
    go_enter Tryd.func6, Tryd.ntmps6
    have hq := getF_f A c xs w rx hxb hxc lcc hP hf.out
    go_wp2_with fail
    refine hq.mono ?_
    rintro e w1 ⟨sa, ba, rfl, ok, -, -, kq⟩
    clear hq
    unfold Frm.val
    replace rx := rx.keep kq
    replace hP := hP.keep kq
    replace kk := kk.trans kq
    clear kq
    go_upto_region 2 with fail
    have kq : Keep w1 (w1.alloc (.cells #[.int .u8 f.ask, .int .u8 f.who, .int .u32 f.seq, .int .u64 f.tok, .slice sa f.sec.length f.sec.length, .slice ba f.bid.length f.bid.length] 28)) := Keep.alloc1 _ _
    have bF := Blk.new w1 28 [.int .u8 f.ask, .int .u8 f.who, .int .u32 f.seq, .int .u64 f.tok, .slice sa f.sec.length f.sec.length, .slice ba f.bid.length f.bid.length]
    change Code.wp _ _ _ _ (w1.alloc (.cells #[.int .u8 f.ask, .int .u8 f.who, .int .u32 f.seq, .int .u64 f.tok, .slice sa f.sec.length f.sec.length, .slice ba f.bid.length f.bid.length] 28))
    generalize w1.alloc (.cells #[.int .u8 f.ask, .int .u8 f.who, .int .u32 f.seq, .int .u64 f.tok, .slice sa f.sec.length f.sec.length, .slice ba f.bid.length f.bid.length] 28) = w2 at kq bF ⊢
    generalize w1.heap.size = gbF at bF ⊢
    replace rx := rx.keep kq
    replace hP := hP.keep kq
    replace ok := ok.keep kq
    replace kk := kk.trans kq
    clear kq
    have bF_0 := bF.cell_ (i := 0) rfl
    have bF_1 := bF.cell_ (i := 1) rfl
    have bF_2 := bF.cell_ (i := 2) rfl
    have bF_3 := bF.cell_ (i := 3) rfl
    have bF_4 := bF.cell_ (i := 4) rfl
    have bF_5 := bF.cell_ (i := 5) rfl
    have hq := putF_f (Frm.mk f sa _ ba _) w2 ok hP hPF.out
    unfold Frm.val at hq
    simp only at hq
    go_wp2_with fail
    refine hq.mono ?_
    rintro e w3 ⟨A3, rfl, f3, kq⟩
    clear hq
    replace rx := rx.keep kq
    replace hP := hP.keep kq
    replace ok := ok.keep kq
    replace bF := bF.keep kq
    replace kk := kk.trans kq
    clear kq
    clear bF_0 bF_1 bF_2 bF_3 bF_4 bF_5
    have hq := saysK (sameBytes A3 A xs.length c xs xs w3 f3.rd rx (by unfold Reach; omega) (by unfold Reach; omega))
    rw [decide_eq_true rfl] at hq
    go_wp2_with fail
    refine hq.mono ?_
    rintro e w4 ⟨rfl, kq⟩
    clear hq
    replace rx := rx.keep kq
    replace hP := hP.keep kq
    replace ok := ok.keep kq
    replace bF := bF.keep kq
    replace f3 := f3.keep kq
    replace kk := kk.trans kq
    clear kq
    clear f3 bF ok hf hPF lxf
    rcases HR with ⟨rfl, hR, hPR, lxr⟩ | ⟨z1, z2, hR⟩
    · have hq := getR_f A c xs w4 rx hxb hxc lcc hR.out
      go_wp2_with fail
      refine hq.mono ?_
      rintro e w5 ⟨ba, ca, rfl, ok, -, -, kq⟩
      clear hq
      unfold Rpl.val
      replace rx := rx.keep kq
      replace hP := hP.keep kq
      replace kk := kk.trans kq
      clear kq
      go_upto_region 7 with fail
      have kq : Keep w5 (w5.alloc (.cells #[.int .i64 r.e, .int .u32 r.seq, .int .u64 r.tok, .int .u8 r.ph, .int .u64 r.tm, .bool r.has, .slice ba r.bid.length r.bid.length, .int .i64 r.item, .int .i64 r.pays, .slice ca r.cert.length r.cert.length] 37)) := Keep.alloc1 _ _
      have bR := Blk.new w5 37 [.int .i64 r.e, .int .u32 r.seq, .int .u64 r.tok, .int .u8 r.ph, .int .u64 r.tm, .bool r.has, .slice ba r.bid.length r.bid.length, .int .i64 r.item, .int .i64 r.pays, .slice ca r.cert.length r.cert.length]
      change Code.wp _ _ _ _ (w5.alloc (.cells #[.int .i64 r.e, .int .u32 r.seq, .int .u64 r.tok, .int .u8 r.ph, .int .u64 r.tm, .bool r.has, .slice ba r.bid.length r.bid.length, .int .i64 r.item, .int .i64 r.pays, .slice ca r.cert.length r.cert.length] 37))
      generalize w5.alloc (.cells #[.int .i64 r.e, .int .u32 r.seq, .int .u64 r.tok, .int .u8 r.ph, .int .u64 r.tm, .bool r.has, .slice ba r.bid.length r.bid.length, .int .i64 r.item, .int .i64 r.pays, .slice ca r.cert.length r.cert.length] 37) = w6 at kq bR ⊢
      generalize w5.heap.size = gbR at bR ⊢
      replace rx := rx.keep kq
      replace hP := hP.keep kq
      replace ok := ok.keep kq
      replace kk := kk.trans kq
      clear kq
      have bR_0 := bR.cell_ (i := 0) rfl
      have bR_1 := bR.cell_ (i := 1) rfl
      have bR_2 := bR.cell_ (i := 2) rfl
      have bR_3 := bR.cell_ (i := 3) rfl
      have bR_4 := bR.cell_ (i := 4) rfl
      have bR_5 := bR.cell_ (i := 5) rfl
      have bR_6 := bR.cell_ (i := 6) rfl
      have bR_7 := bR.cell_ (i := 7) rfl
      have bR_8 := bR.cell_ (i := 8) rfl
      have bR_9 := bR.cell_ (i := 9) rfl
      have hq := putR_f (Rpl.mk r ba _ ca _) w6 ok hPR.out
      unfold Rpl.val at hq
      simp only at hq
      go_wp2_with fail
      refine hq.mono ?_
      rintro e w7 ⟨A7, rfl, f7, kq⟩
      clear hq
      replace rx := rx.keep kq
      replace hP := hP.keep kq
      replace ok := ok.keep kq
      replace bR := bR.keep kq
      replace kk := kk.trans kq
      clear kq
      clear bR_0 bR_1 bR_2 bR_3 bR_4 bR_5 bR_6 bR_7 bR_8 bR_9
      have hq := saysK (sameBytes A7 A xs.length c xs xs w7 f7.rd rx (by unfold Reach; omega) (by unfold Reach; omega))
      rw [decide_eq_true rfl] at hq
      go_wp2_with fail
      refine hq.mono ?_
      rintro e w8 ⟨rfl, kq⟩
      clear hq
      replace rx := rx.keep kq
      replace hP := hP.keep kq
      replace ok := ok.keep kq
      replace bR := bR.keep kq
      replace f7 := f7.keep kq
      replace kk := kk.trans kq
      clear kq
      have hq := lives_f w8 hP
      go_wp2_with fail
      refine hq.mono ?_
      rintro e w9 ⟨rfl, kq⟩
      clear hq
      replace rx := rx.keep kq
      replace hP := hP.keep kq
      replace ok := ok.keep kq
      replace bR := bR.keep kq
      replace f7 := f7.keep kq
      replace kk := kk.trans kq
      clear kq
      go_wp2_with fail
      go_ret
      exact ⟨rfl, kk⟩
    · have hq := getR_f A c xs w4 rx hxb hxc lcc hR.out
      go_wp2_with fail
      refine hq.mono ?_
      rintro e w5 ⟨ba, ca, rfl, ok, -, -, kq⟩
      clear hq
      unfold Rpl.val
      replace rx := rx.keep kq
      replace hP := hP.keep kq
      replace kk := kk.trans kq
      clear kq
      go_upto_region 7 with fail
      have kq : Keep w5 (w5.alloc (.cells #[.int .i64 r.e, .int .u32 r.seq, .int .u64 r.tok, .int .u8 r.ph, .int .u64 r.tm, .bool r.has, .slice ba r.bid.length r.bid.length, .int .i64 r.item, .int .i64 r.pays, .slice ca r.cert.length r.cert.length] 37)) := Keep.alloc1 _ _
      change Code.wp _ _ _ _ (w5.alloc (.cells #[.int .i64 r.e, .int .u32 r.seq, .int .u64 r.tok, .int .u8 r.ph, .int .u64 r.tm, .bool r.has, .slice ba r.bid.length r.bid.length, .int .i64 r.item, .int .i64 r.pays, .slice ca r.cert.length r.cert.length] 37))
      generalize w5.alloc (.cells #[.int .i64 r.e, .int .u32 r.seq, .int .u64 r.tok, .int .u8 r.ph, .int .u64 r.tm, .bool r.has, .slice ba r.bid.length r.bid.length, .int .i64 r.item, .int .i64 r.pays, .slice ca r.cert.length r.cert.length] 37) = w6 at kq ⊢
      generalize w5.heap.size = gbR at ⊢
      replace rx := rx.keep kq
      replace hP := hP.keep kq
      replace kk := kk.trans kq
      clear kq
      have hq := lives_f w6 hP
      go_wp2_with fail
      refine hq.mono ?_
      rintro e w7 ⟨rfl, kq⟩
      clear hq
      replace rx := rx.keep kq
      replace hP := hP.keep kq
      replace kk := kk.trans kq
      clear kq
      go_wp2_with fail
      go_ret
      exact ⟨rfl, kk⟩
  · have y1 : (e1 == 0) = false := by simpa using h1
    have y2 : (e1 != 0) = true := by simpa using h1
    replace hf := Lib.hid hf
    clear h1
    go_enter Tryd.func6, Tryd.ntmps6
    have hq := getF_f A c xs w rx hxb hxc lcc hP hf.out
    go_wp2_with fail
    refine hq.mono ?_
    rintro e w1 ⟨sa, ba, rfl, ok, -, -, kq⟩
    clear hq
    unfold Frm.val
    replace rx := rx.keep kq
    replace hP := hP.keep kq
    replace kk := kk.trans kq
    clear kq
    go_upto_region 2 with fail
    have kq : Keep w1 (w1.alloc (.cells #[.int .u8 f.ask, .int .u8 f.who, .int .u32 f.seq, .int .u64 f.tok, .slice sa f.sec.length f.sec.length, .slice ba f.bid.length f.bid.length] 28)) := Keep.alloc1 _ _
    change Code.wp _ _ _ _ (w1.alloc (.cells #[.int .u8 f.ask, .int .u8 f.who, .int .u32 f.seq, .int .u64 f.tok, .slice sa f.sec.length f.sec.length, .slice ba f.bid.length f.bid.length] 28))
    generalize w1.alloc (.cells #[.int .u8 f.ask, .int .u8 f.who, .int .u32 f.seq, .int .u64 f.tok, .slice sa f.sec.length f.sec.length, .slice ba f.bid.length f.bid.length] 28) = w2 at kq ⊢
    generalize w1.heap.size = gbF at ⊢
    replace rx := rx.keep kq
    replace hP := hP.keep kq
    replace kk := kk.trans kq
    clear kq
    clear ok hf
    rcases HR with ⟨rfl, hR, hPR, lxr⟩ | ⟨z1, z2, hR⟩
    · have hq := getR_f A c xs w2 rx hxb hxc lcc hR.out
      go_wp2_with fail
      refine hq.mono ?_
      rintro e w3 ⟨ba, ca, rfl, ok, -, -, kq⟩
      clear hq
      unfold Rpl.val
      replace rx := rx.keep kq
      replace hP := hP.keep kq
      replace kk := kk.trans kq
      clear kq
      go_upto_region 7 with fail
      have kq : Keep w3 (w3.alloc (.cells #[.int .i64 r.e, .int .u32 r.seq, .int .u64 r.tok, .int .u8 r.ph, .int .u64 r.tm, .bool r.has, .slice ba r.bid.length r.bid.length, .int .i64 r.item, .int .i64 r.pays, .slice ca r.cert.length r.cert.length] 37)) := Keep.alloc1 _ _
      have bR := Blk.new w3 37 [.int .i64 r.e, .int .u32 r.seq, .int .u64 r.tok, .int .u8 r.ph, .int .u64 r.tm, .bool r.has, .slice ba r.bid.length r.bid.length, .int .i64 r.item, .int .i64 r.pays, .slice ca r.cert.length r.cert.length]
      change Code.wp _ _ _ _ (w3.alloc (.cells #[.int .i64 r.e, .int .u32 r.seq, .int .u64 r.tok, .int .u8 r.ph, .int .u64 r.tm, .bool r.has, .slice ba r.bid.length r.bid.length, .int .i64 r.item, .int .i64 r.pays, .slice ca r.cert.length r.cert.length] 37))
      generalize w3.alloc (.cells #[.int .i64 r.e, .int .u32 r.seq, .int .u64 r.tok, .int .u8 r.ph, .int .u64 r.tm, .bool r.has, .slice ba r.bid.length r.bid.length, .int .i64 r.item, .int .i64 r.pays, .slice ca r.cert.length r.cert.length] 37) = w4 at kq bR ⊢
      generalize w3.heap.size = gbR at bR ⊢
      replace rx := rx.keep kq
      replace hP := hP.keep kq
      replace ok := ok.keep kq
      replace kk := kk.trans kq
      clear kq
      have bR_0 := bR.cell_ (i := 0) rfl
      have bR_1 := bR.cell_ (i := 1) rfl
      have bR_2 := bR.cell_ (i := 2) rfl
      have bR_3 := bR.cell_ (i := 3) rfl
      have bR_4 := bR.cell_ (i := 4) rfl
      have bR_5 := bR.cell_ (i := 5) rfl
      have bR_6 := bR.cell_ (i := 6) rfl
      have bR_7 := bR.cell_ (i := 7) rfl
      have bR_8 := bR.cell_ (i := 8) rfl
      have bR_9 := bR.cell_ (i := 9) rfl
      have hq := putR_f (Rpl.mk r ba _ ca _) w4 ok hPR.out
      unfold Rpl.val at hq
      simp only at hq
      go_wp2_with fail
      refine hq.mono ?_
      rintro e w5 ⟨A7, rfl, f7, kq⟩
      clear hq
      replace rx := rx.keep kq
      replace hP := hP.keep kq
      replace ok := ok.keep kq
      replace bR := bR.keep kq
      replace kk := kk.trans kq
      clear kq
      clear bR_0 bR_1 bR_2 bR_3 bR_4 bR_5 bR_6 bR_7 bR_8 bR_9
      have hq := saysK (sameBytes A7 A xs.length c xs xs w5 f7.rd rx (by unfold Reach; omega) (by unfold Reach; omega))
      rw [decide_eq_true rfl] at hq
      go_wp2_with fail
      refine hq.mono ?_
      rintro e w6 ⟨rfl, kq⟩
      clear hq
      replace rx := rx.keep kq
      replace hP := hP.keep kq
      replace ok := ok.keep kq
      replace bR := bR.keep kq
      replace f7 := f7.keep kq
      replace kk := kk.trans kq
      clear kq
      have hq := lives_f w6 hP
      go_wp2_with fail
      refine hq.mono ?_
      rintro e w7 ⟨rfl, kq⟩
      clear hq
      replace rx := rx.keep kq
      replace hP := hP.keep kq
      replace ok := ok.keep kq
      replace bR := bR.keep kq
      replace f7 := f7.keep kq
      replace kk := kk.trans kq
      clear kq
      go_wp2_with fail
      go_ret
      exact ⟨rfl, kk⟩
    · have hq := getR_f A c xs w2 rx hxb hxc lcc hR.out
      go_wp2_with fail
      refine hq.mono ?_
      rintro e w3 ⟨ba, ca, rfl, ok, -, -, kq⟩
      clear hq
      unfold Rpl.val
      replace rx := rx.keep kq
      replace hP := hP.keep kq
      replace kk := kk.trans kq
      clear kq
      go_upto_region 7 with fail
      have kq : Keep w3 (w3.alloc (.cells #[.int .i64 r.e, .int .u32 r.seq, .int .u64 r.tok, .int .u8 r.ph, .int .u64 r.tm, .bool r.has, .slice ba r.bid.length r.bid.length, .int .i64 r.item, .int .i64 r.pays, .slice ca r.cert.length r.cert.length] 37)) := Keep.alloc1 _ _
      change Code.wp _ _ _ _ (w3.alloc (.cells #[.int .i64 r.e, .int .u32 r.seq, .int .u64 r.tok, .int .u8 r.ph, .int .u64 r.tm, .bool r.has, .slice ba r.bid.length r.bid.length, .int .i64 r.item, .int .i64 r.pays, .slice ca r.cert.length r.cert.length] 37))
      generalize w3.alloc (.cells #[.int .i64 r.e, .int .u32 r.seq, .int .u64 r.tok, .int .u8 r.ph, .int .u64 r.tm, .bool r.has, .slice ba r.bid.length r.bid.length, .int .i64 r.item, .int .i64 r.pays, .slice ca r.cert.length r.cert.length] 37) = w4 at kq ⊢
      generalize w3.heap.size = gbR at ⊢
      replace rx := rx.keep kq
      replace hP := hP.keep kq
      replace kk := kk.trans kq
      clear kq
      have hq := lives_f w4 hP
      go_wp2_with fail
      refine hq.mono ?_
      rintro e w5 ⟨rfl, kq⟩
      clear hq
      replace rx := rx.keep kq
      replace hP := hP.keep kq
      replace kk := kk.trans kq
      clear kq
      go_wp2_with fail
      go_ret
      exact ⟨rfl, kk⟩
end Go.Proofs.YtjhbpocffckghaaDoor
