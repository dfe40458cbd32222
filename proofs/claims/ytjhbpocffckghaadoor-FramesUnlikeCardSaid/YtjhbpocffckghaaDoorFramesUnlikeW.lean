/-
  THE WALK OF THE 4 FramesUnlike: it answers true, and turns nothing that was there. Conditions: the argument is a struct of two frames and two replies that came in; the program's list of parts stands as its text lays it.
-/
import Derived.Test.YtjhbpocffckghaaDoorFrmM
import Derived.Test.YtjhbpocffckghaaDoorFrmN
import Derived.Test.YtjhbpocffckghaaDoorFrmO
import Derived.Test.YtjhbpocffckghaaDoorFrmL
namespace Go.Proofs.YtjhbpocffckghaaDoor
open Go.RowKit

theorem unlikeF {f g : FV} (h : mayF f = true) (k : mayF g = true) (h1 : f.who < 256 ∧ f.seq < 4294967296 ∧ f.tok < 18446744073709551616) (k1 : g.who < 256 ∧ g.seq < 4294967296 ∧ g.tok < 18446744073709551616) : decide (bytesF f = bytesF g) = sameFV f g := by
  have a := mayF_fit h h1.1 h1.2.1 h1.2.2
  have b := mayF_fit k k1.1 k1.2.1 k1.2.2
  have c := sameFV_iff f g
  by_cases e : f = g
  · subst e
    rw [decide_eq_true rfl, sameFV_self]
  · rw [decide_eq_false (fun h => e (bytesF_inj a b h))]
    cases hs : sameFV f g with
    | true => exact absurd (c.1 hs) e
    | false => rfl
theorem unlikeR {f g : RV} (h : mayR f = true) (k : mayR g = true) (h1 : f.seq < 4294967296 ∧ f.tok < 18446744073709551616) (k1 : g.seq < 4294967296 ∧ g.tok < 18446744073709551616) : decide (bytesR f = bytesR g) = sameRV f g := by
  have a := mayR_fit h h1.1 h1.2
  have b := mayR_fit k k1.1 k1.2
  have c := sameRV_iff f g
  by_cases e : f = g
  · subst e
    rw [decide_eq_true rfl, sameRV_self]
  · rw [decide_eq_false (fun h => e (bytesR_inj a b h))]
    cases hs : sameRV f g with
    | true => exact absurd (c.1 hs) e
    | false => rfl
/-- What Put answers, by cases. -/
theorem putF_two {f : FV} {L : List Int} {e : Int} (h : putFV f = (L, e)) : (e = 0 ∧ mayF f = true ∧ L = bytesF f) ∨ ((e == 0) = false ∧ (e != 0) = true) := by
  unfold putFV at h
  split at h
  · rename_i q
    cases h
    exact .inl ⟨rfl, q, rfl⟩
  · cases h
    exact .inr ⟨rfl, rfl⟩
theorem putR_two {f : RV} {L : List Int} {e : Int} (h : putRV f = (L, e)) : (e = 0 ∧ mayR f = true ∧ L = bytesR f) ∨ ((e == 0) = false ∧ (e != 0) = true) := by
  unfold putRV at h
  split at h
  · rename_i q
    cases h
    exact .inl ⟨rfl, q, rfl⟩
  · cases h
    exact .inr ⟨rfl, rfl⟩

set_option maxRecDepth 100000 in
set_option maxHeartbeats 32000000 in
theorem framesUnlike_w (f g : Frm) (r s : Rpl) (w : World) (hf : f.Ok w) (hg : g.Ok w) (hr : r.Ok w) (hs : s.Ok w) (hP : Parts w) :
    Calls Tryd.prog 4 #[.agg (f.cells ++ (g.cells ++ (r.cells ++ s.cells))).toArray] w fun e w' => e = .returned (.bool true) ∧ Below w.heap.size w w' := by
  have kk : Keep w w := Keep.refl _
  obtain ⟨f, fsa, fsc, fba, fbc⟩ := f
  obtain ⟨g, gsa, gsc, gba, gbc⟩ := g
  obtain ⟨r, rba, rbc, rca, rcc⟩ := r
  obtain ⟨s, sba, sbc, sca, scc⟩ := s
  obtain ⟨L1, e1, p1⟩ : ∃ L e, putFV f = (L, e) := ⟨_, _, rfl⟩
  obtain ⟨L2, e2, p2⟩ : ∃ L e, putFV g = (L, e) := ⟨_, _, rfl⟩
  obtain ⟨L3, e3, p3⟩ : ∃ L e, putRV r = (L, e) := ⟨_, _, rfl⟩
  obtain ⟨L4, e4, p4⟩ : ∃ L e, putRV s = (L, e) := ⟨_, _, rfl⟩
  have q1 := Lib.hid (putF_two p1)
  have q2 := Lib.hid (putF_two p2)
  have q3 := Lib.hid (putR_two p3)
  have q4 := Lib.hid (putR_two p4)
  replace p1 := Lib.hid p1
  replace p2 := Lib.hid p2
  replace p3 := Lib.hid p3
  replace p4 := Lib.hid p4
  unfold Frm.cells Rpl.cells
  simp only [List.cons_append, List.nil_append]
  go_enter Tryd.func4, Tryd.ntmps4
  go_upto_region 1 with fail
  have kq : Keep w (w.alloc (.cells #[.int .u8 f.ask, .int .u8 f.who, .int .u32 f.seq, .int .u64 f.tok, .slice fsa f.sec.length fsc, .slice fba f.bid.length fbc, .int .u8 g.ask, .int .u8 g.who, .int .u32 g.seq, .int .u64 g.tok, .slice gsa g.sec.length gsc, .slice gba g.bid.length gbc, .int .i64 r.e, .int .u32 r.seq, .int .u64 r.tok, .int .u8 r.ph, .int .u64 r.tm, .bool r.has, .slice rba r.bid.length rbc, .int .i64 r.item, .int .i64 r.pays, .slice rca r.cert.length rcc, .int .i64 s.e, .int .u32 s.seq, .int .u64 s.tok, .int .u8 s.ph, .int .u64 s.tm, .bool s.has, .slice sba s.bid.length sbc, .int .i64 s.item, .int .i64 s.pays, .slice sca s.cert.length scc] 39)) := Keep.alloc1 _ _
  have bU := Blk.new w 39 [.int .u8 f.ask, .int .u8 f.who, .int .u32 f.seq, .int .u64 f.tok, .slice fsa f.sec.length fsc, .slice fba f.bid.length fbc, .int .u8 g.ask, .int .u8 g.who, .int .u32 g.seq, .int .u64 g.tok, .slice gsa g.sec.length gsc, .slice gba g.bid.length gbc, .int .i64 r.e, .int .u32 r.seq, .int .u64 r.tok, .int .u8 r.ph, .int .u64 r.tm, .bool r.has, .slice rba r.bid.length rbc, .int .i64 r.item, .int .i64 r.pays, .slice rca r.cert.length rcc, .int .i64 s.e, .int .u32 s.seq, .int .u64 s.tok, .int .u8 s.ph, .int .u64 s.tm, .bool s.has, .slice sba s.bid.length sbc, .int .i64 s.item, .int .i64 s.pays, .slice sca s.cert.length scc]
  change Code.wp _ _ _ _ (w.alloc (.cells #[.int .u8 f.ask, .int .u8 f.who, .int .u32 f.seq, .int .u64 f.tok, .slice fsa f.sec.length fsc, .slice fba f.bid.length fbc, .int .u8 g.ask, .int .u8 g.who, .int .u32 g.seq, .int .u64 g.tok, .slice gsa g.sec.length gsc, .slice gba g.bid.length gbc, .int .i64 r.e, .int .u32 r.seq, .int .u64 r.tok, .int .u8 r.ph, .int .u64 r.tm, .bool r.has, .slice rba r.bid.length rbc, .int .i64 r.item, .int .i64 r.pays, .slice rca r.cert.length rcc, .int .i64 s.e, .int .u32 s.seq, .int .u64 s.tok, .int .u8 s.ph, .int .u64 s.tm, .bool s.has, .slice sba s.bid.length sbc, .int .i64 s.item, .int .i64 s.pays, .slice sca s.cert.length scc] 39))
  generalize w.alloc (.cells #[.int .u8 f.ask, .int .u8 f.who, .int .u32 f.seq, .int .u64 f.tok, .slice fsa f.sec.length fsc, .slice fba f.bid.length fbc, .int .u8 g.ask, .int .u8 g.who, .int .u32 g.seq, .int .u64 g.tok, .slice gsa g.sec.length gsc, .slice gba g.bid.length gbc, .int .i64 r.e, .int .u32 r.seq, .int .u64 r.tok, .int .u8 r.ph, .int .u64 r.tm, .bool r.has, .slice rba r.bid.length rbc, .int .i64 r.item, .int .i64 r.pays, .slice rca r.cert.length rcc, .int .i64 s.e, .int .u32 s.seq, .int .u64 s.tok, .int .u8 s.ph, .int .u64 s.tm, .bool s.has, .slice sba s.bid.length sbc, .int .i64 s.item, .int .i64 s.pays, .slice sca s.cert.length scc] 39) = w1 at kq bU ⊢
  generalize w.heap.size = gbU at bU ⊢
  replace hP := hP.keep kq
  replace hf := hf.keep kq
  replace hg := hg.keep kq
  replace hr := hr.keep kq
  replace hs := hs.keep kq
  replace kk := kk.trans kq
  clear kq
  have bU_0 := bU.cell_ (i := 0) rfl
  have bU_1 := bU.cell_ (i := 1) rfl
  have bU_2 := bU.cell_ (i := 2) rfl
  have bU_3 := bU.cell_ (i := 3) rfl
  have bU_4 := bU.cell_ (i := 4) rfl
  have bU_5 := bU.cell_ (i := 5) rfl
  have bU_6 := bU.cell_ (i := 6) rfl
  have bU_7 := bU.cell_ (i := 7) rfl
  have bU_8 := bU.cell_ (i := 8) rfl
  have bU_9 := bU.cell_ (i := 9) rfl
  have bU_10 := bU.cell_ (i := 10) rfl
  have bU_11 := bU.cell_ (i := 11) rfl
  have bU_12 := bU.cell_ (i := 12) rfl
  have bU_13 := bU.cell_ (i := 13) rfl
  have bU_14 := bU.cell_ (i := 14) rfl
  have bU_15 := bU.cell_ (i := 15) rfl
  have bU_16 := bU.cell_ (i := 16) rfl
  have bU_17 := bU.cell_ (i := 17) rfl
  have bU_18 := bU.cell_ (i := 18) rfl
  have bU_19 := bU.cell_ (i := 19) rfl
  have bU_20 := bU.cell_ (i := 20) rfl
  have bU_21 := bU.cell_ (i := 21) rfl
  have bU_22 := bU.cell_ (i := 22) rfl
  have bU_23 := bU.cell_ (i := 23) rfl
  have bU_24 := bU.cell_ (i := 24) rfl
  have bU_25 := bU.cell_ (i := 25) rfl
  have bU_26 := bU.cell_ (i := 26) rfl
  have bU_27 := bU.cell_ (i := 27) rfl
  have bU_28 := bU.cell_ (i := 28) rfl
  have bU_29 := bU.cell_ (i := 29) rfl
  have bU_30 := bU.cell_ (i := 30) rfl
  have bU_31 := bU.cell_ (i := 31) rfl
  go_upto_region 2 with fail
  have kq : Keep w1 (w1.alloc (.cells #[.int .u8 f.ask, .int .u8 f.who, .int .u32 f.seq, .int .u64 f.tok, .slice fsa f.sec.length fsc, .slice fba f.bid.length fbc] 28)) := Keep.alloc1 _ _
  have bF := Blk.new w1 28 [.int .u8 f.ask, .int .u8 f.who, .int .u32 f.seq, .int .u64 f.tok, .slice fsa f.sec.length fsc, .slice fba f.bid.length fbc]
  change Code.wp _ _ _ _ (w1.alloc (.cells #[.int .u8 f.ask, .int .u8 f.who, .int .u32 f.seq, .int .u64 f.tok, .slice fsa f.sec.length fsc, .slice fba f.bid.length fbc] 28))
  generalize w1.alloc (.cells #[.int .u8 f.ask, .int .u8 f.who, .int .u32 f.seq, .int .u64 f.tok, .slice fsa f.sec.length fsc, .slice fba f.bid.length fbc] 28) = w2 at kq bF ⊢
  generalize w1.heap.size = gbF at bF ⊢
  replace hP := hP.keep kq
  replace hf := hf.keep kq
  replace hg := hg.keep kq
  replace hr := hr.keep kq
  replace hs := hs.keep kq
  replace bU := bU.keep kq
  replace kk := kk.trans kq
  clear kq
  clear bU_0 bU_1 bU_2 bU_3 bU_4 bU_5 bU_6 bU_7 bU_8 bU_9 bU_10 bU_11 bU_12 bU_13 bU_14 bU_15 bU_16 bU_17 bU_18 bU_19 bU_20 bU_21 bU_22 bU_23 bU_24 bU_25 bU_26 bU_27 bU_28 bU_29 bU_30 bU_31
  have bU_0 := bU.cell_ (i := 0) rfl
  have bU_1 := bU.cell_ (i := 1) rfl
  have bU_2 := bU.cell_ (i := 2) rfl
  have bU_3 := bU.cell_ (i := 3) rfl
  have bU_4 := bU.cell_ (i := 4) rfl
  have bU_5 := bU.cell_ (i := 5) rfl
  have bU_6 := bU.cell_ (i := 6) rfl
  have bU_7 := bU.cell_ (i := 7) rfl
  have bU_8 := bU.cell_ (i := 8) rfl
  have bU_9 := bU.cell_ (i := 9) rfl
  have bU_10 := bU.cell_ (i := 10) rfl
  have bU_11 := bU.cell_ (i := 11) rfl
  have bU_12 := bU.cell_ (i := 12) rfl
  have bU_13 := bU.cell_ (i := 13) rfl
  have bU_14 := bU.cell_ (i := 14) rfl
  have bU_15 := bU.cell_ (i := 15) rfl
  have bU_16 := bU.cell_ (i := 16) rfl
  have bU_17 := bU.cell_ (i := 17) rfl
  have bU_18 := bU.cell_ (i := 18) rfl
  have bU_19 := bU.cell_ (i := 19) rfl
  have bU_20 := bU.cell_ (i := 20) rfl
  have bU_21 := bU.cell_ (i := 21) rfl
  have bU_22 := bU.cell_ (i := 22) rfl
  have bU_23 := bU.cell_ (i := 23) rfl
  have bU_24 := bU.cell_ (i := 24) rfl
  have bU_25 := bU.cell_ (i := 25) rfl
  have bU_26 := bU.cell_ (i := 26) rfl
  have bU_27 := bU.cell_ (i := 27) rfl
  have bU_28 := bU.cell_ (i := 28) rfl
  have bU_29 := bU.cell_ (i := 29) rfl
  have bU_30 := bU.cell_ (i := 30) rfl
  have bU_31 := bU.cell_ (i := 31) rfl
  go_upto_region 3 with fail
  have kq : Keep w2 (w2.alloc (.cells #[.int .u8 g.ask, .int .u8 g.who, .int .u32 g.seq, .int .u64 g.tok, .slice gsa g.sec.length gsc, .slice gba g.bid.length gbc] 28)) := Keep.alloc1 _ _
  have bG := Blk.new w2 28 [.int .u8 g.ask, .int .u8 g.who, .int .u32 g.seq, .int .u64 g.tok, .slice gsa g.sec.length gsc, .slice gba g.bid.length gbc]
  change Code.wp _ _ _ _ (w2.alloc (.cells #[.int .u8 g.ask, .int .u8 g.who, .int .u32 g.seq, .int .u64 g.tok, .slice gsa g.sec.length gsc, .slice gba g.bid.length gbc] 28))
  generalize w2.alloc (.cells #[.int .u8 g.ask, .int .u8 g.who, .int .u32 g.seq, .int .u64 g.tok, .slice gsa g.sec.length gsc, .slice gba g.bid.length gbc] 28) = w3 at kq bG ⊢
  generalize w2.heap.size = gbG at bG ⊢
  replace hP := hP.keep kq
  replace hf := hf.keep kq
  replace hg := hg.keep kq
  replace hr := hr.keep kq
  replace hs := hs.keep kq
  replace bU := bU.keep kq
  replace bF := bF.keep kq
  replace kk := kk.trans kq
  clear kq
  clear bU_0 bU_1 bU_2 bU_3 bU_4 bU_5 bU_6 bU_7 bU_8 bU_9 bU_10 bU_11 bU_12 bU_13 bU_14 bU_15 bU_16 bU_17 bU_18 bU_19 bU_20 bU_21 bU_22 bU_23 bU_24 bU_25 bU_26 bU_27 bU_28 bU_29 bU_30 bU_31
  have bU_0 := bU.cell_ (i := 0) rfl
  have bU_1 := bU.cell_ (i := 1) rfl
  have bU_2 := bU.cell_ (i := 2) rfl
  have bU_3 := bU.cell_ (i := 3) rfl
  have bU_4 := bU.cell_ (i := 4) rfl
  have bU_5 := bU.cell_ (i := 5) rfl
  have bU_6 := bU.cell_ (i := 6) rfl
  have bU_7 := bU.cell_ (i := 7) rfl
  have bU_8 := bU.cell_ (i := 8) rfl
  have bU_9 := bU.cell_ (i := 9) rfl
  have bU_10 := bU.cell_ (i := 10) rfl
  have bU_11 := bU.cell_ (i := 11) rfl
  have bU_12 := bU.cell_ (i := 12) rfl
  have bU_13 := bU.cell_ (i := 13) rfl
  have bU_14 := bU.cell_ (i := 14) rfl
  have bU_15 := bU.cell_ (i := 15) rfl
  have bU_16 := bU.cell_ (i := 16) rfl
  have bU_17 := bU.cell_ (i := 17) rfl
  have bU_18 := bU.cell_ (i := 18) rfl
  have bU_19 := bU.cell_ (i := 19) rfl
  have bU_20 := bU.cell_ (i := 20) rfl
  have bU_21 := bU.cell_ (i := 21) rfl
  have bU_22 := bU.cell_ (i := 22) rfl
  have bU_23 := bU.cell_ (i := 23) rfl
  have bU_24 := bU.cell_ (i := 24) rfl
  have bU_25 := bU.cell_ (i := 25) rfl
  have bU_26 := bU.cell_ (i := 26) rfl
  have bU_27 := bU.cell_ (i := 27) rfl
  have bU_28 := bU.cell_ (i := 28) rfl
  have bU_29 := bU.cell_ (i := 29) rfl
  have bU_30 := bU.cell_ (i := 30) rfl
  have bU_31 := bU.cell_ (i := 31) rfl
  go_upto_region 4 with fail
  have kq : Keep w3 (w3.alloc (.cells #[.int .i64 r.e, .int .u32 r.seq, .int .u64 r.tok, .int .u8 r.ph, .int .u64 r.tm, .bool r.has, .slice rba r.bid.length rbc, .int .i64 r.item, .int .i64 r.pays, .slice rca r.cert.length rcc] 37)) := Keep.alloc1 _ _
  have bR := Blk.new w3 37 [.int .i64 r.e, .int .u32 r.seq, .int .u64 r.tok, .int .u8 r.ph, .int .u64 r.tm, .bool r.has, .slice rba r.bid.length rbc, .int .i64 r.item, .int .i64 r.pays, .slice rca r.cert.length rcc]
  change Code.wp _ _ _ _ (w3.alloc (.cells #[.int .i64 r.e, .int .u32 r.seq, .int .u64 r.tok, .int .u8 r.ph, .int .u64 r.tm, .bool r.has, .slice rba r.bid.length rbc, .int .i64 r.item, .int .i64 r.pays, .slice rca r.cert.length rcc] 37))
  generalize w3.alloc (.cells #[.int .i64 r.e, .int .u32 r.seq, .int .u64 r.tok, .int .u8 r.ph, .int .u64 r.tm, .bool r.has, .slice rba r.bid.length rbc, .int .i64 r.item, .int .i64 r.pays, .slice rca r.cert.length rcc] 37) = w4 at kq bR ⊢
  generalize w3.heap.size = gbR at bR ⊢
  replace hP := hP.keep kq
  replace hf := hf.keep kq
  replace hg := hg.keep kq
  replace hr := hr.keep kq
  replace hs := hs.keep kq
  replace bU := bU.keep kq
  replace bF := bF.keep kq
  replace bG := bG.keep kq
  replace kk := kk.trans kq
  clear kq
  clear bU_0 bU_1 bU_2 bU_3 bU_4 bU_5 bU_6 bU_7 bU_8 bU_9 bU_10 bU_11 bU_12 bU_13 bU_14 bU_15 bU_16 bU_17 bU_18 bU_19 bU_20 bU_21 bU_22 bU_23 bU_24 bU_25 bU_26 bU_27 bU_28 bU_29 bU_30 bU_31
  have bU_0 := bU.cell_ (i := 0) rfl
  have bU_1 := bU.cell_ (i := 1) rfl
  have bU_2 := bU.cell_ (i := 2) rfl
  have bU_3 := bU.cell_ (i := 3) rfl
  have bU_4 := bU.cell_ (i := 4) rfl
  have bU_5 := bU.cell_ (i := 5) rfl
  have bU_6 := bU.cell_ (i := 6) rfl
  have bU_7 := bU.cell_ (i := 7) rfl
  have bU_8 := bU.cell_ (i := 8) rfl
  have bU_9 := bU.cell_ (i := 9) rfl
  have bU_10 := bU.cell_ (i := 10) rfl
  have bU_11 := bU.cell_ (i := 11) rfl
  have bU_12 := bU.cell_ (i := 12) rfl
  have bU_13 := bU.cell_ (i := 13) rfl
  have bU_14 := bU.cell_ (i := 14) rfl
  have bU_15 := bU.cell_ (i := 15) rfl
  have bU_16 := bU.cell_ (i := 16) rfl
  have bU_17 := bU.cell_ (i := 17) rfl
  have bU_18 := bU.cell_ (i := 18) rfl
  have bU_19 := bU.cell_ (i := 19) rfl
  have bU_20 := bU.cell_ (i := 20) rfl
  have bU_21 := bU.cell_ (i := 21) rfl
  have bU_22 := bU.cell_ (i := 22) rfl
  have bU_23 := bU.cell_ (i := 23) rfl
  have bU_24 := bU.cell_ (i := 24) rfl
  have bU_25 := bU.cell_ (i := 25) rfl
  have bU_26 := bU.cell_ (i := 26) rfl
  have bU_27 := bU.cell_ (i := 27) rfl
  have bU_28 := bU.cell_ (i := 28) rfl
  have bU_29 := bU.cell_ (i := 29) rfl
  have bU_30 := bU.cell_ (i := 30) rfl
  have bU_31 := bU.cell_ (i := 31) rfl
  go_upto_region 5 with fail
  have kq : Keep w4 (w4.alloc (.cells #[.int .i64 s.e, .int .u32 s.seq, .int .u64 s.tok, .int .u8 s.ph, .int .u64 s.tm, .bool s.has, .slice sba s.bid.length sbc, .int .i64 s.item, .int .i64 s.pays, .slice sca s.cert.length scc] 37)) := Keep.alloc1 _ _
  have bS := Blk.new w4 37 [.int .i64 s.e, .int .u32 s.seq, .int .u64 s.tok, .int .u8 s.ph, .int .u64 s.tm, .bool s.has, .slice sba s.bid.length sbc, .int .i64 s.item, .int .i64 s.pays, .slice sca s.cert.length scc]
  change Code.wp _ _ _ _ (w4.alloc (.cells #[.int .i64 s.e, .int .u32 s.seq, .int .u64 s.tok, .int .u8 s.ph, .int .u64 s.tm, .bool s.has, .slice sba s.bid.length sbc, .int .i64 s.item, .int .i64 s.pays, .slice sca s.cert.length scc] 37))
  generalize w4.alloc (.cells #[.int .i64 s.e, .int .u32 s.seq, .int .u64 s.tok, .int .u8 s.ph, .int .u64 s.tm, .bool s.has, .slice sba s.bid.length sbc, .int .i64 s.item, .int .i64 s.pays, .slice sca s.cert.length scc] 37) = w5 at kq bS ⊢
  generalize w4.heap.size = gbS at bS ⊢
  replace hP := hP.keep kq
  replace hf := hf.keep kq
  replace hg := hg.keep kq
  replace hr := hr.keep kq
  replace hs := hs.keep kq
  replace bU := bU.keep kq
  replace bF := bF.keep kq
  replace bG := bG.keep kq
  replace bR := bR.keep kq
  replace kk := kk.trans kq
  clear kq
  clear bU_0 bU_1 bU_2 bU_3 bU_4 bU_5 bU_6 bU_7 bU_8 bU_9 bU_10 bU_11 bU_12 bU_13 bU_14 bU_15 bU_16 bU_17 bU_18 bU_19 bU_20 bU_21 bU_22 bU_23 bU_24 bU_25 bU_26 bU_27 bU_28 bU_29 bU_30 bU_31
  clear bU
  have bF_0 := bF.cell_ (i := 0) rfl
  have bF_1 := bF.cell_ (i := 1) rfl
  have bF_2 := bF.cell_ (i := 2) rfl
  have bF_3 := bF.cell_ (i := 3) rfl
  have bF_4 := bF.cell_ (i := 4) rfl
  have bF_5 := bF.cell_ (i := 5) rfl
  have hq := putF_f (Frm.mk f fsa fsc fba fbc) w5 hf hP p1.out
  unfold Frm.val at hq
  simp only at hq
  go_wp2_with fail
  refine hq.mono ?_
  rintro e w6 ⟨A1, rfl, f1, kq⟩
  clear hq
  replace hP := hP.keep kq
  replace hf := hf.keep kq
  replace hg := hg.keep kq
  replace hr := hr.keep kq
  replace hs := hs.keep kq
  replace bF := bF.keep kq
  replace bG := bG.keep kq
  replace bR := bR.keep kq
  replace bS := bS.keep kq
  replace kk := kk.trans kq
  clear kq
  clear bF_0 bF_1 bF_2 bF_3 bF_4 bF_5
  have bG_0 := bG.cell_ (i := 0) rfl
  have bG_1 := bG.cell_ (i := 1) rfl
  have bG_2 := bG.cell_ (i := 2) rfl
  have bG_3 := bG.cell_ (i := 3) rfl
  have bG_4 := bG.cell_ (i := 4) rfl
  have bG_5 := bG.cell_ (i := 5) rfl
  have hq := putF_f (Frm.mk g gsa gsc gba gbc) w6 hg hP p2.out
  unfold Frm.val at hq
  simp only at hq
  go_wp2_with fail
  refine hq.mono ?_
  rintro e w7 ⟨A2, rfl, f2, kq⟩
  clear hq
  replace hP := hP.keep kq
  replace hf := hf.keep kq
  replace hg := hg.keep kq
  replace hr := hr.keep kq
  replace hs := hs.keep kq
  replace bF := bF.keep kq
  replace bG := bG.keep kq
  replace bR := bR.keep kq
  replace bS := bS.keep kq
  replace f1 := f1.keep kq
  replace kk := kk.trans kq
  clear kq
  clear bG_0 bG_1 bG_2 bG_3 bG_4 bG_5
  go_upto_region 7 with fail
  rcases q1.out with ⟨rfl, m1, rfl⟩ | ⟨z1, z1'⟩
  · rcases q2.out with ⟨rfl, m2, rfl⟩ | ⟨z2, z2'⟩
    · have hB := Lib.hid (unlikeF m1 m2 ⟨hf.who, hf.seq, hf.tok⟩ ⟨hg.who, hg.seq, hg.tok⟩)
      obtain ⟨-, -, l11, l12, -⟩ := mayF_facts m1
      obtain ⟨-, -, l21, l22, -⟩ := mayF_facts m2
      have y1 : (bytesF f).length ≤ 2000 := by rw [length_bytesF]; omega
      have y2 : (bytesF g).length ≤ 2000 := by rw [length_bytesF]; omega
      clear m1 m2
      obtain ⟨L1, hL1⟩ : ∃ L, L = bytesF f := ⟨_, rfl⟩
      obtain ⟨L2, hL2⟩ : ∃ L, L = bytesF g := ⟨_, rfl⟩
      rw [← hL1] at f1 y1 hB
      rw [← hL2] at f2 y2 hB
      rw [← hL1, ← hL2]
      clear hL1 hL2
      obtain ⟨B, hBe⟩ : ∃ B, B = sameFV f g := ⟨_, rfl⟩
      rw [← hBe] at hB
      have HS : ∀ v, Keep w7 v → (fun v => v.cell? ⟨gbF, 0, none⟩ = some (.int .u8 f.ask) ∧ v.cell? ⟨gbF, 1, none⟩ = some (.int .u8 f.who) ∧ v.cell? ⟨gbF, 2, none⟩ = some (.int .u32 f.seq) ∧ v.cell? ⟨gbF, 3, none⟩ = some (.int .u64 f.tok) ∧ v.cell? ⟨gbF, 4, none⟩ = some (.slice fsa f.sec.length fsc) ∧ v.cell? ⟨gbF, 5, none⟩ = some (.slice fba f.bid.length fbc) ∧ v.cell? ⟨gbG, 0, none⟩ = some (.int .u8 g.ask) ∧ v.cell? ⟨gbG, 1, none⟩ = some (.int .u8 g.who) ∧ v.cell? ⟨gbG, 2, none⟩ = some (.int .u32 g.seq) ∧ v.cell? ⟨gbG, 3, none⟩ = some (.int .u64 g.tok) ∧ v.cell? ⟨gbG, 4, none⟩ = some (.slice gsa g.sec.length gsc) ∧ v.cell? ⟨gbG, 5, none⟩ = some (.slice gba g.bid.length gbc)) v := fun v K' => ⟨K'.cell (bF.cell_ (i := 0) rfl), K'.cell (bF.cell_ (i := 1) rfl), K'.cell (bF.cell_ (i := 2) rfl), K'.cell (bF.cell_ (i := 3) rfl), K'.cell (bF.cell_ (i := 4) rfl), K'.cell (bF.cell_ (i := 5) rfl), K'.cell (bG.cell_ (i := 0) rfl), K'.cell (bG.cell_ (i := 1) rfl), K'.cell (bG.cell_ (i := 2) rfl), K'.cell (bG.cell_ (i := 3) rfl), K'.cell (bG.cell_ (i := 4) rfl), K'.cell (bG.cell_ (i := 5) rfl)⟩
      have kz := Keep.refl w7
      refine wp_region_noPanic ?_
      refine wp_region_held_drew (S := (fun v => v.cell? ⟨gbF, 0, none⟩ = some (.int .u8 f.ask) ∧ v.cell? ⟨gbF, 1, none⟩ = some (.int .u8 f.who) ∧ v.cell? ⟨gbF, 2, none⟩ = some (.int .u32 f.seq) ∧ v.cell? ⟨gbF, 3, none⟩ = some (.int .u64 f.tok) ∧ v.cell? ⟨gbF, 4, none⟩ = some (.slice fsa f.sec.length fsc) ∧ v.cell? ⟨gbF, 5, none⟩ = some (.slice fba f.bid.length fbc) ∧ v.cell? ⟨gbG, 0, none⟩ = some (.int .u8 g.ask) ∧ v.cell? ⟨gbG, 1, none⟩ = some (.int .u8 g.who) ∧ v.cell? ⟨gbG, 2, none⟩ = some (.int .u32 g.seq) ∧ v.cell? ⟨gbG, 3, none⟩ = some (.int .u64 g.tok) ∧ v.cell? ⟨gbG, 4, none⟩ = some (.slice gsa g.sec.length gsc) ∧ v.cell? ⟨gbG, 5, none⟩ = some (.slice gba g.bid.length gbc))) (by kernel_rfl) (HS _ kz.drew) (fun hS => ?_)
      replace kz := kz.drew
      generalize w7.drew = v0 at hS kz ⊢
      refine wpAnyH_take (i := 0) (v := ?_) rfl (by kernel_rfl) (by kernel_rfl) (by kernel_rfl) (fun _ _ _ h => h) (Or.inl ⟨by rfl, ?_⟩) hS ?_
      rotate_left
      · (intro w hSw; (try dsimp only at hSw); go_simp; (first | done | with_reducible rfl))
      change wpAnyH _ _ _ _ _ _ _ (Act.put _ (some 31) _) _
      simp only [Act.put, List.setIfInBounds_toArray, List.set_cons_zero, List.set_cons_succ]
      refine wpAnyH_take (i := 1) (v := ?_) rfl (by kernel_rfl) (by kernel_rfl) (by kernel_rfl) (fun _ _ _ h => h) (Or.inl ⟨by rfl, ?_⟩) hS ?_
      rotate_left
      · (intro w hSw; (try dsimp only at hSw); go_simp; (first | done | with_reducible rfl))
      change wpAnyH _ _ _ _ _ _ _ (Act.put _ (some 32) _) _
      simp only [Act.put, List.setIfInBounds_toArray, List.set_cons_zero, List.set_cons_succ]
      refine wpAnyH_take (i := 2) (v := ?_) rfl (by kernel_rfl) (by kernel_rfl) (by kernel_rfl) (fun _ _ _ h => h) (Or.inl ⟨by rfl, ?_⟩) hS ?_
      rotate_left
      · (intro w hSw; (try dsimp only at hSw); go_simp; (first | done | with_reducible rfl))
      change wpAnyH _ _ _ _ _ _ _ (Act.put _ (some 33) _) _
      simp only [Act.put, List.setIfInBounds_toArray, List.set_cons_zero, List.set_cons_succ]
      refine wpAnyH_take (i := 3) (v := ?_) rfl (by kernel_rfl) (by kernel_rfl) (by kernel_rfl) (fun _ _ _ h => h) (Or.inl ⟨by rfl, ?_⟩) hS ?_
      rotate_left
      · (intro w hSw; (try dsimp only at hSw); go_simp; (first | done | with_reducible rfl))
      change wpAnyH _ _ _ _ _ _ _ (Act.put _ (some 34) _) _
      simp only [Act.put, List.setIfInBounds_toArray, List.set_cons_zero, List.set_cons_succ]
      refine wpAnyH_take (i := 4) (v := ?_) rfl (by kernel_rfl) (by kernel_rfl) (by kernel_rfl) (fun _ _ _ h => h) (Or.inl ⟨by rfl, ?_⟩) hS ?_
      rotate_left
      · (intro w hSw; (try dsimp only at hSw); go_simp; (first | done | with_reducible rfl))
      change wpAnyH _ _ _ _ _ _ _ (Act.put _ (some 35) _) _
      simp only [Act.put, List.setIfInBounds_toArray, List.set_cons_zero, List.set_cons_succ]
      refine wpAnyH_take (i := 5) (v := ?_) rfl (by kernel_rfl) (by kernel_rfl) (by kernel_rfl) (fun _ _ _ h => h) (Or.inl ⟨by rfl, ?_⟩) hS ?_
      rotate_left
      · (intro w hSw; (try dsimp only at hSw); go_simp; (first | done | with_reducible rfl))
      change wpAnyH _ _ _ _ _ _ _ (Act.put _ (some 36) _) _
      simp only [Act.put, List.setIfInBounds_toArray, List.set_cons_zero, List.set_cons_succ]
      refine wpAnyH_take (i := 6) (v := ?_) rfl (by kernel_rfl) (by kernel_rfl) (by kernel_rfl) (fun _ _ _ h => h) (Or.inl ⟨by rfl, ?_⟩) hS ?_
      rotate_left
      · (intro w hSw; (try dsimp only at hSw); go_simp; (first | done | with_reducible rfl))
      change wpAnyH _ _ _ _ _ _ _ (Act.put _ (some 37) _) _
      simp only [Act.put, List.setIfInBounds_toArray, List.set_cons_zero, List.set_cons_succ]
      refine wpAnyH_take (i := 7) (v := ?_) rfl (by kernel_rfl) (by kernel_rfl) (by kernel_rfl) (fun _ _ _ h => h) (Or.inl ⟨by rfl, ?_⟩) hS ?_
      rotate_left
      · (intro w hSw; (try dsimp only at hSw); go_simp; (first | done | with_reducible rfl))
      change wpAnyH _ _ _ _ _ _ _ (Act.put _ (some 38) _) _
      simp only [Act.put, List.setIfInBounds_toArray, List.set_cons_zero, List.set_cons_succ]
      refine wpAnyH_take (i := 8) (v := ?_) rfl (by kernel_rfl) (by kernel_rfl) (by kernel_rfl) (fun _ _ _ h => h) (Or.inl ⟨by rfl, ?_⟩) hS ?_
      rotate_left
      · (intro w hSw; (try dsimp only at hSw); go_simp; (first | done | with_reducible rfl))
      change wpAnyH _ _ _ _ _ _ _ (Act.put _ (some 39) _) _
      simp only [Act.put, List.setIfInBounds_toArray, List.set_cons_zero, List.set_cons_succ]
      refine wpAnyH_take (i := 10) (v := ?_) rfl (by kernel_rfl) (by kernel_rfl) (by kernel_rfl) (fun _ _ _ h => h) (Or.inl ⟨by rfl, ?_⟩) hS ?_
      rotate_left
      · (intro w hSw; (try dsimp only at hSw); go_simp; (first | done | with_reducible rfl))
      change wpAnyH _ _ _ _ _ _ _ (Act.put _ (some 41) _) _
      simp only [Act.put, List.setIfInBounds_toArray, List.set_cons_zero, List.set_cons_succ]
      refine wpAnyH_take (i := 11) (v := ?_) rfl (by kernel_rfl) (by kernel_rfl) (by kernel_rfl) (fun _ _ _ h => h) (Or.inl ⟨by rfl, ?_⟩) hS ?_
      rotate_left
      · (intro w hSw; (try dsimp only at hSw); go_simp; (first | done | with_reducible rfl))
      change wpAnyH _ _ _ _ _ _ _ (Act.put _ (some 42) _) _
      simp only [Act.put, List.setIfInBounds_toArray, List.set_cons_zero, List.set_cons_succ]
      refine wpAnyH_ready (rs := [9]) (by kernel_rfl) (by simp) ?_
      refine AllReadyH.cons rfl (fun K hK => ?_) AllReadyH.nil
      go_simp
      have hq := saysK (sameBytes A1 A2 L1.length L2.length L1 L2 v0 (f1.keep kz).rd (f2.keep kz).rd (by unfold Reach; omega) (by unfold Reach; omega))
      rw [hB.out] at hq
      refine hq.mono ?_
      rintro e v1 ⟨rfl, kq⟩
      clear hq
      go_wp2_with fail
      refine hK.out _ _ (HS _ (kz.trans kq)) (fun hS => ?_)
      clear hK K
      try simp only [Act.put, List.setIfInBounds_toArray, List.set_cons_zero, List.set_cons_succ]
      refine wpAnyH_ready (rs := [12]) (by kernel_rfl) (by simp) ?_
      refine AllReadyH.cons rfl (fun K hK => ?_) AllReadyH.nil
      go_simp
      replace kz := kz.trans kq
      clear kq
      have hq := sameFrame_f (Frm.mk f fsa fsc fba fbc) (Frm.mk g gsa gsc gba gbc) v1 (hf.keep kz) (hg.keep kz) (by unfold Reach; simp only; omega) (by unfold Reach; simp only; omega) (by unfold Reach; simp only; omega) (by unfold Reach; simp only; omega)
      unfold Frm.val at hq
      simp only at hq
      rw [← hBe] at hq
      refine hq.mono ?_
      rintro e v2 ⟨rfl, kq⟩
      clear hq
      go_wp2_with fail
      refine hK.out _ _ (HS _ (kz.trans kq)) (fun hS => ?_)
      clear hK K
      try simp only [Act.put, List.setIfInBounds_toArray, List.set_cons_zero, List.set_cons_succ]
      refine wpAnyH_take (i := 13) (v := ?_) rfl (by kernel_rfl) (by kernel_rfl) (by kernel_rfl) (fun _ _ _ h => h) (Or.inl ⟨by rfl, ?_⟩) hS ?_
      rotate_left
      · (intro w hSw; (try dsimp only at hSw); go_simp; (first | done | with_reducible rfl))
      change wpAnyH _ _ _ _ _ _ _ (Act.put _ (some 44) _) _
      simp only [Act.put, List.setIfInBounds_toArray, List.set_cons_zero, List.set_cons_succ]
      refine wpAnyH_take (i := 14) (v := ?_) rfl (by kernel_rfl) (by kernel_rfl) (by kernel_rfl) (fun _ _ _ h => h) (Or.inl ⟨by rfl, ?_⟩) hS ?_
      rotate_left
      · (intro w hSw; (try dsimp only at hSw); go_simp; (first | done | with_reducible rfl))
      change wpAnyH _ _ _ _ _ _ _ (Act.put _ (some 45) _) _
      simp only [Act.put, List.setIfInBounds_toArray, List.set_cons_zero, List.set_cons_succ]
      refine wpAnyH_done (by kernel_rfl) ?_ _
      refine NoPanic.normal ?_
      replace kz := kz.trans kq
      clear kq
      replace hP := hP.keep kz
      replace hf := hf.keep kz
      replace hg := hg.keep kz
      replace hr := hr.keep kz
      replace hs := hs.keep kz
      replace bF := bF.keep kz
      replace bG := bG.keep kz
      replace bR := bR.keep kz
      replace bS := bS.keep kz
      replace f1 := f1.keep kz
      replace f2 := f2.keep kz
      replace kk := kk.trans kz
      clear kz
      clear HS hS
      clear f1 f2 bF bG
      go_upto_region 9 with fail
      have bR_0 := bR.cell_ (i := 0) rfl
      have bR_1 := bR.cell_ (i := 1) rfl
      have bR_2 := bR.cell_ (i := 2) rfl
      have bR_3 := bR.cell_ (i := 3) rfl
      have bR_4 := bR.cell_ (i := 4) rfl
      have bR_5 := bR.cell_ (i := 5) rfl
      have bR_6 := bR.cell_ (i := 6) rfl
      have bR_7 := bR.cell_ (i := 7) rfl
      have bR_8 := bR.cell_ (i := 8) rfl
      have bR_9 := bR.cell_ (i := 9) rfl
      have hq := putR_f (Rpl.mk r rba rbc rca rcc) v2 hr p3.out
      unfold Rpl.val at hq
      simp only at hq
      go_wp2_with fail
      refine hq.mono ?_
      rintro e w8 ⟨A3, rfl, f3, kq⟩
      clear hq
      replace hP := hP.keep kq
      replace hf := hf.keep kq
      replace hg := hg.keep kq
      replace hr := hr.keep kq
      replace hs := hs.keep kq
      replace bR := bR.keep kq
      replace bS := bS.keep kq
      replace kk := kk.trans kq
      clear kq
      clear bR_0 bR_1 bR_2 bR_3 bR_4 bR_5 bR_6 bR_7 bR_8 bR_9
      have bS_0 := bS.cell_ (i := 0) rfl
      have bS_1 := bS.cell_ (i := 1) rfl
      have bS_2 := bS.cell_ (i := 2) rfl
      have bS_3 := bS.cell_ (i := 3) rfl
      have bS_4 := bS.cell_ (i := 4) rfl
      have bS_5 := bS.cell_ (i := 5) rfl
      have bS_6 := bS.cell_ (i := 6) rfl
      have bS_7 := bS.cell_ (i := 7) rfl
      have bS_8 := bS.cell_ (i := 8) rfl
      have bS_9 := bS.cell_ (i := 9) rfl
      have hq := putR_f (Rpl.mk s sba sbc sca scc) w8 hs p4.out
      unfold Rpl.val at hq
      simp only at hq
      go_wp2_with fail
      refine hq.mono ?_
      rintro e w9 ⟨A4, rfl, f4, kq⟩
      clear hq
      replace hP := hP.keep kq
      replace hf := hf.keep kq
      replace hg := hg.keep kq
      replace hr := hr.keep kq
      replace hs := hs.keep kq
      replace bR := bR.keep kq
      replace bS := bS.keep kq
      replace f3 := f3.keep kq
      replace kk := kk.trans kq
      clear kq
      clear bS_0 bS_1 bS_2 bS_3 bS_4 bS_5 bS_6 bS_7 bS_8 bS_9
      go_upto_region 11 with fail
      rcases q3.out with ⟨rfl, m3, rfl⟩ | ⟨z3, z3'⟩
      · rcases q4.out with ⟨rfl, m4, rfl⟩ | ⟨z4, z4'⟩
        · have hB := Lib.hid (unlikeR m3 m4 ⟨hr.seq, hr.tok⟩ ⟨hs.seq, hs.tok⟩)
          obtain ⟨-, -, -, -, -, -, -, -, l31, l32, -⟩ := mayR_facts m3
          obtain ⟨-, -, -, -, -, -, -, -, l41, l42, -⟩ := mayR_facts m4
          have y3 : (bytesR r).length ≤ 2000 := by rw [length_bytesR]; omega
          have y4 : (bytesR s).length ≤ 2000 := by rw [length_bytesR]; omega
          clear m3 m4
          obtain ⟨L3, hL3⟩ : ∃ L, L = bytesR r := ⟨_, rfl⟩
          obtain ⟨L4, hL4⟩ : ∃ L, L = bytesR s := ⟨_, rfl⟩
          rw [← hL3] at f3 y3 hB
          rw [← hL4] at f4 y4 hB
          rw [← hL3, ← hL4]
          clear hL3 hL4
          obtain ⟨B, hBe⟩ : ∃ B, B = sameRV r s := ⟨_, rfl⟩
          rw [← hBe] at hB
          have HS : ∀ v, Keep w9 v → (fun v => v.cell? ⟨gbR, 0, none⟩ = some (.int .i64 r.e) ∧ v.cell? ⟨gbR, 1, none⟩ = some (.int .u32 r.seq) ∧ v.cell? ⟨gbR, 2, none⟩ = some (.int .u64 r.tok) ∧ v.cell? ⟨gbR, 3, none⟩ = some (.int .u8 r.ph) ∧ v.cell? ⟨gbR, 4, none⟩ = some (.int .u64 r.tm) ∧ v.cell? ⟨gbR, 5, none⟩ = some (.bool r.has) ∧ v.cell? ⟨gbR, 6, none⟩ = some (.slice rba r.bid.length rbc) ∧ v.cell? ⟨gbR, 7, none⟩ = some (.int .i64 r.item) ∧ v.cell? ⟨gbR, 8, none⟩ = some (.int .i64 r.pays) ∧ v.cell? ⟨gbR, 9, none⟩ = some (.slice rca r.cert.length rcc) ∧ v.cell? ⟨gbS, 0, none⟩ = some (.int .i64 s.e) ∧ v.cell? ⟨gbS, 1, none⟩ = some (.int .u32 s.seq) ∧ v.cell? ⟨gbS, 2, none⟩ = some (.int .u64 s.tok) ∧ v.cell? ⟨gbS, 3, none⟩ = some (.int .u8 s.ph) ∧ v.cell? ⟨gbS, 4, none⟩ = some (.int .u64 s.tm) ∧ v.cell? ⟨gbS, 5, none⟩ = some (.bool s.has) ∧ v.cell? ⟨gbS, 6, none⟩ = some (.slice sba s.bid.length sbc) ∧ v.cell? ⟨gbS, 7, none⟩ = some (.int .i64 s.item) ∧ v.cell? ⟨gbS, 8, none⟩ = some (.int .i64 s.pays) ∧ v.cell? ⟨gbS, 9, none⟩ = some (.slice sca s.cert.length scc)) v := fun v K' => ⟨K'.cell (bR.cell_ (i := 0) rfl), K'.cell (bR.cell_ (i := 1) rfl), K'.cell (bR.cell_ (i := 2) rfl), K'.cell (bR.cell_ (i := 3) rfl), K'.cell (bR.cell_ (i := 4) rfl), K'.cell (bR.cell_ (i := 5) rfl), K'.cell (bR.cell_ (i := 6) rfl), K'.cell (bR.cell_ (i := 7) rfl), K'.cell (bR.cell_ (i := 8) rfl), K'.cell (bR.cell_ (i := 9) rfl), K'.cell (bS.cell_ (i := 0) rfl), K'.cell (bS.cell_ (i := 1) rfl), K'.cell (bS.cell_ (i := 2) rfl), K'.cell (bS.cell_ (i := 3) rfl), K'.cell (bS.cell_ (i := 4) rfl), K'.cell (bS.cell_ (i := 5) rfl), K'.cell (bS.cell_ (i := 6) rfl), K'.cell (bS.cell_ (i := 7) rfl), K'.cell (bS.cell_ (i := 8) rfl), K'.cell (bS.cell_ (i := 9) rfl)⟩
          have kz := Keep.refl w9
          refine wp_region_noPanic ?_
          refine wp_region_held_drew (S := (fun v => v.cell? ⟨gbR, 0, none⟩ = some (.int .i64 r.e) ∧ v.cell? ⟨gbR, 1, none⟩ = some (.int .u32 r.seq) ∧ v.cell? ⟨gbR, 2, none⟩ = some (.int .u64 r.tok) ∧ v.cell? ⟨gbR, 3, none⟩ = some (.int .u8 r.ph) ∧ v.cell? ⟨gbR, 4, none⟩ = some (.int .u64 r.tm) ∧ v.cell? ⟨gbR, 5, none⟩ = some (.bool r.has) ∧ v.cell? ⟨gbR, 6, none⟩ = some (.slice rba r.bid.length rbc) ∧ v.cell? ⟨gbR, 7, none⟩ = some (.int .i64 r.item) ∧ v.cell? ⟨gbR, 8, none⟩ = some (.int .i64 r.pays) ∧ v.cell? ⟨gbR, 9, none⟩ = some (.slice rca r.cert.length rcc) ∧ v.cell? ⟨gbS, 0, none⟩ = some (.int .i64 s.e) ∧ v.cell? ⟨gbS, 1, none⟩ = some (.int .u32 s.seq) ∧ v.cell? ⟨gbS, 2, none⟩ = some (.int .u64 s.tok) ∧ v.cell? ⟨gbS, 3, none⟩ = some (.int .u8 s.ph) ∧ v.cell? ⟨gbS, 4, none⟩ = some (.int .u64 s.tm) ∧ v.cell? ⟨gbS, 5, none⟩ = some (.bool s.has) ∧ v.cell? ⟨gbS, 6, none⟩ = some (.slice sba s.bid.length sbc) ∧ v.cell? ⟨gbS, 7, none⟩ = some (.int .i64 s.item) ∧ v.cell? ⟨gbS, 8, none⟩ = some (.int .i64 s.pays) ∧ v.cell? ⟨gbS, 9, none⟩ = some (.slice sca s.cert.length scc))) (by kernel_rfl) (HS _ kz.drew) (fun hS => ?_)
          replace kz := kz.drew
          generalize w9.drew = v0 at hS kz ⊢
          refine wpAnyH_take (i := 0) (v := ?_) rfl (by kernel_rfl) (by kernel_rfl) (by kernel_rfl) (fun _ _ _ h => h) (Or.inl ⟨by rfl, ?_⟩) hS ?_
          rotate_left
          · (intro w hSw; (try dsimp only at hSw); go_simp; (first | done | with_reducible rfl))
          change wpAnyH _ _ _ _ _ _ _ (Act.put _ (some 56) _) _
          simp only [Act.put, List.setIfInBounds_toArray, List.set_cons_zero, List.set_cons_succ]
          refine wpAnyH_take (i := 1) (v := ?_) rfl (by kernel_rfl) (by kernel_rfl) (by kernel_rfl) (fun _ _ _ h => h) (Or.inl ⟨by rfl, ?_⟩) hS ?_
          rotate_left
          · (intro w hSw; (try dsimp only at hSw); go_simp; (first | done | with_reducible rfl))
          change wpAnyH _ _ _ _ _ _ _ (Act.put _ (some 57) _) _
          simp only [Act.put, List.setIfInBounds_toArray, List.set_cons_zero, List.set_cons_succ]
          refine wpAnyH_take (i := 2) (v := ?_) rfl (by kernel_rfl) (by kernel_rfl) (by kernel_rfl) (fun _ _ _ h => h) (Or.inl ⟨by rfl, ?_⟩) hS ?_
          rotate_left
          · (intro w hSw; (try dsimp only at hSw); go_simp; (first | done | with_reducible rfl))
          change wpAnyH _ _ _ _ _ _ _ (Act.put _ (some 58) _) _
          simp only [Act.put, List.setIfInBounds_toArray, List.set_cons_zero, List.set_cons_succ]
          refine wpAnyH_take (i := 3) (v := ?_) rfl (by kernel_rfl) (by kernel_rfl) (by kernel_rfl) (fun _ _ _ h => h) (Or.inl ⟨by rfl, ?_⟩) hS ?_
          rotate_left
          · (intro w hSw; (try dsimp only at hSw); go_simp; (first | done | with_reducible rfl))
          change wpAnyH _ _ _ _ _ _ _ (Act.put _ (some 59) _) _
          simp only [Act.put, List.setIfInBounds_toArray, List.set_cons_zero, List.set_cons_succ]
          refine wpAnyH_take (i := 4) (v := ?_) rfl (by kernel_rfl) (by kernel_rfl) (by kernel_rfl) (fun _ _ _ h => h) (Or.inl ⟨by rfl, ?_⟩) hS ?_
          rotate_left
          · (intro w hSw; (try dsimp only at hSw); go_simp; (first | done | with_reducible rfl))
          change wpAnyH _ _ _ _ _ _ _ (Act.put _ (some 60) _) _
          simp only [Act.put, List.setIfInBounds_toArray, List.set_cons_zero, List.set_cons_succ]
          refine wpAnyH_take (i := 5) (v := ?_) rfl (by kernel_rfl) (by kernel_rfl) (by kernel_rfl) (fun _ _ _ h => h) (Or.inl ⟨by rfl, ?_⟩) hS ?_
          rotate_left
          · (intro w hSw; (try dsimp only at hSw); go_simp; (first | done | with_reducible rfl))
          change wpAnyH _ _ _ _ _ _ _ (Act.put _ (some 61) _) _
          simp only [Act.put, List.setIfInBounds_toArray, List.set_cons_zero, List.set_cons_succ]
          refine wpAnyH_take (i := 6) (v := ?_) rfl (by kernel_rfl) (by kernel_rfl) (by kernel_rfl) (fun _ _ _ h => h) (Or.inl ⟨by rfl, ?_⟩) hS ?_
          rotate_left
          · (intro w hSw; (try dsimp only at hSw); go_simp; (first | done | with_reducible rfl))
          change wpAnyH _ _ _ _ _ _ _ (Act.put _ (some 62) _) _
          simp only [Act.put, List.setIfInBounds_toArray, List.set_cons_zero, List.set_cons_succ]
          refine wpAnyH_take (i := 7) (v := ?_) rfl (by kernel_rfl) (by kernel_rfl) (by kernel_rfl) (fun _ _ _ h => h) (Or.inl ⟨by rfl, ?_⟩) hS ?_
          rotate_left
          · (intro w hSw; (try dsimp only at hSw); go_simp; (first | done | with_reducible rfl))
          change wpAnyH _ _ _ _ _ _ _ (Act.put _ (some 63) _) _
          simp only [Act.put, List.setIfInBounds_toArray, List.set_cons_zero, List.set_cons_succ]
          refine wpAnyH_take (i := 8) (v := ?_) rfl (by kernel_rfl) (by kernel_rfl) (by kernel_rfl) (fun _ _ _ h => h) (Or.inl ⟨by rfl, ?_⟩) hS ?_
          rotate_left
          · (intro w hSw; (try dsimp only at hSw); go_simp; (first | done | with_reducible rfl))
          change wpAnyH _ _ _ _ _ _ _ (Act.put _ (some 64) _) _
          simp only [Act.put, List.setIfInBounds_toArray, List.set_cons_zero, List.set_cons_succ]
          refine wpAnyH_take (i := 10) (v := ?_) rfl (by kernel_rfl) (by kernel_rfl) (by kernel_rfl) (fun _ _ _ h => h) (Or.inl ⟨by rfl, ?_⟩) hS ?_
          rotate_left
          · (intro w hSw; (try dsimp only at hSw); go_simp; (first | done | with_reducible rfl))
          change wpAnyH _ _ _ _ _ _ _ (Act.put _ (some 66) _) _
          simp only [Act.put, List.setIfInBounds_toArray, List.set_cons_zero, List.set_cons_succ]
          refine wpAnyH_take (i := 11) (v := ?_) rfl (by kernel_rfl) (by kernel_rfl) (by kernel_rfl) (fun _ _ _ h => h) (Or.inl ⟨by rfl, ?_⟩) hS ?_
          rotate_left
          · (intro w hSw; (try dsimp only at hSw); go_simp; (first | done | with_reducible rfl))
          change wpAnyH _ _ _ _ _ _ _ (Act.put _ (some 67) _) _
          simp only [Act.put, List.setIfInBounds_toArray, List.set_cons_zero, List.set_cons_succ]
          refine wpAnyH_ready (rs := [9]) (by kernel_rfl) (by simp) ?_
          refine AllReadyH.cons rfl (fun K hK => ?_) AllReadyH.nil
          go_simp
          have hq := saysK (sameBytes A3 A4 L3.length L4.length L3 L4 v0 (f3.keep kz).rd (f4.keep kz).rd (by unfold Reach; omega) (by unfold Reach; omega))
          rw [hB.out] at hq
          refine hq.mono ?_
          rintro e v1 ⟨rfl, kq⟩
          clear hq
          go_wp2_with fail
          refine hK.out _ _ (HS _ (kz.trans kq)) (fun hS => ?_)
          clear hK K
          try simp only [Act.put, List.setIfInBounds_toArray, List.set_cons_zero, List.set_cons_succ]
          refine wpAnyH_ready (rs := [12]) (by kernel_rfl) (by simp) ?_
          refine AllReadyH.cons rfl (fun K hK => ?_) AllReadyH.nil
          go_simp
          replace kz := kz.trans kq
          clear kq
          have hq := sameReply_f (Rpl.mk r rba rbc rca rcc) (Rpl.mk s sba sbc sca scc) v1 (hr.keep kz) (hs.keep kz) (by unfold Reach; simp only; omega) (by unfold Reach; simp only; omega) (by unfold Reach; simp only; omega) (by unfold Reach; simp only; omega)
          unfold Rpl.val at hq
          simp only at hq
          rw [← hBe] at hq
          refine hq.mono ?_
          rintro e v2 ⟨rfl, kq⟩
          clear hq
          go_wp2_with fail
          refine hK.out _ _ (HS _ (kz.trans kq)) (fun hS => ?_)
          clear hK K
          try simp only [Act.put, List.setIfInBounds_toArray, List.set_cons_zero, List.set_cons_succ]
          refine wpAnyH_take (i := 13) (v := ?_) rfl (by kernel_rfl) (by kernel_rfl) (by kernel_rfl) (fun _ _ _ h => h) (Or.inl ⟨by rfl, ?_⟩) hS ?_
          rotate_left
          · (intro w hSw; (try dsimp only at hSw); go_simp; (first | done | with_reducible rfl))
          change wpAnyH _ _ _ _ _ _ _ (Act.put _ (some 69) _) _
          simp only [Act.put, List.setIfInBounds_toArray, List.set_cons_zero, List.set_cons_succ]
          refine wpAnyH_take (i := 14) (v := ?_) rfl (by kernel_rfl) (by kernel_rfl) (by kernel_rfl) (fun _ _ _ h => h) (Or.inl ⟨by rfl, ?_⟩) hS ?_
          rotate_left
          · (intro w hSw; (try dsimp only at hSw); go_simp; (first | done | with_reducible rfl))
          change wpAnyH _ _ _ _ _ _ _ (Act.put _ (some 70) _) _
          simp only [Act.put, List.setIfInBounds_toArray, List.set_cons_zero, List.set_cons_succ]
          refine wpAnyH_take (i := 15) (v := ?_) rfl (by kernel_rfl) (by kernel_rfl) (by kernel_rfl) (fun _ _ _ h => h) (Or.inl ⟨by rfl, ?_⟩) hS ?_
          rotate_left
          · (intro w hSw; (try dsimp only at hSw); go_simp; (first | done | with_reducible rfl))
          change wpAnyH _ _ _ _ _ _ _ (Act.put _ (some 71) _) _
          simp only [Act.put, List.setIfInBounds_toArray, List.set_cons_zero, List.set_cons_succ]
          refine wpAnyH_ready (rs := [16]) (by kernel_rfl) (by simp) ?_
          refine AllReadyH.cons rfl (fun K hK => ?_) AllReadyH.nil
          go_simp
          replace kz := kz.trans kq
          clear kq
          have hq := lives_f v2 (hP.keep kz)
          refine hq.mono ?_
          rintro e v3 ⟨rfl, kq⟩
          clear hq
          go_wp2_with fail
          refine hK.out _ _ (HS _ (kz.trans kq)) (fun hS => ?_)
          clear hK K
          try simp only [Act.put, List.setIfInBounds_toArray, List.set_cons_zero, List.set_cons_succ]
          refine wpAnyH_take (i := 17) (v := ?_) rfl (by kernel_rfl) (by kernel_rfl) (by kernel_rfl) (fun _ _ _ h => h) (Or.inl ⟨by rfl, ?_⟩) hS ?_
          rotate_left
          · (intro w hSw; (try dsimp only at hSw); go_simp; (first | done | with_reducible rfl))
          change wpAnyH _ _ _ _ _ _ _ (Act.put _ (some 73) _) _
          simp only [Act.put, List.setIfInBounds_toArray, List.set_cons_zero, List.set_cons_succ]
          refine wpAnyH_take (i := 18) (v := ?_) rfl (by kernel_rfl) (by kernel_rfl) (by kernel_rfl) (fun _ _ _ h => h) (Or.inl ⟨by rfl, ?_⟩) hS ?_
          rotate_left
          · (intro w hSw; (try dsimp only at hSw); go_simp; (first | done | with_reducible rfl))
          change wpAnyH _ _ _ _ _ _ _ (Act.put _ (some 2) _) _
          simp only [Act.put, List.setIfInBounds_toArray, List.set_cons_zero, List.set_cons_succ]
          refine wpAnyH_done (by kernel_rfl) ?_ _
          refine NoPanic.normal ?_
          replace kz := kz.trans kq
          clear kq
          replace hP := hP.keep kz
          replace hf := hf.keep kz
          replace hg := hg.keep kz
          replace hr := hr.keep kz
          replace hs := hs.keep kz
          replace bR := bR.keep kz
          replace bS := bS.keep kz
          replace f3 := f3.keep kz
          replace f4 := f4.keep kz
          replace kk := kk.trans kz
          clear kz
          clear HS hS
          go_wp2_with fail
          go_ret
          exact ⟨rfl, kk⟩
        · have HS : ∀ v, Keep w9 v → (fun _ => True) v := fun v K' => trivial
          have kz := Keep.refl w9
          refine wp_region_noPanic ?_
          refine wp_region_held_drew (S := (fun _ => True)) (by kernel_rfl) (HS _ kz.drew) (fun hS => ?_)
          replace kz := kz.drew
          generalize w9.drew = v0 at hS kz ⊢
          refine wpAnyH_take (i := 0) (v := ?_) rfl (by kernel_rfl) (by kernel_rfl) (by kernel_rfl) (fun _ _ _ h => h) (Or.inl ⟨by rfl, ?_⟩) hS ?_
          rotate_left
          · (intro w hSw; (try dsimp only at hSw); go_simp; (first | done | with_reducible rfl))
          change wpAnyH _ _ _ _ _ _ _ (Act.put _ (some 56) _) _
          simp only [Act.put, List.setIfInBounds_toArray, List.set_cons_zero, List.set_cons_succ]
          refine wpAnyH_take (i := 1) (v := ?_) rfl (by kernel_rfl) (by kernel_rfl) (by kernel_rfl) (fun _ _ _ h => h) (Or.inl ⟨by rfl, ?_⟩) hS ?_
          rotate_left
          · (intro w hSw; (try dsimp only at hSw); go_simp; (first | done | with_reducible rfl))
          change wpAnyH _ _ _ _ _ _ _ (Act.put _ (some 57) _) _
          simp only [Act.put, List.setIfInBounds_toArray, List.set_cons_zero, List.set_cons_succ]
          refine wpAnyH_take (i := 2) (v := ?_) rfl (by kernel_rfl) (by kernel_rfl) (by kernel_rfl) (fun _ _ _ h => h) (Or.inl ⟨by rfl, ?_⟩) hS ?_
          rotate_left
          · (intro w hSw; (try dsimp only at hSw); go_simp; (first | done | with_reducible rfl))
          change wpAnyH _ _ _ _ _ _ _ (Act.put _ (some 58) _) _
          simp only [Act.put, List.setIfInBounds_toArray, List.set_cons_zero, List.set_cons_succ]
          refine wpAnyH_take (i := 3) (v := ?_) rfl (by kernel_rfl) (by kernel_rfl) (by kernel_rfl) (fun _ _ _ h => h) (Or.inl ⟨by rfl, ?_⟩) hS ?_
          rotate_left
          · (intro w hSw; (try dsimp only at hSw); go_simp; (first | done | with_reducible rfl))
          change wpAnyH _ _ _ _ _ _ _ (Act.put _ (some 59) _) _
          simp only [Act.put, List.setIfInBounds_toArray, List.set_cons_zero, List.set_cons_succ]
          refine wpAnyH_take (i := 4) (v := ?_) rfl (by kernel_rfl) (by kernel_rfl) (by kernel_rfl) (fun _ _ _ h => h) (Or.inl ⟨by rfl, ?_⟩) hS ?_
          rotate_left
          · (intro w hSw; (try dsimp only at hSw); go_simp; (first | done | with_reducible rfl))
          change wpAnyH _ _ _ _ _ _ _ (Act.put _ (some 60) _) _
          simp only [Act.put, List.setIfInBounds_toArray, List.set_cons_zero, List.set_cons_succ]
          refine wpAnyH_take (i := 5) (v := ?_) rfl (by kernel_rfl) (by kernel_rfl) (by kernel_rfl) (fun _ _ _ h => h) (Or.inl ⟨by rfl, ?_⟩) hS ?_
          rotate_left
          · (intro w hSw; (try dsimp only at hSw); go_simp; (first | done | with_reducible rfl))
          change wpAnyH _ _ _ _ _ _ _ (Act.put _ (some 61) _) _
          simp only [Act.put, List.setIfInBounds_toArray, List.set_cons_zero, List.set_cons_succ]
          refine wpAnyH_take (i := 6) (v := ?_) rfl (by kernel_rfl) (by kernel_rfl) (by kernel_rfl) (fun _ _ _ h => h) (Or.inl ⟨by rfl, ?_⟩) hS ?_
          rotate_left
          · (intro w hSw; (try dsimp only at hSw); go_simp; (first | done | with_reducible rfl))
          change wpAnyH _ _ _ _ _ _ _ (Act.put _ (some 62) _) _
          simp only [Act.put, List.setIfInBounds_toArray, List.set_cons_zero, List.set_cons_succ]
          refine wpAnyH_take (i := 7) (v := undef) rfl (by kernel_rfl) (by kernel_rfl) (by kernel_rfl) (fun _ _ _ h => h) (Or.inr ⟨by rfl, rfl⟩) hS ?_
          change wpAnyH _ _ _ _ _ _ _ (Act.put _ (some 63) _) _
          simp only [Act.put, List.setIfInBounds_toArray, List.set_cons_zero, List.set_cons_succ]
          refine wpAnyH_take (i := 8) (v := undef) rfl (by kernel_rfl) (by kernel_rfl) (by kernel_rfl) (fun _ _ _ h => h) (Or.inr ⟨by rfl, rfl⟩) hS ?_
          change wpAnyH _ _ _ _ _ _ _ (Act.put _ (some 64) _) _
          simp only [Act.put, List.setIfInBounds_toArray, List.set_cons_zero, List.set_cons_succ]
          refine wpAnyH_take (i := 9) (v := undef) rfl (by kernel_rfl) (by kernel_rfl) (by kernel_rfl) (fun _ _ _ h => h) (Or.inr ⟨by rfl, rfl⟩) hS ?_
          change wpAnyH _ _ _ _ _ _ _ (Act.put _ (some 65) _) _
          simp only [Act.put, List.setIfInBounds_toArray, List.set_cons_zero, List.set_cons_succ]
          refine wpAnyH_take (i := 10) (v := undef) rfl (by kernel_rfl) (by kernel_rfl) (by kernel_rfl) (fun _ _ _ h => h) (Or.inr ⟨by rfl, rfl⟩) hS ?_
          change wpAnyH _ _ _ _ _ _ _ (Act.put _ (some 66) _) _
          simp only [Act.put, List.setIfInBounds_toArray, List.set_cons_zero, List.set_cons_succ]
          refine wpAnyH_take (i := 11) (v := undef) rfl (by kernel_rfl) (by kernel_rfl) (by kernel_rfl) (fun _ _ _ h => h) (Or.inr ⟨by rfl, rfl⟩) hS ?_
          change wpAnyH _ _ _ _ _ _ _ (Act.put _ (some 67) _) _
          simp only [Act.put, List.setIfInBounds_toArray, List.set_cons_zero, List.set_cons_succ]
          refine wpAnyH_take (i := 12) (v := undef) rfl (by kernel_rfl) (by kernel_rfl) (by kernel_rfl) (fun _ _ _ h => h) (Or.inr ⟨by rfl, rfl⟩) hS ?_
          change wpAnyH _ _ _ _ _ _ _ (Act.put _ (some 68) _) _
          simp only [Act.put, List.setIfInBounds_toArray, List.set_cons_zero, List.set_cons_succ]
          refine wpAnyH_take (i := 13) (v := undef) rfl (by kernel_rfl) (by kernel_rfl) (by kernel_rfl) (fun _ _ _ h => h) (Or.inr ⟨by rfl, rfl⟩) hS ?_
          change wpAnyH _ _ _ _ _ _ _ (Act.put _ (some 69) _) _
          simp only [Act.put, List.setIfInBounds_toArray, List.set_cons_zero, List.set_cons_succ]
          refine wpAnyH_take (i := 14) (v := ?_) rfl (by kernel_rfl) (by kernel_rfl) (by kernel_rfl) (fun _ _ _ h => h) (Or.inl ⟨by rfl, ?_⟩) hS ?_
          rotate_left
          · (intro w hSw; (try dsimp only at hSw); go_simp; (first | done | with_reducible rfl))
          change wpAnyH _ _ _ _ _ _ _ (Act.put _ (some 70) _) _
          simp only [Act.put, List.setIfInBounds_toArray, List.set_cons_zero, List.set_cons_succ]
          refine wpAnyH_take (i := 15) (v := ?_) rfl (by kernel_rfl) (by kernel_rfl) (by kernel_rfl) (fun _ _ _ h => h) (Or.inl ⟨by rfl, ?_⟩) hS ?_
          rotate_left
          · (intro w hSw; (try dsimp only at hSw); go_simp; (first | done | with_reducible rfl))
          change wpAnyH _ _ _ _ _ _ _ (Act.put _ (some 71) _) _
          simp only [Act.put, List.setIfInBounds_toArray, List.set_cons_zero, List.set_cons_succ]
          refine wpAnyH_ready (rs := [16]) (by kernel_rfl) (by simp) ?_
          refine AllReadyH.cons rfl (fun K hK => ?_) AllReadyH.nil
          go_simp
          have hq := lives_f v0 (hP.keep kz)
          refine hq.mono ?_
          rintro e v1 ⟨rfl, kq⟩
          clear hq
          go_wp2_with fail
          refine hK.out _ _ (HS _ (kz.trans kq)) (fun hS => ?_)
          clear hK K
          try simp only [Act.put, List.setIfInBounds_toArray, List.set_cons_zero, List.set_cons_succ]
          refine wpAnyH_take (i := 17) (v := ?_) rfl (by kernel_rfl) (by kernel_rfl) (by kernel_rfl) (fun _ _ _ h => h) (Or.inl ⟨by rfl, ?_⟩) hS ?_
          rotate_left
          · (intro w hSw; (try dsimp only at hSw); go_simp; (first | done | with_reducible rfl))
          change wpAnyH _ _ _ _ _ _ _ (Act.put _ (some 73) _) _
          simp only [Act.put, List.setIfInBounds_toArray, List.set_cons_zero, List.set_cons_succ]
          refine wpAnyH_take (i := 18) (v := ?_) rfl (by kernel_rfl) (by kernel_rfl) (by kernel_rfl) (fun _ _ _ h => h) (Or.inl ⟨by rfl, ?_⟩) hS ?_
          rotate_left
          · (intro w hSw; (try dsimp only at hSw); go_simp; (first | done | with_reducible rfl))
          change wpAnyH _ _ _ _ _ _ _ (Act.put _ (some 2) _) _
          simp only [Act.put, List.setIfInBounds_toArray, List.set_cons_zero, List.set_cons_succ]
          refine wpAnyH_done (by kernel_rfl) ?_ _
          refine NoPanic.normal ?_
          replace kz := kz.trans kq
          clear kq
          replace hP := hP.keep kz
          replace hf := hf.keep kz
          replace hg := hg.keep kz
          replace hr := hr.keep kz
          replace hs := hs.keep kz
          replace bR := bR.keep kz
          replace bS := bS.keep kz
          replace f3 := f3.keep kz
          replace f4 := f4.keep kz
          replace kk := kk.trans kz
          clear kz
          clear HS hS
          go_wp2_with fail
          go_ret
          exact ⟨rfl, kk⟩
      · have HS : ∀ v, Keep w9 v → (fun _ => True) v := fun v K' => trivial
        have kz := Keep.refl w9
        refine wp_region_noPanic ?_
        refine wp_region_held_drew (S := (fun _ => True)) (by kernel_rfl) (HS _ kz.drew) (fun hS => ?_)
        replace kz := kz.drew
        generalize w9.drew = v0 at hS kz ⊢
        refine wpAnyH_take (i := 0) (v := ?_) rfl (by kernel_rfl) (by kernel_rfl) (by kernel_rfl) (fun _ _ _ h => h) (Or.inl ⟨by rfl, ?_⟩) hS ?_
        rotate_left
        · (intro w hSw; (try dsimp only at hSw); go_simp; (first | done | with_reducible rfl))
        change wpAnyH _ _ _ _ _ _ _ (Act.put _ (some 56) _) _
        simp only [Act.put, List.setIfInBounds_toArray, List.set_cons_zero, List.set_cons_succ]
        refine wpAnyH_take (i := 1) (v := ?_) rfl (by kernel_rfl) (by kernel_rfl) (by kernel_rfl) (fun _ _ _ h => h) (Or.inl ⟨by rfl, ?_⟩) hS ?_
        rotate_left
        · (intro w hSw; (try dsimp only at hSw); go_simp; (first | done | with_reducible rfl))
        change wpAnyH _ _ _ _ _ _ _ (Act.put _ (some 57) _) _
        simp only [Act.put, List.setIfInBounds_toArray, List.set_cons_zero, List.set_cons_succ]
        refine wpAnyH_take (i := 2) (v := ?_) rfl (by kernel_rfl) (by kernel_rfl) (by kernel_rfl) (fun _ _ _ h => h) (Or.inl ⟨by rfl, ?_⟩) hS ?_
        rotate_left
        · (intro w hSw; (try dsimp only at hSw); go_simp; (first | done | with_reducible rfl))
        change wpAnyH _ _ _ _ _ _ _ (Act.put _ (some 58) _) _
        simp only [Act.put, List.setIfInBounds_toArray, List.set_cons_zero, List.set_cons_succ]
        refine wpAnyH_take (i := 3) (v := undef) rfl (by kernel_rfl) (by kernel_rfl) (by kernel_rfl) (fun _ _ _ h => h) (Or.inr ⟨by rfl, rfl⟩) hS ?_
        change wpAnyH _ _ _ _ _ _ _ (Act.put _ (some 59) _) _
        simp only [Act.put, List.setIfInBounds_toArray, List.set_cons_zero, List.set_cons_succ]
        refine wpAnyH_take (i := 4) (v := undef) rfl (by kernel_rfl) (by kernel_rfl) (by kernel_rfl) (fun _ _ _ h => h) (Or.inr ⟨by rfl, rfl⟩) hS ?_
        change wpAnyH _ _ _ _ _ _ _ (Act.put _ (some 60) _) _
        simp only [Act.put, List.setIfInBounds_toArray, List.set_cons_zero, List.set_cons_succ]
        refine wpAnyH_take (i := 5) (v := ?_) rfl (by kernel_rfl) (by kernel_rfl) (by kernel_rfl) (fun _ _ _ h => h) (Or.inl ⟨by rfl, ?_⟩) hS ?_
        rotate_left
        · (intro w hSw; (try dsimp only at hSw); go_simp; (first | done | with_reducible rfl))
        change wpAnyH _ _ _ _ _ _ _ (Act.put _ (some 61) _) _
        simp only [Act.put, List.setIfInBounds_toArray, List.set_cons_zero, List.set_cons_succ]
        refine wpAnyH_take (i := 6) (v := ?_) rfl (by kernel_rfl) (by kernel_rfl) (by kernel_rfl) (fun _ _ _ h => h) (Or.inl ⟨by rfl, ?_⟩) hS ?_
        rotate_left
        · (intro w hSw; (try dsimp only at hSw); go_simp; (first | done | with_reducible rfl))
        change wpAnyH _ _ _ _ _ _ _ (Act.put _ (some 62) _) _
        simp only [Act.put, List.setIfInBounds_toArray, List.set_cons_zero, List.set_cons_succ]
        refine wpAnyH_take (i := 7) (v := undef) rfl (by kernel_rfl) (by kernel_rfl) (by kernel_rfl) (fun _ _ _ h => h) (Or.inr ⟨by rfl, rfl⟩) hS ?_
        change wpAnyH _ _ _ _ _ _ _ (Act.put _ (some 63) _) _
        simp only [Act.put, List.setIfInBounds_toArray, List.set_cons_zero, List.set_cons_succ]
        refine wpAnyH_take (i := 8) (v := undef) rfl (by kernel_rfl) (by kernel_rfl) (by kernel_rfl) (fun _ _ _ h => h) (Or.inr ⟨by rfl, rfl⟩) hS ?_
        change wpAnyH _ _ _ _ _ _ _ (Act.put _ (some 64) _) _
        simp only [Act.put, List.setIfInBounds_toArray, List.set_cons_zero, List.set_cons_succ]
        refine wpAnyH_take (i := 9) (v := undef) rfl (by kernel_rfl) (by kernel_rfl) (by kernel_rfl) (fun _ _ _ h => h) (Or.inr ⟨by rfl, rfl⟩) hS ?_
        change wpAnyH _ _ _ _ _ _ _ (Act.put _ (some 65) _) _
        simp only [Act.put, List.setIfInBounds_toArray, List.set_cons_zero, List.set_cons_succ]
        refine wpAnyH_take (i := 10) (v := undef) rfl (by kernel_rfl) (by kernel_rfl) (by kernel_rfl) (fun _ _ _ h => h) (Or.inr ⟨by rfl, rfl⟩) hS ?_
        change wpAnyH _ _ _ _ _ _ _ (Act.put _ (some 66) _) _
        simp only [Act.put, List.setIfInBounds_toArray, List.set_cons_zero, List.set_cons_succ]
        refine wpAnyH_take (i := 11) (v := undef) rfl (by kernel_rfl) (by kernel_rfl) (by kernel_rfl) (fun _ _ _ h => h) (Or.inr ⟨by rfl, rfl⟩) hS ?_
        change wpAnyH _ _ _ _ _ _ _ (Act.put _ (some 67) _) _
        simp only [Act.put, List.setIfInBounds_toArray, List.set_cons_zero, List.set_cons_succ]
        refine wpAnyH_take (i := 12) (v := undef) rfl (by kernel_rfl) (by kernel_rfl) (by kernel_rfl) (fun _ _ _ h => h) (Or.inr ⟨by rfl, rfl⟩) hS ?_
        change wpAnyH _ _ _ _ _ _ _ (Act.put _ (some 68) _) _
        simp only [Act.put, List.setIfInBounds_toArray, List.set_cons_zero, List.set_cons_succ]
        refine wpAnyH_take (i := 13) (v := undef) rfl (by kernel_rfl) (by kernel_rfl) (by kernel_rfl) (fun _ _ _ h => h) (Or.inr ⟨by rfl, rfl⟩) hS ?_
        change wpAnyH _ _ _ _ _ _ _ (Act.put _ (some 69) _) _
        simp only [Act.put, List.setIfInBounds_toArray, List.set_cons_zero, List.set_cons_succ]
        refine wpAnyH_take (i := 14) (v := ?_) rfl (by kernel_rfl) (by kernel_rfl) (by kernel_rfl) (fun _ _ _ h => h) (Or.inl ⟨by rfl, ?_⟩) hS ?_
        rotate_left
        · (intro w hSw; (try dsimp only at hSw); go_simp; (first | done | with_reducible rfl))
        change wpAnyH _ _ _ _ _ _ _ (Act.put _ (some 70) _) _
        simp only [Act.put, List.setIfInBounds_toArray, List.set_cons_zero, List.set_cons_succ]
        refine wpAnyH_take (i := 15) (v := ?_) rfl (by kernel_rfl) (by kernel_rfl) (by kernel_rfl) (fun _ _ _ h => h) (Or.inl ⟨by rfl, ?_⟩) hS ?_
        rotate_left
        · (intro w hSw; (try dsimp only at hSw); go_simp; (first | done | with_reducible rfl))
        change wpAnyH _ _ _ _ _ _ _ (Act.put _ (some 71) _) _
        simp only [Act.put, List.setIfInBounds_toArray, List.set_cons_zero, List.set_cons_succ]
        refine wpAnyH_ready (rs := [16]) (by kernel_rfl) (by simp) ?_
        refine AllReadyH.cons rfl (fun K hK => ?_) AllReadyH.nil
        go_simp
        have hq := lives_f v0 (hP.keep kz)
        refine hq.mono ?_
        rintro e v1 ⟨rfl, kq⟩
        clear hq
        go_wp2_with fail
        refine hK.out _ _ (HS _ (kz.trans kq)) (fun hS => ?_)
        clear hK K
        try simp only [Act.put, List.setIfInBounds_toArray, List.set_cons_zero, List.set_cons_succ]
        refine wpAnyH_take (i := 17) (v := ?_) rfl (by kernel_rfl) (by kernel_rfl) (by kernel_rfl) (fun _ _ _ h => h) (Or.inl ⟨by rfl, ?_⟩) hS ?_
        rotate_left
        · (intro w hSw; (try dsimp only at hSw); go_simp; (first | done | with_reducible rfl))
        change wpAnyH _ _ _ _ _ _ _ (Act.put _ (some 73) _) _
        simp only [Act.put, List.setIfInBounds_toArray, List.set_cons_zero, List.set_cons_succ]
        refine wpAnyH_take (i := 18) (v := ?_) rfl (by kernel_rfl) (by kernel_rfl) (by kernel_rfl) (fun _ _ _ h => h) (Or.inl ⟨by rfl, ?_⟩) hS ?_
        rotate_left
        · (intro w hSw; (try dsimp only at hSw); go_simp; (first | done | with_reducible rfl))
        change wpAnyH _ _ _ _ _ _ _ (Act.put _ (some 2) _) _
        simp only [Act.put, List.setIfInBounds_toArray, List.set_cons_zero, List.set_cons_succ]
        refine wpAnyH_done (by kernel_rfl) ?_ _
        refine NoPanic.normal ?_
        replace kz := kz.trans kq
        clear kq
        replace hP := hP.keep kz
        replace hf := hf.keep kz
        replace hg := hg.keep kz
        replace hr := hr.keep kz
        replace hs := hs.keep kz
        replace bR := bR.keep kz
        replace bS := bS.keep kz
        replace f3 := f3.keep kz
        replace f4 := f4.keep kz
        replace kk := kk.trans kz
        clear kz
        clear HS hS
        go_wp2_with fail
        go_ret
        exact ⟨rfl, kk⟩
    · have HS : ∀ v, Keep w7 v → (fun _ => True) v := fun v K' => trivial
      have kz := Keep.refl w7
      refine wp_region_noPanic ?_
      refine wp_region_held_drew (S := (fun _ => True)) (by kernel_rfl) (HS _ kz.drew) (fun hS => ?_)
      replace kz := kz.drew
      generalize w7.drew = v0 at hS kz ⊢
      refine wpAnyH_take (i := 0) (v := ?_) rfl (by kernel_rfl) (by kernel_rfl) (by kernel_rfl) (fun _ _ _ h => h) (Or.inl ⟨by rfl, ?_⟩) hS ?_
      rotate_left
      · (intro w hSw; (try dsimp only at hSw); go_simp; (first | done | with_reducible rfl))
      change wpAnyH _ _ _ _ _ _ _ (Act.put _ (some 31) _) _
      simp only [Act.put, List.setIfInBounds_toArray, List.set_cons_zero, List.set_cons_succ]
      refine wpAnyH_take (i := 1) (v := ?_) rfl (by kernel_rfl) (by kernel_rfl) (by kernel_rfl) (fun _ _ _ h => h) (Or.inl ⟨by rfl, ?_⟩) hS ?_
      rotate_left
      · (intro w hSw; (try dsimp only at hSw); go_simp; (first | done | with_reducible rfl))
      change wpAnyH _ _ _ _ _ _ _ (Act.put _ (some 32) _) _
      simp only [Act.put, List.setIfInBounds_toArray, List.set_cons_zero, List.set_cons_succ]
      refine wpAnyH_take (i := 2) (v := ?_) rfl (by kernel_rfl) (by kernel_rfl) (by kernel_rfl) (fun _ _ _ h => h) (Or.inl ⟨by rfl, ?_⟩) hS ?_
      rotate_left
      · (intro w hSw; (try dsimp only at hSw); go_simp; (first | done | with_reducible rfl))
      change wpAnyH _ _ _ _ _ _ _ (Act.put _ (some 33) _) _
      simp only [Act.put, List.setIfInBounds_toArray, List.set_cons_zero, List.set_cons_succ]
      refine wpAnyH_take (i := 3) (v := ?_) rfl (by kernel_rfl) (by kernel_rfl) (by kernel_rfl) (fun _ _ _ h => h) (Or.inl ⟨by rfl, ?_⟩) hS ?_
      rotate_left
      · (intro w hSw; (try dsimp only at hSw); go_simp; (first | done | with_reducible rfl))
      change wpAnyH _ _ _ _ _ _ _ (Act.put _ (some 34) _) _
      simp only [Act.put, List.setIfInBounds_toArray, List.set_cons_zero, List.set_cons_succ]
      refine wpAnyH_take (i := 4) (v := ?_) rfl (by kernel_rfl) (by kernel_rfl) (by kernel_rfl) (fun _ _ _ h => h) (Or.inl ⟨by rfl, ?_⟩) hS ?_
      rotate_left
      · (intro w hSw; (try dsimp only at hSw); go_simp; (first | done | with_reducible rfl))
      change wpAnyH _ _ _ _ _ _ _ (Act.put _ (some 35) _) _
      simp only [Act.put, List.setIfInBounds_toArray, List.set_cons_zero, List.set_cons_succ]
      refine wpAnyH_take (i := 5) (v := ?_) rfl (by kernel_rfl) (by kernel_rfl) (by kernel_rfl) (fun _ _ _ h => h) (Or.inl ⟨by rfl, ?_⟩) hS ?_
      rotate_left
      · (intro w hSw; (try dsimp only at hSw); go_simp; (first | done | with_reducible rfl))
      change wpAnyH _ _ _ _ _ _ _ (Act.put _ (some 36) _) _
      simp only [Act.put, List.setIfInBounds_toArray, List.set_cons_zero, List.set_cons_succ]
      refine wpAnyH_take (i := 6) (v := ?_) rfl (by kernel_rfl) (by kernel_rfl) (by kernel_rfl) (fun _ _ _ h => h) (Or.inl ⟨by rfl, ?_⟩) hS ?_
      rotate_left
      · (intro w hSw; (try dsimp only at hSw); go_simp; (first | done | with_reducible rfl))
      change wpAnyH _ _ _ _ _ _ _ (Act.put _ (some 37) _) _
      simp only [Act.put, List.setIfInBounds_toArray, List.set_cons_zero, List.set_cons_succ]
      refine wpAnyH_take (i := 7) (v := undef) rfl (by kernel_rfl) (by kernel_rfl) (by kernel_rfl) (fun _ _ _ h => h) (Or.inr ⟨by rfl, rfl⟩) hS ?_
      change wpAnyH _ _ _ _ _ _ _ (Act.put _ (some 38) _) _
      simp only [Act.put, List.setIfInBounds_toArray, List.set_cons_zero, List.set_cons_succ]
      refine wpAnyH_take (i := 8) (v := undef) rfl (by kernel_rfl) (by kernel_rfl) (by kernel_rfl) (fun _ _ _ h => h) (Or.inr ⟨by rfl, rfl⟩) hS ?_
      change wpAnyH _ _ _ _ _ _ _ (Act.put _ (some 39) _) _
      simp only [Act.put, List.setIfInBounds_toArray, List.set_cons_zero, List.set_cons_succ]
      refine wpAnyH_take (i := 9) (v := undef) rfl (by kernel_rfl) (by kernel_rfl) (by kernel_rfl) (fun _ _ _ h => h) (Or.inr ⟨by rfl, rfl⟩) hS ?_
      change wpAnyH _ _ _ _ _ _ _ (Act.put _ (some 40) _) _
      simp only [Act.put, List.setIfInBounds_toArray, List.set_cons_zero, List.set_cons_succ]
      refine wpAnyH_take (i := 10) (v := undef) rfl (by kernel_rfl) (by kernel_rfl) (by kernel_rfl) (fun _ _ _ h => h) (Or.inr ⟨by rfl, rfl⟩) hS ?_
      change wpAnyH _ _ _ _ _ _ _ (Act.put _ (some 41) _) _
      simp only [Act.put, List.setIfInBounds_toArray, List.set_cons_zero, List.set_cons_succ]
      refine wpAnyH_take (i := 11) (v := undef) rfl (by kernel_rfl) (by kernel_rfl) (by kernel_rfl) (fun _ _ _ h => h) (Or.inr ⟨by rfl, rfl⟩) hS ?_
      change wpAnyH _ _ _ _ _ _ _ (Act.put _ (some 42) _) _
      simp only [Act.put, List.setIfInBounds_toArray, List.set_cons_zero, List.set_cons_succ]
      refine wpAnyH_take (i := 12) (v := undef) rfl (by kernel_rfl) (by kernel_rfl) (by kernel_rfl) (fun _ _ _ h => h) (Or.inr ⟨by rfl, rfl⟩) hS ?_
      change wpAnyH _ _ _ _ _ _ _ (Act.put _ (some 43) _) _
      simp only [Act.put, List.setIfInBounds_toArray, List.set_cons_zero, List.set_cons_succ]
      refine wpAnyH_take (i := 13) (v := undef) rfl (by kernel_rfl) (by kernel_rfl) (by kernel_rfl) (fun _ _ _ h => h) (Or.inr ⟨by rfl, rfl⟩) hS ?_
      change wpAnyH _ _ _ _ _ _ _ (Act.put _ (some 44) _) _
      simp only [Act.put, List.setIfInBounds_toArray, List.set_cons_zero, List.set_cons_succ]
      refine wpAnyH_take (i := 14) (v := ?_) rfl (by kernel_rfl) (by kernel_rfl) (by kernel_rfl) (fun _ _ _ h => h) (Or.inl ⟨by rfl, ?_⟩) hS ?_
      rotate_left
      · (intro w hSw; (try dsimp only at hSw); go_simp; (first | done | with_reducible rfl))
      change wpAnyH _ _ _ _ _ _ _ (Act.put _ (some 45) _) _
      simp only [Act.put, List.setIfInBounds_toArray, List.set_cons_zero, List.set_cons_succ]
      refine wpAnyH_done (by kernel_rfl) ?_ _
      refine NoPanic.normal ?_
      replace hP := hP.keep kz
      replace hf := hf.keep kz
      replace hg := hg.keep kz
      replace hr := hr.keep kz
      replace hs := hs.keep kz
      replace bF := bF.keep kz
      replace bG := bG.keep kz
      replace bR := bR.keep kz
      replace bS := bS.keep kz
      replace f1 := f1.keep kz
      replace f2 := f2.keep kz
      replace kk := kk.trans kz
      clear kz
      clear HS hS
      clear f1 f2 bF bG
      go_upto_region 9 with fail
      have bR_0 := bR.cell_ (i := 0) rfl
      have bR_1 := bR.cell_ (i := 1) rfl
      have bR_2 := bR.cell_ (i := 2) rfl
      have bR_3 := bR.cell_ (i := 3) rfl
      have bR_4 := bR.cell_ (i := 4) rfl
      have bR_5 := bR.cell_ (i := 5) rfl
      have bR_6 := bR.cell_ (i := 6) rfl
      have bR_7 := bR.cell_ (i := 7) rfl
      have bR_8 := bR.cell_ (i := 8) rfl
      have bR_9 := bR.cell_ (i := 9) rfl
      have hq := putR_f (Rpl.mk r rba rbc rca rcc) v0 hr p3.out
      unfold Rpl.val at hq
      simp only at hq
      go_wp2_with fail
      refine hq.mono ?_
      rintro e w8 ⟨A3, rfl, f3, kq⟩
      clear hq
      replace hP := hP.keep kq
      replace hf := hf.keep kq
      replace hg := hg.keep kq
      replace hr := hr.keep kq
      replace hs := hs.keep kq
      replace bR := bR.keep kq
      replace bS := bS.keep kq
      replace kk := kk.trans kq
      clear kq
      clear bR_0 bR_1 bR_2 bR_3 bR_4 bR_5 bR_6 bR_7 bR_8 bR_9
      have bS_0 := bS.cell_ (i := 0) rfl
      have bS_1 := bS.cell_ (i := 1) rfl
      have bS_2 := bS.cell_ (i := 2) rfl
      have bS_3 := bS.cell_ (i := 3) rfl
      have bS_4 := bS.cell_ (i := 4) rfl
      have bS_5 := bS.cell_ (i := 5) rfl
      have bS_6 := bS.cell_ (i := 6) rfl
      have bS_7 := bS.cell_ (i := 7) rfl
      have bS_8 := bS.cell_ (i := 8) rfl
      have bS_9 := bS.cell_ (i := 9) rfl
      have hq := putR_f (Rpl.mk s sba sbc sca scc) w8 hs p4.out
      unfold Rpl.val at hq
      simp only at hq
      go_wp2_with fail
      refine hq.mono ?_
      rintro e w9 ⟨A4, rfl, f4, kq⟩
      clear hq
      replace hP := hP.keep kq
      replace hf := hf.keep kq
      replace hg := hg.keep kq
      replace hr := hr.keep kq
      replace hs := hs.keep kq
      replace bR := bR.keep kq
      replace bS := bS.keep kq
      replace f3 := f3.keep kq
      replace kk := kk.trans kq
      clear kq
      clear bS_0 bS_1 bS_2 bS_3 bS_4 bS_5 bS_6 bS_7 bS_8 bS_9
      go_upto_region 11 with fail
      rcases q3.out with ⟨rfl, m3, rfl⟩ | ⟨z3, z3'⟩
      · rcases q4.out with ⟨rfl, m4, rfl⟩ | ⟨z4, z4'⟩
        · have hB := Lib.hid (unlikeR m3 m4 ⟨hr.seq, hr.tok⟩ ⟨hs.seq, hs.tok⟩)
          obtain ⟨-, -, -, -, -, -, -, -, l31, l32, -⟩ := mayR_facts m3
          obtain ⟨-, -, -, -, -, -, -, -, l41, l42, -⟩ := mayR_facts m4
          have y3 : (bytesR r).length ≤ 2000 := by rw [length_bytesR]; omega
          have y4 : (bytesR s).length ≤ 2000 := by rw [length_bytesR]; omega
          clear m3 m4
          obtain ⟨L3, hL3⟩ : ∃ L, L = bytesR r := ⟨_, rfl⟩
          obtain ⟨L4, hL4⟩ : ∃ L, L = bytesR s := ⟨_, rfl⟩
          rw [← hL3] at f3 y3 hB
          rw [← hL4] at f4 y4 hB
          rw [← hL3, ← hL4]
          clear hL3 hL4
          obtain ⟨B, hBe⟩ : ∃ B, B = sameRV r s := ⟨_, rfl⟩
          rw [← hBe] at hB
          have HS : ∀ v, Keep w9 v → (fun v => v.cell? ⟨gbR, 0, none⟩ = some (.int .i64 r.e) ∧ v.cell? ⟨gbR, 1, none⟩ = some (.int .u32 r.seq) ∧ v.cell? ⟨gbR, 2, none⟩ = some (.int .u64 r.tok) ∧ v.cell? ⟨gbR, 3, none⟩ = some (.int .u8 r.ph) ∧ v.cell? ⟨gbR, 4, none⟩ = some (.int .u64 r.tm) ∧ v.cell? ⟨gbR, 5, none⟩ = some (.bool r.has) ∧ v.cell? ⟨gbR, 6, none⟩ = some (.slice rba r.bid.length rbc) ∧ v.cell? ⟨gbR, 7, none⟩ = some (.int .i64 r.item) ∧ v.cell? ⟨gbR, 8, none⟩ = some (.int .i64 r.pays) ∧ v.cell? ⟨gbR, 9, none⟩ = some (.slice rca r.cert.length rcc) ∧ v.cell? ⟨gbS, 0, none⟩ = some (.int .i64 s.e) ∧ v.cell? ⟨gbS, 1, none⟩ = some (.int .u32 s.seq) ∧ v.cell? ⟨gbS, 2, none⟩ = some (.int .u64 s.tok) ∧ v.cell? ⟨gbS, 3, none⟩ = some (.int .u8 s.ph) ∧ v.cell? ⟨gbS, 4, none⟩ = some (.int .u64 s.tm) ∧ v.cell? ⟨gbS, 5, none⟩ = some (.bool s.has) ∧ v.cell? ⟨gbS, 6, none⟩ = some (.slice sba s.bid.length sbc) ∧ v.cell? ⟨gbS, 7, none⟩ = some (.int .i64 s.item) ∧ v.cell? ⟨gbS, 8, none⟩ = some (.int .i64 s.pays) ∧ v.cell? ⟨gbS, 9, none⟩ = some (.slice sca s.cert.length scc)) v := fun v K' => ⟨K'.cell (bR.cell_ (i := 0) rfl), K'.cell (bR.cell_ (i := 1) rfl), K'.cell (bR.cell_ (i := 2) rfl), K'.cell (bR.cell_ (i := 3) rfl), K'.cell (bR.cell_ (i := 4) rfl), K'.cell (bR.cell_ (i := 5) rfl), K'.cell (bR.cell_ (i := 6) rfl), K'.cell (bR.cell_ (i := 7) rfl), K'.cell (bR.cell_ (i := 8) rfl), K'.cell (bR.cell_ (i := 9) rfl), K'.cell (bS.cell_ (i := 0) rfl), K'.cell (bS.cell_ (i := 1) rfl), K'.cell (bS.cell_ (i := 2) rfl), K'.cell (bS.cell_ (i := 3) rfl), K'.cell (bS.cell_ (i := 4) rfl), K'.cell (bS.cell_ (i := 5) rfl), K'.cell (bS.cell_ (i := 6) rfl), K'.cell (bS.cell_ (i := 7) rfl), K'.cell (bS.cell_ (i := 8) rfl), K'.cell (bS.cell_ (i := 9) rfl)⟩
          have kz := Keep.refl w9
          refine wp_region_noPanic ?_
          refine wp_region_held_drew (S := (fun v => v.cell? ⟨gbR, 0, none⟩ = some (.int .i64 r.e) ∧ v.cell? ⟨gbR, 1, none⟩ = some (.int .u32 r.seq) ∧ v.cell? ⟨gbR, 2, none⟩ = some (.int .u64 r.tok) ∧ v.cell? ⟨gbR, 3, none⟩ = some (.int .u8 r.ph) ∧ v.cell? ⟨gbR, 4, none⟩ = some (.int .u64 r.tm) ∧ v.cell? ⟨gbR, 5, none⟩ = some (.bool r.has) ∧ v.cell? ⟨gbR, 6, none⟩ = some (.slice rba r.bid.length rbc) ∧ v.cell? ⟨gbR, 7, none⟩ = some (.int .i64 r.item) ∧ v.cell? ⟨gbR, 8, none⟩ = some (.int .i64 r.pays) ∧ v.cell? ⟨gbR, 9, none⟩ = some (.slice rca r.cert.length rcc) ∧ v.cell? ⟨gbS, 0, none⟩ = some (.int .i64 s.e) ∧ v.cell? ⟨gbS, 1, none⟩ = some (.int .u32 s.seq) ∧ v.cell? ⟨gbS, 2, none⟩ = some (.int .u64 s.tok) ∧ v.cell? ⟨gbS, 3, none⟩ = some (.int .u8 s.ph) ∧ v.cell? ⟨gbS, 4, none⟩ = some (.int .u64 s.tm) ∧ v.cell? ⟨gbS, 5, none⟩ = some (.bool s.has) ∧ v.cell? ⟨gbS, 6, none⟩ = some (.slice sba s.bid.length sbc) ∧ v.cell? ⟨gbS, 7, none⟩ = some (.int .i64 s.item) ∧ v.cell? ⟨gbS, 8, none⟩ = some (.int .i64 s.pays) ∧ v.cell? ⟨gbS, 9, none⟩ = some (.slice sca s.cert.length scc))) (by kernel_rfl) (HS _ kz.drew) (fun hS => ?_)
          replace kz := kz.drew
          generalize w9.drew = v0 at hS kz ⊢
          refine wpAnyH_take (i := 0) (v := ?_) rfl (by kernel_rfl) (by kernel_rfl) (by kernel_rfl) (fun _ _ _ h => h) (Or.inl ⟨by rfl, ?_⟩) hS ?_
          rotate_left
          · (intro w hSw; (try dsimp only at hSw); go_simp; (first | done | with_reducible rfl))
          change wpAnyH _ _ _ _ _ _ _ (Act.put _ (some 56) _) _
          simp only [Act.put, List.setIfInBounds_toArray, List.set_cons_zero, List.set_cons_succ]
          refine wpAnyH_take (i := 1) (v := ?_) rfl (by kernel_rfl) (by kernel_rfl) (by kernel_rfl) (fun _ _ _ h => h) (Or.inl ⟨by rfl, ?_⟩) hS ?_
          rotate_left
          · (intro w hSw; (try dsimp only at hSw); go_simp; (first | done | with_reducible rfl))
          change wpAnyH _ _ _ _ _ _ _ (Act.put _ (some 57) _) _
          simp only [Act.put, List.setIfInBounds_toArray, List.set_cons_zero, List.set_cons_succ]
          refine wpAnyH_take (i := 2) (v := ?_) rfl (by kernel_rfl) (by kernel_rfl) (by kernel_rfl) (fun _ _ _ h => h) (Or.inl ⟨by rfl, ?_⟩) hS ?_
          rotate_left
          · (intro w hSw; (try dsimp only at hSw); go_simp; (first | done | with_reducible rfl))
          change wpAnyH _ _ _ _ _ _ _ (Act.put _ (some 58) _) _
          simp only [Act.put, List.setIfInBounds_toArray, List.set_cons_zero, List.set_cons_succ]
          refine wpAnyH_take (i := 3) (v := ?_) rfl (by kernel_rfl) (by kernel_rfl) (by kernel_rfl) (fun _ _ _ h => h) (Or.inl ⟨by rfl, ?_⟩) hS ?_
          rotate_left
          · (intro w hSw; (try dsimp only at hSw); go_simp; (first | done | with_reducible rfl))
          change wpAnyH _ _ _ _ _ _ _ (Act.put _ (some 59) _) _
          simp only [Act.put, List.setIfInBounds_toArray, List.set_cons_zero, List.set_cons_succ]
          refine wpAnyH_take (i := 4) (v := ?_) rfl (by kernel_rfl) (by kernel_rfl) (by kernel_rfl) (fun _ _ _ h => h) (Or.inl ⟨by rfl, ?_⟩) hS ?_
          rotate_left
          · (intro w hSw; (try dsimp only at hSw); go_simp; (first | done | with_reducible rfl))
          change wpAnyH _ _ _ _ _ _ _ (Act.put _ (some 60) _) _
          simp only [Act.put, List.setIfInBounds_toArray, List.set_cons_zero, List.set_cons_succ]
          refine wpAnyH_take (i := 5) (v := ?_) rfl (by kernel_rfl) (by kernel_rfl) (by kernel_rfl) (fun _ _ _ h => h) (Or.inl ⟨by rfl, ?_⟩) hS ?_
          rotate_left
          · (intro w hSw; (try dsimp only at hSw); go_simp; (first | done | with_reducible rfl))
          change wpAnyH _ _ _ _ _ _ _ (Act.put _ (some 61) _) _
          simp only [Act.put, List.setIfInBounds_toArray, List.set_cons_zero, List.set_cons_succ]
          refine wpAnyH_take (i := 6) (v := ?_) rfl (by kernel_rfl) (by kernel_rfl) (by kernel_rfl) (fun _ _ _ h => h) (Or.inl ⟨by rfl, ?_⟩) hS ?_
          rotate_left
          · (intro w hSw; (try dsimp only at hSw); go_simp; (first | done | with_reducible rfl))
          change wpAnyH _ _ _ _ _ _ _ (Act.put _ (some 62) _) _
          simp only [Act.put, List.setIfInBounds_toArray, List.set_cons_zero, List.set_cons_succ]
          refine wpAnyH_take (i := 7) (v := ?_) rfl (by kernel_rfl) (by kernel_rfl) (by kernel_rfl) (fun _ _ _ h => h) (Or.inl ⟨by rfl, ?_⟩) hS ?_
          rotate_left
          · (intro w hSw; (try dsimp only at hSw); go_simp; (first | done | with_reducible rfl))
          change wpAnyH _ _ _ _ _ _ _ (Act.put _ (some 63) _) _
          simp only [Act.put, List.setIfInBounds_toArray, List.set_cons_zero, List.set_cons_succ]
          refine wpAnyH_take (i := 8) (v := ?_) rfl (by kernel_rfl) (by kernel_rfl) (by kernel_rfl) (fun _ _ _ h => h) (Or.inl ⟨by rfl, ?_⟩) hS ?_
          rotate_left
          · (intro w hSw; (try dsimp only at hSw); go_simp; (first | done | with_reducible rfl))
          change wpAnyH _ _ _ _ _ _ _ (Act.put _ (some 64) _) _
          simp only [Act.put, List.setIfInBounds_toArray, List.set_cons_zero, List.set_cons_succ]
          refine wpAnyH_take (i := 10) (v := ?_) rfl (by kernel_rfl) (by kernel_rfl) (by kernel_rfl) (fun _ _ _ h => h) (Or.inl ⟨by rfl, ?_⟩) hS ?_
          rotate_left
          · (intro w hSw; (try dsimp only at hSw); go_simp; (first | done | with_reducible rfl))
          change wpAnyH _ _ _ _ _ _ _ (Act.put _ (some 66) _) _
          simp only [Act.put, List.setIfInBounds_toArray, List.set_cons_zero, List.set_cons_succ]
          refine wpAnyH_take (i := 11) (v := ?_) rfl (by kernel_rfl) (by kernel_rfl) (by kernel_rfl) (fun _ _ _ h => h) (Or.inl ⟨by rfl, ?_⟩) hS ?_
          rotate_left
          · (intro w hSw; (try dsimp only at hSw); go_simp; (first | done | with_reducible rfl))
          change wpAnyH _ _ _ _ _ _ _ (Act.put _ (some 67) _) _
          simp only [Act.put, List.setIfInBounds_toArray, List.set_cons_zero, List.set_cons_succ]
          refine wpAnyH_ready (rs := [9]) (by kernel_rfl) (by simp) ?_
          refine AllReadyH.cons rfl (fun K hK => ?_) AllReadyH.nil
          go_simp
          have hq := saysK (sameBytes A3 A4 L3.length L4.length L3 L4 v0 (f3.keep kz).rd (f4.keep kz).rd (by unfold Reach; omega) (by unfold Reach; omega))
          rw [hB.out] at hq
          refine hq.mono ?_
          rintro e v1 ⟨rfl, kq⟩
          clear hq
          go_wp2_with fail
          refine hK.out _ _ (HS _ (kz.trans kq)) (fun hS => ?_)
          clear hK K
          try simp only [Act.put, List.setIfInBounds_toArray, List.set_cons_zero, List.set_cons_succ]
          refine wpAnyH_ready (rs := [12]) (by kernel_rfl) (by simp) ?_
          refine AllReadyH.cons rfl (fun K hK => ?_) AllReadyH.nil
          go_simp
          replace kz := kz.trans kq
          clear kq
          have hq := sameReply_f (Rpl.mk r rba rbc rca rcc) (Rpl.mk s sba sbc sca scc) v1 (hr.keep kz) (hs.keep kz) (by unfold Reach; simp only; omega) (by unfold Reach; simp only; omega) (by unfold Reach; simp only; omega) (by unfold Reach; simp only; omega)
          unfold Rpl.val at hq
          simp only at hq
          rw [← hBe] at hq
          refine hq.mono ?_
          rintro e v2 ⟨rfl, kq⟩
          clear hq
          go_wp2_with fail
          refine hK.out _ _ (HS _ (kz.trans kq)) (fun hS => ?_)
          clear hK K
          try simp only [Act.put, List.setIfInBounds_toArray, List.set_cons_zero, List.set_cons_succ]
          refine wpAnyH_take (i := 13) (v := ?_) rfl (by kernel_rfl) (by kernel_rfl) (by kernel_rfl) (fun _ _ _ h => h) (Or.inl ⟨by rfl, ?_⟩) hS ?_
          rotate_left
          · (intro w hSw; (try dsimp only at hSw); go_simp; (first | done | with_reducible rfl))
          change wpAnyH _ _ _ _ _ _ _ (Act.put _ (some 69) _) _
          simp only [Act.put, List.setIfInBounds_toArray, List.set_cons_zero, List.set_cons_succ]
          refine wpAnyH_take (i := 14) (v := ?_) rfl (by kernel_rfl) (by kernel_rfl) (by kernel_rfl) (fun _ _ _ h => h) (Or.inl ⟨by rfl, ?_⟩) hS ?_
          rotate_left
          · (intro w hSw; (try dsimp only at hSw); go_simp; (first | done | with_reducible rfl))
          change wpAnyH _ _ _ _ _ _ _ (Act.put _ (some 70) _) _
          simp only [Act.put, List.setIfInBounds_toArray, List.set_cons_zero, List.set_cons_succ]
          refine wpAnyH_take (i := 15) (v := ?_) rfl (by kernel_rfl) (by kernel_rfl) (by kernel_rfl) (fun _ _ _ h => h) (Or.inl ⟨by rfl, ?_⟩) hS ?_
          rotate_left
          · (intro w hSw; (try dsimp only at hSw); go_simp; (first | done | with_reducible rfl))
          change wpAnyH _ _ _ _ _ _ _ (Act.put _ (some 71) _) _
          simp only [Act.put, List.setIfInBounds_toArray, List.set_cons_zero, List.set_cons_succ]
          refine wpAnyH_ready (rs := [16]) (by kernel_rfl) (by simp) ?_
          refine AllReadyH.cons rfl (fun K hK => ?_) AllReadyH.nil
          go_simp
          replace kz := kz.trans kq
          clear kq
          have hq := lives_f v2 (hP.keep kz)
          refine hq.mono ?_
          rintro e v3 ⟨rfl, kq⟩
          clear hq
          go_wp2_with fail
          refine hK.out _ _ (HS _ (kz.trans kq)) (fun hS => ?_)
          clear hK K
          try simp only [Act.put, List.setIfInBounds_toArray, List.set_cons_zero, List.set_cons_succ]
          refine wpAnyH_take (i := 17) (v := ?_) rfl (by kernel_rfl) (by kernel_rfl) (by kernel_rfl) (fun _ _ _ h => h) (Or.inl ⟨by rfl, ?_⟩) hS ?_
          rotate_left
          · (intro w hSw; (try dsimp only at hSw); go_simp; (first | done | with_reducible rfl))
          change wpAnyH _ _ _ _ _ _ _ (Act.put _ (some 73) _) _
          simp only [Act.put, List.setIfInBounds_toArray, List.set_cons_zero, List.set_cons_succ]
          refine wpAnyH_take (i := 18) (v := ?_) rfl (by kernel_rfl) (by kernel_rfl) (by kernel_rfl) (fun _ _ _ h => h) (Or.inl ⟨by rfl, ?_⟩) hS ?_
          rotate_left
          · (intro w hSw; (try dsimp only at hSw); go_simp; (first | done | with_reducible rfl))
          change wpAnyH _ _ _ _ _ _ _ (Act.put _ (some 2) _) _
          simp only [Act.put, List.setIfInBounds_toArray, List.set_cons_zero, List.set_cons_succ]
          refine wpAnyH_done (by kernel_rfl) ?_ _
          refine NoPanic.normal ?_
          replace kz := kz.trans kq
          clear kq
          replace hP := hP.keep kz
          replace hf := hf.keep kz
          replace hg := hg.keep kz
          replace hr := hr.keep kz
          replace hs := hs.keep kz
          replace bR := bR.keep kz
          replace bS := bS.keep kz
          replace f3 := f3.keep kz
          replace f4 := f4.keep kz
          replace kk := kk.trans kz
          clear kz
          clear HS hS
          go_wp2_with fail
          go_ret
          exact ⟨rfl, kk⟩
        · have HS : ∀ v, Keep w9 v → (fun _ => True) v := fun v K' => trivial
          have kz := Keep.refl w9
          refine wp_region_noPanic ?_
          refine wp_region_held_drew (S := (fun _ => True)) (by kernel_rfl) (HS _ kz.drew) (fun hS => ?_)
          replace kz := kz.drew
          generalize w9.drew = v0 at hS kz ⊢
          refine wpAnyH_take (i := 0) (v := ?_) rfl (by kernel_rfl) (by kernel_rfl) (by kernel_rfl) (fun _ _ _ h => h) (Or.inl ⟨by rfl, ?_⟩) hS ?_
          rotate_left
          · (intro w hSw; (try dsimp only at hSw); go_simp; (first | done | with_reducible rfl))
          change wpAnyH _ _ _ _ _ _ _ (Act.put _ (some 56) _) _
          simp only [Act.put, List.setIfInBounds_toArray, List.set_cons_zero, List.set_cons_succ]
          refine wpAnyH_take (i := 1) (v := ?_) rfl (by kernel_rfl) (by kernel_rfl) (by kernel_rfl) (fun _ _ _ h => h) (Or.inl ⟨by rfl, ?_⟩) hS ?_
          rotate_left
          · (intro w hSw; (try dsimp only at hSw); go_simp; (first | done | with_reducible rfl))
          change wpAnyH _ _ _ _ _ _ _ (Act.put _ (some 57) _) _
          simp only [Act.put, List.setIfInBounds_toArray, List.set_cons_zero, List.set_cons_succ]
          refine wpAnyH_take (i := 2) (v := ?_) rfl (by kernel_rfl) (by kernel_rfl) (by kernel_rfl) (fun _ _ _ h => h) (Or.inl ⟨by rfl, ?_⟩) hS ?_
          rotate_left
          · (intro w hSw; (try dsimp only at hSw); go_simp; (first | done | with_reducible rfl))
          change wpAnyH _ _ _ _ _ _ _ (Act.put _ (some 58) _) _
          simp only [Act.put, List.setIfInBounds_toArray, List.set_cons_zero, List.set_cons_succ]
          refine wpAnyH_take (i := 3) (v := ?_) rfl (by kernel_rfl) (by kernel_rfl) (by kernel_rfl) (fun _ _ _ h => h) (Or.inl ⟨by rfl, ?_⟩) hS ?_
          rotate_left
          · (intro w hSw; (try dsimp only at hSw); go_simp; (first | done | with_reducible rfl))
          change wpAnyH _ _ _ _ _ _ _ (Act.put _ (some 59) _) _
          simp only [Act.put, List.setIfInBounds_toArray, List.set_cons_zero, List.set_cons_succ]
          refine wpAnyH_take (i := 4) (v := ?_) rfl (by kernel_rfl) (by kernel_rfl) (by kernel_rfl) (fun _ _ _ h => h) (Or.inl ⟨by rfl, ?_⟩) hS ?_
          rotate_left
          · (intro w hSw; (try dsimp only at hSw); go_simp; (first | done | with_reducible rfl))
          change wpAnyH _ _ _ _ _ _ _ (Act.put _ (some 60) _) _
          simp only [Act.put, List.setIfInBounds_toArray, List.set_cons_zero, List.set_cons_succ]
          refine wpAnyH_take (i := 5) (v := ?_) rfl (by kernel_rfl) (by kernel_rfl) (by kernel_rfl) (fun _ _ _ h => h) (Or.inl ⟨by rfl, ?_⟩) hS ?_
          rotate_left
          · (intro w hSw; (try dsimp only at hSw); go_simp; (first | done | with_reducible rfl))
          change wpAnyH _ _ _ _ _ _ _ (Act.put _ (some 61) _) _
          simp only [Act.put, List.setIfInBounds_toArray, List.set_cons_zero, List.set_cons_succ]
          refine wpAnyH_take (i := 6) (v := ?_) rfl (by kernel_rfl) (by kernel_rfl) (by kernel_rfl) (fun _ _ _ h => h) (Or.inl ⟨by rfl, ?_⟩) hS ?_
          rotate_left
          · (intro w hSw; (try dsimp only at hSw); go_simp; (first | done | with_reducible rfl))
          change wpAnyH _ _ _ _ _ _ _ (Act.put _ (some 62) _) _
          simp only [Act.put, List.setIfInBounds_toArray, List.set_cons_zero, List.set_cons_succ]
          refine wpAnyH_take (i := 7) (v := undef) rfl (by kernel_rfl) (by kernel_rfl) (by kernel_rfl) (fun _ _ _ h => h) (Or.inr ⟨by rfl, rfl⟩) hS ?_
          change wpAnyH _ _ _ _ _ _ _ (Act.put _ (some 63) _) _
          simp only [Act.put, List.setIfInBounds_toArray, List.set_cons_zero, List.set_cons_succ]
          refine wpAnyH_take (i := 8) (v := undef) rfl (by kernel_rfl) (by kernel_rfl) (by kernel_rfl) (fun _ _ _ h => h) (Or.inr ⟨by rfl, rfl⟩) hS ?_
          change wpAnyH _ _ _ _ _ _ _ (Act.put _ (some 64) _) _
          simp only [Act.put, List.setIfInBounds_toArray, List.set_cons_zero, List.set_cons_succ]
          refine wpAnyH_take (i := 9) (v := undef) rfl (by kernel_rfl) (by kernel_rfl) (by kernel_rfl) (fun _ _ _ h => h) (Or.inr ⟨by rfl, rfl⟩) hS ?_
          change wpAnyH _ _ _ _ _ _ _ (Act.put _ (some 65) _) _
          simp only [Act.put, List.setIfInBounds_toArray, List.set_cons_zero, List.set_cons_succ]
          refine wpAnyH_take (i := 10) (v := undef) rfl (by kernel_rfl) (by kernel_rfl) (by kernel_rfl) (fun _ _ _ h => h) (Or.inr ⟨by rfl, rfl⟩) hS ?_
          change wpAnyH _ _ _ _ _ _ _ (Act.put _ (some 66) _) _
          simp only [Act.put, List.setIfInBounds_toArray, List.set_cons_zero, List.set_cons_succ]
          refine wpAnyH_take (i := 11) (v := undef) rfl (by kernel_rfl) (by kernel_rfl) (by kernel_rfl) (fun _ _ _ h => h) (Or.inr ⟨by rfl, rfl⟩) hS ?_
          change wpAnyH _ _ _ _ _ _ _ (Act.put _ (some 67) _) _
          simp only [Act.put, List.setIfInBounds_toArray, List.set_cons_zero, List.set_cons_succ]
          refine wpAnyH_take (i := 12) (v := undef) rfl (by kernel_rfl) (by kernel_rfl) (by kernel_rfl) (fun _ _ _ h => h) (Or.inr ⟨by rfl, rfl⟩) hS ?_
          change wpAnyH _ _ _ _ _ _ _ (Act.put _ (some 68) _) _
          simp only [Act.put, List.setIfInBounds_toArray, List.set_cons_zero, List.set_cons_succ]
          refine wpAnyH_take (i := 13) (v := undef) rfl (by kernel_rfl) (by kernel_rfl) (by kernel_rfl) (fun _ _ _ h => h) (Or.inr ⟨by rfl, rfl⟩) hS ?_
          change wpAnyH _ _ _ _ _ _ _ (Act.put _ (some 69) _) _
          simp only [Act.put, List.setIfInBounds_toArray, List.set_cons_zero, List.set_cons_succ]
          refine wpAnyH_take (i := 14) (v := ?_) rfl (by kernel_rfl) (by kernel_rfl) (by kernel_rfl) (fun _ _ _ h => h) (Or.inl ⟨by rfl, ?_⟩) hS ?_
          rotate_left
          · (intro w hSw; (try dsimp only at hSw); go_simp; (first | done | with_reducible rfl))
          change wpAnyH _ _ _ _ _ _ _ (Act.put _ (some 70) _) _
          simp only [Act.put, List.setIfInBounds_toArray, List.set_cons_zero, List.set_cons_succ]
          refine wpAnyH_take (i := 15) (v := ?_) rfl (by kernel_rfl) (by kernel_rfl) (by kernel_rfl) (fun _ _ _ h => h) (Or.inl ⟨by rfl, ?_⟩) hS ?_
          rotate_left
          · (intro w hSw; (try dsimp only at hSw); go_simp; (first | done | with_reducible rfl))
          change wpAnyH _ _ _ _ _ _ _ (Act.put _ (some 71) _) _
          simp only [Act.put, List.setIfInBounds_toArray, List.set_cons_zero, List.set_cons_succ]
          refine wpAnyH_ready (rs := [16]) (by kernel_rfl) (by simp) ?_
          refine AllReadyH.cons rfl (fun K hK => ?_) AllReadyH.nil
          go_simp
          have hq := lives_f v0 (hP.keep kz)
          refine hq.mono ?_
          rintro e v1 ⟨rfl, kq⟩
          clear hq
          go_wp2_with fail
          refine hK.out _ _ (HS _ (kz.trans kq)) (fun hS => ?_)
          clear hK K
          try simp only [Act.put, List.setIfInBounds_toArray, List.set_cons_zero, List.set_cons_succ]
          refine wpAnyH_take (i := 17) (v := ?_) rfl (by kernel_rfl) (by kernel_rfl) (by kernel_rfl) (fun _ _ _ h => h) (Or.inl ⟨by rfl, ?_⟩) hS ?_
          rotate_left
          · (intro w hSw; (try dsimp only at hSw); go_simp; (first | done | with_reducible rfl))
          change wpAnyH _ _ _ _ _ _ _ (Act.put _ (some 73) _) _
          simp only [Act.put, List.setIfInBounds_toArray, List.set_cons_zero, List.set_cons_succ]
          refine wpAnyH_take (i := 18) (v := ?_) rfl (by kernel_rfl) (by kernel_rfl) (by kernel_rfl) (fun _ _ _ h => h) (Or.inl ⟨by rfl, ?_⟩) hS ?_
          rotate_left
          · (intro w hSw; (try dsimp only at hSw); go_simp; (first | done | with_reducible rfl))
          change wpAnyH _ _ _ _ _ _ _ (Act.put _ (some 2) _) _
          simp only [Act.put, List.setIfInBounds_toArray, List.set_cons_zero, List.set_cons_succ]
          refine wpAnyH_done (by kernel_rfl) ?_ _
          refine NoPanic.normal ?_
          replace kz := kz.trans kq
          clear kq
          replace hP := hP.keep kz
          replace hf := hf.keep kz
          replace hg := hg.keep kz
          replace hr := hr.keep kz
          replace hs := hs.keep kz
          replace bR := bR.keep kz
          replace bS := bS.keep kz
          replace f3 := f3.keep kz
          replace f4 := f4.keep kz
          replace kk := kk.trans kz
          clear kz
          clear HS hS
          go_wp2_with fail
          go_ret
          exact ⟨rfl, kk⟩
      · have HS : ∀ v, Keep w9 v → (fun _ => True) v := fun v K' => trivial
        have kz := Keep.refl w9
        refine wp_region_noPanic ?_
        refine wp_region_held_drew (S := (fun _ => True)) (by kernel_rfl) (HS _ kz.drew) (fun hS => ?_)
        replace kz := kz.drew
        generalize w9.drew = v0 at hS kz ⊢
        refine wpAnyH_take (i := 0) (v := ?_) rfl (by kernel_rfl) (by kernel_rfl) (by kernel_rfl) (fun _ _ _ h => h) (Or.inl ⟨by rfl, ?_⟩) hS ?_
        rotate_left
        · (intro w hSw; (try dsimp only at hSw); go_simp; (first | done | with_reducible rfl))
        change wpAnyH _ _ _ _ _ _ _ (Act.put _ (some 56) _) _
        simp only [Act.put, List.setIfInBounds_toArray, List.set_cons_zero, List.set_cons_succ]
        refine wpAnyH_take (i := 1) (v := ?_) rfl (by kernel_rfl) (by kernel_rfl) (by kernel_rfl) (fun _ _ _ h => h) (Or.inl ⟨by rfl, ?_⟩) hS ?_
        rotate_left
        · (intro w hSw; (try dsimp only at hSw); go_simp; (first | done | with_reducible rfl))
        change wpAnyH _ _ _ _ _ _ _ (Act.put _ (some 57) _) _
        simp only [Act.put, List.setIfInBounds_toArray, List.set_cons_zero, List.set_cons_succ]
        refine wpAnyH_take (i := 2) (v := ?_) rfl (by kernel_rfl) (by kernel_rfl) (by kernel_rfl) (fun _ _ _ h => h) (Or.inl ⟨by rfl, ?_⟩) hS ?_
        rotate_left
        · (intro w hSw; (try dsimp only at hSw); go_simp; (first | done | with_reducible rfl))
        change wpAnyH _ _ _ _ _ _ _ (Act.put _ (some 58) _) _
        simp only [Act.put, List.setIfInBounds_toArray, List.set_cons_zero, List.set_cons_succ]
        refine wpAnyH_take (i := 3) (v := undef) rfl (by kernel_rfl) (by kernel_rfl) (by kernel_rfl) (fun _ _ _ h => h) (Or.inr ⟨by rfl, rfl⟩) hS ?_
        change wpAnyH _ _ _ _ _ _ _ (Act.put _ (some 59) _) _
        simp only [Act.put, List.setIfInBounds_toArray, List.set_cons_zero, List.set_cons_succ]
        refine wpAnyH_take (i := 4) (v := undef) rfl (by kernel_rfl) (by kernel_rfl) (by kernel_rfl) (fun _ _ _ h => h) (Or.inr ⟨by rfl, rfl⟩) hS ?_
        change wpAnyH _ _ _ _ _ _ _ (Act.put _ (some 60) _) _
        simp only [Act.put, List.setIfInBounds_toArray, List.set_cons_zero, List.set_cons_succ]
        refine wpAnyH_take (i := 5) (v := ?_) rfl (by kernel_rfl) (by kernel_rfl) (by kernel_rfl) (fun _ _ _ h => h) (Or.inl ⟨by rfl, ?_⟩) hS ?_
        rotate_left
        · (intro w hSw; (try dsimp only at hSw); go_simp; (first | done | with_reducible rfl))
        change wpAnyH _ _ _ _ _ _ _ (Act.put _ (some 61) _) _
        simp only [Act.put, List.setIfInBounds_toArray, List.set_cons_zero, List.set_cons_succ]
        refine wpAnyH_take (i := 6) (v := ?_) rfl (by kernel_rfl) (by kernel_rfl) (by kernel_rfl) (fun _ _ _ h => h) (Or.inl ⟨by rfl, ?_⟩) hS ?_
        rotate_left
        · (intro w hSw; (try dsimp only at hSw); go_simp; (first | done | with_reducible rfl))
        change wpAnyH _ _ _ _ _ _ _ (Act.put _ (some 62) _) _
        simp only [Act.put, List.setIfInBounds_toArray, List.set_cons_zero, List.set_cons_succ]
        refine wpAnyH_take (i := 7) (v := undef) rfl (by kernel_rfl) (by kernel_rfl) (by kernel_rfl) (fun _ _ _ h => h) (Or.inr ⟨by rfl, rfl⟩) hS ?_
        change wpAnyH _ _ _ _ _ _ _ (Act.put _ (some 63) _) _
        simp only [Act.put, List.setIfInBounds_toArray, List.set_cons_zero, List.set_cons_succ]
        refine wpAnyH_take (i := 8) (v := undef) rfl (by kernel_rfl) (by kernel_rfl) (by kernel_rfl) (fun _ _ _ h => h) (Or.inr ⟨by rfl, rfl⟩) hS ?_
        change wpAnyH _ _ _ _ _ _ _ (Act.put _ (some 64) _) _
        simp only [Act.put, List.setIfInBounds_toArray, List.set_cons_zero, List.set_cons_succ]
        refine wpAnyH_take (i := 9) (v := undef) rfl (by kernel_rfl) (by kernel_rfl) (by kernel_rfl) (fun _ _ _ h => h) (Or.inr ⟨by rfl, rfl⟩) hS ?_
        change wpAnyH _ _ _ _ _ _ _ (Act.put _ (some 65) _) _
        simp only [Act.put, List.setIfInBounds_toArray, List.set_cons_zero, List.set_cons_succ]
        refine wpAnyH_take (i := 10) (v := undef) rfl (by kernel_rfl) (by kernel_rfl) (by kernel_rfl) (fun _ _ _ h => h) (Or.inr ⟨by rfl, rfl⟩) hS ?_
        change wpAnyH _ _ _ _ _ _ _ (Act.put _ (some 66) _) _
        simp only [Act.put, List.setIfInBounds_toArray, List.set_cons_zero, List.set_cons_succ]
        refine wpAnyH_take (i := 11) (v := undef) rfl (by kernel_rfl) (by kernel_rfl) (by kernel_rfl) (fun _ _ _ h => h) (Or.inr ⟨by rfl, rfl⟩) hS ?_
        change wpAnyH _ _ _ _ _ _ _ (Act.put _ (some 67) _) _
        simp only [Act.put, List.setIfInBounds_toArray, List.set_cons_zero, List.set_cons_succ]
        refine wpAnyH_take (i := 12) (v := undef) rfl (by kernel_rfl) (by kernel_rfl) (by kernel_rfl) (fun _ _ _ h => h) (Or.inr ⟨by rfl, rfl⟩) hS ?_
        change wpAnyH _ _ _ _ _ _ _ (Act.put _ (some 68) _) _
        simp only [Act.put, List.setIfInBounds_toArray, List.set_cons_zero, List.set_cons_succ]
        refine wpAnyH_take (i := 13) (v := undef) rfl (by kernel_rfl) (by kernel_rfl) (by kernel_rfl) (fun _ _ _ h => h) (Or.inr ⟨by rfl, rfl⟩) hS ?_
        change wpAnyH _ _ _ _ _ _ _ (Act.put _ (some 69) _) _
        simp only [Act.put, List.setIfInBounds_toArray, List.set_cons_zero, List.set_cons_succ]
        refine wpAnyH_take (i := 14) (v := ?_) rfl (by kernel_rfl) (by kernel_rfl) (by kernel_rfl) (fun _ _ _ h => h) (Or.inl ⟨by rfl, ?_⟩) hS ?_
        rotate_left
        · (intro w hSw; (try dsimp only at hSw); go_simp; (first | done | with_reducible rfl))
        change wpAnyH _ _ _ _ _ _ _ (Act.put _ (some 70) _) _
        simp only [Act.put, List.setIfInBounds_toArray, List.set_cons_zero, List.set_cons_succ]
        refine wpAnyH_take (i := 15) (v := ?_) rfl (by kernel_rfl) (by kernel_rfl) (by kernel_rfl) (fun _ _ _ h => h) (Or.inl ⟨by rfl, ?_⟩) hS ?_
        rotate_left
        · (intro w hSw; (try dsimp only at hSw); go_simp; (first | done | with_reducible rfl))
        change wpAnyH _ _ _ _ _ _ _ (Act.put _ (some 71) _) _
        simp only [Act.put, List.setIfInBounds_toArray, List.set_cons_zero, List.set_cons_succ]
        refine wpAnyH_ready (rs := [16]) (by kernel_rfl) (by simp) ?_
        refine AllReadyH.cons rfl (fun K hK => ?_) AllReadyH.nil
        go_simp
        have hq := lives_f v0 (hP.keep kz)
        refine hq.mono ?_
        rintro e v1 ⟨rfl, kq⟩
        clear hq
        go_wp2_with fail
        refine hK.out _ _ (HS _ (kz.trans kq)) (fun hS => ?_)
        clear hK K
        try simp only [Act.put, List.setIfInBounds_toArray, List.set_cons_zero, List.set_cons_succ]
        refine wpAnyH_take (i := 17) (v := ?_) rfl (by kernel_rfl) (by kernel_rfl) (by kernel_rfl) (fun _ _ _ h => h) (Or.inl ⟨by rfl, ?_⟩) hS ?_
        rotate_left
        · (intro w hSw; (try dsimp only at hSw); go_simp; (first | done | with_reducible rfl))
        change wpAnyH _ _ _ _ _ _ _ (Act.put _ (some 73) _) _
        simp only [Act.put, List.setIfInBounds_toArray, List.set_cons_zero, List.set_cons_succ]
        refine wpAnyH_take (i := 18) (v := ?_) rfl (by kernel_rfl) (by kernel_rfl) (by kernel_rfl) (fun _ _ _ h => h) (Or.inl ⟨by rfl, ?_⟩) hS ?_
        rotate_left
        · (intro w hSw; (try dsimp only at hSw); go_simp; (first | done | with_reducible rfl))
        change wpAnyH _ _ _ _ _ _ _ (Act.put _ (some 2) _) _
        simp only [Act.put, List.setIfInBounds_toArray, List.set_cons_zero, List.set_cons_succ]
        refine wpAnyH_done (by kernel_rfl) ?_ _
        refine NoPanic.normal ?_
        replace kz := kz.trans kq
        clear kq
        replace hP := hP.keep kz
        replace hf := hf.keep kz
        replace hg := hg.keep kz
        replace hr := hr.keep kz
        replace hs := hs.keep kz
        replace bR := bR.keep kz
        replace bS := bS.keep kz
        replace f3 := f3.keep kz
        replace f4 := f4.keep kz
        replace kk := kk.trans kz
        clear kz
        clear HS hS
        go_wp2_with fail
        go_ret
        exact ⟨rfl, kk⟩
  · have HS : ∀ v, Keep w7 v → (fun _ => True) v := fun v K' => trivial
    have kz := Keep.refl w7
    refine wp_region_noPanic ?_
    refine wp_region_held_drew (S := (fun _ => True)) (by kernel_rfl) (HS _ kz.drew) (fun hS => ?_)
    replace kz := kz.drew
    generalize w7.drew = v0 at hS kz ⊢
    refine wpAnyH_take (i := 0) (v := ?_) rfl (by kernel_rfl) (by kernel_rfl) (by kernel_rfl) (fun _ _ _ h => h) (Or.inl ⟨by rfl, ?_⟩) hS ?_
    rotate_left
    · (intro w hSw; (try dsimp only at hSw); go_simp; (first | done | with_reducible rfl))
    change wpAnyH _ _ _ _ _ _ _ (Act.put _ (some 31) _) _
    simp only [Act.put, List.setIfInBounds_toArray, List.set_cons_zero, List.set_cons_succ]
    refine wpAnyH_take (i := 1) (v := ?_) rfl (by kernel_rfl) (by kernel_rfl) (by kernel_rfl) (fun _ _ _ h => h) (Or.inl ⟨by rfl, ?_⟩) hS ?_
    rotate_left
    · (intro w hSw; (try dsimp only at hSw); go_simp; (first | done | with_reducible rfl))
    change wpAnyH _ _ _ _ _ _ _ (Act.put _ (some 32) _) _
    simp only [Act.put, List.setIfInBounds_toArray, List.set_cons_zero, List.set_cons_succ]
    refine wpAnyH_take (i := 2) (v := ?_) rfl (by kernel_rfl) (by kernel_rfl) (by kernel_rfl) (fun _ _ _ h => h) (Or.inl ⟨by rfl, ?_⟩) hS ?_
    rotate_left
    · (intro w hSw; (try dsimp only at hSw); go_simp; (first | done | with_reducible rfl))
    change wpAnyH _ _ _ _ _ _ _ (Act.put _ (some 33) _) _
    simp only [Act.put, List.setIfInBounds_toArray, List.set_cons_zero, List.set_cons_succ]
    refine wpAnyH_take (i := 3) (v := undef) rfl (by kernel_rfl) (by kernel_rfl) (by kernel_rfl) (fun _ _ _ h => h) (Or.inr ⟨by rfl, rfl⟩) hS ?_
    change wpAnyH _ _ _ _ _ _ _ (Act.put _ (some 34) _) _
    simp only [Act.put, List.setIfInBounds_toArray, List.set_cons_zero, List.set_cons_succ]
    refine wpAnyH_take (i := 4) (v := undef) rfl (by kernel_rfl) (by kernel_rfl) (by kernel_rfl) (fun _ _ _ h => h) (Or.inr ⟨by rfl, rfl⟩) hS ?_
    change wpAnyH _ _ _ _ _ _ _ (Act.put _ (some 35) _) _
    simp only [Act.put, List.setIfInBounds_toArray, List.set_cons_zero, List.set_cons_succ]
    refine wpAnyH_take (i := 5) (v := ?_) rfl (by kernel_rfl) (by kernel_rfl) (by kernel_rfl) (fun _ _ _ h => h) (Or.inl ⟨by rfl, ?_⟩) hS ?_
    rotate_left
    · (intro w hSw; (try dsimp only at hSw); go_simp; (first | done | with_reducible rfl))
    change wpAnyH _ _ _ _ _ _ _ (Act.put _ (some 36) _) _
    simp only [Act.put, List.setIfInBounds_toArray, List.set_cons_zero, List.set_cons_succ]
    refine wpAnyH_take (i := 6) (v := ?_) rfl (by kernel_rfl) (by kernel_rfl) (by kernel_rfl) (fun _ _ _ h => h) (Or.inl ⟨by rfl, ?_⟩) hS ?_
    rotate_left
    · (intro w hSw; (try dsimp only at hSw); go_simp; (first | done | with_reducible rfl))
    change wpAnyH _ _ _ _ _ _ _ (Act.put _ (some 37) _) _
    simp only [Act.put, List.setIfInBounds_toArray, List.set_cons_zero, List.set_cons_succ]
    refine wpAnyH_take (i := 7) (v := undef) rfl (by kernel_rfl) (by kernel_rfl) (by kernel_rfl) (fun _ _ _ h => h) (Or.inr ⟨by rfl, rfl⟩) hS ?_
    change wpAnyH _ _ _ _ _ _ _ (Act.put _ (some 38) _) _
    simp only [Act.put, List.setIfInBounds_toArray, List.set_cons_zero, List.set_cons_succ]
    refine wpAnyH_take (i := 8) (v := undef) rfl (by kernel_rfl) (by kernel_rfl) (by kernel_rfl) (fun _ _ _ h => h) (Or.inr ⟨by rfl, rfl⟩) hS ?_
    change wpAnyH _ _ _ _ _ _ _ (Act.put _ (some 39) _) _
    simp only [Act.put, List.setIfInBounds_toArray, List.set_cons_zero, List.set_cons_succ]
    refine wpAnyH_take (i := 9) (v := undef) rfl (by kernel_rfl) (by kernel_rfl) (by kernel_rfl) (fun _ _ _ h => h) (Or.inr ⟨by rfl, rfl⟩) hS ?_
    change wpAnyH _ _ _ _ _ _ _ (Act.put _ (some 40) _) _
    simp only [Act.put, List.setIfInBounds_toArray, List.set_cons_zero, List.set_cons_succ]
    refine wpAnyH_take (i := 10) (v := undef) rfl (by kernel_rfl) (by kernel_rfl) (by kernel_rfl) (fun _ _ _ h => h) (Or.inr ⟨by rfl, rfl⟩) hS ?_
    change wpAnyH _ _ _ _ _ _ _ (Act.put _ (some 41) _) _
    simp only [Act.put, List.setIfInBounds_toArray, List.set_cons_zero, List.set_cons_succ]
    refine wpAnyH_take (i := 11) (v := undef) rfl (by kernel_rfl) (by kernel_rfl) (by kernel_rfl) (fun _ _ _ h => h) (Or.inr ⟨by rfl, rfl⟩) hS ?_
    change wpAnyH _ _ _ _ _ _ _ (Act.put _ (some 42) _) _
    simp only [Act.put, List.setIfInBounds_toArray, List.set_cons_zero, List.set_cons_succ]
    refine wpAnyH_take (i := 12) (v := undef) rfl (by kernel_rfl) (by kernel_rfl) (by kernel_rfl) (fun _ _ _ h => h) (Or.inr ⟨by rfl, rfl⟩) hS ?_
    change wpAnyH _ _ _ _ _ _ _ (Act.put _ (some 43) _) _
    simp only [Act.put, List.setIfInBounds_toArray, List.set_cons_zero, List.set_cons_succ]
    refine wpAnyH_take (i := 13) (v := undef) rfl (by kernel_rfl) (by kernel_rfl) (by kernel_rfl) (fun _ _ _ h => h) (Or.inr ⟨by rfl, rfl⟩) hS ?_
    change wpAnyH _ _ _ _ _ _ _ (Act.put _ (some 44) _) _
    simp only [Act.put, List.setIfInBounds_toArray, List.set_cons_zero, List.set_cons_succ]
    refine wpAnyH_take (i := 14) (v := ?_) rfl (by kernel_rfl) (by kernel_rfl) (by kernel_rfl) (fun _ _ _ h => h) (Or.inl ⟨by rfl, ?_⟩) hS ?_
    rotate_left
    · (intro w hSw; (try dsimp only at hSw); go_simp; (first | done | with_reducible rfl))
    change wpAnyH _ _ _ _ _ _ _ (Act.put _ (some 45) _) _
    simp only [Act.put, List.setIfInBounds_toArray, List.set_cons_zero, List.set_cons_succ]
    refine wpAnyH_done (by kernel_rfl) ?_ _
    refine NoPanic.normal ?_
    replace hP := hP.keep kz
    replace hf := hf.keep kz
    replace hg := hg.keep kz
    replace hr := hr.keep kz
    replace hs := hs.keep kz
    replace bF := bF.keep kz
    replace bG := bG.keep kz
    replace bR := bR.keep kz
    replace bS := bS.keep kz
    replace f1 := f1.keep kz
    replace f2 := f2.keep kz
    replace kk := kk.trans kz
    clear kz
    clear HS hS
    clear f1 f2 bF bG
    go_upto_region 9 with fail
    have bR_0 := bR.cell_ (i := 0) rfl
    have bR_1 := bR.cell_ (i := 1) rfl
    have bR_2 := bR.cell_ (i := 2) rfl
    have bR_3 := bR.cell_ (i := 3) rfl
    have bR_4 := bR.cell_ (i := 4) rfl
    have bR_5 := bR.cell_ (i := 5) rfl
    have bR_6 := bR.cell_ (i := 6) rfl
    have bR_7 := bR.cell_ (i := 7) rfl
    have bR_8 := bR.cell_ (i := 8) rfl
    have bR_9 := bR.cell_ (i := 9) rfl
    have hq := putR_f (Rpl.mk r rba rbc rca rcc) v0 hr p3.out
    unfold Rpl.val at hq
    simp only at hq
    go_wp2_with fail
    refine hq.mono ?_
    rintro e w8 ⟨A3, rfl, f3, kq⟩
    clear hq
    replace hP := hP.keep kq
    replace hf := hf.keep kq
    replace hg := hg.keep kq
    replace hr := hr.keep kq
    replace hs := hs.keep kq
    replace bR := bR.keep kq
    replace bS := bS.keep kq
    replace kk := kk.trans kq
    clear kq
    clear bR_0 bR_1 bR_2 bR_3 bR_4 bR_5 bR_6 bR_7 bR_8 bR_9
    have bS_0 := bS.cell_ (i := 0) rfl
    have bS_1 := bS.cell_ (i := 1) rfl
    have bS_2 := bS.cell_ (i := 2) rfl
    have bS_3 := bS.cell_ (i := 3) rfl
    have bS_4 := bS.cell_ (i := 4) rfl
    have bS_5 := bS.cell_ (i := 5) rfl
    have bS_6 := bS.cell_ (i := 6) rfl
    have bS_7 := bS.cell_ (i := 7) rfl
    have bS_8 := bS.cell_ (i := 8) rfl
    have bS_9 := bS.cell_ (i := 9) rfl
    have hq := putR_f (Rpl.mk s sba sbc sca scc) w8 hs p4.out
    unfold Rpl.val at hq
    simp only at hq
    go_wp2_with fail
    refine hq.mono ?_
    rintro e w9 ⟨A4, rfl, f4, kq⟩
    clear hq
    replace hP := hP.keep kq
    replace hf := hf.keep kq
    replace hg := hg.keep kq
    replace hr := hr.keep kq
    replace hs := hs.keep kq
    replace bR := bR.keep kq
    replace bS := bS.keep kq
    replace f3 := f3.keep kq
    replace kk := kk.trans kq
    clear kq
    clear bS_0 bS_1 bS_2 bS_3 bS_4 bS_5 bS_6 bS_7 bS_8 bS_9
    go_upto_region 11 with fail
    rcases q3.out with ⟨rfl, m3, rfl⟩ | ⟨z3, z3'⟩
    · rcases q4.out with ⟨rfl, m4, rfl⟩ | ⟨z4, z4'⟩
      · have hB := Lib.hid (unlikeR m3 m4 ⟨hr.seq, hr.tok⟩ ⟨hs.seq, hs.tok⟩)
        obtain ⟨-, -, -, -, -, -, -, -, l31, l32, -⟩ := mayR_facts m3
        obtain ⟨-, -, -, -, -, -, -, -, l41, l42, -⟩ := mayR_facts m4
        have y3 : (bytesR r).length ≤ 2000 := by rw [length_bytesR]; omega
        have y4 : (bytesR s).length ≤ 2000 := by rw [length_bytesR]; omega
        clear m3 m4
        obtain ⟨L3, hL3⟩ : ∃ L, L = bytesR r := ⟨_, rfl⟩
        obtain ⟨L4, hL4⟩ : ∃ L, L = bytesR s := ⟨_, rfl⟩
        rw [← hL3] at f3 y3 hB
        rw [← hL4] at f4 y4 hB
        rw [← hL3, ← hL4]
        clear hL3 hL4
        obtain ⟨B, hBe⟩ : ∃ B, B = sameRV r s := ⟨_, rfl⟩
        rw [← hBe] at hB
        have HS : ∀ v, Keep w9 v → (fun v => v.cell? ⟨gbR, 0, none⟩ = some (.int .i64 r.e) ∧ v.cell? ⟨gbR, 1, none⟩ = some (.int .u32 r.seq) ∧ v.cell? ⟨gbR, 2, none⟩ = some (.int .u64 r.tok) ∧ v.cell? ⟨gbR, 3, none⟩ = some (.int .u8 r.ph) ∧ v.cell? ⟨gbR, 4, none⟩ = some (.int .u64 r.tm) ∧ v.cell? ⟨gbR, 5, none⟩ = some (.bool r.has) ∧ v.cell? ⟨gbR, 6, none⟩ = some (.slice rba r.bid.length rbc) ∧ v.cell? ⟨gbR, 7, none⟩ = some (.int .i64 r.item) ∧ v.cell? ⟨gbR, 8, none⟩ = some (.int .i64 r.pays) ∧ v.cell? ⟨gbR, 9, none⟩ = some (.slice rca r.cert.length rcc) ∧ v.cell? ⟨gbS, 0, none⟩ = some (.int .i64 s.e) ∧ v.cell? ⟨gbS, 1, none⟩ = some (.int .u32 s.seq) ∧ v.cell? ⟨gbS, 2, none⟩ = some (.int .u64 s.tok) ∧ v.cell? ⟨gbS, 3, none⟩ = some (.int .u8 s.ph) ∧ v.cell? ⟨gbS, 4, none⟩ = some (.int .u64 s.tm) ∧ v.cell? ⟨gbS, 5, none⟩ = some (.bool s.has) ∧ v.cell? ⟨gbS, 6, none⟩ = some (.slice sba s.bid.length sbc) ∧ v.cell? ⟨gbS, 7, none⟩ = some (.int .i64 s.item) ∧ v.cell? ⟨gbS, 8, none⟩ = some (.int .i64 s.pays) ∧ v.cell? ⟨gbS, 9, none⟩ = some (.slice sca s.cert.length scc)) v := fun v K' => ⟨K'.cell (bR.cell_ (i := 0) rfl), K'.cell (bR.cell_ (i := 1) rfl), K'.cell (bR.cell_ (i := 2) rfl), K'.cell (bR.cell_ (i := 3) rfl), K'.cell (bR.cell_ (i := 4) rfl), K'.cell (bR.cell_ (i := 5) rfl), K'.cell (bR.cell_ (i := 6) rfl), K'.cell (bR.cell_ (i := 7) rfl), K'.cell (bR.cell_ (i := 8) rfl), K'.cell (bR.cell_ (i := 9) rfl), K'.cell (bS.cell_ (i := 0) rfl), K'.cell (bS.cell_ (i := 1) rfl), K'.cell (bS.cell_ (i := 2) rfl), K'.cell (bS.cell_ (i := 3) rfl), K'.cell (bS.cell_ (i := 4) rfl), K'.cell (bS.cell_ (i := 5) rfl), K'.cell (bS.cell_ (i := 6) rfl), K'.cell (bS.cell_ (i := 7) rfl), K'.cell (bS.cell_ (i := 8) rfl), K'.cell (bS.cell_ (i := 9) rfl)⟩
        have kz := Keep.refl w9
        refine wp_region_noPanic ?_
        refine wp_region_held_drew (S := (fun v => v.cell? ⟨gbR, 0, none⟩ = some (.int .i64 r.e) ∧ v.cell? ⟨gbR, 1, none⟩ = some (.int .u32 r.seq) ∧ v.cell? ⟨gbR, 2, none⟩ = some (.int .u64 r.tok) ∧ v.cell? ⟨gbR, 3, none⟩ = some (.int .u8 r.ph) ∧ v.cell? ⟨gbR, 4, none⟩ = some (.int .u64 r.tm) ∧ v.cell? ⟨gbR, 5, none⟩ = some (.bool r.has) ∧ v.cell? ⟨gbR, 6, none⟩ = some (.slice rba r.bid.length rbc) ∧ v.cell? ⟨gbR, 7, none⟩ = some (.int .i64 r.item) ∧ v.cell? ⟨gbR, 8, none⟩ = some (.int .i64 r.pays) ∧ v.cell? ⟨gbR, 9, none⟩ = some (.slice rca r.cert.length rcc) ∧ v.cell? ⟨gbS, 0, none⟩ = some (.int .i64 s.e) ∧ v.cell? ⟨gbS, 1, none⟩ = some (.int .u32 s.seq) ∧ v.cell? ⟨gbS, 2, none⟩ = some (.int .u64 s.tok) ∧ v.cell? ⟨gbS, 3, none⟩ = some (.int .u8 s.ph) ∧ v.cell? ⟨gbS, 4, none⟩ = some (.int .u64 s.tm) ∧ v.cell? ⟨gbS, 5, none⟩ = some (.bool s.has) ∧ v.cell? ⟨gbS, 6, none⟩ = some (.slice sba s.bid.length sbc) ∧ v.cell? ⟨gbS, 7, none⟩ = some (.int .i64 s.item) ∧ v.cell? ⟨gbS, 8, none⟩ = some (.int .i64 s.pays) ∧ v.cell? ⟨gbS, 9, none⟩ = some (.slice sca s.cert.length scc))) (by kernel_rfl) (HS _ kz.drew) (fun hS => ?_)
        replace kz := kz.drew
        generalize w9.drew = v0 at hS kz ⊢
        refine wpAnyH_take (i := 0) (v := ?_) rfl (by kernel_rfl) (by kernel_rfl) (by kernel_rfl) (fun _ _ _ h => h) (Or.inl ⟨by rfl, ?_⟩) hS ?_
        rotate_left
        · (intro w hSw; (try dsimp only at hSw); go_simp; (first | done | with_reducible rfl))
        change wpAnyH _ _ _ _ _ _ _ (Act.put _ (some 56) _) _
        simp only [Act.put, List.setIfInBounds_toArray, List.set_cons_zero, List.set_cons_succ]
        refine wpAnyH_take (i := 1) (v := ?_) rfl (by kernel_rfl) (by kernel_rfl) (by kernel_rfl) (fun _ _ _ h => h) (Or.inl ⟨by rfl, ?_⟩) hS ?_
        rotate_left
        · (intro w hSw; (try dsimp only at hSw); go_simp; (first | done | with_reducible rfl))
        change wpAnyH _ _ _ _ _ _ _ (Act.put _ (some 57) _) _
        simp only [Act.put, List.setIfInBounds_toArray, List.set_cons_zero, List.set_cons_succ]
        refine wpAnyH_take (i := 2) (v := ?_) rfl (by kernel_rfl) (by kernel_rfl) (by kernel_rfl) (fun _ _ _ h => h) (Or.inl ⟨by rfl, ?_⟩) hS ?_
        rotate_left
        · (intro w hSw; (try dsimp only at hSw); go_simp; (first | done | with_reducible rfl))
        change wpAnyH _ _ _ _ _ _ _ (Act.put _ (some 58) _) _
        simp only [Act.put, List.setIfInBounds_toArray, List.set_cons_zero, List.set_cons_succ]
        refine wpAnyH_take (i := 3) (v := ?_) rfl (by kernel_rfl) (by kernel_rfl) (by kernel_rfl) (fun _ _ _ h => h) (Or.inl ⟨by rfl, ?_⟩) hS ?_
        rotate_left
        · (intro w hSw; (try dsimp only at hSw); go_simp; (first | done | with_reducible rfl))
        change wpAnyH _ _ _ _ _ _ _ (Act.put _ (some 59) _) _
        simp only [Act.put, List.setIfInBounds_toArray, List.set_cons_zero, List.set_cons_succ]
        refine wpAnyH_take (i := 4) (v := ?_) rfl (by kernel_rfl) (by kernel_rfl) (by kernel_rfl) (fun _ _ _ h => h) (Or.inl ⟨by rfl, ?_⟩) hS ?_
        rotate_left
        · (intro w hSw; (try dsimp only at hSw); go_simp; (first | done | with_reducible rfl))
        change wpAnyH _ _ _ _ _ _ _ (Act.put _ (some 60) _) _
        simp only [Act.put, List.setIfInBounds_toArray, List.set_cons_zero, List.set_cons_succ]
        refine wpAnyH_take (i := 5) (v := ?_) rfl (by kernel_rfl) (by kernel_rfl) (by kernel_rfl) (fun _ _ _ h => h) (Or.inl ⟨by rfl, ?_⟩) hS ?_
        rotate_left
        · (intro w hSw; (try dsimp only at hSw); go_simp; (first | done | with_reducible rfl))
        change wpAnyH _ _ _ _ _ _ _ (Act.put _ (some 61) _) _
        simp only [Act.put, List.setIfInBounds_toArray, List.set_cons_zero, List.set_cons_succ]
        refine wpAnyH_take (i := 6) (v := ?_) rfl (by kernel_rfl) (by kernel_rfl) (by kernel_rfl) (fun _ _ _ h => h) (Or.inl ⟨by rfl, ?_⟩) hS ?_
        rotate_left
        · (intro w hSw; (try dsimp only at hSw); go_simp; (first | done | with_reducible rfl))
        change wpAnyH _ _ _ _ _ _ _ (Act.put _ (some 62) _) _
        simp only [Act.put, List.setIfInBounds_toArray, List.set_cons_zero, List.set_cons_succ]
        refine wpAnyH_take (i := 7) (v := ?_) rfl (by kernel_rfl) (by kernel_rfl) (by kernel_rfl) (fun _ _ _ h => h) (Or.inl ⟨by rfl, ?_⟩) hS ?_
        rotate_left
        · (intro w hSw; (try dsimp only at hSw); go_simp; (first | done | with_reducible rfl))
        change wpAnyH _ _ _ _ _ _ _ (Act.put _ (some 63) _) _
        simp only [Act.put, List.setIfInBounds_toArray, List.set_cons_zero, List.set_cons_succ]
        refine wpAnyH_take (i := 8) (v := ?_) rfl (by kernel_rfl) (by kernel_rfl) (by kernel_rfl) (fun _ _ _ h => h) (Or.inl ⟨by rfl, ?_⟩) hS ?_
        rotate_left
        · (intro w hSw; (try dsimp only at hSw); go_simp; (first | done | with_reducible rfl))
        change wpAnyH _ _ _ _ _ _ _ (Act.put _ (some 64) _) _
        simp only [Act.put, List.setIfInBounds_toArray, List.set_cons_zero, List.set_cons_succ]
        refine wpAnyH_take (i := 10) (v := ?_) rfl (by kernel_rfl) (by kernel_rfl) (by kernel_rfl) (fun _ _ _ h => h) (Or.inl ⟨by rfl, ?_⟩) hS ?_
        rotate_left
        · (intro w hSw; (try dsimp only at hSw); go_simp; (first | done | with_reducible rfl))
        change wpAnyH _ _ _ _ _ _ _ (Act.put _ (some 66) _) _
        simp only [Act.put, List.setIfInBounds_toArray, List.set_cons_zero, List.set_cons_succ]
        refine wpAnyH_take (i := 11) (v := ?_) rfl (by kernel_rfl) (by kernel_rfl) (by kernel_rfl) (fun _ _ _ h => h) (Or.inl ⟨by rfl, ?_⟩) hS ?_
        rotate_left
        · (intro w hSw; (try dsimp only at hSw); go_simp; (first | done | with_reducible rfl))
        change wpAnyH _ _ _ _ _ _ _ (Act.put _ (some 67) _) _
        simp only [Act.put, List.setIfInBounds_toArray, List.set_cons_zero, List.set_cons_succ]
        refine wpAnyH_ready (rs := [9]) (by kernel_rfl) (by simp) ?_
        refine AllReadyH.cons rfl (fun K hK => ?_) AllReadyH.nil
        go_simp
        have hq := saysK (sameBytes A3 A4 L3.length L4.length L3 L4 v0 (f3.keep kz).rd (f4.keep kz).rd (by unfold Reach; omega) (by unfold Reach; omega))
        rw [hB.out] at hq
        refine hq.mono ?_
        rintro e v1 ⟨rfl, kq⟩
        clear hq
        go_wp2_with fail
        refine hK.out _ _ (HS _ (kz.trans kq)) (fun hS => ?_)
        clear hK K
        try simp only [Act.put, List.setIfInBounds_toArray, List.set_cons_zero, List.set_cons_succ]
        refine wpAnyH_ready (rs := [12]) (by kernel_rfl) (by simp) ?_
        refine AllReadyH.cons rfl (fun K hK => ?_) AllReadyH.nil
        go_simp
        replace kz := kz.trans kq
        clear kq
        have hq := sameReply_f (Rpl.mk r rba rbc rca rcc) (Rpl.mk s sba sbc sca scc) v1 (hr.keep kz) (hs.keep kz) (by unfold Reach; simp only; omega) (by unfold Reach; simp only; omega) (by unfold Reach; simp only; omega) (by unfold Reach; simp only; omega)
        unfold Rpl.val at hq
        simp only at hq
        rw [← hBe] at hq
        refine hq.mono ?_
        rintro e v2 ⟨rfl, kq⟩
        clear hq
        go_wp2_with fail
        refine hK.out _ _ (HS _ (kz.trans kq)) (fun hS => ?_)
        clear hK K
        try simp only [Act.put, List.setIfInBounds_toArray, List.set_cons_zero, List.set_cons_succ]
        refine wpAnyH_take (i := 13) (v := ?_) rfl (by kernel_rfl) (by kernel_rfl) (by kernel_rfl) (fun _ _ _ h => h) (Or.inl ⟨by rfl, ?_⟩) hS ?_
        rotate_left
        · (intro w hSw; (try dsimp only at hSw); go_simp; (first | done | with_reducible rfl))
        change wpAnyH _ _ _ _ _ _ _ (Act.put _ (some 69) _) _
        simp only [Act.put, List.setIfInBounds_toArray, List.set_cons_zero, List.set_cons_succ]
        refine wpAnyH_take (i := 14) (v := ?_) rfl (by kernel_rfl) (by kernel_rfl) (by kernel_rfl) (fun _ _ _ h => h) (Or.inl ⟨by rfl, ?_⟩) hS ?_
        rotate_left
        · (intro w hSw; (try dsimp only at hSw); go_simp; (first | done | with_reducible rfl))
        change wpAnyH _ _ _ _ _ _ _ (Act.put _ (some 70) _) _
        simp only [Act.put, List.setIfInBounds_toArray, List.set_cons_zero, List.set_cons_succ]
        refine wpAnyH_take (i := 15) (v := ?_) rfl (by kernel_rfl) (by kernel_rfl) (by kernel_rfl) (fun _ _ _ h => h) (Or.inl ⟨by rfl, ?_⟩) hS ?_
        rotate_left
        · (intro w hSw; (try dsimp only at hSw); go_simp; (first | done | with_reducible rfl))
        change wpAnyH _ _ _ _ _ _ _ (Act.put _ (some 71) _) _
        simp only [Act.put, List.setIfInBounds_toArray, List.set_cons_zero, List.set_cons_succ]
        refine wpAnyH_ready (rs := [16]) (by kernel_rfl) (by simp) ?_
        refine AllReadyH.cons rfl (fun K hK => ?_) AllReadyH.nil
        go_simp
        replace kz := kz.trans kq
        clear kq
        have hq := lives_f v2 (hP.keep kz)
        refine hq.mono ?_
        rintro e v3 ⟨rfl, kq⟩
        clear hq
        go_wp2_with fail
        refine hK.out _ _ (HS _ (kz.trans kq)) (fun hS => ?_)
        clear hK K
        try simp only [Act.put, List.setIfInBounds_toArray, List.set_cons_zero, List.set_cons_succ]
        refine wpAnyH_take (i := 17) (v := ?_) rfl (by kernel_rfl) (by kernel_rfl) (by kernel_rfl) (fun _ _ _ h => h) (Or.inl ⟨by rfl, ?_⟩) hS ?_
        rotate_left
        · (intro w hSw; (try dsimp only at hSw); go_simp; (first | done | with_reducible rfl))
        change wpAnyH _ _ _ _ _ _ _ (Act.put _ (some 73) _) _
        simp only [Act.put, List.setIfInBounds_toArray, List.set_cons_zero, List.set_cons_succ]
        refine wpAnyH_take (i := 18) (v := ?_) rfl (by kernel_rfl) (by kernel_rfl) (by kernel_rfl) (fun _ _ _ h => h) (Or.inl ⟨by rfl, ?_⟩) hS ?_
        rotate_left
        · (intro w hSw; (try dsimp only at hSw); go_simp; (first | done | with_reducible rfl))
        change wpAnyH _ _ _ _ _ _ _ (Act.put _ (some 2) _) _
        simp only [Act.put, List.setIfInBounds_toArray, List.set_cons_zero, List.set_cons_succ]
        refine wpAnyH_done (by kernel_rfl) ?_ _
        refine NoPanic.normal ?_
        replace kz := kz.trans kq
        clear kq
        replace hP := hP.keep kz
        replace hf := hf.keep kz
        replace hg := hg.keep kz
        replace hr := hr.keep kz
        replace hs := hs.keep kz
        replace bR := bR.keep kz
        replace bS := bS.keep kz
        replace f3 := f3.keep kz
        replace f4 := f4.keep kz
        replace kk := kk.trans kz
        clear kz
        clear HS hS
        go_wp2_with fail
        go_ret
        exact ⟨rfl, kk⟩
      · have HS : ∀ v, Keep w9 v → (fun _ => True) v := fun v K' => trivial
        have kz := Keep.refl w9
        refine wp_region_noPanic ?_
        refine wp_region_held_drew (S := (fun _ => True)) (by kernel_rfl) (HS _ kz.drew) (fun hS => ?_)
        replace kz := kz.drew
        generalize w9.drew = v0 at hS kz ⊢
        refine wpAnyH_take (i := 0) (v := ?_) rfl (by kernel_rfl) (by kernel_rfl) (by kernel_rfl) (fun _ _ _ h => h) (Or.inl ⟨by rfl, ?_⟩) hS ?_
        rotate_left
        · (intro w hSw; (try dsimp only at hSw); go_simp; (first | done | with_reducible rfl))
        change wpAnyH _ _ _ _ _ _ _ (Act.put _ (some 56) _) _
        simp only [Act.put, List.setIfInBounds_toArray, List.set_cons_zero, List.set_cons_succ]
        refine wpAnyH_take (i := 1) (v := ?_) rfl (by kernel_rfl) (by kernel_rfl) (by kernel_rfl) (fun _ _ _ h => h) (Or.inl ⟨by rfl, ?_⟩) hS ?_
        rotate_left
        · (intro w hSw; (try dsimp only at hSw); go_simp; (first | done | with_reducible rfl))
        change wpAnyH _ _ _ _ _ _ _ (Act.put _ (some 57) _) _
        simp only [Act.put, List.setIfInBounds_toArray, List.set_cons_zero, List.set_cons_succ]
        refine wpAnyH_take (i := 2) (v := ?_) rfl (by kernel_rfl) (by kernel_rfl) (by kernel_rfl) (fun _ _ _ h => h) (Or.inl ⟨by rfl, ?_⟩) hS ?_
        rotate_left
        · (intro w hSw; (try dsimp only at hSw); go_simp; (first | done | with_reducible rfl))
        change wpAnyH _ _ _ _ _ _ _ (Act.put _ (some 58) _) _
        simp only [Act.put, List.setIfInBounds_toArray, List.set_cons_zero, List.set_cons_succ]
        refine wpAnyH_take (i := 3) (v := ?_) rfl (by kernel_rfl) (by kernel_rfl) (by kernel_rfl) (fun _ _ _ h => h) (Or.inl ⟨by rfl, ?_⟩) hS ?_
        rotate_left
        · (intro w hSw; (try dsimp only at hSw); go_simp; (first | done | with_reducible rfl))
        change wpAnyH _ _ _ _ _ _ _ (Act.put _ (some 59) _) _
        simp only [Act.put, List.setIfInBounds_toArray, List.set_cons_zero, List.set_cons_succ]
        refine wpAnyH_take (i := 4) (v := ?_) rfl (by kernel_rfl) (by kernel_rfl) (by kernel_rfl) (fun _ _ _ h => h) (Or.inl ⟨by rfl, ?_⟩) hS ?_
        rotate_left
        · (intro w hSw; (try dsimp only at hSw); go_simp; (first | done | with_reducible rfl))
        change wpAnyH _ _ _ _ _ _ _ (Act.put _ (some 60) _) _
        simp only [Act.put, List.setIfInBounds_toArray, List.set_cons_zero, List.set_cons_succ]
        refine wpAnyH_take (i := 5) (v := ?_) rfl (by kernel_rfl) (by kernel_rfl) (by kernel_rfl) (fun _ _ _ h => h) (Or.inl ⟨by rfl, ?_⟩) hS ?_
        rotate_left
        · (intro w hSw; (try dsimp only at hSw); go_simp; (first | done | with_reducible rfl))
        change wpAnyH _ _ _ _ _ _ _ (Act.put _ (some 61) _) _
        simp only [Act.put, List.setIfInBounds_toArray, List.set_cons_zero, List.set_cons_succ]
        refine wpAnyH_take (i := 6) (v := ?_) rfl (by kernel_rfl) (by kernel_rfl) (by kernel_rfl) (fun _ _ _ h => h) (Or.inl ⟨by rfl, ?_⟩) hS ?_
        rotate_left
        · (intro w hSw; (try dsimp only at hSw); go_simp; (first | done | with_reducible rfl))
        change wpAnyH _ _ _ _ _ _ _ (Act.put _ (some 62) _) _
        simp only [Act.put, List.setIfInBounds_toArray, List.set_cons_zero, List.set_cons_succ]
        refine wpAnyH_take (i := 7) (v := undef) rfl (by kernel_rfl) (by kernel_rfl) (by kernel_rfl) (fun _ _ _ h => h) (Or.inr ⟨by rfl, rfl⟩) hS ?_
        change wpAnyH _ _ _ _ _ _ _ (Act.put _ (some 63) _) _
        simp only [Act.put, List.setIfInBounds_toArray, List.set_cons_zero, List.set_cons_succ]
        refine wpAnyH_take (i := 8) (v := undef) rfl (by kernel_rfl) (by kernel_rfl) (by kernel_rfl) (fun _ _ _ h => h) (Or.inr ⟨by rfl, rfl⟩) hS ?_
        change wpAnyH _ _ _ _ _ _ _ (Act.put _ (some 64) _) _
        simp only [Act.put, List.setIfInBounds_toArray, List.set_cons_zero, List.set_cons_succ]
        refine wpAnyH_take (i := 9) (v := undef) rfl (by kernel_rfl) (by kernel_rfl) (by kernel_rfl) (fun _ _ _ h => h) (Or.inr ⟨by rfl, rfl⟩) hS ?_
        change wpAnyH _ _ _ _ _ _ _ (Act.put _ (some 65) _) _
        simp only [Act.put, List.setIfInBounds_toArray, List.set_cons_zero, List.set_cons_succ]
        refine wpAnyH_take (i := 10) (v := undef) rfl (by kernel_rfl) (by kernel_rfl) (by kernel_rfl) (fun _ _ _ h => h) (Or.inr ⟨by rfl, rfl⟩) hS ?_
        change wpAnyH _ _ _ _ _ _ _ (Act.put _ (some 66) _) _
        simp only [Act.put, List.setIfInBounds_toArray, List.set_cons_zero, List.set_cons_succ]
        refine wpAnyH_take (i := 11) (v := undef) rfl (by kernel_rfl) (by kernel_rfl) (by kernel_rfl) (fun _ _ _ h => h) (Or.inr ⟨by rfl, rfl⟩) hS ?_
        change wpAnyH _ _ _ _ _ _ _ (Act.put _ (some 67) _) _
        simp only [Act.put, List.setIfInBounds_toArray, List.set_cons_zero, List.set_cons_succ]
        refine wpAnyH_take (i := 12) (v := undef) rfl (by kernel_rfl) (by kernel_rfl) (by kernel_rfl) (fun _ _ _ h => h) (Or.inr ⟨by rfl, rfl⟩) hS ?_
        change wpAnyH _ _ _ _ _ _ _ (Act.put _ (some 68) _) _
        simp only [Act.put, List.setIfInBounds_toArray, List.set_cons_zero, List.set_cons_succ]
        refine wpAnyH_take (i := 13) (v := undef) rfl (by kernel_rfl) (by kernel_rfl) (by kernel_rfl) (fun _ _ _ h => h) (Or.inr ⟨by rfl, rfl⟩) hS ?_
        change wpAnyH _ _ _ _ _ _ _ (Act.put _ (some 69) _) _
        simp only [Act.put, List.setIfInBounds_toArray, List.set_cons_zero, List.set_cons_succ]
        refine wpAnyH_take (i := 14) (v := ?_) rfl (by kernel_rfl) (by kernel_rfl) (by kernel_rfl) (fun _ _ _ h => h) (Or.inl ⟨by rfl, ?_⟩) hS ?_
        rotate_left
        · (intro w hSw; (try dsimp only at hSw); go_simp; (first | done | with_reducible rfl))
        change wpAnyH _ _ _ _ _ _ _ (Act.put _ (some 70) _) _
        simp only [Act.put, List.setIfInBounds_toArray, List.set_cons_zero, List.set_cons_succ]
        refine wpAnyH_take (i := 15) (v := ?_) rfl (by kernel_rfl) (by kernel_rfl) (by kernel_rfl) (fun _ _ _ h => h) (Or.inl ⟨by rfl, ?_⟩) hS ?_
        rotate_left
        · (intro w hSw; (try dsimp only at hSw); go_simp; (first | done | with_reducible rfl))
        change wpAnyH _ _ _ _ _ _ _ (Act.put _ (some 71) _) _
        simp only [Act.put, List.setIfInBounds_toArray, List.set_cons_zero, List.set_cons_succ]
        refine wpAnyH_ready (rs := [16]) (by kernel_rfl) (by simp) ?_
        refine AllReadyH.cons rfl (fun K hK => ?_) AllReadyH.nil
        go_simp
        have hq := lives_f v0 (hP.keep kz)
        refine hq.mono ?_
        rintro e v1 ⟨rfl, kq⟩
        clear hq
        go_wp2_with fail
        refine hK.out _ _ (HS _ (kz.trans kq)) (fun hS => ?_)
        clear hK K
        try simp only [Act.put, List.setIfInBounds_toArray, List.set_cons_zero, List.set_cons_succ]
        refine wpAnyH_take (i := 17) (v := ?_) rfl (by kernel_rfl) (by kernel_rfl) (by kernel_rfl) (fun _ _ _ h => h) (Or.inl ⟨by rfl, ?_⟩) hS ?_
        rotate_left
        · (intro w hSw; (try dsimp only at hSw); go_simp; (first | done | with_reducible rfl))
        change wpAnyH _ _ _ _ _ _ _ (Act.put _ (some 73) _) _
        simp only [Act.put, List.setIfInBounds_toArray, List.set_cons_zero, List.set_cons_succ]
        refine wpAnyH_take (i := 18) (v := ?_) rfl (by kernel_rfl) (by kernel_rfl) (by kernel_rfl) (fun _ _ _ h => h) (Or.inl ⟨by rfl, ?_⟩) hS ?_
        rotate_left
        · (intro w hSw; (try dsimp only at hSw); go_simp; (first | done | with_reducible rfl))
        change wpAnyH _ _ _ _ _ _ _ (Act.put _ (some 2) _) _
        simp only [Act.put, List.setIfInBounds_toArray, List.set_cons_zero, List.set_cons_succ]
        refine wpAnyH_done (by kernel_rfl) ?_ _
        refine NoPanic.normal ?_
        replace kz := kz.trans kq
        clear kq
        replace hP := hP.keep kz
        replace hf := hf.keep kz
        replace hg := hg.keep kz
        replace hr := hr.keep kz
        replace hs := hs.keep kz
        replace bR := bR.keep kz
        replace bS := bS.keep kz
        replace f3 := f3.keep kz
        replace f4 := f4.keep kz
        replace kk := kk.trans kz
        clear kz
        clear HS hS
        go_wp2_with fail
        go_ret
        exact ⟨rfl, kk⟩
    · have HS : ∀ v, Keep w9 v → (fun _ => True) v := fun v K' => trivial
      have kz := Keep.refl w9
      refine wp_region_noPanic ?_
      refine wp_region_held_drew (S := (fun _ => True)) (by kernel_rfl) (HS _ kz.drew) (fun hS => ?_)
      replace kz := kz.drew
      generalize w9.drew = v0 at hS kz ⊢
      refine wpAnyH_take (i := 0) (v := ?_) rfl (by kernel_rfl) (by kernel_rfl) (by kernel_rfl) (fun _ _ _ h => h) (Or.inl ⟨by rfl, ?_⟩) hS ?_
      rotate_left
      · (intro w hSw; (try dsimp only at hSw); go_simp; (first | done | with_reducible rfl))
      change wpAnyH _ _ _ _ _ _ _ (Act.put _ (some 56) _) _
      simp only [Act.put, List.setIfInBounds_toArray, List.set_cons_zero, List.set_cons_succ]
      refine wpAnyH_take (i := 1) (v := ?_) rfl (by kernel_rfl) (by kernel_rfl) (by kernel_rfl) (fun _ _ _ h => h) (Or.inl ⟨by rfl, ?_⟩) hS ?_
      rotate_left
      · (intro w hSw; (try dsimp only at hSw); go_simp; (first | done | with_reducible rfl))
      change wpAnyH _ _ _ _ _ _ _ (Act.put _ (some 57) _) _
      simp only [Act.put, List.setIfInBounds_toArray, List.set_cons_zero, List.set_cons_succ]
      refine wpAnyH_take (i := 2) (v := ?_) rfl (by kernel_rfl) (by kernel_rfl) (by kernel_rfl) (fun _ _ _ h => h) (Or.inl ⟨by rfl, ?_⟩) hS ?_
      rotate_left
      · (intro w hSw; (try dsimp only at hSw); go_simp; (first | done | with_reducible rfl))
      change wpAnyH _ _ _ _ _ _ _ (Act.put _ (some 58) _) _
      simp only [Act.put, List.setIfInBounds_toArray, List.set_cons_zero, List.set_cons_succ]
      refine wpAnyH_take (i := 3) (v := undef) rfl (by kernel_rfl) (by kernel_rfl) (by kernel_rfl) (fun _ _ _ h => h) (Or.inr ⟨by rfl, rfl⟩) hS ?_
      change wpAnyH _ _ _ _ _ _ _ (Act.put _ (some 59) _) _
      simp only [Act.put, List.setIfInBounds_toArray, List.set_cons_zero, List.set_cons_succ]
      refine wpAnyH_take (i := 4) (v := undef) rfl (by kernel_rfl) (by kernel_rfl) (by kernel_rfl) (fun _ _ _ h => h) (Or.inr ⟨by rfl, rfl⟩) hS ?_
      change wpAnyH _ _ _ _ _ _ _ (Act.put _ (some 60) _) _
      simp only [Act.put, List.setIfInBounds_toArray, List.set_cons_zero, List.set_cons_succ]
      refine wpAnyH_take (i := 5) (v := ?_) rfl (by kernel_rfl) (by kernel_rfl) (by kernel_rfl) (fun _ _ _ h => h) (Or.inl ⟨by rfl, ?_⟩) hS ?_
      rotate_left
      · (intro w hSw; (try dsimp only at hSw); go_simp; (first | done | with_reducible rfl))
      change wpAnyH _ _ _ _ _ _ _ (Act.put _ (some 61) _) _
      simp only [Act.put, List.setIfInBounds_toArray, List.set_cons_zero, List.set_cons_succ]
      refine wpAnyH_take (i := 6) (v := ?_) rfl (by kernel_rfl) (by kernel_rfl) (by kernel_rfl) (fun _ _ _ h => h) (Or.inl ⟨by rfl, ?_⟩) hS ?_
      rotate_left
      · (intro w hSw; (try dsimp only at hSw); go_simp; (first | done | with_reducible rfl))
      change wpAnyH _ _ _ _ _ _ _ (Act.put _ (some 62) _) _
      simp only [Act.put, List.setIfInBounds_toArray, List.set_cons_zero, List.set_cons_succ]
      refine wpAnyH_take (i := 7) (v := undef) rfl (by kernel_rfl) (by kernel_rfl) (by kernel_rfl) (fun _ _ _ h => h) (Or.inr ⟨by rfl, rfl⟩) hS ?_
      change wpAnyH _ _ _ _ _ _ _ (Act.put _ (some 63) _) _
      simp only [Act.put, List.setIfInBounds_toArray, List.set_cons_zero, List.set_cons_succ]
      refine wpAnyH_take (i := 8) (v := undef) rfl (by kernel_rfl) (by kernel_rfl) (by kernel_rfl) (fun _ _ _ h => h) (Or.inr ⟨by rfl, rfl⟩) hS ?_
      change wpAnyH _ _ _ _ _ _ _ (Act.put _ (some 64) _) _
      simp only [Act.put, List.setIfInBounds_toArray, List.set_cons_zero, List.set_cons_succ]
      refine wpAnyH_take (i := 9) (v := undef) rfl (by kernel_rfl) (by kernel_rfl) (by kernel_rfl) (fun _ _ _ h => h) (Or.inr ⟨by rfl, rfl⟩) hS ?_
      change wpAnyH _ _ _ _ _ _ _ (Act.put _ (some 65) _) _
      simp only [Act.put, List.setIfInBounds_toArray, List.set_cons_zero, List.set_cons_succ]
      refine wpAnyH_take (i := 10) (v := undef) rfl (by kernel_rfl) (by kernel_rfl) (by kernel_rfl) (fun _ _ _ h => h) (Or.inr ⟨by rfl, rfl⟩) hS ?_
      change wpAnyH _ _ _ _ _ _ _ (Act.put _ (some 66) _) _
      simp only [Act.put, List.setIfInBounds_toArray, List.set_cons_zero, List.set_cons_succ]
      refine wpAnyH_take (i := 11) (v := undef) rfl (by kernel_rfl) (by kernel_rfl) (by kernel_rfl) (fun _ _ _ h => h) (Or.inr ⟨by rfl, rfl⟩) hS ?_
      change wpAnyH _ _ _ _ _ _ _ (Act.put _ (some 67) _) _
      simp only [Act.put, List.setIfInBounds_toArray, List.set_cons_zero, List.set_cons_succ]
      refine wpAnyH_take (i := 12) (v := undef) rfl (by kernel_rfl) (by kernel_rfl) (by kernel_rfl) (fun _ _ _ h => h) (Or.inr ⟨by rfl, rfl⟩) hS ?_
      change wpAnyH _ _ _ _ _ _ _ (Act.put _ (some 68) _) _
      simp only [Act.put, List.setIfInBounds_toArray, List.set_cons_zero, List.set_cons_succ]
      refine wpAnyH_take (i := 13) (v := undef) rfl (by kernel_rfl) (by kernel_rfl) (by kernel_rfl) (fun _ _ _ h => h) (Or.inr ⟨by rfl, rfl⟩) hS ?_
      change wpAnyH _ _ _ _ _ _ _ (Act.put _ (some 69) _) _
      simp only [Act.put, List.setIfInBounds_toArray, List.set_cons_zero, List.set_cons_succ]
      refine wpAnyH_take (i := 14) (v := ?_) rfl (by kernel_rfl) (by kernel_rfl) (by kernel_rfl) (fun _ _ _ h => h) (Or.inl ⟨by rfl, ?_⟩) hS ?_
      rotate_left
      · (intro w hSw; (try dsimp only at hSw); go_simp; (first | done | with_reducible rfl))
      change wpAnyH _ _ _ _ _ _ _ (Act.put _ (some 70) _) _
      simp only [Act.put, List.setIfInBounds_toArray, List.set_cons_zero, List.set_cons_succ]
      refine wpAnyH_take (i := 15) (v := ?_) rfl (by kernel_rfl) (by kernel_rfl) (by kernel_rfl) (fun _ _ _ h => h) (Or.inl ⟨by rfl, ?_⟩) hS ?_
      rotate_left
      · (intro w hSw; (try dsimp only at hSw); go_simp; (first | done | with_reducible rfl))
      change wpAnyH _ _ _ _ _ _ _ (Act.put _ (some 71) _) _
      simp only [Act.put, List.setIfInBounds_toArray, List.set_cons_zero, List.set_cons_succ]
      refine wpAnyH_ready (rs := [16]) (by kernel_rfl) (by simp) ?_
      refine AllReadyH.cons rfl (fun K hK => ?_) AllReadyH.nil
      go_simp
      have hq := lives_f v0 (hP.keep kz)
      refine hq.mono ?_
      rintro e v1 ⟨rfl, kq⟩
      clear hq
      go_wp2_with fail
      refine hK.out _ _ (HS _ (kz.trans kq)) (fun hS => ?_)
      clear hK K
      try simp only [Act.put, List.setIfInBounds_toArray, List.set_cons_zero, List.set_cons_succ]
      refine wpAnyH_take (i := 17) (v := ?_) rfl (by kernel_rfl) (by kernel_rfl) (by kernel_rfl) (fun _ _ _ h => h) (Or.inl ⟨by rfl, ?_⟩) hS ?_
      rotate_left
      · (intro w hSw; (try dsimp only at hSw); go_simp; (first | done | with_reducible rfl))
      change wpAnyH _ _ _ _ _ _ _ (Act.put _ (some 73) _) _
      simp only [Act.put, List.setIfInBounds_toArray, List.set_cons_zero, List.set_cons_succ]
      refine wpAnyH_take (i := 18) (v := ?_) rfl (by kernel_rfl) (by kernel_rfl) (by kernel_rfl) (fun _ _ _ h => h) (Or.inl ⟨by rfl, ?_⟩) hS ?_
      rotate_left
      · (intro w hSw; (try dsimp only at hSw); go_simp; (first | done | with_reducible rfl))
      change wpAnyH _ _ _ _ _ _ _ (Act.put _ (some 2) _) _
      simp only [Act.put, List.setIfInBounds_toArray, List.set_cons_zero, List.set_cons_succ]
      refine wpAnyH_done (by kernel_rfl) ?_ _
      refine NoPanic.normal ?_
      replace kz := kz.trans kq
      clear kq
      replace hP := hP.keep kz
      replace hf := hf.keep kz
      replace hg := hg.keep kz
      replace hr := hr.keep kz
      replace hs := hs.keep kz
      replace bR := bR.keep kz
      replace bS := bS.keep kz
      replace f3 := f3.keep kz
      replace f4 := f4.keep kz
      replace kk := kk.trans kz
      clear kz
      clear HS hS
      go_wp2_with fail
      go_ret
      exact ⟨rfl, kk⟩
end Go.Proofs.YtjhbpocffckghaaDoor
