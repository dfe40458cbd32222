/-
  THE WALK OF THE 4 FramesGet: it answers true, and turns nothing that was there. Conditions: the argument is a slice of bytes that came in; the program's list of parts stands as its text lays it.
-/
import Derived.Test.YtnjjeanbopclhaaGreatDoorFrmM
import Derived.Test.YtnjjeanbopclhaaGreatDoorFrmN
import Derived.Test.YtnjjeanbopclhaaGreatDoorFrmO
import Derived.Test.YtnjjeanbopclhaaGreatDoorFrmK
import Derived.Test.YtnjjeanbopclhaaGreatDoorRefR
import Derived.Test.YtnjjeanbopclhaaGreatDoorLeft
import Derived.Test.YtnjjeanbopclhaaGreatDoorBookR
namespace Go.Proofs.YtnjjeanbopclhaaGreatDoor
open Go.RowKit

theorem getF_len {xs : List Int} {f : FV} {e : Int} (h : getFV xs = (f, e)) : f.sec.length ≤ 2000 ∧ f.bid.length ≤ 2000 := by
  unfold getFV at h
  split at h
  · cases h
    exact ⟨Nat.zero_le _, Nat.zero_le _⟩
  · split at h
    · cases h
      exact ⟨Nat.zero_le _, Nat.zero_le _⟩
    · split at h
      · rename_i q
        obtain ⟨-, -, l1, l2, -⟩ := mayF_facts q.2
        cases h
        exact ⟨by omega, by omega⟩
      · cases h
        exact ⟨Nat.zero_le _, Nat.zero_le _⟩
theorem getR_len {xs : List Int} {r : RV} {e : Int} (h : getRV xs = (r, e)) : r.bid.length ≤ 2000 ∧ r.cert.length ≤ 2000 := by
  unfold getRV at h
  split at h
  · cases h
    exact ⟨Nat.zero_le _, Nat.zero_le _⟩
  · split at h
    · cases h
      exact ⟨Nat.zero_le _, Nat.zero_le _⟩
    · split at h
      · rename_i q
        obtain ⟨-, -, -, -, -, -, -, -, l1, l2, -⟩ := mayR_facts q.2.2
        cases h
        exact ⟨by omega, by omega⟩
      · cases h
        exact ⟨Nat.zero_le _, Nat.zero_le _⟩

set_option maxRecDepth 100000 in
set_option maxHeartbeats 32000000 in
theorem framesGet_w (A : Option Addr) (c : Nat) (xs : List Int) (w : World) (hx : In .u8 w A c xs) (hn : A = none → c = 0) (hP : Parts w) :
    Calls Tryz.prog 4 #[.slice A xs.length c] w fun e w' => e = .returned (.bool true) ∧ Below w.heap.size w w' := by
  have lx := hx.len
  have lcc : Len c := by have := hx.capI; unfold Len; omega
  have hxb := hx.bytes
  have hxc := hx.cap
  have rx := hx.rd
  have hs : Sl.Ok .u8 w ⟨A, c, xs⟩ := ⟨hx, hn⟩
  have kk : Keep w w := Keep.refl _
  have hP0 := Lib.hid hP
  clear hx hn
  obtain ⟨f, e1, hf⟩ : ∃ f e, getFV xs = (f, e) := ⟨_, _, rfl⟩
  obtain ⟨r, e2, hr⟩ : ∃ f e, getRV xs = (f, e) := ⟨_, _, rfl⟩
  have nF := getF_len hf
  have nR := getR_len hr
  replace hf := Lib.hid hf
  replace hr := Lib.hid hr
  by_cases b1 : 10000 < xs.length
  · obtain ⟨z1, z1'⟩ := dT (p := (10000 : Int) < (xs.length : Int)) (by omega)
    have z2 := eq_true b1
    clear hs hf hr
    go_enter Tryz.func4, Tryz.ntmps4
    go_wp2_with fail
    refine (lives_f w hP).mono ?_
    rintro e w2 ⟨rfl, kq⟩
    go_wp2_with fail
    go_ret
    exact ⟨rfl, kk.trans kq⟩
  obtain ⟨z1, z1'⟩ := dF (p := (10000 : Int) < (xs.length : Int)) (by omega)
  have z2 := eq_false b1
  have l0 : xs.length ≤ 10000 := by omega
  clear b1
  have HB0 := Held.nil 5 w w.heap.size
  have HI0 := Held.nil 3 w w.heap.size
  go_enter Tryz.func4, Tryz.ntmps4
  have hq := twinBytes_f ⟨A, c, xs⟩ w hs (by show xs.length ≤ _; omega)
  go_wp2_with fail
  refine hq.mono ?_
  rintro e w1 ⟨A1, c1, rfl, t1, kq⟩
  clear hq
  have HB1 := HB0.snoc kq kk.size (TwinB.fr t1) 1 (by decide) (by show xs.length ≤ _; omega)
  clear HB0
  have hb := kk.size
  replace t1 : TwinB w1 w.heap.size ⟨A1, c1, xs⟩ := Fr.mono t1 hb
  clear hb hs
  have hc1 : xs.length ≤ c1 := (TwinB.fr t1).cap
  have lc1 : Len c1 := by have := (TwinB.fr t1).capMax; unfold maxLen at this; unfold Len; omega
  have rx1 : Rd w1 A1 (cs .u8 xs) := (TwinB.fr t1).rd
  replace hP := hP.keep kq
  replace rx := rx.keep kq
  replace HI0 := HI0.keep kq
  replace kk := kk.trans kq
  clear kq
  have hq := getF_f A1 c1 xs w1 rx1 hxb hc1 lc1 hP hf.out
  go_wp2_with fail
  refine hq.mono ?_
  rintro e w2 ⟨sa, ba, rfl, okF, fs, fb, kq⟩
  clear hq
  unfold Frm.val
  have HB2 := HB1.snoc kq kk.size fs 2 (by decide) (by show f.sec.length ≤ _; omega)
  clear HB1
  have HI1 := HI0.snoc kq kk.size fb 3 (by decide) (by show f.bid.length ≤ _; omega)
  clear HI0
  clear fs fb
  replace hP := hP.keep kq
  replace rx := rx.keep kq
  replace t1 := TwinB.keep t1 kq
  replace rx1 := rx1.keep kq
  replace kk := kk.trans kq
  clear kq
  go_upto_region 5 with fail
  have kq : Keep w2 (w2.alloc (.cells #[.int .u8 f.ask, .int .u8 f.who, .int .u32 f.seq, .int .u64 f.tok, .slice sa f.sec.length f.sec.length, .slice ba f.bid.length f.bid.length] 28)) := Keep.alloc1 _ _
  have bF := Blk.new w2 28 [.int .u8 f.ask, .int .u8 f.who, .int .u32 f.seq, .int .u64 f.tok, .slice sa f.sec.length f.sec.length, .slice ba f.bid.length f.bid.length]
  change Code.wp _ _ _ _ (w2.alloc (.cells #[.int .u8 f.ask, .int .u8 f.who, .int .u32 f.seq, .int .u64 f.tok, .slice sa f.sec.length f.sec.length, .slice ba f.bid.length f.bid.length] 28))
  generalize w2.alloc (.cells #[.int .u8 f.ask, .int .u8 f.who, .int .u32 f.seq, .int .u64 f.tok, .slice sa f.sec.length f.sec.length, .slice ba f.bid.length f.bid.length] 28) = w3 at kq bF ⊢
  generalize w2.heap.size = gbF at bF ⊢
  replace hP := hP.keep kq
  replace rx := rx.keep kq
  replace t1 := TwinB.keep t1 kq
  replace rx1 := rx1.keep kq
  replace HB2 := HB2.keep kq
  replace HI1 := HI1.keep kq
  replace okF := okF.keep kq
  replace kk := kk.trans kq
  clear kq
  have hq := refGetF_f A c xs w3 rx hxb hxc lcc hf.out
  go_wp2_with fail
  refine hq.mono ?_
  rintro e w4 ⟨sa2, sc2, ba2, bc2, rfl, okG, kq⟩
  clear hq
  unfold Frm.val
  replace hP := hP.keep kq
  replace rx := rx.keep kq
  replace t1 := TwinB.keep t1 kq
  replace rx1 := rx1.keep kq
  replace HB2 := HB2.keep kq
  replace HI1 := HI1.keep kq
  replace okF := okF.keep kq
  replace bF := bF.keep kq
  replace kk := kk.trans kq
  clear kq
  go_upto_region 6 with fail
  have kq : Keep w4 (w4.alloc (.cells #[.int .u8 f.ask, .int .u8 f.who, .int .u32 f.seq, .int .u64 f.tok, .slice sa2 f.sec.length sc2, .slice ba2 f.bid.length bc2] 28)) := Keep.alloc1 _ _
  have bG := Blk.new w4 28 [.int .u8 f.ask, .int .u8 f.who, .int .u32 f.seq, .int .u64 f.tok, .slice sa2 f.sec.length sc2, .slice ba2 f.bid.length bc2]
  change Code.wp _ _ _ _ (w4.alloc (.cells #[.int .u8 f.ask, .int .u8 f.who, .int .u32 f.seq, .int .u64 f.tok, .slice sa2 f.sec.length sc2, .slice ba2 f.bid.length bc2] 28))
  generalize w4.alloc (.cells #[.int .u8 f.ask, .int .u8 f.who, .int .u32 f.seq, .int .u64 f.tok, .slice sa2 f.sec.length sc2, .slice ba2 f.bid.length bc2] 28) = w5 at kq bG ⊢
  generalize w4.heap.size = gbG at bG ⊢
  replace hP := hP.keep kq
  replace rx := rx.keep kq
  replace t1 := TwinB.keep t1 kq
  replace rx1 := rx1.keep kq
  replace HB2 := HB2.keep kq
  replace HI1 := HI1.keep kq
  replace okF := okF.keep kq
  replace bF := bF.keep kq
  replace okG := okG.keep kq
  replace kk := kk.trans kq
  clear kq
  have hq := getR_f A1 c1 xs w5 rx1 hxb hc1 lc1 hr.out
  go_wp2_with fail
  refine hq.mono ?_
  rintro e w6 ⟨rba, rca, rfl, okR, fb, fs, kq⟩
  clear hq
  unfold Rpl.val
  have HI2 := HI1.snoc kq kk.size fb 4 (by decide) (by show r.bid.length ≤ _; omega)
  clear HI1
  have HB3 := HB2.snoc kq kk.size fs 5 (by decide) (by show r.cert.length ≤ _; omega)
  clear HB2
  clear fs fb
  replace hP := hP.keep kq
  replace rx := rx.keep kq
  replace t1 := TwinB.keep t1 kq
  replace rx1 := rx1.keep kq
  replace okF := okF.keep kq
  replace bF := bF.keep kq
  replace okG := okG.keep kq
  replace bG := bG.keep kq
  replace kk := kk.trans kq
  clear kq
  go_upto_region 7 with fail
  have kq : Keep w6 (w6.alloc (.cells #[.int .i64 r.e, .int .u32 r.seq, .int .u64 r.tok, .int .u8 r.ph, .int .u64 r.tm, .bool r.has, .slice rba r.bid.length r.bid.length, .int .i64 r.item, .int .i64 r.pays, .slice rca r.cert.length r.cert.length] 32)) := Keep.alloc1 _ _
  have bR := Blk.new w6 32 [.int .i64 r.e, .int .u32 r.seq, .int .u64 r.tok, .int .u8 r.ph, .int .u64 r.tm, .bool r.has, .slice rba r.bid.length r.bid.length, .int .i64 r.item, .int .i64 r.pays, .slice rca r.cert.length r.cert.length]
  change Code.wp _ _ _ _ (w6.alloc (.cells #[.int .i64 r.e, .int .u32 r.seq, .int .u64 r.tok, .int .u8 r.ph, .int .u64 r.tm, .bool r.has, .slice rba r.bid.length r.bid.length, .int .i64 r.item, .int .i64 r.pays, .slice rca r.cert.length r.cert.length] 32))
  generalize w6.alloc (.cells #[.int .i64 r.e, .int .u32 r.seq, .int .u64 r.tok, .int .u8 r.ph, .int .u64 r.tm, .bool r.has, .slice rba r.bid.length r.bid.length, .int .i64 r.item, .int .i64 r.pays, .slice rca r.cert.length r.cert.length] 32) = w7 at kq bR ⊢
  generalize w6.heap.size = gbR at bR ⊢
  replace hP := hP.keep kq
  replace rx := rx.keep kq
  replace t1 := TwinB.keep t1 kq
  replace rx1 := rx1.keep kq
  replace okF := okF.keep kq
  replace bF := bF.keep kq
  replace okG := okG.keep kq
  replace bG := bG.keep kq
  replace HB3 := HB3.keep kq
  replace HI2 := HI2.keep kq
  replace okR := okR.keep kq
  replace kk := kk.trans kq
  clear kq
  have hq := refGetR_f A c xs w7 rx hxb hxc lcc hr.out
  go_wp2_with fail
  refine hq.mono ?_
  rintro e w8 ⟨rba2, rbc2, rca2, rcc2, rfl, okS, kq⟩
  clear hq
  unfold Rpl.val
  replace hP := hP.keep kq
  replace rx := rx.keep kq
  replace t1 := TwinB.keep t1 kq
  replace rx1 := rx1.keep kq
  replace okF := okF.keep kq
  replace bF := bF.keep kq
  replace okG := okG.keep kq
  replace bG := bG.keep kq
  replace HB3 := HB3.keep kq
  replace HI2 := HI2.keep kq
  replace okR := okR.keep kq
  replace bR := bR.keep kq
  replace kk := kk.trans kq
  clear kq
  go_upto_region 8 with fail
  have kq : Keep w8 (w8.alloc (.cells #[.int .i64 r.e, .int .u32 r.seq, .int .u64 r.tok, .int .u8 r.ph, .int .u64 r.tm, .bool r.has, .slice rba2 r.bid.length rbc2, .int .i64 r.item, .int .i64 r.pays, .slice rca2 r.cert.length rcc2] 32)) := Keep.alloc1 _ _
  have bS := Blk.new w8 32 [.int .i64 r.e, .int .u32 r.seq, .int .u64 r.tok, .int .u8 r.ph, .int .u64 r.tm, .bool r.has, .slice rba2 r.bid.length rbc2, .int .i64 r.item, .int .i64 r.pays, .slice rca2 r.cert.length rcc2]
  change Code.wp _ _ _ _ (w8.alloc (.cells #[.int .i64 r.e, .int .u32 r.seq, .int .u64 r.tok, .int .u8 r.ph, .int .u64 r.tm, .bool r.has, .slice rba2 r.bid.length rbc2, .int .i64 r.item, .int .i64 r.pays, .slice rca2 r.cert.length rcc2] 32))
  generalize w8.alloc (.cells #[.int .i64 r.e, .int .u32 r.seq, .int .u64 r.tok, .int .u8 r.ph, .int .u64 r.tm, .bool r.has, .slice rba2 r.bid.length rbc2, .int .i64 r.item, .int .i64 r.pays, .slice rca2 r.cert.length rcc2] 32) = w9 at kq bS ⊢
  generalize w8.heap.size = gbS at bS ⊢
  replace hP := hP.keep kq
  replace rx := rx.keep kq
  replace t1 := TwinB.keep t1 kq
  replace rx1 := rx1.keep kq
  replace okF := okF.keep kq
  replace bF := bF.keep kq
  replace okG := okG.keep kq
  replace bG := bG.keep kq
  replace HB3 := HB3.keep kq
  replace HI2 := HI2.keep kq
  replace okR := okR.keep kq
  replace bR := bR.keep kq
  replace okS := okS.keep kq
  replace kk := kk.trans kq
  clear kq
  clear rx1
  go_upto_region 9 with fail
  have hK := Bk.new w9
  have k0 : Keep w9 (w9.alloc (.cells #[.int .i64 0, .slice none 0 0, .slice none 0 0, .slice none 0 0, .slice none 0 0, .slice none 0 0, .slice none 0 0, .slice none 0 0, .slice none 0 0, .slice none 0 0] 49)) := Keep.alloc1 _ _
  generalize w9.alloc (.cells #[.int .i64 0, .slice none 0 0, .slice none 0 0, .slice none 0 0, .slice none 0 0, .slice none 0 0, .slice none 0 0, .slice none 0 0, .slice none 0 0, .slice none 0 0] 49) = v0 at hK k0 ⊢
  have hq := bookBytes_f w9.heap.size 0 w9.heap.size _ _ _ _ A1 xs.length c1 v0 hK (by decide) (by simp)
  unfold pK at hq
  go_wp2_with fail
  refine hq.mono ?_
  rintro e v1 ⟨rfl, x1, hK1, t1'⟩
  replace k0 := hK.stepB k0 t1'
  clear hK hq t1'
  have hK := hK1
  clear hK1
  have bz := bF.keep k0
  have cz0 := bz.cell_ (i := 0) rfl
  have cz1 := bz.cell_ (i := 1) rfl
  have cz2 := bz.cell_ (i := 2) rfl
  have cz3 := bz.cell_ (i := 3) rfl
  have cz4 := bz.cell_ (i := 4) rfl
  have cz5 := bz.cell_ (i := 5) rfl
  clear bz
  have hq := bookFrame_f w9.heap.size 1 _ _ _ _ (Frm.mk f sa f.sec.length ba f.bid.length) w9 v1 k0 hK (by decide) (by simp) (by simp)
  unfold Frm.val pK at hq
  simp only at hq
  go_wp2_with fail
  refine hq.mono ?_
  rintro e v2 ⟨rfl, x2, y2, hK1, k1⟩
  clear hK hq k0 cz0 cz1 cz2 cz3 cz4 cz5
  have hK := hK1
  have k0 := k1
  clear hK1 k1
  have bz := bR.keep k0
  have cz0 := bz.cell_ (i := 0) rfl
  have cz1 := bz.cell_ (i := 1) rfl
  have cz2 := bz.cell_ (i := 2) rfl
  have cz3 := bz.cell_ (i := 3) rfl
  have cz4 := bz.cell_ (i := 4) rfl
  have cz5 := bz.cell_ (i := 5) rfl
  have cz6 := bz.cell_ (i := 6) rfl
  have cz7 := bz.cell_ (i := 7) rfl
  have cz8 := bz.cell_ (i := 8) rfl
  have cz9 := bz.cell_ (i := 9) rfl
  clear bz
  have hq := bookReply_f w9.heap.size 3 _ _ _ _ (Rpl.mk r rba r.bid.length rca r.cert.length) w9 v2 k0 hK (by decide) (by simp) (by simp)
  unfold Rpl.val pK at hq
  simp only at hq
  go_wp2_with fail
  refine hq.mono ?_
  rintro e v3 ⟨rfl, x3, y3, hK1, k1⟩
  clear hK hq k0 cz0 cz1 cz2 cz3 cz4 cz5 cz6 cz7 cz8 cz9
  have hK := hK1
  have k0 := k1
  clear hK1 k1
  have hsz := kk.size
  replace hK := hK.mono hsz
  clear hsz
  replace hP := hP.keep k0
  replace rx := rx.keep k0
  replace t1 := TwinB.keep t1 k0
  replace okF := okF.keep k0
  replace bF := bF.keep k0
  replace okG := okG.keep k0
  replace bG := bG.keep k0
  replace HB3 := HB3.keep k0
  replace HI2 := HI2.keep k0
  replace okR := okR.keep k0
  replace bR := bR.keep k0
  replace okS := okS.keep k0
  replace bS := bS.keep k0
  replace kk := kk.trans k0
  clear k0
  have bF_0 := bF.cell_ (i := 0) rfl
  have bF_1 := bF.cell_ (i := 1) rfl
  have bF_2 := bF.cell_ (i := 2) rfl
  have bF_3 := bF.cell_ (i := 3) rfl
  have bF_4 := bF.cell_ (i := 4) rfl
  have bF_5 := bF.cell_ (i := 5) rfl
  have bG_0 := bG.cell_ (i := 0) rfl
  have bG_1 := bG.cell_ (i := 1) rfl
  have bG_2 := bG.cell_ (i := 2) rfl
  have bG_3 := bG.cell_ (i := 3) rfl
  have bG_4 := bG.cell_ (i := 4) rfl
  have bG_5 := bG.cell_ (i := 5) rfl
  have hq := sameFrame_f (Frm.mk f sa f.sec.length ba f.bid.length) (Frm.mk f sa2 sc2 ba2 bc2) v3 okF okG (by show Reach f.sec.length; unfold Reach; omega) (by show Reach f.bid.length; unfold Reach; omega) (by show Reach f.sec.length; unfold Reach; omega) (by show Reach f.bid.length; unfold Reach; omega)
  rw [show sameFV (Frm.v (Frm.mk f sa f.sec.length ba f.bid.length)) (Frm.v (Frm.mk f sa2 sc2 ba2 bc2)) = true from sameFV_self f] at hq
  unfold Frm.val at hq
  simp only at hq
  go_wp2_with fail
  refine hq.mono ?_
  rintro e w21 ⟨rfl, kq⟩
  clear hq
  replace hP := hP.keep kq
  replace rx := rx.keep kq
  replace t1 := TwinB.keep t1 kq
  replace okF := okF.keep kq
  replace bF := bF.keep kq
  replace okG := okG.keep kq
  replace bG := bG.keep kq
  replace HB3 := HB3.keep kq
  replace HI2 := HI2.keep kq
  replace okR := okR.keep kq
  replace bR := bR.keep kq
  replace okS := okS.keep kq
  replace bS := bS.keep kq
  replace hK := hK.keep kq
  replace kk := kk.trans kq
  clear kq
  clear bF_0 bF_1 bF_2 bF_3 bF_4 bF_5
  clear bG_0 bG_1 bG_2 bG_3 bG_4 bG_5
  have bR_0 := bR.cell_ (i := 0) rfl
  have bR_1 := bR.cell_ (i := 1) rfl
  have bR_2 := bR.cell_ (i := 2) rfl
  have bR_3 := bR.cell_ (i := 3) rfl
  have bR_4 := bR.cell_ (i := 4) rfl
  have bR_5 := bR.cell_ (i := 5) rfl
  have bR_6 := bR.cell_ (i := 6) rfl
  have bR_7 := bR.cell_ (i := 7) rfl
  have bR_8 := bR.cell_ (i := 8) rfl
  have bR_9 := bR.cell_ (i := 9) rfl
  have bS_0 := bS.cell_ (i := 0) rfl
  have bS_1 := bS.cell_ (i := 1) rfl
  have bS_2 := bS.cell_ (i := 2) rfl
  have bS_3 := bS.cell_ (i := 3) rfl
  have bS_4 := bS.cell_ (i := 4) rfl
  have bS_5 := bS.cell_ (i := 5) rfl
  have bS_6 := bS.cell_ (i := 6) rfl
  have bS_7 := bS.cell_ (i := 7) rfl
  have bS_8 := bS.cell_ (i := 8) rfl
  have bS_9 := bS.cell_ (i := 9) rfl
  have hq := sameReply_f (Rpl.mk r rba r.bid.length rca r.cert.length) (Rpl.mk r rba2 rbc2 rca2 rcc2) w21 okR okS (by show Reach r.bid.length; unfold Reach; omega) (by show Reach r.cert.length; unfold Reach; omega) (by show Reach r.bid.length; unfold Reach; omega) (by show Reach r.cert.length; unfold Reach; omega)
  rw [show sameRV (Rpl.v (Rpl.mk r rba r.bid.length rca r.cert.length)) (Rpl.v (Rpl.mk r rba2 rbc2 rca2 rcc2)) = true from sameRV_self r] at hq
  unfold Rpl.val at hq
  simp only at hq
  go_wp2_with fail
  refine hq.mono ?_
  rintro e w22 ⟨rfl, kq⟩
  clear hq
  replace hP := hP.keep kq
  replace rx := rx.keep kq
  replace t1 := TwinB.keep t1 kq
  replace okF := okF.keep kq
  replace bF := bF.keep kq
  replace okG := okG.keep kq
  replace bG := bG.keep kq
  replace HB3 := HB3.keep kq
  replace HI2 := HI2.keep kq
  replace okR := okR.keep kq
  replace bR := bR.keep kq
  replace okS := okS.keep kq
  replace bS := bS.keep kq
  replace hK := hK.keep kq
  replace kk := kk.trans kq
  clear kq
  clear bR_0 bR_1 bR_2 bR_3 bR_4 bR_5 bR_6 bR_7 bR_8 bR_9
  clear bS_0 bS_1 bS_2 bS_3 bS_4 bS_5 bS_6 bS_7 bS_8 bS_9
  have hq := leftBytes_f A1 A c1 c xs w.heap.size w22 t1 rx (by omega)
  go_wp2_with fail
  refine hq.mono ?_
  rintro e w23 ⟨rfl, kq⟩
  clear hq
  replace hP := hP.keep kq
  replace rx := rx.keep kq
  replace t1 := TwinB.keep t1 kq
  replace okF := okF.keep kq
  replace bF := bF.keep kq
  replace okG := okG.keep kq
  replace bG := bG.keep kq
  replace HB3 := HB3.keep kq
  replace HI2 := HI2.keep kq
  replace okR := okR.keep kq
  replace bR := bR.keep kq
  replace okS := okS.keep kq
  replace bS := bS.keep kq
  replace hK := hK.keep kq
  replace kk := kk.trans kq
  clear kq
  have hH := Holds.of HB3 HI2 (by simp) (by simp)
  have hq := apart_f w9.heap.size 5 w.heap.size _ _ _ _ w23 hK hH
  unfold pK at hq
  clear hH
  go_wp2_with fail
  refine hq.mono ?_
  rintro e u1 ⟨rfl, tb⟩
  have k9 := kk.but tb fun i h => h
  have hq := lives_f u1 (hP0.out.keep k9)
  go_wp2_with fail
  refine hq.mono ?_
  rintro e u2 ⟨rfl, kq⟩
  go_wp2_with fail
  go_ret
  exact ⟨rfl, k9.trans kq⟩
end Go.Proofs.YtnjjeanbopclhaaGreatDoor
