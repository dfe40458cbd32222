/-
  THE WALK OF THE LAW NumsPut: it answers true, and turns nothing that was there. Conditions: the arguments are slices that came in, a number of 64 bits and an int.
-/
import Derived.Test.YtafiahnaeakcfaaDoorBookH
import Derived.Test.YtafiahnaeakcfaaDoorRefA
import Derived.Test.YtafiahnaeakcfaaDoorLeft
namespace Go.Proofs.YtafiahnaeakcfaaDoor
open Go.RowKit

set_option maxRecDepth 100000 in
set_option maxHeartbeats 8000000 in
theorem numsPut_w (A : Option Addr) (c : Nat) (xs : List Int) (B : Option Addr) (d : Nat) (ys : List Int) (v : Nat) (b : Int) (w : World) (hx : In .u8 w A c xs) (hxn : A = none → c = 0) (hy : In .i64 w B d ys) (hyn : B = none → d = 0) (hb : -9223372036854775808 ≤ b ∧ b ≤ 9223372036854775807) :
    Calls Tryd.prog 3 #[.slice A xs.length c, .slice B ys.length d, .agg #[.int .u64 (v : Int), .int .i64 b]] w fun e w' => e = .returned (.bool true) ∧ Below w.heap.size w w' := by
  have lx := hx.len
  have ly := hy.len
  have kk : Keep w (w.alloc (.cells #[.int .u64 (v : Int), .int .i64 b] 26)) := Keep.alloc1 _ _
  by_cases h1 : 70000 < xs.length
  · have z1 : (70000 : Int) < xs.length := by omega
    have z2 : decide ((70000 : Int) < xs.length) = true := decide_eq_true z1
    go_enter Tryd.func3, Tryd.ntmps3
    go_wp2_with fail
    go_ret
    exact ⟨rfl, kk⟩
  by_cases h2 : 1000 < ys.length
  · have z1 : ((70000 : Int) < xs.length) = False := eq_false (by omega)
    have z2 : decide ((70000 : Int) < xs.length) = false := decide_eq_false (by omega)
    have z3 : (1000 : Int) < ys.length := by omega
    have z4 : decide ((1000 : Int) < ys.length) = true := decide_eq_true z3
    go_enter Tryd.func3, Tryd.ntmps3
    go_wp2_with fail
    go_ret
    exact ⟨rfl, kk⟩
  have bZ := Blk.new w 26 [.int .u64 (v : Int), .int .i64 b]
  have sx : Sl.Ok .u8 w ⟨A, c, xs⟩ := ⟨hx, hxn⟩
  have sy : Sl.Ok .i64 w ⟨B, d, ys⟩ := ⟨hy, hyn⟩
  have z1 : ((70000 : Int) < xs.length) = False := eq_false (by omega)
  have z2 : decide ((70000 : Int) < xs.length) = false := decide_eq_false (by omega)
  have z3 : ((1000 : Int) < ys.length) = False := eq_false (by omega)
  have z4 : decide ((1000 : Int) < ys.length) = false := decide_eq_false (by omega)
  have lx7 : xs.length ≤ 70000 := by omega
  have ly1 : ys.length ≤ 1000 := by omega
  have lcc : Len c := by have := hx.capI; unfold Len; omega
  have hxb := hx.bytes
  have hxc := hx.cap
  have hyc := hy.cap
  have ldd : Len d := by have := hy.capI; unfold Len; omega
  clear h1 h2 hx hy
  replace sx := sx.keep kk
  replace sy := sy.keep kk
  go_enter Tryd.func3, Tryd.ntmps3
  have hq := twinBytes_f ⟨A, c, xs⟩ _ sx (by show xs.length ≤ _; omega)
  go_wp2_with fail
  refine hq.mono ?_
  rintro e w1 ⟨A1, c1, rfl, t1, kq⟩
  clear hq
  have HB0 := Held.nil 5 (w.alloc (.cells #[.int .u64 (v : Int), .int .i64 b] 26)) w.heap.size
  have HI0 := Held.nil 3 (w.alloc (.cells #[.int .u64 (v : Int), .int .i64 b] 26)) w.heap.size
  have HB1 := HB0.snoc kq kk.size (TwinB.fr t1) 1 (by decide) (by show xs.length ≤ _; omega)
  replace HI0 := HI0.keep kq
  clear HB0
  replace bZ := bZ.keep kq
  replace sx := sx.keep kq
  replace sy := sy.keep kq
  replace t1 : TwinB w1 w.heap.size ⟨A1, c1, xs⟩ := Fr.mono t1 kk.size
  replace kk := kk.trans kq
  clear kq
  have lc1 : Len c1 := lenMax (Fr.capMax t1)
  have hq := twinInts_f ⟨B, d, ys⟩ w1 sy (by show ys.length ≤ _; omega)
  go_wp2_with fail
  refine hq.mono ?_
  rintro e w2 ⟨A2, c2, rfl, t2, kq⟩
  clear hq
  have HI1 := HI0.snoc kq kk.size (Twin.fr t2) 3 (by decide) (by show ys.length ≤ _; omega)
  clear HI0
  replace bZ := bZ.keep kq
  replace sx := sx.keep kq
  replace sy := sy.keep kq
  replace HB1 := HB1.keep kq
  replace t1 := t1.keep kq
  replace t2 : Twin w2 w.heap.size ⟨A2, c2, ys⟩ := Fr.mono t2 kk.size
  replace kk := kk.trans kq
  clear kq
  have lc2 : Len c2 := lenMax (Fr.capMax t2)
  have hd2 : ys.length ≤ c2 := Fr.cap (Twin.fr t2)
  have hq := twinBytes_f ⟨A, c, xs⟩ w2 sx (by show xs.length ≤ _; omega)
  go_wp2_with fail
  refine hq.mono ?_
  rintro e w3 ⟨A3, c3, rfl, t3, kq⟩
  clear hq
  have HB2 := HB1.snoc kq kk.size (TwinB.fr t3) 2 (by decide) (by show xs.length ≤ _; omega)
  clear HB1
  replace bZ := bZ.keep kq
  replace sx := sx.keep kq
  replace sy := sy.keep kq
  replace t1 := t1.keep kq
  replace HI1 := HI1.keep kq
  replace t2 := t2.keep kq
  replace t3 : TwinB w3 w.heap.size ⟨A3, c3, xs⟩ := Fr.mono t3 kk.size
  replace kk := kk.trans kq
  clear kq
  have lc3 : Len c3 := lenMax (Fr.capMax t3)
  have hd3 : xs.length ≤ c3 := Fr.cap (TwinB.fr t3)
  obtain ⟨p4, hp4⟩ : ∃ p, p = xs ++ le v (clampB b) := ⟨_, rfl⟩
  obtain ⟨p5, hp5⟩ : ∃ p, p = xs ++ putL (ys.take 255) := ⟨_, rfl⟩
  obtain ⟨p6, hp6⟩ : ∃ p, p = xs ++ putBy (xs.take 65535) := ⟨_, rfl⟩
  have l4 : p4.length ≤ 1000000 := by rw [hp4, List.length_append, length_le]; have := clampB_le b; omega
  have l5 : p5.length ≤ 1000000 := by rw [hp5, List.length_append, length_putL, List.length_take]; omega
  have l6 : p6.length ≤ 1000000 := by rw [hp6, List.length_append, length_putBy, List.length_take]; omega
  replace hp4 := Lib.hid hp4
  replace hp5 := Lib.hid hp5
  replace hp6 := Lib.hid hp6
  have e0 := bZ.cell_ (i := 0) rfl
  have e1 := bZ.cell_ (i := 1) rfl
  have hq := put_r A1 c1 xs v b w3 (TwinB.fr t1).rd (by omega) (fun h => Fr.capNil t1 h) hb
  rw [← hp4.out] at hq
  go_wp2_with fail
  refine hq.mono ?_
  rintro e w4 ⟨A4, rfl, f4, kq⟩
  clear hq
  have HB3 := HB2.snoc kq kk.size f4 4 (by decide) l4
  clear HB2
  replace bZ := bZ.keep kq
  replace sx := sx.keep kq
  replace sy := sy.keep kq
  replace t1 := t1.keep kq
  replace HI1 := HI1.keep kq
  replace t2 := t2.keep kq
  replace t3 := t3.keep kq
  have r4 := Fr.rd f4
  replace kk := kk.trans kq
  clear kq
  clear e0 e1 f4
  have hq := putList_f A1 c1 xs A2 c2 ys w4 (TwinB.fr t1).rd (by omega) (fun h => Fr.capNil t1 h) (Twin.fr t2).rd hd2 lc2
  rw [← hp5.out] at hq
  go_wp2_with fail
  refine hq.mono ?_
  rintro e w5 ⟨A5, rfl, f5, kq⟩
  clear hq
  have HB4 := HB3.snoc kq kk.size f5 5 (by decide) l5
  clear HB3
  replace bZ := bZ.keep kq
  replace sx := sx.keep kq
  replace sy := sy.keep kq
  replace t1 := t1.keep kq
  replace HI1 := HI1.keep kq
  replace t2 := t2.keep kq
  replace t3 := t3.keep kq
  replace r4 := r4.keep kq
  have r5 := Fr.rd f5
  replace kk := kk.trans kq
  clear kq
  clear f5
  have hq := putBytes_f A1 c1 xs A3 c3 xs w5 (TwinB.fr t1).rd (by omega) (fun h => Fr.capNil t1 h) (TwinB.fr t3).rd hd3 lc3
  rw [← hp6.out] at hq
  go_wp2_with fail
  refine hq.mono ?_
  rintro e w6 ⟨A6, rfl, f6, kq⟩
  clear hq
  have HB5 := HB4.snoc kq kk.size f6 6 (by decide) l6
  clear HB4
  replace bZ := bZ.keep kq
  replace sx := sx.keep kq
  replace sy := sy.keep kq
  replace t1 := t1.keep kq
  replace HI1 := HI1.keep kq
  replace t2 := t2.keep kq
  replace t3 := t3.keep kq
  replace r4 := r4.keep kq
  replace r5 := r5.keep kq
  have r6 := Fr.rd f6
  replace kk := kk.trans kq
  clear kq
  clear f6
  have e0 := bZ.cell_ (i := 0) rfl
  have e1 := bZ.cell_ (i := 1) rfl
  have hq := refPut_r A c xs v b w6 sx.rd (by show xs.length ≤ _; omega) hb
  rw [← hp4.out] at hq
  go_wp2_with fail
  refine hq.mono ?_
  rintro e w7 ⟨A7, c7, rfl, f7, kq⟩
  clear hq
  replace bZ := bZ.keep kq
  replace sx := sx.keep kq
  replace sy := sy.keep kq
  replace t1 := t1.keep kq
  replace HI1 := HI1.keep kq
  replace t2 := t2.keep kq
  replace t3 := t3.keep kq
  replace r4 := r4.keep kq
  replace r5 := r5.keep kq
  replace HB5 := HB5.keep kq
  replace r6 := r6.keep kq
  have r7 := f7.rd
  replace kk := kk.trans kq
  clear kq
  clear f7 e0 e1 hp4
  have hq := saysK (sameBytes A4 A7 p4.length c7 p4 p4 w7 r4 r7 (by unfold Reach; omega) (by unfold Reach; omega))
  rw [decide_eq_true rfl] at hq
  go_wp2_with fail
  refine hq.mono ?_
  rintro e w8 ⟨rfl, kq⟩
  clear hq
  replace bZ := bZ.keep kq
  replace sx := sx.keep kq
  replace sy := sy.keep kq
  replace t1 := t1.keep kq
  replace HI1 := HI1.keep kq
  replace t2 := t2.keep kq
  replace t3 := t3.keep kq
  replace r4 := r4.keep kq
  replace r5 := r5.keep kq
  replace HB5 := HB5.keep kq
  replace r6 := r6.keep kq
  replace kk := kk.trans kq
  clear kq
  clear r7
  have hq := refPutList_f A c xs B d ys w8 sx.rd (by show xs.length ≤ _; omega) sy.rd hyc ldd
  rw [← hp5.out] at hq
  go_wp2_with fail
  refine hq.mono ?_
  rintro e w9 ⟨A8, c8, rfl, f8, kq⟩
  clear hq
  replace bZ := bZ.keep kq
  replace sx := sx.keep kq
  replace sy := sy.keep kq
  replace t1 := t1.keep kq
  replace HI1 := HI1.keep kq
  replace t2 := t2.keep kq
  replace t3 := t3.keep kq
  replace r4 := r4.keep kq
  replace r5 := r5.keep kq
  replace HB5 := HB5.keep kq
  replace r6 := r6.keep kq
  have r8 := f8.rd
  replace kk := kk.trans kq
  clear kq
  clear f8 hp5
  have hq := saysK (sameBytes A5 A8 p5.length c8 p5 p5 w9 r5 r8 (by unfold Reach; omega) (by unfold Reach; omega))
  rw [decide_eq_true rfl] at hq
  go_wp2_with fail
  refine hq.mono ?_
  rintro e w10 ⟨rfl, kq⟩
  clear hq
  replace bZ := bZ.keep kq
  replace sx := sx.keep kq
  replace sy := sy.keep kq
  replace t1 := t1.keep kq
  replace HI1 := HI1.keep kq
  replace t2 := t2.keep kq
  replace t3 := t3.keep kq
  replace r4 := r4.keep kq
  replace r5 := r5.keep kq
  replace HB5 := HB5.keep kq
  replace r6 := r6.keep kq
  replace kk := kk.trans kq
  clear kq
  clear r8
  have hq := refPutBytes_f A c xs A c xs w10 sx.rd (by show xs.length ≤ _; omega) sx.rd hxc lcc
  rw [← hp6.out] at hq
  go_wp2_with fail
  refine hq.mono ?_
  rintro e w11 ⟨A9, c9, rfl, f9, kq⟩
  clear hq
  replace bZ := bZ.keep kq
  replace sx := sx.keep kq
  replace sy := sy.keep kq
  replace t1 := t1.keep kq
  replace HI1 := HI1.keep kq
  replace t2 := t2.keep kq
  replace t3 := t3.keep kq
  replace r4 := r4.keep kq
  replace r5 := r5.keep kq
  replace HB5 := HB5.keep kq
  replace r6 := r6.keep kq
  have r9 := f9.rd
  replace kk := kk.trans kq
  clear kq
  clear f9 hp6
  have hq := saysK (sameBytes A6 A9 p6.length c9 p6 p6 w11 r6 r9 (by unfold Reach; omega) (by unfold Reach; omega))
  rw [decide_eq_true rfl] at hq
  go_wp2_with fail
  refine hq.mono ?_
  rintro e w12 ⟨rfl, kq⟩
  clear hq
  replace bZ := bZ.keep kq
  replace sx := sx.keep kq
  replace sy := sy.keep kq
  replace t1 := t1.keep kq
  replace HI1 := HI1.keep kq
  replace t2 := t2.keep kq
  replace t3 := t3.keep kq
  replace r4 := r4.keep kq
  replace r5 := r5.keep kq
  replace HB5 := HB5.keep kq
  replace r6 := r6.keep kq
  replace kk := kk.trans kq
  clear kq
  clear r9
  have hq := leftBytes_f A1 A c1 c xs w.heap.size w12 t1 sx.rd (by omega)
  go_wp2_with fail
  refine hq.mono ?_
  rintro e w13 ⟨rfl, kq⟩
  clear hq
  replace bZ := bZ.keep kq
  replace sx := sx.keep kq
  replace sy := sy.keep kq
  replace t1 := t1.keep kq
  replace HI1 := HI1.keep kq
  replace t2 := t2.keep kq
  replace t3 := t3.keep kq
  replace r4 := r4.keep kq
  replace r5 := r5.keep kq
  replace HB5 := HB5.keep kq
  replace r6 := r6.keep kq
  replace kk := kk.trans kq
  clear kq
  have hq := leftBytes_f A3 A c3 c xs w.heap.size w13 t3 sx.rd (by omega)
  go_wp2_with fail
  refine hq.mono ?_
  rintro e w14 ⟨rfl, kq⟩
  clear hq
  replace bZ := bZ.keep kq
  replace sx := sx.keep kq
  replace sy := sy.keep kq
  replace t1 := t1.keep kq
  replace HI1 := HI1.keep kq
  replace t2 := t2.keep kq
  replace t3 := t3.keep kq
  replace r4 := r4.keep kq
  replace r5 := r5.keep kq
  replace HB5 := HB5.keep kq
  replace r6 := r6.keep kq
  replace kk := kk.trans kq
  clear kq
  have hq := leftInts_f A2 B c2 d ys w.heap.size w14 t2 sy.rd (by omega)
  go_wp2_with fail
  refine hq.mono ?_
  rintro e w15 ⟨rfl, kq⟩
  clear hq
  replace bZ := bZ.keep kq
  replace sx := sx.keep kq
  replace sy := sy.keep kq
  replace t1 := t1.keep kq
  replace HI1 := HI1.keep kq
  replace t2 := t2.keep kq
  replace t3 := t3.keep kq
  replace r4 := r4.keep kq
  replace r5 := r5.keep kq
  replace HB5 := HB5.keep kq
  replace r6 := r6.keep kq
  replace kk := kk.trans kq
  clear kq
  clear t1 t2 t3 r4 r5 r6 sx sy bZ
  go_upto_region 12 with fail
  have hK := Bk.new w15
  have k0 : Keep w15 (w15.alloc (.cells #[.int .i64 0, .slice none 0 0, .slice none 0 0, .slice none 0 0, .slice none 0 0, .slice none 0 0, .slice none 0 0, .slice none 0 0, .slice none 0 0, .slice none 0 0] 44)) := Keep.alloc1 _ _
  generalize w15.alloc (.cells #[.int .i64 0, .slice none 0 0, .slice none 0 0, .slice none 0 0, .slice none 0 0, .slice none 0 0, .slice none 0 0, .slice none 0 0, .slice none 0 0, .slice none 0 0] 44) = v0 at hK k0 ⊢
  have hq := bookBytes_f w15.heap.size 0 w15.heap.size _ _ _ _ A1 xs.length c1 v0 hK (by decide) (by simp)
  unfold pK at hq
  go_wp2_with fail
  refine hq.mono ?_
  rintro e v1 ⟨rfl, x1, hK1, t1⟩
  replace k0 := hK.stepB k0 t1
  clear hK hq t1
  have hK := hK1
  clear hK1
  have hq := bookBytes_f w15.heap.size 1 w15.heap.size _ _ _ _ A3 xs.length c3 v1 hK (by decide) (by simp)
  unfold pK at hq
  go_wp2_with fail
  refine hq.mono ?_
  rintro e v2 ⟨rfl, x2, hK1, t2⟩
  replace k0 := hK.stepB k0 t2
  clear hK hq t2
  have hK := hK1
  clear hK1
  have hq := bookInts_f w15.heap.size 2 w15.heap.size _ _ _ _ A2 ys.length c2 v2 hK (by decide) (by simp)
  unfold pK at hq
  go_wp2_with fail
  refine hq.mono ?_
  rintro e v3 ⟨rfl, x3, hK1, t3⟩
  replace k0 := hK.stepI k0 t3
  clear hK hq t3
  have hK := hK1
  clear hK1
  have hq := bookBytes_f w15.heap.size 3 w15.heap.size _ _ _ _ A4 p4.length p4.length v3 hK (by decide) (by simp)
  unfold pK at hq
  go_wp2_with fail
  refine hq.mono ?_
  rintro e v4 ⟨rfl, x4, hK1, t4⟩
  replace k0 := hK.stepB k0 t4
  clear hK hq t4
  have hK := hK1
  clear hK1
  have hq := bookBytes_f w15.heap.size 4 w15.heap.size _ _ _ _ A5 p5.length p5.length v4 hK (by decide) (by simp)
  unfold pK at hq
  go_wp2_with fail
  refine hq.mono ?_
  rintro e v5 ⟨rfl, x5, hK1, t5⟩
  replace k0 := hK.stepB k0 t5
  clear hK hq t5
  have hK := hK1
  clear hK1
  have hq := bookBytes_f w15.heap.size 5 w15.heap.size _ _ _ _ A6 p6.length p6.length v5 hK (by decide) (by simp)
  unfold pK at hq
  go_wp2_with fail
  refine hq.mono ?_
  rintro e v6 ⟨rfl, x6, hK1, t6⟩
  replace k0 := hK.stepB k0 t6
  clear hK hq t6
  have hK := hK1
  clear hK1
  have hH := Holds.of (HB5.keep k0) (HI1.keep k0) (by simp) (by simp)
  have hq := apart_f w15.heap.size 6 w.heap.size _ _ _ _ v6 (hK.mono kk.size) hH
  unfold pK at hq
  go_wp2_with fail
  refine hq.mono ?_
  rintro e v7 ⟨rfl, t7⟩
  go_wp2_with fail
  go_ret
  exact ⟨rfl, (kk.trans k0).but t7 fun i h => h⟩
end Go.Proofs.YtafiahnaeakcfaaDoor
