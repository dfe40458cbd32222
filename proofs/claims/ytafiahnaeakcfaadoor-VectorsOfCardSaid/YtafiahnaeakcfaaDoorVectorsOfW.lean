/-
  THE WALK OF THE 6 VectorsOf: it answers true, and turns nothing that was there. Conditions: the arguments are a slice of ints and a slice of bytes that came in, and an int.
-/
import Derived.Test.YtafiahnaeakcfaaDoorBookH
import Derived.Test.YtafiahnaeakcfaaDoorRefE
import Derived.Test.YtafiahnaeakcfaaDoorLeft
namespace Go.Proofs.YtafiahnaeakcfaaDoor
open Go.RowKit

set_option maxRecDepth 100000 in
set_option maxHeartbeats 8000000 in
theorem vectorsOf_w (A : Option Addr) (c : Nat) (xs : List Int) (B : Option Addr) (d : Nat) (ys : List Int) (n : Int) (w : World) (hx : In .i64 w A c xs) (hxn : A = none → c = 0) (hy : In .u8 w B d ys) (hyn : B = none → d = 0) (hn : -9223372036854775808 ≤ n ∧ n ≤ 9223372036854775807) :
    Calls Tryd.prog 6 #[.slice A xs.length c, .slice B ys.length d, .int .i64 n] w fun e w' => e = .returned (.bool true) ∧ Below w.heap.size w w' := by
  have lx := hx.len
  have ly := hy.len
  by_cases h1 : 600 < xs.length
  · have z1 : (600 : Int) < xs.length := by omega
    have z2 : decide ((600 : Int) < xs.length) = true := decide_eq_true z1
    go_enter Tryd.func6, Tryd.ntmps6
    go_wp2_with fail
    go_ret
    exact ⟨rfl, Keep.refl _⟩
  have z1 : ((600 : Int) < xs.length) = False := eq_false (by omega)
  have z2 : decide ((600 : Int) < xs.length) = false := decide_eq_false (by omega)
  by_cases h2 : 3000 < ys.length
  · have z3 : (3000 : Int) < ys.length := by omega
    have z4 : decide ((3000 : Int) < ys.length) = true := decide_eq_true z3
    go_enter Tryd.func6, Tryd.ntmps6
    go_wp2_with fail
    go_ret
    exact ⟨rfl, Keep.refl _⟩
  have z3 : ((3000 : Int) < ys.length) = False := eq_false (by omega)
  have z4 : decide ((3000 : Int) < ys.length) = false := decide_eq_false (by omega)
  have sx : Sl.Ok .i64 w ⟨A, c, xs⟩ := ⟨hx, hxn⟩
  have sy : Sl.Ok .u8 w ⟨B, d, ys⟩ := ⟨hy, hyn⟩
  have kk : Keep w w := Keep.refl _
  have lx3 : xs.length ≤ 600 := by omega
  have ly3 : ys.length ≤ 3000 := by omega
  have llx := hx.lenL
  have lly := hy.lenL
  have lcc : Len c := by have := hx.capI; unfold Len; omega
  have hxc := hx.cap
  have ldd : Len d := by have := hy.capI; unfold Len; omega
  have hyc := hy.cap
  have hyb := hy.bytes
  have hnw : (Lit.int .i64 n).wf = true := WalkArith.wf_i64 hn
  have hlw : (Lit.int .i64 (xs.length : Int)).wf = true := WalkArith.wf_i64 (by omega)
  obtain ⟨X, hX⟩ : ∃ X, X = putL (xs.take 255) := ⟨_, rfl⟩
  have hXb : Bytes X := by rw [hX]; exact bytes_putL _
  have lX : X.length ≤ 3000 := by rw [hX, length_putL, List.length_take]; omega
  obtain ⟨L, rl, hL⟩ : ∃ L rl, vgetV ys n = (L, rl) := ⟨_, _, rfl⟩
  obtain ⟨M, rm, hM⟩ : ∃ L rl, vgetV X n = (L, rl) := ⟨_, _, rfl⟩
  have lL : L.length ≤ 255 := by have := vgetV_len hyb n; rwa [hL] at this
  have lM : M.length ≤ 255 := by have := vgetV_len hXb n; rwa [hM] at this
  obtain ⟨p1, hp1⟩ : ∃ b, b = chk xs n := ⟨_, rfl⟩
  obtain ⟨p2, hp2⟩ : ∃ b, b = chk xs xs.length := ⟨_, rfl⟩
  replace hX := Lib.hid hX
  replace hL := Lib.hid hL
  replace hM := Lib.hid hM
  replace hp1 := Lib.hid hp1
  replace hp2 := Lib.hid hp2
  clear h1 h2 hx hy
  go_enter Tryd.func6, Tryd.ntmps6
  have HB0 := Held.nil 5 (w) w.heap.size
  have HI0 := Held.nil 3 (w) w.heap.size
  have hq := twinInts_f ⟨A, c, xs⟩ w sx (by show xs.length ≤ _; omega)
  go_wp2_with fail
  refine hq.mono ?_
  rintro e w1 ⟨A1, c1, rfl, t1, kq⟩
  clear hq
  have HI1 := HI0.snoc kq kk.size (Twin.fr t1) 1 (by decide) (by show xs.length ≤ _; omega)
  clear HI0
  replace sx := sx.keep kq
  replace sy := sy.keep kq
  replace HB0 := HB0.keep kq
  replace t1 : Twin w1 w.heap.size ⟨A1, c1, xs⟩ := Fr.mono t1 kk.size
  replace kk := kk.trans kq
  clear kq
  have hq := twinBytes_f ⟨B, d, ys⟩ w1 sy (by show ys.length ≤ _; omega)
  go_wp2_with fail
  refine hq.mono ?_
  rintro e w2 ⟨A2, c2, rfl, t2, kq⟩
  clear hq
  have HB2 := HB0.snoc kq kk.size (TwinB.fr t2) 2 (by decide) (by show ys.length ≤ _; omega)
  clear HB0
  replace sx := sx.keep kq
  replace sy := sy.keep kq
  replace HI1 := HI1.keep kq
  replace t1 := t1.keep kq
  replace t2 : TwinB w2 w.heap.size ⟨A2, c2, ys⟩ := Fr.mono t2 kk.size
  replace kk := kk.trans kq
  clear kq
  have lc1 : Len c1 := lenMax (Fr.capMax t1)
  have hc1 : xs.length ≤ c1 := Fr.cap (Twin.fr t1)
  have lc2 : Len c2 := lenMax (Fr.capMax t2)
  have hc2 : ys.length ≤ c2 := Fr.cap (TwinB.fr t2)
  have hq := vput_f A1 c1 xs w2 (Twin.fr t1).rd hc1 lc1
  rw [← hX.out] at hq
  go_wp2_with fail
  refine hq.mono ?_
  rintro e w3 ⟨A3, rfl, f3, kq⟩
  clear hq
  have HB3 := HB2.snoc kq kk.size f3 3 (by decide) (by omega)
  clear HB2
  replace sx := sx.keep kq
  replace sy := sy.keep kq
  replace HI1 := HI1.keep kq
  replace t1 := t1.keep kq
  replace t2 := t2.keep kq
  have r3 := f3.rd
  clear f3
  replace kk := kk.trans kq
  clear kq
  have hq := vget_u A2 c2 ys n w3 (TwinB.fr t2).rd hyb hc2 lc2 hn hL.out
  go_wp2_with fail
  refine hq.mono ?_
  rintro e w4 ⟨A4, rfl, f4, kq⟩
  clear hq
  have HI4 := HI1.snoc kq kk.size f4 4 (by decide) (by omega)
  clear HI1
  replace sx := sx.keep kq
  replace sy := sy.keep kq
  replace t1 := t1.keep kq
  replace t2 := t2.keep kq
  replace HB3 := HB3.keep kq
  replace r3 := r3.keep kq
  have r4 := f4.rd
  clear f4
  replace kk := kk.trans kq
  clear kq
  have hq := refGet04_f B d ys n w4 sy.rd hyb hyc ldd hn hL.out
  go_wp2_with fail
  refine hq.mono ?_
  rintro e w5 ⟨A5, c5, rfl, r5, kq⟩
  clear hq
  replace sx := sx.keep kq
  replace sy := sy.keep kq
  replace t1 := t1.keep kq
  replace t2 := t2.keep kq
  replace HB3 := HB3.keep kq
  replace r3 := r3.keep kq
  replace HI4 := HI4.keep kq
  replace r4 := r4.keep kq
  replace kk := kk.trans kq
  clear kq
  have hq := vget_u A3 X.length X n w5 r3 hXb (Nat.le_refl _) (by unfold Len; omega) hn hM.out
  go_wp2_with fail
  refine hq.mono ?_
  rintro e w6 ⟨A6, rfl, f6, kq⟩
  clear hq
  have HI5 := HI4.snoc kq kk.size f6 5 (by decide) (by omega)
  clear HI4
  replace sx := sx.keep kq
  replace sy := sy.keep kq
  replace t1 := t1.keep kq
  replace t2 := t2.keep kq
  replace HB3 := HB3.keep kq
  replace r3 := r3.keep kq
  replace r4 := r4.keep kq
  replace r5 := r5.keep kq
  have r6 := f6.rd
  clear f6
  replace kk := kk.trans kq
  clear kq
  have hq := refPut04_f A c xs w6 sx.rd hxc lcc
  rw [← hX.out] at hq
  go_wp2_with fail
  refine hq.mono ?_
  rintro e w7 ⟨A7, c7, rfl, f7, kq⟩
  clear hq
  replace sx := sx.keep kq
  replace sy := sy.keep kq
  replace t1 := t1.keep kq
  replace t2 := t2.keep kq
  replace HB3 := HB3.keep kq
  replace r3 := r3.keep kq
  replace r4 := r4.keep kq
  replace r5 := r5.keep kq
  replace HI5 := HI5.keep kq
  replace r6 := r6.keep kq
  have r7 := f7.rd
  have lc7 : Len c7 := lenMax (Fr.capMax f7)
  have hc7 : X.length ≤ c7 := Fr.cap f7
  clear f7
  replace kk := kk.trans kq
  clear kq
  have hq := refGet04_f A7 c7 X n w7 r7 hXb hc7 lc7 hn hM.out
  go_wp2_with fail
  refine hq.mono ?_
  rintro e w8 ⟨A8, c8, rfl, r8, kq⟩
  clear hq
  replace sx := sx.keep kq
  replace sy := sy.keep kq
  replace t1 := t1.keep kq
  replace t2 := t2.keep kq
  replace HB3 := HB3.keep kq
  replace r3 := r3.keep kq
  replace r4 := r4.keep kq
  replace r5 := r5.keep kq
  replace HI5 := HI5.keep kq
  replace r6 := r6.keep kq
  replace r7 := r7.keep kq
  replace kk := kk.trans kq
  clear kq
  have hq := check_f A1 c1 xs n w8 (Twin.fr t1).rd llx hnw
  rw [← hp1.out] at hq
  go_wp2_with fail
  refine hq.mono ?_
  rintro e w9 ⟨rfl, kq⟩
  clear hq
  replace sx := sx.keep kq
  replace sy := sy.keep kq
  replace t1 := t1.keep kq
  replace t2 := t2.keep kq
  replace HB3 := HB3.keep kq
  replace r3 := r3.keep kq
  replace r4 := r4.keep kq
  replace r5 := r5.keep kq
  replace HI5 := HI5.keep kq
  replace r6 := r6.keep kq
  replace r7 := r7.keep kq
  replace r8 := r8.keep kq
  replace kk := kk.trans kq
  clear kq
  have hq := refCheck_f A c xs n w9 sx.rd llx
  rw [← hp1.out] at hq
  go_wp2_with fail
  refine hq.mono ?_
  rintro e w10 ⟨rfl, kq⟩
  clear hq
  replace sx := sx.keep kq
  replace sy := sy.keep kq
  replace t1 := t1.keep kq
  replace t2 := t2.keep kq
  replace HB3 := HB3.keep kq
  replace r3 := r3.keep kq
  replace r4 := r4.keep kq
  replace r5 := r5.keep kq
  replace HI5 := HI5.keep kq
  replace r6 := r6.keep kq
  replace r7 := r7.keep kq
  replace r8 := r8.keep kq
  replace kk := kk.trans kq
  clear kq
  have hq := check_f A1 c1 xs xs.length w10 (Twin.fr t1).rd llx hlw
  rw [← hp2.out] at hq
  go_wp2_with fail
  refine hq.mono ?_
  rintro e w11 ⟨rfl, kq⟩
  clear hq
  replace sx := sx.keep kq
  replace sy := sy.keep kq
  replace t1 := t1.keep kq
  replace t2 := t2.keep kq
  replace HB3 := HB3.keep kq
  replace r3 := r3.keep kq
  replace r4 := r4.keep kq
  replace r5 := r5.keep kq
  replace HI5 := HI5.keep kq
  replace r6 := r6.keep kq
  replace r7 := r7.keep kq
  replace r8 := r8.keep kq
  replace kk := kk.trans kq
  clear kq
  have hq := refCheck_f A c xs xs.length w11 sx.rd llx
  rw [← hp2.out] at hq
  go_wp2_with fail
  refine hq.mono ?_
  rintro e w12 ⟨rfl, kq⟩
  clear hq
  replace sx := sx.keep kq
  replace sy := sy.keep kq
  replace t1 := t1.keep kq
  replace t2 := t2.keep kq
  replace HB3 := HB3.keep kq
  replace r3 := r3.keep kq
  replace r4 := r4.keep kq
  replace r5 := r5.keep kq
  replace HI5 := HI5.keep kq
  replace r6 := r6.keep kq
  replace r7 := r7.keep kq
  replace r8 := r8.keep kq
  replace kk := kk.trans kq
  clear kq
  have hq := refPut04_f A c xs w12 sx.rd hxc lcc
  rw [← hX.out] at hq
  go_wp2_with fail
  refine hq.mono ?_
  rintro e w13 ⟨A9, c9, rfl, f9, kq⟩
  clear hq
  replace sx := sx.keep kq
  replace sy := sy.keep kq
  replace t1 := t1.keep kq
  replace t2 := t2.keep kq
  replace HB3 := HB3.keep kq
  replace r3 := r3.keep kq
  replace r4 := r4.keep kq
  replace r5 := r5.keep kq
  replace HI5 := HI5.keep kq
  replace r6 := r6.keep kq
  replace r7 := r7.keep kq
  replace r8 := r8.keep kq
  have r9 := f9.rd
  clear f9
  replace kk := kk.trans kq
  clear kq
  have hq := saysK (sameBytes A3 A9 X.length c9 X X w13 r3 r9 (by unfold Reach; omega) (by unfold Reach; omega))
  rw [decide_eq_true rfl] at hq
  go_wp2_with fail
  refine hq.mono ?_
  rintro e w14 ⟨rfl, kq⟩
  clear hq
  replace sx := sx.keep kq
  replace sy := sy.keep kq
  replace t1 := t1.keep kq
  replace t2 := t2.keep kq
  replace HB3 := HB3.keep kq
  replace r3 := r3.keep kq
  replace r4 := r4.keep kq
  replace r5 := r5.keep kq
  replace HI5 := HI5.keep kq
  replace r6 := r6.keep kq
  replace r7 := r7.keep kq
  replace r8 := r8.keep kq
  replace r9 := r9.keep kq
  replace kk := kk.trans kq
  clear kq
  have hq := saysK (sameInts A4 A5 L.length c5 L L w14 r4 r5 (by unfold Reach; omega) (by unfold Reach; omega))
  rw [decide_eq_true rfl] at hq
  go_wp2_with fail
  refine hq.mono ?_
  rintro e w15 ⟨rfl, kq⟩
  clear hq
  replace sx := sx.keep kq
  replace sy := sy.keep kq
  replace t1 := t1.keep kq
  replace t2 := t2.keep kq
  replace HB3 := HB3.keep kq
  replace r3 := r3.keep kq
  replace r4 := r4.keep kq
  replace r5 := r5.keep kq
  replace HI5 := HI5.keep kq
  replace r6 := r6.keep kq
  replace r7 := r7.keep kq
  replace r8 := r8.keep kq
  replace r9 := r9.keep kq
  replace kk := kk.trans kq
  clear kq
  have hq := saysK (sameInts A6 A8 M.length c8 M M w15 r6 r8 (by unfold Reach; omega) (by unfold Reach; omega))
  rw [decide_eq_true rfl] at hq
  go_wp2_with fail
  refine hq.mono ?_
  rintro e w16 ⟨rfl, kq⟩
  clear hq
  replace sx := sx.keep kq
  replace sy := sy.keep kq
  replace t1 := t1.keep kq
  replace t2 := t2.keep kq
  replace HB3 := HB3.keep kq
  replace r3 := r3.keep kq
  replace r4 := r4.keep kq
  replace r5 := r5.keep kq
  replace HI5 := HI5.keep kq
  replace r6 := r6.keep kq
  replace r7 := r7.keep kq
  replace r8 := r8.keep kq
  replace r9 := r9.keep kq
  replace kk := kk.trans kq
  clear kq
  have hq := leftInts_f A1 A c1 c xs w.heap.size w16 t1 sx.rd (by omega)
  go_wp2_with fail
  refine hq.mono ?_
  rintro e w17 ⟨rfl, kq⟩
  clear hq
  replace sx := sx.keep kq
  replace sy := sy.keep kq
  replace t1 := t1.keep kq
  replace t2 := t2.keep kq
  replace HB3 := HB3.keep kq
  replace r3 := r3.keep kq
  replace r4 := r4.keep kq
  replace r5 := r5.keep kq
  replace HI5 := HI5.keep kq
  replace r6 := r6.keep kq
  replace r7 := r7.keep kq
  replace r8 := r8.keep kq
  replace r9 := r9.keep kq
  replace kk := kk.trans kq
  clear kq
  have hq := leftBytes_f A2 B c2 d ys w.heap.size w17 t2 sy.rd (by omega)
  go_wp2_with fail
  refine hq.mono ?_
  rintro e w18 ⟨rfl, kq⟩
  clear hq
  replace sx := sx.keep kq
  replace sy := sy.keep kq
  replace t1 := t1.keep kq
  replace t2 := t2.keep kq
  replace HB3 := HB3.keep kq
  replace r3 := r3.keep kq
  replace r4 := r4.keep kq
  replace r5 := r5.keep kq
  replace HI5 := HI5.keep kq
  replace r6 := r6.keep kq
  replace r7 := r7.keep kq
  replace r8 := r8.keep kq
  replace r9 := r9.keep kq
  replace kk := kk.trans kq
  clear kq
  clear t1 t2 r3 r4 r5 r6 r7 r8 r9 sx sy
  go_upto_region 13 with fail
  have hK := Bk.new w18
  have k0 : Keep w18 (w18.alloc (.cells #[.int .i64 0, .slice none 0 0, .slice none 0 0, .slice none 0 0, .slice none 0 0, .slice none 0 0, .slice none 0 0, .slice none 0 0, .slice none 0 0, .slice none 0 0] 44)) := Keep.alloc1 _ _
  generalize w18.alloc (.cells #[.int .i64 0, .slice none 0 0, .slice none 0 0, .slice none 0 0, .slice none 0 0, .slice none 0 0, .slice none 0 0, .slice none 0 0, .slice none 0 0, .slice none 0 0] 44) = v0 at hK k0 ⊢
  have hq := bookInts_f w18.heap.size 0 w18.heap.size _ _ _ _ A1 xs.length c1 v0 hK (by decide) (by simp)
  unfold pK at hq
  go_wp2_with fail
  refine hq.mono ?_
  rintro e v1 ⟨rfl, x1, hK1, t1⟩
  replace k0 := hK.stepI k0 t1
  clear hK hq t1
  have hK := hK1
  clear hK1
  have hq := bookBytes_f w18.heap.size 1 w18.heap.size _ _ _ _ A2 ys.length c2 v1 hK (by decide) (by simp)
  unfold pK at hq
  go_wp2_with fail
  refine hq.mono ?_
  rintro e v2 ⟨rfl, x2, hK1, t2⟩
  replace k0 := hK.stepB k0 t2
  clear hK hq t2
  have hK := hK1
  clear hK1
  have hq := bookBytes_f w18.heap.size 2 w18.heap.size _ _ _ _ A3 X.length X.length v2 hK (by decide) (by simp)
  unfold pK at hq
  go_wp2_with fail
  refine hq.mono ?_
  rintro e v3 ⟨rfl, x3, hK1, t3⟩
  replace k0 := hK.stepB k0 t3
  clear hK hq t3
  have hK := hK1
  clear hK1
  have hq := bookInts_f w18.heap.size 3 w18.heap.size _ _ _ _ A4 L.length L.length v3 hK (by decide) (by simp)
  unfold pK at hq
  go_wp2_with fail
  refine hq.mono ?_
  rintro e v4 ⟨rfl, x4, hK1, t4⟩
  replace k0 := hK.stepI k0 t4
  clear hK hq t4
  have hK := hK1
  clear hK1
  have hq := bookInts_f w18.heap.size 4 w18.heap.size _ _ _ _ A6 M.length M.length v4 hK (by decide) (by simp)
  unfold pK at hq
  go_wp2_with fail
  refine hq.mono ?_
  rintro e v5 ⟨rfl, x5, hK1, t5⟩
  replace k0 := hK.stepI k0 t5
  clear hK hq t5
  have hK := hK1
  clear hK1
  have hH := Holds.of (HB3.keep k0) (HI5.keep k0) (by simp) (by simp)
  have hq := apart_f w18.heap.size 5 w.heap.size _ _ _ _ v5 (hK.mono kk.size) hH
  unfold pK at hq
  go_wp2_with fail
  refine hq.mono ?_
  rintro e v6 ⟨rfl, t6⟩
  go_wp2_with fail
  go_ret
  exact ⟨rfl, (kk.trans k0).but t6 fun i h => h⟩
end Go.Proofs.YtafiahnaeakcfaaDoor
