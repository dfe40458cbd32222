/-
  THE WALK OF THE 4 NumsGet: it answers true, and turns nothing that was there. Conditions: the arguments are a slice of bytes that came in and an int.
-/
import Derived.Test.YtafiahnaeakcfaaDoorBookH
import Derived.Test.YtafiahnaeakcfaaDoorRefC
import Derived.Test.YtafiahnaeakcfaaDoorLeft
namespace Go.Proofs.YtafiahnaeakcfaaDoor
open Go.RowKit

set_option maxRecDepth 100000 in
set_option maxHeartbeats 8000000 in
theorem numsGet_w (A : Option Addr) (c : Nat) (xs : List Int) (b : Int) (w : World) (hx : In .u8 w A c xs) (hxn : A = none → c = 0) (hb : -9223372036854775808 ≤ b ∧ b ≤ 9223372036854775807) :
    Calls Tryd.prog 4 #[.slice A xs.length c, .int .i64 b] w fun e w' => e = .returned (.bool true) ∧ Below w.heap.size w w' := by
  have lx := hx.len
  by_cases h1 : 70000 < xs.length
  · have z1 : (70000 : Int) < xs.length := by omega
    go_enter Tryd.func4, Tryd.ntmps4
    go_wp2_with fail
    go_ret
    exact ⟨rfl, Keep.refl _⟩
  have sx : Sl.Ok .u8 w ⟨A, c, xs⟩ := ⟨hx, hxn⟩
  have kk : Keep w w := Keep.refl _
  have z1 : ((70000 : Int) < xs.length) = False := eq_false (by omega)
  have z2 : decide ((70000 : Int) < xs.length) = false := decide_eq_false (by omega)
  have lx7 : xs.length ≤ 70000 := by omega
  have lcc : Len c := by have := hx.capI; unfold Len; omega
  have hxb := hx.bytes
  have hxc := hx.cap
  obtain ⟨L, tl, rl, hL⟩ : ∃ L tl rl, getLV xs = (L, tl, rl) := ⟨_, _, _, rfl⟩
  obtain ⟨P, tp, rp, hP⟩ : ∃ L tl rl, getBV xs = (L, tl, rl) := ⟨_, _, _, rfl⟩
  have lL : L.length ≤ 255 := by have := getLV_len hxb; rwa [hL] at this
  have lP : P.length ≤ 65535 := by have := getBV_len hxb; rwa [hP] at this
  obtain ⟨gv, hgv⟩ : ∃ g, g = getV xs b := ⟨_, rfl⟩
  replace hgv := Lib.hid hgv
  replace hL := Lib.hid hL
  replace hP := Lib.hid hP
  clear h1 hx
  go_enter Tryd.func4, Tryd.ntmps4
  have HB0 := Held.nil 5 (w) w.heap.size
  have HI0 := Held.nil 3 (w) w.heap.size
  have hq := twinBytes_f ⟨A, c, xs⟩ w sx (by show xs.length ≤ _; omega)
  go_wp2_with fail
  refine hq.mono ?_
  rintro e w1 ⟨A1, c1, rfl, t1, kq⟩
  clear hq
  have HB1 := HB0.snoc kq kk.size (TwinB.fr t1) 1 (by decide) (by show xs.length ≤ _; omega)
  clear HB0
  replace sx := sx.keep kq
  replace HI0 := HI0.keep kq
  replace t1 : TwinB w1 w.heap.size ⟨A1, c1, xs⟩ := Fr.mono t1 kk.size
  replace kk := kk.trans kq
  clear kq
  have lc1 : Len c1 := lenMax (Fr.capMax t1)
  have hc1 : xs.length ≤ c1 := Fr.cap (TwinB.fr t1)
  have hq := get_f A1 c1 xs b w1 (TwinB.fr t1).rd hxb hc1 lc1
  unfold GetP at hq
  rw [← hgv.out] at hq
  go_wp2_with fail
  refine hq.mono ?_
  rintro e w2 ⟨rfl, kq⟩
  clear hq
  replace sx := sx.keep kq
  replace HI0 := HI0.keep kq
  replace HB1 := HB1.keep kq
  replace t1 := t1.keep kq
  replace kk := kk.trans kq
  clear kq
  have hq := refGet_f A c xs b w2 sx.rd hxb hxc lcc hb
  unfold GetP at hq
  rw [← hgv.out] at hq
  go_wp2_with fail
  refine hq.mono ?_
  rintro e w3 ⟨rfl, kq⟩
  clear hq
  replace sx := sx.keep kq
  replace HI0 := HI0.keep kq
  replace HB1 := HB1.keep kq
  replace t1 := t1.keep kq
  replace kk := kk.trans kq
  clear kq
  have hq := getList_u A1 c1 xs w3 (TwinB.fr t1).rd hxb hc1 lc1 hL.out
  go_wp2_with fail
  refine hq.mono ?_
  rintro e w4 ⟨A2, rfl, f2, kq⟩
  clear hq
  have HI2 := HI0.snoc kq kk.size f2 2 (by decide) (by omega)
  clear HI0
  replace sx := sx.keep kq
  replace HB1 := HB1.keep kq
  replace t1 := t1.keep kq
  have r2 := f2.rd
  clear f2
  replace kk := kk.trans kq
  clear kq
  have hq := refGetList_u A c xs w4 sx.rd hxb hxc lcc hL.out
  go_wp2_with fail
  refine hq.mono ?_
  rintro e w5 ⟨A3, c3, rfl, r3, kq⟩
  clear hq
  replace sx := sx.keep kq
  replace HB1 := HB1.keep kq
  replace t1 := t1.keep kq
  replace HI2 := HI2.keep kq
  replace r2 := r2.keep kq
  replace kk := kk.trans kq
  clear kq
  have hq := getBytes_u A1 c1 xs w5 (TwinB.fr t1).rd hxb hc1 lc1 hP.out
  go_wp2_with fail
  refine hq.mono ?_
  rintro e w6 ⟨A4, rfl, f4, kq⟩
  clear hq
  have HB3 := HB1.snoc kq kk.size f4 3 (by decide) (by omega)
  clear HB1
  replace sx := sx.keep kq
  replace t1 := t1.keep kq
  replace HI2 := HI2.keep kq
  replace r2 := r2.keep kq
  replace r3 := r3.keep kq
  have r4 := f4.rd
  clear f4
  replace kk := kk.trans kq
  clear kq
  have hq := refGetBytes_u A c xs w6 sx.rd hxb hxc lcc hP.out
  go_wp2_with fail
  refine hq.mono ?_
  rintro e w7 ⟨A5, c5, rfl, r5, kq⟩
  clear hq
  replace sx := sx.keep kq
  replace t1 := t1.keep kq
  replace HI2 := HI2.keep kq
  replace r2 := r2.keep kq
  replace r3 := r3.keep kq
  replace HB3 := HB3.keep kq
  replace r4 := r4.keep kq
  replace kk := kk.trans kq
  clear kq
  have hq := saysK (sameInts A2 A3 L.length c3 L L w7 r2 r3 (by unfold Reach; omega) (by unfold Reach; omega))
  rw [decide_eq_true rfl] at hq
  go_wp2_with fail
  refine hq.mono ?_
  rintro e w8 ⟨rfl, kq⟩
  clear hq
  replace sx := sx.keep kq
  replace t1 := t1.keep kq
  replace HI2 := HI2.keep kq
  replace r2 := r2.keep kq
  replace r3 := r3.keep kq
  replace HB3 := HB3.keep kq
  replace r4 := r4.keep kq
  replace r5 := r5.keep kq
  replace kk := kk.trans kq
  clear kq
  have hq := saysK (sameBytes A4 A5 P.length c5 P P w8 r4 r5 (by unfold Reach; omega) (by unfold Reach; omega))
  rw [decide_eq_true rfl] at hq
  go_wp2_with fail
  refine hq.mono ?_
  rintro e w9 ⟨rfl, kq⟩
  clear hq
  replace sx := sx.keep kq
  replace t1 := t1.keep kq
  replace HI2 := HI2.keep kq
  replace r2 := r2.keep kq
  replace r3 := r3.keep kq
  replace HB3 := HB3.keep kq
  replace r4 := r4.keep kq
  replace r5 := r5.keep kq
  replace kk := kk.trans kq
  clear kq
  have hq := leftBytes_f A1 A c1 c xs w.heap.size w9 t1 sx.rd (by omega)
  go_wp2_with fail
  refine hq.mono ?_
  rintro e w10 ⟨rfl, kq⟩
  clear hq
  replace sx := sx.keep kq
  replace t1 := t1.keep kq
  replace HI2 := HI2.keep kq
  replace r2 := r2.keep kq
  replace r3 := r3.keep kq
  replace HB3 := HB3.keep kq
  replace r4 := r4.keep kq
  replace r5 := r5.keep kq
  replace kk := kk.trans kq
  clear kq
  clear t1 r2 r3 r4 r5 sx
  go_upto_region 13 with fail
  have hK := Bk.new w10
  have k0 : Keep w10 (w10.alloc (.cells #[.int .i64 0, .slice none 0 0, .slice none 0 0, .slice none 0 0, .slice none 0 0, .slice none 0 0, .slice none 0 0, .slice none 0 0, .slice none 0 0, .slice none 0 0] 44)) := Keep.alloc1 _ _
  generalize w10.alloc (.cells #[.int .i64 0, .slice none 0 0, .slice none 0 0, .slice none 0 0, .slice none 0 0, .slice none 0 0, .slice none 0 0, .slice none 0 0, .slice none 0 0, .slice none 0 0] 44) = v0 at hK k0 ⊢
  have hq := bookBytes_f w10.heap.size 0 w10.heap.size _ _ _ _ A1 xs.length c1 v0 hK (by decide) (by simp)
  unfold pK at hq
  go_wp2_with fail
  refine hq.mono ?_
  rintro e v1 ⟨rfl, x1, hK1, t1⟩
  replace k0 := hK.stepB k0 t1
  clear hK hq t1
  have hK := hK1
  clear hK1
  have hq := bookInts_f w10.heap.size 1 w10.heap.size _ _ _ _ A2 L.length L.length v1 hK (by decide) (by simp)
  unfold pK at hq
  go_wp2_with fail
  refine hq.mono ?_
  rintro e v2 ⟨rfl, x2, hK1, t2⟩
  replace k0 := hK.stepI k0 t2
  clear hK hq t2
  have hK := hK1
  clear hK1
  have hq := bookBytes_f w10.heap.size 2 w10.heap.size _ _ _ _ A4 P.length P.length v2 hK (by decide) (by simp)
  unfold pK at hq
  go_wp2_with fail
  refine hq.mono ?_
  rintro e v3 ⟨rfl, x3, hK1, t3⟩
  replace k0 := hK.stepB k0 t3
  clear hK hq t3
  have hK := hK1
  clear hK1
  have hH := Holds.of (HB3.keep k0) (HI2.keep k0) (by simp) (by simp)
  have hq := apart_f w10.heap.size 3 w.heap.size _ _ _ _ v3 (hK.mono kk.size) hH
  unfold pK at hq
  go_wp2_with fail
  refine hq.mono ?_
  rintro e v4 ⟨rfl, t4⟩
  go_wp2_with fail
  go_ret
  exact ⟨rfl, (kk.trans k0).but t4 fun i h => h⟩
end Go.Proofs.YtafiahnaeakcfaaDoor
