/-
  THE WALK OF THE 5 DemandsOf: it answers true, and turns nothing that was there. Conditions: the arguments are slices of ints that came in.
-/
import Derived.Test.YtafiahnaeakcfaaDoorBookH
import Derived.Test.YtafiahnaeakcfaaDoorRefD
import Derived.Test.YtafiahnaeakcfaaDoorLeft
namespace Go.Proofs.YtafiahnaeakcfaaDoor
open Go.RowKit

theorem ofV_short (xs P : List Int) : (ofV xs P).1.length ≤ xs.length := by
  unfold ofV
  split
  · have h := length_best (gs xs P xs.length)
    rwa [length_gs] at h
  · exact Nat.zero_le _

set_option maxRecDepth 100000 in
set_option maxHeartbeats 8000000 in
theorem demandsOf_w (A : Option Addr) (c : Nat) (xs : List Int) (B : Option Addr) (d : Nat) (ys : List Int) (w : World) (hx : In .i64 w A c xs) (hxn : A = none → c = 0) (hy : In .i64 w B d ys) (hyn : B = none → d = 0) :
    Calls Tryd.prog 5 #[.slice A xs.length c, .slice B ys.length d] w fun e w' => e = .returned (.bool true) ∧ Below w.heap.size w w' := by
  have lx := hx.len
  have ly := hy.len
  by_cases h1 : 300 < xs.length
  · have z1 : (300 : Int) < xs.length := by omega
    have z2 : decide ((300 : Int) < xs.length) = true := decide_eq_true z1
    go_enter Tryd.func5, Tryd.ntmps5
    go_wp2_with fail
    go_ret
    exact ⟨rfl, Keep.refl _⟩
  have z1 : ((300 : Int) < xs.length) = False := eq_false (by omega)
  have z2 : decide ((300 : Int) < xs.length) = false := decide_eq_false (by omega)
  by_cases h2 : 300 < ys.length
  · have z3 : (300 : Int) < ys.length := by omega
    have z4 : decide ((300 : Int) < ys.length) = true := decide_eq_true z3
    go_enter Tryd.func5, Tryd.ntmps5
    go_wp2_with fail
    go_ret
    exact ⟨rfl, Keep.refl _⟩
  have z3 : ((300 : Int) < ys.length) = False := eq_false (by omega)
  have z4 : decide ((300 : Int) < ys.length) = false := decide_eq_false (by omega)
  have sx : Sl.Ok .i64 w ⟨A, c, xs⟩ := ⟨hx, hxn⟩
  have sy : Sl.Ok .i64 w ⟨B, d, ys⟩ := ⟨hy, hyn⟩
  have kk : Keep w w := Keep.refl _
  have lx3 : xs.length ≤ 300 := by omega
  have ly3 : ys.length ≤ 300 := by omega
  have llx := hx.lenL
  have lly := hy.lenL
  clear h1 h2 hx hy
  go_enter Tryd.func5, Tryd.ntmps5
  have HB0 := Held.nil 5 (w) w.heap.size
  have HI0 := Held.nil 3 (w) w.heap.size
  have hq := twinInts_f ⟨A, c, xs⟩ w sx (by show xs.length ≤ _; omega)
  go_wp2_with fail
  refine hq.mono ?_
  rintro e w1 ⟨A1, c1, rfl, t1, kq⟩
  clear hq
  have HI1 := HI0.snoc kq kk.size (Twin.fr t1) 1 (by decide) (by show xs.length ≤ _; omega)
  clear HI0
  replace sx := sx.keep kq
  replace sy := sy.keep kq
  replace HB0 := HB0.keep kq
  replace t1 : Twin w1 w.heap.size ⟨A1, c1, xs⟩ := Fr.mono t1 kk.size
  replace kk := kk.trans kq
  clear kq
  have hq := twinInts_f ⟨B, d, ys⟩ w1 sy (by show ys.length ≤ _; omega)
  go_wp2_with fail
  refine hq.mono ?_
  rintro e w2 ⟨A2, c2, rfl, t2, kq⟩
  clear hq
  have HI2 := HI1.snoc kq kk.size (Twin.fr t2) 2 (by decide) (by show ys.length ≤ _; omega)
  clear HI1
  replace sx := sx.keep kq
  replace sy := sy.keep kq
  replace HB0 := HB0.keep kq
  replace t1 := t1.keep kq
  replace t2 : Twin w2 w.heap.size ⟨A2, c2, ys⟩ := Fr.mono t2 kk.size
  replace kk := kk.trans kq
  clear kq
  have hq := of_own A1 A2 c1 c2 xs ys w2 (Twin.fr t1).rd llx (Twin.fr t2).rd lly
  go_wp2_with fail
  refine hq.mono ?_
  rintro e w3 ⟨A3, L, n, gn, r, rfl, f3, kq, hv⟩
  clear hq
  have lL : L.length ≤ 300 := by have h := ofV_short xs ys; rw [hv] at h; exact Nat.le_trans h lx3
  replace hv := Lib.hid hv
  have HI3 := HI2.snoc kq kk.size f3 3 (by decide) (by omega)
  clear HI2
  replace sx := sx.keep kq
  replace sy := sy.keep kq
  replace HB0 := HB0.keep kq
  replace t1 := t1.keep kq
  replace t2 := t2.keep kq
  have r3 := f3.rd
  clear f3
  replace kk := kk.trans kq
  clear kq
  have hq := refOf_f A B c d xs ys w3 sx.rd llx sy.rd lly
  go_wp2_with fail
  refine hq.mono ?_
  rintro e w4 ⟨A4, c4, L', n', gn', r', rfl, r4, kq, hv'⟩
  clear hq
  rw [hv.out] at hv'
  cases hv'
  clear hv
  replace sx := sx.keep kq
  replace sy := sy.keep kq
  replace HB0 := HB0.keep kq
  replace t1 := t1.keep kq
  replace t2 := t2.keep kq
  replace HI3 := HI3.keep kq
  replace r3 := r3.keep kq
  replace kk := kk.trans kq
  clear kq
  have hq := saysK (sameInts A3 A4 L.length c4 L L w4 r3 r4 (by unfold Reach; omega) (by unfold Reach; omega))
  rw [decide_eq_true rfl] at hq
  go_wp2_with fail
  refine hq.mono ?_
  rintro e w5 ⟨rfl, kq⟩
  clear hq
  replace sx := sx.keep kq
  replace sy := sy.keep kq
  replace HB0 := HB0.keep kq
  replace t1 := t1.keep kq
  replace t2 := t2.keep kq
  replace HI3 := HI3.keep kq
  replace r3 := r3.keep kq
  replace r4 := r4.keep kq
  replace kk := kk.trans kq
  clear kq
  have hq := leftInts_f A1 A c1 c xs w.heap.size w5 t1 sx.rd (by omega)
  go_wp2_with fail
  refine hq.mono ?_
  rintro e w6 ⟨rfl, kq⟩
  clear hq
  replace sx := sx.keep kq
  replace sy := sy.keep kq
  replace HB0 := HB0.keep kq
  replace t1 := t1.keep kq
  replace t2 := t2.keep kq
  replace HI3 := HI3.keep kq
  replace r3 := r3.keep kq
  replace r4 := r4.keep kq
  replace kk := kk.trans kq
  clear kq
  have hq := leftInts_f A2 B c2 d ys w.heap.size w6 t2 sy.rd (by omega)
  go_wp2_with fail
  refine hq.mono ?_
  rintro e w7 ⟨rfl, kq⟩
  clear hq
  replace sx := sx.keep kq
  replace sy := sy.keep kq
  replace HB0 := HB0.keep kq
  replace t1 := t1.keep kq
  replace t2 := t2.keep kq
  replace HI3 := HI3.keep kq
  replace r3 := r3.keep kq
  replace r4 := r4.keep kq
  replace kk := kk.trans kq
  clear kq
  clear t1 t2 r3 r4 sx sy
  go_upto_region 10 with fail
  have hK := Bk.new w7
  have k0 : Keep w7 (w7.alloc (.cells #[.int .i64 0, .slice none 0 0, .slice none 0 0, .slice none 0 0, .slice none 0 0, .slice none 0 0, .slice none 0 0, .slice none 0 0, .slice none 0 0, .slice none 0 0] 44)) := Keep.alloc1 _ _
  generalize w7.alloc (.cells #[.int .i64 0, .slice none 0 0, .slice none 0 0, .slice none 0 0, .slice none 0 0, .slice none 0 0, .slice none 0 0, .slice none 0 0, .slice none 0 0, .slice none 0 0] 44) = v0 at hK k0 ⊢
  have hq := bookInts_f w7.heap.size 0 w7.heap.size _ _ _ _ A1 xs.length c1 v0 hK (by decide) (by simp)
  unfold pK at hq
  go_wp2_with fail
  refine hq.mono ?_
  rintro e v1 ⟨rfl, x1, hK1, t1⟩
  replace k0 := hK.stepI k0 t1
  clear hK hq t1
  have hK := hK1
  clear hK1
  have hq := bookInts_f w7.heap.size 1 w7.heap.size _ _ _ _ A2 ys.length c2 v1 hK (by decide) (by simp)
  unfold pK at hq
  go_wp2_with fail
  refine hq.mono ?_
  rintro e v2 ⟨rfl, x2, hK1, t2⟩
  replace k0 := hK.stepI k0 t2
  clear hK hq t2
  have hK := hK1
  clear hK1
  have hq := bookInts_f w7.heap.size 2 w7.heap.size _ _ _ _ A3 L.length L.length v2 hK (by decide) (by simp)
  unfold pK at hq
  go_wp2_with fail
  refine hq.mono ?_
  rintro e v3 ⟨rfl, x3, hK1, t3⟩
  replace k0 := hK.stepI k0 t3
  clear hK hq t3
  have hK := hK1
  clear hK1
  have hH := Holds.of (HB0.keep k0) (HI3.keep k0) (by simp) (by simp)
  have hq := apart_f w7.heap.size 3 w.heap.size _ _ _ _ v3 (hK.mono kk.size) hH
  unfold pK at hq
  go_wp2_with fail
  refine hq.mono ?_
  rintro e v4 ⟨rfl, t4⟩
  go_wp2_with fail
  go_ret
  exact ⟨rfl, (kk.trans k0).but t4 fun i h => h⟩
end Go.Proofs.YtafiahnaeakcfaaDoor
