/-
  THE WALK OF THE 7 MarketsGet: it answers true, and turns nothing that was there. Conditions: the argument is a slice of bytes that came in.
-/
import Derived.Test.YtafiahnaeakcfaaDoorMktZ
import Derived.Test.YtafiahnaeakcfaaDoorLeft
namespace Go.Proofs.YtafiahnaeakcfaaDoor
open Go.RowKit

set_option maxRecDepth 100000 in
set_option maxHeartbeats 8000000 in
theorem marketsGet_w (A : Option Addr) (c : Nat) (xs : List Int) (w : World) (hx : In .u8 w A c xs) (hxn : A = none → c = 0) :
    Calls Tryd.prog 7 #[.slice A xs.length c] w fun e w' => e = .returned (.bool true) ∧ Below w.heap.size w w' := by
  have lx := hx.len
  by_cases h1 : 5000 < xs.length
  · have z1 : (5000 : Int) < xs.length := by omega
    go_enter Tryd.func7, Tryd.ntmps7
    go_wp2_with fail
    go_ret
    exact ⟨rfl, Keep.refl _⟩
  have sx : Sl.Ok .u8 w ⟨A, c, xs⟩ := ⟨hx, hxn⟩
  have kk : Keep w w := Keep.refl _
  have z1 : ((5000 : Int) < xs.length) = False := eq_false (by omega)
  have z2 : decide ((5000 : Int) < xs.length) = false := decide_eq_false (by omega)
  have lx7 : xs.length ≤ 5000 := by omega
  have lcc : Len c := by have := hx.capI; unfold Len; omega
  have hxb := hx.bytes
  have hxc := hx.cap
  obtain ⟨v, r, hV⟩ : ∃ v r, getMV xs = (v, r) := ⟨_, _, rfl⟩
  replace hV := Lib.hid hV
  clear h1 hx
  go_enter Tryd.func7, Tryd.ntmps7
  have HB0 := Held.nil 5 (w) w.heap.size
  have HI0 := Held.nil 3 (w) w.heap.size
  have hq := twinBytes_f ⟨A, c, xs⟩ w sx (by show xs.length ≤ _; omega)
  go_wp2_with fail
  refine hq.mono ?_
  rintro e w1 ⟨A1, c1, rfl, t1, kq⟩
  clear hq
  have HB1 := HB0.snoc kq kk.size (TwinB.fr t1) 1 (by decide) (by show xs.length ≤ _; omega)
  clear HB0
  replace sx := sx.keep kq
  replace HI0 := HI0.keep kq
  replace t1 : TwinB w1 w.heap.size ⟨A1, c1, xs⟩ := Fr.mono t1 kk.size
  replace kk := kk.trans kq
  clear kq
  have lc1 : Len c1 := lenMax (Fr.capMax t1)
  have hc1 : xs.length ≤ c1 := Fr.cap (TwinB.fr t1)
  clear HI0
  have hq := getM_u A1 c1 xs w1 (TwinB.fr t1).rd hxb hc1 lc1 hV.out
  go_wp2_with fail
  refine hq.mono ?_
  rintro e w2 ⟨N, rfl, ok1, e1, few1, len1, own1, kq⟩
  clear hq
  replace e1 := Lib.hid e1
  unfold Mkt.val
  replace sx := sx.keep kq
  replace HB1 := HB1.keep kq
  replace t1 := t1.keep kq
  replace own1 := own1.mono kk.size
  replace kk := kk.trans kq
  clear kq
  go_upto_region 5 with fail
  have kq : Keep w2 (w2.alloc (.cells #[.slice N.r.a N.r.l.length N.r.c, .slice N.ba N.bs.length N.bc, .slice N.o.a N.o.l.length N.o.c] 66)) := Keep.alloc1 _ _
  have b1 := Blk.new w2 66 [.slice N.r.a N.r.l.length N.r.c, .slice N.ba N.bs.length N.bc, .slice N.o.a N.o.l.length N.o.c]
  change Code.wp _ _ _ _ (w2.alloc (.cells #[.slice N.r.a N.r.l.length N.r.c, .slice N.ba N.bs.length N.bc, .slice N.o.a N.o.l.length N.o.c] 66))
  generalize hwd : (w2.alloc (.cells #[.slice N.r.a N.r.l.length N.r.c, .slice N.ba N.bs.length N.bc, .slice N.o.a N.o.l.length N.o.c] 66)) = w3 at kq b1 ⊢
  clear hwd
  generalize w2.heap.size = g1 at b1 ⊢
  replace sx := sx.keep kq
  replace HB1 := HB1.keep kq
  replace t1 := t1.keep kq
  replace ok1 := ok1.keep kq
  replace own1 := own1.keep kq
  replace kk := kk.trans kq
  clear kq
  have hq := refGetM_u A c xs w3 sx.rd hxb hxc lcc hV.out
  go_wp2_with fail
  refine hq.mono ?_
  rintro e w4 ⟨K, rfl, ok2, e2, few2, kq⟩
  clear hq
  replace e2 := Lib.hid e2
  unfold Mkt.val
  replace sx := sx.keep kq
  replace HB1 := HB1.keep kq
  replace t1 := t1.keep kq
  replace ok1 := ok1.keep kq
  replace own1 := own1.keep kq
  replace b1 := b1.keep kq
  replace kk := kk.trans kq
  clear kq
  go_upto_region 6 with fail
  have kq : Keep w4 (w4.alloc (.cells #[.slice K.r.a K.r.l.length K.r.c, .slice K.ba K.bs.length K.bc, .slice K.o.a K.o.l.length K.o.c] 66)) := Keep.alloc1 _ _
  have b2 := Blk.new w4 66 [.slice K.r.a K.r.l.length K.r.c, .slice K.ba K.bs.length K.bc, .slice K.o.a K.o.l.length K.o.c]
  change Code.wp _ _ _ _ (w4.alloc (.cells #[.slice K.r.a K.r.l.length K.r.c, .slice K.ba K.bs.length K.bc, .slice K.o.a K.o.l.length K.o.c] 66))
  generalize hwd : (w4.alloc (.cells #[.slice K.r.a K.r.l.length K.r.c, .slice K.ba K.bs.length K.bc, .slice K.o.a K.o.l.length K.o.c] 66)) = w5 at kq b2 ⊢
  clear hwd
  generalize w4.heap.size = g2 at b2 ⊢
  replace sx := sx.keep kq
  replace HB1 := HB1.keep kq
  replace t1 := t1.keep kq
  replace ok1 := ok1.keep kq
  replace own1 := own1.keep kq
  replace b1 := b1.keep kq
  replace ok2 := ok2.keep kq
  replace kk := kk.trans kq
  clear kq
  have p0 := b1.cell_ (i := 0) rfl
  have p1 := b1.cell_ (i := 1) rfl
  have p2 := b1.cell_ (i := 2) rfl
  have q0 := b2.cell_ (i := 0) rfl
  have q1 := b2.cell_ (i := 1) rfl
  have q2 := b2.cell_ (i := 2) rfl
  have hq := sameMarket_f N K w5 ok1 ok2 few1 few2
  rw [sameM_of (e1.out.trans e2.out.symm)] at hq
  unfold Mkt.val at hq
  go_wp2_with fail
  refine hq.mono ?_
  rintro e w6 ⟨rfl, kq⟩
  clear hq
  replace sx := sx.keep kq
  replace HB1 := HB1.keep kq
  replace t1 := t1.keep kq
  replace ok1 := ok1.keep kq
  replace own1 := own1.keep kq
  replace b1 := b1.keep kq
  replace ok2 := ok2.keep kq
  replace b2 := b2.keep kq
  replace kk := kk.trans kq
  clear kq
  have hq := leftBytes_f A1 A c1 c xs w.heap.size w6 t1 sx.rd (by omega)
  go_wp2_with fail
  refine hq.mono ?_
  rintro e w7 ⟨rfl, kq⟩
  clear hq
  replace sx := sx.keep kq
  replace HB1 := HB1.keep kq
  replace t1 := t1.keep kq
  replace ok1 := ok1.keep kq
  replace own1 := own1.keep kq
  replace b1 := b1.keep kq
  replace ok2 := ok2.keep kq
  replace b2 := b2.keep kq
  replace kk := kk.trans kq
  clear kq
  clear t1 sx ok1 ok2 b2 p0 p1 p2 q0 q1 q2 few2 e2 e1
  go_upto_region 9 with fail
  have hK := BkL.new w7
  have k0 : Keep w7 (w7.alloc (.cells #[.int .i64 0, .slice none 0 0, .slice none 0 0, .slice none 0 0, .slice none 0 0, .slice none 0 0, .slice none 0 0, .slice none 0 0, .slice none 0 0, .slice none 0 0] 44)) := Keep.alloc1 _ _
  generalize w7.alloc (.cells #[.int .i64 0, .slice none 0 0, .slice none 0 0, .slice none 0 0, .slice none 0 0, .slice none 0 0, .slice none 0 0, .slice none 0 0, .slice none 0 0, .slice none 0 0] 44) = v0 at hK k0 ⊢
  have hq := bookBytesL_f w7.heap.size 0 w7.heap.size _ _ _ _ _ _ A1 xs.length c1 v0 hK (by decide) (by simp)
  unfold pK at hq
  go_wp2_with fail
  refine hq.mono ?_
  rintro e v1 ⟨rfl, x1, hK1, tb⟩
  replace k0 := hK.stepB k0 tb
  clear hK hq tb
  have hb3 := b1.keep k0
  have p0 := hb3.cell_ (i := 0) rfl
  have p1 := hb3.cell_ (i := 1) rfl
  have p2 := hb3.cell_ (i := 2) rfl
  have hq := bookMarketL_f w7.heap.size 1 _ _ _ _ _ _ N w7 v1 hK1 k0 own1.b.rd (by omega) (by simp; omega) (by simp)
  unfold pK Mkt.val at hq
  go_wp2_with fail
  refine hq.mono ?_
  rintro e v2 ⟨rfl, ⟨x2, x3, hK2⟩, k2⟩
  clear hK1 hq k0 hb3 p0 p1 p2
  have hI := (own1.held few1 (n := 1) (by omega)).keep k2
  have hLL := Held.one (m := 1 + N.bs.length + 2) (own1.b.keep k2) (by omega) (by omega)
  have hH := HoldsL.of (HB1.keep k2) hI hLL (by simp) (by unfold Mkt.hds; simp [length_hdsOf]; omega) (by simp)
  have hq := apartL_f w7.heap.size _ w.heap.size _ _ _ _ _ _ v2 (hK2.mono kk.size) hH
  unfold pK at hq
  go_wp2_with fail
  refine hq.mono ?_
  rintro e v3 ⟨rfl, t3⟩
  go_wp2_with fail
  go_ret
  exact ⟨rfl, (kk.trans k2).but t3 fun i h => h⟩
end Go.Proofs.YtafiahnaeakcfaaDoor
