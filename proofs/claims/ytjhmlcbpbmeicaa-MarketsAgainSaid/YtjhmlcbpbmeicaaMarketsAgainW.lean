/-
  THE WALK OF THE LAW MarketsAgain: it answers true, and turns nothing that was there. Conditions: the argument is a slice of bytes that came in.
-/
import Derived.Test.YtjhmlcbpbmeicaaMktS
namespace Go.Proofs.Ytjhmlcbpbmeicaa
open Go.RowKit

set_option maxRecDepth 100000 in
set_option maxHeartbeats 4000000 in
theorem marketsAgain_w (A : Option Addr) (c : Nat) (xs : List Int) (w : World) (hx : In .u8 w A c xs) :
    Calls Try.prog 13 #[.slice A xs.length c] w fun e w' => e = .returned (.bool true) ∧ Below w.heap.size w w' := by
  have lx := hx.len
  have lc : Len c := by
    have := hx.max
    unfold maxLen at this
    unfold Len
    omega
  have hb := hx.bytes
  by_cases hbig : 5000 < xs.length
  · have hbi : (5000 : Int) < xs.length := by omega
    go_enter Try.func13, Try.ntmps13
    go_wp2_with fail
    refine (alive05_f w).mono ?_
    rintro e w1 ⟨rfl, k1⟩
    go_wp2_with fail
    go_ret
    exact ⟨rfl, k1⟩
  · have hbi : ((5000 : Int) < xs.length) = False := eq_false (by omega)
    have hbd : decide ((5000 : Int) < xs.length) = false := decide_eq_false (by omega)
    cases hg : g4 xs with
    | none =>
      have hq := getM_short A c xs.length xs w hx.rd hb rfl hx.cap lc hg
      clear hg
      go_enter Try.func13, Try.ntmps13
      go_wp2_with fail
      refine hq.mono ?_
      rintro e w1 ⟨rfl, k1⟩
      have bN := Blk.new w1 62 [nilS, nilS, nilS]
      have kk : Keep w (w1.alloc (.cells #[nilS, nilS, nilS] 62)) := k1.trans (Keep.alloc1 _ _)
      have ha := alive05_f (w1.alloc (.cells #[nilS, nilS, nilS] 62))
      go_wp2_with fail
      refine ha.mono ?_
      rintro e w2 ⟨rfl, k2⟩
      have c1 := (bN.keep k2).cell_ (i := 1) rfl
      go_wp2_with fail
      go_ret
      exact ⟨rfl, kk.trans k2⟩
    | some q =>
      obtain ⟨R, bl, O, rest⟩ := q
      by_cases hk : rest = [] ∧ chkM R bl O = true
      · obtain ⟨rfl, hk⟩ := hk
        obtain ⟨e1, f1, f2, f3, f4⟩ := g4_back hb hg
        have hq := getM_yes A c xs.length xs w hx.rd hb rfl hx.cap lc hg hk
        rw [List.append_nil, ← putM_few hk] at e1
        have HX := Lib.hid e1
        have HC := Lib.hid hk
        clear hg e1 f1 f2 f3 f4 hk
        go_enter Try.func13, Try.ntmps13
        go_wp2_with fail
        refine hq.mono ?_
        rintro e w1 ⟨N, rfl, hN, n1, n2, n3, _, kk⟩
        have hck : chkM N.r.l (bidsOf N.bs) N.o.l = true := by rw [n1, n2, n3]; exact HC.out
        have hpx : putM N.r.l (bidsOf N.bs) N.o.l = xs := by rw [n1, n2, n3]; exact HX.out.symm
        have HCK := Lib.hid hck
        have HPX := Lib.hid hpx
        clear n1 n2 n3 hq hck hpx
        unfold Mkt.val
        go_upto_region 4 with fail
        have bN := Blk.new w1 62 [.slice N.r.a N.r.l.length N.r.c, .slice N.ba N.bs.length N.bc, .slice N.o.a N.o.l.length N.o.c]
        have kn : Keep w1 (w1.alloc (.cells #[.slice N.r.a N.r.l.length N.r.c, .slice N.ba N.bs.length N.bc, .slice N.o.a N.o.l.length N.o.c] 62)) := Keep.alloc1 _ _
        change Code.wp _ _ _ _ (w1.alloc (.cells #[.slice N.r.a N.r.l.length N.r.c, .slice N.ba N.bs.length N.bc, .slice N.o.a N.o.l.length N.o.c] 62))
        generalize w1.alloc (.cells #[.slice N.r.a N.r.l.length N.r.c, .slice N.ba N.bs.length N.bc, .slice N.o.a N.o.l.length N.o.c] 62) = w2 at bN kn ⊢
        generalize w1.heap.size = gbN at bN ⊢
        replace hN := hN.keep kn
        replace kk := kk.trans kn
        clear kn
        have c0 := bN.cell_ (i := 0) rfl
        have c1 := bN.cell_ (i := 1) rfl
        have c2 := bN.cell_ (i := 2) rfl
        have hq := mput_yes N w2 hN HCK.out
        unfold Mkt.val at hq
        go_wp2_with fail
        refine hq.mono ?_
        rintro e w3 ⟨A3, n3, hn3, rfl, f3, kq⟩
        rw [HPX.out] at f3 hn3
        subst hn3
        clear hq
        replace hN := hN.keep kq
        replace bN := bN.keep kq
        replace kk := kk.trans kq
        clear kq
        clear c0 c1 c2
        have r3 := f3.rd
        clear f3
        have ha := alive05_f w3
        go_wp2_with fail
        refine ha.mono ?_
        rintro e w4 ⟨rfl, kq⟩
        clear ha
        replace hN := hN.keep kq
        replace bN := bN.keep kq
        replace r3 := r3.keep kq
        replace kk := kk.trans kq
        clear kq
        have c0 := bN.cell_ (i := 0) rfl
        have c1 := bN.cell_ (i := 1) rfl
        have c2 := bN.cell_ (i := 2) rfl
        have hq := mcheck_f N w4 hN
        rw [HCK.out] at hq
        unfold Mkt.val at hq
        go_wp2_with fail
        refine hq.mono ?_
        rintro e w5 ⟨rfl, kq⟩
        clear hq
        replace hN := hN.keep kq
        replace bN := bN.keep kq
        replace r3 := r3.keep kq
        replace kk := kk.trans kq
        clear kq
        clear c0 c1 c2
        have hs := sameBytes A A3 c xs.length xs xs w5 (hx.rd.keep kk) r3 (by unfold Reach; omega) (by unfold Reach; omega)
        rw [show decide (xs = xs) = true from decide_eq_true rfl] at hs
        replace hs := hs.mono (fun _ _ h => h.keep)
        go_wp2_with fail
        refine hs.mono ?_
        rintro e w6 ⟨rfl, kq⟩
        replace hN := hN.keep kq
        replace bN := bN.keep kq
        replace r3 := r3.keep kq
        replace kk := kk.trans kq
        clear kq
        go_wp2_with fail
        go_ret
        exact ⟨rfl, kk⟩
      · have hq := getM_form A c xs.length xs w hx.rd hb rfl hx.cap lc hg hk
        clear hg hk
        go_enter Try.func13, Try.ntmps13
        go_wp2_with fail
        refine hq.mono ?_
        rintro e w1 ⟨rfl, k1⟩
        have bN := Blk.new w1 62 [nilS, nilS, nilS]
        have kk : Keep w (w1.alloc (.cells #[nilS, nilS, nilS] 62)) := k1.trans (Keep.alloc1 _ _)
        have ha := alive05_f (w1.alloc (.cells #[nilS, nilS, nilS] 62))
        go_wp2_with fail
        refine ha.mono ?_
        rintro e w2 ⟨rfl, k2⟩
        have c1 := (bN.keep k2).cell_ (i := 1) rfl
        go_wp2_with fail
        go_ret
        exact ⟨rfl, kk.trans k2⟩
end Go.Proofs.Ytjhmlcbpbmeicaa
