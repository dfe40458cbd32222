/-
  CONTRACT for the package frames: GetReply. Conditions: the bytes read as a list.
-/
import Derived.Test.YtnjjeanbopclhaaGreatDoorFrmI
import Derived.Test.YtnjjeanbopclhaaGreatDoorFrmJ
import Derived.Test.YtnjjeanbopclhaaGreatDoorFrmC
namespace Go.Proofs.YtnjjeanbopclhaaGreatDoor
open Go.RowKit

/-- What GetReply answers. -/
def GetRP (f : RV) (r : Int) (w : World) (e : Ending) (w' : World) : Prop :=
  ∃ ba ca, e = .returned (.tuple #[(Rpl.mk f ba f.bid.length ca f.cert.length).val, .int .i64 r]) ∧ (Rpl.mk f ba f.bid.length ca f.cert.length).Ok w' ∧ Fr 3 w' w.heap.size ba f.bid.length f.bid.length (cs .i64 f.bid) ∧ Fr 5 w' w.heap.size ca f.cert.length f.cert.length (cs .u8 f.cert) ∧ Keep w w'
theorem zeroR_ok (w w' : World) (k : Keep w w') (r : Int) : GetRP zeroR r w (.returned (.tuple #[.agg #[.int .i64 0, .int .u32 0, .int .u64 0, .int .u8 0, .int .u64 0, .bool false, .slice none 0 0, .int .i64 0, .int .i64 0, .slice none 0 0], .int .i64 r])) w' := by
  refine ⟨none, none, rfl, ⟨⟨⟨Rd.nil _ _, Nat.le_refl _, Nat.zero_le _, fun x h => by cases h⟩, fun _ => rfl⟩, ⟨⟨Rd.nil _ _, Nat.le_refl _, Nat.zero_le _, fun x h => by cases h⟩, fun _ => rfl⟩, by decide, by decide, by decide, by decide, by decide, by decide, by decide⟩, Fr.empty _ _ _ _, Fr.empty _ _ _ _, k⟩
theorem readR_facts {xs rest : List Int} {x : RV} {n : Nat} (hb : Bytes xs) (h : readR xs = some (x, n, rest)) : (-1 ≤ x.item ∧ x.item < 255) ∧ Bytes x.cert ∧ x.has = (n == 1) ∧ n < 256 := by
  unfold readR at h
  obtain ⟨⟨a, x1⟩, e1, h⟩ := Option.bind_eq_some_iff.1 h
  obtain ⟨⟨b, x2⟩, e2, h⟩ := Option.bind_eq_some_iff.1 h
  obtain ⟨⟨c, x3⟩, e3, h⟩ := Option.bind_eq_some_iff.1 h
  obtain ⟨⟨d, x4⟩, e4, h⟩ := Option.bind_eq_some_iff.1 h
  obtain ⟨⟨t, x5⟩, e5, h⟩ := Option.bind_eq_some_iff.1 h
  obtain ⟨⟨m, x6⟩, e6, h⟩ := Option.bind_eq_some_iff.1 h
  obtain ⟨⟨l, x7⟩, e7, h⟩ := Option.bind_eq_some_iff.1 h
  obtain ⟨⟨i, x8⟩, e8, h⟩ := Option.bind_eq_some_iff.1 h
  obtain ⟨⟨p, x9⟩, e9, h⟩ := Option.bind_eq_some_iff.1 h
  obtain ⟨⟨s, x10⟩, e10, h⟩ := Option.bind_eq_some_iff.1 h
  cases h
  have y5 := (rdN_some (rdN_some (rdN_some (rdN_some (rdN_some hb e1).2.2.1 e2).2.2.1 e3).2.2.1 e4).2.2.1 e5).2.2.1
  obtain ⟨-, q6, b6, -⟩ := rdN_some y5 e6
  obtain ⟨-, -, -, b7, -⟩ := rdL_some b6 e7
  obtain ⟨-, q8, b8, -⟩ := rdN_some b7 e8
  obtain ⟨-, -, b9, -⟩ := rdN_some b8 e9
  refine ⟨?_, rdB_bytes b9 e10, rfl, by simpa using q6⟩
  have hi : i < 256 := by simpa using q8
  show -1 ≤ itemV i ∧ itemV i < 255
  unfold itemV
  split <;> omega

set_option maxRecDepth 100000 in
set_option maxHeartbeats 8000000 in
theorem getR_f (A : Option Addr) (c : Nat) (xs : List Int) (w : World) (rd : Rd w A (cs .u8 xs)) (hB : Bytes xs) (hc : xs.length ≤ c) (lc : Len c) {f : RV} {r : Int} (hv : getRV xs = (f, r)) :
    Calls Tryz.prog 22 #[.slice A xs.length c] w (GetRP f r w) := by
  have lc' := lc.le
  have k1 : Keep w (w.alloc (.cells #[.int .i64 0, .int .u32 0, .int .u64 0, .int .u8 0, .int .u64 0, .bool false, .slice none 0 0, .int .i64 0, .int .i64 0, .slice none 0 0] 32)) := Keep.alloc1 _ _
  have b1 := Blk.new w 32 [.int .i64 0, .int .u32 0, .int .u64 0, .int .u8 0, .int .u64 0, .bool false, .slice none 0 0, .int .i64 0, .int .i64 0, .slice none 0 0]
  have s1 : (w.alloc (.cells #[.int .i64 0, .int .u32 0, .int .u64 0, .int .u8 0, .int .u64 0, .bool false, .slice none 0 0, .int .i64 0, .int .i64 0, .slice none 0 0] 32)).heap.size = w.heap.size + 1 := Deep.nblk_alloc _ _
  have kH := Keep.alloc1 (w.alloc (.cells #[.int .i64 0, .int .u32 0, .int .u64 0, .int .u8 0, .int .u64 0, .bool false, .slice none 0 0, .int .i64 0, .int .i64 0, .slice none 0 0] 32)) (.cells #[.int .u64 0] 24)
  have bh := Blk.new (w.alloc (.cells #[.int .i64 0, .int .u32 0, .int .u64 0, .int .u8 0, .int .u64 0, .bool false, .slice none 0 0, .int .i64 0, .int .i64 0, .slice none 0 0] 32)) 24 [.int .u64 0]
  rw [s1] at bh
  have hq := wholeR_f w _ (k1.trans kH) w.heap.size (w.heap.size + 1) A c xs (Nat.le_refl _) (by omega) (by omega) rd hB hc lc (b1.keep kH) bh
  have NB : w.heap.size < ((w.alloc (.cells #[.int .i64 0, .int .u32 0, .int .u64 0, .int .u8 0, .int .u64 0, .bool false, .slice none 0 0, .int .i64 0, .int .i64 0, .slice none 0 0] 32)).alloc (.cells #[.int .u64 0] 24)).heap.size := (b1.keep kH).lt
  replace NB := Lib.hid NB
  have hgh := bh.cell_ (i := 0) rfl
  have fgh := bh.frozen 0
  clear bh s1
  by_cases h256 : 4096 < xs.length
  · have z1 : decide ((4096 : Int) < xs.length) = true := decide_eq_true (by omega)
    have z2 : (4096 < xs.length) = True := eq_true h256
    have e1 : getRV xs = (zeroR, 3) := by unfold getRV; rw [if_pos h256]
    rw [e1] at hv
    cases hv
    clear e1 hq h256 hgh fgh
    have kz := k1
    have c0 := b1.cell_ (i := 0) rfl
    have f0 := b1.frozen 0
    have c1 := b1.cell_ (i := 1) rfl
    have f1 := b1.frozen 1
    have c2 := b1.cell_ (i := 2) rfl
    have f2 := b1.frozen 2
    have c3 := b1.cell_ (i := 3) rfl
    have f3 := b1.frozen 3
    have c4 := b1.cell_ (i := 4) rfl
    have f4 := b1.frozen 4
    have c5 := b1.cell_ (i := 5) rfl
    have f5 := b1.frozen 5
    have c6 := b1.cell_ (i := 6) rfl
    have f6 := b1.frozen 6
    have c7 := b1.cell_ (i := 7) rfl
    have f7 := b1.frozen 7
    have c8 := b1.cell_ (i := 8) rfl
    have f8 := b1.frozen 8
    have c9 := b1.cell_ (i := 9) rfl
    have f9 := b1.frozen 9
    go_enter Tryz.func22, Tryz.ntmps22
    go_wp2_with fail
    have d0 := b1.cell_ (i := 0) rfl
    have d1 := b1.cell_ (i := 1) rfl
    have d2 := b1.cell_ (i := 2) rfl
    have d3 := b1.cell_ (i := 3) rfl
    have d4 := b1.cell_ (i := 4) rfl
    have d5 := b1.cell_ (i := 5) rfl
    have d6 := b1.cell_ (i := 6) rfl
    have d7 := b1.cell_ (i := 7) rfl
    have d8 := b1.cell_ (i := 8) rfl
    have d9 := b1.cell_ (i := 9) rfl
    refine bodyPost_ret (v := .tuple #[.agg #[.int .i64 0, .int .u32 0, .int .u64 0, .int .u8 0, .int .u64 0, .bool false, .slice none 0 0, .int .i64 0, .int .i64 0, .slice none 0 0], .int .i64 3]) (by simp [results, Tryz.results22, go_sem, d0, d1, d2, d3, d4, d5, d6, d7, d8, d9]) rfl ?_
    exact zeroR_ok _ _ kz _
  · have z1 : decide ((4096 : Int) < xs.length) = false := decide_eq_false (by omega)
    have z2 : (4096 < xs.length) = False := eq_false h256
    have HV := Lib.hid hv
    have hB0 := Lib.hid hB
    have H256 := Lib.hid h256
    clear hv h256 hB
    go_enter Tryz.func22, Tryz.ntmps22
    go_wp2_with fail
    refine hq.mono ?_
    intro e w2 hp
    clear hq hgh fgh
    unfold WholeR at hp
    obtain ⟨tg, kw, hp⟩ := hp
    have kz := kw
    cases hx : readR xs with
    | none =>
      have e1 : getRV xs = (zeroR, 4) := by unfold getRV; rw [if_neg H256.out, hx]
      rw [hx] at hp
      obtain ⟨rfl, ⟨L, hL, bL⟩, nh, bH⟩ := hp
      obtain ⟨l0, l1, l2, l3, l4, l5, l6, l7, l8, l9, rfl⟩ : ∃ l0 l1 l2 l3 l4 l5 l6 l7 l8 l9, L = [l0, l1, l2, l3, l4, l5, l6, l7, l8, l9] := by
        match L, hL with
        | [l0, l1, l2, l3, l4, l5, l6, l7, l8, l9], _ => exact ⟨_, _, _, _, _, _, _, _, _, _, rfl⟩
      clear hx hL
      have E1 := Lib.hid e1
      clear e1
      obtain ⟨z, hz⟩ : ∃ z, ((nh : Int) == 1) = z := ⟨_, rfl⟩
      have cH := bH.cell_ (i := 0) rfl
      have c5 := bL.cell_ (i := 5) rfl
      have f5 := bL.frozen 5
      go_upto_region 6 with fail
      replace bL := bL.set_ 5 (.bool z)
      replace bH := bH.far (p := ⟨w.heap.size, 5, none⟩) (by show w.heap.size ≠ w.heap.size + 1; omega) (.bool z)
      replace kz := kz.setCell (p := ⟨w.heap.size, 5, none⟩) (Nat.le_refl _) (.bool z)
      clear cH c5 f5
      generalize World.setCell _ _ _ = w4 at bL bH kz  ⊢
      replace bL : Blk w4 w.heap.size 32 [l0, l1, l2, l3, l4, .bool z, l6, l7, l8, l9] := bL
      have cH := bH.cell_ (i := 0) rfl
      have c0 := bL.cell_ (i := 0) rfl
      have f0 := bL.frozen 0
      have c1 := bL.cell_ (i := 1) rfl
      have f1 := bL.frozen 1
      have c2 := bL.cell_ (i := 2) rfl
      have f2 := bL.frozen 2
      have c3 := bL.cell_ (i := 3) rfl
      have f3 := bL.frozen 3
      have c4 := bL.cell_ (i := 4) rfl
      have f4 := bL.frozen 4
      have c5 := bL.cell_ (i := 5) rfl
      have f5 := bL.frozen 5
      have c6 := bL.cell_ (i := 6) rfl
      have f6 := bL.frozen 6
      have c7 := bL.cell_ (i := 7) rfl
      have f7 := bL.frozen 7
      have c8 := bL.cell_ (i := 8) rfl
      have f8 := bL.frozen 8
      have c9 := bL.cell_ (i := 9) rfl
      have f9 := bL.frozen 9
      go_wp2_with fail
      replace bL := bL.set_ 0 (.int .i64 0)
      replace kz := kz.setCell (p := ⟨w.heap.size, 0, none⟩) (Nat.le_refl _) (.int .i64 0)
      replace bL := bL.set_ 1 (.int .u32 0)
      replace kz := kz.setCell (p := ⟨w.heap.size, 1, none⟩) (Nat.le_refl _) (.int .u32 0)
      replace bL := bL.set_ 2 (.int .u64 0)
      replace kz := kz.setCell (p := ⟨w.heap.size, 2, none⟩) (Nat.le_refl _) (.int .u64 0)
      replace bL := bL.set_ 3 (.int .u8 0)
      replace kz := kz.setCell (p := ⟨w.heap.size, 3, none⟩) (Nat.le_refl _) (.int .u8 0)
      replace bL := bL.set_ 4 (.int .u64 0)
      replace kz := kz.setCell (p := ⟨w.heap.size, 4, none⟩) (Nat.le_refl _) (.int .u64 0)
      replace bL := bL.set_ 5 (.bool false)
      replace kz := kz.setCell (p := ⟨w.heap.size, 5, none⟩) (Nat.le_refl _) (.bool false)
      replace bL := bL.set_ 6 (.slice none 0 0)
      replace kz := kz.setCell (p := ⟨w.heap.size, 6, none⟩) (Nat.le_refl _) (.slice none 0 0)
      replace bL := bL.set_ 7 (.int .i64 0)
      replace kz := kz.setCell (p := ⟨w.heap.size, 7, none⟩) (Nat.le_refl _) (.int .i64 0)
      replace bL := bL.set_ 8 (.int .i64 0)
      replace kz := kz.setCell (p := ⟨w.heap.size, 8, none⟩) (Nat.le_refl _) (.int .i64 0)
      replace bL := bL.set_ 9 (.slice none 0 0)
      replace kz := kz.setCell (p := ⟨w.heap.size, 9, none⟩) (Nat.le_refl _) (.slice none 0 0)
      generalize World.setCell _ _ _ = wz at bL kz  ⊢
      replace bL : Blk wz w.heap.size 32 [.int .i64 0, .int .u32 0, .int .u64 0, .int .u8 0, .int .u64 0, .bool false, .slice none 0 0, .int .i64 0, .int .i64 0, .slice none 0 0] := bL
      have d0 := bL.cell_ (i := 0) rfl
      have d1 := bL.cell_ (i := 1) rfl
      have d2 := bL.cell_ (i := 2) rfl
      have d3 := bL.cell_ (i := 3) rfl
      have d4 := bL.cell_ (i := 4) rfl
      have d5 := bL.cell_ (i := 5) rfl
      have d6 := bL.cell_ (i := 6) rfl
      have d7 := bL.cell_ (i := 7) rfl
      have d8 := bL.cell_ (i := 8) rfl
      have d9 := bL.cell_ (i := 9) rfl
      refine bodyPost_ret (v := .tuple #[.agg #[.int .i64 0, .int .u32 0, .int .u64 0, .int .u8 0, .int .u64 0, .bool false, .slice none 0 0, .int .i64 0, .int .i64 0, .slice none 0 0], .int .i64 4]) (by simp [results, Tryz.results22, go_sem, d0, d1, d2, d3, d4, d5, d6, d7, d8, d9]) rfl ?_
      have e2 := HV.out
      rw [E1.out] at e2
      cases e2
      exact zeroR_ok _ _ kz _
    | some q =>
      rw [hx] at hp
      obtain ⟨⟨e, seq, tok, ph, tm, has, bid, item, pays, cert⟩, nh, rest⟩ := q
      obtain ⟨rfl, ba, ca, bL, F1, F2, bH⟩ := hp
      simp only at bL F1 F2 bH
      obtain ⟨hI, hC, hH, hn⟩ := readR_facts hB0.out hx
      simp only at hI hC hH
      have hz : ((nh : Int) == 1) = has := by
        rw [hH]
        by_cases h : nh = 1
        · subst h
          rfl
        · rw [beq_eq_false_iff_ne.2 h, beq_eq_false_iff_ne.2 (by omega)]
      have GS := Lib.hid (And.intro hI hC)
      clear hI hC hH hn
      have HX := Lib.hid hx
      clear hx
      cases hrest : decide (rest = []) with
      | false =>
        have e1 : getRV xs = (zeroR, 4) := by
          unfold getRV
          rw [if_neg H256.out, HX.out]
          simp only
          rw [if_neg (fun h => by rw [decide_eq_false_iff_not] at hrest; exact hrest h.1)]
        have E1 := Lib.hid e1
        clear e1 hrest
        have cH := bH.cell_ (i := 0) rfl
        have c5 := bL.cell_ (i := 5) rfl
        have f5 := bL.frozen 5
        go_upto_region 6 with fail
        replace bL := bL.set_ 5 (.bool has)
        replace bH := bH.far (p := ⟨w.heap.size, 5, none⟩) (by show w.heap.size ≠ w.heap.size + 1; omega) (.bool has)
        replace kz := kz.setCell (p := ⟨w.heap.size, 5, none⟩) (Nat.le_refl _) (.bool has)
        replace F1 := F1.setCell (p := ⟨w.heap.size, 5, none⟩) (fun k hk => by have := (F1.own_ge hk).1; have := NB.out; show w.heap.size ≠ k; omega) (.bool has)
        replace F2 := F2.setCell (p := ⟨w.heap.size, 5, none⟩) (fun k hk => by have := (F2.own_ge hk).1; have := NB.out; show w.heap.size ≠ k; omega) (.bool has)
        clear cH c5 f5
        generalize World.setCell _ _ _ = w4 at bL bH kz F1 F2 ⊢
        replace bL : Blk w4 w.heap.size 32 [.int .i64 e, .int .u32 seq, .int .u64 tok, .int .u8 ph, .int .u64 tm, .bool has, .slice ba bid.length bid.length, .int .i64 item, .int .i64 pays, .slice ca cert.length cert.length] := bL
        have cH := bH.cell_ (i := 0) rfl
        have c0 := bL.cell_ (i := 0) rfl
        have f0 := bL.frozen 0
        have c1 := bL.cell_ (i := 1) rfl
        have f1 := bL.frozen 1
        have c2 := bL.cell_ (i := 2) rfl
        have f2 := bL.frozen 2
        have c3 := bL.cell_ (i := 3) rfl
        have f3 := bL.frozen 3
        have c4 := bL.cell_ (i := 4) rfl
        have f4 := bL.frozen 4
        have c5 := bL.cell_ (i := 5) rfl
        have f5 := bL.frozen 5
        have c6 := bL.cell_ (i := 6) rfl
        have f6 := bL.frozen 6
        have c7 := bL.cell_ (i := 7) rfl
        have f7 := bL.frozen 7
        have c8 := bL.cell_ (i := 8) rfl
        have f8 := bL.frozen 8
        have c9 := bL.cell_ (i := 9) rfl
        have f9 := bL.frozen 9
        go_wp2_with fail
        replace bL := bL.set_ 0 (.int .i64 0)
        replace kz := kz.setCell (p := ⟨w.heap.size, 0, none⟩) (Nat.le_refl _) (.int .i64 0)
        replace bL := bL.set_ 1 (.int .u32 0)
        replace kz := kz.setCell (p := ⟨w.heap.size, 1, none⟩) (Nat.le_refl _) (.int .u32 0)
        replace bL := bL.set_ 2 (.int .u64 0)
        replace kz := kz.setCell (p := ⟨w.heap.size, 2, none⟩) (Nat.le_refl _) (.int .u64 0)
        replace bL := bL.set_ 3 (.int .u8 0)
        replace kz := kz.setCell (p := ⟨w.heap.size, 3, none⟩) (Nat.le_refl _) (.int .u8 0)
        replace bL := bL.set_ 4 (.int .u64 0)
        replace kz := kz.setCell (p := ⟨w.heap.size, 4, none⟩) (Nat.le_refl _) (.int .u64 0)
        replace bL := bL.set_ 5 (.bool false)
        replace kz := kz.setCell (p := ⟨w.heap.size, 5, none⟩) (Nat.le_refl _) (.bool false)
        replace bL := bL.set_ 6 (.slice none 0 0)
        replace kz := kz.setCell (p := ⟨w.heap.size, 6, none⟩) (Nat.le_refl _) (.slice none 0 0)
        replace bL := bL.set_ 7 (.int .i64 0)
        replace kz := kz.setCell (p := ⟨w.heap.size, 7, none⟩) (Nat.le_refl _) (.int .i64 0)
        replace bL := bL.set_ 8 (.int .i64 0)
        replace kz := kz.setCell (p := ⟨w.heap.size, 8, none⟩) (Nat.le_refl _) (.int .i64 0)
        replace bL := bL.set_ 9 (.slice none 0 0)
        replace kz := kz.setCell (p := ⟨w.heap.size, 9, none⟩) (Nat.le_refl _) (.slice none 0 0)
        generalize World.setCell _ _ _ = wz at bL kz  ⊢
        replace bL : Blk wz w.heap.size 32 [.int .i64 0, .int .u32 0, .int .u64 0, .int .u8 0, .int .u64 0, .bool false, .slice none 0 0, .int .i64 0, .int .i64 0, .slice none 0 0] := bL
        have d0 := bL.cell_ (i := 0) rfl
        have d1 := bL.cell_ (i := 1) rfl
        have d2 := bL.cell_ (i := 2) rfl
        have d3 := bL.cell_ (i := 3) rfl
        have d4 := bL.cell_ (i := 4) rfl
        have d5 := bL.cell_ (i := 5) rfl
        have d6 := bL.cell_ (i := 6) rfl
        have d7 := bL.cell_ (i := 7) rfl
        have d8 := bL.cell_ (i := 8) rfl
        have d9 := bL.cell_ (i := 9) rfl
        refine bodyPost_ret (v := .tuple #[.agg #[.int .i64 0, .int .u32 0, .int .u64 0, .int .u8 0, .int .u64 0, .bool false, .slice none 0 0, .int .i64 0, .int .i64 0, .slice none 0 0], .int .i64 4]) (by simp [results, Tryz.results22, go_sem, d0, d1, d2, d3, d4, d5, d6, d7, d8, d9]) rfl ?_
        have e2 := HV.out
        rw [E1.out] at e2
        cases e2
        exact zeroR_ok _ _ kz _
      | true =>
        rw [decide_eq_true_eq] at hrest
        have HR := Lib.hid hrest
        clear hrest
        by_cases hn : 1 < nh
        · have y1 : decide ((1 : Int) < nh) = true := decide_eq_true (by omega)
          have y2 : (1 < nh) = True := eq_true hn
          have e1 : getRV xs = (zeroR, 4) := by
            unfold getRV
            rw [if_neg H256.out, HX.out]
            simp only
            rw [if_neg (fun h => by have := h.2.1; omega)]
          have E1 := Lib.hid e1
          clear e1 hn
          have cH := bH.cell_ (i := 0) rfl
          have c5 := bL.cell_ (i := 5) rfl
          have f5 := bL.frozen 5
          go_upto_region 6 with fail
          replace bL := bL.set_ 5 (.bool has)
          replace bH := bH.far (p := ⟨w.heap.size, 5, none⟩) (by show w.heap.size ≠ w.heap.size + 1; omega) (.bool has)
          replace kz := kz.setCell (p := ⟨w.heap.size, 5, none⟩) (Nat.le_refl _) (.bool has)
          replace F1 := F1.setCell (p := ⟨w.heap.size, 5, none⟩) (fun k hk => by have := (F1.own_ge hk).1; have := NB.out; show w.heap.size ≠ k; omega) (.bool has)
          replace F2 := F2.setCell (p := ⟨w.heap.size, 5, none⟩) (fun k hk => by have := (F2.own_ge hk).1; have := NB.out; show w.heap.size ≠ k; omega) (.bool has)
          clear cH c5 f5
          generalize World.setCell _ _ _ = w4 at bL bH kz F1 F2 ⊢
          replace bL : Blk w4 w.heap.size 32 [.int .i64 e, .int .u32 seq, .int .u64 tok, .int .u8 ph, .int .u64 tm, .bool has, .slice ba bid.length bid.length, .int .i64 item, .int .i64 pays, .slice ca cert.length cert.length] := bL
          have cH := bH.cell_ (i := 0) rfl
          have c0 := bL.cell_ (i := 0) rfl
          have f0 := bL.frozen 0
          have c1 := bL.cell_ (i := 1) rfl
          have f1 := bL.frozen 1
          have c2 := bL.cell_ (i := 2) rfl
          have f2 := bL.frozen 2
          have c3 := bL.cell_ (i := 3) rfl
          have f3 := bL.frozen 3
          have c4 := bL.cell_ (i := 4) rfl
          have f4 := bL.frozen 4
          have c5 := bL.cell_ (i := 5) rfl
          have f5 := bL.frozen 5
          have c6 := bL.cell_ (i := 6) rfl
          have f6 := bL.frozen 6
          have c7 := bL.cell_ (i := 7) rfl
          have f7 := bL.frozen 7
          have c8 := bL.cell_ (i := 8) rfl
          have f8 := bL.frozen 8
          have c9 := bL.cell_ (i := 9) rfl
          have f9 := bL.frozen 9
          go_wp2_with fail
          replace bL := bL.set_ 0 (.int .i64 0)
          replace kz := kz.setCell (p := ⟨w.heap.size, 0, none⟩) (Nat.le_refl _) (.int .i64 0)
          replace bL := bL.set_ 1 (.int .u32 0)
          replace kz := kz.setCell (p := ⟨w.heap.size, 1, none⟩) (Nat.le_refl _) (.int .u32 0)
          replace bL := bL.set_ 2 (.int .u64 0)
          replace kz := kz.setCell (p := ⟨w.heap.size, 2, none⟩) (Nat.le_refl _) (.int .u64 0)
          replace bL := bL.set_ 3 (.int .u8 0)
          replace kz := kz.setCell (p := ⟨w.heap.size, 3, none⟩) (Nat.le_refl _) (.int .u8 0)
          replace bL := bL.set_ 4 (.int .u64 0)
          replace kz := kz.setCell (p := ⟨w.heap.size, 4, none⟩) (Nat.le_refl _) (.int .u64 0)
          replace bL := bL.set_ 5 (.bool false)
          replace kz := kz.setCell (p := ⟨w.heap.size, 5, none⟩) (Nat.le_refl _) (.bool false)
          replace bL := bL.set_ 6 (.slice none 0 0)
          replace kz := kz.setCell (p := ⟨w.heap.size, 6, none⟩) (Nat.le_refl _) (.slice none 0 0)
          replace bL := bL.set_ 7 (.int .i64 0)
          replace kz := kz.setCell (p := ⟨w.heap.size, 7, none⟩) (Nat.le_refl _) (.int .i64 0)
          replace bL := bL.set_ 8 (.int .i64 0)
          replace kz := kz.setCell (p := ⟨w.heap.size, 8, none⟩) (Nat.le_refl _) (.int .i64 0)
          replace bL := bL.set_ 9 (.slice none 0 0)
          replace kz := kz.setCell (p := ⟨w.heap.size, 9, none⟩) (Nat.le_refl _) (.slice none 0 0)
          generalize World.setCell _ _ _ = wz at bL kz  ⊢
          replace bL : Blk wz w.heap.size 32 [.int .i64 0, .int .u32 0, .int .u64 0, .int .u8 0, .int .u64 0, .bool false, .slice none 0 0, .int .i64 0, .int .i64 0, .slice none 0 0] := bL
          have d0 := bL.cell_ (i := 0) rfl
          have d1 := bL.cell_ (i := 1) rfl
          have d2 := bL.cell_ (i := 2) rfl
          have d3 := bL.cell_ (i := 3) rfl
          have d4 := bL.cell_ (i := 4) rfl
          have d5 := bL.cell_ (i := 5) rfl
          have d6 := bL.cell_ (i := 6) rfl
          have d7 := bL.cell_ (i := 7) rfl
          have d8 := bL.cell_ (i := 8) rfl
          have d9 := bL.cell_ (i := 9) rfl
          refine bodyPost_ret (v := .tuple #[.agg #[.int .i64 0, .int .u32 0, .int .u64 0, .int .u8 0, .int .u64 0, .bool false, .slice none 0 0, .int .i64 0, .int .i64 0, .slice none 0 0], .int .i64 4]) (by simp [results, Tryz.results22, go_sem, d0, d1, d2, d3, d4, d5, d6, d7, d8, d9]) rfl ?_
          have e2 := HV.out
          rw [E1.out] at e2
          cases e2
          exact zeroR_ok _ _ kz _
        have y1 : decide ((1 : Int) < nh) = false := decide_eq_false (by omega)
        have y2 : (1 < nh) = False := eq_false hn
        have hF := (readR_some hB0.out HX.out (by omega)).2 GS.out.1
        have G := Lib.hid hF
        have hn1 : nh ≤ 1 := by omega
        have HN := Lib.hid hn1
        clear hF hn hn1
        have hok : ∀ v, Keep w v → Fr 3 v ((w.alloc (.cells #[.int .i64 0, .int .u32 0, .int .u64 0, .int .u8 0, .int .u64 0, .bool false, .slice none 0 0, .int .i64 0, .int .i64 0, .slice none 0 0] 32)).alloc (.cells #[.int .u64 0] 24)).heap.size ba bid.length bid.length (cs .i64 bid) → Fr 5 v ((w.alloc (.cells #[.int .i64 0, .int .u32 0, .int .u64 0, .int .u8 0, .int .u64 0, .bool false, .slice none 0 0, .int .i64 0, .int .i64 0, .slice none 0 0] 32)).alloc (.cells #[.int .u64 0] 24)).heap.size ca cert.length cert.length (cs .u8 cert) → (Rpl.mk ⟨e, seq, tok, ph, tm, has, bid, item, pays, cert⟩ ba bid.length ca cert.length).Ok v := fun v _ g1 g2 => by
          have h1 := G.out.e
          have h2 := G.out.item
          have h3 := G.out.pays
          simp only at h1 h2 h3
          exact ⟨fr_ok g1 (wf_low G.out.low), fr_ok g2 (wf_bytes GS.out.2), show (Lit.int .i64 e).wf = true from WalkArith.wf_i64 (by omega), G.out.seq, G.out.tok, G.out.ph, G.out.tm, show (Lit.int .i64 item).wf = true from WalkArith.wf_i64 (by omega), show (Lit.int .i64 pays).wf = true from WalkArith.wf_i64 (by omega)⟩
        replace hok := Lib.hid hok
        cases hmay : mayR ⟨e, seq, tok, ph, tm, has, bid, item, pays, cert⟩ with
        | false =>
          have e1 : getRV xs = (zeroR, 4) := by
            unfold getRV
            rw [if_neg H256.out, HX.out]
            simp only
            rw [if_neg (fun h => by rw [hmay] at h; exact absurd h.2.2 (by decide))]
          have E1 := Lib.hid e1
          clear e1
          have cH := bH.cell_ (i := 0) rfl
          have c5 := bL.cell_ (i := 5) rfl
          have f5 := bL.frozen 5
          go_upto_region 6 with fail
          replace bL := bL.set_ 5 (.bool has)
          replace bH := bH.far (p := ⟨w.heap.size, 5, none⟩) (by show w.heap.size ≠ w.heap.size + 1; omega) (.bool has)
          replace kz := kz.setCell (p := ⟨w.heap.size, 5, none⟩) (Nat.le_refl _) (.bool has)
          replace F1 := F1.setCell (p := ⟨w.heap.size, 5, none⟩) (fun k hk => by have := (F1.own_ge hk).1; have := NB.out; show w.heap.size ≠ k; omega) (.bool has)
          replace F2 := F2.setCell (p := ⟨w.heap.size, 5, none⟩) (fun k hk => by have := (F2.own_ge hk).1; have := NB.out; show w.heap.size ≠ k; omega) (.bool has)
          clear cH c5 f5
          generalize World.setCell _ _ _ = w4 at bL bH kz F1 F2 ⊢
          replace bL : Blk w4 w.heap.size 32 [.int .i64 e, .int .u32 seq, .int .u64 tok, .int .u8 ph, .int .u64 tm, .bool has, .slice ba bid.length bid.length, .int .i64 item, .int .i64 pays, .slice ca cert.length cert.length] := bL
          have cH := bH.cell_ (i := 0) rfl
          have hm := mayR21_f _ w4 (hok.out w4 kz F1 F2)
          unfold Rpl.val at hm
          simp only at hm
          rw [hmay] at hm
          clear hmay
          have c0 := bL.cell_ (i := 0) rfl
          have f0 := bL.frozen 0
          have c1 := bL.cell_ (i := 1) rfl
          have f1 := bL.frozen 1
          have c2 := bL.cell_ (i := 2) rfl
          have f2 := bL.frozen 2
          have c3 := bL.cell_ (i := 3) rfl
          have f3 := bL.frozen 3
          have c4 := bL.cell_ (i := 4) rfl
          have f4 := bL.frozen 4
          have c5 := bL.cell_ (i := 5) rfl
          have f5 := bL.frozen 5
          have c6 := bL.cell_ (i := 6) rfl
          have f6 := bL.frozen 6
          have c7 := bL.cell_ (i := 7) rfl
          have f7 := bL.frozen 7
          have c8 := bL.cell_ (i := 8) rfl
          have f8 := bL.frozen 8
          have c9 := bL.cell_ (i := 9) rfl
          have f9 := bL.frozen 9
          go_wp2_with fail
          refine hm.mono ?_
          rintro e1 w5 ⟨rfl, k5⟩
          clear hm
          replace bL := bL.keep k5
          replace F1 := F1.keep k5
          replace F2 := F2.keep k5
          replace kz := kz.trans k5
          clear cH c0 f0 c1 f1 c2 f2 c3 f3 c4 f4 c5 f5 c6 f6 c7 f7 c8 f8 c9 f9
          have c0 := bL.cell_ (i := 0) rfl
          have f0 := bL.frozen 0
          have c1 := bL.cell_ (i := 1) rfl
          have f1 := bL.frozen 1
          have c2 := bL.cell_ (i := 2) rfl
          have f2 := bL.frozen 2
          have c3 := bL.cell_ (i := 3) rfl
          have f3 := bL.frozen 3
          have c4 := bL.cell_ (i := 4) rfl
          have f4 := bL.frozen 4
          have c5 := bL.cell_ (i := 5) rfl
          have f5 := bL.frozen 5
          have c6 := bL.cell_ (i := 6) rfl
          have f6 := bL.frozen 6
          have c7 := bL.cell_ (i := 7) rfl
          have f7 := bL.frozen 7
          have c8 := bL.cell_ (i := 8) rfl
          have f8 := bL.frozen 8
          have c9 := bL.cell_ (i := 9) rfl
          have f9 := bL.frozen 9
          go_wp2_with fail
          replace bL := bL.set_ 0 (.int .i64 0)
          replace kz := kz.setCell (p := ⟨w.heap.size, 0, none⟩) (Nat.le_refl _) (.int .i64 0)
          replace bL := bL.set_ 1 (.int .u32 0)
          replace kz := kz.setCell (p := ⟨w.heap.size, 1, none⟩) (Nat.le_refl _) (.int .u32 0)
          replace bL := bL.set_ 2 (.int .u64 0)
          replace kz := kz.setCell (p := ⟨w.heap.size, 2, none⟩) (Nat.le_refl _) (.int .u64 0)
          replace bL := bL.set_ 3 (.int .u8 0)
          replace kz := kz.setCell (p := ⟨w.heap.size, 3, none⟩) (Nat.le_refl _) (.int .u8 0)
          replace bL := bL.set_ 4 (.int .u64 0)
          replace kz := kz.setCell (p := ⟨w.heap.size, 4, none⟩) (Nat.le_refl _) (.int .u64 0)
          replace bL := bL.set_ 5 (.bool false)
          replace kz := kz.setCell (p := ⟨w.heap.size, 5, none⟩) (Nat.le_refl _) (.bool false)
          replace bL := bL.set_ 6 (.slice none 0 0)
          replace kz := kz.setCell (p := ⟨w.heap.size, 6, none⟩) (Nat.le_refl _) (.slice none 0 0)
          replace bL := bL.set_ 7 (.int .i64 0)
          replace kz := kz.setCell (p := ⟨w.heap.size, 7, none⟩) (Nat.le_refl _) (.int .i64 0)
          replace bL := bL.set_ 8 (.int .i64 0)
          replace kz := kz.setCell (p := ⟨w.heap.size, 8, none⟩) (Nat.le_refl _) (.int .i64 0)
          replace bL := bL.set_ 9 (.slice none 0 0)
          replace kz := kz.setCell (p := ⟨w.heap.size, 9, none⟩) (Nat.le_refl _) (.slice none 0 0)
          generalize World.setCell _ _ _ = wz at bL kz  ⊢
          replace bL : Blk wz w.heap.size 32 [.int .i64 0, .int .u32 0, .int .u64 0, .int .u8 0, .int .u64 0, .bool false, .slice none 0 0, .int .i64 0, .int .i64 0, .slice none 0 0] := bL
          have d0 := bL.cell_ (i := 0) rfl
          have d1 := bL.cell_ (i := 1) rfl
          have d2 := bL.cell_ (i := 2) rfl
          have d3 := bL.cell_ (i := 3) rfl
          have d4 := bL.cell_ (i := 4) rfl
          have d5 := bL.cell_ (i := 5) rfl
          have d6 := bL.cell_ (i := 6) rfl
          have d7 := bL.cell_ (i := 7) rfl
          have d8 := bL.cell_ (i := 8) rfl
          have d9 := bL.cell_ (i := 9) rfl
          refine bodyPost_ret (v := .tuple #[.agg #[.int .i64 0, .int .u32 0, .int .u64 0, .int .u8 0, .int .u64 0, .bool false, .slice none 0 0, .int .i64 0, .int .i64 0, .slice none 0 0], .int .i64 4]) (by simp [results, Tryz.results22, go_sem, d0, d1, d2, d3, d4, d5, d6, d7, d8, d9]) rfl ?_
          have e2 := HV.out
          rw [E1.out] at e2
          cases e2
          exact zeroR_ok _ _ kz _
        | true =>
          have e1 : getRV xs = (⟨e, seq, tok, ph, tm, has, bid, item, pays, cert⟩, 0) := by
            unfold getRV
            rw [if_neg H256.out, HX.out]
            simp only
            rw [if_pos ⟨HR.out, HN.out, hmay⟩]
          have E1 := Lib.hid e1
          clear e1
          have cH := bH.cell_ (i := 0) rfl
          have c5 := bL.cell_ (i := 5) rfl
          have f5 := bL.frozen 5
          go_upto_region 6 with fail
          replace bL := bL.set_ 5 (.bool has)
          replace bH := bH.far (p := ⟨w.heap.size, 5, none⟩) (by show w.heap.size ≠ w.heap.size + 1; omega) (.bool has)
          replace kz := kz.setCell (p := ⟨w.heap.size, 5, none⟩) (Nat.le_refl _) (.bool has)
          replace F1 := F1.setCell (p := ⟨w.heap.size, 5, none⟩) (fun k hk => by have := (F1.own_ge hk).1; have := NB.out; show w.heap.size ≠ k; omega) (.bool has)
          replace F2 := F2.setCell (p := ⟨w.heap.size, 5, none⟩) (fun k hk => by have := (F2.own_ge hk).1; have := NB.out; show w.heap.size ≠ k; omega) (.bool has)
          clear cH c5 f5
          generalize World.setCell _ _ _ = w4 at bL bH kz F1 F2 ⊢
          replace bL : Blk w4 w.heap.size 32 [.int .i64 e, .int .u32 seq, .int .u64 tok, .int .u8 ph, .int .u64 tm, .bool has, .slice ba bid.length bid.length, .int .i64 item, .int .i64 pays, .slice ca cert.length cert.length] := bL
          have cH := bH.cell_ (i := 0) rfl
          have hm := mayR21_f _ w4 (hok.out w4 kz F1 F2)
          unfold Rpl.val at hm
          simp only at hm
          rw [hmay] at hm
          clear hmay
          have c0 := bL.cell_ (i := 0) rfl
          have f0 := bL.frozen 0
          have c1 := bL.cell_ (i := 1) rfl
          have f1 := bL.frozen 1
          have c2 := bL.cell_ (i := 2) rfl
          have f2 := bL.frozen 2
          have c3 := bL.cell_ (i := 3) rfl
          have f3 := bL.frozen 3
          have c4 := bL.cell_ (i := 4) rfl
          have f4 := bL.frozen 4
          have c5 := bL.cell_ (i := 5) rfl
          have f5 := bL.frozen 5
          have c6 := bL.cell_ (i := 6) rfl
          have f6 := bL.frozen 6
          have c7 := bL.cell_ (i := 7) rfl
          have f7 := bL.frozen 7
          have c8 := bL.cell_ (i := 8) rfl
          have f8 := bL.frozen 8
          have c9 := bL.cell_ (i := 9) rfl
          have f9 := bL.frozen 9
          go_wp2_with fail
          refine hm.mono ?_
          rintro e1 w5 ⟨rfl, k5⟩
          clear hm
          replace bL := bL.keep k5
          replace F1 := F1.keep k5
          replace F2 := F2.keep k5
          replace kz := kz.trans k5
          clear cH c0 f0 c1 f1 c2 f2 c3 f3 c4 f4 c5 f5 c6 f6 c7 f7 c8 f8 c9 f9
          have c0 := bL.cell_ (i := 0) rfl
          have f0 := bL.frozen 0
          have c1 := bL.cell_ (i := 1) rfl
          have f1 := bL.frozen 1
          have c2 := bL.cell_ (i := 2) rfl
          have f2 := bL.frozen 2
          have c3 := bL.cell_ (i := 3) rfl
          have f3 := bL.frozen 3
          have c4 := bL.cell_ (i := 4) rfl
          have f4 := bL.frozen 4
          have c5 := bL.cell_ (i := 5) rfl
          have f5 := bL.frozen 5
          have c6 := bL.cell_ (i := 6) rfl
          have f6 := bL.frozen 6
          have c7 := bL.cell_ (i := 7) rfl
          have f7 := bL.frozen 7
          have c8 := bL.cell_ (i := 8) rfl
          have f8 := bL.frozen 8
          have c9 := bL.cell_ (i := 9) rfl
          have f9 := bL.frozen 9
          go_wp2_with fail
          replace bL := bL.set_ 0 (.int .i64 e)
          replace kz := kz.setCell (p := ⟨w.heap.size, 0, none⟩) (Nat.le_refl _) (.int .i64 e)
          replace F1 := F1.setCell (p := ⟨w.heap.size, 0, none⟩) (fun k hk => by have := (F1.own_ge hk).1; have := NB.out; show w.heap.size ≠ k; omega) (.int .i64 e)
          replace F2 := F2.setCell (p := ⟨w.heap.size, 0, none⟩) (fun k hk => by have := (F2.own_ge hk).1; have := NB.out; show w.heap.size ≠ k; omega) (.int .i64 e)
          replace bL := bL.set_ 1 (.int .u32 seq)
          replace kz := kz.setCell (p := ⟨w.heap.size, 1, none⟩) (Nat.le_refl _) (.int .u32 seq)
          replace F1 := F1.setCell (p := ⟨w.heap.size, 1, none⟩) (fun k hk => by have := (F1.own_ge hk).1; have := NB.out; show w.heap.size ≠ k; omega) (.int .u32 seq)
          replace F2 := F2.setCell (p := ⟨w.heap.size, 1, none⟩) (fun k hk => by have := (F2.own_ge hk).1; have := NB.out; show w.heap.size ≠ k; omega) (.int .u32 seq)
          replace bL := bL.set_ 2 (.int .u64 tok)
          replace kz := kz.setCell (p := ⟨w.heap.size, 2, none⟩) (Nat.le_refl _) (.int .u64 tok)
          replace F1 := F1.setCell (p := ⟨w.heap.size, 2, none⟩) (fun k hk => by have := (F1.own_ge hk).1; have := NB.out; show w.heap.size ≠ k; omega) (.int .u64 tok)
          replace F2 := F2.setCell (p := ⟨w.heap.size, 2, none⟩) (fun k hk => by have := (F2.own_ge hk).1; have := NB.out; show w.heap.size ≠ k; omega) (.int .u64 tok)
          replace bL := bL.set_ 3 (.int .u8 ph)
          replace kz := kz.setCell (p := ⟨w.heap.size, 3, none⟩) (Nat.le_refl _) (.int .u8 ph)
          replace F1 := F1.setCell (p := ⟨w.heap.size, 3, none⟩) (fun k hk => by have := (F1.own_ge hk).1; have := NB.out; show w.heap.size ≠ k; omega) (.int .u8 ph)
          replace F2 := F2.setCell (p := ⟨w.heap.size, 3, none⟩) (fun k hk => by have := (F2.own_ge hk).1; have := NB.out; show w.heap.size ≠ k; omega) (.int .u8 ph)
          replace bL := bL.set_ 4 (.int .u64 tm)
          replace kz := kz.setCell (p := ⟨w.heap.size, 4, none⟩) (Nat.le_refl _) (.int .u64 tm)
          replace F1 := F1.setCell (p := ⟨w.heap.size, 4, none⟩) (fun k hk => by have := (F1.own_ge hk).1; have := NB.out; show w.heap.size ≠ k; omega) (.int .u64 tm)
          replace F2 := F2.setCell (p := ⟨w.heap.size, 4, none⟩) (fun k hk => by have := (F2.own_ge hk).1; have := NB.out; show w.heap.size ≠ k; omega) (.int .u64 tm)
          replace bL := bL.set_ 5 (.bool has)
          replace kz := kz.setCell (p := ⟨w.heap.size, 5, none⟩) (Nat.le_refl _) (.bool has)
          replace F1 := F1.setCell (p := ⟨w.heap.size, 5, none⟩) (fun k hk => by have := (F1.own_ge hk).1; have := NB.out; show w.heap.size ≠ k; omega) (.bool has)
          replace F2 := F2.setCell (p := ⟨w.heap.size, 5, none⟩) (fun k hk => by have := (F2.own_ge hk).1; have := NB.out; show w.heap.size ≠ k; omega) (.bool has)
          replace bL := bL.set_ 6 (.slice ba bid.length bid.length)
          replace kz := kz.setCell (p := ⟨w.heap.size, 6, none⟩) (Nat.le_refl _) (.slice ba bid.length bid.length)
          replace F1 := F1.setCell (p := ⟨w.heap.size, 6, none⟩) (fun k hk => by have := (F1.own_ge hk).1; have := NB.out; show w.heap.size ≠ k; omega) (.slice ba bid.length bid.length)
          replace F2 := F2.setCell (p := ⟨w.heap.size, 6, none⟩) (fun k hk => by have := (F2.own_ge hk).1; have := NB.out; show w.heap.size ≠ k; omega) (.slice ba bid.length bid.length)
          replace bL := bL.set_ 7 (.int .i64 item)
          replace kz := kz.setCell (p := ⟨w.heap.size, 7, none⟩) (Nat.le_refl _) (.int .i64 item)
          replace F1 := F1.setCell (p := ⟨w.heap.size, 7, none⟩) (fun k hk => by have := (F1.own_ge hk).1; have := NB.out; show w.heap.size ≠ k; omega) (.int .i64 item)
          replace F2 := F2.setCell (p := ⟨w.heap.size, 7, none⟩) (fun k hk => by have := (F2.own_ge hk).1; have := NB.out; show w.heap.size ≠ k; omega) (.int .i64 item)
          replace bL := bL.set_ 8 (.int .i64 pays)
          replace kz := kz.setCell (p := ⟨w.heap.size, 8, none⟩) (Nat.le_refl _) (.int .i64 pays)
          replace F1 := F1.setCell (p := ⟨w.heap.size, 8, none⟩) (fun k hk => by have := (F1.own_ge hk).1; have := NB.out; show w.heap.size ≠ k; omega) (.int .i64 pays)
          replace F2 := F2.setCell (p := ⟨w.heap.size, 8, none⟩) (fun k hk => by have := (F2.own_ge hk).1; have := NB.out; show w.heap.size ≠ k; omega) (.int .i64 pays)
          replace bL := bL.set_ 9 (.slice ca cert.length cert.length)
          replace kz := kz.setCell (p := ⟨w.heap.size, 9, none⟩) (Nat.le_refl _) (.slice ca cert.length cert.length)
          replace F1 := F1.setCell (p := ⟨w.heap.size, 9, none⟩) (fun k hk => by have := (F1.own_ge hk).1; have := NB.out; show w.heap.size ≠ k; omega) (.slice ca cert.length cert.length)
          replace F2 := F2.setCell (p := ⟨w.heap.size, 9, none⟩) (fun k hk => by have := (F2.own_ge hk).1; have := NB.out; show w.heap.size ≠ k; omega) (.slice ca cert.length cert.length)
          generalize World.setCell _ _ _ = wz at bL kz F1 F2 ⊢
          replace bL : Blk wz w.heap.size 32 [.int .i64 e, .int .u32 seq, .int .u64 tok, .int .u8 ph, .int .u64 tm, .bool has, .slice ba bid.length bid.length, .int .i64 item, .int .i64 pays, .slice ca cert.length cert.length] := bL
          have d0 := bL.cell_ (i := 0) rfl
          have d1 := bL.cell_ (i := 1) rfl
          have d2 := bL.cell_ (i := 2) rfl
          have d3 := bL.cell_ (i := 3) rfl
          have d4 := bL.cell_ (i := 4) rfl
          have d5 := bL.cell_ (i := 5) rfl
          have d6 := bL.cell_ (i := 6) rfl
          have d7 := bL.cell_ (i := 7) rfl
          have d8 := bL.cell_ (i := 8) rfl
          have d9 := bL.cell_ (i := 9) rfl
          refine bodyPost_ret (v := .tuple #[.agg #[.int .i64 e, .int .u32 seq, .int .u64 tok, .int .u8 ph, .int .u64 tm, .bool has, .slice ba bid.length bid.length, .int .i64 item, .int .i64 pays, .slice ca cert.length cert.length], .int .i64 0]) (by simp [results, Tryz.results22, go_sem, d0, d1, d2, d3, d4, d5, d6, d7, d8, d9]) rfl ?_
          have e2 := HV.out
          rw [E1.out] at e2
          cases e2
          exact ⟨ba, ca, rfl, hok.out _ kz F1 F2, F1.mono (Nat.le_of_lt NB.out), F2.mono (Nat.le_of_lt NB.out), kz⟩
end Go.Proofs.YtnjjeanbopclhaaGreatDoor
