/-
  CONTRACT for the package frames: Get. Conditions: the bytes read as a list; the list of parts reads as the program's text lays it.
-/
import Derived.Test.YtnjjeanbopclhaaGreatDoorFrmH
import Derived.Test.YtnjjeanbopclhaaGreatDoorFrmD
namespace Go.Proofs.YtnjjeanbopclhaaGreatDoor
open Go.RowKit

/-- What Get answers. -/
def GetFP (f : FV) (r : Int) (w : World) (e : Ending) (w' : World) : Prop :=
  ∃ sa ba, e = .returned (.tuple #[(Frm.mk f sa f.sec.length ba f.bid.length).val, .int .i64 r]) ∧ (Frm.mk f sa f.sec.length ba f.bid.length).Ok w' ∧ Fr 5 w' w.heap.size sa f.sec.length f.sec.length (cs .u8 f.sec) ∧ Fr 3 w' w.heap.size ba f.bid.length f.bid.length (cs .i64 f.bid) ∧ Keep w w'
theorem zeroF_ok (w w' : World) (k : Keep w w') (r : Int) : GetFP zeroF r w (.returned (.tuple #[.agg #[.int .u8 0, .int .u8 0, .int .u32 0, .int .u64 0, .slice none 0 0, .slice none 0 0], .int .i64 r])) w' := by
  refine ⟨none, none, rfl, ⟨⟨⟨Rd.nil _ _, Nat.le_refl _, Nat.zero_le _, fun x h => by cases h⟩, fun _ => rfl⟩, ⟨⟨Rd.nil _ _, Nat.le_refl _, Nat.zero_le _, fun x h => by cases h⟩, fun _ => rfl⟩, by decide, by decide, by decide, by decide⟩, Fr.empty _ _ _ _, Fr.empty _ _ _ _, k⟩
theorem fr_ok {e : TypeId} {k : IntKind} {w : World} {base : Nat} {A : Option Addr} {xs : List Int} (h : Fr e w base A xs.length xs.length (cs k xs)) (hw : ∀ x ∈ xs, (Lit.int k x).wf = true) : Sl.Ok k w ⟨A, xs.length, xs⟩ :=
  ⟨⟨h.rd, Nat.le_refl _, h.capMax, hw⟩, fun hA => h.capNil hA⟩
theorem wf_bytes {xs : List Int} (h : Bytes xs) : ∀ x ∈ xs, (Lit.int .u8 x).wf = true := fun x hx => WalkArith.wf_u8 (by have := h x hx; omega)
theorem wf_low {xs : List Int} (h : ∀ x ∈ xs, 0 ≤ x ∧ x < 4294967296) : ∀ x ∈ xs, (Lit.int .i64 x).wf = true := fun x hx => WalkArith.wf_i64 (by have := h x hx; omega)
theorem rdB_bytes {xs l ys : List Int} (hb : Bytes xs) (h : rdB xs = some (l, ys)) : Bytes l := by
  unfold rdB at h
  split at h
  · cases h
  · rename_i hg
    cases h
    unfold getBy at hg
    split at hg
    · cases hg
    · cases hg
      exact (hb.drop 2).take _
theorem readF_sec {xs rest : List Int} {f : FV} (hb : Bytes xs) (h : readF xs = some (f, rest)) : Bytes f.sec := by
  unfold readF at h
  obtain ⟨⟨a, x1⟩, e1, h⟩ := Option.bind_eq_some_iff.1 h
  obtain ⟨⟨b, x2⟩, e2, h⟩ := Option.bind_eq_some_iff.1 h
  obtain ⟨⟨c, x3⟩, e3, h⟩ := Option.bind_eq_some_iff.1 h
  obtain ⟨⟨d, x4⟩, e4, h⟩ := Option.bind_eq_some_iff.1 h
  obtain ⟨⟨s, x5⟩, e5, h⟩ := Option.bind_eq_some_iff.1 h
  obtain ⟨⟨l, x6⟩, e6, h⟩ := Option.bind_eq_some_iff.1 h
  cases h
  exact rdB_bytes (rdN_some (rdN_some (rdN_some (rdN_some hb e1).2.2.1 e2).2.2.1 e3).2.2.1 e4).2.2.1 e5

set_option maxRecDepth 100000 in
set_option maxHeartbeats 8000000 in
theorem getF_f (A : Option Addr) (c : Nat) (xs : List Int) (w : World) (rd : Rd w A (cs .u8 xs)) (hB : Bytes xs) (hc : xs.length ≤ c) (lc : Len c) (hP : Parts w) {f : FV} {r : Int} (hv : getFV xs = (f, r)) :
    Calls Tryz.prog 20 #[.slice A xs.length c] w (GetFP f r w) := by
  have lc' := lc.le
  have k1 : Keep w (w.alloc (.cells #[.int .u8 0, .int .u8 0, .int .u32 0, .int .u64 0, .slice none 0 0, .slice none 0 0] 28)) := Keep.alloc1 _ _
  have b1 := Blk.new w 28 [.int .u8 0, .int .u8 0, .int .u32 0, .int .u64 0, .slice none 0 0, .slice none 0 0]
  have hq := wholeF_f w _ k1 w.heap.size A c xs (Nat.le_refl _) rd hB hc lc b1
  by_cases h256 : 256 < xs.length
  · have z1 : decide ((256 : Int) < xs.length) = true := decide_eq_true (by omega)
    have z2 : (256 < xs.length) = True := eq_true h256
    have e1 : getFV xs = (zeroF, 3) := by unfold getFV; rw [if_pos h256]
    rw [e1] at hv
    cases hv
    clear e1 hq h256
    have kz := k1
    have c0 := b1.cell_ (i := 0) rfl
    have f0 := b1.frozen 0
    have c1 := b1.cell_ (i := 1) rfl
    have f1 := b1.frozen 1
    have c2 := b1.cell_ (i := 2) rfl
    have f2 := b1.frozen 2
    have c3 := b1.cell_ (i := 3) rfl
    have f3 := b1.frozen 3
    have c4 := b1.cell_ (i := 4) rfl
    have f4 := b1.frozen 4
    have c5 := b1.cell_ (i := 5) rfl
    have f5 := b1.frozen 5
    go_enter Tryz.func20, Tryz.ntmps20
    go_wp2_with fail
    have d0 := b1.cell_ (i := 0) rfl
    have d1 := b1.cell_ (i := 1) rfl
    have d2 := b1.cell_ (i := 2) rfl
    have d3 := b1.cell_ (i := 3) rfl
    have d4 := b1.cell_ (i := 4) rfl
    have d5 := b1.cell_ (i := 5) rfl
    refine bodyPost_ret (v := .tuple #[.agg #[.int .u8 0, .int .u8 0, .int .u32 0, .int .u64 0, .slice none 0 0, .slice none 0 0], .int .i64 3]) (by simp [results, Tryz.results20, go_sem, d0, d1, d2, d3, d4, d5]) rfl ?_
    exact zeroF_ok _ _ kz _
  · have z1 : decide ((256 : Int) < xs.length) = false := decide_eq_false (by omega)
    have z2 : (256 < xs.length) = False := eq_false h256
    have HV := Lib.hid hv
    have hB0 := Lib.hid hB
    have H256 := Lib.hid h256
    clear hv h256 hB
    go_enter Tryz.func20, Tryz.ntmps20
    go_wp2_with fail
    refine hq.mono ?_
    intro e w2 hp
    clear hq
    unfold WholeF at hp
    obtain ⟨tg, kw, hp⟩ := hp
    have kz := kw
    have NB := Lib.hid b1.lt
    cases hx : readF xs with
    | none =>
      have e1 : getFV xs = (zeroF, 4) := by unfold getFV; rw [if_neg H256.out, hx]
      rw [hx] at hp
      obtain ⟨rfl, L, hL, bL⟩ := hp
      obtain ⟨l0, l1, l2, l3, l4, l5, rfl⟩ : ∃ l0 l1 l2 l3 l4 l5, L = [l0, l1, l2, l3, l4, l5] := by
        match L, hL with
        | [l0, l1, l2, l3, l4, l5], _ => exact ⟨_, _, _, _, _, _, rfl⟩
      clear hx hL
      have E1 := Lib.hid e1
      clear e1
      have c0 := bL.cell_ (i := 0) rfl
      have f0 := bL.frozen 0
      have c1 := bL.cell_ (i := 1) rfl
      have f1 := bL.frozen 1
      have c2 := bL.cell_ (i := 2) rfl
      have f2 := bL.frozen 2
      have c3 := bL.cell_ (i := 3) rfl
      have f3 := bL.frozen 3
      have c4 := bL.cell_ (i := 4) rfl
      have f4 := bL.frozen 4
      have c5 := bL.cell_ (i := 5) rfl
      have f5 := bL.frozen 5
      go_wp2_with fail
      replace bL := bL.set_ 0 (.int .u8 0)
      replace kz := kz.setCell (p := ⟨w.heap.size, 0, none⟩) (Nat.le_refl _) (.int .u8 0)
      replace bL := bL.set_ 1 (.int .u8 0)
      replace kz := kz.setCell (p := ⟨w.heap.size, 1, none⟩) (Nat.le_refl _) (.int .u8 0)
      replace bL := bL.set_ 2 (.int .u32 0)
      replace kz := kz.setCell (p := ⟨w.heap.size, 2, none⟩) (Nat.le_refl _) (.int .u32 0)
      replace bL := bL.set_ 3 (.int .u64 0)
      replace kz := kz.setCell (p := ⟨w.heap.size, 3, none⟩) (Nat.le_refl _) (.int .u64 0)
      replace bL := bL.set_ 4 (.slice none 0 0)
      replace kz := kz.setCell (p := ⟨w.heap.size, 4, none⟩) (Nat.le_refl _) (.slice none 0 0)
      replace bL := bL.set_ 5 (.slice none 0 0)
      replace kz := kz.setCell (p := ⟨w.heap.size, 5, none⟩) (Nat.le_refl _) (.slice none 0 0)
      generalize World.setCell _ _ _ = wz at bL kz  ⊢
      replace bL : Blk wz w.heap.size 28 [.int .u8 0, .int .u8 0, .int .u32 0, .int .u64 0, .slice none 0 0, .slice none 0 0] := bL
      have d0 := bL.cell_ (i := 0) rfl
      have d1 := bL.cell_ (i := 1) rfl
      have d2 := bL.cell_ (i := 2) rfl
      have d3 := bL.cell_ (i := 3) rfl
      have d4 := bL.cell_ (i := 4) rfl
      have d5 := bL.cell_ (i := 5) rfl
      refine bodyPost_ret (v := .tuple #[.agg #[.int .u8 0, .int .u8 0, .int .u32 0, .int .u64 0, .slice none 0 0, .slice none 0 0], .int .i64 4]) (by simp [results, Tryz.results20, go_sem, d0, d1, d2, d3, d4, d5]) rfl ?_
      have e2 := HV.out
      rw [E1.out] at e2
      cases e2
      exact zeroF_ok _ _ kz _
    | some q =>
      rw [hx] at hp
      obtain ⟨⟨ask, who, seq, tok, sec, bid⟩, rest⟩ := q
      obtain ⟨rfl, sa, ba, bL, F1, F2⟩ := hp
      simp only at bL F1 F2
      have hF := (readF_some hB0.out hx).2
      have hS := readF_sec hB0.out hx
      have G := Lib.hid hF
      have GS := Lib.hid hS
      clear hF hS
      have HX := Lib.hid hx
      clear hx
      cases hrest : decide (rest = []) with
      | false =>
        have e1 : getFV xs = (zeroF, 4) := by
          unfold getFV
          rw [if_neg H256.out, HX.out]
          simp only
          rw [if_neg (fun h => by rw [decide_eq_false_iff_not] at hrest; exact hrest h.1)]
        have E1 := Lib.hid e1
        clear e1 hrest
        have c0 := bL.cell_ (i := 0) rfl
        have f0 := bL.frozen 0
        have c1 := bL.cell_ (i := 1) rfl
        have f1 := bL.frozen 1
        have c2 := bL.cell_ (i := 2) rfl
        have f2 := bL.frozen 2
        have c3 := bL.cell_ (i := 3) rfl
        have f3 := bL.frozen 3
        have c4 := bL.cell_ (i := 4) rfl
        have f4 := bL.frozen 4
        have c5 := bL.cell_ (i := 5) rfl
        have f5 := bL.frozen 5
        go_wp2_with fail
        replace bL := bL.set_ 0 (.int .u8 0)
        replace kz := kz.setCell (p := ⟨w.heap.size, 0, none⟩) (Nat.le_refl _) (.int .u8 0)
        replace bL := bL.set_ 1 (.int .u8 0)
        replace kz := kz.setCell (p := ⟨w.heap.size, 1, none⟩) (Nat.le_refl _) (.int .u8 0)
        replace bL := bL.set_ 2 (.int .u32 0)
        replace kz := kz.setCell (p := ⟨w.heap.size, 2, none⟩) (Nat.le_refl _) (.int .u32 0)
        replace bL := bL.set_ 3 (.int .u64 0)
        replace kz := kz.setCell (p := ⟨w.heap.size, 3, none⟩) (Nat.le_refl _) (.int .u64 0)
        replace bL := bL.set_ 4 (.slice none 0 0)
        replace kz := kz.setCell (p := ⟨w.heap.size, 4, none⟩) (Nat.le_refl _) (.slice none 0 0)
        replace bL := bL.set_ 5 (.slice none 0 0)
        replace kz := kz.setCell (p := ⟨w.heap.size, 5, none⟩) (Nat.le_refl _) (.slice none 0 0)
        generalize World.setCell _ _ _ = wz at bL kz  ⊢
        replace bL : Blk wz w.heap.size 28 [.int .u8 0, .int .u8 0, .int .u32 0, .int .u64 0, .slice none 0 0, .slice none 0 0] := bL
        have d0 := bL.cell_ (i := 0) rfl
        have d1 := bL.cell_ (i := 1) rfl
        have d2 := bL.cell_ (i := 2) rfl
        have d3 := bL.cell_ (i := 3) rfl
        have d4 := bL.cell_ (i := 4) rfl
        have d5 := bL.cell_ (i := 5) rfl
        refine bodyPost_ret (v := .tuple #[.agg #[.int .u8 0, .int .u8 0, .int .u32 0, .int .u64 0, .slice none 0 0, .slice none 0 0], .int .i64 4]) (by simp [results, Tryz.results20, go_sem, d0, d1, d2, d3, d4, d5]) rfl ?_
        have e2 := HV.out
        rw [E1.out] at e2
        cases e2
        exact zeroF_ok _ _ kz _
      | true =>
        have hok : (Frm.mk ⟨ask, who, seq, tok, sec, bid⟩ sa sec.length ba bid.length).Ok w2 := ⟨fr_ok F1 (wf_bytes GS.out), fr_ok F2 (wf_low G.out.low), G.out.ask, G.out.who, G.out.seq, G.out.tok⟩
        have hm := may21_f _ w2 hok (hP.keep kw)
        unfold Frm.val at hm
        simp only at hm
        rw [decide_eq_true_eq] at hrest
        have HR := Lib.hid hrest
        clear hrest hok
        cases hmay : mayF ⟨ask, who, seq, tok, sec, bid⟩ with
        | false =>
          have e1 : getFV xs = (zeroF, 4) := by
            unfold getFV
            rw [if_neg H256.out, HX.out]
            simp only
            rw [if_neg (fun h => by rw [hmay] at h; exact absurd h.2 (by decide))]
          have E1 := Lib.hid e1
          rw [hmay] at hm
          clear e1 hmay
          have c0 := bL.cell_ (i := 0) rfl
          have f0 := bL.frozen 0
          have c1 := bL.cell_ (i := 1) rfl
          have f1 := bL.frozen 1
          have c2 := bL.cell_ (i := 2) rfl
          have f2 := bL.frozen 2
          have c3 := bL.cell_ (i := 3) rfl
          have f3 := bL.frozen 3
          have c4 := bL.cell_ (i := 4) rfl
          have f4 := bL.frozen 4
          have c5 := bL.cell_ (i := 5) rfl
          have f5 := bL.frozen 5
          go_wp2_with fail
          refine hm.mono ?_
          rintro e w3 ⟨rfl, k3⟩
          clear hm
          replace bL := bL.keep k3
          replace F1 := F1.keep k3
          replace F2 := F2.keep k3
          replace kz := kz.trans k3
          clear c0 f0 c1 f1 c2 f2 c3 f3 c4 f4 c5 f5
          have c0 := bL.cell_ (i := 0) rfl
          have f0 := bL.frozen 0
          have c1 := bL.cell_ (i := 1) rfl
          have f1 := bL.frozen 1
          have c2 := bL.cell_ (i := 2) rfl
          have f2 := bL.frozen 2
          have c3 := bL.cell_ (i := 3) rfl
          have f3 := bL.frozen 3
          have c4 := bL.cell_ (i := 4) rfl
          have f4 := bL.frozen 4
          have c5 := bL.cell_ (i := 5) rfl
          have f5 := bL.frozen 5
          go_wp2_with fail
          replace bL := bL.set_ 0 (.int .u8 0)
          replace kz := kz.setCell (p := ⟨w.heap.size, 0, none⟩) (Nat.le_refl _) (.int .u8 0)
          replace bL := bL.set_ 1 (.int .u8 0)
          replace kz := kz.setCell (p := ⟨w.heap.size, 1, none⟩) (Nat.le_refl _) (.int .u8 0)
          replace bL := bL.set_ 2 (.int .u32 0)
          replace kz := kz.setCell (p := ⟨w.heap.size, 2, none⟩) (Nat.le_refl _) (.int .u32 0)
          replace bL := bL.set_ 3 (.int .u64 0)
          replace kz := kz.setCell (p := ⟨w.heap.size, 3, none⟩) (Nat.le_refl _) (.int .u64 0)
          replace bL := bL.set_ 4 (.slice none 0 0)
          replace kz := kz.setCell (p := ⟨w.heap.size, 4, none⟩) (Nat.le_refl _) (.slice none 0 0)
          replace bL := bL.set_ 5 (.slice none 0 0)
          replace kz := kz.setCell (p := ⟨w.heap.size, 5, none⟩) (Nat.le_refl _) (.slice none 0 0)
          generalize World.setCell _ _ _ = wz at bL kz  ⊢
          replace bL : Blk wz w.heap.size 28 [.int .u8 0, .int .u8 0, .int .u32 0, .int .u64 0, .slice none 0 0, .slice none 0 0] := bL
          have d0 := bL.cell_ (i := 0) rfl
          have d1 := bL.cell_ (i := 1) rfl
          have d2 := bL.cell_ (i := 2) rfl
          have d3 := bL.cell_ (i := 3) rfl
          have d4 := bL.cell_ (i := 4) rfl
          have d5 := bL.cell_ (i := 5) rfl
          refine bodyPost_ret (v := .tuple #[.agg #[.int .u8 0, .int .u8 0, .int .u32 0, .int .u64 0, .slice none 0 0, .slice none 0 0], .int .i64 4]) (by simp [results, Tryz.results20, go_sem, d0, d1, d2, d3, d4, d5]) rfl ?_
          have e2 := HV.out
          rw [E1.out] at e2
          cases e2
          exact zeroF_ok _ _ kz _
        | true =>
          have e1 : getFV xs = (⟨ask, who, seq, tok, sec, bid⟩, 0) := by
            unfold getFV
            rw [if_neg H256.out, HX.out]
            simp only
            rw [if_pos ⟨HR.out, hmay⟩]
          have E1 := Lib.hid e1
          rw [hmay] at hm
          clear e1 hmay
          have c0 := bL.cell_ (i := 0) rfl
          have f0 := bL.frozen 0
          have c1 := bL.cell_ (i := 1) rfl
          have f1 := bL.frozen 1
          have c2 := bL.cell_ (i := 2) rfl
          have f2 := bL.frozen 2
          have c3 := bL.cell_ (i := 3) rfl
          have f3 := bL.frozen 3
          have c4 := bL.cell_ (i := 4) rfl
          have f4 := bL.frozen 4
          have c5 := bL.cell_ (i := 5) rfl
          have f5 := bL.frozen 5
          go_wp2_with fail
          refine hm.mono ?_
          rintro e w3 ⟨rfl, k3⟩
          clear hm
          replace bL := bL.keep k3
          replace F1 := F1.keep k3
          replace F2 := F2.keep k3
          replace kz := kz.trans k3
          clear c0 f0 c1 f1 c2 f2 c3 f3 c4 f4 c5 f5
          have c0 := bL.cell_ (i := 0) rfl
          have f0 := bL.frozen 0
          have c1 := bL.cell_ (i := 1) rfl
          have f1 := bL.frozen 1
          have c2 := bL.cell_ (i := 2) rfl
          have f2 := bL.frozen 2
          have c3 := bL.cell_ (i := 3) rfl
          have f3 := bL.frozen 3
          have c4 := bL.cell_ (i := 4) rfl
          have f4 := bL.frozen 4
          have c5 := bL.cell_ (i := 5) rfl
          have f5 := bL.frozen 5
          go_wp2_with fail
          replace bL := bL.set_ 0 (.int .u8 ask)
          replace kz := kz.setCell (p := ⟨w.heap.size, 0, none⟩) (Nat.le_refl _) (.int .u8 ask)
          replace F1 := F1.setCell (p := ⟨w.heap.size, 0, none⟩) (fun k hk => by have := (F1.own_ge hk).1; have := NB.out; show w.heap.size ≠ k; omega) (.int .u8 ask)
          replace F2 := F2.setCell (p := ⟨w.heap.size, 0, none⟩) (fun k hk => by have := (F2.own_ge hk).1; have := NB.out; show w.heap.size ≠ k; omega) (.int .u8 ask)
          replace bL := bL.set_ 1 (.int .u8 who)
          replace kz := kz.setCell (p := ⟨w.heap.size, 1, none⟩) (Nat.le_refl _) (.int .u8 who)
          replace F1 := F1.setCell (p := ⟨w.heap.size, 1, none⟩) (fun k hk => by have := (F1.own_ge hk).1; have := NB.out; show w.heap.size ≠ k; omega) (.int .u8 who)
          replace F2 := F2.setCell (p := ⟨w.heap.size, 1, none⟩) (fun k hk => by have := (F2.own_ge hk).1; have := NB.out; show w.heap.size ≠ k; omega) (.int .u8 who)
          replace bL := bL.set_ 2 (.int .u32 seq)
          replace kz := kz.setCell (p := ⟨w.heap.size, 2, none⟩) (Nat.le_refl _) (.int .u32 seq)
          replace F1 := F1.setCell (p := ⟨w.heap.size, 2, none⟩) (fun k hk => by have := (F1.own_ge hk).1; have := NB.out; show w.heap.size ≠ k; omega) (.int .u32 seq)
          replace F2 := F2.setCell (p := ⟨w.heap.size, 2, none⟩) (fun k hk => by have := (F2.own_ge hk).1; have := NB.out; show w.heap.size ≠ k; omega) (.int .u32 seq)
          replace bL := bL.set_ 3 (.int .u64 tok)
          replace kz := kz.setCell (p := ⟨w.heap.size, 3, none⟩) (Nat.le_refl _) (.int .u64 tok)
          replace F1 := F1.setCell (p := ⟨w.heap.size, 3, none⟩) (fun k hk => by have := (F1.own_ge hk).1; have := NB.out; show w.heap.size ≠ k; omega) (.int .u64 tok)
          replace F2 := F2.setCell (p := ⟨w.heap.size, 3, none⟩) (fun k hk => by have := (F2.own_ge hk).1; have := NB.out; show w.heap.size ≠ k; omega) (.int .u64 tok)
          replace bL := bL.set_ 4 (.slice sa sec.length sec.length)
          replace kz := kz.setCell (p := ⟨w.heap.size, 4, none⟩) (Nat.le_refl _) (.slice sa sec.length sec.length)
          replace F1 := F1.setCell (p := ⟨w.heap.size, 4, none⟩) (fun k hk => by have := (F1.own_ge hk).1; have := NB.out; show w.heap.size ≠ k; omega) (.slice sa sec.length sec.length)
          replace F2 := F2.setCell (p := ⟨w.heap.size, 4, none⟩) (fun k hk => by have := (F2.own_ge hk).1; have := NB.out; show w.heap.size ≠ k; omega) (.slice sa sec.length sec.length)
          replace bL := bL.set_ 5 (.slice ba bid.length bid.length)
          replace kz := kz.setCell (p := ⟨w.heap.size, 5, none⟩) (Nat.le_refl _) (.slice ba bid.length bid.length)
          replace F1 := F1.setCell (p := ⟨w.heap.size, 5, none⟩) (fun k hk => by have := (F1.own_ge hk).1; have := NB.out; show w.heap.size ≠ k; omega) (.slice ba bid.length bid.length)
          replace F2 := F2.setCell (p := ⟨w.heap.size, 5, none⟩) (fun k hk => by have := (F2.own_ge hk).1; have := NB.out; show w.heap.size ≠ k; omega) (.slice ba bid.length bid.length)
          generalize World.setCell _ _ _ = wz at bL kz F1 F2 ⊢
          replace bL : Blk wz w.heap.size 28 [.int .u8 ask, .int .u8 who, .int .u32 seq, .int .u64 tok, .slice sa sec.length sec.length, .slice ba bid.length bid.length] := bL
          have d0 := bL.cell_ (i := 0) rfl
          have d1 := bL.cell_ (i := 1) rfl
          have d2 := bL.cell_ (i := 2) rfl
          have d3 := bL.cell_ (i := 3) rfl
          have d4 := bL.cell_ (i := 4) rfl
          have d5 := bL.cell_ (i := 5) rfl
          refine bodyPost_ret (v := .tuple #[.agg #[.int .u8 ask, .int .u8 who, .int .u32 seq, .int .u64 tok, .slice sa sec.length sec.length, .slice ba bid.length bid.length], .int .i64 0]) (by simp [results, Tryz.results20, go_sem, d0, d1, d2, d3, d4, d5]) rfl ?_
          have e2 := HV.out
          rw [E1.out] at e2
          cases e2
          replace F1 := F1.mono k1.size
          replace F2 := F2.mono k1.size
          exact ⟨sa, ba, rfl, ⟨fr_ok F1 (wf_bytes GS.out), fr_ok F2 (wf_low G.out.low), G.out.ask, G.out.who, G.out.seq, G.out.tok⟩, F1, F2, kz⟩
end Go.Proofs.YtnjjeanbopclhaaGreatDoor
