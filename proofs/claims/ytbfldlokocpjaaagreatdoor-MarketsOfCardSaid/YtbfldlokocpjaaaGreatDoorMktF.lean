/-
  CONTRACT for the package markets: Gains. Conditions: the slices of the market read as lists, and are no longer than memory lets them be.
-/
import Derived.Test.YtbfldlokocpjaaaGreatDoorMktE
import Derived.Test.YtbfldlokocpjaaaGreatDoorBlk
import Derived.Test.YtbfldlokocpjaaaGreatDoorOwnAll
import Derived.Test.YtbfldlokocpjaaaGreatDoorDemF
import Derived.Deep.CutRange
import Derived.IntWalk
namespace Go.Proofs.YtbfldlokocpjaaaGreatDoor
open Go.RowKit

/-- What a bidder gains by an item, above its reserve; -1 if it has no bid. -/
def gainAt (R b : List Int) (k : Nat) : Int := if 0 < b.length then b.getD k 0 - R.getD k 0 else -1
def gainRow (R b : List Int) : List Int := (List.range R.length).map (gainAt R b)
/-- markets.Gains -/
def gainsM (R : List Int) (B : List (List Int)) : List (List Int) := B.map (gainRow R)
/-- A row when k of its numbers are in. -/
def rowK (R b : List Int) (k : Nat) : List Int := (List.range R.length).map fun q => if q < k then gainAt R b q else 0
theorem length_rowK (R b : List Int) (k : Nat) : (rowK R b k).length = R.length := by simp [rowK]
theorem rowK_zero (R b : List Int) : cs .i64 (rowK R b 0) = List.replicate R.length (.int .i64 0) := by
  refine List.ext_getElem (by simp [cs, rowK]) fun i h1 h2 => ?_
  simp [cs, rowK]
theorem rowK_all (R b : List Int) : rowK R b R.length = gainRow R b := by
  unfold rowK gainRow
  refine List.map_congr_left fun q hq => ?_
  rw [if_pos (List.mem_range.1 hq)]
theorem rowK_set (R b : List Int) (k : Nat) : (cs .i64 (rowK R b k)).set k (.int .i64 (gainAt R b k)) = cs .i64 (rowK R b (k + 1)) := by
  unfold cs
  rw [← List.map_set]
  congr 1
  refine List.ext_getElem (by simp [rowK]) fun i h1 h2 => ?_
  rw [List.getElem_set]
  simp only [rowK, List.getElem_map, List.getElem_range]
  by_cases e : k = i
  · subst e
    simp
  · rw [if_neg e]
    by_cases h : i < k
    · rw [if_pos h, if_pos (by omega)]
    · rw [if_neg h, if_neg (by omega)]
theorem gainAt_in {R b : List Int} {k : Nat} {x y : Int} (hb : 0 < b.length) (hx : b[k]? = some x) (hy : R[k]? = some y) : gainAt R b k = x - y := by
  rw [gainAt, if_pos hb, List.getD_eq_getElem?_getD, hx, List.getD_eq_getElem?_getD, hy]
  rfl
theorem gainAt_no {R b : List Int} {k : Nat} (hb : ¬ 0 < b.length) : gainAt R b k = -1 := if_neg hb
/-- A slice value of a row of n. -/
def rv (n : Nat) (h : Nat) : Value := .slice (some ⟨h, 0, none⟩) n n
/-- The outer row when i of its rows are in. -/
def outer (n r : Nat) (hs : Nat → Nat) (i : Nat) : List Value := (List.range n).map fun j => if j < i then rv r (hs j) else .slice none 0 0
theorem outer_set (n r : Nat) (hs : Nat → Nat) (i h : Nat) : (outer n r hs i).set i (rv r h) = outer n r (fun j => if j = i then h else hs j) (i + 1) := by
  unfold outer
  refine List.ext_getElem (by simp) fun j h1 h2 => ?_
  rw [List.getElem_set]
  simp only [List.getElem_map, List.getElem_range]
  by_cases e : i = j
  · subst e
    simp
  · rw [if_neg e]
    by_cases hj : j < i
    · rw [if_pos hj, if_pos (by omega), if_neg (fun h => e h.symm)]
    · rw [if_neg hj, if_neg (by omega)]
theorem outer_zero (n r : Nat) (hs : Nat → Nat) : outer n r hs 0 = List.replicate n (.slice none 0 0) := by
  refine List.ext_getElem (by simp [outer]) fun i h1 h2 => ?_
  simp [outer]
theorem outer_at (n r : Nat) (hs : Nat → Nat) {i j : Nat} (hj : j < n) : (outer n r hs i)[j]? = some (if j < i then rv r (hs j) else .slice none 0 0) := by simp [outer, hj]

theorem rowK_at (R b : List Int) {k : Nat} (h : k < R.length) : (cs .i64 (rowK R b k))[k]? = some (.int .i64 0) := by simp [cs, rowK, h]
theorem only_new {a b c : World} {g h : Nat} (k : a.grownBy b (some g)) (l : b.grownBy c (some h)) (hh : a.heap.size ≤ h) : a.grownBy c (some g) :=
  ⟨l.os.trans k.os, l.tape.trans k.tape, l.output.trans k.output, Nat.le_trans k.size l.size, fun i hi hne => (l.block i (Nat.lt_of_lt_of_le hi k.size) (fun e => by injection e with e; omega)).trans (k.block i hi hne)⟩
theorem gainRow_bd {R b : List Int} (hR : ∀ x ∈ R, 0 ≤ x ∧ x ≤ 1000000) (hb : b.length = 0 ∨ (b.length = R.length ∧ ∀ x ∈ b, 0 ≤ x ∧ x ≤ 1000000)) : ∀ x ∈ gainRow R b, -1000000 ≤ x ∧ x ≤ 1000000 := by
  intro x hx
  unfold gainRow at hx
  rw [List.mem_map] at hx
  obtain ⟨k, hk, rfl⟩ := hx
  rw [List.mem_range] at hk
  by_cases h0 : 0 < b.length
  · obtain ⟨h1, h2⟩ := hb.resolve_left (by omega)
    rw [gainAt_in h0 (List.getElem?_eq_getElem (by omega)) (List.getElem?_eq_getElem hk)]
    have a1 := h2 _ (List.getElem_mem (show k < b.length by omega))
    have a2 := hR _ (List.getElem_mem hk)
    omega
  · rw [gainAt_no h0]
    omega
theorem length_gainRow (R b : List Int) : (gainRow R b).length = R.length := by simp [gainRow]
/-- The rows of an answer. -/
def gainSls (R : List Int) (bs : List Sl) (hs : Nat → Nat) : List Sl := (List.range bs.length).map fun j => ⟨some ⟨hs j, 0, none⟩, R.length, gainRow R ((bidsOf bs).getD j [])⟩
theorem gainSls_val (R : List Int) (bs : List Sl) (hs : Nat → Nat) : (gainSls R bs hs).map Sl.val = outer bs.length R.length hs bs.length := by
  unfold gainSls outer
  rw [List.map_map]
  refine List.map_congr_left fun j hj => ?_
  rw [if_pos (List.mem_range.1 hj)]
  simp [Sl.val, rv, length_gainRow]
theorem gainSls_bids (R : List Int) (bs : List Sl) (hs : Nat → Nat) : bidsOf (gainSls R bs hs) = gainsM R (bidsOf bs) := by
  refine List.ext_getElem (by simp [bidsOf, gainSls, gainsM]) fun j h1 h2 => ?_
  have hj : j < bs.length := by simpa [bidsOf, gainSls] using h1
  simp [bidsOf, gainSls, gainsM, hj]

theorem Blk.fr_ {w : World} {g n base : Nat} {e : TypeId} {vs : List Value} (h : Blk w g e vs) (hl : vs.length = n) (hb : base ≤ g) (hn : n ≤ maxLen) : Fr e w base (some ⟨g, 0, none⟩) n n vs :=
  ⟨hl, Nat.le_refl _, hn, .inr ⟨g, vs.toArray, rfl, hb, h, by simp [hl], by simp [← hl]⟩⟩
/-- What Gains leaves. -/
def GainsP (R : List Int) (B : List (List Int)) (O : List Int) (w : World) (e : Ending) (w' : World) : Prop :=
  if chkM R B O then ∃ (g : Nat) (ss : List Sl), e = .returned (.tuple #[.slice (some ⟨g, 0, none⟩) ss.length ss.length, .int .i64 0]) ∧ InR .i64 w' (some ⟨g, 0, none⟩) ss.length ss ∧ bidsOf ss = gainsM R B ∧ w.heap.size ≤ g ∧ Blk w' g 22 (ss.map Sl.val) ∧ OwnAll w' w.heap.size ss ∧ Keep w w'
  else e = .returned (.tuple #[.slice none 0 0, .int .i64 1]) ∧ Keep w w'

set_option maxRecDepth 100000 in
set_option maxHeartbeats 8000000 in
theorem gainsM_f (M : Mkt) (w : World) (hM : M.Ok w) :
    Calls Tryz.prog 7 #[M.val] w (GainsP M.r.l (bidsOf M.bs) M.o.l w) := by
  have lr := hM.r.len.le
  have lb := hM.b.len.le
  have hck := fun w1 (k1 : Keep w w1) => mcheck_f M w1 (hM.keep k1)
  unfold Mkt.val at hck ⊢
  unfold GainsP
  cases hc : chkM M.r.l (bidsOf M.bs) M.o.l with
  | false =>
    rw [hc] at hck
    simp only [Bool.false_eq_true, if_false]
    clear hc
    go_enter Tryz.func7, Tryz.ntmps7
    go_wp2_with fail
    have k0 : Keep w (w.alloc (.cells #[.slice M.r.a M.r.l.length M.r.c, .slice M.ba M.bs.length M.bc, .slice M.o.a M.o.l.length M.o.c] 25)) := Keep.alloc1 _ _
    refine (hck _ k0).mono ?_
    rintro e w1 ⟨rfl, k1⟩
    go_wp2_with fail
    go_ret2
    exact ⟨rfl, k0.trans k1⟩
  | true =>
    rw [hc] at hck
    simp only [if_true]
    obtain ⟨m1, m2, m3, m4⟩ := chkM_facts hc
    obtain ⟨pr, pb⟩ := chkM_bids hc
    have PR := Lib.hid pr
    have PB := Lib.hid pb
    rw [length_bids] at m3 m4
    clear hc pr pb
    have hmk1 := run_make_row' (P := Tryz.prog) 23 22 (.slice none 0 0) 24 Tryz.underlying23 infoInts rfl .i64 .i64 M.bs.length (by omega) (by omega)
    have hmk2 := run_make_row' (P := Tryz.prog) 22 3 (.int .i64 0) 8 Tryz.underlying22 infoInt rfl .i64 .i64 M.r.l.length (by omega) (by omega)
    go_enter Tryz.func7, Tryz.ntmps7
    go_wp2_with fail
    have k0 : Keep w (w.alloc (.cells #[.slice M.r.a M.r.l.length M.r.c, .slice M.ba M.bs.length M.bc, .slice M.o.a M.o.l.length M.o.c] 25)) := Keep.alloc1 _ _
    have d0 : (w.alloc (.cells #[.slice M.r.a M.r.l.length M.r.c, .slice M.ba M.bs.length M.bc, .slice M.o.a M.o.l.length M.o.c] 25)).cell? ⟨w.heap.size, 0, none⟩ = some (.slice M.r.a M.r.l.length M.r.c) := by simp
    have d1 : (w.alloc (.cells #[.slice M.r.a M.r.l.length M.r.c, .slice M.ba M.bs.length M.bc, .slice M.o.a M.o.l.length M.o.c] 25)).cell? ⟨w.heap.size, 1, none⟩ = some (.slice M.ba M.bs.length M.bc) := by simp
    have d2 : (w.alloc (.cells #[.slice M.r.a M.r.l.length M.r.c, .slice M.ba M.bs.length M.bc, .slice M.o.a M.o.l.length M.o.c] 25)).cell? ⟨w.heap.size, 2, none⟩ = some (.slice M.o.a M.o.l.length M.o.c) := by simp
    generalize w.alloc (.cells #[.slice M.r.a M.r.l.length M.r.c, .slice M.ba M.bs.length M.bc, .slice M.o.a M.o.l.length M.o.c] 25) = w0 at k0 d0 d1 d2 ⊢
    refine (hck _ k0).mono ?_
    rintro e w1 ⟨rfl, k1⟩
    replace d0 := k1.cell d0
    replace d1 := k1.cell d1
    replace k0 := k0.trans k1
    clear hck d2
    have hbx := World.block_lt_of_cell? w1 _ d0
    simp only at hbx
    go_upto_region 4 with fail
    have b1 : Blk (w1.alloc (.cells (madeCells #[.slice none 0 0] M.bs.length) 22)) w1.heap.size 22 (outer M.bs.length M.r.l.length (fun _ => 0) 0) := by
      rw [outer_zero]
      exact Blk.of_make w1 22 (.slice none 0 0) M.bs.length
    have k1' : Keep w1 (w1.alloc (.cells (madeCells #[.slice none 0 0] M.bs.length) 22)) := Keep.alloc1 _ _
    generalize w1.alloc (.cells (madeCells #[.slice none 0 0] M.bs.length) 22) = w2 at b1 k1' ⊢
    replace d0 := k1'.cell d0
    replace d1 := k1'.cell d1
    have hgw := k0.size
    replace k0 := k0.trans k1'
    generalize w1.heap.size = gb at b1 hbx hgw ⊢
    have gd : w.heap.size ≠ gb := by omega
    clear k1 k1' hmk1
    go_wp2_with fail
    go_loopw [19] (fun v wr => ∃ (i : Nat) (hs : Nat → Nat), i ≤ M.bs.length ∧ v = .int .i64 i ∧ Blk wr gb 22 (outer M.bs.length M.r.l.length hs i) ∧ (∀ j s, j < i → M.bs[j]? = some s → hs j ≠ gb ∧ w2.heap.size ≤ hs j ∧ Blk wr (hs j) 3 (cs .i64 (gainRow M.r.l s.l))) ∧ (∀ j j', j < j' → j' < i → hs j ≠ hs j') ∧ w2.grownBy wr (some gb)) (fun v _ => M.bs.length - (intOf v).toNat)
    case atStart => exact ⟨0, fun _ => 0, Nat.zero_le _, rfl, b1, fun j s hj _ => absurd hj (Nat.not_lt_zero _), fun j j' _ hj => absurd hj (Nat.not_lt_zero _), only_refl _ _⟩
    case round =>
      obtain ⟨i, hs, hi, rfl, hb, hrows, hsep, hon⟩ := hrel
      have HS := Lib.hid hsep
      clear hsep
      have hk := k0.only hon hgw
      have hMr := hM.keep hk
      have HR := Lib.hid hrows
      clear hrows
      by_cases hlt : i < M.bs.length
      · obtain ⟨b1', o1, s, hba, hsk, hc1, hs'⟩ := hMr.b.at_ hlt
        have hbb : s.l.length = 0 ∨ (s.l.length = M.r.l.length ∧ ∀ x ∈ s.l, 0 ≤ x ∧ x ≤ 1000000) := PB.out s.l (List.mem_map.2 ⟨s, List.mem_of_getElem? hsk, rfl⟩)
        have HBA := Lib.hid hba
        have HSK := Lib.hid hsk
        have HBB := Lib.hid hbb
        have hsl : s.l.length ≤ 8 := by omega
        have e0 := only_cell hon d0 gd
        have eo := hb.cell_ (outer_at M.bs.length M.r.l.length hs (i := i) hlt)
        rw [if_neg (by omega)] at eo
        have fo := hb.frozen i
        rw [hba]
        clear hsk hbb hba
        go_upto_region 7 with fail
        have ka := Keep.alloc1 wr (.cells (madeCells #[.int .i64 0] M.r.l.length) 3)
        have eo2 := ka.cell eo
        have fo2 := (ka.frozen (p := ⟨gb, i, none⟩) hb.lt).trans fo
        have bh0 : Blk (wr.alloc (.cells (madeCells #[.int .i64 0] M.r.l.length) 3)) wr.heap.size 3 (cs .i64 (rowK M.r.l s.l 0)) := by
          rw [rowK_zero]
          exact Blk.of_make wr 3 (.int .i64 0) M.r.l.length
        have hne : wr.heap.size ≠ gb := by have := hb.lt; omega
        have hb2 : Blk ((wr.alloc (.cells (madeCells #[.int .i64 0] M.r.l.length) 3)).setCell ⟨gb, i, none⟩ (.slice (some ⟨wr.heap.size, 0, none⟩) M.r.l.length M.r.l.length)) gb 22 (outer M.bs.length M.r.l.length (fun j => if j = i then wr.heap.size else hs j) (i + 1)) := by
          have h := (hb.keep ka).set_ i (rv M.r.l.length wr.heap.size)
          rw [outer_set] at h
          exact h
        have bh := bh0.far (p := ⟨gb, i, none⟩) (Ne.symm hne) (.slice (some ⟨wr.heap.size, 0, none⟩) M.r.l.length M.r.l.length)
        have hon2 := only_setCell (only_trans hon (only_keep ka (some gb))) i (.slice (some ⟨wr.heap.size, 0, none⟩) M.r.l.length M.r.l.length)
        have hr2 : ∀ j t, j < i → M.bs[j]? = some t → hs j ≠ gb ∧ w2.heap.size ≤ hs j ∧ hs j < wr.heap.size ∧ Blk ((wr.alloc (.cells (madeCells #[.int .i64 0] M.r.l.length) 3)).setCell ⟨gb, i, none⟩ (.slice (some ⟨wr.heap.size, 0, none⟩) M.r.l.length M.r.l.length)) (hs j) 3 (cs .i64 (gainRow M.r.l t.l)) := fun j t hj ht => by
          obtain ⟨h1, h0, h2⟩ := HR.out j t hj ht
          exact ⟨h1, h0, h2.lt, (h2.keep ka).far (p := ⟨gb, i, none⟩) (Ne.symm h1) _⟩
        have HR2 := Lib.hid hr2
        have hgt : w2.heap.size ≤ wr.heap.size := hon.size
        clear hr2 bh0 ka eo fo
        go_upto_region 8 with fail
        obtain ⟨h, hh⟩ : ∃ h, h = wr.heap.size := ⟨_, rfl⟩
        rw [← hh] at hb2 bh hne HR2 hgt hon2 ⊢
        have hhw : h < ((wr.alloc (.cells (madeCells #[.int .i64 0] M.r.l.length) 3)).setCell ⟨gb, i, none⟩ (.slice (some ⟨wr.heap.size, 0, none⟩) M.r.l.length M.r.l.length)).heap.size := by rw [hh]; simp [World.setCell]
        rw [← hh] at hhw
        generalize (wr.alloc (.cells (madeCells #[.int .i64 0] M.r.l.length) 3)).setCell ⟨gb, i, none⟩ (.slice (some ⟨h, 0, none⟩) M.r.l.length M.r.l.length) = w7 at hb2 bh hon2 HR2 hhw ⊢
        have e7 := only_cell hon2 d0 gd
        have hM7 := hM.keep (k0.only hon2 hgw)
        have ec7 := hb2.cell_ (outer_at M.bs.length M.r.l.length (fun j => if j = i then h else hs j) (i := i + 1) hlt)
        rw [if_pos (by omega)] at ec7
        simp only [if_true, rv] at ec7
        clear hon hMr hk eo2 fo2 hb e0 hh
        go_wp2_with fail
        go_loopw [34] (fun v wr => ∃ m : Nat, m ≤ M.r.l.length ∧ v = .int .i64 m ∧ Blk wr h 3 (cs .i64 (rowK M.r.l s.l m)) ∧ w7.grownBy wr (some h)) (fun v _ => M.r.l.length - (intOf v).toNat)
        case atStart => exact ⟨0, Nat.zero_le _, rfl, bh, only_refl _ _⟩
        case round =>
          obtain ⟨m, hm, rfl, hbk, hoq⟩ := hrel
          have hwh : w.heap.size ≤ h := Nat.le_trans k0.size hgt
          have kq := (k0.only hon2 hgw).only hoq hwh
          have hMq := hM.keep kq
          have ecq := only_cell hoq ec7 (Ne.symm hne)
          by_cases hml : m < M.r.l.length
          · obtain ⟨br, or, y, hra, hym, hcy⟩ := hMq.r.rd.int_at hml
            have by_ := PR.out y (List.mem_of_getElem? hym)
            have chm := hbk.cell_ (rowK_at M.r.l s.l hml)
            have fhm := hbk.frozen m
            have HYM := Lib.hid hym
            have HRA := Lib.hid hra
            clear hym
            rw [hra]
            clear hra
            by_cases hbl : 0 < s.l.length
            · have hls := (HBB.out.resolve_left (by omega)).1
              have hsq := hMq.b.ok s (List.mem_of_getElem? HSK.out)
              obtain ⟨b2, o2, x, hsa, hxm, hcx⟩ := hsq.rd.int_at (j := m) (by omega)
              have bx := (HBB.out.resolve_left (by omega)).2 x (List.mem_of_getElem? hxm)
              have hb2w : b2 ≠ h := by
                obtain ⟨b3, o3, x3, e3, _, hc3⟩ := (hM.b.ok s (List.mem_of_getElem? HSK.out)).rd.int_at (j := m) (by omega)
                rw [hsa] at e3
                cases e3
                have := World.block_lt_of_cell? w _ hc3
                simp only at this
                omega
              have HG := Lib.hid (gainAt_in hbl hxm HYM.out)
              have hbl' : (0 : Int) < s.l.length := by omega
              rw [hsa]
              clear hxm hsa hls
              go_upto_region 13 with fail
              have s1 := hbk.set_ m (.int .i64 (-1))
              have o1' := only_setCell hoq m (.int .i64 (-1))
              have c1' : (wr.setCell ⟨h, m, none⟩ (.int .i64 (-1))).cell? ⟨b2, o2 + m, none⟩ = some (.int .i64 x) := (World.cell?_setCell_other wr ⟨h, m, none⟩ ⟨b2, o2 + m, none⟩ _ (fun e => by injection e with e1; exact hb2w e1.symm)).trans hcx
              generalize wr.setCell ⟨h, m, none⟩ (.int .i64 (-1)) = w13 at s1 o1' c1' ⊢
              have c2' := only_cell o1' ec7 (Ne.symm hne)
              have hlen : m < ((cs .i64 (rowK M.r.l s.l m)).set m (.int .i64 (-1))).length := by rw [List.length_set, length_cs, length_rowK]; exact hml
              have c3' := s1.cell_ (List.getElem?_eq_getElem hlen)
              rw [List.getElem_set_self] at c3'
              have f3' := s1.frozen m
              have s2 := s1.set_ m (.int .i64 (x - y))
              rw [List.set_set, ← HG.out, rowK_set] at s2
              have o2' := only_setCell o1' m (.int .i64 (x - y))
              have t1' : (w13.setCell ⟨h, m, none⟩ (.int .i64 (x - y))).cell? ⟨b2, o2 + m, none⟩ = some (.int .i64 x) := (World.cell?_setCell_other w13 ⟨h, m, none⟩ ⟨b2, o2 + m, none⟩ _ (fun e => by injection e with e1; exact hb2w e1.symm)).trans c1'
              have t2' := only_cell o2' ec7 (Ne.symm hne)
              have jx : IntKind.i64.wrap (x - y) = x - y := IntWalk.i64_in _ (by omega)
              have z1 : (0 : Int) ≤ m := by omega
              have z2 : (m : Int) < s.l.length := by have := (HBB.out.resolve_left (by omega)).1; omega
              have z3 : (m : Int) < M.r.l.length := by omega
              have z4 : (0 : Int) ≤ i := by omega
              have z5 : (i : Int) < M.bs.length := by omega
              clear chm fhm hcx hcy ecq
              refine wp_region_noPanic ?_
              refine wp_region_held_drew (S := (fun w' => w'.cell? ⟨gb, i, none⟩ = some (.slice (some ⟨h, 0, none⟩) M.r.l.length M.r.l.length) ∧ w'.cell? ⟨b2, o2 + m, none⟩ = some (.int .i64 x))) (by kernel_rfl) ⟨c2', c1'⟩ (fun hS => ?_)
              refine wpAnyH_take (i := 0) (v := ?_) rfl (by kernel_rfl) (by kernel_rfl) (by kernel_rfl) (fun _ _ _ h => h) (Or.inl ⟨by rfl, ?_⟩) hS ?_
              rotate_left
              · (intro w hSw; (try dsimp only at hSw); go_simp; (first | done | with_reducible rfl))
              change wpAnyH _ _ _ _ _ _ _ (Act.put _ (some 48) _) _
              simp only [Act.put, List.setIfInBounds_toArray, List.set_cons_zero, List.set_cons_succ]
              refine wpAnyH_take (i := 1) (v := ?_) rfl (by kernel_rfl) (by kernel_rfl) (by kernel_rfl) (fun _ _ _ h => h) (Or.inl ⟨by rfl, ?_⟩) hS ?_
              rotate_left
              · (intro w hSw; (try dsimp only at hSw); go_simp; (first | done | with_reducible rfl))
              change wpAnyH _ _ _ _ _ _ _ (Act.put _ (some 49) _) _
              simp only [Act.put, List.setIfInBounds_toArray, List.set_cons_zero, List.set_cons_succ]
              refine wpAnyH_take (i := 2) (v := ?_) rfl (by kernel_rfl) (by kernel_rfl) (by kernel_rfl) (fun _ _ _ h => h) (Or.inl ⟨by rfl, ?_⟩) hS ?_
              rotate_left
              · (intro w hSw; (try dsimp only at hSw); go_simp; (first | done | with_reducible rfl))
              change wpAnyH _ _ _ _ _ _ _ (Act.put _ (some 50) _) _
              simp only [Act.put, List.setIfInBounds_toArray, List.set_cons_zero, List.set_cons_succ]
              refine wpAnyH_take (i := 3) (v := ?_) rfl (by kernel_rfl) (by kernel_rfl) (by kernel_rfl) (fun _ _ _ h => h) (Or.inl ⟨by rfl, ?_⟩) hS ?_
              rotate_left
              · (intro w hSw; (try dsimp only at hSw); go_simp; (first | done | with_reducible rfl))
              change wpAnyH _ _ _ _ _ _ _ (Act.put _ (some 51) _) _
              simp only [Act.put, List.setIfInBounds_toArray, List.set_cons_zero, List.set_cons_succ]
              refine wpAnyH_take (i := 4) (v := ?_) rfl (by kernel_rfl) (by kernel_rfl) (by kernel_rfl) (fun _ _ _ h => h) (Or.inl ⟨by rfl, ?_⟩) hS ?_
              rotate_left
              · (intro w hSw; (try dsimp only at hSw); go_simp; (first | done | with_reducible rfl))
              change wpAnyH _ _ _ _ _ _ _ (Act.put _ (some 52) _) _
              simp only [Act.put, List.setIfInBounds_toArray, List.set_cons_zero, List.set_cons_succ]
              refine wpAnyH_take (i := 5) (v := ?_) rfl (by kernel_rfl) (by kernel_rfl) (by kernel_rfl) (fun _ _ _ h => h) (Or.inl ⟨by rfl, ?_⟩) hS ?_
              rotate_left
              · (intro w hSw; (try dsimp only at hSw); go_simp; (first | done | with_reducible rfl))
              change wpAnyH _ _ _ _ _ _ _ (Act.put _ (some 53) _) _
              simp only [Act.put, List.setIfInBounds_toArray, List.set_cons_zero, List.set_cons_succ]
              refine wpAnyH_take (i := 6) (v := ?_) rfl (by kernel_rfl) (by kernel_rfl) (by kernel_rfl) (fun _ _ _ h => h) (Or.inl ⟨by rfl, ?_⟩) hS ?_
              rotate_left
              · (intro w hSw; (try dsimp only at hSw); go_simp; (first | done | with_reducible rfl))
              change wpAnyH _ _ _ _ _ _ _ (Act.put _ (some 54) _) _
              simp only [Act.put, List.setIfInBounds_toArray, List.set_cons_zero, List.set_cons_succ]
              refine wpAnyH_take (i := 7) (v := ?_) rfl (by kernel_rfl) (by kernel_rfl) (by kernel_rfl) (fun _ _ _ h => h) (Or.inl ⟨by rfl, ?_⟩) hS ?_
              rotate_left
              · (intro w hSw; (try dsimp only at hSw); go_simp; (first | done | with_reducible rfl))
              change wpAnyH _ _ _ _ _ _ _ (Act.put _ (some 55) _) _
              simp only [Act.put, List.setIfInBounds_toArray, List.set_cons_zero, List.set_cons_succ]
              refine wpAnyH_take (i := 8) (v := ?_) rfl (by kernel_rfl) (by kernel_rfl) (by kernel_rfl) (fun _ _ _ h => h) (Or.inl ⟨by rfl, ?_⟩) hS ?_
              rotate_left
              · (intro w hSw; (try dsimp only at hSw); go_simp; (first | done | with_reducible rfl))
              change wpAnyH _ _ _ _ _ _ _ (Act.put _ (some 56) _) _
              simp only [Act.put, List.setIfInBounds_toArray, List.set_cons_zero, List.set_cons_succ]
              refine wpAnyH_take (i := 9) (v := ?_) rfl (by kernel_rfl) (by kernel_rfl) (by kernel_rfl) (fun _ _ _ h => h) (Or.inl ⟨by rfl, ?_⟩) hS ?_
              rotate_left
              · (intro w hSw; (try dsimp only at hSw); go_simp; (first | done | with_reducible rfl))
              change wpAnyH _ _ _ _ _ _ _ (Act.put _ (some 57) _) _
              simp only [Act.put, List.setIfInBounds_toArray, List.set_cons_zero, List.set_cons_succ]
              refine wpAnyH_take (i := 10) (v := ?_) rfl (by kernel_rfl) (by kernel_rfl) (by kernel_rfl) (fun _ _ _ h => h) (Or.inl ⟨by rfl, ?_⟩) hS ?_
              rotate_left
              · (intro w hSw; (try dsimp only at hSw); go_simp; (first | done | with_reducible rfl))
              change wpAnyH _ _ _ _ _ _ _ (Act.put _ (some 58) _) _
              simp only [Act.put, List.setIfInBounds_toArray, List.set_cons_zero, List.set_cons_succ]
              refine wpAnyH_take (i := 11) (v := ?_) rfl (by kernel_rfl) (by kernel_rfl) (by kernel_rfl) (fun _ _ _ h => h) (Or.inl ⟨by rfl, ?_⟩) hS ?_
              rotate_left
              · (intro w hSw; (try dsimp only at hSw); go_simp; (first | done | with_reducible rfl))
              change wpAnyH _ _ _ _ _ _ _ (Act.put _ (some 59) _) _
              simp only [Act.put, List.setIfInBounds_toArray, List.set_cons_zero, List.set_cons_succ]
              refine wpAnyH_ready (rs := [12]) (by kernel_rfl) (by simp) ?_
              refine AllReadyH.cons rfl (fun K hK => ?_) AllReadyH.nil
              go_simp
              refine hK.out _ _ ⟨t2', t1'⟩ (fun hS => ?_)
              clear hK K
              try simp only [Act.put, List.setIfInBounds_toArray, List.set_cons_zero, List.set_cons_succ]
              refine wpAnyH_done (by kernel_rfl) ?_ _
              refine NoPanic.normal ?_
              go_wp2_with fail
              go_roundw
              case rel => exact ⟨m + 1, by omega, by go_num, (by rw [HG.out] at s2; exact s2.keep ((Keep.refl _).drew)), only_drew o2'⟩
              case measure => simp [intOf]; omega
            · have hbl2 : (s.l.length = 0) = True := eq_true (by omega)
              have hbl3 : decide (0 < s.l.length) = false := decide_eq_false hbl
              have s1 := hbk.set_ m (.int .i64 (-1))
              rw [← gainAt_no (R := M.r.l) (k := m) hbl, rowK_set, gainAt_no hbl] at s1
              have HS1 := Lib.hid s1
              clear s1
              go_wp2_with fail
              go_roundw
              case rel => exact ⟨m + 1, by omega, by go_num, HS1.out, only_setCell hoq m _⟩
              case measure => simp [intOf]; omega
          · obtain rfl : m = M.r.l.length := by omega
            rw [rowK_all] at hbk
            go_wp2_with fail
            go_roundw
            case rel =>
              refine ⟨i + 1, fun j => if j = i then h else hs j, by omega, by go_num, hb2.grown hoq (fun e => hne (by injection e with e; exact e.symm)), ?_, ?_, only_new hon2 hoq hgt⟩
              rotate_left
              · intro j j' h1 h2
                have hjl : M.bs[j]? = some (M.bs[j]'(by omega)) := List.getElem?_eq_getElem (by omega)
                by_cases e : j' = i
                · subst e
                  simp only [if_true, if_neg (show ¬ j = j' by omega)]
                  have := (HR2.out j _ h1 hjl).2.2.1
                  omega
                · simp only [if_neg e, if_neg (show ¬ j = i by omega)]
                  exact HS.out j j' h1 (by omega)
              intro j t hj ht
              by_cases e : j = i
              · subst e
                rw [HSK.out] at ht
                cases ht
                simp only [if_true]
                exact ⟨hne, hgt, hbk⟩
              · simp only [if_neg e]
                obtain ⟨r1, r0, r2, r3⟩ := HR2.out j t (by omega) ht
                exact ⟨r1, r0, r3.grown hoq (fun e => by injection e with e; omega)⟩
            case measure => simp [intOf]; omega
      · obtain rfl : i = M.bs.length := by omega
        go_wp2_with fail
        go_ret2
        have hlen : (gainSls M.r.l M.bs hs).length = M.bs.length := by simp [gainSls]
        refine ⟨gb, gainSls M.r.l M.bs hs, by rw [hlen]; rfl, ⟨?_, Nat.le_refl _, by rw [hlen]; unfold maxLen; omega, ?_⟩, gainSls_bids _ _ _, hgw, by rw [gainSls_val]; exact hb, ⟨fun s hs' => ?_, ?_⟩, hk⟩
        · rw [gainSls_val]
          exact hb.rd
        · intro s hs'
          unfold gainSls at hs'
          rw [List.mem_map] at hs'
          obtain ⟨j, hj, rfl⟩ := hs'
          rw [List.mem_range] at hj
          have hjs : M.bs[j]? = some M.bs[j] := List.getElem?_eq_getElem hj
          obtain ⟨r1, _, r2⟩ := HR.out j _ hj hjs
          have e1 : (bidsOf M.bs).getD j [] = M.bs[j].l := by simp [bidsOf, hj]
          rw [e1]
          refine ⟨⟨r2.rd, by simp [length_gainRow], by simp only; unfold maxLen; omega, fun x hx => ?_⟩, fun h => by cases h⟩
          have := gainRow_bd PR.out (PB.out _ (List.mem_map.2 ⟨_, List.getElem_mem hj, rfl⟩)) x hx
          exact WalkArith.wf_i64 (by omega)
        · unfold gainSls at hs'
          rw [List.mem_map] at hs'
          obtain ⟨j, hj, rfl⟩ := hs'
          rw [List.mem_range] at hj
          have hjs : M.bs[j]? = some M.bs[j] := List.getElem?_eq_getElem hj
          obtain ⟨r1, r0, r2⟩ := HR.out j _ hj hjs
          have e1 : (bidsOf M.bs).getD j [] = M.bs[j].l := by simp [bidsOf, hj]
          rw [e1]
          have h9 := k0.size
          simp only [length_gainRow]
          exact r2.fr_ (by rw [length_cs, length_gainRow]) (by omega) (by unfold maxLen; omega)
        · unfold gainSls
          rw [List.pairwise_map]
          refine List.Pairwise.imp_of_mem (fun {j j'} hj hj' hlt => ?_) List.pairwise_lt_range
          rw [List.mem_range] at hj'
          intro k h1 h2
          unfold ownB at h1 h2
          split at h1
          · cases h1
          · split at h2
            · cases h2
            · simp only [Option.map_some, Option.some.injEq] at h1 h2
              exact HS.out j j' hlt hj' (h1.trans h2.symm)
end Go.Proofs.YtbfldlokocpjaaaGreatDoor
