/-
  CONTRACTS of the laws' Book: a list of lists of ints, a market, is kept, with all lists within it. Conditions: those that each theorem states.
-/
import Derived.Test.YtjaaganaohjmaaaGreatDoorBookP
import Derived.Test.YtjaaganaohjmaaaGreatDoorMktC
namespace Go.Proofs.YtjaaganaohjmaaaGreatDoor
open Go.RowKit

/-- Lists as the Book holds them, numbered from n + 1. -/
def hdsOf (n : Nat) (ts : List Sl) : List Hd := ts.mapIdx fun i t => ⟨t.a, t.c, t.l.length, n + 1 + i, none, 0, 0⟩
theorem hdsOf_take {n k : Nat} {ts : List Sl} {t : Sl} (h : ts[k]? = some t) : hdsOf n (ts.take (k + 1)) = hdsOf n (ts.take k) ++ [⟨t.a, t.c, t.l.length, n + k + 1, none, 0, 0⟩] := by
  have hk := (List.getElem?_eq_some_iff.1 h).1
  unfold hdsOf
  rw [List.take_add_one, h, List.mapIdx_append]
  simp only [Option.toList, List.mapIdx_cons, List.mapIdx_nil, List.length_take]
  rw [Nat.min_eq_left (by omega), show n + 1 + (0 + k) = n + k + 1 by omega]
theorem length_hdsOf (n : Nat) (ts : List Sl) : (hdsOf n ts).length = ts.length := by unfold hdsOf; simp

theorem BkL.mono {w : World} {base b' g n : Nat} {hb hi hl : List Hd} {vb vi vl : Value} (h : BkL w base g n hb hi hl vb vi vl) (hb' : b' ≤ base) : BkL w b' g n hb hi hl vb vi vl := ⟨h.b, h.rb.mono hb', h.ri.mono hb', h.rl.mono hb', Nat.le_trans hb' h.g⟩
/-- A Book that is new. -/
theorem BkL.new (w : World) : BkL (w.alloc (.cells #[.int .i64 0, .slice none 0 0, .slice none 0 0, .slice none 0 0, .slice none 0 0, .slice none 0 0, .slice none 0 0, .slice none 0 0, .slice none 0 0, .slice none 0 0] 49)) w.heap.size w.heap.size 0 [] [] [] (.slice none 0 0) (.slice none 0 0) (.slice none 0 0) :=
  ⟨Blk.new w _ _, HRow.nil _ _ _, HRow.nil _ _ _, HRow.nil _ _ _, Nat.le_refl _⟩
section
variable {w0 w w' : World} {g n : Nat} {hb hi hl : List Hd} {vb vi vl : Value}
theorem BkL.stepB (hk : BkL w w0.heap.size g n hb hi hl vb vi vl) (kk : Keep w0 w) (h : But (fun q => q = g ∨ vb.ownBlock = some q) w w') : Keep w0 w' :=
  kk.but h fun q hq => hq.elim (fun e => e ▸ hk.g) (hk.rb.own_ge q)
theorem BkL.stepI (hk : BkL w w0.heap.size g n hb hi hl vb vi vl) (kk : Keep w0 w) (h : But (fun q => q = g ∨ vi.ownBlock = some q) w w') : Keep w0 w' :=
  kk.but h fun q hq => hq.elim (fun e => e ▸ hk.g) (hk.ri.own_ge q)
theorem BkL.stepL (hk : BkL w w0.heap.size g n hb hi hl vb vi vl) (kk : Keep w0 w) (h : But (fun q => q = g ∨ vl.ownBlock = some q) w w') : Keep w0 w' :=
  kk.but h fun q hq => hq.elim (fun e => e ▸ hk.g) (hk.rl.own_ge q)
end
theorem Blk.offMk {w : World} {g : Nat} {l l' : List Value} (h : Blk w g 49 l) (h' : Blk w g 65 l') : False := by
  unfold Blk at h h'
  rw [h] at h'
  injection h' with h'
  injection h' with _ ht
  exact absurd ht (by decide)
theorem HoldsL.of {w : World} {base : Nat} {hb hi hl : List Hd} (h1 : Held 5 w base hb) (h2 : Held 3 w base hi) (h3 : Held 26 w base hl) (l1 : hb.length ≤ 10000) (l2 : hi.length ≤ 10000) (l3 : hl.length ≤ 10000) : HoldsL w base hb hi hl :=
  ⟨h1.f, h2.f, h3.f, h1.aparts, h2.aparts, h3.aparts, h1.m, h2.m, fun h x => (h3.m h x).2, l1, l2, l3⟩

set_option maxRecDepth 100000 in
set_option maxHeartbeats 4000000 in
theorem bookListsL_f (g n : Nat) (hb hi hl : List Hd) (vb vi vl : Value) (A : Option Addr) (c : Nat) (ts : List Sl) (w0 w : World) (hk : BkL w w0.heap.size g n hb hi hl vb vi vl) (kk : Keep w0 w) (hr : Rd w0 A (ts.map Sl.val)) (hn : n + ts.length ≤ 9000) (hil : hi.length + ts.length ≤ 9000) (hll : hl.length ≤ 9000) :
    Calls Tryz.prog 38 #[pK g, .slice A ts.length c] w fun e w' => e = .returned (.tuple #[]) ∧ (∃ vi' vl', BkL w' w0.heap.size g (n + ts.length + 1) hb (hi ++ hdsOf n ts) (hl ++ [⟨A, c, ts.length, n + ts.length + 1, none, 0, 0⟩]) vb vi' vl') ∧ Keep w0 w' ∧ (∀ gA l, Blk w gA 65 l → Blk w' gA 65 l) := by
  unfold pK
  go_enter Tryz.func38, Tryz.ntmps38
  go_wp2_with fail
  go_loopw [4] (fun v wr => ∃ (k : Nat) (vi' : Value), k ≤ ts.length ∧ v = .int .i64 k ∧ BkL wr w0.heap.size g (n + k) hb (hi ++ hdsOf n (ts.take k)) hl vb vi' vl ∧ Keep w0 wr ∧ (∀ gA l, Blk w gA 65 l → Blk wr gA 65 l)) (fun v _ => ts.length - (intOf v).toNat)
  case atStart => exact ⟨0, vi, Nat.zero_le _, rfl, by rw [List.take_zero, Nat.add_zero]; unfold hdsOf; rw [List.mapIdx_nil, List.append_nil]; exact hk, kk, fun _ _ h => h⟩
  case round =>
    obtain ⟨k, vi', hkl, rfl, hbk, hkk, hmm⟩ := hrel
    have HM := Lib.hid hmm
    clear hmm
    by_cases hlt : k < ts.length
    · obtain ⟨b1, o1, ha, hc⟩ := (hr.keep hkk).at_ (j := k) (by rw [List.length_map]; exact hlt)
      obtain ⟨t, ht⟩ : ∃ t, ts[k]? = some t := ⟨_, List.getElem?_eq_getElem hlt⟩
      rw [List.getElem_map, (List.getElem?_eq_some_iff.1 ht).2] at hc
      unfold Sl.val at hc
      have hlen : (hi ++ hdsOf n (ts.take k)).length ≤ 10000 := by rw [List.length_append, length_hdsOf, List.length_take]; omega
      have hq := bookIntsL_f g (n + k) w0.heap.size hb (hi ++ hdsOf n (ts.take k)) hl vb vi' vl t.a t.l.length t.c wr hbk (by omega) hlen
      have HT := Lib.hid ht
      have HA := Lib.hid ha
      unfold pK at hq
      rw [ha]
      have hk0 : (0 : Int) ≤ k := by omega
      have hk1 : (k : Int) < ts.length := by omega
      clear ht ha hlen
      go_wp2_with fail
      refine hq.mono ?_
      rintro e w1 ⟨rfl, v', hb1, hbut⟩
      have hkk1 := hbk.stepI hkk hbut
      have HM1 := Lib.hid (fun gA l (h : Blk w gA 65 l) => (HM.out gA l h).but hbut (fun h' => h'.elim (fun e => hbk.b.offMk (e ▸ HM.out gA l h)) ((HM.out gA l h).offRow hbk.ri (by decide))))
      rw [List.append_assoc, ← hdsOf_take HT.out] at hb1
      clear hq hbut hbk
      go_wp2_with fail
      go_roundw
      case rel => exact ⟨k + 1, v', by omega, by go_num, hb1, hkk1, HM1.out⟩
      case measure => simp [intOf]; omega
    · obtain rfl : k = ts.length := by omega
      rw [List.take_of_length_le (Nat.le_refl _)] at hbk
      have hq := keepIntListL_f g (n + ts.length) w0.heap.size hb (hi ++ hdsOf n ts) hl vb vi' vl A ts.length c wr hbk (by omega) (by omega)
      unfold pK at hq
      go_wp2_with fail
      refine hq.mono ?_
      rintro e w1 ⟨rfl, v', hb1, hbut⟩
      have hkk1 := hbk.stepL hkk hbut
      have HM1 := Lib.hid (fun gA l (h : Blk w gA 65 l) => (HM.out gA l h).but hbut (fun h' => h'.elim (fun e => hbk.b.offMk (e ▸ HM.out gA l h)) ((HM.out gA l h).offRow hbk.rl (by decide))))
      clear hq hbut hbk
      go_wp2_with fail
      go_end0
      exact ⟨rfl, ⟨vi', v', hb1⟩, hkk1, HM1.out⟩

set_option maxRecDepth 100000 in
set_option maxHeartbeats 4000000 in
theorem bookMarketL_f (g n : Nat) (hb hi hl : List Hd) (vb vi vl : Value) (M : Mkt) (w0 w : World) (hk : BkL w w0.heap.size g n hb hi hl vb vi vl) (kk : Keep w0 w) (hr : Rd w0 M.ba (M.bs.map Sl.val)) (hn : n + M.bs.length ≤ 8000) (hil : hi.length + M.bs.length ≤ 8000) (hll : hl.length ≤ 8000) :
    Calls Tryz.prog 36 #[pK g, M.val] w fun e w' => e = .returned (.tuple #[]) ∧ (∃ vi' vl', BkL w' w0.heap.size g (n + M.bs.length + 3) hb (hi ++ [⟨M.r.a, M.r.c, M.r.l.length, n + 1, none, 0, 0⟩] ++ hdsOf (n + 1) M.bs ++ [⟨M.o.a, M.o.c, M.o.l.length, n + M.bs.length + 3, none, 0, 0⟩]) (hl ++ [⟨M.ba, M.bc, M.bs.length, n + M.bs.length + 2, none, 0, 0⟩]) vb vi' vl') ∧ Keep w0 w' := by
  unfold pK Mkt.val
  have bA := Blk.new w 65 [.slice M.r.a M.r.l.length M.r.c, .slice M.ba M.bs.length M.bc, .slice M.o.a M.o.l.length M.o.c]
  have k0 : Keep w (w.alloc (.cells #[.slice M.r.a M.r.l.length M.r.c, .slice M.ba M.bs.length M.bc, .slice M.o.a M.o.l.length M.o.c] 65)) := Keep.alloc1 _ _
  have hgA : g < w.heap.size := hk.b.lt
  go_enter Tryz.func36, Tryz.ntmps36
  go_upto_region 1 with fail
  replace hk := hk.keep k0
  replace kk := kk.trans k0
  change Code.wp _ _ _ _ (w.alloc (.cells #[.slice M.r.a M.r.l.length M.r.c, .slice M.ba M.bs.length M.bc, .slice M.o.a M.o.l.length M.o.c] 65))
  generalize hw1 : (w.alloc (.cells #[.slice M.r.a M.r.l.length M.r.c, .slice M.ba M.bs.length M.bc, .slice M.o.a M.o.l.length M.o.c] 65)) = w1 at bA hk kk k0 ⊢
  clear hw1
  generalize w.heap.size = gA at bA hgA ⊢
  clear k0
  have c0 := bA.cell_ (i := 0) rfl
  have hq := bookIntsL_f g n w0.heap.size hb hi hl vb vi vl M.r.a M.r.l.length M.r.c w1 hk (by omega) (by omega)
  unfold pK at hq
  go_wp2_with fail
  refine hq.mono ?_
  rintro e w2 ⟨rfl, v1, hb1, hbut⟩
  have kk1 := hk.stepI kk hbut
  have bA1 := bA.but hbut (fun h => h.elim (fun e => by omega) (bA.offRow hk.ri (by decide)))
  clear hq hbut hk kk bA c0
  have c1 := bA1.cell_ (i := 1) rfl
  have hq := bookListsL_f g (n + 1) hb (hi ++ [⟨M.r.a, M.r.c, M.r.l.length, n + 1, none, 0, 0⟩]) hl vb v1 vl M.ba M.bc M.bs w0 w2 hb1 kk1 hr (by omega) (by rw [List.length_append]; simp; omega) (by omega)
  unfold pK at hq
  go_wp2_with fail
  refine hq.mono ?_
  rintro e w3 ⟨rfl, ⟨v2, v3, hb2⟩, kk2, hmm⟩
  have bA2 := hmm gA _ bA1
  clear hq hmm bA1 hb1 kk1 c1
  have c2 := bA2.cell_ (i := 2) rfl
  have hq := bookIntsL_f g _ w0.heap.size hb _ _ vb v2 v3 M.o.a M.o.l.length M.o.c w3 hb2 (by omega) (by rw [List.length_append, List.length_append, length_hdsOf]; simp; omega)
  unfold pK at hq
  go_wp2_with fail
  refine hq.mono ?_
  rintro e w4 ⟨rfl, v4, hb3, hbut⟩
  have kk3 := hb2.stepI kk2 hbut
  rw [show n + 1 + M.bs.length + 1 = n + M.bs.length + 2 by omega] at hb3
  have HB := Lib.hid hb3
  clear hq hbut hb2 kk2 hb3 c2 bA2
  go_wp2_with fail
  go_end0
  exact ⟨rfl, ⟨v4, v3, HB.out⟩, kk3⟩
end Go.Proofs.YtjaaganaohjmaaaGreatDoor
