/-
  SEVERAL TEXTS IN ONE (merged by a program of mine: a claim has at most 60 files). CONTRACTS of the laws' copies: of a list of ints, of a list of such lists: in memory of their own, a mark in the room behind. Conditions: the slices read as lists, and are not too long. CONTRACT of the laws' copy of a market: in memory of its own, marks in the room behind. Conditions: the slices of the market read as lists, and are not too long. PLAIN LAWS of markets (no program in sight): the bytes of a market that may be. Conditions: those that each theorem states. CONTRACT for the package demands: All. Conditions: the slices of the market and the prices read as lists, and are no longer than memory lets them be. WORDS ON MEMORY: lists of lists of the call's own. Plain theorems. Conditions: those that each theorem states. CONTRACTS of demands.All and of the document's All in one word, whether they refuse or not. Conditions: the slices of the market, and the prices, read as lists. CONTRACTS of the laws' LeftInts: a copy that stands as it was made reads so, its mark too. Conditions: the slices read as lists, the copy is of the call's own. CONTRACTS of the laws' LeftIntLists, LeftMarket: a copy that stands as it was made reads so, its marks too. Conditions: the slices read as lists, the copy is of the call's own. CONTRACTS of the laws' sizes of a list of lists of ints, of a market: where they are small, all that lies within is. Conditions: the slices read as lists. WORDS ON MEMORY: held lists joined; a copied market as the call's own. Plain theorems. Conditions: those that each theorem states. THE WALK OF THE 5 DemandsAll: it answers true, and turns nothing that was there. Conditions: the arguments are a market that came in, no slice of it longer than the form lets it be, and a slice of ints that came in.
-/
import Derived.Test.YtjaaganaohjmaaaGreatDoorMktHa
import Derived.Test.YtjaaganaohjmaaaGreatDoorOwnAll
import Derived.Lib.JoinLaws
import Derived.Test.YtjaaganaohjmaaaGreatDoorTwinI
import Derived.Deep.RegionHeld3
import Derived.Test.YtjaaganaohjmaaaGreatDoorDemF
import Derived.Deep.CutRange
import Derived.Test.YtjaaganaohjmaaaGreatDoorOwnM
import Derived.Test.YtjaaganaohjmaaaGreatDoorRefF
import Derived.Test.YtjaaganaohjmaaaGreatDoorDemP
import Derived.Test.YtjaaganaohjmaaaGreatDoorSized
import Derived.IntWalk
import Derived.BigQuiet
import Derived.Deep.QuietTactic

namespace Go.Proofs.YtjaaganaohjmaaaGreatDoor
open Go.RowKit

/-- A value that stands as a slice is one cell. -/
theorem one_sl (s : Sl) : ∀ u ∈ [s.val], u.oneCell' = true := by
  intro u hu
  rw [List.mem_singleton] at hu
  subst hu
  rfl
/-- Copies of the call's own, in rows apart. -/
def Twins (w : World) (base : Nat) (ts : List Sl) : Prop := (∀ t ∈ ts, Twin w base t) ∧ ts.Pairwise Sep
theorem Twins.keep {w w' : World} {base : Nat} {ts : List Sl} (h : Twins w base ts) (hk : Keep w w') : Twins w' base ts := ⟨fun t ht => (h.1 t ht).keep hk, h.2⟩
theorem Twins.snoc {w : World} {base : Nat} {ts : List Sl} {t : Sl} (h : Twins w base ts) (ht : Twin w base t) (hn : ∀ u ∈ ts, Sep u t) : Twins w base (ts ++ [t]) := by
  refine ⟨fun u hu => ?_, ?_⟩
  · rcases List.mem_append.1 hu with hu | hu
    · exact h.1 u hu
    · rw [List.mem_singleton] at hu
      exact hu ▸ ht
  · rw [List.pairwise_append]
    refine ⟨h.2, List.pairwise_singleton _ _, fun u hu v hv => ?_⟩
    rw [List.mem_singleton] at hv
    exact hv ▸ hn u hu
/-- What lay ahead lies apart from what is new. -/
theorem Sep.new {w w' : World} {base : Nat} {s t : Sl} {e e' : TypeId} {n n' : Nat} {vs vs' : List Value} (h : Fr e w base s.a n s.c vs) (h' : Fr e' w' w.heap.size t.a n' t.c vs') : Sep s t := fun k hk e => by
  have h1 := (h.own_ge hk).2
  have h2 := (h'.own_ge e).1
  omega
/-- An append onto a row of slices leaves the copies. -/
theorem Twins.appended {w w' : World} {base : Nat} {ts : List Sl} {A A' : Option Addr} {c c' n n' : Nat} {us vs : List Value} (h : Twins w base ts) (hf : Fr 26 w base A n c us) (happ : Appended 26 w base A c n' vs A' c' w') : Twins w' base ts :=
  ⟨fun t ht => Fr.grown (h.1 t ht) happ.2.1 fun k hk e => Fr.offtype (h.1 t ht) hf (by decide) k hk e, h.2⟩

set_option maxRecDepth 100000 in
set_option maxHeartbeats 4000000 in
theorem twinLists_f (A : Option Addr) (c : Nat) (ss : List Sl) (w : World) (ha : InR .i64 w A c ss) (hn : ss.length ≤ 1000000) (hh : Short ss) :
    Calls Tryz.prog 90 #[.slice A ss.length c] w fun e w' => ∃ (A' : Option Addr) (c' : Nat) (ts : List Sl) (z : Sl), e = .returned (.slice A' ss.length c') ∧ bidsOf ts = bidsOf ss ∧ z.l = [77] ∧ Twins w' w.heap.size ts ∧ Fr 26 w' w.heap.size A' (ss.length + 1) c' (ts.map Sl.val ++ [z.val]) ∧ Fr 3 w' w.heap.size z.a 1 z.c (cs .i64 z.l) ∧ Keep w w' := by
  have hmk : ∀ w : World, (Instr.makeSlice 63 (.int .i64 0) (.int .i64 ((ss.length : Int) + 1))).run Tryz.prog w = .ok (.slice (some ⟨w.heap.size, 0, none⟩) 0 (ss.length + 1)) (w.alloc (.cells (madeCells #[.slice none 0 0] (ss.length + 1)) 26)) := fun w => run_make_room (P := Tryz.prog) 63 26 (.slice none 0 0) 24 Tryz.underlying63 infoInts rfl .i64 .i64 (ss.length + 1) (by omega) (by omega) w
  have HH := Lib.hid hh
  clear hh
  go_enter Tryz.func90, Tryz.ntmps90
  go_upto_region 2 with fail
  have kk : Keep w (w.alloc (.cells (madeCells #[.slice none 0 0] (ss.length + 1)) 26)) := Keep.alloc1 _ _
  have f0 : Fr 26 (w.alloc (.cells (madeCells #[.slice none 0 0] (ss.length + 1)) 26)) w.heap.size (some ⟨w.heap.size, 0, none⟩) 0 (ss.length + 1) [] := Fr.new w _ _ (Nat.zero_le _) (by unfold maxLen; omega) (by rw [size_madeCells]; exact Nat.le_refl _) (Nat.le_refl _)
  generalize w.alloc (.cells (madeCells #[.slice none 0 0] (ss.length + 1)) 26) = w1 at kk f0 ⊢
  clear hmk
  go_wp2_with fail
  go_loopw [3, 4] (fun v i wr => ∃ (k : Nat) (B : Option Addr) (c : Nat) (ts : List Sl), k ≤ ss.length ∧ i = .int .i64 k ∧ v = .slice B k c ∧ bidsOf ts = bidsOf (ss.take k) ∧ Fr 26 wr w.heap.size B k c (ts.map Sl.val) ∧ Twins wr w.heap.size ts ∧ Keep w wr) (fun _ i _ => ss.length - (intOf i).toNat)
  case atStart => exact ⟨0, _, _, [], Nat.zero_le _, rfl, rfl, rfl, f0, ⟨fun t h => (by cases h), List.Pairwise.nil⟩, kk⟩
  case round =>
    clear f0 kk
    obtain ⟨k, B, c, ts, hk, rfl, rfl, hbt, hfr, htw, hkeep⟩ := hrel
    have HB := Lib.hid hbt
    clear hbt
    by_cases hlt : k < ss.length
    · obtain ⟨b1, o1, s, hsa, hsk, hc1, hs⟩ := (ha.keep hkeep).at_ hlt
      have HX := Lib.hid hsk
      have hq := twinInts_f s wr hs (HH.out s (List.mem_of_getElem? hsk))
      rw [hsa]
      clear hsk hsa
      go_wp2_with fail
      refine hq.mono ?_
      rintro e w2 ⟨A2, c2, rfl, ht2, k2⟩
      have hsep : ∀ u ∈ ts, Sep u ⟨A2, c2, s.l⟩ := fun u hu => Sep.new (htw.1 u hu) ht2
      have ht3 : Twin w2 w.heap.size ⟨A2, c2, s.l⟩ := Fr.mono ht2 hkeep.size
      replace htw := (htw.keep k2).snoc ht3 hsep
      replace hfr := hfr.keep k2
      replace hkeep := hkeep.trans k2
      clear ht2 ht3 hsep hq k2 hc1 hs
      go_wp2_with (at_builtin; refine wpList_append_fr _ rfl _ _ 63 rfl w.heap.size 26 (.slice none 0 0) 24 Tryz.underlying63 infoInts rfl B k c _ rfl (hfr.keep (Keep.alloc1 _ _)) (some ⟨w2.heap.size, 0, none⟩) 1 1 [.slice A2 s.l.length c2] rfl rfl (Rd.one _ _ _) (one_sl ⟨A2, c2, s.l⟩) ?c1 ?c2 ?c3 ?_)
      case c1 => unfold maxLen; omega
      case c2 => omega
      case c3 => have := hkeep.size; simp; omega
      intro A' c' w3 happ
      have hk2 := happ.keep (hkeep.alloc _) (hfr.keep (Keep.alloc1 _ _))
      have hf1 := happ.fr
      have ht1 := (htw.keep (Keep.alloc1 _ _)).appended (hfr.keep (Keep.alloc1 _ _)) happ
      have hb1 : bidsOf (ts ++ [(⟨A2, c2, s.l⟩ : Sl)]) = bidsOf (ss.take (k + 1)) := by
        rw [List.take_add_one, HX.out]
        unfold bidsOf
        rw [List.map_append, List.map_append]
        exact congrArg (· ++ [s.l]) HB.out
      have HB1 := Lib.hid hb1
      have hm1 : ts.map Sl.val ++ [.slice A2 s.l.length c2] = (ts ++ [(⟨A2, c2, s.l⟩ : Sl)]).map Sl.val := by rw [List.map_append]; rfl
      rw [hm1] at hf1
      clear happ hfr htw hb1 hm1
      go_wp2_with fail
      go_roundw
      case rel => exact ⟨k + 1, A', c', _, by omega, by go_num, rfl, HB1.out, hf1, ht1, hk2⟩
      case measure => simp [intOf]; omega
    · obtain rfl : k = ss.length := by omega
      have hb1 := HB.out
      rw [List.take_of_length_le (Nat.le_refl _)] at hb1
      have HB1 := Lib.hid hb1
      have kz := Keep.alloc1 wr (.cells #[.int .i64 77] 3)
      have fz : Fr 3 (wr.alloc (.cells #[.int .i64 77] 3)) w.heap.size (some ⟨wr.heap.size, 0, none⟩) 1 1 (cs .i64 [77]) := Fr.new wr #[.int .i64 77] 3 (Nat.le_refl _) (by unfold maxLen; omega) (Nat.le_refl _) hkeep.size
      replace hkeep := hkeep.trans kz
      replace hfr := hfr.keep kz
      replace htw := htw.keep kz
      clear hb1 HB
      have hsz : (wr.alloc (.cells #[.int .i64 77] 3)).heap.size = wr.heap.size + 1 := by simp
      have hro := Rd.one (wr.alloc (.cells #[.int .i64 77] 3)) (.slice (some ⟨wr.heap.size, 0, none⟩) 1 1) 26
      rw [hsz] at hro
      clear hsz
      go_wp2_with (at_builtin; refine wpList_append_fr _ rfl _ _ 63 rfl w.heap.size 26 (.slice none 0 0) 24 Tryz.underlying63 infoInts rfl B ss.length c _ rfl (hfr.keep (Keep.alloc1 _ _)) (some ⟨wr.heap.size + 1, 0, none⟩) 1 1 [.slice (some ⟨wr.heap.size, 0, none⟩) 1 1] rfl rfl hro (one_sl ⟨some ⟨wr.heap.size, 0, none⟩, 1, [77]⟩) ?d1 ?d2 ?d3 ?_)
      case d1 => unfold maxLen; omega
      case d2 => omega
      case d3 => have := hkeep.size; simp at this ⊢; omega
      intro A' c' w2 happ
      have hk2 := happ.keep (hkeep.alloc _) (hfr.keep (Keep.alloc1 _ _))
      have hf1 := happ.fr
      have ht1 := (htw.keep (Keep.alloc1 _ _)).appended (hfr.keep (Keep.alloc1 _ _)) happ
      have hz1 : Fr 3 w2 w.heap.size (some ⟨wr.heap.size, 0, none⟩) 1 1 (cs .i64 [77]) := Fr.grown (fz.keep (Keep.alloc1 _ _)) happ.2.1 fun k hk e => Fr.offtype fz (hfr) (by decide) k hk e
      have hc1 := hf1.cap
      clear happ hfr htw fz kz
      have y1 : (ss.length : Int) ≤ c' := by omega
      go_wp2_with fail
      go_ret
      exact ⟨A', c', ts, ⟨some ⟨wr.heap.size, 0, none⟩, 1, [77]⟩, rfl, HB1.out, rfl, ht1, hf1, hz1, hk2⟩
end Go.Proofs.YtjaaganaohjmaaaGreatDoor

namespace Go.Proofs.YtjaaganaohjmaaaGreatDoor
open Go.RowKit

/-- N is a copy of M, of the call's own. -/
structure TwinMP (M N : Mkt) (base : Nat) (w : World) : Prop where
  r : N.r.l = M.r.l
  b : bidsOf N.bs = bidsOf M.bs
  o : N.o.l = M.o.l
  own : Twins w base (N.r :: (N.bs ++ [N.o]))
  outer : ∃ z : Sl, z.l = [77] ∧ Fr 26 w base N.ba (N.bs.length + 1) N.bc (N.bs.map Sl.val ++ [z.val]) ∧ Fr 3 w base z.a 1 z.c (cs .i64 z.l)
theorem TwinMP.keep {M N : Mkt} {base : Nat} {w w' : World} (h : TwinMP M N base w) (hk : Keep w w') : TwinMP M N base w' := by
  obtain ⟨z, h1, h2, h3⟩ := h.outer
  exact ⟨h.r, h.b, h.o, h.own.keep hk, z, h1, h2.keep hk, h3.keep hk⟩
theorem TwinMP.len {M N : Mkt} {base : Nat} {w : World} (h : TwinMP M N base w) : N.bs.length = M.bs.length := by
  have := congrArg List.length h.b
  simpa [bidsOf] using this
theorem TwinMP.ok {M N : Mkt} {base : Nat} {w w0 : World} (h : TwinMP M N base w) (hM : M.Ok w0) : N.Ok w := by
  obtain ⟨z, h1, h2, h3⟩ := h.outer
  have f2 := Fr.take h2 (Nat.le_succ N.bs.length)
  rw [show (N.bs.map Sl.val ++ [z.val]).take N.bs.length = N.bs.map Sl.val by rw [← List.length_map (f := Sl.val), List.take_left]] at f2
  have hw : ∀ s ∈ N.bs, ∀ x ∈ s.l, (Lit.int .i64 x).wf = true := fun s hs x hx => by
    have h4 : s.l ∈ bidsOf N.bs := List.mem_map.2 ⟨s, hs, rfl⟩
    rw [h.b] at h4
    obtain ⟨s', hs', e⟩ := List.mem_map.1 h4
    exact (hM.b.ok s' hs').inn.wf x (e ▸ hx)
  refine ⟨(h.own.1 _ List.mem_cons_self).ok (by rw [h.r]; exact hM.r.inn.wf), ⟨f2.rd, f2.cap, f2.capMax, fun s hs => (h.own.1 s (List.mem_cons_of_mem _ (List.mem_append_left _ hs))).ok (hw s hs)⟩, fun e => h2.capNil e, (h.own.1 N.o (List.mem_cons_of_mem _ (List.mem_append_right _ List.mem_cons_self))).ok (by rw [h.o]; exact hM.o.inn.wf)⟩
theorem Twin.far {w : World} {base g : Nat} {t : Sl} {cur : Array Value} {tt : TypeId} {z : Nat × Nat} (h : Twin w base t) (hb : w.heap[g]? = some (.cells cur tt z)) (hne : 3 ≠ tt) (j : Nat) (u : Value) : Twin (w.setCell ⟨g, j, none⟩ u) base t :=
  Fr.setCell h (fun k hk => Fr.own_ne h hb hne k hk) u
theorem Fr.blk {e : TypeId} {w : World} {base g n c : Nat} {vs : List Value} (h : Fr e w base (some ⟨g, 0, none⟩) n c vs) (hn : 0 < n) : ∃ cur, w.heap[g]? = some (.cells cur e (0, 0)) := by
  obtain ⟨_, h2, _, h4 | ⟨g', cur, hA, _, hg, _⟩⟩ := h
  · omega
  · cases hA
    exact ⟨cur, hg⟩
/-- A copy with another bid in one place and another order. -/
theorem TwinMP.other {M N : Mkt} {s o : Sl} {w1 w3 w5 : World} {gB gN k : Nat} {zz : Sl} {v : Value} {l : List Value} (tN : TwinMP M N w1.heap.size w3) (hM : M.Ok w1) (hs : s.Ok .i64 w1) (hk : k < N.bs.length)
    (hz : Fr 26 w3 w1.heap.size (some ⟨gB, 0, none⟩) (N.bs.length + 1) N.bc (N.bs.map Sl.val ++ [zz.val])) (hB : w1.heap.size ≤ gB) (hN : w1.heap.size ≤ gN) (kq : Keep w1 w3) (k45 : Keep (w3.setCell ⟨gB, k, none⟩ s.val) w5)
    (bN : Blk w5 gN 65 l) (fo : Fr 3 w5 w1.heap.size o.a o.l.length o.c (cs .i64 o.l)) (hw : ∀ x ∈ o.l, (Lit.int .i64 x).wf = true) :
    (⟨N.r, some ⟨gB, 0, none⟩, N.bc, N.bs.set k s, o⟩ : Mkt).Ok (w5.setCell ⟨gN, 2, none⟩ v) := by
  obtain ⟨cur, hcur⟩ := hz.blk (by omega)
  have k6 : Keep w1 (w5.setCell ⟨gN, 2, none⟩ v) := (((kq.setCell (p := ⟨gB, k, none⟩) hB _).trans k45)).setCell (p := ⟨gN, 2, none⟩) hN _
  have ht : ∀ t, Twin w3 w1.heap.size t → Twin (w5.setCell ⟨gN, 2, none⟩ v) w1.heap.size t := fun t h => ((h.far hcur (by decide) k s.val).keep k45).far bN (by decide) 2 v
  have hz4 := (hz.stored (j := k) (by omega) s.val).keep k45
  have hz6 := hz4.setCell (fun k' hk' => hz4.own_ne bN (by decide) k' hk') (p := ⟨gN, 2, none⟩) v
  have f6 := Fr.take hz6 (Nat.le_succ N.bs.length)
  have e6 : ((N.bs.map Sl.val ++ [zz.val]).set k s.val).take N.bs.length = (N.bs.set k s).map Sl.val := by
    rw [List.set_append_left _ _ (by rw [List.length_map]; exact hk), ← List.map_set]
    have hl : ((N.bs.set k s).map Sl.val).length = N.bs.length := by simp
    rw [← hl, List.take_left]
  rw [e6] at f6
  have hw' : ∀ s' ∈ N.bs, ∀ x ∈ s'.l, (Lit.int .i64 x).wf = true := fun s' hs' x hx => by
    have h4 : s'.l ∈ bidsOf N.bs := List.mem_map.2 ⟨s', hs', rfl⟩
    rw [tN.b] at h4
    obtain ⟨s2, hs2, e⟩ := List.mem_map.1 h4
    exact (hM.b.ok s2 hs2).inn.wf x (e ▸ hx)
  have fo6 := fo.setCell (fun k' hk' => fo.own_ne bN (by decide) k' hk') (p := ⟨gN, 2, none⟩) v
  refine ⟨(ht _ (tN.own.1 _ List.mem_cons_self)).ok (by rw [tN.r]; exact hM.r.inn.wf), ⟨f6.rd, by rw [List.length_set]; exact f6.cap, f6.capMax, fun t h => ?_⟩, (fun h => by cases h), ⟨⟨fo6.rd, fo6.cap, fo6.capMax, hw⟩, fun h => fo6.capNil h⟩⟩
  rcases List.mem_or_eq_of_mem_set h with h | rfl
  · exact (ht t (tN.own.1 t (List.mem_cons_of_mem _ (List.mem_append_left _ h)))).ok (hw' t h)
  · exact hs.keep k6
theorem bids_set (bs : List Sl) (k : Nat) (s : Sl) : bidsOf (bs.set k s) = (bidsOf bs).set k s.l := by
  unfold bidsOf
  rw [List.map_set]

set_option maxRecDepth 100000 in
set_option maxHeartbeats 4000000 in
theorem twinMarket_f (M : Mkt) (w : World) (hM : M.Ok w) (lr : M.r.l.length ≤ 1000000) (lb : M.bs.length ≤ 1000000) (hh : Short M.bs) (lo : M.o.l.length ≤ 1000000) :
    Calls Tryz.prog 29 #[M.val] w fun e w' => ∃ N : Mkt, e = .returned N.val ∧ TwinMP M N w.heap.size w' ∧ Keep w w' := by
  have bM := (Blk.new w 65 [.slice M.r.a M.r.l.length M.r.c, .slice M.ba M.bs.length M.bc, .slice M.o.a M.o.l.length M.o.c]).keep (Keep.alloc1 (w.alloc (.cells #[.slice M.r.a M.r.l.length M.r.c, .slice M.ba M.bs.length M.bc, .slice M.o.a M.o.l.length M.o.c] 65)) (.cells #[.slice none 0 0, .slice none 0 0, .slice none 0 0] 65))
  have kk : Keep w ((w.alloc (.cells #[.slice M.r.a M.r.l.length M.r.c, .slice M.ba M.bs.length M.bc, .slice M.o.a M.o.l.length M.o.c] 65)).alloc (.cells #[.slice none 0 0, .slice none 0 0, .slice none 0 0] 65)) := (Keep.alloc1 _ _).trans (Keep.alloc1 _ _)
  have bO : Blk ((w.alloc (.cells #[.slice M.r.a M.r.l.length M.r.c, .slice M.ba M.bs.length M.bc, .slice M.o.a M.o.l.length M.o.c] 65)).alloc (.cells #[.slice none 0 0, .slice none 0 0, .slice none 0 0] 65)) (w.heap.size + 1) 65 [.slice none 0 0, .slice none 0 0, .slice none 0 0] := by
    have h := Blk.new (w.alloc (.cells #[.slice M.r.a M.r.l.length M.r.c, .slice M.ba M.bs.length M.bc, .slice M.o.a M.o.l.length M.o.c] 65)) 65 [.slice none 0 0, .slice none 0 0, .slice none 0 0]
    simpa using h
  have LR := Lib.hid lr
  have LO := Lib.hid lo
  have LB := Lib.hid lb
  clear lr lo lb
  unfold Mkt.val
  go_enter Tryz.func29, Tryz.ntmps29
  go_upto_region 1 with fail
  generalize ((w.alloc (.cells #[.slice M.r.a M.r.l.length M.r.c, .slice M.ba M.bs.length M.bc, .slice M.o.a M.o.l.length M.o.c] 65)).alloc (.cells #[.slice none 0 0, .slice none 0 0, .slice none 0 0] 65)) = w0 at bM kk bO ⊢
  have d0 := bM.cell_ (i := 0) rfl
  have d1 := bM.cell_ (i := 1) rfl
  have d2 := bM.cell_ (i := 2) rfl
  refine wp_region_noPanic ?_
  refine wp_region_held_drew (S := (fun w' => w'.cell? ⟨w.heap.size, 0, none⟩ = some (.slice M.r.a M.r.l.length M.r.c) ∧ w'.cell? ⟨w.heap.size, 1, none⟩ = some (.slice M.ba M.bs.length M.bc) ∧ w'.cell? ⟨w.heap.size, 2, none⟩ = some (.slice M.o.a M.o.l.length M.o.c))) (by kernel_rfl) ⟨d0, d1, d2⟩ (fun hS => ?_)
  have kn : Keep w0 w0.drew := (Keep.refl _).drew
  replace kk := kk.trans kn
  replace bO := bO.keep kn
  generalize w0.drew = v0 at hS kk bO ⊢
  clear kn d0 d1 d2 bM
  refine wpAnyH_take (i := 0) (v := ?_) rfl (by kernel_rfl) (by kernel_rfl) (by kernel_rfl) (fun _ _ _ h => h) (Or.inl ⟨by rfl, ?_⟩) hS ?_
  rotate_left
  · (intro w hSw; (try dsimp only at hSw); go_simp; (first | done | with_reducible rfl))
  change wpAnyH _ _ _ _ _ _ _ (Act.put _ (some 3) _) _
  simp only [Act.put, List.setIfInBounds_toArray, List.set_cons_zero, List.set_cons_succ]
  refine wpAnyH_take (i := 1) (v := ?_) rfl (by kernel_rfl) (by kernel_rfl) (by kernel_rfl) (fun _ _ _ h => h) (Or.inl ⟨by rfl, ?_⟩) hS ?_
  rotate_left
  · (intro w hSw; (try dsimp only at hSw); go_simp; (first | done | with_reducible rfl))
  change wpAnyH _ _ _ _ _ _ _ (Act.put _ (some 4) _) _
  simp only [Act.put, List.setIfInBounds_toArray, List.set_cons_zero, List.set_cons_succ]
  refine wpAnyH_take (i := 3) (v := ?_) rfl (by kernel_rfl) (by kernel_rfl) (by kernel_rfl) (fun _ _ _ h => h) (Or.inl ⟨by rfl, ?_⟩) hS ?_
  rotate_left
  · (intro w hSw; (try dsimp only at hSw); go_simp; (first | done | with_reducible rfl))
  change wpAnyH _ _ _ _ _ _ _ (Act.put _ (some 6) _) _
  simp only [Act.put, List.setIfInBounds_toArray, List.set_cons_zero, List.set_cons_succ]
  refine wpAnyH_take (i := 4) (v := ?_) rfl (by kernel_rfl) (by kernel_rfl) (by kernel_rfl) (fun _ _ _ h => h) (Or.inl ⟨by rfl, ?_⟩) hS ?_
  rotate_left
  · (intro w hSw; (try dsimp only at hSw); go_simp; (first | done | with_reducible rfl))
  change wpAnyH _ _ _ _ _ _ _ (Act.put _ (some 7) _) _
  simp only [Act.put, List.setIfInBounds_toArray, List.set_cons_zero, List.set_cons_succ]
  refine wpAnyH_take (i := 6) (v := ?_) rfl (by kernel_rfl) (by kernel_rfl) (by kernel_rfl) (fun _ _ _ h => h) (Or.inl ⟨by rfl, ?_⟩) hS ?_
  rotate_left
  · (intro w hSw; (try dsimp only at hSw); go_simp; (first | done | with_reducible rfl))
  change wpAnyH _ _ _ _ _ _ _ (Act.put _ (some 9) _) _
  simp only [Act.put, List.setIfInBounds_toArray, List.set_cons_zero, List.set_cons_succ]
  refine wpAnyH_take (i := 7) (v := ?_) rfl (by kernel_rfl) (by kernel_rfl) (by kernel_rfl) (fun _ _ _ h => h) (Or.inl ⟨by rfl, ?_⟩) hS ?_
  rotate_left
  · (intro w hSw; (try dsimp only at hSw); go_simp; (first | done | with_reducible rfl))
  change wpAnyH _ _ _ _ _ _ _ (Act.put _ (some 10) _) _
  simp only [Act.put, List.setIfInBounds_toArray, List.set_cons_zero, List.set_cons_succ]
  refine wpAnyH_ready (rs := [2]) (by kernel_rfl) (by simp) ?_
  refine AllReadyH.cons rfl (fun K hK => ?_) AllReadyH.nil
  go_simp
  refine (twinInts_f M.r v0 (hM.keep kk).r LR.out).mono ?_
  rintro e v1 ⟨A1, c1, rfl, t1, kn⟩
  replace t1 : Twin v1 w.heap.size ⟨A1, c1, M.r.l⟩ := Fr.mono t1 kk.size
  go_wp2_with fail
  refine hK.out _ _ ⟨kn.cell hS.1, kn.cell hS.2.1, kn.cell hS.2.2⟩ (fun hS => ?_)
  clear hK K
  try simp only [Act.put, List.setIfInBounds_toArray, List.set_cons_zero, List.set_cons_succ]
  refine wpAnyH_ready (rs := [5]) (by kernel_rfl) (by simp) ?_
  refine AllReadyH.cons rfl (fun K hK => ?_) AllReadyH.nil
  go_simp
  replace kk := kk.trans kn
  replace bO := bO.keep kn
  clear kn
  refine (twinLists_f M.ba M.bc M.bs v1 (hM.keep kk).b LB.out hh).mono ?_
  rintro e v2 ⟨A2, c2, ts, z, rfl, hb, hz, tw, fo, fz, kn⟩
  have s1 : ∀ t ∈ ts, Sep ⟨A1, c1, M.r.l⟩ t := fun t ht => Sep.new t1 (tw.1 t ht)
  replace tw : Twins v2 w.heap.size ts := ⟨fun t ht => Fr.mono (tw.1 t ht) kk.size, tw.2⟩
  replace fo := fo.mono kk.size
  replace fz := fz.mono kk.size
  replace t1 := Twin.keep t1 kn
  have HB := Lib.hid hb
  have HZ := Lib.hid hz
  clear hb hz
  go_wp2_with fail
  refine hK.out _ _ ⟨kn.cell hS.1, kn.cell hS.2.1, kn.cell hS.2.2⟩ (fun hS => ?_)
  clear hK K
  try simp only [Act.put, List.setIfInBounds_toArray, List.set_cons_zero, List.set_cons_succ]
  refine wpAnyH_ready (rs := [8]) (by kernel_rfl) (by simp) ?_
  refine AllReadyH.cons rfl (fun K hK => ?_) AllReadyH.nil
  go_simp
  replace kk := kk.trans kn
  replace bO := bO.keep kn
  clear kn
  refine (twinInts_f M.o v2 (hM.keep kk).o LO.out).mono ?_
  rintro e v3 ⟨A3, c3, rfl, t3, kn⟩
  have s2 : Sep ⟨A1, c1, M.r.l⟩ ⟨A3, c3, M.o.l⟩ := Sep.new t1 t3
  have s3 : ∀ t ∈ ts, Sep t ⟨A3, c3, M.o.l⟩ := fun t ht => Sep.new (tw.1 t ht) t3
  replace t3 : Twin v3 w.heap.size ⟨A3, c3, M.o.l⟩ := Fr.mono t3 kk.size
  replace t1 := Twin.keep t1 kn
  replace tw := tw.keep kn
  replace fo := fo.keep kn
  replace fz := fz.keep kn
  go_wp2_with fail
  refine hK.out _ _ ⟨kn.cell hS.1, kn.cell hS.2.1, kn.cell hS.2.2⟩ (fun hS => ?_)
  clear hK K
  try simp only [Act.put, List.setIfInBounds_toArray, List.set_cons_zero, List.set_cons_succ]
  refine wpAnyH_take (i := 9) (v := ?_) rfl (by kernel_rfl) (by kernel_rfl) (by kernel_rfl) (fun _ _ _ h => h) (Or.inl ⟨by rfl, ?_⟩) hS ?_
  rotate_left
  · (intro w hSw; (try dsimp only at hSw); go_simp; (first | done | with_reducible rfl))
  change wpAnyH _ _ _ _ _ _ _ (Act.put _ (some 12) _) _
  simp only [Act.put, List.setIfInBounds_toArray, List.set_cons_zero, List.set_cons_succ]
  refine wpAnyH_ready (rs := [10]) (by kernel_rfl) (by simp) ?_
  refine AllReadyH.cons rfl (fun K hK => ?_) AllReadyH.nil
  rw [if_pos (by rfl)]
  replace kk := kk.trans kn
  replace bO := bO.keep kn
  clear kn
  refine wp_store_row 65 _ _ rfl (w.heap.size + 1) #[.slice A1 M.r.l.length c1, .slice A2 M.bs.length c2, .slice A3 M.o.l.length c3] rfl rfl _ _ bO (by kernel_rfl) rfl (by simp [Value.oneCell']) ?_
  refine hK.out _ _ ⟨(cell_setRow_other _ _ _ _ (show w.heap.size ≠ w.heap.size + 1 by omega)).trans hS.1, (cell_setRow_other _ _ _ _ (show w.heap.size ≠ w.heap.size + 1 by omega)).trans hS.2.1, (cell_setRow_other _ _ _ _ (show w.heap.size ≠ w.heap.size + 1 by omega)).trans hS.2.2⟩ (fun hS => ?_)
  clear hK K
  try simp only [Act.put, List.setIfInBounds_toArray]
  refine wpAnyH_done (by kernel_rfl) ?_ _
  refine NoPanic.normal ?_
  have og := only_row v3 (w.heap.size + 1) #[.slice A1 M.r.l.length c1, .slice A2 M.bs.length c2, .slice A3 M.o.l.length c3]
  have bR := bO.row #[.slice A1 M.r.l.length c1, .slice A2 M.bs.length c2, .slice A3 M.o.l.length c3]
  go_wp2_with fail
  refine bodyPost_ret (results_cell_row rfl _ _ (w.heap.size + 1) 65 _ (0, 0) _ rfl bR Tryz.underlying65 rfl (by kernel_rfl)) rfl ?_
  have g1 : ∀ {n c : Nat} {A : Option Addr} {vs : List Value}, Fr 3 v3 w.heap.size A n c vs → Fr 3 (v3.setRow (w.heap.size + 1) #[.slice A1 M.r.l.length c1, .slice A2 M.bs.length c2, .slice A3 M.o.l.length c3]) w.heap.size A n c vs := fun f => f.grown og (fun k hk e => by injection e with e; exact f.own_ne bO (by decide) k hk e)
  have fo' := fo.grown og (fun k hk e => by injection e with e; exact fo.own_ne bO (by decide) k hk e)
  have hlen : ts.length = M.bs.length := by
    have := congrArg List.length HB.out
    simpa [bidsOf] using this
  refine ⟨⟨⟨A1, c1, M.r.l⟩, A2, c2, ts, ⟨A3, c3, M.o.l⟩⟩, ?_, ⟨rfl, HB.out, rfl, ⟨fun t ht => ?_, ?_⟩, z, HZ.out, by show Fr _ _ _ _ (ts.length + 1) _ _; rw [hlen]; exact fo', g1 fz⟩, kk.grown og (fun k e => by injection e with e; omega)⟩
  · simp only [hlen]
  · rcases List.mem_cons.1 ht with rfl | ht
    · exact g1 t1
    · rcases List.mem_append.1 ht with ht | ht
      · exact g1 (tw.1 t ht)
      · rw [List.mem_singleton] at ht
        subst ht
        exact g1 t3
  · rw [List.pairwise_cons, List.pairwise_append]
    refine ⟨fun t ht => ?_, tw.2, List.pairwise_singleton _ _, fun u hu v hv => ?_⟩
    · rcases List.mem_append.1 ht with ht | ht
      · exact s1 t ht
      · rw [List.mem_singleton] at ht
        exact ht ▸ s2
    · rw [List.mem_singleton] at hv
      exact hv ▸ s3 u hu
end Go.Proofs.YtjaaganaohjmaaaGreatDoor

namespace Go.Proofs.YtjaaganaohjmaaaGreatDoor
open Go.RowKit

theorem chkM_lens {R : List Int} {B : List (List Int)} {O : List Int} (h : chkM R B O = true) : 1 ≤ R.length ∧ R.length ≤ 8 ∧ 1 ≤ B.length ∧ B.length ≤ 8 ∧ (∀ b ∈ B, b.length ≤ 8) ∧ O.length = B.length := by
  obtain ⟨m1, m2, m3, m4⟩ := chkM_facts h
  obtain ⟨_, pb⟩ := chkM_bids h
  have ho : ordB O B.length = true := by
    unfold chkM at h
    simp only [Bool.and_eq_true] at h
    exact h.1.2
  refine ⟨m1, m2, m3, m4, fun b hb => ?_, ordB_len ho⟩
  rcases pb b hb with h0 | h0 <;> omega
/-- The bytes of a market. -/
def bytesM (R : List Int) (B : List (List Int)) (O : List Int) : List Int := putL R ++ (le B.length 1 ++ (B.flatMap putL ++ putL O))
theorem putM_few {R : List Int} {B : List (List Int)} {O : List Int} (h : chkM R B O = true) : putM R B O = bytesM R B O := by
  obtain ⟨_, h1, _, h2, h3, h4⟩ := chkM_lens h
  unfold putM bytesM
  rw [List.take_of_length_le (by omega), List.take_of_length_le (by omega), List.flatMap_def, List.flatMap_def, List.map_congr_left (g := putL) (fun b hb => by rw [List.take_of_length_le (by have := h3 b hb; omega)])]
  simp only [List.append_assoc]
/-- The bytes of the bids. -/
def sumB : List (List Int) → Nat
  | [] => 0
  | b :: B => 1 + 4 * b.length + sumB B
theorem sumB_append (A B : List (List Int)) : sumB (A ++ B) = sumB A + sumB B := by
  induction A with
  | nil => simp [sumB]
  | cons a A ih => simp [sumB, ih]; omega
theorem sumB_snoc {B : List (List Int)} {k : Nat} {b : List Int} (h : B[k]? = some b) : sumB (B.take (k + 1)) = sumB (B.take k) + (1 + 4 * b.length) := by
  rw [List.take_add_one, h, sumB_append]
  simp [sumB]
theorem sumB_le {B : List (List Int)} (h : ∀ b ∈ B, b.length ≤ 8) : sumB B ≤ 33 * B.length := by
  induction B with
  | nil => simp [sumB]
  | cons b B ih =>
    have h1 := h b List.mem_cons_self
    have h2 := ih (fun x hx => h x (List.mem_cons_of_mem _ hx))
    simp only [sumB, List.length_cons]
    omega
theorem length_flatL (B : List (List Int)) : (B.flatMap putL).length = sumB B := by
  induction B with
  | nil => rfl
  | cons b B ih => rw [List.flatMap_cons, List.length_append, length_putL, ih]; rfl
theorem length_putM {R : List Int} {B : List (List Int)} {O : List Int} (h : chkM R B O = true) : (putM R B O).length = 3 + 4 * R.length + 4 * O.length + sumB B := by
  rw [putM_few h]
  unfold bytesM
  simp only [List.length_append, length_putL, length_le, length_flatL]
  omega
theorem putM_max {R : List Int} {B : List (List Int)} {O : List Int} (h : chkM R B O = true) : (putM R B O).length ≤ 400 := by
  obtain ⟨_, h1, _, h2, h3, h4⟩ := chkM_lens h
  have := sumB_le h3
  rw [length_putM h]
  omega
/-- N reads as M without p's bid. -/
def Out (M : Mkt) (p : Nat) (N : Mkt) : Prop := N.r.l = M.r.l ∧ bidsOf N.bs = (bidsOf M.bs).set p [] ∧ N.o.l = M.o.l
theorem set_swap (B : List (List Int)) (i k : Nat) : (B.set i []).set k [] = (B.set k []).set i [] := by
  by_cases h : i = k
  · rw [h]
  · exact List.set_comm _ _ h
theorem set_same {B : List (List Int)} {i : Nat} (h : B[i]? = some []) : B.set i [] = B := by
  refine List.ext_getElem? fun j => ?_
  rw [List.getElem?_set]
  by_cases e : i = j
  · subst e
    have := (List.getElem?_eq_some_iff.1 h).1
    rw [if_pos rfl, if_pos this, h]
  · rw [if_neg e]
theorem chkM_set {R : List Int} {B : List (List Int)} {O : List Int} (p : Nat) (h : chkM R B O = true) : chkM R (B.set p []) O = true := by
  unfold chkM at h ⊢
  simp only [Bool.and_eq_true, List.length_set] at h ⊢
  refine ⟨h.1, ?_⟩
  have h5 := h.2
  rw [Bool.not_eq_true', List.any_eq_false] at h5 ⊢
  intro b hb
  rcases List.mem_or_eq_of_mem_set hb with h | h
  · exact h5 b h
  · subst h
    unfold badB
    simp
theorem chkM_out {M N : Mkt} {p : Nat} (h : chkM M.r.l (bidsOf M.bs) M.o.l = true) (hN : N.r.l = M.r.l ∧ bidsOf N.bs = (bidsOf M.bs).set p [] ∧ N.o.l = M.o.l) : chkM N.r.l (bidsOf N.bs) N.o.l = true := by
  rw [hN.1, hN.2.1, hN.2.2]
  exact chkM_set p h
theorem out_len {M N : Mkt} {p : Nat} (hN : N.r.l = M.r.l ∧ bidsOf N.bs = (bidsOf M.bs).set p [] ∧ N.o.l = M.o.l) : N.bs.length = M.bs.length := by
  rw [← length_bids, hN.2.1, List.length_set, length_bids]
end Go.Proofs.YtjaaganaohjmaaaGreatDoor

namespace Go.Proofs.YtjaaganaohjmaaaGreatDoor
open Go.RowKit

theorem fill_set {a : List Value} {z v : Value} {i n : Nat} (h : a.length = i) (hi : i < n) : (a ++ List.replicate (n - i) z).set i v = (a ++ [v]) ++ List.replicate (n - (i + 1)) z := by
  subst h
  rw [List.set_append_right _ _ (Nat.le_refl _), Nat.sub_self, show n - a.length = (n - (a.length + 1)) + 1 by omega, List.replicate_succ, List.set_cons_zero, List.append_assoc]
  rfl
theorem bids_append (a b : List Sl) : bidsOf (a ++ b) = bidsOf a ++ bidsOf b := List.map_append
theorem fill_at {a : List Value} {z : Value} {i n : Nat} (h : a.length = i) (hi : i < n) : (a ++ List.replicate (n - i) z)[i]? = some z := by
  subst h
  rw [List.getElem?_append_right (Nat.le_refl _), Nat.sub_self, List.getElem?_replicate, if_pos (by omega)]

/-- May all be asked? -/
def allOk (R : List Int) (B : List (List Int)) (O P : List Int) : Bool := chkM R B O && mayP P R.length
/-- What All leaves. -/
def AllP (R : List Int) (B : List (List Int)) (O P : List Int) (w : World) (e : Ending) (w' : World) : Prop :=
  if allOk R B O P then ∃ (gI gN : Nat) (ts : List Sl) (ns : List Bool), e = .returned (.tuple #[.slice (some ⟨gI, 0, none⟩) B.length B.length, .slice (some ⟨gN, 0, none⟩) B.length B.length, .int .i64 0]) ∧ bidsOf ts = B.map (fun b => (ofV b P).1) ∧ ns = B.map (fun b => (ofV b P).2.1) ∧
    Blk w' gI 26 (ts.map Sl.val) ∧ Blk w' gN 4 (ns.map Value.bool) ∧ w.heap.size ≤ gI ∧ w.heap.size ≤ gN ∧ OwnAll w' w.heap.size ts ∧ Keep w w'
  else e = .returned (.tuple #[.slice none 0 0, .slice none 0 0, .int .i64 1]) ∧ Keep w w'

theorem allOk_of {R : List Int} {B : List (List Int)} {O P : List Int} (h : allOk R B O P = true) : mayP P P.length = true ∧ P.length = R.length ∧ P.length ≤ 8 ∧ ∀ b ∈ B, ofOk b P = true := by
  unfold allOk at h
  simp only [Bool.and_eq_true] at h
  obtain ⟨hc, hm⟩ := h
  have hl : P.length = R.length := by
    unfold mayP at hm
    simp only [Bool.and_eq_true, decide_eq_true_eq] at hm
    omega
  rw [← hl] at hm
  obtain ⟨m1, m2, m3⟩ := mayP_facts hm
  refine ⟨hm, hl, m2, fun b hb => ?_⟩
  unfold ofOk
  rw [hm, Bool.true_and]
  unfold chkM at hc
  simp only [Bool.and_eq_true] at hc
  have h5 := hc.2
  rw [Bool.not_eq_true', List.any_eq_false] at h5
  have := h5 b hb
  unfold badB at this
  rw [hl]
  by_cases h0 : b.length = 0
  · simp [h0]
  · cases hk : chk b R.length with
    | true => simp
    | false => exact absurd (by simp [hk]; omega) this

set_option maxRecDepth 100000 in
set_option maxHeartbeats 4000000 in
theorem all_f (M : Mkt) (s : Sl) (w : World) (hM : M.Ok w) (hs : s.Ok .i64 w) :
    Calls Tryz.prog 31 #[M.val, .slice s.a s.l.length s.c] w (AllP M.r.l (bidsOf M.bs) M.o.l s.l w) := by
  have lr := hM.r.len.le
  have lb := hM.b.len.le
  have ls := hs.len.le
  have bM := Blk.new w 65 [.slice M.r.a M.r.l.length M.r.c, .slice M.ba M.bs.length M.bc, .slice M.o.a M.o.l.length M.o.c]
  have kk : Keep w (w.alloc (.cells #[.slice M.r.a M.r.l.length M.r.c, .slice M.ba M.bs.length M.bc, .slice M.o.a M.o.l.length M.o.c] 65)) := Keep.alloc1 _ _
  have hck := mcheck_f M _ (hM.keep kk)
  unfold AllP
  unfold Mkt.val at hck ⊢
  have HL := Lib.hid (length_bids M.bs)
  cases hc : chkM M.r.l (bidsOf M.bs) M.o.l with
  | false =>
    have hall : allOk M.r.l (bidsOf M.bs) M.o.l s.l = false := by unfold allOk; rw [hc]; rfl
    rw [hc] at hck
    rw [hall]
    simp only [Bool.false_eq_true, if_false]
    clear hall hc
    go_enter Tryz.func31, Tryz.ntmps31
    go_wp2_with fail
    refine hck.mono ?_
    rintro e w1 ⟨rfl, k1⟩
    go_wp2_with fail
    go_ret3
    exact ⟨rfl, kk.trans k1⟩
  | true =>
    rw [hc] at hck
    cases hm : mayP s.l (M.r.l.length : Int) with
    | false =>
      have hall : allOk M.r.l (bidsOf M.bs) M.o.l s.l = false := by unfold allOk; rw [hc, hm]; rfl
      rw [hall]
      simp only [Bool.false_eq_true, if_false]
      clear hall hc
      go_enter Tryz.func31, Tryz.ntmps31
      go_wp2_with fail
      refine hck.mono ?_
      rintro e w1 ⟨rfl, k1⟩
      have c0 := (bM.keep k1).cell_ (i := 0) rfl
      have hq := saysK (may_f s.a s.c s.l (M.r.l.length : Int) w1 ((hs.rd.keep kk).keep k1) hs.len)
      rw [hm] at hq
      clear hm
      go_wp2_with fail
      refine hq.mono ?_
      rintro e w2 ⟨rfl, k2⟩
      go_wp2_with fail
      go_ret3
      exact ⟨rfl, (kk.trans k1).trans k2⟩
    | true =>
      have hall : allOk M.r.l (bidsOf M.bs) M.o.l s.l = true := by unfold allOk; rw [hc, hm]; rfl
      obtain ⟨a1, a2, a3, a4⟩ := allOk_of hall
      obtain ⟨-, -, h3, h4, -, -⟩ := chkM_lens hc
      rw [length_bids] at h3 h4
      have HA := Lib.hid a4
      rw [hall]
      simp only [if_true]
      clear hall hc a1 a2 a4
      have hmk1 := run_make_row' (P := Tryz.prog) 63 26 (.slice none 0 0) 24 Tryz.underlying63 infoInts rfl .i64 .i64 M.bs.length (by omega) (by omega)
      have hmk2 := run_make_row' (P := Tryz.prog) 69 4 (.bool false) 1 Tryz.underlying69 infoBool rfl .i64 .i64 M.bs.length (by omega) (by omega)
      replace hM := hM.keep kk
      replace hs := hs.keep kk
      go_enter Tryz.func31, Tryz.ntmps31
      go_wp2_with fail
      refine hck.mono ?_
      rintro e w1 ⟨rfl, k1⟩
      clear hck
      have hws := kk.size
      generalize (w.alloc (.cells #[.slice M.r.a M.r.l.length M.r.c, .slice M.ba M.bs.length M.bc, .slice M.o.a M.o.l.length M.o.c] 65)) = wA at bM kk hM hs k1 hws ⊢
      generalize hgA : w.heap.size = gA at bM hws ⊢
      replace hgA := Lib.hid hgA
      replace bM := bM.keep k1
      replace hM := hM.keep k1
      replace hs := hs.keep k1
      replace kk := kk.trans k1
      clear k1
      have c0 := bM.cell_ (i := 0) rfl
      have c1 := bM.cell_ (i := 1) rfl
      have c2 := bM.cell_ (i := 2) rfl
      have hq := saysK (may_f s.a s.c s.l (M.r.l.length : Int) w1 hs.rd hs.len)
      rw [hm] at hq
      clear hm
      go_wp2_with fail
      refine hq.mono ?_
      rintro e w2 ⟨rfl, kq⟩
      clear hq
      clear c0 c1 c2
      replace bM := bM.keep kq
      replace hM := hM.keep kq
      replace hs := hs.keep kq
      replace kk := kk.trans kq
      clear kq
      have d1 := bM.cell_ (i := 1) rfl
      go_upto_region 3 with fail
      go_cut [4, 5] from 20 to 27 (fun a b wx => ∃ gI gN : Nat, a = .slice (some ⟨gI, 0, none⟩) M.bs.length M.bs.length ∧ b = .slice (some ⟨gN, 0, none⟩) M.bs.length M.bs.length ∧ Blk wx gI 26 (List.replicate M.bs.length (.slice none 0 0)) ∧ Blk wx gN 4 (List.replicate M.bs.length (.bool false)) ∧ w2.heap.size ≤ gI ∧ w2.heap.size ≤ gN ∧ Keep w2 wx)
      case first =>
        refine wp_region_noPanic ?_
        refine wp_region_held_drew (S := (fun w' => w'.cell? ⟨gA, 1, none⟩ = some (.slice M.ba M.bs.length M.bc))) (by kernel_rfl) d1 (fun hS => ?_)
        have ky : Keep w2 w2.drew := (Keep.refl _).drew
        generalize w2.drew = v0 at ky hS ⊢
        refine wpAnyH_take (i := 0) (v := ?_) rfl (by kernel_rfl) (by kernel_rfl) (by kernel_rfl) (fun _ _ _ h => h) (Or.inl ⟨by rfl, ?_⟩) hS ?_
        rotate_left
        · (intro w hSw; (try dsimp only at hSw); go_simp; (first | done | with_reducible rfl))
        change wpAnyH _ _ _ _ _ _ _ (Act.put _ (some 20) _) _
        simp only [Act.put, List.setIfInBounds_toArray, List.set_cons_zero, List.set_cons_succ]
        refine wpAnyH_take (i := 1) (v := ?_) rfl (by kernel_rfl) (by kernel_rfl) (by kernel_rfl) (fun _ _ _ h => h) (Or.inl ⟨by rfl, ?_⟩) hS ?_
        rotate_left
        · (intro w hSw; (try dsimp only at hSw); go_simp; (first | done | with_reducible rfl))
        change wpAnyH _ _ _ _ _ _ _ (Act.put _ (some 21) _) _
        simp only [Act.put, List.setIfInBounds_toArray, List.set_cons_zero, List.set_cons_succ]
        refine wpAnyH_take (i := 2) (v := ?_) rfl (by kernel_rfl) (by kernel_rfl) (by kernel_rfl) (fun _ _ _ h => h) (Or.inl ⟨by rfl, ?_⟩) hS ?_
        rotate_left
        · (intro w hSw; (try dsimp only at hSw); go_simp; (first | done | with_reducible rfl))
        change wpAnyH _ _ _ _ _ _ _ (Act.put _ (some 22) _) _
        simp only [Act.put, List.setIfInBounds_toArray, List.set_cons_zero, List.set_cons_succ]
        refine wpAnyH_take (i := 4) (v := ?_) rfl (by kernel_rfl) (by kernel_rfl) (by kernel_rfl) (fun _ _ _ h => h) (Or.inl ⟨by rfl, ?_⟩) hS ?_
        rotate_left
        · (intro w hSw; (try dsimp only at hSw); go_simp; (first | done | with_reducible rfl))
        change wpAnyH _ _ _ _ _ _ _ (Act.put _ (some 24) _) _
        simp only [Act.put, List.setIfInBounds_toArray, List.set_cons_zero, List.set_cons_succ]
        refine wpAnyH_take (i := 5) (v := ?_) rfl (by kernel_rfl) (by kernel_rfl) (by kernel_rfl) (fun _ _ _ h => h) (Or.inl ⟨by rfl, ?_⟩) hS ?_
        rotate_left
        · (intro w hSw; (try dsimp only at hSw); go_simp; (first | done | with_reducible rfl))
        change wpAnyH _ _ _ _ _ _ _ (Act.put _ (some 25) _) _
        simp only [Act.put, List.setIfInBounds_toArray, List.set_cons_zero, List.set_cons_succ]
        refine wpAnyH_take (i := 6) (v := ?_) rfl (by kernel_rfl) (by kernel_rfl) (by kernel_rfl) (fun _ _ _ h => h) (Or.inl ⟨by rfl, ?_⟩) hS ?_
        rotate_left
        · (intro w hSw; (try dsimp only at hSw); go_simp; (first | done | with_reducible rfl))
        change wpAnyH _ _ _ _ _ _ _ (Act.put _ (some 26) _) _
        simp only [Act.put, List.setIfInBounds_toArray, List.set_cons_zero, List.set_cons_succ]
        refine wpAnyH_ready (rs := [3, 7]) (by kernel_rfl) (by simp) ?_
        refine AllReadyH.cons rfl (fun K hK => ?_) ?_
        · go_simp
          have bI := Blk.of_make v0 26 (.slice none 0 0) M.bs.length
          have kn : Keep v0 (v0.alloc (.cells (madeCells #[.slice none 0 0] M.bs.length) 26)) := Keep.alloc1 _ _
          have hgI := ky.size
          refine hK.out _ _ (kn.cell hS) (fun hS => ?_)
          clear hK K
          try simp only [Act.put, List.setIfInBounds_toArray, List.set_cons_zero, List.set_cons_succ]
          generalize (v0.alloc (.cells (madeCells #[.slice none 0 0] M.bs.length) 26)) = v1 at bI kn hS ⊢
          generalize v0.heap.size = gI at bI hgI ⊢
          replace ky := ky.trans kn
          clear kn
          refine wpAnyH_take (i := 8) (v := ?_) rfl (by kernel_rfl) (by kernel_rfl) (by kernel_rfl) (fun _ _ _ h => h) (Or.inl ⟨by rfl, ?_⟩) hS ?_
          rotate_left
          · (intro w hSw; (try dsimp only at hSw); go_simp; (first | done | with_reducible rfl))
          change wpAnyH _ _ _ _ _ _ _ (Act.put _ (some 4) _) _
          simp only [Act.put, List.setIfInBounds_toArray, List.set_cons_zero, List.set_cons_succ]
          refine wpAnyH_ready (rs := [7]) (by kernel_rfl) (by simp) ?_
          refine AllReadyH.cons rfl (fun K hK => ?_) AllReadyH.nil
          go_simp
          have bN := Blk.of_make v1 4 (.bool false) M.bs.length
          have kn : Keep v1 (v1.alloc (.cells (madeCells #[.bool false] M.bs.length) 4)) := Keep.alloc1 _ _
          have hgN := ky.size
          refine hK.out _ _ (kn.cell hS) (fun hS => ?_)
          clear hK K
          try simp only [Act.put, List.setIfInBounds_toArray, List.set_cons_zero, List.set_cons_succ]
          generalize (v1.alloc (.cells (madeCells #[.bool false] M.bs.length) 4)) = v2 at bN kn hS ⊢
          generalize v1.heap.size = gN at bN hgN ⊢
          replace ky := ky.trans kn
          replace bI := bI.keep kn
          clear kn
          refine wpAnyH_take (i := 9) (v := ?_) rfl (by kernel_rfl) (by kernel_rfl) (by kernel_rfl) (fun _ _ _ h => h) (Or.inl ⟨by rfl, ?_⟩) hS ?_
          rotate_left
          · (intro w hSw; (try dsimp only at hSw); go_simp; (first | done | with_reducible rfl))
          change wpAnyH _ _ _ _ _ _ _ (Act.put _ (some 5) _) _
          simp only [Act.put, List.setIfInBounds_toArray, List.set_cons_zero, List.set_cons_succ]
          refine wpAnyH_done (by kernel_rfl) ?_ _
          refine NoPanic.normal ?_
          go_wp2_with fail
          go_meet
          exact ⟨gI, gN, rfl, rfl, bI, bN, hgI, hgN, ky⟩
        refine AllReadyH.cons rfl (fun K hK => ?_) ?_
        · go_simp
          have bN := Blk.of_make v0 4 (.bool false) M.bs.length
          have kn : Keep v0 (v0.alloc (.cells (madeCells #[.bool false] M.bs.length) 4)) := Keep.alloc1 _ _
          have hgN := ky.size
          refine hK.out _ _ (kn.cell hS) (fun hS => ?_)
          clear hK K
          try simp only [Act.put, List.setIfInBounds_toArray, List.set_cons_zero, List.set_cons_succ]
          generalize (v0.alloc (.cells (madeCells #[.bool false] M.bs.length) 4)) = v3 at bN kn hS ⊢
          generalize v0.heap.size = gN at bN hgN ⊢
          replace ky := ky.trans kn
          clear kn
          refine wpAnyH_ready (rs := [3]) (by kernel_rfl) (by simp) ?_
          refine AllReadyH.cons rfl (fun K hK => ?_) AllReadyH.nil
          go_simp
          have bI := Blk.of_make v3 26 (.slice none 0 0) M.bs.length
          have kn : Keep v3 (v3.alloc (.cells (madeCells #[.slice none 0 0] M.bs.length) 26)) := Keep.alloc1 _ _
          have hgI := ky.size
          refine hK.out _ _ (kn.cell hS) (fun hS => ?_)
          clear hK K
          try simp only [Act.put, List.setIfInBounds_toArray, List.set_cons_zero, List.set_cons_succ]
          generalize (v3.alloc (.cells (madeCells #[.slice none 0 0] M.bs.length) 26)) = v4 at bI kn hS ⊢
          generalize v3.heap.size = gI at bI hgI ⊢
          replace ky := ky.trans kn
          replace bN := bN.keep kn
          clear kn
          refine wpAnyH_take (i := 8) (v := ?_) rfl (by kernel_rfl) (by kernel_rfl) (by kernel_rfl) (fun _ _ _ h => h) (Or.inl ⟨by rfl, ?_⟩) hS ?_
          rotate_left
          · (intro w hSw; (try dsimp only at hSw); go_simp; (first | done | with_reducible rfl))
          change wpAnyH _ _ _ _ _ _ _ (Act.put _ (some 4) _) _
          simp only [Act.put, List.setIfInBounds_toArray, List.set_cons_zero, List.set_cons_succ]
          refine wpAnyH_take (i := 9) (v := ?_) rfl (by kernel_rfl) (by kernel_rfl) (by kernel_rfl) (fun _ _ _ h => h) (Or.inl ⟨by rfl, ?_⟩) hS ?_
          rotate_left
          · (intro w hSw; (try dsimp only at hSw); go_simp; (first | done | with_reducible rfl))
          change wpAnyH _ _ _ _ _ _ _ (Act.put _ (some 5) _) _
          simp only [Act.put, List.setIfInBounds_toArray, List.set_cons_zero, List.set_cons_succ]
          refine wpAnyH_done (by kernel_rfl) ?_ _
          refine NoPanic.normal ?_
          go_wp2_with fail
          go_meet
          exact ⟨gI, gN, rfl, rfl, bI, bN, hgI, hgN, ky⟩
        exact AllReadyH.nil
      case rest =>
      obtain ⟨gI, gN, rfl, rfl, bI, bN, hgI, hgN, k3⟩ := hcut
      have e1 := k3.cell d1
      have hne : gI ≠ gN := fun e => bI.ne bN (by decide) e
      clear hmk1 hmk2 d1
      go_wp2_with fail
      go_loopw [6, 31] (fun v u wr => v = .int .i64 0 ∧ ∃ (i : Nat) (ts : List Sl) (ns : List Bool), i ≤ M.bs.length ∧ u = .int .i64 i ∧ Blk wr gI 26 (ts.map Sl.val ++ List.replicate (M.bs.length - i) (.slice none 0 0)) ∧ Blk wr gN 4 (ns.map Value.bool ++ List.replicate (M.bs.length - i) (.bool false)) ∧
        bidsOf ts = ((bidsOf M.bs).take i).map (fun b => (ofV b s.l).1) ∧ ns = ((bidsOf M.bs).take i).map (fun b => (ofV b s.l).2.1) ∧ OwnAll wr w2.heap.size ts ∧ Keep w2 wr) (fun _ u _ => M.bs.length - (intOf u).toNat)
      case atStart => exact ⟨rfl, 0, [], [], Nat.zero_le _, rfl, bI, bN, rfl, rfl, ⟨fun t h => (by cases h), List.Pairwise.nil⟩, k3⟩
      case round =>
        clear bI bN k3 e1
        obtain ⟨rfl, i, ts, ns, hi, rfl, bI, bN, hts, hns, how, hkeep⟩ := hrel
        have HTS := Lib.hid hts
        have HNS := Lib.hid hns
        have lts : ts.length = i := by
          have := congrArg List.length hts
          rw [bidsOf, List.length_map, List.length_map, List.length_take, length_bids] at this
          omega
        have lns : ns.length = i := by
          have := congrArg List.length hns
          rw [List.length_map, List.length_take, length_bids] at this
          omega
        have LTS := Lib.hid lts
        have LNS := Lib.hid lns
        clear hts hns lts lns
        by_cases hlt : i < M.bs.length
        · have hMr := hM.keep hkeep
          have hsr := hs.keep hkeep
          obtain ⟨b1, o1, x, hba, hsk, hc1, hx⟩ := hMr.b.at_ hlt
          have HX := Lib.hid (show (bidsOf M.bs)[i]? = some x.l by rw [bidsOf, List.getElem?_map, hsk]; rfl)
          have hok := HA.out x.l (List.mem_map.2 ⟨x, List.mem_of_getElem? hsk, rfl⟩)
          have lx := hx.len.le
          have hq := of_own x.a s.a x.c s.c x.l s.l wr hx.rd hx.len hsr.rd hsr.len
          have hi1 : (i : Int) < M.bs.length := by omega
          have hi0 : (0 : Int) ≤ i := by omega
          have HOK := Lib.hid hok
          rw [hba]
          clear hba hsk hok hMr hsr
          go_wp2_with fail
          refine hq.mono ?_
          rintro e w4 ⟨A, L, n, g, r, rfl, hf, k4, hv⟩
          have hr : r = 0 := by
            unfold ofV at hv
            rw [if_pos HOK.out] at hv
            injection hv with _ hv
            injection hv with _ hv
            injection hv with _ hv
            exact hv.symm
          subst hr
          have hv1 : (ofV x.l s.l).1 = L := by rw [hv]
          have hv2 : (ofV x.l s.l).2.1 = n := by rw [hv]
          have HV1 := Lib.hid hv1
          have HV2 := Lib.hid hv2
          have hsep : ∀ t ∈ ts, Sep t ⟨A, L.length, L⟩ := fun t ht => Sep.new (how.1 t ht) hf
          have HSEP := Lib.hid hsep
          replace hf : Fr 3 w4 w2.heap.size A L.length L.length (cs .i64 L) := hf.mono hkeep.size
          replace bI := bI.keep k4
          replace bN := bN.keep k4
          replace how := how.keep k4
          replace hkeep := hkeep.trans k4
          have eI := bI.cell_ (fill_at (a := ts.map Sl.val) (by rw [List.length_map]; exact LTS.out) hlt)
          have eN := bN.cell_ (fill_at (a := ns.map Value.bool) (by rw [List.length_map]; exact LNS.out) hlt)
          have fI := bI.frozen i
          have fN := bN.frozen i
          have sI := bI.set_ i (.slice A L.length L.length)
          rw [fill_set (by rw [List.length_map]; exact LTS.out) hlt] at sI
          have sN := (bN.far (p := ⟨gI, i, none⟩) hne (.slice A L.length L.length)).set_ i (.bool n)
          rw [fill_set (by rw [List.length_map]; exact LNS.out) hlt] at sN
          have sI2 := sI.far (p := ⟨gN, i, none⟩) (Ne.symm hne) (.bool n)
          have eN2 : ((w4.setCell ⟨gI, i, none⟩ (.slice A L.length L.length)).cell? ⟨gN, i, none⟩) = some (.bool false) := (World.cell?_setCell_other w4 ⟨gI, i, none⟩ ⟨gN, i, none⟩ _ (fun e => by injection e with e1; exact hne e1)).trans eN
          have fN2 := (bN.far (p := ⟨gI, i, none⟩) hne (.slice A L.length L.length)).frozen i
          have fr : ∀ (t : Sl), Fr 3 w4 w2.heap.size t.a t.l.length t.c (cs .i64 t.l) → Fr 3 ((w4.setCell ⟨gI, i, none⟩ (.slice A L.length L.length)).setCell ⟨gN, i, none⟩ (.bool n)) w2.heap.size t.a t.l.length t.c (cs .i64 t.l) := fun t f => by
            have f1 := f.setCell (fun k hk => f.own_ne bI (by decide) k hk) (p := ⟨gI, i, none⟩) (.slice A L.length L.length)
            exact f1.setCell (fun k hk => f1.own_ne (bN.far (p := ⟨gI, i, none⟩) hne _) (by decide) k hk) (p := ⟨gN, i, none⟩) (.bool n)
          have FR := Lib.hid fr
          have hk2 : Keep w2 ((w4.setCell ⟨gI, i, none⟩ (.slice A L.length L.length)).setCell ⟨gN, i, none⟩ (.bool n)) := (hkeep.setCell (p := ⟨gI, i, none⟩) hgI _).setCell (p := ⟨gN, i, none⟩) hgN _
          have hm1 : ts.map Sl.val ++ [.slice A L.length L.length] = (ts ++ [(⟨A, L.length, L⟩ : Sl)]).map Sl.val := by rw [List.map_append]; rfl
          have hm2 : ns.map Value.bool ++ [.bool n] = (ns ++ [n]).map Value.bool := by rw [List.map_append]; rfl
          rw [hm1] at sI2
          rw [hm2] at sN
          have HF := Lib.hid hf
          clear hq hv hv1 hv2 hsep fr sI eN hm1 hm2 hf hc1 hx k4 lx
          go_wp2_with fail
          go_roundw
          case rel =>
            refine ⟨rfl, i + 1, _, _, by omega, by go_num, sI2, sN, ?_, ?_, ⟨fun t ht => ?_, ?_⟩, hk2⟩
            · rw [List.take_add_one, HX.out, bids_append, HTS.out, List.map_append]
              simp [bidsOf, HV1.out]
            · rw [List.take_add_one, HX.out, List.map_append, ← HNS.out]
              simp [HV2.out]
            · rcases List.mem_append.1 ht with ht | ht
              · exact FR.out t (how.1 t ht)
              · rw [List.mem_singleton] at ht
                subst ht
                exact FR.out ⟨A, L.length, L⟩ HF.out
            · rw [List.pairwise_append]
              exact ⟨how.2, List.pairwise_singleton _ _, fun u hu v hv => by rw [List.mem_singleton] at hv; exact hv ▸ HSEP.out u hu⟩
          case measure => simp [intOf]; omega
        · have hie : i = M.bs.length := by omega
          subst hie
          rw [Nat.sub_self, List.replicate_zero, List.append_nil] at bI bN
          have hts := HTS.out
          have hns := HNS.out
          rw [List.take_of_length_le (by rw [length_bids]; exact Nat.le_refl _)] at hts hns
          have H1 := Lib.hid hts
          have H2 := Lib.hid hns
          have hw2 := kk.size
          clear hts hns HTS HNS
          go_wp2_with fail
          go_ret3
          rw [HL.out]
          exact ⟨gI, gN, ts, ns, rfl, H1.out, H2.out, bI, bN, by omega, by omega, ⟨fun t ht => (how.1 t ht).mono hw2, how.2⟩, kk.trans hkeep⟩

theorem all_yes (M : Mkt) (s : Sl) (w : World) (hM : M.Ok w) (hs : s.Ok .i64 w) (h : allOk M.r.l (bidsOf M.bs) M.o.l s.l = true) :
    Calls Tryz.prog 31 #[M.val, .slice s.a s.l.length s.c] w fun e w' => ∃ (gI gN : Nat) (ts : List Sl) (ns : List Bool), e = .returned (.tuple #[.slice (some ⟨gI, 0, none⟩) M.bs.length M.bs.length, .slice (some ⟨gN, 0, none⟩) M.bs.length M.bs.length, .int .i64 0]) ∧ bidsOf ts = (bidsOf M.bs).map (fun b => (ofV b s.l).1) ∧ ns = (bidsOf M.bs).map (fun b => (ofV b s.l).2.1) ∧
      Blk w' gI 26 (ts.map Sl.val) ∧ Blk w' gN 4 (ns.map Value.bool) ∧ w.heap.size ≤ gI ∧ w.heap.size ≤ gN ∧ OwnAll w' w.heap.size ts ∧ Keep w w' := by
  have hq := all_f M s w hM hs
  unfold AllP at hq
  rw [h, length_bids] at hq
  simpa only [if_true] using hq
theorem all_no (M : Mkt) (s : Sl) (w : World) (hM : M.Ok w) (hs : s.Ok .i64 w) (h : allOk M.r.l (bidsOf M.bs) M.o.l s.l = false) :
    Calls Tryz.prog 31 #[M.val, .slice s.a s.l.length s.c] w fun e w' => e = .returned (.tuple #[.slice none 0 0, .slice none 0 0, .int .i64 1]) ∧ Keep w w' := by
  have hq := all_f M s w hM hs
  unfold AllP at hq
  rw [h] at hq
  simpa only [Bool.false_eq_true, if_false] using hq
theorem allOk_set {R : List Int} {B : List (List Int)} {O P : List Int} (p : Nat) (h : allOk R B O P = true) : allOk R (B.set p []) O P = true := by
  unfold allOk at h ⊢
  simp only [Bool.and_eq_true] at h ⊢
  exact ⟨chkM_set p h.1, h.2⟩
theorem ofV_nil {P : List Int} (h : mayP P P.length = true) : ofV [] P = ([], true, 0, 0) := by
  have hk : ofOk [] P = true := by unfold ofOk; rw [h]; simp
  unfold ofV
  rw [if_pos hk]
  rfl
end Go.Proofs.YtjaaganaohjmaaaGreatDoor

namespace Go.Proofs.YtjaaganaohjmaaaGreatDoor
open Go.RowKit

/-- Lists of lists of the call's own. -/
structure OwnL (w : World) (base : Nat) (A : Option Addr) (c : Nat) (ss : List Sl) : Prop where
  f : Fr 26 w base A ss.length c (ss.map Sl.val)
  o : OwnAll w base ss
theorem OwnL.keep {w w' : World} {base c : Nat} {A : Option Addr} {ss : List Sl} (h : OwnL w base A c ss) (hk : Keep w w') : OwnL w' base A c ss := ⟨h.f.keep hk, h.o.keep hk⟩
theorem OwnL.mono {w : World} {base b' c : Nat} {A : Option Addr} {ss : List Sl} (h : OwnL w base A c ss) (hb : b' ≤ base) : OwnL w b' A c ss := ⟨h.f.mono hb, fun s hs => (h.o.1 s hs).mono hb, h.o.2⟩
end Go.Proofs.YtjaaganaohjmaaaGreatDoor

namespace Go.Proofs.YtjaaganaohjmaaaGreatDoor
open Go.RowKit

/-- What All says: the lists, who is told nothing, the error's number. -/
def allV (R : List Int) (B : List (List Int)) (O P : List Int) : List (List Int) × List Bool × Int :=
  if allOk R B O P = true then (B.map (fun b => (ofV b P).1), B.map (fun b => (ofV b P).2.1), 0) else ([], [], 1)
theorem ofV_items {xs ys L : List Int} {n : Bool} {g r : Int} (h : ofV xs ys = (L, n, g, r)) (hx : xs.length ≤ 8) : L.length ≤ 8 ∧ ∀ x ∈ L, (Lit.int .i64 x).wf = true := by
  rcases ofV_cases h with ⟨_, rfl, _⟩ | ⟨_, _, hg⟩
  · exact ⟨by simp, fun x h => by cases h⟩
  · refine ⟨Nat.le_trans hg.best.short hx, fun x hx' => ?_⟩
    obtain ⟨j, hj⟩ := List.getElem?_of_mem hx'
    have := hg.best.ge j x hj
    exact WalkArith.wf_i64 (by omega)
theorem one_slj (s : Sl) : ∀ u ∈ [s.val], u.oneCell' = true := fun u hu => by
  rw [List.mem_singleton] at hu
  subst hu
  rfl
theorem allOk_bids {R : List Int} {B : List (List Int)} {O P : List Int} (h : allOk R B O P = true) : B.length ≤ 8 ∧ ∀ b ∈ B, b.length ≤ 8 := by
  unfold allOk at h
  simp only [Bool.and_eq_true] at h
  obtain ⟨_, _, _, m4, m5, _⟩ := chkM_lens h.1
  exact ⟨m4, m5⟩
/-- Lists that are told: each one as short as its bid, its numbers small. -/
theorem told_ok {B : List (List Int)} {P : List Int} {ts : List Sl} (h8 : ∀ b ∈ B, b.length ≤ 8) (hb : bidsOf ts = B.map (fun b => (ofV b P).1)) : ∀ s ∈ ts, s.l.length ≤ 8 ∧ ∀ x ∈ s.l, (Lit.int .i64 x).wf = true := by
  intro s hs
  have hm : s.l ∈ bidsOf ts := List.mem_map.2 ⟨s, hs, rfl⟩
  rw [hb] at hm
  obtain ⟨b, hb1, e2⟩ := List.mem_map.1 hm
  have := ofV_items (xs := b) (ys := P) (L := (ofV b P).1) (n := (ofV b P).2.1) (g := (ofV b P).2.2.1) (r := (ofV b P).2.2.2) rfl (h8 b hb1)
  rw [e2] at this
  exact this
theorem all_u (M : Mkt) (s : Sl) (w : World) (hM : M.Ok w) (hs : s.Ok .i64 w) {V : List (List Int)} {ns : List Bool} {r : Int} (hv : allV M.r.l (bidsOf M.bs) M.o.l s.l = (V, ns, r)) :
    Calls Tryz.prog 31 #[M.val, .slice s.a s.l.length s.c] w fun e w' => ∃ (A : Option Addr) (c : Nat) (ss : List Sl) (B : Option Addr) (d : Nat), e = .returned (.tuple #[.slice A ss.length c, .slice B ns.length d, .int .i64 r]) ∧ InR .i64 w' A c ss ∧ bidsOf ss = V ∧ Short ss ∧ ss.length ≤ 8 ∧ OwnL w' w.heap.size A c ss ∧ Rd w' B (ns.map Value.bool) ∧ ns.length ≤ 8 ∧ Keep w w' := by
  unfold allV at hv
  cases hc : allOk M.r.l (bidsOf M.bs) M.o.l s.l with
  | false =>
    rw [hc] at hv
    cases hv
    refine (all_no M s w hM hs hc).mono ?_
    rintro e w' ⟨rfl, kk⟩
    exact ⟨none, 0, [], none, 0, rfl, ⟨Rd.nil _ _, Nat.le_refl _, Nat.zero_le _, (fun s h => by cases h)⟩, rfl, (fun s h => by cases h), Nat.zero_le _, ⟨Fr.empty _ _ _ _, (fun s h => by cases h), List.Pairwise.nil⟩, Rd.nil _ _, Nat.zero_le _, kk⟩
  | true =>
    rw [hc] at hv
    cases hv
    obtain ⟨h8, h9⟩ := allOk_bids hc
    refine (all_yes M s w hM hs hc).mono ?_
    rintro e w' ⟨gI, gN, ts, ns, rfl, hb, rfl, bI, bN, hI, hN, hO, kk⟩
    have hl : ts.length = M.bs.length := by
      have := congrArg List.length hb
      rw [length_bids, List.length_map, length_bids] at this
      exact this
    rw [length_bids] at h8
    have ht := told_ok h9 hb
    have hln : ((bidsOf M.bs).map (fun b => (ofV b s.l).2.1)).length = M.bs.length := by rw [List.length_map, length_bids]
    refine ⟨some ⟨gI, 0, none⟩, M.bs.length, ts, some ⟨gN, 0, none⟩, M.bs.length, by rw [hl]; simp only [List.length_map, length_bids], ⟨bI.rd, by omega, by unfold maxLen; omega, fun s' h => ?_⟩, hb, fun s' h => by have := (ht s' h).1; omega, by omega, ⟨?_, hO⟩, bN.rd, by omega, kk⟩
    · have hf := hO.1 s' h
      exact ⟨⟨hf.rd, hf.cap, hf.capMax, (ht s' h).2⟩, hf.capNil⟩
    · have hf := bI.fr (n := ts.length) (by rw [List.length_map]) hI (by unfold maxLen; omega)
      rw [hl] at hf ⊢
      exact hf

set_option maxRecDepth 100000 in
set_option maxHeartbeats 8000000 in
theorem refAll_u (M : Mkt) (s : Sl) (w : World) (hM : M.Ok w) (hs : s.Ok .i64 w) {V : List (List Int)} {ns : List Bool} {r : Int} (hv : allV M.r.l (bidsOf M.bs) M.o.l s.l = (V, ns, r)) :
    Calls Tryz.prog 32 #[M.val, .slice s.a s.l.length s.c] w fun e w' => ∃ (A : Option Addr) (c : Nat) (ss : List Sl) (B : Option Addr) (d : Nat), e = .returned (.tuple #[.slice A ss.length c, .slice B ns.length d, .int .i64 r]) ∧ InR .i64 w' A c ss ∧ bidsOf ss = V ∧ Short ss ∧ Rd w' B (ns.map Value.bool) ∧ Keep w w' := by
  have lr := hM.r.len.le
  have lb := hM.b.len.le
  have lp := hs.len.le
  have hck := fun w1 (k1 : Keep w w1) => refCheckM_f M w1 (hM.keep k1)
  have hpr := fun w1 (k1 : Keep w w1) => refPrices_f s.a s.c s.l w1 (hs.keep k1).rd hs.len
  unfold allV at hv
  unfold Mkt.val at hck ⊢
  have k0 : Keep w (w.alloc (.cells #[.slice M.r.a M.r.l.length M.r.c, .slice M.ba M.bs.length M.bc, .slice M.o.a M.o.l.length M.o.c] 65)) := Keep.alloc1 _ _
  have bM := Blk.new w 65 [.slice M.r.a M.r.l.length M.r.c, .slice M.ba M.bs.length M.bc, .slice M.o.a M.o.l.length M.o.c]
  have hno : ∀ w', Keep w w' → allOk M.r.l (bidsOf M.bs) M.o.l s.l = false → ∃ (A : Option Addr) (c : Nat) (ss : List Sl) (B : Option Addr) (d : Nat), Ending.returned (.tuple #[.slice none 0 0, .slice none 0 0, .int .i64 1]) = .returned (.tuple #[.slice A ss.length c, .slice B ns.length d, .int .i64 r]) ∧ InR .i64 w' A c ss ∧ bidsOf ss = V ∧ Short ss ∧ Rd w' B (ns.map Value.bool) ∧ Keep w w' := fun w' kk hc => by
    rw [if_neg (by rw [hc]; decide)] at hv
    cases hv
    exact ⟨none, 0, [], none, 0, rfl, ⟨Rd.nil _ _, Nat.le_refl _, Nat.zero_le _, (fun s h => by cases h)⟩, rfl, (fun s h => by cases h), Rd.nil _ _, kk⟩
  have HNO := Lib.hid hno
  have HV := Lib.hid hv
  clear hno hv
  cases hc : chkM M.r.l (bidsOf M.bs) M.o.l with
  | false =>
    rw [hc] at hck
    have HC := Lib.hid (show allOk M.r.l (bidsOf M.bs) M.o.l s.l = false by unfold allOk; rw [hc]; rfl)
    clear hc
    go_enter Tryz.func32, Tryz.ntmps32
    go_wp2_with fail
    refine (hck _ k0).mono ?_
    rintro e w1 ⟨rfl, k1⟩
    replace bM := bM.keep k1
    have d0 := bM.cell_ (i := 0) rfl
    go_wp2_with fail
    refine bodyPost_ret (results_tmp3 rfl _ _ _) rfl ?_
    exact HNO.out _ (k0.trans k1) HC.out
  | true =>
   rw [hc] at hck
   by_cases hlen : s.l.length = M.r.l.length
   · cases hm : mayP s.l s.l.length with
     | false =>
       have HC := Lib.hid (show allOk M.r.l (bidsOf M.bs) M.o.l s.l = false by unfold allOk; rw [← hlen, hm, Bool.and_false])
       have z1 : ((M.r.l.length : Int) != (M.r.l.length : Int)) = false := by simp
       rw [hm] at hpr
       simp only [hlen] at hpr
       rw [hlen]
       clear hc hm hlen
       go_enter Tryz.func32, Tryz.ntmps32
       go_wp2_with fail
       refine (hck _ k0).mono ?_
       rintro e w1 ⟨rfl, k1⟩
       replace bM := bM.keep k1
       have d0 := bM.cell_ (i := 0) rfl
       have hq := hpr _ (k0.trans k1)
       clear hck hpr
       go_wp2_with fail
       refine hq.mono ?_
       rintro e w2 ⟨rfl, k2⟩
       go_wp2_with fail
       refine bodyPost_ret (results_tmp3 rfl _ _ _) rfl ?_
       exact HNO.out _ ((k0.trans k1).trans k2) HC.out
     | true =>
       have hok : allOk M.r.l (bidsOf M.bs) M.o.l s.l = true := by unfold allOk; rw [hc, ← hlen, hm]; rfl
       obtain ⟨m4, m5⟩ := allOk_bids hok
       obtain ⟨_, _, p8, _⟩ := allOk_of hok
       have p8' : s.l.length ≤ 8 := by omega
       rw [length_bids] at m4
       have M5 := Lib.hid m5
       have HOK := Lib.hid hok
       have z1 : ((M.r.l.length : Int) != (M.r.l.length : Int)) = false := by simp
       rw [hm] at hpr
       simp only [hlen] at hpr
       rw [hlen]
       have HLEN := Lib.hid hlen
       clear hc hm hlen hok m5 p8
       go_enter Tryz.func32, Tryz.ntmps32
       go_wp2_with fail
       have hq := hck _ k0
       change Calls _ _ _ (w.alloc (.cells #[.slice M.r.a M.r.l.length M.r.c, .slice M.ba M.bs.length M.bc, .slice M.o.a M.o.l.length M.o.c] 65)) _
       generalize w.alloc (.cells #[.slice M.r.a M.r.l.length M.r.c, .slice M.ba M.bs.length M.bc, .slice M.o.a M.o.l.length M.o.c] 65) = w0 at k0 bM hq ⊢
       generalize w.heap.size = gm at bM ⊢
       refine hq.mono ?_
       rintro e w1 ⟨rfl, k1⟩
       replace bM := bM.keep k1
       replace k0 := k0.trans k1
       have d0 := bM.cell_ (i := 0) rfl
       have hq := hpr _ k0
       clear hck hpr
       go_wp2_with fail
       refine hq.mono ?_
       rintro e w2 ⟨rfl, k2⟩
       clear hq d0
       replace bM := bM.keep k2
       replace k0 := k0.trans k2
       have hM1 := hM.keep k0
       have hs1 := hs.keep k0
       clear k1 k2
       go_wp2_with fail
       obtain ⟨W1, hW1⟩ : ∃ x, x = w2 := ⟨_, rfl⟩
       subst hW1
       go_loopw [7, 8, 9] (fun v u i wr => ∃ (k : Nat) (A : Option Addr) (c : Nat) (ss : List Sl) (B : Option Addr) (d : Nat) (ms : List Bool), k ≤ M.bs.length ∧ v = .slice A k c ∧ u = .slice B k d ∧ i = .int .i64 k ∧ Hid (bidsOf ss = ((bidsOf M.bs).take k).map (fun b => (ofV b s.l).1)) ∧ Hid (ms = ((bidsOf M.bs).take k).map (fun b => (ofV b s.l).2.1)) ∧ Hid (ss.length = k) ∧ Fr 26 wr W1.heap.size A k c (ss.map Sl.val) ∧ Fr 4 wr W1.heap.size B k d (ms.map Value.bool) ∧ (∀ s' ∈ ss, Fr 3 wr W1.heap.size s'.a s'.l.length s'.c (cs .i64 s'.l)) ∧ Keep W1 wr) (fun _ _ i _ => M.bs.length - (intOf i).toNat)
       case atStart => exact ⟨0, none, 0, [], none, 0, [], Nat.zero_le _, rfl, rfl, rfl, Lib.hid rfl, Lib.hid rfl, Lib.hid rfl, Fr.empty _ _ _ _, Fr.empty _ _ _ _, (fun s h => by cases h), Keep.refl _⟩
       case round =>
         obtain ⟨k, A, c, ss, B, d, ms, hk, rfl, rfl, rfl, hbd, hms, hsl, fA, fB, fs, hkk⟩ := hrel
         have bR := bM.keep hkk
         have d1 := bR.cell_ (i := 1) rfl
         by_cases hlt : k < M.bs.length
         · obtain ⟨b1, o1, q, hba, hqk, hc1, hq1⟩ := (hM1.keep hkk).b.at_ hlt
           rw [hba] at d1
           have hi1 : (k : Int) < M.bs.length := by omega
           have hi0 : (0 : Int) ≤ k := by omega
           have HGET := Lib.hid (show (bidsOf M.bs)[k]? = some q.l by rw [bidsOf, List.getElem?_map, hqk]; rfl)
           have hq := refOf_o q.a s.a q.c s.c q.l s.l wr hq1.rd hq1.len (hs1.keep hkk).rd hs.len
           unfold RefOfO at hq
           rw [HLEN.out] at hq
           clear hba hqk
           go_wp2_with fail
           refine hq.mono ?_
           rintro e w3 ⟨A2, c2, L, n, g, r', rfl, f2, k2, hov⟩
           clear hq
           have hL8 := (ofV_items hov (M5.out _ (List.mem_of_getElem? HGET.out))).1
           have HOV := Lib.hid hov
           clear hov
           replace f2 := f2.mono hkk.size
           replace fA := fA.keep k2
           replace fB := fB.keep k2
           replace fs := fun s' h => (fs s' h).keep k2
           replace hkk := hkk.trans k2
           clear k2 d1 hc1 bR
           go_wp2_with (at_builtin; refine wpList_append_fr _ rfl _ _ 63 rfl W1.heap.size 26 (.slice none 0 0) 24 Tryz.underlying63 infoInts rfl A k c _ rfl (fA.keep (Keep.alloc1 _ _)) (some ⟨w3.heap.size, 0, none⟩) 1 1 [.slice A2 L.length c2] rfl rfl (Rd.one _ _ _) (fun u hu => by rw [List.mem_singleton] at hu; subst hu; rfl) ?c1 ?c2 ?c3 ?_)
           case c1 => unfold maxLen; omega
           case c2 => omega
           case c3 => have := hkk.size; simp; omega
           intro A3 c3 w4 happ
           have ka := Keep.alloc1 w3 (.cells #[.slice A2 L.length c2] 26)
           have fBa := fA.keep ka
           have offI : ∀ {e : TypeId} {A : Option Addr} {n c : Nat} {vs : List Value}, e ≠ 26 → Fr e w3 W1.heap.size A n c vs → Fr e w4 W1.heap.size A n c vs := fun hne h => (h.keep ka).grown happ.2.1 fun q hq e => Fr.offtype (h.keep ka) fBa hne q hq e
           replace f2 := offI (by decide) f2
           replace fB := offI (by decide) fB
           replace fs := fun s' h => offI (by decide) (fs s' h)
           have k3 := happ.keep (hkk.trans ka) fBa
           have f3 := happ.fr
           clear happ offI fBa ka fA hkk
           go_wp2_with (at_builtin; refine wpList_append_fr _ rfl _ _ 69 rfl W1.heap.size 4 (.bool false) 1 Tryz.underlying69 infoBool rfl B k d _ rfl (fB.keep (Keep.alloc1 _ _)) (some ⟨w4.heap.size, 0, none⟩) 1 1 [.bool n] rfl rfl (Rd.one _ _ _) (fun u hu => by rw [List.mem_singleton] at hu; subst hu; rfl) ?e1 ?e2 ?e3 ?_)
           case e1 => unfold maxLen; omega
           case e2 => omega
           case e3 => have := k3.size; simp; omega
           intro B3 d3 w5 happ
           have ka := Keep.alloc1 w4 (.cells #[.bool n] 4)
           have fBa := fB.keep ka
           have offI : ∀ {e : TypeId} {A : Option Addr} {n c : Nat} {vs : List Value}, e ≠ 4 → Fr e w4 W1.heap.size A n c vs → Fr e w5 W1.heap.size A n c vs := fun hne h => (h.keep ka).grown happ.2.1 fun q hq e => Fr.offtype (h.keep ka) fBa hne q hq e
           replace f2 := offI (by decide) f2
           replace f3 := offI (by decide) f3
           have HS2 := Lib.hid (fun s' (h : s' ∈ ss ++ [(⟨A2, c2, L⟩ : Sl)]) => show Fr 3 w5 W1.heap.size s'.a s'.l.length s'.c (cs .i64 s'.l) from by
             rcases List.mem_append.1 h with h | h
             · exact offI (by decide) (fs s' h)
             · rw [List.mem_singleton] at h
               subst h
               exact f2)
           have k5 := happ.keep (k3.trans ka) fBa
           have f5 := happ.fr
           have hm1 : ss.map Sl.val ++ [.slice A2 L.length c2] = (ss ++ [(⟨A2, c2, L⟩ : Sl)]).map Sl.val := by rw [List.map_append]; rfl
           have hm2 : ms.map Value.bool ++ [.bool n] = (ms ++ [n]).map Value.bool := by rw [List.map_append]; rfl
           rw [hm1] at f3
           rw [hm2] at f5
           have HB2 := Lib.hid (show bidsOf (ss ++ [(⟨A2, c2, L⟩ : Sl)]) = ((bidsOf M.bs).take (k + 1)).map (fun b => (ofV b s.l).1) by rw [List.take_add_one, HGET.out, List.map_append, ← hbd.out]; simp [bidsOf, HOV.out])
           have HN2 := Lib.hid (show ms ++ [n] = ((bidsOf M.bs).take (k + 1)).map (fun b => (ofV b s.l).2.1) by rw [List.take_add_one, HGET.out, List.map_append, ← hms.out]; simp [HOV.out])
           have HL2 := Lib.hid (show (ss ++ [(⟨A2, c2, L⟩ : Sl)]).length = k + 1 by rw [List.length_append, hsl.out]; rfl)
           clear happ offI fBa ka hm1 hm2 k3 f2 fB fs
           go_wp2_with fail
           go_roundw
           case rel => exact ⟨k + 1, A3, c3, ss ++ [⟨A2, c2, L⟩], B3, d3, ms ++ [n], by omega, rfl, rfl, by go_num, HB2, HN2, HL2, f3, f5, HS2.out, k5⟩
           case measure => simp [intOf]; omega
         · obtain rfl : k = M.bs.length := by omega
           go_wp2_with fail
           refine bodyPost_ret (results_tmp3 rfl _ _ _) rfl ?_
           have hv := HV.out
           rw [if_pos HOK.out] at hv
           simp only [Prod.mk.injEq] at hv
           obtain ⟨rfl, rfl, rfl⟩ := hv
           have hb := hbd.out
           have hmm := hms.out
           rw [List.take_of_length_le (by rw [length_bids]; exact Nat.le_refl _)] at hb hmm
           have ht := told_ok M5.out hb
           refine ⟨A, c, ss, B, d, by rw [hsl.out]; simp only [List.length_map, length_bids]; rfl, ⟨fA.rd, by rw [hsl.out]; exact fA.cap, fA.capMax, fun s' h => ?_⟩, hb, fun s' h => by have := (ht s' h).1; omega, by rw [← hmm]; exact fB.rd, k0.trans hkk⟩
           have hf := fs s' h
           exact ⟨⟨hf.rd, hf.cap, hf.capMax, (ht s' h).2⟩, hf.capNil⟩
   · have HC := Lib.hid (show allOk M.r.l (bidsOf M.bs) M.o.l s.l = false by
       unfold allOk
       rw [mayP_len (by omega), Bool.and_false])
     have z1 : ((s.l.length : Int) != (M.r.l.length : Int)) = true := by rw [bne_iff_ne]; omega
     clear hc hlen hpr
     go_enter Tryz.func32, Tryz.ntmps32
     go_wp2_with fail
     refine (hck _ k0).mono ?_
     rintro e w1 ⟨rfl, k1⟩
     replace bM := bM.keep k1
     have d0 := bM.cell_ (i := 0) rfl
     go_wp2_with fail
     refine bodyPost_ret (results_tmp3 rfl _ _ _) rfl ?_
     exact HNO.out _ (k0.trans k1) HC.out
end Go.Proofs.YtjaaganaohjmaaaGreatDoor

namespace Go.Proofs.YtjaaganaohjmaaaGreatDoor
open Go.RowKit

set_option maxRecDepth 100000 in
set_option maxHeartbeats 2000000 in
theorem leftInts_f (A B : Option Addr) (ca cb : Nat) (xs : List Int) (base : Nat) (w : World) (ht : Twin w base ⟨A, ca, xs⟩) (hb : Rd w B (cs .i64 xs)) (la : xs.length ≤ 1000000) :
    Calls Tryz.prog 35 #[.slice A xs.length ca, .slice B xs.length cb] w fun e w' => e = .returned (.bool true) ∧ Keep w w' := by
  have hcap : xs.length + 1 ≤ ca := Fr.cap ht
  have hcm := Fr.capMax ht
  unfold maxLen at hcm
  have hra : Rd w A (cs .i64 (xs ++ [77])) := Fr.rd ht
  have y1 : decide ((ca : Int) ≤ xs.length) = false := decide_eq_false (by omega)
  have y2 : (ca ≤ xs.length) = False := eq_false (by omega)
  have z1 : ((xs.length : Int) != xs.length) = false := by simp
  obtain ⟨bm, om, hAm, hmark⟩ := hra.at_ (j := xs.length) (by rw [length_cs, List.length_append]; simp)
  have hval : (cs .i64 (xs ++ [77]))[xs.length]'(by rw [length_cs, List.length_append]; simp) = .int .i64 77 := by
    simp [cs]
  rw [hval] at hmark
  clear hval
  have HA := Lib.hid hAm
  clear ht hAm
  go_enter Tryz.func35, Tryz.ntmps35
  go_wp2_with fail
  go_loopw [5] (fun v wr => ∃ i : Nat, i ≤ xs.length ∧ v = .int .i64 i ∧ Keep w wr) (fun v _ => xs.length - (intOf v).toNat)
  case atStart => exact ⟨0, Nat.zero_le _, rfl, Keep.refl _⟩
  case round =>
    obtain ⟨i, hi, rfl, hk⟩ := hrel
    by_cases hlt : i < xs.length
    · obtain ⟨b1, o1, x, e1, hx, cA⟩ := (hra.keep hk).int_at (j := i) (by rw [List.length_append]; simp; omega)
      obtain ⟨b2, o2, x2, e2, hx2, cB⟩ := (hb.keep hk).int_at hlt
      have hxx : x2 = x := by
        rw [List.getElem?_append_left hlt] at hx
        exact Option.some.inj (hx2.symm.trans hx)
      subst hxx
      subst e1
      subst e2
      have z2 : (x2 != x2) = false := by simp
      have hi1 : (i : Int) < xs.length := by omega
      have hi0 : (0 : Int) ≤ i := by omega
      clear hx hx2
      go_upto_region 6 with fail
      refine wp_region_noPanic ?_
      refine wp_region_held_drew (S := (fun w' => w'.cell? ⟨b1, o1 + i, none⟩ = some (.int .i64 x2) ∧ w'.cell? ⟨b2, o2 + i, none⟩ = some (.int .i64 x2))) (by kernel_rfl) ⟨cA, cB⟩ (fun hS => ?_)
      refine wpAnyH_take (i := 0) (v := ?_) rfl (by kernel_rfl) (by kernel_rfl) (by kernel_rfl) (fun _ _ _ h => h) (Or.inl ⟨by rfl, ?_⟩) hS ?_
      rotate_left
      · (intro w hSw; (try dsimp only at hSw); go_simp; (first | done | with_reducible rfl))
      change wpAnyH _ _ _ _ _ _ _ (Act.put _ (some 25) _) _
      simp only [Act.put, List.setIfInBounds_toArray, List.set_cons_zero, List.set_cons_succ]
      refine wpAnyH_take (i := 1) (v := ?_) rfl (by kernel_rfl) (by kernel_rfl) (by kernel_rfl) (fun _ _ _ h => h) (Or.inl ⟨by rfl, ?_⟩) hS ?_
      rotate_left
      · (intro w hSw; (try dsimp only at hSw); go_simp; (first | done | with_reducible rfl))
      change wpAnyH _ _ _ _ _ _ _ (Act.put _ (some 26) _) _
      simp only [Act.put, List.setIfInBounds_toArray, List.set_cons_zero, List.set_cons_succ]
      refine wpAnyH_take (i := 2) (v := ?_) rfl (by kernel_rfl) (by kernel_rfl) (by kernel_rfl) (fun _ _ _ h => h) (Or.inl ⟨by rfl, ?_⟩) hS ?_
      rotate_left
      · (intro w hSw; (try dsimp only at hSw); go_simp; (first | done | with_reducible rfl))
      change wpAnyH _ _ _ _ _ _ _ (Act.put _ (some 27) _) _
      simp only [Act.put, List.setIfInBounds_toArray, List.set_cons_zero, List.set_cons_succ]
      refine wpAnyH_take (i := 3) (v := ?_) rfl (by kernel_rfl) (by kernel_rfl) (by kernel_rfl) (fun _ _ _ h => h) (Or.inl ⟨by rfl, ?_⟩) hS ?_
      rotate_left
      · (intro w hSw; (try dsimp only at hSw); go_simp; (first | done | with_reducible rfl))
      change wpAnyH _ _ _ _ _ _ _ (Act.put _ (some 28) _) _
      simp only [Act.put, List.setIfInBounds_toArray, List.set_cons_zero, List.set_cons_succ]
      refine wpAnyH_take (i := 4) (v := ?_) rfl (by kernel_rfl) (by kernel_rfl) (by kernel_rfl) (fun _ _ _ h => h) (Or.inl ⟨by rfl, ?_⟩) hS ?_
      rotate_left
      · (intro w hSw; (try dsimp only at hSw); go_simp; (first | done | with_reducible rfl))
      change wpAnyH _ _ _ _ _ _ _ (Act.put _ (some 29) _) _
      simp only [Act.put, List.setIfInBounds_toArray, List.set_cons_zero, List.set_cons_succ]
      refine wpAnyH_take (i := 5) (v := ?_) rfl (by kernel_rfl) (by kernel_rfl) (by kernel_rfl) (fun _ _ _ h => h) (Or.inl ⟨by rfl, ?_⟩) hS ?_
      rotate_left
      · (intro w hSw; (try dsimp only at hSw); go_simp; (first | done | with_reducible rfl))
      change wpAnyH _ _ _ _ _ _ _ (Act.put _ (some 30) _) _
      simp only [Act.put, List.setIfInBounds_toArray, List.set_cons_zero, List.set_cons_succ]
      refine wpAnyH_take (i := 6) (v := ?_) rfl (by kernel_rfl) (by kernel_rfl) (by kernel_rfl) (fun _ _ _ h => h) (Or.inl ⟨by rfl, ?_⟩) hS ?_
      rotate_left
      · (intro w hSw; (try dsimp only at hSw); go_simp; (first | done | with_reducible rfl))
      change wpAnyH _ _ _ _ _ _ _ (Act.put _ (some 31) _) _
      simp only [Act.put, List.setIfInBounds_toArray, List.set_cons_zero, List.set_cons_succ]
      refine wpAnyH_take (i := 7) (v := ?_) rfl (by kernel_rfl) (by kernel_rfl) (by kernel_rfl) (fun _ _ _ h => h) (Or.inl ⟨by rfl, ?_⟩) hS ?_
      rotate_left
      · (intro w hSw; (try dsimp only at hSw); go_simp; (first | done | with_reducible rfl))
      change wpAnyH _ _ _ _ _ _ _ (Act.put _ (some 32) _) _
      simp only [Act.put, List.setIfInBounds_toArray, List.set_cons_zero, List.set_cons_succ]
      refine wpAnyH_take (i := 8) (v := ?_) rfl (by kernel_rfl) (by kernel_rfl) (by kernel_rfl) (fun _ _ _ h => h) (Or.inl ⟨by rfl, ?_⟩) hS ?_
      rotate_left
      · (intro w hSw; (try dsimp only at hSw); go_simp; (first | done | with_reducible rfl))
      change wpAnyH _ _ _ _ _ _ _ (Act.put _ (some 33) _) _
      simp only [Act.put, List.setIfInBounds_toArray, List.set_cons_zero, List.set_cons_succ]
      refine wpAnyH_done (by kernel_rfl) ?_ _
      refine NoPanic.normal ?_
      go_wp2_with fail
      go_roundw
      case rel => exact ⟨i + 1, by omega, by go_num, hk.drew⟩
      case measure => simp [intOf]; omega
    · have hm2 := hk.cell hmark
      have y3 : (xs.length : Int) + 1 ≤ ca := by omega
      rw [HA.out]
      clear HA
      go_wp2_with fail
      go_ret
      exact ⟨rfl, hk⟩
end Go.Proofs.YtjaaganaohjmaaaGreatDoor

namespace Go.Proofs.YtjaaganaohjmaaaGreatDoor
open Go.RowKit

set_option maxRecDepth 100000 in
set_option maxHeartbeats 4000000 in
theorem leftLists_f (A B : Option Addr) (ca cb : Nat) (ts ss : List Sl) (z : Sl) (base : Nat) (w : World) (ht : ∀ t ∈ ts, Twin w base t) (hb : bidsOf ts = bidsOf ss) (hf : Fr 26 w base A (ts.length + 1) ca (ts.map Sl.val ++ [z.val])) (hz : z.l = [77]) (fz : Fr 3 w base z.a 1 z.c (cs .i64 z.l)) (hs : InR .i64 w B cb ss)
    (la : ts.length ≤ 1000000) (lb : ∀ t ∈ ts, t.l.length ≤ 1000000) :
    Calls Tryz.prog 97 #[.slice A ts.length ca, .slice B ss.length cb] w fun e w' => e = .returned (.bool true) ∧ Keep w w' := by
  have hlen : ss.length = ts.length := by have := congrArg List.length hb; rw [length_bids, length_bids] at this; exact this.symm
  have hcap : ts.length + 1 ≤ ca := Fr.cap hf
  have hcm := Fr.capMax hf
  unfold maxLen at hcm
  have hra : Rd w A (ts.map Sl.val ++ [z.val]) := hf.rd
  have hrb : Rd w B (ss.map Sl.val) := hs.rd
  rw [hlen]
  have y1 : decide ((ca : Int) ≤ ts.length) = false := decide_eq_false (by omega)
  have y2 : (ca ≤ ts.length) = False := eq_false (by omega)
  have z1 : ((ts.length : Int) != ts.length) = false := by simp
  obtain ⟨bm, om, hAm, hmark⟩ := hra.at_ (j := ts.length) (by rw [List.length_append, List.length_map]; simp)
  have hval : (ts.map Sl.val ++ [z.val])[ts.length]'(by rw [List.length_append, List.length_map]; simp) = z.val := by simp
  rw [hval] at hmark
  obtain ⟨bz, oz, hza, hcz⟩ := fz.rd.at_ (j := 0) (by rw [length_cs, hz]; simp)
  have hcz0 : (cs .i64 z.l)[0]'(by rw [length_cs, hz]; simp) = .int .i64 77 := by simp [cs, hz]
  rw [hcz0, Nat.add_zero] at hcz
  unfold Sl.val at hmark
  rw [hz, hza] at hmark
  have HA := Lib.hid hAm
  have HT := Lib.hid ht
  have HB := Lib.hid hb
  have HL := Lib.hid hlen
  have HLB := Lib.hid lb
  have HRS := Lib.hid (fun s (h : s ∈ ss) => (hs.ok s h).rd)
  clear hf hAm hval hcz0 hza ht hb hlen lb hs
  go_enter Tryz.func97, Tryz.ntmps97
  go_wp2_with fail
  go_loopw [5] (fun v wr => ∃ i : Nat, i ≤ ts.length ∧ v = .int .i64 i ∧ Keep w wr) (fun v _ => ts.length - (intOf v).toNat)
  case atStart => exact ⟨0, Nat.zero_le _, rfl, Keep.refl _⟩
  case round =>
    obtain ⟨i, hi, rfl, hk⟩ := hrel
    by_cases hlt : i < ts.length
    · obtain ⟨b1, o1, e1, cA⟩ := (hra.keep hk).at_ (j := i) (by rw [List.length_append, List.length_map]; simp; omega)
      obtain ⟨b2, o2, e2, cB⟩ := (hrb.keep hk).at_ (j := i) (by rw [List.length_map, HL.out]; exact hlt)
      obtain ⟨t, htt⟩ : ∃ t, ts[i]? = some t := ⟨_, List.getElem?_eq_getElem hlt⟩
      obtain ⟨s, hss⟩ : ∃ s, ss[i]? = some s := ⟨_, List.getElem?_eq_getElem (by rw [HL.out]; exact hlt)⟩
      have hsl : s.l = t.l := by
        have h1 : (bidsOf ts)[i]? = some t.l := by rw [bidsOf, List.getElem?_map, htt]; rfl
        have h2 : (bidsOf ss)[i]? = some s.l := by rw [bidsOf, List.getElem?_map, hss]; rfl
        rw [HB.out, h2] at h1
        exact Option.some.inj h1
      rw [List.getElem_append_left (by rw [List.length_map]; exact hlt), List.getElem_map, (List.getElem?_eq_some_iff.1 htt).2] at cA
      rw [List.getElem_map, (List.getElem?_eq_some_iff.1 hss).2] at cB
      unfold Sl.val at cA cB
      rw [hsl] at cB
      have tt : Twin wr base ⟨t.a, t.c, t.l⟩ := (HT.out t (List.mem_of_getElem? htt)).keep hk
      have rs : Rd wr s.a (cs .i64 t.l) := by rw [← hsl]; exact (HRS.out s (List.mem_of_getElem? hss)).keep hk
      have hll : t.l.length ≤ 1000000 := HLB.out t (List.mem_of_getElem? htt)
      subst e1
      subst e2
      have hi1 : (i : Int) < ts.length := by omega
      have hi0 : (0 : Int) ≤ i := by omega
      clear htt hss hsl
      go_upto_region 6 with fail
      refine wp_region_noPanic ?_
      refine wp_region_held_drew (S := (fun w' => w'.cell? ⟨b1, o1 + i, none⟩ = some (.slice t.a t.l.length t.c) ∧ w'.cell? ⟨b2, o2 + i, none⟩ = some (.slice s.a t.l.length s.c))) (by kernel_rfl) ⟨cA, cB⟩ (fun hS => ?_)
      have kz : Keep wr wr.drew := (Keep.refl _).drew
      replace tt := tt.keep kz
      replace rs := rs.keep kz
      generalize wr.drew = v0 at hS kz tt rs ⊢
      refine wpAnyH_take (i := 0) (v := ?_) rfl (by kernel_rfl) (by kernel_rfl) (by kernel_rfl) (fun _ _ _ h => h) (Or.inl ⟨by rfl, ?_⟩) hS ?_
      rotate_left
      · (intro w hSw; (try dsimp only at hSw); go_simp; (first | done | with_reducible rfl))
      change wpAnyH _ _ _ _ _ _ _ (Act.put _ (some 25) _) _
      simp only [Act.put, List.setIfInBounds_toArray, List.set_cons_zero, List.set_cons_succ]
      refine wpAnyH_take (i := 1) (v := ?_) rfl (by kernel_rfl) (by kernel_rfl) (by kernel_rfl) (fun _ _ _ h => h) (Or.inl ⟨by rfl, ?_⟩) hS ?_
      rotate_left
      · (intro w hSw; (try dsimp only at hSw); go_simp; (first | done | with_reducible rfl))
      change wpAnyH _ _ _ _ _ _ _ (Act.put _ (some 26) _) _
      simp only [Act.put, List.setIfInBounds_toArray, List.set_cons_zero, List.set_cons_succ]
      refine wpAnyH_take (i := 2) (v := ?_) rfl (by kernel_rfl) (by kernel_rfl) (by kernel_rfl) (fun _ _ _ h => h) (Or.inl ⟨by rfl, ?_⟩) hS ?_
      rotate_left
      · (intro w hSw; (try dsimp only at hSw); go_simp; (first | done | with_reducible rfl))
      change wpAnyH _ _ _ _ _ _ _ (Act.put _ (some 27) _) _
      simp only [Act.put, List.setIfInBounds_toArray, List.set_cons_zero, List.set_cons_succ]
      refine wpAnyH_take (i := 3) (v := ?_) rfl (by kernel_rfl) (by kernel_rfl) (by kernel_rfl) (fun _ _ _ h => h) (Or.inl ⟨by rfl, ?_⟩) hS ?_
      rotate_left
      · (intro w hSw; (try dsimp only at hSw); go_simp; (first | done | with_reducible rfl))
      change wpAnyH _ _ _ _ _ _ _ (Act.put _ (some 28) _) _
      simp only [Act.put, List.setIfInBounds_toArray, List.set_cons_zero, List.set_cons_succ]
      refine wpAnyH_take (i := 4) (v := ?_) rfl (by kernel_rfl) (by kernel_rfl) (by kernel_rfl) (fun _ _ _ h => h) (Or.inl ⟨by rfl, ?_⟩) hS ?_
      rotate_left
      · (intro w hSw; (try dsimp only at hSw); go_simp; (first | done | with_reducible rfl))
      change wpAnyH _ _ _ _ _ _ _ (Act.put _ (some 29) _) _
      simp only [Act.put, List.setIfInBounds_toArray, List.set_cons_zero, List.set_cons_succ]
      refine wpAnyH_take (i := 5) (v := ?_) rfl (by kernel_rfl) (by kernel_rfl) (by kernel_rfl) (fun _ _ _ h => h) (Or.inl ⟨by rfl, ?_⟩) hS ?_
      rotate_left
      · (intro w hSw; (try dsimp only at hSw); go_simp; (first | done | with_reducible rfl))
      change wpAnyH _ _ _ _ _ _ _ (Act.put _ (some 30) _) _
      simp only [Act.put, List.setIfInBounds_toArray, List.set_cons_zero, List.set_cons_succ]
      refine wpAnyH_take (i := 6) (v := ?_) rfl (by kernel_rfl) (by kernel_rfl) (by kernel_rfl) (fun _ _ _ h => h) (Or.inl ⟨by rfl, ?_⟩) hS ?_
      rotate_left
      · (intro w hSw; (try dsimp only at hSw); go_simp; (first | done | with_reducible rfl))
      change wpAnyH _ _ _ _ _ _ _ (Act.put _ (some 31) _) _
      simp only [Act.put, List.setIfInBounds_toArray, List.set_cons_zero, List.set_cons_succ]
      refine wpAnyH_take (i := 7) (v := ?_) rfl (by kernel_rfl) (by kernel_rfl) (by kernel_rfl) (fun _ _ _ h => h) (Or.inl ⟨by rfl, ?_⟩) hS ?_
      rotate_left
      · (intro w hSw; (try dsimp only at hSw); go_simp; (first | done | with_reducible rfl))
      change wpAnyH _ _ _ _ _ _ _ (Act.put _ (some 32) _) _
      simp only [Act.put, List.setIfInBounds_toArray, List.set_cons_zero, List.set_cons_succ]
      refine wpAnyH_ready (rs := [8]) (by kernel_rfl) (by simp) ?_
      refine AllReadyH.cons rfl (fun K hK => ?_) AllReadyH.nil
      go_simp
      refine (leftInts_f t.a s.a t.c s.c t.l base v0 tt rs hll).mono ?_
      rintro e v1 ⟨rfl, kq⟩
      have hSk := And.intro (kq.cell hS.1) (kq.cell hS.2)
      replace kz := kz.trans kq
      clear hS tt rs
      go_wp2_with fail
      refine hK.out _ _ hSk (fun hS => ?_)
      clear hK K
      try simp only [Act.put, List.setIfInBounds_toArray, List.set_cons_zero, List.set_cons_succ]
      refine wpAnyH_take (i := 9) (v := ?_) rfl (by kernel_rfl) (by kernel_rfl) (by kernel_rfl) (fun _ _ _ h => h) (Or.inl ⟨by rfl, ?_⟩) hS ?_
      rotate_left
      · (intro w hSw; (try dsimp only at hSw); go_simp; (first | done | with_reducible rfl))
      change wpAnyH _ _ _ _ _ _ _ (Act.put _ (some 34) _) _
      simp only [Act.put, List.setIfInBounds_toArray, List.set_cons_zero, List.set_cons_succ]
      refine wpAnyH_done (by kernel_rfl) ?_ _
      refine NoPanic.normal ?_
      go_wp2_with fail
      go_roundw
      case rel => exact ⟨i + 1, by omega, by go_num, hk.trans kz⟩
      case measure => simp [intOf]; omega
    · obtain rfl : i = ts.length := by omega
      have hm2 := hk.cell hmark
      have hc2 := hk.cell hcz
      have y3 : (ts.length : Int) + 1 ≤ ca := by omega
      have y4 : decide ((ts.length : Int) < ts.length) = false := decide_eq_false (by omega)
      rw [HA.out]
      clear HA
      go_wp2_with fail
      go_ret
      exact ⟨rfl, hk⟩

set_option maxRecDepth 100000 in
set_option maxHeartbeats 4000000 in
theorem leftMarket_f (M N : Mkt) (base : Nat) (w : World) (ht : TwinMP M N base w) (hM : M.Ok w) (fM : M.Few) (lb : M.bs.length ≤ 1000000) :
    Calls Tryz.prog 34 #[N.val, M.val] w fun e w' => e = .returned (.bool true) ∧ Keep w w' := by
  have hlen := ht.len
  have tr : Twin w base ⟨N.r.a, N.r.c, M.r.l⟩ := by have := ht.own.1 N.r (by simp); rw [← ht.r]; exact this
  have tq : Twin w base ⟨N.o.a, N.o.c, M.o.l⟩ := by have := ht.own.1 N.o (by simp); rw [← ht.o]; exact this
  obtain ⟨z, hz, hf, fz⟩ := ht.outer
  have hNs : ∀ t ∈ N.bs, t.l.length ≤ 1000000 := fun t h => by
    have h4 : t.l ∈ bidsOf N.bs := List.mem_map.2 ⟨t, h, rfl⟩
    rw [ht.b] at h4
    obtain ⟨s', hs', e⟩ := List.mem_map.1 h4
    exact e ▸ fM.b s' hs'
  have q1 := fun w1 (k : Keep w w1) => leftInts_f N.r.a M.r.a N.r.c M.r.c M.r.l base w1 (tr.keep k) (hM.keep k).r.rd fM.r
  have q2 := fun w1 (k : Keep w w1) => leftLists_f N.ba M.ba N.bc M.bc N.bs M.bs z base w1 (fun t h => (ht.own.1 t (by simp [h])).keep k) ht.b (hf.keep k) hz (fz.keep k) (hM.keep k).b (by rw [hlen]; exact lb) hNs
  have q3 := fun w1 (k : Keep w w1) => leftInts_f N.o.a M.o.a N.o.c M.o.c M.o.l base w1 (tq.keep k) (hM.keep k).o.rd fM.o
  have kb : Keep w ((w.alloc (.cells #[.slice N.r.a N.r.l.length N.r.c, .slice N.ba N.bs.length N.bc, .slice N.o.a N.o.l.length N.o.c] 65)).alloc (.cells #[.slice M.r.a M.r.l.length M.r.c, .slice M.ba M.bs.length M.bc, .slice M.o.a M.o.l.length M.o.c] 65)) := (Keep.alloc1 _ _).trans (Keep.alloc1 _ _)
  unfold Mkt.val
  rw [ht.r, ht.o] at kb ⊢
  clear ht tr tq hf fz hNs hz hlen
  go_enter Tryz.func34, Tryz.ntmps34
  go_wp2_with fail
  refine (q1 _ kb).mono ?_
  rintro e w1 ⟨rfl, k1⟩
  have c1 : w1.cell? ⟨w.heap.size, 1, none⟩ = some (.slice N.ba N.bs.length N.bc) := k1.cell (by simp)
  have c2 : w1.cell? ⟨w.heap.size + 1, 1, none⟩ = some (.slice M.ba M.bs.length M.bc) := k1.cell (by simp)
  have c3 : w1.cell? ⟨w.heap.size, 2, none⟩ = some (.slice N.o.a M.o.l.length N.o.c) := k1.cell (by simp)
  have c4 : w1.cell? ⟨w.heap.size + 1, 2, none⟩ = some (.slice M.o.a M.o.l.length M.o.c) := k1.cell (by simp)
  have hq2 := q2 _ (kb.trans k1)
  clear q1 q2
  go_wp2_with fail
  refine hq2.mono ?_
  rintro e w2 ⟨rfl, k2⟩
  have c5 := k2.cell c3
  have c6 := k2.cell c4
  have hq3 := q3 _ ((kb.trans k1).trans k2)
  clear q3 hq2
  go_wp2_with fail
  refine hq3.mono ?_
  rintro e w3 ⟨rfl, k3⟩
  go_wp2_with fail
  go_ret
  exact ⟨rfl, ((kb.trans k1).trans k2).trans k3⟩
end Go.Proofs.YtjaaganaohjmaaaGreatDoor

namespace Go.Proofs.YtjaaganaohjmaaaGreatDoor
open Go.RowKit

set_option maxRecDepth 100000 in
set_option maxHeartbeats 1000000 in
theorem intsSize_s (s : Sl) (w : World) : Calls Tryz.prog 88 #[.slice s.a s.l.length s.c] w fun e w' => e = .returned (.int .i64 s.l.length) ∧ Keep w w' := by
  go_enter Tryz.func88, Tryz.ntmps88
  go_wp2_with fail
  go_ret
  exact ⟨rfl, Keep.refl _⟩

set_option maxRecDepth 100000 in
set_option maxHeartbeats 2000000 in
theorem listsSize_s (A : Option Addr) (c : Nat) (ss : List Sl) (w : World) (ha : InR .i64 w A c ss) (lm : ss.length ≤ 140737488351232) (ls : ∀ s ∈ ss, s.l.length ≤ 140737488351232) : Calls Tryz.prog 89 #[.slice A ss.length c] w fun e w' => (∃ n : Nat, e = .returned (.int .i64 n) ∧ n ≤ 300000000000000 ∧ (n ≤ 1048576 → ss.length ≤ n ∧ ∀ s ∈ ss, s.l.length ≤ n)) ∧ Keep w w' := by
  have la' := ha.len.le
  go_enter Tryz.func89, Tryz.ntmps89
  go_wp2_with fail
  go_loopw [3, 4] (fun a i wr => ∃ (k m : Nat), k ≤ ss.length ∧ i = .int .i64 k ∧ a = .int .i64 m ∧ m ≤ 300000000000000 ∧ Hid (ss.length ≤ m ∧ ∀ s ∈ ss.take k, s.l.length ≤ m) ∧ Keep w wr) (fun _ i _ => ss.length - (intOf i).toNat)
  case atStart => exact ⟨0, ss.length, Nat.zero_le _, rfl, rfl, by omega, Lib.hid ⟨Nat.le_refl _, fun s h => (by cases h)⟩, Keep.refl _⟩
  case round =>
    obtain ⟨k, m, hk, rfl, rfl, hm3, hall, hkeep⟩ := hrel
    by_cases hlt : k < ss.length
    · by_cases hm : m ≤ 1048576
      · have hmi : (m : Int) ≤ 1048576 := by omega
        obtain ⟨b1, o1, s, rfl, hx, hc1, hs⟩ := (ha.keep hkeep).at_ hlt
        have hsl : s.l.length ≤ 140737488351232 := ls s (List.mem_of_getElem? hx)
        have HN := Lib.hid (show ss.length ≤ m + s.l.length ∧ ∀ t ∈ ss.take (k + 1), t.l.length ≤ m + s.l.length from by
          refine ⟨by have := hall.out.1; omega, fun t ht => ?_⟩
          rw [List.take_add_one, hx] at ht
          rcases List.mem_append.1 ht with ht | ht
          · have := hall.out.2 t ht
            omega
          · simp at ht
            subst ht
            omega)
        clear hx hs
        have hq := intsSize_s s wr
        go_wp2_with fail
        refine hq.mono ?_
        rintro e w1 ⟨rfl, k1⟩
        go_wp2_with fail
        go_roundw
        case rel => exact ⟨k + 1, m + s.l.length, by omega, by go_num, by go_num, by omega, HN, hkeep.trans k1⟩
        case measure => simp [intOf]; omega
      · have hmi : decide ((m : Int) ≤ 1048576) = false := decide_eq_false (by omega)
        have hmj : (m ≤ 1048576) = False := eq_false hm
        have HV := Lib.hid (show m ≤ 1048576 → ss.length ≤ m ∧ ∀ s ∈ ss, s.l.length ≤ m from fun h => absurd h hm)
        clear hm
        go_wp2_with fail
        go_ret
        exact ⟨⟨m, rfl, hm3, HV.out⟩, hkeep⟩
    · obtain rfl : k = ss.length := by omega
      have h2 := hall.out
      rw [List.take_of_length_le (Nat.le_refl _)] at h2
      have HV := Lib.hid (show m ≤ 1048576 → ss.length ≤ m ∧ ∀ s ∈ ss, s.l.length ≤ m from fun _ => h2)
      clear h2 hall
      go_wp2_with fail
      go_ret
      exact ⟨⟨m, rfl, hm3, HV.out⟩, hkeep⟩

/-- All of it is small. -/
structure Mkt.Tiny (M : Mkt) : Prop where
  r : M.r.l.length ≤ 3000
  b : M.bs.length ≤ 3000
  s : ∀ s ∈ M.bs, s.l.length ≤ 3000
  o : M.o.l.length ≤ 3000
theorem Mkt.Tiny.few {M : Mkt} (h : M.Tiny) : M.Few := ⟨by have := h.r; omega, fun s hs => by have := h.s s hs; omega, by have := h.o; omega⟩
set_option maxRecDepth 100000 in
set_option maxHeartbeats 2000000 in
theorem marketSize_s (M : Mkt) (w : World) (hM : M.Ok w) (hS : M.Sized) : Calls Tryz.prog 28 #[M.val] w fun e w' => (∃ n : Nat, e = .returned (.int .i64 n) ∧ (n ≤ 3000 → M.Tiny)) ∧ Keep w w' := by
  have bM := Blk.new w 65 [.slice M.r.a M.r.l.length M.r.c, .slice M.ba M.bs.length M.bc, .slice M.o.a M.o.l.length M.o.c]
  have kk : Keep w (w.alloc (.cells #[.slice M.r.a M.r.l.length M.r.c, .slice M.ba M.bs.length M.bc, .slice M.o.a M.o.l.length M.o.c] 65)) := Keep.alloc1 _ _
  have lr := hS.r
  have lo := hS.o
  unfold Mkt.val
  go_enter Tryz.func28, Tryz.ntmps28
  go_wp2_with fail
  generalize w.alloc (.cells #[.slice M.r.a M.r.l.length M.r.c, .slice M.ba M.bs.length M.bc, .slice M.o.a M.o.l.length M.o.c] 65) = wA at bM kk ⊢
  generalize w.heap.size = gA at bM ⊢
  have hq := intsSize_s M.r wA
  refine hq.mono ?_
  rintro e w1 ⟨rfl, k1⟩
  replace bM := bM.keep k1
  replace kk := kk.trans k1
  have c1 := bM.cell_ (i := 1) rfl
  clear hq k1
  have hq2 := listsSize_s M.ba M.bc M.bs w1 ((hM.keep kk).b) hS.b hS.s
  by_cases h1 : 1 + M.r.l.length ≤ 1048576
  case neg =>
    have z1 : decide ((1 : Int) + M.r.l.length ≤ 1048576) = false := decide_eq_false (by omega)
    have HV := Lib.hid (show ∀ n : Nat, (n : Int) = 1 + (M.r.l.length : Int) → n ≤ 3000 → M.Tiny from fun n hn h => by omega)
    clear h1
    go_wp2_with fail
    go_ret
    exact ⟨⟨1 + M.r.l.length, by simp, HV.out _ (by omega)⟩, kk⟩
  have z1 : decide ((1 : Int) + M.r.l.length ≤ 1048576) = true := decide_eq_true (by omega)
  go_wp2_with fail
  refine hq2.mono ?_
  rintro e w2 ⟨⟨n, rfl, hn3, hn⟩, k2⟩
  replace bM := bM.keep k2
  replace kk := kk.trans k2
  have c2 := bM.cell_ (i := 2) rfl
  have hq3 := intsSize_s M.o w2
  have HN := Lib.hid hn
  clear hq2 k2 c1 hn
  by_cases h2 : 1 + M.r.l.length + n ≤ 1048576
  case neg =>
    have z2 : decide ((1 : Int) + M.r.l.length + n ≤ 1048576) = false := decide_eq_false (by omega)
    have HV := Lib.hid (show ∀ m : Nat, (m : Int) = 1 + (M.r.l.length : Int) + n → m ≤ 3000 → M.Tiny from fun m hm h => by omega)
    clear h1 h2
    go_wp2_with fail
    go_ret
    exact ⟨⟨1 + M.r.l.length + n, by simp, HV.out _ (by omega)⟩, kk⟩
  have z2 : decide ((1 : Int) + M.r.l.length + n ≤ 1048576) = true := decide_eq_true (by omega)
  have HV := Lib.hid (show ∀ m : Nat, (m : Int) = 1 + (M.r.l.length : Int) + n + M.o.l.length → m ≤ 3000 → M.Tiny from fun m hm h => by
    obtain ⟨q1, q2⟩ := HN.out (by omega)
    exact ⟨by omega, by omega, fun s hs => by have := q2 s hs; omega, by omega⟩)
  clear h1 h2
  go_wp2_with fail
  refine hq3.mono ?_
  rintro e w3 ⟨rfl, k3⟩
  go_wp2_with fail
  go_ret
  exact ⟨⟨1 + M.r.l.length + n + M.o.l.length, by simp, HV.out _ (by omega)⟩, kk.trans k3⟩
end Go.Proofs.YtjaaganaohjmaaaGreatDoor

namespace Go.Proofs.YtjaaganaohjmaaaGreatDoor
open Go.RowKit

theorem Held.join {e : TypeId} {w w' : World} {base : Nat} {hs hs' : List Hd} (h : Held e w base hs) (hk : Keep w w') (hb : base ≤ w.heap.size) (h' : Held e w' w.heap.size hs') : Held e w' base (hs ++ hs') := by
  refine ⟨fun x hx => ?_, ?_, fun x hx => ?_⟩
  · rcases List.mem_append.1 hx with hx | hx
    · obtain ⟨us', hu⟩ := h.f x hx
      exact ⟨us', hu.keep hk⟩
    · obtain ⟨us', hu⟩ := h'.f x hx
      exact ⟨us', hu.mono hb⟩
  · rw [List.pairwise_append]
    refine ⟨h.p, h'.p, fun x hx y hy k h1 h2 => ?_⟩
    obtain ⟨us', hu⟩ := h.f x hx
    obtain ⟨us2, hu2⟩ := h'.f y hy
    have := (hu.own_ge h1).2
    have := (hu2.own_ge h2).1
    omega
  · rcases List.mem_append.1 hx with hx | hx
    · exact h.m x hx
    · exact h'.m x hx
theorem OwnAll.held {w : World} {base : Nat} {ss : List Sl} (h : OwnAll w base ss) (hs : Short ss) {n : Nat} (hn : n + ss.length < 100000) : Held 3 w base (hdsOf n ss) := by
  refine ⟨fun x hx => ?_, hdsOf_pair h.2, fun x hx => ?_⟩
  · obtain ⟨t, h1, m, h2, rfl⟩ := hdsOf_mem hx
    exact ⟨_, h.1 t h1⟩
  · obtain ⟨t, h1, m, h2, rfl⟩ := hdsOf_mem hx
    exact ⟨by show m < 100000; omega, hs t h1⟩
theorem TwinMP.ownM {M N : Mkt} {base : Nat} {w : World} (h : TwinMP M N base w) : OwnM w base N := by
  refine ⟨fun s hs => (h.own.1 s (by simpa using hs)).fr, h.own.2, ?_⟩
  obtain ⟨z, _, hf, _⟩ := h.outer
  have := hf.take (m := N.bs.length) (by omega)
  rwa [List.take_left' (by rw [List.length_map])] at this
theorem OwnM.few {M N : Mkt} {base : Nat} {w : World} (h : TwinMP M N base w) (hM : M.Few) : N.Few := by
  refine ⟨by rw [h.r]; exact hM.r, fun s hs => ?_, by rw [h.o]; exact hM.o⟩
  have h4 : s.l ∈ bidsOf N.bs := List.mem_map.2 ⟨s, hs, rfl⟩
  rw [h.b] at h4
  obtain ⟨s', hs', e⟩ := List.mem_map.1 h4
  exact e ▸ hM.b s' hs'
end Go.Proofs.YtjaaganaohjmaaaGreatDoor

namespace Go.Proofs.YtjaaganaohjmaaaGreatDoor
open Go.RowKit

set_option maxRecDepth 100000 in
set_option maxHeartbeats 16000000 in
theorem demandsAll_w (M : Mkt) (s : Sl) (w : World) (hM : M.Ok w) (hS : M.Sized) (hs : s.Ok .i64 w) :
    Calls Tryz.prog 5 #[M.val, .slice s.a s.l.length s.c] w fun e w' => e = .returned (.bool true) ∧ Below w.heap.size w w' := by
  have ls := hs.len.le
  have kk : Keep w w := Keep.refl _
  have kq : Keep w (w.alloc (.cells #[.slice M.r.a M.r.l.length M.r.c, .slice M.ba M.bs.length M.bc, .slice M.o.a M.o.l.length M.o.c] 65)) := Keep.alloc1 _ _
  have bm := Blk.new w 65 [.slice M.r.a M.r.l.length M.r.c, .slice M.ba M.bs.length M.bc, .slice M.o.a M.o.l.length M.o.c]
  obtain ⟨V, ns, rr, hV⟩ : ∃ v n r, allV M.r.l (bidsOf M.bs) M.o.l s.l = (v, n, r) := ⟨_, _, _, rfl⟩
  replace hV := Lib.hid hV
  unfold Mkt.val
  go_enter Tryz.func5, Tryz.ntmps5
  go_upto_region 1 with fail
  have hbase := Nat.le_refl w.heap.size
  change Code.wp _ _ _ _ (w.alloc (.cells #[.slice M.r.a M.r.l.length M.r.c, .slice M.ba M.bs.length M.bc, .slice M.o.a M.o.l.length M.o.c] 65))
  generalize w.alloc (.cells #[.slice M.r.a M.r.l.length M.r.c, .slice M.ba M.bs.length M.bc, .slice M.o.a M.o.l.length M.o.c] 65) = w0 at kq bm ⊢
  obtain ⟨gm, hgm⟩ : ∃ gm, gm = w.heap.size := ⟨_, rfl⟩
  rw [← hgm] at bm ⊢
  clear hbase
  replace hgm := Lib.hid hgm
  have ok0 := hM.keep kq
  have sk0 := hs.keep kq
  replace kk := kk.trans kq
  clear kq
  have m0 := bm.cell_ (i := 0) rfl
  have m1 := bm.cell_ (i := 1) rfl
  have m2 := bm.cell_ (i := 2) rfl
  have hq := marketSize_s M w0 ok0 hS
  unfold Mkt.val at hq
  go_wp2_with fail
  refine hq.mono ?_
  rintro e w1 ⟨⟨ms, rfl, tiny⟩, kq⟩
  clear hq
  replace bm := bm.keep kq
  replace ok0 := ok0.keep kq
  replace sk0 := sk0.keep kq
  replace kk := kk.trans kq
  clear kq
  clear m0 m1 m2
  by_cases hbig : 3000 < ms
  · have z1 : decide ((3000 : Int) < ms) = true := decide_eq_true (by omega)
    have z2 : (3000 < ms) = True := eq_true hbig
    clear hbig
    go_wp2_with fail
    go_ret
    exact ⟨rfl, kk⟩
  have z1 : decide ((3000 : Int) < ms) = false := decide_eq_false (by omega)
  have z2 : (3000 < ms) = False := eq_false hbig
  by_cases hlp : 300 < s.l.length
  · have z3 : decide ((300 : Int) < s.l.length) = true := decide_eq_true (by omega)
    have z4 : (300 < s.l.length) = True := eq_true hlp
    clear hlp
    go_wp2_with fail
    go_ret
    exact ⟨rfl, kk⟩
  have z3 : decide ((300 : Int) < s.l.length) = false := decide_eq_false (by omega)
  have z4 : (300 < s.l.length) = False := eq_false hlp
  have ti := tiny (by omega)
  have few := ti.few
  have HT := Lib.hid ti
  have HLP := Lib.hid (show s.l.length ≤ 300 by omega)
  clear tiny hbig ti hlp
  have m0 := bm.cell_ (i := 0) rfl
  have m1 := bm.cell_ (i := 1) rfl
  have m2 := bm.cell_ (i := 2) rfl
  have hq := twinMarket_f M w1 ok0 few.r (by have := HT.out.b; omega) few.b few.o
  unfold Mkt.val at hq
  go_wp2_with fail
  refine hq.mono ?_
  rintro e w2 ⟨T, rfl, tw, kq⟩
  clear hq
  replace bm := bm.keep kq
  replace ok0 := ok0.keep kq
  replace sk0 := sk0.keep kq
  have ownT := tw.ownM.mono kk.size
  replace kk := kk.trans kq
  clear kq
  clear m0 m1 m2
  have okT := tw.ok ok0
  have eT : T.r.l = M.r.l ∧ bidsOf T.bs = bidsOf M.bs ∧ T.o.l = M.o.l := ⟨tw.r, tw.b, tw.o⟩
  have fewT := OwnM.few tw few
  have lT : T.bs.length ≤ 3000 := by have := tw.len; have := HT.out.b; omega
  replace eT := Lib.hid eT
  go_upto_region 4 with fail
  have kq : Keep w2 (w2.alloc (.cells #[.slice T.r.a T.r.l.length T.r.c, .slice T.ba T.bs.length T.bc, .slice T.o.a T.o.l.length T.o.c] 65)) := Keep.alloc1 _ _
  have bt := Blk.new w2 65 [.slice T.r.a T.r.l.length T.r.c, .slice T.ba T.bs.length T.bc, .slice T.o.a T.o.l.length T.o.c]
  change Code.wp _ _ _ _ (w2.alloc (.cells #[.slice T.r.a T.r.l.length T.r.c, .slice T.ba T.bs.length T.bc, .slice T.o.a T.o.l.length T.o.c] 65))
  generalize hwd : (w2.alloc (.cells #[.slice T.r.a T.r.l.length T.r.c, .slice T.ba T.bs.length T.bc, .slice T.o.a T.o.l.length T.o.c] 65)) = w3 at kq bt ⊢
  clear hwd
  generalize w2.heap.size = gt at bt ⊢
  replace bm := bm.keep kq
  replace ok0 := ok0.keep kq
  replace sk0 := sk0.keep kq
  replace tw := tw.keep kq
  replace ownT := ownT.keep kq
  replace okT := okT.keep kq
  replace kk := kk.trans kq
  clear kq
  have HI0 := ownT.held fewT (n := 0) (by omega)
  have HL0 := Held.one (m := 0 + T.bs.length + 2) ownT.b (by omega) (by omega)
  have hq := twinInts_f s w3 sk0 (by have := HLP.out; omega)
  go_wp2_with fail
  refine hq.mono ?_
  rintro e w4 ⟨UA, UC, rfl, tu, kq⟩
  clear hq
  have fu := tu.fr
  have HI1 := HI0.join kq kk.size (Held.one (m := 0 + T.bs.length + 3 + 1) (n := s.l.length) fu (by omega) (by have := HLP.out; omega))
  clear HI0
  replace bm := bm.keep kq
  replace ok0 := ok0.keep kq
  replace sk0 := sk0.keep kq
  replace tw := tw.keep kq
  replace ownT := ownT.keep kq
  replace okT := okT.keep kq
  replace bt := bt.keep kq
  replace HL0 := HL0.keep kq
  replace kk := kk.trans kq
  clear kq
  have okU : Sl.Ok .i64 w4 ⟨UA, UC, s.l⟩ := tu.ok sk0.inn.wf
  have hg := all_u T ⟨UA, UC, s.l⟩ w4 okT okU (V := V) (ns := ns) (r := rr) (by rw [eT.out.1, eT.out.2.1, eT.out.2.2]; exact hV.out)
  have t0 := bt.cell_ (i := 0) rfl
  have t1 := bt.cell_ (i := 1) rfl
  have t2 := bt.cell_ (i := 2) rfl
  have hq := hg
  unfold Mkt.val at hq
  clear hg
  go_wp2_with fail
  refine hq.mono ?_
  rintro e w5 ⟨A1, c1, ss, B1, d1, rfl, in1, e1, sh1, l1, ol, r1, l2, kq⟩
  clear hq
  replace e1 := Lib.hid e1
  have HI2 := HI1.join kq kk.size (ol.o.held sh1 (n := 0 + T.bs.length + 3 + 1) (by omega))
  have HL1 := HL0.join kq kk.size (Held.one (m := 0 + T.bs.length + 3 + 1 + ss.length + 1) ol.f (by omega) (by omega))
  clear HI1 HL0
  replace bm := bm.keep kq
  replace ok0 := ok0.keep kq
  replace sk0 := sk0.keep kq
  replace tw := tw.keep kq
  replace ownT := ownT.keep kq
  replace okT := okT.keep kq
  replace bt := bt.keep kq
  replace tu := tu.keep kq
  replace okU := okU.keep kq
  replace kk := kk.trans kq
  clear kq
  clear t0 t1 t2
  have m0 := bm.cell_ (i := 0) rfl
  have m1 := bm.cell_ (i := 1) rfl
  have m2 := bm.cell_ (i := 2) rfl
  have hq := refAll_u M s w5 ok0 sk0 hV.out
  unfold Mkt.val at hq
  go_wp2_with fail
  refine hq.mono ?_
  rintro e w6 ⟨A2, c2, ss2, B2, d2, rfl, in2, e2, sh2, r2, kq⟩
  clear hq
  replace e2 := Lib.hid e2
  replace bm := bm.keep kq
  replace ok0 := ok0.keep kq
  replace sk0 := sk0.keep kq
  replace tw := tw.keep kq
  replace ownT := ownT.keep kq
  replace okT := okT.keep kq
  replace bt := bt.keep kq
  replace tu := tu.keep kq
  replace okU := okU.keep kq
  replace in1 := in1.keep kq
  replace ol := ol.keep kq
  replace HI2 := HI2.keep kq
  replace HL1 := HL1.keep kq
  replace r1 := r1.keep kq
  replace kk := kk.trans kq
  clear kq
  clear m0 m1 m2
  have hq := saysK (sameLists A1 A2 c1 c2 ss ss2 w6 in1 in2 sh1 sh2)
  rw [show decide (bidsOf ss = bidsOf ss2) = true from decide_eq_true (e1.out.trans e2.out.symm)] at hq
  have hr0 : (rr != rr) = false := by simp
  have hr1 : ((ns.length : Int) != ns.length) = false := by simp
  go_wp2_with fail
  refine hq.mono ?_
  rintro e w7 ⟨rfl, kq⟩
  clear hq
  replace bm := bm.keep kq
  replace ok0 := ok0.keep kq
  replace sk0 := sk0.keep kq
  replace tw := tw.keep kq
  replace ownT := ownT.keep kq
  replace okT := okT.keep kq
  replace bt := bt.keep kq
  replace tu := tu.keep kq
  replace okU := okU.keep kq
  replace in1 := in1.keep kq
  replace ol := ol.keep kq
  replace HI2 := HI2.keep kq
  replace HL1 := HL1.keep kq
  replace r1 := r1.keep kq
  replace in2 := in2.keep kq
  replace r2 := r2.keep kq
  replace kk := kk.trans kq
  clear kq
  have m0 := bm.cell_ (i := 0) rfl
  have m1 := bm.cell_ (i := 1) rfl
  have m2 := bm.cell_ (i := 2) rfl
  have t0 := bt.cell_ (i := 0) rfl
  have t1 := bt.cell_ (i := 1) rfl
  have t2 := bt.cell_ (i := 2) rfl
  have hq := leftMarket_f M T w1.heap.size w7 tw ok0 few (by have := HT.out.b; omega)
  unfold Mkt.val at hq
  go_wp2_with fail
  refine hq.mono ?_
  rintro e w8 ⟨rfl, kq⟩
  clear hq
  replace bm := bm.keep kq
  replace ok0 := ok0.keep kq
  replace sk0 := sk0.keep kq
  replace tw := tw.keep kq
  replace ownT := ownT.keep kq
  replace okT := okT.keep kq
  replace bt := bt.keep kq
  replace tu := tu.keep kq
  replace okU := okU.keep kq
  replace in1 := in1.keep kq
  replace ol := ol.keep kq
  replace HI2 := HI2.keep kq
  replace HL1 := HL1.keep kq
  replace r1 := r1.keep kq
  replace in2 := in2.keep kq
  replace r2 := r2.keep kq
  replace kk := kk.trans kq
  clear kq
  clear m0 m1 m2 t0 t1 t2
  have hq := leftInts_f UA s.a UC s.c s.l w3.heap.size w8 tu sk0.rd (by have := HLP.out; omega)
  go_wp2_with fail
  refine hq.mono ?_
  rintro e w9 ⟨rfl, kq⟩
  clear hq
  replace bm := bm.keep kq
  replace ok0 := ok0.keep kq
  replace sk0 := sk0.keep kq
  replace tw := tw.keep kq
  replace ownT := ownT.keep kq
  replace okT := okT.keep kq
  replace bt := bt.keep kq
  replace tu := tu.keep kq
  replace okU := okU.keep kq
  replace in1 := in1.keep kq
  replace ol := ol.keep kq
  replace HI2 := HI2.keep kq
  replace HL1 := HL1.keep kq
  replace r1 := r1.keep kq
  replace in2 := in2.keep kq
  replace r2 := r2.keep kq
  replace kk := kk.trans kq
  clear kq
  have hr0 : (rr != rr) = false := by simp
  have hr1 : ((ns.length : Int) != ns.length) = false := by simp
  clear in1 in2 okT okU ok0 sk0 tw tu bm
  have KW := Lib.hid kk
  clear kk
  have hl8 : (ns.length : Int) ≤ 9223372036854775807 := by omega
  go_wp2_with fail
  go_loopw [13] (fun i wr => ∃ k : Nat, k ≤ ns.length ∧ i = .int .i64 k ∧ Keep w9 wr) (fun i _ => ns.length - (intOf i).toNat)
  case atStart => exact ⟨0, Nat.zero_le _, rfl, Keep.refl _⟩
  case round =>
    obtain ⟨k, hk, rfl, hkeep⟩ := hrel
    by_cases hlt : k < ns.length
    · obtain ⟨b1, o1, rfl, hc1⟩ := (r1.keep hkeep).at_ (j := k) (by rw [List.length_map]; exact hlt)
      obtain ⟨b2, o2, rfl, hc2⟩ := (r2.keep hkeep).at_ (j := k) (by rw [List.length_map]; exact hlt)
      rw [List.getElem_map] at hc1 hc2
      generalize ns[k] = bb at hc1 hc2
      have hbb : (bb != bb) = false := by simp
      go_wp2_with fail
      go_quiet (fail)
      go_wp2_with fail
      go_roundw
      case rel => exact ⟨k + 1, by omega, by go_num, hkeep.drewN _⟩
      case measure => simp [intOf]; omega
    · obtain rfl : k = ns.length := by omega
      have kk := KW.out.trans hkeep
      clear hlt hk r1 r2
      replace bt := bt.keep hkeep
      replace ownT := ownT.keep hkeep
      replace ol := ol.keep hkeep
      replace HI2 := HI2.keep hkeep
      replace HL1 := HL1.keep hkeep
      clear hkeep
      go_upto_region 15 with fail
      have hK := BkL.new wr
      have k0 : Keep wr (wr.alloc (.cells #[.int .i64 0, .slice none 0 0, .slice none 0 0, .slice none 0 0, .slice none 0 0, .slice none 0 0, .slice none 0 0, .slice none 0 0, .slice none 0 0, .slice none 0 0] 49)) := Keep.alloc1 _ _
      generalize wr.alloc (.cells #[.int .i64 0, .slice none 0 0, .slice none 0 0, .slice none 0 0, .slice none 0 0, .slice none 0 0, .slice none 0 0, .slice none 0 0, .slice none 0 0, .slice none 0 0] 49) = u0 at hK k0 ⊢
      have hbt := bt.keep k0
      have t0 := hbt.cell_ (i := 0) rfl
      have t1 := hbt.cell_ (i := 1) rfl
      have t2 := hbt.cell_ (i := 2) rfl
      have hq := bookMarketL_f wr.heap.size 0 _ _ _ _ _ _ T wr u0 hK k0 ownT.b.rd (by omega) (by simp; omega) (by simp)
      unfold pK Mkt.val at hq
      go_wp2_with fail
      refine hq.mono ?_
      rintro e u1 ⟨rfl, ⟨x1, x2, hK1⟩, k1⟩
      clear hK hq k0 hbt t0 t1 t2 bt
      have hq := bookIntsL_f wr.heap.size _ wr.heap.size _ _ _ _ _ _ UA s.l.length UC u1 hK1 (by omega) (by simp [length_hdsOf]; omega)
      unfold pK at hq
      go_wp2_with fail
      refine hq.mono ?_
      rintro e u2 ⟨rfl, x3, hK2, ti⟩
      have k2 := hK1.stepI k1 ti
      clear hK1 hq ti k1
      have hq := bookListsL_f wr.heap.size _ _ _ _ _ _ _ A1 c1 ss wr u2 hK2 k2 ol.f.rd (by omega) (by simp [length_hdsOf]; omega) (by simp)
      unfold pK at hq
      go_wp2_with fail
      refine hq.mono ?_
      rintro e u3 ⟨rfl, ⟨x4, x5, hK3⟩, k3, _⟩
      clear hK2 hq k2
      have hK4 := hK3
      have hB3 := Held.nil 5 u3 w.heap.size
      have hI3 := HI2.keep k3
      have hL3 := HL1.keep k3
      simp only [Mkt.hds, List.append_assoc, List.nil_append] at hK4 hI3 hL3
      clear hK3
      have hH := HoldsL.of hB3 hI3 hL3 (by simp) (by simp [length_hdsOf]; omega) (by simp)
      have hq := apartL_f wr.heap.size _ w.heap.size _ _ _ _ _ _ u3 (hK4.mono kk.size) hH
      unfold pK at hq
      go_wp2_with fail
      refine hq.mono ?_
      rintro e u4 ⟨rfl, t4⟩
      go_wp2_with fail
      go_ret
      exact ⟨rfl, (kk.trans k3).but t4 fun i h => h⟩
end Go.Proofs.YtjaaganaohjmaaaGreatDoor
