/-
  CONTRACT of the laws' copy of a market: in memory of its own, marks in the room behind. Conditions: the slices of the market read as lists, and are not too long.
-/
import Derived.Test.YtjhmlcbpbmeicaaMktV
import Derived.Test.YtjhmlcbpbmeicaaMktH
import Derived.Deep.RegionHeld3
namespace Go.Proofs.Ytjhmlcbpbmeicaa
open Go.RowKit

/-- N is a copy of M, of the call's own. -/
structure TwinMP (M N : Mkt) (base : Nat) (w : World) : Prop where
  r : N.r.l = M.r.l
  b : bidsOf N.bs = bidsOf M.bs
  o : N.o.l = M.o.l
  own : Twins w base (N.r :: (N.bs ++ [N.o]))
  outer : ∃ z : Sl, z.l = [77] ∧ Fr 22 w base N.ba (N.bs.length + 1) N.bc (N.bs.map Sl.val ++ [z.val]) ∧ Fr 3 w base z.a 1 z.c (cs .i64 z.l)
theorem TwinMP.keep {M N : Mkt} {base : Nat} {w w' : World} (h : TwinMP M N base w) (hk : Keep w w') : TwinMP M N base w' := by
  obtain ⟨z, h1, h2, h3⟩ := h.outer
  exact ⟨h.r, h.b, h.o, h.own.keep hk, z, h1, h2.keep hk, h3.keep hk⟩
theorem TwinMP.len {M N : Mkt} {base : Nat} {w : World} (h : TwinMP M N base w) : N.bs.length = M.bs.length := by
  have := congrArg List.length h.b
  simpa [bidsOf] using this
theorem TwinMP.ok {M N : Mkt} {base : Nat} {w w0 : World} (h : TwinMP M N base w) (hM : M.Ok w0) : N.Ok w := by
  obtain ⟨z, h1, h2, h3⟩ := h.outer
  have f2 := Fr.take h2 (Nat.le_succ N.bs.length)
  rw [show (N.bs.map Sl.val ++ [z.val]).take N.bs.length = N.bs.map Sl.val by rw [← List.length_map (f := Sl.val), List.take_left]] at f2
  have hw : ∀ s ∈ N.bs, ∀ x ∈ s.l, (Lit.int .i64 x).wf = true := fun s hs x hx => by
    have h4 : s.l ∈ bidsOf N.bs := List.mem_map.2 ⟨s, hs, rfl⟩
    rw [h.b] at h4
    obtain ⟨s', hs', e⟩ := List.mem_map.1 h4
    exact (hM.b.ok s' hs').inn.wf x (e ▸ hx)
  refine ⟨(h.own.1 _ List.mem_cons_self).ok (by rw [h.r]; exact hM.r.inn.wf), ⟨f2.rd, f2.cap, f2.capMax, fun s hs => (h.own.1 s (List.mem_cons_of_mem _ (List.mem_append_left _ hs))).ok (hw s hs)⟩, fun e => h2.capNil e, (h.own.1 N.o (List.mem_cons_of_mem _ (List.mem_append_right _ List.mem_cons_self))).ok (by rw [h.o]; exact hM.o.inn.wf)⟩
theorem Twin.far {w : World} {base g : Nat} {t : Sl} {cur : Array Value} {tt : TypeId} {z : Nat × Nat} (h : Twin w base t) (hb : w.heap[g]? = some (.cells cur tt z)) (hne : 3 ≠ tt) (j : Nat) (u : Value) : Twin (w.setCell ⟨g, j, none⟩ u) base t :=
  Fr.setCell h (fun k hk => Fr.own_ne h hb hne k hk) u
theorem Fr.blk {e : TypeId} {w : World} {base g n c : Nat} {vs : List Value} (h : Fr e w base (some ⟨g, 0, none⟩) n c vs) (hn : 0 < n) : ∃ cur, w.heap[g]? = some (.cells cur e (0, 0)) := by
  obtain ⟨_, h2, _, h4 | ⟨g', cur, hA, _, hg, _⟩⟩ := h
  · omega
  · cases hA
    exact ⟨cur, hg⟩
/-- A copy with another bid in one place and another order. -/
theorem TwinMP.other {M N : Mkt} {s o : Sl} {w1 w3 w5 : World} {gB gN k : Nat} {zz : Sl} {v : Value} {l : List Value} (tN : TwinMP M N w1.heap.size w3) (hM : M.Ok w1) (hs : s.Ok .i64 w1) (hk : k < N.bs.length)
    (hz : Fr 22 w3 w1.heap.size (some ⟨gB, 0, none⟩) (N.bs.length + 1) N.bc (N.bs.map Sl.val ++ [zz.val])) (hB : w1.heap.size ≤ gB) (hN : w1.heap.size ≤ gN) (kq : Keep w1 w3) (k45 : Keep (w3.setCell ⟨gB, k, none⟩ s.val) w5)
    (bN : Blk w5 gN 62 l) (fo : Fr 3 w5 w1.heap.size o.a o.l.length o.c (cs .i64 o.l)) (hw : ∀ x ∈ o.l, (Lit.int .i64 x).wf = true) :
    (⟨N.r, some ⟨gB, 0, none⟩, N.bc, N.bs.set k s, o⟩ : Mkt).Ok (w5.setCell ⟨gN, 2, none⟩ v) := by
  obtain ⟨cur, hcur⟩ := hz.blk (by omega)
  have k6 : Keep w1 (w5.setCell ⟨gN, 2, none⟩ v) := (((kq.setCell (p := ⟨gB, k, none⟩) hB _).trans k45)).setCell (p := ⟨gN, 2, none⟩) hN _
  have ht : ∀ t, Twin w3 w1.heap.size t → Twin (w5.setCell ⟨gN, 2, none⟩ v) w1.heap.size t := fun t h => ((h.far hcur (by decide) k s.val).keep k45).far bN (by decide) 2 v
  have hz4 := (hz.stored (j := k) (by omega) s.val).keep k45
  have hz6 := hz4.setCell (fun k' hk' => hz4.own_ne bN (by decide) k' hk') (p := ⟨gN, 2, none⟩) v
  have f6 := Fr.take hz6 (Nat.le_succ N.bs.length)
  have e6 : ((N.bs.map Sl.val ++ [zz.val]).set k s.val).take N.bs.length = (N.bs.set k s).map Sl.val := by
    rw [List.set_append_left _ _ (by rw [List.length_map]; exact hk), ← List.map_set]
    have hl : ((N.bs.set k s).map Sl.val).length = N.bs.length := by simp
    rw [← hl, List.take_left]
  rw [e6] at f6
  have hw' : ∀ s' ∈ N.bs, ∀ x ∈ s'.l, (Lit.int .i64 x).wf = true := fun s' hs' x hx => by
    have h4 : s'.l ∈ bidsOf N.bs := List.mem_map.2 ⟨s', hs', rfl⟩
    rw [tN.b] at h4
    obtain ⟨s2, hs2, e⟩ := List.mem_map.1 h4
    exact (hM.b.ok s2 hs2).inn.wf x (e ▸ hx)
  have fo6 := fo.setCell (fun k' hk' => fo.own_ne bN (by decide) k' hk') (p := ⟨gN, 2, none⟩) v
  refine ⟨(ht _ (tN.own.1 _ List.mem_cons_self)).ok (by rw [tN.r]; exact hM.r.inn.wf), ⟨f6.rd, by rw [List.length_set]; exact f6.cap, f6.capMax, fun t h => ?_⟩, (fun h => by cases h), ⟨⟨fo6.rd, fo6.cap, fo6.capMax, hw⟩, fun h => fo6.capNil h⟩⟩
  rcases List.mem_or_eq_of_mem_set h with h | rfl
  · exact (ht t (tN.own.1 t (List.mem_cons_of_mem _ (List.mem_append_left _ h)))).ok (hw' t h)
  · exact hs.keep k6
theorem bids_set (bs : List Sl) (k : Nat) (s : Sl) : bidsOf (bs.set k s) = (bidsOf bs).set k s.l := by
  unfold bidsOf
  rw [List.map_set]

set_option maxRecDepth 100000 in
set_option maxHeartbeats 4000000 in
theorem twinMarket_f (M : Mkt) (w : World) (hM : M.Ok w) (lr : M.r.l.length ≤ 1000000) (lb : M.bs.length ≤ 1000000) (hh : Short M.bs) (lo : M.o.l.length ≤ 1000000) :
    Calls Try.prog 44 #[M.val] w fun e w' => ∃ N : Mkt, e = .returned N.val ∧ TwinMP M N w.heap.size w' ∧ Keep w w' := by
  have bM := (Blk.new w 62 [.slice M.r.a M.r.l.length M.r.c, .slice M.ba M.bs.length M.bc, .slice M.o.a M.o.l.length M.o.c]).keep (Keep.alloc1 (w.alloc (.cells #[.slice M.r.a M.r.l.length M.r.c, .slice M.ba M.bs.length M.bc, .slice M.o.a M.o.l.length M.o.c] 62)) (.cells #[.slice none 0 0, .slice none 0 0, .slice none 0 0] 62))
  have kk : Keep w ((w.alloc (.cells #[.slice M.r.a M.r.l.length M.r.c, .slice M.ba M.bs.length M.bc, .slice M.o.a M.o.l.length M.o.c] 62)).alloc (.cells #[.slice none 0 0, .slice none 0 0, .slice none 0 0] 62)) := (Keep.alloc1 _ _).trans (Keep.alloc1 _ _)
  have bO : Blk ((w.alloc (.cells #[.slice M.r.a M.r.l.length M.r.c, .slice M.ba M.bs.length M.bc, .slice M.o.a M.o.l.length M.o.c] 62)).alloc (.cells #[.slice none 0 0, .slice none 0 0, .slice none 0 0] 62)) (w.heap.size + 1) 62 [.slice none 0 0, .slice none 0 0, .slice none 0 0] := by
    have h := Blk.new (w.alloc (.cells #[.slice M.r.a M.r.l.length M.r.c, .slice M.ba M.bs.length M.bc, .slice M.o.a M.o.l.length M.o.c] 62)) 62 [.slice none 0 0, .slice none 0 0, .slice none 0 0]
    simpa using h
  have LR := Lib.hid lr
  have LO := Lib.hid lo
  have LB := Lib.hid lb
  clear lr lo lb
  unfold Mkt.val
  go_enter Try.func44, Try.ntmps44
  go_upto_region 1 with fail
  generalize ((w.alloc (.cells #[.slice M.r.a M.r.l.length M.r.c, .slice M.ba M.bs.length M.bc, .slice M.o.a M.o.l.length M.o.c] 62)).alloc (.cells #[.slice none 0 0, .slice none 0 0, .slice none 0 0] 62)) = w0 at bM kk bO ⊢
  have d0 := bM.cell_ (i := 0) rfl
  have d1 := bM.cell_ (i := 1) rfl
  have d2 := bM.cell_ (i := 2) rfl
  refine wp_region_noPanic ?_
  refine wp_region_held_drew (S := (fun w' => w'.cell? ⟨w.heap.size, 0, none⟩ = some (.slice M.r.a M.r.l.length M.r.c) ∧ w'.cell? ⟨w.heap.size, 1, none⟩ = some (.slice M.ba M.bs.length M.bc) ∧ w'.cell? ⟨w.heap.size, 2, none⟩ = some (.slice M.o.a M.o.l.length M.o.c))) (by kernel_rfl) ⟨d0, d1, d2⟩ (fun hS => ?_)
  have kn : Keep w0 w0.drew := (Keep.refl _).drew
  replace kk := kk.trans kn
  replace bO := bO.keep kn
  generalize w0.drew = v0 at hS kk bO ⊢
  clear kn d0 d1 d2 bM
  refine wpAnyH_take (i := 0) (v := ?_) rfl (by kernel_rfl) (by kernel_rfl) (by kernel_rfl) (fun _ _ _ h => h) (Or.inl ⟨by rfl, ?_⟩) hS ?_
  rotate_left
  · (intro w hSw; (try dsimp only at hSw); go_simp; (first | done | with_reducible rfl))
  change wpAnyH _ _ _ _ _ _ _ (Act.put _ (some 3) _) _
  simp only [Act.put, List.setIfInBounds_toArray, List.set_cons_zero, List.set_cons_succ]
  refine wpAnyH_take (i := 1) (v := ?_) rfl (by kernel_rfl) (by kernel_rfl) (by kernel_rfl) (fun _ _ _ h => h) (Or.inl ⟨by rfl, ?_⟩) hS ?_
  rotate_left
  · (intro w hSw; (try dsimp only at hSw); go_simp; (first | done | with_reducible rfl))
  change wpAnyH _ _ _ _ _ _ _ (Act.put _ (some 4) _) _
  simp only [Act.put, List.setIfInBounds_toArray, List.set_cons_zero, List.set_cons_succ]
  refine wpAnyH_take (i := 3) (v := ?_) rfl (by kernel_rfl) (by kernel_rfl) (by kernel_rfl) (fun _ _ _ h => h) (Or.inl ⟨by rfl, ?_⟩) hS ?_
  rotate_left
  · (intro w hSw; (try dsimp only at hSw); go_simp; (first | done | with_reducible rfl))
  change wpAnyH _ _ _ _ _ _ _ (Act.put _ (some 6) _) _
  simp only [Act.put, List.setIfInBounds_toArray, List.set_cons_zero, List.set_cons_succ]
  refine wpAnyH_take (i := 4) (v := ?_) rfl (by kernel_rfl) (by kernel_rfl) (by kernel_rfl) (fun _ _ _ h => h) (Or.inl ⟨by rfl, ?_⟩) hS ?_
  rotate_left
  · (intro w hSw; (try dsimp only at hSw); go_simp; (first | done | with_reducible rfl))
  change wpAnyH _ _ _ _ _ _ _ (Act.put _ (some 7) _) _
  simp only [Act.put, List.setIfInBounds_toArray, List.set_cons_zero, List.set_cons_succ]
  refine wpAnyH_take (i := 6) (v := ?_) rfl (by kernel_rfl) (by kernel_rfl) (by kernel_rfl) (fun _ _ _ h => h) (Or.inl ⟨by rfl, ?_⟩) hS ?_
  rotate_left
  · (intro w hSw; (try dsimp only at hSw); go_simp; (first | done | with_reducible rfl))
  change wpAnyH _ _ _ _ _ _ _ (Act.put _ (some 9) _) _
  simp only [Act.put, List.setIfInBounds_toArray, List.set_cons_zero, List.set_cons_succ]
  refine wpAnyH_take (i := 7) (v := ?_) rfl (by kernel_rfl) (by kernel_rfl) (by kernel_rfl) (fun _ _ _ h => h) (Or.inl ⟨by rfl, ?_⟩) hS ?_
  rotate_left
  · (intro w hSw; (try dsimp only at hSw); go_simp; (first | done | with_reducible rfl))
  change wpAnyH _ _ _ _ _ _ _ (Act.put _ (some 10) _) _
  simp only [Act.put, List.setIfInBounds_toArray, List.set_cons_zero, List.set_cons_succ]
  refine wpAnyH_ready (rs := [2]) (by kernel_rfl) (by simp) ?_
  refine AllReadyH.cons rfl (fun K hK => ?_) AllReadyH.nil
  go_simp
  refine (twinInts_f M.r v0 (hM.keep kk).r LR.out).mono ?_
  rintro e v1 ⟨A1, c1, rfl, t1, kn⟩
  replace t1 : Twin v1 w.heap.size ⟨A1, c1, M.r.l⟩ := Fr.mono t1 kk.size
  go_wp2_with fail
  refine hK.out _ _ ⟨kn.cell hS.1, kn.cell hS.2.1, kn.cell hS.2.2⟩ (fun hS => ?_)
  clear hK K
  try simp only [Act.put, List.setIfInBounds_toArray, List.set_cons_zero, List.set_cons_succ]
  refine wpAnyH_ready (rs := [5]) (by kernel_rfl) (by simp) ?_
  refine AllReadyH.cons rfl (fun K hK => ?_) AllReadyH.nil
  go_simp
  replace kk := kk.trans kn
  replace bO := bO.keep kn
  clear kn
  refine (twinLists_f M.ba M.bc M.bs v1 (hM.keep kk).b LB.out hh).mono ?_
  rintro e v2 ⟨A2, c2, ts, z, rfl, hb, hz, tw, fo, fz, kn⟩
  have s1 : ∀ t ∈ ts, Sep ⟨A1, c1, M.r.l⟩ t := fun t ht => Sep.new t1 (tw.1 t ht)
  replace tw : Twins v2 w.heap.size ts := ⟨fun t ht => Fr.mono (tw.1 t ht) kk.size, tw.2⟩
  replace fo := fo.mono kk.size
  replace fz := fz.mono kk.size
  replace t1 := Twin.keep t1 kn
  have HB := Lib.hid hb
  have HZ := Lib.hid hz
  clear hb hz
  go_wp2_with fail
  refine hK.out _ _ ⟨kn.cell hS.1, kn.cell hS.2.1, kn.cell hS.2.2⟩ (fun hS => ?_)
  clear hK K
  try simp only [Act.put, List.setIfInBounds_toArray, List.set_cons_zero, List.set_cons_succ]
  refine wpAnyH_ready (rs := [8]) (by kernel_rfl) (by simp) ?_
  refine AllReadyH.cons rfl (fun K hK => ?_) AllReadyH.nil
  go_simp
  replace kk := kk.trans kn
  replace bO := bO.keep kn
  clear kn
  refine (twinInts_f M.o v2 (hM.keep kk).o LO.out).mono ?_
  rintro e v3 ⟨A3, c3, rfl, t3, kn⟩
  have s2 : Sep ⟨A1, c1, M.r.l⟩ ⟨A3, c3, M.o.l⟩ := Sep.new t1 t3
  have s3 : ∀ t ∈ ts, Sep t ⟨A3, c3, M.o.l⟩ := fun t ht => Sep.new (tw.1 t ht) t3
  replace t3 : Twin v3 w.heap.size ⟨A3, c3, M.o.l⟩ := Fr.mono t3 kk.size
  replace t1 := Twin.keep t1 kn
  replace tw := tw.keep kn
  replace fo := fo.keep kn
  replace fz := fz.keep kn
  go_wp2_with fail
  refine hK.out _ _ ⟨kn.cell hS.1, kn.cell hS.2.1, kn.cell hS.2.2⟩ (fun hS => ?_)
  clear hK K
  try simp only [Act.put, List.setIfInBounds_toArray, List.set_cons_zero, List.set_cons_succ]
  refine wpAnyH_take (i := 9) (v := ?_) rfl (by kernel_rfl) (by kernel_rfl) (by kernel_rfl) (fun _ _ _ h => h) (Or.inl ⟨by rfl, ?_⟩) hS ?_
  rotate_left
  · (intro w hSw; (try dsimp only at hSw); go_simp; (first | done | with_reducible rfl))
  change wpAnyH _ _ _ _ _ _ _ (Act.put _ (some 12) _) _
  simp only [Act.put, List.setIfInBounds_toArray, List.set_cons_zero, List.set_cons_succ]
  refine wpAnyH_ready (rs := [10]) (by kernel_rfl) (by simp) ?_
  refine AllReadyH.cons rfl (fun K hK => ?_) AllReadyH.nil
  rw [if_pos (by rfl)]
  replace kk := kk.trans kn
  replace bO := bO.keep kn
  clear kn
  refine wp_store_row 62 _ _ rfl (w.heap.size + 1) #[.slice A1 M.r.l.length c1, .slice A2 M.bs.length c2, .slice A3 M.o.l.length c3] rfl rfl _ _ bO (by kernel_rfl) rfl (by simp [Value.oneCell']) ?_
  refine hK.out _ _ ⟨(cell_setRow_other _ _ _ _ (show w.heap.size ≠ w.heap.size + 1 by omega)).trans hS.1, (cell_setRow_other _ _ _ _ (show w.heap.size ≠ w.heap.size + 1 by omega)).trans hS.2.1, (cell_setRow_other _ _ _ _ (show w.heap.size ≠ w.heap.size + 1 by omega)).trans hS.2.2⟩ (fun hS => ?_)
  clear hK K
  try simp only [Act.put, List.setIfInBounds_toArray]
  refine wpAnyH_done (by kernel_rfl) ?_ _
  refine NoPanic.normal ?_
  have og := only_row v3 (w.heap.size + 1) #[.slice A1 M.r.l.length c1, .slice A2 M.bs.length c2, .slice A3 M.o.l.length c3]
  have bR := bO.row #[.slice A1 M.r.l.length c1, .slice A2 M.bs.length c2, .slice A3 M.o.l.length c3]
  go_wp2_with fail
  refine bodyPost_ret (results_cell_row rfl _ _ (w.heap.size + 1) 62 _ (0, 0) _ rfl bR Try.underlying62 rfl (by kernel_rfl)) rfl ?_
  have g1 : ∀ {n c : Nat} {A : Option Addr} {vs : List Value}, Fr 3 v3 w.heap.size A n c vs → Fr 3 (v3.setRow (w.heap.size + 1) #[.slice A1 M.r.l.length c1, .slice A2 M.bs.length c2, .slice A3 M.o.l.length c3]) w.heap.size A n c vs := fun f => f.grown og (fun k hk e => by injection e with e; exact f.own_ne bO (by decide) k hk e)
  have fo' := fo.grown og (fun k hk e => by injection e with e; exact fo.own_ne bO (by decide) k hk e)
  have hlen : ts.length = M.bs.length := by
    have := congrArg List.length HB.out
    simpa [bidsOf] using this
  refine ⟨⟨⟨A1, c1, M.r.l⟩, A2, c2, ts, ⟨A3, c3, M.o.l⟩⟩, ?_, ⟨rfl, HB.out, rfl, ⟨fun t ht => ?_, ?_⟩, z, HZ.out, by show Fr _ _ _ _ (ts.length + 1) _ _; rw [hlen]; exact fo', g1 fz⟩, kk.grown og (fun k e => by injection e with e; omega)⟩
  · simp only [hlen]
  · rcases List.mem_cons.1 ht with rfl | ht
    · exact g1 t1
    · rcases List.mem_append.1 ht with ht | ht
      · exact g1 (tw.1 t ht)
      · rw [List.mem_singleton] at ht
        subst ht
        exact g1 t3
  · rw [List.pairwise_cons, List.pairwise_append]
    refine ⟨fun t ht => ?_, tw.2, List.pairwise_singleton _ _, fun u hu v hv => ?_⟩
    · rcases List.mem_append.1 ht with ht | ht
      · exact s1 t ht
      · rw [List.mem_singleton] at ht
        exact ht ▸ s2
    · rw [List.mem_singleton] at hv
      exact hv ▸ s3 u hu
end Go.Proofs.Ytjhmlcbpbmeicaa
