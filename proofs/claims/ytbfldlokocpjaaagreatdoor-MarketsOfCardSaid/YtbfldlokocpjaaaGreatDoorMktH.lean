/-
  CONTRACT for the package markets: Without. Conditions: the slices of the market read as lists, and are no longer than memory lets them be.
-/
import Derived.Test.YtbfldlokocpjaaaGreatDoorMktG
import Derived.Test.YtbfldlokocpjaaaGreatDoorDemF
import Derived.Test.YtbfldlokocpjaaaGreatDoorMktHa
namespace Go.Proofs.YtbfldlokocpjaaaGreatDoor
open Go.RowKit

/-- The outer row when i of its rows are in; row p is left out. -/
def wrow (B : List (List Int)) (p : Nat) (hs : Nat → Option Addr) (i : Nat) : List Value := (List.range B.length).map fun j => if j < i ∧ j ≠ p then .slice (hs j) (B.getD j []).length (B.getD j []).length else .slice none 0 0
theorem wrow_zero (B : List (List Int)) (p : Nat) (hs : Nat → Option Addr) : wrow B p hs 0 = List.replicate B.length (.slice none 0 0) := by
  refine List.ext_getElem (by simp [wrow]) fun i h1 h2 => ?_
  simp [wrow]
theorem wrow_set (B : List (List Int)) (p : Nat) (hs : Nat → Option Addr) {i : Nat} (a : Option Addr) (hp : i ≠ p) : (wrow B p hs i).set i (.slice a (B.getD i []).length (B.getD i []).length) = wrow B p (fun j => if j = i then a else hs j) (i + 1) := by
  unfold wrow
  refine List.ext_getElem (by simp) fun j h1 h2 => ?_
  rw [List.getElem_set]
  simp only [List.getElem_map, List.getElem_range]
  by_cases e : i = j
  · subst e
    simp [hp]
  · rw [if_neg e]
    by_cases hj : j < i ∧ j ≠ p
    · rw [if_pos hj, if_pos ⟨by omega, hj.2⟩, if_neg (fun h => e h.symm)]
    · rw [if_neg hj, if_neg (fun h => hj ⟨by omega, h.2⟩)]
theorem wrow_skip (B : List (List Int)) (p : Nat) (hs : Nat → Option Addr) : wrow B p hs (p + 1) = wrow B p hs p := by
  unfold wrow
  refine List.map_congr_left fun j _ => ?_
  by_cases hj : j < p
  · rw [if_pos ⟨by omega, by omega⟩, if_pos ⟨hj, by omega⟩]
  · rw [if_neg (fun h => by omega), if_neg (fun h => hj h.1)]
theorem wrow_len (B : List (List Int)) (p : Nat) (hs : Nat → Option Addr) (i : Nat) : (wrow B p hs i).length = B.length := by simp [wrow]
theorem getD_bids {bs : List Sl} {i : Nat} {s : Sl} (h : bs[i]? = some s) : (bidsOf bs).getD i [] = s.l := by simp [bidsOf, h]
theorem wo_results {fn : Func} {tmps : Array Value} {w : World} {b : Nat} {v0 v1 v2 : Value} (h : fn.results = #[ResultVar.cell 4 25, ResultVar.tmp 5]) (hb : Blk w b 25 [v0, v1, v2])
    (t1 : tmps.getD 4 undef = .pointer (some ⟨b, 0, none⟩)) : (results fn tmps).run Tryz.prog w = .ok (.tuple #[.agg #[v0, v1, v2], tmps.getD 5 undef]) w := by
  rw [results_cell_tmp h, t1]
  have hr := run_loadVar_row (P := Tryz.prog) w b 25 25 _ (0, 0) _ hb Tryz.underlying25 rfl (by kernel_rfl)
  simp only [asAddr, Sem.run_pure, Result.andThen, hr]

/-- The bids without p's. -/
def wbs (B : List (List Int)) (p : Nat) (hs : Nat → Option Addr) : List Sl := (List.range B.length).map fun j => if j ≠ p then ⟨hs j, (B.getD j []).length, B.getD j []⟩ else ⟨none, 0, []⟩
theorem wbs_len (B : List (List Int)) (p : Nat) (hs : Nat → Option Addr) : (wbs B p hs).length = B.length := by simp [wbs]
theorem wbs_val (B : List (List Int)) (p : Nat) (hs : Nat → Option Addr) : (wbs B p hs).map Sl.val = wrow B p hs B.length := by
  unfold wbs wrow
  rw [List.map_map]
  refine List.map_congr_left fun j hj => ?_
  have := List.mem_range.1 hj
  by_cases e : j = p
  · subst e
    simp [Sl.val]
  · simp [Sl.val, e, this]
theorem wbs_bids (B : List (List Int)) (p : Nat) (hs : Nat → Option Addr) : bidsOf (wbs B p hs) = B.set p [] := by
  refine List.ext_getElem (by simp [bidsOf, wbs]) fun j h1 h2 => ?_
  have hj : j < B.length := by simpa [bidsOf, wbs] using h1
  rw [List.getElem_set]
  by_cases e : p = j
  · subst e
    simp [bidsOf, wbs]
  · simp [bidsOf, wbs, e, Ne.symm e, hj]
theorem own_clip {e : TypeId} {w : World} {b n c : Nat} {A : Option Addr} {vs : List Value} (f : Fr e w b A n c vs) {k : Nat} (h : ownB A n = some k) : ownB A c = some k := by
  have hc := f.cap
  unfold ownB at h ⊢
  by_cases hn : n = 0
  · rw [if_pos hn] at h
    cases h
  · rw [if_neg hn] at h
    rw [if_neg (by omega)]
    exact h
theorem sep_new {e : TypeId} {w w' : World} {b n c n' c' : Nat} {A A' : Option Addr} {vs vs' : List Value} (f : Fr e w b A n c vs) (f' : Fr e w' w.heap.size A' n' c' vs') : ∀ k, ownB A c = some k → ownB A' c' ≠ some k := fun k h h' => by
  have h1 := (f.own_ge h).2
  have h2 := (f'.own_ge h').1
  omega
/-- The rows that are in lie apart. -/
def RowsSep (bs : List Sl) (p : Nat) (hs : Nat → Option Addr) (i : Nat) : Prop :=
  ∀ j j' s s', j < j' → j' < i → j ≠ p → j' ≠ p → bs[j]? = some s → bs[j']? = some s' → ∀ k, ownB (hs j) s.l.length = some k → ownB (hs j') s'.l.length ≠ some k
theorem wbs_sep {bs : List Sl} {p : Nat} {hs : Nat → Option Addr} (h : RowsSep bs p hs bs.length) : (wbs (bidsOf bs) p hs).Pairwise Sep := by
  unfold wbs
  rw [List.pairwise_map]
  refine List.Pairwise.imp_of_mem (fun {j j'} hj hj' hlt => ?_) List.pairwise_lt_range
  rw [List.mem_range, length_bids] at hj hj'
  intro k hk
  by_cases e : j = p
  · rw [if_neg (fun h => h e)] at hk
    simp [ownB] at hk
  by_cases e' : j' = p
  · rw [if_neg (fun h => h e')]
    simp [ownB]
  rw [if_pos e] at hk
  rw [if_pos e']
  have h1 : bs[j]? = some bs[j] := List.getElem?_eq_getElem hj
  have h2 : bs[j']? = some bs[j'] := List.getElem?_eq_getElem hj'
  simp only [getD_bids h1] at hk
  simp only [getD_bids h2]
  exact h j j' _ _ hlt hj' e e' h1 h2 k hk
/-- What Without leaves of a market that may be. -/
def WithoutP (M : Mkt) (p : Nat) (w : World) (e : Ending) (w' : World) : Prop :=
  ∃ N : Mkt, e = .returned (.tuple #[N.val, .int .i64 0]) ∧ N.Ok w' ∧ N.r.l = M.r.l ∧ bidsOf N.bs = (bidsOf M.bs).set p [] ∧ N.o.l = M.o.l ∧ N.Own w.heap.size w' ∧ (N.r :: N.bs ++ [N.o]).Pairwise Sep ∧ Keep w w'

set_option maxRecDepth 100000 in
set_option maxHeartbeats 8000000 in
theorem without_yes (M : Mkt) (p : Nat) (w : World) (hM : M.Ok w) (hc : chkM M.r.l (bidsOf M.bs) M.o.l = true) (hp : p < M.bs.length) :
    Calls Tryz.prog 9 #[M.val, .int .i64 p] w (WithoutP M p w) := by
  have lr := hM.r.len.le
  have lb := hM.b.len.le
  have hck := fun w1 (k1 : Keep w w1) => mcheck_f M w1 (hM.keep k1)
  unfold Mkt.val at hck ⊢
  rw [hc] at hck
  obtain ⟨m1, m2, m3, m4⟩ := chkM_facts hc
  rw [length_bids] at m3 m4
  have mo : M.o.l.length ≤ 1000000 := (chkM_few hc).o
  have Lr := Lib.hid (show M.r.l.length ≤ 1000000 by omega)
  have Lo := Lib.hid mo
  have lbs : Short M.bs := (chkM_few hc).b
  clear hc mo
  have hmk1 := run_make_row' (P := Tryz.prog) 23 22 (.slice none 0 0) 24 Tryz.underlying23 infoInts rfl .i64 .i64 M.bs.length (by omega) (by omega)
  have z1 : ((p : Int) < 0) = False := eq_false (by omega)
  have z2 : decide ((p : Int) < 0) = false := decide_eq_false (by omega)
  have z3 : decide ((M.bs.length : Int) ≤ p) = false := decide_eq_false (by omega)
  have z4 : (M.bs.length ≤ p) = False := eq_false (by omega)
  go_enter Tryz.func9, Tryz.ntmps9
  go_wp2_with fail
  have k0 : Keep w ((w.alloc (.cells #[.slice M.r.a M.r.l.length M.r.c, .slice M.ba M.bs.length M.bc, .slice M.o.a M.o.l.length M.o.c] 25)).alloc (.cells #[.slice none 0 0, .slice none 0 0, .slice none 0 0] 25)) := (Keep.alloc1 _ _).trans (Keep.alloc1 _ _)
  have d0 : ((w.alloc (.cells #[.slice M.r.a M.r.l.length M.r.c, .slice M.ba M.bs.length M.bc, .slice M.o.a M.o.l.length M.o.c] 25)).alloc (.cells #[.slice none 0 0, .slice none 0 0, .slice none 0 0] 25)).cell? ⟨w.heap.size, 0, none⟩ = some (.slice M.r.a M.r.l.length M.r.c) := by simp
  have d1 : ((w.alloc (.cells #[.slice M.r.a M.r.l.length M.r.c, .slice M.ba M.bs.length M.bc, .slice M.o.a M.o.l.length M.o.c] 25)).alloc (.cells #[.slice none 0 0, .slice none 0 0, .slice none 0 0] 25)).cell? ⟨w.heap.size, 1, none⟩ = some (.slice M.ba M.bs.length M.bc) := by simp
  have d2 : ((w.alloc (.cells #[.slice M.r.a M.r.l.length M.r.c, .slice M.ba M.bs.length M.bc, .slice M.o.a M.o.l.length M.o.c] 25)).alloc (.cells #[.slice none 0 0, .slice none 0 0, .slice none 0 0] 25)).cell? ⟨w.heap.size, 2, none⟩ = some (.slice M.o.a M.o.l.length M.o.c) := by simp
  have b0 : Blk ((w.alloc (.cells #[.slice M.r.a M.r.l.length M.r.c, .slice M.ba M.bs.length M.bc, .slice M.o.a M.o.l.length M.o.c] 25)).alloc (.cells #[.slice none 0 0, .slice none 0 0, .slice none 0 0] 25)) (w.heap.size + 1) 25 [.slice none 0 0, .slice none 0 0, .slice none 0 0] := by
    have h := Blk.new (w.alloc (.cells #[.slice M.r.a M.r.l.length M.r.c, .slice M.ba M.bs.length M.bc, .slice M.o.a M.o.l.length M.o.c] 25)) 25 [.slice none 0 0, .slice none 0 0, .slice none 0 0]
    simpa using h
  generalize (w.alloc (.cells #[.slice M.r.a M.r.l.length M.r.c, .slice M.ba M.bs.length M.bc, .slice M.o.a M.o.l.length M.o.c] 25)).alloc (.cells #[.slice none 0 0, .slice none 0 0, .slice none 0 0] 25) = w0 at k0 d0 d1 d2 b0 ⊢
  refine (hck _ k0).mono ?_
  rintro e w1 ⟨rfl, k1⟩
  replace d0 := k1.cell d0
  replace d1 := k1.cell d1
  replace d2 := k1.cell d2
  replace b0 := b0.keep k1
  replace k0 := k0.trans k1
  have hbm := Nat.le_refl w.heap.size
  generalize hbmd : w.heap.size = bm at d0 d1 d2 b0 hbm ⊢
  replace hbmd := Lib.hid hbmd
  clear hck k1
  go_upto_region 3 with fail
  have kk : Keep w1 w1.drew := (Keep.refl _).drew
  have hM1 := hM.keep k0
  have bm_lt := World.block_lt_of_cell? w1 _ d0
  simp only at bm_lt
  go_cut [6] from 24 to 36 (fun p wx => ∃ (gO gB : Nat) (A1 A2 : Option Addr), p = .pointer (some ⟨gO, 0, none⟩) ∧ w1.heap.size ≤ gB ∧ (∀ k, ownB A1 M.r.l.length = some k → ownB A2 M.o.l.length ≠ some k) ∧ Blk wx gO 25 [.slice A1 M.r.l.length M.r.l.length, .slice (some ⟨gB, 0, none⟩) M.bs.length M.bs.length, .slice A2 M.o.l.length M.o.l.length] ∧ Blk wx gB 22 (List.replicate M.bs.length (.slice none 0 0)) ∧ Fr 3 wx w1.heap.size A1 M.r.l.length M.r.l.length (cs .i64 M.r.l) ∧ Fr 3 wx w1.heap.size A2 M.o.l.length M.o.l.length (cs .i64 M.o.l) ∧ Keep w1 wx)
  case first =>
    refine wp_region_noPanic ?_
    refine wp_region_held_drew (S := (fun w' => w'.cell? ⟨bm, 0, none⟩ = some (.slice M.r.a M.r.l.length M.r.c) ∧ w'.cell? ⟨bm, 1, none⟩ = some (.slice M.ba M.bs.length M.bc) ∧ w'.cell? ⟨bm, 2, none⟩ = some (.slice M.o.a M.o.l.length M.o.c))) (by kernel_rfl) ⟨d0, d1, d2⟩ (fun hS => ?_)
    generalize w1.drew = v0 at kk hS ⊢
    refine wpAnyH_take (i := 0) (v := ?_) rfl (by kernel_rfl) (by kernel_rfl) (by kernel_rfl) (fun _ _ _ h => h) (Or.inl ⟨by rfl, ?_⟩) hS ?_
    rotate_left
    · (intro w hSw; (try dsimp only at hSw); go_simp; (first | done | with_reducible rfl))
    change wpAnyH _ _ _ _ _ _ _ (Act.put _ (some 24) _) _
    simp only [Act.put, List.setIfInBounds_toArray, List.set_cons_zero, List.set_cons_succ]
    refine wpAnyH_take (i := 1) (v := ?_) rfl (by kernel_rfl) (by kernel_rfl) (by kernel_rfl) (fun _ _ _ h => h) (Or.inl ⟨by rfl, ?_⟩) hS ?_
    rotate_left
    · (intro w hSw; (try dsimp only at hSw); go_simp; (first | done | with_reducible rfl))
    change wpAnyH _ _ _ _ _ _ _ (Act.put _ (some 25) _) _
    simp only [Act.put, List.setIfInBounds_toArray, List.set_cons_zero, List.set_cons_succ]
    refine wpAnyH_take (i := 4) (v := ?_) rfl (by kernel_rfl) (by kernel_rfl) (by kernel_rfl) (fun _ _ _ h => h) (Or.inl ⟨by rfl, ?_⟩) hS ?_
    rotate_left
    · (intro w hSw; (try dsimp only at hSw); go_simp; (first | done | with_reducible rfl))
    change wpAnyH _ _ _ _ _ _ _ (Act.put _ (some 28) _) _
    simp only [Act.put, List.setIfInBounds_toArray, List.set_cons_zero, List.set_cons_succ]
    refine wpAnyH_take (i := 5) (v := ?_) rfl (by kernel_rfl) (by kernel_rfl) (by kernel_rfl) (fun _ _ _ h => h) (Or.inl ⟨by rfl, ?_⟩) hS ?_
    rotate_left
    · (intro w hSw; (try dsimp only at hSw); go_simp; (first | done | with_reducible rfl))
    change wpAnyH _ _ _ _ _ _ _ (Act.put _ (some 29) _) _
    simp only [Act.put, List.setIfInBounds_toArray, List.set_cons_zero, List.set_cons_succ]
    refine wpAnyH_take (i := 6) (v := ?_) rfl (by kernel_rfl) (by kernel_rfl) (by kernel_rfl) (fun _ _ _ h => h) (Or.inl ⟨by rfl, ?_⟩) hS ?_
    rotate_left
    · (intro w hSw; (try dsimp only at hSw); go_simp; (first | done | with_reducible rfl))
    change wpAnyH _ _ _ _ _ _ _ (Act.put _ (some 30) _) _
    simp only [Act.put, List.setIfInBounds_toArray, List.set_cons_zero, List.set_cons_succ]
    refine wpAnyH_take (i := 8) (v := ?_) rfl (by kernel_rfl) (by kernel_rfl) (by kernel_rfl) (fun _ _ _ h => h) (Or.inl ⟨by rfl, ?_⟩) hS ?_
    rotate_left
    · (intro w hSw; (try dsimp only at hSw); go_simp; (first | done | with_reducible rfl))
    change wpAnyH _ _ _ _ _ _ _ (Act.put _ (some 32) _) _
    simp only [Act.put, List.setIfInBounds_toArray, List.set_cons_zero, List.set_cons_succ]
    refine wpAnyH_take (i := 9) (v := ?_) rfl (by kernel_rfl) (by kernel_rfl) (by kernel_rfl) (fun _ _ _ h => h) (Or.inl ⟨by rfl, ?_⟩) hS ?_
    rotate_left
    · (intro w hSw; (try dsimp only at hSw); go_simp; (first | done | with_reducible rfl))
    change wpAnyH _ _ _ _ _ _ _ (Act.put _ (some 33) _) _
    simp only [Act.put, List.setIfInBounds_toArray, List.set_cons_zero, List.set_cons_succ]
    refine wpAnyH_ready (rs := [2, 7, 13]) (by kernel_rfl) (by simp) ?_
    refine AllReadyH.cons rfl (fun K hK => ?_) ?_
    · go_simp
      refine (cloneI_f M.r.a M.r.c M.r.l v0 (hM1.keep kk).r.rd (by have := Lr.out; omega) (hM.r.nil)).mono ?_
      rintro e v1 ⟨A1, c1, rfl, hfR, kn⟩
      go_wp2_with fail
      refine hK.out _ _ ⟨kn.cell hS.1, kn.cell hS.2.1, kn.cell hS.2.2⟩ (fun hS => ?_)
      clear hK K
      try simp only [Act.put, List.setIfInBounds_toArray, List.set_cons_zero, List.set_cons_succ]
      have fR := hfR.mono kk.size
      clear hfR
      replace kk := kk.trans kn
      clear kn
      refine wpAnyH_ready (rs := [3, 7, 13]) (by kernel_rfl) (by simp) ?_
      refine AllReadyH.cons rfl (fun K hK => ?_) ?_
      · go_simp
        refine (clip_f A1 M.r.l.length c1 v1 fR.cap (len_max fR.capMax)).mono ?_
        rintro e v2 ⟨rfl, rfl⟩
        go_wp2_with fail
        refine hK.out _ _ hS (fun hS => ?_)
        clear hK K
        try simp only [Act.put, List.setIfInBounds_toArray, List.set_cons_zero, List.set_cons_succ]
        replace fR := fR.clip
        refine wpAnyH_ready (rs := [7, 10, 13]) (by kernel_rfl) (by simp) ?_
        refine AllReadyH.cons rfl (fun K hK => ?_) ?_
        · go_simp
          have bB := Blk.of_make v1 22 (.slice none 0 0) M.bs.length
          have kn := Keep.alloc1 v1 (.cells (madeCells #[.slice none 0 0] M.bs.length) 22)
          have gb := kk.size
          refine hK.out _ _ ⟨kn.cell hS.1, kn.cell hS.2.1, kn.cell hS.2.2⟩ (fun hS => ?_)
          clear hK K
          try simp only [Act.put, List.setIfInBounds_toArray, List.set_cons_zero, List.set_cons_succ]
          generalize (v1.alloc (.cells (madeCells #[.slice none 0 0] M.bs.length) 22)) = v3 at bB kn hS ⊢
          generalize v1.heap.size = gB at bB gb ⊢
          replace kk := kk.trans kn
          replace fR := fR.keep kn
          clear kn
          refine wpAnyH_ready (rs := [10, 13]) (by kernel_rfl) (by simp) ?_
          refine AllReadyH.cons rfl (fun K hK => ?_) ?_
          · go_simp
            refine (cloneI_f M.o.a M.o.c M.o.l v3 (hM1.keep kk).o.rd (by have := Lo.out; omega) (hM.o.nil)).mono ?_
            rintro e v4 ⟨A2, c2, rfl, hfO, kn⟩
            have sp := sep_new fR hfO
            go_wp2_with fail
            refine hK.out _ _ ⟨kn.cell hS.1, kn.cell hS.2.1, kn.cell hS.2.2⟩ (fun hS => ?_)
            clear hK K
            try simp only [Act.put, List.setIfInBounds_toArray, List.set_cons_zero, List.set_cons_succ]
            have fO := hfO.mono kk.size
            clear hfO
            replace kk := kk.trans kn
            replace fR := fR.keep kn
            replace bB := bB.keep kn
            clear kn
            refine wpAnyH_ready (rs := [11, 13]) (by kernel_rfl) (by simp) ?_
            refine AllReadyH.cons rfl (fun K hK => ?_) ?_
            · go_simp
              refine (clip_f A2 M.o.l.length c2 v4 fO.cap (len_max fO.capMax)).mono ?_
              rintro e v5 ⟨rfl, rfl⟩
              go_wp2_with fail
              refine hK.out _ _ hS (fun hS => ?_)
              clear hK K
              try simp only [Act.put, List.setIfInBounds_toArray, List.set_cons_zero, List.set_cons_succ]
              replace sp := fun k (h1 : ownB A1 M.r.l.length = some k) h2 => sp k h1 (own_clip fO h2)
              replace fO := fO.clip
              refine wpAnyH_take (i := 12) (v := ?_) rfl (by kernel_rfl) (by kernel_rfl) (by kernel_rfl) (fun _ _ _ h => h) (Or.inl ⟨by rfl, ?_⟩) hS ?_
              rotate_left
              · (intro w hSw; (try dsimp only at hSw); go_simp; (first | done | with_reducible rfl))
              change wpAnyH _ _ _ _ _ _ _ (Act.put _ (some 36) _) _
              simp only [Act.put, List.setIfInBounds_toArray, List.set_cons_zero, List.set_cons_succ]
              refine wpAnyH_ready (rs := [13]) (by kernel_rfl) (by simp) ?_
              refine AllReadyH.cons rfl (fun K hK => ?_) AllReadyH.nil
              go_simp
              have bO := Blk.new v4 25 [.slice none 0 0, .slice none 0 0, .slice none 0 0]
              have kn := Keep.alloc1 v4 (.cells #[.slice none 0 0, .slice none 0 0, .slice none 0 0] 25)
              have go := kk.size
              refine hK.out _ _ ⟨kn.cell hS.1, kn.cell hS.2.1, kn.cell hS.2.2⟩ (fun hS => ?_)
              clear hK K
              try simp only [Act.put, List.setIfInBounds_toArray, List.set_cons_zero, List.set_cons_succ]
              generalize (v4.alloc (.cells #[.slice none 0 0, .slice none 0 0, .slice none 0 0] 25)) = v6 at bO kn hS ⊢
              generalize v4.heap.size = gO at bO go ⊢
              replace kk := kk.trans kn
              replace fR := fR.keep kn
              replace fO := fO.keep kn
              replace bB := bB.keep kn
              clear kn
              refine wpAnyH_ready (rs := [14]) (by kernel_rfl) (by simp) ?_
              refine AllReadyH.cons rfl (fun K hK => ?_) AllReadyH.nil
              rw [if_pos (by rfl)]
              refine wp_store_row 25 _ _ rfl gO #[.slice A1 M.r.l.length M.r.l.length, .slice (some ⟨gB, 0, none⟩) M.bs.length M.bs.length, .slice A2 M.o.l.length M.o.l.length] rfl rfl _ _ bO (by kernel_rfl) rfl (by simp [Value.oneCell']) ?_
              refine hK.out _ _ ⟨(cell_setRow_other _ _ _ _ (show bm ≠ gO by omega)).trans hS.1, (cell_setRow_other _ _ _ _ (show bm ≠ gO by omega)).trans hS.2.1, (cell_setRow_other _ _ _ _ (show bm ≠ gO by omega)).trans hS.2.2⟩ (fun hS => ?_)
              clear hK K
              try simp only [Act.put, List.setIfInBounds_toArray]
              have hl := row_leaf go bO bB fR fO kk #[.slice A1 M.r.l.length M.r.l.length, .slice (some ⟨gB, 0, none⟩) M.bs.length M.bs.length, .slice A2 M.o.l.length M.o.l.length]
              refine wpAnyH_done (by kernel_rfl) ?_ _
              refine NoPanic.normal ?_
              go_wp2_with fail
              go_meet
              exact ⟨gO, gB, A1, A2, rfl, gb, sp, hl⟩
            refine AllReadyH.cons rfl (fun K hK => ?_) ?_
            · go_simp
              have bO := Blk.new v4 25 [.slice none 0 0, .slice none 0 0, .slice none 0 0]
              have kn := Keep.alloc1 v4 (.cells #[.slice none 0 0, .slice none 0 0, .slice none 0 0] 25)
              have go := kk.size
              refine hK.out _ _ ⟨kn.cell hS.1, kn.cell hS.2.1, kn.cell hS.2.2⟩ (fun hS => ?_)
              clear hK K
              try simp only [Act.put, List.setIfInBounds_toArray, List.set_cons_zero, List.set_cons_succ]
              generalize (v4.alloc (.cells #[.slice none 0 0, .slice none 0 0, .slice none 0 0] 25)) = v8 at bO kn hS ⊢
              generalize v4.heap.size = gO at bO go ⊢
              replace kk := kk.trans kn
              replace fR := fR.keep kn
              replace fO := fO.keep kn
              replace bB := bB.keep kn
              clear kn
              refine wpAnyH_ready (rs := [11]) (by kernel_rfl) (by simp) ?_
              refine AllReadyH.cons rfl (fun K hK => ?_) AllReadyH.nil
              go_simp
              refine (clip_f A2 M.o.l.length c2 v8 fO.cap (len_max fO.capMax)).mono ?_
              rintro e v9 ⟨rfl, rfl⟩
              go_wp2_with fail
              refine hK.out _ _ hS (fun hS => ?_)
              clear hK K
              try simp only [Act.put, List.setIfInBounds_toArray, List.set_cons_zero, List.set_cons_succ]
              replace sp := fun k (h1 : ownB A1 M.r.l.length = some k) h2 => sp k h1 (own_clip fO h2)
              replace fO := fO.clip
              refine wpAnyH_take (i := 12) (v := ?_) rfl (by kernel_rfl) (by kernel_rfl) (by kernel_rfl) (fun _ _ _ h => h) (Or.inl ⟨by rfl, ?_⟩) hS ?_
              rotate_left
              · (intro w hSw; (try dsimp only at hSw); go_simp; (first | done | with_reducible rfl))
              change wpAnyH _ _ _ _ _ _ _ (Act.put _ (some 36) _) _
              simp only [Act.put, List.setIfInBounds_toArray, List.set_cons_zero, List.set_cons_succ]
              refine wpAnyH_ready (rs := [14]) (by kernel_rfl) (by simp) ?_
              refine AllReadyH.cons rfl (fun K hK => ?_) AllReadyH.nil
              rw [if_pos (by rfl)]
              refine wp_store_row 25 _ _ rfl gO #[.slice A1 M.r.l.length M.r.l.length, .slice (some ⟨gB, 0, none⟩) M.bs.length M.bs.length, .slice A2 M.o.l.length M.o.l.length] rfl rfl _ _ bO (by kernel_rfl) rfl (by simp [Value.oneCell']) ?_
              refine hK.out _ _ ⟨(cell_setRow_other _ _ _ _ (show bm ≠ gO by omega)).trans hS.1, (cell_setRow_other _ _ _ _ (show bm ≠ gO by omega)).trans hS.2.1, (cell_setRow_other _ _ _ _ (show bm ≠ gO by omega)).trans hS.2.2⟩ (fun hS => ?_)
              clear hK K
              try simp only [Act.put, List.setIfInBounds_toArray]
              have hl := row_leaf go bO bB fR fO kk #[.slice A1 M.r.l.length M.r.l.length, .slice (some ⟨gB, 0, none⟩) M.bs.length M.bs.length, .slice A2 M.o.l.length M.o.l.length]
              refine wpAnyH_done (by kernel_rfl) ?_ _
              refine NoPanic.normal ?_
              go_wp2_with fail
              go_meet
              exact ⟨gO, gB, A1, A2, rfl, gb, sp, hl⟩
            exact AllReadyH.nil
          refine AllReadyH.cons rfl (fun K hK => ?_) ?_
          · go_simp
            have bO := Blk.new v3 25 [.slice none 0 0, .slice none 0 0, .slice none 0 0]
            have kn := Keep.alloc1 v3 (.cells #[.slice none 0 0, .slice none 0 0, .slice none 0 0] 25)
            have go := kk.size
            refine hK.out _ _ ⟨kn.cell hS.1, kn.cell hS.2.1, kn.cell hS.2.2⟩ (fun hS => ?_)
            clear hK K
            try simp only [Act.put, List.setIfInBounds_toArray, List.set_cons_zero, List.set_cons_succ]
            generalize (v3.alloc (.cells #[.slice none 0 0, .slice none 0 0, .slice none 0 0] 25)) = v11 at bO kn hS ⊢
            generalize v3.heap.size = gO at bO go ⊢
            replace kk := kk.trans kn
            replace fR := fR.keep kn
            replace bB := bB.keep kn
            clear kn
            refine wpAnyH_ready (rs := [10]) (by kernel_rfl) (by simp) ?_
            refine AllReadyH.cons rfl (fun K hK => ?_) AllReadyH.nil
            go_simp
            refine (cloneI_f M.o.a M.o.c M.o.l v11 (hM1.keep kk).o.rd (by have := Lo.out; omega) (hM.o.nil)).mono ?_
            rintro e v12 ⟨A2, c2, rfl, hfO, kn⟩
            have sp := sep_new fR hfO
            go_wp2_with fail
            refine hK.out _ _ ⟨kn.cell hS.1, kn.cell hS.2.1, kn.cell hS.2.2⟩ (fun hS => ?_)
            clear hK K
            try simp only [Act.put, List.setIfInBounds_toArray, List.set_cons_zero, List.set_cons_succ]
            have fO := hfO.mono kk.size
            clear hfO
            replace kk := kk.trans kn
            replace fR := fR.keep kn
            replace bB := bB.keep kn
            replace bO := bO.keep kn
            clear kn
            refine wpAnyH_ready (rs := [11]) (by kernel_rfl) (by simp) ?_
            refine AllReadyH.cons rfl (fun K hK => ?_) AllReadyH.nil
            go_simp
            refine (clip_f A2 M.o.l.length c2 v12 fO.cap (len_max fO.capMax)).mono ?_
            rintro e v13 ⟨rfl, rfl⟩
            go_wp2_with fail
            refine hK.out _ _ hS (fun hS => ?_)
            clear hK K
            try simp only [Act.put, List.setIfInBounds_toArray, List.set_cons_zero, List.set_cons_succ]
            replace sp := fun k (h1 : ownB A1 M.r.l.length = some k) h2 => sp k h1 (own_clip fO h2)
            replace fO := fO.clip
            refine wpAnyH_take (i := 12) (v := ?_) rfl (by kernel_rfl) (by kernel_rfl) (by kernel_rfl) (fun _ _ _ h => h) (Or.inl ⟨by rfl, ?_⟩) hS ?_
            rotate_left
            · (intro w hSw; (try dsimp only at hSw); go_simp; (first | done | with_reducible rfl))
            change wpAnyH _ _ _ _ _ _ _ (Act.put _ (some 36) _) _
            simp only [Act.put, List.setIfInBounds_toArray, List.set_cons_zero, List.set_cons_succ]
            refine wpAnyH_ready (rs := [14]) (by kernel_rfl) (by simp) ?_
            refine AllReadyH.cons rfl (fun K hK => ?_) AllReadyH.nil
            rw [if_pos (by rfl)]
            refine wp_store_row 25 _ _ rfl gO #[.slice A1 M.r.l.length M.r.l.length, .slice (some ⟨gB, 0, none⟩) M.bs.length M.bs.length, .slice A2 M.o.l.length M.o.l.length] rfl rfl _ _ bO (by kernel_rfl) rfl (by simp [Value.oneCell']) ?_
            refine hK.out _ _ ⟨(cell_setRow_other _ _ _ _ (show bm ≠ gO by omega)).trans hS.1, (cell_setRow_other _ _ _ _ (show bm ≠ gO by omega)).trans hS.2.1, (cell_setRow_other _ _ _ _ (show bm ≠ gO by omega)).trans hS.2.2⟩ (fun hS => ?_)
            clear hK K
            try simp only [Act.put, List.setIfInBounds_toArray]
            have hl := row_leaf go bO bB fR fO kk #[.slice A1 M.r.l.length M.r.l.length, .slice (some ⟨gB, 0, none⟩) M.bs.length M.bs.length, .slice A2 M.o.l.length M.o.l.length]
            refine wpAnyH_done (by kernel_rfl) ?_ _
            refine NoPanic.normal ?_
            go_wp2_with fail
            go_meet
            exact ⟨gO, gB, A1, A2, rfl, gb, sp, hl⟩
          exact AllReadyH.nil
        refine AllReadyH.cons rfl (fun K hK => ?_) ?_
        · go_simp
          refine (cloneI_f M.o.a M.o.c M.o.l v1 (hM1.keep kk).o.rd (by have := Lo.out; omega) (hM.o.nil)).mono ?_
          rintro e v15 ⟨A2, c2, rfl, hfO, kn⟩
          have sp := sep_new fR hfO
          go_wp2_with fail
          refine hK.out _ _ ⟨kn.cell hS.1, kn.cell hS.2.1, kn.cell hS.2.2⟩ (fun hS => ?_)
          clear hK K
          try simp only [Act.put, List.setIfInBounds_toArray, List.set_cons_zero, List.set_cons_succ]
          have fO := hfO.mono kk.size
          clear hfO
          replace kk := kk.trans kn
          replace fR := fR.keep kn
          clear kn
          refine wpAnyH_ready (rs := [7, 11, 13]) (by kernel_rfl) (by simp) ?_
          refine AllReadyH.cons rfl (fun K hK => ?_) ?_
          · go_simp
            have bB := Blk.of_make v15 22 (.slice none 0 0) M.bs.length
            have kn := Keep.alloc1 v15 (.cells (madeCells #[.slice none 0 0] M.bs.length) 22)
            have gb := kk.size
            refine hK.out _ _ ⟨kn.cell hS.1, kn.cell hS.2.1, kn.cell hS.2.2⟩ (fun hS => ?_)
            clear hK K
            try simp only [Act.put, List.setIfInBounds_toArray, List.set_cons_zero, List.set_cons_succ]
            generalize (v15.alloc (.cells (madeCells #[.slice none 0 0] M.bs.length) 22)) = v16 at bB kn hS ⊢
            generalize v15.heap.size = gB at bB gb ⊢
            replace kk := kk.trans kn
            replace fR := fR.keep kn
            replace fO := fO.keep kn
            clear kn
            refine wpAnyH_ready (rs := [11, 13]) (by kernel_rfl) (by simp) ?_
            refine AllReadyH.cons rfl (fun K hK => ?_) ?_
            · go_simp
              refine (clip_f A2 M.o.l.length c2 v16 fO.cap (len_max fO.capMax)).mono ?_
              rintro e v17 ⟨rfl, rfl⟩
              go_wp2_with fail
              refine hK.out _ _ hS (fun hS => ?_)
              clear hK K
              try simp only [Act.put, List.setIfInBounds_toArray, List.set_cons_zero, List.set_cons_succ]
              replace sp := fun k (h1 : ownB A1 M.r.l.length = some k) h2 => sp k h1 (own_clip fO h2)
              replace fO := fO.clip
              refine wpAnyH_take (i := 12) (v := ?_) rfl (by kernel_rfl) (by kernel_rfl) (by kernel_rfl) (fun _ _ _ h => h) (Or.inl ⟨by rfl, ?_⟩) hS ?_
              rotate_left
              · (intro w hSw; (try dsimp only at hSw); go_simp; (first | done | with_reducible rfl))
              change wpAnyH _ _ _ _ _ _ _ (Act.put _ (some 36) _) _
              simp only [Act.put, List.setIfInBounds_toArray, List.set_cons_zero, List.set_cons_succ]
              refine wpAnyH_ready (rs := [13]) (by kernel_rfl) (by simp) ?_
              refine AllReadyH.cons rfl (fun K hK => ?_) AllReadyH.nil
              go_simp
              have bO := Blk.new v16 25 [.slice none 0 0, .slice none 0 0, .slice none 0 0]
              have kn := Keep.alloc1 v16 (.cells #[.slice none 0 0, .slice none 0 0, .slice none 0 0] 25)
              have go := kk.size
              refine hK.out _ _ ⟨kn.cell hS.1, kn.cell hS.2.1, kn.cell hS.2.2⟩ (fun hS => ?_)
              clear hK K
              try simp only [Act.put, List.setIfInBounds_toArray, List.set_cons_zero, List.set_cons_succ]
              generalize (v16.alloc (.cells #[.slice none 0 0, .slice none 0 0, .slice none 0 0] 25)) = v18 at bO kn hS ⊢
              generalize v16.heap.size = gO at bO go ⊢
              replace kk := kk.trans kn
              replace fR := fR.keep kn
              replace fO := fO.keep kn
              replace bB := bB.keep kn
              clear kn
              refine wpAnyH_ready (rs := [14]) (by kernel_rfl) (by simp) ?_
              refine AllReadyH.cons rfl (fun K hK => ?_) AllReadyH.nil
              rw [if_pos (by rfl)]
              refine wp_store_row 25 _ _ rfl gO #[.slice A1 M.r.l.length M.r.l.length, .slice (some ⟨gB, 0, none⟩) M.bs.length M.bs.length, .slice A2 M.o.l.length M.o.l.length] rfl rfl _ _ bO (by kernel_rfl) rfl (by simp [Value.oneCell']) ?_
              refine hK.out _ _ ⟨(cell_setRow_other _ _ _ _ (show bm ≠ gO by omega)).trans hS.1, (cell_setRow_other _ _ _ _ (show bm ≠ gO by omega)).trans hS.2.1, (cell_setRow_other _ _ _ _ (show bm ≠ gO by omega)).trans hS.2.2⟩ (fun hS => ?_)
              clear hK K
              try simp only [Act.put, List.setIfInBounds_toArray]
              have hl := row_leaf go bO bB fR fO kk #[.slice A1 M.r.l.length M.r.l.length, .slice (some ⟨gB, 0, none⟩) M.bs.length M.bs.length, .slice A2 M.o.l.length M.o.l.length]
              refine wpAnyH_done (by kernel_rfl) ?_ _
              refine NoPanic.normal ?_
              go_wp2_with fail
              go_meet
              exact ⟨gO, gB, A1, A2, rfl, gb, sp, hl⟩
            refine AllReadyH.cons rfl (fun K hK => ?_) ?_
            · go_simp
              have bO := Blk.new v16 25 [.slice none 0 0, .slice none 0 0, .slice none 0 0]
              have kn := Keep.alloc1 v16 (.cells #[.slice none 0 0, .slice none 0 0, .slice none 0 0] 25)
              have go := kk.size
              refine hK.out _ _ ⟨kn.cell hS.1, kn.cell hS.2.1, kn.cell hS.2.2⟩ (fun hS => ?_)
              clear hK K
              try simp only [Act.put, List.setIfInBounds_toArray, List.set_cons_zero, List.set_cons_succ]
              generalize (v16.alloc (.cells #[.slice none 0 0, .slice none 0 0, .slice none 0 0] 25)) = v20 at bO kn hS ⊢
              generalize v16.heap.size = gO at bO go ⊢
              replace kk := kk.trans kn
              replace fR := fR.keep kn
              replace fO := fO.keep kn
              replace bB := bB.keep kn
              clear kn
              refine wpAnyH_ready (rs := [11]) (by kernel_rfl) (by simp) ?_
              refine AllReadyH.cons rfl (fun K hK => ?_) AllReadyH.nil
              go_simp
              refine (clip_f A2 M.o.l.length c2 v20 fO.cap (len_max fO.capMax)).mono ?_
              rintro e v21 ⟨rfl, rfl⟩
              go_wp2_with fail
              refine hK.out _ _ hS (fun hS => ?_)
              clear hK K
              try simp only [Act.put, List.setIfInBounds_toArray, List.set_cons_zero, List.set_cons_succ]
              replace sp := fun k (h1 : ownB A1 M.r.l.length = some k) h2 => sp k h1 (own_clip fO h2)
              replace fO := fO.clip
              refine wpAnyH_take (i := 12) (v := ?_) rfl (by kernel_rfl) (by kernel_rfl) (by kernel_rfl) (fun _ _ _ h => h) (Or.inl ⟨by rfl, ?_⟩) hS ?_
              rotate_left
              · (intro w hSw; (try dsimp only at hSw); go_simp; (first | done | with_reducible rfl))
              change wpAnyH _ _ _ _ _ _ _ (Act.put _ (some 36) _) _
              simp only [Act.put, List.setIfInBounds_toArray, List.set_cons_zero, List.set_cons_succ]
              refine wpAnyH_ready (rs := [14]) (by kernel_rfl) (by simp) ?_
              refine AllReadyH.cons rfl (fun K hK => ?_) AllReadyH.nil
              rw [if_pos (by rfl)]
              refine wp_store_row 25 _ _ rfl gO #[.slice A1 M.r.l.length M.r.l.length, .slice (some ⟨gB, 0, none⟩) M.bs.length M.bs.length, .slice A2 M.o.l.length M.o.l.length] rfl rfl _ _ bO (by kernel_rfl) rfl (by simp [Value.oneCell']) ?_
              refine hK.out _ _ ⟨(cell_setRow_other _ _ _ _ (show bm ≠ gO by omega)).trans hS.1, (cell_setRow_other _ _ _ _ (show bm ≠ gO by omega)).trans hS.2.1, (cell_setRow_other _ _ _ _ (show bm ≠ gO by omega)).trans hS.2.2⟩ (fun hS => ?_)
              clear hK K
              try simp only [Act.put, List.setIfInBounds_toArray]
              have hl := row_leaf go bO bB fR fO kk #[.slice A1 M.r.l.length M.r.l.length, .slice (some ⟨gB, 0, none⟩) M.bs.length M.bs.length, .slice A2 M.o.l.length M.o.l.length]
              refine wpAnyH_done (by kernel_rfl) ?_ _
              refine NoPanic.normal ?_
              go_wp2_with fail
              go_meet
              exact ⟨gO, gB, A1, A2, rfl, gb, sp, hl⟩
            exact AllReadyH.nil
          refine AllReadyH.cons rfl (fun K hK => ?_) ?_
          · go_simp
            refine (clip_f A2 M.o.l.length c2 v15 fO.cap (len_max fO.capMax)).mono ?_
            rintro e v23 ⟨rfl, rfl⟩
            go_wp2_with fail
            refine hK.out _ _ hS (fun hS => ?_)
            clear hK K
            try simp only [Act.put, List.setIfInBounds_toArray, List.set_cons_zero, List.set_cons_succ]
            replace sp := fun k (h1 : ownB A1 M.r.l.length = some k) h2 => sp k h1 (own_clip fO h2)
            replace fO := fO.clip
            refine wpAnyH_ready (rs := [7, 13]) (by kernel_rfl) (by simp) ?_
            refine AllReadyH.cons rfl (fun K hK => ?_) ?_
            · go_simp
              have bB := Blk.of_make v15 22 (.slice none 0 0) M.bs.length
              have kn := Keep.alloc1 v15 (.cells (madeCells #[.slice none 0 0] M.bs.length) 22)
              have gb := kk.size
              refine hK.out _ _ ⟨kn.cell hS.1, kn.cell hS.2.1, kn.cell hS.2.2⟩ (fun hS => ?_)
              clear hK K
              try simp only [Act.put, List.setIfInBounds_toArray, List.set_cons_zero, List.set_cons_succ]
              generalize (v15.alloc (.cells (madeCells #[.slice none 0 0] M.bs.length) 22)) = v24 at bB kn hS ⊢
              generalize v15.heap.size = gB at bB gb ⊢
              replace kk := kk.trans kn
              replace fR := fR.keep kn
              replace fO := fO.keep kn
              clear kn
              refine wpAnyH_take (i := 12) (v := ?_) rfl (by kernel_rfl) (by kernel_rfl) (by kernel_rfl) (fun _ _ _ h => h) (Or.inl ⟨by rfl, ?_⟩) hS ?_
              rotate_left
              · (intro w hSw; (try dsimp only at hSw); go_simp; (first | done | with_reducible rfl))
              change wpAnyH _ _ _ _ _ _ _ (Act.put _ (some 36) _) _
              simp only [Act.put, List.setIfInBounds_toArray, List.set_cons_zero, List.set_cons_succ]
              refine wpAnyH_ready (rs := [13]) (by kernel_rfl) (by simp) ?_
              refine AllReadyH.cons rfl (fun K hK => ?_) AllReadyH.nil
              go_simp
              have bO := Blk.new v24 25 [.slice none 0 0, .slice none 0 0, .slice none 0 0]
              have kn := Keep.alloc1 v24 (.cells #[.slice none 0 0, .slice none 0 0, .slice none 0 0] 25)
              have go := kk.size
              refine hK.out _ _ ⟨kn.cell hS.1, kn.cell hS.2.1, kn.cell hS.2.2⟩ (fun hS => ?_)
              clear hK K
              try simp only [Act.put, List.setIfInBounds_toArray, List.set_cons_zero, List.set_cons_succ]
              generalize (v24.alloc (.cells #[.slice none 0 0, .slice none 0 0, .slice none 0 0] 25)) = v25 at bO kn hS ⊢
              generalize v24.heap.size = gO at bO go ⊢
              replace kk := kk.trans kn
              replace fR := fR.keep kn
              replace fO := fO.keep kn
              replace bB := bB.keep kn
              clear kn
              refine wpAnyH_ready (rs := [14]) (by kernel_rfl) (by simp) ?_
              refine AllReadyH.cons rfl (fun K hK => ?_) AllReadyH.nil
              rw [if_pos (by rfl)]
              refine wp_store_row 25 _ _ rfl gO #[.slice A1 M.r.l.length M.r.l.length, .slice (some ⟨gB, 0, none⟩) M.bs.length M.bs.length, .slice A2 M.o.l.length M.o.l.length] rfl rfl _ _ bO (by kernel_rfl) rfl (by simp [Value.oneCell']) ?_
              refine hK.out _ _ ⟨(cell_setRow_other _ _ _ _ (show bm ≠ gO by omega)).trans hS.1, (cell_setRow_other _ _ _ _ (show bm ≠ gO by omega)).trans hS.2.1, (cell_setRow_other _ _ _ _ (show bm ≠ gO by omega)).trans hS.2.2⟩ (fun hS => ?_)
              clear hK K
              try simp only [Act.put, List.setIfInBounds_toArray]
              have hl := row_leaf go bO bB fR fO kk #[.slice A1 M.r.l.length M.r.l.length, .slice (some ⟨gB, 0, none⟩) M.bs.length M.bs.length, .slice A2 M.o.l.length M.o.l.length]
              refine wpAnyH_done (by kernel_rfl) ?_ _
              refine NoPanic.normal ?_
              go_wp2_with fail
              go_meet
              exact ⟨gO, gB, A1, A2, rfl, gb, sp, hl⟩
            refine AllReadyH.cons rfl (fun K hK => ?_) ?_
            · go_simp
              have bO := Blk.new v15 25 [.slice none 0 0, .slice none 0 0, .slice none 0 0]
              have kn := Keep.alloc1 v15 (.cells #[.slice none 0 0, .slice none 0 0, .slice none 0 0] 25)
              have go := kk.size
              refine hK.out _ _ ⟨kn.cell hS.1, kn.cell hS.2.1, kn.cell hS.2.2⟩ (fun hS => ?_)
              clear hK K
              try simp only [Act.put, List.setIfInBounds_toArray, List.set_cons_zero, List.set_cons_succ]
              generalize (v15.alloc (.cells #[.slice none 0 0, .slice none 0 0, .slice none 0 0] 25)) = v27 at bO kn hS ⊢
              generalize v15.heap.size = gO at bO go ⊢
              replace kk := kk.trans kn
              replace fR := fR.keep kn
              replace fO := fO.keep kn
              clear kn
              refine wpAnyH_ready (rs := [7]) (by kernel_rfl) (by simp) ?_
              refine AllReadyH.cons rfl (fun K hK => ?_) AllReadyH.nil
              go_simp
              have bB := Blk.of_make v27 22 (.slice none 0 0) M.bs.length
              have kn := Keep.alloc1 v27 (.cells (madeCells #[.slice none 0 0] M.bs.length) 22)
              have gb := kk.size
              refine hK.out _ _ ⟨kn.cell hS.1, kn.cell hS.2.1, kn.cell hS.2.2⟩ (fun hS => ?_)
              clear hK K
              try simp only [Act.put, List.setIfInBounds_toArray, List.set_cons_zero, List.set_cons_succ]
              generalize (v27.alloc (.cells (madeCells #[.slice none 0 0] M.bs.length) 22)) = v28 at bB kn hS ⊢
              generalize v27.heap.size = gB at bB gb ⊢
              replace kk := kk.trans kn
              replace fR := fR.keep kn
              replace fO := fO.keep kn
              replace bO := bO.keep kn
              clear kn
              refine wpAnyH_take (i := 12) (v := ?_) rfl (by kernel_rfl) (by kernel_rfl) (by kernel_rfl) (fun _ _ _ h => h) (Or.inl ⟨by rfl, ?_⟩) hS ?_
              rotate_left
              · (intro w hSw; (try dsimp only at hSw); go_simp; (first | done | with_reducible rfl))
              change wpAnyH _ _ _ _ _ _ _ (Act.put _ (some 36) _) _
              simp only [Act.put, List.setIfInBounds_toArray, List.set_cons_zero, List.set_cons_succ]
              refine wpAnyH_ready (rs := [14]) (by kernel_rfl) (by simp) ?_
              refine AllReadyH.cons rfl (fun K hK => ?_) AllReadyH.nil
              rw [if_pos (by rfl)]
              refine wp_store_row 25 _ _ rfl gO #[.slice A1 M.r.l.length M.r.l.length, .slice (some ⟨gB, 0, none⟩) M.bs.length M.bs.length, .slice A2 M.o.l.length M.o.l.length] rfl rfl _ _ bO (by kernel_rfl) rfl (by simp [Value.oneCell']) ?_
              refine hK.out _ _ ⟨(cell_setRow_other _ _ _ _ (show bm ≠ gO by omega)).trans hS.1, (cell_setRow_other _ _ _ _ (show bm ≠ gO by omega)).trans hS.2.1, (cell_setRow_other _ _ _ _ (show bm ≠ gO by omega)).trans hS.2.2⟩ (fun hS => ?_)
              clear hK K
              try simp only [Act.put, List.setIfInBounds_toArray]
              have hl := row_leaf go bO bB fR fO kk #[.slice A1 M.r.l.length M.r.l.length, .slice (some ⟨gB, 0, none⟩) M.bs.length M.bs.length, .slice A2 M.o.l.length M.o.l.length]
              refine wpAnyH_done (by kernel_rfl) ?_ _
              refine NoPanic.normal ?_
              go_wp2_with fail
              go_meet
              exact ⟨gO, gB, A1, A2, rfl, gb, sp, hl⟩
            exact AllReadyH.nil
          refine AllReadyH.cons rfl (fun K hK => ?_) ?_
          · go_simp
            have bO := Blk.new v15 25 [.slice none 0 0, .slice none 0 0, .slice none 0 0]
            have kn := Keep.alloc1 v15 (.cells #[.slice none 0 0, .slice none 0 0, .slice none 0 0] 25)
            have go := kk.size
            refine hK.out _ _ ⟨kn.cell hS.1, kn.cell hS.2.1, kn.cell hS.2.2⟩ (fun hS => ?_)
            clear hK K
            try simp only [Act.put, List.setIfInBounds_toArray, List.set_cons_zero, List.set_cons_succ]
            generalize (v15.alloc (.cells #[.slice none 0 0, .slice none 0 0, .slice none 0 0] 25)) = v30 at bO kn hS ⊢
            generalize v15.heap.size = gO at bO go ⊢
            replace kk := kk.trans kn
            replace fR := fR.keep kn
            replace fO := fO.keep kn
            clear kn
            refine wpAnyH_ready (rs := [7, 11]) (by kernel_rfl) (by simp) ?_
            refine AllReadyH.cons rfl (fun K hK => ?_) ?_
            · go_simp
              have bB := Blk.of_make v30 22 (.slice none 0 0) M.bs.length
              have kn := Keep.alloc1 v30 (.cells (madeCells #[.slice none 0 0] M.bs.length) 22)
              have gb := kk.size
              refine hK.out _ _ ⟨kn.cell hS.1, kn.cell hS.2.1, kn.cell hS.2.2⟩ (fun hS => ?_)
              clear hK K
              try simp only [Act.put, List.setIfInBounds_toArray, List.set_cons_zero, List.set_cons_succ]
              generalize (v30.alloc (.cells (madeCells #[.slice none 0 0] M.bs.length) 22)) = v31 at bB kn hS ⊢
              generalize v30.heap.size = gB at bB gb ⊢
              replace kk := kk.trans kn
              replace fR := fR.keep kn
              replace fO := fO.keep kn
              replace bO := bO.keep kn
              clear kn
              refine wpAnyH_ready (rs := [11]) (by kernel_rfl) (by simp) ?_
              refine AllReadyH.cons rfl (fun K hK => ?_) AllReadyH.nil
              go_simp
              refine (clip_f A2 M.o.l.length c2 v31 fO.cap (len_max fO.capMax)).mono ?_
              rintro e v32 ⟨rfl, rfl⟩
              go_wp2_with fail
              refine hK.out _ _ hS (fun hS => ?_)
              clear hK K
              try simp only [Act.put, List.setIfInBounds_toArray, List.set_cons_zero, List.set_cons_succ]
              replace sp := fun k (h1 : ownB A1 M.r.l.length = some k) h2 => sp k h1 (own_clip fO h2)
              replace fO := fO.clip
              refine wpAnyH_take (i := 12) (v := ?_) rfl (by kernel_rfl) (by kernel_rfl) (by kernel_rfl) (fun _ _ _ h => h) (Or.inl ⟨by rfl, ?_⟩) hS ?_
              rotate_left
              · (intro w hSw; (try dsimp only at hSw); go_simp; (first | done | with_reducible rfl))
              change wpAnyH _ _ _ _ _ _ _ (Act.put _ (some 36) _) _
              simp only [Act.put, List.setIfInBounds_toArray, List.set_cons_zero, List.set_cons_succ]
              refine wpAnyH_ready (rs := [14]) (by kernel_rfl) (by simp) ?_
              refine AllReadyH.cons rfl (fun K hK => ?_) AllReadyH.nil
              rw [if_pos (by rfl)]
              refine wp_store_row 25 _ _ rfl gO #[.slice A1 M.r.l.length M.r.l.length, .slice (some ⟨gB, 0, none⟩) M.bs.length M.bs.length, .slice A2 M.o.l.length M.o.l.length] rfl rfl _ _ bO (by kernel_rfl) rfl (by simp [Value.oneCell']) ?_
              refine hK.out _ _ ⟨(cell_setRow_other _ _ _ _ (show bm ≠ gO by omega)).trans hS.1, (cell_setRow_other _ _ _ _ (show bm ≠ gO by omega)).trans hS.2.1, (cell_setRow_other _ _ _ _ (show bm ≠ gO by omega)).trans hS.2.2⟩ (fun hS => ?_)
              clear hK K
              try simp only [Act.put, List.setIfInBounds_toArray]
              have hl := row_leaf go bO bB fR fO kk #[.slice A1 M.r.l.length M.r.l.length, .slice (some ⟨gB, 0, none⟩) M.bs.length M.bs.length, .slice A2 M.o.l.length M.o.l.length]
              refine wpAnyH_done (by kernel_rfl) ?_ _
              refine NoPanic.normal ?_
              go_wp2_with fail
              go_meet
              exact ⟨gO, gB, A1, A2, rfl, gb, sp, hl⟩
            refine AllReadyH.cons rfl (fun K hK => ?_) ?_
            · go_simp
              refine (clip_f A2 M.o.l.length c2 v30 fO.cap (len_max fO.capMax)).mono ?_
              rintro e v34 ⟨rfl, rfl⟩
              go_wp2_with fail
              refine hK.out _ _ hS (fun hS => ?_)
              clear hK K
              try simp only [Act.put, List.setIfInBounds_toArray, List.set_cons_zero, List.set_cons_succ]
              replace sp := fun k (h1 : ownB A1 M.r.l.length = some k) h2 => sp k h1 (own_clip fO h2)
              replace fO := fO.clip
              refine wpAnyH_ready (rs := [7]) (by kernel_rfl) (by simp) ?_
              refine AllReadyH.cons rfl (fun K hK => ?_) AllReadyH.nil
              go_simp
              have bB := Blk.of_make v30 22 (.slice none 0 0) M.bs.length
              have kn := Keep.alloc1 v30 (.cells (madeCells #[.slice none 0 0] M.bs.length) 22)
              have gb := kk.size
              refine hK.out _ _ ⟨kn.cell hS.1, kn.cell hS.2.1, kn.cell hS.2.2⟩ (fun hS => ?_)
              clear hK K
              try simp only [Act.put, List.setIfInBounds_toArray, List.set_cons_zero, List.set_cons_succ]
              generalize (v30.alloc (.cells (madeCells #[.slice none 0 0] M.bs.length) 22)) = v35 at bB kn hS ⊢
              generalize v30.heap.size = gB at bB gb ⊢
              replace kk := kk.trans kn
              replace fR := fR.keep kn
              replace fO := fO.keep kn
              replace bO := bO.keep kn
              clear kn
              refine wpAnyH_take (i := 12) (v := ?_) rfl (by kernel_rfl) (by kernel_rfl) (by kernel_rfl) (fun _ _ _ h => h) (Or.inl ⟨by rfl, ?_⟩) hS ?_
              rotate_left
              · (intro w hSw; (try dsimp only at hSw); go_simp; (first | done | with_reducible rfl))
              change wpAnyH _ _ _ _ _ _ _ (Act.put _ (some 36) _) _
              simp only [Act.put, List.setIfInBounds_toArray, List.set_cons_zero, List.set_cons_succ]
              refine wpAnyH_ready (rs := [14]) (by kernel_rfl) (by simp) ?_
              refine AllReadyH.cons rfl (fun K hK => ?_) AllReadyH.nil
              rw [if_pos (by rfl)]
              refine wp_store_row 25 _ _ rfl gO #[.slice A1 M.r.l.length M.r.l.length, .slice (some ⟨gB, 0, none⟩) M.bs.length M.bs.length, .slice A2 M.o.l.length M.o.l.length] rfl rfl _ _ bO (by kernel_rfl) rfl (by simp [Value.oneCell']) ?_
              refine hK.out _ _ ⟨(cell_setRow_other _ _ _ _ (show bm ≠ gO by omega)).trans hS.1, (cell_setRow_other _ _ _ _ (show bm ≠ gO by omega)).trans hS.2.1, (cell_setRow_other _ _ _ _ (show bm ≠ gO by omega)).trans hS.2.2⟩ (fun hS => ?_)
              clear hK K
              try simp only [Act.put, List.setIfInBounds_toArray]
              have hl := row_leaf go bO bB fR fO kk #[.slice A1 M.r.l.length M.r.l.length, .slice (some ⟨gB, 0, none⟩) M.bs.length M.bs.length, .slice A2 M.o.l.length M.o.l.length]
              refine wpAnyH_done (by kernel_rfl) ?_ _
              refine NoPanic.normal ?_
              go_wp2_with fail
              go_meet
              exact ⟨gO, gB, A1, A2, rfl, gb, sp, hl⟩
            exact AllReadyH.nil
          exact AllReadyH.nil
        refine AllReadyH.cons rfl (fun K hK => ?_) ?_
        · go_simp
          have bO := Blk.new v1 25 [.slice none 0 0, .slice none 0 0, .slice none 0 0]
          have kn := Keep.alloc1 v1 (.cells #[.slice none 0 0, .slice none 0 0, .slice none 0 0] 25)
          have go := kk.size
          refine hK.out _ _ ⟨kn.cell hS.1, kn.cell hS.2.1, kn.cell hS.2.2⟩ (fun hS => ?_)
          clear hK K
          try simp only [Act.put, List.setIfInBounds_toArray, List.set_cons_zero, List.set_cons_succ]
          generalize (v1.alloc (.cells #[.slice none 0 0, .slice none 0 0, .slice none 0 0] 25)) = v37 at bO kn hS ⊢
          generalize v1.heap.size = gO at bO go ⊢
          replace kk := kk.trans kn
          replace fR := fR.keep kn
          clear kn
          refine wpAnyH_ready (rs := [7, 10]) (by kernel_rfl) (by simp) ?_
          refine AllReadyH.cons rfl (fun K hK => ?_) ?_
          · go_simp
            have bB := Blk.of_make v37 22 (.slice none 0 0) M.bs.length
            have kn := Keep.alloc1 v37 (.cells (madeCells #[.slice none 0 0] M.bs.length) 22)
            have gb := kk.size
            refine hK.out _ _ ⟨kn.cell hS.1, kn.cell hS.2.1, kn.cell hS.2.2⟩ (fun hS => ?_)
            clear hK K
            try simp only [Act.put, List.setIfInBounds_toArray, List.set_cons_zero, List.set_cons_succ]
            generalize (v37.alloc (.cells (madeCells #[.slice none 0 0] M.bs.length) 22)) = v38 at bB kn hS ⊢
            generalize v37.heap.size = gB at bB gb ⊢
            replace kk := kk.trans kn
            replace fR := fR.keep kn
            replace bO := bO.keep kn
            clear kn
            refine wpAnyH_ready (rs := [10]) (by kernel_rfl) (by simp) ?_
            refine AllReadyH.cons rfl (fun K hK => ?_) AllReadyH.nil
            go_simp
            refine (cloneI_f M.o.a M.o.c M.o.l v38 (hM1.keep kk).o.rd (by have := Lo.out; omega) (hM.o.nil)).mono ?_
            rintro e v39 ⟨A2, c2, rfl, hfO, kn⟩
            have sp := sep_new fR hfO
            go_wp2_with fail
            refine hK.out _ _ ⟨kn.cell hS.1, kn.cell hS.2.1, kn.cell hS.2.2⟩ (fun hS => ?_)
            clear hK K
            try simp only [Act.put, List.setIfInBounds_toArray, List.set_cons_zero, List.set_cons_succ]
            have fO := hfO.mono kk.size
            clear hfO
            replace kk := kk.trans kn
            replace fR := fR.keep kn
            replace bB := bB.keep kn
            replace bO := bO.keep kn
            clear kn
            refine wpAnyH_ready (rs := [11]) (by kernel_rfl) (by simp) ?_
            refine AllReadyH.cons rfl (fun K hK => ?_) AllReadyH.nil
            go_simp
            refine (clip_f A2 M.o.l.length c2 v39 fO.cap (len_max fO.capMax)).mono ?_
            rintro e v40 ⟨rfl, rfl⟩
            go_wp2_with fail
            refine hK.out _ _ hS (fun hS => ?_)
            clear hK K
            try simp only [Act.put, List.setIfInBounds_toArray, List.set_cons_zero, List.set_cons_succ]
            replace sp := fun k (h1 : ownB A1 M.r.l.length = some k) h2 => sp k h1 (own_clip fO h2)
            replace fO := fO.clip
            refine wpAnyH_take (i := 12) (v := ?_) rfl (by kernel_rfl) (by kernel_rfl) (by kernel_rfl) (fun _ _ _ h => h) (Or.inl ⟨by rfl, ?_⟩) hS ?_
            rotate_left
            · (intro w hSw; (try dsimp only at hSw); go_simp; (first | done | with_reducible rfl))
            change wpAnyH _ _ _ _ _ _ _ (Act.put _ (some 36) _) _
            simp only [Act.put, List.setIfInBounds_toArray, List.set_cons_zero, List.set_cons_succ]
            refine wpAnyH_ready (rs := [14]) (by kernel_rfl) (by simp) ?_
            refine AllReadyH.cons rfl (fun K hK => ?_) AllReadyH.nil
            rw [if_pos (by rfl)]
            refine wp_store_row 25 _ _ rfl gO #[.slice A1 M.r.l.length M.r.l.length, .slice (some ⟨gB, 0, none⟩) M.bs.length M.bs.length, .slice A2 M.o.l.length M.o.l.length] rfl rfl _ _ bO (by kernel_rfl) rfl (by simp [Value.oneCell']) ?_
            refine hK.out _ _ ⟨(cell_setRow_other _ _ _ _ (show bm ≠ gO by omega)).trans hS.1, (cell_setRow_other _ _ _ _ (show bm ≠ gO by omega)).trans hS.2.1, (cell_setRow_other _ _ _ _ (show bm ≠ gO by omega)).trans hS.2.2⟩ (fun hS => ?_)
            clear hK K
            try simp only [Act.put, List.setIfInBounds_toArray]
            have hl := row_leaf go bO bB fR fO kk #[.slice A1 M.r.l.length M.r.l.length, .slice (some ⟨gB, 0, none⟩) M.bs.length M.bs.length, .slice A2 M.o.l.length M.o.l.length]
            refine wpAnyH_done (by kernel_rfl) ?_ _
            refine NoPanic.normal ?_
            go_wp2_with fail
            go_meet
            exact ⟨gO, gB, A1, A2, rfl, gb, sp, hl⟩
          refine AllReadyH.cons rfl (fun K hK => ?_) ?_
          · go_simp
            refine (cloneI_f M.o.a M.o.c M.o.l v37 (hM1.keep kk).o.rd (by have := Lo.out; omega) (hM.o.nil)).mono ?_
            rintro e v42 ⟨A2, c2, rfl, hfO, kn⟩
            have sp := sep_new fR hfO
            go_wp2_with fail
            refine hK.out _ _ ⟨kn.cell hS.1, kn.cell hS.2.1, kn.cell hS.2.2⟩ (fun hS => ?_)
            clear hK K
            try simp only [Act.put, List.setIfInBounds_toArray, List.set_cons_zero, List.set_cons_succ]
            have fO := hfO.mono kk.size
            clear hfO
            replace kk := kk.trans kn
            replace fR := fR.keep kn
            replace bO := bO.keep kn
            clear kn
            refine wpAnyH_ready (rs := [7, 11]) (by kernel_rfl) (by simp) ?_
            refine AllReadyH.cons rfl (fun K hK => ?_) ?_
            · go_simp
              have bB := Blk.of_make v42 22 (.slice none 0 0) M.bs.length
              have kn := Keep.alloc1 v42 (.cells (madeCells #[.slice none 0 0] M.bs.length) 22)
              have gb := kk.size
              refine hK.out _ _ ⟨kn.cell hS.1, kn.cell hS.2.1, kn.cell hS.2.2⟩ (fun hS => ?_)
              clear hK K
              try simp only [Act.put, List.setIfInBounds_toArray, List.set_cons_zero, List.set_cons_succ]
              generalize (v42.alloc (.cells (madeCells #[.slice none 0 0] M.bs.length) 22)) = v43 at bB kn hS ⊢
              generalize v42.heap.size = gB at bB gb ⊢
              replace kk := kk.trans kn
              replace fR := fR.keep kn
              replace fO := fO.keep kn
              replace bO := bO.keep kn
              clear kn
              refine wpAnyH_ready (rs := [11]) (by kernel_rfl) (by simp) ?_
              refine AllReadyH.cons rfl (fun K hK => ?_) AllReadyH.nil
              go_simp
              refine (clip_f A2 M.o.l.length c2 v43 fO.cap (len_max fO.capMax)).mono ?_
              rintro e v44 ⟨rfl, rfl⟩
              go_wp2_with fail
              refine hK.out _ _ hS (fun hS => ?_)
              clear hK K
              try simp only [Act.put, List.setIfInBounds_toArray, List.set_cons_zero, List.set_cons_succ]
              replace sp := fun k (h1 : ownB A1 M.r.l.length = some k) h2 => sp k h1 (own_clip fO h2)
              replace fO := fO.clip
              refine wpAnyH_take (i := 12) (v := ?_) rfl (by kernel_rfl) (by kernel_rfl) (by kernel_rfl) (fun _ _ _ h => h) (Or.inl ⟨by rfl, ?_⟩) hS ?_
              rotate_left
              · (intro w hSw; (try dsimp only at hSw); go_simp; (first | done | with_reducible rfl))
              change wpAnyH _ _ _ _ _ _ _ (Act.put _ (some 36) _) _
              simp only [Act.put, List.setIfInBounds_toArray, List.set_cons_zero, List.set_cons_succ]
              refine wpAnyH_ready (rs := [14]) (by kernel_rfl) (by simp) ?_
              refine AllReadyH.cons rfl (fun K hK => ?_) AllReadyH.nil
              rw [if_pos (by rfl)]
              refine wp_store_row 25 _ _ rfl gO #[.slice A1 M.r.l.length M.r.l.length, .slice (some ⟨gB, 0, none⟩) M.bs.length M.bs.length, .slice A2 M.o.l.length M.o.l.length] rfl rfl _ _ bO (by kernel_rfl) rfl (by simp [Value.oneCell']) ?_
              refine hK.out _ _ ⟨(cell_setRow_other _ _ _ _ (show bm ≠ gO by omega)).trans hS.1, (cell_setRow_other _ _ _ _ (show bm ≠ gO by omega)).trans hS.2.1, (cell_setRow_other _ _ _ _ (show bm ≠ gO by omega)).trans hS.2.2⟩ (fun hS => ?_)
              clear hK K
              try simp only [Act.put, List.setIfInBounds_toArray]
              have hl := row_leaf go bO bB fR fO kk #[.slice A1 M.r.l.length M.r.l.length, .slice (some ⟨gB, 0, none⟩) M.bs.length M.bs.length, .slice A2 M.o.l.length M.o.l.length]
              refine wpAnyH_done (by kernel_rfl) ?_ _
              refine NoPanic.normal ?_
              go_wp2_with fail
              go_meet
              exact ⟨gO, gB, A1, A2, rfl, gb, sp, hl⟩
            refine AllReadyH.cons rfl (fun K hK => ?_) ?_
            · go_simp
              refine (clip_f A2 M.o.l.length c2 v42 fO.cap (len_max fO.capMax)).mono ?_
              rintro e v46 ⟨rfl, rfl⟩
              go_wp2_with fail
              refine hK.out _ _ hS (fun hS => ?_)
              clear hK K
              try simp only [Act.put, List.setIfInBounds_toArray, List.set_cons_zero, List.set_cons_succ]
              replace sp := fun k (h1 : ownB A1 M.r.l.length = some k) h2 => sp k h1 (own_clip fO h2)
              replace fO := fO.clip
              refine wpAnyH_ready (rs := [7]) (by kernel_rfl) (by simp) ?_
              refine AllReadyH.cons rfl (fun K hK => ?_) AllReadyH.nil
              go_simp
              have bB := Blk.of_make v42 22 (.slice none 0 0) M.bs.length
              have kn := Keep.alloc1 v42 (.cells (madeCells #[.slice none 0 0] M.bs.length) 22)
              have gb := kk.size
              refine hK.out _ _ ⟨kn.cell hS.1, kn.cell hS.2.1, kn.cell hS.2.2⟩ (fun hS => ?_)
              clear hK K
              try simp only [Act.put, List.setIfInBounds_toArray, List.set_cons_zero, List.set_cons_succ]
              generalize (v42.alloc (.cells (madeCells #[.slice none 0 0] M.bs.length) 22)) = v47 at bB kn hS ⊢
              generalize v42.heap.size = gB at bB gb ⊢
              replace kk := kk.trans kn
              replace fR := fR.keep kn
              replace fO := fO.keep kn
              replace bO := bO.keep kn
              clear kn
              refine wpAnyH_take (i := 12) (v := ?_) rfl (by kernel_rfl) (by kernel_rfl) (by kernel_rfl) (fun _ _ _ h => h) (Or.inl ⟨by rfl, ?_⟩) hS ?_
              rotate_left
              · (intro w hSw; (try dsimp only at hSw); go_simp; (first | done | with_reducible rfl))
              change wpAnyH _ _ _ _ _ _ _ (Act.put _ (some 36) _) _
              simp only [Act.put, List.setIfInBounds_toArray, List.set_cons_zero, List.set_cons_succ]
              refine wpAnyH_ready (rs := [14]) (by kernel_rfl) (by simp) ?_
              refine AllReadyH.cons rfl (fun K hK => ?_) AllReadyH.nil
              rw [if_pos (by rfl)]
              refine wp_store_row 25 _ _ rfl gO #[.slice A1 M.r.l.length M.r.l.length, .slice (some ⟨gB, 0, none⟩) M.bs.length M.bs.length, .slice A2 M.o.l.length M.o.l.length] rfl rfl _ _ bO (by kernel_rfl) rfl (by simp [Value.oneCell']) ?_
              refine hK.out _ _ ⟨(cell_setRow_other _ _ _ _ (show bm ≠ gO by omega)).trans hS.1, (cell_setRow_other _ _ _ _ (show bm ≠ gO by omega)).trans hS.2.1, (cell_setRow_other _ _ _ _ (show bm ≠ gO by omega)).trans hS.2.2⟩ (fun hS => ?_)
              clear hK K
              try simp only [Act.put, List.setIfInBounds_toArray]
              have hl := row_leaf go bO bB fR fO kk #[.slice A1 M.r.l.length M.r.l.length, .slice (some ⟨gB, 0, none⟩) M.bs.length M.bs.length, .slice A2 M.o.l.length M.o.l.length]
              refine wpAnyH_done (by kernel_rfl) ?_ _
              refine NoPanic.normal ?_
              go_wp2_with fail
              go_meet
              exact ⟨gO, gB, A1, A2, rfl, gb, sp, hl⟩
            exact AllReadyH.nil
          exact AllReadyH.nil
        exact AllReadyH.nil
      refine AllReadyH.cons rfl (fun K hK => ?_) ?_
      · go_simp
        have bB := Blk.of_make v1 22 (.slice none 0 0) M.bs.length
        have kn := Keep.alloc1 v1 (.cells (madeCells #[.slice none 0 0] M.bs.length) 22)
        have gb := kk.size
        refine hK.out _ _ ⟨kn.cell hS.1, kn.cell hS.2.1, kn.cell hS.2.2⟩ (fun hS => ?_)
        clear hK K
        try simp only [Act.put, List.setIfInBounds_toArray, List.set_cons_zero, List.set_cons_succ]
        generalize (v1.alloc (.cells (madeCells #[.slice none 0 0] M.bs.length) 22)) = v49 at bB kn hS ⊢
        generalize v1.heap.size = gB at bB gb ⊢
        replace kk := kk.trans kn
        replace fR := fR.keep kn
        clear kn
        refine wpAnyH_ready (rs := [3, 13]) (by kernel_rfl) (by simp) ?_
        refine AllReadyH.cons rfl (fun K hK => ?_) ?_
        · go_simp
          refine (clip_f A1 M.r.l.length c1 v49 fR.cap (len_max fR.capMax)).mono ?_
          rintro e v50 ⟨rfl, rfl⟩
          go_wp2_with fail
          refine hK.out _ _ hS (fun hS => ?_)
          clear hK K
          try simp only [Act.put, List.setIfInBounds_toArray, List.set_cons_zero, List.set_cons_succ]
          replace fR := fR.clip
          refine wpAnyH_ready (rs := [10, 13]) (by kernel_rfl) (by simp) ?_
          refine AllReadyH.cons rfl (fun K hK => ?_) ?_
          · go_simp
            refine (cloneI_f M.o.a M.o.c M.o.l v49 (hM1.keep kk).o.rd (by have := Lo.out; omega) (hM.o.nil)).mono ?_
            rintro e v51 ⟨A2, c2, rfl, hfO, kn⟩
            have sp := sep_new fR hfO
            go_wp2_with fail
            refine hK.out _ _ ⟨kn.cell hS.1, kn.cell hS.2.1, kn.cell hS.2.2⟩ (fun hS => ?_)
            clear hK K
            try simp only [Act.put, List.setIfInBounds_toArray, List.set_cons_zero, List.set_cons_succ]
            have fO := hfO.mono kk.size
            clear hfO
            replace kk := kk.trans kn
            replace fR := fR.keep kn
            replace bB := bB.keep kn
            clear kn
            refine wpAnyH_ready (rs := [11, 13]) (by kernel_rfl) (by simp) ?_
            refine AllReadyH.cons rfl (fun K hK => ?_) ?_
            · go_simp
              refine (clip_f A2 M.o.l.length c2 v51 fO.cap (len_max fO.capMax)).mono ?_
              rintro e v52 ⟨rfl, rfl⟩
              go_wp2_with fail
              refine hK.out _ _ hS (fun hS => ?_)
              clear hK K
              try simp only [Act.put, List.setIfInBounds_toArray, List.set_cons_zero, List.set_cons_succ]
              replace sp := fun k (h1 : ownB A1 M.r.l.length = some k) h2 => sp k h1 (own_clip fO h2)
              replace fO := fO.clip
              refine wpAnyH_take (i := 12) (v := ?_) rfl (by kernel_rfl) (by kernel_rfl) (by kernel_rfl) (fun _ _ _ h => h) (Or.inl ⟨by rfl, ?_⟩) hS ?_
              rotate_left
              · (intro w hSw; (try dsimp only at hSw); go_simp; (first | done | with_reducible rfl))
              change wpAnyH _ _ _ _ _ _ _ (Act.put _ (some 36) _) _
              simp only [Act.put, List.setIfInBounds_toArray, List.set_cons_zero, List.set_cons_succ]
              refine wpAnyH_ready (rs := [13]) (by kernel_rfl) (by simp) ?_
              refine AllReadyH.cons rfl (fun K hK => ?_) AllReadyH.nil
              go_simp
              have bO := Blk.new v51 25 [.slice none 0 0, .slice none 0 0, .slice none 0 0]
              have kn := Keep.alloc1 v51 (.cells #[.slice none 0 0, .slice none 0 0, .slice none 0 0] 25)
              have go := kk.size
              refine hK.out _ _ ⟨kn.cell hS.1, kn.cell hS.2.1, kn.cell hS.2.2⟩ (fun hS => ?_)
              clear hK K
              try simp only [Act.put, List.setIfInBounds_toArray, List.set_cons_zero, List.set_cons_succ]
              generalize (v51.alloc (.cells #[.slice none 0 0, .slice none 0 0, .slice none 0 0] 25)) = v53 at bO kn hS ⊢
              generalize v51.heap.size = gO at bO go ⊢
              replace kk := kk.trans kn
              replace fR := fR.keep kn
              replace fO := fO.keep kn
              replace bB := bB.keep kn
              clear kn
              refine wpAnyH_ready (rs := [14]) (by kernel_rfl) (by simp) ?_
              refine AllReadyH.cons rfl (fun K hK => ?_) AllReadyH.nil
              rw [if_pos (by rfl)]
              refine wp_store_row 25 _ _ rfl gO #[.slice A1 M.r.l.length M.r.l.length, .slice (some ⟨gB, 0, none⟩) M.bs.length M.bs.length, .slice A2 M.o.l.length M.o.l.length] rfl rfl _ _ bO (by kernel_rfl) rfl (by simp [Value.oneCell']) ?_
              refine hK.out _ _ ⟨(cell_setRow_other _ _ _ _ (show bm ≠ gO by omega)).trans hS.1, (cell_setRow_other _ _ _ _ (show bm ≠ gO by omega)).trans hS.2.1, (cell_setRow_other _ _ _ _ (show bm ≠ gO by omega)).trans hS.2.2⟩ (fun hS => ?_)
              clear hK K
              try simp only [Act.put, List.setIfInBounds_toArray]
              have hl := row_leaf go bO bB fR fO kk #[.slice A1 M.r.l.length M.r.l.length, .slice (some ⟨gB, 0, none⟩) M.bs.length M.bs.length, .slice A2 M.o.l.length M.o.l.length]
              refine wpAnyH_done (by kernel_rfl) ?_ _
              refine NoPanic.normal ?_
              go_wp2_with fail
              go_meet
              exact ⟨gO, gB, A1, A2, rfl, gb, sp, hl⟩
            refine AllReadyH.cons rfl (fun K hK => ?_) ?_
            · go_simp
              have bO := Blk.new v51 25 [.slice none 0 0, .slice none 0 0, .slice none 0 0]
              have kn := Keep.alloc1 v51 (.cells #[.slice none 0 0, .slice none 0 0, .slice none 0 0] 25)
              have go := kk.size
              refine hK.out _ _ ⟨kn.cell hS.1, kn.cell hS.2.1, kn.cell hS.2.2⟩ (fun hS => ?_)
              clear hK K
              try simp only [Act.put, List.setIfInBounds_toArray, List.set_cons_zero, List.set_cons_succ]
              generalize (v51.alloc (.cells #[.slice none 0 0, .slice none 0 0, .slice none 0 0] 25)) = v55 at bO kn hS ⊢
              generalize v51.heap.size = gO at bO go ⊢
              replace kk := kk.trans kn
              replace fR := fR.keep kn
              replace fO := fO.keep kn
              replace bB := bB.keep kn
              clear kn
              refine wpAnyH_ready (rs := [11]) (by kernel_rfl) (by simp) ?_
              refine AllReadyH.cons rfl (fun K hK => ?_) AllReadyH.nil
              go_simp
              refine (clip_f A2 M.o.l.length c2 v55 fO.cap (len_max fO.capMax)).mono ?_
              rintro e v56 ⟨rfl, rfl⟩
              go_wp2_with fail
              refine hK.out _ _ hS (fun hS => ?_)
              clear hK K
              try simp only [Act.put, List.setIfInBounds_toArray, List.set_cons_zero, List.set_cons_succ]
              replace sp := fun k (h1 : ownB A1 M.r.l.length = some k) h2 => sp k h1 (own_clip fO h2)
              replace fO := fO.clip
              refine wpAnyH_take (i := 12) (v := ?_) rfl (by kernel_rfl) (by kernel_rfl) (by kernel_rfl) (fun _ _ _ h => h) (Or.inl ⟨by rfl, ?_⟩) hS ?_
              rotate_left
              · (intro w hSw; (try dsimp only at hSw); go_simp; (first | done | with_reducible rfl))
              change wpAnyH _ _ _ _ _ _ _ (Act.put _ (some 36) _) _
              simp only [Act.put, List.setIfInBounds_toArray, List.set_cons_zero, List.set_cons_succ]
              refine wpAnyH_ready (rs := [14]) (by kernel_rfl) (by simp) ?_
              refine AllReadyH.cons rfl (fun K hK => ?_) AllReadyH.nil
              rw [if_pos (by rfl)]
              refine wp_store_row 25 _ _ rfl gO #[.slice A1 M.r.l.length M.r.l.length, .slice (some ⟨gB, 0, none⟩) M.bs.length M.bs.length, .slice A2 M.o.l.length M.o.l.length] rfl rfl _ _ bO (by kernel_rfl) rfl (by simp [Value.oneCell']) ?_
              refine hK.out _ _ ⟨(cell_setRow_other _ _ _ _ (show bm ≠ gO by omega)).trans hS.1, (cell_setRow_other _ _ _ _ (show bm ≠ gO by omega)).trans hS.2.1, (cell_setRow_other _ _ _ _ (show bm ≠ gO by omega)).trans hS.2.2⟩ (fun hS => ?_)
              clear hK K
              try simp only [Act.put, List.setIfInBounds_toArray]
              have hl := row_leaf go bO bB fR fO kk #[.slice A1 M.r.l.length M.r.l.length, .slice (some ⟨gB, 0, none⟩) M.bs.length M.bs.length, .slice A2 M.o.l.length M.o.l.length]
              refine wpAnyH_done (by kernel_rfl) ?_ _
              refine NoPanic.normal ?_
              go_wp2_with fail
              go_meet
              exact ⟨gO, gB, A1, A2, rfl, gb, sp, hl⟩
            exact AllReadyH.nil
          refine AllReadyH.cons rfl (fun K hK => ?_) ?_
          · go_simp
            have bO := Blk.new v49 25 [.slice none 0 0, .slice none 0 0, .slice none 0 0]
            have kn := Keep.alloc1 v49 (.cells #[.slice none 0 0, .slice none 0 0, .slice none 0 0] 25)
            have go := kk.size
            refine hK.out _ _ ⟨kn.cell hS.1, kn.cell hS.2.1, kn.cell hS.2.2⟩ (fun hS => ?_)
            clear hK K
            try simp only [Act.put, List.setIfInBounds_toArray, List.set_cons_zero, List.set_cons_succ]
            generalize (v49.alloc (.cells #[.slice none 0 0, .slice none 0 0, .slice none 0 0] 25)) = v58 at bO kn hS ⊢
            generalize v49.heap.size = gO at bO go ⊢
            replace kk := kk.trans kn
            replace fR := fR.keep kn
            replace bB := bB.keep kn
            clear kn
            refine wpAnyH_ready (rs := [10]) (by kernel_rfl) (by simp) ?_
            refine AllReadyH.cons rfl (fun K hK => ?_) AllReadyH.nil
            go_simp
            refine (cloneI_f M.o.a M.o.c M.o.l v58 (hM1.keep kk).o.rd (by have := Lo.out; omega) (hM.o.nil)).mono ?_
            rintro e v59 ⟨A2, c2, rfl, hfO, kn⟩
            have sp := sep_new fR hfO
            go_wp2_with fail
            refine hK.out _ _ ⟨kn.cell hS.1, kn.cell hS.2.1, kn.cell hS.2.2⟩ (fun hS => ?_)
            clear hK K
            try simp only [Act.put, List.setIfInBounds_toArray, List.set_cons_zero, List.set_cons_succ]
            have fO := hfO.mono kk.size
            clear hfO
            replace kk := kk.trans kn
            replace fR := fR.keep kn
            replace bB := bB.keep kn
            replace bO := bO.keep kn
            clear kn
            refine wpAnyH_ready (rs := [11]) (by kernel_rfl) (by simp) ?_
            refine AllReadyH.cons rfl (fun K hK => ?_) AllReadyH.nil
            go_simp
            refine (clip_f A2 M.o.l.length c2 v59 fO.cap (len_max fO.capMax)).mono ?_
            rintro e v60 ⟨rfl, rfl⟩
            go_wp2_with fail
            refine hK.out _ _ hS (fun hS => ?_)
            clear hK K
            try simp only [Act.put, List.setIfInBounds_toArray, List.set_cons_zero, List.set_cons_succ]
            replace sp := fun k (h1 : ownB A1 M.r.l.length = some k) h2 => sp k h1 (own_clip fO h2)
            replace fO := fO.clip
            refine wpAnyH_take (i := 12) (v := ?_) rfl (by kernel_rfl) (by kernel_rfl) (by kernel_rfl) (fun _ _ _ h => h) (Or.inl ⟨by rfl, ?_⟩) hS ?_
            rotate_left
            · (intro w hSw; (try dsimp only at hSw); go_simp; (first | done | with_reducible rfl))
            change wpAnyH _ _ _ _ _ _ _ (Act.put _ (some 36) _) _
            simp only [Act.put, List.setIfInBounds_toArray, List.set_cons_zero, List.set_cons_succ]
            refine wpAnyH_ready (rs := [14]) (by kernel_rfl) (by simp) ?_
            refine AllReadyH.cons rfl (fun K hK => ?_) AllReadyH.nil
            rw [if_pos (by rfl)]
            refine wp_store_row 25 _ _ rfl gO #[.slice A1 M.r.l.length M.r.l.length, .slice (some ⟨gB, 0, none⟩) M.bs.length M.bs.length, .slice A2 M.o.l.length M.o.l.length] rfl rfl _ _ bO (by kernel_rfl) rfl (by simp [Value.oneCell']) ?_
            refine hK.out _ _ ⟨(cell_setRow_other _ _ _ _ (show bm ≠ gO by omega)).trans hS.1, (cell_setRow_other _ _ _ _ (show bm ≠ gO by omega)).trans hS.2.1, (cell_setRow_other _ _ _ _ (show bm ≠ gO by omega)).trans hS.2.2⟩ (fun hS => ?_)
            clear hK K
            try simp only [Act.put, List.setIfInBounds_toArray]
            have hl := row_leaf go bO bB fR fO kk #[.slice A1 M.r.l.length M.r.l.length, .slice (some ⟨gB, 0, none⟩) M.bs.length M.bs.length, .slice A2 M.o.l.length M.o.l.length]
            refine wpAnyH_done (by kernel_rfl) ?_ _
            refine NoPanic.normal ?_
            go_wp2_with fail
            go_meet
            exact ⟨gO, gB, A1, A2, rfl, gb, sp, hl⟩
          exact AllReadyH.nil
        refine AllReadyH.cons rfl (fun K hK => ?_) ?_
        · go_simp
          have bO := Blk.new v49 25 [.slice none 0 0, .slice none 0 0, .slice none 0 0]
          have kn := Keep.alloc1 v49 (.cells #[.slice none 0 0, .slice none 0 0, .slice none 0 0] 25)
          have go := kk.size
          refine hK.out _ _ ⟨kn.cell hS.1, kn.cell hS.2.1, kn.cell hS.2.2⟩ (fun hS => ?_)
          clear hK K
          try simp only [Act.put, List.setIfInBounds_toArray, List.set_cons_zero, List.set_cons_succ]
          generalize (v49.alloc (.cells #[.slice none 0 0, .slice none 0 0, .slice none 0 0] 25)) = v62 at bO kn hS ⊢
          generalize v49.heap.size = gO at bO go ⊢
          replace kk := kk.trans kn
          replace fR := fR.keep kn
          replace bB := bB.keep kn
          clear kn
          refine wpAnyH_ready (rs := [3]) (by kernel_rfl) (by simp) ?_
          refine AllReadyH.cons rfl (fun K hK => ?_) AllReadyH.nil
          go_simp
          refine (clip_f A1 M.r.l.length c1 v62 fR.cap (len_max fR.capMax)).mono ?_
          rintro e v63 ⟨rfl, rfl⟩
          go_wp2_with fail
          refine hK.out _ _ hS (fun hS => ?_)
          clear hK K
          try simp only [Act.put, List.setIfInBounds_toArray, List.set_cons_zero, List.set_cons_succ]
          replace fR := fR.clip
          refine wpAnyH_ready (rs := [10]) (by kernel_rfl) (by simp) ?_
          refine AllReadyH.cons rfl (fun K hK => ?_) AllReadyH.nil
          go_simp
          refine (cloneI_f M.o.a M.o.c M.o.l v62 (hM1.keep kk).o.rd (by have := Lo.out; omega) (hM.o.nil)).mono ?_
          rintro e v64 ⟨A2, c2, rfl, hfO, kn⟩
          have sp := sep_new fR hfO
          go_wp2_with fail
          refine hK.out _ _ ⟨kn.cell hS.1, kn.cell hS.2.1, kn.cell hS.2.2⟩ (fun hS => ?_)
          clear hK K
          try simp only [Act.put, List.setIfInBounds_toArray, List.set_cons_zero, List.set_cons_succ]
          have fO := hfO.mono kk.size
          clear hfO
          replace kk := kk.trans kn
          replace fR := fR.keep kn
          replace bB := bB.keep kn
          replace bO := bO.keep kn
          clear kn
          refine wpAnyH_ready (rs := [11]) (by kernel_rfl) (by simp) ?_
          refine AllReadyH.cons rfl (fun K hK => ?_) AllReadyH.nil
          go_simp
          refine (clip_f A2 M.o.l.length c2 v64 fO.cap (len_max fO.capMax)).mono ?_
          rintro e v65 ⟨rfl, rfl⟩
          go_wp2_with fail
          refine hK.out _ _ hS (fun hS => ?_)
          clear hK K
          try simp only [Act.put, List.setIfInBounds_toArray, List.set_cons_zero, List.set_cons_succ]
          replace sp := fun k (h1 : ownB A1 M.r.l.length = some k) h2 => sp k h1 (own_clip fO h2)
          replace fO := fO.clip
          refine wpAnyH_take (i := 12) (v := ?_) rfl (by kernel_rfl) (by kernel_rfl) (by kernel_rfl) (fun _ _ _ h => h) (Or.inl ⟨by rfl, ?_⟩) hS ?_
          rotate_left
          · (intro w hSw; (try dsimp only at hSw); go_simp; (first | done | with_reducible rfl))
          change wpAnyH _ _ _ _ _ _ _ (Act.put _ (some 36) _) _
          simp only [Act.put, List.setIfInBounds_toArray, List.set_cons_zero, List.set_cons_succ]
          refine wpAnyH_ready (rs := [14]) (by kernel_rfl) (by simp) ?_
          refine AllReadyH.cons rfl (fun K hK => ?_) AllReadyH.nil
          rw [if_pos (by rfl)]
          refine wp_store_row 25 _ _ rfl gO #[.slice A1 M.r.l.length M.r.l.length, .slice (some ⟨gB, 0, none⟩) M.bs.length M.bs.length, .slice A2 M.o.l.length M.o.l.length] rfl rfl _ _ bO (by kernel_rfl) rfl (by simp [Value.oneCell']) ?_
          refine hK.out _ _ ⟨(cell_setRow_other _ _ _ _ (show bm ≠ gO by omega)).trans hS.1, (cell_setRow_other _ _ _ _ (show bm ≠ gO by omega)).trans hS.2.1, (cell_setRow_other _ _ _ _ (show bm ≠ gO by omega)).trans hS.2.2⟩ (fun hS => ?_)
          clear hK K
          try simp only [Act.put, List.setIfInBounds_toArray]
          have hl := row_leaf go bO bB fR fO kk #[.slice A1 M.r.l.length M.r.l.length, .slice (some ⟨gB, 0, none⟩) M.bs.length M.bs.length, .slice A2 M.o.l.length M.o.l.length]
          refine wpAnyH_done (by kernel_rfl) ?_ _
          refine NoPanic.normal ?_
          go_wp2_with fail
          go_meet
          exact ⟨gO, gB, A1, A2, rfl, gb, sp, hl⟩
        exact AllReadyH.nil
      refine AllReadyH.cons rfl (fun K hK => ?_) ?_
      · go_simp
        have bO := Blk.new v1 25 [.slice none 0 0, .slice none 0 0, .slice none 0 0]
        have kn := Keep.alloc1 v1 (.cells #[.slice none 0 0, .slice none 0 0, .slice none 0 0] 25)
        have go := kk.size
        refine hK.out _ _ ⟨kn.cell hS.1, kn.cell hS.2.1, kn.cell hS.2.2⟩ (fun hS => ?_)
        clear hK K
        try simp only [Act.put, List.setIfInBounds_toArray, List.set_cons_zero, List.set_cons_succ]
        generalize (v1.alloc (.cells #[.slice none 0 0, .slice none 0 0, .slice none 0 0] 25)) = v67 at bO kn hS ⊢
        generalize v1.heap.size = gO at bO go ⊢
        replace kk := kk.trans kn
        replace fR := fR.keep kn
        clear kn
        refine wpAnyH_ready (rs := [3, 7]) (by kernel_rfl) (by simp) ?_
        refine AllReadyH.cons rfl (fun K hK => ?_) ?_
        · go_simp
          refine (clip_f A1 M.r.l.length c1 v67 fR.cap (len_max fR.capMax)).mono ?_
          rintro e v68 ⟨rfl, rfl⟩
          go_wp2_with fail
          refine hK.out _ _ hS (fun hS => ?_)
          clear hK K
          try simp only [Act.put, List.setIfInBounds_toArray, List.set_cons_zero, List.set_cons_succ]
          replace fR := fR.clip
          refine wpAnyH_ready (rs := [7, 10]) (by kernel_rfl) (by simp) ?_
          refine AllReadyH.cons rfl (fun K hK => ?_) ?_
          · go_simp
            have bB := Blk.of_make v67 22 (.slice none 0 0) M.bs.length
            have kn := Keep.alloc1 v67 (.cells (madeCells #[.slice none 0 0] M.bs.length) 22)
            have gb := kk.size
            refine hK.out _ _ ⟨kn.cell hS.1, kn.cell hS.2.1, kn.cell hS.2.2⟩ (fun hS => ?_)
            clear hK K
            try simp only [Act.put, List.setIfInBounds_toArray, List.set_cons_zero, List.set_cons_succ]
            generalize (v67.alloc (.cells (madeCells #[.slice none 0 0] M.bs.length) 22)) = v69 at bB kn hS ⊢
            generalize v67.heap.size = gB at bB gb ⊢
            replace kk := kk.trans kn
            replace fR := fR.keep kn
            replace bO := bO.keep kn
            clear kn
            refine wpAnyH_ready (rs := [10]) (by kernel_rfl) (by simp) ?_
            refine AllReadyH.cons rfl (fun K hK => ?_) AllReadyH.nil
            go_simp
            refine (cloneI_f M.o.a M.o.c M.o.l v69 (hM1.keep kk).o.rd (by have := Lo.out; omega) (hM.o.nil)).mono ?_
            rintro e v70 ⟨A2, c2, rfl, hfO, kn⟩
            have sp := sep_new fR hfO
            go_wp2_with fail
            refine hK.out _ _ ⟨kn.cell hS.1, kn.cell hS.2.1, kn.cell hS.2.2⟩ (fun hS => ?_)
            clear hK K
            try simp only [Act.put, List.setIfInBounds_toArray, List.set_cons_zero, List.set_cons_succ]
            have fO := hfO.mono kk.size
            clear hfO
            replace kk := kk.trans kn
            replace fR := fR.keep kn
            replace bB := bB.keep kn
            replace bO := bO.keep kn
            clear kn
            refine wpAnyH_ready (rs := [11]) (by kernel_rfl) (by simp) ?_
            refine AllReadyH.cons rfl (fun K hK => ?_) AllReadyH.nil
            go_simp
            refine (clip_f A2 M.o.l.length c2 v70 fO.cap (len_max fO.capMax)).mono ?_
            rintro e v71 ⟨rfl, rfl⟩
            go_wp2_with fail
            refine hK.out _ _ hS (fun hS => ?_)
            clear hK K
            try simp only [Act.put, List.setIfInBounds_toArray, List.set_cons_zero, List.set_cons_succ]
            replace sp := fun k (h1 : ownB A1 M.r.l.length = some k) h2 => sp k h1 (own_clip fO h2)
            replace fO := fO.clip
            refine wpAnyH_take (i := 12) (v := ?_) rfl (by kernel_rfl) (by kernel_rfl) (by kernel_rfl) (fun _ _ _ h => h) (Or.inl ⟨by rfl, ?_⟩) hS ?_
            rotate_left
            · (intro w hSw; (try dsimp only at hSw); go_simp; (first | done | with_reducible rfl))
            change wpAnyH _ _ _ _ _ _ _ (Act.put _ (some 36) _) _
            simp only [Act.put, List.setIfInBounds_toArray, List.set_cons_zero, List.set_cons_succ]
            refine wpAnyH_ready (rs := [14]) (by kernel_rfl) (by simp) ?_
            refine AllReadyH.cons rfl (fun K hK => ?_) AllReadyH.nil
            rw [if_pos (by rfl)]
            refine wp_store_row 25 _ _ rfl gO #[.slice A1 M.r.l.length M.r.l.length, .slice (some ⟨gB, 0, none⟩) M.bs.length M.bs.length, .slice A2 M.o.l.length M.o.l.length] rfl rfl _ _ bO (by kernel_rfl) rfl (by simp [Value.oneCell']) ?_
            refine hK.out _ _ ⟨(cell_setRow_other _ _ _ _ (show bm ≠ gO by omega)).trans hS.1, (cell_setRow_other _ _ _ _ (show bm ≠ gO by omega)).trans hS.2.1, (cell_setRow_other _ _ _ _ (show bm ≠ gO by omega)).trans hS.2.2⟩ (fun hS => ?_)
            clear hK K
            try simp only [Act.put, List.setIfInBounds_toArray]
            have hl := row_leaf go bO bB fR fO kk #[.slice A1 M.r.l.length M.r.l.length, .slice (some ⟨gB, 0, none⟩) M.bs.length M.bs.length, .slice A2 M.o.l.length M.o.l.length]
            refine wpAnyH_done (by kernel_rfl) ?_ _
            refine NoPanic.normal ?_
            go_wp2_with fail
            go_meet
            exact ⟨gO, gB, A1, A2, rfl, gb, sp, hl⟩
          refine AllReadyH.cons rfl (fun K hK => ?_) ?_
          · go_simp
            refine (cloneI_f M.o.a M.o.c M.o.l v67 (hM1.keep kk).o.rd (by have := Lo.out; omega) (hM.o.nil)).mono ?_
            rintro e v73 ⟨A2, c2, rfl, hfO, kn⟩
            have sp := sep_new fR hfO
            go_wp2_with fail
            refine hK.out _ _ ⟨kn.cell hS.1, kn.cell hS.2.1, kn.cell hS.2.2⟩ (fun hS => ?_)
            clear hK K
            try simp only [Act.put, List.setIfInBounds_toArray, List.set_cons_zero, List.set_cons_succ]
            have fO := hfO.mono kk.size
            clear hfO
            replace kk := kk.trans kn
            replace fR := fR.keep kn
            replace bO := bO.keep kn
            clear kn
            refine wpAnyH_ready (rs := [7, 11]) (by kernel_rfl) (by simp) ?_
            refine AllReadyH.cons rfl (fun K hK => ?_) ?_
            · go_simp
              have bB := Blk.of_make v73 22 (.slice none 0 0) M.bs.length
              have kn := Keep.alloc1 v73 (.cells (madeCells #[.slice none 0 0] M.bs.length) 22)
              have gb := kk.size
              refine hK.out _ _ ⟨kn.cell hS.1, kn.cell hS.2.1, kn.cell hS.2.2⟩ (fun hS => ?_)
              clear hK K
              try simp only [Act.put, List.setIfInBounds_toArray, List.set_cons_zero, List.set_cons_succ]
              generalize (v73.alloc (.cells (madeCells #[.slice none 0 0] M.bs.length) 22)) = v74 at bB kn hS ⊢
              generalize v73.heap.size = gB at bB gb ⊢
              replace kk := kk.trans kn
              replace fR := fR.keep kn
              replace fO := fO.keep kn
              replace bO := bO.keep kn
              clear kn
              refine wpAnyH_ready (rs := [11]) (by kernel_rfl) (by simp) ?_
              refine AllReadyH.cons rfl (fun K hK => ?_) AllReadyH.nil
              go_simp
              refine (clip_f A2 M.o.l.length c2 v74 fO.cap (len_max fO.capMax)).mono ?_
              rintro e v75 ⟨rfl, rfl⟩
              go_wp2_with fail
              refine hK.out _ _ hS (fun hS => ?_)
              clear hK K
              try simp only [Act.put, List.setIfInBounds_toArray, List.set_cons_zero, List.set_cons_succ]
              replace sp := fun k (h1 : ownB A1 M.r.l.length = some k) h2 => sp k h1 (own_clip fO h2)
              replace fO := fO.clip
              refine wpAnyH_take (i := 12) (v := ?_) rfl (by kernel_rfl) (by kernel_rfl) (by kernel_rfl) (fun _ _ _ h => h) (Or.inl ⟨by rfl, ?_⟩) hS ?_
              rotate_left
              · (intro w hSw; (try dsimp only at hSw); go_simp; (first | done | with_reducible rfl))
              change wpAnyH _ _ _ _ _ _ _ (Act.put _ (some 36) _) _
              simp only [Act.put, List.setIfInBounds_toArray, List.set_cons_zero, List.set_cons_succ]
              refine wpAnyH_ready (rs := [14]) (by kernel_rfl) (by simp) ?_
              refine AllReadyH.cons rfl (fun K hK => ?_) AllReadyH.nil
              rw [if_pos (by rfl)]
              refine wp_store_row 25 _ _ rfl gO #[.slice A1 M.r.l.length M.r.l.length, .slice (some ⟨gB, 0, none⟩) M.bs.length M.bs.length, .slice A2 M.o.l.length M.o.l.length] rfl rfl _ _ bO (by kernel_rfl) rfl (by simp [Value.oneCell']) ?_
              refine hK.out _ _ ⟨(cell_setRow_other _ _ _ _ (show bm ≠ gO by omega)).trans hS.1, (cell_setRow_other _ _ _ _ (show bm ≠ gO by omega)).trans hS.2.1, (cell_setRow_other _ _ _ _ (show bm ≠ gO by omega)).trans hS.2.2⟩ (fun hS => ?_)
              clear hK K
              try simp only [Act.put, List.setIfInBounds_toArray]
              have hl := row_leaf go bO bB fR fO kk #[.slice A1 M.r.l.length M.r.l.length, .slice (some ⟨gB, 0, none⟩) M.bs.length M.bs.length, .slice A2 M.o.l.length M.o.l.length]
              refine wpAnyH_done (by kernel_rfl) ?_ _
              refine NoPanic.normal ?_
              go_wp2_with fail
              go_meet
              exact ⟨gO, gB, A1, A2, rfl, gb, sp, hl⟩
            refine AllReadyH.cons rfl (fun K hK => ?_) ?_
            · go_simp
              refine (clip_f A2 M.o.l.length c2 v73 fO.cap (len_max fO.capMax)).mono ?_
              rintro e v77 ⟨rfl, rfl⟩
              go_wp2_with fail
              refine hK.out _ _ hS (fun hS => ?_)
              clear hK K
              try simp only [Act.put, List.setIfInBounds_toArray, List.set_cons_zero, List.set_cons_succ]
              replace sp := fun k (h1 : ownB A1 M.r.l.length = some k) h2 => sp k h1 (own_clip fO h2)
              replace fO := fO.clip
              refine wpAnyH_ready (rs := [7]) (by kernel_rfl) (by simp) ?_
              refine AllReadyH.cons rfl (fun K hK => ?_) AllReadyH.nil
              go_simp
              have bB := Blk.of_make v73 22 (.slice none 0 0) M.bs.length
              have kn := Keep.alloc1 v73 (.cells (madeCells #[.slice none 0 0] M.bs.length) 22)
              have gb := kk.size
              refine hK.out _ _ ⟨kn.cell hS.1, kn.cell hS.2.1, kn.cell hS.2.2⟩ (fun hS => ?_)
              clear hK K
              try simp only [Act.put, List.setIfInBounds_toArray, List.set_cons_zero, List.set_cons_succ]
              generalize (v73.alloc (.cells (madeCells #[.slice none 0 0] M.bs.length) 22)) = v78 at bB kn hS ⊢
              generalize v73.heap.size = gB at bB gb ⊢
              replace kk := kk.trans kn
              replace fR := fR.keep kn
              replace fO := fO.keep kn
              replace bO := bO.keep kn
              clear kn
              refine wpAnyH_take (i := 12) (v := ?_) rfl (by kernel_rfl) (by kernel_rfl) (by kernel_rfl) (fun _ _ _ h => h) (Or.inl ⟨by rfl, ?_⟩) hS ?_
              rotate_left
              · (intro w hSw; (try dsimp only at hSw); go_simp; (first | done | with_reducible rfl))
              change wpAnyH _ _ _ _ _ _ _ (Act.put _ (some 36) _) _
              simp only [Act.put, List.setIfInBounds_toArray, List.set_cons_zero, List.set_cons_succ]
              refine wpAnyH_ready (rs := [14]) (by kernel_rfl) (by simp) ?_
              refine AllReadyH.cons rfl (fun K hK => ?_) AllReadyH.nil
              rw [if_pos (by rfl)]
              refine wp_store_row 25 _ _ rfl gO #[.slice A1 M.r.l.length M.r.l.length, .slice (some ⟨gB, 0, none⟩) M.bs.length M.bs.length, .slice A2 M.o.l.length M.o.l.length] rfl rfl _ _ bO (by kernel_rfl) rfl (by simp [Value.oneCell']) ?_
              refine hK.out _ _ ⟨(cell_setRow_other _ _ _ _ (show bm ≠ gO by omega)).trans hS.1, (cell_setRow_other _ _ _ _ (show bm ≠ gO by omega)).trans hS.2.1, (cell_setRow_other _ _ _ _ (show bm ≠ gO by omega)).trans hS.2.2⟩ (fun hS => ?_)
              clear hK K
              try simp only [Act.put, List.setIfInBounds_toArray]
              have hl := row_leaf go bO bB fR fO kk #[.slice A1 M.r.l.length M.r.l.length, .slice (some ⟨gB, 0, none⟩) M.bs.length M.bs.length, .slice A2 M.o.l.length M.o.l.length]
              refine wpAnyH_done (by kernel_rfl) ?_ _
              refine NoPanic.normal ?_
              go_wp2_with fail
              go_meet
              exact ⟨gO, gB, A1, A2, rfl, gb, sp, hl⟩
            exact AllReadyH.nil
          exact AllReadyH.nil
        refine AllReadyH.cons rfl (fun K hK => ?_) ?_
        · go_simp
          have bB := Blk.of_make v67 22 (.slice none 0 0) M.bs.length
          have kn := Keep.alloc1 v67 (.cells (madeCells #[.slice none 0 0] M.bs.length) 22)
          have gb := kk.size
          refine hK.out _ _ ⟨kn.cell hS.1, kn.cell hS.2.1, kn.cell hS.2.2⟩ (fun hS => ?_)
          clear hK K
          try simp only [Act.put, List.setIfInBounds_toArray, List.set_cons_zero, List.set_cons_succ]
          generalize (v67.alloc (.cells (madeCells #[.slice none 0 0] M.bs.length) 22)) = v80 at bB kn hS ⊢
          generalize v67.heap.size = gB at bB gb ⊢
          replace kk := kk.trans kn
          replace fR := fR.keep kn
          replace bO := bO.keep kn
          clear kn
          refine wpAnyH_ready (rs := [3]) (by kernel_rfl) (by simp) ?_
          refine AllReadyH.cons rfl (fun K hK => ?_) AllReadyH.nil
          go_simp
          refine (clip_f A1 M.r.l.length c1 v80 fR.cap (len_max fR.capMax)).mono ?_
          rintro e v81 ⟨rfl, rfl⟩
          go_wp2_with fail
          refine hK.out _ _ hS (fun hS => ?_)
          clear hK K
          try simp only [Act.put, List.setIfInBounds_toArray, List.set_cons_zero, List.set_cons_succ]
          replace fR := fR.clip
          refine wpAnyH_ready (rs := [10]) (by kernel_rfl) (by simp) ?_
          refine AllReadyH.cons rfl (fun K hK => ?_) AllReadyH.nil
          go_simp
          refine (cloneI_f M.o.a M.o.c M.o.l v80 (hM1.keep kk).o.rd (by have := Lo.out; omega) (hM.o.nil)).mono ?_
          rintro e v82 ⟨A2, c2, rfl, hfO, kn⟩
          have sp := sep_new fR hfO
          go_wp2_with fail
          refine hK.out _ _ ⟨kn.cell hS.1, kn.cell hS.2.1, kn.cell hS.2.2⟩ (fun hS => ?_)
          clear hK K
          try simp only [Act.put, List.setIfInBounds_toArray, List.set_cons_zero, List.set_cons_succ]
          have fO := hfO.mono kk.size
          clear hfO
          replace kk := kk.trans kn
          replace fR := fR.keep kn
          replace bB := bB.keep kn
          replace bO := bO.keep kn
          clear kn
          refine wpAnyH_ready (rs := [11]) (by kernel_rfl) (by simp) ?_
          refine AllReadyH.cons rfl (fun K hK => ?_) AllReadyH.nil
          go_simp
          refine (clip_f A2 M.o.l.length c2 v82 fO.cap (len_max fO.capMax)).mono ?_
          rintro e v83 ⟨rfl, rfl⟩
          go_wp2_with fail
          refine hK.out _ _ hS (fun hS => ?_)
          clear hK K
          try simp only [Act.put, List.setIfInBounds_toArray, List.set_cons_zero, List.set_cons_succ]
          replace sp := fun k (h1 : ownB A1 M.r.l.length = some k) h2 => sp k h1 (own_clip fO h2)
          replace fO := fO.clip
          refine wpAnyH_take (i := 12) (v := ?_) rfl (by kernel_rfl) (by kernel_rfl) (by kernel_rfl) (fun _ _ _ h => h) (Or.inl ⟨by rfl, ?_⟩) hS ?_
          rotate_left
          · (intro w hSw; (try dsimp only at hSw); go_simp; (first | done | with_reducible rfl))
          change wpAnyH _ _ _ _ _ _ _ (Act.put _ (some 36) _) _
          simp only [Act.put, List.setIfInBounds_toArray, List.set_cons_zero, List.set_cons_succ]
          refine wpAnyH_ready (rs := [14]) (by kernel_rfl) (by simp) ?_
          refine AllReadyH.cons rfl (fun K hK => ?_) AllReadyH.nil
          rw [if_pos (by rfl)]
          refine wp_store_row 25 _ _ rfl gO #[.slice A1 M.r.l.length M.r.l.length, .slice (some ⟨gB, 0, none⟩) M.bs.length M.bs.length, .slice A2 M.o.l.length M.o.l.length] rfl rfl _ _ bO (by kernel_rfl) rfl (by simp [Value.oneCell']) ?_
          refine hK.out _ _ ⟨(cell_setRow_other _ _ _ _ (show bm ≠ gO by omega)).trans hS.1, (cell_setRow_other _ _ _ _ (show bm ≠ gO by omega)).trans hS.2.1, (cell_setRow_other _ _ _ _ (show bm ≠ gO by omega)).trans hS.2.2⟩ (fun hS => ?_)
          clear hK K
          try simp only [Act.put, List.setIfInBounds_toArray]
          have hl := row_leaf go bO bB fR fO kk #[.slice A1 M.r.l.length M.r.l.length, .slice (some ⟨gB, 0, none⟩) M.bs.length M.bs.length, .slice A2 M.o.l.length M.o.l.length]
          refine wpAnyH_done (by kernel_rfl) ?_ _
          refine NoPanic.normal ?_
          go_wp2_with fail
          go_meet
          exact ⟨gO, gB, A1, A2, rfl, gb, sp, hl⟩
        exact AllReadyH.nil
      exact AllReadyH.nil
    refine AllReadyH.cons rfl (fun K hK => ?_) ?_
    · go_simp
      have bB := Blk.of_make v0 22 (.slice none 0 0) M.bs.length
      have kn := Keep.alloc1 v0 (.cells (madeCells #[.slice none 0 0] M.bs.length) 22)
      have gb := kk.size
      refine hK.out _ _ ⟨kn.cell hS.1, kn.cell hS.2.1, kn.cell hS.2.2⟩ (fun hS => ?_)
      clear hK K
      try simp only [Act.put, List.setIfInBounds_toArray, List.set_cons_zero, List.set_cons_succ]
      generalize (v0.alloc (.cells (madeCells #[.slice none 0 0] M.bs.length) 22)) = v85 at bB kn hS ⊢
      generalize v0.heap.size = gB at bB gb ⊢
      replace kk := kk.trans kn
      clear kn
      refine wpAnyH_ready (rs := [2, 13]) (by kernel_rfl) (by simp) ?_
      refine AllReadyH.cons rfl (fun K hK => ?_) ?_
      · go_simp
        refine (cloneI_f M.r.a M.r.c M.r.l v85 (hM1.keep kk).r.rd (by have := Lr.out; omega) (hM.r.nil)).mono ?_
        rintro e v86 ⟨A1, c1, rfl, hfR, kn⟩
        go_wp2_with fail
        refine hK.out _ _ ⟨kn.cell hS.1, kn.cell hS.2.1, kn.cell hS.2.2⟩ (fun hS => ?_)
        clear hK K
        try simp only [Act.put, List.setIfInBounds_toArray, List.set_cons_zero, List.set_cons_succ]
        have fR := hfR.mono kk.size
        clear hfR
        replace kk := kk.trans kn
        replace bB := bB.keep kn
        clear kn
        refine wpAnyH_ready (rs := [3, 13]) (by kernel_rfl) (by simp) ?_
        refine AllReadyH.cons rfl (fun K hK => ?_) ?_
        · go_simp
          refine (clip_f A1 M.r.l.length c1 v86 fR.cap (len_max fR.capMax)).mono ?_
          rintro e v87 ⟨rfl, rfl⟩
          go_wp2_with fail
          refine hK.out _ _ hS (fun hS => ?_)
          clear hK K
          try simp only [Act.put, List.setIfInBounds_toArray, List.set_cons_zero, List.set_cons_succ]
          replace fR := fR.clip
          refine wpAnyH_ready (rs := [10, 13]) (by kernel_rfl) (by simp) ?_
          refine AllReadyH.cons rfl (fun K hK => ?_) ?_
          · go_simp
            refine (cloneI_f M.o.a M.o.c M.o.l v86 (hM1.keep kk).o.rd (by have := Lo.out; omega) (hM.o.nil)).mono ?_
            rintro e v88 ⟨A2, c2, rfl, hfO, kn⟩
            have sp := sep_new fR hfO
            go_wp2_with fail
            refine hK.out _ _ ⟨kn.cell hS.1, kn.cell hS.2.1, kn.cell hS.2.2⟩ (fun hS => ?_)
            clear hK K
            try simp only [Act.put, List.setIfInBounds_toArray, List.set_cons_zero, List.set_cons_succ]
            have fO := hfO.mono kk.size
            clear hfO
            replace kk := kk.trans kn
            replace fR := fR.keep kn
            replace bB := bB.keep kn
            clear kn
            refine wpAnyH_ready (rs := [11, 13]) (by kernel_rfl) (by simp) ?_
            refine AllReadyH.cons rfl (fun K hK => ?_) ?_
            · go_simp
              refine (clip_f A2 M.o.l.length c2 v88 fO.cap (len_max fO.capMax)).mono ?_
              rintro e v89 ⟨rfl, rfl⟩
              go_wp2_with fail
              refine hK.out _ _ hS (fun hS => ?_)
              clear hK K
              try simp only [Act.put, List.setIfInBounds_toArray, List.set_cons_zero, List.set_cons_succ]
              replace sp := fun k (h1 : ownB A1 M.r.l.length = some k) h2 => sp k h1 (own_clip fO h2)
              replace fO := fO.clip
              refine wpAnyH_take (i := 12) (v := ?_) rfl (by kernel_rfl) (by kernel_rfl) (by kernel_rfl) (fun _ _ _ h => h) (Or.inl ⟨by rfl, ?_⟩) hS ?_
              rotate_left
              · (intro w hSw; (try dsimp only at hSw); go_simp; (first | done | with_reducible rfl))
              change wpAnyH _ _ _ _ _ _ _ (Act.put _ (some 36) _) _
              simp only [Act.put, List.setIfInBounds_toArray, List.set_cons_zero, List.set_cons_succ]
              refine wpAnyH_ready (rs := [13]) (by kernel_rfl) (by simp) ?_
              refine AllReadyH.cons rfl (fun K hK => ?_) AllReadyH.nil
              go_simp
              have bO := Blk.new v88 25 [.slice none 0 0, .slice none 0 0, .slice none 0 0]
              have kn := Keep.alloc1 v88 (.cells #[.slice none 0 0, .slice none 0 0, .slice none 0 0] 25)
              have go := kk.size
              refine hK.out _ _ ⟨kn.cell hS.1, kn.cell hS.2.1, kn.cell hS.2.2⟩ (fun hS => ?_)
              clear hK K
              try simp only [Act.put, List.setIfInBounds_toArray, List.set_cons_zero, List.set_cons_succ]
              generalize (v88.alloc (.cells #[.slice none 0 0, .slice none 0 0, .slice none 0 0] 25)) = v90 at bO kn hS ⊢
              generalize v88.heap.size = gO at bO go ⊢
              replace kk := kk.trans kn
              replace fR := fR.keep kn
              replace fO := fO.keep kn
              replace bB := bB.keep kn
              clear kn
              refine wpAnyH_ready (rs := [14]) (by kernel_rfl) (by simp) ?_
              refine AllReadyH.cons rfl (fun K hK => ?_) AllReadyH.nil
              rw [if_pos (by rfl)]
              refine wp_store_row 25 _ _ rfl gO #[.slice A1 M.r.l.length M.r.l.length, .slice (some ⟨gB, 0, none⟩) M.bs.length M.bs.length, .slice A2 M.o.l.length M.o.l.length] rfl rfl _ _ bO (by kernel_rfl) rfl (by simp [Value.oneCell']) ?_
              refine hK.out _ _ ⟨(cell_setRow_other _ _ _ _ (show bm ≠ gO by omega)).trans hS.1, (cell_setRow_other _ _ _ _ (show bm ≠ gO by omega)).trans hS.2.1, (cell_setRow_other _ _ _ _ (show bm ≠ gO by omega)).trans hS.2.2⟩ (fun hS => ?_)
              clear hK K
              try simp only [Act.put, List.setIfInBounds_toArray]
              have hl := row_leaf go bO bB fR fO kk #[.slice A1 M.r.l.length M.r.l.length, .slice (some ⟨gB, 0, none⟩) M.bs.length M.bs.length, .slice A2 M.o.l.length M.o.l.length]
              refine wpAnyH_done (by kernel_rfl) ?_ _
              refine NoPanic.normal ?_
              go_wp2_with fail
              go_meet
              exact ⟨gO, gB, A1, A2, rfl, gb, sp, hl⟩
            refine AllReadyH.cons rfl (fun K hK => ?_) ?_
            · go_simp
              have bO := Blk.new v88 25 [.slice none 0 0, .slice none 0 0, .slice none 0 0]
              have kn := Keep.alloc1 v88 (.cells #[.slice none 0 0, .slice none 0 0, .slice none 0 0] 25)
              have go := kk.size
              refine hK.out _ _ ⟨kn.cell hS.1, kn.cell hS.2.1, kn.cell hS.2.2⟩ (fun hS => ?_)
              clear hK K
              try simp only [Act.put, List.setIfInBounds_toArray, List.set_cons_zero, List.set_cons_succ]
              generalize (v88.alloc (.cells #[.slice none 0 0, .slice none 0 0, .slice none 0 0] 25)) = v92 at bO kn hS ⊢
              generalize v88.heap.size = gO at bO go ⊢
              replace kk := kk.trans kn
              replace fR := fR.keep kn
              replace fO := fO.keep kn
              replace bB := bB.keep kn
              clear kn
              refine wpAnyH_ready (rs := [11]) (by kernel_rfl) (by simp) ?_
              refine AllReadyH.cons rfl (fun K hK => ?_) AllReadyH.nil
              go_simp
              refine (clip_f A2 M.o.l.length c2 v92 fO.cap (len_max fO.capMax)).mono ?_
              rintro e v93 ⟨rfl, rfl⟩
              go_wp2_with fail
              refine hK.out _ _ hS (fun hS => ?_)
              clear hK K
              try simp only [Act.put, List.setIfInBounds_toArray, List.set_cons_zero, List.set_cons_succ]
              replace sp := fun k (h1 : ownB A1 M.r.l.length = some k) h2 => sp k h1 (own_clip fO h2)
              replace fO := fO.clip
              refine wpAnyH_take (i := 12) (v := ?_) rfl (by kernel_rfl) (by kernel_rfl) (by kernel_rfl) (fun _ _ _ h => h) (Or.inl ⟨by rfl, ?_⟩) hS ?_
              rotate_left
              · (intro w hSw; (try dsimp only at hSw); go_simp; (first | done | with_reducible rfl))
              change wpAnyH _ _ _ _ _ _ _ (Act.put _ (some 36) _) _
              simp only [Act.put, List.setIfInBounds_toArray, List.set_cons_zero, List.set_cons_succ]
              refine wpAnyH_ready (rs := [14]) (by kernel_rfl) (by simp) ?_
              refine AllReadyH.cons rfl (fun K hK => ?_) AllReadyH.nil
              rw [if_pos (by rfl)]
              refine wp_store_row 25 _ _ rfl gO #[.slice A1 M.r.l.length M.r.l.length, .slice (some ⟨gB, 0, none⟩) M.bs.length M.bs.length, .slice A2 M.o.l.length M.o.l.length] rfl rfl _ _ bO (by kernel_rfl) rfl (by simp [Value.oneCell']) ?_
              refine hK.out _ _ ⟨(cell_setRow_other _ _ _ _ (show bm ≠ gO by omega)).trans hS.1, (cell_setRow_other _ _ _ _ (show bm ≠ gO by omega)).trans hS.2.1, (cell_setRow_other _ _ _ _ (show bm ≠ gO by omega)).trans hS.2.2⟩ (fun hS => ?_)
              clear hK K
              try simp only [Act.put, List.setIfInBounds_toArray]
              have hl := row_leaf go bO bB fR fO kk #[.slice A1 M.r.l.length M.r.l.length, .slice (some ⟨gB, 0, none⟩) M.bs.length M.bs.length, .slice A2 M.o.l.length M.o.l.length]
              refine wpAnyH_done (by kernel_rfl) ?_ _
              refine NoPanic.normal ?_
              go_wp2_with fail
              go_meet
              exact ⟨gO, gB, A1, A2, rfl, gb, sp, hl⟩
            exact AllReadyH.nil
          refine AllReadyH.cons rfl (fun K hK => ?_) ?_
          · go_simp
            have bO := Blk.new v86 25 [.slice none 0 0, .slice none 0 0, .slice none 0 0]
            have kn := Keep.alloc1 v86 (.cells #[.slice none 0 0, .slice none 0 0, .slice none 0 0] 25)
            have go := kk.size
            refine hK.out _ _ ⟨kn.cell hS.1, kn.cell hS.2.1, kn.cell hS.2.2⟩ (fun hS => ?_)
            clear hK K
            try simp only [Act.put, List.setIfInBounds_toArray, List.set_cons_zero, List.set_cons_succ]
            generalize (v86.alloc (.cells #[.slice none 0 0, .slice none 0 0, .slice none 0 0] 25)) = v95 at bO kn hS ⊢
            generalize v86.heap.size = gO at bO go ⊢
            replace kk := kk.trans kn
            replace fR := fR.keep kn
            replace bB := bB.keep kn
            clear kn
            refine wpAnyH_ready (rs := [10]) (by kernel_rfl) (by simp) ?_
            refine AllReadyH.cons rfl (fun K hK => ?_) AllReadyH.nil
            go_simp
            refine (cloneI_f M.o.a M.o.c M.o.l v95 (hM1.keep kk).o.rd (by have := Lo.out; omega) (hM.o.nil)).mono ?_
            rintro e v96 ⟨A2, c2, rfl, hfO, kn⟩
            have sp := sep_new fR hfO
            go_wp2_with fail
            refine hK.out _ _ ⟨kn.cell hS.1, kn.cell hS.2.1, kn.cell hS.2.2⟩ (fun hS => ?_)
            clear hK K
            try simp only [Act.put, List.setIfInBounds_toArray, List.set_cons_zero, List.set_cons_succ]
            have fO := hfO.mono kk.size
            clear hfO
            replace kk := kk.trans kn
            replace fR := fR.keep kn
            replace bB := bB.keep kn
            replace bO := bO.keep kn
            clear kn
            refine wpAnyH_ready (rs := [11]) (by kernel_rfl) (by simp) ?_
            refine AllReadyH.cons rfl (fun K hK => ?_) AllReadyH.nil
            go_simp
            refine (clip_f A2 M.o.l.length c2 v96 fO.cap (len_max fO.capMax)).mono ?_
            rintro e v97 ⟨rfl, rfl⟩
            go_wp2_with fail
            refine hK.out _ _ hS (fun hS => ?_)
            clear hK K
            try simp only [Act.put, List.setIfInBounds_toArray, List.set_cons_zero, List.set_cons_succ]
            replace sp := fun k (h1 : ownB A1 M.r.l.length = some k) h2 => sp k h1 (own_clip fO h2)
            replace fO := fO.clip
            refine wpAnyH_take (i := 12) (v := ?_) rfl (by kernel_rfl) (by kernel_rfl) (by kernel_rfl) (fun _ _ _ h => h) (Or.inl ⟨by rfl, ?_⟩) hS ?_
            rotate_left
            · (intro w hSw; (try dsimp only at hSw); go_simp; (first | done | with_reducible rfl))
            change wpAnyH _ _ _ _ _ _ _ (Act.put _ (some 36) _) _
            simp only [Act.put, List.setIfInBounds_toArray, List.set_cons_zero, List.set_cons_succ]
            refine wpAnyH_ready (rs := [14]) (by kernel_rfl) (by simp) ?_
            refine AllReadyH.cons rfl (fun K hK => ?_) AllReadyH.nil
            rw [if_pos (by rfl)]
            refine wp_store_row 25 _ _ rfl gO #[.slice A1 M.r.l.length M.r.l.length, .slice (some ⟨gB, 0, none⟩) M.bs.length M.bs.length, .slice A2 M.o.l.length M.o.l.length] rfl rfl _ _ bO (by kernel_rfl) rfl (by simp [Value.oneCell']) ?_
            refine hK.out _ _ ⟨(cell_setRow_other _ _ _ _ (show bm ≠ gO by omega)).trans hS.1, (cell_setRow_other _ _ _ _ (show bm ≠ gO by omega)).trans hS.2.1, (cell_setRow_other _ _ _ _ (show bm ≠ gO by omega)).trans hS.2.2⟩ (fun hS => ?_)
            clear hK K
            try simp only [Act.put, List.setIfInBounds_toArray]
            have hl := row_leaf go bO bB fR fO kk #[.slice A1 M.r.l.length M.r.l.length, .slice (some ⟨gB, 0, none⟩) M.bs.length M.bs.length, .slice A2 M.o.l.length M.o.l.length]
            refine wpAnyH_done (by kernel_rfl) ?_ _
            refine NoPanic.normal ?_
            go_wp2_with fail
            go_meet
            exact ⟨gO, gB, A1, A2, rfl, gb, sp, hl⟩
          exact AllReadyH.nil
        refine AllReadyH.cons rfl (fun K hK => ?_) ?_
        · go_simp
          have bO := Blk.new v86 25 [.slice none 0 0, .slice none 0 0, .slice none 0 0]
          have kn := Keep.alloc1 v86 (.cells #[.slice none 0 0, .slice none 0 0, .slice none 0 0] 25)
          have go := kk.size
          refine hK.out _ _ ⟨kn.cell hS.1, kn.cell hS.2.1, kn.cell hS.2.2⟩ (fun hS => ?_)
          clear hK K
          try simp only [Act.put, List.setIfInBounds_toArray, List.set_cons_zero, List.set_cons_succ]
          generalize (v86.alloc (.cells #[.slice none 0 0, .slice none 0 0, .slice none 0 0] 25)) = v99 at bO kn hS ⊢
          generalize v86.heap.size = gO at bO go ⊢
          replace kk := kk.trans kn
          replace fR := fR.keep kn
          replace bB := bB.keep kn
          clear kn
          refine wpAnyH_ready (rs := [3]) (by kernel_rfl) (by simp) ?_
          refine AllReadyH.cons rfl (fun K hK => ?_) AllReadyH.nil
          go_simp
          refine (clip_f A1 M.r.l.length c1 v99 fR.cap (len_max fR.capMax)).mono ?_
          rintro e v100 ⟨rfl, rfl⟩
          go_wp2_with fail
          refine hK.out _ _ hS (fun hS => ?_)
          clear hK K
          try simp only [Act.put, List.setIfInBounds_toArray, List.set_cons_zero, List.set_cons_succ]
          replace fR := fR.clip
          refine wpAnyH_ready (rs := [10]) (by kernel_rfl) (by simp) ?_
          refine AllReadyH.cons rfl (fun K hK => ?_) AllReadyH.nil
          go_simp
          refine (cloneI_f M.o.a M.o.c M.o.l v99 (hM1.keep kk).o.rd (by have := Lo.out; omega) (hM.o.nil)).mono ?_
          rintro e v101 ⟨A2, c2, rfl, hfO, kn⟩
          have sp := sep_new fR hfO
          go_wp2_with fail
          refine hK.out _ _ ⟨kn.cell hS.1, kn.cell hS.2.1, kn.cell hS.2.2⟩ (fun hS => ?_)
          clear hK K
          try simp only [Act.put, List.setIfInBounds_toArray, List.set_cons_zero, List.set_cons_succ]
          have fO := hfO.mono kk.size
          clear hfO
          replace kk := kk.trans kn
          replace fR := fR.keep kn
          replace bB := bB.keep kn
          replace bO := bO.keep kn
          clear kn
          refine wpAnyH_ready (rs := [11]) (by kernel_rfl) (by simp) ?_
          refine AllReadyH.cons rfl (fun K hK => ?_) AllReadyH.nil
          go_simp
          refine (clip_f A2 M.o.l.length c2 v101 fO.cap (len_max fO.capMax)).mono ?_
          rintro e v102 ⟨rfl, rfl⟩
          go_wp2_with fail
          refine hK.out _ _ hS (fun hS => ?_)
          clear hK K
          try simp only [Act.put, List.setIfInBounds_toArray, List.set_cons_zero, List.set_cons_succ]
          replace sp := fun k (h1 : ownB A1 M.r.l.length = some k) h2 => sp k h1 (own_clip fO h2)
          replace fO := fO.clip
          refine wpAnyH_take (i := 12) (v := ?_) rfl (by kernel_rfl) (by kernel_rfl) (by kernel_rfl) (fun _ _ _ h => h) (Or.inl ⟨by rfl, ?_⟩) hS ?_
          rotate_left
          · (intro w hSw; (try dsimp only at hSw); go_simp; (first | done | with_reducible rfl))
          change wpAnyH _ _ _ _ _ _ _ (Act.put _ (some 36) _) _
          simp only [Act.put, List.setIfInBounds_toArray, List.set_cons_zero, List.set_cons_succ]
          refine wpAnyH_ready (rs := [14]) (by kernel_rfl) (by simp) ?_
          refine AllReadyH.cons rfl (fun K hK => ?_) AllReadyH.nil
          rw [if_pos (by rfl)]
          refine wp_store_row 25 _ _ rfl gO #[.slice A1 M.r.l.length M.r.l.length, .slice (some ⟨gB, 0, none⟩) M.bs.length M.bs.length, .slice A2 M.o.l.length M.o.l.length] rfl rfl _ _ bO (by kernel_rfl) rfl (by simp [Value.oneCell']) ?_
          refine hK.out _ _ ⟨(cell_setRow_other _ _ _ _ (show bm ≠ gO by omega)).trans hS.1, (cell_setRow_other _ _ _ _ (show bm ≠ gO by omega)).trans hS.2.1, (cell_setRow_other _ _ _ _ (show bm ≠ gO by omega)).trans hS.2.2⟩ (fun hS => ?_)
          clear hK K
          try simp only [Act.put, List.setIfInBounds_toArray]
          have hl := row_leaf go bO bB fR fO kk #[.slice A1 M.r.l.length M.r.l.length, .slice (some ⟨gB, 0, none⟩) M.bs.length M.bs.length, .slice A2 M.o.l.length M.o.l.length]
          refine wpAnyH_done (by kernel_rfl) ?_ _
          refine NoPanic.normal ?_
          go_wp2_with fail
          go_meet
          exact ⟨gO, gB, A1, A2, rfl, gb, sp, hl⟩
        exact AllReadyH.nil
      refine AllReadyH.cons rfl (fun K hK => ?_) ?_
      · go_simp
        have bO := Blk.new v85 25 [.slice none 0 0, .slice none 0 0, .slice none 0 0]
        have kn := Keep.alloc1 v85 (.cells #[.slice none 0 0, .slice none 0 0, .slice none 0 0] 25)
        have go := kk.size
        refine hK.out _ _ ⟨kn.cell hS.1, kn.cell hS.2.1, kn.cell hS.2.2⟩ (fun hS => ?_)
        clear hK K
        try simp only [Act.put, List.setIfInBounds_toArray, List.set_cons_zero, List.set_cons_succ]
        generalize (v85.alloc (.cells #[.slice none 0 0, .slice none 0 0, .slice none 0 0] 25)) = v104 at bO kn hS ⊢
        generalize v85.heap.size = gO at bO go ⊢
        replace kk := kk.trans kn
        replace bB := bB.keep kn
        clear kn
        refine wpAnyH_ready (rs := [2]) (by kernel_rfl) (by simp) ?_
        refine AllReadyH.cons rfl (fun K hK => ?_) AllReadyH.nil
        go_simp
        refine (cloneI_f M.r.a M.r.c M.r.l v104 (hM1.keep kk).r.rd (by have := Lr.out; omega) (hM.r.nil)).mono ?_
        rintro e v105 ⟨A1, c1, rfl, hfR, kn⟩
        go_wp2_with fail
        refine hK.out _ _ ⟨kn.cell hS.1, kn.cell hS.2.1, kn.cell hS.2.2⟩ (fun hS => ?_)
        clear hK K
        try simp only [Act.put, List.setIfInBounds_toArray, List.set_cons_zero, List.set_cons_succ]
        have fR := hfR.mono kk.size
        clear hfR
        replace kk := kk.trans kn
        replace bB := bB.keep kn
        replace bO := bO.keep kn
        clear kn
        refine wpAnyH_ready (rs := [3]) (by kernel_rfl) (by simp) ?_
        refine AllReadyH.cons rfl (fun K hK => ?_) AllReadyH.nil
        go_simp
        refine (clip_f A1 M.r.l.length c1 v105 fR.cap (len_max fR.capMax)).mono ?_
        rintro e v106 ⟨rfl, rfl⟩
        go_wp2_with fail
        refine hK.out _ _ hS (fun hS => ?_)
        clear hK K
        try simp only [Act.put, List.setIfInBounds_toArray, List.set_cons_zero, List.set_cons_succ]
        replace fR := fR.clip
        refine wpAnyH_ready (rs := [10]) (by kernel_rfl) (by simp) ?_
        refine AllReadyH.cons rfl (fun K hK => ?_) AllReadyH.nil
        go_simp
        refine (cloneI_f M.o.a M.o.c M.o.l v105 (hM1.keep kk).o.rd (by have := Lo.out; omega) (hM.o.nil)).mono ?_
        rintro e v107 ⟨A2, c2, rfl, hfO, kn⟩
        have sp := sep_new fR hfO
        go_wp2_with fail
        refine hK.out _ _ ⟨kn.cell hS.1, kn.cell hS.2.1, kn.cell hS.2.2⟩ (fun hS => ?_)
        clear hK K
        try simp only [Act.put, List.setIfInBounds_toArray, List.set_cons_zero, List.set_cons_succ]
        have fO := hfO.mono kk.size
        clear hfO
        replace kk := kk.trans kn
        replace fR := fR.keep kn
        replace bB := bB.keep kn
        replace bO := bO.keep kn
        clear kn
        refine wpAnyH_ready (rs := [11]) (by kernel_rfl) (by simp) ?_
        refine AllReadyH.cons rfl (fun K hK => ?_) AllReadyH.nil
        go_simp
        refine (clip_f A2 M.o.l.length c2 v107 fO.cap (len_max fO.capMax)).mono ?_
        rintro e v108 ⟨rfl, rfl⟩
        go_wp2_with fail
        refine hK.out _ _ hS (fun hS => ?_)
        clear hK K
        try simp only [Act.put, List.setIfInBounds_toArray, List.set_cons_zero, List.set_cons_succ]
        replace sp := fun k (h1 : ownB A1 M.r.l.length = some k) h2 => sp k h1 (own_clip fO h2)
        replace fO := fO.clip
        refine wpAnyH_take (i := 12) (v := ?_) rfl (by kernel_rfl) (by kernel_rfl) (by kernel_rfl) (fun _ _ _ h => h) (Or.inl ⟨by rfl, ?_⟩) hS ?_
        rotate_left
        · (intro w hSw; (try dsimp only at hSw); go_simp; (first | done | with_reducible rfl))
        change wpAnyH _ _ _ _ _ _ _ (Act.put _ (some 36) _) _
        simp only [Act.put, List.setIfInBounds_toArray, List.set_cons_zero, List.set_cons_succ]
        refine wpAnyH_ready (rs := [14]) (by kernel_rfl) (by simp) ?_
        refine AllReadyH.cons rfl (fun K hK => ?_) AllReadyH.nil
        rw [if_pos (by rfl)]
        refine wp_store_row 25 _ _ rfl gO #[.slice A1 M.r.l.length M.r.l.length, .slice (some ⟨gB, 0, none⟩) M.bs.length M.bs.length, .slice A2 M.o.l.length M.o.l.length] rfl rfl _ _ bO (by kernel_rfl) rfl (by simp [Value.oneCell']) ?_
        refine hK.out _ _ ⟨(cell_setRow_other _ _ _ _ (show bm ≠ gO by omega)).trans hS.1, (cell_setRow_other _ _ _ _ (show bm ≠ gO by omega)).trans hS.2.1, (cell_setRow_other _ _ _ _ (show bm ≠ gO by omega)).trans hS.2.2⟩ (fun hS => ?_)
        clear hK K
        try simp only [Act.put, List.setIfInBounds_toArray]
        have hl := row_leaf go bO bB fR fO kk #[.slice A1 M.r.l.length M.r.l.length, .slice (some ⟨gB, 0, none⟩) M.bs.length M.bs.length, .slice A2 M.o.l.length M.o.l.length]
        refine wpAnyH_done (by kernel_rfl) ?_ _
        refine NoPanic.normal ?_
        go_wp2_with fail
        go_meet
        exact ⟨gO, gB, A1, A2, rfl, gb, sp, hl⟩
      exact AllReadyH.nil
    refine AllReadyH.cons rfl (fun K hK => ?_) ?_
    · go_simp
      have bO := Blk.new v0 25 [.slice none 0 0, .slice none 0 0, .slice none 0 0]
      have kn := Keep.alloc1 v0 (.cells #[.slice none 0 0, .slice none 0 0, .slice none 0 0] 25)
      have go := kk.size
      refine hK.out _ _ ⟨kn.cell hS.1, kn.cell hS.2.1, kn.cell hS.2.2⟩ (fun hS => ?_)
      clear hK K
      try simp only [Act.put, List.setIfInBounds_toArray, List.set_cons_zero, List.set_cons_succ]
      generalize (v0.alloc (.cells #[.slice none 0 0, .slice none 0 0, .slice none 0 0] 25)) = v110 at bO kn hS ⊢
      generalize v0.heap.size = gO at bO go ⊢
      replace kk := kk.trans kn
      clear kn
      refine wpAnyH_ready (rs := [2, 7]) (by kernel_rfl) (by simp) ?_
      refine AllReadyH.cons rfl (fun K hK => ?_) ?_
      · go_simp
        refine (cloneI_f M.r.a M.r.c M.r.l v110 (hM1.keep kk).r.rd (by have := Lr.out; omega) (hM.r.nil)).mono ?_
        rintro e v111 ⟨A1, c1, rfl, hfR, kn⟩
        go_wp2_with fail
        refine hK.out _ _ ⟨kn.cell hS.1, kn.cell hS.2.1, kn.cell hS.2.2⟩ (fun hS => ?_)
        clear hK K
        try simp only [Act.put, List.setIfInBounds_toArray, List.set_cons_zero, List.set_cons_succ]
        have fR := hfR.mono kk.size
        clear hfR
        replace kk := kk.trans kn
        replace bO := bO.keep kn
        clear kn
        refine wpAnyH_ready (rs := [3, 7]) (by kernel_rfl) (by simp) ?_
        refine AllReadyH.cons rfl (fun K hK => ?_) ?_
        · go_simp
          refine (clip_f A1 M.r.l.length c1 v111 fR.cap (len_max fR.capMax)).mono ?_
          rintro e v112 ⟨rfl, rfl⟩
          go_wp2_with fail
          refine hK.out _ _ hS (fun hS => ?_)
          clear hK K
          try simp only [Act.put, List.setIfInBounds_toArray, List.set_cons_zero, List.set_cons_succ]
          replace fR := fR.clip
          refine wpAnyH_ready (rs := [7, 10]) (by kernel_rfl) (by simp) ?_
          refine AllReadyH.cons rfl (fun K hK => ?_) ?_
          · go_simp
            have bB := Blk.of_make v111 22 (.slice none 0 0) M.bs.length
            have kn := Keep.alloc1 v111 (.cells (madeCells #[.slice none 0 0] M.bs.length) 22)
            have gb := kk.size
            refine hK.out _ _ ⟨kn.cell hS.1, kn.cell hS.2.1, kn.cell hS.2.2⟩ (fun hS => ?_)
            clear hK K
            try simp only [Act.put, List.setIfInBounds_toArray, List.set_cons_zero, List.set_cons_succ]
            generalize (v111.alloc (.cells (madeCells #[.slice none 0 0] M.bs.length) 22)) = v113 at bB kn hS ⊢
            generalize v111.heap.size = gB at bB gb ⊢
            replace kk := kk.trans kn
            replace fR := fR.keep kn
            replace bO := bO.keep kn
            clear kn
            refine wpAnyH_ready (rs := [10]) (by kernel_rfl) (by simp) ?_
            refine AllReadyH.cons rfl (fun K hK => ?_) AllReadyH.nil
            go_simp
            refine (cloneI_f M.o.a M.o.c M.o.l v113 (hM1.keep kk).o.rd (by have := Lo.out; omega) (hM.o.nil)).mono ?_
            rintro e v114 ⟨A2, c2, rfl, hfO, kn⟩
            have sp := sep_new fR hfO
            go_wp2_with fail
            refine hK.out _ _ ⟨kn.cell hS.1, kn.cell hS.2.1, kn.cell hS.2.2⟩ (fun hS => ?_)
            clear hK K
            try simp only [Act.put, List.setIfInBounds_toArray, List.set_cons_zero, List.set_cons_succ]
            have fO := hfO.mono kk.size
            clear hfO
            replace kk := kk.trans kn
            replace fR := fR.keep kn
            replace bB := bB.keep kn
            replace bO := bO.keep kn
            clear kn
            refine wpAnyH_ready (rs := [11]) (by kernel_rfl) (by simp) ?_
            refine AllReadyH.cons rfl (fun K hK => ?_) AllReadyH.nil
            go_simp
            refine (clip_f A2 M.o.l.length c2 v114 fO.cap (len_max fO.capMax)).mono ?_
            rintro e v115 ⟨rfl, rfl⟩
            go_wp2_with fail
            refine hK.out _ _ hS (fun hS => ?_)
            clear hK K
            try simp only [Act.put, List.setIfInBounds_toArray, List.set_cons_zero, List.set_cons_succ]
            replace sp := fun k (h1 : ownB A1 M.r.l.length = some k) h2 => sp k h1 (own_clip fO h2)
            replace fO := fO.clip
            refine wpAnyH_take (i := 12) (v := ?_) rfl (by kernel_rfl) (by kernel_rfl) (by kernel_rfl) (fun _ _ _ h => h) (Or.inl ⟨by rfl, ?_⟩) hS ?_
            rotate_left
            · (intro w hSw; (try dsimp only at hSw); go_simp; (first | done | with_reducible rfl))
            change wpAnyH _ _ _ _ _ _ _ (Act.put _ (some 36) _) _
            simp only [Act.put, List.setIfInBounds_toArray, List.set_cons_zero, List.set_cons_succ]
            refine wpAnyH_ready (rs := [14]) (by kernel_rfl) (by simp) ?_
            refine AllReadyH.cons rfl (fun K hK => ?_) AllReadyH.nil
            rw [if_pos (by rfl)]
            refine wp_store_row 25 _ _ rfl gO #[.slice A1 M.r.l.length M.r.l.length, .slice (some ⟨gB, 0, none⟩) M.bs.length M.bs.length, .slice A2 M.o.l.length M.o.l.length] rfl rfl _ _ bO (by kernel_rfl) rfl (by simp [Value.oneCell']) ?_
            refine hK.out _ _ ⟨(cell_setRow_other _ _ _ _ (show bm ≠ gO by omega)).trans hS.1, (cell_setRow_other _ _ _ _ (show bm ≠ gO by omega)).trans hS.2.1, (cell_setRow_other _ _ _ _ (show bm ≠ gO by omega)).trans hS.2.2⟩ (fun hS => ?_)
            clear hK K
            try simp only [Act.put, List.setIfInBounds_toArray]
            have hl := row_leaf go bO bB fR fO kk #[.slice A1 M.r.l.length M.r.l.length, .slice (some ⟨gB, 0, none⟩) M.bs.length M.bs.length, .slice A2 M.o.l.length M.o.l.length]
            refine wpAnyH_done (by kernel_rfl) ?_ _
            refine NoPanic.normal ?_
            go_wp2_with fail
            go_meet
            exact ⟨gO, gB, A1, A2, rfl, gb, sp, hl⟩
          refine AllReadyH.cons rfl (fun K hK => ?_) ?_
          · go_simp
            refine (cloneI_f M.o.a M.o.c M.o.l v111 (hM1.keep kk).o.rd (by have := Lo.out; omega) (hM.o.nil)).mono ?_
            rintro e v117 ⟨A2, c2, rfl, hfO, kn⟩
            have sp := sep_new fR hfO
            go_wp2_with fail
            refine hK.out _ _ ⟨kn.cell hS.1, kn.cell hS.2.1, kn.cell hS.2.2⟩ (fun hS => ?_)
            clear hK K
            try simp only [Act.put, List.setIfInBounds_toArray, List.set_cons_zero, List.set_cons_succ]
            have fO := hfO.mono kk.size
            clear hfO
            replace kk := kk.trans kn
            replace fR := fR.keep kn
            replace bO := bO.keep kn
            clear kn
            refine wpAnyH_ready (rs := [7, 11]) (by kernel_rfl) (by simp) ?_
            refine AllReadyH.cons rfl (fun K hK => ?_) ?_
            · go_simp
              have bB := Blk.of_make v117 22 (.slice none 0 0) M.bs.length
              have kn := Keep.alloc1 v117 (.cells (madeCells #[.slice none 0 0] M.bs.length) 22)
              have gb := kk.size
              refine hK.out _ _ ⟨kn.cell hS.1, kn.cell hS.2.1, kn.cell hS.2.2⟩ (fun hS => ?_)
              clear hK K
              try simp only [Act.put, List.setIfInBounds_toArray, List.set_cons_zero, List.set_cons_succ]
              generalize (v117.alloc (.cells (madeCells #[.slice none 0 0] M.bs.length) 22)) = v118 at bB kn hS ⊢
              generalize v117.heap.size = gB at bB gb ⊢
              replace kk := kk.trans kn
              replace fR := fR.keep kn
              replace fO := fO.keep kn
              replace bO := bO.keep kn
              clear kn
              refine wpAnyH_ready (rs := [11]) (by kernel_rfl) (by simp) ?_
              refine AllReadyH.cons rfl (fun K hK => ?_) AllReadyH.nil
              go_simp
              refine (clip_f A2 M.o.l.length c2 v118 fO.cap (len_max fO.capMax)).mono ?_
              rintro e v119 ⟨rfl, rfl⟩
              go_wp2_with fail
              refine hK.out _ _ hS (fun hS => ?_)
              clear hK K
              try simp only [Act.put, List.setIfInBounds_toArray, List.set_cons_zero, List.set_cons_succ]
              replace sp := fun k (h1 : ownB A1 M.r.l.length = some k) h2 => sp k h1 (own_clip fO h2)
              replace fO := fO.clip
              refine wpAnyH_take (i := 12) (v := ?_) rfl (by kernel_rfl) (by kernel_rfl) (by kernel_rfl) (fun _ _ _ h => h) (Or.inl ⟨by rfl, ?_⟩) hS ?_
              rotate_left
              · (intro w hSw; (try dsimp only at hSw); go_simp; (first | done | with_reducible rfl))
              change wpAnyH _ _ _ _ _ _ _ (Act.put _ (some 36) _) _
              simp only [Act.put, List.setIfInBounds_toArray, List.set_cons_zero, List.set_cons_succ]
              refine wpAnyH_ready (rs := [14]) (by kernel_rfl) (by simp) ?_
              refine AllReadyH.cons rfl (fun K hK => ?_) AllReadyH.nil
              rw [if_pos (by rfl)]
              refine wp_store_row 25 _ _ rfl gO #[.slice A1 M.r.l.length M.r.l.length, .slice (some ⟨gB, 0, none⟩) M.bs.length M.bs.length, .slice A2 M.o.l.length M.o.l.length] rfl rfl _ _ bO (by kernel_rfl) rfl (by simp [Value.oneCell']) ?_
              refine hK.out _ _ ⟨(cell_setRow_other _ _ _ _ (show bm ≠ gO by omega)).trans hS.1, (cell_setRow_other _ _ _ _ (show bm ≠ gO by omega)).trans hS.2.1, (cell_setRow_other _ _ _ _ (show bm ≠ gO by omega)).trans hS.2.2⟩ (fun hS => ?_)
              clear hK K
              try simp only [Act.put, List.setIfInBounds_toArray]
              have hl := row_leaf go bO bB fR fO kk #[.slice A1 M.r.l.length M.r.l.length, .slice (some ⟨gB, 0, none⟩) M.bs.length M.bs.length, .slice A2 M.o.l.length M.o.l.length]
              refine wpAnyH_done (by kernel_rfl) ?_ _
              refine NoPanic.normal ?_
              go_wp2_with fail
              go_meet
              exact ⟨gO, gB, A1, A2, rfl, gb, sp, hl⟩
            refine AllReadyH.cons rfl (fun K hK => ?_) ?_
            · go_simp
              refine (clip_f A2 M.o.l.length c2 v117 fO.cap (len_max fO.capMax)).mono ?_
              rintro e v121 ⟨rfl, rfl⟩
              go_wp2_with fail
              refine hK.out _ _ hS (fun hS => ?_)
              clear hK K
              try simp only [Act.put, List.setIfInBounds_toArray, List.set_cons_zero, List.set_cons_succ]
              replace sp := fun k (h1 : ownB A1 M.r.l.length = some k) h2 => sp k h1 (own_clip fO h2)
              replace fO := fO.clip
              refine wpAnyH_ready (rs := [7]) (by kernel_rfl) (by simp) ?_
              refine AllReadyH.cons rfl (fun K hK => ?_) AllReadyH.nil
              go_simp
              have bB := Blk.of_make v117 22 (.slice none 0 0) M.bs.length
              have kn := Keep.alloc1 v117 (.cells (madeCells #[.slice none 0 0] M.bs.length) 22)
              have gb := kk.size
              refine hK.out _ _ ⟨kn.cell hS.1, kn.cell hS.2.1, kn.cell hS.2.2⟩ (fun hS => ?_)
              clear hK K
              try simp only [Act.put, List.setIfInBounds_toArray, List.set_cons_zero, List.set_cons_succ]
              generalize (v117.alloc (.cells (madeCells #[.slice none 0 0] M.bs.length) 22)) = v122 at bB kn hS ⊢
              generalize v117.heap.size = gB at bB gb ⊢
              replace kk := kk.trans kn
              replace fR := fR.keep kn
              replace fO := fO.keep kn
              replace bO := bO.keep kn
              clear kn
              refine wpAnyH_take (i := 12) (v := ?_) rfl (by kernel_rfl) (by kernel_rfl) (by kernel_rfl) (fun _ _ _ h => h) (Or.inl ⟨by rfl, ?_⟩) hS ?_
              rotate_left
              · (intro w hSw; (try dsimp only at hSw); go_simp; (first | done | with_reducible rfl))
              change wpAnyH _ _ _ _ _ _ _ (Act.put _ (some 36) _) _
              simp only [Act.put, List.setIfInBounds_toArray, List.set_cons_zero, List.set_cons_succ]
              refine wpAnyH_ready (rs := [14]) (by kernel_rfl) (by simp) ?_
              refine AllReadyH.cons rfl (fun K hK => ?_) AllReadyH.nil
              rw [if_pos (by rfl)]
              refine wp_store_row 25 _ _ rfl gO #[.slice A1 M.r.l.length M.r.l.length, .slice (some ⟨gB, 0, none⟩) M.bs.length M.bs.length, .slice A2 M.o.l.length M.o.l.length] rfl rfl _ _ bO (by kernel_rfl) rfl (by simp [Value.oneCell']) ?_
              refine hK.out _ _ ⟨(cell_setRow_other _ _ _ _ (show bm ≠ gO by omega)).trans hS.1, (cell_setRow_other _ _ _ _ (show bm ≠ gO by omega)).trans hS.2.1, (cell_setRow_other _ _ _ _ (show bm ≠ gO by omega)).trans hS.2.2⟩ (fun hS => ?_)
              clear hK K
              try simp only [Act.put, List.setIfInBounds_toArray]
              have hl := row_leaf go bO bB fR fO kk #[.slice A1 M.r.l.length M.r.l.length, .slice (some ⟨gB, 0, none⟩) M.bs.length M.bs.length, .slice A2 M.o.l.length M.o.l.length]
              refine wpAnyH_done (by kernel_rfl) ?_ _
              refine NoPanic.normal ?_
              go_wp2_with fail
              go_meet
              exact ⟨gO, gB, A1, A2, rfl, gb, sp, hl⟩
            exact AllReadyH.nil
          exact AllReadyH.nil
        refine AllReadyH.cons rfl (fun K hK => ?_) ?_
        · go_simp
          have bB := Blk.of_make v111 22 (.slice none 0 0) M.bs.length
          have kn := Keep.alloc1 v111 (.cells (madeCells #[.slice none 0 0] M.bs.length) 22)
          have gb := kk.size
          refine hK.out _ _ ⟨kn.cell hS.1, kn.cell hS.2.1, kn.cell hS.2.2⟩ (fun hS => ?_)
          clear hK K
          try simp only [Act.put, List.setIfInBounds_toArray, List.set_cons_zero, List.set_cons_succ]
          generalize (v111.alloc (.cells (madeCells #[.slice none 0 0] M.bs.length) 22)) = v124 at bB kn hS ⊢
          generalize v111.heap.size = gB at bB gb ⊢
          replace kk := kk.trans kn
          replace fR := fR.keep kn
          replace bO := bO.keep kn
          clear kn
          refine wpAnyH_ready (rs := [3]) (by kernel_rfl) (by simp) ?_
          refine AllReadyH.cons rfl (fun K hK => ?_) AllReadyH.nil
          go_simp
          refine (clip_f A1 M.r.l.length c1 v124 fR.cap (len_max fR.capMax)).mono ?_
          rintro e v125 ⟨rfl, rfl⟩
          go_wp2_with fail
          refine hK.out _ _ hS (fun hS => ?_)
          clear hK K
          try simp only [Act.put, List.setIfInBounds_toArray, List.set_cons_zero, List.set_cons_succ]
          replace fR := fR.clip
          refine wpAnyH_ready (rs := [10]) (by kernel_rfl) (by simp) ?_
          refine AllReadyH.cons rfl (fun K hK => ?_) AllReadyH.nil
          go_simp
          refine (cloneI_f M.o.a M.o.c M.o.l v124 (hM1.keep kk).o.rd (by have := Lo.out; omega) (hM.o.nil)).mono ?_
          rintro e v126 ⟨A2, c2, rfl, hfO, kn⟩
          have sp := sep_new fR hfO
          go_wp2_with fail
          refine hK.out _ _ ⟨kn.cell hS.1, kn.cell hS.2.1, kn.cell hS.2.2⟩ (fun hS => ?_)
          clear hK K
          try simp only [Act.put, List.setIfInBounds_toArray, List.set_cons_zero, List.set_cons_succ]
          have fO := hfO.mono kk.size
          clear hfO
          replace kk := kk.trans kn
          replace fR := fR.keep kn
          replace bB := bB.keep kn
          replace bO := bO.keep kn
          clear kn
          refine wpAnyH_ready (rs := [11]) (by kernel_rfl) (by simp) ?_
          refine AllReadyH.cons rfl (fun K hK => ?_) AllReadyH.nil
          go_simp
          refine (clip_f A2 M.o.l.length c2 v126 fO.cap (len_max fO.capMax)).mono ?_
          rintro e v127 ⟨rfl, rfl⟩
          go_wp2_with fail
          refine hK.out _ _ hS (fun hS => ?_)
          clear hK K
          try simp only [Act.put, List.setIfInBounds_toArray, List.set_cons_zero, List.set_cons_succ]
          replace sp := fun k (h1 : ownB A1 M.r.l.length = some k) h2 => sp k h1 (own_clip fO h2)
          replace fO := fO.clip
          refine wpAnyH_take (i := 12) (v := ?_) rfl (by kernel_rfl) (by kernel_rfl) (by kernel_rfl) (fun _ _ _ h => h) (Or.inl ⟨by rfl, ?_⟩) hS ?_
          rotate_left
          · (intro w hSw; (try dsimp only at hSw); go_simp; (first | done | with_reducible rfl))
          change wpAnyH _ _ _ _ _ _ _ (Act.put _ (some 36) _) _
          simp only [Act.put, List.setIfInBounds_toArray, List.set_cons_zero, List.set_cons_succ]
          refine wpAnyH_ready (rs := [14]) (by kernel_rfl) (by simp) ?_
          refine AllReadyH.cons rfl (fun K hK => ?_) AllReadyH.nil
          rw [if_pos (by rfl)]
          refine wp_store_row 25 _ _ rfl gO #[.slice A1 M.r.l.length M.r.l.length, .slice (some ⟨gB, 0, none⟩) M.bs.length M.bs.length, .slice A2 M.o.l.length M.o.l.length] rfl rfl _ _ bO (by kernel_rfl) rfl (by simp [Value.oneCell']) ?_
          refine hK.out _ _ ⟨(cell_setRow_other _ _ _ _ (show bm ≠ gO by omega)).trans hS.1, (cell_setRow_other _ _ _ _ (show bm ≠ gO by omega)).trans hS.2.1, (cell_setRow_other _ _ _ _ (show bm ≠ gO by omega)).trans hS.2.2⟩ (fun hS => ?_)
          clear hK K
          try simp only [Act.put, List.setIfInBounds_toArray]
          have hl := row_leaf go bO bB fR fO kk #[.slice A1 M.r.l.length M.r.l.length, .slice (some ⟨gB, 0, none⟩) M.bs.length M.bs.length, .slice A2 M.o.l.length M.o.l.length]
          refine wpAnyH_done (by kernel_rfl) ?_ _
          refine NoPanic.normal ?_
          go_wp2_with fail
          go_meet
          exact ⟨gO, gB, A1, A2, rfl, gb, sp, hl⟩
        exact AllReadyH.nil
      refine AllReadyH.cons rfl (fun K hK => ?_) ?_
      · go_simp
        have bB := Blk.of_make v110 22 (.slice none 0 0) M.bs.length
        have kn := Keep.alloc1 v110 (.cells (madeCells #[.slice none 0 0] M.bs.length) 22)
        have gb := kk.size
        refine hK.out _ _ ⟨kn.cell hS.1, kn.cell hS.2.1, kn.cell hS.2.2⟩ (fun hS => ?_)
        clear hK K
        try simp only [Act.put, List.setIfInBounds_toArray, List.set_cons_zero, List.set_cons_succ]
        generalize (v110.alloc (.cells (madeCells #[.slice none 0 0] M.bs.length) 22)) = v129 at bB kn hS ⊢
        generalize v110.heap.size = gB at bB gb ⊢
        replace kk := kk.trans kn
        replace bO := bO.keep kn
        clear kn
        refine wpAnyH_ready (rs := [2]) (by kernel_rfl) (by simp) ?_
        refine AllReadyH.cons rfl (fun K hK => ?_) AllReadyH.nil
        go_simp
        refine (cloneI_f M.r.a M.r.c M.r.l v129 (hM1.keep kk).r.rd (by have := Lr.out; omega) (hM.r.nil)).mono ?_
        rintro e v130 ⟨A1, c1, rfl, hfR, kn⟩
        go_wp2_with fail
        refine hK.out _ _ ⟨kn.cell hS.1, kn.cell hS.2.1, kn.cell hS.2.2⟩ (fun hS => ?_)
        clear hK K
        try simp only [Act.put, List.setIfInBounds_toArray, List.set_cons_zero, List.set_cons_succ]
        have fR := hfR.mono kk.size
        clear hfR
        replace kk := kk.trans kn
        replace bB := bB.keep kn
        replace bO := bO.keep kn
        clear kn
        refine wpAnyH_ready (rs := [3]) (by kernel_rfl) (by simp) ?_
        refine AllReadyH.cons rfl (fun K hK => ?_) AllReadyH.nil
        go_simp
        refine (clip_f A1 M.r.l.length c1 v130 fR.cap (len_max fR.capMax)).mono ?_
        rintro e v131 ⟨rfl, rfl⟩
        go_wp2_with fail
        refine hK.out _ _ hS (fun hS => ?_)
        clear hK K
        try simp only [Act.put, List.setIfInBounds_toArray, List.set_cons_zero, List.set_cons_succ]
        replace fR := fR.clip
        refine wpAnyH_ready (rs := [10]) (by kernel_rfl) (by simp) ?_
        refine AllReadyH.cons rfl (fun K hK => ?_) AllReadyH.nil
        go_simp
        refine (cloneI_f M.o.a M.o.c M.o.l v130 (hM1.keep kk).o.rd (by have := Lo.out; omega) (hM.o.nil)).mono ?_
        rintro e v132 ⟨A2, c2, rfl, hfO, kn⟩
        have sp := sep_new fR hfO
        go_wp2_with fail
        refine hK.out _ _ ⟨kn.cell hS.1, kn.cell hS.2.1, kn.cell hS.2.2⟩ (fun hS => ?_)
        clear hK K
        try simp only [Act.put, List.setIfInBounds_toArray, List.set_cons_zero, List.set_cons_succ]
        have fO := hfO.mono kk.size
        clear hfO
        replace kk := kk.trans kn
        replace fR := fR.keep kn
        replace bB := bB.keep kn
        replace bO := bO.keep kn
        clear kn
        refine wpAnyH_ready (rs := [11]) (by kernel_rfl) (by simp) ?_
        refine AllReadyH.cons rfl (fun K hK => ?_) AllReadyH.nil
        go_simp
        refine (clip_f A2 M.o.l.length c2 v132 fO.cap (len_max fO.capMax)).mono ?_
        rintro e v133 ⟨rfl, rfl⟩
        go_wp2_with fail
        refine hK.out _ _ hS (fun hS => ?_)
        clear hK K
        try simp only [Act.put, List.setIfInBounds_toArray, List.set_cons_zero, List.set_cons_succ]
        replace sp := fun k (h1 : ownB A1 M.r.l.length = some k) h2 => sp k h1 (own_clip fO h2)
        replace fO := fO.clip
        refine wpAnyH_take (i := 12) (v := ?_) rfl (by kernel_rfl) (by kernel_rfl) (by kernel_rfl) (fun _ _ _ h => h) (Or.inl ⟨by rfl, ?_⟩) hS ?_
        rotate_left
        · (intro w hSw; (try dsimp only at hSw); go_simp; (first | done | with_reducible rfl))
        change wpAnyH _ _ _ _ _ _ _ (Act.put _ (some 36) _) _
        simp only [Act.put, List.setIfInBounds_toArray, List.set_cons_zero, List.set_cons_succ]
        refine wpAnyH_ready (rs := [14]) (by kernel_rfl) (by simp) ?_
        refine AllReadyH.cons rfl (fun K hK => ?_) AllReadyH.nil
        rw [if_pos (by rfl)]
        refine wp_store_row 25 _ _ rfl gO #[.slice A1 M.r.l.length M.r.l.length, .slice (some ⟨gB, 0, none⟩) M.bs.length M.bs.length, .slice A2 M.o.l.length M.o.l.length] rfl rfl _ _ bO (by kernel_rfl) rfl (by simp [Value.oneCell']) ?_
        refine hK.out _ _ ⟨(cell_setRow_other _ _ _ _ (show bm ≠ gO by omega)).trans hS.1, (cell_setRow_other _ _ _ _ (show bm ≠ gO by omega)).trans hS.2.1, (cell_setRow_other _ _ _ _ (show bm ≠ gO by omega)).trans hS.2.2⟩ (fun hS => ?_)
        clear hK K
        try simp only [Act.put, List.setIfInBounds_toArray]
        have hl := row_leaf go bO bB fR fO kk #[.slice A1 M.r.l.length M.r.l.length, .slice (some ⟨gB, 0, none⟩) M.bs.length M.bs.length, .slice A2 M.o.l.length M.o.l.length]
        refine wpAnyH_done (by kernel_rfl) ?_ _
        refine NoPanic.normal ?_
        go_wp2_with fail
        go_meet
        exact ⟨gO, gB, A1, A2, rfl, gb, sp, hl⟩
      exact AllReadyH.nil
    exact AllReadyH.nil
  case rest =>
    obtain ⟨gO, gB, A1, A2, rfl, gb, sp, bO, bB, fR, fO, kc⟩ := hcut
    have SP := Lib.hid sp
    clear sp
    clear hmk1
    have e1 := kc.cell d1
    have b0c : bm + 1 ≠ gB := by have := b0.lt; omega
    go_wp2_with fail
    go_loopw [40] (fun v wr => ∃ (i : Nat) (hs : Nat → Option Addr), i ≤ M.bs.length ∧ v = .int .i64 i ∧ Blk wr gB 22 (wrow (bidsOf M.bs) p hs i) ∧ (∀ j s, j < i → j ≠ p → M.bs[j]? = some s → Fr 3 wr wc.heap.size (hs j) s.l.length s.l.length (cs .i64 s.l)) ∧ RowsSep M.bs p hs i ∧ wc.grownBy wr (some gB)) (fun v _ => M.bs.length - (intOf v).toNat)
    case atStart => exact ⟨0, fun _ => none, Nat.zero_le _, rfl, by rw [wrow_zero, length_bids]; exact bB, fun j s hj => absurd hj (Nat.not_lt_zero _), fun j j' s s' _ hj => absurd hj (Nat.not_lt_zero _), only_refl _ _⟩
    case round =>
      obtain ⟨i, hs, hi, rfl, hb, hrows, hsep, hon⟩ := hrel
      have HS := Lib.hid hsep
      clear hsep
      have hk := kc.only hon gb
      have hMr := hM1.keep hk
      have HR := Lib.hid hrows
      clear hrows
      have bOr := bO.grown hon (fun e => by injection e with e; exact bB.ne bO (by decide) e.symm)
      by_cases hlt : i < M.bs.length
      · obtain ⟨b1', o1, s, hba, hsk, hc1, hs'⟩ := hMr.b.at_ hlt
        have HBA := Lib.hid hba
        have HSK := Lib.hid hsk
        have HSL := Lib.hid (show s.l.length ≤ 1000000 from lbs s (List.mem_of_getElem? hsk))
        have eo := bOr.cell_ (i := 1) rfl
        rw [hba]
        clear hsk hba
        by_cases hp : i = p
        · subst hp
          have z5 : ((i : Int) != i) = false := by simp
          go_wp2_with fail
          go_roundw
          case rel => exact ⟨i + 1, hs, by omega, by go_num, by rw [wrow_skip]; exact hb, fun j t h1 h2 h3 => HR.out j t (by omega) h2 h3, fun j j' s s' h1 h2 h3 h4 => HS.out j j' s s' h1 (by omega) h3 h4, hon⟩
          case measure => simp [intOf]; omega
        · have z5 : ((i : Int) != p) = true := by simp; omega
          have z6 : (0 : Int) ≤ i := by omega
          have z7 : (i : Int) < M.bs.length := by omega
          have HP := Lib.hid hp
          have hOB : gO ≠ gB := fun e => bB.ne bO (by decide) e.symm
          clear hp z1 z2 z3 z4
          go_upto_region 8 with fail
          have kq : Keep wr wr.drew := (Keep.refl _).drew
          refine wp_region_noPanic ?_
          refine wp_region_held_drew (S := (fun w' => w'.cell? ⟨gO, 1, none⟩ = some (.slice (some ⟨gB, 0, none⟩) M.bs.length M.bs.length))) (by kernel_rfl) eo (fun hS => ?_)
          generalize wr.drew = wq at hS kq ⊢
          have hs2 := hs'.keep kq
          refine wpAnyH_take (i := 0) (v := ?_) rfl (by kernel_rfl) (by kernel_rfl) (by kernel_rfl) (fun _ _ _ h => h) (Or.inl ⟨by rfl, ?_⟩) hS ?_
          rotate_left
          · (intro w hSw; (try dsimp only at hSw); go_simp; (first | done | with_reducible rfl))
          change wpAnyH _ _ _ _ _ _ _ (Act.put _ (some 48) _) _
          simp only [Act.put, List.setIfInBounds_toArray, List.set_cons_zero, List.set_cons_succ]
          refine wpAnyH_take (i := 1) (v := ?_) rfl (by kernel_rfl) (by kernel_rfl) (by kernel_rfl) (fun _ _ _ h => h) (Or.inl ⟨by rfl, ?_⟩) hS ?_
          rotate_left
          · (intro w hSw; (try dsimp only at hSw); go_simp; (first | done | with_reducible rfl))
          change wpAnyH _ _ _ _ _ _ _ (Act.put _ (some 49) _) _
          simp only [Act.put, List.setIfInBounds_toArray, List.set_cons_zero, List.set_cons_succ]
          refine wpAnyH_take (i := 2) (v := ?_) rfl (by kernel_rfl) (by kernel_rfl) (by kernel_rfl) (fun _ _ _ h => h) (Or.inl ⟨by rfl, ?_⟩) hS ?_
          rotate_left
          · (intro w hSw; (try dsimp only at hSw); go_simp; (first | done | with_reducible rfl))
          change wpAnyH _ _ _ _ _ _ _ (Act.put _ (some 50) _) _
          simp only [Act.put, List.setIfInBounds_toArray, List.set_cons_zero, List.set_cons_succ]
          refine wpAnyH_take (i := 3) (v := ?_) rfl (by kernel_rfl) (by kernel_rfl) (by kernel_rfl) (fun _ _ _ h => h) (Or.inl ⟨by rfl, ?_⟩) hS ?_
          rotate_left
          · (intro w hSw; (try dsimp only at hSw); go_simp; (first | done | with_reducible rfl))
          change wpAnyH _ _ _ _ _ _ _ (Act.put _ (some 51) _) _
          simp only [Act.put, List.setIfInBounds_toArray, List.set_cons_zero, List.set_cons_succ]
          refine wpAnyH_ready (rs := [4]) (by kernel_rfl) (by simp) ?_
          refine AllReadyH.cons rfl (fun K hK => ?_) AllReadyH.nil
          go_simp
          refine (cloneI_f s.a s.c s.l wq hs2.rd HSL.out hs2.nil).mono ?_
          rintro e w2 ⟨A', c', rfl, hf, kn⟩
          go_wp2_with fail
          refine hK.out _ _ (kn.cell hS) (fun hS => ?_)
          clear hK K
          try simp only [Act.put, List.setIfInBounds_toArray, List.set_cons_zero, List.set_cons_succ]
          refine wpAnyH_ready (rs := [5]) (by kernel_rfl) (by simp) ?_
          refine AllReadyH.cons rfl (fun K hK => ?_) AllReadyH.nil
          go_simp
          refine (clip_f A' s.l.length c' w2 hf.cap (len_max hf.capMax)).mono ?_
          rintro e _ ⟨rfl, rfl⟩
          go_wp2_with fail
          refine hK.out _ _ hS (fun hS => ?_)
          clear hK K
          try simp only [Act.put, List.setIfInBounds_toArray, List.set_cons_zero, List.set_cons_succ]
          refine wpAnyH_take (i := 6) (v := ?_) rfl (by kernel_rfl) (by kernel_rfl) (by kernel_rfl) (fun _ _ _ h => h) (Or.inl ⟨by rfl, ?_⟩) hS ?_
          rotate_left
          · (intro w hSw; (try dsimp only at hSw); go_simp; (first | done | with_reducible rfl))
          change wpAnyH _ _ _ _ _ _ _ (Act.put _ (some 54) _) _
          simp only [Act.put, List.setIfInBounds_toArray, List.set_cons_zero, List.set_cons_succ]
          refine wpAnyH_ready (rs := [7]) (by kernel_rfl) (by simp) ?_
          refine AllReadyH.cons rfl (fun K hK => ?_) AllReadyH.nil
          go_simp
          have bq := (hb.keep kq).keep kn
          have fq := bq.frozen i
          have cq := bq.cell_ (List.getElem?_eq_getElem (show i < (wrow (bidsOf M.bs) p hs i).length by rw [wrow_len, length_bids]; exact hlt))
          go_simp
          refine hK.out _ _ ((World.cell?_setCell_other w2 ⟨gB, i, none⟩ ⟨gO, 1, none⟩ _ (fun e => by injection e with e1; exact hOB e1.symm)).trans hS) (fun hS => ?_)
          clear hK K
          try simp only [Act.put, List.setIfInBounds_toArray, List.set_cons_zero, List.set_cons_succ]
          refine wpAnyH_done (by kernel_rfl) ?_ _
          refine NoPanic.normal ?_

          have s1 := bq.set_ i (.slice A' s.l.length s.l.length)
          have es := wrow_set (bidsOf M.bs) p hs A' HP.out
          rw [getD_bids HSK.out] at es
          rw [es] at s1
          have f2 := (hf.mono (Nat.le_trans hon.size kq.size)).clip.setCell (fun k hk' => hf.clip.own_ne bq (by decide) k hk') (p := ⟨gB, i, none⟩) (.slice A' s.l.length s.l.length)
          have o2 := only_setCell (only_trans hon (only_keep (kq.trans kn) _)) i (.slice A' s.l.length s.l.length)
          have HK := Lib.hid (kq.trans kn)
          have HE := Lib.hid es
          clear es cq eo
          go_wp2_with fail
          go_roundw
          case rel =>
            refine ⟨i + 1, fun j => if j = i then A' else hs j, by omega, by go_num, s1, fun j t h1 h2 h3 => ?_, fun j j' u u' h1 h2 h3 h4 h5 h6 k hk' hk2 => ?_, o2⟩
            rotate_left
            · by_cases e : j' = i
              · subst e
                rw [HSK.out] at h6
                cases h6
                simp only [if_true] at hk2
                simp only [if_neg (show ¬ j = j' by omega)] at hk'
                have g1 := ((HR.out j u h1 h3 h5).own_ge hk').2
                have g2 := (hf.own_ge (own_clip hf hk2)).1
                have g3 := kq.size
                omega
              · simp only [if_neg e] at hk2
                simp only [if_neg (show ¬ j = i by omega)] at hk'
                exact HS.out j j' u u' h1 (by omega) h3 h4 h5 h6 k hk' hk2
            by_cases e : j = i
            · subst e
              rw [HSK.out] at h3
              cases h3
              simp only [if_true]
              exact f2
            · simp only [if_neg e]
              have f3 := (HR.out j t (by omega) h2 h3).keep HK.out
              exact f3.setCell (fun k hk' => f3.own_ne bq (by decide) k hk') _
          case measure => simp [intOf]; omega
      · obtain rfl : i = M.bs.length := by omega
        have c0 := bOr.cell_ (i := 0) rfl
        have c1 := bOr.cell_ (i := 1) rfl
        have c2 := bOr.cell_ (i := 2) rfl
        have fb := (b0.keep kc).grown hon (fun e => by injection e with e; exact b0c e)
        go_wp2_with (refine wpList_store_row rfl 25 _ _ rfl (bm + 1) #[.slice A1 M.r.l.length M.r.l.length, .slice (some ⟨gB, 0, none⟩) M.bs.length M.bs.length, .slice A2 M.o.l.length M.o.l.length] rfl rfl _ _ fb (by kernel_rfl) rfl (by simp [Value.oneCell']) ?_)
        have fb2 := fb.row #[.slice A1 M.r.l.length M.r.l.length, .slice (some ⟨gB, 0, none⟩) M.bs.length M.bs.length, .slice A2 M.o.l.length M.o.l.length]
        refine bodyPost_ret (wo_results rfl fb2 rfl) rfl ?_
        have og := only_row wr (bm + 1) #[.slice A1 M.r.l.length M.r.l.length, .slice (some ⟨gB, 0, none⟩) M.bs.length M.bs.length, .slice A2 M.o.l.length M.o.l.length]
        have hbase := k0.size
        have f1 := fR.grown hon (fun k hk' e => by injection e with e; exact fR.own_ne bB (by decide) k hk' e)
        have f2 := fO.grown hon (fun k hk' e => by injection e with e; exact fO.own_ne bB (by decide) k hk' e)
        have f1' := (f1.grown og (fun k hk' e => by injection e with e; exact f1.own_ne fb (by decide) k hk' e)).mono hbase
        have f2' := (f2.grown og (fun k hk' e => by injection e with e; exact f2.own_ne fb (by decide) k hk' e)).mono hbase
        have hb' := hb.grown og (fun e => by injection e with e; exact hb.ne fb (by decide) e)
        have hall : ∀ s ∈ wbs (bidsOf M.bs) p hs, Fr 3 (wr.setRow (bm + 1) #[.slice A1 M.r.l.length M.r.l.length, .slice (some ⟨gB, 0, none⟩) M.bs.length M.bs.length, .slice A2 M.o.l.length M.o.l.length]) w.heap.size s.a s.l.length s.c (cs .i64 s.l) ∧ ∀ x ∈ s.l, (Lit.int .i64 x).wf = true := by
          intro s hs'
          unfold wbs at hs'
          rw [List.mem_map] at hs'
          obtain ⟨j, hj, rfl⟩ := hs'
          rw [List.mem_range, length_bids] at hj
          by_cases e : j = p
          · rw [if_neg (fun h => h e)]
            exact ⟨Fr.empty _ _ _ _, fun x h => by cases h⟩
          · rw [if_pos e]
            have hjs : M.bs[j]? = some M.bs[j] := List.getElem?_eq_getElem hj
            rw [getD_bids hjs]
            have f3 := HR.out j _ hj e hjs
            exact ⟨(f3.grown og (fun k hk' e => by injection e with e; exact f3.own_ne fb (by decide) k hk' e)).mono (Nat.le_trans hbase kc.size), (hM.b.ok _ (List.getElem_mem hj)).inn.wf⟩
        have hlen : (wbs (bidsOf M.bs) p hs).length = M.bs.length := by rw [wbs_len, length_bids]
        have hval : (wbs (bidsOf M.bs) p hs).map Sl.val = wrow (bidsOf M.bs) p hs M.bs.length := by rw [wbs_val, length_bids]
        refine ⟨⟨⟨A1, M.r.l.length, M.r.l⟩, some ⟨gB, 0, none⟩, M.bs.length, wbs (bidsOf M.bs) p hs, ⟨A2, M.o.l.length, M.o.l⟩⟩, ?_, ⟨⟨⟨f1'.rd, Nat.le_refl _, f1'.capMax, hM.r.inn.wf⟩, f1'.capNil⟩, ⟨?_, by rw [hlen]; exact Nat.le_refl _, by show M.bs.length ≤ maxLen; unfold maxLen; omega, fun s hs' => ?_⟩, (fun h => by cases h), ⟨⟨f2'.rd, Nat.le_refl _, f2'.capMax, hM.o.inn.wf⟩, f2'.capNil⟩⟩, rfl, wbs_bids _ _ _, rfl, ⟨f1', ⟨gB, rfl, by omega, ?_⟩, hlen.symm, fun s hs' => (hall s hs').1, f2'⟩, ?_, ?_⟩
        · simp only [Mkt.val, hlen]
          rfl
        · rw [hval]
          exact hb'.rd
        · obtain ⟨q1, q2⟩ := hall s hs'
          exact ⟨⟨q1.rd, q1.cap, q1.capMax, q2⟩, q1.capNil⟩
        · rw [hval]
          exact hb'
        · have far : ∀ s ∈ wbs (bidsOf M.bs) p hs, ∀ k, ownB s.a s.c = some k → wc.heap.size ≤ k := by
            intro s hs' k hk'
            unfold wbs at hs'
            rw [List.mem_map] at hs'
            obtain ⟨j, hj, rfl⟩ := hs'
            rw [List.mem_range, length_bids] at hj
            by_cases e : j = p
            · rw [if_neg (fun h => h e)] at hk'
              simp [ownB] at hk'
            · rw [if_pos e] at hk'
              have hjs : M.bs[j]? = some M.bs[j] := List.getElem?_eq_getElem hj
              simp only [getD_bids hjs] at hk'
              exact ((HR.out j _ hj e hjs).own_ge hk').1
          show (_ :: (_ ++ _)).Pairwise Sep
          refine List.Pairwise.cons (fun t ht => ?_) (List.pairwise_append.2 ⟨wbs_sep HS.out, List.pairwise_singleton _ _, fun s hs' t ht k h1 h2 => ?_⟩)
          · rcases List.mem_append.1 ht with ht | ht
            · intro k h1 h2
              have g1 := (fR.own_ge h1).2
              have g2 := far t ht k h2
              omega
            · rw [List.mem_singleton] at ht
              subst ht
              exact SP.out
          · rw [List.mem_singleton] at ht
            subst ht
            have g1 := (fO.own_ge h2).2
            have g2 := far s hs' k h1
            omega
        · exact (k0.trans hk).grown og (fun k e => by injection e with e; have := hbmd.out; omega)
end Go.Proofs.YtbfldlokocpjaaaGreatDoor
