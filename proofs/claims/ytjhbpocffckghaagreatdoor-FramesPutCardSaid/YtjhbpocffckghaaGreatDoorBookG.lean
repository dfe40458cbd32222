/-
  CONTRACTS of the laws' Book: a list of bytes, of ints, is kept. Conditions: those that each theorem states.
-/
import Derived.Test.YtjhbpocffckghaaGreatDoorBookF
namespace Go.Proofs.YtjhbpocffckghaaGreatDoor
open Go.RowKit

theorem infoHB : (Tryz.prog.info? 89).map (fun i => (i.zero, i.size, i.bytes)) = some (some (.agg #[.slice none 0 0, .slice none 0 0, .int .i64 0]), 3, 56) := by kernel_rfl
theorem infoHI : (Tryz.prog.info? 92).map (fun i => (i.zero, i.size, i.bytes)) = some (some (.agg #[.slice none 0 0, .slice none 0 0, .int .i64 0]), 3, 56) := by kernel_rfl
theorem ownsRow_val {w : World} {base size n : Nat} {e : TypeId} {v : Value} {xs : List Value} (h : w.ownsRow base e size v n xs) : ∃ A c, v = .slice A n c := by
  obtain ⟨_, ⟨rfl, rfl⟩ | ⟨g, cap, cur, rfl, _⟩⟩ := h
  · exact ⟨none, 0, rfl⟩
  · exact ⟨_, cap, rfl⟩

set_option maxRecDepth 100000 in
set_option maxHeartbeats 4000000 in
theorem keepByte_f (g n base : Nat) (hb hi : List Hd) (vb vi : Value) (A : Option Addr) (m c : Nat) (w : World) (hk : Bk w base g n hb hi vb vi) (hn : n ≤ 10000) (hl : hb.length ≤ 10000) :
    Calls Tryz.prog 40 #[pK g, .slice A m c] w fun e w' => e = .returned (.tuple #[]) ∧ ∃ v', Bk w' base g (n + 1) (hb ++ [⟨A, c, m, n + 1, none, 0, 0⟩]) hi v' vi ∧ But (fun q => q = g ∨ vb.ownBlock = some q) w w' := by
  obtain ⟨ti, hi2, hzz⟩ := Option.map_eq_some_iff.1 infoHB
  simp only [Prod.mk.injEq] at hzz
  obtain ⟨hz2, hsz2, hby2⟩ := hzz
  have hbs : base ≤ w.heap.size := Nat.le_trans hk.g (Nat.le_of_lt hk.b.lt)
  have b0 := hk.b.cell_ (i := 0) rfl
  have f0 := hk.b.frozen 0
  have hzero : (zeroValue 89).run Tryz.prog w = .ok (.agg #[.slice none 0 0, .slice none 0 0, .int .i64 0]) w := by kernel_rfl
  unfold pK
  go_enter Tryz.func40, Tryz.ntmps40
  go_upto_region 1 with fail
  have h0 : But (fun q => q = g ∨ vb.ownBlock = some q) w (w.setCell ⟨g, 0, none⟩ (.int .i64 ((n : Int) + 1))) := (But.refl _ _).setCell (.inl rfl) _
  have hS1 : But (fun q => q = g) w (w.setCell ⟨g, 0, none⟩ (.int .i64 ((n : Int) + 1))) := (But.refl (fun q => q = g) w).setCell (p := ⟨g, 0, none⟩) rfl _
  have bk : Blk (w.setCell ⟨g, 0, none⟩ (.int .i64 ((n : Int) + 1))) g 49 [.int .i64 ((n : Int) + 1), vb, vi, nilV, nilV, nilV, nilV, nilV, nilV, nilV] := hk.b.set_ 0 _
  have hrow := hk.rb.but hS1 (fun k e e2 => hk.b.offRow hk.rb (by decide) (e2 ▸ e))
  have hother := hk.ri.but hS1 (fun k e e2 => hk.b.offRow hk.ri (by decide) (e2 ▸ e))
  have hog := hk.b.offRow hk.ri (by decide)
  have hoo := hk.ri.offRow hk.rb (by decide)
  have hbs : base ≤ (w.setCell ⟨g, 0, none⟩ (.int .i64 ((n : Int) + 1))).heap.size := Nat.le_trans hbs h0.size
  generalize w.setCell ⟨g, 0, none⟩ (.int .i64 ((n : Int) + 1)) = W at h0 bk hrow hother hbs ⊢
  have e0 := bk.cell_ (i := 0) rfl
  clear b0 f0 hS1
  refine wp_region_noPanic ?_
  refine wp_region_held_drew (S := (fun w' => w'.cell? ⟨g, 0, none⟩ = some (.int .i64 ((n : Int) + 1)))) (by kernel_rfl) e0 (fun hS => ?_)
  have ky : Keep W W.drew := (Keep.refl _).drew
  replace bk := bk.keep ky
  replace hrow := hrow.keep ky
  generalize W.drew = v0 at ky hS bk hrow ⊢
  refine wpAnyH_take (i := 0) (v := ?_) rfl (by kernel_rfl) (by kernel_rfl) (by kernel_rfl) (fun _ _ _ h => h) (Or.inl ⟨by rfl, ?_⟩) hS ?_
  rotate_left
  · (intro w hSw; (try dsimp only at hSw); go_simp; (first | done | with_reducible rfl))
  change wpAnyH _ _ _ _ _ _ _ (Act.put _ (some 11) _) _
  simp only [Act.put, List.setIfInBounds_toArray, List.set_cons_zero, List.set_cons_succ]
  refine wpAnyH_take (i := 1) (v := ?_) rfl (by kernel_rfl) (by kernel_rfl) (by kernel_rfl) (fun _ _ _ h => h) (Or.inl ⟨by rfl, ?_⟩) hS ?_
  rotate_left
  · (intro w hSw; (try dsimp only at hSw); go_simp; (first | done | with_reducible rfl))
  change wpAnyH _ _ _ _ _ _ _ (Act.put _ (some 12) _) _
  simp only [Act.put, List.setIfInBounds_toArray, List.set_cons_zero, List.set_cons_succ]
  refine wpAnyH_take (i := 2) (v := ?_) rfl (by kernel_rfl) (by kernel_rfl) (by kernel_rfl) (fun _ _ _ h => h) (Or.inl ⟨by rfl, ?_⟩) hS ?_
  rotate_left
  · (intro w hSw; (try dsimp only at hSw); go_simp; (first | done | with_reducible rfl))
  change wpAnyH _ _ _ _ _ _ _ (Act.put _ (some 13) _) _
  simp only [Act.put, List.setIfInBounds_toArray, List.set_cons_zero, List.set_cons_succ]
  refine wpAnyH_take (i := 3) (v := ?_) rfl (by kernel_rfl) (by kernel_rfl) (by kernel_rfl) (fun _ _ _ h => h) (Or.inl ⟨by rfl, ?_⟩) hS ?_
  rotate_left
  · (intro w hSw; (try dsimp only at hSw); go_simp; (first | done | with_reducible rfl))
  change wpAnyH _ _ _ _ _ _ _ (Act.put _ (some 14) _) _
  simp only [Act.put, List.setIfInBounds_toArray, List.set_cons_zero, List.set_cons_succ]
  refine wpAnyH_take (i := 5) (v := ?_) rfl (by kernel_rfl) (by kernel_rfl) (by kernel_rfl) (fun _ _ _ h => h) (Or.inl ⟨by rfl, ?_⟩) hS ?_
  rotate_left
  · (intro w hSw; (try dsimp only at hSw); go_simp; (first | done | with_reducible rfl))
  change wpAnyH _ _ _ _ _ _ _ (Act.put _ (some 16) _) _
  simp only [Act.put, List.setIfInBounds_toArray, List.set_cons_zero, List.set_cons_succ]
  refine wpAnyH_take (i := 6) (v := ?_) rfl (by kernel_rfl) (by kernel_rfl) (by kernel_rfl) (fun _ _ _ h => h) (Or.inl ⟨by rfl, ?_⟩) hS ?_
  rotate_left
  · (intro w hSw; (try dsimp only at hSw); go_simp; (first | done | with_reducible rfl))
  change wpAnyH _ _ _ _ _ _ _ (Act.put _ (some 17) _) _
  simp only [Act.put, List.setIfInBounds_toArray, List.set_cons_zero, List.set_cons_succ]
  refine wpAnyH_take (i := 7) (v := ?_) rfl (by kernel_rfl) (by kernel_rfl) (by kernel_rfl) (fun _ _ _ h => h) (Or.inl ⟨by rfl, ?_⟩) hS ?_
  rotate_left
  · (intro w hSw; (try dsimp only at hSw); go_simp; (first | done | with_reducible rfl))
  change wpAnyH _ _ _ _ _ _ _ (Act.put _ (some 18) _) _
  simp only [Act.put, List.setIfInBounds_toArray, List.set_cons_zero, List.set_cons_succ]
  refine wpAnyH_take (i := 8) (v := ?_) rfl (by kernel_rfl) (by kernel_rfl) (by kernel_rfl) (fun _ _ _ h => h) (Or.inl ⟨by rfl, ?_⟩) hS ?_
  rotate_left
  · (intro w hSw; (try dsimp only at hSw); go_simp; (first | done | with_reducible rfl))
  change wpAnyH _ _ _ _ _ _ _ (Act.put _ (some 19) _) _
  simp only [Act.put, List.setIfInBounds_toArray, List.set_cons_zero, List.set_cons_succ]
  refine wpAnyH_take (i := 9) (v := ?_) rfl (by kernel_rfl) (by kernel_rfl) (by kernel_rfl) (fun _ _ _ h => h) (Or.inl ⟨by rfl, ?_⟩) hS ?_
  rotate_left
  · (intro w hSw; (try dsimp only at hSw); go_simp; (first | done | with_reducible rfl))
  change wpAnyH _ _ _ _ _ _ _ (Act.put _ (some 20) _) _
  simp only [Act.put, List.setIfInBounds_toArray, List.set_cons_zero, List.set_cons_succ]
  refine wpAnyH_take (i := 10) (v := ?_) rfl (by kernel_rfl) (by kernel_rfl) (by kernel_rfl) (fun _ _ _ h => h) (Or.inl ⟨by rfl, ?_⟩) hS ?_
  rotate_left
  · (intro w hSw; (try dsimp only at hSw); go_simp; (first | done | with_reducible rfl))
  change wpAnyH _ _ _ _ _ _ _ (Act.put _ (some 21) _) _
  simp only [Act.put, List.setIfInBounds_toArray, List.set_cons_zero, List.set_cons_succ]
  refine wpAnyH_ready (rs := [4, 11]) (by kernel_rfl) (by simp) ?_
  refine AllReadyH.cons rfl (fun K hK => ?_) ?_
  · have cq := bk.cell_ (i := 1) rfl
    go_simp
    refine hK.out _ _ hS (fun hS => ?_)
    clear hK K
    try simp only [Act.put, List.setIfInBounds_toArray, List.set_cons_zero, List.set_cons_succ]
    clear cq
    refine wpAnyH_ready (rs := [11]) (by kernel_rfl) (by simp) ?_
    refine AllReadyH.cons rfl (fun K hK => ?_) AllReadyH.nil
    go_simp
    have kn : Keep v0 (v0.alloc (.cells #[.slice A m c, .slice none 0 0, .int .i64 ((n : Int) + 1)] 89)) := Keep.alloc1 _ _
    have bN : Blk (v0.alloc (.cells #[.slice A m c, .slice none 0 0, .int .i64 ((n : Int) + 1)] 89)) v0.heap.size 89 [.slice A m c, .slice none 0 0, .int .i64 ((n : Int) + 1)] := Blk.new v0 _ _
    refine hK.out _ _ (kn.cell hS) (fun hS => ?_)
    clear hK K
    try simp only [Act.put, List.setIfInBounds_toArray, List.set_cons_zero, List.set_cons_succ]
    generalize (v0.alloc (.cells #[.slice A m c, .slice none 0 0, .int .i64 ((n : Int) + 1)] 89)) = v2 at bN kn hS ⊢
    generalize v0.heap.size = gN at bN ⊢
    replace bk := bk.keep kn
    replace hrow := hrow.keep kn
    replace ky := ky.trans kn
    clear kn
    refine wpAnyH_ready (rs := [12]) (by kernel_rfl) (by simp) ?_
    refine AllReadyH.cons rfl (fun K hK => ?_) AllReadyH.nil
    rw [if_pos (by rfl)]
    have hbs2 : base ≤ v2.heap.size := Nat.le_trans hbs ky.size
    have hoff := bk.offRow hrow (by decide)
    refine wp_append_own v2 (.tmp 15) (.tmp 22) 39 rfl base 89 ti _ 3 56 Tryz.underlying39 hi2 hz2 hsz2 hby2 rfl (by decide) vb hb.length _ rfl hrow ⟨gN, 0, none⟩ 1 1 [.slice A m c, .slice none 0 0, .int .i64 ((n : Int) + 1)] rfl rfl bN.rd.cells (by intro u hu; simp only [List.mem_cons, List.not_mem_nil, or_false] at hu; rcases hu with rfl | rfl | rfl <;> rfl) (by unfold maxLen; omega) (by omega) hbs2 ?_
    intro v' v3 hown hgrow _
    obtain ⟨A', c', rfl⟩ := ownsRow_val hown
    refine hK.out _ _ (hgrow.cell hS (fun e => hoff e.symm)) (fun hS => ?_)
    clear hK K
    change wpAnyH _ _ _ _ _ _ _ (Act.put _ (some 23) _) _
    try simp only [Act.put, List.setIfInBounds_toArray, List.set_cons_zero, List.set_cons_succ]
    have bk2 := bk.grown hgrow (fun e => hoff e.symm)
    have hW := (But.keep ky (fun q => q = g ∨ vb.ownBlock = some q)).grown hgrow (fun k e => .inr e)
    clear hrow bN hoff hbs2
    refine wpAnyH_take (i := 13) (v := ?_) rfl (by kernel_rfl) (by kernel_rfl) (by kernel_rfl) (fun _ _ _ h => h) (Or.inl ⟨by rfl, ?_⟩) hS ?_
    rotate_left
    · (intro w hSw; (try dsimp only at hSw); go_simp; (first | done | with_reducible rfl))
    change wpAnyH _ _ _ _ _ _ _ (Act.put _ (some 24) _) _
    simp only [Act.put, List.setIfInBounds_toArray, List.set_cons_zero, List.set_cons_succ]
    refine wpAnyH_take (i := 14) (v := ?_) rfl (by kernel_rfl) (by kernel_rfl) (by kernel_rfl) (fun _ _ _ h => h) (Or.inl ⟨by rfl, ?_⟩) hS ?_
    rotate_left
    · (intro w hSw; (try dsimp only at hSw); go_simp; (first | done | with_reducible rfl))
    change wpAnyH _ _ _ _ _ _ _ (Act.put _ (some 25) _) _
    simp only [Act.put, List.setIfInBounds_toArray, List.set_cons_zero, List.set_cons_succ]
    refine wpAnyH_ready (rs := [15]) (by kernel_rfl) (by simp) ?_
    refine AllReadyH.cons rfl (fun K hK => ?_) AllReadyH.nil
    have cq := bk2.cell_ (i := 1) rfl
    have fq := bk2.frozen 1
    go_simp
    refine hK.out _ _ ((World.cell?_setCell_other v3 ⟨g, 1, none⟩ ⟨g, 0, none⟩ _ (fun e => by injection e with _ e2; cases e2)).trans hS) (fun hS => ?_)
    clear hK K
    try simp only [Act.put, List.setIfInBounds_toArray]
    refine wpAnyH_done (by kernel_rfl) ?_ _
    refine NoPanic.normal ?_
    have bk3 := bk2.set_ 1 (.slice A' (hb.length + 1) c')
    have hW3 : But (fun q => q = g ∨ vb.ownBlock = some q) W (v3.setCell ⟨g, 1, none⟩ (.slice A' (hb.length + 1) c')) := hW.setCell (.inl rfl) _
    have hr3 : HRow v3 base 89 (.slice A' (hb.length + 1) c') (hb ++ [⟨A, c, m, n + 1, none, 0, 0⟩]) := by
      unfold HRow
      rw [List.length_append, cellsOf_append]
      exact hown
    have hr4 := hr3.but ((But.refl (fun q => q = g) _).setCell (p := ⟨g, 1, none⟩) rfl (.slice A' (hb.length + 1) c')) (fun k e e2 => bk2.offRow hr3 (by decide) (e2 ▸ e))
    have ho3 := hother.but hW3 (fun k e e2 => e2.elim (fun e3 => hog (e3 ▸ e)) (fun e3 => hoo k e e3))
    have h0W := h0.trans hW3
    have HRES := Lib.hid (And.intro bk3 (And.intro hr4 (And.intro ho3 h0W)))
    clear bk3 hr4 ho3 h0W hr3 hown hW3
    go_wp2_with fail
    go_end0
    exact ⟨rfl, _, ⟨HRES.out.1, HRES.out.2.1, HRES.out.2.2.1, hk.g⟩, HRES.out.2.2.2⟩
  refine AllReadyH.cons rfl (fun K hK => ?_) ?_
  · go_simp
    have kn : Keep v0 (v0.alloc (.cells #[.slice A m c, .slice none 0 0, .int .i64 ((n : Int) + 1)] 89)) := Keep.alloc1 _ _
    have bN : Blk (v0.alloc (.cells #[.slice A m c, .slice none 0 0, .int .i64 ((n : Int) + 1)] 89)) v0.heap.size 89 [.slice A m c, .slice none 0 0, .int .i64 ((n : Int) + 1)] := Blk.new v0 _ _
    refine hK.out _ _ (kn.cell hS) (fun hS => ?_)
    clear hK K
    try simp only [Act.put, List.setIfInBounds_toArray, List.set_cons_zero, List.set_cons_succ]
    generalize (v0.alloc (.cells #[.slice A m c, .slice none 0 0, .int .i64 ((n : Int) + 1)] 89)) = v5 at bN kn hS ⊢
    generalize v0.heap.size = gN at bN ⊢
    replace bk := bk.keep kn
    replace hrow := hrow.keep kn
    replace ky := ky.trans kn
    clear kn
    refine wpAnyH_ready (rs := [4]) (by kernel_rfl) (by simp) ?_
    refine AllReadyH.cons rfl (fun K hK => ?_) AllReadyH.nil
    have cq := bk.cell_ (i := 1) rfl
    go_simp
    refine hK.out _ _ hS (fun hS => ?_)
    clear hK K
    try simp only [Act.put, List.setIfInBounds_toArray, List.set_cons_zero, List.set_cons_succ]
    clear cq
    refine wpAnyH_ready (rs := [12]) (by kernel_rfl) (by simp) ?_
    refine AllReadyH.cons rfl (fun K hK => ?_) AllReadyH.nil
    rw [if_pos (by rfl)]
    have hbs2 : base ≤ v5.heap.size := Nat.le_trans hbs ky.size
    have hoff := bk.offRow hrow (by decide)
    refine wp_append_own v5 (.tmp 15) (.tmp 22) 39 rfl base 89 ti _ 3 56 Tryz.underlying39 hi2 hz2 hsz2 hby2 rfl (by decide) vb hb.length _ rfl hrow ⟨gN, 0, none⟩ 1 1 [.slice A m c, .slice none 0 0, .int .i64 ((n : Int) + 1)] rfl rfl bN.rd.cells (by intro u hu; simp only [List.mem_cons, List.not_mem_nil, or_false] at hu; rcases hu with rfl | rfl | rfl <;> rfl) (by unfold maxLen; omega) (by omega) hbs2 ?_
    intro v' v7 hown hgrow _
    obtain ⟨A', c', rfl⟩ := ownsRow_val hown
    refine hK.out _ _ (hgrow.cell hS (fun e => hoff e.symm)) (fun hS => ?_)
    clear hK K
    change wpAnyH _ _ _ _ _ _ _ (Act.put _ (some 23) _) _
    try simp only [Act.put, List.setIfInBounds_toArray, List.set_cons_zero, List.set_cons_succ]
    have bk2 := bk.grown hgrow (fun e => hoff e.symm)
    have hW := (But.keep ky (fun q => q = g ∨ vb.ownBlock = some q)).grown hgrow (fun k e => .inr e)
    clear hrow bN hoff hbs2
    refine wpAnyH_take (i := 13) (v := ?_) rfl (by kernel_rfl) (by kernel_rfl) (by kernel_rfl) (fun _ _ _ h => h) (Or.inl ⟨by rfl, ?_⟩) hS ?_
    rotate_left
    · (intro w hSw; (try dsimp only at hSw); go_simp; (first | done | with_reducible rfl))
    change wpAnyH _ _ _ _ _ _ _ (Act.put _ (some 24) _) _
    simp only [Act.put, List.setIfInBounds_toArray, List.set_cons_zero, List.set_cons_succ]
    refine wpAnyH_take (i := 14) (v := ?_) rfl (by kernel_rfl) (by kernel_rfl) (by kernel_rfl) (fun _ _ _ h => h) (Or.inl ⟨by rfl, ?_⟩) hS ?_
    rotate_left
    · (intro w hSw; (try dsimp only at hSw); go_simp; (first | done | with_reducible rfl))
    change wpAnyH _ _ _ _ _ _ _ (Act.put _ (some 25) _) _
    simp only [Act.put, List.setIfInBounds_toArray, List.set_cons_zero, List.set_cons_succ]
    refine wpAnyH_ready (rs := [15]) (by kernel_rfl) (by simp) ?_
    refine AllReadyH.cons rfl (fun K hK => ?_) AllReadyH.nil
    have cq := bk2.cell_ (i := 1) rfl
    have fq := bk2.frozen 1
    go_simp
    refine hK.out _ _ ((World.cell?_setCell_other v7 ⟨g, 1, none⟩ ⟨g, 0, none⟩ _ (fun e => by injection e with _ e2; cases e2)).trans hS) (fun hS => ?_)
    clear hK K
    try simp only [Act.put, List.setIfInBounds_toArray]
    refine wpAnyH_done (by kernel_rfl) ?_ _
    refine NoPanic.normal ?_
    have bk3 := bk2.set_ 1 (.slice A' (hb.length + 1) c')
    have hW3 : But (fun q => q = g ∨ vb.ownBlock = some q) W (v7.setCell ⟨g, 1, none⟩ (.slice A' (hb.length + 1) c')) := hW.setCell (.inl rfl) _
    have hr3 : HRow v7 base 89 (.slice A' (hb.length + 1) c') (hb ++ [⟨A, c, m, n + 1, none, 0, 0⟩]) := by
      unfold HRow
      rw [List.length_append, cellsOf_append]
      exact hown
    have hr4 := hr3.but ((But.refl (fun q => q = g) _).setCell (p := ⟨g, 1, none⟩) rfl (.slice A' (hb.length + 1) c')) (fun k e e2 => bk2.offRow hr3 (by decide) (e2 ▸ e))
    have ho3 := hother.but hW3 (fun k e e2 => e2.elim (fun e3 => hog (e3 ▸ e)) (fun e3 => hoo k e e3))
    have h0W := h0.trans hW3
    have HRES := Lib.hid (And.intro bk3 (And.intro hr4 (And.intro ho3 h0W)))
    clear bk3 hr4 ho3 h0W hr3 hown hW3
    go_wp2_with fail
    go_end0
    exact ⟨rfl, _, ⟨HRES.out.1, HRES.out.2.1, HRES.out.2.2.1, hk.g⟩, HRES.out.2.2.2⟩
  exact AllReadyH.nil

set_option maxRecDepth 100000 in
set_option maxHeartbeats 1000000 in
theorem bookBytes_f (g n base : Nat) (hb hi : List Hd) (vb vi : Value) (A : Option Addr) (m c : Nat) (w : World) (hk : Bk w base g n hb hi vb vi) (hn : n ≤ 10000) (hl : hb.length ≤ 10000) :
    Calls Tryz.prog 14 #[pK g, .slice A m c] w fun e w' => e = .returned (.tuple #[]) ∧ ∃ v', Bk w' base g (n + 1) (hb ++ [⟨A, c, m, n + 1, none, 0, 0⟩]) hi v' vi ∧ But (fun q => q = g ∨ vb.ownBlock = some q) w w' := by
  have hq := keepByte_f g n base hb hi vb vi A m c w hk hn hl
  unfold pK at hq ⊢
  go_enter Tryz.func14, Tryz.ntmps14
  go_wp2_with fail
  refine hq.mono ?_
  rintro e w1 ⟨rfl, h⟩
  go_wp2_with fail
  go_end0
  exact ⟨rfl, h⟩

set_option maxRecDepth 100000 in
set_option maxHeartbeats 4000000 in
theorem keepInt_f (g n base : Nat) (hb hi : List Hd) (vb vi : Value) (A : Option Addr) (m c : Nat) (w : World) (hk : Bk w base g n hb hi vb vi) (hn : n ≤ 10000) (hl : hi.length ≤ 10000) :
    Calls Tryz.prog 83 #[pK g, .slice A m c] w fun e w' => e = .returned (.tuple #[]) ∧ ∃ v', Bk w' base g (n + 1) hb (hi ++ [⟨A, c, m, n + 1, none, 0, 0⟩]) vb v' ∧ But (fun q => q = g ∨ vi.ownBlock = some q) w w' := by
  obtain ⟨ti, hi2, hzz⟩ := Option.map_eq_some_iff.1 infoHI
  simp only [Prod.mk.injEq] at hzz
  obtain ⟨hz2, hsz2, hby2⟩ := hzz
  have hbs : base ≤ w.heap.size := Nat.le_trans hk.g (Nat.le_of_lt hk.b.lt)
  have b0 := hk.b.cell_ (i := 0) rfl
  have f0 := hk.b.frozen 0
  have hzero : (zeroValue 92).run Tryz.prog w = .ok (.agg #[.slice none 0 0, .slice none 0 0, .int .i64 0]) w := by kernel_rfl
  unfold pK
  go_enter Tryz.func83, Tryz.ntmps83
  go_upto_region 1 with fail
  have h0 : But (fun q => q = g ∨ vi.ownBlock = some q) w (w.setCell ⟨g, 0, none⟩ (.int .i64 ((n : Int) + 1))) := (But.refl _ _).setCell (.inl rfl) _
  have hS1 : But (fun q => q = g) w (w.setCell ⟨g, 0, none⟩ (.int .i64 ((n : Int) + 1))) := (But.refl (fun q => q = g) w).setCell (p := ⟨g, 0, none⟩) rfl _
  have bk : Blk (w.setCell ⟨g, 0, none⟩ (.int .i64 ((n : Int) + 1))) g 49 [.int .i64 ((n : Int) + 1), vb, vi, nilV, nilV, nilV, nilV, nilV, nilV, nilV] := hk.b.set_ 0 _
  have hrow := hk.ri.but hS1 (fun k e e2 => hk.b.offRow hk.ri (by decide) (e2 ▸ e))
  have hother := hk.rb.but hS1 (fun k e e2 => hk.b.offRow hk.rb (by decide) (e2 ▸ e))
  have hog := hk.b.offRow hk.rb (by decide)
  have hoo := hk.rb.offRow hk.ri (by decide)
  have hbs : base ≤ (w.setCell ⟨g, 0, none⟩ (.int .i64 ((n : Int) + 1))).heap.size := Nat.le_trans hbs h0.size
  generalize w.setCell ⟨g, 0, none⟩ (.int .i64 ((n : Int) + 1)) = W at h0 bk hrow hother hbs ⊢
  have e0 := bk.cell_ (i := 0) rfl
  clear b0 f0 hS1
  refine wp_region_noPanic ?_
  refine wp_region_held_drew (S := (fun w' => w'.cell? ⟨g, 0, none⟩ = some (.int .i64 ((n : Int) + 1)))) (by kernel_rfl) e0 (fun hS => ?_)
  have ky : Keep W W.drew := (Keep.refl _).drew
  replace bk := bk.keep ky
  replace hrow := hrow.keep ky
  generalize W.drew = v0 at ky hS bk hrow ⊢
  refine wpAnyH_take (i := 0) (v := ?_) rfl (by kernel_rfl) (by kernel_rfl) (by kernel_rfl) (fun _ _ _ h => h) (Or.inl ⟨by rfl, ?_⟩) hS ?_
  rotate_left
  · (intro w hSw; (try dsimp only at hSw); go_simp; (first | done | with_reducible rfl))
  change wpAnyH _ _ _ _ _ _ _ (Act.put _ (some 11) _) _
  simp only [Act.put, List.setIfInBounds_toArray, List.set_cons_zero, List.set_cons_succ]
  refine wpAnyH_take (i := 1) (v := ?_) rfl (by kernel_rfl) (by kernel_rfl) (by kernel_rfl) (fun _ _ _ h => h) (Or.inl ⟨by rfl, ?_⟩) hS ?_
  rotate_left
  · (intro w hSw; (try dsimp only at hSw); go_simp; (first | done | with_reducible rfl))
  change wpAnyH _ _ _ _ _ _ _ (Act.put _ (some 12) _) _
  simp only [Act.put, List.setIfInBounds_toArray, List.set_cons_zero, List.set_cons_succ]
  refine wpAnyH_take (i := 2) (v := ?_) rfl (by kernel_rfl) (by kernel_rfl) (by kernel_rfl) (fun _ _ _ h => h) (Or.inl ⟨by rfl, ?_⟩) hS ?_
  rotate_left
  · (intro w hSw; (try dsimp only at hSw); go_simp; (first | done | with_reducible rfl))
  change wpAnyH _ _ _ _ _ _ _ (Act.put _ (some 13) _) _
  simp only [Act.put, List.setIfInBounds_toArray, List.set_cons_zero, List.set_cons_succ]
  refine wpAnyH_take (i := 3) (v := ?_) rfl (by kernel_rfl) (by kernel_rfl) (by kernel_rfl) (fun _ _ _ h => h) (Or.inl ⟨by rfl, ?_⟩) hS ?_
  rotate_left
  · (intro w hSw; (try dsimp only at hSw); go_simp; (first | done | with_reducible rfl))
  change wpAnyH _ _ _ _ _ _ _ (Act.put _ (some 14) _) _
  simp only [Act.put, List.setIfInBounds_toArray, List.set_cons_zero, List.set_cons_succ]
  refine wpAnyH_take (i := 5) (v := ?_) rfl (by kernel_rfl) (by kernel_rfl) (by kernel_rfl) (fun _ _ _ h => h) (Or.inl ⟨by rfl, ?_⟩) hS ?_
  rotate_left
  · (intro w hSw; (try dsimp only at hSw); go_simp; (first | done | with_reducible rfl))
  change wpAnyH _ _ _ _ _ _ _ (Act.put _ (some 16) _) _
  simp only [Act.put, List.setIfInBounds_toArray, List.set_cons_zero, List.set_cons_succ]
  refine wpAnyH_take (i := 6) (v := ?_) rfl (by kernel_rfl) (by kernel_rfl) (by kernel_rfl) (fun _ _ _ h => h) (Or.inl ⟨by rfl, ?_⟩) hS ?_
  rotate_left
  · (intro w hSw; (try dsimp only at hSw); go_simp; (first | done | with_reducible rfl))
  change wpAnyH _ _ _ _ _ _ _ (Act.put _ (some 17) _) _
  simp only [Act.put, List.setIfInBounds_toArray, List.set_cons_zero, List.set_cons_succ]
  refine wpAnyH_take (i := 7) (v := ?_) rfl (by kernel_rfl) (by kernel_rfl) (by kernel_rfl) (fun _ _ _ h => h) (Or.inl ⟨by rfl, ?_⟩) hS ?_
  rotate_left
  · (intro w hSw; (try dsimp only at hSw); go_simp; (first | done | with_reducible rfl))
  change wpAnyH _ _ _ _ _ _ _ (Act.put _ (some 18) _) _
  simp only [Act.put, List.setIfInBounds_toArray, List.set_cons_zero, List.set_cons_succ]
  refine wpAnyH_take (i := 8) (v := ?_) rfl (by kernel_rfl) (by kernel_rfl) (by kernel_rfl) (fun _ _ _ h => h) (Or.inl ⟨by rfl, ?_⟩) hS ?_
  rotate_left
  · (intro w hSw; (try dsimp only at hSw); go_simp; (first | done | with_reducible rfl))
  change wpAnyH _ _ _ _ _ _ _ (Act.put _ (some 19) _) _
  simp only [Act.put, List.setIfInBounds_toArray, List.set_cons_zero, List.set_cons_succ]
  refine wpAnyH_take (i := 9) (v := ?_) rfl (by kernel_rfl) (by kernel_rfl) (by kernel_rfl) (fun _ _ _ h => h) (Or.inl ⟨by rfl, ?_⟩) hS ?_
  rotate_left
  · (intro w hSw; (try dsimp only at hSw); go_simp; (first | done | with_reducible rfl))
  change wpAnyH _ _ _ _ _ _ _ (Act.put _ (some 20) _) _
  simp only [Act.put, List.setIfInBounds_toArray, List.set_cons_zero, List.set_cons_succ]
  refine wpAnyH_take (i := 10) (v := ?_) rfl (by kernel_rfl) (by kernel_rfl) (by kernel_rfl) (fun _ _ _ h => h) (Or.inl ⟨by rfl, ?_⟩) hS ?_
  rotate_left
  · (intro w hSw; (try dsimp only at hSw); go_simp; (first | done | with_reducible rfl))
  change wpAnyH _ _ _ _ _ _ _ (Act.put _ (some 21) _) _
  simp only [Act.put, List.setIfInBounds_toArray, List.set_cons_zero, List.set_cons_succ]
  refine wpAnyH_ready (rs := [4, 11]) (by kernel_rfl) (by simp) ?_
  refine AllReadyH.cons rfl (fun K hK => ?_) ?_
  · have cq := bk.cell_ (i := 2) rfl
    go_simp
    refine hK.out _ _ hS (fun hS => ?_)
    clear hK K
    try simp only [Act.put, List.setIfInBounds_toArray, List.set_cons_zero, List.set_cons_succ]
    clear cq
    refine wpAnyH_ready (rs := [11]) (by kernel_rfl) (by simp) ?_
    refine AllReadyH.cons rfl (fun K hK => ?_) AllReadyH.nil
    go_simp
    have kn : Keep v0 (v0.alloc (.cells #[.slice A m c, .slice none 0 0, .int .i64 ((n : Int) + 1)] 92)) := Keep.alloc1 _ _
    have bN : Blk (v0.alloc (.cells #[.slice A m c, .slice none 0 0, .int .i64 ((n : Int) + 1)] 92)) v0.heap.size 92 [.slice A m c, .slice none 0 0, .int .i64 ((n : Int) + 1)] := Blk.new v0 _ _
    refine hK.out _ _ (kn.cell hS) (fun hS => ?_)
    clear hK K
    try simp only [Act.put, List.setIfInBounds_toArray, List.set_cons_zero, List.set_cons_succ]
    generalize (v0.alloc (.cells #[.slice A m c, .slice none 0 0, .int .i64 ((n : Int) + 1)] 92)) = v2 at bN kn hS ⊢
    generalize v0.heap.size = gN at bN ⊢
    replace bk := bk.keep kn
    replace hrow := hrow.keep kn
    replace ky := ky.trans kn
    clear kn
    refine wpAnyH_ready (rs := [12]) (by kernel_rfl) (by simp) ?_
    refine AllReadyH.cons rfl (fun K hK => ?_) AllReadyH.nil
    rw [if_pos (by rfl)]
    have hbs2 : base ≤ v2.heap.size := Nat.le_trans hbs ky.size
    have hoff := bk.offRow hrow (by decide)
    refine wp_append_own v2 (.tmp 15) (.tmp 22) 40 rfl base 92 ti _ 3 56 Tryz.underlying40 hi2 hz2 hsz2 hby2 rfl (by decide) vi hi.length _ rfl hrow ⟨gN, 0, none⟩ 1 1 [.slice A m c, .slice none 0 0, .int .i64 ((n : Int) + 1)] rfl rfl bN.rd.cells (by intro u hu; simp only [List.mem_cons, List.not_mem_nil, or_false] at hu; rcases hu with rfl | rfl | rfl <;> rfl) (by unfold maxLen; omega) (by omega) hbs2 ?_
    intro v' v3 hown hgrow _
    obtain ⟨A', c', rfl⟩ := ownsRow_val hown
    refine hK.out _ _ (hgrow.cell hS (fun e => hoff e.symm)) (fun hS => ?_)
    clear hK K
    change wpAnyH _ _ _ _ _ _ _ (Act.put _ (some 23) _) _
    try simp only [Act.put, List.setIfInBounds_toArray, List.set_cons_zero, List.set_cons_succ]
    have bk2 := bk.grown hgrow (fun e => hoff e.symm)
    have hW := (But.keep ky (fun q => q = g ∨ vi.ownBlock = some q)).grown hgrow (fun k e => .inr e)
    clear hrow bN hoff hbs2
    refine wpAnyH_take (i := 13) (v := ?_) rfl (by kernel_rfl) (by kernel_rfl) (by kernel_rfl) (fun _ _ _ h => h) (Or.inl ⟨by rfl, ?_⟩) hS ?_
    rotate_left
    · (intro w hSw; (try dsimp only at hSw); go_simp; (first | done | with_reducible rfl))
    change wpAnyH _ _ _ _ _ _ _ (Act.put _ (some 24) _) _
    simp only [Act.put, List.setIfInBounds_toArray, List.set_cons_zero, List.set_cons_succ]
    refine wpAnyH_take (i := 14) (v := ?_) rfl (by kernel_rfl) (by kernel_rfl) (by kernel_rfl) (fun _ _ _ h => h) (Or.inl ⟨by rfl, ?_⟩) hS ?_
    rotate_left
    · (intro w hSw; (try dsimp only at hSw); go_simp; (first | done | with_reducible rfl))
    change wpAnyH _ _ _ _ _ _ _ (Act.put _ (some 25) _) _
    simp only [Act.put, List.setIfInBounds_toArray, List.set_cons_zero, List.set_cons_succ]
    refine wpAnyH_ready (rs := [15]) (by kernel_rfl) (by simp) ?_
    refine AllReadyH.cons rfl (fun K hK => ?_) AllReadyH.nil
    have cq := bk2.cell_ (i := 2) rfl
    have fq := bk2.frozen 2
    go_simp
    refine hK.out _ _ ((World.cell?_setCell_other v3 ⟨g, 2, none⟩ ⟨g, 0, none⟩ _ (fun e => by injection e with _ e2; cases e2)).trans hS) (fun hS => ?_)
    clear hK K
    try simp only [Act.put, List.setIfInBounds_toArray]
    refine wpAnyH_done (by kernel_rfl) ?_ _
    refine NoPanic.normal ?_
    have bk3 := bk2.set_ 2 (.slice A' (hi.length + 1) c')
    have hW3 : But (fun q => q = g ∨ vi.ownBlock = some q) W (v3.setCell ⟨g, 2, none⟩ (.slice A' (hi.length + 1) c')) := hW.setCell (.inl rfl) _
    have hr3 : HRow v3 base 92 (.slice A' (hi.length + 1) c') (hi ++ [⟨A, c, m, n + 1, none, 0, 0⟩]) := by
      unfold HRow
      rw [List.length_append, cellsOf_append]
      exact hown
    have hr4 := hr3.but ((But.refl (fun q => q = g) _).setCell (p := ⟨g, 2, none⟩) rfl (.slice A' (hi.length + 1) c')) (fun k e e2 => bk2.offRow hr3 (by decide) (e2 ▸ e))
    have ho3 := hother.but hW3 (fun k e e2 => e2.elim (fun e3 => hog (e3 ▸ e)) (fun e3 => hoo k e e3))
    have h0W := h0.trans hW3
    have HRES := Lib.hid (And.intro bk3 (And.intro hr4 (And.intro ho3 h0W)))
    clear bk3 hr4 ho3 h0W hr3 hown hW3
    go_wp2_with fail
    go_end0
    exact ⟨rfl, _, ⟨HRES.out.1, HRES.out.2.2.1, HRES.out.2.1, hk.g⟩, HRES.out.2.2.2⟩
  refine AllReadyH.cons rfl (fun K hK => ?_) ?_
  · go_simp
    have kn : Keep v0 (v0.alloc (.cells #[.slice A m c, .slice none 0 0, .int .i64 ((n : Int) + 1)] 92)) := Keep.alloc1 _ _
    have bN : Blk (v0.alloc (.cells #[.slice A m c, .slice none 0 0, .int .i64 ((n : Int) + 1)] 92)) v0.heap.size 92 [.slice A m c, .slice none 0 0, .int .i64 ((n : Int) + 1)] := Blk.new v0 _ _
    refine hK.out _ _ (kn.cell hS) (fun hS => ?_)
    clear hK K
    try simp only [Act.put, List.setIfInBounds_toArray, List.set_cons_zero, List.set_cons_succ]
    generalize (v0.alloc (.cells #[.slice A m c, .slice none 0 0, .int .i64 ((n : Int) + 1)] 92)) = v5 at bN kn hS ⊢
    generalize v0.heap.size = gN at bN ⊢
    replace bk := bk.keep kn
    replace hrow := hrow.keep kn
    replace ky := ky.trans kn
    clear kn
    refine wpAnyH_ready (rs := [4]) (by kernel_rfl) (by simp) ?_
    refine AllReadyH.cons rfl (fun K hK => ?_) AllReadyH.nil
    have cq := bk.cell_ (i := 2) rfl
    go_simp
    refine hK.out _ _ hS (fun hS => ?_)
    clear hK K
    try simp only [Act.put, List.setIfInBounds_toArray, List.set_cons_zero, List.set_cons_succ]
    clear cq
    refine wpAnyH_ready (rs := [12]) (by kernel_rfl) (by simp) ?_
    refine AllReadyH.cons rfl (fun K hK => ?_) AllReadyH.nil
    rw [if_pos (by rfl)]
    have hbs2 : base ≤ v5.heap.size := Nat.le_trans hbs ky.size
    have hoff := bk.offRow hrow (by decide)
    refine wp_append_own v5 (.tmp 15) (.tmp 22) 40 rfl base 92 ti _ 3 56 Tryz.underlying40 hi2 hz2 hsz2 hby2 rfl (by decide) vi hi.length _ rfl hrow ⟨gN, 0, none⟩ 1 1 [.slice A m c, .slice none 0 0, .int .i64 ((n : Int) + 1)] rfl rfl bN.rd.cells (by intro u hu; simp only [List.mem_cons, List.not_mem_nil, or_false] at hu; rcases hu with rfl | rfl | rfl <;> rfl) (by unfold maxLen; omega) (by omega) hbs2 ?_
    intro v' v7 hown hgrow _
    obtain ⟨A', c', rfl⟩ := ownsRow_val hown
    refine hK.out _ _ (hgrow.cell hS (fun e => hoff e.symm)) (fun hS => ?_)
    clear hK K
    change wpAnyH _ _ _ _ _ _ _ (Act.put _ (some 23) _) _
    try simp only [Act.put, List.setIfInBounds_toArray, List.set_cons_zero, List.set_cons_succ]
    have bk2 := bk.grown hgrow (fun e => hoff e.symm)
    have hW := (But.keep ky (fun q => q = g ∨ vi.ownBlock = some q)).grown hgrow (fun k e => .inr e)
    clear hrow bN hoff hbs2
    refine wpAnyH_take (i := 13) (v := ?_) rfl (by kernel_rfl) (by kernel_rfl) (by kernel_rfl) (fun _ _ _ h => h) (Or.inl ⟨by rfl, ?_⟩) hS ?_
    rotate_left
    · (intro w hSw; (try dsimp only at hSw); go_simp; (first | done | with_reducible rfl))
    change wpAnyH _ _ _ _ _ _ _ (Act.put _ (some 24) _) _
    simp only [Act.put, List.setIfInBounds_toArray, List.set_cons_zero, List.set_cons_succ]
    refine wpAnyH_take (i := 14) (v := ?_) rfl (by kernel_rfl) (by kernel_rfl) (by kernel_rfl) (fun _ _ _ h => h) (Or.inl ⟨by rfl, ?_⟩) hS ?_
    rotate_left
    · (intro w hSw; (try dsimp only at hSw); go_simp; (first | done | with_reducible rfl))
    change wpAnyH _ _ _ _ _ _ _ (Act.put _ (some 25) _) _
    simp only [Act.put, List.setIfInBounds_toArray, List.set_cons_zero, List.set_cons_succ]
    refine wpAnyH_ready (rs := [15]) (by kernel_rfl) (by simp) ?_
    refine AllReadyH.cons rfl (fun K hK => ?_) AllReadyH.nil
    have cq := bk2.cell_ (i := 2) rfl
    have fq := bk2.frozen 2
    go_simp
    refine hK.out _ _ ((World.cell?_setCell_other v7 ⟨g, 2, none⟩ ⟨g, 0, none⟩ _ (fun e => by injection e with _ e2; cases e2)).trans hS) (fun hS => ?_)
    clear hK K
    try simp only [Act.put, List.setIfInBounds_toArray]
    refine wpAnyH_done (by kernel_rfl) ?_ _
    refine NoPanic.normal ?_
    have bk3 := bk2.set_ 2 (.slice A' (hi.length + 1) c')
    have hW3 : But (fun q => q = g ∨ vi.ownBlock = some q) W (v7.setCell ⟨g, 2, none⟩ (.slice A' (hi.length + 1) c')) := hW.setCell (.inl rfl) _
    have hr3 : HRow v7 base 92 (.slice A' (hi.length + 1) c') (hi ++ [⟨A, c, m, n + 1, none, 0, 0⟩]) := by
      unfold HRow
      rw [List.length_append, cellsOf_append]
      exact hown
    have hr4 := hr3.but ((But.refl (fun q => q = g) _).setCell (p := ⟨g, 2, none⟩) rfl (.slice A' (hi.length + 1) c')) (fun k e e2 => bk2.offRow hr3 (by decide) (e2 ▸ e))
    have ho3 := hother.but hW3 (fun k e e2 => e2.elim (fun e3 => hog (e3 ▸ e)) (fun e3 => hoo k e e3))
    have h0W := h0.trans hW3
    have HRES := Lib.hid (And.intro bk3 (And.intro hr4 (And.intro ho3 h0W)))
    clear bk3 hr4 ho3 h0W hr3 hown hW3
    go_wp2_with fail
    go_end0
    exact ⟨rfl, _, ⟨HRES.out.1, HRES.out.2.2.1, HRES.out.2.1, hk.g⟩, HRES.out.2.2.2⟩
  exact AllReadyH.nil

set_option maxRecDepth 100000 in
set_option maxHeartbeats 1000000 in
theorem bookInts_f (g n base : Nat) (hb hi : List Hd) (vb vi : Value) (A : Option Addr) (m c : Nat) (w : World) (hk : Bk w base g n hb hi vb vi) (hn : n ≤ 10000) (hl : hi.length ≤ 10000) :
    Calls Tryz.prog 39 #[pK g, .slice A m c] w fun e w' => e = .returned (.tuple #[]) ∧ ∃ v', Bk w' base g (n + 1) hb (hi ++ [⟨A, c, m, n + 1, none, 0, 0⟩]) vb v' ∧ But (fun q => q = g ∨ vi.ownBlock = some q) w w' := by
  have hq := keepInt_f g n base hb hi vb vi A m c w hk hn hl
  unfold pK at hq ⊢
  go_enter Tryz.func39, Tryz.ntmps39
  go_wp2_with fail
  refine hq.mono ?_
  rintro e w1 ⟨rfl, h⟩
  go_wp2_with fail
  go_end0
  exact ⟨rfl, h⟩
end Go.Proofs.YtjhbpocffckghaaGreatDoor
