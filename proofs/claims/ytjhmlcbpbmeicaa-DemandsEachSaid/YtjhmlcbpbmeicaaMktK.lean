/-
  CONTRACTS for the package markets: the bids inside Get. Conditions: the cells that it captured are blocks of their own, the bytes read as a list.
-/
import Derived.Test.YtjhmlcbpbmeicaaMktJ
import Derived.Deep.CutRange
import Derived.LoopN
namespace Go.Proofs.Ytjhmlcbpbmeicaa
open Go.RowKit

/-- So many lists, one behind the other. -/
def getLs : Nat → List Int → Option (List (List Int) × List Int)
  | 0, xs => some ([], xs)
  | n + 1, xs => match getLs n xs with
    | none => none
    | some (bl, ys) => match getL ys with
      | none => none
      | some zs => some (bl ++ [zs], ys.drop (1 + 4 * zs.length))
theorem getLs_succ (n : Nat) (xs : List Int) : getLs (n + 1) xs = match getLs n xs with
    | none => none
    | some (bl, ys) => match getL ys with
      | none => none
      | some zs => some (bl ++ [zs], ys.drop (1 + 4 * zs.length)) := rfl
/-- The state when i of n lists are in. -/
def BidsI (xs : List Int) (n gb ge gr : Nat) (w0 : World) (base i : Nat) (w : World) : Prop :=
  match getLs i xs with
  | none => Blk w ge 25 [.int .i64 5] ∧ ∃ row, row.length = n ∧ Blk w gr 22 row
  | some (bl, ys) => ∃ hs : List Sl, bidsOf hs = bl ∧ hs.length = i ∧ (∀ s ∈ hs, s.c = s.l.length ∧ Fr 3 w base s.a s.l.length s.c (cs .i64 s.l)) ∧
    Blk w gr 22 (hs.map Sl.val ++ List.replicate (n - i) (.slice none 0 0)) ∧ Left w0 w gb ys ∧ Blk w ge 25 [.int .i64 0]
theorem BidsI.row {xs : List Int} {n gb ge gr : Nat} {w0 : World} {base i : Nat} {w : World} (h : BidsI xs n gb ge gr w0 base i w) (hi : i ≤ n) : ∃ row, row.length = n ∧ Blk w gr 22 row := by
  unfold BidsI at h
  cases hg : getLs i xs with
  | none => rw [hg] at h; exact h.2
  | some q =>
    rw [hg] at h
    obtain ⟨hs, _, hl, _, hr, _⟩ := h
    exact ⟨_, by simp; omega, hr⟩
theorem row_set (hs : List Sl) (s : Sl) {n i : Nat} (hl : hs.length = i) (hi : i < n) : (hs.map Sl.val ++ List.replicate (n - i) (Value.slice none 0 0)).set i s.val = (hs ++ [s]).map Sl.val ++ List.replicate (n - (i + 1)) (Value.slice none 0 0) := by
  rw [List.set_append_right _ _ (by simp; omega), show n - i = (n - (i + 1)) + 1 by omega, List.replicate_succ]
  simp [hl]
theorem Left.keep {w0 w w' : World} {gb : Nat} {xs : List Int} (h : Left w0 w gb xs) (hk : Keep w w') : Left w0 w' gb xs := by
  obtain ⟨A, c, bb, r⟩ := h
  exact ⟨A, c, bb.keep hk, r⟩
theorem BidsI.keep {xs : List Int} {n gb ge gr : Nat} {w0 : World} {base i : Nat} {w w' : World} (h : BidsI xs n gb ge gr w0 base i w) (hk : Keep w w') : BidsI xs n gb ge gr w0 base i w' := by
  unfold BidsI at h ⊢
  cases hg : getLs i xs with
  | none =>
    rw [hg] at h
    obtain ⟨h1, row, hl, hr⟩ := h
    exact ⟨h1.keep hk, row, hl, hr.keep hk⟩
  | some q =>
    rw [hg] at h
    obtain ⟨hs, hb, hl, hf, hr, hL, he⟩ := h
    exact ⟨hs, hb, hl, fun s h => ⟨(hf s h).1, (hf s h).2.keep hk⟩, hr.keep hk, hL.keep hk, he.keep hk⟩
theorem bids_step (xs : List Int) (n gb ge gr : Nat) (w0 w : World) (base i : Nat) (k0 : Keep w0 w) (h1 : gb ≠ ge) (h2 : gr ≠ gb) (h3 : gr ≠ ge) (hi : i < n) (hbase : base ≤ w.heap.size) (h : BidsI xs n gb ge gr w0 base i w) :
    Calls Try.prog 56 #[ptr gr i, ptr ge 0, ptr gb 0] w fun e w' => e = .returned (.tuple #[]) ∧ But (fun k => k = gb ∨ k = ge ∨ k = gr) w w' ∧ BidsI xs n gb ge gr w0 base (i + 1) w' := by
  unfold BidsI at h
  cases hg : getLs i xs with
  | none =>
    rw [hg] at h
    obtain ⟨he, row, hl, hr⟩ := h
    refine (reader_no w (ptr gr i) gb ge 5 he rfl).mono ?_
    rintro e w1 ⟨rfl, k1⟩
    refine ⟨rfl, But.keep k1 _, ?_⟩
    unfold BidsI
    rw [getLs_succ, hg]
    exact ⟨he.keep k1, row, hl, hr.keep k1⟩
  | some q =>
    obtain ⟨bl, ys⟩ := q
    rw [hg] at h
    obtain ⟨hs, hb, hl, hf, hr, hL, he⟩ := h
    refine (reader_f ys gb ge gr i 22 _ w0 w k0 h1 h2 h3 (by simp; omega) hL he hr).mono ?_
    rintro e w1 ⟨rfl, t1, hm⟩
    refine ⟨rfl, t1, ?_⟩
    unfold BidsI
    rw [getLs_succ, hg]
    cases hy : getL ys with
    | none =>
      rw [hy] at hm
      obtain ⟨g1, _, e1⟩ := hm
      simp only [hy]
      exact ⟨e1, _, by simp; omega, g1⟩
    | some zs =>
      rw [hy] at hm
      obtain ⟨A', g1, f1, e1, l1⟩ := hm
      simp only [hy]
      have er := row_set hs ⟨A', zs.length, zs⟩ hl hi
      simp only [Sl.val] at er
      rw [er] at g1
      refine ⟨hs ++ [⟨A', zs.length, zs⟩], by simp [bidsOf, ← hb], by simp; omega, fun s hs' => ?_, g1, l1, e1⟩
      rcases List.mem_append.1 hs' with h' | h'
      · obtain ⟨q1, q2⟩ := hf s h'
        refine ⟨q1, q2.but t1 fun k hk e => ?_⟩
        obtain ⟨A, c, bb, _⟩ := hL
        rcases e with e | e | e
        · exact q2.own_ne bb (by decide) k hk e.symm
        · exact q2.own_ne he (by decide) k hk e.symm
        · exact q2.own_ne hr (by decide) k hk e.symm
      · rw [List.mem_singleton] at h'
        subst h'
        exact ⟨rfl, f1.mono hbase⟩

/-- What the reader of the bids leaves. -/
def BidsP (xs : List Int) (n gb ge gr : Nat) (w0 w : World) (e : Ending) (w' : World) : Prop :=
  e = .returned (.tuple #[]) ∧ But (fun k => k = gb ∨ k = ge ∨ k = gr) w w' ∧ BidsI xs n gb ge gr w0 w.heap.size n w'

set_option maxRecDepth 100000 in
set_option maxHeartbeats 4000000 in
theorem bids_f (xs : List Int) (n gb ge gm gf gr : Nat) (r o : Value) (w0 w : World) (k0 : Keep w0 w) (hn : n < 256) (h1 : gb ≠ ge) (h2 : gr ≠ gb) (h3 : gr ≠ ge) (h4 : gm ≠ gb) (h5 : gm ≠ ge) (h6 : gm ≠ gr) (h7 : gf ≠ gb) (h8 : gf ≠ ge) (h9 : gf ≠ gr)
    (n0 : w0.heap.size ≤ gb) (n1 : w0.heap.size ≤ ge) (n2 : w0.heap.size ≤ gr)
    (hf : Blk w gf 94 [rdFn gb ge]) (hm : Blk w gm 62 [r, .slice (some ⟨gr, 0, none⟩) n n, o]) (h0 : BidsI xs n gb ge gr w0 w.heap.size 0 w) :
    Calls Try.prog 59 #[ptr gm 0, ptr gf 0] w (BidsP xs n gb ge gr w0 w) := by
  have cm := hm.cell_ (i := 1) rfl
  have cf := hf.cell_ (i := 0) rfl
  have K0 := Lib.hid k0
  go_enter Try.func59, Try.ntmps59
  go_wp2_with fail
  go_loopw [6] (fun v wr => ∃ i : Nat, i ≤ n ∧ v = .int .i64 i ∧ But (fun k => k = gb ∨ k = ge ∨ k = gr) w wr ∧ BidsI xs n gb ge gr w0 w.heap.size i wr) (fun v _ => n - (intOf v).toNat)
  case atStart => exact ⟨0, Nat.zero_le _, rfl, But.refl _ _, h0⟩
  case round =>
    obtain ⟨i, hi, rfl, tw, hI⟩ := hrel
    have cm' := (hm.but tw (by omega)).cell_ (i := 1) rfl
    have cf' := (hf.but tw (by omega)).cell_ (i := 0) rfl
    have kw := K0.out.but tw (fun k e => by omega)
    by_cases hlt : i < n
    · have z6 : (0 : Int) ≤ i := by omega
      have z7 : (i : Int) < n := by omega
      go_upto_region 3 with fail
      have kq : Keep wr wr.drew := (Keep.refl _).drew
      have hmq := (hm.but tw (by omega)).keep kq
      have hfq := (hf.but tw (by omega)).keep kq
      have hst := bids_step xs n gb ge gr w0 wr.drew w.heap.size i (kw.trans kq) h1 h2 h3 hlt (Nat.le_trans tw.size kq.size) (hI.keep kq)
      refine wp_region_noPanic ?_
      refine wp_region_held_drew (S := (fun w' => w'.cell? ⟨gf, 0, none⟩ = some (rdFn gb ge) ∧ w'.cell? ⟨gm, 1, none⟩ = some (.slice (some ⟨gr, 0, none⟩) n n))) (by kernel_rfl) ⟨cf', cm'⟩ (fun hS => ?_)
      refine wpAnyH_take (i := 0) (v := ?_) rfl (by kernel_rfl) (by kernel_rfl) (by kernel_rfl) (fun _ _ _ h => h) (Or.inl ⟨by rfl, ?_⟩) hS ?_
      rotate_left
      · (intro w hSw; (try dsimp only at hSw); go_simp; (first | done | with_reducible rfl))
      change wpAnyH _ _ _ _ _ _ _ (Act.put _ (some 9) _) _
      simp only [Act.put, List.setIfInBounds_toArray, List.set_cons_zero, List.set_cons_succ]
      refine wpAnyH_take (i := 1) (v := ?_) rfl (by kernel_rfl) (by kernel_rfl) (by kernel_rfl) (fun _ _ _ h => h) (Or.inl ⟨by rfl, ?_⟩) hS ?_
      rotate_left
      · (intro w hSw; (try dsimp only at hSw); go_simp; (first | done | with_reducible rfl))
      change wpAnyH _ _ _ _ _ _ _ (Act.put _ (some 10) _) _
      simp only [Act.put, List.setIfInBounds_toArray, List.set_cons_zero, List.set_cons_succ]
      refine wpAnyH_take (i := 2) (v := ?_) rfl (by kernel_rfl) (by kernel_rfl) (by kernel_rfl) (fun _ _ _ h => h) (Or.inl ⟨by rfl, ?_⟩) hS ?_
      rotate_left
      · (intro w hSw; (try dsimp only at hSw); go_simp; (first | done | with_reducible rfl))
      change wpAnyH _ _ _ _ _ _ _ (Act.put _ (some 11) _) _
      simp only [Act.put, List.setIfInBounds_toArray, List.set_cons_zero, List.set_cons_succ]
      refine wpAnyH_take (i := 3) (v := ?_) rfl (by kernel_rfl) (by kernel_rfl) (by kernel_rfl) (fun _ _ _ h => h) (Or.inl ⟨by rfl, ?_⟩) hS ?_
      rotate_left
      · (intro w hSw; (try dsimp only at hSw); go_simp; (first | done | with_reducible rfl))
      change wpAnyH _ _ _ _ _ _ _ (Act.put _ (some 12) _) _
      simp only [Act.put, List.setIfInBounds_toArray, List.set_cons_zero, List.set_cons_succ]
      refine wpAnyH_take (i := 4) (v := ?_) rfl (by kernel_rfl) (by kernel_rfl) (by kernel_rfl) (fun _ _ _ h => h) (Or.inl ⟨by rfl, ?_⟩) hS ?_
      rotate_left
      · (intro w hSw; (try dsimp only at hSw); go_simp; (first | done | with_reducible rfl))
      change wpAnyH _ _ _ _ _ _ _ (Act.put _ (some 13) _) _
      simp only [Act.put, List.setIfInBounds_toArray, List.set_cons_zero, List.set_cons_succ]
      refine wpAnyH_ready (rs := [5]) (by kernel_rfl) (by simp) ?_
      refine AllReadyH.cons rfl (fun K hK => ?_) AllReadyH.nil
      go_simp
      refine hst.mono ?_
      rintro e w2 ⟨rfl, t1, hI2⟩
      go_wp2_with fail
      refine hK.out _ _ ⟨(hfq.but t1 (by omega)).cell_ rfl, (hmq.but t1 (by omega)).cell_ rfl⟩ (fun hS => ?_)
      clear hK K
      try simp only [Act.put, List.setIfInBounds_toArray, List.set_cons_zero, List.set_cons_succ]
      refine wpAnyH_done (by kernel_rfl) ?_ _
      refine NoPanic.normal ?_
      go_wp2_with fail
      go_roundw
      case rel => exact ⟨i + 1, by omega, by go_num, (tw.trans (But.keep kq _)).trans t1, hI2⟩
      case measure => simp [intOf]; omega
    · obtain rfl : i = n := by omega
      go_wp2_with fail
      go_end0
      exact ⟨rfl, tw, hI⟩

set_option maxRecDepth 100000 in
set_option maxHeartbeats 2000000 in
theorem bids_no (w : World) (gm gf : Nat) (r o : Value) (hm : Blk w gm 62 [r, .slice none 0 0, o]) :
    Calls Try.prog 59 #[ptr gm 0, ptr gf 0] w fun e w' => e = .returned (.tuple #[]) ∧ Keep w w' := by
  have cm := hm.cell_ (i := 1) rfl
  go_enter Try.func59, Try.ntmps59
  go_wp2_with fail
  refine wp_loop_rounds 1 ?_
  rw [rounds_succ]
  go_wp2_with fail
  go_end0
  exact ⟨rfl, Keep.refl _⟩
end Go.Proofs.Ytjhmlcbpbmeicaa
