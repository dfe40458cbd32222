/-
  CONTRACTS of the laws' market Known and check 'alive' of the package markets: it answers true; nothing that was there is turned. No condition.
-/
import Derived.Test.YtjhmlcbpbmeicaaMktN
import Derived.Test.YtjhmlcbpbmeicaaMktG
import Derived.Test.YtjhmlcbpbmeicaaMktF
import Derived.Test.YtjhmlcbpbmeicaaNumQ
namespace Go.Proofs.Ytjhmlcbpbmeicaa
open Go.RowKit

/-- The market Known. -/
def KnownP (w : World) (e : Ending) (w' : World) : Prop := ∃ M : Mkt, e = .returned M.val ∧ M.Ok w' ∧ M.r.l = [3, 1] ∧ bidsOf M.bs = [[5, 0], []] ∧ M.o.l = [1, 0] ∧ Keep w w'

theorem wf_all {l : List Int} (h : l.all (fun x => decide (0 ≤ x) && decide (x < 4294967296)) = true) : ∀ x ∈ l, (Lit.int .i64 x).wf = true := fun x hx => by
  have := List.all_eq_true.1 h x hx
  simp only [Bool.and_eq_true, decide_eq_true_eq] at this
  exact WalkArith.wf_i64 (by omega)

set_option maxRecDepth 100000 in
set_option maxHeartbeats 2000000 in
theorem known_f (w : World) : Calls Try.prog 54 #[] w (KnownP w) := by
  have b0 : Blk (w.alloc (.cells #[.slice none 0 0, .slice none 0 0, .slice none 0 0] 62)) w.heap.size 62 [nilS, nilS, nilS] := Blk.new w _ _
  have b1 : Blk ((w.alloc (.cells #[.slice none 0 0, .slice none 0 0, .slice none 0 0] 62)).alloc (.cells #[.int .i64 3, .int .i64 1] 3)) (w.heap.size + 1) 3 (cs .i64 [3, 1]) := by
    have h := Blk.new (w.alloc (.cells #[.slice none 0 0, .slice none 0 0, .slice none 0 0] 62)) 3 (cs .i64 [3, 1])
    simpa [cs] using h
  have b2 : Blk (((w.alloc (.cells #[.slice none 0 0, .slice none 0 0, .slice none 0 0] 62)).alloc (.cells #[.int .i64 3, .int .i64 1] 3)).alloc (.cells #[.int .i64 5, .int .i64 0] 3)) (w.heap.size + 1 + 1) 3 (cs .i64 [5, 0]) := by
    have h := Blk.new ((w.alloc (.cells #[.slice none 0 0, .slice none 0 0, .slice none 0 0] 62)).alloc (.cells #[.int .i64 3, .int .i64 1] 3)) 3 (cs .i64 [5, 0])
    simpa [cs] using h
  have b3 : Blk ((((w.alloc (.cells #[.slice none 0 0, .slice none 0 0, .slice none 0 0] 62)).alloc (.cells #[.int .i64 3, .int .i64 1] 3)).alloc (.cells #[.int .i64 5, .int .i64 0] 3)).alloc (.cells #[.slice (some ⟨w.heap.size + 1 + 1, 0, none⟩) 2 2, .slice none 0 0] 22)) (w.heap.size + 1 + 1 + 1) 22 [.slice (some ⟨w.heap.size + 1 + 1, 0, none⟩) 2 2, nilS] := by
    have h := Blk.new (((w.alloc (.cells #[.slice none 0 0, .slice none 0 0, .slice none 0 0] 62)).alloc (.cells #[.int .i64 3, .int .i64 1] 3)).alloc (.cells #[.int .i64 5, .int .i64 0] 3)) 22 [.slice (some ⟨w.heap.size + 1 + 1, 0, none⟩) 2 2, nilS]
    simpa using h
  have b4 : Blk (((((w.alloc (.cells #[.slice none 0 0, .slice none 0 0, .slice none 0 0] 62)).alloc (.cells #[.int .i64 3, .int .i64 1] 3)).alloc (.cells #[.int .i64 5, .int .i64 0] 3)).alloc (.cells #[.slice (some ⟨w.heap.size + 1 + 1, 0, none⟩) 2 2, .slice none 0 0] 22)).alloc (.cells #[.int .i64 1, .int .i64 0] 3)) (w.heap.size + 1 + 1 + 1 + 1) 3 (cs .i64 [1, 0]) := by
    have h := Blk.new ((((w.alloc (.cells #[.slice none 0 0, .slice none 0 0, .slice none 0 0] 62)).alloc (.cells #[.int .i64 3, .int .i64 1] 3)).alloc (.cells #[.int .i64 5, .int .i64 0] 3)).alloc (.cells #[.slice (some ⟨w.heap.size + 1 + 1, 0, none⟩) 2 2, .slice none 0 0] 22)) 3 (cs .i64 [1, 0])
    simpa [cs] using h
  have k2 : Keep (w.alloc (.cells #[.slice none 0 0, .slice none 0 0, .slice none 0 0] 62)) ((w.alloc (.cells #[.slice none 0 0, .slice none 0 0, .slice none 0 0] 62)).alloc (.cells #[.int .i64 3, .int .i64 1] 3)) := Keep.alloc1 _ _
  have k3 : Keep ((w.alloc (.cells #[.slice none 0 0, .slice none 0 0, .slice none 0 0] 62)).alloc (.cells #[.int .i64 3, .int .i64 1] 3)) (((w.alloc (.cells #[.slice none 0 0, .slice none 0 0, .slice none 0 0] 62)).alloc (.cells #[.int .i64 3, .int .i64 1] 3)).alloc (.cells #[.int .i64 5, .int .i64 0] 3)) := Keep.alloc1 _ _
  have k4 : Keep (((w.alloc (.cells #[.slice none 0 0, .slice none 0 0, .slice none 0 0] 62)).alloc (.cells #[.int .i64 3, .int .i64 1] 3)).alloc (.cells #[.int .i64 5, .int .i64 0] 3)) ((((w.alloc (.cells #[.slice none 0 0, .slice none 0 0, .slice none 0 0] 62)).alloc (.cells #[.int .i64 3, .int .i64 1] 3)).alloc (.cells #[.int .i64 5, .int .i64 0] 3)).alloc (.cells #[.slice (some ⟨w.heap.size + 1 + 1, 0, none⟩) 2 2, .slice none 0 0] 22)) := Keep.alloc1 _ _
  have k5 : Keep ((((w.alloc (.cells #[.slice none 0 0, .slice none 0 0, .slice none 0 0] 62)).alloc (.cells #[.int .i64 3, .int .i64 1] 3)).alloc (.cells #[.int .i64 5, .int .i64 0] 3)).alloc (.cells #[.slice (some ⟨w.heap.size + 1 + 1, 0, none⟩) 2 2, .slice none 0 0] 22)) (((((w.alloc (.cells #[.slice none 0 0, .slice none 0 0, .slice none 0 0] 62)).alloc (.cells #[.int .i64 3, .int .i64 1] 3)).alloc (.cells #[.int .i64 5, .int .i64 0] 3)).alloc (.cells #[.slice (some ⟨w.heap.size + 1 + 1, 0, none⟩) 2 2, .slice none 0 0] 22)).alloc (.cells #[.int .i64 1, .int .i64 0] 3)) := Keep.alloc1 _ _
  replace b0 := (((b0.keep k2).keep k3).keep k4).keep k5
  replace b1 := ((b1.keep k3).keep k4).keep k5
  replace b2 := (b2.keep k4).keep k5
  replace b3 := b3.keep k5
  have kk : Keep w (((((w.alloc (.cells #[.slice none 0 0, .slice none 0 0, .slice none 0 0] 62)).alloc (.cells #[.int .i64 3, .int .i64 1] 3)).alloc (.cells #[.int .i64 5, .int .i64 0] 3)).alloc (.cells #[.slice (some ⟨w.heap.size + 1 + 1, 0, none⟩) 2 2, .slice none 0 0] 22)).alloc (.cells #[.int .i64 1, .int .i64 0] 3)) := (((Keep.alloc1 w _).trans k2).trans k3).trans (k4.trans k5)
  clear k2 k3 k4 k5
  go_enter Try.func54, Try.ntmps54
  go_wp2_with (refine wpList_store_row rfl 62 _ _ rfl w.heap.size #[.slice (some ⟨w.heap.size + 1, 0, none⟩) 2 2, .slice (some ⟨w.heap.size + 1 + 1 + 1, 0, none⟩) 2 2, .slice (some ⟨w.heap.size + 1 + 1 + 1 + 1, 0, none⟩) 2 2] rfl rfl _ _ b0 (by kernel_rfl) rfl (by simp [Value.oneCell']) ?_)
  have og := only_row (((((w.alloc (.cells #[.slice none 0 0, .slice none 0 0, .slice none 0 0] 62)).alloc (.cells #[.int .i64 3, .int .i64 1] 3)).alloc (.cells #[.int .i64 5, .int .i64 0] 3)).alloc (.cells #[.slice (some ⟨w.heap.size + 1 + 1, 0, none⟩) 2 2, .slice none 0 0] 22)).alloc (.cells #[.int .i64 1, .int .i64 0] 3)) w.heap.size #[.slice (some ⟨w.heap.size + 1, 0, none⟩) 2 2, .slice (some ⟨w.heap.size + 1 + 1 + 1, 0, none⟩) 2 2, .slice (some ⟨w.heap.size + 1 + 1 + 1 + 1, 0, none⟩) 2 2]
  generalize (((((w.alloc (.cells #[.slice none 0 0, .slice none 0 0, .slice none 0 0] 62)).alloc (.cells #[.int .i64 3, .int .i64 1] 3)).alloc (.cells #[.int .i64 5, .int .i64 0] 3)).alloc (.cells #[.slice (some ⟨w.heap.size + 1 + 1, 0, none⟩) 2 2, .slice none 0 0] 22)).alloc (.cells #[.int .i64 1, .int .i64 0] 3)) = w5 at *
  have c0 := b0.row #[.slice (some ⟨w.heap.size + 1, 0, none⟩) 2 2, .slice (some ⟨w.heap.size + 1 + 1 + 1, 0, none⟩) 2 2, .slice (some ⟨w.heap.size + 1 + 1 + 1 + 1, 0, none⟩) 2 2]
  refine bodyPost_ret (results_cell_row rfl _ _ w.heap.size 62 _ (0, 0) _ rfl c0 Try.underlying62 rfl (by kernel_rfl)) rfl ?_
  have c1 := b1.grown og (fun e => by injection e with e; omega)
  have c2 := b2.grown og (fun e => by injection e with e; omega)
  have c3 := b3.grown og (fun e => by injection e with e; omega)
  have c4 := b4.grown og (fun e => by injection e with e; omega)
  refine ⟨⟨⟨some ⟨w.heap.size + 1, 0, none⟩, 2, [3, 1]⟩, some ⟨w.heap.size + 1 + 1 + 1, 0, none⟩, 2, [⟨some ⟨w.heap.size + 1 + 1, 0, none⟩, 2, [5, 0]⟩, ⟨none, 0, []⟩], ⟨some ⟨w.heap.size + 1 + 1 + 1 + 1, 0, none⟩, 2, [1, 0]⟩⟩, rfl, ?_, rfl, rfl, rfl, kk.grown og (fun k e => by injection e with e; omega)⟩
  refine ⟨⟨⟨c1.rd, (show 2 ≤ 2 by decide), (show 2 ≤ maxLen by decide), wf_all (l := [3, 1]) (by decide)⟩, fun h => by cases h⟩, ⟨c3.rd, (show 2 ≤ 2 by decide), (show 2 ≤ maxLen by decide), fun s h => ?_⟩, (fun h => by cases h), ⟨⟨c4.rd, (show 2 ≤ 2 by decide), (show 2 ≤ maxLen by decide), wf_all (l := [1, 0]) (by decide)⟩, fun h => by cases h⟩⟩
  simp only [List.mem_cons, List.not_mem_nil, or_false] at h
  rcases h with rfl | rfl
  · exact ⟨⟨c2.rd, (show 2 ≤ 2 by decide), (show 2 ≤ maxLen by decide), wf_all (l := [5, 0]) (by decide)⟩, fun h => by cases h⟩
  · exact ⟨⟨Rd.nil _ _, by decide, by decide, fun x h => by cases h⟩, fun _ => rfl⟩

/-- Gains, Put and Get in the ways that laws want. -/
theorem gains_yes (M : Mkt) (w : World) (hM : M.Ok w) (hc : chkM M.r.l (bidsOf M.bs) M.o.l = true) :
    Calls Try.prog 43 #[M.val] w fun e w' => ∃ (g : Nat) (ss : List Sl), e = .returned (.tuple #[.slice (some ⟨g, 0, none⟩) ss.length ss.length, .int .i64 0]) ∧ InR .i64 w' (some ⟨g, 0, none⟩) ss.length ss ∧ bidsOf ss = gainsM M.r.l (bidsOf M.bs) ∧ Keep w w' := by
  refine (gainsM_f M w hM).mono ?_
  intro e w' h
  unfold GainsP at h
  rwa [if_pos hc] at h
theorem gains_no (M : Mkt) (w : World) (hM : M.Ok w) (hc : chkM M.r.l (bidsOf M.bs) M.o.l = false) :
    Calls Try.prog 43 #[M.val] w fun e w' => e = .returned (.tuple #[.slice none 0 0, .int .i64 1]) ∧ Keep w w' := by
  refine (gainsM_f M w hM).mono ?_
  intro e w' h
  unfold GainsP at h
  rwa [if_neg (by rw [hc]; decide)] at h
theorem mput_yes (M : Mkt) (w : World) (hM : M.Ok w) (hc : chkM M.r.l (bidsOf M.bs) M.o.l = true) :
    Calls Try.prog 37 #[M.val] w fun e w' => ∃ A' n, n = (putM M.r.l (bidsOf M.bs) M.o.l).length ∧ e = .returned (.tuple #[.slice A' n n, .int .i64 0]) ∧ Fr 5 w' w.heap.size A' n n (cs .u8 (putM M.r.l (bidsOf M.bs) M.o.l)) ∧ Keep w w' := by
  refine (mput_f M w hM).mono ?_
  intro e w' h
  unfold MPutP at h
  rw [if_pos hc] at h
  obtain ⟨A', h1, h2⟩ := h
  exact ⟨A', _, rfl, h1, h2⟩
theorem mput_no (M : Mkt) (w : World) (hM : M.Ok w) (hc : chkM M.r.l (bidsOf M.bs) M.o.l = false) :
    Calls Try.prog 37 #[M.val] w fun e w' => e = .returned (.tuple #[.slice none 0 0, .int .i64 1]) ∧ Keep w w' := by
  refine (mput_f M w hM).mono ?_
  intro e w' h
  unfold MPutP at h
  rwa [if_neg (by rw [hc]; decide)] at h
theorem getM_yes (A : Option Addr) (c n : Nat) (xs : List Int) (w : World) (ha : Rd w A (cs .u8 xs)) (hb : Bytes xs) (hn : n = xs.length) (hc : n ≤ c) (lc : Len c) {R O : List Int} {bl : List (List Int)} (hg : g4 xs = some (R, bl, O, [])) (hk : chkM R bl O = true) :
    Calls Try.prog 39 #[.slice A n c] w fun e w' => ∃ N : Mkt, e = .returned (.tuple #[N.val, .int .i64 0]) ∧ N.Ok w' ∧ N.r.l = R ∧ bidsOf N.bs = bl ∧ N.o.l = O ∧ N.Own w.heap.size w' ∧ Keep w w' := by
  subst hn
  refine (getM_f A c xs w ha hb hc lc).mono ?_
  intro e w' h
  unfold GetMP at h
  rw [hg] at h
  dsimp only at h
  rw [if_pos ⟨rfl, hk⟩] at h
  obtain ⟨kk, N, h1, h2, h3, h4, h5, h6⟩ := h
  exact ⟨N, h1, h2, h3, h4, h5, h6, kk⟩
theorem getM_short (A : Option Addr) (c n : Nat) (xs : List Int) (w : World) (ha : Rd w A (cs .u8 xs)) (hb : Bytes xs) (hn : n = xs.length) (hc : n ≤ c) (lc : Len c) (hg : g4 xs = none) :
    Calls Try.prog 39 #[.slice A n c] w fun e w' => e = .returned (.tuple #[zeroM, .int .i64 5]) ∧ Keep w w' := by
  subst hn
  refine (getM_f A c xs w ha hb hc lc).mono ?_
  intro e w' h
  unfold GetMP at h
  rw [hg] at h
  exact ⟨h.2, h.1⟩
theorem getM_form (A : Option Addr) (c n : Nat) (xs : List Int) (w : World) (ha : Rd w A (cs .u8 xs)) (hb : Bytes xs) (hn : n = xs.length) (hc : n ≤ c) (lc : Len c) {R O rest : List Int} {bl : List (List Int)} (hg : g4 xs = some (R, bl, O, rest)) (hk : ¬ (rest = [] ∧ chkM R bl O = true)) :
    Calls Try.prog 39 #[.slice A n c] w fun e w' => e = .returned (.tuple #[zeroM, .int .i64 4]) ∧ Keep w w' := by
  subst hn
  refine (getM_f A c xs w ha hb hc lc).mono ?_
  intro e w' h
  unfold GetMP at h
  rw [hg] at h
  dsimp only at h
  rw [if_neg hk] at h
  exact ⟨h.2, h.1⟩
/-- The market of none, as a market. -/
def noM : Mkt := ⟨⟨none, 0, []⟩, none, 0, [], ⟨none, 0, []⟩⟩
theorem noM_ok (w : World) : noM.Ok w := ⟨⟨⟨Rd.nil _ _, Nat.le_refl _, Nat.zero_le _, fun x h => by cases h⟩, fun _ => rfl⟩, ⟨Rd.nil _ _, Nat.le_refl _, Nat.zero_le _, fun s h => by cases h⟩, fun _ => rfl, ⟨⟨Rd.nil _ _, Nat.le_refl _, Nat.zero_le _, fun x h => by cases h⟩, fun _ => rfl⟩⟩
end Go.Proofs.Ytjhmlcbpbmeicaa
