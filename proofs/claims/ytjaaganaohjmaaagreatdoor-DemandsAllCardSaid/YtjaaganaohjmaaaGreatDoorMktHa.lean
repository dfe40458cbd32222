/-
  WORDS on memory and markets: whole rows; a market that is the call's own. Plain theorems. Conditions: those that each theorem states.
-/
import Derived.Test.YtjaaganaohjmaaaGreatDoorSameL
import Derived.Test.YtjaaganaohjmaaaGreatDoorPutM
import Derived.Test.YtjaaganaohjmaaaGreatDoorBut
import Derived.Test.YtjaaganaohjmaaaGreatDoorOwnAll
namespace Go.Proofs.YtjaaganaohjmaaaGreatDoor
open Go.RowKit

theorem len_max {n : Nat} (h : n ≤ maxLen) : Len n := by
  unfold maxLen at h
  unfold Len
  omega
theorem Blk.row {w : World} {g : Nat} {t : TypeId} {l : List Value} (h : Blk w g t l) (cs : Array Value) : Blk (w.setRow g cs) g t cs.toList := by
  unfold Blk
  rw [setRow_heap w g _ cs t (0, 0) h]
theorem only_row (w : World) (g : Nat) (cs : Array Value) : w.grownBy (w.setRow g cs) (some g) :=
  ⟨rfl, rfl, rfl, by rw [setRow_size]; exact Nat.le_refl _, fun i hi hne => by
    unfold World.setRow
    simp only
    rw [Array.getElem?_modify, if_neg (fun e => hne (by rw [e]))]⟩

theorem Blk.ne {w : World} {g g' : Nat} {t t' : TypeId} {l l' : List Value} (h : Blk w g t l) (h' : Blk w g' t' l') (ht : t ≠ t') : g ≠ g' := by
  rintro rfl
  unfold Blk at h h'
  rw [h] at h'
  injection h' with h'
  injection h' with _ h'
  exact ht h'
theorem row_leaf {w1 v : World} {gO gB r o : Nat} {A1 A2 : Option Addr} {l B R O : List Value} (go : w1.heap.size ≤ gO) (bO : Blk v gO 65 l) (bB : Blk v gB 26 B)
    (fR : Fr 3 v w1.heap.size A1 r r R) (fO : Fr 3 v w1.heap.size A2 o o O) (kk : Keep w1 v) (cs : Array Value) :
    Blk (v.setRow gO cs) gO 65 cs.toList ∧ Blk (v.setRow gO cs) gB 26 B ∧ Fr 3 (v.setRow gO cs) w1.heap.size A1 r r R ∧ Fr 3 (v.setRow gO cs) w1.heap.size A2 o o O ∧ Keep w1 (v.setRow gO cs) := by
  have hg := only_row v gO cs
  have h1 : 3 ≠ 65 := by decide
  refine ⟨bO.row cs, bB.grown hg (fun e => ?_), fR.grown hg (fun k hk e => ?_), fO.grown hg (fun k hk e => ?_), kk.grown hg (fun k e => ?_)⟩
  · injection e with e
    exact bB.ne bO (by decide) e
  · injection e with e
    exact fR.own_ne bO h1 k hk e
  · injection e with e
    exact fO.own_ne bO h1 k hk e
  · injection e with e
    omega

theorem ordB_len {l : List Int} {m : Nat} (h : ordB l m = true) : l.length = m := by
  unfold ordB at h
  simp only [Bool.and_eq_true, List.all_eq_true, decide_eq_true_eq] at h
  obtain ⟨h1, h2⟩ := h
  have hn : ((List.range m).map (fun i : Nat => (i : Int))).Nodup := by
    rw [List.nodup_iff_pairwise_ne, List.pairwise_map]
    exact List.Pairwise.imp (fun h e => h (by omega)) (List.nodup_iff_pairwise_ne.1 List.nodup_range)
  have hp : l.Perm ((List.range m).map (fun i : Nat => (i : Int))) := by
    rw [List.perm_iff_count]
    intro a
    rw [hn.count]
    by_cases ha : 0 ≤ a ∧ a < m
    · rw [if_pos (List.mem_map.2 ⟨a.toNat, List.mem_range.2 (by omega), by omega⟩)]
      have := h2 a.toNat (by omega)
      rwa [show ((a.toNat : Nat) : Int) = a by omega] at this
    · rw [if_neg (fun h => by
        obtain ⟨i, hi, rfl⟩ := List.mem_map.1 h
        rw [List.mem_range] at hi
        omega)]
      exact List.count_eq_zero_of_not_mem (fun h => ha (h1 a h))
  have := hp.length_eq
  simpa using this
theorem chkM_few {M : Mkt} (h : chkM M.r.l (bidsOf M.bs) M.o.l = true) : M.Few := by
  obtain ⟨m1, m2, m3, m4⟩ := chkM_facts h
  obtain ⟨_, pb⟩ := chkM_bids h
  have ho : ordB M.o.l (bidsOf M.bs).length = true := by
    unfold chkM at h
    simp only [Bool.and_eq_true] at h
    exact h.1.2
  refine ⟨by omega, fun s hs => ?_, by rw [ordB_len ho]; omega⟩
  rcases pb s.l (List.mem_map.2 ⟨s, hs, rfl⟩) with h0 | h0 <;> omega
/-- A market that is the call's own. -/
structure Mkt.Own (base : Nat) (w : World) (N : Mkt) : Prop where
  r : Fr 3 w base N.r.a N.r.l.length N.r.c (cs .i64 N.r.l)
  g : ∃ gB, N.ba = some ⟨gB, 0, none⟩ ∧ base ≤ gB ∧ Blk w gB 26 (N.bs.map Sl.val)
  c : N.bc = N.bs.length
  b : ∀ s ∈ N.bs, Fr 3 w base s.a s.l.length s.c (cs .i64 s.l)
  o : Fr 3 w base N.o.a N.o.l.length N.o.c (cs .i64 N.o.l)
end Go.Proofs.YtjaaganaohjmaaaGreatDoor
