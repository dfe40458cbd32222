/-
  CONTRACTS for the package markets: 'ordered': it answers whether a list holds each number below a count once; nothing that was there is turned. Conditions: the count is 1 to 8; the slice is no longer than memory lets it be.
-/
import Derived.Test.YtjaaganaohjmaaaGreatDoorDemA
import Derived.Laws.StructEq
import Derived.Laws.Rows
import Derived.ChangeKeysEq
namespace Go.Proofs.YtjaaganaohjmaaaGreatDoor
open Go.RowKit

/-- Two rows of integers, compared one by one. -/
theorem eqItems_ints {P : Program} (d : Nat) (e : TypeId) (he : P.underlying e = some (.int .i64)) (xs ys : List Int) (w : World) : ∀ is : List Nat, (∀ i ∈ is, i < xs.length ∧ i < ys.length) →
    (Op.eqItems (d + 1) e 1 (cs .i64 xs).toArray (cs .i64 ys).toArray is).run P w = .ok (is.all fun i => xs.getD i 0 == ys.getD i 0) w
  | [], _ => by simp [Op.eqItems]
  | i :: is, h => by
    obtain ⟨h1, h2⟩ := h i List.mem_cons_self
    have p1 : (part e (cs .i64 xs).toArray (i * 1)).run P w = .ok (.int .i64 (xs.getD i 0)) w := by
      simp [part, isAgg, run_underlying he, cs, List.getD, List.getElem?_eq_getElem h1]
    have p2 : (part e (cs .i64 ys).toArray (i * 1)).run P w = .ok (.int .i64 (ys.getD i 0)) w := by
      simp [part, isAgg, run_underlying he, cs, List.getD, List.getElem?_eq_getElem h2]
    have p3 := run_equalIn_int (P := P) w d e .i64 .i64 (xs.getD i 0) (ys.getD i 0) he
    have ih := eqItems_ints d e he xs ys w is fun j hj => h j (List.mem_cons_of_mem _ hj)
    simp only [Op.eqItems, Sem.run_bind, p1, p2, p3, Result.andThen_ok, List.all_cons]
    cases hb : (xs.getD i 0 == ys.getD i 0) with
    | true => simpa using ih
    | false => simp
theorem all_range_ints {xs ys : List Int} (h : xs.length = ys.length) : ((List.range xs.length).all fun i => xs.getD i 0 == ys.getD i 0) = decide (xs = ys) := by
  rw [Bool.eq_iff_iff, List.all_eq_true, decide_eq_true_eq]
  constructor
  · intro hh
    refine List.ext_getElem h fun i h1 h2 => ?_
    have := hh i (List.mem_range.2 h1)
    rw [List.getD_eq_getElem?_getD, List.getElem?_eq_getElem h1, List.getD_eq_getElem?_getD, List.getElem?_eq_getElem h2] at this
    simpa using this
  · rintro rfl i _
    simp
theorem eql_eight (xs ys : List Int) (hx : xs.length = 8) (hy : ys.length = 8) (w : World) : (Op.equalIn 10000 167 (.agg (cs .i64 xs).toArray) (.agg (cs .i64 ys).toArray)).run Tryz.prog w = .ok (decide (xs = ys)) w := by
  obtain ⟨i, hi, _, hsz, _⟩ := info_parts infoInt
  have hc : Tryz.prog.cellsOf 3 = 1 := by kernel_rfl
  rw [show (10000 : Nat) = 9999 + 1 from rfl, run_equalIn_array w 9999 _ _ Tryz.underlying167 hi, hc, show (9999 : Nat) = 9998 + 1 from rfl, eqItems_ints 9998 3 Tryz.underlying3 xs ys w (List.range 8) (fun i hi => by have := List.mem_range.1 hi; omega)]
  rw [← hx, all_range_ints (hx.trans hy.symm)]

/-- A row of eight integers that a function has in memory. -/
def Eight (w : World) (g : Nat) (f : Nat → Int) : Prop := w.heap[g]? = some (.cells (cs .i64 ((List.range 8).map f)).toArray 167 (0, 0))
section
variable {w w' : World} {g : Nat} {f : Nat → Int}
theorem Eight.lt (h : Eight w g f) : g < w.heap.size := (Array.getElem?_eq_some_iff.1 h).1
theorem Eight.cell (h : Eight w g f) {i : Nat} (hi : i < 8) : w.cell? ⟨g, i, none⟩ = some (.int .i64 (f i)) := by
  rw [cell_of_row w g i _ _ (0, 0) h]
  simp [cs, hi]
theorem Eight.frozen (h : Eight w g f) (i : Nat) : w.frozen? ⟨g, i, none⟩ = false := frozen_of_row w g i _ _ h
theorem Eight.set (h : Eight w g f) (i : Nat) (v : Int) : Eight (w.setCell ⟨g, i, none⟩ (.int .i64 v)) g (fun j => if j = i then v else f j) := by
  unfold Eight
  rw [heap_setCell_same w g i _ _ _ h]
  congr 2
  rw [← Array.toList_inj]
  simp only [Array.toList_setIfInBounds, cs]
  rw [← List.map_set]
  congr 1
  refine List.ext_getElem (by simp) fun j h1 h2 => ?_
  rw [List.getElem_set]
  simp only [List.getElem_map, List.getElem_range]
  by_cases e : i = j
  · subst e
    simp
  · rw [if_neg e, if_neg (fun h => e h.symm)]
theorem Eight.far (h : Eight w g f) {p : Addr} (hp : p.block ≠ g) (u : Value) : Eight (w.setCell p u) g f := (Below.heap_setCell w p u g (Ne.symm hp)).trans h
theorem Eight.keep (h : Eight w g f) (hk : Keep w w') : Eight w' g f := hk.heap h
theorem Eight.congr {f' : Nat → Int} (h : Eight w g f) (he : ∀ i, i < 8 → f i = f' i) : Eight w g f' := by
  unfold Eight at h ⊢
  rw [h, List.map_congr_left (fun i hi => he i (List.mem_range.1 hi))]
end

/-- Each of so many, once. -/
def ordB (l : List Int) (m : Nat) : Bool := (l.all fun x => decide (0 ≤ x) && decide (x < m)) && decide (∀ i, i < m → l.count (i : Int) = 1)
def onceF (m : Nat) (i : Nat) : Int := if i < m then 1 else 0
def timesF (l : List Int) (i : Nat) : Int := (l.count (i : Int) : Int)
theorem timesF_snoc (l : List Int) (k : Nat) (n : Nat) (h : l[k]? = some (n : Int)) (i : Nat) : timesF (l.take (k + 1)) i = if i = n then timesF (l.take k) n + 1 else timesF (l.take k) i := by
  unfold timesF
  rw [List.take_add_one, h, List.count_append]
  simp only [Option.toList, List.count_singleton]
  by_cases e : i = n
  · subst e
    simp
  · rw [if_neg e]
    have : ((n : Int) == (i : Int)) = false := by simp; omega
    simp [this]
theorem ordB_no {l : List Int} {m k : Nat} {x : Int} (h : l[k]? = some x) (hx : x < 0 ∨ (m : Int) ≤ x) : ordB l m = false := by
  unfold ordB
  rw [Bool.and_eq_false_iff]
  left
  rw [List.all_eq_false]
  exact ⟨x, List.mem_of_getElem? h, by simp; omega⟩
theorem ordB_eq {l : List Int} {m : Nat} (hm : m ≤ 8) (hall : ∀ x ∈ l, 0 ≤ x ∧ x < m) : decide ((List.range 8).map (timesF l) = (List.range 8).map (onceF m)) = ordB l m := by
  have h1 : (l.all fun x => decide (0 ≤ x) && decide (x < m)) = true := by
    rw [List.all_eq_true]
    intro x hx
    have := hall x hx
    simp
    omega
  unfold ordB
  rw [h1, Bool.true_and, Bool.eq_iff_iff, decide_eq_true_eq, decide_eq_true_eq, List.map_inj_left]
  constructor
  · intro h i hi
    have := h i (List.mem_range.2 (by omega))
    unfold timesF onceF at this
    rw [if_pos hi] at this
    omega
  · intro h i hi
    have hi8 := List.mem_range.1 hi
    unfold timesF onceF
    by_cases e : i < m
    · rw [if_pos e, h i e]
      rfl
    · rw [if_neg e, List.count_eq_zero.2 (fun hm' => by have := hall _ hm'; omega)]
      rfl
end Go.Proofs.YtjaaganaohjmaaaGreatDoor
