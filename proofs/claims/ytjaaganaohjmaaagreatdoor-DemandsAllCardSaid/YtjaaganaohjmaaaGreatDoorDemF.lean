/-
  CONTRACTS for the laws of the package demands: 'Of' in one word, 'has', 'alive'. Conditions: the slices are no longer than memory lets them be.
-/
import Derived.Test.YtjaaganaohjmaaaGreatDoorDemE
namespace Go.Proofs.YtjaaganaohjmaaaGreatDoor
open Go.RowKit

def ofOk (xs ys : List Int) : Bool := mayP ys ys.length && (decide (xs.length = 0) || chk xs ys.length)
def ofV (xs ys : List Int) : List Int × Bool × Int × Int :=
  if ofOk xs ys then ((best (gs xs ys xs.length)).1, (best (gs xs ys xs.length)).2 == 0, (best (gs xs ys xs.length)).2, 0) else ([], false, 0, 1)

theorem within_all {most : Int} {l : List Int} (h : within most l = true) : ∀ x ∈ l, 0 ≤ x ∧ x ≤ most := by
  unfold within at h
  intro x hx
  have := (List.all_eq_true.1 h) x hx
  simp at this
  omega
theorem mayP_facts {l : List Int} (h : mayP l l.length = true) : 1 ≤ l.length ∧ l.length ≤ 8 ∧ ∀ x ∈ l, 0 ≤ x ∧ x ≤ 2000000 := by
  unfold mayP at h
  simp only [Bool.and_eq_true, decide_eq_true_eq] at h
  exact ⟨by omega, by omega, within_all h.2⟩
theorem chk_facts {l : List Int} {n : Nat} (h : chk l n = true) : l.length = n ∧ ∀ x ∈ l, 0 ≤ x ∧ x ≤ 1000000 := by
  unfold chk at h
  simp only [Bool.and_eq_true, decide_eq_true_eq] at h
  exact ⟨by omega, within_all h.2⟩

/-- What 'Of' leaves. -/
def OfP (xs ys : List Int) (w : World) (e : Ending) (w' : World) : Prop :=
  ∃ (A : Option Addr) (L : List Int) (n : Bool) (g r : Int), e = .returned (.tuple #[.slice A L.length L.length, .bool n, .int .i64 g, .int .i64 r]) ∧ Rd w' A (cs .i64 L) ∧ Keep w w' ∧ ofV xs ys = (L, n, g, r)

/-- .. the items in a row of the call's own. -/
def OfPo (xs ys : List Int) (w : World) (e : Ending) (w' : World) : Prop :=
  ∃ (A : Option Addr) (L : List Int) (n : Bool) (g r : Int), e = .returned (.tuple #[.slice A L.length L.length, .bool n, .int .i64 g, .int .i64 r]) ∧ Fr 3 w' w.heap.size A L.length L.length (cs .i64 L) ∧ Keep w w' ∧ ofV xs ys = (L, n, g, r)

theorem of_own (A B : Option Addr) (ca cb : Nat) (xs ys : List Int) (w : World) (ha : Rd w A (cs .i64 xs)) (la : Len xs.length) (hb : Rd w B (cs .i64 ys)) (lb : Len ys.length) :
    Calls Tryz.prog 93 #[.slice A xs.length ca, .slice B ys.length cb] w (OfPo xs ys w) := by
  have no : ∀ e w', ofOk xs ys = false → OfNo w e w' → OfPo xs ys w e w' := fun e w' hn h => ⟨none, [], false, 0, 1, h.1, Fr.empty _ _ _ _, h.2, by simp [ofV, hn]⟩
  cases hm : mayP ys ys.length with
  | false => exact (of_no1 A B ca cb xs ys w hb lb hm).mono fun e w' h => no e w' (by simp [ofOk, hm]) h
  | true =>
    by_cases hx : 0 < xs.length
    · cases hc : chk xs ys.length with
      | false => exact (of_no2 A B ca cb xs ys w ha la hb lb hm hx hc).mono fun e w' h => no e w' (by simp [ofOk, hm, hc]; intro h; simp [h] at hx) h
      | true =>
        obtain ⟨m1, m8, m3⟩ := mayP_facts hm
        obtain ⟨c1, c2⟩ := chk_facts hc
        refine (of_yes A B ca cb xs ys w ha la hb lb hm (by unfold Reach; omega) (by unfold Reach; omega) (by omega) (fun x h => by have := c2 x h; omega) (fun x h => by have := m3 x h; omega) (by omega) (fun _ => hc)).mono ?_
        rintro e w' ⟨A', rfl, hr, hk⟩
        exact ⟨A', _, _, _, _, rfl, hr, hk, by simp [ofV, ofOk, hm, hc]⟩
    · obtain ⟨m1, m8, m3⟩ := mayP_facts hm
      have hx0 : xs = [] := List.eq_nil_of_length_eq_zero (by omega)
      refine (of_yes A B ca cb xs ys w ha la hb lb hm (by unfold Reach; omega) (by unfold Reach; omega) (by omega) (fun x h => by rw [hx0] at h; cases h) (fun x h => by have := m3 x h; omega) (by omega) (fun h => absurd h hx)).mono ?_
      rintro e w' ⟨A', rfl, hr, hk⟩
      exact ⟨A', _, _, _, _, rfl, hr, hk, by simp [ofV, ofOk, hm, hx0]⟩

theorem of_f (A B : Option Addr) (ca cb : Nat) (xs ys : List Int) (w : World) (ha : Rd w A (cs .i64 xs)) (la : Len xs.length) (hb : Rd w B (cs .i64 ys)) (lb : Len ys.length) :
    Calls Tryz.prog 93 #[.slice A xs.length ca, .slice B ys.length cb] w (OfP xs ys w) :=
  (of_own A B ca cb xs ys w ha la hb lb).mono fun _ _ ⟨A', L, n, g, r, h1, h2, h3, h4⟩ => ⟨A', L, n, g, r, h1, h2.rd, h3, h4⟩

theorem anyEq_take {i : Int} {l : List Int} {k : Nat} {x : Int} (h : (l.take k).any (· == i) = false) (hx : l[k]? = some x) (hp : x ≠ i) : (l.take (k + 1)).any (· == i) = false := by
  rw [List.take_add_one, hx]
  simp only [List.any_append, h, Option.toList, List.any_cons, List.any_nil]
  simp [hp]

/-- Slices that a function builds of constants. -/
theorem Rd.lit (w : World) (vs : List Value) (t : TypeId) : Rd (w.alloc (.cells vs.toArray t)) (some ⟨w.heap.size, 0, none⟩) vs := fun j v hv => by
  refine ⟨_, _, rfl, ?_⟩
  rw [cell_of_row (w.alloc (.cells vs.toArray t)) w.heap.size (0 + j) vs.toArray t (0, 0) (heap_alloc_new w _)]
  simpa using hv

end Go.Proofs.YtjaaganaohjmaaaGreatDoor
