/-
  HOW ARGUMENTS THAT CAME IN ARE OPENED: a slice of integers reads as a list; each number fits its kind. Plain theorems over any world. Conditions: those that each theorem states.
-/
import Derived.Test.YtnjjeanbopclhaaGreatDoorSame
namespace Go.Proofs.YtnjjeanbopclhaaGreatDoor
open Go.RowKit

/-- What the row's step hands of a slice of integers that came in (the shell's own word). -/
def IsRow (k : IntKind) (w : World) (a : Option Addr) (len cap : Nat) (zs : List Int) : Prop :=
  (a = none ∧ len = 0 ∧ cap = 0 ∧ zs = []) ∨
  ∃ x, a = some x ∧ len ≤ cap ∧ cap ≤ maxLen ∧ zs.length = cap ∧ (∀ i, i < zs.length → w.cell? (x.add i) = some (.int k (zs.getD i 0))) ∧ ∀ n ∈ zs, (Lit.int k n).wf = true

/-- A slice of integers that came in: it reads as the list xs; each number fits its kind. -/
structure In (k : IntKind) (w : World) (a : Option Addr) (c : Nat) (xs : List Int) : Prop where
  rd : Rd w a (cs k xs)
  cap : xs.length ≤ c
  max : c ≤ maxLen
  wf : ∀ x ∈ xs, (Lit.int k x).wf = true

theorem IsRow.in_ {k : IntKind} {w : World} {a : Option Addr} {len cap : Nat} {zs : List Int} (h : IsRow k w a len cap zs) : ∃ xs, len = xs.length ∧ In k w a cap xs := by
  rcases h with ⟨rfl, rfl, rfl, rfl⟩ | ⟨x, rfl, hl, hm, hz, hcell, hwz⟩
  · exact ⟨[], rfl, ⟨Rd.nil _ _, Nat.le_refl _, Nat.zero_le _, fun x h => by simp at h⟩⟩
  · refine ⟨zs.take len, by simp; omega, ⟨?_, by simp; omega, hm, fun x hx => hwz x (List.mem_of_mem_take hx)⟩⟩
    have h := Rd.of_cells (w := w) (ad := x) (vs := cs k zs) fun j u hu => by
      have hj : j < zs.length := by have := (List.getElem?_eq_some_iff.1 hu).1; rwa [length_cs] at this
      rw [hcell j hj]
      simp [cs_at, List.getD, hj] at hu ⊢
      exact hu
    have := h.take len
    rwa [cs_take] at this

section
variable {k : IntKind} {w : World} {a : Option Addr} {c : Nat} {xs : List Int}
theorem In.len (h : In k w a c xs) : (xs.length : Int) ≤ 9223372036854775807 := by
  have h1 := h.cap
  have h2 := h.max
  unfold maxLen at h2
  omega
theorem In.capI (h : In k w a c xs) : (c : Int) ≤ 9223372036854775807 := by
  have h2 := h.max
  unfold maxLen at h2
  omega
theorem In.bd_i32 (h : In .i32 w a c xs) {j : Nat} {x : Int} (hx : xs[j]? = some x) : -2147483648 ≤ x ∧ x ≤ 2147483647 := by
  have := h.wf x (List.mem_of_getElem? hx)
  simp [Lit.wf, IntKind.min, IntKind.max, IntKind.signed, IntKind.bits] at this
  omega
theorem In.bytes (h : In .u8 w a c xs) : Bytes xs := fun x hx => by
  have := h.wf x hx
  simp [Lit.wf, IntKind.min, IntKind.max, IntKind.signed, IntKind.bits] at this
  omega
end
end Go.Proofs.YtnjjeanbopclhaaGreatDoor
