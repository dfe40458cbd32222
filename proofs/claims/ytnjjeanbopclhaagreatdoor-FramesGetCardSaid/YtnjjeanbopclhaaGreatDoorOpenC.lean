/-
  WORDS: what came in stays so where all is kept. Plain theorems. Conditions: those that each theorem states.
-/
import Derived.Test.YtnjjeanbopclhaaGreatDoorOpenB
import Derived.Test.YtnjjeanbopclhaaGreatDoorAid
namespace Go.Proofs.YtnjjeanbopclhaaGreatDoor
open Go.RowKit

theorem In.keep {k : IntKind} {w w' : World} {a : Option Addr} {c : Nat} {xs : List Int} (h : In k w a c xs) (hk : Keep w w') : In k w' a c xs := ⟨h.rd.keep hk, h.cap, h.max, h.wf⟩
theorem Sl.Ok.keep {k : IntKind} {w w' : World} {s : Sl} (h : s.Ok k w) (hk : Keep w w') : s.Ok k w' := ⟨h.inn.keep hk, h.nil⟩
theorem Sl.Ok.rd {k : IntKind} {w : World} {s : Sl} (h : s.Ok k w) : Rd w s.a (cs k s.l) := h.inn.rd
theorem Sl.Ok.len {k : IntKind} {w : World} {s : Sl} (h : s.Ok k w) : Len s.l.length := h.inn.lenL
theorem InR.keep {k : IntKind} {w w' : World} {a : Option Addr} {c : Nat} {ss : List Sl} (h : InR k w a c ss) (hk : Keep w w') : InR k w' a c ss := ⟨h.rd.keep hk, h.cap, h.max, fun s hs => (h.ok s hs).keep hk⟩
theorem InR.len {k : IntKind} {w : World} {a : Option Addr} {c : Nat} {ss : List Sl} (h : InR k w a c ss) : Len ss.length := by
  have h1 := h.cap
  have h2 := h.max
  unfold maxLen at h2
  unfold Len
  omega
theorem InR.at_ {k : IntKind} {w : World} {a : Option Addr} {c : Nat} {ss : List Sl} (h : InR k w a c ss) {j : Nat} (hj : j < ss.length) :
    ∃ b off s, a = some ⟨b, off, none⟩ ∧ ss[j]? = some s ∧ w.cell? ⟨b, off + j, none⟩ = some (.slice s.a s.l.length s.c) ∧ s.Ok k w := by
  obtain ⟨b, off, e, hc⟩ := h.rd j (ss[j].val) (by rw [List.getElem?_map, List.getElem?_eq_getElem hj]; rfl)
  exact ⟨b, off, ss[j], e, List.getElem?_eq_getElem hj, hc, h.ok _ (List.getElem_mem hj)⟩

end Go.Proofs.YtnjjeanbopclhaaGreatDoor
