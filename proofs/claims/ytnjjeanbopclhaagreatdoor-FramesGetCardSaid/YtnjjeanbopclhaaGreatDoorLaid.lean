/-
  WHAT THE ROW's CONDITION ON THE LISTED VARIABLES GIVES THE WALKS: the cells of the list of parts. Conditions: those that each theorem states.
-/
import Derived.Test.YtnjjeanbopclhaaGreatDoorFrmB
import Derived.Test.YtnjjeanbopclhaaGreatDoorRows
import Derived.ProofKit
import Derived.LaidMore
import Derived.OpenShut
import Derived.FnData
namespace Go.Proofs.YtnjjeanbopclhaaGreatDoor
open Go.RowKit Go.ChangeShapes

theorem laid_at {P : Program} {w : World} {n : String} {d : DataW Unit} : ∀ {l : List (String × DataW Unit)} {ps : List MemPlace}, DataW.LaidVars P w l ps → (n, d) ∈ l →
    ∃ g t cs fuel p, P.globalNamed n = some g ∧ (P.globals[g]?).map (·.type) = some t ∧ w.var? P n = some cs ∧ DataW.trod (fun _ => ()) P w 0 (fun _ => true) false fuel t cs.toList = some (d, p)
  | [], _, _, h => by cases h
  | (n', d') :: r, ps, hl, h => by
    obtain ⟨g, t, cs, fuel, p, q, h1, h2, h3, h4, h5, -⟩ := hl
    rcases List.mem_cons.1 h with h | h
    · cases h
      exact ⟨g, t, cs, fuel, p, h1, h2, h3, h4⟩
    · exact laid_at h5 h
theorem gParts : Tryz.prog.globalNamed "salesroom/frames.parts" = some 0 := by kernel_rfl
theorem tParts : (Tryz.prog.globals[0]?).map (·.type) = some 84 := by kernel_rfl
theorem partsD : (Rows.laid_salesroom_frames_parts : DataW Unit) = .agg (partsL.map fun u => .lit (.int .i64 u)) := rfl
theorem parts_of_laid {W : World} {l : List (String × DataW Unit)} (hp : (l.filter fun x => x.2.handleName?.isSome) = []) (hm : ("salesroom/frames.parts", Rows.laid_salesroom_frames_parts) ∈ l) (h : laidMetH Tryz.prog l W) : Parts W := by
  unfold laidMetH at h
  rw [hp] at h
  obtain ⟨ps, hl, -, -⟩ := h
  obtain ⟨g, t, cs, fuel, p, h1, h2, h3, h4⟩ := laid_at hl hm
  obtain rfl := Option.some.inj (gParts.symm.trans h1)
  obtain rfl := Option.some.inj (tParts.symm.trans h2)
  obtain ⟨xs, m, rfl, hx, hlen, hn, hel⟩ := DataW.trod_array Tryz.underlying84 h4
  rw [partsD] at hx
  simp only [Prod.mk.injEq, DataW.agg.injEq] at hx
  have c1 : Tryz.prog.cellsOf 3 = 1 := by kernel_rfl
  have c11 : Tryz.prog.cellsOf 84 = 11 := by kernel_rfl
  rw [c11] at hlen
  rw [c1] at hel
  intro j u hu
  have hj : j < 11 := by
    have := (List.getElem?_eq_some_iff.1 hu).1
    simpa [partsL] using this
  rw [World.var?_cell gParts h3 j]
  have hj2 : j < cs.toList.length := by omega
  have hcs : (cs.toList.drop (j * 1)).take 1 = [cs.toList[j]] := by
    rw [Nat.mul_one, List.drop_eq_getElem_cons hj2]
    rfl
  have hxj : xs[j]? = some (xs[j]'(by omega)) := List.getElem?_eq_getElem _
  have he := hel j hj
  rw [hcs, hxj] at he
  obtain ⟨k, e1, e2, -⟩ := DataW.trod_int Tryz.underlying3 he
  have hv : (xs.map (·.1))[j]? = some (DataW.lit (.int .i64 k)) := by rw [List.getElem?_map, hxj, e2]; rfl
  rw [← hx.1, List.getElem?_map, hu] at hv
  obtain rfl : u = k := by simpa using hv
  have : cs[j]? = some cs.toList[j] := by rw [← Array.getElem?_toList]; exact List.getElem?_eq_getElem hj2
  rw [this]
  simp only [List.cons.injEq, and_true] at e1
  rw [e1]
end Go.Proofs.YtnjjeanbopclhaaGreatDoor
