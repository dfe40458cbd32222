/-
  HOW TWO FRAMES AND TWO REPLIES IN ONE STRUCT, that came in, are opened. Conditions: those that each theorem states.
-/
import Derived.Test.YtjhbpocffckghaaDoorOpenF
namespace Go.Proofs.YtjhbpocffckghaaDoor
open Go.RowKit Go.ChangeShapes Go.WideShapes Go.Deep Go.Joins

/-- Two frames and two replies that came in. -/
def IsUnl (w : World) (v : Value) : Prop := ∃ f g : Frm, ∃ r s : Rpl, v = .agg (f.cells ++ (g.cells ++ (r.cells ++ s.cells))).toArray ∧ f.Ok w ∧ g.Ok w ∧ r.Ok w ∧ s.Ok w
section
variable {H : Type} {enc : TypeId × Value → H} {w : World} {r : Go.Reach} {b0 : Nat} {v : Value} {d : DataW H} {p : List MemPlace}
set_option maxRecDepth 100000 in
theorem open_unl (hv : Value.okWide Tryd.prog w r b0 39 v) (h : DataW.Trod enc Tryd.prog w 0 (fun _ => true) true 39 v d p) : IsUnl w v := by
  obtain ⟨cs, rfl, -⟩ := okWide_struct Tryd.underlying39 hv
  obtain ⟨fuel, hf⟩ := h
  obtain ⟨l⟩ := cs
  simp only [Value.cells] at hf
  obtain ⟨xs, n, rfl, hx1, hl, hx, hi⟩ := DataW.trod_struct Tryd.underlying39 hf
  have cU : Tryd.prog.cellsOf 39 = 32 := by kernel_rfl
  have cF : Tryd.prog.cellsOf 28 = 6 := by kernel_rfl
  have cR : Tryd.prog.cellsOf 37 = 10 := by kernel_rfl
  rw [cU] at hl
  obtain ⟨y0, y1, y2, y3, rfl⟩ : ∃ y0 y1 y2 y3, xs = [y0, y1, y2, y3] := by
    match xs, hx with
    | [y0, y1, y2, y3], _ => exact ⟨_, _, _, _, rfl⟩
  have h0 : DataW.trod enc Tryd.prog w 0 (fun _ => true) true n 28 ((l.drop 0).take (Tryd.prog.cellsOf 28)) = some y0 := hi 0 _ rfl
  have h1 : DataW.trod enc Tryd.prog w 0 (fun _ => true) true n 28 ((l.drop 6).take (Tryd.prog.cellsOf 28)) = some y1 := hi 1 _ rfl
  have h2 : DataW.trod enc Tryd.prog w 0 (fun _ => true) true n 37 ((l.drop 12).take (Tryd.prog.cellsOf 37)) = some y2 := hi 2 _ rfl
  have h3 : DataW.trod enc Tryd.prog w 0 (fun _ => true) true n 37 ((l.drop 22).take (Tryd.prog.cellsOf 37)) = some y3 := hi 3 _ rfl
  rw [cF] at h0 h1
  rw [cR] at h2 h3
  obtain ⟨f, e0, o0, -⟩ := trod_frm h0
  obtain ⟨g, e1, o1, -⟩ := trod_frm h1
  obtain ⟨r', e2, o2, -⟩ := trod_rpl h2
  obtain ⟨s, e3, o3, -⟩ := trod_rpl h3
  refine ⟨f, g, r', s, ?_, o0, o1, o2, o3⟩
  have e : l = f.cells ++ (g.cells ++ (r'.cells ++ s.cells)) := by
    rw [← e0, ← e1, ← e2, ← e3, List.take_of_length_le (l := l.drop 22) (by rw [List.length_drop]; omega)]
    conv => lhs; rw [← List.take_append_drop 6 l, ← List.take_append_drop 6 (l.drop 6), List.drop_drop, ← List.take_append_drop 10 (l.drop 12), List.drop_drop]
    rfl
  rw [← e]
end
end Go.Proofs.YtjhbpocffckghaaDoor
