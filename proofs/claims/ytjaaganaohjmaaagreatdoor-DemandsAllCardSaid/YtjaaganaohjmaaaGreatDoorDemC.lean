/-
  CONTRACTS for the package demands: the library's Clip of a slice of ints; the closure that 'Of' defers. Conditions: those that each theorem states.
-/
import Derived.Test.YtjaaganaohjmaaaGreatDoorDemB
import Derived.Deep.RegionWith
import Derived.WalkLawsBesides
namespace Go.Proofs.YtjaaganaohjmaaaGreatDoor
open Go.RowKit

set_option maxRecDepth 100000 in
theorem clip_f (A : Option Addr) (m c : Nat) (w : World) (hm : m ≤ c) (lm : Len c) :
    Calls Tryz.prog 134 #[.slice A m c] w fun e w' => e = .returned (.slice A m m) ∧ w = w' := by
  have lm' := lm.le
  have hm' : (m : Int) ≤ c := by omega
  go_enter Tryz.func134, Tryz.ntmps134
  go_wp2
  go_ret
  exact ⟨rfl, rfl⟩

set_option maxRecDepth 100000 in
set_option maxHeartbeats 2000000 in
theorem of1_f (n Bi Bg Bn m c : Nat) (A : Option Addr) (g : Int) (b : Bool) (w : World) (hm : m ≤ c) (lm : Len c)
    (hi : Boxed w Bi 26 (.slice A m c)) (hg : Boxed w Bg 3 (.int .i64 g)) (hb : Boxed w Bn 4 (.bool b)) (hig : Bi ≠ Bg) (hin : Bi ≠ Bn) :
    CallsDIn Fence.wide n Tryz.prog 133 #[.pointer (some ⟨Bi, 0, none⟩), .pointer (some ⟨Bg, 0, none⟩), .pointer (some ⟨Bn, 0, none⟩)] .returning w fun e u' w' =>
      u' = .returning ∧ (e = .returned (.tuple #[]) ∧ w' = ((w.setCell ⟨Bi, 0, none⟩ (.slice A m m)).setCell ⟨Bn, 0, none⟩ (.bool (g == 0))).drew) := by
  refine callsDIn_of_wp Tryz.func133 rfl trivial ?_ rfl
  rw [wpIn_wide]
  simp only [Tryz.ntmps133, List.size_toArray, List.length_cons, List.length_nil, Nat.reduceAdd, Nat.reduceSub, Array.replicate_succ, Array.replicate_zero, List.push_toArray, List.append_toArray, List.nil_append, List.cons_append]
  have ci := hi.cell
  have cg := hg.cell
  have cb := hb.cell
  have fi := hi.frozen
  have fb := hb.frozen
  have cb2 : ∀ v, (w.setCell ⟨Bi, 0, none⟩ v).cell? ⟨Bn, 0, none⟩ = some (.bool b) := fun v => (World.cell?_setCell_other w _ _ v (by intro h; injection h with h; exact hin h)).trans cb
  have cg2 : ∀ v, (w.setCell ⟨Bi, 0, none⟩ v).cell? ⟨Bg, 0, none⟩ = some (.int .i64 g) := fun v => (World.cell?_setCell_other w _ _ v (by intro h; injection h with h; exact hig h)).trans cg
  clear hi hg hb
  go_wp2_with fail
  go_region_with (go_at_call 134; refine (clip_f A m c _ hm lm).mono ?_; rintro e w' ⟨rfl, rfl⟩)
  all_goals (go_end0; exact ⟨rfl, rfl⟩)
end Go.Proofs.YtjaaganaohjmaaaGreatDoor
