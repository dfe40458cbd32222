/-
  CONTRACTS for the package demands: 'Of': what it answers where the prices, or the bid, may not be. Conditions: the slices are no longer than memory lets them be.
-/
import Derived.Test.YtjaaganaohjmaaaGreatDoorDemC
namespace Go.Proofs.YtjaaganaohjmaaaGreatDoor
open Go.RowKit

/-- Of's answer where it refuses. -/
def OfNo (w : World) (e : Ending) (w' : World) : Prop := e = .returned (.tuple #[.slice none 0 0, .bool false, .int .i64 0, .int .i64 1]) ∧ Keep w w'

/-- The world behind the function's first three boxes. -/
def boxes (w : World) : World := ((w.alloc (.cells #[.slice none 0 0] 26)).alloc (.cells #[.bool false] 4)).alloc (.cells #[.int .i64 0] 3)
theorem boxes_keep (w : World) : Keep w (boxes w) := (((Keep.refl w).alloc _).alloc _).alloc _
theorem boxes_size (w : World) : (boxes w).heap.size = w.heap.size + 3 := by simp [boxes]
theorem boxes_items (w : World) : Boxed (boxes w) w.heap.size 26 (.slice none 0 0) := ((Boxed.new w _ _).alloc _).alloc _
theorem boxes_none (w : World) : Boxed (boxes w) (w.heap.size + 1) 4 (.bool false) := by
  have h := Boxed.new (w.alloc (.cells #[.slice none 0 0] 26)) 4 (.bool false)
  rw [World.size_alloc] at h
  exact h.alloc _
theorem boxes_gain (w : World) : Boxed (boxes w) (w.heap.size + 2) 3 (.int .i64 0) := by
  have h := Boxed.new ((w.alloc (.cells #[.slice none 0 0] 26)).alloc (.cells #[.bool false] 4)) 3 (.int .i64 0)
  rw [World.size_alloc, World.size_alloc] at h
  exact h

/-- The function's results, read off its boxes. -/
theorem of_results {fn : Func} {tmps : Array Value} {w : World} {B1 B2 B3 : Nat} {v1 v2 v3 : Value} (h : fn.results = #[ResultVar.cell 4 26, ResultVar.cell 5 4, ResultVar.cell 6 3, ResultVar.tmp 7])
    (h1 : Boxed w B1 26 v1) (h2 : Boxed w B2 4 v2) (h3 : Boxed w B3 3 v3) (t1 : tmps[4]?.getD undef = .pointer (some ⟨B1, 0, none⟩)) (t2 : tmps[5]?.getD undef = .pointer (some ⟨B2, 0, none⟩)) (t3 : tmps[6]?.getD undef = .pointer (some ⟨B3, 0, none⟩)) :
    (results fn tmps).run Tryz.prog w = .ok (.tuple #[v1, v2, v3, tmps.getD 7 undef]) w := by
  have c1 := h1.cell
  have c2 := h2.cell
  have c3 := h3.cell
  simp [results, h, t1, t2, t3, c1, c2, c3, go_sem]

set_option maxRecDepth 100000 in
set_option maxHeartbeats 2000000 in
theorem of_no1 (A B : Option Addr) (ca cb : Nat) (xs ys : List Int) (w : World) (hb : Rd w B (cs .i64 ys)) (lb : Len ys.length) (hm : mayP ys ys.length = false) :
    Calls Tryz.prog 93 #[.slice A xs.length ca, .slice B ys.length cb] w (OfNo w) := by
  have lb' := lb.le
  refine (callsIn_wide (n := 9)).1 (callsIn_of_wp_marks Tryz.func93 rfl trivial (wpIn_wide.2 ?_) rfl)
  simp only [Tryz.ntmps93, List.size_toArray, List.length_cons, List.length_nil, Nat.reduceAdd, Nat.reduceSub, Array.replicate_succ, Array.replicate_zero, List.push_toArray, List.append_toArray, List.nil_append, List.cons_append]
  have ci := (boxes_items w).cell
  have fi := (boxes_items w).frozen
  have cn := (boxes_none w).cell
  have fn := (boxes_none w).frozen
  have cg := (boxes_gain w).cell
  have fg := (boxes_gain w).frozen
  have HM := Lib.hid hm
  clear hm
  go_wp2_with fail
  refine (may_f B cb ys _ _ (hb.keep (boxes_keep w)) lb).mono ?_
  rintro e w1 ⟨he, m, rfl⟩
  rw [HM.out] at he
  subst he
  go_wp2_with fail
  have bi : Boxed ((boxes w).drewN m) w.heap.size 26 (.slice none 0 0) := boxes_items w
  have bn : Boxed ((boxes w).drewN m) (w.heap.size + 1) 4 (.bool false) := boxes_none w
  have bg : Boxed ((boxes w).drewN m) (w.heap.size + 1 + 1) 3 (.int .i64 0) := boxes_gain w
  refine bodyPostM_ret (of_results (fn := Tryz.f93) rfl (((bi.set _).other (by omega) _).other (by omega) _) (((bn.other (by omega) _).set _).other (by omega) _) (((bg.other (by omega) _).other (by omega) _).set _) rfl rfl rfl) rfl ⟨rfl, ?_⟩
  exact ((((boxes_keep w).drewN m).setCell (by simp) _).setCell (by simp) _).setCell (by simp; omega) _

set_option maxRecDepth 100000 in
set_option maxHeartbeats 4000000 in
theorem of_no2 (A B : Option Addr) (ca cb : Nat) (xs ys : List Int) (w : World) (ha : Rd w A (cs .i64 xs)) (la : Len xs.length) (hb : Rd w B (cs .i64 ys)) (lb : Len ys.length) (hm : mayP ys ys.length = true) (hx : 0 < xs.length) (hc : chk xs ys.length = false) :
    Calls Tryz.prog 93 #[.slice A xs.length ca, .slice B ys.length cb] w (OfNo w) := by
  have lb' := lb.le
  have la' := la.le
  refine (callsIn_wide (n := 9)).1 (callsIn_of_wp_marks Tryz.func93 rfl trivial (wpIn_wide.2 ?_) rfl)
  simp only [Tryz.ntmps93, List.size_toArray, List.length_cons, List.length_nil, Nat.reduceAdd, Nat.reduceSub, Array.replicate_succ, Array.replicate_zero, List.push_toArray, List.append_toArray, List.nil_append, List.cons_append]
  have HM := Lib.hid hm
  clear hm
  have HC := Lib.hid hc
  clear hc
  go_wp2_with fail
  refine (may_f B cb ys _ _ (hb.keep (boxes_keep w)) lb).mono ?_
  rintro e w1 ⟨he, m, rfl⟩
  rw [HM.out] at he
  subst he
  go_wp2_with fail
  refine (check_f A ca xs _ _ ((ha.keep (boxes_keep w)).keep ((Keep.refl _).drewN m)) la (WalkArith.wf_i64 (by omega))).mono ?_
  rintro e w2 ⟨he, k2⟩
  rw [HC.out] at he
  subst he
  have bi : Boxed w2 w.heap.size 26 (.slice none 0 0) := k2.boxed (boxes_items w)
  have bn : Boxed w2 (w.heap.size + 1) 4 (.bool false) := k2.boxed (boxes_none w)
  have bg : Boxed w2 (w.heap.size + 1 + 1) 3 (.int .i64 0) := k2.boxed (boxes_gain w)
  have kw : Keep w w2 := ((boxes_keep w).drewN m).trans k2
  have ci := bi.cell
  have fi := bi.frozen
  have cn := bn.cell
  have fn := bn.frozen
  have cg := bg.cell
  have fg := bg.frozen
  go_wp2_with fail
  refine bodyPostM_ret (of_results (fn := Tryz.f93) rfl (((bi.set _).other (by omega) _).other (by omega) _) (((bn.other (by omega) _).set _).other (by omega) _) (((bg.other (by omega) _).other (by omega) _).set _) rfl rfl rfl) rfl ⟨rfl, ?_⟩
  exact ((kw.setCell (by simp) _).setCell (by simp) _).setCell (by simp; omega) _
end Go.Proofs.YtjaaganaohjmaaaGreatDoor
