/-
  CONTRACTS of the package vectors: Put, Get. Conditions: the slices are no longer than memory lets them be.
-/
import Derived.Test.YtafiahnaeakcfaaDoorNumF
namespace Go.Proofs.YtafiahnaeakcfaaDoor
open Go.RowKit

set_option maxRecDepth 100000 in
theorem vput_f (B : Option Addr) (d : Nat) (ys : List Int) (w : World) (hb : Rd w B (cs .i64 ys)) (hd : ys.length ≤ d) (lb : Len d) :
    Calls Tryd.prog 31 #[.slice B ys.length d] w (Rows (putL (ys.take 255)) w) := by
  have h : Calls Tryd.prog 11 #[.slice none 0 0, .slice B ys.length d] w (Rows ([] ++ putL (ys.take 255)) w) := putList_f none 0 [] B d ys w (Rd.nil _ _) (by simp) (fun _ => rfl) hb hd lb
  rw [List.nil_append] at h
  go_enter Tryd.func31, Tryd.ntmps31
  go_wp2_with fail
  refine h.mono ?_
  rintro e w1 ⟨A, rfl, hf, hk⟩
  go_wp2_with fail
  go_ret
  exact ⟨A, rfl, hf, hk⟩
end Go.Proofs.YtafiahnaeakcfaaDoor
