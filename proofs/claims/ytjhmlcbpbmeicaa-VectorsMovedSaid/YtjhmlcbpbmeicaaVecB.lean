/-
  CONTRACTS of the package vectors: Put, Get. Conditions: the slices are no longer than memory lets them be.
-/
import Derived.Test.YtjhmlcbpbmeicaaNumG
namespace Go.Proofs.Ytjhmlcbpbmeicaa
open Go.RowKit

set_option maxRecDepth 100000 in
theorem vput_f (B : Option Addr) (d : Nat) (ys : List Int) (w : World) (hb : Rd w B (cs .i64 ys)) (hd : ys.length ≤ d) (lb : Len d) :
    Calls Try.prog 31 #[.slice B ys.length d] w (Rows (putL (ys.take 255)) w) := by
  have h : Calls Try.prog 24 #[.slice none 0 0, .slice B ys.length d] w (Rows ([] ++ putL (ys.take 255)) w) := putList_f none 0 [] B d ys w (Rd.nil _ _) (by simp) (fun _ => rfl) hb hd lb
  rw [List.nil_append] at h
  go_enter Try.func31, Try.ntmps31
  go_wp2_with fail
  refine h.mono ?_
  rintro e w1 ⟨A, rfl, hf, hk⟩
  go_wp2_with fail
  go_ret
  exact ⟨A, rfl, hf, hk⟩
end Go.Proofs.Ytjhmlcbpbmeicaa
