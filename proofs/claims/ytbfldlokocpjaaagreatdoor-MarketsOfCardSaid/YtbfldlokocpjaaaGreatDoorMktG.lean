/-
  CONTRACTS: the library's Clone of a slice of ints. Conditions: the slices are no longer than memory lets them be.
-/
import Derived.Test.YtbfldlokocpjaaaGreatDoorMktF
import Derived.Test.YtbfldlokocpjaaaGreatDoorNumA
import Derived.Test.YtbfldlokocpjaaaGreatDoorSameM
namespace Go.Proofs.YtbfldlokocpjaaaGreatDoor
open Go.RowKit

set_option maxRecDepth 100000 in
set_option maxHeartbeats 400000 in
theorem cloneI_f (A : Option Addr) (c : Nat) (xs : List Int) (w : World) (ha : Rd w A (cs .i64 xs)) (la : xs.length ≤ 1000000) (hA : A = none → c = 0) :
    Calls Tryz.prog 32 #[.slice A xs.length c] w fun e w' => ∃ A' c', e = .returned (.slice A' xs.length c') ∧ Fr 3 w' w.heap.size A' xs.length c' (cs .i64 xs) ∧ Keep w w' := by
  cases A with
  | none =>
    obtain rfl := hA rfl
    obtain rfl : xs = [] := by have := ha.none_len; simpa [cs] using this
    have he : ∀ w : World, (binOp .eql 22 (.slice none 0 0) (.slice none 0 0)).run Tryz.prog w = .ok (.bool true) w := fun _ => rfl
    go_enter Tryz.func32, Tryz.ntmps32
    go_wp2_with fail
    go_ret
    exact ⟨none, 0, rfl, Fr.empty _ _ _ _, Keep.refl _⟩
  | some a =>
    have he : ∀ w : World, (binOp .eql 22 (.slice (some a) xs.length c) (.slice none 0 0)).run Tryz.prog w = .ok (.bool false) w := fun _ => rfl
    go_enter Tryz.func32, Tryz.ntmps32
    go_wp2_with (at_builtin; refine wpList_append_fr _ rfl _ _ 22 rfl w.heap.size 3 (.int .i64 0) 8 Tryz.underlying22 infoInt rfl _ 0 0 [] rfl (Fr.empty _ _ _ _) (some a) xs.length c (cs .i64 xs) rfl (length_cs _ _) (ha.keep (Keep.alloc1 _ _)) (one_cs _ _) ?c1 ?c2 ?c3 ?_)
    case c1 => unfold maxLen; omega
    case c2 => omega
    case c3 => simp
    intro A' c' w1 happ
    have hf := happ.fr
    have hk := happ.keep ((Keep.refl w).alloc _) (Fr.empty _ _ _ _)
    clear happ
    go_wp2_with fail
    go_ret
    exact ⟨A', c', rfl, hf, hk⟩
end Go.Proofs.YtbfldlokocpjaaaGreatDoor
