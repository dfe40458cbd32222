/-
  CONTRACTS: vectors.Worth answers what the plain function 'worth' says; nothing is written. Conditions: the lists are within the reach of memory, their numbers below 2^40.
-/
import Derived.Test.YtjhmlcbpbmeicaaSame
namespace Go.Proofs.Ytjhmlcbpbmeicaa
open Go.RowKit

/-- Numbers far from the edges. -/
def Small (l : List Int) : Prop := ∀ x ∈ l, -1099511627776 ≤ x ∧ x ≤ 1099511627776
theorem Small.at_ {l : List Int} (h : Small l) {k : Nat} {x : Int} (hx : l[k]? = some x) : -1099511627776 ≤ x ∧ x ≤ 1099511627776 := h x (List.mem_of_getElem? hx)

/-- vectors.Worth -/
def worth (bid reserves : List Int) (item : Int) : Int :=
  if item < 0 ∨ (bid.length : Int) ≤ item ∨ (reserves.length : Int) ≤ item then -1 else max (-1) (bid.getD item.toNat 0 - reserves.getD item.toNat 0)

theorem worth_neg {bid reserves : List Int} {item : Int} (h : item < 0) : worth bid reserves item = -1 := if_pos (.inl h)
theorem worth_out {bid reserves : List Int} {item : Int} (h : (bid.length : Int) ≤ item ∨ (reserves.length : Int) ≤ item) : worth bid reserves item = -1 := if_pos (.inr h)
theorem worth_in {bid reserves : List Int} {k : Nat} {x y : Int} (hx : bid[k]? = some x) (hy : reserves[k]? = some y) : worth bid reserves k = max (-1) (x - y) := by
  have h1 := (List.getElem?_eq_some_iff.1 hx).1
  have h2 := (List.getElem?_eq_some_iff.1 hy).1
  rw [worth, if_neg (by omega), Int.toNat_natCast, List.getD_eq_getElem?_getD, hx, List.getD_eq_getElem?_getD, hy]
  rfl

/-- What a function leaves that only reads and answers a number. -/
def Tells (k : IntKind) (w : World) (n : Int) (e : Ending) (w' : World) : Prop := e = .returned (.int k n) ∧ ∃ m, w' = w.drewN m
theorem Tells.of {k : IntKind} {w w' : World} {b b' : Int} (n : Nat) (hw : w' = w.drewN n) (h : b' = b) : Tells k w b (.returned (.int k b')) w' := ⟨by rw [h], n, hw⟩
theorem Tells.keep {k : IntKind} {w w' : World} {b : Int} {e : Ending} (h : Tells k w b e w') : e = .returned (.int k b) ∧ Keep w w' := by
  obtain ⟨rfl, n, rfl⟩ := h
  exact ⟨rfl, (Keep.refl w).drewN n⟩

theorem tellsK {P : Program} {f : FuncId} {args : Array Value} {w : World} {k : IntKind} {n : Int} (h : Calls P f args w (Tells k w n)) : Calls P f args w fun e w' => e = .returned (.int k n) ∧ Keep w w' := h.mono fun _ _ h => h.keep

set_option maxRecDepth 100000 in
set_option maxHeartbeats 800000 in
theorem worth_f (A B : Option Addr) (ca cb : Nat) (xs ys : List Int) (i : Int) (w : World) (ha : Rd w A (cs .i64 xs)) (hb : Rd w B (cs .i64 ys)) (la : Reach xs.length) (lb : Reach ys.length) (sa : Small xs) (sb : Small ys) :
    Calls Try.prog 34 #[.slice A xs.length ca, .slice B ys.length cb, .int .i64 i] w (Tells .i64 w (worth xs ys i)) := by
  have la' := la.le
  have lb' := lb.le
  by_cases h0 : i < 0
  · go_enter Try.func34, Try.ntmps34
    go_wp2
    go_ret
    exact Tells.of 0 rfl (worth_neg h0).symm
  · obtain ⟨k, hk⟩ : ∃ k : Nat, (k : Int) = i := ⟨i.toNat, by omega⟩
    by_cases h1 : k < xs.length
    · by_cases h2 : k < ys.length
      · obtain ⟨b1, o1, x, rfl, hx, hc1⟩ := ha.int_at h1
        obtain ⟨b2, o2, y, rfl, hy, hc2⟩ := hb.int_at h2
        have sx := sa.at_ hx
        have sy := sb.at_ hy
        subst hk
        have HW := Lib.hid (worth_in hx hy)
        clear hx hy
        by_cases hm : ys.length < xs.length
        all_goals
          by_cases hd : -1 < x - y
          all_goals
            go_enter Try.func34, Try.ntmps34
            go_wp2
            go_quiet (fail)
            go_wp2
            go_ret
            exact Tells.of nq rfl (by rw [HW.out]; omega)
      · subst hk
        have hm : ys.length < xs.length := by omega
        go_enter Try.func34, Try.ntmps34
        go_wp2
        go_ret
        exact Tells.of 0 rfl (worth_out (by omega)).symm
    · subst hk
      by_cases hm : ys.length < xs.length
      all_goals
        go_enter Try.func34, Try.ntmps34
        go_wp2
        go_ret
        exact Tells.of 0 rfl (worth_out (by omega)).symm
end Go.Proofs.Ytjhmlcbpbmeicaa
