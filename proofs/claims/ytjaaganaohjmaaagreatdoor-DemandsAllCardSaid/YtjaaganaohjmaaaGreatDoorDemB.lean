/-
  CONTRACTS for the package demands: 'gains' and the iterator that it hands back: all differences, in order, for every loop body that turns no more than it may. Conditions: the two lists are as long, their numbers small.
-/
import Derived.Test.YtjaaganaohjmaaaGreatDoorDemA
import Derived.Test.YtjaaganaohjmaaaGreatDoorRange
namespace Go.Proofs.YtjaaganaohjmaaaGreatDoor
open Go.RowKit
attribute [local go_sem] Oper.semAt_some

/-- A slice that reads as vs, in a block below lo. -/
def RdB (lo : Nat) (w : World) (A : Option Addr) (vs : List Value) : Prop :=
  ∀ j u, vs[j]? = some u → ∃ b off, A = some ⟨b, off, none⟩ ∧ b < lo ∧ w.cell? ⟨b, off + j, none⟩ = some u
theorem Rd.below {w : World} {A : Option Addr} {vs : List Value} {lo : Nat} (h : Rd w A vs) (hlo : w.heap.size ≤ lo) : RdB lo w A vs := fun j u hu => by
  obtain ⟨b, off, e, hc⟩ := h j u hu
  exact ⟨b, off, e, by have := World.block_lt_of_cell? w _ hc; simp only at this; omega, hc⟩
theorem RdB.rd {w : World} {A : Option Addr} {vs : List Value} {lo : Nat} (h : RdB lo w A vs) : Rd w A vs := fun j u hu => by
  obtain ⟨b, off, e, _, hc⟩ := h j u hu
  exact ⟨b, off, e, hc⟩
theorem RdB.keepX {lo hi n₁ : Nat} {a b : World} {A : Option Addr} {vs : List Value} (h : RdB lo a A vs) (k : KeepX lo hi n₁ a b) (hn : lo ≤ n₁) : RdB lo b A vs := fun j u hu => by
  obtain ⟨g, off, e, hg, hc⟩ := h j u hu
  exact ⟨g, off, e, hg, (World.cell?_of_block (w := a) (w' := b) (a := ⟨g, off + j, none⟩) (k.block g (by omega) (.inl hg))).trans hc⟩
theorem RdB.keep {lo : Nat} {a b : World} {A : Option Addr} {vs : List Value} (h : RdB lo a A vs) (k : Keep a b) : RdB lo b A vs := fun j u hu => by
  obtain ⟨g, off, e, hg, hc⟩ := h j u hu
  exact ⟨g, off, e, hg, k.cell hc⟩

/-- What has come when k rounds are over. -/
def gs (xs ys : List Int) (k : Nat) : List (Nat × Int) := (List.range k).map fun j => (j, xs.getD j 0 - ys.getD j 0)
theorem gs_succ (xs ys : List Int) (k : Nat) : gs xs ys (k + 1) = gs xs ys k ++ [(k, xs.getD k 0 - ys.getD k 0)] := by simp [gs, List.range_succ]
theorem gs_at {xs ys : List Int} {k : Nat} {x y : Int} (hx : xs[k]? = some x) (hy : ys[k]? = some y) : gs xs ys (k + 1) = gs xs ys k ++ [(k, x - y)] := by
  rw [gs_succ, List.getD_eq_getElem?_getD, hx, List.getD_eq_getElem?_getD, hy]
  rfl
theorem length_gs (xs ys : List Int) (k : Nat) : (gs xs ys k).length = k := by simp [gs]

set_option maxRecDepth 100000 in
theorem gains_f (A B : Option Addr) (n c m d : Nat) (w : World) :
    Calls Tryz.prog 135 #[.slice A n c, .slice B m d] w fun e w' =>
      e = .returned (.func (.func 143) #[] #[.pointer (some ⟨w.heap.size, 0, none⟩), .pointer (some ⟨w.heap.size + 1, 0, none⟩)]) ∧
      w' = (w.alloc (.cells #[.slice A n c] 26)).alloc (.cells #[.slice B m d] 26) := by
  go_enter Tryz.func135, Tryz.ntmps135
  go_wp2
  go_ret
  exact ⟨rfl, rfl⟩

set_option maxRecDepth 100000 in
set_option maxHeartbeats 2000000 in
theorem gains1_in (F : Fence) (n : Nat) (hF : F.fn 143) (hro : F.round = none) (hn : 1 ≤ n) (l Bb Bp lo hi n₁ c d : Nat) (A B : Option Addr) (xs ys : List Int)
    (lx : Reach xs.length) (hlen : xs.length ≤ ys.length) (ly : Reach ys.length) (sx : Small xs) (sy : Small ys) (hlo : lo ≤ hi) (hp1 : hi ≤ Bp) (hp2 : Bp < n₁) (J Jx : List (Nat × Int) → World → Prop)
    (hY : ∀ pre x W, J pre W → pre.length < xs.length → YieldAt F (n - 1) Tryz.prog l #[.int .i64 (x.1 : Int), .int .i64 x.2] W fun e W' =>
      (e = .returned (.bool true) ∧ J (pre ++ [x]) W' ∧ KeepX lo hi n₁ W W') ∨ (e = .returned (.bool false) ∧ Jx (pre ++ [x]) W'))
    (W : World) (hBb : Boxed W Bb 26 (.slice A xs.length c)) (hBp : Boxed W Bp 26 (.slice B ys.length d)) (ha : RdB lo W A (cs .i64 xs)) (hb : RdB lo W B (cs .i64 ys)) (h0 : J [] W) :
    CallsIn F n Tryz.prog 143 #[.func (.yield l) #[] #[], .pointer (some ⟨Bb, 0, none⟩), .pointer (some ⟨Bp, 0, none⟩)] W fun e W' => (∃ v, e = .returned v) ∧
      ((∃ zs, zs = gs xs ys xs.length ∧ J zs W') ∨ (∃ pre, True ∧ Jx pre W')) := by
  have lx' := lx.le
  have ly' := ly.le
  have cBb := hBb.cell
  refine callsIn_of_wp Tryz.func143 rfl hF ?_ hro
  simp only [Tryz.ntmps143, List.size_toArray, List.length_cons, List.length_nil, Nat.reduceAdd, Nat.reduceSub, Array.replicate_succ, Array.replicate_zero, List.push_toArray, List.append_toArray, List.nil_append, List.cons_append]
  gi_wp2
  gi_loopw [8] (fun i wr => ∃ k : Nat, k ≤ xs.length ∧ i = .int .i64 k ∧ J (gs xs ys k) wr ∧ KeepX lo hi n₁ W wr) (fun i _ => xs.length - (intOf i).toNat)
  case atStart => exact ⟨0, Nat.zero_le _, rfl, h0, KeepX.refl _ _ _ _⟩
  case round =>
    obtain ⟨k, hk, rfl, hJ, hkx⟩ := hrel
    have cBp := (hkx.boxed hBp hp2 (.inr hp1)).cell
    by_cases hlt : k < xs.length
    · have hlt2 : k < ys.length := by omega
      obtain ⟨b1, o1, x, rfl, hx, hc1⟩ := (ha.keepX hkx (by omega)).rd.int_at hlt
      obtain ⟨b2, o2, y, rfl, hy, hc2⟩ := (hb.keepX hkx (by omega)).rd.int_at hlt2
      have bx := sx.at_ hx
      have bY := sy.at_ hy
      have HG := Lib.hid (gs_at hx hy)
      clear hx hy
      obtain ⟨fn, tmps, assign, body, hyi, hR⟩ := hY _ (k, x - y) wr hJ (by rw [length_gs]; exact hlt)
      dsimp only at hyi
      gi_wp2
      refine hR.mono ?_
      rintro e W3 (⟨rfl, hJ3, hk3⟩ | ⟨rfl, hJx3⟩)
      · gi_wp2
        go_roundw
        case rel => exact ⟨k + 1, by omega, by go_num, by rw [HG.out]; exact hJ3, hkx.trans hk3⟩
        case measure => simp [intOf]; omega
      · gi_wp2
        refine bodyPost_ret (results_none rfl _ _ _) rfl ?_
        exact ⟨⟨_, rfl⟩, .inr ⟨_, trivial, hJx3⟩⟩
    · obtain rfl : k = xs.length := by omega
      gi_wp2
      go_end0
      exact ⟨⟨_, rfl⟩, .inl ⟨_, rfl, hJ⟩⟩

/-- The iterator, as a range over it takes it. -/
theorem gains_stops (F : Fence) (n : Nat) (hF : F.fn 143) (hro : F.round = none) (hn : 1 ≤ n) (Bb Bp lo hi n₁ c d : Nat) (A B : Option Addr) (xs ys : List Int)
    (lx : Reach xs.length) (hlen : xs.length ≤ ys.length) (ly : Reach ys.length) (sx : Small xs) (sy : Small ys) (hlo : lo ≤ hi) (hp1 : hi ≤ Bp) (hp2 : Bp < n₁)
    (w : World) (hBb : Boxed w Bb 26 (.slice A xs.length c)) (hBp : Boxed w Bp 26 (.slice B ys.length d)) (ha : RdB lo w A (cs .i64 xs)) (hb : RdB lo w B (cs .i64 ys)) :
    SeqStopsK F n Tryz.prog 143 #[.pointer (some ⟨Bb, 0, none⟩), .pointer (some ⟨Bp, 0, none⟩)] (fun x : Nat × Int => #[Value.int .i64 (x.1 : Int), Value.int .i64 x.2]) (KeepX lo hi n₁)
      (fun zs => zs = gs xs ys xs.length) (fun _ => True) xs.length w := fun l J Jx W hW _ _ hY h0 =>
  have hk : Keep w W := hW
  gains1_in F n hF hro hn l Bb Bp lo hi n₁ c d A B xs ys lx hlen ly sx sy hlo hp1 hp2 J Jx hY W (hk.boxed hBb) (hk.boxed hBp) (ha.keep hk) (hb.keep hk) h0
end Go.Proofs.YtjaaganaohjmaaaGreatDoor
