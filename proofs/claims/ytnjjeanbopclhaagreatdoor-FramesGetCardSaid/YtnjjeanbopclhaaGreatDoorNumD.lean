/-
  CONTRACTS for the package nums: Get. Conditions: the slice is no longer than memory lets it be.
-/
import Derived.Test.YtnjjeanbopclhaaGreatDoorNumC
import Derived.Test.YtnjjeanbopclhaaGreatDoorAid
namespace Go.Proofs.YtnjjeanbopclhaaGreatDoor
open Go.RowKit Go.Shelf
attribute [local go_sem] Oper.semAt_some

/-- nums.Get: the number, the error's number. -/
def getV (xs : List Int) (n : Int) : Nat × Int := if n < 1 ∨ 8 < n then (0, 1) else if (xs.length : Int) < n then (0, 5) else (val (xs.take n.toNat), 0)
def GetP (xs : List Int) (n : Int) (w : World) (e : Ending) (w' : World) : Prop :=
  e = .returned (.tuple #[.int .u64 ((getV xs n).1 : Int), .int .i64 (getV xs n).2]) ∧ Keep w w'

theorem get_results {fn : Func} {tmps : Array Value} {w : World} {B : Nat} {v : Value} (h : fn.results = #[ResultVar.cell 4 24, ResultVar.tmp 5])
    (h1 : Boxed w B 24 v) (t1 : tmps[4]?.getD undef = .pointer (some ⟨B, 0, none⟩)) :
    (results fn tmps).run Tryz.prog w = .ok (.tuple #[v, tmps.getD 5 undef]) w := by
  have c1 := h1.cell
  simp [results, h, t1, c1, go_sem]

/-- The value when k of the bytes have come, the last first. -/
theorem val_back {xs : List Int} {k j : Nat} {x : Int} (hj : xs.length = k + j + 1) (hx : xs[j]? = some x) : val (xs.drop (xs.length - (k + 1))) = x.toNat + 256 * val (xs.drop (xs.length - k)) := by
  have e1 : xs.length - (k + 1) = j := by omega
  have e2 : xs.length - k = j + 1 := by omega
  obtain ⟨hlt, rfl⟩ := List.getElem?_eq_some_iff.1 hx
  rw [e1, e2, List.drop_eq_getElem_cons hlt]
  rfl

/-- One byte comes. -/
def stepB (v : Int) (x : Nat × Int) : Int := bits BinOp.or IntKind.u64 (IntKind.u64.wrap (v * 256)) (IntKind.u64.wrap x.2)
def accB (pre : List (Nat × Int)) : Int := pre.foldl stepB 0
theorem accB_snoc (pre : List (Nat × Int)) (x : Nat × Int) : accB (pre ++ [x]) = stepB (accB pre) x := by simp [accB]
theorem stepB_val {V : Nat} {x : Int} (hV : V < 72057594037927936) (h0 : 0 ≤ x) (h1 : x < 256) (j : Nat) : stepB (V : Int) (j, x) = ((x.toNat + 256 * V : Nat) : Int) := by
  obtain ⟨b, rfl⟩ : ∃ b : Nat, x = b := ⟨x.toNat, by omega⟩
  have e1 : IntKind.u64.wrap ((V : Int) * 256) = ((V * 256 : Nat) : Int) := by
    simp [IntKind.wrap, IntKind.signed, IntKind.bits]
    omega
  have e2 : IntKind.u64.wrap (b : Int) = ((b : Nat) : Int) := by
    simp [IntKind.wrap, IntKind.signed, IntKind.bits]
    omega
  unfold stepB
  simp only [e1, e2]
  have e3 : V * 256 ||| b = V * 256 + b := by
    have := Nat.shiftLeft_add_eq_or_of_lt (i := 8) (b := b) (by omega) V
    rw [Nat.shiftLeft_eq] at this
    exact this.symm
  have e4 : (BitVec.ofInt IntKind.u64.bits ((V * 256 : Nat) : Int) ||| BitVec.ofInt IntKind.u64.bits ((b : Nat) : Int)).toNat = V * 256 + b := by
    rw [BitVec.toNat_or, BitVec.ofInt_natCast, BitVec.ofInt_natCast, BitVec.toNat_ofNat, BitVec.toNat_ofNat, Nat.mod_eq_of_lt (by simp [IntKind.bits]; omega), Nat.mod_eq_of_lt (by simp [IntKind.bits]; omega), e3]
  simp only [bits, e4]
  simp [IntKind.wrap, IntKind.signed, IntKind.bits]
  omega
theorem accB_val {ys : List Int} (hb : Bytes ys) (h8 : ys.length ≤ 8) : ∀ k, k ≤ ys.length → accB (rs ys k) = (val (ys.drop (ys.length - k)) : Int)
  | 0, _ => by simp [rs, accB, val]
  | k + 1, hk => by
    obtain ⟨j, hj⟩ : ∃ j : Nat, ys.length = k + j + 1 := ⟨ys.length - 1 - k, by omega⟩
    have hx : ys[j]? = some ys[j] := List.getElem?_eq_getElem (by omega)
    have hbj := hb.get (i := j) (by omega)
    have hV := val_lt (hb.drop (ys.length - k))
    have hp : 256 ^ (ys.drop (ys.length - k)).length ≤ 256 ^ 7 := Nat.pow_le_pow_right (by omega) (by simp; omega)
    rw [rs_at hj hx, accB_snoc, accB_val hb h8 k (by omega), stepB_val (by omega) hbj.1 hbj.2, val_back hj hx]

/-- What holds while the bytes come: the box at B holds the value. -/
def GetI (Wl : World) (B n₁ : Nat) (pre : List (Nat × Int)) (W : World) : Prop :=
  Boxed W B 24 (.int .u64 (accB pre)) ∧ KeepX B (B + 1) n₁ Wl W
theorem GetI.own (Wl : World) (B n₁ : Nat) (hn : n₁ = Wl.heap.size) : OwnFrom n₁ (GetI Wl B n₁) := by
  rintro pre W W' row ⟨h1, h5⟩ hg hr
  exact ⟨Boxed.others h1 hg fun r e => (hr r e).2, h5.grown hg (by rw [hn]; exact h5.size) fun k e => (hr k e).1⟩

set_option maxRecDepth 100000 in
set_option maxHeartbeats 4000000 in
theorem get_f (A : Option Addr) (c : Nat) (xs : List Int) (n : Int) (w : World) (ha : Rd w A (cs .u8 xs)) (hb : Bytes xs) (hc : xs.length ≤ c) (lc : Len c) :
    Calls Tryz.prog 103 #[.slice A xs.length c, .int .i64 n] w (GetP xs n w) := by
  have lc' := lc.le
  have hc' : (xs.length : Int) ≤ c := by omega
  have k0 : Keep w (w.alloc (.cells #[.int .u64 0] 24)) := Keep.alloc1 _ _
  have b0 : Boxed (w.alloc (.cells #[.int .u64 0] 24)) w.heap.size 24 (.int .u64 0) := Boxed.new w _ _
  by_cases h1 : n < 1
  · refine (callsIn_wide (n := 9)).1 (callsIn_of_wp_marks Tryz.func103 rfl trivial (wpIn_wide.2 ?_) rfl)
    simp only [Tryz.ntmps103, List.size_toArray, List.length_cons, List.length_nil, Nat.reduceAdd, Nat.reduceSub, Array.replicate_succ, Array.replicate_zero, List.push_toArray, List.append_toArray, List.nil_append, List.cons_append]
    go_wp2_with fail
    refine bodyPostM_ret (get_results (fn := Tryz.f103) rfl b0 rfl) rfl ?_
    exact ⟨by rw [getV, if_pos (.inl h1)]; rfl, k0⟩
  by_cases h2 : 8 < n
  · refine (callsIn_wide (n := 9)).1 (callsIn_of_wp_marks Tryz.func103 rfl trivial (wpIn_wide.2 ?_) rfl)
    simp only [Tryz.ntmps103, List.size_toArray, List.length_cons, List.length_nil, Nat.reduceAdd, Nat.reduceSub, Array.replicate_succ, Array.replicate_zero, List.push_toArray, List.append_toArray, List.nil_append, List.cons_append]
    go_wp2_with fail
    refine bodyPostM_ret (get_results (fn := Tryz.f103) rfl b0 rfl) rfl ?_
    exact ⟨by rw [getV, if_pos (.inr h2)]; rfl, k0⟩
  by_cases h3 : (xs.length : Int) < n
  · refine (callsIn_wide (n := 9)).1 (callsIn_of_wp_marks Tryz.func103 rfl trivial (wpIn_wide.2 ?_) rfl)
    simp only [Tryz.ntmps103, List.size_toArray, List.length_cons, List.length_nil, Nat.reduceAdd, Nat.reduceSub, Array.replicate_succ, Array.replicate_zero, List.push_toArray, List.append_toArray, List.nil_append, List.cons_append]
    go_wp2_with fail
    refine bodyPostM_ret (get_results (fn := Tryz.f103) rfl b0 rfl) rfl ?_
    exact ⟨by rw [getV, if_neg (by omega), if_pos h3]; rfl, k0⟩
  obtain ⟨N, rfl⟩ : ∃ N : Nat, n = N := ⟨n.toNat, by omega⟩
  have hgv : getV xs N = (val (xs.take N), 0) := by rw [getV, if_neg (by omega), if_neg h3]; rfl
  unfold GetP
  rw [hgv]
  clear hgv
  obtain ⟨ys, hys, hlen⟩ : ∃ ys, ys = xs.take N ∧ ys.length = N := ⟨_, rfl, by simp; omega⟩
  rw [← hys]
  have ra : Rd w A (cs .u8 ys) := by rw [hys, ← cs_take]; exact ha.take N
  have hby : Bytes ys := by rw [hys]; exact hb.take N
  have hle : ys.length ≤ xs.length := by rw [hys]; simp; omega
  clear hys ha hb
  subst hlen
  have ly : Reach ys.length := by unfold Reach; omega
  refine (callsIn_wide (n := 9)).1 (callsIn_of_wp_marks Tryz.func103 rfl trivial (wpIn_wide.2 ?_) rfl)
  simp only [Tryz.ntmps103, List.size_toArray, List.length_cons, List.length_nil, Nat.reduceAdd, Nat.reduceSub, Array.replicate_succ, Array.replicate_zero, List.push_toArray, List.append_toArray, List.nil_append, List.cons_append]
  go_wp2_with fail
  generalize w.alloc (.cells #[.int .u64 0] 24) = w2 at k0 b0 ⊢
  refine (backward_f A _ _ w2).mono ?_
  rintro e w3 ⟨rfl, rfl⟩
  have hs2 := b0.lt
  have b1 := Boxed.new w2 25 (.slice A ys.length ys.length)
  have hs3 : w2.heap.size + 1 ≤ (w2.alloc (.cells #[.slice A ys.length ys.length] 25)).heap.size := by simp
  have k3 : Keep w2 (w2.alloc (.cells #[.slice A ys.length ys.length] 25)) := Keep.alloc1 _ _
  generalize w2.alloc (.cells #[.slice A ys.length ys.length] 25) = w3 at b1 hs3 k3 ⊢
  have b03 := k3.boxed b0
  have kw3 := k0.trans k3
  have ra3 := (ra.below (Nat.le_refl _)).keep kw3
  go_wp2_with fail
  refine (wpIn_wide (n := 9)).1 (wpIn_rangeFunc_ownG (F := Fence.wide) rfl (by omega) (gf := 113) (lb := #[.pointer (some ⟨w2.heap.size, 0, none⟩)]) rfl trivial (enters_of Tryz.func113 (by kernel_rfl) rfl)
    (backward_stops Fence.wide 8 trivial rfl (by omega) w2.heap.size w.heap.size (w.heap.size + 1) w3.heap.size _ A ys ly (by omega) (by omega) (by omega) w3 b1 ra3)
    (fun h k => KeepX.trans h k) (fun W l o o' hl _ _ _ => KeepX.putObj _ _ _ W hl o') (Below.refl _ _) (fun _ => rfl)
    (GetI w3 w.heap.size w3.heap.size) (fun _ _ _ => False) (GetI.own _ _ _ rfl) (fun _ _ _ _ _ hs _ _ => hs)
    ⟨b03, KeepX.refl _ _ _ _⟩ ?a1 ?assign ?body ?done ?stop)
  case assign =>
    intro l x W K hK
    gi_wp2
    exact hK
  case body =>
    rintro l pre x W ⟨g1, g3⟩ hlt
    have c1 := g1.cell
    have f1 := g1.frozen
    have HA := Lib.hid (accB_snoc pre x)
    gi_wp2_with fail
    refine ⟨(KeepsOthers.setCell _ _ _).from _, (KeepX.refl _ _ _ W).setBox (by omega) (by omega) _, ?_⟩
    unfold GetI
    rw [HA.out]
    exact ⟨g1.set _, g3.setBox (by omega) (by omega) _⟩
  case done =>
    rintro D zs W hD rfl ⟨g1, g3⟩ hK
    rw [accB_val hby (by omega) _ (Nat.le_refl _), Nat.sub_self, List.drop_zero] at g1
    have c1 := g1.cell
    have f1 := g1.frozen
    go_wp2_with fail
    refine ⟨by simp, .inl ⟨D, _, rfl, run_takeDeferred (heap_setBox hK (by omega) _), ?_⟩⟩
    have kD := ((kw3.thenX g3 (Nat.le_refl _) kw3.size).setBox (B := w.heap.size) (Nat.le_refl _) (.int .u64 (val ys : Int))).putObj (l := D) (by omega) (.deferred none)
    refine ⟨_, get_results (fn := Tryz.f103) rfl (Boxed.others (g1.set (.int .u64 (val ys : Int))) (grownBy_putObj' _ D (.deferred none)) (fun r e => by cases e; exact ⟨_, heap_setBox hK (by omega) _, rfl⟩)) rfl, rfl, kD⟩
  case stop =>
    rintro D c pre W _ _ h _
    exact h.elim
end Go.Proofs.YtnjjeanbopclhaaGreatDoor
