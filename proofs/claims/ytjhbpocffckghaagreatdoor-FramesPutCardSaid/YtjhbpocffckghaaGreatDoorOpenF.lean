/-
  HOW A FRAME AND A REPLY THAT CAME IN ARE OPENED: as values that are structures of mine, with how much their slices may take by the form. Conditions: those that each theorem states.
-/
import Derived.Test.YtjhbpocffckghaaGreatDoorFrmB
import Derived.Test.YtjhbpocffckghaaGreatDoorFrmC
import Derived.Test.YtjhbpocffckghaaGreatDoorOpenB
namespace Go.Proofs.YtjhbpocffckghaaGreatDoor
open Go.RowKit Go.ChangeShapes Go.WideShapes Go.Deep Go.Joins

/-- A frame that came in, its slices no longer than the form lets them be. -/
def IsFrm (w : World) (v : Value) : Prop := ∃ f : Frm, v = f.val ∧ f.Ok w ∧ f.v.sec.length ≤ 140737488351232 ∧ f.v.bid.length ≤ 140737488351232
/-- A reply that came in, its slices no longer than the form lets them be. -/
def IsRpl (w : World) (v : Value) : Prop := ∃ r : Rpl, v = r.val ∧ r.Ok w ∧ r.v.bid.length ≤ 140737488351232 ∧ r.v.cert.length ≤ 140737488351232
theorem wf_nat {k : IntKind} {n : Int} (h : (Lit.int k n).wf = true) (hk : k = .u8 ∨ k = .u32 ∨ k = .u64) : ∃ m : Nat, n = m ∧ (m : Int) ≤ k.max := by
  refine ⟨n.toNat, ?_⟩
  rcases hk with rfl | rfl | rfl <;> simp [Lit.wf, IntKind.min, IntKind.max, IntKind.signed, IntKind.bits] at h ⊢ <;> omega
section
variable {H : Type} {enc : TypeId × Value → H} {P : Program} {w : World} {r : Go.Reach} {b0 : Nat} {t e : TypeId} {v : Value} {d : DataW H} {p : List MemPlace} {fuel : Nat} {y : DataW H × List MemPlace}
theorem weights_head {ts : List TypeId} {ds : List (DataW H)} {q : Nat → Bool} (h : (DataW.weightsEach P (t :: ts) (d :: ds)).all q = true) : (d.weights P t).all q = true ∧ (DataW.weightsEach P ts ds).all q = true := by
  unfold DataW.weightsEach at h
  rw [List.all_append, Bool.and_eq_true] at h
  exact h
theorem weights_len {elems spare : List (DataW H)} (ht : P.underlying t = some (.slice e)) (h : ((DataW.slice elems spare).weights P t).all (· ≤ reachBytes) = true) : (elems.length + spare.length) * P.bytesOf e ≤ reachBytes := by
  unfold DataW.weights at h
  rw [ht] at h
  simp only [List.all_cons, List.all_append, Bool.and_eq_true, decide_eq_true_eq] at h
  exact h.1
/-- A slice's length. -/
theorem slice_sz (ht : P.underlying t = some (.slice e)) (hb : 1 ≤ P.bytesOf e) (h : DataW.trod enc P w 0 (fun _ => true) true fuel t [v] = some y) (hw : (y.1.weights P t).all (· ≤ reachBytes) = true) {a : Option Addr} {l c : Nat} (hv : v = .slice a l c) : l ≤ 140737488351232 := by
  subst hv
  rcases DataW.trod_slice ht h with ⟨hcs, _⟩ | ⟨a', len, cap, elems, rest, n, _, hcs, hy, _, hl, _, he, _, _, _⟩
  · simp at hcs
    omega
  · simp at hcs
    obtain ⟨_, rfl, rfl⟩ := hcs
    subst hy
    have h1 := weights_len ht hw
    rw [List.length_map, List.length_map, he] at h1
    have h2 := Nat.le_trans (Nat.le_mul_of_pos_right (l + rest.length) hb) h1
    unfold reachBytes at h2
    omega
end
theorem cell1 {cs : List Value} {o : Nat} {x : Value} (h : cs[o]? = some x) : (cs.drop o).take 1 = [x] := by
  obtain ⟨hl, he⟩ := List.getElem?_eq_some_iff.1 h
  rw [List.drop_eq_getElem_cons hl, he]
  rfl
theorem wf_lt {m : Nat} {k : IntKind} {b : Nat} (h : (m : Int) ≤ k.max) (hb : (k.max + 1 : Int) = b) : m < b := by omega
section
variable {H : Type} {enc : TypeId × Value → H} {w : World} {r : Go.Reach} {b0 : Nat} {v : Value} {d : DataW H} {p : List MemPlace} {fuel : Nat} {y : DataW H × List MemPlace} {cs : List Value}
set_option maxRecDepth 100000 in
theorem trod_frm (h : DataW.trod enc Tryz.prog w 0 (fun _ => true) true fuel 28 cs = some y) : ∃ f : Frm, cs = f.cells ∧ f.Ok w ∧ ((y.1.weights Tryz.prog 28).all (· ≤ reachBytes) = true → f.v.sec.length ≤ 140737488351232 ∧ f.v.bid.length ≤ 140737488351232) := by
  obtain ⟨xs, n, rfl, rfl, hl, hx, hi⟩ := DataW.trod_struct Tryz.underlying28 h
  have cF : Tryz.prog.cellsOf 28 = 6 := by kernel_rfl
  have k_0 : Tryz.prog.cellsOf 22 = 1 := by kernel_rfl
  have k_1 : Tryz.prog.cellsOf 5 = 1 := by kernel_rfl
  have k_2 : Tryz.prog.cellsOf 23 = 1 := by kernel_rfl
  have k_3 : Tryz.prog.cellsOf 24 = 1 := by kernel_rfl
  have k_4 : Tryz.prog.cellsOf 25 = 1 := by kernel_rfl
  have k_5 : Tryz.prog.cellsOf 26 = 1 := by kernel_rfl
  rw [cF] at hl
  obtain ⟨v0, v1, v2, v3, v4, v5, rfl⟩ : ∃ v0 v1 v2 v3 v4 v5, cs = [v0, v1, v2, v3, v4, v5] := by
    match cs, hl with
    | [v0, v1, v2, v3, v4, v5], _ => exact ⟨_, _, _, _, _, _, rfl⟩
  obtain ⟨y0, y1, y2, y3, y4, y5, rfl⟩ : ∃ y0 y1 y2 y3 y4 y5, xs = [y0, y1, y2, y3, y4, y5] := by
    match xs, hx with
    | [y0, y1, y2, y3, y4, y5], _ => exact ⟨_, _, _, _, _, _, rfl⟩
  have h0 : DataW.trod enc Tryz.prog w 0 (fun _ => true) true n 22 [v0] = some y0 := by
    have q : DataW.trod enc Tryz.prog w 0 (fun _ => true) true n 22 (([v0, v1, v2, v3, v4, v5].drop 0).take (Tryz.prog.cellsOf 22)) = some y0 := hi 0 _ rfl
    rwa [k_0, cell1 (x := v0) rfl] at q
  have h1 : DataW.trod enc Tryz.prog w 0 (fun _ => true) true n 5 [v1] = some y1 := by
    have q : DataW.trod enc Tryz.prog w 0 (fun _ => true) true n 5 (([v0, v1, v2, v3, v4, v5].drop 1).take (Tryz.prog.cellsOf 5)) = some y1 := hi 1 _ rfl
    rwa [k_1, cell1 (x := v1) rfl] at q
  have h2 : DataW.trod enc Tryz.prog w 0 (fun _ => true) true n 23 [v2] = some y2 := by
    have q : DataW.trod enc Tryz.prog w 0 (fun _ => true) true n 23 (([v0, v1, v2, v3, v4, v5].drop 2).take (Tryz.prog.cellsOf 23)) = some y2 := hi 2 _ rfl
    rwa [k_2, cell1 (x := v2) rfl] at q
  have h3 : DataW.trod enc Tryz.prog w 0 (fun _ => true) true n 24 [v3] = some y3 := by
    have q : DataW.trod enc Tryz.prog w 0 (fun _ => true) true n 24 (([v0, v1, v2, v3, v4, v5].drop 3).take (Tryz.prog.cellsOf 24)) = some y3 := hi 3 _ rfl
    rwa [k_3, cell1 (x := v3) rfl] at q
  have h4 : DataW.trod enc Tryz.prog w 0 (fun _ => true) true n 25 [v4] = some y4 := by
    have q : DataW.trod enc Tryz.prog w 0 (fun _ => true) true n 25 (([v0, v1, v2, v3, v4, v5].drop 4).take (Tryz.prog.cellsOf 25)) = some y4 := hi 4 _ rfl
    rwa [k_4, cell1 (x := v4) rfl] at q
  have h5 : DataW.trod enc Tryz.prog w 0 (fun _ => true) true n 26 [v5] = some y5 := by
    have q : DataW.trod enc Tryz.prog w 0 (fun _ => true) true n 26 (([v0, v1, v2, v3, v4, v5].drop 5).take (Tryz.prog.cellsOf 26)) = some y5 := hi 5 _ rfl
    rwa [k_5, cell1 (x := v5) rfl] at q
  clear hi h
  obtain ⟨n0, e0, -, w0⟩ := DataW.trod_int (k := .u8) Tryz.underlying22 h0
  simp only [List.cons.injEq, and_true] at e0
  obtain ⟨n0, rfl, b0⟩ := wf_nat w0 (by simp)
  obtain ⟨n1, e1, -, w1⟩ := DataW.trod_int (k := .u8) Tryz.underlying5 h1
  simp only [List.cons.injEq, and_true] at e1
  obtain ⟨n1, rfl, b1⟩ := wf_nat w1 (by simp)
  obtain ⟨n2, e2, -, w2⟩ := DataW.trod_int (k := .u32) Tryz.underlying23 h2
  simp only [List.cons.injEq, and_true] at e2
  obtain ⟨n2, rfl, b2⟩ := wf_nat w2 (by simp)
  obtain ⟨n3, e3, -, w3⟩ := DataW.trod_int (k := .u64) Tryz.underlying24 h3
  simp only [List.cons.injEq, and_true] at e3
  obtain ⟨n3, rfl, b3⟩ := wf_nat w3 (by simp)
  obtain ⟨a4, c4, l4, e4, s4, z4⟩ := trod_slc (k := .u8) Tryz.underlying25 Tryz.underlying5 (by kernel_rfl) h4
  obtain ⟨a5, c5, l5, e5, s5, z5⟩ := trod_slc (k := .i64) Tryz.underlying26 Tryz.underlying3 (by kernel_rfl) h5
  subst e0 e1 e2 e3 e4 e5
  refine ⟨⟨⟨n0, n1, n2, n3, l4, l5⟩, a4, c4, a5, c5⟩, rfl, ⟨⟨s4, z4⟩, ⟨s5, z5⟩, wf_lt b0 rfl, wf_lt b1 rfl, wf_lt b2 rfl, wf_lt b3 rfl⟩, fun hw => ?_⟩
  unfold DataW.weights at hw
  rw [Tryz.underlying28] at hw
  simp only [List.map_cons, List.map_nil] at hw
  obtain ⟨q0, hw⟩ := weights_head hw
  obtain ⟨q1, hw⟩ := weights_head hw
  obtain ⟨q2, hw⟩ := weights_head hw
  obtain ⟨q3, hw⟩ := weights_head hw
  obtain ⟨q4, hw⟩ := weights_head hw
  obtain ⟨q5, hw⟩ := weights_head hw
  exact ⟨slice_sz Tryz.underlying25 (of_decide_eq_true (by kernel_rfl)) h4 q4 rfl, slice_sz Tryz.underlying26 (of_decide_eq_true (by kernel_rfl)) h5 q5 rfl⟩
set_option maxRecDepth 100000 in
theorem open_frm (hv : Value.okWide Tryz.prog w r b0 28 v) (h : DataW.Trod enc Tryz.prog w 0 (fun _ => true) true 28 v d p) (hw : (d.weights Tryz.prog 28).all (· ≤ reachBytes) = true) : IsFrm w v := by
  obtain ⟨cs, rfl, -⟩ := okWide_struct Tryz.underlying28 hv
  obtain ⟨fuel, hf⟩ := h
  obtain ⟨f, e, ok, sz⟩ := trod_frm hf
  refine ⟨f, ?_, ok, sz hw⟩
  unfold Frm.val
  unfold Frm.cells at e
  obtain ⟨l⟩ := cs
  simp only [Value.cells] at e
  rw [e]
end
section
variable {H : Type} {enc : TypeId × Value → H} {w : World} {r : Go.Reach} {b0 : Nat} {v : Value} {d : DataW H} {p : List MemPlace} {fuel : Nat} {y : DataW H × List MemPlace} {cs : List Value}
set_option maxRecDepth 100000 in
theorem trod_rpl (h : DataW.trod enc Tryz.prog w 0 (fun _ => true) true fuel 32 cs = some y) : ∃ f : Rpl, cs = f.cells ∧ f.Ok w ∧ ((y.1.weights Tryz.prog 32).all (· ≤ reachBytes) = true → f.v.bid.length ≤ 140737488351232 ∧ f.v.cert.length ≤ 140737488351232) := by
  obtain ⟨xs, n, rfl, rfl, hl, hx, hi⟩ := DataW.trod_struct Tryz.underlying32 h
  have cF : Tryz.prog.cellsOf 32 = 10 := by kernel_rfl
  have k_0 : Tryz.prog.cellsOf 29 = 1 := by kernel_rfl
  have k_1 : Tryz.prog.cellsOf 23 = 1 := by kernel_rfl
  have k_2 : Tryz.prog.cellsOf 24 = 1 := by kernel_rfl
  have k_3 : Tryz.prog.cellsOf 30 = 1 := by kernel_rfl
  have k_4 : Tryz.prog.cellsOf 4 = 1 := by kernel_rfl
  have k_5 : Tryz.prog.cellsOf 26 = 1 := by kernel_rfl
  have k_6 : Tryz.prog.cellsOf 3 = 1 := by kernel_rfl
  have k_7 : Tryz.prog.cellsOf 25 = 1 := by kernel_rfl
  rw [cF] at hl
  obtain ⟨v0, v1, v2, v3, v4, v5, v6, v7, v8, v9, rfl⟩ : ∃ v0 v1 v2 v3 v4 v5 v6 v7 v8 v9, cs = [v0, v1, v2, v3, v4, v5, v6, v7, v8, v9] := by
    match cs, hl with
    | [v0, v1, v2, v3, v4, v5, v6, v7, v8, v9], _ => exact ⟨_, _, _, _, _, _, _, _, _, _, rfl⟩
  obtain ⟨y0, y1, y2, y3, y4, y5, y6, y7, y8, y9, rfl⟩ : ∃ y0 y1 y2 y3 y4 y5 y6 y7 y8 y9, xs = [y0, y1, y2, y3, y4, y5, y6, y7, y8, y9] := by
    match xs, hx with
    | [y0, y1, y2, y3, y4, y5, y6, y7, y8, y9], _ => exact ⟨_, _, _, _, _, _, _, _, _, _, rfl⟩
  have h0 : DataW.trod enc Tryz.prog w 0 (fun _ => true) true n 29 [v0] = some y0 := by
    have q : DataW.trod enc Tryz.prog w 0 (fun _ => true) true n 29 (([v0, v1, v2, v3, v4, v5, v6, v7, v8, v9].drop 0).take (Tryz.prog.cellsOf 29)) = some y0 := hi 0 _ rfl
    rwa [k_0, cell1 (x := v0) rfl] at q
  have h1 : DataW.trod enc Tryz.prog w 0 (fun _ => true) true n 23 [v1] = some y1 := by
    have q : DataW.trod enc Tryz.prog w 0 (fun _ => true) true n 23 (([v0, v1, v2, v3, v4, v5, v6, v7, v8, v9].drop 1).take (Tryz.prog.cellsOf 23)) = some y1 := hi 1 _ rfl
    rwa [k_1, cell1 (x := v1) rfl] at q
  have h2 : DataW.trod enc Tryz.prog w 0 (fun _ => true) true n 24 [v2] = some y2 := by
    have q : DataW.trod enc Tryz.prog w 0 (fun _ => true) true n 24 (([v0, v1, v2, v3, v4, v5, v6, v7, v8, v9].drop 2).take (Tryz.prog.cellsOf 24)) = some y2 := hi 2 _ rfl
    rwa [k_2, cell1 (x := v2) rfl] at q
  have h3 : DataW.trod enc Tryz.prog w 0 (fun _ => true) true n 30 [v3] = some y3 := by
    have q : DataW.trod enc Tryz.prog w 0 (fun _ => true) true n 30 (([v0, v1, v2, v3, v4, v5, v6, v7, v8, v9].drop 3).take (Tryz.prog.cellsOf 30)) = some y3 := hi 3 _ rfl
    rwa [k_3, cell1 (x := v3) rfl] at q
  have h4 : DataW.trod enc Tryz.prog w 0 (fun _ => true) true n 24 [v4] = some y4 := by
    have q : DataW.trod enc Tryz.prog w 0 (fun _ => true) true n 24 (([v0, v1, v2, v3, v4, v5, v6, v7, v8, v9].drop 4).take (Tryz.prog.cellsOf 24)) = some y4 := hi 4 _ rfl
    rwa [k_2, cell1 (x := v4) rfl] at q
  have h5 : DataW.trod enc Tryz.prog w 0 (fun _ => true) true n 4 [v5] = some y5 := by
    have q : DataW.trod enc Tryz.prog w 0 (fun _ => true) true n 4 (([v0, v1, v2, v3, v4, v5, v6, v7, v8, v9].drop 5).take (Tryz.prog.cellsOf 4)) = some y5 := hi 5 _ rfl
    rwa [k_4, cell1 (x := v5) rfl] at q
  have h6 : DataW.trod enc Tryz.prog w 0 (fun _ => true) true n 26 [v6] = some y6 := by
    have q : DataW.trod enc Tryz.prog w 0 (fun _ => true) true n 26 (([v0, v1, v2, v3, v4, v5, v6, v7, v8, v9].drop 6).take (Tryz.prog.cellsOf 26)) = some y6 := hi 6 _ rfl
    rwa [k_5, cell1 (x := v6) rfl] at q
  have h7 : DataW.trod enc Tryz.prog w 0 (fun _ => true) true n 3 [v7] = some y7 := by
    have q : DataW.trod enc Tryz.prog w 0 (fun _ => true) true n 3 (([v0, v1, v2, v3, v4, v5, v6, v7, v8, v9].drop 7).take (Tryz.prog.cellsOf 3)) = some y7 := hi 7 _ rfl
    rwa [k_6, cell1 (x := v7) rfl] at q
  have h8 : DataW.trod enc Tryz.prog w 0 (fun _ => true) true n 3 [v8] = some y8 := by
    have q : DataW.trod enc Tryz.prog w 0 (fun _ => true) true n 3 (([v0, v1, v2, v3, v4, v5, v6, v7, v8, v9].drop 8).take (Tryz.prog.cellsOf 3)) = some y8 := hi 8 _ rfl
    rwa [k_6, cell1 (x := v8) rfl] at q
  have h9 : DataW.trod enc Tryz.prog w 0 (fun _ => true) true n 25 [v9] = some y9 := by
    have q : DataW.trod enc Tryz.prog w 0 (fun _ => true) true n 25 (([v0, v1, v2, v3, v4, v5, v6, v7, v8, v9].drop 9).take (Tryz.prog.cellsOf 25)) = some y9 := hi 9 _ rfl
    rwa [k_7, cell1 (x := v9) rfl] at q
  clear hi h
  obtain ⟨n0, e0, -, w0⟩ := DataW.trod_int (k := .i64) Tryz.underlying29 h0
  simp only [List.cons.injEq, and_true] at e0
  obtain ⟨n1, e1, -, w1⟩ := DataW.trod_int (k := .u32) Tryz.underlying23 h1
  simp only [List.cons.injEq, and_true] at e1
  obtain ⟨n1, rfl, b1⟩ := wf_nat w1 (by simp)
  obtain ⟨n2, e2, -, w2⟩ := DataW.trod_int (k := .u64) Tryz.underlying24 h2
  simp only [List.cons.injEq, and_true] at e2
  obtain ⟨n2, rfl, b2⟩ := wf_nat w2 (by simp)
  obtain ⟨n3, e3, -, w3⟩ := DataW.trod_int (k := .u8) Tryz.underlying30 h3
  simp only [List.cons.injEq, and_true] at e3
  obtain ⟨n3, rfl, b3⟩ := wf_nat w3 (by simp)
  obtain ⟨n4, e4, -, w4⟩ := DataW.trod_int (k := .u64) Tryz.underlying24 h4
  simp only [List.cons.injEq, and_true] at e4
  obtain ⟨n4, rfl, b4⟩ := wf_nat w4 (by simp)
  obtain ⟨n5, e5, -⟩ := DataW.trod_bool Tryz.underlying4 h5
  simp only [List.cons.injEq, and_true] at e5
  obtain ⟨a6, c6, l6, e6, s6, z6⟩ := trod_slc (k := .i64) Tryz.underlying26 Tryz.underlying3 (by kernel_rfl) h6
  obtain ⟨n7, e7, -, w7⟩ := DataW.trod_int (k := .i64) Tryz.underlying3 h7
  simp only [List.cons.injEq, and_true] at e7
  obtain ⟨n8, e8, -, w8⟩ := DataW.trod_int (k := .i64) Tryz.underlying3 h8
  simp only [List.cons.injEq, and_true] at e8
  obtain ⟨a9, c9, l9, e9, s9, z9⟩ := trod_slc (k := .u8) Tryz.underlying25 Tryz.underlying5 (by kernel_rfl) h9
  subst e0 e1 e2 e3 e4 e5 e6 e7 e8 e9
  refine ⟨⟨⟨n0, n1, n2, n3, n4, n5, l6, n7, n8, l9⟩, a6, c6, a9, c9⟩, rfl, ⟨⟨s6, z6⟩, ⟨s9, z9⟩, w0, wf_lt b1 rfl, wf_lt b2 rfl, wf_lt b3 rfl, wf_lt b4 rfl, w7, w8⟩, fun hw => ?_⟩
  unfold DataW.weights at hw
  rw [Tryz.underlying32] at hw
  simp only [List.map_cons, List.map_nil] at hw
  obtain ⟨q0, hw⟩ := weights_head hw
  obtain ⟨q1, hw⟩ := weights_head hw
  obtain ⟨q2, hw⟩ := weights_head hw
  obtain ⟨q3, hw⟩ := weights_head hw
  obtain ⟨q4, hw⟩ := weights_head hw
  obtain ⟨q5, hw⟩ := weights_head hw
  obtain ⟨q6, hw⟩ := weights_head hw
  obtain ⟨q7, hw⟩ := weights_head hw
  obtain ⟨q8, hw⟩ := weights_head hw
  obtain ⟨q9, hw⟩ := weights_head hw
  exact ⟨slice_sz Tryz.underlying26 (of_decide_eq_true (by kernel_rfl)) h6 q6 rfl, slice_sz Tryz.underlying25 (of_decide_eq_true (by kernel_rfl)) h9 q9 rfl⟩
set_option maxRecDepth 100000 in
theorem open_rpl (hv : Value.okWide Tryz.prog w r b0 32 v) (h : DataW.Trod enc Tryz.prog w 0 (fun _ => true) true 32 v d p) (hw : (d.weights Tryz.prog 32).all (· ≤ reachBytes) = true) : IsRpl w v := by
  obtain ⟨cs, rfl, -⟩ := okWide_struct Tryz.underlying32 hv
  obtain ⟨fuel, hf⟩ := h
  obtain ⟨f, e, ok, sz⟩ := trod_rpl hf
  refine ⟨f, ?_, ok, sz hw⟩
  unfold Rpl.val
  unfold Rpl.cells at e
  obtain ⟨l⟩ := cs
  simp only [Value.cells] at e
  rw [e]
end
end Go.Proofs.YtjhbpocffckghaaGreatDoor
