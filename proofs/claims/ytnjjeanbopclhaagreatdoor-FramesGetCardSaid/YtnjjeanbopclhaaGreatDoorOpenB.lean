/-
  HOW ARGUMENTS THAT CAME IN ARE OPENED, BY KINDS: integers, slices of integers, arrays of two, structs of two and of three fields, slices of slices, slices of arrays of two. Plain theorems over any program. Conditions: those that each theorem states.
-/
import Derived.Test.YtnjjeanbopclhaaGreatDoorOpen
import Derived.Deep.Matrix
import Derived.Lib.SmallJoins
import Derived.OpenShut
namespace Go.Proofs.YtnjjeanbopclhaaGreatDoor
open Go.RowKit Go.ChangeShapes Go.WideShapes Go.Deep Go.Joins

/-- An integer that fits its kind. -/
def IsInt (k : IntKind) (_w : World) (v : Value) : Prop := ∃ n, v = .int k n ∧ (Lit.int k n).wf = true
/-- A slice of integers. -/
def IsSl (k : IntKind) (w : World) (v : Value) : Prop := ∃ a c xs, v = .slice a xs.length c ∧ In k w a c xs ∧ (a = none → c = 0)
/-- An array of two. -/
def IsArr2 (p : World → Value → Prop) (w : World) (v : Value) : Prop := ∃ v0 v1, v = .agg #[v0, v1] ∧ p w v0 ∧ p w v1

/-- A slice of integers as a value, with what it reads as. -/
structure Sl where
  a : Option Addr
  c : Nat
  l : List Int
def Sl.val (s : Sl) : Value := .slice s.a s.l.length s.c
structure Sl.Ok (k : IntKind) (w : World) (s : Sl) : Prop where
  inn : In k w s.a s.c s.l
  nil : s.a = none → s.c = 0
/-- A slice of slices of integers. -/
structure InR (k : IntKind) (w : World) (a : Option Addr) (c : Nat) (ss : List Sl) : Prop where
  rd : Rd w a (ss.map Sl.val)
  cap : ss.length ≤ c
  max : c ≤ maxLen
  ok : ∀ s ∈ ss, s.Ok k w
def IsSls (k : IntKind) (w : World) (v : Value) : Prop := ∃ a c ss, v = .slice a ss.length c ∧ InR k w a c ss ∧ (a = none → c = 0)
/-- A struct of a slice, a slice of slices, a slice. -/
def IsMarket (w : World) (v : Value) : Prop := ∃ v0 v1 v2, v = .agg #[v0, v1, v2] ∧ IsSl .i64 w v0 ∧ IsSls .i64 w v1 ∧ IsSl .i64 w v2
/-- A struct of two integers. -/
def IsTwo (k0 k1 : IntKind) (w : World) (v : Value) : Prop := ∃ v0 v1, v = .agg #[v0, v1] ∧ IsInt k0 w v0 ∧ IsInt k1 w v1
/-- A slice of arrays of two integers. -/
def IsPairs (k : IntKind) (w : World) (v : Value) : Prop := ∃ a c len, ∃ X Y : Nat → Int, v = .slice a len c ∧ len ≤ c ∧ c ≤ maxLen ∧ ∀ i, i < len → ((Lit.int k (X i)).wf = true ∧ (Lit.int k (Y i)).wf = true ∧ ∃ b off, a = some ⟨b, off, none⟩ ∧ w.cell? ⟨b, off + i * 2, none⟩ = some (.int k (X i)) ∧ w.cell? ⟨b, off + i * 2 + 1, none⟩ = some (.int k (Y i)))
theorem spot_of_cell {w : World} {a : Addr} {v : Value} (h : w.cell? a = some v) : a.spot = none := by
  unfold World.cell? at h
  split at h
  · cases hs : a.spot with
    | none => rfl
    | some s => simp [hs] at h
  · cases h

section
variable {H : Type} {enc : TypeId × Value → H} {P : Program} {w : World} {r : Go.Reach} {b0 : Nat} {t e : TypeId} {v : Value} {d : DataW H} {p : List MemPlace} {k : IntKind} {fuel : Nat} {y : DataW H × List MemPlace}

theorem trod_slc (ht : P.underlying t = some (.slice e)) (he : P.underlying e = some (.int k)) (hc : P.cellsOf e = 1) (h : DataW.trod enc P w 0 (fun _ => true) true fuel t [v] = some y) : IsSl k w v := by
  rcases open_ints ht he hc h with ⟨hcs, _⟩ | ⟨x, l, c, zs, hcs, _, hl, hm, hz, _, hcell, hwz⟩
  · simp at hcs
    subst hcs
    exact ⟨none, 0, [], rfl, ⟨Rd.nil _ _, Nat.le_refl _, Nat.zero_le _, fun x h => by simp at h⟩, fun _ => rfl⟩
  · simp at hcs
    subst hcs
    obtain ⟨xs, rfl, hx⟩ := IsRow.in_ (k := k) (w := w) (a := some x) (len := l) (cap := c) (zs := zs) (.inr ⟨x, rfl, hl, hm, by simpa using hz, hcell, hwz⟩)
    exact ⟨some x, c, xs, rfl, hx, fun h => by cases h⟩
theorem trod_slcs {q : TypeId} (ht : P.underlying t = some (.slice e)) (he : P.underlying e = some (.slice q)) (hq : P.underlying q = some (.int k)) (ce : P.cellsOf e = 1) (cq : P.cellsOf q = 1) (h : DataW.trod enc P w 0 (fun _ => true) true fuel t [v] = some y) : IsSls k w v := by
  rcases open_int_rows ht he hq ce cq h with ⟨hcs, _⟩ | ⟨a, len, cap, A, L, C, Z, hcs, _, hl, hm, _, hr⟩
  · simp at hcs
    subst hcs
    exact ⟨none, 0, [], rfl, ⟨Rd.nil _ _, Nat.le_refl _, Nat.zero_le _, fun s h => by simp at h⟩, fun _ => rfl⟩
  · simp at hcs
    subst hcs
    have hlen : ∀ r, r < cap → ((Z r).take (L r)).length = L r := fun r hr' => by
      obtain ⟨_, r1, _, r3, _⟩ := hr r hr'
      rw [List.length_take, r3]
      omega
    refine ⟨some a, cap, (List.range len).map fun r => ⟨A r, C r, (Z r).take (L r)⟩, by simp, ⟨?_, by simpa using hl, hm, ?_⟩, fun h => by cases h⟩
    · have h := Rd.of_cells (w := w) (ad := a) (vs := ((List.range cap).map fun r => (⟨A r, C r, (Z r).take (L r)⟩ : Sl)).map Sl.val) fun j u hu => by
        have hj : j < cap := by simpa using (List.getElem?_eq_some_iff.1 hu).1
        simp only [List.getElem?_map, List.getElem?_range hj, Option.map_some, Option.some.injEq] at hu
        rw [(hr j hj).1, ← hu, Sl.val, hlen j hj]
      have h2 := h.take len
      rwa [← List.map_take, ← List.map_take, List.take_range, Nat.min_eq_left hl] at h2
    · intro s hs
      simp only [List.mem_map, List.mem_range] at hs
      obtain ⟨j, hj, rfl⟩ := hs
      obtain ⟨_, r1, r2, r3, r4, r5, r6⟩ := hr j (by omega)
      refine ⟨?_, r5⟩
      cases hA : A j with
      | none =>
        have h0 := r5 hA
        have hz : (Z j).take (L j) = [] := List.eq_nil_of_length_eq_zero (by rw [hlen j (by omega)]; omega)
        rw [hz]
        exact ⟨Rd.nil _ _, Nat.zero_le _, r2, fun x h => by simp at h⟩
      | some a' =>
        obtain ⟨_, hcell⟩ := r6 a' hA
        obtain ⟨xs, hx1, hx⟩ := IsRow.in_ (k := k) (w := w) (a := some a') (len := L j) (cap := C j) (zs := Z j) (.inr ⟨a', rfl, r1, r2, r3, fun i hi => hcell i (by omega), r4⟩)
        refine ⟨?_, by rw [hlen j (by omega)]; exact r1, r2, fun x hx' => r4 x (List.mem_of_mem_take hx')⟩
        have h := Rd.of_cells (w := w) (ad := a') (vs := cs k (Z j)) fun i u hu => by
          have hi : i < (Z j).length := by have := (List.getElem?_eq_some_iff.1 hu).1; rwa [length_cs] at this
          rw [hcell i (by omega)]
          simp [cs_at, List.getD, hi] at hu ⊢
          exact hu
        have := h.take (L j)
        rwa [cs_take] at this

theorem open_isInt (ht : P.underlying t = some (.int k)) (hv : Value.okWide P w r b0 t v) (h : DataW.Trod enc P w 0 (fun _ => true) true t v d p) : IsInt k w v := by
  obtain ⟨n, rfl, _, _, hw⟩ := open_int ht hv h
  exact ⟨n, rfl, hw⟩
theorem open_isSl (ht : P.underlying t = some (.slice e)) (he : P.underlying e = some (.int k)) (hc : P.cellsOf e = 1) (hv : Value.okWide P w r b0 t v) (h : DataW.Trod enc P w 0 (fun _ => true) true t v d p) : IsSl k w v := by
  obtain ⟨a, l, c, rfl⟩ := okWide_slice ht hv
  obtain ⟨fuel, hf⟩ := h
  exact trod_slc ht he hc (by simpa [Value.cells] using hf)
theorem open_isSls {q : TypeId} (ht : P.underlying t = some (.slice e)) (he : P.underlying e = some (.slice q)) (hq : P.underlying q = some (.int k)) (ce : P.cellsOf e = 1) (cq : P.cellsOf q = 1) (hv : Value.okWide P w r b0 t v) (h : DataW.Trod enc P w 0 (fun _ => true) true t v d p) : IsSls k w v := by
  obtain ⟨a, l, c, rfl⟩ := okWide_slice ht hv
  obtain ⟨fuel, hf⟩ := h
  exact trod_slcs ht he hq ce cq (by simpa [Value.cells] using hf)
/-- An array of two elements of one cell each. -/
theorem open_arr2 (ht : P.underlying t = some (.array 2 e)) (ce : P.cellsOf e = 1) (ct : P.cellsOf t = 2) (hv : Value.okWide P w r b0 t v) (h : DataW.Trod enc P w 0 (fun _ => true) true t v d p) :
    ∃ (v0 v1 : Value) (y0 y1 : DataW H × List MemPlace) (n : Nat), v = .agg #[v0, v1] ∧ DataW.trod enc P w 0 (fun _ => true) true n e [v0] = some y0 ∧ DataW.trod enc P w 0 (fun _ => true) true n e [v1] = some y1 := by
  obtain ⟨cs, rfl, hsz⟩ : ∃ cs, v = .agg cs ∧ cs.size = P.cellsOf t := by
    simp only [Value.okWide, ht] at hv
    obtain ⟨cs, h1, h2, _⟩ := hv
    exact ⟨cs, h1, h2⟩
  obtain ⟨l⟩ := cs
  match l, hsz.trans ct with
  | [c0, c1], _ =>
    obtain ⟨fuel, hf⟩ := h
    obtain ⟨xs, m, _, _, _, hlen, hg⟩ := DataW.trod_array ht hf
    match xs, hlen with
    | [y0, y1], _ => exact ⟨c0, c1, y0, y1, m, rfl, by simpa [Value.cells, ce] using hg 0 (by omega), by simpa [Value.cells, ce] using hg 1 (by omega)⟩
theorem open_arr2_int (ht : P.underlying t = some (.array 2 e)) (he : P.underlying e = some (.int k)) (ce : P.cellsOf e = 1) (ct : P.cellsOf t = 2) (hv : Value.okWide P w r b0 t v) (h : DataW.Trod enc P w 0 (fun _ => true) true t v d p) : IsArr2 (IsInt k) w v := by
  obtain ⟨v0, v1, y0, y1, n, rfl, h0, h1⟩ := open_arr2 ht ce ct hv h
  obtain ⟨x0, e0, _, w0⟩ := DataW.trod_int he h0
  obtain ⟨x1, e1, _, w1⟩ := DataW.trod_int he h1
  simp at e0 e1
  exact ⟨v0, v1, rfl, ⟨x0, e0, w0⟩, ⟨x1, e1, w1⟩⟩
theorem open_arr2_sl {q : TypeId} (ht : P.underlying t = some (.array 2 e)) (he : P.underlying e = some (.slice q)) (hq : P.underlying q = some (.int k)) (cq : P.cellsOf q = 1) (ce : P.cellsOf e = 1) (ct : P.cellsOf t = 2) (hv : Value.okWide P w r b0 t v) (h : DataW.Trod enc P w 0 (fun _ => true) true t v d p) : IsArr2 (IsSl k) w v := by
  obtain ⟨v0, v1, y0, y1, n, rfl, h0, h1⟩ := open_arr2 ht ce ct hv h
  exact ⟨v0, v1, rfl, trod_slc he hq cq h0, trod_slc he hq cq h1⟩
theorem open_pairs {q : TypeId} (ht : P.underlying t = some (.slice e)) (he : P.underlying e = some (.array 2 q)) (hq : P.underlying q = some (.int k)) (ce : P.cellsOf e = 2) (cq : P.cellsOf q = 1) (hv : Value.okWide P w r b0 t v) (h : DataW.Trod enc P w 0 (fun _ => true) true t v d p) : IsPairs k w v := by
  obtain ⟨a0, l0, c0, rfl⟩ := okWide_slice ht hv
  obtain ⟨fuel, hf⟩ := h
  rcases open_slice ht (by simpa [Value.cells] using hf) with ⟨hcs, _⟩ | ⟨a, len, cap, m, n, D, Pl, hcs, _, hl, hm, hmm, _, hi⟩
  · simp at hcs
    obtain ⟨rfl, rfl, rfl⟩ := hcs
    exact ⟨none, 0, 0, fun _ => 0, fun _ => 0, rfl, Nat.le_refl _, Nat.zero_le _, fun i h => absurd h (Nat.not_lt_zero _)⟩
  · simp at hcs
    obtain ⟨rfl, rfl, rfl⟩ := hcs
    obtain rfl : m = c0 := by simpa using hmm
    have each : ∀ i, i < m → ∃ z : Int × Int, (Lit.int k z.1).wf = true ∧ (Lit.int k z.2).wf = true ∧ w.cell? ((a.add (i * 2)).add 0) = some (.int k z.1) ∧ w.cell? ((a.add (i * 2)).add 1) = some (.int k z.2) := fun i him => by
      obtain ⟨cs', hc, ht'⟩ := hi i him
      rw [ce] at hc
      obtain ⟨_, hcl, hat⟩ := World.cells?_some hc
      obtain ⟨xs, m', _, _, _, hlen, hg⟩ := DataW.trod_array he ht'
      have g0 := hg 0 (by omega)
      have g1 := hg 1 (by omega)
      have c0' := hat 0 (by omega)
      have c1' := hat 1 (by omega)
      match cs', hcl with
      | [u0, u1], _ =>
        match xs, hlen with
        | [y0, y1], _ =>
          simp only [cq, Nat.zero_mul, Nat.one_mul, List.drop_zero, List.drop_succ_cons, List.take_succ_cons, List.take_zero] at g0 g1
          obtain ⟨x0, e0, _, w0⟩ := DataW.trod_int hq (g0.trans rfl)
          obtain ⟨x1, e1, _, w1⟩ := DataW.trod_int hq (g1.trans rfl)
          simp at e0 e1
          subst e0 e1
          exact ⟨(x0, x1), w0, w1, c0', c1'⟩
    obtain ⟨z, hz⟩ := choose_lt each
    refine ⟨some a, _, _, fun i => (z i).1, fun i => (z i).2, rfl, hl, hm, fun i hil => ?_⟩
    obtain ⟨w0, w1, h0, h1⟩ := hz i (by omega)
    have hs : a.spot = none := by
      have := spot_of_cell (hz 0 (by omega)).2.2.1
      simpa [Addr.add] using this
    obtain ⟨b, off, s⟩ := a
    simp only at hs
    subst hs
    refine ⟨w0, w1, b, off, rfl, ?_, ?_⟩
    · simpa [Addr.add_lit] using h0
    · simpa [Addr.add_lit] using h1
theorem open_two {f0 f1 : Field} {k0 k1 : IntKind} (ht : P.underlying t = some (.struct #[f0, f1])) (hone : oneCellFields P #[f0, f1] = true) (ct : P.cellsOf t = 2) (h0' : P.underlying f0.type = some (.int k0)) (h1' : P.underlying f1.type = some (.int k1))
    (hv : Value.okWide P w r b0 t v) (h : DataW.Trod enc P w 0 (fun _ => true) true t v d p) : IsTwo k0 k1 w v := by
  obtain ⟨v0, v1, y0, y1, n, rfl, _, _, h0, h1⟩ := open_agg2 ht hone ct hv h
  obtain ⟨x0, e0, _, w0⟩ := DataW.trod_int h0' h0
  obtain ⟨x1, e1, _, w1⟩ := DataW.trod_int h1' h1
  simp at e0 e1
  exact ⟨v0, v1, rfl, ⟨x0, e0, w0⟩, ⟨x1, e1, w1⟩⟩
theorem open_market {f0 f1 f2 : Field} {q i : TypeId} (ht : P.underlying t = some (.struct #[f0, f1, f2])) (hone : oneCellFields P #[f0, f1, f2] = true) (ct : P.cellsOf t = 3) (h0' : P.underlying f0.type = some (.slice i)) (h1' : P.underlying f1.type = some (.slice q)) (h2' : P.underlying f2.type = some (.slice i))
    (hq : P.underlying q = some (.slice i)) (hi : P.underlying i = some (.int .i64)) (cq : P.cellsOf q = 1) (ci : P.cellsOf i = 1) (hv : Value.okWide P w r b0 t v) (h : DataW.Trod enc P w 0 (fun _ => true) true t v d p) : IsMarket w v := by
  obtain ⟨v0, v1, v2, y0, y1, y2, n, rfl, _, _, h0, h1, h2⟩ := open_agg3 ht hone ct hv h
  exact ⟨v0, v1, v2, rfl, trod_slc h0' hi ci h0, trod_slcs h1' hq hi cq ci h1, trod_slc h2' hi ci h2⟩
end

theorem IsInt.bd_i64 {w : World} {v : Value} (h : IsInt .i64 w v) : ∃ n, v = .int .i64 n ∧ (Lit.int .i64 n).wf = true ∧ -9223372036854775808 ≤ n ∧ n ≤ 9223372036854775807 := by
  obtain ⟨n, rfl, hw⟩ := h
  refine ⟨n, rfl, hw, ?_⟩
  simp [Lit.wf, IntKind.min, IntKind.max, IntKind.signed, IntKind.bits] at hw
  omega
theorem IsInt.bd_u8 {w : World} {v : Value} (h : IsInt .u8 w v) : ∃ n, v = .int .u8 n ∧ 0 ≤ n ∧ n < 256 := by
  obtain ⟨n, rfl, hw⟩ := h
  refine ⟨n, rfl, ?_⟩
  simp [Lit.wf, IntKind.min, IntKind.max, IntKind.signed, IntKind.bits] at hw
  omega
theorem IsInt.bd_u16 {w : World} {v : Value} (h : IsInt .u16 w v) : ∃ n, v = .int .u16 n ∧ 0 ≤ n ∧ n < 65536 := by
  obtain ⟨n, rfl, hw⟩ := h
  refine ⟨n, rfl, ?_⟩
  simp [Lit.wf, IntKind.min, IntKind.max, IntKind.signed, IntKind.bits] at hw
  omega
theorem IsInt.bd_u64 {w : World} {v : Value} (h : IsInt .u64 w v) : ∃ n : Nat, v = .int .u64 n ∧ n < 18446744073709551616 := by
  obtain ⟨n, rfl, hw⟩ := h
  simp [Lit.wf, IntKind.min, IntKind.max, IntKind.signed, IntKind.bits] at hw
  exact ⟨n.toNat, by rw [Int.toNat_of_nonneg (by omega)], by omega⟩
theorem IsInt.bd_i16 {w : World} {v : Value} (h : IsInt .i16 w v) : ∃ n, v = .int .i16 n ∧ -32768 ≤ n ∧ n ≤ 32767 := by
  obtain ⟨n, rfl, hw⟩ := h
  refine ⟨n, rfl, ?_⟩
  simp [Lit.wf, IntKind.min, IntKind.max, IntKind.signed, IntKind.bits] at hw
  omega
end Go.Proofs.YtnjjeanbopclhaaGreatDoor
