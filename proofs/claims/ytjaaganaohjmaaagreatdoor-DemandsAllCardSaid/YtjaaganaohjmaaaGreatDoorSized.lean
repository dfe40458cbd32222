/-
  OPENING A PARAMETER that is a market, with how much its slices may take by the form. Plain theorems. Conditions: those that each theorem states.
-/
import Derived.Test.YtjaaganaohjmaaaGreatDoorMktHa
namespace Go.Proofs.YtjaaganaohjmaaaGreatDoor
open Go.RowKit Go.ChangeShapes Go.WideShapes Go.Deep Go.Joins

/-- No slice takes more than the form lets it. -/
structure Mkt.Sized (M : Mkt) : Prop where
  r : M.r.l.length ≤ 140737488351232
  b : M.bs.length ≤ 140737488351232
  s : ∀ s ∈ M.bs, s.l.length ≤ 140737488351232
  o : M.o.l.length ≤ 140737488351232
/-- A market that came in, its slices no longer than the form lets them be. -/
def IsMarketS (w : World) (v : Value) : Prop := ∃ M : Mkt, v = M.val ∧ M.Ok w ∧ M.Sized
section
variable {H : Type} {enc : TypeId × Value → H} {P : Program} {w : World} {r : Go.Reach} {b0 : Nat} {t e : TypeId} {v : Value} {d : DataW H} {p : List MemPlace} {fuel : Nat} {y : DataW H × List MemPlace}
theorem weights_head {ts : List TypeId} {ds : List (DataW H)} {q : Nat → Bool} (h : (DataW.weightsEach P (t :: ts) (d :: ds)).all q = true) : (d.weights P t).all q = true ∧ (DataW.weightsEach P ts ds).all q = true := by
  unfold DataW.weightsEach at h
  rw [List.all_append, Bool.and_eq_true] at h
  exact h
theorem weights_all {ds : List (DataW H)} {q : Nat → Bool} (h : (DataW.weightsAll P e ds).all q = true) : ∀ d ∈ ds, (d.weights P e).all q = true := by
  induction ds with
  | nil => intro d hd; cases hd
  | cons x ds ih =>
    unfold DataW.weightsAll at h
    rw [List.all_append, Bool.and_eq_true] at h
    intro d hd
    rcases List.mem_cons.1 hd with hd | hd
    · exact hd ▸ h.1
    · exact ih h.2 d hd
theorem weights_slice {elems spare : List (DataW H)} (ht : P.underlying t = some (.slice e)) (h : ((DataW.slice elems spare).weights P t).all (· ≤ reachBytes) = true) : (elems.length + spare.length) * P.bytesOf e ≤ reachBytes ∧ ∀ d ∈ elems, (d.weights P e).all (· ≤ reachBytes) = true := by
  unfold DataW.weights at h
  rw [ht] at h
  simp only [List.all_cons, List.all_append, Bool.and_eq_true, decide_eq_true_eq] at h
  exact ⟨h.1, weights_all h.2.1⟩
/-- A slice's length. -/
theorem slice_sz (ht : P.underlying t = some (.slice e)) (hb : 1 ≤ P.bytesOf e) (h : DataW.trod enc P w 0 (fun _ => true) true fuel t [v] = some y) (hw : (y.1.weights P t).all (· ≤ reachBytes) = true) {a : Option Addr} {l c : Nat} (hv : v = .slice a l c) : l ≤ 140737488351232 := by
  subst hv
  rcases DataW.trod_slice ht h with ⟨hcs, _⟩ | ⟨a', len, cap, elems, rest, n, _, hcs, hy, _, hl, _, he, _, _, _⟩
  · simp at hcs
    omega
  · simp at hcs
    obtain ⟨_, rfl, rfl⟩ := hcs
    subst hy
    have h1 := (weights_slice ht hw).1
    rw [List.length_map, List.length_map, he] at h1
    have h2 := Nat.le_trans (Nat.le_mul_of_pos_right (l + rest.length) hb) h1
    unfold reachBytes at h2
    omega
theorem rows_sz {q : TypeId} (ht : P.underlying t = some (.slice e)) (he : P.underlying e = some (.slice q)) (ce : P.cellsOf e = 1) (hbe : 1 ≤ P.bytesOf e) (hbq : 1 ≤ P.bytesOf q) (h : DataW.trod enc P w 0 (fun _ => true) true fuel t [v] = some y) (hw : (y.1.weights P t).all (· ≤ reachBytes) = true)
    {a : Option Addr} {c : Nat} {ss : List Sl} (hv : v = .slice a ss.length c) (hr : Rd w a (ss.map Sl.val)) : ss.length ≤ 140737488351232 ∧ ∀ s ∈ ss, s.l.length ≤ 140737488351232 := by
  refine ⟨slice_sz ht hbe h hw hv, ?_⟩
  subst hv
  intro s hs
  obtain ⟨j, hj⟩ := List.getElem?_of_mem hs
  have hjl := (List.getElem?_eq_some_iff.1 hj).1
  rcases DataW.trod_slice ht h with ⟨hcs, _⟩ | ⟨a', len, cap, elems, rest, n, _, hcs, hy, _, hl, _, hel, hi, _, _⟩
  · simp at hcs
    obtain ⟨_, rfl, _⟩ := hcs
    cases hs
  · simp at hcs
    obtain ⟨rfl, rfl, rfl⟩ := hcs
    subst hy
    have h1 := (weights_slice ht hw).2
    have h2 := hi j hjl
    rw [ce, Nat.mul_one] at h2
    have hc := hr.cells j s.val (by rw [List.getElem?_map, hj]; rfl)
    obtain ⟨x, hx⟩ : ∃ x, elems[j]? = some x := ⟨_, List.getElem?_eq_getElem (by omega)⟩
    rw [hx] at h2
    obtain ⟨cs', hcs, ht'⟩ := Option.bind_eq_some_iff.1 h2
    obtain ⟨_, hcl, hat⟩ := World.cells?_some hcs
    have c0 := hat 0 (by omega)
    match cs', hcl with
    | [u0], _ =>
      simp only [List.getElem?_cons_zero] at c0
      have hu : u0 = s.val := by
        have e1 : (a'.add j).add 0 = a'.add j := by simp [Addr.add]
        rw [e1, hc] at c0
        simpa using c0.symm
      subst hu
      have hm : x.1 ∈ elems.map (·.1) := List.mem_map.2 ⟨x, List.mem_of_getElem? hx, rfl⟩
      exact slice_sz he hbq ht' (h1 x.1 hm) rfl
theorem market_sized {f0 f1 f2 : Field} {q i : TypeId} (ht : P.underlying t = some (.struct #[f0, f1, f2])) (hone : oneCellFields P #[f0, f1, f2] = true) (ct : P.cellsOf t = 3) (h0' : P.underlying f0.type = some (.slice i)) (h1' : P.underlying f1.type = some (.slice q)) (h2' : P.underlying f2.type = some (.slice i))
    (hq : P.underlying q = some (.slice i)) (hi : P.underlying i = some (.int .i64)) (cq : P.cellsOf q = 1) (ci : P.cellsOf i = 1) (bi : 1 ≤ P.bytesOf i) (bq : 1 ≤ P.bytesOf q) (hv : Value.okWide P w r b0 t v) (h : DataW.Trod enc P w 0 (fun _ => true) true t v d p)
    (hw : (d.weights P t).all (· ≤ reachBytes) = true) : ∃ M : Mkt, v = M.val ∧ M.Ok w ∧ M.Sized := by
  obtain ⟨v0, v1, v2, y0, y1, y2, n, rfl, rfl, _, h0, h1, h2⟩ := open_agg3 ht hone ct hv h
  obtain ⟨M, hM, hok⟩ := IsMarket.mkt (w := w) (v := .agg #[v0, v1, v2]) ⟨v0, v1, v2, rfl, trod_slc h0' hi ci h0, trod_slcs h1' hq hi cq ci h1, trod_slc h2' hi ci h2⟩
  unfold DataW.weights at hw
  rw [ht] at hw
  obtain ⟨w0, hw⟩ := weights_head hw
  obtain ⟨w1, hw⟩ := weights_head hw
  obtain ⟨w2, hw⟩ := weights_head hw
  unfold Mkt.val at hM
  simp only [Value.agg.injEq, Array.mk.injEq, List.cons.injEq, and_true] at hM
  obtain ⟨e0, e1, e2⟩ := hM
  obtain ⟨s1, s2⟩ := rows_sz h1' hq cq bq bi h1 w1 e1 hok.b.rd
  exact ⟨M, by unfold Mkt.val; rw [e0, e1, e2], hok, slice_sz h0' bi h0 w0 e0, s1, s2, slice_sz h2' bi h2 w2 e2⟩
end
end Go.Proofs.YtjaaganaohjmaaaGreatDoor
