/-
  WORDS ON MEMORY, plain theorems over any program: 'Keep' (nothing that lay in one world has turned in the other), 'Rd' (a slice value reads as a list), 'Fr' (a slice value that lies in a row of the call's own, or has no capacity), and the law of append onto such a slice. Conditions: those that each theorem states.
-/
import Derived.WalkKit
import Derived.WalkSpells
import Derived.Deep.Draws
import Derived.Lib.Hide
namespace Go.Proofs.YtnjjeanbopclhaaGreatDoor
open Go.RowKit

/-- Nothing that lay in w has turned in w'. -/
def Keep (w w' : World) : Prop := Below w.heap.size w w'

section
variable {a b c w w' : World}
theorem Keep.refl (w : World) : Keep w w := Below.refl _ _
theorem Keep.trans (h : Keep a b) (k : Keep b c) : Keep a c := Below.trans h (Below.mono k (Below.size h))
theorem Keep.size (h : Keep a b) : a.heap.size ≤ b.heap.size := Below.size h
theorem Keep.tape (h : Keep a b) : b.tape = a.tape := Below.tape h
theorem Keep.drew (h : Keep a b) : Keep a b.drew := Below.drew h
theorem Keep.drewN (h : Keep a b) (n : Nat) : Keep a (b.drewN n) := ⟨h.os, h.tape, h.output, h.size, h.block⟩
theorem Keep.alloc (h : Keep a b) (o : Obj) : Keep a (b.alloc o) := Below.alloc h (Below.size h) o
theorem Keep.setCell (h : Keep a b) {p : Addr} (hp : a.heap.size ≤ p.block) (u : Value) : Keep a (b.setCell p u) := Below.setCell h hp u
theorem Keep.grown {row : Option Nat} (h : Keep a b) (hg : b.grownBy c row) (hr : ∀ k, row = some k → a.heap.size ≤ k) : Keep a c := Below.grown h hg (Below.size h) hr
theorem Keep.block (h : Keep a b) {k : Nat} (hk : k < a.heap.size) : b.heap[k]? = a.heap[k]? := Below.block h k hk
theorem Keep.heap (h : Keep a b) {k : Nat} {o : Obj} (hk : a.heap[k]? = some o) : b.heap[k]? = some o := (Below.block h k (Array.getElem?_eq_some_iff.1 hk).1).trans hk
theorem Keep.cell (h : Keep a b) {p : Addr} {v : Value} (hc : a.cell? p = some v) : b.cell? p = some v := (Below.cell h (World.block_lt_of_cell? a p hc)).trans hc
theorem Keep.frozen (h : Keep a b) {p : Addr} (hp : p.block < a.heap.size) : b.frozen? p = a.frozen? p := Below.frozen h hp
theorem Keep.below (h : Keep a b) : Below a.heap.size a b := h
theorem Keep.of_below {B : Nat} (h : Below B a b) (hB : a.heap.size ≤ B) : Keep a b := Below.mono h hB
theorem Keep.alloc1 (w : World) (o : Obj) : Keep w (w.alloc o) := (Keep.refl w).alloc o
end

/-- The slice value at address A reads as the cells vs. -/
def Rd (w : World) (A : Option Addr) (vs : List Value) : Prop :=
  ∀ j u, vs[j]? = some u → ∃ b off, A = some ⟨b, off, none⟩ ∧ w.cell? ⟨b, off + j, none⟩ = some u

/-- A list of numbers as cells. -/
def cs (k : IntKind) (xs : List Int) : List Value := xs.map (Value.int k)
theorem length_cs (k : IntKind) (xs : List Int) : (cs k xs).length = xs.length := by simp [cs]
theorem cs_nil (k : IntKind) : cs k [] = [] := rfl
theorem cs_append (k : IntKind) (xs ys : List Int) : cs k (xs ++ ys) = cs k xs ++ cs k ys := List.map_append
theorem cs_one (k : IntKind) (x : Int) : cs k [x] = [.int k x] := rfl
theorem cs_at (k : IntKind) (xs : List Int) (j : Nat) : (cs k xs)[j]? = xs[j]?.map (Value.int k) := by simp [cs]
theorem cs_take (k : IntKind) (xs : List Int) (n : Nat) : (cs k xs).take n = cs k (xs.take n) := by simp [cs]
theorem cs_drop (k : IntKind) (xs : List Int) (n : Nat) : (cs k xs).drop n = cs k (xs.drop n) := by simp [cs]

section
variable {w w' : World} {A : Option Addr} {vs : List Value} {xs : List Int} {k : IntKind}
theorem Rd.nil (w : World) (A : Option Addr) : Rd w A [] := fun j u h => by simp at h
theorem Rd.at_ (h : Rd w A vs) {j : Nat} (hj : j < vs.length) : ∃ b off, A = some ⟨b, off, none⟩ ∧ w.cell? ⟨b, off + j, none⟩ = some vs[j] :=
  h j _ (List.getElem?_eq_getElem hj)
/-- The address once for all, where there is an element. -/
theorem Rd.ad (h : Rd w A vs) (hj : 0 < vs.length) : ∃ b off, A = some ⟨b, off, none⟩ ∧ ∀ j u, vs[j]? = some u → w.cell? ⟨b, off + j, none⟩ = some u := by
  obtain ⟨b, off, rfl, _⟩ := h.at_ hj
  refine ⟨b, off, rfl, fun j u hu => ?_⟩
  obtain ⟨b', off', e, hc⟩ := h j u hu
  cases e
  exact hc
theorem Rd.ints (h : Rd w A (cs k xs)) (hj : 0 < xs.length) : ∃ b off, A = some ⟨b, off, none⟩ ∧ ∀ j, j < xs.length → w.cell? ⟨b, off + j, none⟩ = some (.int k (xs.getD j 0)) := by
  obtain ⟨b, off, rfl, hc⟩ := h.ad (by rw [length_cs]; exact hj)
  exact ⟨b, off, rfl, fun j hj => hc j _ (by simp [cs, List.getD, hj])⟩
theorem Rd.keep (h : Rd w A vs) (hk : Keep w w') : Rd w' A vs := fun j u hu => by
  obtain ⟨b, off, e, hc⟩ := h j u hu
  exact ⟨b, off, e, hk.cell hc⟩
theorem Rd.congr (h : Rd w A vs) (hc : ∀ b off j u, A = some ⟨b, off, none⟩ → w.cell? ⟨b, off + j, none⟩ = some u → w'.cell? ⟨b, off + j, none⟩ = some u) : Rd w' A vs := fun j u hu => by
  obtain ⟨b, off, e, hc'⟩ := h j u hu
  exact ⟨b, off, e, hc _ _ _ _ e hc'⟩
theorem Rd.of_cells {ad : Addr} (h : ∀ j u, vs[j]? = some u → w.cell? (ad.add j) = some u) : Rd w (some ad) vs := fun j u hu => by
  have h0 : ad.spot = none := by
    have hlt := (List.getElem?_eq_some_iff.1 hu).1
    have h1 := h 0 _ (List.getElem?_eq_getElem (by omega))
    simp only [Addr.add, if_true] at h1
    unfold World.cell? at h1
    split at h1
    · cases hs : ad.spot with
      | none => rfl
      | some s => simp [hs] at h1
    · cases h1
  obtain ⟨b, off, s⟩ := ad
  simp only at h0
  subst h0
  refine ⟨b, off, rfl, ?_⟩
  have := h j u hu
  rwa [Addr.add_lit] at this
theorem Rd.cells {ad : Addr} (h : Rd w (some ad) vs) : ∀ j u, vs[j]? = some u → w.cell? (ad.add j) = some u := fun j u hu => by
  obtain ⟨b, off, e, hc⟩ := h j u hu
  cases e
  rw [Addr.add_lit]
  exact hc
theorem Rd.take (h : Rd w A vs) (n : Nat) : Rd w A (vs.take n) := fun j u hu => by
  rw [List.getElem?_take] at hu
  split at hu
  · exact h j u hu
  · cases hu
theorem Rd.drop (h : Rd w A vs) {n cap : Nat} (hn : vs.length ≤ cap) (A' : Option Addr) (hA : cap ≠ n → A' = A.map (·.add n)) : Rd w A' (vs.drop n) := fun j u hu => by
  rw [List.getElem?_drop] at hu
  obtain ⟨b, off, rfl, hc⟩ := h _ u hu
  have := (List.getElem?_eq_some_iff.1 hu).1
  refine ⟨b, off + n, ?_, by rw [Nat.add_assoc]; exact hc⟩
  rw [hA (by omega)]
  simp [Addr.add_lit]
theorem Rd.none_len (h : Rd w none vs) : vs = [] := by
  cases vs with
  | nil => rfl
  | cons v l => obtain ⟨b, off, e, _⟩ := h 0 v rfl; cases e
end

/-- The slice value '.slice A n c' (elements of type e, one cell each) holds vs in a row of the call's own, from block 'base' on; or it has no capacity. -/
def Fr (e : TypeId) (w : World) (base : Nat) (A : Option Addr) (n c : Nat) (vs : List Value) : Prop :=
  vs.length = n ∧ n ≤ c ∧ c ≤ maxLen ∧ (c = 0 ∨ ∃ g cur, A = some ⟨g, 0, none⟩ ∧ base ≤ g ∧ w.heap[g]? = some (.cells cur e (0, 0)) ∧ c ≤ cur.size ∧ cur.toList.take n = vs)

/-- The block in which a slice of the call's own lies. -/
def ownB (A : Option Addr) (c : Nat) : Option Nat := if c = 0 then none else A.map (·.block)

section
variable {e : TypeId} {w w' : World} {base : Nat} {A : Option Addr} {n c : Nat} {vs : List Value}
theorem Fr.empty (e : TypeId) (w : World) (base : Nat) (A : Option Addr) : Fr e w base A 0 0 [] := ⟨rfl, Nat.le_refl _, Nat.zero_le _, .inl rfl⟩
theorem Fr.len (h : Fr e w base A n c vs) : vs.length = n := h.1
theorem Fr.cap (h : Fr e w base A n c vs) : n ≤ c := h.2.1
theorem Fr.capMax (h : Fr e w base A n c vs) : c ≤ maxLen := h.2.2.1
theorem Fr.capNil (h : Fr e w base A n c vs) (hA : A = Option.none) : c = 0 := by
  obtain ⟨h1, h2, h3, h4 | ⟨g, cur, hA', hg, r⟩⟩ := h
  · exact h4
  · rw [hA] at hA'; cases hA'
theorem Fr.rd (h : Fr e w base A n c vs) : Rd w A vs := fun j u hu => by
  obtain ⟨hl, hc, _, rfl | ⟨g, cur, rfl, _, hg, _, ht⟩⟩ := h
  · have := (List.getElem?_eq_some_iff.1 hu).1
    omega
  · refine ⟨g, 0, rfl, ?_⟩
    rw [Nat.zero_add, cell_of_row w g j cur e (0, 0) hg]
    rw [← ht, List.getElem?_take] at hu
    split at hu
    · simpa using hu
    · cases hu
theorem Fr.mono {base' : Nat} (h : Fr e w base A n c vs) (hb : base' ≤ base) : Fr e w base' A n c vs := by
  obtain ⟨h1, h2, h3, h4 | ⟨g, cur, hA, hg, r⟩⟩ := h
  · exact ⟨h1, h2, h3, .inl h4⟩
  · exact ⟨h1, h2, h3, .inr ⟨g, cur, hA, Nat.le_trans hb hg, r⟩⟩
theorem Fr.keep (h : Fr e w base A n c vs) (hk : Keep w w') : Fr e w' base A n c vs := by
  obtain ⟨h1, h2, h3, h4 | ⟨g, cur, hA, hb, hg, r⟩⟩ := h
  · exact ⟨h1, h2, h3, .inl h4⟩
  · exact ⟨h1, h2, h3, .inr ⟨g, cur, hA, hb, hk.heap hg, r⟩⟩
theorem Fr.grown {row : Option Nat} (h : Fr e w base A n c vs) (hg : w.grownBy w' row) (hne : ∀ k, ownB A c = some k → row ≠ some k) : Fr e w' base A n c vs := by
  obtain ⟨h1, h2, h3, h4 | ⟨g, cur, rfl, hb, hgg, r⟩⟩ := h
  · exact ⟨h1, h2, h3, .inl h4⟩
  · by_cases hc : c = 0
    · exact ⟨h1, h2, h3, .inl hc⟩
    · refine ⟨h1, h2, h3, .inr ⟨g, cur, rfl, hb, ?_, r⟩⟩
      rw [hg.block g (Array.getElem?_eq_some_iff.1 hgg).1 (fun e' => hne g (by simp [ownB, hc]) e'.symm)]
      exact hgg
theorem Fr.setCell (h : Fr e w base A n c vs) {p : Addr} (hne : ∀ k, ownB A c = some k → p.block ≠ k) (u : Value) : Fr e (w.setCell p u) base A n c vs := by
  obtain ⟨h1, h2, h3, h4 | ⟨g, cur, rfl, hb, hgg, r⟩⟩ := h
  · exact ⟨h1, h2, h3, .inl h4⟩
  · by_cases hc : c = 0
    · exact ⟨h1, h2, h3, .inl hc⟩
    · refine ⟨h1, h2, h3, .inr ⟨g, cur, rfl, hb, ?_, r⟩⟩
      rw [Below.heap_setCell w p u g (fun e' => hne g (by simp [ownB, hc]) e'.symm)]
      exact hgg
theorem Fr.own_ge (h : Fr e w base A n c vs) {k : Nat} (hk : ownB A c = some k) : base ≤ k ∧ k < w.heap.size := by
  obtain ⟨h1, h2, h3, h4 | ⟨g, cur, rfl, hb, hgg, r⟩⟩ := h
  · simp [ownB, h4] at hk
  · unfold ownB at hk
    split at hk
    · cases hk
    · simp at hk
      subst hk
      exact ⟨hb, (Array.getElem?_eq_some_iff.1 hgg).1⟩
/-- A slice of the call's own of another block than a block that is known: by the cells' type. -/
theorem Fr.own_ne {g : Nat} {cur : Array Value} {t : TypeId} {z : Nat × Nat} (h : Fr e w base A n c vs) (hg : w.heap[g]? = some (.cells cur t z)) (hne : e ≠ t) : ∀ k, ownB A c = some k → g ≠ k := by
  rintro k hk rfl
  obtain ⟨h1, h2, h3, h4 | ⟨g', cur', rfl, hb, hgg, r⟩⟩ := h
  · simp [ownB, h4] at hk
  · unfold ownB at hk
    split at hk
    · cases hk
    · simp at hk
      subst hk
      rw [hg] at hgg
      injection hgg with hgg
      injection hgg with _ ht
      exact hne ht.symm
/-- The capacity clipped. -/
theorem Fr.clip (h : Fr e w base A n c vs) : Fr e w base A n n vs := by
  obtain ⟨h1, h2, h3, h4 | ⟨g, cur, rfl, hb, hgg, hs, ht⟩⟩ := h
  · exact ⟨h1, Nat.le_refl _, by omega, .inl (by omega)⟩
  · exact ⟨h1, Nat.le_refl _, by omega, .inr ⟨g, cur, rfl, hb, hgg, by omega, ht⟩⟩
/-- A new row. -/
theorem Fr.new (w : World) (cur : Array Value) (e : TypeId) (hn : n ≤ c) (hm : c ≤ maxLen) (hs : c ≤ cur.size) (hb : base ≤ w.heap.size) :
    Fr e (w.alloc (.cells cur e)) base (some ⟨w.heap.size, 0, none⟩) n c (cur.toList.take n) :=
  ⟨by simp; omega, hn, hm, .inr ⟨w.heap.size, cur, rfl, hb, heap_alloc_new w _, hs, rfl⟩⟩
/-- A store into the slice. -/
theorem Fr.stored {g : Nat} (h : Fr e w base (some ⟨g, 0, none⟩) n c vs) {j : Nat} (hj : j < n) (u : Value) : Fr e (w.setCell ⟨g, j, none⟩ u) base (some ⟨g, 0, none⟩) n c (vs.set j u) := by
  obtain ⟨h1, h2, h3, h4 | ⟨g', cur, hA, hb, hgg, hs, ht⟩⟩ := h
  · omega
  · cases hA
    refine ⟨by simpa using h1, h2, h3, .inr ⟨g, cur.setIfInBounds j u, rfl, hb, heap_setCell_same w g j cur e u hgg, by simpa using hs, ?_⟩⟩
    rw [Array.toList_setIfInBounds, List.take_set, ht]
theorem Fr.frozen {g : Nat} (h : Fr e w base (some ⟨g, 0, none⟩) n c vs) (hn : 0 < n) (j : Nat) : w.frozen? ⟨g, j, none⟩ = false := by
  obtain ⟨h1, h2, h3, h4 | ⟨g', cur, hA, hb, hgg, hs, ht⟩⟩ := h
  · omega
  · cases hA
    exact frozen_of_row w g j cur e hgg
theorem Fr.form (h : Fr e w base A n c vs) (hn : 0 < n) : ∃ g, A = some ⟨g, 0, none⟩ ∧ base ≤ g ∧ g < w.heap.size := by
  obtain ⟨h1, h2, h3, h4 | ⟨g', cur, hA, hb, hgg, hs, ht⟩⟩ := h
  · omega
  · exact ⟨g', hA, hb, (Array.getElem?_eq_some_iff.1 hgg).1⟩
end

/-- What append leaves: a slice of the call's own that holds both; nothing else has turned; in whose block it lies. -/
def Appended (e : TypeId) (w : World) (base : Nat) (A : Option Addr) (c n : Nat) (vs : List Value) (A' : Option Addr) (c' : Nat) (w' : World) : Prop :=
  Fr e w' base A' n c' vs ∧ w.grownBy w' (ownB A c) ∧ (ownB A' c' = ownB A c ∨ ownB A' c' = some w.heap.size ∨ c' = 0)

section
variable {P : Program} (w : World)

theorem append_new (base : Nat) (e : TypeId) (z : Value) (old need : Nat) (all : List Value) (hz : z.cells.size = 1) (hl : all.length = need) (h63 : need ≤ maxLen) (hbase : base ≤ w.heap.size) (row : Option Nat) :
    Fr e (w.drew.alloc (.cells (all.toArray ++ Builtin.zeroCells z.cells (grownCap w need old e - need)) e)) base (some ⟨w.heap.size, 0, none⟩) need (grownCap w need old e) all ∧
    w.grownBy (w.drew.alloc (.cells (all.toArray ++ Builtin.zeroCells z.cells (grownCap w need old e - need)) e)) row := by
  have hge := grownCap_ge w need old e
  have hcm : grownCap w need old e ≤ maxLen := grownCap_le_maxLen w need old e h63
  refine ⟨⟨hl, hge, hcm, .inr ⟨w.heap.size, _, rfl, hbase, heap_alloc_new w.drew _, ?_, ?_⟩⟩, ⟨rfl, rfl, rfl, by simp, fun k hk _ => Below.heap_alloc w.drew _ k hk⟩⟩
  · simp only [Array.size_append, List.size_toArray, size_zeroCells, hz, hl]
    omega
  · simp only [Array.toList_append]
    rw [← hl]
    exact List.take_left

theorem run_append_fr (base : Nat) (t ty e : TypeId) (i : TypeInfo) (z : Value) (bytes : Nat) (ht : P.underlying t = some (.slice e)) (hi : P.info? e = some i) (hz : i.zero = some z)
    (hsize : i.size = 1) (hby : i.bytes = bytes) (hzs : z.cells.size = 1)
    (A : Option Addr) (n c : Nat) (vs : List Value) (hown : Fr e w base A n c vs)
    (B : Option Addr) (m d : Nat) (news : List Value) (hl : news.length = m) (hr : Rd w B news) (h1 : ∀ u ∈ news, u.oneCell' = true)
    (h63 : n + m ≤ maxLen) (hbytes : (n + m) * bytes ≤ 140737488355328) (hbase : base ≤ w.heap.size) :
    ∃ A' c' w', (Builtin.append_ #[t, t] ty #[.slice A n c, .slice B m d]).run P w = .ok (.slice A' (n + m) c') w' ∧ Appended e w base A c (n + m) (vs ++ news) A' c' w' := by
  have hA0 : A = none → c = 0 := fun h => hown.capNil h
  subst hby
  have hsmall : n + m ≤ 9223372036854775807 := by simp only [maxLen] at h63; omega
  have hlen : (vs ++ news).length = n + m := by rw [List.length_append, hown.len, hl]
  unfold Appended
  by_cases hm : m = 0
  · subst hm
    obtain rfl : news = [] := List.eq_nil_of_length_eq_zero hl
    refine ⟨A, c, w, ?_, ⟨by simpa using hown, ⟨rfl, rfl, rfl, Nat.le_refl _, fun _ _ _ => rfl⟩, .inl rfl⟩⟩
    have hc := hown.cap
    cases A <;> cases B <;> simp [Builtin.append_, run_underlying ht, sizeOf, typeInfo, hi, Builtin.lenOf, Builtin.firstCells, hc, storeCells, loadCells, loadCellsFrom]
  · cases B with
    | none => exact absurd hr.none_len (by intro h; subst h; simp at hl; omega)
    | some ad =>
      have hcells := hr.cells
      have hl' : news.length = m * i.size := by rw [hsize]; omega
      by_cases hroom : n + m ≤ c
      · obtain ⟨h1', h2, h3, h4 | ⟨g, cur, rfl, hb, hg, hs, htk⟩⟩ := hown
        · omega
        · have hrun := run_append_room (P := P) w t ty e i ht hi g n c cur hg ad m d news hl' hcells h1 hroom (by rw [hsize, hl]; omega)
          refine ⟨_, _, _, hrun, ⟨⟨hlen, hroom, h3, .inr ⟨g, _, rfl, hb, setRow_heap w g cur _ e _ hg, ?_, ?_⟩⟩, ⟨rfl, rfl, rfl, by simp, fun k _ hk => setRow_other w g k _ (fun e' => hk (by rw [ownB, if_neg (by omega)]; simp [e']))⟩, .inl rfl⟩⟩
          · simp only [List.size_toArray, List.length_append, List.length_take, List.length_drop, Array.length_toList, hsize]
            omega
          · rw [hsize, Nat.mul_one, htk, ← hlen]
            exact List.take_left
      · cases A with
        | none =>
          have hc0 := hA0 rfl
          subst hc0
          have hn0 : n = 0 := by have := hown.cap; omega
          subst hn0
          obtain rfl : vs = [] := List.eq_nil_of_length_eq_zero hown.len
          have hrun := run_append_nil (P := P) w t ty e i z ht hi hz ad m d news hl' hcells (by omega) (by omega) (by have hb := hbytes; simp only [Nat.zero_add] at hb; omega)
          have hgr := append_new w base e z 0 m news hzs hl (by omega) hbase (ownB none 0)
          simp only [Nat.zero_add, List.nil_append] at hgr ⊢
          have hge := grownCap_ge w m 0 e
          exact ⟨_, _, _, hrun, ⟨hgr.1, hgr.2, .inr (.inl (by rw [ownB, if_neg (by omega)]; rfl))⟩⟩
        | some a0 =>
          have hrun := run_append_grow (P := P) w t ty e i z ht hi hz a0 n c vs (by rw [hsize, hown.len]; omega) hown.rd.cells ad m d news hl' hcells (by omega) (by omega) (growslice_fits (by omega) hbytes)
          have hgr := append_new w base e z c (n + m) (vs ++ news) hzs hlen h63 hbase (ownB (some a0) c)
          rw [← List.append_toArray] at hgr
          have hge := grownCap_ge w (n + m) c e
          exact ⟨_, _, _, hrun, ⟨hgr.1, hgr.2, .inr (.inl (by rw [ownB, if_neg (by omega)]; rfl))⟩⟩

theorem wp_append_fr {o : Oper} {a : Act} {K : Act → World → Prop} {Q : Exit → Act → World → Prop} (s x : Operand) (t : TypeId)
    (ho : o.op = .call { callee := .builtin .append, args := #[s, x], argTypes := #[t, t] })
    (base : Nat) (e : TypeId) (z : Value) (bytes : Nat) (ht : P.underlying t = some (.slice e)) (hinfo : (P.info? e).map (fun i => (i.zero, i.size, i.bytes)) = some (some z, 1, bytes)) (hzs : z.cells.size = 1)
    (A : Option Addr) (n c : Nat) (vs : List Value) (hs : a.eval s = .slice A n c) (hown : Fr e w base A n c vs)
    (B : Option Addr) (m d : Nat) (news : List Value) (hx : a.eval x = .slice B m d) (hl : news.length = m) (hr : Rd w B news) (h1 : ∀ u ∈ news, u.oneCell' = true)
    (h63 : n + m ≤ maxLen) (hbytes : (n + m) * bytes ≤ 140737488355328) (hbase : base ≤ w.heap.size)
    (h : ∀ A' c' w', Appended e w base A c (n + m) (vs ++ news) A' c' w' → K (a.put o.dst (.slice A' (n + m) c')) w') : o.wp P a w K Q := by
  obtain ⟨i, hi, hz, hsize, hby⟩ := info_parts hinfo
  obtain ⟨A', c', w', hrun, h2⟩ := run_append_fr (P := P) w base t o.type e i z bytes ht hi hz hsize hby hzs A n c vs hown B m d news hl hr h1 h63 hbytes hbase
  unfold Oper.wp execOp
  simp only [ho, resolve, invoke, builtin, Sem.run_bind, Sem.run_pure, Result.andThen_ok, List.map_toArray, List.map_cons, List.map_nil, hs, hx, hrun]
  exact h A' c' w' h2

theorem wpList_append_fr {ops : Array Oper} {rest : List Oper} {o : Oper} {a : Act} {Q : Exit → Act → World → Prop} (hgd : o.guard = none) (s x : Operand) (t : TypeId)
    (ho : o.op = .call { callee := .builtin .append, args := #[s, x], argTypes := #[t, t] })
    (base : Nat) (e : TypeId) (z : Value) (bytes : Nat) (ht : P.underlying t = some (.slice e)) (hinfo : (P.info? e).map (fun i => (i.zero, i.size, i.bytes)) = some (some z, 1, bytes)) (hzs : z.cells.size = 1)
    (A : Option Addr) (n c : Nat) (vs : List Value) (hs : a.eval s = .slice A n c) (hown : Fr e w base A n c vs)
    (B : Option Addr) (m d : Nat) (news : List Value) (hx : a.eval x = .slice B m d) (hl : news.length = m) (hr : Rd w B news) (h1 : ∀ u ∈ news, u.oneCell' = true)
    (h63 : n + m ≤ maxLen) (hbytes : (n + m) * bytes ≤ 140737488355328) (hbase : base ≤ w.heap.size)
    (h : ∀ A' c' w', Appended e w base A c (n + m) (vs ++ news) A' c' w' → wpList P ops Q rest (a.put o.dst (.slice A' (n + m) c')) w') : wpList P ops Q (o :: rest) a w :=
  wpList_plain hgd fun _ hK => wp_append_fr w s x t ho base e z bytes ht hinfo hzs A n c vs hs hown B m d news hx hl hr h1 h63 hbytes hbase fun A' c' w' h2 => hK _ _ (h A' c' w' h2)
end

section
variable {e : TypeId} {w w' : World} {base : Nat} {A A' : Option Addr} {c c' n' : Nat} {vs : List Value}
theorem Appended.fr (h : Appended e w base A c n' vs A' c' w') : Fr e w' base A' n' c' vs := h.1
theorem Appended.keep {w0 : World} {n : Nat} {us : List Value} (h : Appended e w base A c n' vs A' c' w') (hk : Keep w0 w) (hown : Fr e w w0.heap.size A n c us) : Keep w0 w' :=
  hk.grown h.2.1 fun _ hk' => (hown.own_ge hk').1
theorem Rd.one (w : World) (u : Value) (t : TypeId) : Rd (w.alloc (.cells #[u] t)) (some ⟨w.heap.size, 0, none⟩) [u] := fun j v hv => by
  match j, hv with
  | 0, hv =>
    simp at hv
    subst hv
    exact ⟨_, _, rfl, by simp⟩
theorem one_int (k : IntKind) (x : Int) : ∀ u ∈ [Value.int k x], u.oneCell' = true := by
  intro u hu
  simp at hu
  subst hu
  rfl
theorem cs_take_succ {k : IntKind} {xs : List Int} {j : Nat} {x : Int} (h : xs[j]? = some x) : cs k (xs.take j) ++ [.int k x] = cs k (xs.take (j + 1)) := by
  rw [List.take_add_one, h, cs_append]
  rfl
end
end Go.Proofs.YtnjjeanbopclhaaGreatDoor
