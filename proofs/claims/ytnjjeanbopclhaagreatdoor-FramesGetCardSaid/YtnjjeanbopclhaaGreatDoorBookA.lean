/-
  WORDS for the laws' Book: the law of append that tells whether the slice has moved; rows of held lists. Plain theorems. Conditions: those that each theorem states.
-/
import Derived.Test.YtnjjeanbopclhaaGreatDoorBut
namespace Go.Proofs.YtnjjeanbopclhaaGreatDoor
open Go.RowKit

/-- What append of something leaves: it stands in place, and its own block alone has turned; or it stands in a new block, and nothing has turned. -/
def AppendedX (e : TypeId) (w : World) (base : Nat) (A : Option Addr) (c n : Nat) (vs : List Value) (A' : Option Addr) (c' : Nat) (w' : World) : Prop :=
  Fr e w' base A' n c' vs ∧ ((A' = A ∧ c' = c ∧ w.grownBy w' (ownB A c)) ∨ (w.grownBy w' none ∧ ownB A' c' = some w.heap.size))

section
variable {P : Program} (w : World)
theorem run_append_x (base : Nat) (t ty e : TypeId) (i : TypeInfo) (z : Value) (bytes : Nat) (ht : P.underlying t = some (.slice e)) (hi : P.info? e = some i) (hz : i.zero = some z)
    (hsize : i.size = 1) (hby : i.bytes = bytes) (hzs : z.cells.size = 1)
    (A : Option Addr) (n c : Nat) (vs : List Value) (hown : Fr e w base A n c vs)
    (B : Option Addr) (m d : Nat) (news : List Value) (hm : 0 < m) (hl : news.length = m) (hr : Rd w B news) (h1 : ∀ u ∈ news, u.oneCell' = true)
    (h63 : n + m ≤ maxLen) (hbytes : (n + m) * bytes ≤ 140737488355328) (hbase : base ≤ w.heap.size) :
    ∃ A' c' w', (Builtin.append_ #[t, t] ty #[.slice A n c, .slice B m d]).run P w = .ok (.slice A' (n + m) c') w' ∧ AppendedX e w base A c (n + m) (vs ++ news) A' c' w' := by
  have hA0 : A = none → c = 0 := fun h => hown.capNil h
  subst hby
  have hsmall : n + m ≤ 9223372036854775807 := by simp only [maxLen] at h63; omega
  have hlen : (vs ++ news).length = n + m := by rw [List.length_append, hown.len, hl]
  unfold AppendedX
  cases B with
  | none => exact absurd hr.none_len (by intro h; subst h; simp at hl; omega)
  | some ad =>
    have hcells := hr.cells
    have hl' : news.length = m * i.size := by rw [hsize]; omega
    by_cases hroom : n + m ≤ c
    · obtain ⟨h1', h2, h3, h4 | ⟨g, cur, rfl, hb, hg, hs, htk⟩⟩ := hown
      · omega
      · have hrun := run_append_room (P := P) w t ty e i ht hi g n c cur hg ad m d news hl' hcells h1 hroom (by rw [hsize, hl]; omega)
        refine ⟨_, _, _, hrun, ⟨⟨hlen, hroom, h3, .inr ⟨g, _, rfl, hb, setRow_heap w g cur _ e _ hg, ?_, ?_⟩⟩, .inl ⟨rfl, rfl, ⟨rfl, rfl, rfl, by simp, fun k _ hk => setRow_other w g k _ (fun e' => hk (by rw [ownB, if_neg (by omega)]; simp [e']))⟩⟩⟩⟩
        · simp only [List.size_toArray, List.length_append, List.length_take, List.length_drop, Array.length_toList, hsize]
          omega
        · rw [hsize, Nat.mul_one, htk, ← hlen]
          exact List.take_left
    · cases A with
      | none =>
        have hc0 := hA0 rfl
        subst hc0
        have hn0 : n = 0 := by have := hown.cap; omega
        subst hn0
        obtain rfl : vs = [] := List.eq_nil_of_length_eq_zero hown.len
        have hrun := run_append_nil (P := P) w t ty e i z ht hi hz ad m d news hl' hcells (by omega) (by omega) (by have hb := hbytes; simp only [Nat.zero_add] at hb; omega)
        have hgr := append_new w base e z 0 m news hzs hl (by omega) hbase none
        simp only [Nat.zero_add, List.nil_append] at hgr ⊢
        have hge := grownCap_ge w m 0 e
        exact ⟨_, _, _, hrun, ⟨hgr.1, .inr ⟨hgr.2, by rw [ownB, if_neg (by omega)]; rfl⟩⟩⟩
      | some a0 =>
        have hrun := run_append_grow (P := P) w t ty e i z ht hi hz a0 n c vs (by rw [hsize, hown.len]; omega) hown.rd.cells ad m d news hl' hcells (by omega) (by omega) (growslice_fits (by omega) hbytes)
        have hgr := append_new w base e z c (n + m) (vs ++ news) hzs hlen h63 hbase none
        rw [← List.append_toArray] at hgr
        have hge := grownCap_ge w (n + m) c e
        exact ⟨_, _, _, hrun, ⟨hgr.1, .inr ⟨hgr.2, by rw [ownB, if_neg (by omega)]; rfl⟩⟩⟩
theorem wpList_append_x {ops : Array Oper} {rest : List Oper} {o : Oper} {a : Act} {Q : Exit → Act → World → Prop} (hgd : o.guard = none) (s x : Operand) (t : TypeId)
    (ho : o.op = .call { callee := .builtin .append, args := #[s, x], argTypes := #[t, t] })
    (base : Nat) (e : TypeId) (z : Value) (bytes : Nat) (ht : P.underlying t = some (.slice e)) (hinfo : (P.info? e).map (fun i => (i.zero, i.size, i.bytes)) = some (some z, 1, bytes)) (hzs : z.cells.size = 1)
    (A : Option Addr) (n c : Nat) (vs : List Value) (hs : a.eval s = .slice A n c) (hown : Fr e w base A n c vs)
    (B : Option Addr) (m d : Nat) (news : List Value) (hm : 0 < m) (hx : a.eval x = .slice B m d) (hl : news.length = m) (hr : Rd w B news) (h1 : ∀ u ∈ news, u.oneCell' = true)
    (h63 : n + m ≤ maxLen) (hbytes : (n + m) * bytes ≤ 140737488355328) (hbase : base ≤ w.heap.size)
    (h : ∀ A' c' w', AppendedX e w base A c (n + m) (vs ++ news) A' c' w' → wpList P ops Q rest (a.put o.dst (.slice A' (n + m) c')) w') : wpList P ops Q (o :: rest) a w := by
  refine wpList_plain hgd fun _ hK => ?_
  obtain ⟨i, hi, hz, hsize, hby⟩ := info_parts hinfo
  obtain ⟨A', c', w', hrun, h2⟩ := run_append_x (P := P) w base t o.type e i z bytes ht hi hz hsize hby hzs A n c vs hown B m d news hm hl hr h1 h63 hbytes hbase
  unfold Oper.wp execOp
  simp only [ho, resolve, invoke, builtin, Sem.run_bind, Sem.run_pure, Result.andThen_ok, List.map_toArray, List.map_cons, List.map_nil, hs, hx, hrun]
  exact hK _ _ (h A' c' w' h2)
end

section
variable {S : Nat → Prop} {a b c : World}
/-- What is new may turn too. -/
theorem But.grown2 {row : Option Nat} (h : But S a b) (hg : b.grownBy c row) (hr : ∀ k, row = some k → S k ∨ a.heap.size ≤ k) : But S a c :=
  ⟨hg.os.trans h.os, hg.tape.trans h.tape, hg.output.trans h.output, Nat.le_trans h.size hg.size, fun i hi hn => (hg.block i (Nat.lt_of_lt_of_le hi h.size) (fun e => (hr i e.symm).elim hn (fun h' => by omega))).trans (h.block i hi hn)⟩
theorem But.setCell2 (h : But S a b) {p : Addr} (hp : S p.block ∨ a.heap.size ≤ p.block) (u : Value) : But S a (b.setCell p u) :=
  ⟨h.os, h.tape, h.output, by simpa [World.setCell] using h.size, fun i hi hn => (Below.heap_setCell b p u i (fun e => hp.elim (fun h' => hn (e ▸ h')) (fun h' => by omega))).trans (h.block i hi hn)⟩
theorem But.cell {p : Addr} {v : Value} (h : But S a b) (hc : a.cell? p = some v) (hn : ¬ S p.block) : b.cell? p = some v :=
  (World.cell?_of_block (h.block p.block (World.block_lt_of_cell? a p hc) hn)).trans hc
theorem Rd.but {A : Option Addr} {vs : List Value} (h : Rd a A vs) (hb : But S a b) (hn : ∀ x, A = some x → ¬ S x.block) : Rd b A vs :=
  h.congr fun b off _ _ e hc => hb.cell hc (hn ⟨b, off, none⟩ e)
end

/-- A list that the Book holds: its slice (n of c), its number m, its longer slice. -/
structure Hd where
  a : Option Addr
  c : Nat
  n : Nat
  m : Nat
  la : Option Addr
  ln : Nat
  lc : Nat
def Hd.cells (h : Hd) : List Value := [.slice h.a h.n h.c, .slice h.la h.ln h.lc, .int .i64 h.m]
def cellsOf (hs : List Hd) : List Value := hs.flatMap Hd.cells
theorem length_cellsOf (hs : List Hd) : (cellsOf hs).length = hs.length * 3 := by
  induction hs with
  | nil => rfl
  | cons h hs ih =>
    show (h.cells ++ cellsOf hs).length = _
    rw [List.length_append, ih, List.length_cons]
    simp [Hd.cells]
    omega
theorem cellsOf_at {hs : List Hd} {i : Nat} {x : Hd} (h : hs[i]? = some x) {j : Nat} (hj : j < 3) : (cellsOf hs)[i * 3 + j]? = x.cells[j]? := by
  induction hs generalizing i with
  | nil => cases h
  | cons y hs ih =>
    show (y.cells ++ cellsOf hs)[i * 3 + j]? = _
    have hy : y.cells.length = 3 := rfl
    cases i with
    | zero =>
      injection h with h
      subst h
      rw [Nat.zero_mul, Nat.zero_add, List.getElem?_append_left (by omega)]
    | succ i =>
      rw [List.getElem?_append_right (by omega), hy, show (i + 1) * 3 + j - 3 = i * 3 + j by omega]
      exact ih (by simpa using h)
theorem cellsOf_append (as bs : List Hd) : cellsOf (as ++ bs) = cellsOf as ++ cellsOf bs := List.flatMap_append
/-- With a longer slice. -/
def Hd.long (x : Hd) (A : Option Addr) (n c : Nat) : Hd := { x with la := A, ln := n, lc := c }
theorem cellsOf_set {hs : List Hd} {i : Nat} {x : Hd} (h : hs[i]? = some x) (A : Option Addr) (n c : Nat) : (cellsOf hs).set (i * 3 + 1) (.slice A n c) = cellsOf (hs.set i (x.long A n c)) := by
  induction hs generalizing i with
  | nil => cases h
  | cons y hs ih =>
    show (y.cells ++ cellsOf hs).set (i * 3 + 1) _ = _
    have hy : y.cells.length = 3 := rfl
    cases i with
    | zero =>
      injection h with h
      subst h
      rfl
    | succ i =>
      rw [List.set_append_right _ _ (by omega), hy, show (i + 1) * 3 + 1 - 3 = i * 3 + 1 by omega, ih (by simpa using h)]
      rfl

/-- A row of held lists. -/
def HRow (w : World) (base : Nat) (e : TypeId) (v : Value) (hs : List Hd) : Prop := w.ownsRow base e 3 v hs.length (cellsOf hs)
section
variable {w w' : World} {base : Nat} {e : TypeId} {v : Value} {hs : List Hd}
theorem HRow.at_ (h : HRow w base e v hs) (hn : 0 < hs.length) : ∃ g cap, v = .slice (some ⟨g, 0, none⟩) hs.length cap ∧ base ≤ g ∧ g < w.heap.size ∧ hs.length ≤ cap ∧ cap ≤ maxLen ∧ (∃ cur, w.heap[g]? = some (.cells cur e (0, 0))) ∧
    (∀ j, w.frozen? ⟨g, j, none⟩ = false) ∧ ∀ j u, (cellsOf hs)[j]? = some u → w.cell? ⟨g, j, none⟩ = some u := by
  obtain ⟨h1, ⟨_, h2⟩ | ⟨g, cap, cur, hv, hb, hg, hc, hm, hs', ht⟩⟩ := h
  · omega
  · refine ⟨g, cap, hv, hb, (Array.getElem?_eq_some_iff.1 hg).1, hc, hm, ⟨cur, hg⟩, fun j => frozen_of_row w g j _ _ hg, fun j u hu => ?_⟩
    rw [cell_of_row w g j cur e (0, 0) hg]
    rw [← ht, List.getElem?_take] at hu
    split at hu
    · simpa using hu
    · cases hu
theorem HRow.nil (w : World) (base : Nat) (e : TypeId) : HRow w base e (.slice none 0 0) [] := World.ownsRow_nil w base e 3
theorem HRow.len0 (h : HRow w base e v []) : ∃ A c, v = .slice A 0 c := by
  obtain ⟨h1, ⟨rfl, _⟩ | ⟨g, cap, cur, rfl, _⟩⟩ := h
  · exact ⟨none, 0, rfl⟩
  · exact ⟨_, cap, rfl⟩
theorem HRow.val (h : HRow w base e v hs) : ∃ A c, v = .slice A hs.length c := by
  obtain ⟨h1, ⟨rfl, h2⟩ | ⟨g, cap, cur, rfl, _⟩⟩ := h
  · rw [h2]
    exact ⟨none, 0, rfl⟩
  · exact ⟨_, cap, rfl⟩
/-- Another block has turned. -/
theorem HRow.but {S : Nat → Prop} (h : HRow w base e v hs) (hb : But S w w') (hn : ∀ k, v.ownBlock = some k → ¬ S k) : HRow w' base e v hs := by
  obtain ⟨h1, ⟨rfl, h2⟩ | ⟨g, cap, cur, rfl, hg, hgg, r⟩⟩ := h
  · exact ⟨h1, .inl ⟨rfl, h2⟩⟩
  · exact ⟨h1, .inr ⟨g, cap, cur, rfl, hg, (hb.block g (Array.getElem?_eq_some_iff.1 hgg).1 (hn g rfl)).trans hgg, r⟩⟩
theorem HRow.keep (h : HRow w base e v hs) (hk : Keep w w') : HRow w' base e v hs := h.but (But.keep hk (fun _ => False)) fun _ _ => id
theorem HRow.mono {b' : Nat} (h : HRow w base e v hs) (hb : b' ≤ base) : HRow w b' e v hs := by
  obtain ⟨h1, ⟨rfl, h2⟩ | ⟨g, cap, cur, rfl, hg, r⟩⟩ := h
  · exact ⟨h1, .inl ⟨rfl, h2⟩⟩
  · exact ⟨h1, .inr ⟨g, cap, cur, rfl, Nat.le_trans hb hg, r⟩⟩
theorem HRow.cur (h : HRow w base e v hs) {k : Nat} (hk : v.ownBlock = some k) : ∃ cur, w.heap[k]? = some (.cells cur e (0, 0)) := by
  obtain ⟨h1, ⟨rfl, h2⟩ | ⟨g, cap, cur, rfl, hg, hgg, r⟩⟩ := h
  · cases hk
  · cases hk
    exact ⟨cur, hgg⟩
/-- A longer slice laid into its place. -/
theorem HRow.set_ {i g cap : Nat} {x : Hd} (h : HRow w base e (.slice (some ⟨g, 0, none⟩) hs.length cap) hs) (hi : hs[i]? = some x) (A : Option Addr) (n c : Nat) :
    HRow (w.setCell ⟨g, i * 3 + 1, none⟩ (.slice A n c)) base e (.slice (some ⟨g, 0, none⟩) hs.length cap) (hs.set i (x.long A n c)) := by
  have hl := (List.getElem?_eq_some_iff.1 hi).1
  obtain ⟨h1, ⟨h2, _⟩ | ⟨g', cap', cur, hv, hg, hgg, hc, hm, hsz, ht⟩⟩ := h
  · cases h2
  · cases hv
    refine ⟨by rw [length_cellsOf], .inr ⟨g, cap, cur.setIfInBounds (i * 3 + 1) (.slice A n c), by rw [List.length_set], hg, heap_setCell_same w g _ cur e _ hgg, by rw [List.length_set]; exact hc, hm, by simpa using hsz, ?_⟩⟩
    rw [Array.toList_setIfInBounds, List.take_set, List.length_set, ht, cellsOf_set hi]
end
end Go.Proofs.YtnjjeanbopclhaaGreatDoor
