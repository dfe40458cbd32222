/-
  CONTRACTS for the package markets: the four parts of Get, one after the other, on states that are laid here. Conditions: the bytes read as a list.
-/
import Derived.Test.YtjhmlcbpbmeicaaMktK
import Derived.Test.YtjhmlcbpbmeicaaMktD
namespace Go.Proofs.Ytjhmlcbpbmeicaa
open Go.RowKit

/-- The function values of the parts. -/
abbrev fn2 (B : Nat) : Value := .func (.func 57) #[] #[ptr (B + 3) 0, ptr (B + 1) 0]
abbrev fn3 (B : Nat) : Value := .func (.func 58) #[] #[ptr (B + 2) 0, ptr B 0, ptr (B + 1) 0]
abbrev fn4 (B : Nat) : Value := .func (.func 59) #[] #[ptr (B + 1) 0, ptr (B + 3) 0]
abbrev fn5 (B : Nat) : Value := .func (.func 60) #[] #[ptr (B + 3) 0, ptr (B + 1) 0]
abbrev nilS : Value := .slice none 0 0
/-- What stays all the while. -/
structure GF (w0 : World) (B : Nat) (w : World) : Prop where
  k : Keep w0 w
  f : Blk w (B + 3) 94 [rdFn B (B + 2)]
  p : Blk w (B + 4) 1 [fn2 B, fn3 B, fn4 B, fn5 B]
theorem GF.but {w0 w w' : World} {B : Nat} {S : Nat → Prop} (h : GF w0 B w) (hB : B = w0.heap.size) (t : But S w w') (h3 : ¬ S (B + 3)) (h4 : ¬ S (B + 4)) (hs : ∀ i, S i → B ≤ i) : GF w0 B w' :=
  ⟨h.k.but t (fun i hi => hB ▸ hs i hi), h.f.but t h3, h.p.but t h4⟩
theorem GF.keep {w0 w w' : World} {B : Nat} (h : GF w0 B w) (hk : Keep w w') : GF w0 B w' := ⟨h.k.trans hk, h.f.keep hk, h.p.keep hk⟩

/-- The list ahead; the list and the count; the list and the bids; all. -/
def g2 (xs : List Int) : Option (List Int × Nat × List Int) := match getL xs with
  | none => none
  | some R => match xs.drop (1 + 4 * R.length) with
    | [] => none
    | x :: ys => some (R, x.toNat, ys)
def g3 (xs : List Int) : Option (List Int × List (List Int) × List Int) := match g2 xs with
  | none => none
  | some (R, n, ys) => match getLs n ys with
    | none => none
    | some (bl, zs) => some (R, bl, zs)
def g4 (xs : List Int) : Option (List Int × List (List Int) × List Int × List Int) := match g3 xs with
  | none => none
  | some (R, bl, zs) => match getL zs with
    | none => none
    | some O => some (R, bl, O, zs.drop (1 + 4 * O.length))

def P0 (xs : List Int) (w0 : World) (B : Nat) (w : World) : Prop :=
  GF w0 B w ∧ Blk w (B + 2) 25 [.int .i64 0] ∧ Blk w (B + 1) 62 [nilS, nilS, nilS] ∧ Left w0 w B xs
def P1 (xs : List Int) (w0 : World) (B : Nat) (w : World) : Prop :=
  GF w0 B w ∧ match getL xs with
    | none => Blk w (B + 2) 25 [.int .i64 5] ∧ ∃ r o, Blk w (B + 1) 62 [r, nilS, o]
    | some R => ∃ A, Blk w (B + 2) 25 [.int .i64 0] ∧ Blk w (B + 1) 62 [.slice A R.length R.length, nilS, nilS] ∧ Fr 3 w B A R.length R.length (cs .i64 R) ∧ Left w0 w B (xs.drop (1 + 4 * R.length))
def P2 (xs : List Int) (w0 : World) (B : Nat) (w : World) : Prop :=
  GF w0 B w ∧ match g2 xs with
    | none => Blk w (B + 2) 25 [.int .i64 5] ∧ ∃ r o, Blk w (B + 1) 62 [r, nilS, o]
    | some (R, n, ys) => ∃ A gr, B + 5 ≤ gr ∧ Blk w (B + 2) 25 [.int .i64 0] ∧ Blk w (B + 1) 62 [.slice A R.length R.length, .slice (some ⟨gr, 0, none⟩) n n, nilS] ∧ Fr 3 w B A R.length R.length (cs .i64 R) ∧
        Blk w gr 22 (List.replicate n nilS) ∧ Left w0 w B ys ∧ n < 256
def P3 (xs : List Int) (w0 : World) (B : Nat) (w : World) : Prop :=
  GF w0 B w ∧ match g3 xs with
    | none => Blk w (B + 2) 25 [.int .i64 5] ∧ ∃ r b o, Blk w (B + 1) 62 [r, b, o]
    | some (R, bl, ys) => ∃ A gr, ∃ hs : List Sl, B + 5 ≤ gr ∧ Blk w (B + 2) 25 [.int .i64 0] ∧ Blk w (B + 1) 62 [.slice A R.length R.length, .slice (some ⟨gr, 0, none⟩) hs.length hs.length, nilS] ∧ Fr 3 w B A R.length R.length (cs .i64 R) ∧
        bidsOf hs = bl ∧ (∀ s ∈ hs, s.c = s.l.length ∧ Fr 3 w B s.a s.l.length s.c (cs .i64 s.l)) ∧ Blk w gr 22 (hs.map Sl.val) ∧ Left w0 w B ys ∧ hs.length < 256
def P4 (xs : List Int) (w0 : World) (B : Nat) (w : World) : Prop :=
  GF w0 B w ∧ match g4 xs with
    | none => Blk w (B + 2) 25 [.int .i64 5] ∧ ∃ r b o, Blk w (B + 1) 62 [r, b, o]
    | some (R, bl, O, ys) => ∃ A gr A', ∃ hs : List Sl, B + 5 ≤ gr ∧ Blk w (B + 2) 25 [.int .i64 0] ∧ Blk w (B + 1) 62 [.slice A R.length R.length, .slice (some ⟨gr, 0, none⟩) hs.length hs.length, .slice A' O.length O.length] ∧ Fr 3 w B A R.length R.length (cs .i64 R) ∧
        bidsOf hs = bl ∧ (∀ s ∈ hs, s.c = s.l.length ∧ Fr 3 w B s.a s.l.length s.c (cs .i64 s.l)) ∧ Blk w gr 22 (hs.map Sl.val) ∧ Left w0 w B ys ∧ Fr 3 w B A' O.length O.length (cs .i64 O) ∧ hs.length < 256

theorem Left.blk {w0 w : World} {gb : Nat} {xs : List Int} (h : Left w0 w gb xs) : ∃ v, Blk w gb 31 [v] := by
  obtain ⟨A, c, bb, _⟩ := h
  exact ⟨_, bb⟩
theorem Left.bytes {w0 w : World} {gb : Nat} {xs : List Int} (h : Left w0 w gb xs) : Bytes xs := by
  obtain ⟨A, c, bb, _, hB, _⟩ := h
  exact hB
/-- A row of ints is none of these blocks. -/
theorem Fr.apart {w : World} {base n c : Nat} {A : Option Addr} {vs : List Value} {a b g : Nat} {u v : Value} {t : TypeId} {l : List Value} (h : Fr 3 w base A n c vs) (ha : Blk w a 31 [u]) (hb : Blk w b 25 [v]) (hg : Blk w g t l) (ht : 3 ≠ t) :
    ∀ k, ownB A c = some k → ¬ (k = a ∨ k = b ∨ k = g) := fun k hk e => by
  rcases e with e | e | e
  · exact h.own_ne ha (by decide) k hk e.symm
  · exact h.own_ne hb (by decide) k hk e.symm
  · exact h.own_ne hg ht k hk e.symm

section
variable {xs : List Int} {w0 w : World} {B : Nat}
theorem part1 (hB : B = w0.heap.size) (h : P0 xs w0 B w) : Calls Try.prog 57 #[ptr (B + 3) 0, ptr (B + 1) 0] w fun e w' => e = .returned (.tuple #[]) ∧ P1 xs w0 B w' := by
  obtain ⟨hF, he, hm, hL⟩ := h
  refine (reserves_f xs B (B + 2) (B + 1) (B + 3) _ w0 w hF.k (by omega) (by omega) (by omega) rfl hF.f hL he hm).mono ?_
  rintro e w1 ⟨rfl, t, hp⟩
  refine ⟨rfl, hF.but hB t (by omega) (by omega) (fun i hi => by omega), ?_⟩
  cases hx : getL xs with
  | none =>
    rw [hx] at hp
    exact ⟨hp.2.2, _, _, hp.1⟩
  | some R =>
    rw [hx] at hp
    obtain ⟨A, m1, f1, e1, l1⟩ := hp
    exact ⟨A, e1, m1, f1.mono (by rw [hB]; exact hF.k.size), l1⟩
theorem part2 (hB : B = w0.heap.size) (h : P1 xs w0 B w) : Calls Try.prog 58 #[ptr (B + 2) 0, ptr B 0, ptr (B + 1) 0] w fun e w' => e = .returned (.tuple #[]) ∧ P2 xs w0 B w' := by
  obtain ⟨hF, h⟩ := h
  cases hx : getL xs with
  | none =>
    rw [hx] at h
    obtain ⟨he, r, o, hm⟩ := h
    refine (count_no w B (B + 1) (B + 2) 5 he rfl).mono ?_
    rintro e w1 ⟨rfl, k1⟩
    refine ⟨rfl, hF.keep k1, ?_⟩
    unfold g2
    rw [hx]
    exact ⟨he.keep k1, r, o, hm.keep k1⟩
  | some R =>
    rw [hx] at h
    obtain ⟨A, he, hm, hR, hL⟩ := h
    refine (count_f _ B (B + 2) (B + 1) _ w0 w hF.k (by omega) (by omega) (by omega) rfl hL he hm).mono ?_
    rintro e w1 ⟨rfl, t, hp⟩
    refine ⟨rfl, hF.but hB t (by omega) (by omega) (fun i hi => by omega), ?_⟩
    obtain ⟨u, hb⟩ := hL.blk
    have f1 := hR.but t (hR.apart hb he hm (by decide))
    have hby := hL.bytes
    unfold g2
    rw [hx]
    dsimp only
    cases hd : xs.drop (1 + 4 * R.length) with
    | nil =>
      rw [hd] at hp
      exact ⟨hp.2, _, _, hp.1⟩
    | cons x ys =>
      rw [hd] at hp hby
      obtain ⟨gr, hgr, hr, m1, e1, l1⟩ := hp
      have := hby.head
      have := hF.p.lt
      exact ⟨A, gr, by omega, e1, m1, f1, hr, l1, by omega⟩
theorem part3 (hB : B = w0.heap.size) (h : P2 xs w0 B w) : Calls Try.prog 59 #[ptr (B + 1) 0, ptr (B + 3) 0] w fun e w' => e = .returned (.tuple #[]) ∧ P3 xs w0 B w' := by
  obtain ⟨hF, h⟩ := h
  cases hx : g2 xs with
  | none =>
    rw [hx] at h
    obtain ⟨he, r, o, hm⟩ := h
    refine (bids_no w (B + 1) (B + 3) r o hm).mono ?_
    rintro e w1 ⟨rfl, k1⟩
    refine ⟨rfl, hF.keep k1, ?_⟩
    unfold g3
    rw [hx]
    exact ⟨he.keep k1, r, _, o, hm.keep k1⟩
  | some q =>
    obtain ⟨R, n, ys⟩ := q
    rw [hx] at h
    obtain ⟨A, gr, hgr, he, hm, hR, hr, hL, hn⟩ := h
    have h0 : BidsI ys n B (B + 2) gr w0 w.heap.size 0 w := by
      unfold BidsI getLs
      exact ⟨[], rfl, rfl, by simp, by simpa using hr, hL, he⟩
    refine (bids_f ys n B (B + 2) (B + 1) (B + 3) gr _ _ w0 w hF.k hn (by omega) (by omega) (by omega) (by omega) (by omega) (by omega) (by omega) (by omega) (by omega) (by omega) (by omega) (by omega) hF.f hm h0).mono ?_
    rintro e w1 ⟨rfl, t, hp⟩
    refine ⟨rfl, hF.but hB t (by omega) (by omega) (fun i hi => by omega), ?_⟩
    obtain ⟨u, hb⟩ := hL.blk
    have f1 := hR.but t (hR.apart hb he hr (by decide))
    have m1 := hm.but t (by omega)
    unfold g3
    rw [hx]
    unfold BidsI at hp
    cases hy : getLs n ys with
    | none =>
      rw [hy] at hp
      simp only [hy]
      exact ⟨hp.1, _, _, _, m1⟩
    | some q =>
      obtain ⟨bl, zs⟩ := q
      rw [hy] at hp
      simp only [hy]
      obtain ⟨hs, b1, b2, b3, b4, b5, b6⟩ := hp
      subst b2
      have hbase : B ≤ w.heap.size := by rw [hB]; exact hF.k.size
      exact ⟨A, gr, hs, hgr, b6, m1, f1, b1, fun s h => ⟨(b3 s h).1, (b3 s h).2.mono hbase⟩, by simpa using b4, b5, hn⟩
theorem part4 (hB : B = w0.heap.size) (h : P3 xs w0 B w) : Calls Try.prog 60 #[ptr (B + 3) 0, ptr (B + 1) 0] w fun e w' => e = .returned (.tuple #[]) ∧ P4 xs w0 B w' := by
  obtain ⟨hF, h⟩ := h
  cases hx : g3 xs with
  | none =>
    rw [hx] at h
    obtain ⟨he, r, b, o, hm⟩ := h
    refine (order_no w B (B + 1) (B + 2) (B + 3) 5 hF.f he rfl).mono ?_
    rintro e w1 ⟨rfl, k1⟩
    refine ⟨rfl, hF.keep k1, ?_⟩
    unfold g4
    rw [hx]
    exact ⟨he.keep k1, r, b, o, hm.keep k1⟩
  | some q =>
    obtain ⟨R, bl, ys⟩ := q
    rw [hx] at h
    obtain ⟨A, gr, hs, hgr, he, hm, hR, b1, b2, hr, hL, hn⟩ := h
    refine (order_f ys B (B + 2) (B + 1) (B + 3) _ w0 w hF.k (by omega) (by omega) (by omega) rfl hF.f hL he hm).mono ?_
    rintro e w1 ⟨rfl, t, hp⟩
    refine ⟨rfl, hF.but hB t (by omega) (by omega) (fun i hi => by omega), ?_⟩
    obtain ⟨u, hb⟩ := hL.blk
    have f1 := hR.but t (hR.apart hb he hm (by decide))
    have r1 := hr.but t (by omega)
    unfold g4
    rw [hx]
    cases hy : getL ys with
    | none =>
      rw [hy] at hp
      simp only [hy]
      exact ⟨hp.2.2, _, _, _, hp.1⟩
    | some O =>
      rw [hy] at hp
      simp only [hy]
      obtain ⟨A', m2, f2, e2, l2⟩ := hp
      exact ⟨A, gr, A', hs, hgr, e2, m2, f1, b1, fun s h => ⟨(b2 s h).1, (b2 s h).2.but t ((b2 s h).2.apart hb he hm (by decide))⟩, r1, l2, f2.mono (by rw [hB]; exact hF.k.size), hn⟩
end
end Go.Proofs.Ytjhmlcbpbmeicaa
