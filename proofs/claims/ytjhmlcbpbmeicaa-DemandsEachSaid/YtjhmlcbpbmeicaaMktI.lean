/-
  CONTRACTS for the package markets: the functions inside Get. Conditions: the cells that they captured are blocks of their own, the bytes read as a list.
-/
import Derived.Test.YtjhmlcbpbmeicaaBut
import Derived.Test.YtjhmlcbpbmeicaaNumF
import Derived.Test.YtjhmlcbpbmeicaaNumD
namespace Go.Proofs.Ytjhmlcbpbmeicaa
open Go.RowKit

abbrev ptr (g i : Nat) : Value := .pointer (some ⟨g, i, none⟩)
/-- The bytes that are left, in block gb: they lie in memory that was there at w0. -/
def Left (w0 w : World) (gb : Nat) (xs : List Int) : Prop :=
  ∃ A c, Blk w gb 31 [.slice A xs.length c] ∧ Rd w0 A (cs .u8 xs) ∧ Bytes xs ∧ xs.length ≤ c ∧ Len c
/-- What the reader of a list leaves, at cell i of the row L in block g. -/
def ReadP (xs : List Int) (gb ge g i : Nat) (tg : TypeId) (L : List Value) (w0 w : World) (e : Ending) (w' : World) : Prop :=
  e = .returned (.tuple #[]) ∧ But (fun k => k = gb ∨ k = ge ∨ k = g) w w' ∧
  match getL xs with
  | none => Blk w' g tg (L.set i (.slice none 0 0)) ∧ Left w0 w' gb xs ∧ Blk w' ge 25 [.int .i64 5]
  | some zs => ∃ A', Blk w' g tg (L.set i (.slice A' zs.length zs.length)) ∧ Fr 3 w' w.heap.size A' zs.length zs.length (cs .i64 zs) ∧ Blk w' ge 25 [.int .i64 0] ∧ Left w0 w' gb (xs.drop (1 + 4 * zs.length))

theorem Left.cut {w0 w : World} {gb : Nat} {A A' : Option Addr} {c c' k n' : Nat} {xs : List Int} (bb : Blk w gb 31 [.slice A xs.length c]) (rd : Rd w0 A (cs .u8 xs)) (hB : Bytes xs) (hc : xs.length ≤ c) (lc : Len c)
    (hA : c ≠ k → A' = A.map (·.add k)) (hk : c' = c - k) (hn : n' = xs.length - k) : Left w0 (w.setCell ⟨gb, 0, none⟩ (.slice A' n' c')) gb (xs.drop k) := by
  subst hk hn
  have h := bb.set_ 0 (.slice A' (xs.length - k) (c - k))
  refine ⟨A', c - k, by rw [List.length_drop]; exact h, ?_, hB.drop k, by rw [List.length_drop]; omega, by unfold Len at lc ⊢; omega⟩
  rw [← cs_drop]
  exact rd.drop (cap := c) (by rw [length_cs]; exact hc) A' hA
theorem getL_len {xs zs : List Int} (h : getL xs = some zs) : 1 + 4 * zs.length ≤ xs.length := by
  unfold getL at h
  split at h
  · cases h
  · injection h with h
    subst h
    simp only [List.length_map, List.length_range]
    omega

set_option maxRecDepth 100000 in
set_option maxHeartbeats 2000000 in
theorem reader_no (w : World) (v : Value) (gb ge : Nat) (ec : Int) (he : Blk w ge 25 [.int .i64 ec]) (h0 : (ec == 0) = false) :
    Calls Try.prog 56 #[v, ptr ge 0, ptr gb 0] w fun e w' => e = .returned (.tuple #[]) ∧ Keep w w' := by
  have c0 := he.cell_ (i := 0) rfl
  go_enter Try.func56, Try.ntmps56
  go_wp2_with fail
  go_end0
  exact ⟨rfl, Keep.refl _⟩

set_option maxRecDepth 100000 in
set_option maxHeartbeats 4000000 in
theorem reader_f (xs : List Int) (gb ge g i : Nat) (tg : TypeId) (L : List Value) (w0 w : World) (k0 : Keep w0 w) (h1 : gb ≠ ge) (h2 : g ≠ gb) (h3 : g ≠ ge) (hi : i < L.length)
    (hb : Left w0 w gb xs) (he : Blk w ge 25 [.int .i64 0]) (hg : Blk w g tg L) :
    Calls Try.prog 56 #[ptr g i, ptr ge 0, ptr gb 0] w (ReadP xs gb ge g i tg L w0 w) := by
  obtain ⟨A, c, bb, rd, hB, hc, lc⟩ := hb
  have c0 := he.cell_ (i := 0) rfl
  have c1 := bb.cell_ (i := 0) rfl
  have hgl := fun w1 (k1 : Keep w w1) => getList_f A c xs w1 ((rd.keep k0).keep k1) hB hc lc
  go_enter Try.func56, Try.ntmps56
  go_wp2_with fail
  refine (hgl _ (Keep.refl _)).mono ?_
  intro e w1 hp
  unfold GetLP at hp
  cases hgx : getL xs with
  | none =>
    rw [hgx] at hp
    obtain ⟨rfl, k1⟩ := hp
    have b1 := bb.keep k1
    have e1 := he.keep k1
    have g1 := hg.keep k1
    have cb := b1.cell_ (i := 0) rfl
    have ce := e1.cell_ (i := 0) rfl
    have cg := g1.cell_ (List.getElem?_eq_getElem hi)
    have fe := e1.frozen 0
    have fb := b1.frozen 0
    have fg := g1.frozen i
    have HG := Lib.hid hgx
    clear hgx
    go_upto_region 3 with fail
    have g2 := (g1.set_ i (.slice none 0 0)).far (p := ⟨ge, 0, none⟩) (Ne.symm h3) (.int .i64 5)
    have b2 := (b1.far (p := ⟨g, i, none⟩) h2 (.slice none 0 0)).far (p := ⟨ge, 0, none⟩) (Ne.symm h1) (.int .i64 5)
    have e2 := (e1.far (p := ⟨g, i, none⟩) h3 (.slice none 0 0)).set_ 0 (.int .i64 5)
    have t2 : But (fun k => k = gb ∨ k = ge ∨ k = g) w ((w1.setCell ⟨g, i, none⟩ (.slice none 0 0)).setCell ⟨ge, 0, none⟩ (.int .i64 5)) := ((But.keep k1 _).setCell (.inr (.inr rfl)) _).setCell (.inr (.inl rfl)) _
    generalize (w1.setCell ⟨g, i, none⟩ (.slice none 0 0)).setCell ⟨ge, 0, none⟩ (.int .i64 5) = w2 at g2 b2 e2 t2 ⊢
    clear cb ce cg fe fb fg c0 c1 hgl
    have cb := b2.cell_ (i := 0) rfl
    have fb := b2.frozen 0
    go_wp2_with fail
    go_end0
    unfold ReadP
    rw [HG.out]
    refine ⟨rfl, t2.setCell (.inl rfl) _, g2.far h2.symm _, ?_, e2.far h1 _⟩
    exact Left.cut (k := 0) b2 rd hB hc lc (fun _ => by cases A <;> simp [Addr.add]) rfl rfl
  | some zs =>
    rw [hgx] at hp
    have hle := getL_len hgx
    obtain ⟨A', rfl, hf, k1⟩ := hp
    have b1 := bb.keep k1
    have e1 := he.keep k1
    have g1 := hg.keep k1
    have cb := b1.cell_ (i := 0) rfl
    have ce := e1.cell_ (i := 0) rfl
    have cg := g1.cell_ (List.getElem?_eq_getElem hi)
    have fe := e1.frozen 0
    have fb := b1.frozen 0
    have fg := g1.frozen i
    have HG := Lib.hid hgx
    clear hgx
    go_upto_region 3 with fail
    have g2 := (g1.set_ i (.slice A' zs.length zs.length)).far (p := ⟨ge, 0, none⟩) (Ne.symm h3) (.int .i64 0)
    have b2 := (b1.far (p := ⟨g, i, none⟩) h2 (.slice A' zs.length zs.length)).far (p := ⟨ge, 0, none⟩) (Ne.symm h1) (.int .i64 0)
    have e2 := (e1.far (p := ⟨g, i, none⟩) h3 (.slice A' zs.length zs.length)).set_ 0 (.int .i64 0)
    have t12 : But (fun k => k = gb ∨ k = ge ∨ k = g) w1 ((w1.setCell ⟨g, i, none⟩ (.slice A' zs.length zs.length)).setCell ⟨ge, 0, none⟩ (.int .i64 0)) := ((But.refl _ _).setCell (.inr (.inr rfl)) _).setCell (.inr (.inl rfl)) _
    have t2 : But (fun k => k = gb ∨ k = ge ∨ k = g) w ((w1.setCell ⟨g, i, none⟩ (.slice A' zs.length zs.length)).setCell ⟨ge, 0, none⟩ (.int .i64 0)) := ((But.keep k1 _).setCell (.inr (.inr rfl)) _).setCell (.inr (.inl rfl)) _
    generalize (w1.setCell ⟨g, i, none⟩ (.slice A' zs.length zs.length)).setCell ⟨ge, 0, none⟩ (.int .i64 0) = w2 at g2 b2 e2 t2 t12 ⊢
    clear cb ce cg fe fb fg c0 c1 hgl
    have cb := b2.cell_ (i := 0) rfl
    have fb := b2.frozen 0
    have z1 : (1 + 4 * zs.length : Int) ≤ xs.length := by omega
    have fin : ∀ A2 n2 c2, (c ≠ 1 + 4 * zs.length → A2 = A.map (·.add (1 + 4 * zs.length))) → c2 = c - (1 + 4 * zs.length) → n2 = xs.length - (1 + 4 * zs.length) → ReadP xs gb ge g i tg L w0 w (.returned (.tuple #[])) (w2.setCell ⟨gb, 0, none⟩ (.slice A2 n2 c2)) := by
      intro A2 n2 c2 hA h2' h3'
      unfold ReadP
      rw [HG.out]
      refine ⟨rfl, t2.setCell (.inl rfl) _, A', g2.far h2.symm _, ?_, e2.far h1 _, Left.cut b2 rd hB hc lc hA h2' h3'⟩
      have hx := fun k (e : k = gb ∨ k = ge ∨ k = g) (hk : ownB A' zs.length = some k) => by
        have q1 := (hf.own_ge hk).1
        have q2 := bb.lt
        have q3 := he.lt
        have q4 := hg.lt
        exact (show False by omega)
      exact (hf.but t12 (fun k hk e => hx k e hk)).setCell (fun k hk e => hx k (.inl e.symm) hk) _
    clear t12 hle
    have HF := Lib.hid fin
    clear fin
    go_wp2_with fail
    all_goals go_end0
    · exact HF.out _ _ _ (fun e => absurd h e) (by omega) rfl
    · exact HF.out _ _ _ (fun _ => rfl) rfl rfl

/-- The function value that reads a list. -/
abbrev rdFn (gb ge : Nat) : Value := .func (.func 56) #[] #[ptr ge 0, ptr gb 0]

set_option maxRecDepth 100000 in
set_option maxHeartbeats 2000000 in
theorem reserves_no (w : World) (gb gm ge gf : Nat) (ec : Int) (hf : Blk w gf 94 [rdFn gb ge]) (he : Blk w ge 25 [.int .i64 ec]) (h0 : (ec == 0) = false) :
    Calls Try.prog 57 #[ptr gf 0, ptr gm 0] w fun e w' => e = .returned (.tuple #[]) ∧ Keep w w' := by
  have c0 := hf.cell_ (i := 0) rfl
  go_enter Try.func57, Try.ntmps57
  go_wp2_with fail
  refine (reader_no w (ptr gm 0) gb ge ec he h0).mono ?_
  rintro e w1 ⟨rfl, k1⟩
  go_wp2_with fail
  go_end0
  exact ⟨rfl, k1⟩
set_option maxRecDepth 100000 in
set_option maxHeartbeats 2000000 in
theorem order_no (w : World) (gb gm ge gf : Nat) (ec : Int) (hf : Blk w gf 94 [rdFn gb ge]) (he : Blk w ge 25 [.int .i64 ec]) (h0 : (ec == 0) = false) :
    Calls Try.prog 60 #[ptr gf 0, ptr gm 0] w fun e w' => e = .returned (.tuple #[]) ∧ Keep w w' := by
  have c0 := hf.cell_ (i := 0) rfl
  go_enter Try.func60, Try.ntmps60
  go_wp2_with fail
  refine (reader_no w (ptr gm 2) gb ge ec he h0).mono ?_
  rintro e w1 ⟨rfl, k1⟩
  go_wp2_with fail
  go_end0
  exact ⟨rfl, k1⟩
set_option maxRecDepth 100000 in
set_option maxHeartbeats 2000000 in
theorem reserves_f (xs : List Int) (gb ge gm gf : Nat) (L : List Value) (w0 w : World) (k0 : Keep w0 w) (h1 : gb ≠ ge) (h2 : gm ≠ gb) (h3 : gm ≠ ge) (hi : L.length = 3)
    (hf : Blk w gf 94 [rdFn gb ge]) (hb : Left w0 w gb xs) (he : Blk w ge 25 [.int .i64 0]) (hg : Blk w gm 62 L) :
    Calls Try.prog 57 #[ptr gf 0, ptr gm 0] w (ReadP xs gb ge gm 0 62 L w0 w) := by
  have c0 := hf.cell_ (i := 0) rfl
  go_enter Try.func57, Try.ntmps57
  go_wp2_with fail
  refine (reader_f xs gb ge gm 0 62 L w0 w k0 h1 h2 h3 (by omega) hb he hg).mono ?_
  rintro e w1 ⟨rfl, k1⟩
  go_wp2_with fail
  go_end0
  exact ⟨rfl, k1⟩
set_option maxRecDepth 100000 in
set_option maxHeartbeats 2000000 in
theorem order_f (xs : List Int) (gb ge gm gf : Nat) (L : List Value) (w0 w : World) (k0 : Keep w0 w) (h1 : gb ≠ ge) (h2 : gm ≠ gb) (h3 : gm ≠ ge) (hi : L.length = 3)
    (hf : Blk w gf 94 [rdFn gb ge]) (hb : Left w0 w gb xs) (he : Blk w ge 25 [.int .i64 0]) (hg : Blk w gm 62 L) :
    Calls Try.prog 60 #[ptr gf 0, ptr gm 0] w (ReadP xs gb ge gm 2 62 L w0 w) := by
  have c0 := hf.cell_ (i := 0) rfl
  go_enter Try.func60, Try.ntmps60
  go_wp2_with fail
  refine (reader_f xs gb ge gm 2 62 L w0 w k0 h1 h2 h3 (by omega) hb he hg).mono ?_
  rintro e w1 ⟨rfl, k1⟩
  go_wp2_with fail
  go_end0
  exact ⟨rfl, k1⟩
end Go.Proofs.Ytjhmlcbpbmeicaa
