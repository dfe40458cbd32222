/-
  WORDS for the laws' Book: how lists of the call's own are brought together as what it holds. Plain theorems. Conditions: those that each theorem states.
-/
import Derived.Test.YtjhbpocffckghaaGreatDoorBookG
namespace Go.Proofs.YtjhbpocffckghaaGreatDoor
open Go.RowKit

/-- Lists of the call's own, in rows apart. -/
structure Held (e : TypeId) (w : World) (base : Nat) (hs : List Hd) : Prop where
  f : ∀ h ∈ hs, ∃ us, Fr e w base h.a h.n h.c us
  p : hs.Pairwise fun x y => ∀ k, ownB x.a x.c = some k → ownB y.a y.c ≠ some k
  m : ∀ h ∈ hs, h.m < 100000 ∧ h.n ≤ 1000000
theorem Held.nil (e : TypeId) (w : World) (base : Nat) : Held e w base [] := ⟨fun _ h => (by cases h), List.Pairwise.nil, fun _ h => (by cases h)⟩
theorem Held.keep {e : TypeId} {w w' : World} {base : Nat} {hs : List Hd} (h : Held e w base hs) (hk : Keep w w') : Held e w' base hs :=
  ⟨fun x hx => by obtain ⟨us, hu⟩ := h.f x hx; exact ⟨us, hu.keep hk⟩, h.p, h.m⟩
theorem Held.snoc {e : TypeId} {w w' : World} {base : Nat} {hs : List Hd} {A : Option Addr} {c n : Nat} {us : List Value} (h : Held e w base hs) (hk : Keep w w') (hb : base ≤ w.heap.size) (f : Fr e w' w.heap.size A n c us) (m : Nat) (hm : m < 100000) (hn : n ≤ 1000000) :
    Held e w' base (hs ++ [⟨A, c, n, m, none, 0, 0⟩]) := by
  refine ⟨fun x hx => ?_, ?_, fun x hx => ?_⟩
  · rcases List.mem_append.1 hx with hx | hx
    · obtain ⟨us', hu⟩ := h.f x hx
      exact ⟨us', hu.keep hk⟩
    · rw [List.mem_singleton] at hx
      subst hx
      exact ⟨us, f.mono hb⟩
  · rw [List.pairwise_append]
    refine ⟨h.p, List.pairwise_singleton _ _, fun x hx y hy k h1 h2 => ?_⟩
    rw [List.mem_singleton] at hy
    subst hy
    obtain ⟨us', hu⟩ := h.f x hx
    have := (hu.own_ge h1).2
    have := (f.own_ge h2).1
    omega
  · rcases List.mem_append.1 hx with hx | hx
    · exact h.m x hx
    · rw [List.mem_singleton] at hx
      subst hx
      exact ⟨hm, hn⟩
theorem Held.aparts {e : TypeId} {w : World} {base : Nat} {hs : List Hd} (h : Held e w base hs) : Aparts hs := by
  intro i j x y hij hx hy k h1 h2
  obtain ⟨li, rfl⟩ := List.getElem?_eq_some_iff.1 hx
  obtain ⟨lj, rfl⟩ := List.getElem?_eq_some_iff.1 hy
  rcases Nat.lt_or_gt_of_ne hij with h' | h'
  · exact List.pairwise_iff_getElem.1 h.p i j li lj h' k h1 h2
  · exact List.pairwise_iff_getElem.1 h.p j i lj li h' k h2 h1
theorem Holds.of {w : World} {base : Nat} {hb hi : List Hd} (h1 : Held 5 w base hb) (h2 : Held 3 w base hi) (l1 : hb.length ≤ 10000) (l2 : hi.length ≤ 10000) : Holds w base hb hi := ⟨h1.f, h2.f, h1.aparts, h2.aparts, h1.m, h2.m, l1, l2⟩
theorem Bk.mono {w : World} {base b' g n : Nat} {hb hi : List Hd} {vb vi : Value} (h : Bk w base g n hb hi vb vi) (hb' : b' ≤ base) : Bk w b' g n hb hi vb vi := ⟨h.b, h.rb.mono hb', h.ri.mono hb', Nat.le_trans hb' h.g⟩
/-- A Book that is new. -/
theorem Bk.new (w : World) : Bk (w.alloc (.cells #[.int .i64 0, .slice none 0 0, .slice none 0 0, .slice none 0 0, .slice none 0 0, .slice none 0 0, .slice none 0 0, .slice none 0 0, .slice none 0 0, .slice none 0 0] 49)) w.heap.size w.heap.size 0 [] [] (.slice none 0 0) (.slice none 0 0) :=
  ⟨Blk.new w _ _, HRow.nil _ _ _, HRow.nil _ _ _, Nat.le_refl _⟩
theorem Bk.stepB {w0 w w' : World} {g n : Nat} {hb hi : List Hd} {vb vi : Value} (hk : Bk w w0.heap.size g n hb hi vb vi) (kk : Keep w0 w) (h : But (fun q => q = g ∨ vb.ownBlock = some q) w w') : Keep w0 w' :=
  kk.but h fun q hq => hq.elim (fun e => e ▸ hk.g) (hk.rb.own_ge q)
theorem Bk.stepI {w0 w w' : World} {g n : Nat} {hb hi : List Hd} {vb vi : Value} (hk : Bk w w0.heap.size g n hb hi vb vi) (kk : Keep w0 w) (h : But (fun q => q = g ∨ vi.ownBlock = some q) w w') : Keep w0 w' :=
  kk.but h fun q hq => hq.elim (fun e => e ▸ hk.g) (hk.ri.own_ge q)
end Go.Proofs.YtjhbpocffckghaaGreatDoor
