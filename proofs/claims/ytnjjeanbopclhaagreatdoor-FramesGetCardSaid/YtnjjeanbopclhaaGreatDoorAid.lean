/-
  WORDS ON LENGTHS AND MEMORY that several texts want: a length that a slice may have, a slice in memory below a bound, append within a round of a range over a function. Plain theorems. Conditions: those that each theorem states.
-/
import Derived.Test.YtnjjeanbopclhaaGreatDoorOpen
import Derived.Test.YtnjjeanbopclhaaGreatDoorTell
import Derived.Test.YtnjjeanbopclhaaGreatDoorRange
import Derived.Shelf.Abstract
import Derived.BigQuiet
import Derived.Deep.QuietTactic
namespace Go.Proofs.YtnjjeanbopclhaaGreatDoor
open Go.RowKit Go.Shelf
attribute [local go_sem] Oper.semAt_some

/-- A length that a slice may have. -/
def Len (n : Nat) : Prop := n ≤ 9223372036854775807
theorem Len.le {n : Nat} (h : Len n) : (n : Int) ≤ 9223372036854775807 := by unfold Len at h; omega
theorem Reach.len {n : Nat} (h : Reach n) : Len n := by unfold Reach at h; unfold Len; omega
theorem In.lenL {k : IntKind} {w : World} {a : Option Addr} {c : Nat} {xs : List Int} (h : In k w a c xs) : Len xs.length := by have := h.len; unfold Len; omega

/-- A slice that reads as vs, in a block below lo. -/
def RdB (lo : Nat) (w : World) (A : Option Addr) (vs : List Value) : Prop :=
  ∀ j u, vs[j]? = some u → ∃ b off, A = some ⟨b, off, none⟩ ∧ b < lo ∧ w.cell? ⟨b, off + j, none⟩ = some u
theorem Rd.below {w : World} {A : Option Addr} {vs : List Value} {lo : Nat} (h : Rd w A vs) (hlo : w.heap.size ≤ lo) : RdB lo w A vs := fun j u hu => by
  obtain ⟨b, off, e, hc⟩ := h j u hu
  exact ⟨b, off, e, by have := World.block_lt_of_cell? w _ hc; simp only at this; omega, hc⟩
theorem RdB.rd {w : World} {A : Option Addr} {vs : List Value} {lo : Nat} (h : RdB lo w A vs) : Rd w A vs := fun j u hu => by
  obtain ⟨b, off, e, _, hc⟩ := h j u hu
  exact ⟨b, off, e, hc⟩
theorem RdB.keepX {lo hi n₁ : Nat} {a b : World} {A : Option Addr} {vs : List Value} (h : RdB lo a A vs) (k : KeepX lo hi n₁ a b) (hn : lo ≤ n₁) : RdB lo b A vs := fun j u hu => by
  obtain ⟨g, off, e, hg, hc⟩ := h j u hu
  exact ⟨g, off, e, hg, (World.cell?_of_block (w := a) (w' := b) (a := ⟨g, off + j, none⟩) (k.block g (by omega) (.inl hg))).trans hc⟩
theorem RdB.keep {lo : Nat} {a b : World} {A : Option Addr} {vs : List Value} (h : RdB lo a A vs) (k : Keep a b) : RdB lo b A vs := fun j u hu => by
  obtain ⟨g, off, e, hg, hc⟩ := h j u hu
  exact ⟨g, off, e, hg, k.cell hc⟩

/-- append onto a slice of the call's own, within a round of a range over a function. -/
theorem wpListIn_append_fr {F : Fence} {n₀ : Nat} {P : Program} (w : World) {ops : Array Oper} {rest : List Oper} {o : Oper} {a : Act} {Q : Exit → Act → World → Prop} (hgd : o.guard = none) (s x : Operand) (t : TypeId)
    (ho : o.op = .call { callee := .builtin .append, args := #[s, x], argTypes := #[t, t] })
    (base : Nat) (e : TypeId) (z : Value) (bytes : Nat) (ht : P.underlying t = some (.slice e)) (hinfo : (P.info? e).map (fun i => (i.zero, i.size, i.bytes)) = some (some z, 1, bytes)) (hzs : z.cells.size = 1)
    (A : Option Addr) (n c : Nat) (vs : List Value) (hs : a.eval s = .slice A n c) (hown : Fr e w base A n c vs)
    (B : Option Addr) (m d : Nat) (news : List Value) (hx : a.eval x = .slice B m d) (hl : news.length = m) (hr : Rd w B news) (h1 : ∀ u ∈ news, u.oneCell' = true)
    (h63 : n + m ≤ maxLen) (hbytes : (n + m) * bytes ≤ 140737488355328) (hbase : base ≤ w.heap.size)
    (h : ∀ A' c' w', Appended e w base A c (n + m) (vs ++ news) A' c' w' → wpListIn F n₀ P ops Q rest (a.put o.dst (.slice A' (n + m) c')) w') : wpListIn F n₀ P ops Q (o :: rest) a w := by
  refine wpListIn_plain hgd fun K hK' => ?_
  obtain ⟨i, hi, hz, hsize, hby⟩ := info_parts hinfo
  obtain ⟨A', c', w', hrun, h2⟩ := run_append_fr (P := P) w base t o.type e i z bytes ht hi hz hsize hby hzs A n c vs hown B m d news hl hr h1 h63 hbytes hbase
  unfold Oper.wpIn
  refine ⟨?_, ?_⟩
  · simp [Oper.about, ho, resolve, Target.leads, Sem.run_pure]
  · rw [Oper.semAt_plain F _ _ (by rw [ho]; intro c hc'; cases hc')]
    simp [execOp, ho, resolve, invoke, builtin, hs, hx, hrun, Result.andThen]
    exact hK' _ _ (h A' c' w' h2)

theorem Fr.cells {e : TypeId} {w : World} {base : Nat} {A : Option Addr} {n c : Nat} {vs : List Value} (h : Fr e w base A n c vs) (j : Nat) (o : Obj) (hj : ownB A c = some j) (ho : w.heap[j]? = some o) : o.isCells = true := by
  obtain ⟨h1, h2, h3, h4 | ⟨g, cur, rfl, hb, hgg, r⟩⟩ := h
  · simp [ownB, h4] at hj
  · unfold ownB at hj
    split at hj
    · cases hj
    · simp at hj
      subst hj
      rw [hgg] at ho
      cases ho
      rfl

theorem Fr.setLow {e : TypeId} {w : World} {base : Nat} {A : Option Addr} {n c : Nat} {vs : List Value} (h : Fr e w base A n c vs) {p : Addr} (hp : p.block < base) (u : Value) : Fr e (w.setCell p u) base A n c vs :=
  h.setCell (fun k hk => by have := (h.own_ge hk).1; omega) u
theorem Fr.setBox {e : TypeId} {w : World} {base : Nat} {A : Option Addr} {n c : Nat} {vs : List Value} (h : Fr e w base A n c vs) {B : Nat} (hp : B < base) (u : Value) : Fr e (w.setCell ⟨B, 0, none⟩ u) base A n c vs := h.setLow hp u
theorem KeepX.setBox {lo hi n₁ : Nat} {a b : World} (h : KeepX lo hi n₁ a b) {B : Nat} (h1 : lo ≤ B) (h2 : B < hi) (u : Value) : KeepX lo hi n₁ a (b.setCell ⟨B, 0, none⟩ u) := h.setCell (.inl ⟨h1, h2⟩) u
theorem Keep.setBox {a b : World} (h : Keep a b) {B : Nat} (h1 : a.heap.size ≤ B) (u : Value) : Keep a (b.setCell ⟨B, 0, none⟩ u) := h.setCell h1 u
/-- What a round leaves, of a world behind an append. -/
theorem Boxed.low {W w1 : World} {B n₁ n c : Nat} {e t : TypeId} {v : Value} {A : Option Addr} {vs : List Value} (h : Boxed W B t v) (hf : Fr e W n₁ A n c vs) (hg : W.grownBy w1 (ownB A c)) (hB : B < n₁) : Boxed w1 B t v :=
  h.kept hg (fun e' => by have := (hf.own_ge e'.symm).1; omega)

theorem lenMax {c : Nat} (h : c ≤ maxLen) : Len c := by unfold maxLen at h; unfold Len; omega
theorem heap_setBox {W : World} {B D : Nat} {o : Obj} (h : W.heap[D]? = some o) (hne : D ≠ B) (u : Value) : (W.setCell ⟨B, 0, none⟩ u).heap[D]? = some o := (Below.heap_setCell W ⟨B, 0, none⟩ u D hne).trans h
theorem quiet_says {P : Program} {f : FuncId} {args : Array Value} {w : World} {n : Nat} {b : Bool} (h : Calls P f args (w.drewN n) (Says (w.drewN n) b)) : Calls P f args (w.drewN n) fun e w'' => e = .returned (.bool b) ∧ ∃ m, w'' = w.drewN m :=
  h.mono fun _ _ ⟨he, m, hm⟩ => ⟨he, n + m, by rw [hm, World.drewN_drewN]⟩
theorem quiet_says2 {P : Program} {f : FuncId} {args : Array Value} {w : World} {a n : Nat} {b : Bool} (h : Calls P f args (w.drewN (a + n)) (Says (w.drewN (a + n)) b)) : Calls P f args (w.drewN (a + n)) fun e w'' => e = .returned (.bool b) ∧ ∃ m, w'' = w.drewN (a + m) :=
  h.mono fun _ _ ⟨he, m, hm⟩ => ⟨he, n + m, by rw [hm, World.drewN_drewN, Nat.add_assoc]⟩
end Go.Proofs.YtnjjeanbopclhaaGreatDoor
