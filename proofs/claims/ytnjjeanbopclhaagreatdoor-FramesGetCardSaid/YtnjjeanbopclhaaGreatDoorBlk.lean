/-
  WORDS ON MEMORY: a block that is known whole; a world of which one block alone has turned. Plain theorems. Conditions: those that each theorem states.
-/
import Derived.Test.YtnjjeanbopclhaaGreatDoorWords
import Derived.Deep.OwnRows
namespace Go.Proofs.YtnjjeanbopclhaaGreatDoor
open Go.RowKit

/-- Block g is just these cells. -/
def Blk (w : World) (g : Nat) (t : TypeId) (l : List Value) : Prop := w.heap[g]? = some (.cells l.toArray t (0, 0))
section
variable {w w' : World} {g : Nat} {t : TypeId} {l : List Value}
theorem Blk.lt (h : Blk w g t l) : g < w.heap.size := (Array.getElem?_eq_some_iff.1 h).1
theorem Blk.cell (h : Blk w g t l) (i : Nat) : w.cell? ⟨g, i, none⟩ = l[i]? := by
  rw [cell_of_row w g i _ _ (0, 0) h]
  simp
theorem Blk.cell_ (h : Blk w g t l) {i : Nat} {v : Value} (hi : l[i]? = some v) : w.cell? ⟨g, i, none⟩ = some v := (h.cell i).trans hi
theorem Blk.frozen (h : Blk w g t l) (i : Nat) : w.frozen? ⟨g, i, none⟩ = false := frozen_of_row w g i _ _ h
theorem Blk.new (w : World) (t : TypeId) (l : List Value) : Blk (w.alloc (.cells l.toArray t)) w.heap.size t l := heap_alloc_new w _
theorem Blk.set_ (h : Blk w g t l) (i : Nat) (v : Value) : Blk (w.setCell ⟨g, i, none⟩ v) g t (l.set i v) := by
  unfold Blk at h ⊢
  rw [heap_setCell_same w g i _ _ _ h]
  congr 2
  rw [← Array.toList_inj]
  simp
theorem Blk.far (h : Blk w g t l) {p : Addr} (hp : p.block ≠ g) (u : Value) : Blk (w.setCell p u) g t l := (Below.heap_setCell w p u g (Ne.symm hp)).trans h
theorem Blk.keep (h : Blk w g t l) (hk : Keep w w') : Blk w' g t l := hk.heap h
theorem Blk.grown (h : Blk w g t l) {row : Option Nat} (hg : w.grownBy w' row) (hne : some g ≠ row) : Blk w' g t l := (hg.block g h.lt hne).trans h
theorem Blk.rd (h : Blk w g t l) : Rd w (some ⟨g, 0, none⟩) l := fun j u hu => ⟨g, 0, rfl, by rw [Nat.zero_add]; exact h.cell_ hu⟩
theorem Blk.of_make (w : World) (t : TypeId) (z : Value) (n : Nat) : Blk (w.alloc (.cells (madeCells #[z] n) t)) w.heap.size t (List.replicate n z) := by
  unfold Blk
  rw [heap_alloc_new w _]
  congr 2
  rw [← Array.toList_inj, toList_made]
where
  toList_made : (madeCells #[z] n).toList = (List.replicate n z).toArray.toList := by
    unfold madeCells
    refine List.ext_getElem (by simp) fun i h1 h2 => ?_
    simp [Nat.mod_one]
end

section
variable {a b c : World} {row : Option Nat} {g : Nat}
theorem only_refl (w : World) (row : Option Nat) : w.grownBy w row := ⟨rfl, rfl, rfl, Nat.le_refl _, fun _ _ _ => rfl⟩
theorem only_trans (h : a.grownBy b row) (k : b.grownBy c row) : a.grownBy c row :=
  ⟨k.os.trans h.os, k.tape.trans h.tape, k.output.trans h.output, Nat.le_trans h.size k.size, fun i hi hne => (k.block i (Nat.lt_of_lt_of_le hi h.size) hne).trans (h.block i hi hne)⟩
theorem only_drew (h : a.grownBy b row) : a.grownBy b.drew row := ⟨h.os, h.tape, h.output, h.size, h.block⟩
theorem only_setCell (h : a.grownBy b (some g)) (i : Nat) (u : Value) : a.grownBy (b.setCell ⟨g, i, none⟩ u) (some g) :=
  ⟨h.os, h.tape, h.output, by simpa [World.setCell] using h.size, fun k hk hne => (Below.heap_setCell b ⟨g, i, none⟩ u k (fun e => hne (by rw [e]))).trans (h.block k hk hne)⟩
theorem only_keep (h : Keep a b) (row : Option Nat) : a.grownBy b row := ⟨h.os, h.tape, h.output, h.size, fun _ hi _ => h.block hi⟩
/-- Where the block that has turned is new, all that lay is kept. -/
theorem Keep.only (h : Keep a b) (k : b.grownBy c (some g)) (hg : a.heap.size ≤ g) : Keep a c := h.grown k fun _ e => by
  injection e with e
  omega
theorem only_cell {p : Addr} {v : Value} (h : a.grownBy b (some g)) (hc : a.cell? p = some v) (hp : p.block ≠ g) : b.cell? p = some v :=
  (World.cell?_of_block (h.block p.block (World.block_lt_of_cell? a p hc) (fun e => hp (by injection e)))).trans hc
end
theorem toList_madeCells (z : Value) (n : Nat) : (madeCells #[z] n).toList = List.replicate n z := by
  unfold madeCells
  refine List.ext_getElem (by simp) fun i h1 h2 => ?_
  simp [Nat.mod_one]
end Go.Proofs.YtnjjeanbopclhaaGreatDoor
