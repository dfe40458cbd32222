/-
  CONTRACT of the laws' copy of a list of ints: in memory of its own, a mark in the room behind. Conditions: the slice reads as a list, and is not too long.
-/
import Derived.Test.YtnjjeanbopclhaaGreatDoorOpenC
import Derived.Test.YtnjjeanbopclhaaGreatDoorAid
import Derived.Test.YtnjjeanbopclhaaGreatDoorInfo
import Derived.Lib.JoinLaws
import Derived.Deep.CutRange
namespace Go.Proofs.YtnjjeanbopclhaaGreatDoor
open Go.RowKit

theorem Fr.take {e : TypeId} {w : World} {base : Nat} {A : Option Addr} {n c : Nat} {vs : List Value} (h : Fr e w base A n c vs) {m : Nat} (hm : m ≤ n) : Fr e w base A m c (vs.take m) := by
  obtain ⟨h1, h2, h3, h4 | ⟨g, cur, hA, hb, hg, hs, ht⟩⟩ := h
  · exact ⟨by rw [List.length_take]; omega, by omega, h3, .inl h4⟩
  · exact ⟨by rw [List.length_take]; omega, by omega, h3, .inr ⟨g, cur, hA, hb, hg, hs, by rw [← ht, List.take_take, Nat.min_eq_left hm]⟩⟩
/-- Slices of the call's own of unlike types lie in rows apart. -/
theorem Fr.offtype {e e' : TypeId} {w : World} {b b' : Nat} {A A' : Option Addr} {n n' c c' : Nat} {vs vs' : List Value} (h : Fr e w b A n c vs) (h' : Fr e' w b' A' n' c' vs') (hne : e ≠ e') : ∀ k, ownB A c = some k → ownB A' c' ≠ some k := by
  intro k hk hk'
  obtain ⟨_, _, _, h4 | ⟨g, cur, rfl, _, hg, _⟩⟩ := h'
  · simp [ownB, h4] at hk'
  · unfold ownB at hk'
    split at hk'
    · cases hk'
    · simp at hk'
      exact h.own_ne hg hne k hk hk'

/-- A copy of a list of ints: of the call's own, the mark 77 behind it. -/
def Twin (w : World) (base : Nat) (t : Sl) : Prop := Fr 3 w base t.a (t.l.length + 1) t.c (cs .i64 (t.l ++ [77]))
theorem Twin.keep {w w' : World} {base : Nat} {t : Sl} (h : Twin w base t) (hk : Keep w w') : Twin w' base t := Fr.keep h hk
theorem Twin.fr {w : World} {base : Nat} {t : Sl} (h : Twin w base t) : Fr 3 w base t.a t.l.length t.c (cs .i64 t.l) := by
  have := Fr.take h (Nat.le_succ t.l.length)
  rw [cs_take, List.take_left] at this
  exact this
theorem Twin.ok {w : World} {base : Nat} {t : Sl} (h : Twin w base t) (hw : ∀ x ∈ t.l, (Lit.int .i64 x).wf = true) : t.Ok .i64 w :=
  ⟨⟨h.fr.rd, h.fr.cap, h.fr.capMax, hw⟩, fun e => h.fr.capNil e⟩

set_option maxRecDepth 100000 in
set_option maxHeartbeats 2000000 in
theorem twinInts_f (s : Sl) (w : World) (hs : s.Ok .i64 w) (hn : s.l.length ≤ 1000000) :
    Calls Tryz.prog 27 #[.slice s.a s.l.length s.c] w fun e w' => ∃ A c, e = .returned (.slice A s.l.length c) ∧ Twin w' w.heap.size ⟨A, c, s.l⟩ ∧ Keep w w' := by
  have hmk : ∀ w : World, (Instr.makeSlice 26 (.int .i64 0) (.int .i64 ((s.l.length : Int) + 1))).run Tryz.prog w = .ok (.slice (some ⟨w.heap.size, 0, none⟩) 0 (s.l.length + 1)) (w.alloc (.cells (madeCells #[.int .i64 0] (s.l.length + 1)) 3)) := fun w => run_make_room (P := Tryz.prog) 26 3 (.int .i64 0) 8 Tryz.underlying26 infoInt rfl .i64 .i64 (s.l.length + 1) (by omega) (by omega) w
  go_enter Tryz.func27, Tryz.ntmps27
  go_upto_region 2 with fail
  have kk : Keep w (w.alloc (.cells (madeCells #[.int .i64 0] (s.l.length + 1)) 3)) := Keep.alloc1 _ _
  have f0 : Fr 3 (w.alloc (.cells (madeCells #[.int .i64 0] (s.l.length + 1)) 3)) w.heap.size (some ⟨w.heap.size, 0, none⟩) 0 (s.l.length + 1) (cs .i64 (s.l.take 0)) := Fr.new w _ _ (Nat.zero_le _) (by unfold maxLen; omega) (by rw [size_madeCells]; exact Nat.le_refl _) (Nat.le_refl _)
  generalize w.alloc (.cells (madeCells #[.int .i64 0] (s.l.length + 1)) 3) = w1 at kk f0 ⊢
  clear hmk
  go_wp2_with fail
  go_loopw [3, 4] (fun v i wr => ∃ (k : Nat) (B : Option Addr) (c : Nat), k ≤ s.l.length ∧ i = .int .i64 k ∧ v = .slice B k c ∧ Fr 3 wr w.heap.size B k c (cs .i64 (s.l.take k)) ∧ Keep w wr) (fun _ i _ => s.l.length - (intOf i).toNat)
  case atStart => exact ⟨0, _, _, Nat.zero_le _, rfl, rfl, f0, kk⟩
  case round =>
    clear f0 kk
    obtain ⟨k, B, c, hk, rfl, rfl, hfr, hkeep⟩ := hrel
    by_cases hlt : k < s.l.length
    · obtain ⟨b1, o1, x, hsa, hxk, hc1⟩ := (hs.rd.keep hkeep).int_at hlt
      have HX := Lib.hid hxk
      rw [hsa]
      clear hxk hsa
      go_wp2_with (at_builtin; refine wpList_append_fr _ rfl _ _ 26 rfl w.heap.size 3 (.int .i64 0) 8 Tryz.underlying26 infoInt rfl B k c _ rfl (hfr.keep (Keep.alloc1 _ _)) (some ⟨wr.heap.size, 0, none⟩) 1 1 [.int .i64 x] rfl rfl (Rd.one _ _ _) (one_int _ _) ?c1 ?c2 ?c3 ?_)
      case c1 => unfold maxLen; omega
      case c2 => omega
      case c3 => have := hkeep.size; simp; omega
      intro A' c' w2 happ
      have hk2 := happ.keep (hkeep.alloc _) (hfr.keep (Keep.alloc1 _ _))
      have hf1 := happ.fr
      rw [cs_take_succ HX.out] at hf1
      clear happ hfr
      go_wp2_with fail
      go_roundw
      case rel => exact ⟨k + 1, A', c', by omega, by go_num, rfl, hf1, hk2⟩
      case measure => simp [intOf]; omega
    · obtain rfl : k = s.l.length := by omega
      rw [List.take_of_length_le (Nat.le_refl _)] at hfr
      go_wp2_with (at_builtin; refine wpList_append_fr _ rfl _ _ 26 rfl w.heap.size 3 (.int .i64 0) 8 Tryz.underlying26 infoInt rfl B s.l.length c _ rfl (hfr.keep (Keep.alloc1 _ _)) (some ⟨wr.heap.size, 0, none⟩) 1 1 [.int .i64 77] rfl rfl (Rd.one _ _ _) (one_int _ _) ?d1 ?d2 ?d3 ?_)
      case d1 => unfold maxLen; omega
      case d2 => omega
      case d3 => have := hkeep.size; simp; omega
      intro A' c' w2 happ
      have hk2 := happ.keep (hkeep.alloc _) (hfr.keep (Keep.alloc1 _ _))
      have hf1 := happ.fr
      rw [← cs_one, ← cs_append] at hf1
      have hc1 := hf1.cap
      clear happ hfr
      have y1 : (s.l.length : Int) ≤ c' := by omega
      go_wp2_with fail
      go_ret
      exact ⟨A', c', rfl, hf1, hk2⟩

end Go.Proofs.YtnjjeanbopclhaaGreatDoor
