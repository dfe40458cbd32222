/-
  CONTRACT of the laws' copy of a list of bytes: in memory of its own, a mark in the room behind. Conditions: the slice reads as a list, and is not too long.
-/
import Derived.Test.YtnjjeanbopclhaaGreatDoorTwinI
namespace Go.Proofs.YtnjjeanbopclhaaGreatDoor
open Go.RowKit

/-- A copy of a list of bytes: of the call's own, the mark 77 behind it. -/
def TwinB (w : World) (base : Nat) (t : Sl) : Prop := Fr 5 w base t.a (t.l.length + 1) t.c (cs .u8 (t.l ++ [77]))
theorem TwinB.keep {w w' : World} {base : Nat} {t : Sl} (h : TwinB w base t) (hk : Keep w w') : TwinB w' base t := Fr.keep h hk
theorem TwinB.fr {w : World} {base : Nat} {t : Sl} (h : TwinB w base t) : Fr 5 w base t.a t.l.length t.c (cs .u8 t.l) := by
  have := Fr.take h (Nat.le_succ t.l.length)
  rw [cs_take, List.take_left] at this
  exact this
theorem TwinB.ok {w : World} {base : Nat} {t : Sl} (h : TwinB w base t) (hw : ∀ x ∈ t.l, (Lit.int .u8 x).wf = true) : t.Ok .u8 w :=
  ⟨⟨h.fr.rd, h.fr.cap, h.fr.capMax, hw⟩, fun e => h.fr.capNil e⟩

set_option maxRecDepth 100000 in
set_option maxHeartbeats 2000000 in
theorem twinBytes_f (s : Sl) (w : World) (hs : s.Ok .u8 w) (hn : s.l.length ≤ 1000000) :
    Calls Tryz.prog 19 #[.slice s.a s.l.length s.c] w fun e w' => ∃ A c, e = .returned (.slice A s.l.length c) ∧ TwinB w' w.heap.size ⟨A, c, s.l⟩ ∧ Keep w w' := by
  have hmk : ∀ w : World, (Instr.makeSlice 25 (.int .i64 0) (.int .i64 ((s.l.length : Int) + 1))).run Tryz.prog w = .ok (.slice (some ⟨w.heap.size, 0, none⟩) 0 (s.l.length + 1)) (w.alloc (.cells (madeCells #[.int .u8 0] (s.l.length + 1)) 5)) := fun w => run_make_room (P := Tryz.prog) 25 5 (.int .u8 0) 1 Tryz.underlying25 infoByte rfl .i64 .i64 (s.l.length + 1) (by omega) (by omega) w
  go_enter Tryz.func19, Tryz.ntmps19
  go_upto_region 2 with fail
  have kk : Keep w (w.alloc (.cells (madeCells #[.int .u8 0] (s.l.length + 1)) 5)) := Keep.alloc1 _ _
  have f0 : Fr 5 (w.alloc (.cells (madeCells #[.int .u8 0] (s.l.length + 1)) 5)) w.heap.size (some ⟨w.heap.size, 0, none⟩) 0 (s.l.length + 1) (cs .u8 (s.l.take 0)) := Fr.new w _ _ (Nat.zero_le _) (by unfold maxLen; omega) (by rw [size_madeCells]; exact Nat.le_refl _) (Nat.le_refl _)
  generalize w.alloc (.cells (madeCells #[.int .u8 0] (s.l.length + 1)) 5) = w1 at kk f0 ⊢
  clear hmk
  go_wp2_with fail
  go_loopw [3, 4] (fun v i wr => ∃ (k : Nat) (B : Option Addr) (c : Nat), k ≤ s.l.length ∧ i = .int .i64 k ∧ v = .slice B k c ∧ Fr 5 wr w.heap.size B k c (cs .u8 (s.l.take k)) ∧ Keep w wr) (fun _ i _ => s.l.length - (intOf i).toNat)
  case atStart => exact ⟨0, _, _, Nat.zero_le _, rfl, rfl, f0, kk⟩
  case round =>
    clear f0 kk
    obtain ⟨k, B, c, hk, rfl, rfl, hfr, hkeep⟩ := hrel
    by_cases hlt : k < s.l.length
    · obtain ⟨b1, o1, x, hsa, hxk, hc1⟩ := (hs.rd.keep hkeep).int_at hlt
      have HX := Lib.hid hxk
      rw [hsa]
      clear hxk hsa
      go_wp2_with (at_builtin; refine wpList_append_fr _ rfl _ _ 25 rfl w.heap.size 5 (.int .u8 0) 1 Tryz.underlying25 infoByte rfl B k c _ rfl (hfr.keep (Keep.alloc1 _ _)) (some ⟨wr.heap.size, 0, none⟩) 1 1 [.int .u8 x] rfl rfl (Rd.one _ _ _) (one_int _ _) ?c1 ?c2 ?c3 ?_)
      case c1 => unfold maxLen; omega
      case c2 => omega
      case c3 => have := hkeep.size; simp; omega
      intro A' c' w2 happ
      have hk2 := happ.keep (hkeep.alloc _) (hfr.keep (Keep.alloc1 _ _))
      have hf1 := happ.fr
      rw [cs_take_succ HX.out] at hf1
      clear happ hfr
      go_wp2_with fail
      go_roundw
      case rel => exact ⟨k + 1, A', c', by omega, by go_num, rfl, hf1, hk2⟩
      case measure => simp [intOf]; omega
    · obtain rfl : k = s.l.length := by omega
      rw [List.take_of_length_le (Nat.le_refl _)] at hfr
      go_wp2_with (at_builtin; refine wpList_append_fr _ rfl _ _ 25 rfl w.heap.size 5 (.int .u8 0) 1 Tryz.underlying25 infoByte rfl B s.l.length c _ rfl (hfr.keep (Keep.alloc1 _ _)) (some ⟨wr.heap.size, 0, none⟩) 1 1 [.int .u8 77] rfl rfl (Rd.one _ _ _) (one_int _ _) ?d1 ?d2 ?d3 ?_)
      case d1 => unfold maxLen; omega
      case d2 => omega
      case d3 => have := hkeep.size; simp; omega
      intro A' c' w2 happ
      have hk2 := happ.keep (hkeep.alloc _) (hfr.keep (Keep.alloc1 _ _))
      have hf1 := happ.fr
      rw [← cs_one, ← cs_append] at hf1
      have hc1 := hf1.cap
      clear happ hfr
      have y1 : (s.l.length : Int) ≤ c' := by omega
      go_wp2_with fail
      go_ret
      exact ⟨A', c', rfl, hf1, hk2⟩

end Go.Proofs.YtnjjeanbopclhaaGreatDoor
