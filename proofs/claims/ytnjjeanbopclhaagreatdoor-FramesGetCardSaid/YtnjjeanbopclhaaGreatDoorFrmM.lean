/-
  CONTRACT of the laws' check 'lives' of the package frames: it answers true; nothing that was there is turned. Condition: the program's list of parts stands as its text lays it.
-/
import Derived.Test.YtnjjeanbopclhaaGreatDoorFrmD
import Derived.Test.YtnjjeanbopclhaaGreatDoorFrmJ
import Derived.Laws.BytesArg
import Derived.Lib.SlBytesConst
namespace Go.Proofs.YtnjjeanbopclhaaGreatDoor
open Go.RowKit

theorem bytes_of {l : List Int} (h : l.all (fun x => decide (0 ≤ x) && decide (x < 256)) = true) : Bytes l := fun x hx => by
  have := List.all_eq_true.1 h x hx
  simp at this
  exact this
/-- A slice of bytes as a string. -/
theorem conv_str {w : World} {A : Option Addr} {zs : List Int} (hr : Rd w A (cs .u8 zs)) (h0 : 0 < zs.length) : (convert 25 9 (.slice A zs.length zs.length)).run Tryz.prog w = .ok (.string (strOfNums zs)) w := by
  obtain ⟨b, off, rfl, hc⟩ := hr.ints h0
  exact run_convert_bytes_arg w 25 5 Tryz.underlying25 Tryz.underlying5 b off _ _ zs rfl hc 9 Tryz.underlying9
def lifeL : List Int := [10, 1, 0, 0, 0, 0, 0, 0, 0, 0, 0, 0, 0, 0, 0, 0, 0]
theorem nil_ok (k : IntKind) (w : World) : Sl.Ok k w ⟨none, 0, []⟩ := ⟨⟨Rd.nil _ _, Nat.le_refl _, Nat.zero_le _, fun x h => by cases h⟩, fun _ => rfl⟩
theorem one_ok (k : IntKind) (w : World) (x : Int) (t : TypeId) (h : (Lit.int k x).wf = true) : Sl.Ok k (w.alloc (.cells #[.int k x] t)) ⟨some ⟨w.heap.size, 0, none⟩, 1, [x]⟩ :=
  ⟨⟨Rd.one w (.int k x) t, Nat.le_refl _, (show 1 ≤ maxLen by decide), fun y hy => by rw [List.mem_singleton] at hy; subst hy; exact h⟩, fun h => by cases h⟩

theorem lf1 : putFV ⟨10, 1, 0, 0, [], []⟩ = (lifeL, 0) := by decide
theorem lf2 : putFV ⟨2, 1, 0, 0, [], [1]⟩ = ([], 1) := by decide
theorem lf3 : getFV [] = (zeroF, 4) := rfl
theorem lf4 : getFV lifeL = (⟨10, 1, 0, 0, [], []⟩, 0) := rfl

set_option maxRecDepth 100000 in
set_option maxHeartbeats 4000000 in
theorem lives_f (w : World) (hP : Parts w) : Calls Tryz.prog 5 #[] w fun e w' => e = .returned (.bool true) ∧ Keep w w' := by
  go_enter Tryz.func5, Tryz.ntmps5
  have hq : Calls Tryz.prog 8 #[.agg #[.int .u8 10, .int .u8 1, .int .u32 0, .int .u64 0, .slice none 0 0, .slice none 0 0]] w fun e w' => ∃ A, e = .returned (.tuple #[.slice A 17 17, .int .i64 0]) ∧ Fr 5 w' w.heap.size A 17 17 (cs .u8 lifeL) ∧ Keep w w' :=
    putF_f ⟨⟨10, 1, 0, 0, [], []⟩, none, 0, none, 0⟩ w ⟨nil_ok _ _, nil_ok _ _, by decide, by decide, by decide, by decide⟩ hP lf1
  go_wp2_with fail
  refine hq.mono ?_
  rintro e w1 ⟨A1, rfl, f1, kk⟩
  clear hq
  replace hP := hP.keep kk
  have kn : Keep w1 (w1.alloc (.cells #[.int .i64 1] 3)) := Keep.alloc1 _ _
  have hq : Calls Tryz.prog 8 #[.agg #[.int .u8 2, .int .u8 1, .int .u32 0, .int .u64 0, .slice none 0 0, .slice (some ⟨w1.heap.size, 0, none⟩) 1 1]] (w1.alloc (.cells #[.int .i64 1] 3)) fun e w' => ∃ A, e = .returned (.tuple #[.slice A 0 0, .int .i64 1]) ∧ Fr 5 w' (w1.alloc (.cells #[.int .i64 1] 3)).heap.size A 0 0 (cs .u8 []) ∧ Keep (w1.alloc (.cells #[.int .i64 1] 3)) w' :=
    putF_f ⟨⟨2, 1, 0, 0, [], [1]⟩, none, 0, some ⟨w1.heap.size, 0, none⟩, 1⟩ _ ⟨nil_ok _ _, one_ok _ _ _ _ (by decide), show 2 < 256 by decide, show 1 < 256 by decide, show 0 < 4294967296 by decide, show 0 < 18446744073709551616 by decide⟩ (hP.keep kn) lf2
  go_wp2_with fail
  refine hq.mono ?_
  rintro e w2 ⟨A2, rfl, -, k2⟩
  clear hq
  replace k2 := kn.trans k2
  replace hP := hP.keep k2
  replace f1 := f1.keep k2
  replace kk := kk.trans k2
  clear k2 kn
  have hq : Calls Tryz.prog 20 #[.slice none 0 0] w2 (GetFP zeroF 4 w2) := getF_f none 0 [] w2 (Rd.nil _ _) (fun x h => by cases h) (Nat.le_refl _) (by unfold Len; omega) hP lf3
  go_wp2_with fail
  refine hq.mono ?_
  rintro e w3 ⟨s3, b3, rfl, -, -, -, k3⟩
  clear hq
  replace hP := hP.keep k3
  replace f1 := f1.keep k3
  replace kk := kk.trans k3
  clear k3
  unfold Frm.val
  go_upto_region 4 with fail
  have kn : Keep w3 (w3.alloc (.cells #[.int .u8 zeroF.ask, .int .u8 zeroF.who, .int .u32 zeroF.seq, .int .u64 zeroF.tok, .slice s3 zeroF.sec.length zeroF.sec.length, .slice b3 zeroF.bid.length zeroF.bid.length] 28)) := Keep.alloc1 _ _
  generalize w3.alloc (.cells #[.int .u8 zeroF.ask, .int .u8 zeroF.who, .int .u32 zeroF.seq, .int .u64 zeroF.tok, .slice s3 zeroF.sec.length zeroF.sec.length, .slice b3 zeroF.bid.length zeroF.bid.length] 28) = w4 at kn ⊢
  replace hP := hP.keep kn
  replace f1 := f1.keep kn
  replace kk := kk.trans kn
  clear kn
  have hq : Calls Tryz.prog 20 #[.slice A1 17 17] w4 (GetFP ⟨10, 1, 0, 0, [], []⟩ 0 w4) := getF_f A1 17 lifeL w4 f1.rd (bytes_of (by decide)) (Nat.le_refl _) (by unfold Len; omega) hP lf4
  go_wp2_with fail
  refine hq.mono ?_
  rintro e w5 ⟨s5, b5, rfl, -, -, -, k5⟩
  clear hq
  replace f1 := f1.keep k5
  replace kk := kk.trans k5
  clear k5 hP
  unfold Frm.val
  go_upto_region 5 with fail
  have kn : Keep w5 (w5.alloc (.cells #[.int .u8 10, .int .u8 1, .int .u32 0, .int .u64 0, .slice s5 0 0, .slice b5 0 0] 28)) := Keep.alloc1 _ _
  have bF := Blk.new w5 28 [.int .u8 10, .int .u8 1, .int .u32 0, .int .u64 0, .slice s5 0 0, .slice b5 0 0]
  change Code.wp _ _ _ _ (w5.alloc (.cells #[.int .u8 10, .int .u8 1, .int .u32 0, .int .u64 0, .slice s5 0 0, .slice b5 0 0] 28))
  generalize w5.alloc (.cells #[.int .u8 10, .int .u8 1, .int .u32 0, .int .u64 0, .slice s5 0 0, .slice b5 0 0] 28) = w6 at kn bF ⊢
  generalize w5.heap.size = gF at bF ⊢
  replace f1 := f1.keep kn
  replace kk := kk.trans kn
  have c0 := bF.cell_ (i := 0) rfl
  have hcv : (convert 25 9 (.slice A1 17 17)).run Tryz.prog w6 = .ok (.string ⟨#[10, 1, 0, 0, 0, 0, 0, 0, 0, 0, 0, 0, 0, 0, 0, 0, 0]⟩) w6 := conv_str f1.rd (by decide)
  clear kn f1 bF
  go_wp2_with fail
  go_ret
  exact ⟨rfl, kk⟩
end Go.Proofs.YtnjjeanbopclhaaGreatDoor
