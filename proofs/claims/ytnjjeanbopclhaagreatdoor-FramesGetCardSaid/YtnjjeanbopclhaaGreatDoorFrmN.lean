/-
  CONTRACT of the laws' SameFrame: do two of them read the same? Conditions: the slices read as lists no longer than memory lets them be.
-/
import Derived.Test.YtnjjeanbopclhaaGreatDoorFrmB
import Derived.Test.YtnjjeanbopclhaaGreatDoorSame
namespace Go.Proofs.YtnjjeanbopclhaaGreatDoor
open Go.RowKit

/-- Do two frames read the same? -/
def sameFV (f g : FV) : Bool := decide (f.ask = g.ask) && decide (f.who = g.who) && decide (f.seq = g.seq) && decide (f.tok = g.tok) && decide (f.sec = g.sec) && decide (f.bid = g.bid)
theorem sameFV_self (f : FV) : sameFV f f = true := by unfold sameFV; simp
theorem sameFV_iff (f g : FV) : sameFV f g = true ↔ f = g := by
  unfold sameFV
  cases f
  cases g
  simp [and_assoc]
theorem nat_beq (a b : Nat) : ((a : Int) == (b : Int)) = decide (a = b) := by
  by_cases h : a = b
  · simp [h]
  · rw [decide_eq_false h]
    exact beq_false_of_ne (by omega)
set_option maxRecDepth 100000 in
set_option maxHeartbeats 16000000 in
theorem sameF_raw (w : World) (B0 B1 B2 B3 B4 B5 : Bool) (x0 y0 : Int) (x1 y1 : Int) (x2 y2 : Int) (x3 y3 : Int) (xa4 ya4 : Option Addr) (xn4 xc4 yn4 yc4 : Nat) (xa5 ya5 : Option Addr) (xn5 xc5 yn5 yc5 : Nat) (h0 : (x0 == y0) = B0) (h1 : (x1 == y1) = B1) (h2 : (x2 == y2) = B2) (h3 : (x3 == y3) = B3) (h4 : ∀ w', Keep w w' → Calls Tryz.prog 15 #[.slice xa4 xn4 xc4, .slice ya4 yn4 yc4] w' fun e w'' => e = .returned (.bool B4) ∧ Keep w' w'') (h5 : ∀ w', Keep w w' → Calls Tryz.prog 78 #[.slice xa5 xn5 xc5, .slice ya5 yn5 yc5] w' fun e w'' => e = .returned (.bool B5) ∧ Keep w' w'') :
    Calls Tryz.prog 24 #[.agg #[.int .u8 x0, .int .u8 x1, .int .u32 x2, .int .u64 x3, .slice xa4 xn4 xc4, .slice xa5 xn5 xc5], .agg #[.int .u8 y0, .int .u8 y1, .int .u32 y2, .int .u64 y3, .slice ya4 yn4 yc4, .slice ya5 yn5 yc5]] w fun e w' => e = .returned (.bool (B0 && B1 && B2 && B3 && B4 && B5)) ∧ Keep w w' := by
  have kb : Keep w ((w.alloc (.cells #[.int .u8 x0, .int .u8 x1, .int .u32 x2, .int .u64 x3, .slice xa4 xn4 xc4, .slice xa5 xn5 xc5] 28)).alloc (.cells #[.int .u8 y0, .int .u8 y1, .int .u32 y2, .int .u64 y3, .slice ya4 yn4 yc4, .slice ya5 yn5 yc5] 28)) := (Keep.alloc1 _ _).trans (Keep.alloc1 _ _)
  obtain ⟨w0, hw0⟩ : ∃ w0, w0 = (w.alloc (.cells #[.int .u8 x0, .int .u8 x1, .int .u32 x2, .int .u64 x3, .slice xa4 xn4 xc4, .slice xa5 xn5 xc5] 28)).alloc (.cells #[.int .u8 y0, .int .u8 y1, .int .u32 y2, .int .u64 y3, .slice ya4 yn4 yc4, .slice ya5 yn5 yc5] 28) := ⟨_, rfl⟩
  have bX : Blk w0 w.heap.size 28 [.int .u8 x0, .int .u8 x1, .int .u32 x2, .int .u64 x3, .slice xa4 xn4 xc4, .slice xa5 xn5 xc5] := hw0 ▸ (Blk.new w 28 [.int .u8 x0, .int .u8 x1, .int .u32 x2, .int .u64 x3, .slice xa4 xn4 xc4, .slice xa5 xn5 xc5]).keep (Keep.alloc1 _ _)
  have bY : Blk w0 (w.heap.size + 1) 28 [.int .u8 y0, .int .u8 y1, .int .u32 y2, .int .u64 y3, .slice ya4 yn4 yc4, .slice ya5 yn5 yc5] := by
    have h := Blk.new (w.alloc (.cells #[.int .u8 x0, .int .u8 x1, .int .u32 x2, .int .u64 x3, .slice xa4 xn4 xc4, .slice xa5 xn5 xc5] 28)) 28 [.int .u8 y0, .int .u8 y1, .int .u32 y2, .int .u64 y3, .slice ya4 yn4 yc4, .slice ya5 yn5 yc5]
    rw [show (w.alloc (.cells #[.int .u8 x0, .int .u8 x1, .int .u32 x2, .int .u64 x3, .slice xa4 xn4 xc4, .slice xa5 xn5 xc5] 28)).heap.size = w.heap.size + 1 by simp] at h
    exact hw0 ▸ h
  rw [← hw0] at kb
  have HW := Lib.hid hw0
  clear hw0
  have p0 := bX.cell_ (i := 0) rfl
  have q0 := bY.cell_ (i := 0) rfl
  have p1 := bX.cell_ (i := 1) rfl
  have q1 := bY.cell_ (i := 1) rfl
  have p2 := bX.cell_ (i := 2) rfl
  have q2 := bY.cell_ (i := 2) rfl
  have p3 := bX.cell_ (i := 3) rfl
  have q3 := bY.cell_ (i := 3) rfl
  have p4 := bX.cell_ (i := 4) rfl
  have q4 := bY.cell_ (i := 4) rfl
  have p5 := bX.cell_ (i := 5) rfl
  have q5 := bY.cell_ (i := 5) rfl
  cases B0 with
  | false =>
    go_enter Tryz.func24, Tryz.ntmps24
    go_upto_region 1 with fail
    rw [← HW.out]
    go_wp2_with fail
    go_ret
    exact ⟨by first | rfl | (simp; done), kb⟩
  | true =>
    cases B1 with
    | false =>
      go_enter Tryz.func24, Tryz.ntmps24
      go_upto_region 1 with fail
      rw [← HW.out]
      go_wp2_with fail
      go_ret
      exact ⟨by first | rfl | (simp; done), kb⟩
    | true =>
      cases B2 with
      | false =>
        go_enter Tryz.func24, Tryz.ntmps24
        go_upto_region 1 with fail
        rw [← HW.out]
        go_wp2_with fail
        go_ret
        exact ⟨by first | rfl | (simp; done), kb⟩
      | true =>
        cases B3 with
        | false =>
          go_enter Tryz.func24, Tryz.ntmps24
          go_upto_region 1 with fail
          rw [← HW.out]
          go_wp2_with fail
          go_ret
          exact ⟨by first | rfl | (simp; done), kb⟩
        | true =>
          cases B4 with
          | false =>
            go_enter Tryz.func24, Tryz.ntmps24
            go_upto_region 1 with fail
            rw [← HW.out]
            go_wp2_with fail
            refine (h4 w0 kb).mono ?_
            rintro e v0 ⟨rfl, k0⟩
            have p5_0 := (bX.keep k0).cell_ (i := 5) rfl
            have q5_0 := (bY.keep k0).cell_ (i := 5) rfl
            go_wp2_with fail
            go_ret
            exact ⟨by first | rfl | (simp; done), (kb.trans k0)⟩
          | true =>
            cases B5 with
            | false =>
              go_enter Tryz.func24, Tryz.ntmps24
              go_upto_region 1 with fail
              rw [← HW.out]
              go_wp2_with fail
              refine (h4 w0 kb).mono ?_
              rintro e v0 ⟨rfl, k0⟩
              have p5_0 := (bX.keep k0).cell_ (i := 5) rfl
              have q5_0 := (bY.keep k0).cell_ (i := 5) rfl
              go_wp2_with fail
              refine (h5 v0 (kb.trans k0)).mono ?_
              rintro e v1 ⟨rfl, k1⟩
              go_wp2_with fail
              go_ret
              exact ⟨by first | rfl | (simp; done), ((kb.trans k0).trans k1)⟩
            | true =>
              go_enter Tryz.func24, Tryz.ntmps24
              go_upto_region 1 with fail
              rw [← HW.out]
              go_wp2_with fail
              refine (h4 w0 kb).mono ?_
              rintro e v0 ⟨rfl, k0⟩
              have p5_0 := (bX.keep k0).cell_ (i := 5) rfl
              have q5_0 := (bY.keep k0).cell_ (i := 5) rfl
              go_wp2_with fail
              refine (h5 v0 (kb.trans k0)).mono ?_
              rintro e v1 ⟨rfl, k1⟩
              go_wp2_with fail
              go_ret
              exact ⟨by first | rfl | (simp; done), ((kb.trans k0).trans k1)⟩
/-- SameFrame -/
theorem sameFrame_f (f g : Frm) (w : World) (hf : f.Ok w) (hg : g.Ok w) (f1 : Reach f.v.sec.length) (f2 : Reach f.v.bid.length) (g1 : Reach g.v.sec.length) (g2 : Reach g.v.bid.length) :
    Calls Tryz.prog 24 #[f.val, g.val] w fun e w' => e = .returned (.bool (sameFV f.v g.v)) ∧ Keep w w' :=
  sameF_raw w _ _ _ _ _ _ _ _ _ _ _ _ _ _ _ _ _ _ _ _ _ _ _ _ _ _ (nat_beq _ _) (nat_beq _ _) (nat_beq _ _) (nat_beq _ _)
    (fun _ k => saysK (sameBytes _ _ _ _ _ _ _ (hf.keep k).s.rd (hg.keep k).s.rd f1 g1)) (fun _ k => saysK (sameInts _ _ _ _ _ _ _ (hf.keep k).b.rd (hg.keep k).b.rd f2 g2))
end Go.Proofs.YtnjjeanbopclhaaGreatDoor
