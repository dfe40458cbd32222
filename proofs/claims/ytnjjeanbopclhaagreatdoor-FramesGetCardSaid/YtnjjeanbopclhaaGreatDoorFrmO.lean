/-
  CONTRACT of the laws' SameReply: do two of them read the same? Conditions: the slices read as lists no longer than memory lets them be.
-/
import Derived.Test.YtnjjeanbopclhaaGreatDoorFrmC
import Derived.Test.YtnjjeanbopclhaaGreatDoorFrmN
namespace Go.Proofs.YtnjjeanbopclhaaGreatDoor
open Go.RowKit

/-- Do two replies read the same? -/
def sameRV (r s : RV) : Bool := decide (r.e = s.e) && decide (r.seq = s.seq) && decide (r.tok = s.tok) && decide (r.ph = s.ph) && decide (r.tm = s.tm) && (r.has == s.has) && decide (r.bid = s.bid) && decide (r.item = s.item) && decide (r.pays = s.pays) && decide (r.cert = s.cert)
theorem sameRV_self (r : RV) : sameRV r r = true := by unfold sameRV; simp
theorem sameRV_iff (r s : RV) : sameRV r s = true ↔ r = s := by
  unfold sameRV
  cases r
  cases s
  simp [and_assoc]
theorem int_beq (a b : Int) : (a == b) = decide (a = b) := by
  by_cases h : a = b
  · simp [h]
  · simp [h]
set_option maxRecDepth 100000 in
set_option maxHeartbeats 16000000 in
theorem sameR_raw (w : World) (B0 B1 B2 B3 B4 B5 B6 B7 B8 B9 : Bool) (x0 y0 : Int) (x1 y1 : Int) (x2 y2 : Int) (x3 y3 : Int) (x4 y4 : Int) (x5 y5 : Bool) (xa6 ya6 : Option Addr) (xn6 xc6 yn6 yc6 : Nat) (x7 y7 : Int) (x8 y8 : Int) (xa9 ya9 : Option Addr) (xn9 xc9 yn9 yc9 : Nat) (h0 : (x0 == y0) = B0) (h1 : (x1 == y1) = B1) (h2 : (x2 == y2) = B2) (h3 : (x3 == y3) = B3) (h4 : (x4 == y4) = B4) (h5 : (x5 == y5) = B5) (h6 : ∀ w', Keep w w' → Calls Tryz.prog 78 #[.slice xa6 xn6 xc6, .slice ya6 yn6 yc6] w' fun e w'' => e = .returned (.bool B6) ∧ Keep w' w'') (h7 : (x7 == y7) = B7) (h8 : (x8 == y8) = B8) (h9 : ∀ w', Keep w w' → Calls Tryz.prog 15 #[.slice xa9 xn9 xc9, .slice ya9 yn9 yc9] w' fun e w'' => e = .returned (.bool B9) ∧ Keep w' w'') :
    Calls Tryz.prog 25 #[.agg #[.int .i64 x0, .int .u32 x1, .int .u64 x2, .int .u8 x3, .int .u64 x4, .bool x5, .slice xa6 xn6 xc6, .int .i64 x7, .int .i64 x8, .slice xa9 xn9 xc9], .agg #[.int .i64 y0, .int .u32 y1, .int .u64 y2, .int .u8 y3, .int .u64 y4, .bool y5, .slice ya6 yn6 yc6, .int .i64 y7, .int .i64 y8, .slice ya9 yn9 yc9]] w fun e w' => e = .returned (.bool (B0 && B1 && B2 && B3 && B4 && B5 && B6 && B7 && B8 && B9)) ∧ Keep w w' := by
  have kb : Keep w ((w.alloc (.cells #[.int .i64 x0, .int .u32 x1, .int .u64 x2, .int .u8 x3, .int .u64 x4, .bool x5, .slice xa6 xn6 xc6, .int .i64 x7, .int .i64 x8, .slice xa9 xn9 xc9] 32)).alloc (.cells #[.int .i64 y0, .int .u32 y1, .int .u64 y2, .int .u8 y3, .int .u64 y4, .bool y5, .slice ya6 yn6 yc6, .int .i64 y7, .int .i64 y8, .slice ya9 yn9 yc9] 32)) := (Keep.alloc1 _ _).trans (Keep.alloc1 _ _)
  obtain ⟨w0, hw0⟩ : ∃ w0, w0 = (w.alloc (.cells #[.int .i64 x0, .int .u32 x1, .int .u64 x2, .int .u8 x3, .int .u64 x4, .bool x5, .slice xa6 xn6 xc6, .int .i64 x7, .int .i64 x8, .slice xa9 xn9 xc9] 32)).alloc (.cells #[.int .i64 y0, .int .u32 y1, .int .u64 y2, .int .u8 y3, .int .u64 y4, .bool y5, .slice ya6 yn6 yc6, .int .i64 y7, .int .i64 y8, .slice ya9 yn9 yc9] 32) := ⟨_, rfl⟩
  have bX : Blk w0 w.heap.size 32 [.int .i64 x0, .int .u32 x1, .int .u64 x2, .int .u8 x3, .int .u64 x4, .bool x5, .slice xa6 xn6 xc6, .int .i64 x7, .int .i64 x8, .slice xa9 xn9 xc9] := hw0 ▸ (Blk.new w 32 [.int .i64 x0, .int .u32 x1, .int .u64 x2, .int .u8 x3, .int .u64 x4, .bool x5, .slice xa6 xn6 xc6, .int .i64 x7, .int .i64 x8, .slice xa9 xn9 xc9]).keep (Keep.alloc1 _ _)
  have bY : Blk w0 (w.heap.size + 1) 32 [.int .i64 y0, .int .u32 y1, .int .u64 y2, .int .u8 y3, .int .u64 y4, .bool y5, .slice ya6 yn6 yc6, .int .i64 y7, .int .i64 y8, .slice ya9 yn9 yc9] := by
    have h := Blk.new (w.alloc (.cells #[.int .i64 x0, .int .u32 x1, .int .u64 x2, .int .u8 x3, .int .u64 x4, .bool x5, .slice xa6 xn6 xc6, .int .i64 x7, .int .i64 x8, .slice xa9 xn9 xc9] 32)) 32 [.int .i64 y0, .int .u32 y1, .int .u64 y2, .int .u8 y3, .int .u64 y4, .bool y5, .slice ya6 yn6 yc6, .int .i64 y7, .int .i64 y8, .slice ya9 yn9 yc9]
    rw [show (w.alloc (.cells #[.int .i64 x0, .int .u32 x1, .int .u64 x2, .int .u8 x3, .int .u64 x4, .bool x5, .slice xa6 xn6 xc6, .int .i64 x7, .int .i64 x8, .slice xa9 xn9 xc9] 32)).heap.size = w.heap.size + 1 by simp] at h
    exact hw0 ▸ h
  rw [← hw0] at kb
  have HW := Lib.hid hw0
  clear hw0
  have p0 := bX.cell_ (i := 0) rfl
  have q0 := bY.cell_ (i := 0) rfl
  have p1 := bX.cell_ (i := 1) rfl
  have q1 := bY.cell_ (i := 1) rfl
  have p2 := bX.cell_ (i := 2) rfl
  have q2 := bY.cell_ (i := 2) rfl
  have p3 := bX.cell_ (i := 3) rfl
  have q3 := bY.cell_ (i := 3) rfl
  have p4 := bX.cell_ (i := 4) rfl
  have q4 := bY.cell_ (i := 4) rfl
  have p5 := bX.cell_ (i := 5) rfl
  have q5 := bY.cell_ (i := 5) rfl
  have p6 := bX.cell_ (i := 6) rfl
  have q6 := bY.cell_ (i := 6) rfl
  have p7 := bX.cell_ (i := 7) rfl
  have q7 := bY.cell_ (i := 7) rfl
  have p8 := bX.cell_ (i := 8) rfl
  have q8 := bY.cell_ (i := 8) rfl
  have p9 := bX.cell_ (i := 9) rfl
  have q9 := bY.cell_ (i := 9) rfl
  cases B0 with
  | false =>
    go_enter Tryz.func25, Tryz.ntmps25
    skip
    simp only [List.append_eq, List.cons_append, List.nil_append]
    go_wp2_with fail
    go_ret
    rw [← HW.out]
    exact ⟨by first | rfl | (simp; done), kb⟩
  | true =>
    cases B1 with
    | false =>
      go_enter Tryz.func25, Tryz.ntmps25
      skip
      simp only [List.append_eq, List.cons_append, List.nil_append]
      go_wp2_with fail
      go_ret
      rw [← HW.out]
      exact ⟨by first | rfl | (simp; done), kb⟩
    | true =>
      cases B2 with
      | false =>
        go_enter Tryz.func25, Tryz.ntmps25
        skip
        simp only [List.append_eq, List.cons_append, List.nil_append]
        go_wp2_with fail
        go_ret
        rw [← HW.out]
        exact ⟨by first | rfl | (simp; done), kb⟩
      | true =>
        cases B3 with
        | false =>
          go_enter Tryz.func25, Tryz.ntmps25
          skip
          simp only [List.append_eq, List.cons_append, List.nil_append]
          go_wp2_with fail
          go_ret
          rw [← HW.out]
          exact ⟨by first | rfl | (simp; done), kb⟩
        | true =>
          cases B4 with
          | false =>
            go_enter Tryz.func25, Tryz.ntmps25
            skip
            simp only [List.append_eq, List.cons_append, List.nil_append]
            go_wp2_with fail
            go_ret
            rw [← HW.out]
            exact ⟨by first | rfl | (simp; done), kb⟩
          | true =>
            cases B5 with
            | false =>
              go_enter Tryz.func25, Tryz.ntmps25
              skip
              simp only [List.append_eq, List.cons_append, List.nil_append]
              go_wp2_with fail
              go_ret
              rw [← HW.out]
              exact ⟨by first | rfl | (simp; done), kb⟩
            | true =>
              cases B6 with
              | false =>
                go_enter Tryz.func25, Tryz.ntmps25
                skip
                simp only [List.append_eq, List.cons_append, List.nil_append]
                go_wp2_with fail
                rw [← HW.out]
                refine (h6 w0 kb).mono ?_
                rintro e v0 ⟨rfl, k0⟩
                have p7_0 := (bX.keep k0).cell_ (i := 7) rfl
                have q7_0 := (bY.keep k0).cell_ (i := 7) rfl
                have p8_0 := (bX.keep k0).cell_ (i := 8) rfl
                have q8_0 := (bY.keep k0).cell_ (i := 8) rfl
                have p9_0 := (bX.keep k0).cell_ (i := 9) rfl
                have q9_0 := (bY.keep k0).cell_ (i := 9) rfl
                go_wp2_with fail
                go_ret
                exact ⟨by first | rfl | (simp; done), (kb.trans k0)⟩
              | true =>
                cases B7 with
                | false =>
                  go_enter Tryz.func25, Tryz.ntmps25
                  skip
                  simp only [List.append_eq, List.cons_append, List.nil_append]
                  go_wp2_with fail
                  rw [← HW.out]
                  refine (h6 w0 kb).mono ?_
                  rintro e v0 ⟨rfl, k0⟩
                  have p7_0 := (bX.keep k0).cell_ (i := 7) rfl
                  have q7_0 := (bY.keep k0).cell_ (i := 7) rfl
                  have p8_0 := (bX.keep k0).cell_ (i := 8) rfl
                  have q8_0 := (bY.keep k0).cell_ (i := 8) rfl
                  have p9_0 := (bX.keep k0).cell_ (i := 9) rfl
                  have q9_0 := (bY.keep k0).cell_ (i := 9) rfl
                  go_wp2_with fail
                  go_ret
                  exact ⟨by first | rfl | (simp; done), (kb.trans k0)⟩
                | true =>
                  cases B8 with
                  | false =>
                    go_enter Tryz.func25, Tryz.ntmps25
                    skip
                    simp only [List.append_eq, List.cons_append, List.nil_append]
                    go_wp2_with fail
                    rw [← HW.out]
                    refine (h6 w0 kb).mono ?_
                    rintro e v0 ⟨rfl, k0⟩
                    have p7_0 := (bX.keep k0).cell_ (i := 7) rfl
                    have q7_0 := (bY.keep k0).cell_ (i := 7) rfl
                    have p8_0 := (bX.keep k0).cell_ (i := 8) rfl
                    have q8_0 := (bY.keep k0).cell_ (i := 8) rfl
                    have p9_0 := (bX.keep k0).cell_ (i := 9) rfl
                    have q9_0 := (bY.keep k0).cell_ (i := 9) rfl
                    go_wp2_with fail
                    go_ret
                    exact ⟨by first | rfl | (simp; done), (kb.trans k0)⟩
                  | true =>
                    cases B9 with
                    | false =>
                      go_enter Tryz.func25, Tryz.ntmps25
                      skip
                      simp only [List.append_eq, List.cons_append, List.nil_append]
                      go_wp2_with fail
                      rw [← HW.out]
                      refine (h6 w0 kb).mono ?_
                      rintro e v0 ⟨rfl, k0⟩
                      have p7_0 := (bX.keep k0).cell_ (i := 7) rfl
                      have q7_0 := (bY.keep k0).cell_ (i := 7) rfl
                      have p8_0 := (bX.keep k0).cell_ (i := 8) rfl
                      have q8_0 := (bY.keep k0).cell_ (i := 8) rfl
                      have p9_0 := (bX.keep k0).cell_ (i := 9) rfl
                      have q9_0 := (bY.keep k0).cell_ (i := 9) rfl
                      go_wp2_with fail
                      refine (h9 v0 (kb.trans k0)).mono ?_
                      rintro e v1 ⟨rfl, k1⟩
                      go_wp2_with fail
                      go_ret
                      exact ⟨by first | rfl | (simp; done), ((kb.trans k0).trans k1)⟩
                    | true =>
                      go_enter Tryz.func25, Tryz.ntmps25
                      skip
                      simp only [List.append_eq, List.cons_append, List.nil_append]
                      go_wp2_with fail
                      rw [← HW.out]
                      refine (h6 w0 kb).mono ?_
                      rintro e v0 ⟨rfl, k0⟩
                      have p7_0 := (bX.keep k0).cell_ (i := 7) rfl
                      have q7_0 := (bY.keep k0).cell_ (i := 7) rfl
                      have p8_0 := (bX.keep k0).cell_ (i := 8) rfl
                      have q8_0 := (bY.keep k0).cell_ (i := 8) rfl
                      have p9_0 := (bX.keep k0).cell_ (i := 9) rfl
                      have q9_0 := (bY.keep k0).cell_ (i := 9) rfl
                      go_wp2_with fail
                      refine (h9 v0 (kb.trans k0)).mono ?_
                      rintro e v1 ⟨rfl, k1⟩
                      go_wp2_with fail
                      go_ret
                      exact ⟨by first | rfl | (simp; done), ((kb.trans k0).trans k1)⟩
/-- SameReply -/
theorem sameReply_f (r s : Rpl) (w : World) (hr : r.Ok w) (hs : s.Ok w) (r1 : Reach r.v.bid.length) (r2 : Reach r.v.cert.length) (s1 : Reach s.v.bid.length) (s2 : Reach s.v.cert.length) :
    Calls Tryz.prog 25 #[r.val, s.val] w fun e w' => e = .returned (.bool (sameRV r.v s.v)) ∧ Keep w w' :=
  sameR_raw w _ _ _ _ _ _ _ _ _ _ _ _ _ _ _ _ _ _ _ _ _ _ _ _ _ _ _ _ _ _ _ _ _ _ _ _ _ _ (int_beq _ _) (nat_beq _ _) (nat_beq _ _) (nat_beq _ _) (nat_beq _ _) rfl
    (fun _ k => saysK (sameInts _ _ _ _ _ _ _ (hr.keep k).b.rd (hs.keep k).b.rd r1 s1)) (int_beq _ _) (int_beq _ _) (fun _ k => saysK (sameBytes _ _ _ _ _ _ _ (hr.keep k).c.rd (hs.keep k).c.rd r2 s2))
end Go.Proofs.YtnjjeanbopclhaaGreatDoor
