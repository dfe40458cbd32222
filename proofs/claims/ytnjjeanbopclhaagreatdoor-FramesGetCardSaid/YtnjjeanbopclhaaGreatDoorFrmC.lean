/-
  CONTRACTS for the package frames: mayReply. Conditions: the slices of the reply read as lists.
-/
import Derived.Test.YtnjjeanbopclhaaGreatDoorFrmA
import Derived.Test.YtnjjeanbopclhaaGreatDoorOpenC
import Derived.Test.YtnjjeanbopclhaaGreatDoorBlk
namespace Go.Proofs.YtnjjeanbopclhaaGreatDoor
open Go.RowKit

/-- A reply: its values, its slices' places. -/
structure Rpl where
  v : RV
  ba : Option Addr
  bc : Nat
  ca : Option Addr
  cc : Nat
def Rpl.cells (r : Rpl) : List Value := [.int .i64 r.v.e, .int .u32 r.v.seq, .int .u64 r.v.tok, .int .u8 r.v.ph, .int .u64 r.v.tm, .bool r.v.has, .slice r.ba r.v.bid.length r.bc, .int .i64 r.v.item, .int .i64 r.v.pays, .slice r.ca r.v.cert.length r.cc]
def Rpl.val (r : Rpl) : Value := .agg #[.int .i64 r.v.e, .int .u32 r.v.seq, .int .u64 r.v.tok, .int .u8 r.v.ph, .int .u64 r.v.tm, .bool r.v.has, .slice r.ba r.v.bid.length r.bc, .int .i64 r.v.item, .int .i64 r.v.pays, .slice r.ca r.v.cert.length r.cc]
structure Rpl.Ok (r : Rpl) (w : World) : Prop where
  b : Sl.Ok .i64 w ⟨r.ba, r.bc, r.v.bid⟩
  c : Sl.Ok .u8 w ⟨r.ca, r.cc, r.v.cert⟩
  e : (Lit.int .i64 r.v.e).wf = true
  seq : r.v.seq < 4294967296
  tok : r.v.tok < 18446744073709551616
  ph : r.v.ph < 256
  tm : r.v.tm < 18446744073709551616
  item : (Lit.int .i64 r.v.item).wf = true
  pays : (Lit.int .i64 r.v.pays).wf = true
theorem Rpl.Ok.keep {r : Rpl} {w w' : World} (h : r.Ok w) (k : Keep w w') : r.Ok w' := ⟨h.b.keep k, h.c.keep k, h.e, h.seq, h.tok, h.ph, h.tm, h.item, h.pays⟩
theorem nn_le {a : Nat} {b : Int} (n : Nat) (h : b = n) : decide ((a : Int) ≤ b) = decide (a ≤ n) := by subst h; exact decide_eq_decide.2 Int.ofNat_le

set_option maxRecDepth 100000 in
set_option maxHeartbeats 8000000 in
/-- frames.mayReply -/
theorem mayR21_f (r : Rpl) (w : World) (hr : r.Ok w) :
    Calls Tryz.prog 37 #[r.val] w fun e w' => e = .returned (.bool (mayR r.v)) ∧ Keep w w' := by
  have lb := hr.b.len.le
  have lc := hr.c.len.le
  have bF := Blk.new w 32 r.cells
  have kk : Keep w (w.alloc (.cells #[.int .i64 r.v.e, .int .u32 r.v.seq, .int .u64 r.v.tok, .int .u8 r.v.ph, .int .u64 r.v.tm, .bool r.v.has, .slice r.ba r.v.bid.length r.bc, .int .i64 r.v.item, .int .i64 r.v.pays, .slice r.ca r.v.cert.length r.cc] 32)) := Keep.alloc1 _ _
  have hb := fun w1 (k1 : Keep w w1) => fbid_f r.ba r.bc r.v.bid w1 (hr.b.keep k1).rd hr.b.len
  obtain ⟨⟨e, seq, tok, ph, tm, has, bid, item, pays, cert⟩, ba, bc, ca, cc⟩ := r
  obtain ⟨M, hm⟩ : ∃ M, M = mayR ⟨e, seq, tok, ph, tm, has, bid, item, pays, cert⟩ := ⟨_, rfl⟩
  unfold Rpl.cells at bF
  unfold Rpl.val
  simp only at lb lc hb bF kk ⊢
  rw [← hm]
  unfold mayR at hm
  simp only at hm
  clear hr
  have p0' : decide ((ph : Int) ≤ 3) = decide (ph ≤ 3) := by first | exact nn_le _ rfl | (by_cases h : bid.length = 0 <;> simp [h])
  have t0' : decide ((tm : Int) ≤ 1099511627776) = decide (tm ≤ 1099511627776) := by first | exact nn_le _ rfl | (by_cases h : bid.length = 0 <;> simp [h])
  have c0' : decide ((cert.length : Int) ≤ 1024) = decide (cert.length ≤ 1024) := by first | exact nn_le _ rfl | (by_cases h : bid.length = 0 <;> simp [h])
  have b0' : ((bid.length : Int) == 0) = decide (bid.length = 0) := by first | exact nn_le _ rfl | (by_cases h : bid.length = 0 <;> simp [h])
  generalize e0 : decide (0 ≤ e) = Be0 at hm
  generalize e1 : decide (e ≤ 12) = Be1 at hm
  generalize p0 : decide (ph ≤ 3) = Bp0 at hm p0'
  generalize t0 : decide (tm ≤ 1099511627776) = Bt0 at hm t0'
  generalize i0 : decide (-1 ≤ item) = Bi0 at hm
  generalize i1 : decide (item < 8) = Bi1 at hm
  generalize y0 : decide (0 ≤ pays) = By0 at hm
  generalize y1 : decide (pays ≤ 2000000) = By1 at hm
  generalize c0 : decide (cert.length ≤ 1024) = Bc0 at hm c0'
  generalize b0 : decide (bid.length = 0) = Bb0 at hm b0'
  cases Be0 with
  | false =>
    have hM : M = false := by rw [hm]; simp
    rw [hM] at hm ⊢
    clear hm
    have hm := hM
    have HB := Lib.hid hm
    clear hm
    go_enter Tryz.func37, Tryz.ntmps37
    simp only [List.append_eq, List.cons_append, List.nil_append]
    go_wp2_with fail
    go_ret
    first | exact ⟨rfl, kk⟩ | exact ⟨by rw [HB.out]; rfl, kk⟩
  | true =>
    cases Be1 with
    | false =>
      have hM : M = false := by rw [hm]; simp
      rw [hM] at hm ⊢
      clear hm
      have hm := hM
      have HB := Lib.hid hm
      clear hm
      go_enter Tryz.func37, Tryz.ntmps37
      simp only [List.append_eq, List.cons_append, List.nil_append]
      go_wp2_with fail
      go_ret
      first | exact ⟨rfl, kk⟩ | exact ⟨by rw [HB.out]; rfl, kk⟩
    | true =>
      cases Bp0 with
      | false =>
        have hM : M = false := by rw [hm]; simp
        rw [hM] at hm ⊢
        clear hm
        have hm := hM
        have HB := Lib.hid hm
        clear hm
        go_enter Tryz.func37, Tryz.ntmps37
        simp only [List.append_eq, List.cons_append, List.nil_append]
        go_wp2_with fail
        go_ret
        first | exact ⟨rfl, kk⟩ | exact ⟨by rw [HB.out]; rfl, kk⟩
      | true =>
        cases Bt0 with
        | false =>
          have hM : M = false := by rw [hm]; simp
          rw [hM] at hm ⊢
          clear hm
          have hm := hM
          have HB := Lib.hid hm
          clear hm
          go_enter Tryz.func37, Tryz.ntmps37
          simp only [List.append_eq, List.cons_append, List.nil_append]
          go_wp2_with fail
          go_ret
          first | exact ⟨rfl, kk⟩ | exact ⟨by rw [HB.out]; rfl, kk⟩
        | true =>
          cases Bi0 with
          | false =>
            have hM : M = false := by rw [hm]; simp
            rw [hM] at hm ⊢
            clear hm
            have hm := hM
            have HB := Lib.hid hm
            clear hm
            go_enter Tryz.func37, Tryz.ntmps37
            simp only [List.append_eq, List.cons_append, List.nil_append]
            go_wp2_with fail
            go_ret
            first | exact ⟨rfl, kk⟩ | exact ⟨by rw [HB.out]; rfl, kk⟩
          | true =>
            cases Bi1 with
            | false =>
              have hM : M = false := by rw [hm]; simp
              rw [hM] at hm ⊢
              clear hm
              have hm := hM
              have HB := Lib.hid hm
              clear hm
              go_enter Tryz.func37, Tryz.ntmps37
              simp only [List.append_eq, List.cons_append, List.nil_append]
              go_wp2_with fail
              go_ret
              first | exact ⟨rfl, kk⟩ | exact ⟨by rw [HB.out]; rfl, kk⟩
            | true =>
              cases By0 with
              | false =>
                have hM : M = false := by rw [hm]; simp
                rw [hM] at hm ⊢
                clear hm
                have hm := hM
                have HB := Lib.hid hm
                clear hm
                go_enter Tryz.func37, Tryz.ntmps37
                simp only [List.append_eq, List.cons_append, List.nil_append]
                go_wp2_with fail
                go_ret
                first | exact ⟨rfl, kk⟩ | exact ⟨by rw [HB.out]; rfl, kk⟩
              | true =>
                cases By1 with
                | false =>
                  have hM : M = false := by rw [hm]; simp
                  rw [hM] at hm ⊢
                  clear hm
                  have hm := hM
                  have HB := Lib.hid hm
                  clear hm
                  go_enter Tryz.func37, Tryz.ntmps37
                  simp only [List.append_eq, List.cons_append, List.nil_append]
                  go_wp2_with fail
                  go_ret
                  first | exact ⟨rfl, kk⟩ | exact ⟨by rw [HB.out]; rfl, kk⟩
                | true =>
                  cases Bc0 with
                  | false =>
                    have hM : M = false := by rw [hm]; simp
                    rw [hM] at hm ⊢
                    clear hm
                    have hm := hM
                    have HB := Lib.hid hm
                    clear hm
                    go_enter Tryz.func37, Tryz.ntmps37
                    simp only [List.append_eq, List.cons_append, List.nil_append]
                    go_wp2_with fail
                    go_ret
                    first | exact ⟨rfl, kk⟩ | exact ⟨by rw [HB.out]; rfl, kk⟩
                  | true =>
                    simp only [Bool.true_and] at hm
                    cases has with
                    | true =>
                      rw [if_pos rfl] at hm
                      cases hbo : bidOk bid with
                      | false =>
                        rw [hbo] at hm hb
                        clear hbo
                        have HB := Lib.hid hm
                        clear hm
                        go_enter Tryz.func37, Tryz.ntmps37
                        simp only [List.append_eq, List.cons_append, List.nil_append]
                        go_wp2_with fail
                        refine (hb _ kk).mono ?_
                        rintro e1 w20 ⟨rfl, k20⟩
                        have g5 := (bF.keep k20).cell_ (i := 5) rfl
                        go_wp2_with fail
                        go_ret
                        exact ⟨by rw [HB.out]; rfl, kk.trans k20⟩
                      | true =>
                        rw [hbo] at hm hb
                        clear hbo
                        have HB := Lib.hid hm
                        clear hm
                        go_enter Tryz.func37, Tryz.ntmps37
                        simp only [List.append_eq, List.cons_append, List.nil_append]
                        go_wp2_with fail
                        refine (hb _ kk).mono ?_
                        rintro e1 w20 ⟨rfl, k20⟩
                        have g5 := (bF.keep k20).cell_ (i := 5) rfl
                        go_wp2_with fail
                        go_ret
                        exact ⟨by rw [HB.out]; rfl, kk.trans k20⟩
                    | false =>
                      rw [if_neg (by decide)] at hm
                      have HB := Lib.hid hm
                      clear hm
                      go_enter Tryz.func37, Tryz.ntmps37
                      simp only [List.append_eq, List.cons_append, List.nil_append]
                      go_wp2_with fail
                      go_ret
                      first | exact ⟨rfl, kk⟩ | exact ⟨by rw [HB.out]; rfl, kk⟩
end Go.Proofs.YtnjjeanbopclhaaGreatDoor
