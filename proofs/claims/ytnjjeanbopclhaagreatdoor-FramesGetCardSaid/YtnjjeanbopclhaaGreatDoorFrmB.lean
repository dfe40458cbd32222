/-
  CONTRACTS for the package frames: may. Conditions: the slices of the frame read as lists; the list of parts reads as the program's text lays it.
-/
import Derived.Test.YtnjjeanbopclhaaGreatDoorFrmA
import Derived.Test.YtnjjeanbopclhaaGreatDoorOpenC
import Derived.Test.YtnjjeanbopclhaaGreatDoorBlk
namespace Go.Proofs.YtnjjeanbopclhaaGreatDoor
open Go.RowKit

/-- A frame: its values, its slices' places. -/
structure Frm where
  v : FV
  sa : Option Addr
  sc : Nat
  ba : Option Addr
  bc : Nat
def Frm.cells (f : Frm) : List Value := [.int .u8 f.v.ask, .int .u8 f.v.who, .int .u32 f.v.seq, .int .u64 f.v.tok, .slice f.sa f.v.sec.length f.sc, .slice f.ba f.v.bid.length f.bc]
def Frm.val (f : Frm) : Value := .agg #[.int .u8 f.v.ask, .int .u8 f.v.who, .int .u32 f.v.seq, .int .u64 f.v.tok, .slice f.sa f.v.sec.length f.sc, .slice f.ba f.v.bid.length f.bc]
structure Frm.Ok (f : Frm) (w : World) : Prop where
  s : Sl.Ok .u8 w ⟨f.sa, f.sc, f.v.sec⟩
  b : Sl.Ok .i64 w ⟨f.ba, f.bc, f.v.bid⟩
  ask : f.v.ask < 256
  who : f.v.who < 256
  seq : f.v.seq < 4294967296
  tok : f.v.tok < 18446744073709551616
theorem Frm.Ok.keep {f : Frm} {w w' : World} (h : f.Ok w) (k : Keep w w') : f.Ok w' := ⟨h.s.keep k, h.b.keep k, h.ask, h.who, h.seq, h.tok⟩

/-- The parts that a frame may have, as the program's text lists them. -/
def partsL : List Int := [0, 4, 11, 3, 2, 2, 2, 2, 2, 2, 0]
def Parts (w : World) : Prop := ∀ (j : Nat) (u : Int), partsL[j]? = some u → w.cell? ⟨0, j, none⟩ = some (.int .i64 u)
theorem Parts.keep {w w' : World} (h : Parts w) (k : Keep w w') : Parts w' := fun j u hu => k.cell (h j u hu)
def hasP (ask : Nat) : Nat → Bool
  | 1 => decide (ask = 2 ∨ ask = 3)
  | 2 => decide (ask ≠ 1 ∧ ask ≠ 10)
  | 4 => decide (ask = 1)
  | _ => decide (ask = 2)

set_option maxRecDepth 100000 in
set_option maxHeartbeats 4000000 in
theorem has_p (g ask p : Nat) (w : World) (hp : p = 1 ∨ p = 2 ∨ p = 4 ∨ p = 8) (h1 : 1 ≤ ask) (h2 : ask ≤ 10) (hc : w.cell? ⟨g, 0, none⟩ = some (.int .u8 ask)) (hP : Parts w) :
    Calls Tryz.prog 79 #[.int .i64 (p : Int), .pointer (some ⟨g, 0, none⟩)] w (Says w (hasP ask p)) := by
  have hP1 := hP ask (partsL.getD ask 0)
  have hr : ask = 1 ∨ ask = 2 ∨ ask = 3 ∨ ask = 4 ∨ ask = 5 ∨ ask = 6 ∨ ask = 7 ∨ ask = 8 ∨ ask = 9 ∨ ask = 10 := by omega
  clear hP h1 h2
  rcases hr with rfl | rfl | rfl | rfl | rfl | rfl | rfl | rfl | rfl | rfl <;> replace hP1 := hP1 rfl <;> simp only [partsL, List.getD_cons_succ, List.getD_cons_zero, Int.cast_ofNat_Int] at hP1 hc <;> rcases hp with rfl | rfl | rfl | rfl <;> simp only [Int.cast_ofNat_Int] <;>
    (go_enter Tryz.func79, Tryz.ntmps79
     go_wp2_with fail
     go_ret
     exact Says.of 0 rfl rfl)

theorem mayF_out {f : FV} (h : f.ask = 0 ∨ 11 ≤ f.ask) : mayF f = false := by
  unfold mayF
  rcases h with h | h
  · simp [h]
  · have : ¬ f.ask ≤ 10 := by omega
    simp [this]
/-- What may says, by what it looks at. -/
theorem mayF_in {f : FV} (h1 : 1 ≤ f.ask) (h2 : f.ask ≤ 10) : mayF f = ((hasP f.ask 1 == decide (f.seq ≠ 0)) && (hasP f.ask 2 || !decide (f.tok ≠ 0)) && (hasP f.ask 4 == decide (0 < f.sec.length)) && !decide (16 < f.sec.length) && (if hasP f.ask 8 = true then bidOk f.bid else decide (f.bid.length = 0))) := by
  unfold mayF hasP
  have e1 : decide (f.tok = 0) = !decide (f.tok ≠ 0) := by by_cases h : f.tok = 0 <;> simp [h]
  have e2 : decide (f.sec.length ≤ 16) = !decide (16 < f.sec.length) := by by_cases h : f.sec.length ≤ 16 <;> simp [h] <;> omega
  simp only [h1, h2, decide_true, Bool.true_and, decide_eq_true_eq, e1, e2]

set_option maxRecDepth 100000 in
set_option maxHeartbeats 8000000 in
/-- frames.may -/
theorem may21_f (f : Frm) (w : World) (hf : f.Ok w) (hP : Parts w) :
    Calls Tryz.prog 28 #[f.val] w fun e w' => e = .returned (.bool (mayF f.v)) ∧ Keep w w' := by
  have ls := hf.s.len.le
  have lb := hf.b.len.le
  have la := hf.ask
  have bF := Blk.new w 28 f.cells
  have kk : Keep w (w.alloc (.cells #[.int .u8 f.v.ask, .int .u8 f.v.who, .int .u32 f.v.seq, .int .u64 f.v.tok, .slice f.sa f.v.sec.length f.sc, .slice f.ba f.v.bid.length f.bc] 28)) := Keep.alloc1 _ _
  have hP1 := hP.keep kk
  have hb := fun w1 (k1 : Keep w w1) => fbid_f f.ba f.bc f.v.bid w1 (hf.b.keep k1).rd hf.b.len
  obtain ⟨⟨ask, who, seq, tok, sec, bid⟩, sa, sc, ba, bc⟩ := f
  unfold Frm.cells at bF
  unfold Frm.val
  simp only at ls lb la hb bF kk hP1 ⊢
  clear hf hP
  by_cases h0 : ask = 0
  · have HB := Lib.hid (mayF_out (f := ⟨ask, who, seq, tok, sec, bid⟩) (.inl h0))
    have z0 : ((ask : Int) == 0) = true := by simp [h0]
    clear h0 la
    go_enter Tryz.func28, Tryz.ntmps28
    go_upto_region 1 with fail
    change Code.wp _ _ _ _ (w.alloc (.cells #[.int .u8 ask, .int .u8 who, .int .u32 seq, .int .u64 tok, .slice sa sec.length sc, .slice ba bid.length bc] 28))
    generalize w.alloc (.cells #[.int .u8 ask, .int .u8 who, .int .u32 seq, .int .u64 tok, .slice sa sec.length sc, .slice ba bid.length bc] 28) = w1 at kk bF hP1 ⊢
    generalize w.heap.size = g at bF ⊢
    have c0 := bF.cell_ (i := 0) rfl
    have c2 := bF.cell_ (i := 2) rfl
    have c3 := bF.cell_ (i := 3) rfl
    have c4 := bF.cell_ (i := 4) rfl
    have c5 := bF.cell_ (i := 5) rfl
    go_wp2_with fail
    go_ret
    exact ⟨by rw [HB.out]; rfl, kk⟩
  have z0 : ((ask : Int) == 0) = false := by simp [h0]
  by_cases h11 : 11 ≤ ask
  · have HB := Lib.hid (mayF_out (f := ⟨ask, who, seq, tok, sec, bid⟩) (.inr h11))
    have z1 : decide ((11 : Int) ≤ ask) = true := decide_eq_true (by omega)
    have z1' : (11 : Int) ≤ ask := by omega
    clear h11 h0
    go_enter Tryz.func28, Tryz.ntmps28
    go_upto_region 1 with fail
    change Code.wp _ _ _ _ (w.alloc (.cells #[.int .u8 ask, .int .u8 who, .int .u32 seq, .int .u64 tok, .slice sa sec.length sc, .slice ba bid.length bc] 28))
    generalize w.alloc (.cells #[.int .u8 ask, .int .u8 who, .int .u32 seq, .int .u64 tok, .slice sa sec.length sc, .slice ba bid.length bc] 28) = w1 at kk bF hP1 ⊢
    generalize w.heap.size = g at bF ⊢
    have c0 := bF.cell_ (i := 0) rfl
    have c2 := bF.cell_ (i := 2) rfl
    have c3 := bF.cell_ (i := 3) rfl
    have c4 := bF.cell_ (i := 4) rfl
    have c5 := bF.cell_ (i := 5) rfl
    go_wp2_with fail
    go_ret
    exact ⟨by rw [HB.out]; rfl, kk⟩
  have z1' : ¬ (11 : Int) ≤ ask := by omega
  have hm := mayF_in (f := ⟨ask, who, seq, tok, sec, bid⟩) (show 1 ≤ ask by omega) (show ask ≤ 10 by omega)
  simp only at hm
  have q1 : ∀ w', w'.cell? ⟨w.heap.size, 0, none⟩ = some (.int .u8 ask) → Parts w' → Calls Tryz.prog 79 #[.int .i64 1, .pointer (some ⟨w.heap.size, 0, none⟩)] w' (Says w' (hasP ask 1)) := fun w' hc hP' => has_p w.heap.size ask 1 w' (by omega) (by omega) (by omega) hc hP'
  have q2 : ∀ w', w'.cell? ⟨w.heap.size, 0, none⟩ = some (.int .u8 ask) → Parts w' → Calls Tryz.prog 79 #[.int .i64 2, .pointer (some ⟨w.heap.size, 0, none⟩)] w' (Says w' (hasP ask 2)) := fun w' hc hP' => has_p w.heap.size ask 2 w' (by omega) (by omega) (by omega) hc hP'
  have q4 : ∀ w', w'.cell? ⟨w.heap.size, 0, none⟩ = some (.int .u8 ask) → Parts w' → Calls Tryz.prog 79 #[.int .i64 4, .pointer (some ⟨w.heap.size, 0, none⟩)] w' (Says w' (hasP ask 4)) := fun w' hc hP' => has_p w.heap.size ask 4 w' (by omega) (by omega) (by omega) hc hP'
  have q8 : ∀ w', w'.cell? ⟨w.heap.size, 0, none⟩ = some (.int .u8 ask) → Parts w' → Calls Tryz.prog 79 #[.int .i64 8, .pointer (some ⟨w.heap.size, 0, none⟩)] w' (Says w' (hasP ask 8)) := fun w' hc hP' => has_p w.heap.size ask 8 w' (by omega) (by omega) (by omega) hc hP'
  generalize hasP ask 1 = b1 at hm q1
  generalize hasP ask 2 = b2 at hm q2
  generalize hasP ask 4 = b4 at hm q4
  generalize hasP ask 8 = b8 at hm q8
  have hs0 : ((seq : Int) != 0) = decide (seq ≠ 0) := by by_cases h : seq = 0 <;> simp [h]
  have ht0 : ((tok : Int) != 0) = decide (tok ≠ 0) := by by_cases h : tok = 0 <;> simp [h]
  have hl0 : decide ((0 : Int) < sec.length) = decide (0 < sec.length) := by by_cases h : 0 < sec.length <;> simp [h]
  have hl1 : decide ((16 : Int) < sec.length) = decide (16 < sec.length) := by by_cases h : 16 < sec.length <;> simp [h] <;> omega
  have hl2 : ((bid.length : Int) == 0) = decide (bid.length = 0) := by by_cases h : bid.length = 0 <;> simp [h]
  generalize decide (seq ≠ 0) = S at hm hs0
  generalize decide (tok ≠ 0) = Tk at hm ht0
  generalize hL : decide (0 < sec.length) = L at hm hl0
  generalize hX : decide (16 < sec.length) = X at hm hl1
  generalize hZ : decide (bid.length = 0) = Z at hm hl2
  clear h0 h11 la
  by_cases m1 : b1 = S
  · subst m1
    rw [beq_self_eq_true, Bool.true_and] at hm
    have step : b2 = true ∨ b2 = false ∧ Tk = false ∨ b2 = false ∧ Tk = true := by cases b2 <;> cases Tk <;> simp
    rcases step with rfl | ⟨rfl, hTk⟩ | ⟨rfl, hTk⟩
    · clear ht0
      rw [Bool.true_or] at hm
      rw [Bool.true_and] at hm
      by_cases m4 : b4 = L
      · subst m4
        rw [beq_self_eq_true, Bool.true_and] at hm
        cases X with
        | true =>
          rw [Bool.not_true, Bool.false_and] at hm
          have HB := Lib.hid hm
          clear hm
          go_enter Tryz.func28, Tryz.ntmps28
          go_upto_region 1 with fail
          change Code.wp _ _ _ _ (w.alloc (.cells #[.int .u8 ask, .int .u8 who, .int .u32 seq, .int .u64 tok, .slice sa sec.length sc, .slice ba bid.length bc] 28))
          generalize w.alloc (.cells #[.int .u8 ask, .int .u8 who, .int .u32 seq, .int .u64 tok, .slice sa sec.length sc, .slice ba bid.length bc] 28) = w1 at kk bF hP1 ⊢
          generalize w.heap.size = g at bF q1 q2 q4 q8 ⊢
          have c0 := bF.cell_ (i := 0) rfl
          have c2 := bF.cell_ (i := 2) rfl
          have c3 := bF.cell_ (i := 3) rfl
          have c4 := bF.cell_ (i := 4) rfl
          have c5 := bF.cell_ (i := 5) rfl
          have r1 := fun w' (K' : Keep w1 w') => q1 w' (K'.cell c0) (hP1.keep K')
          have r2 := fun w' (K' : Keep w1 w') => q2 w' (K'.cell c0) (hP1.keep K')
          have r4 := fun w' (K' : Keep w1 w') => q4 w' (K'.cell c0) (hP1.keep K')
          have r8 := fun w' (K' : Keep w1 w') => q8 w' (K'.cell c0) (hP1.keep K')
          have K := Keep.refl w1
          have HC := Lib.hid (And.intro c3 (And.intro c4 c5))
          replace hb := fun w' (K' : Keep w1 w') => hb w' (kk.trans K')
          clear q1 q2 q4 q8 bF hP1
          go_wp2_with fail
          go_quiet ((go_at_call 79; first | exact quiet_says2 (r1 _ (K.drewN _)) | exact quiet_says (r1 _ (K.drewN _))))
          go_wp2_with fail
          refine (saysK (r2 _ (K.drewN _))).mono ?_
          rintro e w12 ⟨rfl, kq⟩
          replace K := (K.drewN _).trans kq
          clear kq
          have e3 := K.cell HC.out.1
          have e4 := K.cell HC.out.2.1
          have e5 := K.cell HC.out.2.2
          go_wp2_with fail
          go_quiet ((go_at_call 79; first | exact quiet_says2 (r4 _ (K.drewN _)) | exact quiet_says (r4 _ (K.drewN _))))
          go_wp2_with fail
          go_ret
          first | exact ⟨by rw [HB.out]; rfl, kk.trans K⟩ | exact ⟨by rw [HB.out]; rfl, (kk.trans K).drewN _⟩
        | false =>
          rw [Bool.not_false, Bool.true_and] at hm
          cases b8 with
          | true =>
            rw [if_pos rfl] at hm
            have HB := Lib.hid hm
            clear hm
            go_enter Tryz.func28, Tryz.ntmps28
            go_upto_region 1 with fail
            change Code.wp _ _ _ _ (w.alloc (.cells #[.int .u8 ask, .int .u8 who, .int .u32 seq, .int .u64 tok, .slice sa sec.length sc, .slice ba bid.length bc] 28))
            generalize w.alloc (.cells #[.int .u8 ask, .int .u8 who, .int .u32 seq, .int .u64 tok, .slice sa sec.length sc, .slice ba bid.length bc] 28) = w1 at kk bF hP1 ⊢
            generalize w.heap.size = g at bF q1 q2 q4 q8 ⊢
            have c0 := bF.cell_ (i := 0) rfl
            have c2 := bF.cell_ (i := 2) rfl
            have c3 := bF.cell_ (i := 3) rfl
            have c4 := bF.cell_ (i := 4) rfl
            have c5 := bF.cell_ (i := 5) rfl
            have r1 := fun w' (K' : Keep w1 w') => q1 w' (K'.cell c0) (hP1.keep K')
            have r2 := fun w' (K' : Keep w1 w') => q2 w' (K'.cell c0) (hP1.keep K')
            have r4 := fun w' (K' : Keep w1 w') => q4 w' (K'.cell c0) (hP1.keep K')
            have r8 := fun w' (K' : Keep w1 w') => q8 w' (K'.cell c0) (hP1.keep K')
            have K := Keep.refl w1
            have HC := Lib.hid (And.intro c3 (And.intro c4 c5))
            replace hb := fun w' (K' : Keep w1 w') => hb w' (kk.trans K')
            clear q1 q2 q4 q8 bF hP1
            go_wp2_with fail
            go_quiet ((go_at_call 79; first | exact quiet_says2 (r1 _ (K.drewN _)) | exact quiet_says (r1 _ (K.drewN _))))
            go_wp2_with fail
            refine (saysK (r2 _ (K.drewN _))).mono ?_
            rintro e w12 ⟨rfl, kq⟩
            replace K := (K.drewN _).trans kq
            clear kq
            have e3 := K.cell HC.out.1
            have e4 := K.cell HC.out.2.1
            have e5 := K.cell HC.out.2.2
            go_wp2_with fail
            go_quiet ((go_at_call 79; first | exact quiet_says2 (r4 _ (K.drewN _)) | exact quiet_says (r4 _ (K.drewN _))))
            go_wp2_with fail
            refine (saysK (r8 _ (K.drewN _))).mono ?_
            rintro e w18 ⟨rfl, kq⟩
            replace K := (K.drewN _).trans kq
            clear kq
            have e3 := K.cell HC.out.1
            have e4 := K.cell HC.out.2.1
            have e5 := K.cell HC.out.2.2
            go_wp2_with fail
            refine (hb _ K).mono ?_
            rintro e w20 ⟨rfl, k20⟩
            go_wp2_with fail
            go_ret
            exact ⟨by rw [HB.out]; rfl, (kk.trans K).trans k20⟩
          | false =>
            rw [if_neg (by decide)] at hm
            have HB := Lib.hid hm
            clear hm
            go_enter Tryz.func28, Tryz.ntmps28
            go_upto_region 1 with fail
            change Code.wp _ _ _ _ (w.alloc (.cells #[.int .u8 ask, .int .u8 who, .int .u32 seq, .int .u64 tok, .slice sa sec.length sc, .slice ba bid.length bc] 28))
            generalize w.alloc (.cells #[.int .u8 ask, .int .u8 who, .int .u32 seq, .int .u64 tok, .slice sa sec.length sc, .slice ba bid.length bc] 28) = w1 at kk bF hP1 ⊢
            generalize w.heap.size = g at bF q1 q2 q4 q8 ⊢
            have c0 := bF.cell_ (i := 0) rfl
            have c2 := bF.cell_ (i := 2) rfl
            have c3 := bF.cell_ (i := 3) rfl
            have c4 := bF.cell_ (i := 4) rfl
            have c5 := bF.cell_ (i := 5) rfl
            have r1 := fun w' (K' : Keep w1 w') => q1 w' (K'.cell c0) (hP1.keep K')
            have r2 := fun w' (K' : Keep w1 w') => q2 w' (K'.cell c0) (hP1.keep K')
            have r4 := fun w' (K' : Keep w1 w') => q4 w' (K'.cell c0) (hP1.keep K')
            have r8 := fun w' (K' : Keep w1 w') => q8 w' (K'.cell c0) (hP1.keep K')
            have K := Keep.refl w1
            have HC := Lib.hid (And.intro c3 (And.intro c4 c5))
            replace hb := fun w' (K' : Keep w1 w') => hb w' (kk.trans K')
            clear q1 q2 q4 q8 bF hP1
            go_wp2_with fail
            go_quiet ((go_at_call 79; first | exact quiet_says2 (r1 _ (K.drewN _)) | exact quiet_says (r1 _ (K.drewN _))))
            go_wp2_with fail
            refine (saysK (r2 _ (K.drewN _))).mono ?_
            rintro e w12 ⟨rfl, kq⟩
            replace K := (K.drewN _).trans kq
            clear kq
            have e3 := K.cell HC.out.1
            have e4 := K.cell HC.out.2.1
            have e5 := K.cell HC.out.2.2
            go_wp2_with fail
            go_quiet ((go_at_call 79; first | exact quiet_says2 (r4 _ (K.drewN _)) | exact quiet_says (r4 _ (K.drewN _))))
            go_wp2_with fail
            refine (saysK (r8 _ (K.drewN _))).mono ?_
            rintro e w18 ⟨rfl, kq⟩
            replace K := (K.drewN _).trans kq
            clear kq
            have e3 := K.cell HC.out.1
            have e4 := K.cell HC.out.2.1
            have e5 := K.cell HC.out.2.2
            go_wp2_with fail
            go_ret
            first | exact ⟨by rw [HB.out]; rfl, kk.trans K⟩ | exact ⟨by rw [HB.out]; rfl, (kk.trans K).drewN _⟩
      · have s4 : (b4 == L) = false := beq_eq_false_iff_ne.2 m4
        have s4' : (!b4 == L) = true := by rw [s4]; rfl
        rw [s4] at hm
        simp only [Bool.false_and] at hm
        have HB := Lib.hid hm
        clear hm
        go_enter Tryz.func28, Tryz.ntmps28
        go_upto_region 1 with fail
        change Code.wp _ _ _ _ (w.alloc (.cells #[.int .u8 ask, .int .u8 who, .int .u32 seq, .int .u64 tok, .slice sa sec.length sc, .slice ba bid.length bc] 28))
        generalize w.alloc (.cells #[.int .u8 ask, .int .u8 who, .int .u32 seq, .int .u64 tok, .slice sa sec.length sc, .slice ba bid.length bc] 28) = w1 at kk bF hP1 ⊢
        generalize w.heap.size = g at bF q1 q2 q4 q8 ⊢
        have c0 := bF.cell_ (i := 0) rfl
        have c2 := bF.cell_ (i := 2) rfl
        have c3 := bF.cell_ (i := 3) rfl
        have c4 := bF.cell_ (i := 4) rfl
        have c5 := bF.cell_ (i := 5) rfl
        have r1 := fun w' (K' : Keep w1 w') => q1 w' (K'.cell c0) (hP1.keep K')
        have r2 := fun w' (K' : Keep w1 w') => q2 w' (K'.cell c0) (hP1.keep K')
        have r4 := fun w' (K' : Keep w1 w') => q4 w' (K'.cell c0) (hP1.keep K')
        have r8 := fun w' (K' : Keep w1 w') => q8 w' (K'.cell c0) (hP1.keep K')
        have K := Keep.refl w1
        have HC := Lib.hid (And.intro c3 (And.intro c4 c5))
        replace hb := fun w' (K' : Keep w1 w') => hb w' (kk.trans K')
        clear q1 q2 q4 q8 bF hP1
        go_wp2_with fail
        go_quiet ((go_at_call 79; first | exact quiet_says2 (r1 _ (K.drewN _)) | exact quiet_says (r1 _ (K.drewN _))))
        go_wp2_with fail
        refine (saysK (r2 _ (K.drewN _))).mono ?_
        rintro e w12 ⟨rfl, kq⟩
        replace K := (K.drewN _).trans kq
        clear kq
        have e3 := K.cell HC.out.1
        have e4 := K.cell HC.out.2.1
        have e5 := K.cell HC.out.2.2
        go_wp2_with fail
        go_quiet ((go_at_call 79; first | exact quiet_says2 (r4 _ (K.drewN _)) | exact quiet_says (r4 _ (K.drewN _))))
        go_wp2_with fail
        go_ret
        first | exact ⟨by rw [HB.out]; rfl, kk.trans K⟩ | exact ⟨by rw [HB.out]; rfl, (kk.trans K).drewN _⟩
    · rw [hTk, Bool.false_or, Bool.not_false] at hm
      rw [Bool.true_and] at hm
      by_cases m4 : b4 = L
      · subst m4
        rw [beq_self_eq_true, Bool.true_and] at hm
        cases X with
        | true =>
          rw [Bool.not_true, Bool.false_and] at hm
          have HB := Lib.hid hm
          clear hm
          go_enter Tryz.func28, Tryz.ntmps28
          go_upto_region 1 with fail
          change Code.wp _ _ _ _ (w.alloc (.cells #[.int .u8 ask, .int .u8 who, .int .u32 seq, .int .u64 tok, .slice sa sec.length sc, .slice ba bid.length bc] 28))
          generalize w.alloc (.cells #[.int .u8 ask, .int .u8 who, .int .u32 seq, .int .u64 tok, .slice sa sec.length sc, .slice ba bid.length bc] 28) = w1 at kk bF hP1 ⊢
          generalize w.heap.size = g at bF q1 q2 q4 q8 ⊢
          have c0 := bF.cell_ (i := 0) rfl
          have c2 := bF.cell_ (i := 2) rfl
          have c3 := bF.cell_ (i := 3) rfl
          have c4 := bF.cell_ (i := 4) rfl
          have c5 := bF.cell_ (i := 5) rfl
          have r1 := fun w' (K' : Keep w1 w') => q1 w' (K'.cell c0) (hP1.keep K')
          have r2 := fun w' (K' : Keep w1 w') => q2 w' (K'.cell c0) (hP1.keep K')
          have r4 := fun w' (K' : Keep w1 w') => q4 w' (K'.cell c0) (hP1.keep K')
          have r8 := fun w' (K' : Keep w1 w') => q8 w' (K'.cell c0) (hP1.keep K')
          have K := Keep.refl w1
          have HC := Lib.hid (And.intro c3 (And.intro c4 c5))
          replace hb := fun w' (K' : Keep w1 w') => hb w' (kk.trans K')
          clear q1 q2 q4 q8 bF hP1
          go_wp2_with fail
          go_quiet ((go_at_call 79; first | exact quiet_says2 (r1 _ (K.drewN _)) | exact quiet_says (r1 _ (K.drewN _))))
          go_wp2_with fail
          refine (saysK (r2 _ (K.drewN _))).mono ?_
          rintro e w12 ⟨rfl, kq⟩
          replace K := (K.drewN _).trans kq
          clear kq
          have e3 := K.cell HC.out.1
          have e4 := K.cell HC.out.2.1
          have e5 := K.cell HC.out.2.2
          go_wp2_with fail
          go_quiet ((go_at_call 79; first | exact quiet_says2 (r4 _ (K.drewN _)) | exact quiet_says (r4 _ (K.drewN _))))
          go_wp2_with fail
          go_ret
          first | exact ⟨by rw [HB.out]; rfl, kk.trans K⟩ | exact ⟨by rw [HB.out]; rfl, (kk.trans K).drewN _⟩
        | false =>
          rw [Bool.not_false, Bool.true_and] at hm
          cases b8 with
          | true =>
            rw [if_pos rfl] at hm
            have HB := Lib.hid hm
            clear hm
            go_enter Tryz.func28, Tryz.ntmps28
            go_upto_region 1 with fail
            change Code.wp _ _ _ _ (w.alloc (.cells #[.int .u8 ask, .int .u8 who, .int .u32 seq, .int .u64 tok, .slice sa sec.length sc, .slice ba bid.length bc] 28))
            generalize w.alloc (.cells #[.int .u8 ask, .int .u8 who, .int .u32 seq, .int .u64 tok, .slice sa sec.length sc, .slice ba bid.length bc] 28) = w1 at kk bF hP1 ⊢
            generalize w.heap.size = g at bF q1 q2 q4 q8 ⊢
            have c0 := bF.cell_ (i := 0) rfl
            have c2 := bF.cell_ (i := 2) rfl
            have c3 := bF.cell_ (i := 3) rfl
            have c4 := bF.cell_ (i := 4) rfl
            have c5 := bF.cell_ (i := 5) rfl
            have r1 := fun w' (K' : Keep w1 w') => q1 w' (K'.cell c0) (hP1.keep K')
            have r2 := fun w' (K' : Keep w1 w') => q2 w' (K'.cell c0) (hP1.keep K')
            have r4 := fun w' (K' : Keep w1 w') => q4 w' (K'.cell c0) (hP1.keep K')
            have r8 := fun w' (K' : Keep w1 w') => q8 w' (K'.cell c0) (hP1.keep K')
            have K := Keep.refl w1
            have HC := Lib.hid (And.intro c3 (And.intro c4 c5))
            replace hb := fun w' (K' : Keep w1 w') => hb w' (kk.trans K')
            clear q1 q2 q4 q8 bF hP1
            go_wp2_with fail
            go_quiet ((go_at_call 79; first | exact quiet_says2 (r1 _ (K.drewN _)) | exact quiet_says (r1 _ (K.drewN _))))
            go_wp2_with fail
            refine (saysK (r2 _ (K.drewN _))).mono ?_
            rintro e w12 ⟨rfl, kq⟩
            replace K := (K.drewN _).trans kq
            clear kq
            have e3 := K.cell HC.out.1
            have e4 := K.cell HC.out.2.1
            have e5 := K.cell HC.out.2.2
            go_wp2_with fail
            go_quiet ((go_at_call 79; first | exact quiet_says2 (r4 _ (K.drewN _)) | exact quiet_says (r4 _ (K.drewN _))))
            go_wp2_with fail
            refine (saysK (r8 _ (K.drewN _))).mono ?_
            rintro e w18 ⟨rfl, kq⟩
            replace K := (K.drewN _).trans kq
            clear kq
            have e3 := K.cell HC.out.1
            have e4 := K.cell HC.out.2.1
            have e5 := K.cell HC.out.2.2
            go_wp2_with fail
            refine (hb _ K).mono ?_
            rintro e w20 ⟨rfl, k20⟩
            go_wp2_with fail
            go_ret
            exact ⟨by rw [HB.out]; rfl, (kk.trans K).trans k20⟩
          | false =>
            rw [if_neg (by decide)] at hm
            have HB := Lib.hid hm
            clear hm
            go_enter Tryz.func28, Tryz.ntmps28
            go_upto_region 1 with fail
            change Code.wp _ _ _ _ (w.alloc (.cells #[.int .u8 ask, .int .u8 who, .int .u32 seq, .int .u64 tok, .slice sa sec.length sc, .slice ba bid.length bc] 28))
            generalize w.alloc (.cells #[.int .u8 ask, .int .u8 who, .int .u32 seq, .int .u64 tok, .slice sa sec.length sc, .slice ba bid.length bc] 28) = w1 at kk bF hP1 ⊢
            generalize w.heap.size = g at bF q1 q2 q4 q8 ⊢
            have c0 := bF.cell_ (i := 0) rfl
            have c2 := bF.cell_ (i := 2) rfl
            have c3 := bF.cell_ (i := 3) rfl
            have c4 := bF.cell_ (i := 4) rfl
            have c5 := bF.cell_ (i := 5) rfl
            have r1 := fun w' (K' : Keep w1 w') => q1 w' (K'.cell c0) (hP1.keep K')
            have r2 := fun w' (K' : Keep w1 w') => q2 w' (K'.cell c0) (hP1.keep K')
            have r4 := fun w' (K' : Keep w1 w') => q4 w' (K'.cell c0) (hP1.keep K')
            have r8 := fun w' (K' : Keep w1 w') => q8 w' (K'.cell c0) (hP1.keep K')
            have K := Keep.refl w1
            have HC := Lib.hid (And.intro c3 (And.intro c4 c5))
            replace hb := fun w' (K' : Keep w1 w') => hb w' (kk.trans K')
            clear q1 q2 q4 q8 bF hP1
            go_wp2_with fail
            go_quiet ((go_at_call 79; first | exact quiet_says2 (r1 _ (K.drewN _)) | exact quiet_says (r1 _ (K.drewN _))))
            go_wp2_with fail
            refine (saysK (r2 _ (K.drewN _))).mono ?_
            rintro e w12 ⟨rfl, kq⟩
            replace K := (K.drewN _).trans kq
            clear kq
            have e3 := K.cell HC.out.1
            have e4 := K.cell HC.out.2.1
            have e5 := K.cell HC.out.2.2
            go_wp2_with fail
            go_quiet ((go_at_call 79; first | exact quiet_says2 (r4 _ (K.drewN _)) | exact quiet_says (r4 _ (K.drewN _))))
            go_wp2_with fail
            refine (saysK (r8 _ (K.drewN _))).mono ?_
            rintro e w18 ⟨rfl, kq⟩
            replace K := (K.drewN _).trans kq
            clear kq
            have e3 := K.cell HC.out.1
            have e4 := K.cell HC.out.2.1
            have e5 := K.cell HC.out.2.2
            go_wp2_with fail
            go_ret
            first | exact ⟨by rw [HB.out]; rfl, kk.trans K⟩ | exact ⟨by rw [HB.out]; rfl, (kk.trans K).drewN _⟩
      · have s4 : (b4 == L) = false := beq_eq_false_iff_ne.2 m4
        have s4' : (!b4 == L) = true := by rw [s4]; rfl
        rw [s4] at hm
        simp only [Bool.false_and] at hm
        have HB := Lib.hid hm
        clear hm
        go_enter Tryz.func28, Tryz.ntmps28
        go_upto_region 1 with fail
        change Code.wp _ _ _ _ (w.alloc (.cells #[.int .u8 ask, .int .u8 who, .int .u32 seq, .int .u64 tok, .slice sa sec.length sc, .slice ba bid.length bc] 28))
        generalize w.alloc (.cells #[.int .u8 ask, .int .u8 who, .int .u32 seq, .int .u64 tok, .slice sa sec.length sc, .slice ba bid.length bc] 28) = w1 at kk bF hP1 ⊢
        generalize w.heap.size = g at bF q1 q2 q4 q8 ⊢
        have c0 := bF.cell_ (i := 0) rfl
        have c2 := bF.cell_ (i := 2) rfl
        have c3 := bF.cell_ (i := 3) rfl
        have c4 := bF.cell_ (i := 4) rfl
        have c5 := bF.cell_ (i := 5) rfl
        have r1 := fun w' (K' : Keep w1 w') => q1 w' (K'.cell c0) (hP1.keep K')
        have r2 := fun w' (K' : Keep w1 w') => q2 w' (K'.cell c0) (hP1.keep K')
        have r4 := fun w' (K' : Keep w1 w') => q4 w' (K'.cell c0) (hP1.keep K')
        have r8 := fun w' (K' : Keep w1 w') => q8 w' (K'.cell c0) (hP1.keep K')
        have K := Keep.refl w1
        have HC := Lib.hid (And.intro c3 (And.intro c4 c5))
        replace hb := fun w' (K' : Keep w1 w') => hb w' (kk.trans K')
        clear q1 q2 q4 q8 bF hP1
        go_wp2_with fail
        go_quiet ((go_at_call 79; first | exact quiet_says2 (r1 _ (K.drewN _)) | exact quiet_says (r1 _ (K.drewN _))))
        go_wp2_with fail
        refine (saysK (r2 _ (K.drewN _))).mono ?_
        rintro e w12 ⟨rfl, kq⟩
        replace K := (K.drewN _).trans kq
        clear kq
        have e3 := K.cell HC.out.1
        have e4 := K.cell HC.out.2.1
        have e5 := K.cell HC.out.2.2
        go_wp2_with fail
        go_quiet ((go_at_call 79; first | exact quiet_says2 (r4 _ (K.drewN _)) | exact quiet_says (r4 _ (K.drewN _))))
        go_wp2_with fail
        go_ret
        first | exact ⟨by rw [HB.out]; rfl, kk.trans K⟩ | exact ⟨by rw [HB.out]; rfl, (kk.trans K).drewN _⟩
    · rw [hTk] at hm
      simp only [Bool.not_true, Bool.or_false, Bool.false_and] at hm
      have HB := Lib.hid hm
      clear hm
      go_enter Tryz.func28, Tryz.ntmps28
      go_upto_region 1 with fail
      change Code.wp _ _ _ _ (w.alloc (.cells #[.int .u8 ask, .int .u8 who, .int .u32 seq, .int .u64 tok, .slice sa sec.length sc, .slice ba bid.length bc] 28))
      generalize w.alloc (.cells #[.int .u8 ask, .int .u8 who, .int .u32 seq, .int .u64 tok, .slice sa sec.length sc, .slice ba bid.length bc] 28) = w1 at kk bF hP1 ⊢
      generalize w.heap.size = g at bF q1 q2 q4 q8 ⊢
      have c0 := bF.cell_ (i := 0) rfl
      have c2 := bF.cell_ (i := 2) rfl
      have c3 := bF.cell_ (i := 3) rfl
      have c4 := bF.cell_ (i := 4) rfl
      have c5 := bF.cell_ (i := 5) rfl
      have r1 := fun w' (K' : Keep w1 w') => q1 w' (K'.cell c0) (hP1.keep K')
      have r2 := fun w' (K' : Keep w1 w') => q2 w' (K'.cell c0) (hP1.keep K')
      have r4 := fun w' (K' : Keep w1 w') => q4 w' (K'.cell c0) (hP1.keep K')
      have r8 := fun w' (K' : Keep w1 w') => q8 w' (K'.cell c0) (hP1.keep K')
      have K := Keep.refl w1
      have HC := Lib.hid (And.intro c3 (And.intro c4 c5))
      replace hb := fun w' (K' : Keep w1 w') => hb w' (kk.trans K')
      clear q1 q2 q4 q8 bF hP1
      go_wp2_with fail
      go_quiet ((go_at_call 79; first | exact quiet_says2 (r1 _ (K.drewN _)) | exact quiet_says (r1 _ (K.drewN _))))
      go_wp2_with fail
      refine (saysK (r2 _ (K.drewN _))).mono ?_
      rintro e w12 ⟨rfl, kq⟩
      replace K := (K.drewN _).trans kq
      clear kq
      have e3 := K.cell HC.out.1
      have e4 := K.cell HC.out.2.1
      have e5 := K.cell HC.out.2.2
      go_wp2_with fail
      go_ret
      first | exact ⟨by rw [HB.out]; rfl, kk.trans K⟩ | exact ⟨by rw [HB.out]; rfl, (kk.trans K).drewN _⟩
  · have s1 : (b1 == S) = false := beq_eq_false_iff_ne.2 m1
    have s1' : (!b1 == S) = true := by rw [s1]; rfl
    rw [s1] at hm
    simp only [Bool.false_and] at hm
    have HB := Lib.hid hm
    clear hm
    go_enter Tryz.func28, Tryz.ntmps28
    go_upto_region 1 with fail
    change Code.wp _ _ _ _ (w.alloc (.cells #[.int .u8 ask, .int .u8 who, .int .u32 seq, .int .u64 tok, .slice sa sec.length sc, .slice ba bid.length bc] 28))
    generalize w.alloc (.cells #[.int .u8 ask, .int .u8 who, .int .u32 seq, .int .u64 tok, .slice sa sec.length sc, .slice ba bid.length bc] 28) = w1 at kk bF hP1 ⊢
    generalize w.heap.size = g at bF q1 q2 q4 q8 ⊢
    have c0 := bF.cell_ (i := 0) rfl
    have c2 := bF.cell_ (i := 2) rfl
    have c3 := bF.cell_ (i := 3) rfl
    have c4 := bF.cell_ (i := 4) rfl
    have c5 := bF.cell_ (i := 5) rfl
    have r1 := fun w' (K' : Keep w1 w') => q1 w' (K'.cell c0) (hP1.keep K')
    have r2 := fun w' (K' : Keep w1 w') => q2 w' (K'.cell c0) (hP1.keep K')
    have r4 := fun w' (K' : Keep w1 w') => q4 w' (K'.cell c0) (hP1.keep K')
    have r8 := fun w' (K' : Keep w1 w') => q8 w' (K'.cell c0) (hP1.keep K')
    have K := Keep.refl w1
    have HC := Lib.hid (And.intro c3 (And.intro c4 c5))
    replace hb := fun w' (K' : Keep w1 w') => hb w' (kk.trans K')
    clear q1 q2 q4 q8 bF hP1
    go_wp2_with fail
    go_quiet ((go_at_call 79; first | exact quiet_says2 (r1 _ (K.drewN _)) | exact quiet_says (r1 _ (K.drewN _))))
    go_wp2_with fail
    go_ret
    first | exact ⟨by rw [HB.out]; rfl, kk.trans K⟩ | exact ⟨by rw [HB.out]; rfl, (kk.trans K).drewN _⟩
end Go.Proofs.YtnjjeanbopclhaaGreatDoor
