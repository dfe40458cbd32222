/-
  CONTRACT of the document's answer of chapter 21: may a frame be? Conditions: the slices of the frame read as lists.
-/
import Derived.Test.YtjhbpocffckghaaGreatDoorRefK
import Derived.Test.YtjhbpocffckghaaGreatDoorFrmB
namespace Go.Proofs.YtjhbpocffckghaaGreatDoor
open Go.RowKit

theorem dT {p : Prop} [Decidable p] (h : p) : decide p = true ∧ p = True := ⟨decide_eq_true h, eq_true h⟩
theorem dF {p : Prop} [Decidable p] (h : ¬p) : decide p = false ∧ p = False := ⟨decide_eq_false h, eq_false h⟩

set_option maxRecDepth 100000 in
set_option maxHeartbeats 16000000 in
/-- salesroomref21.May -/
theorem refMay_f (f : Frm) (w : World) (hf : f.Ok w) :
    Calls Tryz.prog 33 #[f.val] w fun e w' => e = .returned (.bool (mayF f.v)) ∧ Keep w w' := by
  have ls := hf.s.len.le
  have lb := hf.b.len.le
  have bF := Blk.new w 28 f.cells
  have kk : Keep w (w.alloc (.cells #[.int .u8 f.v.ask, .int .u8 f.v.who, .int .u32 f.v.seq, .int .u64 f.v.tok, .slice f.sa f.v.sec.length f.sc, .slice f.ba f.v.bid.length f.bc] 28)) := Keep.alloc1 _ _
  have hb := fun w1 (k1 : Keep w w1) => saysK (refBid_f f.ba f.bc f.v.bid w1 (hf.keep k1).b.rd hf.b.len)
  obtain ⟨⟨ask, who, seq, tok, sec, bid⟩, sa, sc, ba, bc⟩ := f
  obtain ⟨M, hm⟩ : ∃ M, M = mayF ⟨ask, who, seq, tok, sec, bid⟩ := ⟨_, rfl⟩
  unfold Frm.cells at bF
  unfold Frm.val
  simp only at ls lb hb bF kk ⊢
  rw [← hm]
  clear hf
  have b0' : ((bid.length : Int) == 0) = decide (bid.length = 0) := by
    by_cases h : bid.length = 0 <;> simp [h]
  generalize hBl : decide (bid.length = 0) = Bl at b0'
  generalize hw1 : w.alloc (.cells #[.int .u8 ask, .int .u8 who, .int .u32 seq, .int .u64 tok, .slice sa sec.length sc, .slice ba bid.length bc] 28) = w1 at kk bF
  have HW := Lib.hid hw1
  clear hw1
  obtain ⟨x, hx⟩ : ∃ x : Int, x = ask := ⟨_, rfl⟩
  obtain ⟨y, hy⟩ : ∃ y : Int, y = seq := ⟨_, rfl⟩
  obtain ⟨z, hz⟩ : ∃ z : Int, z = tok := ⟨_, rfl⟩
  rw [← hx, ← hy, ← hz] at bF HW ⊢
  have u0 := bF.cell_ (i := 0) rfl
  have u2 := bF.cell_ (i := 2) rfl
  have u3 := bF.cell_ (i := 3) rfl
  have u4 := bF.cell_ (i := 4) rfl
  have u5 := bF.cell_ (i := 5) rfl
  clear bF
  rcases (by omega : (ask = 0) ∨ (11 ≤ ask) ∨ (ask = 1) ∨ (ask = 2) ∨ (ask = 3) ∨ (ask = 10) ∨ (4 ≤ ask ∧ ask ≤ 9)) with ha | ha | ha | ha | ha | ha | ha
  · have a1 := dT (p := x < 1) (by omega)
    obtain ⟨a1, a1'⟩ := a1
    have e1 : (x == 1) = false := beq_false_of_ne (by omega)
    have e2 : (x == 2) = false := beq_false_of_ne (by omega)
    have e3 : (x == 3) = false := beq_false_of_ne (by omega)
    have e10 : (x == 10) = false := beq_false_of_ne (by omega)
    have HM : Hid (M = false) := Lib.hid (by rw [hm]; clear hm hb kk; unfold mayF; simp [*])
    clear hm hx hy hz
    try replace ha := Lib.hid ha
    try replace hq := Lib.hid hq
    try replace ht := Lib.hid ht
    try replace hs := Lib.hid hs
    try replace hs2 := Lib.hid hs2
    go_enter Tryz.func33, Tryz.ntmps33
    go_upto_region 1 with fail
    rw [HW.out]
    go_wp2_with fail
    go_ret
    exact ⟨by first | (rw [HM.out]; done) | (rw [HM.out]; rfl), kk⟩
  · have a1 := dF (p := x < 1) (by omega)
    have a2 := dT (p := 10 < x) (by omega)
    obtain ⟨a1, a1'⟩ := a1
    obtain ⟨a2, a2'⟩ := a2
    have e1 : (x == 1) = false := beq_false_of_ne (by omega)
    have e2 : (x == 2) = false := beq_false_of_ne (by omega)
    have e3 : (x == 3) = false := beq_false_of_ne (by omega)
    have e10 : (x == 10) = false := beq_false_of_ne (by omega)
    have HM : Hid (M = false) := Lib.hid (by rw [hm]; clear hm hb kk; have k0 : ¬(ask ≤ 10) := (by omega); unfold mayF; simp [*])
    clear hm hx hy hz
    try replace ha := Lib.hid ha
    try replace hq := Lib.hid hq
    try replace ht := Lib.hid ht
    try replace hs := Lib.hid hs
    try replace hs2 := Lib.hid hs2
    go_enter Tryz.func33, Tryz.ntmps33
    go_upto_region 1 with fail
    rw [HW.out]
    go_wp2_with fail
    go_ret
    exact ⟨by first | (rw [HM.out]; done) | (rw [HM.out]; rfl), kk⟩
  · have a1 := dF (p := x < 1) (by omega)
    have a2 := dF (p := 10 < x) (by omega)
    obtain ⟨a1, a1'⟩ := a1
    obtain ⟨a2, a2'⟩ := a2
    have e1 : (x == 1) = true := beq_iff_eq.2 (by omega)
    have e2 : (x == 2) = false := beq_false_of_ne (by omega)
    have e3 : (x == 3) = false := beq_false_of_ne (by omega)
    have e10 : (x == 10) = false := beq_false_of_ne (by omega)
    by_cases hq : seq = 0
    · have q1 : (y == 0) = true := beq_iff_eq.2 (by omega)
      have q2 : (y != 0) = false := by simp only [bne, q1, Bool.not_true]
      by_cases ht : tok = 0
      · have t1 : (z == 0) = true := beq_iff_eq.2 (by omega)
        have t2 : (z != 0) = false := by simp only [bne, t1, Bool.not_true]
        by_cases hs : 0 < sec.length
        · obtain ⟨s0, s0'⟩ := dT (p := (0 : Int) < (sec.length : Int)) (by omega)
          obtain ⟨s1, s1'⟩ := dT (p := 0 < sec.length) (by omega)
          obtain ⟨s2, s2'⟩ := dF (p := (sec.length : Int) < 1) (by omega)
          by_cases hs2 : 16 < sec.length
          · obtain ⟨s3, s3'⟩ := dT (p := (16 : Int) < (sec.length : Int)) (by omega)
            obtain ⟨s4, s4'⟩ := dT (p := 16 < sec.length) (by omega)
            have HM : Hid (M = false) := Lib.hid (by rw [hm]; clear hm hb kk; have k0 : ¬(sec.length ≤ 16) := (by omega); unfold mayF; simp [*])
            clear hm hx hy hz
            try replace ha := Lib.hid ha
            try replace hq := Lib.hid hq
            try replace ht := Lib.hid ht
            try replace hs := Lib.hid hs
            try replace hs2 := Lib.hid hs2
            go_enter Tryz.func33, Tryz.ntmps33
            go_upto_region 1 with fail
            rw [HW.out]
            go_wp2_with fail
            go_ret
            exact ⟨by first | (rw [HM.out]; done) | (rw [HM.out]; rfl), kk⟩
          · obtain ⟨s3, s3'⟩ := dF (p := (16 : Int) < (sec.length : Int)) (by omega)
            obtain ⟨s4, s4'⟩ := dF (p := 16 < sec.length) (by omega)
            have HM : Hid (M = Bl) := Lib.hid (by rw [hm]; clear hm hb kk; have k0 : sec.length ≤ 16 := (by omega); unfold mayF; simp [*]; rw [← hBl]; simp)
            clear hm hx hy hz
            try replace ha := Lib.hid ha
            try replace hq := Lib.hid hq
            try replace ht := Lib.hid ht
            try replace hs := Lib.hid hs
            try replace hs2 := Lib.hid hs2
            go_enter Tryz.func33, Tryz.ntmps33
            go_upto_region 1 with fail
            rw [HW.out]
            go_wp2_with fail
            go_ret
            exact ⟨by first | (rw [HM.out]; done) | (rw [HM.out]; rfl), kk⟩
        · obtain ⟨s0, s0'⟩ := dF (p := (0 : Int) < (sec.length : Int)) (by omega)
          obtain ⟨s1, s1'⟩ := dF (p := 0 < sec.length) (by omega)
          obtain ⟨s2, s2'⟩ := dT (p := (sec.length : Int) < 1) (by omega)
          have HM : Hid (M = false) := Lib.hid (by rw [hm]; clear hm hb kk; unfold mayF; simp [*])
          clear hm hx hy hz
          try replace ha := Lib.hid ha
          try replace hq := Lib.hid hq
          try replace ht := Lib.hid ht
          try replace hs := Lib.hid hs
          try replace hs2 := Lib.hid hs2
          go_enter Tryz.func33, Tryz.ntmps33
          go_upto_region 1 with fail
          rw [HW.out]
          go_wp2_with fail
          go_ret
          exact ⟨by first | (rw [HM.out]; done) | (rw [HM.out]; rfl), kk⟩
      · have t1 : (z == 0) = false := beq_false_of_ne (by omega)
        have t2 : (z != 0) = true := by simp only [bne, t1, Bool.not_false]
        have HM : Hid (M = false) := Lib.hid (by rw [hm]; clear hm hb kk; unfold mayF; simp [*])
        clear hm hx hy hz
        try replace ha := Lib.hid ha
        try replace hq := Lib.hid hq
        try replace ht := Lib.hid ht
        try replace hs := Lib.hid hs
        try replace hs2 := Lib.hid hs2
        go_enter Tryz.func33, Tryz.ntmps33
        go_upto_region 1 with fail
        rw [HW.out]
        go_wp2_with fail
        go_ret
        exact ⟨by first | (rw [HM.out]; done) | (rw [HM.out]; rfl), kk⟩
    · have q1 : (y == 0) = false := beq_false_of_ne (by omega)
      have q2 : (y != 0) = true := by simp only [bne, q1, Bool.not_false]
      have HM : Hid (M = false) := Lib.hid (by rw [hm]; clear hm hb kk; unfold mayF; simp [*])
      clear hm hx hy hz
      try replace ha := Lib.hid ha
      try replace hq := Lib.hid hq
      try replace ht := Lib.hid ht
      try replace hs := Lib.hid hs
      try replace hs2 := Lib.hid hs2
      go_enter Tryz.func33, Tryz.ntmps33
      go_upto_region 1 with fail
      rw [HW.out]
      go_wp2_with fail
      go_ret
      exact ⟨by first | (rw [HM.out]; done) | (rw [HM.out]; rfl), kk⟩
  · have a1 := dF (p := x < 1) (by omega)
    have a2 := dF (p := 10 < x) (by omega)
    obtain ⟨a1, a1'⟩ := a1
    obtain ⟨a2, a2'⟩ := a2
    have e1 : (x == 1) = false := beq_false_of_ne (by omega)
    have e2 : (x == 2) = true := beq_iff_eq.2 (by omega)
    have e3 : (x == 3) = false := beq_false_of_ne (by omega)
    have e10 : (x == 10) = false := beq_false_of_ne (by omega)
    by_cases hq : seq = 0
    · have q1 : (y == 0) = true := beq_iff_eq.2 (by omega)
      have q2 : (y != 0) = false := by simp only [bne, q1, Bool.not_true]
      have HM : Hid (M = false) := Lib.hid (by rw [hm]; clear hm hb kk; unfold mayF; simp [*])
      clear hm hx hy hz
      try replace ha := Lib.hid ha
      try replace hq := Lib.hid hq
      try replace ht := Lib.hid ht
      try replace hs := Lib.hid hs
      try replace hs2 := Lib.hid hs2
      go_enter Tryz.func33, Tryz.ntmps33
      go_upto_region 1 with fail
      rw [HW.out]
      go_wp2_with fail
      go_ret
      exact ⟨by first | (rw [HM.out]; done) | (rw [HM.out]; rfl), kk⟩
    · have q1 : (y == 0) = false := beq_false_of_ne (by omega)
      have q2 : (y != 0) = true := by simp only [bne, q1, Bool.not_false]
      by_cases ht : tok = 0
      · have t1 : (z == 0) = true := beq_iff_eq.2 (by omega)
        have t2 : (z != 0) = false := by simp only [bne, t1, Bool.not_true]
        by_cases hs : 0 < sec.length
        · obtain ⟨s0, s0'⟩ := dT (p := (0 : Int) < (sec.length : Int)) (by omega)
          obtain ⟨s1, s1'⟩ := dT (p := 0 < sec.length) (by omega)
          obtain ⟨s2, s2'⟩ := dF (p := (sec.length : Int) < 1) (by omega)
          have HM : Hid (M = false) := Lib.hid (by rw [hm]; clear hm hb kk; unfold mayF; simp [*])
          clear hm hx hy hz
          try replace ha := Lib.hid ha
          try replace hq := Lib.hid hq
          try replace ht := Lib.hid ht
          try replace hs := Lib.hid hs
          try replace hs2 := Lib.hid hs2
          go_enter Tryz.func33, Tryz.ntmps33
          go_upto_region 1 with fail
          rw [HW.out]
          go_wp2_with fail
          go_ret
          exact ⟨by first | (rw [HM.out]; done) | (rw [HM.out]; rfl), kk⟩
        · obtain ⟨s0, s0'⟩ := dF (p := (0 : Int) < (sec.length : Int)) (by omega)
          obtain ⟨s1, s1'⟩ := dF (p := 0 < sec.length) (by omega)
          obtain ⟨s2, s2'⟩ := dT (p := (sec.length : Int) < 1) (by omega)
          have HM : Hid (M = bidOk bid) := Lib.hid (by rw [hm]; clear hm hb kk; have k0 : sec.length ≤ 16 := (by omega); unfold mayF; simp [*])
          clear hm hx hy hz
          try replace ha := Lib.hid ha
          try replace hq := Lib.hid hq
          try replace ht := Lib.hid ht
          try replace hs := Lib.hid hs
          try replace hs2 := Lib.hid hs2
          go_enter Tryz.func33, Tryz.ntmps33
          go_upto_region 1 with fail
          rw [HW.out]
          go_wp2_with fail
          refine (hb _ kk).mono ?_
          rintro e w2 ⟨rfl, k2⟩
          go_wp2_with fail
          go_ret
          exact ⟨by first | (rw [HM.out]; done) | (rw [HM.out]; rfl), kk.trans k2⟩
      · have t1 : (z == 0) = false := beq_false_of_ne (by omega)
        have t2 : (z != 0) = true := by simp only [bne, t1, Bool.not_false]
        by_cases hs : 0 < sec.length
        · obtain ⟨s0, s0'⟩ := dT (p := (0 : Int) < (sec.length : Int)) (by omega)
          obtain ⟨s1, s1'⟩ := dT (p := 0 < sec.length) (by omega)
          obtain ⟨s2, s2'⟩ := dF (p := (sec.length : Int) < 1) (by omega)
          have HM : Hid (M = false) := Lib.hid (by rw [hm]; clear hm hb kk; unfold mayF; simp [*])
          clear hm hx hy hz
          try replace ha := Lib.hid ha
          try replace hq := Lib.hid hq
          try replace ht := Lib.hid ht
          try replace hs := Lib.hid hs
          try replace hs2 := Lib.hid hs2
          go_enter Tryz.func33, Tryz.ntmps33
          go_upto_region 1 with fail
          rw [HW.out]
          go_wp2_with fail
          go_ret
          exact ⟨by first | (rw [HM.out]; done) | (rw [HM.out]; rfl), kk⟩
        · obtain ⟨s0, s0'⟩ := dF (p := (0 : Int) < (sec.length : Int)) (by omega)
          obtain ⟨s1, s1'⟩ := dF (p := 0 < sec.length) (by omega)
          obtain ⟨s2, s2'⟩ := dT (p := (sec.length : Int) < 1) (by omega)
          have HM : Hid (M = bidOk bid) := Lib.hid (by rw [hm]; clear hm hb kk; have k0 : sec.length ≤ 16 := (by omega); unfold mayF; simp [*])
          clear hm hx hy hz
          try replace ha := Lib.hid ha
          try replace hq := Lib.hid hq
          try replace ht := Lib.hid ht
          try replace hs := Lib.hid hs
          try replace hs2 := Lib.hid hs2
          go_enter Tryz.func33, Tryz.ntmps33
          go_upto_region 1 with fail
          rw [HW.out]
          go_wp2_with fail
          refine (hb _ kk).mono ?_
          rintro e w2 ⟨rfl, k2⟩
          go_wp2_with fail
          go_ret
          exact ⟨by first | (rw [HM.out]; done) | (rw [HM.out]; rfl), kk.trans k2⟩
  · have a1 := dF (p := x < 1) (by omega)
    have a2 := dF (p := 10 < x) (by omega)
    obtain ⟨a1, a1'⟩ := a1
    obtain ⟨a2, a2'⟩ := a2
    have e1 : (x == 1) = false := beq_false_of_ne (by omega)
    have e2 : (x == 2) = false := beq_false_of_ne (by omega)
    have e3 : (x == 3) = true := beq_iff_eq.2 (by omega)
    have e10 : (x == 10) = false := beq_false_of_ne (by omega)
    by_cases hq : seq = 0
    · have q1 : (y == 0) = true := beq_iff_eq.2 (by omega)
      have q2 : (y != 0) = false := by simp only [bne, q1, Bool.not_true]
      have HM : Hid (M = false) := Lib.hid (by rw [hm]; clear hm hb kk; unfold mayF; simp [*])
      clear hm hx hy hz
      try replace ha := Lib.hid ha
      try replace hq := Lib.hid hq
      try replace ht := Lib.hid ht
      try replace hs := Lib.hid hs
      try replace hs2 := Lib.hid hs2
      go_enter Tryz.func33, Tryz.ntmps33
      go_upto_region 1 with fail
      rw [HW.out]
      go_wp2_with fail
      go_ret
      exact ⟨by first | (rw [HM.out]; done) | (rw [HM.out]; rfl), kk⟩
    · have q1 : (y == 0) = false := beq_false_of_ne (by omega)
      have q2 : (y != 0) = true := by simp only [bne, q1, Bool.not_false]
      by_cases ht : tok = 0
      · have t1 : (z == 0) = true := beq_iff_eq.2 (by omega)
        have t2 : (z != 0) = false := by simp only [bne, t1, Bool.not_true]
        by_cases hs : 0 < sec.length
        · obtain ⟨s0, s0'⟩ := dT (p := (0 : Int) < (sec.length : Int)) (by omega)
          obtain ⟨s1, s1'⟩ := dT (p := 0 < sec.length) (by omega)
          obtain ⟨s2, s2'⟩ := dF (p := (sec.length : Int) < 1) (by omega)
          have HM : Hid (M = false) := Lib.hid (by rw [hm]; clear hm hb kk; unfold mayF; simp [*])
          clear hm hx hy hz
          try replace ha := Lib.hid ha
          try replace hq := Lib.hid hq
          try replace ht := Lib.hid ht
          try replace hs := Lib.hid hs
          try replace hs2 := Lib.hid hs2
          go_enter Tryz.func33, Tryz.ntmps33
          go_upto_region 1 with fail
          rw [HW.out]
          go_wp2_with fail
          go_ret
          exact ⟨by first | (rw [HM.out]; done) | (rw [HM.out]; rfl), kk⟩
        · obtain ⟨s0, s0'⟩ := dF (p := (0 : Int) < (sec.length : Int)) (by omega)
          obtain ⟨s1, s1'⟩ := dF (p := 0 < sec.length) (by omega)
          obtain ⟨s2, s2'⟩ := dT (p := (sec.length : Int) < 1) (by omega)
          have HM : Hid (M = Bl) := Lib.hid (by rw [hm]; clear hm hb kk; have k0 : sec.length ≤ 16 := (by omega); unfold mayF; simp [*]; rw [← hBl]; simp)
          clear hm hx hy hz
          try replace ha := Lib.hid ha
          try replace hq := Lib.hid hq
          try replace ht := Lib.hid ht
          try replace hs := Lib.hid hs
          try replace hs2 := Lib.hid hs2
          go_enter Tryz.func33, Tryz.ntmps33
          go_upto_region 1 with fail
          rw [HW.out]
          go_wp2_with fail
          go_ret
          exact ⟨by first | (rw [HM.out]; done) | (rw [HM.out]; rfl), kk⟩
      · have t1 : (z == 0) = false := beq_false_of_ne (by omega)
        have t2 : (z != 0) = true := by simp only [bne, t1, Bool.not_false]
        by_cases hs : 0 < sec.length
        · obtain ⟨s0, s0'⟩ := dT (p := (0 : Int) < (sec.length : Int)) (by omega)
          obtain ⟨s1, s1'⟩ := dT (p := 0 < sec.length) (by omega)
          obtain ⟨s2, s2'⟩ := dF (p := (sec.length : Int) < 1) (by omega)
          have HM : Hid (M = false) := Lib.hid (by rw [hm]; clear hm hb kk; unfold mayF; simp [*])
          clear hm hx hy hz
          try replace ha := Lib.hid ha
          try replace hq := Lib.hid hq
          try replace ht := Lib.hid ht
          try replace hs := Lib.hid hs
          try replace hs2 := Lib.hid hs2
          go_enter Tryz.func33, Tryz.ntmps33
          go_upto_region 1 with fail
          rw [HW.out]
          go_wp2_with fail
          go_ret
          exact ⟨by first | (rw [HM.out]; done) | (rw [HM.out]; rfl), kk⟩
        · obtain ⟨s0, s0'⟩ := dF (p := (0 : Int) < (sec.length : Int)) (by omega)
          obtain ⟨s1, s1'⟩ := dF (p := 0 < sec.length) (by omega)
          obtain ⟨s2, s2'⟩ := dT (p := (sec.length : Int) < 1) (by omega)
          have HM : Hid (M = Bl) := Lib.hid (by rw [hm]; clear hm hb kk; have k0 : sec.length ≤ 16 := (by omega); unfold mayF; simp [*]; rw [← hBl]; simp)
          clear hm hx hy hz
          try replace ha := Lib.hid ha
          try replace hq := Lib.hid hq
          try replace ht := Lib.hid ht
          try replace hs := Lib.hid hs
          try replace hs2 := Lib.hid hs2
          go_enter Tryz.func33, Tryz.ntmps33
          go_upto_region 1 with fail
          rw [HW.out]
          go_wp2_with fail
          go_ret
          exact ⟨by first | (rw [HM.out]; done) | (rw [HM.out]; rfl), kk⟩
  · have a1 := dF (p := x < 1) (by omega)
    have a2 := dF (p := 10 < x) (by omega)
    obtain ⟨a1, a1'⟩ := a1
    obtain ⟨a2, a2'⟩ := a2
    have e1 : (x == 1) = false := beq_false_of_ne (by omega)
    have e2 : (x == 2) = false := beq_false_of_ne (by omega)
    have e3 : (x == 3) = false := beq_false_of_ne (by omega)
    have e10 : (x == 10) = true := beq_iff_eq.2 (by omega)
    by_cases hq : seq = 0
    · have q1 : (y == 0) = true := beq_iff_eq.2 (by omega)
      have q2 : (y != 0) = false := by simp only [bne, q1, Bool.not_true]
      by_cases ht : tok = 0
      · have t1 : (z == 0) = true := beq_iff_eq.2 (by omega)
        have t2 : (z != 0) = false := by simp only [bne, t1, Bool.not_true]
        by_cases hs : 0 < sec.length
        · obtain ⟨s0, s0'⟩ := dT (p := (0 : Int) < (sec.length : Int)) (by omega)
          obtain ⟨s1, s1'⟩ := dT (p := 0 < sec.length) (by omega)
          obtain ⟨s2, s2'⟩ := dF (p := (sec.length : Int) < 1) (by omega)
          have HM : Hid (M = false) := Lib.hid (by rw [hm]; clear hm hb kk; unfold mayF; simp [*])
          clear hm hx hy hz
          try replace ha := Lib.hid ha
          try replace hq := Lib.hid hq
          try replace ht := Lib.hid ht
          try replace hs := Lib.hid hs
          try replace hs2 := Lib.hid hs2
          go_enter Tryz.func33, Tryz.ntmps33
          go_upto_region 1 with fail
          rw [HW.out]
          go_wp2_with fail
          go_ret
          exact ⟨by first | (rw [HM.out]; done) | (rw [HM.out]; rfl), kk⟩
        · obtain ⟨s0, s0'⟩ := dF (p := (0 : Int) < (sec.length : Int)) (by omega)
          obtain ⟨s1, s1'⟩ := dF (p := 0 < sec.length) (by omega)
          obtain ⟨s2, s2'⟩ := dT (p := (sec.length : Int) < 1) (by omega)
          have HM : Hid (M = Bl) := Lib.hid (by rw [hm]; clear hm hb kk; have k0 : sec.length ≤ 16 := (by omega); unfold mayF; simp [*]; rw [← hBl]; simp)
          clear hm hx hy hz
          try replace ha := Lib.hid ha
          try replace hq := Lib.hid hq
          try replace ht := Lib.hid ht
          try replace hs := Lib.hid hs
          try replace hs2 := Lib.hid hs2
          go_enter Tryz.func33, Tryz.ntmps33
          go_upto_region 1 with fail
          rw [HW.out]
          go_wp2_with fail
          go_ret
          exact ⟨by first | (rw [HM.out]; done) | (rw [HM.out]; rfl), kk⟩
      · have t1 : (z == 0) = false := beq_false_of_ne (by omega)
        have t2 : (z != 0) = true := by simp only [bne, t1, Bool.not_false]
        have HM : Hid (M = false) := Lib.hid (by rw [hm]; clear hm hb kk; unfold mayF; simp [*])
        clear hm hx hy hz
        try replace ha := Lib.hid ha
        try replace hq := Lib.hid hq
        try replace ht := Lib.hid ht
        try replace hs := Lib.hid hs
        try replace hs2 := Lib.hid hs2
        go_enter Tryz.func33, Tryz.ntmps33
        go_upto_region 1 with fail
        rw [HW.out]
        go_wp2_with fail
        go_ret
        exact ⟨by first | (rw [HM.out]; done) | (rw [HM.out]; rfl), kk⟩
    · have q1 : (y == 0) = false := beq_false_of_ne (by omega)
      have q2 : (y != 0) = true := by simp only [bne, q1, Bool.not_false]
      have HM : Hid (M = false) := Lib.hid (by rw [hm]; clear hm hb kk; unfold mayF; simp [*])
      clear hm hx hy hz
      try replace ha := Lib.hid ha
      try replace hq := Lib.hid hq
      try replace ht := Lib.hid ht
      try replace hs := Lib.hid hs
      try replace hs2 := Lib.hid hs2
      go_enter Tryz.func33, Tryz.ntmps33
      go_upto_region 1 with fail
      rw [HW.out]
      go_wp2_with fail
      go_ret
      exact ⟨by first | (rw [HM.out]; done) | (rw [HM.out]; rfl), kk⟩
  · have a1 := dF (p := x < 1) (by omega)
    have a2 := dF (p := 10 < x) (by omega)
    obtain ⟨a1, a1'⟩ := a1
    obtain ⟨a2, a2'⟩ := a2
    have e1 : (x == 1) = false := beq_false_of_ne (by omega)
    have e2 : (x == 2) = false := beq_false_of_ne (by omega)
    have e3 : (x == 3) = false := beq_false_of_ne (by omega)
    have e10 : (x == 10) = false := beq_false_of_ne (by omega)
    by_cases hq : seq = 0
    · have q1 : (y == 0) = true := beq_iff_eq.2 (by omega)
      have q2 : (y != 0) = false := by simp only [bne, q1, Bool.not_true]
      by_cases ht : tok = 0
      · have t1 : (z == 0) = true := beq_iff_eq.2 (by omega)
        have t2 : (z != 0) = false := by simp only [bne, t1, Bool.not_true]
        by_cases hs : 0 < sec.length
        · obtain ⟨s0, s0'⟩ := dT (p := (0 : Int) < (sec.length : Int)) (by omega)
          obtain ⟨s1, s1'⟩ := dT (p := 0 < sec.length) (by omega)
          obtain ⟨s2, s2'⟩ := dF (p := (sec.length : Int) < 1) (by omega)
          have HM : Hid (M = false) := Lib.hid (by rw [hm]; clear hm hb kk; have k0 : 1 ≤ ask := (by omega); have k1 : ask ≤ 10 := (by omega); have k2 : ¬(ask = 1) := (by omega); have k3 : ¬(ask = 2) := (by omega); have k4 : ¬(ask = 3) := (by omega); have k5 : ¬(ask = 10) := (by omega); unfold mayF; simp [*])
          clear hm hx hy hz
          try replace ha := Lib.hid ha
          try replace hq := Lib.hid hq
          try replace ht := Lib.hid ht
          try replace hs := Lib.hid hs
          try replace hs2 := Lib.hid hs2
          go_enter Tryz.func33, Tryz.ntmps33
          go_upto_region 1 with fail
          rw [HW.out]
          go_wp2_with fail
          go_ret
          exact ⟨by first | (rw [HM.out]; done) | (rw [HM.out]; rfl), kk⟩
        · obtain ⟨s0, s0'⟩ := dF (p := (0 : Int) < (sec.length : Int)) (by omega)
          obtain ⟨s1, s1'⟩ := dF (p := 0 < sec.length) (by omega)
          obtain ⟨s2, s2'⟩ := dT (p := (sec.length : Int) < 1) (by omega)
          have HM : Hid (M = Bl) := Lib.hid (by rw [hm]; clear hm hb kk; have k0 : 1 ≤ ask := (by omega); have k1 : ask ≤ 10 := (by omega); have k2 : ¬(ask = 1) := (by omega); have k3 : ¬(ask = 2) := (by omega); have k4 : ¬(ask = 3) := (by omega); have k5 : ¬(ask = 10) := (by omega); have k6 : sec.length ≤ 16 := (by omega); unfold mayF; simp [*]; rw [← hBl]; simp)
          clear hm hx hy hz
          try replace ha := Lib.hid ha
          try replace hq := Lib.hid hq
          try replace ht := Lib.hid ht
          try replace hs := Lib.hid hs
          try replace hs2 := Lib.hid hs2
          go_enter Tryz.func33, Tryz.ntmps33
          go_upto_region 1 with fail
          rw [HW.out]
          go_wp2_with fail
          go_ret
          exact ⟨by first | (rw [HM.out]; done) | (rw [HM.out]; rfl), kk⟩
      · have t1 : (z == 0) = false := beq_false_of_ne (by omega)
        have t2 : (z != 0) = true := by simp only [bne, t1, Bool.not_false]
        by_cases hs : 0 < sec.length
        · obtain ⟨s0, s0'⟩ := dT (p := (0 : Int) < (sec.length : Int)) (by omega)
          obtain ⟨s1, s1'⟩ := dT (p := 0 < sec.length) (by omega)
          obtain ⟨s2, s2'⟩ := dF (p := (sec.length : Int) < 1) (by omega)
          have HM : Hid (M = false) := Lib.hid (by rw [hm]; clear hm hb kk; have k0 : 1 ≤ ask := (by omega); have k1 : ask ≤ 10 := (by omega); have k2 : ¬(ask = 1) := (by omega); have k3 : ¬(ask = 2) := (by omega); have k4 : ¬(ask = 3) := (by omega); have k5 : ¬(ask = 10) := (by omega); unfold mayF; simp [*])
          clear hm hx hy hz
          try replace ha := Lib.hid ha
          try replace hq := Lib.hid hq
          try replace ht := Lib.hid ht
          try replace hs := Lib.hid hs
          try replace hs2 := Lib.hid hs2
          go_enter Tryz.func33, Tryz.ntmps33
          go_upto_region 1 with fail
          rw [HW.out]
          go_wp2_with fail
          go_ret
          exact ⟨by first | (rw [HM.out]; done) | (rw [HM.out]; rfl), kk⟩
        · obtain ⟨s0, s0'⟩ := dF (p := (0 : Int) < (sec.length : Int)) (by omega)
          obtain ⟨s1, s1'⟩ := dF (p := 0 < sec.length) (by omega)
          obtain ⟨s2, s2'⟩ := dT (p := (sec.length : Int) < 1) (by omega)
          have HM : Hid (M = Bl) := Lib.hid (by rw [hm]; clear hm hb kk; have k0 : 1 ≤ ask := (by omega); have k1 : ask ≤ 10 := (by omega); have k2 : ¬(ask = 1) := (by omega); have k3 : ¬(ask = 2) := (by omega); have k4 : ¬(ask = 3) := (by omega); have k5 : ¬(ask = 10) := (by omega); have k6 : sec.length ≤ 16 := (by omega); unfold mayF; simp [*]; rw [← hBl]; simp)
          clear hm hx hy hz
          try replace ha := Lib.hid ha
          try replace hq := Lib.hid hq
          try replace ht := Lib.hid ht
          try replace hs := Lib.hid hs
          try replace hs2 := Lib.hid hs2
          go_enter Tryz.func33, Tryz.ntmps33
          go_upto_region 1 with fail
          rw [HW.out]
          go_wp2_with fail
          go_ret
          exact ⟨by first | (rw [HM.out]; done) | (rw [HM.out]; rfl), kk⟩
    · have q1 : (y == 0) = false := beq_false_of_ne (by omega)
      have q2 : (y != 0) = true := by simp only [bne, q1, Bool.not_false]
      have HM : Hid (M = false) := Lib.hid (by rw [hm]; clear hm hb kk; have k0 : 1 ≤ ask := (by omega); have k1 : ask ≤ 10 := (by omega); have k2 : ¬(ask = 1) := (by omega); have k3 : ¬(ask = 2) := (by omega); have k4 : ¬(ask = 3) := (by omega); have k5 : ¬(ask = 10) := (by omega); unfold mayF; simp [*])
      clear hm hx hy hz
      try replace ha := Lib.hid ha
      try replace hq := Lib.hid hq
      try replace ht := Lib.hid ht
      try replace hs := Lib.hid hs
      try replace hs2 := Lib.hid hs2
      go_enter Tryz.func33, Tryz.ntmps33
      go_upto_region 1 with fail
      rw [HW.out]
      go_wp2_with fail
      go_ret
      exact ⟨by first | (rw [HM.out]; done) | (rw [HM.out]; rfl), kk⟩
end Go.Proofs.YtjhbpocffckghaaGreatDoor
