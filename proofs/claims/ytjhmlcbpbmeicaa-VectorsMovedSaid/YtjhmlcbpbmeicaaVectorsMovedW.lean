/-
  THE WALK OF THE LAW VectorsMoved: it answers true, and turns nothing that was there. Conditions: the arguments are a slice of arrays of two int16 that came in, an int16, a byte.
-/
import Derived.Test.YtjhmlcbpbmeicaaVecD
import Derived.Test.YtjhmlcbpbmeicaaOwnAll
import Derived.IntWalk
namespace Go.Proofs.Ytjhmlcbpbmeicaa
open Go.RowKit

/-- The first k numbers that a function gives. -/
def upto (f : Nat → Int) (k : Nat) : List Int := (List.range k).map f
theorem length_upto (f : Nat → Int) (k : Nat) : (upto f k).length = k := by simp [upto]
theorem upto_succ (f : Nat → Int) (k : Nat) : upto f (k + 1) = upto f k ++ [f k] := by simp [upto, List.range_succ]
theorem upto_at (f : Nat → Int) {k j : Nat} (h : j < k) : (upto f k)[j]? = some (f j) := by simp [upto, h]
theorem small_upto {f : Nat → Int} {k : Nat} (h : ∀ i, i < k → -100000 ≤ f i ∧ f i ≤ 100000) : Small (upto f k) := fun x hx => by
  unfold upto at hx
  rw [List.mem_map] at hx
  obtain ⟨i, hi, rfl⟩ := hx
  have := h i (List.mem_range.1 hi)
  omega
theorem worth_n (A B : Option Addr) (c d n : Nat) (xs ys : List Int) (i r : Int) (w : World) (hx : xs.length = n) (hy : ys.length = n) (hv : worth xs ys i = r) (hn : n ≤ 100000) (sa : Small xs) (sb : Small ys) (ha : Rd w A (cs .i64 xs)) (hb : Rd w B (cs .i64 ys)) :
    Calls Try.prog 34 #[.slice A n c, .slice B n d, .int .i64 i] w fun e w' => e = .returned (.int .i64 r) ∧ Keep w w' := by
  subst hx
  rw [← hv]
  have h := worth_f A B c d xs ys i w ha hb (by unfold Reach; omega) (by unfold Reach; omega) sa sb
  rw [hy] at h
  exact tellsK h
theorem step_own {w w' : World} {base : Nat} {L : List Sl} {a : Option Addr} {c k : Nat} {f : Nat → Int} {A' : Option Addr} {c' : Nat} {x : Int} (h : OwnAll w base (⟨a, c, upto f k⟩ :: L)) (happ : Appended 3 w base a c (k + 1) (cs .i64 (upto f k) ++ [.int .i64 x]) A' c' w') (hx : x = f k) :
    OwnAll w' base (L ++ [⟨A', c', upto f (k + 1)⟩]) := by
  subst hx
  rw [← cs_one, ← cs_append, ← upto_succ] at happ
  exact h.step happ (length_upto f (k + 1)).symm

theorem own_head {w : World} {base : Nat} {L : List Sl} {a : Option Addr} {c k : Nat} {f : Nat → Int} (h : OwnAll w base (⟨a, c, upto f k⟩ :: L)) : Fr 3 w base a k c (cs .i64 (upto f k)) := by
  have h1 := h.head
  simp only [length_upto] at h1
  exact h1
theorem own_rd {w : World} {base : Nat} {L : List Sl} {a : Option Addr} {c k : Nat} {f : Nat → Int} (h : OwnAll w base L) (hs : (⟨a, c, upto f k⟩ : Sl) ∈ L) : Rd w a (cs .i64 (upto f k)) := (h.fr hs).rd

set_option maxRecDepth 100000 in
set_option maxHeartbeats 8000000 in
theorem vectorsMoved_w (A : Option Addr) (c len : Nat) (X Y : Nat → Int) (d q : Int) (w : World) (hlc : len ≤ c) (hc : c ≤ maxLen)
    (hX : ∀ i, i < len → ((Lit.int .i16 (X i)).wf = true ∧ (Lit.int .i16 (Y i)).wf = true ∧ ∃ b off, A = some ⟨b, off, none⟩ ∧ w.cell? ⟨b, off + i * 2, none⟩ = some (.int .i16 (X i)) ∧ w.cell? ⟨b, off + i * 2 + 1, none⟩ = some (.int .i16 (Y i)))) (hd : -32768 ≤ d ∧ d ≤ 32767) (hq : 0 ≤ q ∧ q < 256) :
    Calls Try.prog 10 #[.slice A len c, .int .i16 d, .int .u8 q] w fun e w' => e = .returned (.bool true) ∧ Below w.heap.size w w' := by
  have lc : (len : Int) ≤ 9223372036854775807 := by unfold maxLen at hc; omega
  have HX := Lib.hid hX
  clear hX
  by_cases h0 : len = 0
  · have h0b : ((len : Int) == 0) = true := by rw [h0]; rfl
    have h0c : (len = 0) = True := eq_true h0
    clear h0
    go_enter Try.func10, Try.ntmps10
    go_wp2_with fail
    refine (alive04_f w).mono ?_
    rintro e w1 ⟨rfl, k1⟩
    go_wp2_with fail
    refine (alive04_f w1).mono ?_
    rintro e w2 ⟨rfl, k2⟩
    go_wp2_with fail
    go_ret
    exact ⟨rfl, k1.trans k2⟩
  have h0b : ((len : Int) == 0) = false := beq_eq_false_iff_ne.2 (by omega)
  by_cases hbig : (300 : Int) < len
  · go_enter Try.func10, Try.ntmps10
    go_wp2_with fail
    refine (alive04_f w).mono ?_
    rintro e w1 ⟨rfl, k1⟩
    go_wp2_with fail
    refine (alive04_f w1).mono ?_
    rintro e w2 ⟨rfl, k2⟩
    go_wp2_with fail
    go_ret
    exact ⟨rfl, k1.trans k2⟩
  have hlen0 : (0 : Int) < len := by omega
  obtain ⟨kk, hkk⟩ : ∃ kk : Nat, q % (len : Int) = kk := ⟨(q % (len : Int)).toNat, by
    have := Int.emod_nonneg q (b := (len : Int)) (by omega)
    omega⟩
  have hk1 : kk < len := by
    have := Int.emod_lt_of_pos q (b := (len : Int)) (by omega)
    omega
  have HK := Lib.hid hkk
  clear hkk
  go_enter Try.func10, Try.ntmps10
  go_wp2_with fail
  refine (alive04_f w).mono ?_
  rintro e w1 ⟨rfl, k1⟩
  go_wp2_with fail
  obtain ⟨W, hW⟩ : ∃ W, W = w1 := ⟨_, rfl⟩
  subst hW
  go_loopw [7, 8, 9, 10, 11, 12] (fun v7 v8 v9 v10 v11 i wr => ∃ (k : Nat) (a1 : Option Addr) (c1 : Nat) (a2 : Option Addr) (c2 : Nat) (a3 : Option Addr) (c3 : Nat) (a4 : Option Addr) (c4 : Nat) (a5 : Option Addr) (c5 : Nat), k ≤ len ∧ i = .int .i64 k ∧ v7 = .slice a1 k c1 ∧ v8 = .slice a2 k c2 ∧ v9 = .slice a3 k c3 ∧ v10 = .slice a4 k c4 ∧ v11 = .slice a5 k c5 ∧
    OwnAll wr W.heap.size [⟨a1, c1, upto X k⟩, ⟨a2, c2, upto Y k⟩, ⟨a3, c3, upto (fun i => X i + d) k⟩, ⟨a4, c4, upto (fun i => Y i + d) k⟩, ⟨a5, c5, upto (fun i => Y i + 1) k⟩] ∧ Keep W wr) (fun _ _ _ _ _ i _ => len - (intOf i).toNat)
  case atStart => exact ⟨0, none, 0, none, 0, none, 0, none, 0, none, 0, Nat.zero_le _, rfl, rfl, rfl, rfl, rfl, rfl, OwnAll.nils W _ 5, Keep.refl _⟩
  case round =>
    obtain ⟨k, a1, c1, a2, c2, a3, c3, a4, c4, a5, c5, hk, rfl, rfl, rfl, rfl, rfl, rfl, hown, hkeep⟩ := hrel
    by_cases hlt : k < len
    · obtain ⟨wx, wy, b, off, hA, hcx, hcy⟩ := HX.out k hlt
      subst hA
      have hcxb := k1.cell hcx
      have hcyb := k1.cell hcy
      replace hcx := hkeep.cell hcxb
      replace hcy := hkeep.cell hcyb
      have bx := bounds_i16 wx
      have b_y := bounds_i16 wy
      obtain ⟨x, hx⟩ : ∃ x, x = X k := ⟨_, rfl⟩
      obtain ⟨y, hy⟩ : ∃ y, y = Y k := ⟨_, rfl⟩
      rw [← hx] at hcx hcxb bx
      rw [← hy] at hcy hcyb b_y
      have HXk := Lib.hid hx
      have HYk := Lib.hid hy
      clear hx hy wx wy
      have hs := hkeep.size
      have kl : k < len := hlt
      go_wp2_with (at_builtin; refine wpList_append_fr _ rfl _ _ 22 rfl W.heap.size 3 (.int .i64 0) 8 Try.underlying22 infoInt rfl a1 k c1 _ rfl (own_head (hown.keep (Keep.alloc1 _ _))) (some ⟨wr.heap.size, 0, none⟩) 1 1 [.int .i64 (x)] rfl rfl (Rd.one _ _ _) (one_int _ _) ?h0a ?h0b ?h0c ?_)
      case h0a => unfold maxLen; omega
      case h0b => omega
      case h0c => have := hkeep.size; simp; omega
      intro A0' c0' w2 happ
      have kp0 := happ.keep (hkeep.alloc _) (own_head (hown.keep (Keep.alloc1 _ _)))
      have own0 := step_own (f := X) (hown.keep (Keep.alloc1 _ _)) happ (HXk.out)
      simp only [List.cons_append, List.nil_append] at own0
      clear happ hown
      have hcxn0 := kp0.cell (hcxb)
      have hcyn0 := kp0.cell (hcyb)
      go_wp2_with (at_builtin; refine wpList_append_fr _ rfl _ _ 22 rfl W.heap.size 3 (.int .i64 0) 8 Try.underlying22 infoInt rfl a2 k c2 _ rfl (own_head (own0.keep (Keep.alloc1 _ _))) (some ⟨w2.heap.size, 0, none⟩) 1 1 [.int .i64 (y)] rfl rfl (Rd.one _ _ _) (one_int _ _) ?h1a ?h1b ?h1c ?_)
      case h1a => unfold maxLen; omega
      case h1b => omega
      case h1c => have := kp0.size; simp; omega
      intro A1' c1' w3 happ
      have kp1 := happ.keep (kp0.alloc _) (own_head (own0.keep (Keep.alloc1 _ _)))
      have own1 := step_own (f := Y) (own0.keep (Keep.alloc1 _ _)) happ (HYk.out)
      simp only [List.cons_append, List.nil_append] at own1
      clear happ own0
      have hcxn1 := kp1.cell (hcxb)
      have hcyn1 := kp1.cell (hcyb)
      go_wp2_with (at_builtin; refine wpList_append_fr _ rfl _ _ 22 rfl W.heap.size 3 (.int .i64 0) 8 Try.underlying22 infoInt rfl a3 k c3 _ rfl (own_head (own1.keep (Keep.alloc1 _ _))) (some ⟨w3.heap.size, 0, none⟩) 1 1 [.int .i64 (x + d)] rfl rfl (Rd.one _ _ _) (one_int _ _) ?h2a ?h2b ?h2c ?_)
      case h2a => unfold maxLen; omega
      case h2b => omega
      case h2c => have := kp1.size; simp; omega
      intro A2' c2' w4 happ
      have kp2 := happ.keep (kp1.alloc _) (own_head (own1.keep (Keep.alloc1 _ _)))
      have own2 := step_own (f := fun i => X i + d) (own1.keep (Keep.alloc1 _ _)) happ (by show x + d = X k + d; rw [HXk.out])
      simp only [List.cons_append, List.nil_append] at own2
      clear happ own1
      have hcxn2 := kp2.cell (hcxb)
      have hcyn2 := kp2.cell (hcyb)
      go_wp2_with (at_builtin; refine wpList_append_fr _ rfl _ _ 22 rfl W.heap.size 3 (.int .i64 0) 8 Try.underlying22 infoInt rfl a4 k c4 _ rfl (own_head (own2.keep (Keep.alloc1 _ _))) (some ⟨w4.heap.size, 0, none⟩) 1 1 [.int .i64 (y + d)] rfl rfl (Rd.one _ _ _) (one_int _ _) ?h3a ?h3b ?h3c ?_)
      case h3a => unfold maxLen; omega
      case h3b => omega
      case h3c => have := kp2.size; simp; omega
      intro A3' c3' w5 happ
      have kp3 := happ.keep (kp2.alloc _) (own_head (own2.keep (Keep.alloc1 _ _)))
      have own3 := step_own (f := fun i => Y i + d) (own2.keep (Keep.alloc1 _ _)) happ (by show y + d = Y k + d; rw [HYk.out])
      simp only [List.cons_append, List.nil_append] at own3
      clear happ own2
      have hcxn3 := kp3.cell (hcxb)
      have hcyn3 := kp3.cell (hcyb)
      go_wp2_with (at_builtin; refine wpList_append_fr _ rfl _ _ 22 rfl W.heap.size 3 (.int .i64 0) 8 Try.underlying22 infoInt rfl a5 k c5 _ rfl (own_head (own3.keep (Keep.alloc1 _ _))) (some ⟨w5.heap.size, 0, none⟩) 1 1 [.int .i64 (y + 1)] rfl rfl (Rd.one _ _ _) (one_int _ _) ?h4a ?h4b ?h4c ?_)
      case h4a => unfold maxLen; omega
      case h4b => omega
      case h4c => have := kp3.size; simp; omega
      intro A4' c4' w6 happ
      have kp4 := happ.keep (kp3.alloc _) (own_head (own3.keep (Keep.alloc1 _ _)))
      have own4 := step_own (f := fun i => Y i + 1) (own3.keep (Keep.alloc1 _ _)) happ (by show y + 1 = Y k + 1; rw [HYk.out])
      simp only [List.cons_append, List.nil_append] at own4
      clear happ own3
      go_wp2_with fail
      go_roundw
      case rel => exact ⟨k + 1, A0', c0', A1', c1', A2', c2', A3', c3', A4', c4', by omega, by go_num, rfl, rfl, rfl, rfl, rfl, own4, kp4⟩
      case measure => simp [intOf]; omega
    · obtain rfl : k = len := by omega
      have r1 := own_rd (a := a1) (c := c1) (k := k) (f := X) hown (by simp)
      have r2 := own_rd (a := a2) (c := c2) (k := k) (f := Y) hown (by simp)
      have r3 := own_rd (a := a3) (c := c3) (k := k) (f := fun i => X i + d) hown (by simp)
      have r4 := own_rd (a := a4) (c := c4) (k := k) (f := fun i => Y i + d) hown (by simp)
      have r5 := own_rd (a := a5) (c := c5) (k := k) (f := fun i => Y i + 1) hown (by simp)
      have bX : ∀ i, i < k → -32768 ≤ X i ∧ X i ≤ 32767 := fun i hi => bounds_i16 (HX.out i hi).1
      have bY : ∀ i, i < k → -32768 ≤ Y i ∧ Y i ≤ 32767 := fun i hi => bounds_i16 (HX.out i hi).2.1
      have s1 : Small (upto X k) := small_upto fun i hi => by have := bX i hi; omega
      have s2 : Small (upto Y k) := small_upto fun i hi => by have := bY i hi; omega
      have s3 : Small (upto (fun i => X i + d) k) := small_upto fun i hi => by have := bX i hi; omega
      have s4 : Small (upto (fun i => Y i + d) k) := small_upto fun i hi => by have := bY i hi; omega
      have s5 : Small (upto (fun i => Y i + 1) k) := small_upto fun i hi => by have := bY i hi; omega
      obtain ⟨R, hR⟩ : ∃ R, R = max (-1) (X kk - Y kk) := ⟨_, rfl⟩
      obtain ⟨R3, hR3⟩ : ∃ R3, R3 = max (-1) (X kk - (Y kk + 1)) := ⟨_, rfl⟩
      have hkeep' := k1.trans hkeep
      have g1 := worth_n a1 a2 c1 c2 k (upto X k) (upto Y k) kk R wr (length_upto _ _) (length_upto _ _) (by rw [worth_in (upto_at X hk1) (upto_at Y hk1), hR]) (by omega) s1 s2 r1 r2
      have g2 := fun w' (kw : Keep wr w') => worth_n a3 a4 c3 c4 k (upto (fun i => X i + d) k) (upto (fun i => Y i + d) k) kk R w' (length_upto _ _) (length_upto _ _) (by rw [worth_in (upto_at _ hk1) (upto_at _ hk1), hR]; omega) (by omega) s3 s4 (r3.keep kw) (r4.keep kw)
      have g3 := fun w' (kw : Keep wr w') => worth_n a1 a5 c1 c5 k (upto X k) (upto (fun i => Y i + 1) k) kk R3 w' (length_upto _ _) (length_upto _ _) (by rw [worth_in (upto_at _ hk1) (upto_at _ hk1), hR3]) (by omega) s1 s5 (r1.keep kw) (r5.keep kw)
      have g4 := fun w' (kw : Keep wr w') => worth_n a1 a1 c1 c1 k (upto X k) (upto X k) kk 0 w' (length_upto _ _) (length_upto _ _) (by rw [worth_in (upto_at _ hk1) (upto_at _ hk1)]; omega) (by omega) s1 s1 (r1.keep kw) (r1.keep kw)
      have hcase : (0 < R ∧ R3 = R - 1 ∧ R ≤ 100000) ∨ (R = 0 ∧ R3 = -1) ∨ (R = -1 ∧ R3 = -1) := by
        have := bX kk hk1
        have := bY kk hk1
        omega
      have hkq := HK.out
      clear r1 r2 r3 r4 r5 s1 s2 s3 s4 s5 bX bY hR hR3 hown
      rcases hcase with ⟨R0, rfl, R1⟩ | ⟨rfl, rfl⟩ | ⟨rfl, rfl⟩
      all_goals
        go_wp2_with fail
        refine g1.mono ?_
        rintro e w2 ⟨rfl, k2⟩
        go_wp2_with fail
        refine (g2 w2 k2).mono ?_
        rintro e w3 ⟨rfl, k3⟩
        go_wp2_with fail
        refine (g3 w3 (k2.trans k3)).mono ?_
        rintro e w4 ⟨rfl, k4⟩
        go_wp2_with fail
        refine (g4 w4 ((k2.trans k3).trans k4)).mono ?_
        rintro e w5 ⟨rfl, k5⟩
        go_wp2_with fail
        go_ret
        exact ⟨rfl, hkeep'.trans (((k2.trans k3).trans k4).trans k5)⟩
end Go.Proofs.Ytjhmlcbpbmeicaa
