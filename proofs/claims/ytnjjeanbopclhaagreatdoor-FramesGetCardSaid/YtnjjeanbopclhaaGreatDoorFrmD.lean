/-
  CONTRACTS for the package frames: Put. Conditions: the slices of the frame read as lists; the list of parts reads as the program's text lays it.
-/
import Derived.Test.YtnjjeanbopclhaaGreatDoorFrmB
import Derived.Test.YtnjjeanbopclhaaGreatDoorNumE
import Derived.Deep.RegionHeld3
namespace Go.Proofs.YtnjjeanbopclhaaGreatDoor
open Go.RowKit

/-- nums.Put, of 8 bytes at most. -/
theorem putN_r (A : Option Addr) (c : Nat) (xs : List Int) (v k : Nat) (w : World) (ha : Rd w A (cs .u8 xs)) (la : xs.length ≤ 100000) (hA : A = none → c = 0) (hk : k ≤ 8) :
    Calls Tryz.prog 29 #[.slice A xs.length c, .int .u64 (v : Int), .int .i64 (k : Int)] w (Rows (xs ++ le v k) w) := by
  have hq := put_f A c xs v k w ha (by omega) hA (by omega)
  have e1 : clampB (k : Int) = k := by unfold clampB; omega
  rw [e1] at hq
  exact hq.mono fun _ _ h => h.rows
theorem le_one {n : Nat} (h : n < 256) : le n 1 = [(n : Int)] := by
  rw [show le n 1 = [((n / 256 ^ 0 % 256 : Nat) : Int)] from rfl, Nat.pow_zero, Nat.div_one, Nat.mod_eq_of_lt h]

set_option maxRecDepth 100000 in
set_option maxHeartbeats 8000000 in
/-- frames.Put -/
theorem putF_f (f : Frm) (w : World) (hf : f.Ok w) (hP : Parts w) {L : List Int} {r : Int} (hv : putFV f.v = (L, r)) :
    Calls Tryz.prog 8 #[f.val] w fun e w' => ∃ A, e = .returned (.tuple #[.slice A L.length L.length, .int .i64 r]) ∧ Fr 5 w' w.heap.size A L.length L.length (cs .u8 L) ∧ Keep w w' := by
  have ls := hf.s.len.le
  have lb := hf.b.len.le
  have la := hf.ask
  have lw := hf.who
  have lq := hf.seq
  have bF := Blk.new w 28 f.cells
  have kk : Keep w (w.alloc (.cells #[.int .u8 f.v.ask, .int .u8 f.v.who, .int .u32 f.v.seq, .int .u64 f.v.tok, .slice f.sa f.v.sec.length f.sc, .slice f.ba f.v.bid.length f.bc] 28)) := Keep.alloc1 _ _
  have hm := may21_f f _ (hf.keep kk) (hP.keep kk)
  have hs := hf.s.keep kk
  have hb := hf.b.keep kk
  have hfacts := fun h => mayF_facts (f := f.v) h
  unfold putFV at hv
  obtain ⟨⟨ask, who, seq, tok, sec, bid⟩, sa, sc, ba, bc⟩ := f
  unfold Frm.cells at bF
  unfold Frm.val at hm ⊢
  simp only at ls lb la lw lq hm bF kk hs hb hv hfacts ⊢
  clear hf hP
  generalize hw1 : w.alloc (.cells #[.int .u8 ask, .int .u8 who, .int .u32 seq, .int .u64 tok, .slice sa sec.length sc, .slice ba bid.length bc] 28) = w1 at kk bF hm hs hb
  cases hmay : mayF ⟨ask, who, seq, tok, sec, bid⟩ with
  | false =>
    rw [hmay] at hm hv
    rw [if_neg (by decide)] at hv
    cases hv
    have c0 := bF.cell_ (i := 0) rfl
    have c1 := bF.cell_ (i := 1) rfl
    have c2 := bF.cell_ (i := 2) rfl
    have c3 := bF.cell_ (i := 3) rfl
    have c4 := bF.cell_ (i := 4) rfl
    have c5 := bF.cell_ (i := 5) rfl
    clear hmay hfacts
    go_enter Tryz.func8, Tryz.ntmps8
    go_upto_region 1 with fail
    go_wp2_with fail
    refine hm.mono ?_
    rintro e w2 ⟨rfl, k2⟩
    go_wp2_with fail
    refine bodyPost_ret (results_tmp2 rfl _ _ _) rfl ?_
    exact ⟨none, rfl, Fr.empty _ _ _ _, kk.trans k2⟩
  | true =>
    obtain ⟨g1, g2, g3, g4, g5⟩ := hfacts hmay
    have G := Lib.hid (And.intro g3 g4)
    have LL : Hid (L = bytesF ⟨ask, who, seq, tok, sec, bid⟩ ∧ r = 0) := by
      rw [hmay, if_pos rfl] at hv
      cases hv
      exact Lib.hid ⟨rfl, rfl⟩
    have LE := Lib.hid (And.intro (le_one la) (le_one lw))
    rw [hmay] at hm
    have c0 := bF.cell_ (i := 0) rfl
    have c1 := bF.cell_ (i := 1) rfl
    have c2 := bF.cell_ (i := 2) rfl
    have c3 := bF.cell_ (i := 3) rfl
    have c4 := bF.cell_ (i := 4) rfl
    have c5 := bF.cell_ (i := 5) rfl
    clear hmay hfacts g1 g2 g3 g4 g5 hv
    have z1 : IntKind.u64.wrap (seq : Int) = seq := by
      show (seq : Int) % 18446744073709551616 = seq
      omega
    go_enter Tryz.func8, Tryz.ntmps8
    go_upto_region 1 with fail
    obtain ⟨gf, hgf⟩ : ∃ gf, gf = w.heap.size := ⟨_, rfl⟩
    rw [← hgf] at bF c0 c1 c2 c3 c4 c5 ⊢
    replace hgf := Lib.hid hgf
    clear hw1
    go_wp2_with fail
    refine hm.mono ?_
    rintro e w2 ⟨rfl, k2⟩
    replace bF := bF.keep k2
    replace hs := hs.keep k2
    replace hb := hb.keep k2
    replace kk := kk.trans k2
    clear hm k2
    have c0 := bF.cell_ (i := 0) rfl
    have c1 := bF.cell_ (i := 1) rfl
    have k0 : Keep w2 (w2.alloc (.cells #[.int .u8 ask, .int .u8 who] 5)) := Keep.alloc1 _ _
    have b0 := Blk.new w2 5 [.int .u8 ask, .int .u8 who]
    have c2 := (bF.keep k0).cell_ (i := 2) rfl
    have rA : Rd (w2.alloc (.cells #[.int .u8 ask, .int .u8 who] 5)) (some ⟨w2.heap.size, 0, none⟩) (cs .u8 [(ask : Int), (who : Int)]) := b0.rd
    have hq := putN_r (some ⟨w2.heap.size, 0, none⟩) 2 [(ask : Int), (who : Int)] seq 4 _ rA (by simp) (fun h => by cases h) (by omega)
    replace hs := hs.keep k0
    replace hb := hb.keep k0
    replace bF := bF.keep k0
    replace kk := kk.trans k0
    clear k0 b0 rA
    go_wp2_with fail
    refine hq.mono ?_
    rintro e w3 ⟨A1, rfl, f1, k1⟩
    have e1 : (([(ask : Int), (who : Int)] ++ le seq 4).length : Int) = 6 := by simp
    replace f1 := f1.mono kk.size
    replace hs := hs.keep k1
    replace hb := hb.keep k1
    replace bF := bF.keep k1
    replace kk := kk.trans k1
    clear hq k1 c0 c1 c2
    obtain ⟨X1, hX1⟩ : ∃ X, X = [(ask : Int), (who : Int)] ++ le seq 4 := ⟨_, rfl⟩
    rw [← hX1] at f1 e1 ⊢
    replace e1 := Lib.hid e1
    have HX1 := Lib.hid hX1
    clear hX1
    go_upto_region 4 with fail
    have KS : ∀ v, Keep w3 v → v.cell? ⟨gf, 3, none⟩ = some (.int .u64 tok) ∧ v.cell? ⟨gf, 4, none⟩ = some (.slice sa sec.length sc) := fun v K' => ⟨K'.cell (bF.cell_ (i := 3) rfl), K'.cell (bF.cell_ (i := 4) rfl)⟩
    refine wp_region_noPanic ?_
    refine wp_region_held_drew (S := (fun v => v.cell? ⟨gf, 3, none⟩ = some (.int .u64 tok) ∧ v.cell? ⟨gf, 4, none⟩ = some (.slice sa sec.length sc))) (by kernel_rfl) (KS _ (Keep.refl w3).drew) (fun hS => ?_)
    have ky := (Keep.refl w3).drew
    generalize w3.drew = v0 at hS ky ⊢
    refine wpAnyH_take (i := 0) (v := ?_) rfl (by kernel_rfl) (by kernel_rfl) (by kernel_rfl) (fun _ _ _ h => h) (Or.inl ⟨by rfl, ?_⟩) hS ?_
    rotate_left
    · (intro w hSw; (try dsimp only at hSw); go_simp; (first | done | with_reducible rfl))
    change wpAnyH _ _ _ _ _ _ _ (Act.put _ (some 17) _) _
    simp only [Act.put, List.setIfInBounds_toArray, List.set_cons_zero, List.set_cons_succ]
    refine wpAnyH_take (i := 1) (v := ?_) rfl (by kernel_rfl) (by kernel_rfl) (by kernel_rfl) (fun _ _ _ h => h) (Or.inl ⟨by rfl, ?_⟩) hS ?_
    rotate_left
    · (intro w hSw; (try dsimp only at hSw); go_simp; (first | done | with_reducible rfl))
    change wpAnyH _ _ _ _ _ _ _ (Act.put _ (some 18) _) _
    simp only [Act.put, List.setIfInBounds_toArray, List.set_cons_zero, List.set_cons_succ]
    refine wpAnyH_take (i := 2) (v := ?_) rfl (by kernel_rfl) (by kernel_rfl) (by kernel_rfl) (fun _ _ _ h => h) (Or.inl ⟨by rfl, ?_⟩) hS ?_
    rotate_left
    · (intro w hSw; (try dsimp only at hSw); go_simp; (first | done | with_reducible rfl))
    change wpAnyH _ _ _ _ _ _ _ (Act.put _ (some 19) _) _
    simp only [Act.put, List.setIfInBounds_toArray, List.set_cons_zero, List.set_cons_succ]
    refine wpAnyH_take (i := 4) (v := ?_) rfl (by kernel_rfl) (by kernel_rfl) (by kernel_rfl) (fun _ _ _ h => h) (Or.inl ⟨by rfl, ?_⟩) hS ?_
    rotate_left
    · (intro w hSw; (try dsimp only at hSw); go_simp; (first | done | with_reducible rfl))
    change wpAnyH _ _ _ _ _ _ _ (Act.put _ (some 21) _) _
    simp only [Act.put, List.setIfInBounds_toArray, List.set_cons_zero, List.set_cons_succ]
    refine wpAnyH_take (i := 5) (v := ?_) rfl (by kernel_rfl) (by kernel_rfl) (by kernel_rfl) (fun _ _ _ h => h) (Or.inl ⟨by rfl, ?_⟩) hS ?_
    rotate_left
    · (intro w hSw; (try dsimp only at hSw); go_simp; (first | done | with_reducible rfl))
    change wpAnyH _ _ _ _ _ _ _ (Act.put _ (some 22) _) _
    simp only [Act.put, List.setIfInBounds_toArray, List.set_cons_zero, List.set_cons_succ]
    refine wpAnyH_ready (rs := [3]) (by kernel_rfl) (by simp) ?_
    refine AllReadyH.cons rfl (fun K hK => ?_) AllReadyH.nil
    go_simp
    have hq := putN_r A1 X1.length X1 tok 8 v0 (f1.keep ky).rd (by have := e1.out; omega) (fun h => f1.capNil h) (by omega)
    refine hq.mono ?_
    rintro e v1 ⟨A2, rfl, f2, kq⟩
    replace f2 := f2.mono (Nat.le_trans kk.size ky.size)
    obtain ⟨X2, hX2⟩ : ∃ X, X = X1 ++ le tok 8 := ⟨_, rfl⟩
    rw [← hX2] at f2 ⊢
    have e2 : (X2.length : Int) = 14 := by rw [hX2, List.length_append, length_le]; have := e1.out; omega
    replace e2 := Lib.hid e2
    have HX2 := Lib.hid hX2
    clear hq hX2
    replace ky := ky.trans kq
    clear kq
    go_wp2_with fail
    refine hK.out _ _ (KS _ ky) (fun hS => ?_)
    clear hK K
    try simp only [Act.put, List.setIfInBounds_toArray, List.set_cons_zero, List.set_cons_succ]
    refine wpAnyH_ready (rs := [6]) (by kernel_rfl) (by simp) ?_
    refine AllReadyH.cons rfl (fun K hK => ?_) AllReadyH.nil
    go_simp
    have hq := putBytes_f A2 X2.length X2 sa sc sec v1 (f2.rd) (by have := e2.out; omega) (fun h => f2.capNil h) (hs.keep ky).rd hs.inn.cap (by unfold Len; have := hs.inn.capI; simp only at this; omega)
    refine hq.mono ?_
    rintro e v2 ⟨A3, rfl, f3, kq⟩
    replace f3 := f3.mono (Nat.le_trans kk.size ky.size)
    obtain ⟨X3, hX3⟩ : ∃ X, X = X2 ++ putBy (sec.take 65535) := ⟨_, rfl⟩
    rw [← hX3] at f3 ⊢
    have e3 : (X3.length : Int) ≤ 10000 := by rw [hX3, List.length_append, length_putBy', List.length_take]; have := e2.out; have := G.out.1; omega
    replace e3 := Lib.hid e3
    have HX3 := Lib.hid hX3
    clear hq hX3
    replace ky := ky.trans kq
    clear kq
    go_wp2_with fail
    refine hK.out _ _ (KS _ ky) (fun hS => ?_)
    clear hK K
    try simp only [Act.put, List.setIfInBounds_toArray, List.set_cons_zero, List.set_cons_succ]
    refine wpAnyH_take (i := 7) (v := ?_) rfl (by kernel_rfl) (by kernel_rfl) (by kernel_rfl) (fun _ _ _ h => h) (Or.inl ⟨by rfl, ?_⟩) hS ?_
    rotate_left
    · (intro w hSw; (try dsimp only at hSw); go_simp; (first | done | with_reducible rfl))
    change wpAnyH _ _ _ _ _ _ _ (Act.put _ (some 4) _) _
    simp only [Act.put, List.setIfInBounds_toArray, List.set_cons_zero, List.set_cons_succ]
    refine wpAnyH_done (by kernel_rfl) ?_ _
    refine NoPanic.normal ?_
    replace hb := hb.keep ky
    replace bF := bF.keep ky
    replace kk := kk.trans ky
    clear ky hs hS KS f1 f2
    have c5 := bF.cell_ (i := 5) rfl
    have hq := putList_f A3 X3.length X3 ba bc bid v2 f3.rd (by have := e3.out; omega) (fun h => f3.capNil h) hb.rd hb.inn.cap (by unfold Len; have := hb.inn.capI; simp only at this; omega)
    go_wp2_with fail
    refine hq.mono ?_
    rintro e w4 ⟨A4, rfl, f4, k4⟩
    have hX4 : X3 ++ putL (bid.take 255) = L := by
      rw [LL.out.1, HX3.out, HX2.out, HX1.out, show sec.take 65535 = sec from List.take_of_length_le (by have := G.out.1; omega), show bid.take 255 = bid from List.take_of_length_le (by have := G.out.2; omega)]
      unfold bytesF
      rw [LE.out.1, LE.out.2]
      simp only [List.append_assoc, List.cons_append, List.nil_append]
    rw [hX4] at f4 ⊢
    clear hX4
    have hq2 := clipB_f A4 L.length L.length w4 (Nat.le_refl _) (by unfold Len; have := f4.capMax; unfold maxLen at this; omega)
    replace f4 := f4.mono kk.size
    go_wp2_with fail
    refine hq2.mono ?_
    rintro e w5 ⟨rfl, rfl⟩
    go_wp2_with fail
    refine bodyPost_ret (results_tmp2 rfl _ _ _) rfl ?_
    exact ⟨A4, by rw [LL.out.2]; rfl, f4, kk.trans k4⟩
end Go.Proofs.YtnjjeanbopclhaaGreatDoor
