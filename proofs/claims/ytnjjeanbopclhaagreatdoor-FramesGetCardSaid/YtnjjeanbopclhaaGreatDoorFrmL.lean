/-
  CONTRACTS for the package frames: PutReply. Conditions: the slices of the reply read as lists.
-/
import Derived.Test.YtnjjeanbopclhaaGreatDoorFrmC
import Derived.Test.YtnjjeanbopclhaaGreatDoorFrmD
import Derived.Deep.RegionHeld3
import Derived.Deep.CutRange
namespace Go.Proofs.YtnjjeanbopclhaaGreatDoor
open Go.RowKit

theorem one_u8 (x : Int) : ∀ u ∈ [Value.int .u8 x], u.oneCell' = true := fun u hu => by
  rw [List.mem_singleton] at hu
  subst hu
  rfl
theorem item_u8 {i : Int} (h : -1 ≤ i ∧ i < 8) : IntKind.u8.wrap i = (itemN i : Int) := by
  show i % 256 = _
  unfold itemN
  split <;> omega
theorem small_u8 {i : Int} (h : 0 ≤ i ∧ i < 256) : IntKind.u8.wrap i = i := by
  show i % 256 = _
  omega
theorem small_u64 {i : Int} (h : 0 ≤ i ∧ i ≤ 2000000) : IntKind.u64.wrap i = (i.toNat : Int) := by
  show i % 18446744073709551616 = _
  omega
theorem u32_u64 {i : Nat} (h : i < 4294967296) : IntKind.u64.wrap (i : Int) = i := by
  show (i : Int) % 18446744073709551616 = _
  omega

set_option maxRecDepth 100000 in
set_option maxHeartbeats 16000000 in
/-- frames.PutReply -/
theorem putR_f (r : Rpl) (w : World) (hr : r.Ok w) {L : List Int} {x : Int} (hv : putRV r.v = (L, x)) :
    Calls Tryz.prog 10 #[r.val] w fun e w' => ∃ A, e = .returned (.tuple #[.slice A L.length L.length, .int .i64 x]) ∧ Fr 5 w' w.heap.size A L.length L.length (cs .u8 L) ∧ Keep w w' := by
  have lb := hr.b.len.le
  have lc := hr.c.len.le
  have bF := Blk.new w 32 r.cells
  have kk : Keep w (w.alloc (.cells #[.int .i64 r.v.e, .int .u32 r.v.seq, .int .u64 r.v.tok, .int .u8 r.v.ph, .int .u64 r.v.tm, .bool r.v.has, .slice r.ba r.v.bid.length r.bc, .int .i64 r.v.item, .int .i64 r.v.pays, .slice r.ca r.v.cert.length r.cc] 32)) := Keep.alloc1 _ _
  have hm := mayR21_f r _ (hr.keep kk)
  have hb := hr.b.keep kk
  have hc := hr.c.keep kk
  have hq1 := hr.seq
  have hq2 := hr.ph
  have hfacts := fun h => mayR_facts (r := r.v) h
  unfold putRV at hv
  obtain ⟨⟨e, seq, tok, ph, tm, has, bid, item, pays, cert⟩, ba, bc, ca, cc⟩ := r
  unfold Rpl.cells at bF
  unfold Rpl.val at hm ⊢
  simp only at lb lc hm bF kk hb hc hv hq1 hq2 hfacts ⊢
  clear hr
  generalize hw1 : w.alloc (.cells #[.int .i64 e, .int .u32 seq, .int .u64 tok, .int .u8 ph, .int .u64 tm, .bool has, .slice ba bid.length bc, .int .i64 item, .int .i64 pays, .slice ca cert.length cc] 32) = w1 at kk bF hm hb hc
  cases hmay : mayR ⟨e, seq, tok, ph, tm, has, bid, item, pays, cert⟩ with
  | false =>
    rw [hmay] at hm hv
    rw [if_neg (by decide)] at hv
    cases hv
    have c0 := bF.cell_ (i := 0) rfl
    have c1 := bF.cell_ (i := 1) rfl
    have c2 := bF.cell_ (i := 2) rfl
    have c3 := bF.cell_ (i := 3) rfl
    have c4 := bF.cell_ (i := 4) rfl
    have c5 := bF.cell_ (i := 5) rfl
    have c6 := bF.cell_ (i := 6) rfl
    have c7 := bF.cell_ (i := 7) rfl
    have c8 := bF.cell_ (i := 8) rfl
    have c9 := bF.cell_ (i := 9) rfl
    clear hmay hfacts
    go_enter Tryz.func10, Tryz.ntmps10
    go_upto_region 1 with fail
    go_wp2_with fail
    refine hm.mono ?_
    rintro e w2 ⟨rfl, k2⟩
    go_wp2_with fail
    refine bodyPost_ret (results_tmp2 rfl _ _ _) rfl ?_
    exact ⟨none, rfl, Fr.empty _ _ _ _, kk.trans k2⟩
  | true =>
    obtain ⟨g1, g2, g3, g4, g5, g6, g7, g8, g9, g10, g11⟩ := hfacts hmay
    have G := Lib.hid (And.intro g9 g10)
    have zE := small_u8 (i := e) (by omega)
    have zI := item_u8 (i := item) (by omega)
    have zP := small_u64 (i := pays) (by omega)
    have zS := u32_u64 hq1
    obtain ⟨pn, hpn⟩ : ∃ pn : Nat, pn = pays.toNat := ⟨_, rfl⟩
    rw [← hpn] at zP
    replace hpn := Lib.hid hpn
    have LL : Hid (L = bytesR ⟨e, seq, tok, ph, tm, has, bid, item, pays, cert⟩ ∧ x = 0) := by
      rw [hmay, if_pos rfl] at hv
      cases hv
      exact Lib.hid ⟨rfl, rfl⟩
    have LE := Lib.hid (And.intro (show le e.toNat 1 = [e] by rw [le_one (by omega), Int.toNat_of_nonneg g1]) (And.intro (le_one (n := ph) hq2) (And.intro (show le (hasN has) 1 = [(hasN has : Int)] from le_one (by unfold hasN; split <;> omega)) (show le (itemN item) 1 = [(itemN item : Int)] from le_one (by unfold itemN; split <;> omega)))))
    rw [hmay] at hm
    have c0 := bF.cell_ (i := 0) rfl
    have c1 := bF.cell_ (i := 1) rfl
    have c2 := bF.cell_ (i := 2) rfl
    have c3 := bF.cell_ (i := 3) rfl
    have c4 := bF.cell_ (i := 4) rfl
    have c5 := bF.cell_ (i := 5) rfl
    have c6 := bF.cell_ (i := 6) rfl
    have c7 := bF.cell_ (i := 7) rfl
    have c8 := bF.cell_ (i := 8) rfl
    have c9 := bF.cell_ (i := 9) rfl
    clear hmay hfacts g1 g2 g3 g4 g5 g6 g7 g8 g9 g10 g11 hv hq1 hq2
    go_enter Tryz.func10, Tryz.ntmps10
    go_upto_region 1 with fail
    obtain ⟨gf, hgf⟩ : ∃ gf, gf = w.heap.size := ⟨_, rfl⟩
    rw [← hgf] at bF c0 c1 c2 c3 c4 c5 c6 c7 c8 c9 ⊢
    replace hgf := Lib.hid hgf
    clear hw1
    go_wp2_with fail
    refine hm.mono ?_
    rintro e1 w2 ⟨rfl, k2⟩
    replace bF := bF.keep k2
    replace hb := hb.keep k2
    replace hc := hc.keep k2
    replace kk := kk.trans k2
    clear hm k2 c0 c1 c2 c3 c4 c5 c6 c7 c8 c9
    have KS : ∀ v, Keep w2 v → v.cell? ⟨gf, 0, none⟩ = some (.int .i64 e) ∧ v.cell? ⟨gf, 1, none⟩ = some (.int .u32 seq) ∧ v.cell? ⟨gf, 2, none⟩ = some (.int .u64 tok) ∧ v.cell? ⟨gf, 3, none⟩ = some (.int .u8 ph) ∧ v.cell? ⟨gf, 4, none⟩ = some (.int .u64 tm) ∧ v.cell? ⟨gf, 5, none⟩ = some (.bool has) ∧ v.cell? ⟨gf, 6, none⟩ = some (.slice ba bid.length bc) ∧ v.cell? ⟨gf, 7, none⟩ = some (.int .i64 item) ∧ v.cell? ⟨gf, 8, none⟩ = some (.int .i64 pays) ∧ v.cell? ⟨gf, 9, none⟩ = some (.slice ca cert.length cc) := fun v K' => ⟨K'.cell (bF.cell_ (i := 0) rfl), K'.cell (bF.cell_ (i := 1) rfl), K'.cell (bF.cell_ (i := 2) rfl), K'.cell (bF.cell_ (i := 3) rfl), K'.cell (bF.cell_ (i := 4) rfl), K'.cell (bF.cell_ (i := 5) rfl), K'.cell (bF.cell_ (i := 6) rfl), K'.cell (bF.cell_ (i := 7) rfl), K'.cell (bF.cell_ (i := 8) rfl), K'.cell (bF.cell_ (i := 9) rfl)⟩
    have kz := Keep.refl w2
    have HWB := Lib.hid kk.size
    go_upto_region 3 with fail
    refine wp_region_noPanic ?_
    refine wp_region_held_drew (S := (fun v => v.cell? ⟨gf, 0, none⟩ = some (.int .i64 e) ∧ v.cell? ⟨gf, 1, none⟩ = some (.int .u32 seq) ∧ v.cell? ⟨gf, 2, none⟩ = some (.int .u64 tok) ∧ v.cell? ⟨gf, 3, none⟩ = some (.int .u8 ph) ∧ v.cell? ⟨gf, 4, none⟩ = some (.int .u64 tm) ∧ v.cell? ⟨gf, 5, none⟩ = some (.bool has) ∧ v.cell? ⟨gf, 6, none⟩ = some (.slice ba bid.length bc) ∧ v.cell? ⟨gf, 7, none⟩ = some (.int .i64 item) ∧ v.cell? ⟨gf, 8, none⟩ = some (.int .i64 pays) ∧ v.cell? ⟨gf, 9, none⟩ = some (.slice ca cert.length cc))) (by kernel_rfl) (KS _ kz.drew) (fun hS => ?_)
    replace kz := kz.drew
    generalize w2.drew = v0 at hS kz ⊢
    refine wpAnyH_take (i := 0) (v := ?_) rfl (by kernel_rfl) (by kernel_rfl) (by kernel_rfl) (fun _ _ _ h => h) (Or.inl ⟨by rfl, ?_⟩) hS ?_
    rotate_left
    · (intro w hSw; (try dsimp only at hSw); go_simp; (first | done | with_reducible rfl))
    change wpAnyH _ _ _ _ _ _ _ (Act.put _ (some 8) _) _
    simp only [Act.put, List.setIfInBounds_toArray, List.set_cons_zero, List.set_cons_succ]
    refine wpAnyH_take (i := 1) (v := ?_) rfl (by kernel_rfl) (by kernel_rfl) (by kernel_rfl) (fun _ _ _ h => h) (Or.inl ⟨by rfl, ?_⟩) hS ?_
    rotate_left
    · (intro w hSw; (try dsimp only at hSw); go_simp; (first | done | with_reducible rfl))
    change wpAnyH _ _ _ _ _ _ _ (Act.put _ (some 9) _) _
    simp only [Act.put, List.setIfInBounds_toArray, List.set_cons_zero, List.set_cons_succ]
    refine wpAnyH_take (i := 2) (v := ?_) rfl (by kernel_rfl) (by kernel_rfl) (by kernel_rfl) (fun _ _ _ h => h) (Or.inl ⟨by rfl, ?_⟩) hS ?_
    rotate_left
    · (intro w hSw; (try dsimp only at hSw); go_simp; (first | done | with_reducible rfl))
    change wpAnyH _ _ _ _ _ _ _ (Act.put _ (some 10) _) _
    simp only [Act.put, List.setIfInBounds_toArray, List.set_cons_zero, List.set_cons_succ]
    refine wpAnyH_take (i := 4) (v := ?_) rfl (by kernel_rfl) (by kernel_rfl) (by kernel_rfl) (fun _ _ _ h => h) (Or.inl ⟨by rfl, ?_⟩) hS ?_
    rotate_left
    · (intro w hSw; (try dsimp only at hSw); go_simp; (first | done | with_reducible rfl))
    change wpAnyH _ _ _ _ _ _ _ (Act.put _ (some 12) _) _
    simp only [Act.put, List.setIfInBounds_toArray, List.set_cons_zero, List.set_cons_succ]
    refine wpAnyH_take (i := 5) (v := ?_) rfl (by kernel_rfl) (by kernel_rfl) (by kernel_rfl) (fun _ _ _ h => h) (Or.inl ⟨by rfl, ?_⟩) hS ?_
    rotate_left
    · (intro w hSw; (try dsimp only at hSw); go_simp; (first | done | with_reducible rfl))
    change wpAnyH _ _ _ _ _ _ _ (Act.put _ (some 13) _) _
    simp only [Act.put, List.setIfInBounds_toArray, List.set_cons_zero, List.set_cons_succ]
    refine wpAnyH_take (i := 6) (v := ?_) rfl (by kernel_rfl) (by kernel_rfl) (by kernel_rfl) (fun _ _ _ h => h) (Or.inl ⟨by rfl, ?_⟩) hS ?_
    rotate_left
    · (intro w hSw; (try dsimp only at hSw); go_simp; (first | done | with_reducible rfl))
    change wpAnyH _ _ _ _ _ _ _ (Act.put _ (some 14) _) _
    simp only [Act.put, List.setIfInBounds_toArray, List.set_cons_zero, List.set_cons_succ]
    refine wpAnyH_take (i := 8) (v := ?_) rfl (by kernel_rfl) (by kernel_rfl) (by kernel_rfl) (fun _ _ _ h => h) (Or.inl ⟨by rfl, ?_⟩) hS ?_
    rotate_left
    · (intro w hSw; (try dsimp only at hSw); go_simp; (first | done | with_reducible rfl))
    change wpAnyH _ _ _ _ _ _ _ (Act.put _ (some 16) _) _
    simp only [Act.put, List.setIfInBounds_toArray, List.set_cons_zero, List.set_cons_succ]
    refine wpAnyH_take (i := 9) (v := ?_) rfl (by kernel_rfl) (by kernel_rfl) (by kernel_rfl) (fun _ _ _ h => h) (Or.inl ⟨by rfl, ?_⟩) hS ?_
    rotate_left
    · (intro w hSw; (try dsimp only at hSw); go_simp; (first | done | with_reducible rfl))
    change wpAnyH _ _ _ _ _ _ _ (Act.put _ (some 17) _) _
    simp only [Act.put, List.setIfInBounds_toArray, List.set_cons_zero, List.set_cons_succ]
    refine wpAnyH_ready (rs := [3]) (by kernel_rfl) (by simp) ?_
    refine AllReadyH.cons rfl (fun K hK => ?_) AllReadyH.nil
    go_simp
    have kn : Keep v0 (v0.alloc (.cells #[.int .u8 e] 5)) := Keep.alloc1 _ _
    have rb : Rd _ _ (cs .u8 [e]) := Rd.one v0 (.int .u8 e) 5
    obtain ⟨X0, hX0⟩ : ∃ X, X = [e] := ⟨_, rfl⟩
    rw [← hX0] at rb
    have HX0 : Hid (X0.length ≤ 1) := Lib.hid (by rw [hX0]; exact Nat.le_refl 1)
    refine hK.out _ _ (KS _ (kz.trans kn)) (fun hS => ?_)
    clear hK K
    try simp only [Act.put, List.setIfInBounds_toArray, List.set_cons_zero, List.set_cons_succ]
    refine wpAnyH_ready (rs := [7]) (by kernel_rfl) (by simp) ?_
    refine AllReadyH.cons rfl (fun K hK => ?_) AllReadyH.nil
    go_simp
    replace kz := kz.trans kn
    rw [hX0] at rb
    have hq := putN_r (some ⟨v0.heap.size, 0, none⟩) 1 [e] seq 4 _ rb (by simp) (fun h => by cases h) (by omega)
    refine hq.mono ?_
    rintro e1 v1 ⟨A1, rfl, fA1, kq⟩
    replace fA1 := fA1.mono kz.size
    obtain ⟨X1, hX1⟩ : ∃ X, X = [e] ++ le seq 4 := ⟨_, rfl⟩
    rw [← hX1] at fA1 ⊢
    have HX1 : Hid (X1.length ≤ 5) := by rw [hX1, List.length_append, length_le]; exact Lib.hid (Nat.le_refl 5)
    have EX1 := Lib.hid hX1
    clear hq hX1
    replace kz := kz.trans kq
    clear kq
    go_wp2_with fail
    refine hK.out _ _ (KS _ kz) (fun hS => ?_)
    clear hK K
    try simp only [Act.put, List.setIfInBounds_toArray, List.set_cons_zero, List.set_cons_succ]
    refine wpAnyH_ready (rs := [10]) (by kernel_rfl) (by simp) ?_
    refine AllReadyH.cons rfl (fun K hK => ?_) AllReadyH.nil
    go_simp
    have hq := putN_r A1 X1.length X1 tok 8 v1 fA1.rd (by have := HX1.out; omega) (fun h => fA1.capNil h) (by omega)
    refine hq.mono ?_
    rintro e1 v2 ⟨A2, rfl, fA2, kq⟩
    replace fA2 := fA2.mono kz.size
    obtain ⟨X2, hX2⟩ : ∃ X, X = X1 ++ le tok 8 := ⟨_, rfl⟩
    rw [← hX2] at fA2 ⊢
    have HX2 : Hid (X2.length ≤ 13) := by rw [hX2, List.length_append, length_le]; have := HX1.out; exact Lib.hid (by omega)
    have EX2 := Lib.hid hX2
    clear hq hX2
    replace kz := kz.trans kq
    clear kq
    go_wp2_with fail
    refine hK.out _ _ (KS _ kz) (fun hS => ?_)
    clear hK K
    try simp only [Act.put, List.setIfInBounds_toArray, List.set_cons_zero, List.set_cons_succ]
    refine wpAnyH_take (i := 11) (v := ?_) rfl (by kernel_rfl) (by kernel_rfl) (by kernel_rfl) (fun _ _ _ h => h) (Or.inl ⟨by rfl, ?_⟩) hS ?_
    rotate_left
    · (intro w hSw; (try dsimp only at hSw); go_simp; (first | done | with_reducible rfl))
    change wpAnyH _ _ _ _ _ _ _ (Act.put _ (some 4) _) _
    simp only [Act.put, List.setIfInBounds_toArray, List.set_cons_zero, List.set_cons_succ]
    refine wpAnyH_done (by kernel_rfl) ?_ _
    refine NoPanic.normal ?_
    replace kz := (show Keep w2 v2 from kz)
    clear hS
    obtain ⟨X3, hX3⟩ : ∃ X, X = X2 ++ [(ph : Int)] := ⟨_, rfl⟩
    obtain ⟨X4, hX4⟩ : ∃ X, X = X3 ++ le tm 8 := ⟨_, rfl⟩
    obtain ⟨X5, hX5⟩ : ∃ X, X = X4 ++ [(0 : Int)] := ⟨_, rfl⟩
    have HX3 : Hid (X3.length = X2.length + 1) := by rw [hX3, List.length_append]; exact Lib.hid rfl
    have HX4 : Hid (X4.length = X3.length + 8) := by rw [hX4, List.length_append, length_le]; exact Lib.hid rfl
    have HX5 : Hid (X5.length = X4.length + 1) := by rw [hX5, List.length_append]; exact Lib.hid rfl
    have EX3 := Lib.hid hX3
    have EX4 := Lib.hid hX4
    have EX5 := Lib.hid hX5
    clear hX3 hX4 hX5
    have KZ2 := Lib.hid kz
    go_upto_region 4 with fail
    go_cut [4] from 19 to 28 (fun v wx => ∃ A c, v = .slice A X5.length c ∧ Fr 5 wx w2.heap.size A X5.length c (cs .u8 X5) ∧ Keep w2 wx)
    case first =>
      refine wp_region_noPanic ?_
      refine wp_region_held_drew (S := (fun v => v.cell? ⟨gf, 0, none⟩ = some (.int .i64 e) ∧ v.cell? ⟨gf, 1, none⟩ = some (.int .u32 seq) ∧ v.cell? ⟨gf, 2, none⟩ = some (.int .u64 tok) ∧ v.cell? ⟨gf, 3, none⟩ = some (.int .u8 ph) ∧ v.cell? ⟨gf, 4, none⟩ = some (.int .u64 tm) ∧ v.cell? ⟨gf, 5, none⟩ = some (.bool has) ∧ v.cell? ⟨gf, 6, none⟩ = some (.slice ba bid.length bc) ∧ v.cell? ⟨gf, 7, none⟩ = some (.int .i64 item) ∧ v.cell? ⟨gf, 8, none⟩ = some (.int .i64 pays) ∧ v.cell? ⟨gf, 9, none⟩ = some (.slice ca cert.length cc))) (by kernel_rfl) (KS _ kz.drew) (fun hS => ?_)
      replace kz := kz.drew
      replace fA2 := fA2.keep (Keep.refl v2).drew
      generalize v2.drew = v0 at hS kz fA2 ⊢
      refine wpAnyH_take (i := 0) (v := ?_) rfl (by kernel_rfl) (by kernel_rfl) (by kernel_rfl) (fun _ _ _ h => h) (Or.inl ⟨by rfl, ?_⟩) hS ?_
      rotate_left
      · (intro w hSw; (try dsimp only at hSw); go_simp; (first | done | with_reducible rfl))
      change wpAnyH _ _ _ _ _ _ _ (Act.put _ (some 19) _) _
      simp only [Act.put, List.setIfInBounds_toArray, List.set_cons_zero, List.set_cons_succ]
      refine wpAnyH_take (i := 1) (v := ?_) rfl (by kernel_rfl) (by kernel_rfl) (by kernel_rfl) (fun _ _ _ h => h) (Or.inl ⟨by rfl, ?_⟩) hS ?_
      rotate_left
      · (intro w hSw; (try dsimp only at hSw); go_simp; (first | done | with_reducible rfl))
      change wpAnyH _ _ _ _ _ _ _ (Act.put _ (some 20) _) _
      simp only [Act.put, List.setIfInBounds_toArray, List.set_cons_zero, List.set_cons_succ]
      refine wpAnyH_take (i := 2) (v := ?_) rfl (by kernel_rfl) (by kernel_rfl) (by kernel_rfl) (fun _ _ _ h => h) (Or.inl ⟨by rfl, ?_⟩) hS ?_
      rotate_left
      · (intro w hSw; (try dsimp only at hSw); go_simp; (first | done | with_reducible rfl))
      change wpAnyH _ _ _ _ _ _ _ (Act.put _ (some 21) _) _
      simp only [Act.put, List.setIfInBounds_toArray, List.set_cons_zero, List.set_cons_succ]
      refine wpAnyH_take (i := 5) (v := ?_) rfl (by kernel_rfl) (by kernel_rfl) (by kernel_rfl) (fun _ _ _ h => h) (Or.inl ⟨by rfl, ?_⟩) hS ?_
      rotate_left
      · (intro w hSw; (try dsimp only at hSw); go_simp; (first | done | with_reducible rfl))
      change wpAnyH _ _ _ _ _ _ _ (Act.put _ (some 24) _) _
      simp only [Act.put, List.setIfInBounds_toArray, List.set_cons_zero, List.set_cons_succ]
      refine wpAnyH_take (i := 6) (v := ?_) rfl (by kernel_rfl) (by kernel_rfl) (by kernel_rfl) (fun _ _ _ h => h) (Or.inl ⟨by rfl, ?_⟩) hS ?_
      rotate_left
      · (intro w hSw; (try dsimp only at hSw); go_simp; (first | done | with_reducible rfl))
      change wpAnyH _ _ _ _ _ _ _ (Act.put _ (some 25) _) _
      simp only [Act.put, List.setIfInBounds_toArray, List.set_cons_zero, List.set_cons_succ]
      refine wpAnyH_ready (rs := [3, 8]) (by kernel_rfl) (by simp) ?_
      refine AllReadyH.cons rfl (fun K hK => ?_) ?_
      · go_simp
        have kn : Keep v0 (v0.alloc (.cells #[.int .u8 (ph : Int)] 5)) := Keep.alloc1 _ _
        refine hK.out _ _ (KS _ (kz.trans kn)) (fun hS => ?_)
        clear hK K
        try simp only [Act.put, List.setIfInBounds_toArray, List.set_cons_zero, List.set_cons_succ]
        have rb1 := Blk.new v0 5 [.int .u8 (ph : Int)]
        have nb1 : ∀ k, ownB A2 X2.length = some k → v0.heap.size ≠ k := fun k hk => by have := (fA2.own_ge hk).2; omega
        have kz1 := kz.trans kn
        have f1 := fA2.keep kn
        obtain ⟨g1, hg1⟩ : ∃ g, g = v0.heap.size := ⟨_, rfl⟩
        rw [← hg1] at rb1 nb1 ⊢
        generalize v0.alloc (.cells #[.int .u8 (ph : Int)] 5) = v1 at hS rb1 kz1 f1 ⊢
        clear hg1 kn
        refine wpAnyH_ready (rs := [4, 8]) (by kernel_rfl) (by simp) ?_
        refine AllReadyH.cons rfl (fun K hK => ?_) ?_
        · rw [if_pos (by rfl)]
          refine wp_append_fr _ (.tmp 19) (.tmp 22) 25 rfl w2.heap.size 5 (.int .u8 0) 1 Tryz.underlying25 infoByte rfl A2 X2.length X2.length _ rfl f1 (some ⟨g1, 0, none⟩) 1 1 (cs .u8 [(ph : Int)]) rfl rfl rb1.rd (one_u8 _) ?g1 ?g2 ?g3 ?_
          case g1 => have := HX5.out; have := HX4.out; have := HX3.out; have := HX2.out; unfold maxLen; omega
          case g2 => have := HX5.out; have := HX4.out; have := HX3.out; have := HX2.out; omega
          case g3 => exact kz1.size
          intro A2 c2 v2 happ
          have kz2 := happ.keep kz1 f1
          have f2 := happ.fr
          rw [← cs_append, ← EX3.out, ← HX3.out] at f2
          refine hK.out _ _ (KS _ kz2) (fun hS => ?_)
          clear hK K
          change wpAnyH _ _ _ _ _ _ _ (Act.put _ (some 23) _) _
          try simp only [Act.put, List.setIfInBounds_toArray, List.set_cons_zero, List.set_cons_succ]
          rw [← HX3.out]
          clear happ
          refine wpAnyH_ready (rs := [7, 8]) (by kernel_rfl) (by simp) ?_
          refine AllReadyH.cons rfl (fun K hK => ?_) ?_
          · go_simp
            have hq := putN_r A2 c2 X3 tm 8 v2 f2.rd (by have := HX5.out; have := HX4.out; have := HX3.out; have := HX2.out; omega) (fun h => f2.capNil h) (by omega)
            refine hq.mono ?_
            rintro e1 v3 ⟨A3, rfl, f3, kq⟩
            replace f3 := f3.mono kz2.size
            rw [← EX4.out] at f3 ⊢
            have kz3 := kz2.trans kq
            clear kq hq
            go_wp2_with fail
            refine hK.out _ _ (KS _ kz3) (fun hS => ?_)
            clear hK K
            try simp only [Act.put, List.setIfInBounds_toArray, List.set_cons_zero, List.set_cons_succ]
            refine wpAnyH_ready (rs := [8]) (by kernel_rfl) (by simp) ?_
            refine AllReadyH.cons rfl (fun K hK => ?_) AllReadyH.nil
            go_simp
            have kn : Keep v3 (v3.alloc (.cells #[.int .u8 0] 5)) := Keep.alloc1 _ _
            refine hK.out _ _ (KS _ (kz3.trans kn)) (fun hS => ?_)
            clear hK K
            try simp only [Act.put, List.setIfInBounds_toArray, List.set_cons_zero, List.set_cons_succ]
            have rb4 := Blk.new v3 5 [.int .u8 0]
            have nb4 : ∀ k, ownB A3 X4.length = some k → v3.heap.size ≠ k := fun k hk => by have := (f3.own_ge hk).2; omega
            have kz4 := kz3.trans kn
            have f4 := f3.keep kn
            obtain ⟨g4, hg4⟩ : ∃ g, g = v3.heap.size := ⟨_, rfl⟩
            rw [← hg4] at rb4 nb4 ⊢
            generalize v3.alloc (.cells #[.int .u8 0] 5) = v4 at hS rb4 kz4 f4 ⊢
            clear hg4 kn
            refine wpAnyH_ready (rs := [9]) (by kernel_rfl) (by simp) ?_
            refine AllReadyH.cons rfl (fun K hK => ?_) AllReadyH.nil
            rw [if_pos (by rfl)]
            refine wp_append_fr _ (.tmp 26) (.tmp 27) 25 rfl w2.heap.size 5 (.int .u8 0) 1 Tryz.underlying25 infoByte rfl A3 X4.length X4.length _ rfl f4 (some ⟨g4, 0, none⟩) 1 1 (cs .u8 [(0 : Int)]) rfl rfl rb4.rd (one_u8 _) ?g1 ?g2 ?g3 ?_
            case g1 => have := HX5.out; have := HX4.out; have := HX3.out; have := HX2.out; unfold maxLen; omega
            case g2 => have := HX5.out; have := HX4.out; have := HX3.out; have := HX2.out; omega
            case g3 => exact kz4.size
            intro A5 c5 v5 happ
            have kz5 := happ.keep kz4 f4
            have f5 := happ.fr
            rw [← cs_append, ← EX5.out, ← HX5.out] at f5
            refine hK.out _ _ (KS _ kz5) (fun hS => ?_)
            clear hK K
            change wpAnyH _ _ _ _ _ _ _ (Act.put _ (some 28) _) _
            try simp only [Act.put, List.setIfInBounds_toArray, List.set_cons_zero, List.set_cons_succ]
            rw [← HX5.out]
            clear happ
            refine wpAnyH_take (i := 10) (v := ?_) rfl (by kernel_rfl) (by kernel_rfl) (by kernel_rfl) (fun _ _ _ h => h) (Or.inl ⟨by rfl, ?_⟩) hS ?_
            rotate_left
            · (intro w hSw; (try dsimp only at hSw); go_simp; (first | done | with_reducible rfl))
            change wpAnyH _ _ _ _ _ _ _ (Act.put _ (some 4) _) _
            simp only [Act.put, List.setIfInBounds_toArray, List.set_cons_zero, List.set_cons_succ]
            refine wpAnyH_done (by kernel_rfl) ?_ _
            refine NoPanic.normal ?_
            go_wp2_with fail
            go_meet
            exact ⟨A5, c5, rfl, f5, kz5⟩
          refine AllReadyH.cons rfl (fun K hK => ?_) ?_
          · go_simp
            have kn : Keep v2 (v2.alloc (.cells #[.int .u8 0] 5)) := Keep.alloc1 _ _
            refine hK.out _ _ (KS _ (kz2.trans kn)) (fun hS => ?_)
            clear hK K
            try simp only [Act.put, List.setIfInBounds_toArray, List.set_cons_zero, List.set_cons_succ]
            have rb6 := Blk.new v2 5 [.int .u8 0]
            have nb6 : ∀ k, ownB A2 c2 = some k → v2.heap.size ≠ k := fun k hk => by have := (f2.own_ge hk).2; omega
            have kz6 := kz2.trans kn
            have f6 := f2.keep kn
            obtain ⟨g6, hg6⟩ : ∃ g, g = v2.heap.size := ⟨_, rfl⟩
            rw [← hg6] at rb6 nb6 ⊢
            generalize v2.alloc (.cells #[.int .u8 0] 5) = v6 at hS rb6 kz6 f6 ⊢
            clear hg6 kn
            refine wpAnyH_ready (rs := [7]) (by kernel_rfl) (by simp) ?_
            refine AllReadyH.cons rfl (fun K hK => ?_) AllReadyH.nil
            go_simp
            have hq := putN_r A2 c2 X3 tm 8 v6 f6.rd (by have := HX5.out; have := HX4.out; have := HX3.out; have := HX2.out; omega) (fun h => f6.capNil h) (by omega)
            refine hq.mono ?_
            rintro e1 v7 ⟨A7, rfl, f7, kq⟩
            replace f7 := f7.mono kz6.size
            rw [← EX4.out] at f7 ⊢
            have kz7 := kz6.trans kq
            replace rb6 := rb6.keep kq
            clear kq hq
            go_wp2_with fail
            refine hK.out _ _ (KS _ kz7) (fun hS => ?_)
            clear hK K
            try simp only [Act.put, List.setIfInBounds_toArray, List.set_cons_zero, List.set_cons_succ]
            refine wpAnyH_ready (rs := [9]) (by kernel_rfl) (by simp) ?_
            refine AllReadyH.cons rfl (fun K hK => ?_) AllReadyH.nil
            rw [if_pos (by rfl)]
            refine wp_append_fr _ (.tmp 26) (.tmp 27) 25 rfl w2.heap.size 5 (.int .u8 0) 1 Tryz.underlying25 infoByte rfl A7 X4.length X4.length _ rfl f7 (some ⟨g6, 0, none⟩) 1 1 (cs .u8 [(0 : Int)]) rfl rfl rb6.rd (one_u8 _) ?g1 ?g2 ?g3 ?_
            case g1 => have := HX5.out; have := HX4.out; have := HX3.out; have := HX2.out; unfold maxLen; omega
            case g2 => have := HX5.out; have := HX4.out; have := HX3.out; have := HX2.out; omega
            case g3 => exact kz7.size
            intro A8 c8 v8 happ
            have kz8 := happ.keep kz7 f7
            have f8 := happ.fr
            rw [← cs_append, ← EX5.out, ← HX5.out] at f8
            refine hK.out _ _ (KS _ kz8) (fun hS => ?_)
            clear hK K
            change wpAnyH _ _ _ _ _ _ _ (Act.put _ (some 28) _) _
            try simp only [Act.put, List.setIfInBounds_toArray, List.set_cons_zero, List.set_cons_succ]
            rw [← HX5.out]
            clear happ
            refine wpAnyH_take (i := 10) (v := ?_) rfl (by kernel_rfl) (by kernel_rfl) (by kernel_rfl) (fun _ _ _ h => h) (Or.inl ⟨by rfl, ?_⟩) hS ?_
            rotate_left
            · (intro w hSw; (try dsimp only at hSw); go_simp; (first | done | with_reducible rfl))
            change wpAnyH _ _ _ _ _ _ _ (Act.put _ (some 4) _) _
            simp only [Act.put, List.setIfInBounds_toArray, List.set_cons_zero, List.set_cons_succ]
            refine wpAnyH_done (by kernel_rfl) ?_ _
            refine NoPanic.normal ?_
            go_wp2_with fail
            go_meet
            exact ⟨A8, c8, rfl, f8, kz8⟩
          exact AllReadyH.nil
        refine AllReadyH.cons rfl (fun K hK => ?_) ?_
        · go_simp
          have kn : Keep v1 (v1.alloc (.cells #[.int .u8 0] 5)) := Keep.alloc1 _ _
          refine hK.out _ _ (KS _ (kz1.trans kn)) (fun hS => ?_)
          clear hK K
          try simp only [Act.put, List.setIfInBounds_toArray, List.set_cons_zero, List.set_cons_succ]
          have rb9 := Blk.new v1 5 [.int .u8 0]
          have nb9 : ∀ k, ownB A2 X2.length = some k → v1.heap.size ≠ k := fun k hk => by have := (f1.own_ge hk).2; omega
          have kz9 := kz1.trans kn
          have f9 := f1.keep kn
          replace rb1 := rb1.keep kn
          obtain ⟨g9, hg9⟩ : ∃ g, g = v1.heap.size := ⟨_, rfl⟩
          rw [← hg9] at rb9 nb9 ⊢
          generalize v1.alloc (.cells #[.int .u8 0] 5) = v9 at hS rb9 kz9 f9 rb1 ⊢
          clear hg9 kn
          refine wpAnyH_ready (rs := [4]) (by kernel_rfl) (by simp) ?_
          refine AllReadyH.cons rfl (fun K hK => ?_) AllReadyH.nil
          rw [if_pos (by rfl)]
          refine wp_append_fr _ (.tmp 19) (.tmp 22) 25 rfl w2.heap.size 5 (.int .u8 0) 1 Tryz.underlying25 infoByte rfl A2 X2.length X2.length _ rfl f9 (some ⟨g1, 0, none⟩) 1 1 (cs .u8 [(ph : Int)]) rfl rfl rb1.rd (one_u8 _) ?g1 ?g2 ?g3 ?_
          case g1 => have := HX5.out; have := HX4.out; have := HX3.out; have := HX2.out; unfold maxLen; omega
          case g2 => have := HX5.out; have := HX4.out; have := HX3.out; have := HX2.out; omega
          case g3 => exact kz9.size
          intro A10 c10 v10 happ
          have kz10 := happ.keep kz9 f9
          have f10 := happ.fr
          rw [← cs_append, ← EX3.out, ← HX3.out] at f10
          replace rb9 := rb9.grown happ.2.1 (fun h => nb9 _ h.symm rfl)
          refine hK.out _ _ (KS _ kz10) (fun hS => ?_)
          clear hK K
          change wpAnyH _ _ _ _ _ _ _ (Act.put _ (some 23) _) _
          try simp only [Act.put, List.setIfInBounds_toArray, List.set_cons_zero, List.set_cons_succ]
          rw [← HX3.out]
          clear happ
          refine wpAnyH_ready (rs := [7]) (by kernel_rfl) (by simp) ?_
          refine AllReadyH.cons rfl (fun K hK => ?_) AllReadyH.nil
          go_simp
          have hq := putN_r A10 c10 X3 tm 8 v10 f10.rd (by have := HX5.out; have := HX4.out; have := HX3.out; have := HX2.out; omega) (fun h => f10.capNil h) (by omega)
          refine hq.mono ?_
          rintro e1 v11 ⟨A11, rfl, f11, kq⟩
          replace f11 := f11.mono kz10.size
          rw [← EX4.out] at f11 ⊢
          have kz11 := kz10.trans kq
          replace rb9 := rb9.keep kq
          clear kq hq
          go_wp2_with fail
          refine hK.out _ _ (KS _ kz11) (fun hS => ?_)
          clear hK K
          try simp only [Act.put, List.setIfInBounds_toArray, List.set_cons_zero, List.set_cons_succ]
          refine wpAnyH_ready (rs := [9]) (by kernel_rfl) (by simp) ?_
          refine AllReadyH.cons rfl (fun K hK => ?_) AllReadyH.nil
          rw [if_pos (by rfl)]
          refine wp_append_fr _ (.tmp 26) (.tmp 27) 25 rfl w2.heap.size 5 (.int .u8 0) 1 Tryz.underlying25 infoByte rfl A11 X4.length X4.length _ rfl f11 (some ⟨g9, 0, none⟩) 1 1 (cs .u8 [(0 : Int)]) rfl rfl rb9.rd (one_u8 _) ?g1 ?g2 ?g3 ?_
          case g1 => have := HX5.out; have := HX4.out; have := HX3.out; have := HX2.out; unfold maxLen; omega
          case g2 => have := HX5.out; have := HX4.out; have := HX3.out; have := HX2.out; omega
          case g3 => exact kz11.size
          intro A12 c12 v12 happ
          have kz12 := happ.keep kz11 f11
          have f12 := happ.fr
          rw [← cs_append, ← EX5.out, ← HX5.out] at f12
          refine hK.out _ _ (KS _ kz12) (fun hS => ?_)
          clear hK K
          change wpAnyH _ _ _ _ _ _ _ (Act.put _ (some 28) _) _
          try simp only [Act.put, List.setIfInBounds_toArray, List.set_cons_zero, List.set_cons_succ]
          rw [← HX5.out]
          clear happ
          refine wpAnyH_take (i := 10) (v := ?_) rfl (by kernel_rfl) (by kernel_rfl) (by kernel_rfl) (fun _ _ _ h => h) (Or.inl ⟨by rfl, ?_⟩) hS ?_
          rotate_left
          · (intro w hSw; (try dsimp only at hSw); go_simp; (first | done | with_reducible rfl))
          change wpAnyH _ _ _ _ _ _ _ (Act.put _ (some 4) _) _
          simp only [Act.put, List.setIfInBounds_toArray, List.set_cons_zero, List.set_cons_succ]
          refine wpAnyH_done (by kernel_rfl) ?_ _
          refine NoPanic.normal ?_
          go_wp2_with fail
          go_meet
          exact ⟨A12, c12, rfl, f12, kz12⟩
        exact AllReadyH.nil
      refine AllReadyH.cons rfl (fun K hK => ?_) ?_
      · go_simp
        have kn : Keep v0 (v0.alloc (.cells #[.int .u8 0] 5)) := Keep.alloc1 _ _
        refine hK.out _ _ (KS _ (kz.trans kn)) (fun hS => ?_)
        clear hK K
        try simp only [Act.put, List.setIfInBounds_toArray, List.set_cons_zero, List.set_cons_succ]
        have rb13 := Blk.new v0 5 [.int .u8 0]
        have nb13 : ∀ k, ownB A2 X2.length = some k → v0.heap.size ≠ k := fun k hk => by have := (fA2.own_ge hk).2; omega
        have kz13 := kz.trans kn
        have f13 := fA2.keep kn
        obtain ⟨g13, hg13⟩ : ∃ g, g = v0.heap.size := ⟨_, rfl⟩
        rw [← hg13] at rb13 nb13 ⊢
        generalize v0.alloc (.cells #[.int .u8 0] 5) = v13 at hS rb13 kz13 f13 ⊢
        clear hg13 kn
        refine wpAnyH_ready (rs := [3]) (by kernel_rfl) (by simp) ?_
        refine AllReadyH.cons rfl (fun K hK => ?_) AllReadyH.nil
        go_simp
        have kn : Keep v13 (v13.alloc (.cells #[.int .u8 (ph : Int)] 5)) := Keep.alloc1 _ _
        refine hK.out _ _ (KS _ (kz13.trans kn)) (fun hS => ?_)
        clear hK K
        try simp only [Act.put, List.setIfInBounds_toArray, List.set_cons_zero, List.set_cons_succ]
        have rb14 := Blk.new v13 5 [.int .u8 (ph : Int)]
        have nb14 : ∀ k, ownB A2 X2.length = some k → v13.heap.size ≠ k := fun k hk => by have := (f13.own_ge hk).2; omega
        have kz14 := kz13.trans kn
        have f14 := f13.keep kn
        replace rb13 := rb13.keep kn
        obtain ⟨g14, hg14⟩ : ∃ g, g = v13.heap.size := ⟨_, rfl⟩
        rw [← hg14] at rb14 nb14 ⊢
        generalize v13.alloc (.cells #[.int .u8 (ph : Int)] 5) = v14 at hS rb14 kz14 f14 rb13 ⊢
        clear hg14 kn
        refine wpAnyH_ready (rs := [4]) (by kernel_rfl) (by simp) ?_
        refine AllReadyH.cons rfl (fun K hK => ?_) AllReadyH.nil
        rw [if_pos (by rfl)]
        refine wp_append_fr _ (.tmp 19) (.tmp 22) 25 rfl w2.heap.size 5 (.int .u8 0) 1 Tryz.underlying25 infoByte rfl A2 X2.length X2.length _ rfl f14 (some ⟨g14, 0, none⟩) 1 1 (cs .u8 [(ph : Int)]) rfl rfl rb14.rd (one_u8 _) ?g1 ?g2 ?g3 ?_
        case g1 => have := HX5.out; have := HX4.out; have := HX3.out; have := HX2.out; unfold maxLen; omega
        case g2 => have := HX5.out; have := HX4.out; have := HX3.out; have := HX2.out; omega
        case g3 => exact kz14.size
        intro A15 c15 v15 happ
        have kz15 := happ.keep kz14 f14
        have f15 := happ.fr
        rw [← cs_append, ← EX3.out, ← HX3.out] at f15
        replace rb13 := rb13.grown happ.2.1 (fun h => nb13 _ h.symm rfl)
        refine hK.out _ _ (KS _ kz15) (fun hS => ?_)
        clear hK K
        change wpAnyH _ _ _ _ _ _ _ (Act.put _ (some 23) _) _
        try simp only [Act.put, List.setIfInBounds_toArray, List.set_cons_zero, List.set_cons_succ]
        rw [← HX3.out]
        clear happ
        refine wpAnyH_ready (rs := [7]) (by kernel_rfl) (by simp) ?_
        refine AllReadyH.cons rfl (fun K hK => ?_) AllReadyH.nil
        go_simp
        have hq := putN_r A15 c15 X3 tm 8 v15 f15.rd (by have := HX5.out; have := HX4.out; have := HX3.out; have := HX2.out; omega) (fun h => f15.capNil h) (by omega)
        refine hq.mono ?_
        rintro e1 v16 ⟨A16, rfl, f16, kq⟩
        replace f16 := f16.mono kz15.size
        rw [← EX4.out] at f16 ⊢
        have kz16 := kz15.trans kq
        replace rb13 := rb13.keep kq
        clear kq hq
        go_wp2_with fail
        refine hK.out _ _ (KS _ kz16) (fun hS => ?_)
        clear hK K
        try simp only [Act.put, List.setIfInBounds_toArray, List.set_cons_zero, List.set_cons_succ]
        refine wpAnyH_ready (rs := [9]) (by kernel_rfl) (by simp) ?_
        refine AllReadyH.cons rfl (fun K hK => ?_) AllReadyH.nil
        rw [if_pos (by rfl)]
        refine wp_append_fr _ (.tmp 26) (.tmp 27) 25 rfl w2.heap.size 5 (.int .u8 0) 1 Tryz.underlying25 infoByte rfl A16 X4.length X4.length _ rfl f16 (some ⟨g13, 0, none⟩) 1 1 (cs .u8 [(0 : Int)]) rfl rfl rb13.rd (one_u8 _) ?g1 ?g2 ?g3 ?_
        case g1 => have := HX5.out; have := HX4.out; have := HX3.out; have := HX2.out; unfold maxLen; omega
        case g2 => have := HX5.out; have := HX4.out; have := HX3.out; have := HX2.out; omega
        case g3 => exact kz16.size
        intro A17 c17 v17 happ
        have kz17 := happ.keep kz16 f16
        have f17 := happ.fr
        rw [← cs_append, ← EX5.out, ← HX5.out] at f17
        refine hK.out _ _ (KS _ kz17) (fun hS => ?_)
        clear hK K
        change wpAnyH _ _ _ _ _ _ _ (Act.put _ (some 28) _) _
        try simp only [Act.put, List.setIfInBounds_toArray, List.set_cons_zero, List.set_cons_succ]
        rw [← HX5.out]
        clear happ
        refine wpAnyH_take (i := 10) (v := ?_) rfl (by kernel_rfl) (by kernel_rfl) (by kernel_rfl) (fun _ _ _ h => h) (Or.inl ⟨by rfl, ?_⟩) hS ?_
        rotate_left
        · (intro w hSw; (try dsimp only at hSw); go_simp; (first | done | with_reducible rfl))
        change wpAnyH _ _ _ _ _ _ _ (Act.put _ (some 4) _) _
        simp only [Act.put, List.setIfInBounds_toArray, List.set_cons_zero, List.set_cons_succ]
        refine wpAnyH_done (by kernel_rfl) ?_ _
        refine NoPanic.normal ?_
        go_wp2_with fail
        go_meet
        exact ⟨A17, c17, rfl, f17, kz17⟩
      exact AllReadyH.nil
    case rest =>
    obtain ⟨A3, c3, rfl, f3, k3⟩ := hcut
    have h5 := HX5.out
    rw [h5] at f3 ⊢
    clear h5
    obtain ⟨X6, hX6⟩ : ∃ X, X = X4 ++ [(hasN has : Int)] := ⟨_, rfl⟩
    have HX6 : Hid (X6.length = X4.length + 1) := by rw [hX6, List.length_append]; exact Lib.hid rfl
    have EX6 := Lib.hid hX6
    clear hX6
    obtain ⟨gA, rfl, hgA, -⟩ := f3.form (by omega)
    have c5 := k3.cell (bF.cell_ (i := 5) rfl)
    have clA : wc.cell? ⟨gA, X4.length, none⟩ = some (.int .u8 0) := by
      have h := f3.rd.cells X4.length (.int .u8 0) (by rw [EX5.out, cs_append, List.getElem?_append_right (by rw [length_cs]; exact Nat.le_refl _), length_cs, Nat.sub_self]; rfl)
      rwa [Addr.add_lit, Nat.zero_add] at h
    have frA := f3.frozen (by omega) X4.length
    have zb : (0 : Int) ≤ X4.length ∧ (X4.length : Int) < X4.length + 1 := by omega
    have zw : (X4.length : Int) ≤ 1000000 := by have := HX4.out; have := HX3.out; have := HX2.out; omega
    go_upto_if 30 with fail
    go_cut [4] from 31 to 35 (fun v wx => v = .slice (some ⟨gA, 0, none⟩) (X4.length + 1) c3 ∧ Fr 5 wx w2.heap.size (some ⟨gA, 0, none⟩) (X4.length + 1) c3 (cs .u8 X6) ∧ Keep w2 wx)
    case first =>
      cases has with
      | true =>
        go_wp2_with fail
        go_meet
        refine ⟨rfl, ?_, k3.setCell (p := ⟨gA, X4.length, none⟩) hgA _⟩
        have h := f3.stored (j := X4.length) (by omega) (.int .u8 1)
        rw [show (cs .u8 X5).set X4.length (.int .u8 1) = cs .u8 X6 by
          rw [EX5.out, EX6.out, cs_append, cs_append, List.set_append_right _ _ (by rw [length_cs]; exact Nat.le_refl _), length_cs, Nat.sub_self]
          rfl] at h
        exact h
      | false =>
        go_wp2_with fail
        go_meet
        refine ⟨rfl, ?_, k3⟩
        rw [EX6.out]
        rw [EX5.out] at f3
        exact f3
    case rest =>
    obtain ⟨rfl, f6, k6⟩ := hcut
    clear f3 k3 clA frA zb
    rw [← HX6.out] at f6 ⊢
    obtain ⟨X7, hX7⟩ : ∃ X, X = X6 ++ putL (bid.take 255) := ⟨_, rfl⟩
    obtain ⟨X8, hX8⟩ : ∃ X, X = X7 ++ [(itemN item : Int)] := ⟨_, rfl⟩
    obtain ⟨X9, hX9⟩ : ∃ X, X = X8 ++ le pn 4 := ⟨_, rfl⟩
    have HX7 : Hid (X7.length ≤ 2000) := by
      rw [hX7, List.length_append, length_putL, List.length_take]
      have := HX6.out; have := HX5.out; have := HX4.out; have := HX3.out; have := HX2.out
      exact Lib.hid (by omega)
    have HX8 : Hid (X8.length = X7.length + 1) := by rw [hX8, List.length_append]; exact Lib.hid rfl
    have HX9 : Hid (X9.length = X8.length + 4) := by rw [hX9, List.length_append, length_le]; exact Lib.hid rfl
    have EX7 := Lib.hid hX7
    have EX8 := Lib.hid hX8
    have EX9 := Lib.hid hX9
    clear hX7 hX8 hX9 c5
    go_upto_region 7 with fail
    go_cut [4] from 36 to 48 (fun v wx => ∃ A, v = .slice A X9.length X9.length ∧ Fr 5 wx w2.heap.size A X9.length X9.length (cs .u8 X9) ∧ Keep w2 wx)
    case first =>
      refine wp_region_noPanic ?_
      refine wp_region_held_drew (S := (fun v => v.cell? ⟨gf, 0, none⟩ = some (.int .i64 e) ∧ v.cell? ⟨gf, 1, none⟩ = some (.int .u32 seq) ∧ v.cell? ⟨gf, 2, none⟩ = some (.int .u64 tok) ∧ v.cell? ⟨gf, 3, none⟩ = some (.int .u8 ph) ∧ v.cell? ⟨gf, 4, none⟩ = some (.int .u64 tm) ∧ v.cell? ⟨gf, 5, none⟩ = some (.bool has) ∧ v.cell? ⟨gf, 6, none⟩ = some (.slice ba bid.length bc) ∧ v.cell? ⟨gf, 7, none⟩ = some (.int .i64 item) ∧ v.cell? ⟨gf, 8, none⟩ = some (.int .i64 pays) ∧ v.cell? ⟨gf, 9, none⟩ = some (.slice ca cert.length cc))) (by kernel_rfl) (KS _ k6.drew) (fun hS => ?_)
      replace k6 := k6.drew
      replace f6 := f6.keep (Keep.refl wc).drew
      generalize wc.drew = v0 at hS k6 f6 ⊢
      refine wpAnyH_take (i := 0) (v := ?_) rfl (by kernel_rfl) (by kernel_rfl) (by kernel_rfl) (fun _ _ _ h => h) (Or.inl ⟨by rfl, ?_⟩) hS ?_
      rotate_left
      · (intro w hSw; (try dsimp only at hSw); go_simp; (first | done | with_reducible rfl))
      change wpAnyH _ _ _ _ _ _ _ (Act.put _ (some 36) _) _
      simp only [Act.put, List.setIfInBounds_toArray, List.set_cons_zero, List.set_cons_succ]
      refine wpAnyH_take (i := 1) (v := ?_) rfl (by kernel_rfl) (by kernel_rfl) (by kernel_rfl) (fun _ _ _ h => h) (Or.inl ⟨by rfl, ?_⟩) hS ?_
      rotate_left
      · (intro w hSw; (try dsimp only at hSw); go_simp; (first | done | with_reducible rfl))
      change wpAnyH _ _ _ _ _ _ _ (Act.put _ (some 37) _) _
      simp only [Act.put, List.setIfInBounds_toArray, List.set_cons_zero, List.set_cons_succ]
      refine wpAnyH_take (i := 2) (v := ?_) rfl (by kernel_rfl) (by kernel_rfl) (by kernel_rfl) (fun _ _ _ h => h) (Or.inl ⟨by rfl, ?_⟩) hS ?_
      rotate_left
      · (intro w hSw; (try dsimp only at hSw); go_simp; (first | done | with_reducible rfl))
      change wpAnyH _ _ _ _ _ _ _ (Act.put _ (some 38) _) _
      simp only [Act.put, List.setIfInBounds_toArray, List.set_cons_zero, List.set_cons_succ]
      refine wpAnyH_take (i := 4) (v := ?_) rfl (by kernel_rfl) (by kernel_rfl) (by kernel_rfl) (fun _ _ _ h => h) (Or.inl ⟨by rfl, ?_⟩) hS ?_
      rotate_left
      · (intro w hSw; (try dsimp only at hSw); go_simp; (first | done | with_reducible rfl))
      change wpAnyH _ _ _ _ _ _ _ (Act.put _ (some 40) _) _
      simp only [Act.put, List.setIfInBounds_toArray, List.set_cons_zero, List.set_cons_succ]
      refine wpAnyH_take (i := 5) (v := ?_) rfl (by kernel_rfl) (by kernel_rfl) (by kernel_rfl) (fun _ _ _ h => h) (Or.inl ⟨by rfl, ?_⟩) hS ?_
      rotate_left
      · (intro w hSw; (try dsimp only at hSw); go_simp; (first | done | with_reducible rfl))
      change wpAnyH _ _ _ _ _ _ _ (Act.put _ (some 41) _) _
      simp only [Act.put, List.setIfInBounds_toArray, List.set_cons_zero, List.set_cons_succ]
      refine wpAnyH_take (i := 6) (v := ?_) rfl (by kernel_rfl) (by kernel_rfl) (by kernel_rfl) (fun _ _ _ h => h) (Or.inl ⟨by rfl, ?_⟩) hS ?_
      rotate_left
      · (intro w hSw; (try dsimp only at hSw); go_simp; (first | done | with_reducible rfl))
      change wpAnyH _ _ _ _ _ _ _ (Act.put _ (some 42) _) _
      simp only [Act.put, List.setIfInBounds_toArray, List.set_cons_zero, List.set_cons_succ]
      refine wpAnyH_take (i := 9) (v := ?_) rfl (by kernel_rfl) (by kernel_rfl) (by kernel_rfl) (fun _ _ _ h => h) (Or.inl ⟨by rfl, ?_⟩) hS ?_
      rotate_left
      · (intro w hSw; (try dsimp only at hSw); go_simp; (first | done | with_reducible rfl))
      change wpAnyH _ _ _ _ _ _ _ (Act.put _ (some 45) _) _
      simp only [Act.put, List.setIfInBounds_toArray, List.set_cons_zero, List.set_cons_succ]
      refine wpAnyH_take (i := 10) (v := ?_) rfl (by kernel_rfl) (by kernel_rfl) (by kernel_rfl) (fun _ _ _ h => h) (Or.inl ⟨by rfl, ?_⟩) hS ?_
      rotate_left
      · (intro w hSw; (try dsimp only at hSw); go_simp; (first | done | with_reducible rfl))
      change wpAnyH _ _ _ _ _ _ _ (Act.put _ (some 46) _) _
      simp only [Act.put, List.setIfInBounds_toArray, List.set_cons_zero, List.set_cons_succ]
      refine wpAnyH_take (i := 11) (v := ?_) rfl (by kernel_rfl) (by kernel_rfl) (by kernel_rfl) (fun _ _ _ h => h) (Or.inl ⟨by rfl, ?_⟩) hS ?_
      rotate_left
      · (intro w hSw; (try dsimp only at hSw); go_simp; (first | done | with_reducible rfl))
      change wpAnyH _ _ _ _ _ _ _ (Act.put _ (some 47) _) _
      simp only [Act.put, List.setIfInBounds_toArray, List.set_cons_zero, List.set_cons_succ]
      refine wpAnyH_ready (rs := [3, 7]) (by kernel_rfl) (by simp) ?_
      refine AllReadyH.cons rfl (fun K hK => ?_) ?_
      · go_simp
        have hq := putList_f (some ⟨gA, 0, none⟩) c3 X6 ba bc bid v0 f6.rd (by have := HX9.out; have := HX8.out; have := HX7.out; have := HX6.out; have := HX5.out; have := HX4.out; have := HX3.out; have := HX2.out; omega) (fun h => f6.capNil h) (hb.keep k6).rd hb.inn.cap (by unfold Len; have := hb.inn.capI; simp only at this; omega)
        refine hq.mono ?_
        rintro e1 v1 ⟨A1, rfl, f1, kq⟩
        replace f1 := f1.mono k6.size
        rw [← EX7.out] at f1 ⊢
        have kz1 := k6.trans kq
        clear kq hq
        go_wp2_with fail
        refine hK.out _ _ (KS _ kz1) (fun hS => ?_)
        clear hK K
        try simp only [Act.put, List.setIfInBounds_toArray, List.set_cons_zero, List.set_cons_succ]
        refine wpAnyH_ready (rs := [7]) (by kernel_rfl) (by simp) ?_
        refine AllReadyH.cons rfl (fun K hK => ?_) AllReadyH.nil
        go_simp
        have kn : Keep v1 (v1.alloc (.cells #[.int .u8 (itemN item : Int)] 5)) := Keep.alloc1 _ _
        refine hK.out _ _ (KS _ (kz1.trans kn)) (fun hS => ?_)
        clear hK K
        try simp only [Act.put, List.setIfInBounds_toArray, List.set_cons_zero, List.set_cons_succ]
        have rb2 := Blk.new v1 5 [.int .u8 (itemN item : Int)]
        have nb2 : ∀ k, ownB A1 X7.length = some k → v1.heap.size ≠ k := fun k hk => by have := (f1.own_ge hk).2; omega
        have kz2 := kz1.trans kn
        have f2 := f1.keep kn
        obtain ⟨g2, hg2⟩ : ∃ g, g = v1.heap.size := ⟨_, rfl⟩
        rw [← hg2] at rb2 nb2 ⊢
        generalize v1.alloc (.cells #[.int .u8 (itemN item : Int)] 5) = v2 at hS rb2 kz2 f2 ⊢
        clear hg2 kn
        refine wpAnyH_ready (rs := [8]) (by kernel_rfl) (by simp) ?_
        refine AllReadyH.cons rfl (fun K hK => ?_) AllReadyH.nil
        rw [if_pos (by rfl)]
        refine wp_append_fr _ (.tmp 39) (.tmp 43) 25 rfl w2.heap.size 5 (.int .u8 0) 1 Tryz.underlying25 infoByte rfl A1 X7.length X7.length _ rfl f2 (some ⟨g2, 0, none⟩) 1 1 (cs .u8 [(itemN item : Int)]) rfl rfl rb2.rd (one_u8 _) ?g1 ?g2 ?g3 ?_
        case g1 => have := HX9.out; have := HX8.out; have := HX7.out; have := HX6.out; have := HX5.out; have := HX4.out; have := HX3.out; have := HX2.out; unfold maxLen; omega
        case g2 => have := HX9.out; have := HX8.out; have := HX7.out; have := HX6.out; have := HX5.out; have := HX4.out; have := HX3.out; have := HX2.out; omega
        case g3 => exact kz2.size
        intro A3 c3 v3 happ
        have kz3 := happ.keep kz2 f2
        have f3 := happ.fr
        rw [← cs_append, ← EX8.out, ← HX8.out] at f3
        refine hK.out _ _ (KS _ kz3) (fun hS => ?_)
        clear hK K
        change wpAnyH _ _ _ _ _ _ _ (Act.put _ (some 44) _) _
        try simp only [Act.put, List.setIfInBounds_toArray, List.set_cons_zero, List.set_cons_succ]
        rw [← HX8.out]
        clear happ
        refine wpAnyH_ready (rs := [12]) (by kernel_rfl) (by simp) ?_
        refine AllReadyH.cons rfl (fun K hK => ?_) AllReadyH.nil
        go_simp
        have hq := putN_r A3 c3 X8 pn 4 v3 f3.rd (by have := HX9.out; have := HX8.out; have := HX7.out; have := HX6.out; have := HX5.out; have := HX4.out; have := HX3.out; have := HX2.out; omega) (fun h => f3.capNil h) (by omega)
        refine hq.mono ?_
        rintro e1 v4 ⟨A4, rfl, f4, kq⟩
        replace f4 := f4.mono kz3.size
        rw [← EX9.out] at f4 ⊢
        have kz4 := kz3.trans kq
        clear kq hq
        go_wp2_with fail
        refine hK.out _ _ (KS _ kz4) (fun hS => ?_)
        clear hK K
        try simp only [Act.put, List.setIfInBounds_toArray, List.set_cons_zero, List.set_cons_succ]
        refine wpAnyH_take (i := 13) (v := ?_) rfl (by kernel_rfl) (by kernel_rfl) (by kernel_rfl) (fun _ _ _ h => h) (Or.inl ⟨by rfl, ?_⟩) hS ?_
        rotate_left
        · (intro w hSw; (try dsimp only at hSw); go_simp; (first | done | with_reducible rfl))
        change wpAnyH _ _ _ _ _ _ _ (Act.put _ (some 4) _) _
        simp only [Act.put, List.setIfInBounds_toArray, List.set_cons_zero, List.set_cons_succ]
        refine wpAnyH_done (by kernel_rfl) ?_ _
        refine NoPanic.normal ?_
        go_wp2_with fail
        go_meet
        exact ⟨A4, rfl, f4, kz4⟩
      refine AllReadyH.cons rfl (fun K hK => ?_) ?_
      · go_simp
        have kn : Keep v0 (v0.alloc (.cells #[.int .u8 (itemN item : Int)] 5)) := Keep.alloc1 _ _
        refine hK.out _ _ (KS _ (k6.trans kn)) (fun hS => ?_)
        clear hK K
        try simp only [Act.put, List.setIfInBounds_toArray, List.set_cons_zero, List.set_cons_succ]
        have rb5 := Blk.new v0 5 [.int .u8 (itemN item : Int)]
        have nb5 : ∀ k, ownB (some ⟨gA, 0, none⟩) c3 = some k → v0.heap.size ≠ k := fun k hk => by have := (f6.own_ge hk).2; omega
        have kz5 := k6.trans kn
        have f5 := f6.keep kn
        obtain ⟨g5, hg5⟩ : ∃ g, g = v0.heap.size := ⟨_, rfl⟩
        rw [← hg5] at rb5 nb5 ⊢
        generalize v0.alloc (.cells #[.int .u8 (itemN item : Int)] 5) = v5 at hS rb5 kz5 f5 ⊢
        clear hg5 kn
        refine wpAnyH_ready (rs := [3]) (by kernel_rfl) (by simp) ?_
        refine AllReadyH.cons rfl (fun K hK => ?_) AllReadyH.nil
        go_simp
        have hq := putList_f (some ⟨gA, 0, none⟩) c3 X6 ba bc bid v5 f5.rd (by have := HX9.out; have := HX8.out; have := HX7.out; have := HX6.out; have := HX5.out; have := HX4.out; have := HX3.out; have := HX2.out; omega) (fun h => f5.capNil h) (hb.keep kz5).rd hb.inn.cap (by unfold Len; have := hb.inn.capI; simp only at this; omega)
        refine hq.mono ?_
        rintro e1 v6 ⟨A6, rfl, f6, kq⟩
        replace f6 := f6.mono kz5.size
        rw [← EX7.out] at f6 ⊢
        have kz6 := kz5.trans kq
        replace rb5 := rb5.keep kq
        clear kq hq
        go_wp2_with fail
        refine hK.out _ _ (KS _ kz6) (fun hS => ?_)
        clear hK K
        try simp only [Act.put, List.setIfInBounds_toArray, List.set_cons_zero, List.set_cons_succ]
        refine wpAnyH_ready (rs := [8]) (by kernel_rfl) (by simp) ?_
        refine AllReadyH.cons rfl (fun K hK => ?_) AllReadyH.nil
        rw [if_pos (by rfl)]
        refine wp_append_fr _ (.tmp 39) (.tmp 43) 25 rfl w2.heap.size 5 (.int .u8 0) 1 Tryz.underlying25 infoByte rfl A6 X7.length X7.length _ rfl f6 (some ⟨g5, 0, none⟩) 1 1 (cs .u8 [(itemN item : Int)]) rfl rfl rb5.rd (one_u8 _) ?g1 ?g2 ?g3 ?_
        case g1 => have := HX9.out; have := HX8.out; have := HX7.out; have := HX6.out; have := HX5.out; have := HX4.out; have := HX3.out; have := HX2.out; unfold maxLen; omega
        case g2 => have := HX9.out; have := HX8.out; have := HX7.out; have := HX6.out; have := HX5.out; have := HX4.out; have := HX3.out; have := HX2.out; omega
        case g3 => exact kz6.size
        intro A7 c7 v7 happ
        have kz7 := happ.keep kz6 f6
        have f7 := happ.fr
        rw [← cs_append, ← EX8.out, ← HX8.out] at f7
        refine hK.out _ _ (KS _ kz7) (fun hS => ?_)
        clear hK K
        change wpAnyH _ _ _ _ _ _ _ (Act.put _ (some 44) _) _
        try simp only [Act.put, List.setIfInBounds_toArray, List.set_cons_zero, List.set_cons_succ]
        rw [← HX8.out]
        clear happ
        refine wpAnyH_ready (rs := [12]) (by kernel_rfl) (by simp) ?_
        refine AllReadyH.cons rfl (fun K hK => ?_) AllReadyH.nil
        go_simp
        have hq := putN_r A7 c7 X8 pn 4 v7 f7.rd (by have := HX9.out; have := HX8.out; have := HX7.out; have := HX6.out; have := HX5.out; have := HX4.out; have := HX3.out; have := HX2.out; omega) (fun h => f7.capNil h) (by omega)
        refine hq.mono ?_
        rintro e1 v8 ⟨A8, rfl, f8, kq⟩
        replace f8 := f8.mono kz7.size
        rw [← EX9.out] at f8 ⊢
        have kz8 := kz7.trans kq
        clear kq hq
        go_wp2_with fail
        refine hK.out _ _ (KS _ kz8) (fun hS => ?_)
        clear hK K
        try simp only [Act.put, List.setIfInBounds_toArray, List.set_cons_zero, List.set_cons_succ]
        refine wpAnyH_take (i := 13) (v := ?_) rfl (by kernel_rfl) (by kernel_rfl) (by kernel_rfl) (fun _ _ _ h => h) (Or.inl ⟨by rfl, ?_⟩) hS ?_
        rotate_left
        · (intro w hSw; (try dsimp only at hSw); go_simp; (first | done | with_reducible rfl))
        change wpAnyH _ _ _ _ _ _ _ (Act.put _ (some 4) _) _
        simp only [Act.put, List.setIfInBounds_toArray, List.set_cons_zero, List.set_cons_succ]
        refine wpAnyH_done (by kernel_rfl) ?_ _
        refine NoPanic.normal ?_
        go_wp2_with fail
        go_meet
        exact ⟨A8, rfl, f8, kz8⟩
      exact AllReadyH.nil
    case rest =>
    obtain ⟨A9, rfl, f9, k9⟩ := hcut
    clear f6 k6
    have c9 := k9.cell (bF.cell_ (i := 9) rfl)
    have hq := putBytes_f A9 X9.length X9 ca cc cert wc f9.rd (by have := HX9.out; have := HX8.out; have := HX7.out; omega) (fun h => f9.capNil h) (hc.keep k9).rd hc.inn.cap (by unfold Len; have := hc.inn.capI; simp only at this; omega)
    go_wp2_with fail
    refine hq.mono ?_
    rintro e1 w4 ⟨A4, rfl, f4, k4⟩
    have hX : X9 ++ putBy (cert.take 65535) = L := by
      rw [LL.out.1, EX9.out, EX8.out, EX7.out, EX6.out, EX4.out, EX3.out, EX2.out, EX1.out, show cert.take 65535 = cert from List.take_of_length_le (by have := G.out.1; omega), show bid.take 255 = bid from List.take_of_length_le (by have := G.out.2; omega)]
      unfold bytesR
      simp only
      rw [hpn.out, LE.out.1, LE.out.2.1, LE.out.2.2.1, LE.out.2.2.2]
      simp only [List.append_assoc, List.cons_append, List.nil_append]
    rw [hX] at f4 ⊢
    clear hX
    have hq2 := clipB_f A4 L.length L.length w4 (Nat.le_refl _) (by unfold Len; have := f4.capMax; unfold maxLen at this; omega)
    replace f4 := f4.mono (Nat.le_trans HWB.out k9.size)
    go_wp2_with fail
    refine hq2.mono ?_
    rintro e1 w5 ⟨rfl, rfl⟩
    go_wp2_with fail
    refine bodyPost_ret (results_tmp2 rfl _ _ _) rfl ?_
    exact ⟨A4, by rw [LL.out.2]; rfl, f4, (kk.trans k9).trans k4⟩
end Go.Proofs.YtnjjeanbopclhaaGreatDoor
