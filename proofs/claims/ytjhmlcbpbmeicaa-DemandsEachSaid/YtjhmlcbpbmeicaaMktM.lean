/-
  CONTRACT for the package markets: Get. Conditions: the slice is no longer than memory lets it be.
-/
import Derived.Test.YtjhmlcbpbmeicaaMktL
import Derived.Test.YtjhmlcbpbmeicaaMktH
import Derived.Laws.EntriesVeiled
namespace Go.Proofs.Ytjhmlcbpbmeicaa
open Go.RowKit

/-- The market of none. -/
abbrev zeroM : Value := .agg #[nilS, nilS, nilS]
/-- What Get leaves. -/
def GetMP (xs : List Int) (w : World) (e : Ending) (w' : World) : Prop :=
  Keep w w' ∧ match g4 xs with
  | none => e = .returned (.tuple #[zeroM, .int .i64 5])
  | some (R, bl, O, rest) =>
    if (rest = [] ∧ chkM R bl O = true) then ∃ N : Mkt, e = .returned (.tuple #[N.val, .int .i64 0]) ∧ N.Ok w' ∧ N.r.l = R ∧ bidsOf N.bs = bl ∧ N.o.l = O ∧ N.Own w.heap.size w'
    else e = .returned (.tuple #[zeroM, .int .i64 4])

theorem mg_results {fn : Func} {tmps : Array Value} {w : World} {bm be : Nat} {v0 v1 v2 x : Value} (h : fn.results = #[ResultVar.cell 2 62, ResultVar.cell 3 25]) (hm : Blk w bm 62 [v0, v1, v2]) (he : Blk w be 25 [x])
    (t2 : tmps[2]?.getD undef = ptr bm 0) (t3 : tmps[3]?.getD undef = ptr be 0) : (results fn tmps).run Try.prog w = .ok (.tuple #[.agg #[v0, v1, v2], x]) w := by
  have m0 := hm.cell_ (i := 0) rfl
  have m1 := hm.cell_ (i := 1) rfl
  have m2 := hm.cell_ (i := 2) rfl
  have c1 := he.cell_ (i := 0) rfl
  simp [results, h, t2, t3, m0, m1, m2, c1, asAddr, go_sem]
theorem getL_range {xs zs : List Int} (hb : Bytes xs) (h : getL xs = some zs) : ∀ x ∈ zs, 0 ≤ x ∧ x < 4294967296 := by
  unfold getL at h
  split at h
  · cases h
  · injection h with h
    subst h
    intro x hx
    obtain ⟨i, _, rfl⟩ := List.mem_map.1 hx
    unfold num4
    have := val_lt ((hb.drop (1 + 4 * i)).take 4)
    have hl : ((xs.drop (1 + 4 * i)).take 4).length ≤ 4 := by simp; omega
    have hp : 256 ^ ((xs.drop (1 + 4 * i)).take 4).length ≤ 256 ^ 4 := Nat.pow_le_pow_right (by decide) hl
    omega
theorem getLs_range {n : Nat} {xs : List Int} (hb : Bytes xs) : ∀ {bl ys}, getLs n xs = some (bl, ys) → (∀ b ∈ bl, ∀ x ∈ b, 0 ≤ x ∧ x < 4294967296) ∧ Bytes ys := by
  induction n with
  | zero =>
    intro bl ys h
    injection h with h
    cases h
    exact ⟨fun b h => (by cases h), hb⟩
  | succ n ih =>
    intro bl ys h
    rw [getLs_succ] at h
    cases h1 : getLs n xs with
    | none => rw [h1] at h; cases h
    | some q =>
      obtain ⟨b0, y0⟩ := q
      rw [h1] at h
      simp only at h
      obtain ⟨i1, i2⟩ := ih h1
      cases h2 : getL y0 with
      | none => rw [h2] at h; cases h
      | some zs =>
        rw [h2] at h
        injection h with h
        cases h
        refine ⟨fun b hb' => ?_, i2.drop _⟩
        rcases List.mem_append.1 hb' with h' | h'
        · exact i1 b h'
        · rw [List.mem_singleton] at h'
          subst h'
          exact getL_range i2 h2
theorem g4_range {xs R O rest : List Int} {bl : List (List Int)} (hb : Bytes xs) (h : g4 xs = some (R, bl, O, rest)) : (∀ x ∈ R, 0 ≤ x ∧ x < 4294967296) ∧ (∀ b ∈ bl, ∀ x ∈ b, 0 ≤ x ∧ x < 4294967296) ∧ ∀ x ∈ O, 0 ≤ x ∧ x < 4294967296 := by
  unfold g4 at h
  split at h
  · cases h
  · rename_i R' bl' zs h3
    split at h
    · cases h
    · rename_i O' hO
      injection h with h
      cases h
      unfold g3 at h3
      split at h3
      · cases h3
      · rename_i R'' n ys h2
        split at h3
        · cases h3
        · rename_i bl'' zs' hl
          injection h3 with h3
          cases h3
          unfold g2 at h2
          split at h2
          · cases h2
          · rename_i R3 hR
            split at h2
            · cases h2
            · rename_i x ys' hd
              injection h2 with h2
              cases h2
              have hy : Bytes (x :: ys) := hd ▸ hb.drop _
              obtain ⟨q1, q2⟩ := getLs_range hy.tail hl
              exact ⟨getL_range hb hR, q1, getL_range q2 hO⟩
theorem got_ok {w : World} {B gr : Nat} {A1 A2 : Option Addr} {R O : List Int} {hs : List Sl} (f1 : Fr 3 w B A1 R.length R.length (cs .i64 R)) (f2 : Fr 3 w B A2 O.length O.length (cs .i64 O)) (br : Blk w gr 22 (hs.map Sl.val)) (hn : hs.length < 256)
    (b2 : ∀ s ∈ hs, s.c = s.l.length ∧ Fr 3 w B s.a s.l.length s.c (cs .i64 s.l)) (r1 : ∀ x ∈ R, 0 ≤ x ∧ x < 4294967296) (r2 : ∀ b ∈ bidsOf hs, ∀ x ∈ b, 0 ≤ x ∧ x < 4294967296) (r3 : ∀ x ∈ O, 0 ≤ x ∧ x < 4294967296) :
    (Mkt.mk ⟨A1, R.length, R⟩ (some ⟨gr, 0, none⟩) hs.length hs ⟨A2, O.length, O⟩).Ok w := by
  have wf : ∀ {x : Int}, 0 ≤ x ∧ x < 4294967296 → (Lit.int .i64 x).wf = true := fun h => WalkArith.wf_i64 (by omega)
  refine ⟨⟨⟨f1.rd, Nat.le_refl _, f1.capMax, fun x h => wf (r1 x h)⟩, f1.capNil⟩, ⟨br.rd, Nat.le_refl _, by unfold maxLen; simp only; omega, fun s h => ?_⟩, (fun h => by cases h), ⟨⟨f2.rd, Nat.le_refl _, f2.capMax, fun x h => wf (r3 x h)⟩, f2.capNil⟩⟩
  obtain ⟨q1, q2⟩ := b2 s h
  exact ⟨⟨q2.rd, q2.cap, q2.capMax, fun x hx => wf (r2 s.l (List.mem_map.2 ⟨s, h, rfl⟩) x hx)⟩, q2.capNil⟩

set_option maxRecDepth 100000 in
set_option maxHeartbeats 8000000 in
theorem getM_f (A : Option Addr) (c : Nat) (xs : List Int) (w : World) (ha : Rd w A (cs .u8 xs)) (hb : Bytes xs) (hc : xs.length ≤ c) (lc : Len c) :
    Calls Try.prog 39 #[.slice A xs.length c] w (GetMP xs w) := by
  have b0 : Blk (w.alloc (.cells #[.slice A xs.length c] 31)) w.heap.size 31 [.slice A xs.length c] := Blk.new w _ _
  have b1 : Blk ((w.alloc (.cells #[.slice A xs.length c] 31)).alloc (.cells #[.slice none 0 0, .slice none 0 0, .slice none 0 0] 62)) (w.heap.size + 1) 62 [nilS, nilS, nilS] := by
    have h := Blk.new (w.alloc (.cells #[.slice A xs.length c] 31)) 62 [nilS, nilS, nilS]
    simpa using h
  have b2 : Blk (((w.alloc (.cells #[.slice A xs.length c] 31)).alloc (.cells #[.slice none 0 0, .slice none 0 0, .slice none 0 0] 62)).alloc (.cells #[.int .i64 0] 25)) (w.heap.size + 1 + 1) 25 [.int .i64 0] := by
    have h := Blk.new ((w.alloc (.cells #[.slice A xs.length c] 31)).alloc (.cells #[.slice none 0 0, .slice none 0 0, .slice none 0 0] 62)) 25 [.int .i64 0]
    simpa using h
  have b3 : Blk ((((w.alloc (.cells #[.slice A xs.length c] 31)).alloc (.cells #[.slice none 0 0, .slice none 0 0, .slice none 0 0] 62)).alloc (.cells #[.int .i64 0] 25)).alloc (.cells #[.nilFunc] 94)) (w.heap.size + 1 + 1 + 1) 94 [.nilFunc] := by
    have h := Blk.new (((w.alloc (.cells #[.slice A xs.length c] 31)).alloc (.cells #[.slice none 0 0, .slice none 0 0, .slice none 0 0] 62)).alloc (.cells #[.int .i64 0] 25)) 94 [.nilFunc]
    simpa using h
  have c3 := b3.cell_ (i := 0) rfl
  have f3 := b3.frozen 0
  go_enter Try.func39, Try.ntmps39
  go_upto_region 3 with fail
  obtain ⟨B, hB⟩ : ∃ B, B = w.heap.size := ⟨_, rfl⟩
  rw [← hB] at b0 b1 b2 ⊢
  have b3' : Blk ((((w.alloc (.cells #[.slice A xs.length c] 31)).alloc (.cells #[.slice none 0 0, .slice none 0 0, .slice none 0 0] 62)).alloc (.cells #[.int .i64 0] 25)).alloc (.cells #[rdFn B (B + 2)] 94)) (B + 3) 94 [rdFn B (B + 2)] := by
    have h := Blk.new (((w.alloc (.cells #[.slice A xs.length c] 31)).alloc (.cells #[.slice none 0 0, .slice none 0 0, .slice none 0 0] 62)).alloc (.cells #[.int .i64 0] 25)) 94 [rdFn B (B + 2)]
    simpa [hB] using h
  have b4 : Blk (((((w.alloc (.cells #[.slice A xs.length c] 31)).alloc (.cells #[.slice none 0 0, .slice none 0 0, .slice none 0 0] 62)).alloc (.cells #[.int .i64 0] 25)).alloc (.cells #[rdFn B (B + 2)] 94)).alloc (.cells #[fn2 B, fn3 B, fn4 B, fn5 B] 1)) (B + 4) 1 [fn2 B, fn3 B, fn4 B, fn5 B] := by
    have h := Blk.new ((((w.alloc (.cells #[.slice A xs.length c] 31)).alloc (.cells #[.slice none 0 0, .slice none 0 0, .slice none 0 0] 62)).alloc (.cells #[.int .i64 0] 25)).alloc (.cells #[rdFn B (B + 2)] 94)) 1 [fn2 B, fn3 B, fn4 B, fn5 B]
    simpa [hB] using h
  have k5 : Keep (((w.alloc (.cells #[.slice A xs.length c] 31)).alloc (.cells #[.slice none 0 0, .slice none 0 0, .slice none 0 0] 62)).alloc (.cells #[.int .i64 0] 25)) ((((w.alloc (.cells #[.slice A xs.length c] 31)).alloc (.cells #[.slice none 0 0, .slice none 0 0, .slice none 0 0] 62)).alloc (.cells #[.int .i64 0] 25)).alloc (.cells #[rdFn B (B + 2)] 94)) := Keep.alloc1 _ _
  have k6 : Keep ((((w.alloc (.cells #[.slice A xs.length c] 31)).alloc (.cells #[.slice none 0 0, .slice none 0 0, .slice none 0 0] 62)).alloc (.cells #[.int .i64 0] 25)).alloc (.cells #[rdFn B (B + 2)] 94)) (((((w.alloc (.cells #[.slice A xs.length c] 31)).alloc (.cells #[.slice none 0 0, .slice none 0 0, .slice none 0 0] 62)).alloc (.cells #[.int .i64 0] 25)).alloc (.cells #[rdFn B (B + 2)] 94)).alloc (.cells #[fn2 B, fn3 B, fn4 B, fn5 B] 1)) := Keep.alloc1 _ _
  have p0 : P0 xs w B (((((w.alloc (.cells #[.slice A xs.length c] 31)).alloc (.cells #[.slice none 0 0, .slice none 0 0, .slice none 0 0] 62)).alloc (.cells #[.int .i64 0] 25)).alloc (.cells #[rdFn B (B + 2)] 94)).alloc (.cells #[fn2 B, fn3 B, fn4 B, fn5 B] 1)) := ⟨⟨(((((Keep.alloc1 _ _).trans (Keep.alloc1 _ _)).trans (Keep.alloc1 _ _)).trans k5).trans k6), b3'.keep k6, b4⟩, (b2.keep k5).keep k6, ((b1.keep (Keep.alloc1 _ _)).keep k5).keep k6,
    ⟨A, c, (((b0.keep (Keep.alloc1 _ _)).keep (Keep.alloc1 _ _)).keep k5).keep k6, ha, hb, hc, lc⟩⟩
  change Code.wp _ _ _ _ (((((w.alloc (.cells #[.slice A xs.length c] 31)).alloc (.cells #[.slice none 0 0, .slice none 0 0, .slice none 0 0] 62)).alloc (.cells #[.int .i64 0] 25)).alloc (.cells #[rdFn B (B + 2)] 94)).alloc (.cells #[fn2 B, fn3 B, fn4 B, fn5 B] 1))
  generalize (((((w.alloc (.cells #[.slice A xs.length c] 31)).alloc (.cells #[.slice none 0 0, .slice none 0 0, .slice none 0 0] 62)).alloc (.cells #[.int .i64 0] 25)).alloc (.cells #[rdFn B (B + 2)] 94)).alloc (.cells #[fn2 B, fn3 B, fn4 B, fn5 B] 1)) = w1 at p0 ⊢
  rw [show B + 1 + 1 + 1 + 1 = B + 4 from rfl, show B + 1 + 1 + 1 = B + 3 from rfl, show B + 1 + 1 = B + 2 from rfl]
  clear b3 b3' b4 k5 k6 c3 f3 b0 b1 b2
  have HB := Lib.hid hB
  clear hB
  go_wp2_with fail
  refine wp_loop_rounds 5 ?_
  rw [rounds_succ]
  have q0 := p0.1.p.cell_ (i := 0) rfl
  have h0 := part1 HB.out p0
  go_wp2_with fail
  refine h0.mono ?_
  rintro e w2 ⟨rfl, p1⟩
  clear h0 q0 p0
  go_wp2_with fail
  rw [rounds_succ]
  have q1 := p1.1.p.cell_ (i := 1) rfl
  have h1 := part2 HB.out p1
  go_wp2_with fail
  refine h1.mono ?_
  rintro e w3 ⟨rfl, p2⟩
  clear h1 q1 p1
  go_wp2_with fail
  rw [rounds_succ]
  have q2 := p2.1.p.cell_ (i := 2) rfl
  have h2 := part3 HB.out p2
  go_wp2_with fail
  refine h2.mono ?_
  rintro e w4 ⟨rfl, p3⟩
  clear h2 q2 p2
  go_wp2_with fail
  rw [rounds_succ]
  have q3 := p3.1.p.cell_ (i := 3) rfl
  have h3 := part4 HB.out p3
  go_wp2_with fail
  refine h3.mono ?_
  rintro e w5 ⟨rfl, p4⟩
  clear h3 q3 p3
  go_wp2_with fail
  rw [rounds_succ]
  obtain ⟨hF, h⟩ := p4
  have kk := hF.k
  clear hF
  cases hx : g4 xs with
  | none =>
    rw [hx] at h
    obtain ⟨be, r, b, o, bm⟩ := h
    have HX := Lib.hid hx
    clear hx
    have ce := be.cell_ (i := 0) rfl
    go_upto_region 11 with fail
    refine wp_region_noPanic ?_
    refine wp_region_held_drew (S := (fun w' => w'.cell? ⟨B + 2, 0, none⟩ = some (.int .i64 5))) (by kernel_rfl) (be.cell_ (i := 0) rfl) (fun hS => ?_)
    replace be := be.keep (Keep.refl w5).drew
    replace bm := bm.keep (Keep.refl w5).drew
    replace kk := kk.trans (Keep.refl w5).drew
    generalize w5.drew = wq at be bm kk hS ⊢
    refine wpAnyH_take (i := 0) (v := ?_) rfl (by kernel_rfl) (by kernel_rfl) (by kernel_rfl) (fun _ _ _ h => h) (Or.inl ⟨by rfl, ?_⟩) hS ?_
    rotate_left
    · (intro w hSw; (try dsimp only at hSw); go_simp; (first | done | with_reducible rfl))
    change wpAnyH _ _ _ _ _ _ _ (Act.put _ (some 37) _) _
    simp only [Act.put, List.setIfInBounds_toArray, List.set_cons_zero, List.set_cons_succ]
    refine wpAnyH_take (i := 1) (v := ?_) rfl (by kernel_rfl) (by kernel_rfl) (by kernel_rfl) (fun _ _ _ h => h) (Or.inl ⟨by rfl, ?_⟩) hS ?_
    rotate_left
    · (intro w hSw; (try dsimp only at hSw); go_simp; (first | done | with_reducible rfl))
    change wpAnyH _ _ _ _ _ _ _ (Act.put _ (some 38) _) _
    simp only [Act.put, List.setIfInBounds_toArray, List.set_cons_zero, List.set_cons_succ]
    refine wpAnyH_ready (rs := [2]) (by kernel_rfl) (by simp) ?_
    refine AllReadyH.cons rfl (fun K hK => ?_) AllReadyH.nil
    rw [if_pos (by rfl)]
    refine wp_store_row 62 _ _ rfl (B + 1) #[.slice none 0 0, .slice none 0 0, .slice none 0 0] rfl rfl _ _ bm (by kernel_rfl) rfl (by simp [Value.oneCell']) ?_
    have og := only_row wq (B + 1) #[.slice none 0 0, .slice none 0 0, .slice none 0 0]
    replace bm := bm.row #[.slice none 0 0, .slice none 0 0, .slice none 0 0]
    replace be := be.grown og (fun e => by injection e with e; omega)
    replace kk := kk.grown og (fun k e => by injection e with e; have := HB.out; have := kk.size; omega)
    clear og
    have fe3 := be.frozen 0
    refine hK.out _ _ (be.cell_ (i := 0) rfl) (fun hS => ?_)
    clear hK K
    try simp only [Act.put, List.setIfInBounds_toArray]
    refine wpAnyH_ready (rs := [3]) (by kernel_rfl) (by simp) ?_
    refine AllReadyH.cons rfl (fun K hK => ?_) AllReadyH.nil
    go_simp
    replace bm := bm.far (p := ⟨B + 2, 0, none⟩) (by simp only; omega) (.int .i64 5)
    replace be := be.set_ 0 (.int .i64 5)
    replace kk := kk.setCell (p := ⟨B + 2, 0, none⟩) (by have := HB.out; simp only; omega) (.int .i64 5)
    go_wp2_with fail
    refine hK.out _ _ (be.cell_ (i := 0) rfl) (fun hS => ?_)
    clear hK K
    try simp only [Act.put, List.setIfInBounds_toArray]
    refine wpAnyH_done (by kernel_rfl) ?_ _
    refine NoPanic.normal ?_
    go_wp2_with fail
    refine bodyPost_ret (mg_results rfl bm be rfl rfl) rfl ?_
    exact ⟨kk, by rw [HX.out]⟩
  | some q =>
    obtain ⟨R, bl, O, rest⟩ := q
    rw [hx] at h
    obtain ⟨A1, gr, A2, hs, hgr, be, bm, f1, b1, b2, br, ⟨A3, c3, bb, rd3, hB3, hc3, lc3⟩, f2, hn⟩ := h
    obtain ⟨r1, r2, r3⟩ := g4_range hb hx
    have ce := be.cell_ (i := 0) rfl
    have fe := be.frozen 0
    have cb := bb.cell_ (i := 0) rfl
    have HX := Lib.hid hx
    clear hx
    by_cases hr : rest = []
    · subst hr
      have hM : (Mkt.mk ⟨A1, R.length, R⟩ (some ⟨gr, 0, none⟩) hs.length hs ⟨A2, O.length, O⟩).Ok w5 := got_ok f1 f2 br hn b2 r1 (by rw [b1]; exact r2) r3
      have hck := mcheck_f _ w5 hM
      simp only [Mkt.val] at hck
      rw [b1] at hck
      have c0 := bm.cell_ (i := 0) rfl
      have c1 := bm.cell_ (i := 1) rfl
      have c2 := bm.cell_ (i := 2) rfl
      cases hk : chkM R bl O with
      | false =>
        rw [hk] at hck
        have HK := Lib.hid hk
        clear hk
        go_wp2_with fail
        refine hck.mono ?_
        rintro e w6 ⟨rfl, k6⟩
        clear hck
        replace be := be.keep k6
        replace bm := bm.keep k6
        replace kk := kk.trans k6
        clear ce fe cb c0 c1 c2
        have ce := be.cell_ (i := 0) rfl
        have fe := be.frozen 0
        go_upto_region 10 with fail
        replace bm := bm.far (p := ⟨B + 2, 0, none⟩) (by simp only; omega) (.int .i64 4)
        replace be := be.set_ 0 (.int .i64 4)
        replace kk := kk.setCell (p := ⟨B + 2, 0, none⟩) (by have := HB.out; simp only; omega) (.int .i64 4)
        generalize w6.setCell ⟨B + 2, 0, none⟩ (.int .i64 4) = w7 at be bm kk ⊢
        clear ce fe
        have ce := be.cell_ (i := 0) rfl
        go_upto_region 11 with fail
        refine wp_region_noPanic ?_
        refine wp_region_held_drew (S := (fun w' => w'.cell? ⟨B + 2, 0, none⟩ = some (.int .i64 4))) (by kernel_rfl) (be.cell_ (i := 0) rfl) (fun hS => ?_)
        replace be := be.keep (Keep.refl w7).drew
        replace bm := bm.keep (Keep.refl w7).drew
        replace kk := kk.trans (Keep.refl w7).drew
        generalize w7.drew = wq at be bm kk hS ⊢
        refine wpAnyH_take (i := 0) (v := ?_) rfl (by kernel_rfl) (by kernel_rfl) (by kernel_rfl) (fun _ _ _ h => h) (Or.inl ⟨by rfl, ?_⟩) hS ?_
        rotate_left
        · (intro w hSw; (try dsimp only at hSw); go_simp; (first | done | with_reducible rfl))
        change wpAnyH _ _ _ _ _ _ _ (Act.put _ (some 37) _) _
        simp only [Act.put, List.setIfInBounds_toArray, List.set_cons_zero, List.set_cons_succ]
        refine wpAnyH_take (i := 1) (v := ?_) rfl (by kernel_rfl) (by kernel_rfl) (by kernel_rfl) (fun _ _ _ h => h) (Or.inl ⟨by rfl, ?_⟩) hS ?_
        rotate_left
        · (intro w hSw; (try dsimp only at hSw); go_simp; (first | done | with_reducible rfl))
        change wpAnyH _ _ _ _ _ _ _ (Act.put _ (some 38) _) _
        simp only [Act.put, List.setIfInBounds_toArray, List.set_cons_zero, List.set_cons_succ]
        refine wpAnyH_ready (rs := [2]) (by kernel_rfl) (by simp) ?_
        refine AllReadyH.cons rfl (fun K hK => ?_) AllReadyH.nil
        rw [if_pos (by rfl)]
        refine wp_store_row 62 _ _ rfl (B + 1) #[.slice none 0 0, .slice none 0 0, .slice none 0 0] rfl rfl _ _ bm (by kernel_rfl) rfl (by simp [Value.oneCell']) ?_
        have og := only_row wq (B + 1) #[.slice none 0 0, .slice none 0 0, .slice none 0 0]
        replace bm := bm.row #[.slice none 0 0, .slice none 0 0, .slice none 0 0]
        replace be := be.grown og (fun e => by injection e with e; omega)
        replace kk := kk.grown og (fun k e => by injection e with e; have := HB.out; have := kk.size; omega)
        clear og
        have fe3 := be.frozen 0
        refine hK.out _ _ (be.cell_ (i := 0) rfl) (fun hS => ?_)
        clear hK K
        try simp only [Act.put, List.setIfInBounds_toArray]
        refine wpAnyH_ready (rs := [3]) (by kernel_rfl) (by simp) ?_
        refine AllReadyH.cons rfl (fun K hK => ?_) AllReadyH.nil
        go_simp
        replace bm := bm.far (p := ⟨B + 2, 0, none⟩) (by simp only; omega) (.int .i64 4)
        replace be := be.set_ 0 (.int .i64 4)
        replace kk := kk.setCell (p := ⟨B + 2, 0, none⟩) (by have := HB.out; simp only; omega) (.int .i64 4)
        go_wp2_with fail
        refine hK.out _ _ (be.cell_ (i := 0) rfl) (fun hS => ?_)
        clear hK K
        try simp only [Act.put, List.setIfInBounds_toArray]
        refine wpAnyH_done (by kernel_rfl) ?_ _
        refine NoPanic.normal ?_
        go_wp2_with fail
        refine bodyPost_ret (mg_results rfl bm be rfl rfl) rfl ?_
        unfold GetMP
        rw [HX.out]
        dsimp only
        exact ⟨kk, by rw [if_neg (by rw [HK.out]; simp)]⟩
      | true =>
        rw [hk] at hck
        have HK := Lib.hid hk
        clear hk
        go_wp2_with fail
        refine hck.mono ?_
        rintro e w6 ⟨rfl, k6⟩
        clear hck
        replace be := be.keep k6
        replace bm := bm.keep k6
        replace br := br.keep k6
        replace kk := kk.trans k6
        replace f1 := f1.keep k6
        replace f2 := f2.keep k6
        replace b2 := fun s hs' => (show s.c = s.l.length ∧ Fr 3 w6 B s.a s.l.length s.c (cs .i64 s.l) from ⟨(b2 s hs').1, (b2 s hs').2.keep k6⟩)
        clear ce fe cb c0 c1 c2 hM bb
        have ce := be.cell_ (i := 0) rfl
        have c0 := bm.cell_ (i := 0) rfl
        have c1 := bm.cell_ (i := 1) rfl
        have c2 := bm.cell_ (i := 2) rfl
        have og := only_row w6 (B + 1) #[.slice A1 R.length R.length, .slice (some ⟨gr, 0, none⟩) hs.length hs.length, .slice A2 O.length O.length]
        have be' := be.grown og (fun e => by injection e with e; omega)
        have ce' := be'.cell_ (i := 0) rfl
        have fe' := be'.frozen 0
        go_wp2_with (refine wpList_store_row rfl 62 _ _ rfl (B + 1) #[.slice A1 R.length R.length, .slice (some ⟨gr, 0, none⟩) hs.length hs.length, .slice A2 O.length O.length] rfl rfl _ _ bm (by kernel_rfl) rfl (by simp [Value.oneCell']) ?_)
        have t6 : But (fun k => k = B + 1 ∨ k = B + 2) w6 ((w6.setRow (B + 1) #[.slice A1 R.length R.length, .slice (some ⟨gr, 0, none⟩) hs.length hs.length, .slice A2 O.length O.length]).setCell ⟨B + 2, 0, none⟩ (.int .i64 0)) := ((But.refl _ _).grown og (fun k e => by injection e with e; exact .inl e.symm)).setCell (.inr rfl) _
        have bm' := (bm.row #[.slice A1 R.length R.length, .slice (some ⟨gr, 0, none⟩) hs.length hs.length, .slice A2 O.length O.length]).far (p := ⟨B + 2, 0, none⟩) (by simp only; omega) (.int .i64 0)
        have far : ∀ {n c : Nat} {A : Option Addr} {vs : List Value}, Fr 3 w6 B A n c vs → Fr 3 ((w6.setRow (B + 1) #[.slice A1 R.length R.length, .slice (some ⟨gr, 0, none⟩) hs.length hs.length, .slice A2 O.length O.length]).setCell ⟨B + 2, 0, none⟩ (.int .i64 0)) B A n c vs := fun h =>
          h.but t6 (fun k hk e => e.elim (fun e => h.own_ne bm (by decide) k hk e.symm) (fun e => h.own_ne be (by decide) k hk e.symm))
        have f1' := far f1
        have f2' := far f2
        have br' := br.but t6 (by omega)
        have b2' := fun s hs' => (show s.c = s.l.length ∧ Fr 3 ((w6.setRow (B + 1) #[.slice A1 R.length R.length, .slice (some ⟨gr, 0, none⟩) hs.length hs.length, .slice A2 O.length O.length]).setCell ⟨B + 2, 0, none⟩ (.int .i64 0)) B s.a s.l.length s.c (cs .i64 s.l) from ⟨(b2 s hs').1, far (b2 s hs').2⟩)
        have kk' := kk.but t6 (fun k e => by have := HB.out; omega)
        refine bodyPost_ret (mg_results rfl bm' (be'.set_ 0 _) rfl rfl) rfl ?_
        unfold GetMP
        rw [HX.out]
        dsimp only
        rw [if_pos ⟨rfl, HK.out⟩]
        have hb0 := HB.out
        refine ⟨kk', Mkt.mk ⟨A1, R.length, R⟩ (some ⟨gr, 0, none⟩) hs.length hs ⟨A2, O.length, O⟩, rfl, got_ok f1' f2' br' hn b2' r1 (by rw [b1]; exact r2) r3, rfl, b1, rfl, ?_⟩
        rw [← hb0]
        exact ⟨f1', ⟨gr, rfl, by omega, br'⟩, rfl, fun s hs' => (b2' s hs').2, f2'⟩
    · have z0 : 0 < rest.length := List.length_pos_iff.2 hr
      have z1 : (0 : Int) < rest.length := by omega
      have HR := Lib.hid hr
      clear hr z0
      go_upto_region 10 with fail
      replace bm := bm.far (p := ⟨B + 2, 0, none⟩) (by simp only; omega) (.int .i64 4)
      replace be := be.set_ 0 (.int .i64 4)
      replace kk := kk.setCell (p := ⟨B + 2, 0, none⟩) (by have := HB.out; simp only; omega) (.int .i64 4)
      generalize w5.setCell ⟨B + 2, 0, none⟩ (.int .i64 4) = w7 at be bm kk ⊢
      clear ce fe
      have ce := be.cell_ (i := 0) rfl
      go_upto_region 11 with fail
      refine wp_region_noPanic ?_
      refine wp_region_held_drew (S := (fun w' => w'.cell? ⟨B + 2, 0, none⟩ = some (.int .i64 4))) (by kernel_rfl) (be.cell_ (i := 0) rfl) (fun hS => ?_)
      replace be := be.keep (Keep.refl w7).drew
      replace bm := bm.keep (Keep.refl w7).drew
      replace kk := kk.trans (Keep.refl w7).drew
      generalize w7.drew = wq at be bm kk hS ⊢
      refine wpAnyH_take (i := 0) (v := ?_) rfl (by kernel_rfl) (by kernel_rfl) (by kernel_rfl) (fun _ _ _ h => h) (Or.inl ⟨by rfl, ?_⟩) hS ?_
      rotate_left
      · (intro w hSw; (try dsimp only at hSw); go_simp; (first | done | with_reducible rfl))
      change wpAnyH _ _ _ _ _ _ _ (Act.put _ (some 37) _) _
      simp only [Act.put, List.setIfInBounds_toArray, List.set_cons_zero, List.set_cons_succ]
      refine wpAnyH_take (i := 1) (v := ?_) rfl (by kernel_rfl) (by kernel_rfl) (by kernel_rfl) (fun _ _ _ h => h) (Or.inl ⟨by rfl, ?_⟩) hS ?_
      rotate_left
      · (intro w hSw; (try dsimp only at hSw); go_simp; (first | done | with_reducible rfl))
      change wpAnyH _ _ _ _ _ _ _ (Act.put _ (some 38) _) _
      simp only [Act.put, List.setIfInBounds_toArray, List.set_cons_zero, List.set_cons_succ]
      refine wpAnyH_ready (rs := [2]) (by kernel_rfl) (by simp) ?_
      refine AllReadyH.cons rfl (fun K hK => ?_) AllReadyH.nil
      rw [if_pos (by rfl)]
      refine wp_store_row 62 _ _ rfl (B + 1) #[.slice none 0 0, .slice none 0 0, .slice none 0 0] rfl rfl _ _ bm (by kernel_rfl) rfl (by simp [Value.oneCell']) ?_
      have og := only_row wq (B + 1) #[.slice none 0 0, .slice none 0 0, .slice none 0 0]
      replace bm := bm.row #[.slice none 0 0, .slice none 0 0, .slice none 0 0]
      replace be := be.grown og (fun e => by injection e with e; omega)
      replace kk := kk.grown og (fun k e => by injection e with e; have := HB.out; have := kk.size; omega)
      clear og
      have fe3 := be.frozen 0
      refine hK.out _ _ (be.cell_ (i := 0) rfl) (fun hS => ?_)
      clear hK K
      try simp only [Act.put, List.setIfInBounds_toArray]
      refine wpAnyH_ready (rs := [3]) (by kernel_rfl) (by simp) ?_
      refine AllReadyH.cons rfl (fun K hK => ?_) AllReadyH.nil
      go_simp
      replace bm := bm.far (p := ⟨B + 2, 0, none⟩) (by simp only; omega) (.int .i64 4)
      replace be := be.set_ 0 (.int .i64 4)
      replace kk := kk.setCell (p := ⟨B + 2, 0, none⟩) (by have := HB.out; simp only; omega) (.int .i64 4)
      go_wp2_with fail
      refine hK.out _ _ (be.cell_ (i := 0) rfl) (fun hS => ?_)
      clear hK K
      try simp only [Act.put, List.setIfInBounds_toArray]
      refine wpAnyH_done (by kernel_rfl) ?_ _
      refine NoPanic.normal ?_
      go_wp2_with fail
      refine bodyPost_ret (mg_results rfl bm be rfl rfl) rfl ?_
      unfold GetMP
      rw [HX.out]
      dsimp only
      exact ⟨kk, by rw [if_neg (fun h => HR.out h.1)]⟩
end Go.Proofs.Ytjhmlcbpbmeicaa
