/-
  CONTRACTS of the document's answers: chapter 4's Check, chapter 12's Prices and Of. Conditions: the slices are no longer than memory lets them be.
-/
import Derived.Test.YtjaaganaohjmaaaGreatDoorDemP
import Derived.Deep.RegionHeld3
import Derived.Deep.CutRange
import Derived.IntWalk
namespace Go.Proofs.YtjaaganaohjmaaaGreatDoor
open Go.RowKit

set_option maxRecDepth 100000 in
set_option maxHeartbeats 2000000 in
theorem refCheck_f (A : Option Addr) (c : Nat) (xs : List Int) (items : Int) (w : World) (ha : Rd w A (cs .i64 xs)) (la : Len xs.length) :
    Calls Tryz.prog 136 #[.slice A xs.length c, .int .i64 items] w fun e w' => e = .returned (.bool (chk xs items)) ∧ Keep w w' := by
  have la' := la.le
  have hno : ∀ b, chk xs items = b → chk xs items = b := fun _ h => h
  clear hno
  by_cases h1 : items < 1
  · have e : chk xs items = false := by unfold chk; rw [decide_eq_false (show ¬ 1 ≤ items by omega)]; rfl
    rw [e]
    clear e
    have y1 : decide (items < 1) = true := decide_eq_true h1
    go_enter Tryz.func136, Tryz.ntmps136
    go_wp2_with fail
    go_ret
    exact ⟨rfl, Keep.refl _⟩
  have y1 : decide (items < 1) = false := decide_eq_false h1
  by_cases h8 : 8 < items
  · have e : chk xs items = false := by unfold chk; rw [decide_eq_false (show ¬ items ≤ 8 by omega), Bool.and_false]; rfl
    rw [e]
    clear e
    have y2 : decide (8 < items) = true := decide_eq_true h8
    go_enter Tryz.func136, Tryz.ntmps136
    go_wp2_with fail
    go_ret
    exact ⟨rfl, Keep.refl _⟩
  have y2 : decide (8 < items) = false := decide_eq_false h8
  by_cases hl : (xs.length : Int) = items
  · have e : chk xs items = within 1000000 xs := by unfold chk; rw [decide_eq_true (show 1 ≤ items by omega), decide_eq_true (show items ≤ 8 by omega), decide_eq_true hl]; rfl
    rw [e]
    clear e
    subst hl
    have y3 : ((xs.length : Int) != xs.length) = false := by simp
    go_enter Tryz.func136, Tryz.ntmps136
    go_wp2_with fail
    go_loopw [5] (fun v wr => ∃ i : Nat, i ≤ xs.length ∧ v = .int .i64 i ∧ within 1000000 (xs.take i) = true ∧ Keep w wr) (fun v _ => xs.length - (intOf v).toNat)
    case atStart => exact ⟨0, Nat.zero_le _, rfl, rfl, Keep.refl _⟩
    case round =>
      obtain ⟨i, hi, rfl, hw, hk⟩ := hrel
      have HW := Lib.hid hw
      clear hw
      by_cases hlt : i < xs.length
      · obtain ⟨b1, o1, x, rfl, hx, hc1⟩ := (ha.keep hk).int_at hlt
        have HX := Lib.hid hx
        have hi1 : (i : Int) < xs.length := by omega
        have hi0 : (0 : Int) ≤ i := by omega
        clear hx
        by_cases hx0 : x < 0
        · have z1 : decide (x < 0) = true := decide_eq_true hx0
          have HN := Lib.hid (within_not (most := 1000000) HX.out (.inl hx0))
          go_wp2_with fail
          go_ret
          exact ⟨by rw [HN.out]; rfl, hk⟩
        · have z1 : decide (x < 0) = false := decide_eq_false hx0
          by_cases hx1 : 1000000 < x
          · have z2 : decide (1000000 < x) = true := decide_eq_true hx1
            have HN := Lib.hid (within_not (most := 1000000) HX.out (.inr hx1))
            go_wp2_with fail
            go_ret
            exact ⟨by rw [HN.out]; rfl, hk⟩
          · have z2 : decide (1000000 < x) = false := decide_eq_false hx1
            have HT := Lib.hid (within_take HW.out HX.out (by omega) (by omega))
            go_wp2_with fail
            go_roundw
            case rel => exact ⟨i + 1, by omega, by go_num, HT.out, hk⟩
            case measure => simp [intOf]; omega
      · have hw := HW.out
        rw [List.take_of_length_le (by omega)] at hw
        have HW2 := Lib.hid hw
        clear hw
        go_wp2_with fail
        go_ret
        exact ⟨by rw [HW2.out]; rfl, hk⟩
  · have e : chk xs items = false := by unfold chk; rw [decide_eq_false hl, Bool.and_false]; rfl
    rw [e]
    clear e
    have y3 : ((xs.length : Int) != items) = true := by simp [hl]
    clear hl
    go_enter Tryz.func136, Tryz.ntmps136
    go_wp2_with fail
    go_ret
    exact ⟨rfl, Keep.refl _⟩

set_option maxRecDepth 100000 in
set_option maxHeartbeats 2000000 in
theorem refPrices_f (A : Option Addr) (c : Nat) (xs : List Int) (w : World) (ha : Rd w A (cs .i64 xs)) (la : Len xs.length) :
    Calls Tryz.prog 95 #[.slice A xs.length c] w fun e w' => e = .returned (.bool (mayP xs xs.length)) ∧ Keep w w' := by
  have la' := la.le
  by_cases h1 : xs.length < 1
  · have e : mayP xs xs.length = false := by unfold mayP; rw [decide_eq_false (show ¬ (1 : Int) ≤ xs.length by omega)]; rfl
    rw [e]
    clear e
    have y1 : decide ((xs.length : Int) < 1) = true := decide_eq_true (by omega)
    go_enter Tryz.func95, Tryz.ntmps95
    go_wp2_with fail
    go_ret
    exact ⟨rfl, Keep.refl _⟩
  have y1 : decide ((xs.length : Int) < 1) = false := decide_eq_false (by omega)
  have y0 : (0 : Int) < xs.length := by omega
  by_cases h8 : 8 < xs.length
  · have e : mayP xs xs.length = false := by unfold mayP; rw [decide_eq_false (show ¬ (xs.length : Int) ≤ 8 by omega), Bool.and_false]; rfl
    rw [e]
    clear e
    have y2 : decide ((8 : Int) < xs.length) = true := decide_eq_true (by omega)
    go_enter Tryz.func95, Tryz.ntmps95
    go_wp2_with fail
    go_ret
    exact ⟨rfl, Keep.refl _⟩
  have y2 : decide ((8 : Int) < xs.length) = false := decide_eq_false (by omega)
  have e : mayP xs xs.length = within 2000000 xs := by unfold mayP; rw [decide_eq_true (show (1 : Int) ≤ xs.length by omega), decide_eq_true (show (xs.length : Int) ≤ 8 by omega), decide_eq_true rfl]; rfl
  rw [e]
  clear e
  go_enter Tryz.func95, Tryz.ntmps95
  go_wp2_with fail
  go_loopw [3] (fun v wr => ∃ i : Nat, i ≤ xs.length ∧ v = .int .i64 i ∧ within 2000000 (xs.take i) = true ∧ Keep w wr) (fun v _ => xs.length - (intOf v).toNat)
  case atStart => exact ⟨0, Nat.zero_le _, rfl, rfl, Keep.refl _⟩
  case round =>
    obtain ⟨i, hi, rfl, hw, hk⟩ := hrel
    have HW := Lib.hid hw
    clear hw
    by_cases hlt : i < xs.length
    · obtain ⟨b1, o1, x, rfl, hx, hc1⟩ := (ha.keep hk).int_at hlt
      have HX := Lib.hid hx
      have hi1 : (i : Int) < xs.length := by omega
      have hi0 : (0 : Int) ≤ i := by omega
      clear hx
      by_cases hx0 : x < 0
      · have z1 : decide (x < 0) = true := decide_eq_true hx0
        have HN := Lib.hid (within_not (most := 2000000) HX.out (.inl hx0))
        go_wp2_with fail
        go_ret
        exact ⟨by rw [HN.out]; rfl, hk⟩
      · have z1 : decide (x < 0) = false := decide_eq_false hx0
        by_cases hx1 : 2000000 < x
        · have z2 : decide (2000000 < x) = true := decide_eq_true hx1
          have HN := Lib.hid (within_not (most := 2000000) HX.out (.inr hx1))
          go_wp2_with fail
          go_ret
          exact ⟨by rw [HN.out]; rfl, hk⟩
        · have z2 : decide (2000000 < x) = false := decide_eq_false hx1
          have HT := Lib.hid (within_take HW.out HX.out (by omega) (by omega))
          go_wp2_with fail
          go_roundw
          case rel => exact ⟨i + 1, by omega, by go_num, HT.out, hk⟩
          case measure => simp [intOf]; omega
    · have hw := HW.out
      rw [List.take_of_length_le (by omega)] at hw
      have HW2 := Lib.hid hw
      clear hw
      go_wp2_with fail
      go_ret
      exact ⟨by rw [HW2.out]; rfl, hk⟩

/-- The largest difference so far. -/
def gmax (xs ys : List Int) (k : Nat) : Int := (best (gs xs ys k)).2
theorem gmax_succ {xs ys : List Int} {k : Nat} {x y : Int} (hx : xs[k]? = some x) (hy : ys[k]? = some y) : gmax xs ys (k + 1) = max (gmax xs ys k) (x - y) := by
  unfold gmax
  rw [gs_at hx hy, best_snoc]
  unfold stepG
  split
  · omega
  · split <;> omega
theorem pick_succ {xs ys : List Int} {k : Nat} {x y : Int} (hx : xs[k]? = some x) (hy : ys[k]? = some y) (g : Int) : pick xs ys (k + 1) g = pick xs ys k g ++ (if x - y = g then [(k : Int)] else []) := by
  unfold pick
  rw [List.range_succ, List.filter_append, List.map_append]
  congr 1
  have hd := dif_at hx hy
  by_cases h : x - y = g <;> simp [h, hd]
theorem length_pick (xs ys : List Int) (k : Nat) (g : Int) : (pick xs ys k g).length ≤ k := by
  unfold pick
  rw [List.length_map]
  exact Nat.le_trans (List.length_filter_le _ _) (by simp)

theorem results_tmp4 {fn : Func} {t u v x : Tmp} (h : fn.results = #[.tmp t, .tmp u, .tmp v, .tmp x]) (tmps : Array Value) (P : Program) (w : World) :
    (results fn tmps).run P w = .ok (.tuple #[tmps.getD t undef, tmps.getD u undef, tmps.getD v undef, tmps.getD x undef]) w := by
  simp [results, h]
/-- What Of leaves. -/
def RefOfP (xs ys : List Int) (w : World) (e : Ending) (w' : World) : Prop :=
  ∃ (A : Option Addr) (c : Nat) (L : List Int) (n : Bool) (g r : Int), e = .returned (.tuple #[.slice A L.length c, .bool n, .int .i64 g, .int .i64 r]) ∧ Rd w' A (cs .i64 L) ∧ Keep w w' ∧ ofV xs ys = (L, n, g, r)
/-- .. the items in a row of the call's own. -/
def RefOfO (xs ys : List Int) (w : World) (e : Ending) (w' : World) : Prop :=
  ∃ (A : Option Addr) (c : Nat) (L : List Int) (n : Bool) (g r : Int), e = .returned (.tuple #[.slice A L.length c, .bool n, .int .i64 g, .int .i64 r]) ∧ Fr 3 w' w.heap.size A L.length c (cs .i64 L) ∧ Keep w w' ∧ ofV xs ys = (L, n, g, r)
set_option maxRecDepth 100000 in
set_option maxHeartbeats 4000000 in
theorem refOf_o (A B : Option Addr) (ca cb : Nat) (xs ys : List Int) (w : World) (ha : Rd w A (cs .i64 xs)) (la : Len xs.length) (hb : Rd w B (cs .i64 ys)) (lb : Len ys.length) :
    Calls Tryz.prog 96 #[.slice A xs.length ca, .slice B ys.length cb] w (RefOfO xs ys w) := by
  have la' := la.le
  have lb' := lb.le
  have hp := refPrices_f B cb ys w hb lb
  have hno : ofOk xs ys = false → ofV xs ys = ([], false, 0, 1) := fun h => by unfold ofV; rw [h]; rfl
  cases hm : mayP ys ys.length with
  | false =>
    have hv := hno (by unfold ofOk; rw [hm]; rfl)
    rw [hm] at hp
    have HV := Lib.hid hv
    clear hm hv hno
    go_enter Tryz.func96, Tryz.ntmps96
    go_wp2_with fail
    refine hp.mono ?_
    rintro e w1 ⟨rfl, k1⟩
    go_wp2_with fail
    refine bodyPost_ret (results_tmp4 rfl _ _ _) rfl ?_
    exact ⟨none, 0, [], false, 0, 1, rfl, Fr.empty _ _ _ _, k1, HV.out⟩
  | true =>
    rw [hm] at hp
    obtain ⟨m1, m8, m3⟩ := mayP_facts hm
    by_cases hok : ofOk xs ys = true
    · have hcx : xs.length = 0 ∨ chk xs ys.length = true := by
        unfold ofOk at hok
        simp only [Bool.and_eq_true, Bool.or_eq_true, decide_eq_true_eq] at hok
        exact hok.2
      have hle : xs.length ≤ ys.length := by
        rcases hcx with h | h
        · omega
        · have := (chk_facts h).1
          omega
      have hxb : ∀ x ∈ xs, 0 ≤ x ∧ x ≤ 1000000 := by
        rcases hcx with h | h
        · rw [List.eq_nil_of_length_eq_zero h]
          intro x hx
          cases hx
        · exact (chk_facts h).2
      have hV : ofV xs ys = (pick xs ys xs.length (gmax xs ys xs.length), gmax xs ys xs.length == 0, gmax xs ys xs.length, 0) := by
        unfold ofV
        rw [if_pos hok, (best_spec xs ys xs.length).2.2.1]
        rfl
      have HV := Lib.hid hV
      have HXB := Lib.hid hxb
      have HYB := Lib.hid m3
      clear hV hxb m3 hok hno hm
      have hck := fun w1 (k1 : Keep w w1) => refCheck_f A ca xs (ys.length : Int) w1 (ha.keep k1) la
      have wbig : (xs.length : Int) ≤ 8 := by omega
      have lx8 : xs.length ≤ 8 := by omega
      have hent : ∀ w1, Keep w w1 → True := fun _ _ => trivial
      clear hent
      by_cases hx0 : xs.length = 0
      case' pos =>
        have z1 : decide ((0 : Int) < xs.length) = false := decide_eq_false (by omega)
        have z2 : ((0 : Int) < xs.length) = False := eq_false (by omega)
        clear hck hcx
        have z3 : (xs.length = 0) = True := eq_true hx0
        have z4 : decide (0 < xs.length) = false := decide_eq_false (by omega)
        have z5 : (0 < xs.length) = False := eq_false (by omega)
        have HX0 := Lib.hid hx0
        clear hx0
        go_enter Tryz.func96, Tryz.ntmps96
        go_wp2_with fail
        refine hp.mono ?_
        rintro e w1 ⟨rfl, k1⟩
        go_wp2_with fail
      case' neg =>
        have hc1 : chk xs ys.length = true := hcx.resolve_left hx0
        have z1 : decide ((0 : Int) < xs.length) = true := decide_eq_true (by omega)
        have z2 : (0 : Int) < xs.length := by omega
        simp only [hc1] at hck
        clear hcx hc1
        go_enter Tryz.func96, Tryz.ntmps96
        go_wp2_with fail
        refine hp.mono ?_
        rintro e w0 ⟨rfl, k0⟩
        have hq := hck w0 k0
        go_wp2_with fail
        refine hq.mono ?_
        rintro e w1 ⟨rfl, k1'⟩
        have k1 := k0.trans k1'
        clear hq hck k0 k1'
        go_wp2_with fail
      all_goals
        go_loopw [8, 9] (fun u v wr => ∃ k : Nat, k ≤ xs.length ∧ v = .int .i64 k ∧ u = .int .i64 (gmax xs ys k) ∧ (0 ≤ gmax xs ys k ∧ gmax xs ys k ≤ 1000000) ∧ Keep w wr) (fun _ v _ => xs.length - (intOf v).toNat)
        case atStart => exact ⟨0, Nat.zero_le _, rfl, rfl, ⟨by show (0 : Int) ≤ 0; decide, by show (0 : Int) ≤ 1000000; decide⟩, k1⟩
        case round =>
          obtain ⟨k, hk, rfl, rfl, hgb, hkk⟩ := hrel
          obtain ⟨g0, g1⟩ := hgb
          by_cases hlt : k < xs.length
          · obtain ⟨b1, o1, x, e1, hx, hc1⟩ := (ha.keep hkk).int_at hlt
            obtain ⟨b2, o2, y, e2, hy, hc2⟩ := (hb.keep hkk).int_at (show k < ys.length by omega)
            subst e1
            subst e2
            obtain ⟨x0, x1⟩ := HXB.out x (List.mem_of_getElem? hx)
            obtain ⟨y0, y1⟩ := HYB.out y (List.mem_of_getElem? hy)
            have HG := Lib.hid (gmax_succ hx hy)
            have hk1 : (k : Int) < xs.length := by omega
            have hk2 : (k : Int) < ys.length := by omega
            have hk0 : (0 : Int) ≤ k := by omega
            obtain ⟨g, hg⟩ : ∃ g, g = gmax xs ys k := ⟨_, rfl⟩
            rw [← hg] at g0 g1 HG ⊢
            have ww : IntKind.i64.wrap (x - y) = x - y := IntWalk.i64_in _ (by omega)
            clear hx hy hg
            by_cases hmx : g < x - y
            · have hg2 : gmax xs ys (k + 1) = x - y := by rw [HG.out]; omega
              have HG2 := Lib.hid hg2
              clear hg2
              go_upto_region 7 with fail
              refine wp_region_noPanic ?_
              refine wp_region_held_drew (S := (fun w' => w'.cell? ⟨b1, o1 + k, none⟩ = some (.int .i64 x) ∧ w'.cell? ⟨b2, o2 + k, none⟩ = some (.int .i64 y))) (by kernel_rfl) ⟨hc1, hc2⟩ (fun hS => ?_)
              refine wpAnyH_take (i := 0) (v := ?_) rfl (by kernel_rfl) (by kernel_rfl) (by kernel_rfl) (fun _ _ _ h => h) (Or.inl ⟨by rfl, ?_⟩) hS ?_
              rotate_left
              · (intro w hSw; (try dsimp only at hSw); go_simp; (first | done | with_reducible rfl))
              change wpAnyH _ _ _ _ _ _ _ (Act.put _ (some 33) _) _
              simp only [Act.put, List.setIfInBounds_toArray, List.set_cons_zero, List.set_cons_succ]
              refine wpAnyH_take (i := 1) (v := ?_) rfl (by kernel_rfl) (by kernel_rfl) (by kernel_rfl) (fun _ _ _ h => h) (Or.inl ⟨by rfl, ?_⟩) hS ?_
              rotate_left
              · (intro w hSw; (try dsimp only at hSw); go_simp; (first | done | with_reducible rfl))
              change wpAnyH _ _ _ _ _ _ _ (Act.put _ (some 34) _) _
              simp only [Act.put, List.setIfInBounds_toArray, List.set_cons_zero, List.set_cons_succ]
              refine wpAnyH_take (i := 2) (v := ?_) rfl (by kernel_rfl) (by kernel_rfl) (by kernel_rfl) (fun _ _ _ h => h) (Or.inl ⟨by rfl, ?_⟩) hS ?_
              rotate_left
              · (intro w hSw; (try dsimp only at hSw); go_simp; (first | done | with_reducible rfl))
              change wpAnyH _ _ _ _ _ _ _ (Act.put _ (some 35) _) _
              simp only [Act.put, List.setIfInBounds_toArray, List.set_cons_zero, List.set_cons_succ]
              refine wpAnyH_take (i := 3) (v := ?_) rfl (by kernel_rfl) (by kernel_rfl) (by kernel_rfl) (fun _ _ _ h => h) (Or.inl ⟨by rfl, ?_⟩) hS ?_
              rotate_left
              · (intro w hSw; (try dsimp only at hSw); go_simp; (first | done | with_reducible rfl))
              change wpAnyH _ _ _ _ _ _ _ (Act.put _ (some 36) _) _
              simp only [Act.put, List.setIfInBounds_toArray, List.set_cons_zero, List.set_cons_succ]
              refine wpAnyH_take (i := 4) (v := ?_) rfl (by kernel_rfl) (by kernel_rfl) (by kernel_rfl) (fun _ _ _ h => h) (Or.inl ⟨by rfl, ?_⟩) hS ?_
              rotate_left
              · (intro w hSw; (try dsimp only at hSw); go_simp; (first | done | with_reducible rfl))
              change wpAnyH _ _ _ _ _ _ _ (Act.put _ (some 37) _) _
              simp only [Act.put, List.setIfInBounds_toArray, List.set_cons_zero, List.set_cons_succ]
              refine wpAnyH_take (i := 5) (v := ?_) rfl (by kernel_rfl) (by kernel_rfl) (by kernel_rfl) (fun _ _ _ h => h) (Or.inl ⟨by rfl, ?_⟩) hS ?_
              rotate_left
              · (intro w hSw; (try dsimp only at hSw); go_simp; (first | done | with_reducible rfl))
              change wpAnyH _ _ _ _ _ _ _ (Act.put _ (some 38) _) _
              simp only [Act.put, List.setIfInBounds_toArray, List.set_cons_zero, List.set_cons_succ]
              refine wpAnyH_take (i := 6) (v := ?_) rfl (by kernel_rfl) (by kernel_rfl) (by kernel_rfl) (fun _ _ _ h => h) (Or.inl ⟨by rfl, ?_⟩) hS ?_
              rotate_left
              · (intro w hSw; (try dsimp only at hSw); go_simp; (first | done | with_reducible rfl))
              change wpAnyH _ _ _ _ _ _ _ (Act.put _ (some 39) _) _
              simp only [Act.put, List.setIfInBounds_toArray, List.set_cons_zero, List.set_cons_succ]
              refine wpAnyH_take (i := 7) (v := ?_) rfl (by kernel_rfl) (by kernel_rfl) (by kernel_rfl) (fun _ _ _ h => h) (Or.inl ⟨by rfl, ?_⟩) hS ?_
              rotate_left
              · (intro w hSw; (try dsimp only at hSw); go_simp; (first | done | with_reducible rfl))
              change wpAnyH _ _ _ _ _ _ _ (Act.put _ (some 40) _) _
              simp only [Act.put, List.setIfInBounds_toArray, List.set_cons_zero, List.set_cons_succ]
              refine wpAnyH_take (i := 8) (v := ?_) rfl (by kernel_rfl) (by kernel_rfl) (by kernel_rfl) (fun _ _ _ h => h) (Or.inl ⟨by rfl, ?_⟩) hS ?_
              rotate_left
              · (intro w hSw; (try dsimp only at hSw); go_simp; (first | done | with_reducible rfl))
              change wpAnyH _ _ _ _ _ _ _ (Act.put _ (some 41) _) _
              simp only [Act.put, List.setIfInBounds_toArray, List.set_cons_zero, List.set_cons_succ]
              refine wpAnyH_take (i := 9) (v := ?_) rfl (by kernel_rfl) (by kernel_rfl) (by kernel_rfl) (fun _ _ _ h => h) (Or.inl ⟨by rfl, ?_⟩) hS ?_
              rotate_left
              · (intro w hSw; (try dsimp only at hSw); go_simp; (first | done | with_reducible rfl))
              change wpAnyH _ _ _ _ _ _ _ (Act.put _ (some 42) _) _
              simp only [Act.put, List.setIfInBounds_toArray, List.set_cons_zero, List.set_cons_succ]
              refine wpAnyH_take (i := 10) (v := ?_) rfl (by kernel_rfl) (by kernel_rfl) (by kernel_rfl) (fun _ _ _ h => h) (Or.inl ⟨by rfl, ?_⟩) hS ?_
              rotate_left
              · (intro w hSw; (try dsimp only at hSw); go_simp; (first | done | with_reducible rfl))
              change wpAnyH _ _ _ _ _ _ _ (Act.put _ (some 43) _) _
              simp only [Act.put, List.setIfInBounds_toArray, List.set_cons_zero, List.set_cons_succ]
              refine wpAnyH_take (i := 11) (v := ?_) rfl (by kernel_rfl) (by kernel_rfl) (by kernel_rfl) (fun _ _ _ h => h) (Or.inl ⟨by rfl, ?_⟩) hS ?_
              rotate_left
              · (intro w hSw; (try dsimp only at hSw); go_simp; (first | done | with_reducible rfl))
              change wpAnyH _ _ _ _ _ _ _ (Act.put _ (some 8) _) _
              simp only [Act.put, List.setIfInBounds_toArray, List.set_cons_zero, List.set_cons_succ]
              refine wpAnyH_done (by kernel_rfl) ?_ _
              refine NoPanic.normal ?_
              go_wp2_with fail
              go_roundw
              case rel => exact ⟨k + 1, by omega, by go_num, by rw [HG2.out], by rw [HG2.out]; omega, hkk.drew⟩
              case measure => simp [intOf]; omega
            · have hg2 : gmax xs ys (k + 1) = g := by rw [HG.out]; omega
              have HG2 := Lib.hid hg2
              clear hg2
              go_upto_region 7 with fail
              refine wp_region_noPanic ?_
              refine wp_region_held_drew (S := (fun w' => w'.cell? ⟨b1, o1 + k, none⟩ = some (.int .i64 x) ∧ w'.cell? ⟨b2, o2 + k, none⟩ = some (.int .i64 y))) (by kernel_rfl) ⟨hc1, hc2⟩ (fun hS => ?_)
              refine wpAnyH_take (i := 0) (v := ?_) rfl (by kernel_rfl) (by kernel_rfl) (by kernel_rfl) (fun _ _ _ h => h) (Or.inl ⟨by rfl, ?_⟩) hS ?_
              rotate_left
              · (intro w hSw; (try dsimp only at hSw); go_simp; (first | done | with_reducible rfl))
              change wpAnyH _ _ _ _ _ _ _ (Act.put _ (some 33) _) _
              simp only [Act.put, List.setIfInBounds_toArray, List.set_cons_zero, List.set_cons_succ]
              refine wpAnyH_take (i := 1) (v := ?_) rfl (by kernel_rfl) (by kernel_rfl) (by kernel_rfl) (fun _ _ _ h => h) (Or.inl ⟨by rfl, ?_⟩) hS ?_
              rotate_left
              · (intro w hSw; (try dsimp only at hSw); go_simp; (first | done | with_reducible rfl))
              change wpAnyH _ _ _ _ _ _ _ (Act.put _ (some 34) _) _
              simp only [Act.put, List.setIfInBounds_toArray, List.set_cons_zero, List.set_cons_succ]
              refine wpAnyH_take (i := 2) (v := ?_) rfl (by kernel_rfl) (by kernel_rfl) (by kernel_rfl) (fun _ _ _ h => h) (Or.inl ⟨by rfl, ?_⟩) hS ?_
              rotate_left
              · (intro w hSw; (try dsimp only at hSw); go_simp; (first | done | with_reducible rfl))
              change wpAnyH _ _ _ _ _ _ _ (Act.put _ (some 35) _) _
              simp only [Act.put, List.setIfInBounds_toArray, List.set_cons_zero, List.set_cons_succ]
              refine wpAnyH_take (i := 3) (v := ?_) rfl (by kernel_rfl) (by kernel_rfl) (by kernel_rfl) (fun _ _ _ h => h) (Or.inl ⟨by rfl, ?_⟩) hS ?_
              rotate_left
              · (intro w hSw; (try dsimp only at hSw); go_simp; (first | done | with_reducible rfl))
              change wpAnyH _ _ _ _ _ _ _ (Act.put _ (some 36) _) _
              simp only [Act.put, List.setIfInBounds_toArray, List.set_cons_zero, List.set_cons_succ]
              refine wpAnyH_take (i := 4) (v := ?_) rfl (by kernel_rfl) (by kernel_rfl) (by kernel_rfl) (fun _ _ _ h => h) (Or.inl ⟨by rfl, ?_⟩) hS ?_
              rotate_left
              · (intro w hSw; (try dsimp only at hSw); go_simp; (first | done | with_reducible rfl))
              change wpAnyH _ _ _ _ _ _ _ (Act.put _ (some 37) _) _
              simp only [Act.put, List.setIfInBounds_toArray, List.set_cons_zero, List.set_cons_succ]
              refine wpAnyH_take (i := 5) (v := ?_) rfl (by kernel_rfl) (by kernel_rfl) (by kernel_rfl) (fun _ _ _ h => h) (Or.inl ⟨by rfl, ?_⟩) hS ?_
              rotate_left
              · (intro w hSw; (try dsimp only at hSw); go_simp; (first | done | with_reducible rfl))
              change wpAnyH _ _ _ _ _ _ _ (Act.put _ (some 38) _) _
              simp only [Act.put, List.setIfInBounds_toArray, List.set_cons_zero, List.set_cons_succ]
              refine wpAnyH_take (i := 6) (v := ?_) rfl (by kernel_rfl) (by kernel_rfl) (by kernel_rfl) (fun _ _ _ h => h) (Or.inl ⟨by rfl, ?_⟩) hS ?_
              rotate_left
              · (intro w hSw; (try dsimp only at hSw); go_simp; (first | done | with_reducible rfl))
              change wpAnyH _ _ _ _ _ _ _ (Act.put _ (some 39) _) _
              simp only [Act.put, List.setIfInBounds_toArray, List.set_cons_zero, List.set_cons_succ]
              refine wpAnyH_take (i := 7) (v := ?_) rfl (by kernel_rfl) (by kernel_rfl) (by kernel_rfl) (fun _ _ _ h => h) (Or.inl ⟨by rfl, ?_⟩) hS ?_
              rotate_left
              · (intro w hSw; (try dsimp only at hSw); go_simp; (first | done | with_reducible rfl))
              change wpAnyH _ _ _ _ _ _ _ (Act.put _ (some 40) _) _
              simp only [Act.put, List.setIfInBounds_toArray, List.set_cons_zero, List.set_cons_succ]
              refine wpAnyH_take (i := 8) (v := ?_) rfl (by kernel_rfl) (by kernel_rfl) (by kernel_rfl) (fun _ _ _ h => h) (Or.inl ⟨by rfl, ?_⟩) hS ?_
              rotate_left
              · (intro w hSw; (try dsimp only at hSw); go_simp; (first | done | with_reducible rfl))
              change wpAnyH _ _ _ _ _ _ _ (Act.put _ (some 41) _) _
              simp only [Act.put, List.setIfInBounds_toArray, List.set_cons_zero, List.set_cons_succ]
              refine wpAnyH_take (i := 9) (v := ?_) rfl (by kernel_rfl) (by kernel_rfl) (by kernel_rfl) (fun _ _ _ h => h) (Or.inl ⟨by rfl, ?_⟩) hS ?_
              rotate_left
              · (intro w hSw; (try dsimp only at hSw); go_simp; (first | done | with_reducible rfl))
              change wpAnyH _ _ _ _ _ _ _ (Act.put _ (some 42) _) _
              simp only [Act.put, List.setIfInBounds_toArray, List.set_cons_zero, List.set_cons_succ]
              refine wpAnyH_take (i := 10) (v := ?_) rfl (by kernel_rfl) (by kernel_rfl) (by kernel_rfl) (fun _ _ _ h => h) (Or.inl ⟨by rfl, ?_⟩) hS ?_
              rotate_left
              · (intro w hSw; (try dsimp only at hSw); go_simp; (first | done | with_reducible rfl))
              change wpAnyH _ _ _ _ _ _ _ (Act.put _ (some 43) _) _
              simp only [Act.put, List.setIfInBounds_toArray, List.set_cons_zero, List.set_cons_succ]
              refine wpAnyH_take (i := 11) (v := ?_) rfl (by kernel_rfl) (by kernel_rfl) (by kernel_rfl) (fun _ _ _ h => h) (Or.inl ⟨by rfl, ?_⟩) hS ?_
              rotate_left
              · (intro w hSw; (try dsimp only at hSw); go_simp; (first | done | with_reducible rfl))
              change wpAnyH _ _ _ _ _ _ _ (Act.put _ (some 8) _) _
              simp only [Act.put, List.setIfInBounds_toArray, List.set_cons_zero, List.set_cons_succ]
              refine wpAnyH_done (by kernel_rfl) ?_ _
              refine NoPanic.normal ?_
              go_wp2_with fail
              go_roundw
              case rel => exact ⟨k + 1, by omega, by go_num, by rw [HG2.out], by rw [HG2.out]; omega, hkk.drew⟩
              case measure => simp [intOf]; omega
          · obtain rfl : k = xs.length := by omega
            obtain ⟨G, hG⟩ : ∃ G, G = gmax xs ys xs.length := ⟨_, rfl⟩
            rw [← hG] at g0 g1 ⊢
            have HG := Lib.hid hG
            clear hG
            go_wp2_with fail
            obtain ⟨w2, hw2⟩ : ∃ x, x = wr := ⟨wr, rfl⟩
            subst hw2
            go_loopw [10, 11] (fun u v wr => ∃ (k : Nat) (A' : Option Addr) (c' : Nat), k ≤ xs.length ∧ v = .int .i64 k ∧ u = .slice A' (pick xs ys k G).length c' ∧ Fr 3 wr w.heap.size A' (pick xs ys k G).length c' (cs .i64 (pick xs ys k G)) ∧ Keep w wr) (fun _ v _ => xs.length - (intOf v).toNat)
            case atStart => exact ⟨0, none, 0, Nat.zero_le _, rfl, rfl, Fr.empty _ _ _ _, hkk⟩
            case round =>
              clear hkk
              obtain ⟨k, A', c', hk, rfl, rfl, hfr, hkk⟩ := hrel
              by_cases hlt : k < xs.length
              · obtain ⟨b1, o1, x, e1, hx, hc1⟩ := (ha.keep hkk).int_at hlt
                obtain ⟨b2, o2, y, e2, hy, hc2⟩ := (hb.keep hkk).int_at (show k < ys.length by omega)
                subst e1
                subst e2
                obtain ⟨x0, x1⟩ := HXB.out x (List.mem_of_getElem? hx)
                obtain ⟨y0, y1⟩ := HYB.out y (List.mem_of_getElem? hy)
                have hps := pick_succ hx hy G
                have hk1 : (k : Int) < xs.length := by omega
                have hk2 : (k : Int) < ys.length := by omega
                have hk0 : (0 : Int) ≤ k := by omega
                have ww : IntKind.i64.wrap (x - y) = x - y := IntWalk.i64_in _ (by omega)
                have hpl := length_pick xs ys k G
                clear hx hy
                by_cases heq : x - y = G
                · rw [if_pos heq] at hps
                  have HPS := Lib.hid hps
                  have z5 : ((x - y) == G) = true := beq_iff_eq.2 heq
                  obtain ⟨pl, hplq⟩ : ∃ pl, pl = pick xs ys k G := ⟨_, rfl⟩
                  rw [← hplq] at hfr HPS hpl ⊢
                  clear hps heq hplq
                  go_upto_region 12 with fail
                  go_cut [60] from 50 to 60 (fun v wx => v = .bool true ∧ Keep wr wx)
                  case first =>
                    refine wp_region_noPanic ?_
                    refine wp_region_held_drew (S := (fun w' => w'.cell? ⟨b1, o1 + k, none⟩ = some (.int .i64 x) ∧ w'.cell? ⟨b2, o2 + k, none⟩ = some (.int .i64 y))) (by kernel_rfl) ⟨hc1, hc2⟩ (fun hS => ?_)
                    refine wpAnyH_take (i := 0) (v := ?_) rfl (by kernel_rfl) (by kernel_rfl) (by kernel_rfl) (fun _ _ _ h => h) (Or.inl ⟨by rfl, ?_⟩) hS ?_
                    rotate_left
                    · (intro w hSw; (try dsimp only at hSw); go_simp; (first | done | with_reducible rfl))
                    change wpAnyH _ _ _ _ _ _ _ (Act.put _ (some 50) _) _
                    simp only [Act.put, List.setIfInBounds_toArray, List.set_cons_zero, List.set_cons_succ]
                    refine wpAnyH_take (i := 1) (v := ?_) rfl (by kernel_rfl) (by kernel_rfl) (by kernel_rfl) (fun _ _ _ h => h) (Or.inl ⟨by rfl, ?_⟩) hS ?_
                    rotate_left
                    · (intro w hSw; (try dsimp only at hSw); go_simp; (first | done | with_reducible rfl))
                    change wpAnyH _ _ _ _ _ _ _ (Act.put _ (some 51) _) _
                    simp only [Act.put, List.setIfInBounds_toArray, List.set_cons_zero, List.set_cons_succ]
                    refine wpAnyH_take (i := 2) (v := ?_) rfl (by kernel_rfl) (by kernel_rfl) (by kernel_rfl) (fun _ _ _ h => h) (Or.inl ⟨by rfl, ?_⟩) hS ?_
                    rotate_left
                    · (intro w hSw; (try dsimp only at hSw); go_simp; (first | done | with_reducible rfl))
                    change wpAnyH _ _ _ _ _ _ _ (Act.put _ (some 52) _) _
                    simp only [Act.put, List.setIfInBounds_toArray, List.set_cons_zero, List.set_cons_succ]
                    refine wpAnyH_take (i := 3) (v := ?_) rfl (by kernel_rfl) (by kernel_rfl) (by kernel_rfl) (fun _ _ _ h => h) (Or.inl ⟨by rfl, ?_⟩) hS ?_
                    rotate_left
                    · (intro w hSw; (try dsimp only at hSw); go_simp; (first | done | with_reducible rfl))
                    change wpAnyH _ _ _ _ _ _ _ (Act.put _ (some 53) _) _
                    simp only [Act.put, List.setIfInBounds_toArray, List.set_cons_zero, List.set_cons_succ]
                    refine wpAnyH_take (i := 4) (v := ?_) rfl (by kernel_rfl) (by kernel_rfl) (by kernel_rfl) (fun _ _ _ h => h) (Or.inl ⟨by rfl, ?_⟩) hS ?_
                    rotate_left
                    · (intro w hSw; (try dsimp only at hSw); go_simp; (first | done | with_reducible rfl))
                    change wpAnyH _ _ _ _ _ _ _ (Act.put _ (some 54) _) _
                    simp only [Act.put, List.setIfInBounds_toArray, List.set_cons_zero, List.set_cons_succ]
                    refine wpAnyH_take (i := 5) (v := ?_) rfl (by kernel_rfl) (by kernel_rfl) (by kernel_rfl) (fun _ _ _ h => h) (Or.inl ⟨by rfl, ?_⟩) hS ?_
                    rotate_left
                    · (intro w hSw; (try dsimp only at hSw); go_simp; (first | done | with_reducible rfl))
                    change wpAnyH _ _ _ _ _ _ _ (Act.put _ (some 55) _) _
                    simp only [Act.put, List.setIfInBounds_toArray, List.set_cons_zero, List.set_cons_succ]
                    refine wpAnyH_take (i := 6) (v := ?_) rfl (by kernel_rfl) (by kernel_rfl) (by kernel_rfl) (fun _ _ _ h => h) (Or.inl ⟨by rfl, ?_⟩) hS ?_
                    rotate_left
                    · (intro w hSw; (try dsimp only at hSw); go_simp; (first | done | with_reducible rfl))
                    change wpAnyH _ _ _ _ _ _ _ (Act.put _ (some 56) _) _
                    simp only [Act.put, List.setIfInBounds_toArray, List.set_cons_zero, List.set_cons_succ]
                    refine wpAnyH_take (i := 7) (v := ?_) rfl (by kernel_rfl) (by kernel_rfl) (by kernel_rfl) (fun _ _ _ h => h) (Or.inl ⟨by rfl, ?_⟩) hS ?_
                    rotate_left
                    · (intro w hSw; (try dsimp only at hSw); go_simp; (first | done | with_reducible rfl))
                    change wpAnyH _ _ _ _ _ _ _ (Act.put _ (some 57) _) _
                    simp only [Act.put, List.setIfInBounds_toArray, List.set_cons_zero, List.set_cons_succ]
                    refine wpAnyH_take (i := 8) (v := ?_) rfl (by kernel_rfl) (by kernel_rfl) (by kernel_rfl) (fun _ _ _ h => h) (Or.inl ⟨by rfl, ?_⟩) hS ?_
                    rotate_left
                    · (intro w hSw; (try dsimp only at hSw); go_simp; (first | done | with_reducible rfl))
                    change wpAnyH _ _ _ _ _ _ _ (Act.put _ (some 58) _) _
                    simp only [Act.put, List.setIfInBounds_toArray, List.set_cons_zero, List.set_cons_succ]
                    refine wpAnyH_take (i := 9) (v := ?_) rfl (by kernel_rfl) (by kernel_rfl) (by kernel_rfl) (fun _ _ _ h => h) (Or.inl ⟨by rfl, ?_⟩) hS ?_
                    rotate_left
                    · (intro w hSw; (try dsimp only at hSw); go_simp; (first | done | with_reducible rfl))
                    change wpAnyH _ _ _ _ _ _ _ (Act.put _ (some 59) _) _
                    simp only [Act.put, List.setIfInBounds_toArray, List.set_cons_zero, List.set_cons_succ]
                    refine wpAnyH_take (i := 10) (v := ?_) rfl (by kernel_rfl) (by kernel_rfl) (by kernel_rfl) (fun _ _ _ h => h) (Or.inl ⟨by rfl, ?_⟩) hS ?_
                    rotate_left
                    · (intro w hSw; (try dsimp only at hSw); go_simp; (first | done | with_reducible rfl))
                    change wpAnyH _ _ _ _ _ _ _ (Act.put _ (some 60) _) _
                    simp only [Act.put, List.setIfInBounds_toArray, List.set_cons_zero, List.set_cons_succ]
                    refine wpAnyH_done (by kernel_rfl) ?_ _
                    refine NoPanic.normal ?_
                    go_wp2_with fail
                    go_meet
                    exact ⟨rfl, (Keep.refl _).drew⟩
                  case rest =>
                  obtain ⟨rfl, kq⟩ := hcut
                  have hf2 := hfr.keep kq
                  have hk3 := hkk.trans kq
                  clear hfr hkk hc1 hc2 z5
                  go_wp2_with (at_builtin; refine wpList_append_fr _ rfl _ _ 26 rfl w.heap.size 3 (.int .i64 0) 8 Tryz.underlying26 infoInt rfl A' pl.length c' _ rfl (hf2.keep (Keep.alloc1 _ _)) (some ⟨wc.heap.size, 0, none⟩) 1 1 [.int .i64 (k : Int)] rfl rfl (Rd.one _ _ _) (one_int _ _) ?c1 ?c2 ?c3 ?_)
                  case c1 => unfold maxLen; omega
                  case c2 => omega
                  case c3 => have := hk3.size; simp; omega
                  intro A2 c2 w3 happ
                  have hk4 := happ.keep (hk3.alloc _) (hf2.keep (Keep.alloc1 _ _))
                  have hf3 := happ.fr
                  rw [← cs_one, ← cs_append, ← HPS.out] at hf3
                  have hl2 : pl.length + 1 = (pick xs ys (k + 1) G).length := by rw [HPS.out, List.length_append]; rfl
                  have HL2 := Lib.hid hl2
                  clear happ hf2 hl2
                  go_wp2_with fail
                  go_roundw
                  case rel => exact ⟨k + 1, A2, c2, by omega, by go_num, by rw [HL2.out], by rw [← HL2.out]; exact hf3, hk4⟩
                  case measure => simp [intOf]; omega
                · rw [if_neg heq, List.append_nil] at hps
                  have HPS := Lib.hid hps
                  have z5 : ((x - y) == G) = false := beq_eq_false_iff_ne.2 heq
                  clear hps heq
                  go_upto_region 12 with fail
                  go_cut [60] from 50 to 60 (fun v wx => v = .bool false ∧ Keep wr wx)
                  case first =>
                    refine wp_region_noPanic ?_
                    refine wp_region_held_drew (S := (fun w' => w'.cell? ⟨b1, o1 + k, none⟩ = some (.int .i64 x) ∧ w'.cell? ⟨b2, o2 + k, none⟩ = some (.int .i64 y))) (by kernel_rfl) ⟨hc1, hc2⟩ (fun hS => ?_)
                    refine wpAnyH_take (i := 0) (v := ?_) rfl (by kernel_rfl) (by kernel_rfl) (by kernel_rfl) (fun _ _ _ h => h) (Or.inl ⟨by rfl, ?_⟩) hS ?_
                    rotate_left
                    · (intro w hSw; (try dsimp only at hSw); go_simp; (first | done | with_reducible rfl))
                    change wpAnyH _ _ _ _ _ _ _ (Act.put _ (some 50) _) _
                    simp only [Act.put, List.setIfInBounds_toArray, List.set_cons_zero, List.set_cons_succ]
                    refine wpAnyH_take (i := 1) (v := ?_) rfl (by kernel_rfl) (by kernel_rfl) (by kernel_rfl) (fun _ _ _ h => h) (Or.inl ⟨by rfl, ?_⟩) hS ?_
                    rotate_left
                    · (intro w hSw; (try dsimp only at hSw); go_simp; (first | done | with_reducible rfl))
                    change wpAnyH _ _ _ _ _ _ _ (Act.put _ (some 51) _) _
                    simp only [Act.put, List.setIfInBounds_toArray, List.set_cons_zero, List.set_cons_succ]
                    refine wpAnyH_take (i := 2) (v := ?_) rfl (by kernel_rfl) (by kernel_rfl) (by kernel_rfl) (fun _ _ _ h => h) (Or.inl ⟨by rfl, ?_⟩) hS ?_
                    rotate_left
                    · (intro w hSw; (try dsimp only at hSw); go_simp; (first | done | with_reducible rfl))
                    change wpAnyH _ _ _ _ _ _ _ (Act.put _ (some 52) _) _
                    simp only [Act.put, List.setIfInBounds_toArray, List.set_cons_zero, List.set_cons_succ]
                    refine wpAnyH_take (i := 3) (v := ?_) rfl (by kernel_rfl) (by kernel_rfl) (by kernel_rfl) (fun _ _ _ h => h) (Or.inl ⟨by rfl, ?_⟩) hS ?_
                    rotate_left
                    · (intro w hSw; (try dsimp only at hSw); go_simp; (first | done | with_reducible rfl))
                    change wpAnyH _ _ _ _ _ _ _ (Act.put _ (some 53) _) _
                    simp only [Act.put, List.setIfInBounds_toArray, List.set_cons_zero, List.set_cons_succ]
                    refine wpAnyH_take (i := 4) (v := ?_) rfl (by kernel_rfl) (by kernel_rfl) (by kernel_rfl) (fun _ _ _ h => h) (Or.inl ⟨by rfl, ?_⟩) hS ?_
                    rotate_left
                    · (intro w hSw; (try dsimp only at hSw); go_simp; (first | done | with_reducible rfl))
                    change wpAnyH _ _ _ _ _ _ _ (Act.put _ (some 54) _) _
                    simp only [Act.put, List.setIfInBounds_toArray, List.set_cons_zero, List.set_cons_succ]
                    refine wpAnyH_take (i := 5) (v := ?_) rfl (by kernel_rfl) (by kernel_rfl) (by kernel_rfl) (fun _ _ _ h => h) (Or.inl ⟨by rfl, ?_⟩) hS ?_
                    rotate_left
                    · (intro w hSw; (try dsimp only at hSw); go_simp; (first | done | with_reducible rfl))
                    change wpAnyH _ _ _ _ _ _ _ (Act.put _ (some 55) _) _
                    simp only [Act.put, List.setIfInBounds_toArray, List.set_cons_zero, List.set_cons_succ]
                    refine wpAnyH_take (i := 6) (v := ?_) rfl (by kernel_rfl) (by kernel_rfl) (by kernel_rfl) (fun _ _ _ h => h) (Or.inl ⟨by rfl, ?_⟩) hS ?_
                    rotate_left
                    · (intro w hSw; (try dsimp only at hSw); go_simp; (first | done | with_reducible rfl))
                    change wpAnyH _ _ _ _ _ _ _ (Act.put _ (some 56) _) _
                    simp only [Act.put, List.setIfInBounds_toArray, List.set_cons_zero, List.set_cons_succ]
                    refine wpAnyH_take (i := 7) (v := ?_) rfl (by kernel_rfl) (by kernel_rfl) (by kernel_rfl) (fun _ _ _ h => h) (Or.inl ⟨by rfl, ?_⟩) hS ?_
                    rotate_left
                    · (intro w hSw; (try dsimp only at hSw); go_simp; (first | done | with_reducible rfl))
                    change wpAnyH _ _ _ _ _ _ _ (Act.put _ (some 57) _) _
                    simp only [Act.put, List.setIfInBounds_toArray, List.set_cons_zero, List.set_cons_succ]
                    refine wpAnyH_take (i := 8) (v := ?_) rfl (by kernel_rfl) (by kernel_rfl) (by kernel_rfl) (fun _ _ _ h => h) (Or.inl ⟨by rfl, ?_⟩) hS ?_
                    rotate_left
                    · (intro w hSw; (try dsimp only at hSw); go_simp; (first | done | with_reducible rfl))
                    change wpAnyH _ _ _ _ _ _ _ (Act.put _ (some 58) _) _
                    simp only [Act.put, List.setIfInBounds_toArray, List.set_cons_zero, List.set_cons_succ]
                    refine wpAnyH_take (i := 9) (v := ?_) rfl (by kernel_rfl) (by kernel_rfl) (by kernel_rfl) (fun _ _ _ h => h) (Or.inl ⟨by rfl, ?_⟩) hS ?_
                    rotate_left
                    · (intro w hSw; (try dsimp only at hSw); go_simp; (first | done | with_reducible rfl))
                    change wpAnyH _ _ _ _ _ _ _ (Act.put _ (some 59) _) _
                    simp only [Act.put, List.setIfInBounds_toArray, List.set_cons_zero, List.set_cons_succ]
                    refine wpAnyH_take (i := 10) (v := ?_) rfl (by kernel_rfl) (by kernel_rfl) (by kernel_rfl) (fun _ _ _ h => h) (Or.inl ⟨by rfl, ?_⟩) hS ?_
                    rotate_left
                    · (intro w hSw; (try dsimp only at hSw); go_simp; (first | done | with_reducible rfl))
                    change wpAnyH _ _ _ _ _ _ _ (Act.put _ (some 60) _) _
                    simp only [Act.put, List.setIfInBounds_toArray, List.set_cons_zero, List.set_cons_succ]
                    refine wpAnyH_done (by kernel_rfl) ?_ _
                    refine NoPanic.normal ?_
                    go_wp2_with fail
                    go_meet
                    exact ⟨rfl, (Keep.refl _).drew⟩
                  case rest =>
                  obtain ⟨rfl, kq⟩ := hcut
                  go_wp2_with fail
                  go_roundw
                  case rel => exact ⟨k + 1, A', c', by omega, by go_num, by rw [HPS.out], by rw [HPS.out]; exact hfr.keep kq, hkk.trans kq⟩
                  case measure => simp [intOf]; omega
              · obtain rfl : k = xs.length := by omega
                go_wp2_with fail
                refine bodyPost_ret (results_tmp4 rfl _ _ _) rfl ?_
                exact ⟨A', c', pick xs ys xs.length G, _, _, _, rfl, hfr, hkk, by rw [HV.out, ← HG.out]⟩
    · have hv := hno (by cases h : ofOk xs ys with | true => exact absurd h hok | false => rfl)
      have hx0 : 0 < xs.length := by
        refine Nat.pos_of_ne_zero fun h => hok ?_
        unfold ofOk
        rw [hm, decide_eq_true h]
        rfl
      have hck : chk xs ys.length = false := by
        cases h : chk xs ys.length with
        | false => rfl
        | true =>
          refine absurd ?_ hok
          unfold ofOk
          rw [hm, h, Bool.or_true]
          rfl
      have hq := fun w1 (k1 : Keep w w1) => refCheck_f A ca xs (ys.length : Int) w1 (ha.keep k1) la
      simp only [hck] at hq
      have z1 : decide ((0 : Int) < xs.length) = true := decide_eq_true (by omega)
      have z2 : (0 : Int) < xs.length := by omega
      have HV := Lib.hid hv
      clear hck hm hv hno hok hx0
      go_enter Tryz.func96, Tryz.ntmps96
      go_wp2_with fail
      refine hp.mono ?_
      rintro e w1 ⟨rfl, k1⟩
      have hq1 := hq w1 k1
      go_wp2_with fail
      refine hq1.mono ?_
      rintro e w2 ⟨rfl, k2⟩
      go_wp2_with fail
      refine bodyPost_ret (results_tmp4 rfl _ _ _) rfl ?_
      exact ⟨none, 0, [], false, 0, 1, rfl, Fr.empty _ _ _ _, k1.trans k2, HV.out⟩
theorem refOf_f (A B : Option Addr) (ca cb : Nat) (xs ys : List Int) (w : World) (ha : Rd w A (cs .i64 xs)) (la : Len xs.length) (hb : Rd w B (cs .i64 ys)) (lb : Len ys.length) :
    Calls Tryz.prog 96 #[.slice A xs.length ca, .slice B ys.length cb] w (RefOfP xs ys w) :=
  (refOf_o A B ca cb xs ys w ha la hb lb).mono fun _ _ ⟨A', c, L, n, g, r, h1, h2, h3, h4⟩ => ⟨A', c, L, n, g, r, h1, h2.rd, h3, h4⟩
end Go.Proofs.YtjaaganaohjmaaaGreatDoor
