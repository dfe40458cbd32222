/-
  THE WALK OF THE LAW MarketsGains: it answers true, and turns nothing that was there. Conditions: the argument is a market that came in.
-/
import Derived.Test.YtjhmlcbpbmeicaaMktQ
import Derived.Test.YtjhmlcbpbmeicaaWorth
import Derived.Deep.CutRange
import Derived.IntWalk
namespace Go.Proofs.Ytjhmlcbpbmeicaa
open Go.RowKit

theorem small_of {l : List Int} (h : ∀ x ∈ l, 0 ≤ x ∧ x ≤ 1000000) : Small l := fun x hx => by
  have := h x hx
  omega
theorem gainRow_at {R b : List Int} {k : Nat} {x : Int} (h : (gainRow R b)[k]? = some x) : k < R.length ∧ x = gainAt R b k := by
  have hk := (List.getElem?_eq_some_iff.1 h).1
  rw [length_gainRow] at hk
  refine ⟨hk, ?_⟩
  unfold gainRow at h
  rw [List.getElem?_map, List.getElem?_range hk] at h
  injection h with h
  exact h.symm
theorem gainAt_worth {R b : List Int} {k : Nat} (hk : k < R.length) (hb : b.length = 0 ∨ b.length = R.length) : worth b R k = max (-1) (gainAt R b k) := by
  rcases hb with hb | hb
  · rw [worth_out (by omega), gainAt_no (by omega)]
    rfl
  · have h1 : b[k]? = some (b[k]'(by omega)) := List.getElem?_eq_getElem (by omega)
    have h2 : R[k]? = some R[k] := List.getElem?_eq_getElem hk
    rw [worth_in h1 h2, gainAt_in (by omega) h1 h2]
theorem gainAt_small {R b : List Int} {k : Nat} (hR : ∀ x ∈ R, 0 ≤ x ∧ x ≤ 1000000) (hb : ∀ x ∈ b, 0 ≤ x ∧ x ≤ 1000000) : -1000000 ≤ gainAt R b k ∧ gainAt R b k ≤ 1000000 := by
  have at0 : ∀ {l : List Int}, (∀ x ∈ l, 0 ≤ x ∧ x ≤ 1000000) → 0 ≤ l.getD k 0 ∧ l.getD k 0 ≤ 1000000 := by
    intro l hl
    by_cases h : k < l.length
    · rw [List.getD_eq_getElem?_getD, List.getElem?_eq_getElem h]
      exact hl _ (List.getElem_mem h)
    · rw [List.getD_eq_getElem?_getD, List.getElem?_eq_none (by omega)]
      simp
  have h1 := at0 hR
  have h2 := at0 hb
  unfold gainAt
  split <;> omega
/-- What is there at one place of a row of lists. -/
theorem InR.two {w : World} {g c : Nat} {ss : List Sl} (h : InR .i64 w (some ⟨g, 0, none⟩) c ss) {i : Nat} (hi : i < ss.length) : ∃ s, ss[i]? = some s ∧ w.cell? ⟨g, i, none⟩ = some (.slice s.a s.l.length s.c) ∧ s.Ok .i64 w := by
  obtain ⟨b, off, s, e, h1, h2, h3⟩ := h.at_ hi
  cases e
  rw [Nat.zero_add] at h2
  exact ⟨s, h1, h2, h3⟩

set_option maxRecDepth 100000 in
set_option maxHeartbeats 8000000 in
theorem marketsGains_w (M : Mkt) (w : World) (hM : M.Ok w) :
    Calls Try.prog 18 #[M.val] w fun e w' => e = .returned (.bool true) ∧ Below w.heap.size w w' := by
  have lr := hM.r.len.le
  have lb := hM.b.len.le
  have bA := Blk.new w 62 [.slice M.r.a M.r.l.length M.r.c, .slice M.ba M.bs.length M.bc, .slice M.o.a M.o.l.length M.o.c]
  have k0 : Keep w (w.alloc (.cells #[.slice M.r.a M.r.l.length M.r.c, .slice M.ba M.bs.length M.bc, .slice M.o.a M.o.l.length M.o.c] 62)) := Keep.alloc1 _ _
  cases hck : chkM M.r.l (bidsOf M.bs) M.o.l with
  | false =>
    have hq := gains_no M _ (hM.keep k0) hck
    have hc := fun w1 (k1 : Keep w w1) => mcheck_f M w1 (hM.keep k1)
    rw [hck] at hc
    unfold Mkt.val at hq hc ⊢
    clear hck
    go_enter Try.func18, Try.ntmps18
    go_wp2_with fail
    refine hq.mono ?_
    rintro e w1 ⟨rfl, k1⟩
    have ha := alive05_f w1
    replace bA := bA.keep k1
    replace k0 := k0.trans k1
    clear k1 hq
    generalize w.heap.size = gA at bA ⊢
    go_wp2_with fail
    refine ha.mono ?_
    rintro e w2 ⟨rfl, k2⟩
    replace bA := bA.keep k2
    replace k0 := k0.trans k2
    clear k2 ha
    have c0 := bA.cell_ (i := 0) rfl
    have c1 := bA.cell_ (i := 1) rfl
    have c2 := bA.cell_ (i := 2) rfl
    have hq := hc _ k0
    clear hc
    go_wp2_with fail
    refine hq.mono ?_
    rintro e w3 ⟨rfl, k3⟩
    go_wp2_with fail
    go_ret
    exact ⟨rfl, k0.trans k3⟩
  | true =>
    have hq := gains_yes M _ (hM.keep k0) hck
    obtain ⟨_, h1, _, h2, h3, h4⟩ := chkM_lens hck
    obtain ⟨pr, pb⟩ := chkM_bids hck
    rw [length_bids] at h2
    unfold Mkt.val at hq ⊢
    clear hck h3 h4
    go_enter Try.func18, Try.ntmps18
    go_wp2_with fail
    refine hq.mono ?_
    rintro e w1 ⟨g, ss, rfl, hss, hsl, k1⟩
    have hlen : ss.length = M.bs.length := by rw [← length_bids, hsl, gainsM, List.length_map, length_bids]
    have HS := Lib.hid hsl
    have HP := Lib.hid (And.intro pr pb)
    clear hq hsl pr pb
    replace bA := bA.keep k1
    have hM1 := (hM.keep k0).keep k1
    replace k0 := k0.trans k1
    clear k1
    generalize w.heap.size = gA at bA ⊢
    have c1 := bA.cell_ (i := 1) rfl
    have z0 : ((ss.length : Int) != M.bs.length) = false := by simp [hlen]
    have HL := Lib.hid hlen
    have z1 : ss.length ≤ 8 := by omega
    clear hlen
    go_wp2_with fail
    go_loopw [5] (fun v wr => ∃ i : Nat, i ≤ ss.length ∧ v = .int .i64 i ∧ Keep w1 wr) (fun v _ => ss.length - (intOf v).toNat)
    case atStart => exact ⟨0, Nat.zero_le _, rfl, Keep.refl _⟩
    case round =>
      obtain ⟨i, hi, rfl, kr⟩ := hrel
      by_cases hlt : i < ss.length
      · obtain ⟨s, hsi, hcs, hs⟩ := (hss.keep kr).two hlt
        have hMr := hM1.keep kr
        obtain ⟨bb, oo, t, hba, hti, hct, ht⟩ := hMr.b.at_ (show i < M.bs.length by have := HL.out; omega)
        have hrow : s.l = gainRow M.r.l t.l := by
          have e1 : (bidsOf ss)[i]? = some s.l := by rw [bidsOf, List.getElem?_map, hsi]; rfl
          have e2 : (bidsOf M.bs)[i]? = some t.l := by rw [bidsOf, List.getElem?_map, hti]; rfl
          rw [HS.out, gainsM, List.getElem?_map, e2] at e1
          injection e1 with e1
          exact e1.symm
        have htl : t.l ∈ bidsOf M.bs := List.mem_map.2 ⟨t, List.mem_of_getElem? hti, rfl⟩
        have hsl : s.l.length = M.r.l.length := by rw [hrow, length_gainRow]
        have z2 : ((s.l.length : Int) != M.r.l.length) = false := by simp [hsl]
        have z3 : s.l.length ≤ 8 := by omega
        have HR := Lib.hid hrow
        have HT := Lib.hid htl
        have HSL := Lib.hid hsl
        have c0' := (bA.keep kr).cell_ (i := 0) rfl
        clear hsi hti hrow htl hsl
        go_upto_region 9 with fail
        refine wp_region_noPanic ?_
        refine wp_region_held_drew (S := (fun w' => w'.cell? ⟨gA, 0, none⟩ = some (.slice M.r.a M.r.l.length M.r.c) ∧ w'.cell? ⟨g, i, none⟩ = some (.slice s.a s.l.length s.c))) (by kernel_rfl) ⟨c0', hcs⟩ (fun hS => ?_)
        refine wpAnyH_take (i := 0) (v := ?_) rfl (by kernel_rfl) (by kernel_rfl) (by kernel_rfl) (fun _ _ _ h => h) (Or.inl ⟨by rfl, ?_⟩) hS ?_
        rotate_left
        · (intro w hSw; (try dsimp only at hSw); go_simp; (first | done | with_reducible rfl))
        change wpAnyH _ _ _ _ _ _ _ (Act.put _ (some 36) _) _
        simp only [Act.put, List.setIfInBounds_toArray, List.set_cons_zero, List.set_cons_succ]
        refine wpAnyH_take (i := 1) (v := ?_) rfl (by kernel_rfl) (by kernel_rfl) (by kernel_rfl) (fun _ _ _ h => h) (Or.inl ⟨by rfl, ?_⟩) hS ?_
        rotate_left
        · (intro w hSw; (try dsimp only at hSw); go_simp; (first | done | with_reducible rfl))
        change wpAnyH _ _ _ _ _ _ _ (Act.put _ (some 37) _) _
        simp only [Act.put, List.setIfInBounds_toArray, List.set_cons_zero, List.set_cons_succ]
        refine wpAnyH_take (i := 2) (v := ?_) rfl (by kernel_rfl) (by kernel_rfl) (by kernel_rfl) (fun _ _ _ h => h) (Or.inl ⟨by rfl, ?_⟩) hS ?_
        rotate_left
        · (intro w hSw; (try dsimp only at hSw); go_simp; (first | done | with_reducible rfl))
        change wpAnyH _ _ _ _ _ _ _ (Act.put _ (some 38) _) _
        simp only [Act.put, List.setIfInBounds_toArray, List.set_cons_zero, List.set_cons_succ]
        refine wpAnyH_take (i := 3) (v := ?_) rfl (by kernel_rfl) (by kernel_rfl) (by kernel_rfl) (fun _ _ _ h => h) (Or.inl ⟨by rfl, ?_⟩) hS ?_
        rotate_left
        · (intro w hSw; (try dsimp only at hSw); go_simp; (first | done | with_reducible rfl))
        change wpAnyH _ _ _ _ _ _ _ (Act.put _ (some 39) _) _
        simp only [Act.put, List.setIfInBounds_toArray, List.set_cons_zero, List.set_cons_succ]
        refine wpAnyH_take (i := 4) (v := ?_) rfl (by kernel_rfl) (by kernel_rfl) (by kernel_rfl) (fun _ _ _ h => h) (Or.inl ⟨by rfl, ?_⟩) hS ?_
        rotate_left
        · (intro w hSw; (try dsimp only at hSw); go_simp; (first | done | with_reducible rfl))
        change wpAnyH _ _ _ _ _ _ _ (Act.put _ (some 40) _) _
        simp only [Act.put, List.setIfInBounds_toArray, List.set_cons_zero, List.set_cons_succ]
        refine wpAnyH_take (i := 5) (v := ?_) rfl (by kernel_rfl) (by kernel_rfl) (by kernel_rfl) (fun _ _ _ h => h) (Or.inl ⟨by rfl, ?_⟩) hS ?_
        rotate_left
        · (intro w hSw; (try dsimp only at hSw); go_simp; (first | done | with_reducible rfl))
        change wpAnyH _ _ _ _ _ _ _ (Act.put _ (some 41) _) _
        simp only [Act.put, List.setIfInBounds_toArray, List.set_cons_zero, List.set_cons_succ]
        refine wpAnyH_take (i := 6) (v := ?_) rfl (by kernel_rfl) (by kernel_rfl) (by kernel_rfl) (fun _ _ _ h => h) (Or.inl ⟨by rfl, ?_⟩) hS ?_
        rotate_left
        · (intro w hSw; (try dsimp only at hSw); go_simp; (first | done | with_reducible rfl))
        change wpAnyH _ _ _ _ _ _ _ (Act.put _ (some 42) _) _
        simp only [Act.put, List.setIfInBounds_toArray, List.set_cons_zero, List.set_cons_succ]
        refine wpAnyH_take (i := 7) (v := ?_) rfl (by kernel_rfl) (by kernel_rfl) (by kernel_rfl) (fun _ _ _ h => h) (Or.inl ⟨by rfl, ?_⟩) hS ?_
        rotate_left
        · (intro w hSw; (try dsimp only at hSw); go_simp; (first | done | with_reducible rfl))
        change wpAnyH _ _ _ _ _ _ _ (Act.put _ (some 43) _) _
        simp only [Act.put, List.setIfInBounds_toArray, List.set_cons_zero, List.set_cons_succ]
        refine wpAnyH_take (i := 8) (v := ?_) rfl (by kernel_rfl) (by kernel_rfl) (by kernel_rfl) (fun _ _ _ h => h) (Or.inl ⟨by rfl, ?_⟩) hS ?_
        rotate_left
        · (intro w hSw; (try dsimp only at hSw); go_simp; (first | done | with_reducible rfl))
        change wpAnyH _ _ _ _ _ _ _ (Act.put _ (some 44) _) _
        simp only [Act.put, List.setIfInBounds_toArray, List.set_cons_zero, List.set_cons_succ]
        refine wpAnyH_done (by kernel_rfl) ?_ _
        refine NoPanic.normal ?_
        have kd : Keep w1 wr.drew := kr.drew
        have ks : Keep wr wr.drew := (Keep.refl _).drew
        generalize wr.drew = w2 at kd ks hS ⊢
        replace hct := ks.cell hct
        replace hcs := ks.cell hcs
        replace hs := hs.keep ks
        replace ht := ht.keep ks
        replace hMr := hMr.keep ks
        clear ks c0' hS
        have d0 := (bA.keep kd).cell_ (i := 0) rfl
        have d1 := (bA.keep kd).cell_ (i := 1) rfl
        go_wp2_with fail
        go_loopw [6] (fun v wr => ∃ k : Nat, k ≤ s.l.length ∧ v = .int .i64 k ∧ Keep w2 wr) (fun v _ => s.l.length - (intOf v).toNat)
        case atStart => exact ⟨0, Nat.zero_le _, rfl, Keep.refl _⟩
        case round =>
          obtain ⟨k, hk, rfl, kq⟩ := hrel
          by_cases hkl : k < s.l.length
          · obtain ⟨b2, o2, x, hsa, hx, hcx⟩ := (hs.keep kq).rd.int_at hkl
            rw [HR.out] at hx
            obtain ⟨hkR, hxe⟩ := gainRow_at hx
            have ht0 := HP.out.2 t.l HT.out
            have tsm : ∀ x ∈ t.l, 0 ≤ x ∧ x ≤ 1000000 := fun x hx => by
              rcases ht0 with h | h
              · rw [List.eq_nil_of_length_eq_zero h] at hx
                cases hx
              · exact h.2 x hx
            have xs := gainAt_small (k := k) HP.out.1 tsm
            rw [← hxe] at xs
            have hwv := gainAt_worth (k := k) hkR (ht0.elim .inl (fun h => .inr h.1))
            rw [← hxe] at hwv
            have hwf := fun w' (kw : Keep w2 w') => tellsK (worth_f t.a M.r.a t.c M.r.c t.l M.r.l k w' (ht.keep kw).rd (hMr.r.keep kw).rd (by unfold Reach; rcases ht0 with h | h <;> omega) (by unfold Reach; omega) (small_of tsm) (small_of HP.out.1))
            rw [hwv] at hwf
            have HW := Lib.hid hwf
            clear hwf hwv hxe hx ht0 tsm
            have c0 := (bA.keep (kd.trans kq)).cell_ (i := 0) rfl
            have c1 := (bA.keep (kd.trans kq)).cell_ (i := 1) rfl
            have hcs := kq.cell hcs
            have hct := kq.cell hct
            rw [hsa] at hcs
            rw [hba] at c1
            clear hsa hba hkR d0 d1
            have y1 : (k : Int) < s.l.length := by omega
            have y2 : (i : Int) < M.bs.length := by have := HL.out; omega
            have y3 : (i : Int) < ss.length := by omega
            have y4 : (0 : Int) ≤ k := by omega
            have y5 : (0 : Int) ≤ i := by omega
            by_cases hm : -1 < x
            · have hw := HW.out wr.drew kq.drew
              rw [show max (-1) x = x by omega] at hw
              go_upto_region 14 with fail
              refine wp_region_noPanic ?_
              refine wp_region_held_drew (S := (fun w' => (w'.cell? ⟨gA, 0, none⟩ = some (.slice M.r.a M.r.l.length M.r.c) ∧ w'.cell? ⟨gA, 1, none⟩ = some (.slice (some ⟨bb, oo, none⟩) M.bs.length M.bc)) ∧ w'.cell? ⟨g, i, none⟩ = some (.slice (some ⟨b2, o2, none⟩) s.l.length s.c) ∧ w'.cell? ⟨b2, o2 + k, none⟩ = some (.int .i64 x) ∧ w'.cell? ⟨bb, oo + i, none⟩ = some (.slice t.a t.l.length t.c))) (by kernel_rfl) ⟨⟨c0, c1⟩, hcs, hcx, hct⟩ (fun hS => ?_)
              refine wpAnyH_take (i := 0) (v := ?_) rfl (by kernel_rfl) (by kernel_rfl) (by kernel_rfl) (fun _ _ _ h => h) (Or.inl ⟨by rfl, ?_⟩) hS ?_
              rotate_left
              · (intro w hSw; (try dsimp only at hSw); go_simp; (first | done | with_reducible rfl))
              change wpAnyH _ _ _ _ _ _ _ (Act.put _ (some 54) _) _
              simp only [Act.put, List.setIfInBounds_toArray, List.set_cons_zero, List.set_cons_succ]
              refine wpAnyH_take (i := 1) (v := ?_) rfl (by kernel_rfl) (by kernel_rfl) (by kernel_rfl) (fun _ _ _ h => h) (Or.inl ⟨by rfl, ?_⟩) hS ?_
              rotate_left
              · (intro w hSw; (try dsimp only at hSw); go_simp; (first | done | with_reducible rfl))
              change wpAnyH _ _ _ _ _ _ _ (Act.put _ (some 55) _) _
              simp only [Act.put, List.setIfInBounds_toArray, List.set_cons_zero, List.set_cons_succ]
              refine wpAnyH_take (i := 2) (v := ?_) rfl (by kernel_rfl) (by kernel_rfl) (by kernel_rfl) (fun _ _ _ h => h) (Or.inl ⟨by rfl, ?_⟩) hS ?_
              rotate_left
              · (intro w hSw; (try dsimp only at hSw); go_simp; (first | done | with_reducible rfl))
              change wpAnyH _ _ _ _ _ _ _ (Act.put _ (some 56) _) _
              simp only [Act.put, List.setIfInBounds_toArray, List.set_cons_zero, List.set_cons_succ]
              refine wpAnyH_take (i := 3) (v := ?_) rfl (by kernel_rfl) (by kernel_rfl) (by kernel_rfl) (fun _ _ _ h => h) (Or.inl ⟨by rfl, ?_⟩) hS ?_
              rotate_left
              · (intro w hSw; (try dsimp only at hSw); go_simp; (first | done | with_reducible rfl))
              change wpAnyH _ _ _ _ _ _ _ (Act.put _ (some 57) _) _
              simp only [Act.put, List.setIfInBounds_toArray, List.set_cons_zero, List.set_cons_succ]
              refine wpAnyH_take (i := 4) (v := ?_) rfl (by kernel_rfl) (by kernel_rfl) (by kernel_rfl) (fun _ _ _ h => h) (Or.inl ⟨by rfl, ?_⟩) hS ?_
              rotate_left
              · (intro w hSw; (try dsimp only at hSw); go_simp; (first | done | with_reducible rfl))
              change wpAnyH _ _ _ _ _ _ _ (Act.put _ (some 58) _) _
              simp only [Act.put, List.setIfInBounds_toArray, List.set_cons_zero, List.set_cons_succ]
              refine wpAnyH_take (i := 5) (v := ?_) rfl (by kernel_rfl) (by kernel_rfl) (by kernel_rfl) (fun _ _ _ h => h) (Or.inl ⟨by rfl, ?_⟩) hS ?_
              rotate_left
              · (intro w hSw; (try dsimp only at hSw); go_simp; (first | done | with_reducible rfl))
              change wpAnyH _ _ _ _ _ _ _ (Act.put _ (some 59) _) _
              simp only [Act.put, List.setIfInBounds_toArray, List.set_cons_zero, List.set_cons_succ]
              refine wpAnyH_take (i := 6) (v := ?_) rfl (by kernel_rfl) (by kernel_rfl) (by kernel_rfl) (fun _ _ _ h => h) (Or.inl ⟨by rfl, ?_⟩) hS ?_
              rotate_left
              · (intro w hSw; (try dsimp only at hSw); go_simp; (first | done | with_reducible rfl))
              change wpAnyH _ _ _ _ _ _ _ (Act.put _ (some 60) _) _
              simp only [Act.put, List.setIfInBounds_toArray, List.set_cons_zero, List.set_cons_succ]
              refine wpAnyH_take (i := 7) (v := ?_) rfl (by kernel_rfl) (by kernel_rfl) (by kernel_rfl) (fun _ _ _ h => h) (Or.inl ⟨by rfl, ?_⟩) hS ?_
              rotate_left
              · (intro w hSw; (try dsimp only at hSw); go_simp; (first | done | with_reducible rfl))
              change wpAnyH _ _ _ _ _ _ _ (Act.put _ (some 61) _) _
              simp only [Act.put, List.setIfInBounds_toArray, List.set_cons_zero, List.set_cons_succ]
              refine wpAnyH_take (i := 8) (v := ?_) rfl (by kernel_rfl) (by kernel_rfl) (by kernel_rfl) (fun _ _ _ h => h) (Or.inl ⟨by rfl, ?_⟩) hS ?_
              rotate_left
              · (intro w hSw; (try dsimp only at hSw); go_simp; (first | done | with_reducible rfl))
              change wpAnyH _ _ _ _ _ _ _ (Act.put _ (some 62) _) _
              simp only [Act.put, List.setIfInBounds_toArray, List.set_cons_zero, List.set_cons_succ]
              refine wpAnyH_take (i := 9) (v := ?_) rfl (by kernel_rfl) (by kernel_rfl) (by kernel_rfl) (fun _ _ _ h => h) (Or.inl ⟨by rfl, ?_⟩) hS ?_
              rotate_left
              · (intro w hSw; (try dsimp only at hSw); go_simp; (first | done | with_reducible rfl))
              change wpAnyH _ _ _ _ _ _ _ (Act.put _ (some 63) _) _
              simp only [Act.put, List.setIfInBounds_toArray, List.set_cons_zero, List.set_cons_succ]
              refine wpAnyH_take (i := 10) (v := ?_) rfl (by kernel_rfl) (by kernel_rfl) (by kernel_rfl) (fun _ _ _ h => h) (Or.inl ⟨by rfl, ?_⟩) hS ?_
              rotate_left
              · (intro w hSw; (try dsimp only at hSw); go_simp; (first | done | with_reducible rfl))
              change wpAnyH _ _ _ _ _ _ _ (Act.put _ (some 64) _) _
              simp only [Act.put, List.setIfInBounds_toArray, List.set_cons_zero, List.set_cons_succ]
              refine wpAnyH_take (i := 11) (v := ?_) rfl (by kernel_rfl) (by kernel_rfl) (by kernel_rfl) (fun _ _ _ h => h) (Or.inl ⟨by rfl, ?_⟩) hS ?_
              rotate_left
              · (intro w hSw; (try dsimp only at hSw); go_simp; (first | done | with_reducible rfl))
              change wpAnyH _ _ _ _ _ _ _ (Act.put _ (some 65) _) _
              simp only [Act.put, List.setIfInBounds_toArray, List.set_cons_zero, List.set_cons_succ]
              refine wpAnyH_take (i := 12) (v := ?_) rfl (by kernel_rfl) (by kernel_rfl) (by kernel_rfl) (fun _ _ _ h => h) (Or.inl ⟨by rfl, ?_⟩) hS ?_
              rotate_left
              · (intro w hSw; (try dsimp only at hSw); go_simp; (first | done | with_reducible rfl))
              change wpAnyH _ _ _ _ _ _ _ (Act.put _ (some 66) _) _
              simp only [Act.put, List.setIfInBounds_toArray, List.set_cons_zero, List.set_cons_succ]
              refine wpAnyH_take (i := 13) (v := ?_) rfl (by kernel_rfl) (by kernel_rfl) (by kernel_rfl) (fun _ _ _ h => h) (Or.inl ⟨by rfl, ?_⟩) hS ?_
              rotate_left
              · (intro w hSw; (try dsimp only at hSw); go_simp; (first | done | with_reducible rfl))
              change wpAnyH _ _ _ _ _ _ _ (Act.put _ (some 67) _) _
              simp only [Act.put, List.setIfInBounds_toArray, List.set_cons_zero, List.set_cons_succ]
              refine wpAnyH_take (i := 14) (v := ?_) rfl (by kernel_rfl) (by kernel_rfl) (by kernel_rfl) (fun _ _ _ h => h) (Or.inl ⟨by rfl, ?_⟩) hS ?_
              rotate_left
              · (intro w hSw; (try dsimp only at hSw); go_simp; (first | done | with_reducible rfl))
              change wpAnyH _ _ _ _ _ _ _ (Act.put _ (some 68) _) _
              simp only [Act.put, List.setIfInBounds_toArray, List.set_cons_zero, List.set_cons_succ]
              refine wpAnyH_take (i := 15) (v := ?_) rfl (by kernel_rfl) (by kernel_rfl) (by kernel_rfl) (fun _ _ _ h => h) (Or.inl ⟨by rfl, ?_⟩) hS ?_
              rotate_left
              · (intro w hSw; (try dsimp only at hSw); go_simp; (first | done | with_reducible rfl))
              change wpAnyH _ _ _ _ _ _ _ (Act.put _ (some 69) _) _
              simp only [Act.put, List.setIfInBounds_toArray, List.set_cons_zero, List.set_cons_succ]
              refine wpAnyH_ready (rs := [16]) (by kernel_rfl) (by simp) ?_
              refine AllReadyH.cons rfl (fun K hK => ?_) AllReadyH.nil
              go_simp
              refine hw.mono ?_
              rintro e w2 ⟨rfl, kw⟩
              go_wp2_with fail
              refine hK.out _ _ ⟨⟨kw.cell hS.1.1, kw.cell hS.1.2⟩, kw.cell hS.2.1, kw.cell hS.2.2.1, kw.cell hS.2.2.2⟩ (fun hS => ?_)
              clear hK K
              try simp only [Act.put, List.setIfInBounds_toArray, List.set_cons_zero, List.set_cons_succ]
              refine wpAnyH_take (i := 17) (v := ?_) rfl (by kernel_rfl) (by kernel_rfl) (by kernel_rfl) (fun _ _ _ h => h) (Or.inl ⟨by rfl, ?_⟩) hS ?_
              rotate_left
              · (intro w hSw; (try dsimp only at hSw); go_simp; (first | done | with_reducible rfl))
              change wpAnyH _ _ _ _ _ _ _ (Act.put _ (some 71) _) _
              simp only [Act.put, List.setIfInBounds_toArray, List.set_cons_zero, List.set_cons_succ]
              refine wpAnyH_done (by kernel_rfl) ?_ _
              refine NoPanic.normal ?_
              go_wp2_with fail
              go_roundw
              case rel => exact ⟨k + 1, by omega, by go_num, kq.drew.trans kw⟩
              case measure => simp [intOf]; omega
            · have hw := HW.out wr.drew kq.drew
              rw [show max (-1) x = -1 by omega] at hw
              have hm2 : x ≤ -1 := by omega
              go_upto_region 14 with fail
              refine wp_region_noPanic ?_
              refine wp_region_held_drew (S := (fun w' => (w'.cell? ⟨gA, 0, none⟩ = some (.slice M.r.a M.r.l.length M.r.c) ∧ w'.cell? ⟨gA, 1, none⟩ = some (.slice (some ⟨bb, oo, none⟩) M.bs.length M.bc)) ∧ w'.cell? ⟨g, i, none⟩ = some (.slice (some ⟨b2, o2, none⟩) s.l.length s.c) ∧ w'.cell? ⟨b2, o2 + k, none⟩ = some (.int .i64 x) ∧ w'.cell? ⟨bb, oo + i, none⟩ = some (.slice t.a t.l.length t.c))) (by kernel_rfl) ⟨⟨c0, c1⟩, hcs, hcx, hct⟩ (fun hS => ?_)
              refine wpAnyH_take (i := 0) (v := ?_) rfl (by kernel_rfl) (by kernel_rfl) (by kernel_rfl) (fun _ _ _ h => h) (Or.inl ⟨by rfl, ?_⟩) hS ?_
              rotate_left
              · (intro w hSw; (try dsimp only at hSw); go_simp; (first | done | with_reducible rfl))
              change wpAnyH _ _ _ _ _ _ _ (Act.put _ (some 54) _) _
              simp only [Act.put, List.setIfInBounds_toArray, List.set_cons_zero, List.set_cons_succ]
              refine wpAnyH_take (i := 1) (v := ?_) rfl (by kernel_rfl) (by kernel_rfl) (by kernel_rfl) (fun _ _ _ h => h) (Or.inl ⟨by rfl, ?_⟩) hS ?_
              rotate_left
              · (intro w hSw; (try dsimp only at hSw); go_simp; (first | done | with_reducible rfl))
              change wpAnyH _ _ _ _ _ _ _ (Act.put _ (some 55) _) _
              simp only [Act.put, List.setIfInBounds_toArray, List.set_cons_zero, List.set_cons_succ]
              refine wpAnyH_take (i := 2) (v := ?_) rfl (by kernel_rfl) (by kernel_rfl) (by kernel_rfl) (fun _ _ _ h => h) (Or.inl ⟨by rfl, ?_⟩) hS ?_
              rotate_left
              · (intro w hSw; (try dsimp only at hSw); go_simp; (first | done | with_reducible rfl))
              change wpAnyH _ _ _ _ _ _ _ (Act.put _ (some 56) _) _
              simp only [Act.put, List.setIfInBounds_toArray, List.set_cons_zero, List.set_cons_succ]
              refine wpAnyH_take (i := 3) (v := ?_) rfl (by kernel_rfl) (by kernel_rfl) (by kernel_rfl) (fun _ _ _ h => h) (Or.inl ⟨by rfl, ?_⟩) hS ?_
              rotate_left
              · (intro w hSw; (try dsimp only at hSw); go_simp; (first | done | with_reducible rfl))
              change wpAnyH _ _ _ _ _ _ _ (Act.put _ (some 57) _) _
              simp only [Act.put, List.setIfInBounds_toArray, List.set_cons_zero, List.set_cons_succ]
              refine wpAnyH_take (i := 4) (v := ?_) rfl (by kernel_rfl) (by kernel_rfl) (by kernel_rfl) (fun _ _ _ h => h) (Or.inl ⟨by rfl, ?_⟩) hS ?_
              rotate_left
              · (intro w hSw; (try dsimp only at hSw); go_simp; (first | done | with_reducible rfl))
              change wpAnyH _ _ _ _ _ _ _ (Act.put _ (some 58) _) _
              simp only [Act.put, List.setIfInBounds_toArray, List.set_cons_zero, List.set_cons_succ]
              refine wpAnyH_take (i := 5) (v := ?_) rfl (by kernel_rfl) (by kernel_rfl) (by kernel_rfl) (fun _ _ _ h => h) (Or.inl ⟨by rfl, ?_⟩) hS ?_
              rotate_left
              · (intro w hSw; (try dsimp only at hSw); go_simp; (first | done | with_reducible rfl))
              change wpAnyH _ _ _ _ _ _ _ (Act.put _ (some 59) _) _
              simp only [Act.put, List.setIfInBounds_toArray, List.set_cons_zero, List.set_cons_succ]
              refine wpAnyH_take (i := 6) (v := ?_) rfl (by kernel_rfl) (by kernel_rfl) (by kernel_rfl) (fun _ _ _ h => h) (Or.inl ⟨by rfl, ?_⟩) hS ?_
              rotate_left
              · (intro w hSw; (try dsimp only at hSw); go_simp; (first | done | with_reducible rfl))
              change wpAnyH _ _ _ _ _ _ _ (Act.put _ (some 60) _) _
              simp only [Act.put, List.setIfInBounds_toArray, List.set_cons_zero, List.set_cons_succ]
              refine wpAnyH_take (i := 7) (v := ?_) rfl (by kernel_rfl) (by kernel_rfl) (by kernel_rfl) (fun _ _ _ h => h) (Or.inl ⟨by rfl, ?_⟩) hS ?_
              rotate_left
              · (intro w hSw; (try dsimp only at hSw); go_simp; (first | done | with_reducible rfl))
              change wpAnyH _ _ _ _ _ _ _ (Act.put _ (some 61) _) _
              simp only [Act.put, List.setIfInBounds_toArray, List.set_cons_zero, List.set_cons_succ]
              refine wpAnyH_take (i := 8) (v := ?_) rfl (by kernel_rfl) (by kernel_rfl) (by kernel_rfl) (fun _ _ _ h => h) (Or.inl ⟨by rfl, ?_⟩) hS ?_
              rotate_left
              · (intro w hSw; (try dsimp only at hSw); go_simp; (first | done | with_reducible rfl))
              change wpAnyH _ _ _ _ _ _ _ (Act.put _ (some 62) _) _
              simp only [Act.put, List.setIfInBounds_toArray, List.set_cons_zero, List.set_cons_succ]
              refine wpAnyH_take (i := 9) (v := ?_) rfl (by kernel_rfl) (by kernel_rfl) (by kernel_rfl) (fun _ _ _ h => h) (Or.inl ⟨by rfl, ?_⟩) hS ?_
              rotate_left
              · (intro w hSw; (try dsimp only at hSw); go_simp; (first | done | with_reducible rfl))
              change wpAnyH _ _ _ _ _ _ _ (Act.put _ (some 63) _) _
              simp only [Act.put, List.setIfInBounds_toArray, List.set_cons_zero, List.set_cons_succ]
              refine wpAnyH_take (i := 10) (v := ?_) rfl (by kernel_rfl) (by kernel_rfl) (by kernel_rfl) (fun _ _ _ h => h) (Or.inl ⟨by rfl, ?_⟩) hS ?_
              rotate_left
              · (intro w hSw; (try dsimp only at hSw); go_simp; (first | done | with_reducible rfl))
              change wpAnyH _ _ _ _ _ _ _ (Act.put _ (some 64) _) _
              simp only [Act.put, List.setIfInBounds_toArray, List.set_cons_zero, List.set_cons_succ]
              refine wpAnyH_take (i := 11) (v := ?_) rfl (by kernel_rfl) (by kernel_rfl) (by kernel_rfl) (fun _ _ _ h => h) (Or.inl ⟨by rfl, ?_⟩) hS ?_
              rotate_left
              · (intro w hSw; (try dsimp only at hSw); go_simp; (first | done | with_reducible rfl))
              change wpAnyH _ _ _ _ _ _ _ (Act.put _ (some 65) _) _
              simp only [Act.put, List.setIfInBounds_toArray, List.set_cons_zero, List.set_cons_succ]
              refine wpAnyH_take (i := 12) (v := ?_) rfl (by kernel_rfl) (by kernel_rfl) (by kernel_rfl) (fun _ _ _ h => h) (Or.inl ⟨by rfl, ?_⟩) hS ?_
              rotate_left
              · (intro w hSw; (try dsimp only at hSw); go_simp; (first | done | with_reducible rfl))
              change wpAnyH _ _ _ _ _ _ _ (Act.put _ (some 66) _) _
              simp only [Act.put, List.setIfInBounds_toArray, List.set_cons_zero, List.set_cons_succ]
              refine wpAnyH_take (i := 13) (v := ?_) rfl (by kernel_rfl) (by kernel_rfl) (by kernel_rfl) (fun _ _ _ h => h) (Or.inl ⟨by rfl, ?_⟩) hS ?_
              rotate_left
              · (intro w hSw; (try dsimp only at hSw); go_simp; (first | done | with_reducible rfl))
              change wpAnyH _ _ _ _ _ _ _ (Act.put _ (some 67) _) _
              simp only [Act.put, List.setIfInBounds_toArray, List.set_cons_zero, List.set_cons_succ]
              refine wpAnyH_take (i := 14) (v := ?_) rfl (by kernel_rfl) (by kernel_rfl) (by kernel_rfl) (fun _ _ _ h => h) (Or.inl ⟨by rfl, ?_⟩) hS ?_
              rotate_left
              · (intro w hSw; (try dsimp only at hSw); go_simp; (first | done | with_reducible rfl))
              change wpAnyH _ _ _ _ _ _ _ (Act.put _ (some 68) _) _
              simp only [Act.put, List.setIfInBounds_toArray, List.set_cons_zero, List.set_cons_succ]
              refine wpAnyH_take (i := 15) (v := ?_) rfl (by kernel_rfl) (by kernel_rfl) (by kernel_rfl) (fun _ _ _ h => h) (Or.inl ⟨by rfl, ?_⟩) hS ?_
              rotate_left
              · (intro w hSw; (try dsimp only at hSw); go_simp; (first | done | with_reducible rfl))
              change wpAnyH _ _ _ _ _ _ _ (Act.put _ (some 69) _) _
              simp only [Act.put, List.setIfInBounds_toArray, List.set_cons_zero, List.set_cons_succ]
              refine wpAnyH_ready (rs := [16]) (by kernel_rfl) (by simp) ?_
              refine AllReadyH.cons rfl (fun K hK => ?_) AllReadyH.nil
              go_simp
              refine hw.mono ?_
              rintro e w2 ⟨rfl, kw⟩
              go_wp2_with fail
              refine hK.out _ _ ⟨⟨kw.cell hS.1.1, kw.cell hS.1.2⟩, kw.cell hS.2.1, kw.cell hS.2.2.1, kw.cell hS.2.2.2⟩ (fun hS => ?_)
              clear hK K
              try simp only [Act.put, List.setIfInBounds_toArray, List.set_cons_zero, List.set_cons_succ]
              refine wpAnyH_take (i := 17) (v := ?_) rfl (by kernel_rfl) (by kernel_rfl) (by kernel_rfl) (fun _ _ _ h => h) (Or.inl ⟨by rfl, ?_⟩) hS ?_
              rotate_left
              · (intro w hSw; (try dsimp only at hSw); go_simp; (first | done | with_reducible rfl))
              change wpAnyH _ _ _ _ _ _ _ (Act.put _ (some 71) _) _
              simp only [Act.put, List.setIfInBounds_toArray, List.set_cons_zero, List.set_cons_succ]
              refine wpAnyH_done (by kernel_rfl) ?_ _
              refine NoPanic.normal ?_
              go_wp2_with fail
              go_roundw
              case rel => exact ⟨k + 1, by omega, by go_num, kq.drew.trans kw⟩
              case measure => simp [intOf]; omega
          · obtain rfl : k = s.l.length := by omega
            have hcs := kq.cell hcs
            go_wp2_with fail
            go_roundw
            case rel => exact ⟨i + 1, by omega, by go_num, kd.trans kq⟩
            case measure => simp [intOf]; omega
      · obtain rfl : i = ss.length := by omega
        have ha := alive05_f wr
        go_wp2_with fail
        refine ha.mono ?_
        rintro e w2 ⟨rfl, k2⟩
        go_wp2_with fail
        go_ret
        exact ⟨rfl, (k0.trans kr).trans k2⟩
end Go.Proofs.Ytjhmlcbpbmeicaa
