/-
  THE WALK OF THE LAW DemandsLower: it answers true, and turns nothing that was there. Conditions: the arguments are slices of int that came in, an array of two uint16.
-/
import Derived.Test.YtjhmlcbpbmeicaaDemG
import Derived.Test.YtjhmlcbpbmeicaaDemQ
import Derived.Test.YtjhmlcbpbmeicaaNumA
import Derived.Test.YtjhmlcbpbmeicaaDemandsRaisedW
import Derived.BigQuiet
import Derived.Deep.QuietTactic
import Derived.Deep.CutRange
import Derived.IntWalk
namespace Go.Proofs.Ytjhmlcbpbmeicaa
open Go.RowKit

theorem set_same {l : List Int} {k : Nat} {y : Int} (h : l[k]? = some y) : l.set k y = l := by
  obtain ⟨hk, rfl⟩ := List.getElem?_eq_some_iff.1 h
  exact List.set_getElem_self hk
theorem gain_le {xs ys L : List Int} {n : Bool} {g : Int} (h : Gain xs ys L n g) (hx : ∀ x ∈ xs, 0 ≤ x ∧ x ≤ 1000000) (hy : ∀ y ∈ ys, 0 ≤ y ∧ y ≤ 2000000) (hl : xs.length ≤ ys.length) : g ≤ 1000000 := by
  by_cases hg : 0 < g
  · obtain ⟨j, hj, e⟩ := h.ex hg
    have h1 := hx _ (List.getElem_mem hj)
    have h2 := hy _ (List.getElem_mem (show j < ys.length by omega))
    unfold dif at e
    rw [List.getD_eq_getElem?_getD, List.getElem?_eq_getElem hj, List.getD_eq_getElem?_getD, List.getElem?_eq_getElem (show j < ys.length by omega)] at e
    simp at e
    omega
  · omega

set_option maxRecDepth 100000 in
set_option maxHeartbeats 8000000 in
theorem demandsLower_w (A0 : Option Addr) (c0 : Nat) (xs : List Int) (A1 : Option Addr) (c1 : Nat) (ys : List Int) (z0 z1 : Int) (w : World) (hx : In .i64 w A0 c0 xs) (hy : In .i64 w A1 c1 ys) (hz0 : 0 ≤ z0 ∧ z0 < 65536) (hz1 : 0 ≤ z1 ∧ z1 < 65536) :
    Calls Try.prog 4 #[.slice A0 xs.length c0, .slice A1 ys.length c1, .agg #[.int .u16 z0, .int .u16 z1]] w fun e w' => e = .returned (.bool true) ∧ Below w.heap.size w w' := by
  have lx := hx.len
  have ly := hy.len
  go_enter Try.func4, Try.ntmps4
  go_wp2_with fail
  have k0 : Keep w (w.alloc (.cells #[.int .u16 z0, .int .u16 z1] 24)) := Keep.alloc1 _ _
  have d0 : (w.alloc (.cells #[.int .u16 z0, .int .u16 z1] 24)).cell? ⟨w.heap.size, 0, none⟩ = some (.int .u16 z0) := by simp
  have d1 : (w.alloc (.cells #[.int .u16 z0, .int .u16 z1] 24)).cell? ⟨w.heap.size, 1, none⟩ = some (.int .u16 z1) := by simp
  generalize w.alloc (.cells #[.int .u16 z0, .int .u16 z1] 24) = w0 at k0 d0 d1 ⊢
  refine (of_f A0 A1 c0 c1 xs ys w0 (hx.rd.keep k0) hx.lenL (hy.rd.keep k0) hy.lenL).mono ?_
  rintro e w1 ⟨A, L, n, g, r, rfl, hr, hk, hv⟩
  replace d0 := hk.cell d0
  replace d1 := hk.cell d1
  replace k0 := k0.trans hk
  rcases ofV_cases hv with ⟨rfl, rfl, rfl, rfl, hno⟩ | ⟨rfl, hok, hG⟩
  · clear hv hno
    go_wp2_with fail
    refine (alive12_f w1).mono ?_
    rintro e w2 ⟨rfl, k2⟩
    go_wp2_with fail
    go_ret
    exact ⟨rfl, k0.trans k2⟩
  · have hle : xs.length ≤ ys.length := by have := hG.len; omega
    have hit := hG.items
    have hl8 : L.length ≤ 8 := by have := hG.best.short; omega
    have hgn := (ofV_gain hv).2
    have hg0 := hgn.g0
    have hg1 := gain_le hgn hG.bid hG.prices hle
    by_cases hL0 : L.length = 0
    · have hm0 : ((L.length : Int) == 0) = true := by rw [hL0]; rfl
      have hm1 : (L.length = 0) = True := eq_true hL0
      clear hv hok hG hgn hL0
      go_wp2_with fail
      refine (alive12_f w1).mono ?_
      rintro e w2 ⟨rfl, k2⟩
      go_wp2_with fail
      go_ret
      exact ⟨rfl, k0.trans k2⟩
    have hm0 : ((L.length : Int) == 0) = false := beq_eq_false_iff_ne.2 (by omega)
    obtain ⟨ii, hii⟩ : ∃ ii : Nat, z0 % (L.length : Int) = ii := ⟨(z0 % (L.length : Int)).toNat, by
      have := Int.emod_nonneg z0 (b := (L.length : Int)) (by omega)
      omega⟩
    have hi1 : ii < L.length := by
      have := Int.emod_lt_of_pos z0 (b := (L.length : Int)) (by omega)
      omega
    obtain ⟨b1, o1, vk, rfl, hvk, hck⟩ := hr.int_at hi1
    obtain ⟨hv0, hv1⟩ := hG.best.ge ii vk hvk
    obtain ⟨kk, rfl⟩ : ∃ kk : Nat, vk = kk := ⟨vk.toNat, by omega⟩
    have hkL : (kk : Int) ∈ L := List.mem_of_getElem? hvk
    have hk1 : kk < ys.length := by omega
    obtain ⟨y, hyk⟩ : ∃ y, ys[kk]? = some y := ⟨_, List.getElem?_eq_getElem hk1⟩
    have by_ := hG.prices y (List.mem_of_getElem? hyk)
    have HY := Lib.hid (show ys.getD kk 0 = y by rw [List.getD_eq_getElem?_getD, hyk]; rfl)
    obtain ⟨q, hq⟩ : ∃ q, q = max 0 (y - 1 - z1) := ⟨_, rfl⟩
    have q0 : 0 ≤ q := by omega
    have q1 : q ≤ y := by omega
    have HQ := Lib.hid hq
    have HOK := Lib.hid hok
    have HGn := Lib.hid hgn
    have HV := Lib.hid hv
    have HKL := Lib.hid hkL
    have hLl : (0 : Int) < L.length := by omega
    have hka : decide ((kk : Int) < 0) = false := decide_eq_false (by omega)
    have hkb : decide ((ys.length : Int) ≤ kk) = false := decide_eq_false (by omega)
    have hkc : decide (ys.length ≤ kk) = false := decide_eq_false (by omega)
    clear hv hok hG hgn hle hk hvk hkL hq hL0
    go_wp2_with (at_builtin; refine wpList_append_fr _ rfl _ _ 22 rfl w1.heap.size 3 (.int .i64 0) 8 Try.underlying22 infoInt rfl none 0 0 [] rfl (Fr.empty _ _ _ _) A1 ys.length c1 (cs .i64 ys) rfl (length_cs _ _) (hy.rd.keep k0) (one_cs _ _) ?c1 ?c2 ?c3 ?_)
    case c1 => unfold maxLen; omega
    case c2 => omega
    case c3 => exact Nat.le_refl _
    intro A5 c5 w5 happ
    have k5 := happ.keep (Keep.refl _) (Fr.empty _ _ _ _)
    have f5 := happ.fr
    clear happ
    obtain ⟨g5, rfl, hg5, hg5'⟩ := f5.form (by omega)
    have HI := Lib.hid hii
    clear hii
    have e0 : w5.cell? ⟨g5, kk, none⟩ = some (.int .i64 y) := by
      obtain ⟨b, o, u, e, hu, hc⟩ := f5.rd.int_at hk1
      cases e
      rw [hyk] at hu
      cases hu
      rwa [Nat.zero_add] at hc
    have e1 := f5.frozen (by omega) kk
    have d5 := k5.cell d1
    have i0 : (0 : Int) ≤ kk := by omega
    have i1 : (kk : Int) < ys.length := by omega
    have j1 : IntKind.i64.wrap (y - 1) = y - 1 := IntWalk.i64_in _ (by omega)
    have j2 : IntKind.i64.wrap (y - 1 - z1) = y - 1 - z1 := IntWalk.i64_in _ (by omega)
    have HYK := Lib.hid hyk
    clear hyk
    go_upto_region 8 with fail
    go_cut [65] from 53 to 65 (fun _ wx => Fr 3 wx w1.heap.size (some ⟨g5, 0, none⟩) ys.length c5 (cs .i64 (ys.set kk q)) ∧ Keep w1 wx)
    case first =>
      have fs := f5.stored hk1 (.int .i64 q)
      rw [cs_set] at fs
      have ks := k5.setCell (p := ⟨g5, kk, none⟩) hg5 (.int .i64 q)
      by_cases hpos : 0 < y - 1 - z1
      · obtain rfl : q = y - 1 - z1 := by have := HQ.out; omega
        go_region
        all_goals
          go_wp2_with fail
          go_meet
          exact ⟨fs.keep ((Keep.refl _).drew), ks.drew⟩
      · obtain rfl : q = 0 := by have := HQ.out; omega
        by_cases hneg : y - 1 - z1 < 0
        · go_region
          all_goals
            go_wp2_with fail
            go_meet
            exact ⟨fs.keep ((Keep.refl _).drew), ks.drew⟩
        · obtain rfl : y = z1 + 1 := by omega
          have j3 : z1 + 1 - 1 - z1 = 0 := by omega
          go_region
          all_goals
            go_wp2_with fail
            go_meet
            exact ⟨fs.keep ((Keep.refl _).drew), ks.drew⟩
    case rest =>
    obtain ⟨f6, k6⟩ := hcut
    replace k0 := k0.trans k6
    replace hr := hr.keep k6
    have e6 : wc.cell? ⟨g5, kk, none⟩ = some (.int .i64 q) := by
      obtain ⟨b, o, u, e, hu, hc⟩ := f6.rd.int_at (j := kk) (by rw [List.length_set]; exact hk1)
      cases e
      rw [List.getElem?_set_self hk1] at hu
      cases hu
      rwa [Nat.zero_add] at hc
    obtain ⟨b7, o7, u7, rfl, hu7, e7⟩ := (hy.rd.keep k0).int_at hk1
    rw [HYK.out] at hu7
    obtain rfl := Option.some.inj hu7
    clear hu7 e0 e1 d5 d0 d1 f5 k5 j1 j2 hck
    have l7 : (0 : Int) ≤ y - q := by omega
    have l8 : y - q ≤ 2000000 := by omega
    go_wp2_with fail
    go_quiet (fail)
    go_wp2_with fail
    have k0d := k0.drewN nq
    have hrd := hr.keep ((Keep.refl wc).drewN nq)
    have hof := of_f A0 (some ⟨g5, 0, none⟩) c0 c5 xs (ys.set kk q) (wc.drewN nq) (hx.rd.keep k0d) hx.lenL (f6.rd.keep ((Keep.refl wc).drewN nq)) (by rw [List.length_set]; unfold Len; omega)
    rw [List.length_set] at hof
    refine hof.mono ?_
    rintro e w8 ⟨A8, L2, n2, g2, r2, rfl, hr8, k8, hv2⟩
    have k08 := k0d.trans k8
    have hr9 := hrd.keep k8
    by_cases hby : y - q = 0
    · have hse : ys.set kk q = ys := by
        have h1 := HYK.out
        rw [show y = q by omega] at h1
        exact set_same h1
      rw [hse, HV.out] at hv2
      cases hv2
      have hbb : (y - q == 0) = true := beq_iff_eq.2 hby
      have hsi := fun w9 (k9 : Keep w8 w9) => saysK (sameInts A8 (some ⟨b1, o1, none⟩) L.length L.length L L w9 (hr8.keep k9) (hr9.keep k9) (by unfold Reach; omega) (by unfold Reach; omega))
      rw [decide_eq_true rfl] at hsi
      clear hse hby
      go_wp2_with fail
      refine (alive12_f w8).mono ?_
      rintro e w9 ⟨rfl, k9⟩
      go_wp2_with fail
      refine (hsi w9 k9).mono ?_
      rintro e w10 ⟨rfl, k10⟩
      go_wp2_with fail
      go_ret
      exact ⟨rfl, (k08.trans k9).trans k10⟩
    · have hbb : (y - q == 0) = false := beq_eq_false_iff_ne.2 hby
      have hset : ys.getD kk 0 - (y - q) = q := by rw [HY.out]; omega
      rcases ofV_no hv2 with ⟨rfl, _⟩ | ⟨_, hno2⟩
      · obtain ⟨rfl, rfl, rfl⟩ := lower hk1 (b := y - q) (by omega) HKL.out HGn.out (by rw [hset]; exact (ofV_gain hv2).2)
        have hsi := fun w9 (k9 : Keep w8 w9) => saysK (sameInts A8 (some ⟨w9.heap.size, 0, none⟩) 1 1 [(kk : Int)] [(kk : Int)] (w9.alloc (.cells #[.int .i64 (kk : Int)] 3)) ((hr8.keep k9).keep (Keep.alloc1 _ _)) (Rd.lit w9 (cs .i64 [(kk : Int)]) 3) (by unfold Reach; simp) (by unfold Reach; simp))
        rw [decide_eq_true rfl] at hsi
        have j5 : IntKind.i64.wrap (g + (y - q)) = g + (y - q) := IntWalk.i64_in _ (by omega)
        clear hv2 hset hby
        go_wp2_with fail
        refine (alive12_f w8).mono ?_
        rintro e w9 ⟨rfl, k9⟩
        go_wp2_with fail
        refine (hsi w9 k9).mono ?_
        rintro e w10 ⟨rfl, k10⟩
        go_wp2_with fail
        go_ret
        exact ⟨rfl, (k08.trans k9).trans ((Keep.alloc1 _ _).trans k10)⟩
      · rw [lower_ok HOK.out q0 (by omega)] at hno2
        cases hno2
end Go.Proofs.Ytjhmlcbpbmeicaa
