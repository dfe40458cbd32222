/-
  THE WALK OF THE LAW DemandsMost: it answers true, and turns nothing that was there. Conditions: the arguments are slices of int that came in.
-/
import Derived.Test.YtiofhdckhaejiaaDemG
import Derived.Test.YtiofhdckhaejiaaDemP
import Derived.Deep.CutRange
import Derived.Deep.QuietTactic
import Derived.BigQuiet
namespace Go.Proofs.Ytiofhdckhaejiaa
open Go.RowKit

set_option maxRecDepth 100000 in
set_option maxHeartbeats 2000000 in
theorem demandsMost_w (A0 : Option Addr) (c0 : Nat) (xs : List Int) (A1 : Option Addr) (c1 : Nat) (ys : List Int) (w : World) (hx : In .i64 w A0 c0 xs) (hy : In .i64 w A1 c1 ys) :
    Calls Try.prog 4 #[.slice A0 xs.length c0, .slice A1 ys.length c1] w fun e w' => e = .returned (.bool true) ∧ Below w.heap.size w w' := by
  have lx := hx.len
  have ly := hy.len
  go_enter Try.func4, Try.ntmps4
  go_wp2_with fail
  refine (of_f A0 A1 c0 c1 xs ys w hx.rd hx.lenL hy.rd hy.lenL).mono ?_
  rintro e w1 ⟨A, L, n, g, r, rfl, hr, hk, hv⟩
  rcases ofV_cases hv with ⟨rfl, rfl, rfl, rfl, hno⟩ | ⟨rfl, hok, hG⟩
  · clear hv hno
    go_wp2_with fail
    refine (alive12_f w1).mono ?_
    rintro e w2 ⟨rfl, k2⟩
    go_wp2_with fail
    go_ret
    exact ⟨rfl, hk.trans k2⟩
  · clear hv hok
    have hn := hG.none_
    have hg0 := hG.best.g0
    have hle : 0 < xs.length → xs.length ≤ ys.length ∧ ys.length ≤ xs.length := fun h => by have := hG.len; omega
    have hsl := hG.best.short
    have hit := hG.items
    have hl8 : L.length ≤ 8 := by have := hG.len; omega
    have hne : 0 < g → 0 < L.length := fun h => by
      have := hG.best.some_ h
      cases L with
      | nil => exact absurd rfl this
      | cons _ _ => simp
    have HG := Lib.hid hG
    clear hG
    by_cases hg : g = 0
    · obtain rfl : n = true := by rw [hn]; exact decide_eq_true hg
      subst hg
      clear hn hne
      go_upto_region 4 with fail
      go_cut [68] from 40 to 67 (fun c wx => c = .bool false ∧ wx = w1)
      case first =>
        by_cases hx0 : 0 < xs.length
        · have hxy : ((xs.length : Int) != ys.length) = false := bne_eq_false_iff_eq.2 (by have := hle hx0; omega)
          by_cases hl : 0 < L.length
          · have hlb : ((L.length : Int) == 0) = false := beq_eq_false_iff_ne.2 (by omega)
            clear hl
            go_wp2_with fail
            go_meet
            exact ⟨rfl, rfl⟩
          · have hlb : ((L.length : Int) == 0) = true := beq_iff_eq.2 (by omega)
            clear hl
            go_wp2_with fail
            go_meet
            exact ⟨rfl, rfl⟩
        · by_cases hl : 0 < L.length
          · have hlb : ((L.length : Int) == 0) = false := beq_eq_false_iff_ne.2 (by omega)
            clear hl
            go_wp2_with fail
            go_meet
            exact ⟨rfl, rfl⟩
          · have hlb : ((L.length : Int) == 0) = true := beq_iff_eq.2 (by omega)
            clear hl
            go_wp2_with fail
            go_meet
            exact ⟨rfl, rfl⟩
      case rest =>
        obtain ⟨rfl, rfl⟩ := hcut
        go_wp2_with fail
        obtain ⟨W1, hW1⟩ : ∃ W1, W1 = wc := ⟨_, rfl⟩
        subst hW1
        go_loopw [9] (fun i wr => ∃ k : Nat, k ≤ xs.length ∧ i = .int .i64 k ∧ ∃ m, wr = W1.drewN m) (fun i _ => xs.length - (intOf i).toNat)
        case atStart => exact ⟨0, Nat.zero_le _, rfl, 0, rfl⟩
        case round =>
          obtain ⟨k, hk1, rfl, m, rfl⟩ := hrel
          by_cases hlt : k < xs.length
          · have hlt2 : k < ys.length := by have := HG.out.len; omega
            obtain ⟨b1, o1, x, rfl, hxk, hc1⟩ := (hx.rd.keep hk).int_at hlt
            obtain ⟨b2, o2, y, rfl, hyk, hc2⟩ := (hy.rd.keep hk).int_at hlt2
            have hx3 := HG.out.bid x (List.mem_of_getElem? hxk)
            have hy3 := HG.out.prices y (List.mem_of_getElem? hyk)
            have hmost := HG.out.best.most k x y hxk hyk
            have HM := Lib.hid (HG.out.best.mem k x y hxk hyk)
            clear hxk hyk
            go_wp2_with fail
            go_quiet (fail)
            go_wp2_with fail
            refine (has_f A L.length L (k : Int) _ (hr.keep ((Keep.refl _).drewN _)) (len_small hl8)).mono ?_
            rintro e w2 ⟨he, q, rfl⟩
            rw [HM.out] at he
            subst he
            by_cases hd : x - y = 0
            · have hda : decide (x - y = 0) = true := decide_eq_true hd
              have hdb : (x - y == 0) = true := beq_iff_eq.2 hd
              clear hd
              go_wp2_with fail
              go_roundw
              case rel => exact ⟨k + 1, by omega, by go_num, m + nq + q, rfl⟩
              case measure => simp [intOf]; omega
            · have hda : decide (x - y = 0) = false := decide_eq_false hd
              have hdb : (x - y == 0) = false := beq_eq_false_iff_ne.2 hd
              clear hd
              go_wp2_with fail
              go_roundw
              case rel => exact ⟨k + 1, by omega, by go_num, m + nq + q, rfl⟩
              case measure => simp [intOf]; omega
          · obtain rfl : k = xs.length := by omega
            go_wp2_with fail
            have hr2 := hr.keep ((Keep.refl _).drewN m)
            have hk2 := hk.drewN m
            clear hr hk
            generalize W1.drewN m = W2 at hr2 hk2 ⊢
            go_loopw [11] (fun i wr => ∃ k : Nat, k ≤ L.length ∧ i = .int .i64 k ∧ ∃ m, wr = W2.drewN m) (fun i _ => L.length - (intOf i).toNat)
            case atStart => exact ⟨0, Nat.zero_le _, rfl, 0, rfl⟩
            case round =>
              obtain ⟨j, hj1, rfl, q, rfl⟩ := hrel
              by_cases hlt : j < L.length
              · obtain ⟨b1, o1, v, rfl, hvj, hc1⟩ := hr2.int_at hlt
                obtain ⟨hv0, hv1⟩ := HG.out.best.ge j v hvj
                have hva : decide (v < 0) = false := decide_eq_false (by omega)
                have hvb : decide ((xs.length : Int) ≤ v) = false := decide_eq_false (by omega)
                have hva : decide (v < 0) = false := decide_eq_false (by omega)
                have hvb : decide ((xs.length : Int) ≤ v) = false := decide_eq_false (by omega)
                cases j with
                | zero =>
                  clear hvj
                  rw [Nat.add_zero] at hc1
                  go_wp2_with fail
                  go_quiet (fail)
                  go_wp2_with fail
                  go_roundw
                  case rel => exact ⟨1, by omega, by go_num, q + nq, rfl⟩
                  case measure => simp [intOf]; omega
                | succ i =>
                  obtain ⟨b2, o2, u, e2, huj, hc2⟩ := hr2.int_at (j := i) (by omega)
                  cases e2
                  have hup := HG.out.best.up i u v huj hvj
                  have hja : decide ((0 : Int) < (i : Int) + 1) = true := decide_eq_true (by omega)
                  have hjb : decide (v ≤ u) = false := decide_eq_false (by omega)
                  clear hvj huj
                  go_wp2_with fail
                  go_quiet (fail)
                  go_wp2_with fail
                  go_roundw
                  case rel => exact ⟨i + 1 + 1, by omega, by go_num, q + nq, rfl⟩
                  case measure => simp [intOf]; omega
              · obtain rfl : j = L.length := by omega
                go_wp2_with fail
                refine (alive12_f _).mono ?_
                rintro e w3 ⟨rfl, k3⟩
                go_wp2_with fail
                go_ret
                exact ⟨rfl, (hk2.drewN q).trans k3⟩
    · obtain rfl : n = false := by rw [hn]; exact decide_eq_false hg
      have hg1 : 0 < g := by omega
      have hl := hne hg1
      have hga : (g == 0) = false := beq_eq_false_iff_ne.2 hg
      have hgb : decide (g < 0) = false := decide_eq_false (by omega)
      clear hn hg hne
      go_upto_region 4 with fail
      go_cut [68] from 40 to 67 (fun c wx => c = .bool false ∧ wx = w1)
      case first =>
        by_cases hx0 : 0 < xs.length
        · have hxy : ((xs.length : Int) != ys.length) = false := bne_eq_false_iff_eq.2 (by have := hle hx0; omega)
          have hlb : ((L.length : Int) == 0) = false := beq_eq_false_iff_ne.2 (by omega)
          clear hl
          go_wp2_with fail
          go_meet
          exact ⟨rfl, rfl⟩
        · have hlb : ((L.length : Int) == 0) = false := beq_eq_false_iff_ne.2 (by omega)
          clear hl
          go_wp2_with fail
          go_meet
          exact ⟨rfl, rfl⟩
      case rest =>
        obtain ⟨rfl, rfl⟩ := hcut
        go_wp2_with fail
        obtain ⟨W1, hW1⟩ : ∃ W1, W1 = wc := ⟨_, rfl⟩
        subst hW1
        go_loopw [9] (fun i wr => ∃ k : Nat, k ≤ xs.length ∧ i = .int .i64 k ∧ ∃ m, wr = W1.drewN m) (fun i _ => xs.length - (intOf i).toNat)
        case atStart => exact ⟨0, Nat.zero_le _, rfl, 0, rfl⟩
        case round =>
          obtain ⟨k, hk1, rfl, m, rfl⟩ := hrel
          by_cases hlt : k < xs.length
          · have hlt2 : k < ys.length := by have := HG.out.len; omega
            obtain ⟨b1, o1, x, rfl, hxk, hc1⟩ := (hx.rd.keep hk).int_at hlt
            obtain ⟨b2, o2, y, rfl, hyk, hc2⟩ := (hy.rd.keep hk).int_at hlt2
            have hx3 := HG.out.bid x (List.mem_of_getElem? hxk)
            have hy3 := HG.out.prices y (List.mem_of_getElem? hyk)
            have hmost := HG.out.best.most k x y hxk hyk
            have HM := Lib.hid (HG.out.best.mem k x y hxk hyk)
            clear hxk hyk
            go_wp2_with fail
            go_quiet (fail)
            go_wp2_with fail
            refine (has_f A L.length L (k : Int) _ (hr.keep ((Keep.refl _).drewN _)) (len_small hl8)).mono ?_
            rintro e w2 ⟨he, q, rfl⟩
            rw [HM.out] at he
            subst he
            by_cases hd : x - y = g
            · have hda : decide (x - y = g) = true := decide_eq_true hd
              have hdb : (x - y == g) = true := beq_iff_eq.2 hd
              clear hd
              go_wp2_with fail
              go_roundw
              case rel => exact ⟨k + 1, by omega, by go_num, m + nq + q, rfl⟩
              case measure => simp [intOf]; omega
            · have hda : decide (x - y = g) = false := decide_eq_false hd
              have hdb : (x - y == g) = false := beq_eq_false_iff_ne.2 hd
              clear hd
              go_wp2_with fail
              go_roundw
              case rel => exact ⟨k + 1, by omega, by go_num, m + nq + q, rfl⟩
              case measure => simp [intOf]; omega
          · obtain rfl : k = xs.length := by omega
            go_wp2_with fail
            have hr2 := hr.keep ((Keep.refl _).drewN m)
            have hk2 := hk.drewN m
            clear hr hk
            generalize W1.drewN m = W2 at hr2 hk2 ⊢
            go_loopw [11] (fun i wr => ∃ k : Nat, k ≤ L.length ∧ i = .int .i64 k ∧ ∃ m, wr = W2.drewN m) (fun i _ => L.length - (intOf i).toNat)
            case atStart => exact ⟨0, Nat.zero_le _, rfl, 0, rfl⟩
            case round =>
              obtain ⟨j, hj1, rfl, q, rfl⟩ := hrel
              by_cases hlt : j < L.length
              · obtain ⟨b1, o1, v, rfl, hvj, hc1⟩ := hr2.int_at hlt
                obtain ⟨hv0, hv1⟩ := HG.out.best.ge j v hvj
                have hva : decide (v < 0) = false := decide_eq_false (by omega)
                have hvb : decide ((xs.length : Int) ≤ v) = false := decide_eq_false (by omega)
                have hva : decide (v < 0) = false := decide_eq_false (by omega)
                have hvb : decide ((xs.length : Int) ≤ v) = false := decide_eq_false (by omega)
                cases j with
                | zero =>
                  clear hvj
                  rw [Nat.add_zero] at hc1
                  go_wp2_with fail
                  go_quiet (fail)
                  go_wp2_with fail
                  go_roundw
                  case rel => exact ⟨1, by omega, by go_num, q + nq, rfl⟩
                  case measure => simp [intOf]; omega
                | succ i =>
                  obtain ⟨b2, o2, u, e2, huj, hc2⟩ := hr2.int_at (j := i) (by omega)
                  cases e2
                  have hup := HG.out.best.up i u v huj hvj
                  have hja : decide ((0 : Int) < (i : Int) + 1) = true := decide_eq_true (by omega)
                  have hjb : decide (v ≤ u) = false := decide_eq_false (by omega)
                  clear hvj huj
                  go_wp2_with fail
                  go_quiet (fail)
                  go_wp2_with fail
                  go_roundw
                  case rel => exact ⟨i + 1 + 1, by omega, by go_num, q + nq, rfl⟩
                  case measure => simp [intOf]; omega
              · obtain rfl : j = L.length := by omega
                go_wp2_with fail
                refine (alive12_f _).mono ?_
                rintro e w3 ⟨rfl, k3⟩
                go_wp2_with fail
                go_ret
                exact ⟨rfl, (hk2.drewN q).trans k3⟩
end Go.Proofs.Ytiofhdckhaejiaa
