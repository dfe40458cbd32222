/-
  THE WALK OF THE LAW DemandsRaised: it answers true, and turns nothing that was there. Conditions: the arguments are slices of int that came in, an array of two uint16.
-/
import Derived.Test.YtjhmlcbpbmeicaaDemG
import Derived.Test.YtjhmlcbpbmeicaaDemQ
import Derived.Test.YtjhmlcbpbmeicaaNumA
import Derived.Deep.RegionHeld3
import Derived.Deep.CutRange
import Derived.IntWalk
namespace Go.Proofs.Ytjhmlcbpbmeicaa
open Go.RowKit

theorem cs_set (k : IntKind) (xs : List Int) (j : Nat) (v : Int) : (cs k xs).set j (.int k v) = cs k (xs.set j v) := by
  unfold cs
  rw [List.map_set]
theorem others_snoc {L : List Int} {k j : Nat} {x : Int} (hx : L[j]? = some x) : others (L.take (j + 1)) k = others (L.take j) k ++ (if x = (k : Int) then [] else [x]) := by
  unfold others
  rw [List.take_add_one, hx, List.filter_append]
  congr 1
  by_cases h : x = (k : Int) <;> simp [h]
theorem length_others (L : List Int) (k : Nat) : (others L k).length ≤ L.length := List.length_filter_le _ _

set_option maxRecDepth 100000 in
set_option maxHeartbeats 8000000 in
theorem demandsRaised_w (A0 : Option Addr) (c0 : Nat) (xs : List Int) (A1 : Option Addr) (c1 : Nat) (ys : List Int) (z0 z1 : Int) (w : World) (hx : In .i64 w A0 c0 xs) (hy : In .i64 w A1 c1 ys) (hz0 : 0 ≤ z0 ∧ z0 < 65536) (hz1 : 0 ≤ z1 ∧ z1 < 65536) :
    Calls Try.prog 3 #[.slice A0 xs.length c0, .slice A1 ys.length c1, .agg #[.int .u16 z0, .int .u16 z1]] w fun e w' => e = .returned (.bool true) ∧ Below w.heap.size w w' := by
  have lx := hx.len
  have ly := hy.len
  go_enter Try.func3, Try.ntmps3
  go_wp2_with fail
  have k0 : Keep w (w.alloc (.cells #[.int .u16 z0, .int .u16 z1] 24)) := Keep.alloc1 _ _
  have d0 : (w.alloc (.cells #[.int .u16 z0, .int .u16 z1] 24)).cell? ⟨w.heap.size, 0, none⟩ = some (.int .u16 z0) := by simp
  have d1 : (w.alloc (.cells #[.int .u16 z0, .int .u16 z1] 24)).cell? ⟨w.heap.size, 1, none⟩ = some (.int .u16 z1) := by simp
  generalize w.alloc (.cells #[.int .u16 z0, .int .u16 z1] 24) = w0 at k0 d0 d1 ⊢
  refine (of_f A0 A1 c0 c1 xs ys w0 (hx.rd.keep k0) hx.lenL (hy.rd.keep k0) hy.lenL).mono ?_
  rintro e w1 ⟨A, L, n, g, r, rfl, hr, hk, hv⟩
  replace d0 := hk.cell d0
  replace d1 := hk.cell d1
  replace k0 := k0.trans hk
  rcases ofV_cases hv with ⟨rfl, rfl, rfl, rfl, hno⟩ | ⟨rfl, hok, hG⟩
  · clear hv hno
    go_wp2_with fail
    refine (alive12_f w1).mono ?_
    rintro e w2 ⟨rfl, k2⟩
    go_wp2_with fail
    go_ret
    exact ⟨rfl, k0.trans k2⟩
  · have hle : xs.length ≤ ys.length := by have := hG.len; omega
    have hit := hG.items
    have hl8 : L.length ≤ 8 := by have := hG.best.short; omega
    have HP := Lib.hid hG.prices
    have HOK := Lib.hid hok
    have HGn := Lib.hid (ofV_gain hv).2
    obtain ⟨kk, hkk⟩ : ∃ kk : Nat, z0 % (ys.length : Int) = kk := ⟨(z0 % (ys.length : Int)).toNat, by
      have := Int.emod_nonneg z0 (b := (ys.length : Int)) (by omega)
      omega⟩
    have hk1 : kk < ys.length := by
      have := Int.emod_lt_of_pos z0 (b := (ys.length : Int)) (by omega)
      omega
    obtain ⟨y, hyk⟩ : ∃ y, ys[kk]? = some y := ⟨_, List.getElem?_eq_getElem hk1⟩
    have by_ := hG.prices y (List.mem_of_getElem? hyk)
    have HY := Lib.hid (show ys.getD kk 0 = y by rw [List.getD_eq_getElem?_getD, hyk]; rfl)
    have hyl : (0 : Int) < ys.length := by omega
    have hne0 : ((ys.length : Int) == 0) = false := beq_eq_false_iff_ne.2 (by omega)
    clear hv hok hG hle hk
    go_wp2_with (at_builtin; refine wpList_append_fr _ rfl _ _ 22 rfl w1.heap.size 3 (.int .i64 0) 8 Try.underlying22 infoInt rfl none 0 0 [] rfl (Fr.empty _ _ _ _) A1 ys.length c1 (cs .i64 ys) rfl (length_cs _ _) (hy.rd.keep k0) (one_cs _ _) ?c1 ?c2 ?c3 ?_)
    case c1 => unfold maxLen; omega
    case c2 => omega
    case c3 => exact Nat.le_refl _
    intro A5 c5 w5 happ
    have k5 := happ.keep (Keep.refl _) (Fr.empty _ _ _ _)
    have f5 := happ.fr
    clear happ
    obtain ⟨g5, rfl, hg5, hg5'⟩ := f5.form (by omega)
    have HK := Lib.hid hkk
    clear hkk
    have e0 : w5.cell? ⟨g5, kk, none⟩ = some (.int .i64 y) := by
      obtain ⟨b, o, u, e, hu, hc⟩ := f5.rd.int_at hk1
      cases e
      rw [hyk] at hu
      cases hu
      rwa [Nat.zero_add] at hc
    have e1 := f5.frozen (by omega) kk
    have d5 := k5.cell d1
    have i0 : (0 : Int) ≤ kk := by omega
    have i1 : (kk : Int) < ys.length := by omega
    have j1 : IntKind.i64.wrap (y + 1) = y + 1 := IntWalk.i64_in _ (by omega)
    have j2 : IntKind.i64.wrap (y + 1 + z1) = y + 1 + z1 := IntWalk.i64_in _ (by omega)
    have HYK := Lib.hid hyk
    clear hyk
    go_upto_region 6 with fail
    go_cut [54] from 43 to 54 (fun _ wx => Fr 3 wx w1.heap.size (some ⟨g5, 0, none⟩) ys.length c5 (cs .i64 (ys.set kk (y + 1 + z1))) ∧ Keep w1 wx)
    case first =>
      have fs := f5.stored hk1 (.int .i64 (y + 1 + z1))
      rw [cs_set] at fs
      have ks := k5.setCell (p := ⟨g5, kk, none⟩) hg5 (.int .i64 (y + 1 + z1))
      go_region
      all_goals
        go_wp2_with fail
        go_meet
        exact ⟨fs.keep ((Keep.refl _).drew), ks.drew⟩
    case rest =>
    obtain ⟨f6, k6⟩ := hcut
    replace k0 := k0.trans k6
    replace hr := hr.keep k6
    clear e0 e1 d5 d0 d1 f5 k5 j1 j2
    go_wp2_with fail
    have hof := of_f A0 (some ⟨g5, 0, none⟩) c0 c5 xs (ys.set kk (y + 1 + z1)) wc (hx.rd.keep k0) hx.lenL f6.rd (by rw [List.length_set]; unfold Len; omega)
    rw [List.length_set] at hof
    refine hof.mono ?_
    rintro e w7 ⟨A7, L2, n2, g2, r2, rfl, hr7, k7, hv2⟩
    have f7 := f6.keep k7
    replace k0 := k0.trans k7
    replace hr := hr.keep k7
    have hset : ys.getD kk 0 + (1 + z1) = y + 1 + z1 := by rw [HY.out]; omega
    rcases ofV_no hv2 with ⟨rfl, hok2⟩ | ⟨rfl, hno2⟩
    · have hR := raised hk1 (d := 1 + z1) (by omega) HGn.out (by rw [hset]; exact (ofV_gain hv2).2)
      have hl2 : L2.length ≤ 8 := by
        have := (ofV_cases hv2).resolve_left (fun h => by cases h.1)
        have h1 := this.2.2.best.short
        have h2 := this.2.2.len
        rw [List.length_set] at h2
        omega
      have HR := Lib.hid hR
      clear hv2 hok2 hset hR
      go_wp2_with fail
      obtain ⟨W, hW⟩ : ∃ W, W = w7 := ⟨_, rfl⟩
      subst hW
      go_loopw [17, 18] (fun v i wr => ∃ (k : Nat) (B : Option Addr) (c m : Nat), k ≤ L.length ∧ i = .int .i64 k ∧ v = .slice B m c ∧ m ≤ k ∧ Fr 3 wr W.heap.size B m c (cs .i64 (others (L.take k) kk)) ∧ Keep W wr) (fun _ i _ => L.length - (intOf i).toNat)
      case atStart => exact ⟨0, none, 0, 0, Nat.zero_le _, rfl, rfl, Nat.le_refl _, Fr.empty _ _ _ _, Keep.refl _⟩
      case round =>
        obtain ⟨k, B, c, m, hkl, rfl, rfl, hmk, hfr, hkeep⟩ := hrel
        by_cases hlt : k < L.length
        · obtain ⟨b1, o1, x, rfl, hxk, hc1⟩ := (hr.keep hkeep).int_at hlt
          have HO := Lib.hid (others_snoc (k := kk) hxk)
          clear hxk
          by_cases hxe : x = (kk : Int)
          · have hxb : (x != (kk : Int)) = false := bne_eq_false_iff_eq.2 hxe
            have HE := Lib.hid hxe
            clear hxe
            go_wp2_with fail
            go_roundw
            case rel => exact ⟨k + 1, B, c, m, by omega, by go_num, rfl, by omega, by rw [HO.out, if_pos HE.out, List.append_nil]; exact hfr, hkeep⟩
            case measure => simp [intOf]; omega
          · have hxb : (x != (kk : Int)) = true := bne_iff_ne.2 hxe
            have HE := Lib.hid hxe
            clear hxe
            go_wp2_with (at_builtin; refine wpList_append_fr _ rfl _ _ 22 rfl W.heap.size 3 (.int .i64 0) 8 Try.underlying22 infoInt rfl B m c _ rfl (hfr.keep (Keep.alloc1 _ _)) (some ⟨wr.heap.size, 0, none⟩) 1 1 [.int .i64 x] rfl rfl (Rd.one _ _ _) (one_int _ _) ?c1 ?c2 ?c3 ?_)
            case c1 => unfold maxLen; omega
            case c2 => omega
            case c3 => have := hkeep.size; simp; omega
            intro B' c' w8 happ
            have k8 := happ.keep (hkeep.alloc _) (hfr.keep (Keep.alloc1 _ _))
            have f8 := happ.fr
            rw [← cs_one, ← cs_append] at f8
            clear happ hfr
            go_wp2_with fail
            go_roundw
            case rel => exact ⟨k + 1, B', c', m + 1, by omega, by go_num, rfl, by omega, by rw [HO.out, if_neg HE.out]; exact f8, k8⟩
            case measure => simp [intOf]; omega
        · obtain rfl : k = L.length := by omega
          rw [List.take_length] at hfr
          have hk8 := k0.trans hkeep
          have hr8 := hr7.keep hkeep
          have hrw := hfr.rd
          have hml := hfr.len
          rw [length_cs] at hml
          obtain ⟨P, hP⟩ : ∃ P, P = others L kk := ⟨_, rfl⟩
          have hR := HR.out
          rw [← hP] at hR hml hrw
          have HPp := Lib.hid hP
          clear hP hfr
          rcases hR with ⟨p0, l0, g1, g2', g3⟩ | ⟨hno, rfl, rfl, rfl⟩
          · have hm0 : ((m : Int) == 0) = true := by
              rw [p0] at hml
              rw [← hml]
              rfl
            have hLn : L.length ≠ 0 := fun h => l0 (List.eq_nil_of_length_eq_zero h)
            have hL1 : (0 : Int) < L.length := by omega
            have hL2 : decide (0 < L.length) = true := decide_eq_true (by omega)
            clear p0 l0 hrw hml hLn
            by_cases hgp : 0 < g
            · clear g3
              go_wp2_with fail
              refine (alive12_f wr).mono ?_
              rintro e w9 ⟨rfl, k9⟩
              go_wp2_with fail
              go_ret
              exact ⟨rfl, hk8.trans k9⟩
            · obtain ⟨rfl, rfl⟩ := g3.resolve_left hgp
              go_wp2_with fail
              refine (alive12_f wr).mono ?_
              rintro e w9 ⟨rfl, k9⟩
              go_wp2_with fail
              go_ret
              exact ⟨rfl, hk8.trans k9⟩
          · have hsi := fun w9 (k9 : Keep wr w9) => saysK (sameInts A7 B L2.length c L2 L2 w9 (hr8.keep k9) (hrw.keep k9) (by unfold Reach; omega) (by unfold Reach; omega))
            rw [decide_eq_true rfl] at hsi
            by_cases hL : L.length = 0
            · have hP0 : L2 = [] := by
                rw [HPp.out, List.eq_nil_of_length_eq_zero hL]
                rfl
              have hm0 : ((L2.length : Int) == 0) = true := by rw [hP0]; rfl
              have hL2 : decide (0 < L.length) = false := decide_eq_false (by omega)
              have hL3 : (L.length = 0) = True := eq_true hL
              rw [← hml]
              clear hP0 hno hml hL
              go_wp2_with fail
              refine (alive12_f wr).mono ?_
              rintro e w9 ⟨rfl, k9⟩
              go_wp2_with fail
              refine (hsi w9 k9).mono ?_
              rintro e w10 ⟨rfl, k10⟩
              go_wp2_with fail
              go_ret
              exact ⟨rfl, (hk8.trans k9).trans k10⟩
            · have hLe : L ≠ [] := fun h => hL (by rw [h]; rfl)
              have hPn : L2.length ≠ 0 := fun h => hno ⟨List.eq_nil_of_length_eq_zero h, hLe⟩
              have hm0 : ((L2.length : Int) == 0) = false := beq_eq_false_iff_ne.2 (by omega)
              rw [← hml]
              clear hno hml hL hLe hPn
              go_wp2_with fail
              refine (alive12_f wr).mono ?_
              rintro e w9 ⟨rfl, k9⟩
              go_wp2_with fail
              refine (hsi w9 k9).mono ?_
              rintro e w10 ⟨rfl, k10⟩
              go_wp2_with fail
              go_ret
              exact ⟨rfl, (hk8.trans k9).trans k10⟩
    · have hgt := raised_no hk1 (d := 1 + z1) (by omega) HOK.out (by rw [hset]; exact hno2)
      rw [hset] at hgt
      have hgb : decide ((2000000 : Int) < y + 1 + z1) = true := decide_eq_true hgt
      clear hv2 hno2 hset hgt
      go_wp2_with fail
      refine (alive12_f w7).mono ?_
      rintro e w8 ⟨rfl, k8⟩
      have e8 : w8.cell? ⟨g5, kk, none⟩ = some (.int .i64 (y + 1 + z1)) := by
        obtain ⟨b, o, u, e, hu, hc⟩ := (f7.keep k8).rd.int_at (j := kk) (by rw [List.length_set]; exact hk1)
        cases e
        rw [List.getElem?_set_self hk1] at hu
        cases hu
        rwa [Nat.zero_add] at hc
      go_wp2_with fail
      go_ret
      exact ⟨rfl, k0.trans k8⟩
end Go.Proofs.Ytjhmlcbpbmeicaa
