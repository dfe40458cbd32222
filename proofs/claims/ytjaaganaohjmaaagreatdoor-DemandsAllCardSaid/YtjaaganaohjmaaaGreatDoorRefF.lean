/-
  CONTRACT of the document's answer of chapter 5: Check. Conditions: the slices of the market read as lists, and are no longer than memory lets them be.
-/
import Derived.Test.YtjaaganaohjmaaaGreatDoorRefD
import Derived.Test.YtjaaganaohjmaaaGreatDoorMktHa
import Derived.Deep.CutRange
namespace Go.Proofs.YtjaaganaohjmaaaGreatDoor
open Go.RowKit

/-- So many numbers, each one below it once: none else. -/
theorem all_in {n : Nat} : ∀ {l : List Int}, l.length = n → (∀ i, i < n → l.count (i : Int) = 1) → ∀ x ∈ l, 0 ≤ x ∧ x < n := by
  induction n with
  | zero =>
    intro l hl _ x hx
    rw [List.eq_nil_of_length_eq_zero hl] at hx
    cases hx
  | succ n ih =>
    intro l hl hc x hx
    have hm : (n : Int) ∈ l := List.count_pos_iff.1 (by rw [hc n (by omega)]; omega)
    have h1 : (l.erase (n : Int)).length = n := by rw [List.length_erase_of_mem hm]; omega
    have h2 : ∀ i, i < n → (l.erase (n : Int)).count (i : Int) = 1 := fun i hi => by
      rw [List.count_erase_of_ne (by omega)]
      exact hc i (by omega)
    by_cases hxn : x = n
    · omega
    · have := ih h1 h2 x ((List.mem_erase_of_ne hxn).2 hx)
      omega
theorem ordB_of {l : List Int} {n : Nat} (hl : l.length = n) (hc : ∀ i, i < n → l.count (i : Int) = 1) : ordB l n = true := by
  unfold ordB
  rw [Bool.and_eq_true]
  refine ⟨List.all_eq_true.2 fun x hx => ?_, decide_eq_true hc⟩
  have := all_in hl hc x hx
  rw [decide_eq_true (by omega : 0 ≤ x), decide_eq_true (by omega : x < n)]
  rfl
theorem ordB_count {l : List Int} {n i : Nat} (hi : i < n) (h : l.count (i : Int) ≠ 1) : ordB l n = false := by
  cases hb : ordB l n with
  | false => rfl
  | true =>
    unfold ordB at hb
    rw [Bool.and_eq_true] at hb
    exact absurd (of_decide_eq_true hb.2 i hi) h
theorem ordB_length {l : List Int} {n : Nat} (h : l.length ≠ n) : ordB l n = false := by
  cases hb : ordB l n with
  | false => rfl
  | true => exact absurd (ordB_len hb) h
theorem count_snoc {l : List Int} {k : Nat} {x i : Int} (h : l[k]? = some x) : ((l.take (k + 1)).count i : Int) = (l.take k).count i + if x = i then 1 else 0 := by
  rw [List.take_add_one, h, List.count_append]
  by_cases e : x = i
  · subst e; simp
  · simp [e]

set_option maxRecDepth 100000 in
set_option maxHeartbeats 4000000 in
theorem refCheckM_f (M : Mkt) (w : World) (hM : M.Ok w) :
    Calls Tryz.prog 94 #[M.val] w fun e w' => e = .returned (.bool (chkM M.r.l (bidsOf M.bs) M.o.l)) ∧ Keep w w' := by
  have lr := hM.r.len
  have lb := hM.b.len
  have lo := hM.o.len
  have lr' := lr.le
  have lb' := lb.le
  have lo' := lo.le
  have bA := Blk.new w 65 [.slice M.r.a M.r.l.length M.r.c, .slice M.ba M.bs.length M.bc, .slice M.o.a M.o.l.length M.o.c]
  have k0 : Keep w (w.alloc (.cells #[.slice M.r.a M.r.l.length M.r.c, .slice M.ba M.bs.length M.bc, .slice M.o.a M.o.l.length M.o.c] 65)) := Keep.alloc1 _ _
  have hM1 := hM.keep k0
  unfold Mkt.val
  have hno : ∀ {b : Bool}, chkM M.r.l (bidsOf M.bs) M.o.l = b → chkM M.r.l (bidsOf M.bs) M.o.l = b := fun h => h
  clear hno
  have hlb : (bidsOf M.bs).length = M.bs.length := length_bids M.bs
  have hchk := fun w1 (k : Keep w w1) => refCheck_f M.r.a M.r.c M.r.l (M.r.l.length : Int) w1 (hM.keep k).r.rd lr
  cases hcr : chk M.r.l M.r.l.length with
  | false =>
    have e : chkM M.r.l (bidsOf M.bs) M.o.l = false := by unfold chkM; rw [hcr]; rfl
    rw [e]
    rw [hcr] at hchk
    clear e hcr hlb
    go_enter Tryz.func94, Tryz.ntmps94
    go_wp2_with fail
    refine (hchk _ k0).mono ?_
    rintro e w1 ⟨rfl, k1⟩
    go_wp2_with fail
    go_ret
    exact ⟨rfl, k0.trans k1⟩
  | true =>
    rw [hcr] at hchk
    have hC : chkM M.r.l (bidsOf M.bs) M.o.l = (decide (1 ≤ M.bs.length) && decide (M.bs.length ≤ 8) && ordB M.o.l M.bs.length && !(bidsOf M.bs).any (badB M.r.l.length)) := by unfold chkM; rw [hcr, hlb, Bool.true_and]
    rw [hC]
    clear hC hlb
    by_cases h1 : M.bs.length < 1
    · have e : (decide (1 ≤ M.bs.length) && decide (M.bs.length ≤ 8) && ordB M.o.l M.bs.length && !(bidsOf M.bs).any (badB M.r.l.length)) = false := by rw [decide_eq_false (by omega : ¬ 1 ≤ M.bs.length)]; rfl
      rw [e]
      have y1 : decide ((M.bs.length : Int) < 1) = true := decide_eq_true (by omega)
      clear e hcr
      go_enter Tryz.func94, Tryz.ntmps94
      go_wp2_with fail
      refine (hchk _ k0).mono ?_
      rintro e w1 ⟨rfl, k1⟩
      go_wp2_with fail
      go_ret
      exact ⟨rfl, k0.trans k1⟩
    have y1 : decide ((M.bs.length : Int) < 1) = false := decide_eq_false (by omega)
    have y0 : (0 : Int) < M.bs.length := by omega
    rw [decide_eq_true (by omega : 1 ≤ M.bs.length), Bool.true_and]
    by_cases h8 : 8 < M.bs.length
    · have e : (decide (M.bs.length ≤ 8) && ordB M.o.l M.bs.length && !(bidsOf M.bs).any (badB M.r.l.length)) = false := by rw [decide_eq_false (by omega : ¬ M.bs.length ≤ 8)]; rfl
      rw [e]
      have y2 : decide ((8 : Int) < M.bs.length) = true := decide_eq_true (by omega)
      clear e hcr
      go_enter Tryz.func94, Tryz.ntmps94
      go_wp2_with fail
      refine (hchk _ k0).mono ?_
      rintro e w1 ⟨rfl, k1⟩
      go_wp2_with fail
      go_ret
      exact ⟨rfl, k0.trans k1⟩
    have y2 : decide ((8 : Int) < M.bs.length) = false := decide_eq_false (by omega)
    rw [decide_eq_true (by omega : M.bs.length ≤ 8), Bool.true_and]
    have c1 := bA.cell_ (i := 1) rfl
    have c2 := bA.cell_ (i := 2) rfl
    by_cases hol : M.o.l.length = M.bs.length
    case neg =>
      have e : (ordB M.o.l M.bs.length && !(bidsOf M.bs).any (badB M.r.l.length)) = false := by rw [ordB_length hol]; rfl
      rw [e]
      have y3 : ((M.o.l.length : Int) != M.bs.length) = true := by simp; omega
      clear e hcr hol
      go_enter Tryz.func94, Tryz.ntmps94
      go_wp2_with fail
      refine (hchk _ k0).mono ?_
      rintro e w1 ⟨rfl, k1⟩
      replace c1 := k1.cell c1
      replace c2 := k1.cell c2
      go_wp2_with fail
      go_ret
      exact ⟨rfl, k0.trans k1⟩
    case pos =>
    have y3 : ((M.o.l.length : Int) != M.bs.length) = false := by simp [hol]
    have HOL := Lib.hid hol
    have lb8 : M.bs.length ≤ 8 := by omega
    clear hcr hol h1 h8
    go_enter Tryz.func94, Tryz.ntmps94
    go_wp2_with fail
    refine (hchk _ k0).mono ?_
    rintro e w1 ⟨rfl, k1⟩
    clear hchk
    replace c1 := k1.cell c1
    replace c2 := k1.cell c2
    replace bA := bA.keep k1
    replace hM1 := hM1.keep k1
    replace k0 := k0.trans k1
    clear k1
    generalize w.heap.size = gA at bA c1 c2 ⊢
    go_wp2_with fail
    go_loopw [5] (fun v wr => ∃ i : Nat, i ≤ M.bs.length ∧ v = .int .i64 i ∧ Hid (∀ j, j < i → (∀ t, M.bs[j]? = some t → badB M.r.l.length t.l = false) ∧ M.o.l.count (j : Int) = 1) ∧ Keep w1 wr) (fun v _ => M.bs.length - (intOf v).toNat)
    case atStart => exact ⟨0, Nat.zero_le _, rfl, Lib.hid (fun j hj => absurd hj (Nat.not_lt_zero _)), Keep.refl _⟩
    case round =>
      obtain ⟨i, hi, rfl, hall, hk⟩ := hrel
      have e0 := (bA.keep hk).cell_ (i := 0) rfl
      have e1 := (bA.keep hk).cell_ (i := 1) rfl
      have e2 := (bA.keep hk).cell_ (i := 2) rfl
      have hM2 := hM1.keep hk
      by_cases hlt : i < M.bs.length
      · obtain ⟨b1, o1, t, hba, hsk, hc1, ht⟩ := hM2.b.at_ hlt
        have HSK := Lib.hid hsk
        have i0 : (0 : Int) ≤ i := by omega
        have i1 : (i : Int) < M.bs.length := by omega
        rw [hba] at e1
        have ltt := ht.len.le
        clear hsk hba c1 c2
        go_upto_region 8 with fail
        go_cut [55] from 39 to 54 (fun v wx => v = .bool (badB M.r.l.length t.l) ∧ Keep wr wx)
        case first =>
          by_cases h0 : 0 < t.l.length
          · have q1 : decide ((0 : Int) < t.l.length) = true := decide_eq_true (by omega)
            have q2 : (0 : Int) < t.l.length := by omega
            have q3 : decide (0 < t.l.length) = true := decide_eq_true h0
            have q4 : (0 < t.l.length) = True := eq_true h0
            have q5 : (t.l.length = 0) = False := eq_false (by omega)
            have hq := refCheck_f t.a t.c t.l (M.r.l.length : Int) wr ht.rd ht.len
            have hbb : badB M.r.l.length t.l = !chk t.l M.r.l.length := by unfold badB; rw [decide_eq_true h0]; rfl
            have HBB := Lib.hid hbb
            clear h0 hbb
            go_wp2_with fail
            refine hq.mono ?_
            rintro e w3 ⟨rfl, k3⟩
            go_wp2_with fail
            go_meet
            exact ⟨by rw [HBB.out], k3⟩
          · have q1 : decide ((0 : Int) < t.l.length) = false := decide_eq_false (by omega)
            have q2 : ((0 : Int) < t.l.length) = False := eq_false (by omega)
            have q3 : decide (0 < t.l.length) = false := decide_eq_false h0
            have q4 : (0 < t.l.length) = False := eq_false h0
            have q5 : (t.l.length = 0) = True := eq_true (by omega)
            have hbb : badB M.r.l.length t.l = false := by unfold badB; rw [decide_eq_false h0]; rfl
            have HBB := Lib.hid hbb
            clear h0 hbb
            go_wp2_with fail
            go_meet
            exact ⟨by rw [HBB.out], Keep.refl _⟩
        case rest =>
        obtain ⟨rfl, k3⟩ := hcut
        replace hk := hk.trans k3
        clear e0 e1 e2 hc1 hM2 ht k3
        have e1 := (bA.keep hk).cell_ (i := 1) rfl
        have e2 := (bA.keep hk).cell_ (i := 2) rfl
        have hM2 := hM1.keep hk
        cases hbad : badB M.r.l.length t.l with
        | true =>
          have e : (ordB M.o.l M.bs.length && !(bidsOf M.bs).any (badB M.r.l.length)) = false := by
            rw [Bool.and_eq_false_iff]
            right
            rw [Bool.not_eq_false']
            exact List.any_eq_true.2 ⟨t.l, List.mem_map.2 ⟨t, List.mem_of_getElem? HSK.out, rfl⟩, hbad⟩
          have HE := Lib.hid e
          clear e hbad
          go_wp2_with fail
          go_ret
          exact ⟨by rw [HE.out]; rfl, k0.trans hk⟩
        | false =>
          have HBAD := Lib.hid hbad
          clear hbad
          go_wp2_with fail
          obtain ⟨w4, hw4⟩ : ∃ x, x = wc := ⟨wc, rfl⟩
          subst hw4
          go_loopw [6, 7] (fun u v wr => ∃ k q : Nat, k ≤ M.bs.length ∧ q ≤ k ∧ Hid (q = (M.o.l.take k).count (i : Int)) ∧ u = .int .i64 q ∧ v = .int .i64 k ∧ Keep w4 wr) (fun _ v _ => M.bs.length - (intOf v).toNat)
          case atStart => exact ⟨0, 0, Nat.zero_le _, Nat.le_refl _, Lib.hid rfl, rfl, rfl, Keep.refl _⟩
          case round =>
            obtain ⟨k, q, hkl, hqk, hq, rfl, rfl, hk2⟩ := hrel
            have g2 := ((bA.keep hk).keep hk2).cell_ (i := 2) rfl
            have hM3 := hM2.keep hk2
            by_cases hlt2 : k < M.bs.length
            · obtain ⟨b3, o3, x, hoa, hx, hc3⟩ := hM3.o.rd.int_at (j := k) (by rw [HOL.out]; exact hlt2)
              have hcs := count_snoc (i := (i : Int)) hx
              rw [← hq.out] at hcs
              rw [hoa] at g2
              have k0' : (0 : Int) ≤ k := by omega
              have k1' : (k : Int) < M.o.l.length := by rw [HOL.out]; omega
              have k2' : (k : Int) < M.bs.length := by omega
              by_cases hxi : x = i
              · have z1 : (x == (i : Int)) = true := by simp [hxi]
                rw [if_pos hxi] at hcs
                have HC := Lib.hid (show q + 1 = (M.o.l.take (k + 1)).count (i : Int) by omega)
                clear hoa hx hxi hcs hq
                go_wp2_with fail
                go_roundw
                case rel => exact ⟨k + 1, q + 1, by omega, by omega, HC, by go_num, by go_num, hk2⟩
                case measure => simp [intOf]; omega
              · have z1 : (x == (i : Int)) = false := by simp [hxi]
                rw [if_neg hxi] at hcs
                have HC := Lib.hid (show q = (M.o.l.take (k + 1)).count (i : Int) by omega)
                clear hoa hx hxi hcs hq
                go_wp2_with fail
                go_roundw
                case rel => exact ⟨k + 1, q, by omega, by omega, HC, rfl, by go_num, hk2⟩
                case measure => simp [intOf]; omega
            · obtain rfl : k = M.bs.length := by omega
              have hqq := hq.out
              rw [List.take_of_length_le (by rw [HOL.out]; exact Nat.le_refl _)] at hqq
              have k2' : decide ((M.bs.length : Int) < M.bs.length) = false := decide_eq_false (by omega)
              by_cases hq1 : q = 1
              · have z1 : ((q : Int) != 1) = false := by simp [hq1]
                have HN := Lib.hid (fun j (hj : j < i + 1) => (show (∀ t, M.bs[j]? = some t → badB M.r.l.length t.l = false) ∧ M.o.l.count (j : Int) = 1 from by
                  by_cases hji : j < i
                  · exact hall.out j hji
                  · obtain rfl : j = i := by omega
                    refine ⟨fun t' ht' => ?_, by rw [← hqq, hq1]⟩
                    rw [HSK.out] at ht'
                    cases ht'
                    exact HBAD.out))
                clear hq hqq hq1
                go_wp2_with fail
                go_roundw
                case rel => exact ⟨i + 1, by omega, by go_num, HN, hk.trans hk2⟩
                case measure => simp [intOf]; omega
              · have z1 : ((q : Int) != 1) = true := by simp; omega
                have e : (ordB M.o.l M.bs.length && !(bidsOf M.bs).any (badB M.r.l.length)) = false := by rw [ordB_count hlt (by rw [← hqq]; exact hq1)]; rfl
                have HE := Lib.hid e
                clear e hq hqq hq1
                go_wp2_with fail
                go_ret
                exact ⟨by rw [HE.out]; rfl, (k0.trans hk).trans hk2⟩
      · obtain rfl : i = M.bs.length := by omega
        have e : (ordB M.o.l M.bs.length && !(bidsOf M.bs).any (badB M.r.l.length)) = true := by
          rw [ordB_of HOL.out (fun j hj => (hall.out j hj).2), Bool.true_and, Bool.not_eq_true', List.any_eq_false]
          intro b hb
          obtain ⟨t, ht, rfl⟩ := List.mem_map.1 hb
          obtain ⟨j, hj⟩ := List.getElem?_of_mem ht
          rw [(hall.out j (List.getElem?_eq_some_iff.1 hj).1).1 t hj]
          decide
        have HE := Lib.hid e
        have k2' : decide ((M.bs.length : Int) < M.bs.length) = false := decide_eq_false (by omega)
        clear e hall
        go_wp2_with fail
        go_ret
        exact ⟨by rw [HE.out]; rfl, k0.trans hk⟩
end Go.Proofs.YtjaaganaohjmaaaGreatDoor
