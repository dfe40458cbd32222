/-
  CONTRACTS for the package demands: the library's IndexFunc and ContainsFunc at the predicate of 'may'; 'may' itself: what they answer; nothing that was there is turned. Conditions: the slices are no longer than memory lets them be.
-/
import Derived.Test.YtjaaganaohjmaaaGreatDoorVec
namespace Go.Proofs.YtjaaganaohjmaaaGreatDoor
open Go.RowKit

/-- may's predicate: no price may be so. -/
def bad (n : Int) : Bool := decide (n < 0) || decide (2000000 < n)

set_option maxRecDepth 100000 in
theorem bad_f (n : Int) (w : World) : Calls Tryz.prog 132 #[.int .i64 n] w (Says w (bad n)) := by
  by_cases h0 : n < 0
  · go_enter Tryz.func132, Tryz.ntmps132
    go_wp2
    go_ret
    exact Says.of 0 rfl (by simp [bad, h0])
  · by_cases h1 : 2000000 < n
    all_goals
      go_enter Tryz.func132, Tryz.ntmps132
      go_wp2
      go_ret
      exact Says.of 0 rfl (by simp [bad, h0, h1])

/-- IndexFunc's answer: not below 0 just where there is one. -/
def Finds (w : World) (b : Bool) (e : Ending) (w' : World) : Prop := ∃ n : Int, e = .returned (.int .i64 n) ∧ decide (0 ≤ n) = b ∧ ∃ m, w' = w.drewN m
theorem any_take {p : Int → Bool} {l : List Int} {k : Nat} {x : Int} (h : (l.take k).any p = false) (hx : l[k]? = some x) (hp : p x = false) : (l.take (k + 1)).any p = false := by
  rw [List.take_add_one, hx]
  simp [List.any_append, h, hp]
theorem any_at {p : Int → Bool} {l : List Int} {k : Nat} {x : Int} (hx : l[k]? = some x) (hp : p x = true) : l.any p = true :=
  List.any_eq_true.2 ⟨x, List.mem_of_getElem? hx, hp⟩

set_option maxRecDepth 100000 in
set_option maxHeartbeats 800000 in
theorem indexFunc_f (A : Option Addr) (c : Nat) (xs : List Int) (w : World) (ha : Rd w A (cs .i64 xs)) (la : Len xs.length) :
    Calls Tryz.prog 142 #[.slice A xs.length c, .func (.func 132) #[] #[]] w (Finds w (xs.any bad)) := by
  have la' := la.le
  go_enter Tryz.func142, Tryz.ntmps142
  go_wp2
  go_loopw [8] (fun i wr => ∃ k : Nat, k ≤ xs.length ∧ i = .int .i64 k ∧ (xs.take k).any bad = false ∧ ∃ m, wr = w.drewN m) (fun i _ => xs.length - (intOf i).toNat)
  case atStart => exact ⟨0, Nat.zero_le _, rfl, rfl, 0, rfl⟩
  case round =>
    obtain ⟨k, hk, rfl, han, m, rfl⟩ := hrel
    have HN := Lib.hid han
    clear han
    by_cases hlt : k < xs.length
    · obtain ⟨b1, o1, x, rfl, hx, hc1⟩ := ha.int_at hlt
      have HX := Lib.hid hx
      clear hx
      by_cases hb : bad x = true
      · go_wp2_with fail
        refine (bad_f x _).mono ?_
        rintro e w1 ⟨rfl, q, rfl⟩
        go_wp2_with fail
        go_ret
        exact ⟨k, rfl, by rw [any_at HX.out hb]; simp, m + q, rfl⟩
      · have hb' : bad x = false := by simpa using hb
        clear hb
        go_wp2_with fail
        refine (bad_f x _).mono ?_
        rintro e w1 ⟨rfl, q, rfl⟩
        go_wp2_with fail
        go_roundw
        case rel => exact ⟨k + 1, by omega, by go_num, any_take HN.out HX.out hb', m + q, rfl⟩
        case measure => simp [intOf]; omega
    · obtain rfl : k = xs.length := by omega
      go_wp2
      go_ret
      exact ⟨-1, rfl, by have := HN.out; rw [List.take_length] at this; rw [this]; rfl, m, rfl⟩

set_option maxRecDepth 100000 in
theorem containsFunc_f (A : Option Addr) (c : Nat) (xs : List Int) (w : World) (ha : Rd w A (cs .i64 xs)) (la : Len xs.length) :
    Calls Tryz.prog 131 #[.slice A xs.length c, .func (.func 132) #[] #[]] w (Says w (xs.any bad)) := by
  go_enter Tryz.func131, Tryz.ntmps131
  go_wp2_with fail
  refine (indexFunc_f A c xs w ha la).mono ?_
  rintro e w1 ⟨n, rfl, hn, m, rfl⟩
  have HN := Lib.hid hn
  clear hn
  go_wp2_with fail
  go_ret
  exact Says.of m rfl HN.out

/-- demands.may -/
def mayP (prices : List Int) (items : Int) : Bool := (decide (1 ≤ items) && decide (items ≤ 8)) && decide ((prices.length : Int) = items) && within 2000000 prices
theorem any_bad (l : List Int) : (!l.any bad) = within 2000000 l := by
  unfold within
  rw [List.not_any_eq_all_not]
  congr 1
  funext n
  rw [Bool.eq_iff_iff]
  simp [bad]
theorem mayP_out {l : List Int} {n : Int} (h : ¬ (1 ≤ n ∧ n ≤ 8)) : mayP l n = false := by
  unfold mayP
  by_cases h1 : 1 ≤ n
  · have h8 : ¬ n ≤ 8 := fun h8 => h ⟨h1, h8⟩
    simp [h8]
  · simp [h1]
theorem mayP_len {l : List Int} {n : Int} (h : (l.length : Int) ≠ n) : mayP l n = false := by
  unfold mayP
  simp [h]
theorem mayP_in {l : List Int} {n : Int} (h1 : 1 ≤ n) (h8 : n ≤ 8) (h : (l.length : Int) = n) : mayP l n = within 2000000 l := by
  unfold mayP
  simp [h, h1, h8]

set_option maxRecDepth 100000 in
set_option maxHeartbeats 800000 in
theorem may_f (A : Option Addr) (c : Nat) (xs : List Int) (items : Int) (w : World) (ha : Rd w A (cs .i64 xs)) (la : Len xs.length) :
    Calls Tryz.prog 92 #[.slice A xs.length c, .int .i64 items] w (Says w (mayP xs items)) := by
  have la' := la.le
  by_cases h1 : 1 ≤ items
  · by_cases h8 : items ≤ 8
    · by_cases hl : (xs.length : Int) = items
      · have hb2 : ((xs.length : Int) == items) = true := by simp [hl]
        have HL := Lib.hid hl
        clear hl
        go_enter Tryz.func92, Tryz.ntmps92
        go_wp2_with fail
        refine (containsFunc_f A c xs w ha la).mono ?_
        rintro e w1 ⟨rfl, m, rfl⟩
        go_wp2_with fail
        go_ret
        exact Says.of m rfl (by rw [mayP_in h1 h8 HL.out, ← any_bad])
      · have hb2 : ((xs.length : Int) == items) = false := by simp [hl]
        have HL := Lib.hid hl
        clear hl
        go_enter Tryz.func92, Tryz.ntmps92
        go_wp2_with fail
        go_ret
        exact Says.of 0 rfl (mayP_len HL.out).symm
    · go_enter Tryz.func92, Tryz.ntmps92
      go_wp2_with fail
      go_ret
      exact Says.of 0 rfl (mayP_out (by omega)).symm
  · go_enter Tryz.func92, Tryz.ntmps92
    go_wp2_with fail
    go_ret
    exact Says.of 0 rfl (mayP_out (by omega)).symm
end Go.Proofs.YtjaaganaohjmaaaGreatDoor
