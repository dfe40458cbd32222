/-
  CONTRACTS for the package markets: Check: may a market be?; nothing that was there is turned. Conditions: the slices of the market read as lists, and are no longer than memory lets them be.
-/
import Derived.Test.YtjaaganaohjmaaaGreatDoorMktB
import Derived.Test.YtjaaganaohjmaaaGreatDoorOpenC
import Derived.Deep.CutRange
namespace Go.Proofs.YtjaaganaohjmaaaGreatDoor
open Go.RowKit

/-- A market in memory. -/
structure Mkt where
  r : Sl
  ba : Option Addr
  bc : Nat
  bs : List Sl
  o : Sl
def Mkt.val (M : Mkt) : Value := .agg #[.slice M.r.a M.r.l.length M.r.c, .slice M.ba M.bs.length M.bc, .slice M.o.a M.o.l.length M.o.c]
structure Mkt.Ok (w : World) (M : Mkt) : Prop where
  r : M.r.Ok .i64 w
  b : InR .i64 w M.ba M.bc M.bs
  bn : M.ba = none → M.bc = 0
  o : M.o.Ok .i64 w
theorem Mkt.Ok.keep {w w' : World} {M : Mkt} (h : M.Ok w) (hk : Keep w w') : M.Ok w' := ⟨h.r.keep hk, h.b.keep hk, h.bn, h.o.keep hk⟩
theorem IsMarket.mkt {w : World} {v : Value} (h : IsMarket w v) : ∃ M : Mkt, v = M.val ∧ M.Ok w := by
  obtain ⟨v0, v1, v2, rfl, ⟨a0, c0, xs, rfl, hx, hx0⟩, ⟨a1, c1, ss, rfl, hs, hs0⟩, ⟨a2, c2, zs, rfl, hz, hz0⟩⟩ := h
  exact ⟨⟨⟨a0, c0, xs⟩, a1, c1, ss, ⟨a2, c2, zs⟩⟩, rfl, ⟨⟨hx, hx0⟩, hs, hs0, ⟨hz, hz0⟩⟩⟩
/-- The lists of the bids. -/
def bidsOf (ss : List Sl) : List (List Int) := ss.map (·.l)

/-- A bid that is one, and may not be. -/
def badB (n : Nat) (l : List Int) : Bool := decide (0 < l.length) && !chk l n
/-- markets.Check -/
def chkM (R : List Int) (B : List (List Int)) (O : List Int) : Bool := chk R R.length && decide (1 ≤ B.length) && decide (B.length ≤ 8) && ordB O B.length && !B.any (badB R.length)

set_option maxRecDepth 100000 in
set_option maxHeartbeats 2000000 in
theorem check1_f (B n : Nat) (s : Sl) (w : World) (hs : s.Ok .i64 w) (hn : (n : Int) ≤ 9223372036854775807) (hc : w.cell? ⟨B, 0, none⟩ = some (.int .i64 n)) :
    Calls Tryz.prog 130 #[.slice s.a s.l.length s.c, .pointer (some ⟨B, 0, none⟩)] w fun e w' => e = .returned (.bool (badB n s.l)) ∧ Keep w w' := by
  have la := hs.len.le
  have hck := check_f s.a s.c s.l n w hs.rd hs.len (WalkArith.wf_i64 (by omega))
  by_cases h0 : 0 < s.l.length
  · have hb : badB n s.l = !chk s.l n := by unfold badB; simp [h0]
    have h1 : (0 : Int) < s.l.length := by omega
    have HB := Lib.hid hb
    clear hb
    go_enter Tryz.func130, Tryz.ntmps130
    go_wp2_with fail
    refine hck.mono ?_
    rintro e w1 ⟨rfl, k1⟩
    go_wp2_with fail
    go_ret
    exact ⟨by rw [HB.out]; rfl, k1⟩
  · have hb : badB n s.l = false := by unfold badB; simp [h0]
    have h1 : (s.l.length = 0) = True := eq_true (by omega)
    have h2 : decide (0 < s.l.length) = false := decide_eq_false h0
    have HB := Lib.hid hb
    clear hb
    go_enter Tryz.func130, Tryz.ntmps130
    go_wp2_with fail
    go_ret
    exact ⟨by rw [HB.out]; rfl, Keep.refl _⟩

theorem anyB_take {p : List Int → Bool} {ss : List Sl} {k : Nat} {s : Sl} (h : (bidsOf (ss.take k)).any p = false) (hx : ss[k]? = some s) (hp : p s.l = false) : (bidsOf (ss.take (k + 1))).any p = false := by
  unfold bidsOf at h ⊢
  rw [List.take_add_one, hx, List.map_append, List.any_append, h]
  simp [hp]
theorem anyB_at {p : List Int → Bool} {ss : List Sl} {k : Nat} {s : Sl} (hx : ss[k]? = some s) (hp : p s.l = true) : (bidsOf ss).any p = true :=
  List.any_eq_true.2 ⟨s.l, List.mem_map.2 ⟨s, List.mem_of_getElem? hx, rfl⟩, hp⟩

set_option maxRecDepth 100000 in
set_option maxHeartbeats 2000000 in
theorem indexM_f (A : Option Addr) (c B n : Nat) (ss : List Sl) (w : World) (ha : InR .i64 w A c ss) (hn : (n : Int) ≤ 9223372036854775807) (hc : w.cell? ⟨B, 0, none⟩ = some (.int .i64 n)) :
    Calls Tryz.prog 141 #[.slice A ss.length c, .func (.func 130) #[] #[.pointer (some ⟨B, 0, none⟩)]] w fun e w' => (∃ m : Int, e = .returned (.int .i64 m) ∧ decide (0 ≤ m) = (bidsOf ss).any (badB n)) ∧ Keep w w' := by
  have la' := ha.len.le
  go_enter Tryz.func141, Tryz.ntmps141
  go_wp2_with fail
  go_loopw [8] (fun i wr => ∃ k : Nat, k ≤ ss.length ∧ i = .int .i64 k ∧ (bidsOf (ss.take k)).any (badB n) = false ∧ Keep w wr) (fun i _ => ss.length - (intOf i).toNat)
  case atStart => exact ⟨0, Nat.zero_le _, rfl, rfl, Keep.refl _⟩
  case round =>
    obtain ⟨k, hk, rfl, han, hkeep⟩ := hrel
    have HN := Lib.hid han
    clear han
    by_cases hlt : k < ss.length
    · obtain ⟨b1, o1, s, rfl, hx, hc1, hs⟩ := (ha.keep hkeep).at_ hlt
      have HX := Lib.hid hx
      clear hx
      have hq := check1_f B n s wr hs hn (hkeep.cell hc)
      cases hb : badB n s.l with
      | true =>
        rw [hb] at hq
        have HB := Lib.hid hb
        clear hb
        go_wp2_with fail
        refine hq.mono ?_
        rintro e w1 ⟨rfl, k1⟩
        go_wp2_with fail
        go_ret
        exact ⟨⟨k, rfl, by rw [anyB_at HX.out HB.out]; simp⟩, hkeep.trans k1⟩
      | false =>
        rw [hb] at hq
        have HB := Lib.hid hb
        clear hb
        go_wp2_with fail
        refine hq.mono ?_
        rintro e w1 ⟨rfl, k1⟩
        go_wp2_with fail
        go_roundw
        case rel => exact ⟨k + 1, by omega, by go_num, anyB_take HN.out HX.out HB.out, hkeep.trans k1⟩
        case measure => simp [intOf]; omega
    · obtain rfl : k = ss.length := by omega
      go_wp2_with fail
      go_ret
      exact ⟨⟨-1, rfl, by have := HN.out; rw [List.take_length] at this; rw [this]; rfl⟩, hkeep⟩

set_option maxRecDepth 100000 in
theorem containsM_f (A : Option Addr) (c B n : Nat) (ss : List Sl) (w : World) (ha : InR .i64 w A c ss) (hn : (n : Int) ≤ 9223372036854775807) (hc : w.cell? ⟨B, 0, none⟩ = some (.int .i64 n)) :
    Calls Tryz.prog 129 #[.slice A ss.length c, .func (.func 130) #[] #[.pointer (some ⟨B, 0, none⟩)]] w fun e w' => e = .returned (.bool ((bidsOf ss).any (badB n))) ∧ Keep w w' := by
  go_enter Tryz.func129, Tryz.ntmps129
  go_wp2_with fail
  refine (indexM_f A c B n ss w ha hn hc).mono ?_
  rintro e w1 ⟨⟨m, rfl, hm⟩, k1⟩
  have HM := Lib.hid hm
  clear hm
  go_wp2_with fail
  go_ret
  exact ⟨by rw [← HM.out]; rfl, k1⟩
end Go.Proofs.YtjaaganaohjmaaaGreatDoor
