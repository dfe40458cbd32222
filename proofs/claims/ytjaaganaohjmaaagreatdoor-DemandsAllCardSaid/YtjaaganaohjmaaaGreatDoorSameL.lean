/-
  CONTRACTS: the laws' SameIntLists, SameMarket: do two things read the same? Conditions: the slices are no longer than memory lets them be.
-/
import Derived.Test.YtjaaganaohjmaaaGreatDoorMktC
import Derived.BigQuiet
import Derived.Deep.QuietTactic
namespace Go.Proofs.YtjaaganaohjmaaaGreatDoor
open Go.RowKit

theorem quiet_says {P : Program} {f : FuncId} {args : Array Value} {w : World} {n : Nat} {b : Bool} (h : Calls P f args (w.drewN n) (Says (w.drewN n) b)) : Calls P f args (w.drewN n) fun e w'' => e = .returned (.bool b) ∧ ∃ m, w'' = w.drewN m :=
  h.mono fun _ _ ⟨he, m, hm⟩ => ⟨he, n + m, by rw [hm, World.drewN_drewN]⟩
theorem quiet_says2 {P : Program} {f : FuncId} {args : Array Value} {w : World} {a n : Nat} {b : Bool} (h : Calls P f args (w.drewN (a + n)) (Says (w.drewN (a + n)) b)) : Calls P f args (w.drewN (a + n)) fun e w'' => e = .returned (.bool b) ∧ ∃ m, w'' = w.drewN (a + m) :=
  h.mono fun _ _ ⟨he, m, hm⟩ => ⟨he, n + m, by rw [hm, World.drewN_drewN, Nat.add_assoc]⟩
theorem bids_take {ss ts : List Sl} {k : Nat} {s t : Sl} (h : bidsOf (ss.take k) = bidsOf (ts.take k)) (hs : ss[k]? = some s) (ht : ts[k]? = some t) (e : s.l = t.l) : bidsOf (ss.take (k + 1)) = bidsOf (ts.take (k + 1)) := by
  have e1 : ss.take (k + 1) = ss.take k ++ [s] := by rw [List.take_add_one, hs]; rfl
  have e2 : ts.take (k + 1) = ts.take k ++ [t] := by rw [List.take_add_one, ht]; rfl
  unfold bidsOf at h ⊢
  rw [e1, e2, List.map_append, List.map_append, h, List.map_cons, List.map_cons, e]
theorem bids_ne {ss ts : List Sl} {k : Nat} {s t : Sl} (hs : ss[k]? = some s) (ht : ts[k]? = some t) (e : s.l ≠ t.l) : bidsOf ss ≠ bidsOf ts := fun h => by
  have h1 : (bidsOf ss)[k]? = some s.l := by simp [bidsOf, hs]
  have h2 : (bidsOf ts)[k]? = some t.l := by simp [bidsOf, ht]
  rw [h, h2] at h1
  exact e (Option.some.inj h1).symm

/-- No list is longer than this. -/
def Short (ss : List Sl) : Prop := ∀ s ∈ ss, s.l.length ≤ 1000000
set_option maxRecDepth 100000 in
set_option maxHeartbeats 2000000 in
theorem sameLists (A B : Option Addr) (ca cb : Nat) (ss ts : List Sl) (w : World) (ha : InR .i64 w A ca ss) (hb : InR .i64 w B cb ts) (la : Short ss) (lb : Short ts) :
    Calls Tryz.prog 33 #[.slice A ss.length ca, .slice B ts.length cb] w (Says w (decide (bidsOf ss = bidsOf ts))) := by
  have la' := ha.len.le
  have lb' := hb.len.le
  have LA := Lib.hid la
  have LB := Lib.hid lb
  clear la lb
  by_cases hlen : ss.length = ts.length
  · have hlenB : ((ss.length : Int) != (ts.length : Int)) = false := by simp [hlen]
    have HL := Lib.hid hlen
    clear hlen
    go_enter Tryz.func33, Tryz.ntmps33
    go_wp2_with fail
    go_loopw [5] (fun i wr => ∃ k : Nat, k ≤ ss.length ∧ i = .int .i64 k ∧ bidsOf (ss.take k) = bidsOf (ts.take k) ∧ ∃ n, wr = w.drewN n) (fun i _ => ss.length - (intOf i).toNat)
    case atStart => exact ⟨0, Nat.zero_le _, rfl, rfl, 0, rfl⟩
    case round =>
      obtain ⟨k, hk, rfl, htk, n, rfl⟩ := hrel
      have HT := Lib.hid htk
      clear htk
      by_cases hlt : k < ss.length
      · have hlt2 : k < ts.length := by have := HL.out; omega
        obtain ⟨b1, o1, s, hA, hsk, hc1, hs⟩ := ha.at_ hlt
        obtain ⟨b2, o2, t, hB, htk, hc2, ht⟩ := hb.at_ hlt2
        have ls := LA.out s (List.mem_of_getElem? hsk)
        have lt := LB.out t (List.mem_of_getElem? htk)
        have hq := fun m => sameInts s.a t.a s.c t.c s.l t.l (w.drewN m) (hs.rd.keep ((Keep.refl w).drewN m)) (ht.rd.keep ((Keep.refl w).drewN m)) (by unfold Reach; omega) (by unfold Reach; omega)
        have HS := Lib.hid hsk
        have HTK := Lib.hid htk
        subst hA
        subst hB
        clear hsk htk
        by_cases he : s.l = t.l
        · simp only [decide_eq_true he] at hq
          have HE := Lib.hid he
          clear he
          go_wp2_with fail
          go_quiet ((go_at_call 87; first | exact quiet_says2 (hq _) | exact quiet_says (hq _)))
          go_wp2_with fail
          go_roundw
          case rel => exact ⟨k + 1, by omega, by go_num, bids_take HT.out HS.out HTK.out HE.out, _, rfl⟩
          case measure => simp [intOf]; omega
        · simp only [decide_eq_false he] at hq
          have HE := Lib.hid he
          clear he
          go_wp2_with fail
          go_quiet ((go_at_call 87; first | exact quiet_says2 (hq _) | exact quiet_says (hq _)))
          go_wp2_with fail
          go_ret
          exact Says.of (n + nq) (by rw [World.drewN_drewN]) (decide_eq_false (bids_ne HS.out HTK.out HE.out)).symm
      · go_wp2_with fail
        go_ret
        refine Says.of n rfl ?_
        have h1 := HT.out
        have h2 := HL.out
        rw [List.take_of_length_le (by omega), List.take_of_length_le (by omega)] at h1
        exact (decide_eq_true h1).symm
  · have hlenB : ((ss.length : Int) != (ts.length : Int)) = true := by simp; omega
    have HL := Lib.hid hlen
    clear hlen
    go_enter Tryz.func33, Tryz.ntmps33
    go_wp2_with fail
    go_ret
    refine Says.of 0 rfl (decide_eq_false (fun h => HL.out ?_)).symm
    have := congrArg List.length h
    simpa [bidsOf] using this

/-- A market whose lists are short. -/
structure Mkt.Few (M : Mkt) : Prop where
  r : M.r.l.length ≤ 1000000
  b : Short M.bs
  o : M.o.l.length ≤ 1000000
/-- Do two markets read the same? -/
def sameM (M N : Mkt) : Bool := decide (M.r.l = N.r.l) && decide (bidsOf M.bs = bidsOf N.bs) && decide (M.o.l = N.o.l)
end Go.Proofs.YtjaaganaohjmaaaGreatDoor
