/-
  SEVERAL TEXTS IN ONE (merged by a program of mine: a claim has at most 60 files). WORDS for the package markets: Put's bytes. Plain theorems. Conditions: those that each theorem states. CONTRACTS: the laws' SameIntLists, SameMarket: do two things read the same? Conditions: the slices are no longer than memory lets them be. WORDS on memory and markets: whole rows; a market that is the call's own. Plain theorems. Conditions: those that each theorem states. CONTRACTS for the package markets: the functions inside Get. Conditions: the cells that they captured are blocks of their own, the bytes read as a list. CONTRACTS for the package markets: the count of the bids inside Get. Conditions: the cells that it captured are blocks of their own, the bytes read as a list. CONTRACTS for the package markets: the bids inside Get. Conditions: the cells that it captured are blocks of their own, the bytes read as a list. CONTRACTS for the package markets: the four parts of Get, one after the other, on states that are laid here. Conditions: the bytes read as a list. CONTRACT for the package markets: Get. Conditions: the slice is no longer than memory lets it be. CONTRACTS of the document's answer of chapter 1: Get, GetList, GetBytes. Conditions: the slices are no longer than memory lets them be. CONTRACTS of GetList, GetBytes and the document's answers in one word each, whether the bytes are too few or not. Conditions: the slices are no longer than memory lets them be. CONTRACTS of the document's answers: chapter 4's Check, chapter 12's Prices and Of. Conditions: the slices are no longer than memory lets them be. CONTRACT of the document's answer of chapter 5: Check. Conditions: the slices of the market read as lists, and are no longer than memory lets them be. CONTRACT of the document's answer of chapter 5: Get. Conditions: the slice is no longer than memory lets it be.
-/
import Derived.Test.YtafiahnaeakcfaaDoorMktD
import Derived.Test.YtafiahnaeakcfaaDoorDemF
import Derived.Test.YtafiahnaeakcfaaDoorMktC
import Derived.BigQuiet
import Derived.Deep.QuietTactic
import Derived.Test.YtafiahnaeakcfaaDoorBut
import Derived.Test.YtafiahnaeakcfaaDoorOwnAll
import Derived.Test.YtafiahnaeakcfaaDoorNumF
import Derived.Test.YtafiahnaeakcfaaDoorNumD
import Derived.Deep.CutRange
import Derived.Deep.RegionHeld3
import Derived.LoopN
import Derived.Laws.EntriesVeiled
import Derived.Test.YtafiahnaeakcfaaDoorRefA
import Derived.IntWalk
import Derived.Test.YtafiahnaeakcfaaDoorDemP

namespace Go.Proofs.YtafiahnaeakcfaaDoor
open Go.RowKit

/-- markets.Put's bytes. -/
def putM (R : List Int) (B : List (List Int)) (O : List Int) : List Int := putL (R.take 255) ++ le B.length 1 ++ (B.flatMap fun b => putL (b.take 255)) ++ putL (O.take 255)
/-- .. when k bids are put. -/
def putMk (R : List Int) (ss : List Sl) (k : Nat) : List Int := putL (R.take 255) ++ le ss.length 1 ++ ((bidsOf (ss.take k)).flatMap fun b => putL (b.take 255))
theorem putMk_succ {R : List Int} {ss : List Sl} {k : Nat} {s : Sl} (h : ss[k]? = some s) : putMk R ss k ++ putL (s.l.take 255) = putMk R ss (k + 1) := by
  unfold putMk bidsOf
  have e : ss.take (k + 1) = ss.take k ++ [s] := by rw [List.take_add_one, h]; rfl
  rw [e, List.map_append, List.flatMap_append, ← List.append_assoc]
  simp
theorem putMk_all (R : List Int) (ss : List Sl) (O : List Int) : putMk R ss ss.length ++ putL (O.take 255) = putM R (bidsOf ss) O := by
  unfold putMk putM
  rw [List.take_length, length_bids]
theorem length_flatB (ss : List Sl) : ((bidsOf ss).flatMap fun b => putL (b.take 255)).length ≤ 1021 * ss.length := by
  induction ss with
  | nil => simp [bidsOf]
  | cons s ss ih =>
    have : bidsOf (s :: ss) = s.l :: bidsOf ss := rfl
    rw [this, List.flatMap_cons, List.length_append, length_putL, List.length_take, List.length_cons]
    omega
theorem length_putMk (R : List Int) (ss : List Sl) (k : Nat) : (putMk R ss k).length ≤ 1022 + 1021 * k := by
  have h := length_flatB (ss.take k)
  rw [List.length_take] at h
  have h2 : 1021 * min k ss.length ≤ 1021 * k := Nat.mul_le_mul_left _ (Nat.min_le_left _ _)
  unfold putMk
  rw [List.length_append, List.length_append, length_putL, List.length_take, length_le]
  omega
theorem chkM_facts {R : List Int} {B : List (List Int)} {O : List Int} (h : chkM R B O = true) : 1 ≤ R.length ∧ R.length ≤ 8 ∧ 1 ≤ B.length ∧ B.length ≤ 8 := by
  unfold chkM at h
  simp only [Bool.and_eq_true, decide_eq_true_eq] at h
  obtain ⟨⟨⟨⟨h1, h2⟩, h3⟩, _⟩, _⟩ := h
  unfold chk at h1
  simp only [Bool.and_eq_true, decide_eq_true_eq] at h1
  omega

theorem u64_wrap8 {n : Nat} (h : n ≤ 8) : IntKind.u64.wrap (n : Int) = n := by
  simp [IntKind.wrap, IntKind.signed, IntKind.bits]
  omega
/-- What is known of the bids of a market that may be. -/
theorem chkM_bids {R : List Int} {B : List (List Int)} {O : List Int} (h : chkM R B O = true) : (∀ x ∈ R, 0 ≤ x ∧ x ≤ 1000000) ∧ ∀ b ∈ B, b.length = 0 ∨ (b.length = R.length ∧ ∀ x ∈ b, 0 ≤ x ∧ x ≤ 1000000) := by
  unfold chkM at h
  simp only [Bool.and_eq_true] at h
  obtain ⟨⟨⟨⟨h1, _⟩, _⟩, _⟩, h5⟩ := h
  refine ⟨(chk_facts h1).2, fun b hb => ?_⟩
  rw [Bool.not_eq_true', List.any_eq_false] at h5
  have := h5 b hb
  unfold badB at this
  by_cases h0 : b.length = 0
  · exact .inl h0
  · right
    have hc : chk b R.length = true := by
      cases hc : chk b R.length with
      | true => rfl
      | false => exact absurd (by simp [hc]; omega) this
    exact chk_facts hc
end Go.Proofs.YtafiahnaeakcfaaDoor

namespace Go.Proofs.YtafiahnaeakcfaaDoor
open Go.RowKit

theorem quiet_says {P : Program} {f : FuncId} {args : Array Value} {w : World} {n : Nat} {b : Bool} (h : Calls P f args (w.drewN n) (Says (w.drewN n) b)) : Calls P f args (w.drewN n) fun e w'' => e = .returned (.bool b) ∧ ∃ m, w'' = w.drewN m :=
  h.mono fun _ _ ⟨he, m, hm⟩ => ⟨he, n + m, by rw [hm, World.drewN_drewN]⟩
theorem quiet_says2 {P : Program} {f : FuncId} {args : Array Value} {w : World} {a n : Nat} {b : Bool} (h : Calls P f args (w.drewN (a + n)) (Says (w.drewN (a + n)) b)) : Calls P f args (w.drewN (a + n)) fun e w'' => e = .returned (.bool b) ∧ ∃ m, w'' = w.drewN (a + m) :=
  h.mono fun _ _ ⟨he, m, hm⟩ => ⟨he, n + m, by rw [hm, World.drewN_drewN, Nat.add_assoc]⟩
theorem bids_take {ss ts : List Sl} {k : Nat} {s t : Sl} (h : bidsOf (ss.take k) = bidsOf (ts.take k)) (hs : ss[k]? = some s) (ht : ts[k]? = some t) (e : s.l = t.l) : bidsOf (ss.take (k + 1)) = bidsOf (ts.take (k + 1)) := by
  have e1 : ss.take (k + 1) = ss.take k ++ [s] := by rw [List.take_add_one, hs]; rfl
  have e2 : ts.take (k + 1) = ts.take k ++ [t] := by rw [List.take_add_one, ht]; rfl
  unfold bidsOf at h ⊢
  rw [e1, e2, List.map_append, List.map_append, h, List.map_cons, List.map_cons, e]
theorem bids_ne {ss ts : List Sl} {k : Nat} {s t : Sl} (hs : ss[k]? = some s) (ht : ts[k]? = some t) (e : s.l ≠ t.l) : bidsOf ss ≠ bidsOf ts := fun h => by
  have h1 : (bidsOf ss)[k]? = some s.l := by simp [bidsOf, hs]
  have h2 : (bidsOf ts)[k]? = some t.l := by simp [bidsOf, ht]
  rw [h, h2] at h1
  exact e (Option.some.inj h1).symm

/-- No list is longer than this. -/
def Short (ss : List Sl) : Prop := ∀ s ∈ ss, s.l.length ≤ 1000000
set_option maxRecDepth 100000 in
set_option maxHeartbeats 2000000 in
theorem sameLists (A B : Option Addr) (ca cb : Nat) (ss ts : List Sl) (w : World) (ha : InR .i64 w A ca ss) (hb : InR .i64 w B cb ts) (la : Short ss) (lb : Short ts) :
    Calls Tryd.prog 86 #[.slice A ss.length ca, .slice B ts.length cb] w (Says w (decide (bidsOf ss = bidsOf ts))) := by
  have la' := ha.len.le
  have lb' := hb.len.le
  have LA := Lib.hid la
  have LB := Lib.hid lb
  clear la lb
  by_cases hlen : ss.length = ts.length
  · have hlenB : ((ss.length : Int) != (ts.length : Int)) = false := by simp [hlen]
    have HL := Lib.hid hlen
    clear hlen
    go_enter Tryd.func86, Tryd.ntmps86
    go_wp2_with fail
    go_loopw [5] (fun i wr => ∃ k : Nat, k ≤ ss.length ∧ i = .int .i64 k ∧ bidsOf (ss.take k) = bidsOf (ts.take k) ∧ ∃ n, wr = w.drewN n) (fun i _ => ss.length - (intOf i).toNat)
    case atStart => exact ⟨0, Nat.zero_le _, rfl, rfl, 0, rfl⟩
    case round =>
      obtain ⟨k, hk, rfl, htk, n, rfl⟩ := hrel
      have HT := Lib.hid htk
      clear htk
      by_cases hlt : k < ss.length
      · have hlt2 : k < ts.length := by have := HL.out; omega
        obtain ⟨b1, o1, s, hA, hsk, hc1, hs⟩ := ha.at_ hlt
        obtain ⟨b2, o2, t, hB, htk, hc2, ht⟩ := hb.at_ hlt2
        have ls := LA.out s (List.mem_of_getElem? hsk)
        have lt := LB.out t (List.mem_of_getElem? htk)
        have hq := fun m => sameInts s.a t.a s.c t.c s.l t.l (w.drewN m) (hs.rd.keep ((Keep.refl w).drewN m)) (ht.rd.keep ((Keep.refl w).drewN m)) (by unfold Reach; omega) (by unfold Reach; omega)
        have HS := Lib.hid hsk
        have HTK := Lib.hid htk
        subst hA
        subst hB
        clear hsk htk
        by_cases he : s.l = t.l
        · simp only [decide_eq_true he] at hq
          have HE := Lib.hid he
          clear he
          go_wp2_with fail
          go_quiet ((go_at_call 28; first | exact quiet_says2 (hq _) | exact quiet_says (hq _)))
          go_wp2_with fail
          go_roundw
          case rel => exact ⟨k + 1, by omega, by go_num, bids_take HT.out HS.out HTK.out HE.out, _, rfl⟩
          case measure => simp [intOf]; omega
        · simp only [decide_eq_false he] at hq
          have HE := Lib.hid he
          clear he
          go_wp2_with fail
          go_quiet ((go_at_call 28; first | exact quiet_says2 (hq _) | exact quiet_says (hq _)))
          go_wp2_with fail
          go_ret
          exact Says.of (n + nq) (by rw [World.drewN_drewN]) (decide_eq_false (bids_ne HS.out HTK.out HE.out)).symm
      · go_wp2_with fail
        go_ret
        refine Says.of n rfl ?_
        have h1 := HT.out
        have h2 := HL.out
        rw [List.take_of_length_le (by omega), List.take_of_length_le (by omega)] at h1
        exact (decide_eq_true h1).symm
  · have hlenB : ((ss.length : Int) != (ts.length : Int)) = true := by simp; omega
    have HL := Lib.hid hlen
    clear hlen
    go_enter Tryd.func86, Tryd.ntmps86
    go_wp2_with fail
    go_ret
    refine Says.of 0 rfl (decide_eq_false (fun h => HL.out ?_)).symm
    have := congrArg List.length h
    simpa [bidsOf] using this

/-- A market whose lists are short. -/
structure Mkt.Few (M : Mkt) : Prop where
  r : M.r.l.length ≤ 1000000
  b : Short M.bs
  o : M.o.l.length ≤ 1000000
/-- Do two markets read the same? -/
def sameM (M N : Mkt) : Bool := decide (M.r.l = N.r.l) && decide (bidsOf M.bs = bidsOf N.bs) && decide (M.o.l = N.o.l)

set_option maxRecDepth 100000 in
set_option maxHeartbeats 2000000 in
theorem sameMarket_f (M N : Mkt) (w : World) (hM : M.Ok w) (hN : N.Ok w) (fM : M.Few) (fN : N.Few) :
    Calls Tryd.prog 39 #[M.val, N.val] w fun e w' => e = .returned (.bool (sameM M N)) ∧ Keep w w' := by
  have h1 := fun w' (k : Keep w w') => saysK (sameInts M.r.a N.r.a M.r.c N.r.c M.r.l N.r.l w' (hM.keep k).r.rd (hN.keep k).r.rd (by have := fM.r; unfold Reach; omega) (by have := fN.r; unfold Reach; omega))
  have h2 := fun w' (k : Keep w w') => saysK (sameLists M.ba N.ba M.bc N.bc M.bs N.bs w' (hM.keep k).b (hN.keep k).b fM.b fN.b)
  have h3 := fun w' (k : Keep w w') => saysK (sameInts M.o.a N.o.a M.o.c N.o.c M.o.l N.o.l w' (hM.keep k).o.rd (hN.keep k).o.rd (by have := fM.o; unfold Reach; omega) (by have := fN.o; unfold Reach; omega))
  unfold Mkt.val sameM
  have kb : Keep w ((w.alloc (.cells #[.slice M.r.a M.r.l.length M.r.c, .slice M.ba M.bs.length M.bc, .slice M.o.a M.o.l.length M.o.c] 66)).alloc (.cells #[.slice N.r.a N.r.l.length N.r.c, .slice N.ba N.bs.length N.bc, .slice N.o.a N.o.l.length N.o.c] 66)) := (Keep.alloc1 _ _).trans (Keep.alloc1 _ _)
  cases e1 : decide (M.r.l = N.r.l) with
  | false =>
    rw [e1] at h1
    clear e1
    go_enter Tryd.func39, Tryd.ntmps39
    go_wp2_with fail
    refine (h1 _ kb).mono ?_
    rintro e w1 ⟨rfl, k1⟩
    go_wp2_with fail
    go_ret
    exact ⟨rfl, kb.trans k1⟩
  | true =>
    rw [e1] at h1
    clear e1
    cases e2 : decide (bidsOf M.bs = bidsOf N.bs) with
    | false =>
      rw [e2] at h2
      clear e2
      go_enter Tryd.func39, Tryd.ntmps39
      go_wp2_with fail
      refine (h1 _ kb).mono ?_
      rintro e w1 ⟨rfl, k1⟩
      have c1 : w1.cell? ⟨w.heap.size, 1, none⟩ = some (.slice M.ba M.bs.length M.bc) := k1.cell (by simp)
      have c2 : w1.cell? ⟨w.heap.size + 1, 1, none⟩ = some (.slice N.ba N.bs.length N.bc) := k1.cell (by simp)
      go_wp2_with fail
      refine (h2 _ (kb.trans k1)).mono ?_
      rintro e w2 ⟨rfl, k2⟩
      go_wp2_with fail
      go_ret
      exact ⟨rfl, (kb.trans k1).trans k2⟩
    | true =>
      rw [e2] at h2
      clear e2
      go_enter Tryd.func39, Tryd.ntmps39
      go_wp2_with fail
      refine (h1 _ kb).mono ?_
      rintro e w1 ⟨rfl, k1⟩
      have c1 : w1.cell? ⟨w.heap.size, 1, none⟩ = some (.slice M.ba M.bs.length M.bc) := k1.cell (by simp)
      have c2 : w1.cell? ⟨w.heap.size + 1, 1, none⟩ = some (.slice N.ba N.bs.length N.bc) := k1.cell (by simp)
      have c3 : w1.cell? ⟨w.heap.size, 2, none⟩ = some (.slice M.o.a M.o.l.length M.o.c) := k1.cell (by simp)
      have c4 : w1.cell? ⟨w.heap.size + 1, 2, none⟩ = some (.slice N.o.a N.o.l.length N.o.c) := k1.cell (by simp)
      go_wp2_with fail
      refine (h2 _ (kb.trans k1)).mono ?_
      rintro e w2 ⟨rfl, k2⟩
      have c5 := k2.cell c3
      have c6 := k2.cell c4
      go_wp2_with fail
      refine (h3 _ ((kb.trans k1).trans k2)).mono ?_
      rintro e w3 ⟨rfl, k3⟩
      go_wp2_with fail
      go_ret
      exact ⟨by rw [Bool.true_and, Bool.true_and]; rfl, ((kb.trans k1).trans k2).trans k3⟩
end Go.Proofs.YtafiahnaeakcfaaDoor

namespace Go.Proofs.YtafiahnaeakcfaaDoor
open Go.RowKit

theorem len_max {n : Nat} (h : n ≤ maxLen) : Len n := by
  unfold maxLen at h
  unfold Len
  omega
theorem Blk.row {w : World} {g : Nat} {t : TypeId} {l : List Value} (h : Blk w g t l) (cs : Array Value) : Blk (w.setRow g cs) g t cs.toList := by
  unfold Blk
  rw [setRow_heap w g _ cs t (0, 0) h]
theorem only_row (w : World) (g : Nat) (cs : Array Value) : w.grownBy (w.setRow g cs) (some g) :=
  ⟨rfl, rfl, rfl, by rw [setRow_size]; exact Nat.le_refl _, fun i hi hne => by
    unfold World.setRow
    simp only
    rw [Array.getElem?_modify, if_neg (fun e => hne (by rw [e]))]⟩

theorem Blk.ne {w : World} {g g' : Nat} {t t' : TypeId} {l l' : List Value} (h : Blk w g t l) (h' : Blk w g' t' l') (ht : t ≠ t') : g ≠ g' := by
  rintro rfl
  unfold Blk at h h'
  rw [h] at h'
  injection h' with h'
  injection h' with _ h'
  exact ht h'
theorem row_leaf {w1 v : World} {gO gB r o : Nat} {A1 A2 : Option Addr} {l B R O : List Value} (go : w1.heap.size ≤ gO) (bO : Blk v gO 66 l) (bB : Blk v gB 23 B)
    (fR : Fr 3 v w1.heap.size A1 r r R) (fO : Fr 3 v w1.heap.size A2 o o O) (kk : Keep w1 v) (cs : Array Value) :
    Blk (v.setRow gO cs) gO 66 cs.toList ∧ Blk (v.setRow gO cs) gB 23 B ∧ Fr 3 (v.setRow gO cs) w1.heap.size A1 r r R ∧ Fr 3 (v.setRow gO cs) w1.heap.size A2 o o O ∧ Keep w1 (v.setRow gO cs) := by
  have hg := only_row v gO cs
  have h1 : 3 ≠ 66 := by decide
  refine ⟨bO.row cs, bB.grown hg (fun e => ?_), fR.grown hg (fun k hk e => ?_), fO.grown hg (fun k hk e => ?_), kk.grown hg (fun k e => ?_)⟩
  · injection e with e
    exact bB.ne bO (by decide) e
  · injection e with e
    exact fR.own_ne bO h1 k hk e
  · injection e with e
    exact fO.own_ne bO h1 k hk e
  · injection e with e
    omega

theorem ordB_len {l : List Int} {m : Nat} (h : ordB l m = true) : l.length = m := by
  unfold ordB at h
  simp only [Bool.and_eq_true, List.all_eq_true, decide_eq_true_eq] at h
  obtain ⟨h1, h2⟩ := h
  have hn : ((List.range m).map (fun i : Nat => (i : Int))).Nodup := by
    rw [List.nodup_iff_pairwise_ne, List.pairwise_map]
    exact List.Pairwise.imp (fun h e => h (by omega)) (List.nodup_iff_pairwise_ne.1 List.nodup_range)
  have hp : l.Perm ((List.range m).map (fun i : Nat => (i : Int))) := by
    rw [List.perm_iff_count]
    intro a
    rw [hn.count]
    by_cases ha : 0 ≤ a ∧ a < m
    · rw [if_pos (List.mem_map.2 ⟨a.toNat, List.mem_range.2 (by omega), by omega⟩)]
      have := h2 a.toNat (by omega)
      rwa [show ((a.toNat : Nat) : Int) = a by omega] at this
    · rw [if_neg (fun h => by
        obtain ⟨i, hi, rfl⟩ := List.mem_map.1 h
        rw [List.mem_range] at hi
        omega)]
      exact List.count_eq_zero_of_not_mem (fun h => ha (h1 a h))
  have := hp.length_eq
  simpa using this
theorem chkM_few {M : Mkt} (h : chkM M.r.l (bidsOf M.bs) M.o.l = true) : M.Few := by
  obtain ⟨m1, m2, m3, m4⟩ := chkM_facts h
  obtain ⟨_, pb⟩ := chkM_bids h
  have ho : ordB M.o.l (bidsOf M.bs).length = true := by
    unfold chkM at h
    simp only [Bool.and_eq_true] at h
    exact h.1.2
  refine ⟨by omega, fun s hs => ?_, by rw [ordB_len ho]; omega⟩
  rcases pb s.l (List.mem_map.2 ⟨s, hs, rfl⟩) with h0 | h0 <;> omega
/-- A market that is the call's own. -/
structure Mkt.Own (base : Nat) (w : World) (N : Mkt) : Prop where
  r : Fr 3 w base N.r.a N.r.l.length N.r.c (cs .i64 N.r.l)
  g : ∃ gB, N.ba = some ⟨gB, 0, none⟩ ∧ base ≤ gB ∧ Blk w gB 23 (N.bs.map Sl.val)
  c : N.bc = N.bs.length
  b : ∀ s ∈ N.bs, Fr 3 w base s.a s.l.length s.c (cs .i64 s.l)
  o : Fr 3 w base N.o.a N.o.l.length N.o.c (cs .i64 N.o.l)
end Go.Proofs.YtafiahnaeakcfaaDoor

namespace Go.Proofs.YtafiahnaeakcfaaDoor
open Go.RowKit

abbrev ptr (g i : Nat) : Value := .pointer (some ⟨g, i, none⟩)
/-- The bytes that are left, in block gb: they lie in memory that was there at w0. -/
def Left (w0 w : World) (gb : Nat) (xs : List Int) : Prop :=
  ∃ A c, Blk w gb 22 [.slice A xs.length c] ∧ Rd w0 A (cs .u8 xs) ∧ Bytes xs ∧ xs.length ≤ c ∧ Len c
/-- What the reader of a list leaves, at cell i of the row L in block g. -/
def ReadP (xs : List Int) (gb ge g i : Nat) (tg : TypeId) (L : List Value) (w0 w : World) (e : Ending) (w' : World) : Prop :=
  e = .returned (.tuple #[]) ∧ But (fun k => k = gb ∨ k = ge ∨ k = g) w w' ∧
  match getL xs with
  | none => Blk w' g tg (L.set i (.slice none 0 0)) ∧ Left w0 w' gb xs ∧ Blk w' ge 49 [.int .i64 5]
  | some zs => ∃ A', Blk w' g tg (L.set i (.slice A' zs.length zs.length)) ∧ Fr 3 w' w.heap.size A' zs.length zs.length (cs .i64 zs) ∧ Blk w' ge 49 [.int .i64 0] ∧ Left w0 w' gb (xs.drop (1 + 4 * zs.length))

theorem Left.cut {w0 w : World} {gb : Nat} {A A' : Option Addr} {c c' k n' : Nat} {xs : List Int} (bb : Blk w gb 22 [.slice A xs.length c]) (rd : Rd w0 A (cs .u8 xs)) (hB : Bytes xs) (hc : xs.length ≤ c) (lc : Len c)
    (hA : c ≠ k → A' = A.map (·.add k)) (hk : c' = c - k) (hn : n' = xs.length - k) : Left w0 (w.setCell ⟨gb, 0, none⟩ (.slice A' n' c')) gb (xs.drop k) := by
  subst hk hn
  have h := bb.set_ 0 (.slice A' (xs.length - k) (c - k))
  refine ⟨A', c - k, by rw [List.length_drop]; exact h, ?_, hB.drop k, by rw [List.length_drop]; omega, by unfold Len at lc ⊢; omega⟩
  rw [← cs_drop]
  exact rd.drop (cap := c) (by rw [length_cs]; exact hc) A' hA
theorem getL_len {xs zs : List Int} (h : getL xs = some zs) : 1 + 4 * zs.length ≤ xs.length := by
  unfold getL at h
  split at h
  · cases h
  · injection h with h
    subst h
    simp only [List.length_map, List.length_range]
    omega

set_option maxRecDepth 100000 in
set_option maxHeartbeats 2000000 in
theorem reader_no (w : World) (v : Value) (gb ge : Nat) (ec : Int) (he : Blk w ge 49 [.int .i64 ec]) (h0 : (ec == 0) = false) :
    Calls Tryd.prog 79 #[v, ptr ge 0, ptr gb 0] w fun e w' => e = .returned (.tuple #[]) ∧ Keep w w' := by
  have c0 := he.cell_ (i := 0) rfl
  go_enter Tryd.func79, Tryd.ntmps79
  go_wp2_with fail
  go_end0
  exact ⟨rfl, Keep.refl _⟩

set_option maxRecDepth 100000 in
set_option maxHeartbeats 4000000 in
theorem reader_f (xs : List Int) (gb ge g i : Nat) (tg : TypeId) (L : List Value) (w0 w : World) (k0 : Keep w0 w) (h1 : gb ≠ ge) (h2 : g ≠ gb) (h3 : g ≠ ge) (hi : i < L.length)
    (hb : Left w0 w gb xs) (he : Blk w ge 49 [.int .i64 0]) (hg : Blk w g tg L) :
    Calls Tryd.prog 79 #[ptr g i, ptr ge 0, ptr gb 0] w (ReadP xs gb ge g i tg L w0 w) := by
  obtain ⟨A, c, bb, rd, hB, hc, lc⟩ := hb
  have c0 := he.cell_ (i := 0) rfl
  have c1 := bb.cell_ (i := 0) rfl
  have hgl := fun w1 (k1 : Keep w w1) => getList_f A c xs w1 ((rd.keep k0).keep k1) hB hc lc
  go_enter Tryd.func79, Tryd.ntmps79
  go_wp2_with fail
  refine (hgl _ (Keep.refl _)).mono ?_
  intro e w1 hp
  unfold GetLP at hp
  cases hgx : getL xs with
  | none =>
    rw [hgx] at hp
    obtain ⟨rfl, k1⟩ := hp
    have b1 := bb.keep k1
    have e1 := he.keep k1
    have g1 := hg.keep k1
    have cb := b1.cell_ (i := 0) rfl
    have ce := e1.cell_ (i := 0) rfl
    have cg := g1.cell_ (List.getElem?_eq_getElem hi)
    have fe := e1.frozen 0
    have fb := b1.frozen 0
    have fg := g1.frozen i
    have HG := Lib.hid hgx
    clear hgx
    go_upto_region 3 with fail
    have g2 := (g1.set_ i (.slice none 0 0)).far (p := ⟨ge, 0, none⟩) (Ne.symm h3) (.int .i64 5)
    have b2 := (b1.far (p := ⟨g, i, none⟩) h2 (.slice none 0 0)).far (p := ⟨ge, 0, none⟩) (Ne.symm h1) (.int .i64 5)
    have e2 := (e1.far (p := ⟨g, i, none⟩) h3 (.slice none 0 0)).set_ 0 (.int .i64 5)
    have t2 : But (fun k => k = gb ∨ k = ge ∨ k = g) w ((w1.setCell ⟨g, i, none⟩ (.slice none 0 0)).setCell ⟨ge, 0, none⟩ (.int .i64 5)) := ((But.keep k1 _).setCell (.inr (.inr rfl)) _).setCell (.inr (.inl rfl)) _
    generalize (w1.setCell ⟨g, i, none⟩ (.slice none 0 0)).setCell ⟨ge, 0, none⟩ (.int .i64 5) = w2 at g2 b2 e2 t2 ⊢
    clear cb ce cg fe fb fg c0 c1 hgl
    have cb := b2.cell_ (i := 0) rfl
    have fb := b2.frozen 0
    go_wp2_with fail
    go_end0
    unfold ReadP
    rw [HG.out]
    refine ⟨rfl, t2.setCell (.inl rfl) _, g2.far h2.symm _, ?_, e2.far h1 _⟩
    exact Left.cut (k := 0) b2 rd hB hc lc (fun _ => by cases A <;> simp [Addr.add]) rfl rfl
  | some zs =>
    rw [hgx] at hp
    have hle := getL_len hgx
    obtain ⟨A', rfl, hf, k1⟩ := hp
    have b1 := bb.keep k1
    have e1 := he.keep k1
    have g1 := hg.keep k1
    have cb := b1.cell_ (i := 0) rfl
    have ce := e1.cell_ (i := 0) rfl
    have cg := g1.cell_ (List.getElem?_eq_getElem hi)
    have fe := e1.frozen 0
    have fb := b1.frozen 0
    have fg := g1.frozen i
    have HG := Lib.hid hgx
    clear hgx
    go_upto_region 3 with fail
    have g2 := (g1.set_ i (.slice A' zs.length zs.length)).far (p := ⟨ge, 0, none⟩) (Ne.symm h3) (.int .i64 0)
    have b2 := (b1.far (p := ⟨g, i, none⟩) h2 (.slice A' zs.length zs.length)).far (p := ⟨ge, 0, none⟩) (Ne.symm h1) (.int .i64 0)
    have e2 := (e1.far (p := ⟨g, i, none⟩) h3 (.slice A' zs.length zs.length)).set_ 0 (.int .i64 0)
    have t12 : But (fun k => k = gb ∨ k = ge ∨ k = g) w1 ((w1.setCell ⟨g, i, none⟩ (.slice A' zs.length zs.length)).setCell ⟨ge, 0, none⟩ (.int .i64 0)) := ((But.refl _ _).setCell (.inr (.inr rfl)) _).setCell (.inr (.inl rfl)) _
    have t2 : But (fun k => k = gb ∨ k = ge ∨ k = g) w ((w1.setCell ⟨g, i, none⟩ (.slice A' zs.length zs.length)).setCell ⟨ge, 0, none⟩ (.int .i64 0)) := ((But.keep k1 _).setCell (.inr (.inr rfl)) _).setCell (.inr (.inl rfl)) _
    generalize (w1.setCell ⟨g, i, none⟩ (.slice A' zs.length zs.length)).setCell ⟨ge, 0, none⟩ (.int .i64 0) = w2 at g2 b2 e2 t2 t12 ⊢
    clear cb ce cg fe fb fg c0 c1 hgl
    have cb := b2.cell_ (i := 0) rfl
    have fb := b2.frozen 0
    have z1 : (1 + 4 * zs.length : Int) ≤ xs.length := by omega
    have fin : ∀ A2 n2 c2, (c ≠ 1 + 4 * zs.length → A2 = A.map (·.add (1 + 4 * zs.length))) → c2 = c - (1 + 4 * zs.length) → n2 = xs.length - (1 + 4 * zs.length) → ReadP xs gb ge g i tg L w0 w (.returned (.tuple #[])) (w2.setCell ⟨gb, 0, none⟩ (.slice A2 n2 c2)) := by
      intro A2 n2 c2 hA h2' h3'
      unfold ReadP
      rw [HG.out]
      refine ⟨rfl, t2.setCell (.inl rfl) _, A', g2.far h2.symm _, ?_, e2.far h1 _, Left.cut b2 rd hB hc lc hA h2' h3'⟩
      have hx := fun k (e : k = gb ∨ k = ge ∨ k = g) (hk : ownB A' zs.length = some k) => by
        have q1 := (hf.own_ge hk).1
        have q2 := bb.lt
        have q3 := he.lt
        have q4 := hg.lt
        exact (show False by omega)
      exact (hf.but t12 (fun k hk e => hx k e hk)).setCell (fun k hk e => hx k (.inl e.symm) hk) _
    clear t12 hle
    have HF := Lib.hid fin
    clear fin
    go_wp2_with fail
    all_goals go_end0
    · exact HF.out _ _ _ (fun e => absurd h e) (by omega) rfl
    · exact HF.out _ _ _ (fun _ => rfl) rfl rfl

/-- The function value that reads a list. -/
abbrev rdFn (gb ge : Nat) : Value := .func (.func 79) #[] #[ptr ge 0, ptr gb 0]

set_option maxRecDepth 100000 in
set_option maxHeartbeats 2000000 in
theorem reserves_no (w : World) (gb gm ge gf : Nat) (ec : Int) (hf : Blk w gf 83 [rdFn gb ge]) (he : Blk w ge 49 [.int .i64 ec]) (h0 : (ec == 0) = false) :
    Calls Tryd.prog 80 #[ptr gf 0, ptr gm 0] w fun e w' => e = .returned (.tuple #[]) ∧ Keep w w' := by
  have c0 := hf.cell_ (i := 0) rfl
  go_enter Tryd.func80, Tryd.ntmps80
  go_wp2_with fail
  refine (reader_no w (ptr gm 0) gb ge ec he h0).mono ?_
  rintro e w1 ⟨rfl, k1⟩
  go_wp2_with fail
  go_end0
  exact ⟨rfl, k1⟩
set_option maxRecDepth 100000 in
set_option maxHeartbeats 2000000 in
theorem order_no (w : World) (gb gm ge gf : Nat) (ec : Int) (hf : Blk w gf 83 [rdFn gb ge]) (he : Blk w ge 49 [.int .i64 ec]) (h0 : (ec == 0) = false) :
    Calls Tryd.prog 83 #[ptr gf 0, ptr gm 0] w fun e w' => e = .returned (.tuple #[]) ∧ Keep w w' := by
  have c0 := hf.cell_ (i := 0) rfl
  go_enter Tryd.func83, Tryd.ntmps83
  go_wp2_with fail
  refine (reader_no w (ptr gm 2) gb ge ec he h0).mono ?_
  rintro e w1 ⟨rfl, k1⟩
  go_wp2_with fail
  go_end0
  exact ⟨rfl, k1⟩
set_option maxRecDepth 100000 in
set_option maxHeartbeats 2000000 in
theorem reserves_f (xs : List Int) (gb ge gm gf : Nat) (L : List Value) (w0 w : World) (k0 : Keep w0 w) (h1 : gb ≠ ge) (h2 : gm ≠ gb) (h3 : gm ≠ ge) (hi : L.length = 3)
    (hf : Blk w gf 83 [rdFn gb ge]) (hb : Left w0 w gb xs) (he : Blk w ge 49 [.int .i64 0]) (hg : Blk w gm 66 L) :
    Calls Tryd.prog 80 #[ptr gf 0, ptr gm 0] w (ReadP xs gb ge gm 0 66 L w0 w) := by
  have c0 := hf.cell_ (i := 0) rfl
  go_enter Tryd.func80, Tryd.ntmps80
  go_wp2_with fail
  refine (reader_f xs gb ge gm 0 66 L w0 w k0 h1 h2 h3 (by omega) hb he hg).mono ?_
  rintro e w1 ⟨rfl, k1⟩
  go_wp2_with fail
  go_end0
  exact ⟨rfl, k1⟩
set_option maxRecDepth 100000 in
set_option maxHeartbeats 2000000 in
theorem order_f (xs : List Int) (gb ge gm gf : Nat) (L : List Value) (w0 w : World) (k0 : Keep w0 w) (h1 : gb ≠ ge) (h2 : gm ≠ gb) (h3 : gm ≠ ge) (hi : L.length = 3)
    (hf : Blk w gf 83 [rdFn gb ge]) (hb : Left w0 w gb xs) (he : Blk w ge 49 [.int .i64 0]) (hg : Blk w gm 66 L) :
    Calls Tryd.prog 83 #[ptr gf 0, ptr gm 0] w (ReadP xs gb ge gm 2 66 L w0 w) := by
  have c0 := hf.cell_ (i := 0) rfl
  go_enter Tryd.func83, Tryd.ntmps83
  go_wp2_with fail
  refine (reader_f xs gb ge gm 2 66 L w0 w k0 h1 h2 h3 (by omega) hb he hg).mono ?_
  rintro e w1 ⟨rfl, k1⟩
  go_wp2_with fail
  go_end0
  exact ⟨rfl, k1⟩
end Go.Proofs.YtafiahnaeakcfaaDoor

namespace Go.Proofs.YtafiahnaeakcfaaDoor
open Go.RowKit

/-- What the count leaves. -/
def CountP (xs : List Int) (gb ge gm : Nat) (L : List Value) (w0 w : World) (e : Ending) (w' : World) : Prop :=
  e = .returned (.tuple #[]) ∧ But (fun k => k = gb ∨ k = ge ∨ k = gm) w w' ∧
  match xs with
  | [] => Blk w' gm 66 L ∧ Blk w' ge 49 [.int .i64 5]
  | x :: ys => ∃ gr, w.heap.size ≤ gr ∧ Blk w' gr 23 (List.replicate x.toNat (.slice none 0 0)) ∧ Blk w' gm 66 (L.set 1 (.slice (some ⟨gr, 0, none⟩) x.toNat x.toNat)) ∧ Blk w' ge 49 [.int .i64 0] ∧ Left w0 w' gb ys

set_option maxRecDepth 100000 in
set_option maxHeartbeats 2000000 in
theorem count_no (w : World) (gb gm ge : Nat) (ec : Int) (he : Blk w ge 49 [.int .i64 ec]) (h0 : (ec == 0) = false) :
    Calls Tryd.prog 81 #[ptr ge 0, ptr gb 0, ptr gm 0] w fun e w' => e = .returned (.tuple #[]) ∧ Keep w w' := by
  have c0 := he.cell_ (i := 0) rfl
  go_enter Tryd.func81, Tryd.ntmps81
  go_wp2_with fail
  go_end0
  exact ⟨rfl, Keep.refl _⟩

set_option maxRecDepth 100000 in
set_option maxHeartbeats 4000000 in
theorem count_f (xs : List Int) (gb ge gm : Nat) (L : List Value) (w0 w : World) (k0 : Keep w0 w) (h1 : gb ≠ ge) (h2 : gm ≠ gb) (h3 : gm ≠ ge) (hi : L.length = 3)
    (hb : Left w0 w gb xs) (he : Blk w ge 49 [.int .i64 0]) (hm : Blk w gm 66 L) :
    Calls Tryd.prog 81 #[ptr ge 0, ptr gb 0, ptr gm 0] w (CountP xs gb ge gm L w0 w) := by
  obtain ⟨A, c, bb, rd, hB, hc, lc⟩ := hb
  have c0 := he.cell_ (i := 0) rfl
  have c1 := bb.cell_ (i := 0) rfl
  have hgl := fun w1 (k1 : Keep w w1) => get_f A c xs 1 w1 ((rd.keep k0).keep k1) hB hc lc
  cases xs with
  | nil =>
    go_enter Tryd.func81, Tryd.ntmps81
    go_wp2_with fail
    refine (hgl _ (Keep.refl _)).mono ?_
    intro e w1 hp
    unfold GetP at hp
    rw [show getV [] 1 = (0, 5) from rfl] at hp
    obtain ⟨rfl, k1⟩ := hp
    have e1 := he.keep k1
    have m1 := hm.keep k1
    have ce := e1.cell_ (i := 0) rfl
    have fe := e1.frozen 0
    have e2 := e1.set_ 0 (.int .i64 5)
    have m2 := m1.far (p := ⟨ge, 0, none⟩) h3.symm (.int .i64 5)
    have t2 : But (fun k => k = gb ∨ k = ge ∨ k = gm) w (w1.setCell ⟨ge, 0, none⟩ (.int .i64 5)) := (But.keep k1 _).setCell (.inr (.inl rfl)) _
    go_wp2_with fail
    go_end0
    exact ⟨rfl, t2, m2, e2⟩
  | cons x ys =>
    obtain ⟨x0, x1⟩ := hB.head
    obtain ⟨b, off, rfl, _⟩ := rd.ad (by simp [cs])
    obtain ⟨n, hn⟩ : ∃ n : Nat, x = n := ⟨x.toNat, by omega⟩
    subst hn
    have hy := hB.tail
    have hgv : getV ((n : Int) :: ys) 1 = (n, 0) := by
      rw [getV, if_neg (by omega), if_neg (by simp only [List.length_cons]; omega)]
      simp [val]
    have hmk1 := run_make_row' (P := Tryd.prog) 64 23 (.slice none 0 0) 24 Tryd.underlying64 infoInts rfl .u64 .u64 n (by omega) (by omega)
    have HV := Lib.hid hgv
    clear hgv
    have fin : ∀ V, (∃ A2 c2, V = .slice A2 ys.length c2 ∧ Rd w0 A2 (cs .u8 ys) ∧ ys.length ≤ c2 ∧ Len c2) → ∀ gr w2, w.heap.size ≤ gr → But (fun k => k = gb ∨ k = ge ∨ k = gm) w w2 → Blk w2 gm 66 (L.set 1 (.slice (some ⟨gr, 0, none⟩) n n)) → Blk w2 gr 23 (List.replicate n (.slice none 0 0)) → Blk w2 gb 22 [V] → Blk w2 ge 49 [.int .i64 0] → CountP ((n : Int) :: ys) gb ge gm L w0 w (.returned (.tuple #[])) w2 := by
      rintro V ⟨A2, c2, rfl, r2, s2, t2⟩ gr w2 hgr kb bm br bb be
      exact ⟨rfl, kb, gr, hgr, br, bm, be, ⟨A2, c2, bb, r2, hy, s2, t2⟩⟩
    have HF := Lib.hid fin
    clear fin
    have lb := bb.lt
    have lm := hm.lt
    go_enter Tryd.func81, Tryd.ntmps81
    go_wp2_with fail
    refine (hgl _ (Keep.refl _)).mono ?_
    intro e w1 hp
    unfold GetP at hp
    rw [HV.out] at hp
    obtain ⟨rfl, k1⟩ := hp
    have be := he.keep k1
    have ce := be.cell_ (i := 0) rfl
    have fe := be.frozen 0
    have kb : But (fun k => k = gb ∨ k = ge ∨ k = gm) w (w1.setCell ⟨ge, 0, none⟩ (.int .i64 0)) := (But.keep k1 _).setCell (.inr (.inl rfl)) _
    have bm := (hm.keep k1).far (p := ⟨ge, 0, none⟩) h3.symm (.int .i64 0)
    replace bb := (bb.keep k1).far (p := ⟨ge, 0, none⟩) h1.symm (.int .i64 0)
    replace be := be.set_ 0 (.int .i64 0)
    have cb := bb.cell_ (i := 0) rfl
    clear hgl
    go_upto_region 4 with fail
    clear c0 c1 cb ce fe
    simp only [List.length_cons] at bb
    generalize w1.setCell ⟨ge, 0, none⟩ (.int .i64 0) = w2 at bb be bm kb ⊢
    have hl : ys.length + 1 ≤ c := by simpa using hc
    have hz : (1 : Int) ≤ (ys.length : Int) + 1 := by omega
    by_cases hc1 : c = 1
    · have r2 : Rd w0 (some ⟨b, off, none⟩) (cs .u8 ys) := by
        have := rd.drop (n := 1) (cap := c) (by rw [length_cs]; exact hc) (some ⟨b, off, none⟩) (fun e => absurd hc1 e)
        simpa [cs] using this
      replace HF := Lib.hid (HF.out (.slice (some ⟨b, off, none⟩) ys.length 0) ⟨some ⟨b, off, none⟩, 0, rfl, r2, by omega, by unfold Len; omega⟩)
      subst hc1
      clear hc hl
      refine wp_region_noPanic ?_
      refine wp_region_held_drew (S := (fun _ => True)) (by kernel_rfl) trivial (fun hS => ?_)
      replace bb := bb.keep (Keep.refl _).drew
      replace be := be.keep (Keep.refl _).drew
      replace bm := bm.keep (Keep.refl _).drew
      replace kb := kb.trans (But.keep (Keep.refl _).drew _)
      generalize World.drew _ = v0 at bb be bm kb ⊢
      refine wpAnyH_take (i := 2) (v := ?_) rfl (by kernel_rfl) (by kernel_rfl) (by kernel_rfl) (fun _ _ _ h => h) (Or.inl ⟨by rfl, ?_⟩) hS ?_
      rotate_left
      · (intro w hSw; (try dsimp only at hSw); go_simp; (first | done | with_reducible rfl))
      change wpAnyH _ _ _ _ _ _ _ (Act.put _ (some 15) _) _
      simp only [Act.put, List.setIfInBounds_toArray, List.set_cons_zero, List.set_cons_succ]
      refine wpAnyH_ready (rs := [0, 3]) (by kernel_rfl) (by simp) ?_
      refine AllReadyH.cons rfl (fun K hK => ?_) ?_
      · have cb := bb.cell_ (i := 0) rfl
        go_simp
        refine hK.out _ _ trivial (fun hS => ?_)
        clear hK K
        try simp only [Act.put, List.setIfInBounds_toArray, List.set_cons_zero, List.set_cons_succ]
        clear cb
        refine wpAnyH_take (i := 1) (v := ?_) rfl (by kernel_rfl) (by kernel_rfl) (by kernel_rfl) (fun _ _ _ h => h) (Or.inl ⟨by rfl, ?_⟩) hS ?_
        rotate_left
        · (intro w hSw; (try dsimp only at hSw); go_simp; (first | done | with_reducible rfl))
        change wpAnyH _ _ _ _ _ _ _ (Act.put _ (some 14) _) _
        simp only [Act.put, List.setIfInBounds_toArray, List.set_cons_zero, List.set_cons_succ]
        refine wpAnyH_ready (rs := [3, 4]) (by kernel_rfl) (by simp) ?_
        refine AllReadyH.cons rfl (fun K hK => ?_) ?_
        · go_simp
          have br := Blk.of_make v0 23 (.slice none 0 0) n
          have kn := Keep.alloc1 v0 (.cells (madeCells #[.slice none 0 0] n) 23)
          have hgr := kb.size
          refine hK.out _ _ trivial (fun hS => ?_)
          clear hK K
          try simp only [Act.put, List.setIfInBounds_toArray, List.set_cons_zero, List.set_cons_succ]
          generalize v0.alloc (.cells (madeCells #[.slice none 0 0] n) 23) = v2 at br kn ⊢
          generalize v0.heap.size = gr at br hgr ⊢
          replace bb := bb.keep kn
          replace be := be.keep kn
          replace bm := bm.keep kn
          replace kb := kb.trans (But.keep kn _)
          clear kn
          refine wpAnyH_ready (rs := [4]) (by kernel_rfl) (by simp) ?_
          refine AllReadyH.cons rfl (fun K hK => ?_) AllReadyH.nil
          have cb := bb.cell_ (i := 0) rfl
          have fb := bb.frozen 0
          go_simp
          refine hK.out _ _ trivial (fun hS => ?_)
          clear hK K
          try simp only [Act.put, List.setIfInBounds_toArray]
          clear cb fb
          have b2 := bb.set_ 0 (.slice (some ⟨b, off, none⟩) ys.length 0)
          replace be := be.far (p := ⟨gb, 0, none⟩) h1 (.slice (some ⟨b, off, none⟩) ys.length 0)
          replace bm := bm.far (p := ⟨gb, 0, none⟩) h2.symm (.slice (some ⟨b, off, none⟩) ys.length 0)
          replace kb := kb.setCell (p := ⟨gb, 0, none⟩) (.inl rfl) (.slice (some ⟨b, off, none⟩) ys.length 0)
          replace br := br.far (p := ⟨gb, 0, none⟩) (by simp only; omega) (.slice (some ⟨b, off, none⟩) ys.length 0)
          replace bb := b2
          clear b2
          generalize v2.setCell ⟨gb, 0, none⟩ (.slice (some ⟨b, off, none⟩) ys.length 0) = v3 at bb be bm kb br ⊢
          refine wpAnyH_take (i := 5) (v := ?_) rfl (by kernel_rfl) (by kernel_rfl) (by kernel_rfl) (fun _ _ _ h => h) (Or.inl ⟨by rfl, ?_⟩) hS ?_
          rotate_left
          · (intro w hSw; (try dsimp only at hSw); go_simp; (first | done | with_reducible rfl))
          change wpAnyH _ _ _ _ _ _ _ (Act.put _ (some 17) _) _
          simp only [Act.put, List.setIfInBounds_toArray, List.set_cons_zero, List.set_cons_succ]
          refine wpAnyH_ready (rs := [6]) (by kernel_rfl) (by simp) ?_
          refine AllReadyH.cons rfl (fun K hK => ?_) AllReadyH.nil
          have cm := bm.cell_ (List.getElem?_eq_getElem (show 1 < L.length by omega))
          have fm := bm.frozen 1
          go_simp
          refine hK.out _ _ trivial (fun hS => ?_)
          clear hK K
          try simp only [Act.put, List.setIfInBounds_toArray]
          clear cm fm
          have b2 := bm.set_ 1 (.slice (some ⟨gr, 0, none⟩) n n)
          replace be := be.far (p := ⟨gm, 1, none⟩) h3 (.slice (some ⟨gr, 0, none⟩) n n)
          replace bb := bb.far (p := ⟨gm, 1, none⟩) h2 (.slice (some ⟨gr, 0, none⟩) n n)
          replace kb := kb.setCell (p := ⟨gm, 1, none⟩) (.inr (.inr rfl)) (.slice (some ⟨gr, 0, none⟩) n n)
          replace br := br.far (p := ⟨gm, 1, none⟩) (by simp only; omega) (.slice (some ⟨gr, 0, none⟩) n n)
          replace bm := b2
          clear b2
          generalize v3.setCell ⟨gm, 1, none⟩ (.slice (some ⟨gr, 0, none⟩) n n) = v4 at bb be bm kb br ⊢
          refine wpAnyH_done (by kernel_rfl) ?_ _
          refine NoPanic.normal ?_
          go_wp2_with fail
          go_end0
          exact HF.out _ _ hgr kb bm br bb be
        refine AllReadyH.cons rfl (fun K hK => ?_) ?_
        · have cb := bb.cell_ (i := 0) rfl
          have fb := bb.frozen 0
          go_simp
          refine hK.out _ _ trivial (fun hS => ?_)
          clear hK K
          try simp only [Act.put, List.setIfInBounds_toArray]
          clear cb fb
          have b2 := bb.set_ 0 (.slice (some ⟨b, off, none⟩) ys.length 0)
          replace be := be.far (p := ⟨gb, 0, none⟩) h1 (.slice (some ⟨b, off, none⟩) ys.length 0)
          replace bm := bm.far (p := ⟨gb, 0, none⟩) h2.symm (.slice (some ⟨b, off, none⟩) ys.length 0)
          replace kb := kb.setCell (p := ⟨gb, 0, none⟩) (.inl rfl) (.slice (some ⟨b, off, none⟩) ys.length 0)
          replace bb := b2
          clear b2
          generalize v0.setCell ⟨gb, 0, none⟩ (.slice (some ⟨b, off, none⟩) ys.length 0) = v5 at bb be bm kb ⊢
          refine wpAnyH_ready (rs := [3]) (by kernel_rfl) (by simp) ?_
          refine AllReadyH.cons rfl (fun K hK => ?_) AllReadyH.nil
          go_simp
          have br := Blk.of_make v5 23 (.slice none 0 0) n
          have kn := Keep.alloc1 v5 (.cells (madeCells #[.slice none 0 0] n) 23)
          have hgr := kb.size
          refine hK.out _ _ trivial (fun hS => ?_)
          clear hK K
          try simp only [Act.put, List.setIfInBounds_toArray, List.set_cons_zero, List.set_cons_succ]
          generalize v5.alloc (.cells (madeCells #[.slice none 0 0] n) 23) = v6 at br kn ⊢
          generalize v5.heap.size = gr at br hgr ⊢
          replace bb := bb.keep kn
          replace be := be.keep kn
          replace bm := bm.keep kn
          replace kb := kb.trans (But.keep kn _)
          clear kn
          refine wpAnyH_take (i := 5) (v := ?_) rfl (by kernel_rfl) (by kernel_rfl) (by kernel_rfl) (fun _ _ _ h => h) (Or.inl ⟨by rfl, ?_⟩) hS ?_
          rotate_left
          · (intro w hSw; (try dsimp only at hSw); go_simp; (first | done | with_reducible rfl))
          change wpAnyH _ _ _ _ _ _ _ (Act.put _ (some 17) _) _
          simp only [Act.put, List.setIfInBounds_toArray, List.set_cons_zero, List.set_cons_succ]
          refine wpAnyH_ready (rs := [6]) (by kernel_rfl) (by simp) ?_
          refine AllReadyH.cons rfl (fun K hK => ?_) AllReadyH.nil
          have cm := bm.cell_ (List.getElem?_eq_getElem (show 1 < L.length by omega))
          have fm := bm.frozen 1
          go_simp
          refine hK.out _ _ trivial (fun hS => ?_)
          clear hK K
          try simp only [Act.put, List.setIfInBounds_toArray]
          clear cm fm
          have b2 := bm.set_ 1 (.slice (some ⟨gr, 0, none⟩) n n)
          replace be := be.far (p := ⟨gm, 1, none⟩) h3 (.slice (some ⟨gr, 0, none⟩) n n)
          replace bb := bb.far (p := ⟨gm, 1, none⟩) h2 (.slice (some ⟨gr, 0, none⟩) n n)
          replace kb := kb.setCell (p := ⟨gm, 1, none⟩) (.inr (.inr rfl)) (.slice (some ⟨gr, 0, none⟩) n n)
          replace br := br.far (p := ⟨gm, 1, none⟩) (by simp only; omega) (.slice (some ⟨gr, 0, none⟩) n n)
          replace bm := b2
          clear b2
          generalize v6.setCell ⟨gm, 1, none⟩ (.slice (some ⟨gr, 0, none⟩) n n) = v7 at bb be bm kb br ⊢
          refine wpAnyH_done (by kernel_rfl) ?_ _
          refine NoPanic.normal ?_
          go_wp2_with fail
          go_end0
          exact HF.out _ _ hgr kb bm br bb be
        exact AllReadyH.nil
      refine AllReadyH.cons rfl (fun K hK => ?_) ?_
      · go_simp
        have br := Blk.of_make v0 23 (.slice none 0 0) n
        have kn := Keep.alloc1 v0 (.cells (madeCells #[.slice none 0 0] n) 23)
        have hgr := kb.size
        refine hK.out _ _ trivial (fun hS => ?_)
        clear hK K
        try simp only [Act.put, List.setIfInBounds_toArray, List.set_cons_zero, List.set_cons_succ]
        generalize v0.alloc (.cells (madeCells #[.slice none 0 0] n) 23) = v8 at br kn ⊢
        generalize v0.heap.size = gr at br hgr ⊢
        replace bb := bb.keep kn
        replace be := be.keep kn
        replace bm := bm.keep kn
        replace kb := kb.trans (But.keep kn _)
        clear kn
        refine wpAnyH_ready (rs := [0]) (by kernel_rfl) (by simp) ?_
        refine AllReadyH.cons rfl (fun K hK => ?_) AllReadyH.nil
        have cb := bb.cell_ (i := 0) rfl
        go_simp
        refine hK.out _ _ trivial (fun hS => ?_)
        clear hK K
        try simp only [Act.put, List.setIfInBounds_toArray, List.set_cons_zero, List.set_cons_succ]
        clear cb
        refine wpAnyH_take (i := 1) (v := ?_) rfl (by kernel_rfl) (by kernel_rfl) (by kernel_rfl) (fun _ _ _ h => h) (Or.inl ⟨by rfl, ?_⟩) hS ?_
        rotate_left
        · (intro w hSw; (try dsimp only at hSw); go_simp; (first | done | with_reducible rfl))
        change wpAnyH _ _ _ _ _ _ _ (Act.put _ (some 14) _) _
        simp only [Act.put, List.setIfInBounds_toArray, List.set_cons_zero, List.set_cons_succ]
        refine wpAnyH_ready (rs := [4]) (by kernel_rfl) (by simp) ?_
        refine AllReadyH.cons rfl (fun K hK => ?_) AllReadyH.nil
        have cb := bb.cell_ (i := 0) rfl
        have fb := bb.frozen 0
        go_simp
        refine hK.out _ _ trivial (fun hS => ?_)
        clear hK K
        try simp only [Act.put, List.setIfInBounds_toArray]
        clear cb fb
        have b2 := bb.set_ 0 (.slice (some ⟨b, off, none⟩) ys.length 0)
        replace be := be.far (p := ⟨gb, 0, none⟩) h1 (.slice (some ⟨b, off, none⟩) ys.length 0)
        replace bm := bm.far (p := ⟨gb, 0, none⟩) h2.symm (.slice (some ⟨b, off, none⟩) ys.length 0)
        replace kb := kb.setCell (p := ⟨gb, 0, none⟩) (.inl rfl) (.slice (some ⟨b, off, none⟩) ys.length 0)
        replace br := br.far (p := ⟨gb, 0, none⟩) (by simp only; omega) (.slice (some ⟨b, off, none⟩) ys.length 0)
        replace bb := b2
        clear b2
        generalize v8.setCell ⟨gb, 0, none⟩ (.slice (some ⟨b, off, none⟩) ys.length 0) = v10 at bb be bm kb br ⊢
        refine wpAnyH_take (i := 5) (v := ?_) rfl (by kernel_rfl) (by kernel_rfl) (by kernel_rfl) (fun _ _ _ h => h) (Or.inl ⟨by rfl, ?_⟩) hS ?_
        rotate_left
        · (intro w hSw; (try dsimp only at hSw); go_simp; (first | done | with_reducible rfl))
        change wpAnyH _ _ _ _ _ _ _ (Act.put _ (some 17) _) _
        simp only [Act.put, List.setIfInBounds_toArray, List.set_cons_zero, List.set_cons_succ]
        refine wpAnyH_ready (rs := [6]) (by kernel_rfl) (by simp) ?_
        refine AllReadyH.cons rfl (fun K hK => ?_) AllReadyH.nil
        have cm := bm.cell_ (List.getElem?_eq_getElem (show 1 < L.length by omega))
        have fm := bm.frozen 1
        go_simp
        refine hK.out _ _ trivial (fun hS => ?_)
        clear hK K
        try simp only [Act.put, List.setIfInBounds_toArray]
        clear cm fm
        have b2 := bm.set_ 1 (.slice (some ⟨gr, 0, none⟩) n n)
        replace be := be.far (p := ⟨gm, 1, none⟩) h3 (.slice (some ⟨gr, 0, none⟩) n n)
        replace bb := bb.far (p := ⟨gm, 1, none⟩) h2 (.slice (some ⟨gr, 0, none⟩) n n)
        replace kb := kb.setCell (p := ⟨gm, 1, none⟩) (.inr (.inr rfl)) (.slice (some ⟨gr, 0, none⟩) n n)
        replace br := br.far (p := ⟨gm, 1, none⟩) (by simp only; omega) (.slice (some ⟨gr, 0, none⟩) n n)
        replace bm := b2
        clear b2
        generalize v10.setCell ⟨gm, 1, none⟩ (.slice (some ⟨gr, 0, none⟩) n n) = v11 at bb be bm kb br ⊢
        refine wpAnyH_done (by kernel_rfl) ?_ _
        refine NoPanic.normal ?_
        go_wp2_with fail
        go_end0
        exact HF.out _ _ hgr kb bm br bb be
      exact AllReadyH.nil

    · have r2 : Rd w0 (some ⟨b, off + 1, none⟩) (cs .u8 ys) := by
        have := rd.drop (n := 1) (cap := c) (by rw [length_cs]; exact hc) (some ⟨b, off + 1, none⟩) (fun _ => by simp [Addr.add])
        simpa [cs] using this
      replace HF := Lib.hid (HF.out (.slice (some ⟨b, off + 1, none⟩) ys.length (c - 1)) ⟨some ⟨b, off + 1, none⟩, c - 1, rfl, r2, by omega, by unfold Len at lc ⊢; omega⟩)
      refine wp_region_noPanic ?_
      refine wp_region_held_drew (S := (fun _ => True)) (by kernel_rfl) trivial (fun hS => ?_)
      replace bb := bb.keep (Keep.refl _).drew
      replace be := be.keep (Keep.refl _).drew
      replace bm := bm.keep (Keep.refl _).drew
      replace kb := kb.trans (But.keep (Keep.refl _).drew _)
      generalize World.drew _ = v0 at bb be bm kb ⊢
      refine wpAnyH_take (i := 2) (v := ?_) rfl (by kernel_rfl) (by kernel_rfl) (by kernel_rfl) (fun _ _ _ h => h) (Or.inl ⟨by rfl, ?_⟩) hS ?_
      rotate_left
      · (intro w hSw; (try dsimp only at hSw); go_simp; (first | done | with_reducible rfl))
      change wpAnyH _ _ _ _ _ _ _ (Act.put _ (some 15) _) _
      simp only [Act.put, List.setIfInBounds_toArray, List.set_cons_zero, List.set_cons_succ]
      refine wpAnyH_ready (rs := [0, 3]) (by kernel_rfl) (by simp) ?_
      refine AllReadyH.cons rfl (fun K hK => ?_) ?_
      · have cb := bb.cell_ (i := 0) rfl
        go_simp
        refine hK.out _ _ trivial (fun hS => ?_)
        clear hK K
        try simp only [Act.put, List.setIfInBounds_toArray, List.set_cons_zero, List.set_cons_succ]
        clear cb
        refine wpAnyH_take (i := 1) (v := ?_) rfl (by kernel_rfl) (by kernel_rfl) (by kernel_rfl) (fun _ _ _ h => h) (Or.inl ⟨by rfl, ?_⟩) hS ?_
        rotate_left
        · (intro w hSw; (try dsimp only at hSw); go_simp; (first | done | with_reducible rfl))
        change wpAnyH _ _ _ _ _ _ _ (Act.put _ (some 14) _) _
        simp only [Act.put, List.setIfInBounds_toArray, List.set_cons_zero, List.set_cons_succ]
        refine wpAnyH_ready (rs := [3, 4]) (by kernel_rfl) (by simp) ?_
        refine AllReadyH.cons rfl (fun K hK => ?_) ?_
        · go_simp
          have br := Blk.of_make v0 23 (.slice none 0 0) n
          have kn := Keep.alloc1 v0 (.cells (madeCells #[.slice none 0 0] n) 23)
          have hgr := kb.size
          refine hK.out _ _ trivial (fun hS => ?_)
          clear hK K
          try simp only [Act.put, List.setIfInBounds_toArray, List.set_cons_zero, List.set_cons_succ]
          generalize v0.alloc (.cells (madeCells #[.slice none 0 0] n) 23) = v2 at br kn ⊢
          generalize v0.heap.size = gr at br hgr ⊢
          replace bb := bb.keep kn
          replace be := be.keep kn
          replace bm := bm.keep kn
          replace kb := kb.trans (But.keep kn _)
          clear kn
          refine wpAnyH_ready (rs := [4]) (by kernel_rfl) (by simp) ?_
          refine AllReadyH.cons rfl (fun K hK => ?_) AllReadyH.nil
          have cb := bb.cell_ (i := 0) rfl
          have fb := bb.frozen 0
          go_simp
          refine hK.out _ _ trivial (fun hS => ?_)
          clear hK K
          try simp only [Act.put, List.setIfInBounds_toArray]
          clear cb fb
          have b2 := bb.set_ 0 (.slice (some ⟨b, off + 1, none⟩) ys.length (c - 1))
          replace be := be.far (p := ⟨gb, 0, none⟩) h1 (.slice (some ⟨b, off + 1, none⟩) ys.length (c - 1))
          replace bm := bm.far (p := ⟨gb, 0, none⟩) h2.symm (.slice (some ⟨b, off + 1, none⟩) ys.length (c - 1))
          replace kb := kb.setCell (p := ⟨gb, 0, none⟩) (.inl rfl) (.slice (some ⟨b, off + 1, none⟩) ys.length (c - 1))
          replace br := br.far (p := ⟨gb, 0, none⟩) (by simp only; omega) (.slice (some ⟨b, off + 1, none⟩) ys.length (c - 1))
          replace bb := b2
          clear b2
          generalize v2.setCell ⟨gb, 0, none⟩ (.slice (some ⟨b, off + 1, none⟩) ys.length (c - 1)) = v3 at bb be bm kb br ⊢
          refine wpAnyH_take (i := 5) (v := ?_) rfl (by kernel_rfl) (by kernel_rfl) (by kernel_rfl) (fun _ _ _ h => h) (Or.inl ⟨by rfl, ?_⟩) hS ?_
          rotate_left
          · (intro w hSw; (try dsimp only at hSw); go_simp; (first | done | with_reducible rfl))
          change wpAnyH _ _ _ _ _ _ _ (Act.put _ (some 17) _) _
          simp only [Act.put, List.setIfInBounds_toArray, List.set_cons_zero, List.set_cons_succ]
          refine wpAnyH_ready (rs := [6]) (by kernel_rfl) (by simp) ?_
          refine AllReadyH.cons rfl (fun K hK => ?_) AllReadyH.nil
          have cm := bm.cell_ (List.getElem?_eq_getElem (show 1 < L.length by omega))
          have fm := bm.frozen 1
          go_simp
          refine hK.out _ _ trivial (fun hS => ?_)
          clear hK K
          try simp only [Act.put, List.setIfInBounds_toArray]
          clear cm fm
          have b2 := bm.set_ 1 (.slice (some ⟨gr, 0, none⟩) n n)
          replace be := be.far (p := ⟨gm, 1, none⟩) h3 (.slice (some ⟨gr, 0, none⟩) n n)
          replace bb := bb.far (p := ⟨gm, 1, none⟩) h2 (.slice (some ⟨gr, 0, none⟩) n n)
          replace kb := kb.setCell (p := ⟨gm, 1, none⟩) (.inr (.inr rfl)) (.slice (some ⟨gr, 0, none⟩) n n)
          replace br := br.far (p := ⟨gm, 1, none⟩) (by simp only; omega) (.slice (some ⟨gr, 0, none⟩) n n)
          replace bm := b2
          clear b2
          generalize v3.setCell ⟨gm, 1, none⟩ (.slice (some ⟨gr, 0, none⟩) n n) = v4 at bb be bm kb br ⊢
          refine wpAnyH_done (by kernel_rfl) ?_ _
          refine NoPanic.normal ?_
          go_wp2_with fail
          go_end0
          exact HF.out _ _ hgr kb bm br bb be
        refine AllReadyH.cons rfl (fun K hK => ?_) ?_
        · have cb := bb.cell_ (i := 0) rfl
          have fb := bb.frozen 0
          go_simp
          refine hK.out _ _ trivial (fun hS => ?_)
          clear hK K
          try simp only [Act.put, List.setIfInBounds_toArray]
          clear cb fb
          have b2 := bb.set_ 0 (.slice (some ⟨b, off + 1, none⟩) ys.length (c - 1))
          replace be := be.far (p := ⟨gb, 0, none⟩) h1 (.slice (some ⟨b, off + 1, none⟩) ys.length (c - 1))
          replace bm := bm.far (p := ⟨gb, 0, none⟩) h2.symm (.slice (some ⟨b, off + 1, none⟩) ys.length (c - 1))
          replace kb := kb.setCell (p := ⟨gb, 0, none⟩) (.inl rfl) (.slice (some ⟨b, off + 1, none⟩) ys.length (c - 1))
          replace bb := b2
          clear b2
          generalize v0.setCell ⟨gb, 0, none⟩ (.slice (some ⟨b, off + 1, none⟩) ys.length (c - 1)) = v5 at bb be bm kb ⊢
          refine wpAnyH_ready (rs := [3]) (by kernel_rfl) (by simp) ?_
          refine AllReadyH.cons rfl (fun K hK => ?_) AllReadyH.nil
          go_simp
          have br := Blk.of_make v5 23 (.slice none 0 0) n
          have kn := Keep.alloc1 v5 (.cells (madeCells #[.slice none 0 0] n) 23)
          have hgr := kb.size
          refine hK.out _ _ trivial (fun hS => ?_)
          clear hK K
          try simp only [Act.put, List.setIfInBounds_toArray, List.set_cons_zero, List.set_cons_succ]
          generalize v5.alloc (.cells (madeCells #[.slice none 0 0] n) 23) = v6 at br kn ⊢
          generalize v5.heap.size = gr at br hgr ⊢
          replace bb := bb.keep kn
          replace be := be.keep kn
          replace bm := bm.keep kn
          replace kb := kb.trans (But.keep kn _)
          clear kn
          refine wpAnyH_take (i := 5) (v := ?_) rfl (by kernel_rfl) (by kernel_rfl) (by kernel_rfl) (fun _ _ _ h => h) (Or.inl ⟨by rfl, ?_⟩) hS ?_
          rotate_left
          · (intro w hSw; (try dsimp only at hSw); go_simp; (first | done | with_reducible rfl))
          change wpAnyH _ _ _ _ _ _ _ (Act.put _ (some 17) _) _
          simp only [Act.put, List.setIfInBounds_toArray, List.set_cons_zero, List.set_cons_succ]
          refine wpAnyH_ready (rs := [6]) (by kernel_rfl) (by simp) ?_
          refine AllReadyH.cons rfl (fun K hK => ?_) AllReadyH.nil
          have cm := bm.cell_ (List.getElem?_eq_getElem (show 1 < L.length by omega))
          have fm := bm.frozen 1
          go_simp
          refine hK.out _ _ trivial (fun hS => ?_)
          clear hK K
          try simp only [Act.put, List.setIfInBounds_toArray]
          clear cm fm
          have b2 := bm.set_ 1 (.slice (some ⟨gr, 0, none⟩) n n)
          replace be := be.far (p := ⟨gm, 1, none⟩) h3 (.slice (some ⟨gr, 0, none⟩) n n)
          replace bb := bb.far (p := ⟨gm, 1, none⟩) h2 (.slice (some ⟨gr, 0, none⟩) n n)
          replace kb := kb.setCell (p := ⟨gm, 1, none⟩) (.inr (.inr rfl)) (.slice (some ⟨gr, 0, none⟩) n n)
          replace br := br.far (p := ⟨gm, 1, none⟩) (by simp only; omega) (.slice (some ⟨gr, 0, none⟩) n n)
          replace bm := b2
          clear b2
          generalize v6.setCell ⟨gm, 1, none⟩ (.slice (some ⟨gr, 0, none⟩) n n) = v7 at bb be bm kb br ⊢
          refine wpAnyH_done (by kernel_rfl) ?_ _
          refine NoPanic.normal ?_
          go_wp2_with fail
          go_end0
          exact HF.out _ _ hgr kb bm br bb be
        exact AllReadyH.nil
      refine AllReadyH.cons rfl (fun K hK => ?_) ?_
      · go_simp
        have br := Blk.of_make v0 23 (.slice none 0 0) n
        have kn := Keep.alloc1 v0 (.cells (madeCells #[.slice none 0 0] n) 23)
        have hgr := kb.size
        refine hK.out _ _ trivial (fun hS => ?_)
        clear hK K
        try simp only [Act.put, List.setIfInBounds_toArray, List.set_cons_zero, List.set_cons_succ]
        generalize v0.alloc (.cells (madeCells #[.slice none 0 0] n) 23) = v8 at br kn ⊢
        generalize v0.heap.size = gr at br hgr ⊢
        replace bb := bb.keep kn
        replace be := be.keep kn
        replace bm := bm.keep kn
        replace kb := kb.trans (But.keep kn _)
        clear kn
        refine wpAnyH_ready (rs := [0]) (by kernel_rfl) (by simp) ?_
        refine AllReadyH.cons rfl (fun K hK => ?_) AllReadyH.nil
        have cb := bb.cell_ (i := 0) rfl
        go_simp
        refine hK.out _ _ trivial (fun hS => ?_)
        clear hK K
        try simp only [Act.put, List.setIfInBounds_toArray, List.set_cons_zero, List.set_cons_succ]
        clear cb
        refine wpAnyH_take (i := 1) (v := ?_) rfl (by kernel_rfl) (by kernel_rfl) (by kernel_rfl) (fun _ _ _ h => h) (Or.inl ⟨by rfl, ?_⟩) hS ?_
        rotate_left
        · (intro w hSw; (try dsimp only at hSw); go_simp; (first | done | with_reducible rfl))
        change wpAnyH _ _ _ _ _ _ _ (Act.put _ (some 14) _) _
        simp only [Act.put, List.setIfInBounds_toArray, List.set_cons_zero, List.set_cons_succ]
        refine wpAnyH_ready (rs := [4]) (by kernel_rfl) (by simp) ?_
        refine AllReadyH.cons rfl (fun K hK => ?_) AllReadyH.nil
        have cb := bb.cell_ (i := 0) rfl
        have fb := bb.frozen 0
        go_simp
        refine hK.out _ _ trivial (fun hS => ?_)
        clear hK K
        try simp only [Act.put, List.setIfInBounds_toArray]
        clear cb fb
        have b2 := bb.set_ 0 (.slice (some ⟨b, off + 1, none⟩) ys.length (c - 1))
        replace be := be.far (p := ⟨gb, 0, none⟩) h1 (.slice (some ⟨b, off + 1, none⟩) ys.length (c - 1))
        replace bm := bm.far (p := ⟨gb, 0, none⟩) h2.symm (.slice (some ⟨b, off + 1, none⟩) ys.length (c - 1))
        replace kb := kb.setCell (p := ⟨gb, 0, none⟩) (.inl rfl) (.slice (some ⟨b, off + 1, none⟩) ys.length (c - 1))
        replace br := br.far (p := ⟨gb, 0, none⟩) (by simp only; omega) (.slice (some ⟨b, off + 1, none⟩) ys.length (c - 1))
        replace bb := b2
        clear b2
        generalize v8.setCell ⟨gb, 0, none⟩ (.slice (some ⟨b, off + 1, none⟩) ys.length (c - 1)) = v10 at bb be bm kb br ⊢
        refine wpAnyH_take (i := 5) (v := ?_) rfl (by kernel_rfl) (by kernel_rfl) (by kernel_rfl) (fun _ _ _ h => h) (Or.inl ⟨by rfl, ?_⟩) hS ?_
        rotate_left
        · (intro w hSw; (try dsimp only at hSw); go_simp; (first | done | with_reducible rfl))
        change wpAnyH _ _ _ _ _ _ _ (Act.put _ (some 17) _) _
        simp only [Act.put, List.setIfInBounds_toArray, List.set_cons_zero, List.set_cons_succ]
        refine wpAnyH_ready (rs := [6]) (by kernel_rfl) (by simp) ?_
        refine AllReadyH.cons rfl (fun K hK => ?_) AllReadyH.nil
        have cm := bm.cell_ (List.getElem?_eq_getElem (show 1 < L.length by omega))
        have fm := bm.frozen 1
        go_simp
        refine hK.out _ _ trivial (fun hS => ?_)
        clear hK K
        try simp only [Act.put, List.setIfInBounds_toArray]
        clear cm fm
        have b2 := bm.set_ 1 (.slice (some ⟨gr, 0, none⟩) n n)
        replace be := be.far (p := ⟨gm, 1, none⟩) h3 (.slice (some ⟨gr, 0, none⟩) n n)
        replace bb := bb.far (p := ⟨gm, 1, none⟩) h2 (.slice (some ⟨gr, 0, none⟩) n n)
        replace kb := kb.setCell (p := ⟨gm, 1, none⟩) (.inr (.inr rfl)) (.slice (some ⟨gr, 0, none⟩) n n)
        replace br := br.far (p := ⟨gm, 1, none⟩) (by simp only; omega) (.slice (some ⟨gr, 0, none⟩) n n)
        replace bm := b2
        clear b2
        generalize v10.setCell ⟨gm, 1, none⟩ (.slice (some ⟨gr, 0, none⟩) n n) = v11 at bb be bm kb br ⊢
        refine wpAnyH_done (by kernel_rfl) ?_ _
        refine NoPanic.normal ?_
        go_wp2_with fail
        go_end0
        exact HF.out _ _ hgr kb bm br bb be
      exact AllReadyH.nil

end Go.Proofs.YtafiahnaeakcfaaDoor

namespace Go.Proofs.YtafiahnaeakcfaaDoor
open Go.RowKit

/-- So many lists, one behind the other. -/
def getLs : Nat → List Int → Option (List (List Int) × List Int)
  | 0, xs => some ([], xs)
  | n + 1, xs => match getLs n xs with
    | none => none
    | some (bl, ys) => match getL ys with
      | none => none
      | some zs => some (bl ++ [zs], ys.drop (1 + 4 * zs.length))
theorem getLs_succ (n : Nat) (xs : List Int) : getLs (n + 1) xs = match getLs n xs with
    | none => none
    | some (bl, ys) => match getL ys with
      | none => none
      | some zs => some (bl ++ [zs], ys.drop (1 + 4 * zs.length)) := rfl
/-- The state when i of n lists are in. -/
def BidsI (xs : List Int) (n gb ge gr : Nat) (w0 : World) (base i : Nat) (w : World) : Prop :=
  match getLs i xs with
  | none => Blk w ge 49 [.int .i64 5] ∧ ∃ row, row.length = n ∧ Blk w gr 23 row
  | some (bl, ys) => ∃ hs : List Sl, bidsOf hs = bl ∧ hs.length = i ∧ (∀ s ∈ hs, s.c = s.l.length ∧ Fr 3 w base s.a s.l.length s.c (cs .i64 s.l)) ∧
    Blk w gr 23 (hs.map Sl.val ++ List.replicate (n - i) (.slice none 0 0)) ∧ Left w0 w gb ys ∧ Blk w ge 49 [.int .i64 0] ∧ hs.Pairwise Sep
theorem BidsI.row {xs : List Int} {n gb ge gr : Nat} {w0 : World} {base i : Nat} {w : World} (h : BidsI xs n gb ge gr w0 base i w) (hi : i ≤ n) : ∃ row, row.length = n ∧ Blk w gr 23 row := by
  unfold BidsI at h
  cases hg : getLs i xs with
  | none => rw [hg] at h; exact h.2
  | some q =>
    rw [hg] at h
    obtain ⟨hs, _, hl, _, hr, _⟩ := h
    exact ⟨_, by simp; omega, hr⟩
theorem row_set (hs : List Sl) (s : Sl) {n i : Nat} (hl : hs.length = i) (hi : i < n) : (hs.map Sl.val ++ List.replicate (n - i) (Value.slice none 0 0)).set i s.val = (hs ++ [s]).map Sl.val ++ List.replicate (n - (i + 1)) (Value.slice none 0 0) := by
  rw [List.set_append_right _ _ (by simp; omega), show n - i = (n - (i + 1)) + 1 by omega, List.replicate_succ]
  simp [hl]
theorem Left.keep {w0 w w' : World} {gb : Nat} {xs : List Int} (h : Left w0 w gb xs) (hk : Keep w w') : Left w0 w' gb xs := by
  obtain ⟨A, c, bb, r⟩ := h
  exact ⟨A, c, bb.keep hk, r⟩
theorem BidsI.keep {xs : List Int} {n gb ge gr : Nat} {w0 : World} {base i : Nat} {w w' : World} (h : BidsI xs n gb ge gr w0 base i w) (hk : Keep w w') : BidsI xs n gb ge gr w0 base i w' := by
  unfold BidsI at h ⊢
  cases hg : getLs i xs with
  | none =>
    rw [hg] at h
    obtain ⟨h1, row, hl, hr⟩ := h
    exact ⟨h1.keep hk, row, hl, hr.keep hk⟩
  | some q =>
    rw [hg] at h
    obtain ⟨hs, hb, hl, hf, hr, hL, he, hp⟩ := h
    exact ⟨hs, hb, hl, fun s h => ⟨(hf s h).1, (hf s h).2.keep hk⟩, hr.keep hk, hL.keep hk, he.keep hk, hp⟩
theorem bids_step (xs : List Int) (n gb ge gr : Nat) (w0 w : World) (base i : Nat) (k0 : Keep w0 w) (h1 : gb ≠ ge) (h2 : gr ≠ gb) (h3 : gr ≠ ge) (hi : i < n) (hbase : base ≤ w.heap.size) (h : BidsI xs n gb ge gr w0 base i w) :
    Calls Tryd.prog 79 #[ptr gr i, ptr ge 0, ptr gb 0] w fun e w' => e = .returned (.tuple #[]) ∧ But (fun k => k = gb ∨ k = ge ∨ k = gr) w w' ∧ BidsI xs n gb ge gr w0 base (i + 1) w' := by
  unfold BidsI at h
  cases hg : getLs i xs with
  | none =>
    rw [hg] at h
    obtain ⟨he, row, hl, hr⟩ := h
    refine (reader_no w (ptr gr i) gb ge 5 he rfl).mono ?_
    rintro e w1 ⟨rfl, k1⟩
    refine ⟨rfl, But.keep k1 _, ?_⟩
    unfold BidsI
    rw [getLs_succ, hg]
    exact ⟨he.keep k1, row, hl, hr.keep k1⟩
  | some q =>
    obtain ⟨bl, ys⟩ := q
    rw [hg] at h
    obtain ⟨hs, hb, hl, hf, hr, hL, he, hpw⟩ := h
    refine (reader_f ys gb ge gr i 23 _ w0 w k0 h1 h2 h3 (by simp; omega) hL he hr).mono ?_
    rintro e w1 ⟨rfl, t1, hm⟩
    refine ⟨rfl, t1, ?_⟩
    unfold BidsI
    rw [getLs_succ, hg]
    cases hy : getL ys with
    | none =>
      rw [hy] at hm
      obtain ⟨g1, _, e1⟩ := hm
      simp only [hy]
      exact ⟨e1, _, by simp; omega, g1⟩
    | some zs =>
      rw [hy] at hm
      obtain ⟨A', g1, f1, e1, l1⟩ := hm
      simp only [hy]
      have er := row_set hs ⟨A', zs.length, zs⟩ hl hi
      simp only [Sl.val] at er
      rw [er] at g1
      refine ⟨hs ++ [⟨A', zs.length, zs⟩], by simp [bidsOf, ← hb], by simp; omega, fun s hs' => ?_, g1, l1, e1, ?_⟩
      · rcases List.mem_append.1 hs' with h' | h'
        · obtain ⟨q1, q2⟩ := hf s h'
          refine ⟨q1, q2.but t1 fun k hk e => ?_⟩
          obtain ⟨A, c, bb, _⟩ := hL
          rcases e with e | e | e
          · exact q2.own_ne bb (by decide) k hk e.symm
          · exact q2.own_ne he (by decide) k hk e.symm
          · exact q2.own_ne hr (by decide) k hk e.symm
        · rw [List.mem_singleton] at h'
          subst h'
          exact ⟨rfl, f1.mono hbase⟩
      · rw [List.pairwise_append]
        refine ⟨hpw, List.pairwise_singleton _ _, fun s h1 t h2 k hk e => ?_⟩
        rw [List.mem_singleton] at h2
        subst h2
        have h3 := ((hf s h1).2.own_ge hk).2
        have h4 := (f1.own_ge e).1
        omega

/-- What the reader of the bids leaves. -/
def BidsP (xs : List Int) (n gb ge gr : Nat) (w0 w : World) (e : Ending) (w' : World) : Prop :=
  e = .returned (.tuple #[]) ∧ But (fun k => k = gb ∨ k = ge ∨ k = gr) w w' ∧ BidsI xs n gb ge gr w0 w.heap.size n w'

set_option maxRecDepth 100000 in
set_option maxHeartbeats 4000000 in
theorem bids_f (xs : List Int) (n gb ge gm gf gr : Nat) (r o : Value) (w0 w : World) (k0 : Keep w0 w) (hn : n < 256) (h1 : gb ≠ ge) (h2 : gr ≠ gb) (h3 : gr ≠ ge) (h4 : gm ≠ gb) (h5 : gm ≠ ge) (h6 : gm ≠ gr) (h7 : gf ≠ gb) (h8 : gf ≠ ge) (h9 : gf ≠ gr)
    (n0 : w0.heap.size ≤ gb) (n1 : w0.heap.size ≤ ge) (n2 : w0.heap.size ≤ gr)
    (hf : Blk w gf 83 [rdFn gb ge]) (hm : Blk w gm 66 [r, .slice (some ⟨gr, 0, none⟩) n n, o]) (h0 : BidsI xs n gb ge gr w0 w.heap.size 0 w) :
    Calls Tryd.prog 82 #[ptr gm 0, ptr gf 0] w (BidsP xs n gb ge gr w0 w) := by
  have cm := hm.cell_ (i := 1) rfl
  have cf := hf.cell_ (i := 0) rfl
  have K0 := Lib.hid k0
  go_enter Tryd.func82, Tryd.ntmps82
  go_wp2_with fail
  go_loopw [6] (fun v wr => ∃ i : Nat, i ≤ n ∧ v = .int .i64 i ∧ But (fun k => k = gb ∨ k = ge ∨ k = gr) w wr ∧ BidsI xs n gb ge gr w0 w.heap.size i wr) (fun v _ => n - (intOf v).toNat)
  case atStart => exact ⟨0, Nat.zero_le _, rfl, But.refl _ _, h0⟩
  case round =>
    obtain ⟨i, hi, rfl, tw, hI⟩ := hrel
    have cm' := (hm.but tw (by omega)).cell_ (i := 1) rfl
    have cf' := (hf.but tw (by omega)).cell_ (i := 0) rfl
    have kw := K0.out.but tw (fun k e => by omega)
    by_cases hlt : i < n
    · have z6 : (0 : Int) ≤ i := by omega
      have z7 : (i : Int) < n := by omega
      go_upto_region 3 with fail
      have kq : Keep wr wr.drew := (Keep.refl _).drew
      have hmq := (hm.but tw (by omega)).keep kq
      have hfq := (hf.but tw (by omega)).keep kq
      have hst := bids_step xs n gb ge gr w0 wr.drew w.heap.size i (kw.trans kq) h1 h2 h3 hlt (Nat.le_trans tw.size kq.size) (hI.keep kq)
      refine wp_region_noPanic ?_
      refine wp_region_held_drew (S := (fun w' => w'.cell? ⟨gf, 0, none⟩ = some (rdFn gb ge) ∧ w'.cell? ⟨gm, 1, none⟩ = some (.slice (some ⟨gr, 0, none⟩) n n))) (by kernel_rfl) ⟨cf', cm'⟩ (fun hS => ?_)
      refine wpAnyH_take (i := 0) (v := ?_) rfl (by kernel_rfl) (by kernel_rfl) (by kernel_rfl) (fun _ _ _ h => h) (Or.inl ⟨by rfl, ?_⟩) hS ?_
      rotate_left
      · (intro w hSw; (try dsimp only at hSw); go_simp; (first | done | with_reducible rfl))
      change wpAnyH _ _ _ _ _ _ _ (Act.put _ (some 9) _) _
      simp only [Act.put, List.setIfInBounds_toArray, List.set_cons_zero, List.set_cons_succ]
      refine wpAnyH_take (i := 1) (v := ?_) rfl (by kernel_rfl) (by kernel_rfl) (by kernel_rfl) (fun _ _ _ h => h) (Or.inl ⟨by rfl, ?_⟩) hS ?_
      rotate_left
      · (intro w hSw; (try dsimp only at hSw); go_simp; (first | done | with_reducible rfl))
      change wpAnyH _ _ _ _ _ _ _ (Act.put _ (some 10) _) _
      simp only [Act.put, List.setIfInBounds_toArray, List.set_cons_zero, List.set_cons_succ]
      refine wpAnyH_take (i := 2) (v := ?_) rfl (by kernel_rfl) (by kernel_rfl) (by kernel_rfl) (fun _ _ _ h => h) (Or.inl ⟨by rfl, ?_⟩) hS ?_
      rotate_left
      · (intro w hSw; (try dsimp only at hSw); go_simp; (first | done | with_reducible rfl))
      change wpAnyH _ _ _ _ _ _ _ (Act.put _ (some 11) _) _
      simp only [Act.put, List.setIfInBounds_toArray, List.set_cons_zero, List.set_cons_succ]
      refine wpAnyH_take (i := 3) (v := ?_) rfl (by kernel_rfl) (by kernel_rfl) (by kernel_rfl) (fun _ _ _ h => h) (Or.inl ⟨by rfl, ?_⟩) hS ?_
      rotate_left
      · (intro w hSw; (try dsimp only at hSw); go_simp; (first | done | with_reducible rfl))
      change wpAnyH _ _ _ _ _ _ _ (Act.put _ (some 12) _) _
      simp only [Act.put, List.setIfInBounds_toArray, List.set_cons_zero, List.set_cons_succ]
      refine wpAnyH_take (i := 4) (v := ?_) rfl (by kernel_rfl) (by kernel_rfl) (by kernel_rfl) (fun _ _ _ h => h) (Or.inl ⟨by rfl, ?_⟩) hS ?_
      rotate_left
      · (intro w hSw; (try dsimp only at hSw); go_simp; (first | done | with_reducible rfl))
      change wpAnyH _ _ _ _ _ _ _ (Act.put _ (some 13) _) _
      simp only [Act.put, List.setIfInBounds_toArray, List.set_cons_zero, List.set_cons_succ]
      refine wpAnyH_ready (rs := [5]) (by kernel_rfl) (by simp) ?_
      refine AllReadyH.cons rfl (fun K hK => ?_) AllReadyH.nil
      go_simp
      refine hst.mono ?_
      rintro e w2 ⟨rfl, t1, hI2⟩
      go_wp2_with fail
      refine hK.out _ _ ⟨(hfq.but t1 (by omega)).cell_ rfl, (hmq.but t1 (by omega)).cell_ rfl⟩ (fun hS => ?_)
      clear hK K
      try simp only [Act.put, List.setIfInBounds_toArray, List.set_cons_zero, List.set_cons_succ]
      refine wpAnyH_done (by kernel_rfl) ?_ _
      refine NoPanic.normal ?_
      go_wp2_with fail
      go_roundw
      case rel => exact ⟨i + 1, by omega, by go_num, (tw.trans (But.keep kq _)).trans t1, hI2⟩
      case measure => simp [intOf]; omega
    · obtain rfl : i = n := by omega
      go_wp2_with fail
      go_end0
      exact ⟨rfl, tw, hI⟩

set_option maxRecDepth 100000 in
set_option maxHeartbeats 2000000 in
theorem bids_no (w : World) (gm gf : Nat) (r o : Value) (hm : Blk w gm 66 [r, .slice none 0 0, o]) :
    Calls Tryd.prog 82 #[ptr gm 0, ptr gf 0] w fun e w' => e = .returned (.tuple #[]) ∧ Keep w w' := by
  have cm := hm.cell_ (i := 1) rfl
  go_enter Tryd.func82, Tryd.ntmps82
  go_wp2_with fail
  refine wp_loop_rounds 1 ?_
  rw [rounds_succ]
  go_wp2_with fail
  go_end0
  exact ⟨rfl, Keep.refl _⟩
end Go.Proofs.YtafiahnaeakcfaaDoor

namespace Go.Proofs.YtafiahnaeakcfaaDoor
open Go.RowKit

/-- The function values of the parts. -/
abbrev fn2 (B : Nat) : Value := .func (.func 80) #[] #[ptr (B + 3) 0, ptr (B + 1) 0]
abbrev fn3 (B : Nat) : Value := .func (.func 81) #[] #[ptr (B + 2) 0, ptr B 0, ptr (B + 1) 0]
abbrev fn4 (B : Nat) : Value := .func (.func 82) #[] #[ptr (B + 1) 0, ptr (B + 3) 0]
abbrev fn5 (B : Nat) : Value := .func (.func 83) #[] #[ptr (B + 3) 0, ptr (B + 1) 0]
abbrev nilS : Value := .slice none 0 0
/-- What stays all the while. -/
structure GF (w0 : World) (B : Nat) (w : World) : Prop where
  k : Keep w0 w
  f : Blk w (B + 3) 83 [rdFn B (B + 2)]
  p : Blk w (B + 4) 1 [fn2 B, fn3 B, fn4 B, fn5 B]
theorem GF.but {w0 w w' : World} {B : Nat} {S : Nat → Prop} (h : GF w0 B w) (hB : B = w0.heap.size) (t : But S w w') (h3 : ¬ S (B + 3)) (h4 : ¬ S (B + 4)) (hs : ∀ i, S i → B ≤ i) : GF w0 B w' :=
  ⟨h.k.but t (fun i hi => hB ▸ hs i hi), h.f.but t h3, h.p.but t h4⟩
theorem GF.keep {w0 w w' : World} {B : Nat} (h : GF w0 B w) (hk : Keep w w') : GF w0 B w' := ⟨h.k.trans hk, h.f.keep hk, h.p.keep hk⟩

/-- The list ahead; the list and the count; the list and the bids; all. -/
def g2 (xs : List Int) : Option (List Int × Nat × List Int) := match getL xs with
  | none => none
  | some R => match xs.drop (1 + 4 * R.length) with
    | [] => none
    | x :: ys => some (R, x.toNat, ys)
def g3 (xs : List Int) : Option (List Int × List (List Int) × List Int) := match g2 xs with
  | none => none
  | some (R, n, ys) => match getLs n ys with
    | none => none
    | some (bl, zs) => some (R, bl, zs)
def g4 (xs : List Int) : Option (List Int × List (List Int) × List Int × List Int) := match g3 xs with
  | none => none
  | some (R, bl, zs) => match getL zs with
    | none => none
    | some O => some (R, bl, O, zs.drop (1 + 4 * O.length))

def P0 (xs : List Int) (w0 : World) (B : Nat) (w : World) : Prop :=
  GF w0 B w ∧ Blk w (B + 2) 49 [.int .i64 0] ∧ Blk w (B + 1) 66 [nilS, nilS, nilS] ∧ Left w0 w B xs
def P1 (xs : List Int) (w0 : World) (B : Nat) (w : World) : Prop :=
  GF w0 B w ∧ match getL xs with
    | none => Blk w (B + 2) 49 [.int .i64 5] ∧ ∃ r o, Blk w (B + 1) 66 [r, nilS, o]
    | some R => ∃ A, Blk w (B + 2) 49 [.int .i64 0] ∧ Blk w (B + 1) 66 [.slice A R.length R.length, nilS, nilS] ∧ Fr 3 w B A R.length R.length (cs .i64 R) ∧ Left w0 w B (xs.drop (1 + 4 * R.length))
def P2 (xs : List Int) (w0 : World) (B : Nat) (w : World) : Prop :=
  GF w0 B w ∧ match g2 xs with
    | none => Blk w (B + 2) 49 [.int .i64 5] ∧ ∃ r o, Blk w (B + 1) 66 [r, nilS, o]
    | some (R, n, ys) => ∃ A gr, B + 5 ≤ gr ∧ Blk w (B + 2) 49 [.int .i64 0] ∧ Blk w (B + 1) 66 [.slice A R.length R.length, .slice (some ⟨gr, 0, none⟩) n n, nilS] ∧ Fr 3 w B A R.length R.length (cs .i64 R) ∧
        Blk w gr 23 (List.replicate n nilS) ∧ Left w0 w B ys ∧ n < 256
def P3 (xs : List Int) (w0 : World) (B : Nat) (w : World) : Prop :=
  GF w0 B w ∧ match g3 xs with
    | none => Blk w (B + 2) 49 [.int .i64 5] ∧ ∃ r b o, Blk w (B + 1) 66 [r, b, o]
    | some (R, bl, ys) => ∃ A gr, ∃ hs : List Sl, B + 5 ≤ gr ∧ Blk w (B + 2) 49 [.int .i64 0] ∧ Blk w (B + 1) 66 [.slice A R.length R.length, .slice (some ⟨gr, 0, none⟩) hs.length hs.length, nilS] ∧ Fr 3 w B A R.length R.length (cs .i64 R) ∧
        bidsOf hs = bl ∧ (∀ s ∈ hs, s.c = s.l.length ∧ Fr 3 w B s.a s.l.length s.c (cs .i64 s.l)) ∧ Blk w gr 23 (hs.map Sl.val) ∧ Left w0 w B ys ∧ hs.length < 256 ∧ ((⟨A, R.length, R⟩ : Sl) :: hs).Pairwise Sep
def P4 (xs : List Int) (w0 : World) (B : Nat) (w : World) : Prop :=
  GF w0 B w ∧ match g4 xs with
    | none => Blk w (B + 2) 49 [.int .i64 5] ∧ ∃ r b o, Blk w (B + 1) 66 [r, b, o]
    | some (R, bl, O, ys) => ∃ A gr A', ∃ hs : List Sl, B + 5 ≤ gr ∧ Blk w (B + 2) 49 [.int .i64 0] ∧ Blk w (B + 1) 66 [.slice A R.length R.length, .slice (some ⟨gr, 0, none⟩) hs.length hs.length, .slice A' O.length O.length] ∧ Fr 3 w B A R.length R.length (cs .i64 R) ∧
        bidsOf hs = bl ∧ (∀ s ∈ hs, s.c = s.l.length ∧ Fr 3 w B s.a s.l.length s.c (cs .i64 s.l)) ∧ Blk w gr 23 (hs.map Sl.val) ∧ Left w0 w B ys ∧ Fr 3 w B A' O.length O.length (cs .i64 O) ∧ hs.length < 256 ∧ (((⟨A, R.length, R⟩ : Sl) :: hs) ++ [(⟨A', O.length, O⟩ : Sl)]).Pairwise Sep

theorem Left.blk {w0 w : World} {gb : Nat} {xs : List Int} (h : Left w0 w gb xs) : ∃ v, Blk w gb 22 [v] := by
  obtain ⟨A, c, bb, _⟩ := h
  exact ⟨_, bb⟩
theorem Left.bytes {w0 w : World} {gb : Nat} {xs : List Int} (h : Left w0 w gb xs) : Bytes xs := by
  obtain ⟨A, c, bb, _, hB, _⟩ := h
  exact hB
/-- A row of ints is none of these blocks. -/
theorem Fr.apart {w : World} {base n c : Nat} {A : Option Addr} {vs : List Value} {a b g : Nat} {u v : Value} {t : TypeId} {l : List Value} (h : Fr 3 w base A n c vs) (ha : Blk w a 22 [u]) (hb : Blk w b 49 [v]) (hg : Blk w g t l) (ht : 3 ≠ t) :
    ∀ k, ownB A c = some k → ¬ (k = a ∨ k = b ∨ k = g) := fun k hk e => by
  rcases e with e | e | e
  · exact h.own_ne ha (by decide) k hk e.symm
  · exact h.own_ne hb (by decide) k hk e.symm
  · exact h.own_ne hg ht k hk e.symm

section
variable {xs : List Int} {w0 w : World} {B : Nat}
theorem part1 (hB : B = w0.heap.size) (h : P0 xs w0 B w) : Calls Tryd.prog 80 #[ptr (B + 3) 0, ptr (B + 1) 0] w fun e w' => e = .returned (.tuple #[]) ∧ P1 xs w0 B w' := by
  obtain ⟨hF, he, hm, hL⟩ := h
  refine (reserves_f xs B (B + 2) (B + 1) (B + 3) _ w0 w hF.k (by omega) (by omega) (by omega) rfl hF.f hL he hm).mono ?_
  rintro e w1 ⟨rfl, t, hp⟩
  refine ⟨rfl, hF.but hB t (by omega) (by omega) (fun i hi => by omega), ?_⟩
  cases hx : getL xs with
  | none =>
    rw [hx] at hp
    exact ⟨hp.2.2, _, _, hp.1⟩
  | some R =>
    rw [hx] at hp
    obtain ⟨A, m1, f1, e1, l1⟩ := hp
    exact ⟨A, e1, m1, f1.mono (by rw [hB]; exact hF.k.size), l1⟩
theorem part2 (hB : B = w0.heap.size) (h : P1 xs w0 B w) : Calls Tryd.prog 81 #[ptr (B + 2) 0, ptr B 0, ptr (B + 1) 0] w fun e w' => e = .returned (.tuple #[]) ∧ P2 xs w0 B w' := by
  obtain ⟨hF, h⟩ := h
  cases hx : getL xs with
  | none =>
    rw [hx] at h
    obtain ⟨he, r, o, hm⟩ := h
    refine (count_no w B (B + 1) (B + 2) 5 he rfl).mono ?_
    rintro e w1 ⟨rfl, k1⟩
    refine ⟨rfl, hF.keep k1, ?_⟩
    unfold g2
    rw [hx]
    exact ⟨he.keep k1, r, o, hm.keep k1⟩
  | some R =>
    rw [hx] at h
    obtain ⟨A, he, hm, hR, hL⟩ := h
    refine (count_f _ B (B + 2) (B + 1) _ w0 w hF.k (by omega) (by omega) (by omega) rfl hL he hm).mono ?_
    rintro e w1 ⟨rfl, t, hp⟩
    refine ⟨rfl, hF.but hB t (by omega) (by omega) (fun i hi => by omega), ?_⟩
    obtain ⟨u, hb⟩ := hL.blk
    have f1 := hR.but t (hR.apart hb he hm (by decide))
    have hby := hL.bytes
    unfold g2
    rw [hx]
    dsimp only
    cases hd : xs.drop (1 + 4 * R.length) with
    | nil =>
      rw [hd] at hp
      exact ⟨hp.2, _, _, hp.1⟩
    | cons x ys =>
      rw [hd] at hp hby
      obtain ⟨gr, hgr, hr, m1, e1, l1⟩ := hp
      have := hby.head
      have := hF.p.lt
      exact ⟨A, gr, by omega, e1, m1, f1, hr, l1, by omega⟩
theorem part3 (hB : B = w0.heap.size) (h : P2 xs w0 B w) : Calls Tryd.prog 82 #[ptr (B + 1) 0, ptr (B + 3) 0] w fun e w' => e = .returned (.tuple #[]) ∧ P3 xs w0 B w' := by
  obtain ⟨hF, h⟩ := h
  cases hx : g2 xs with
  | none =>
    rw [hx] at h
    obtain ⟨he, r, o, hm⟩ := h
    refine (bids_no w (B + 1) (B + 3) r o hm).mono ?_
    rintro e w1 ⟨rfl, k1⟩
    refine ⟨rfl, hF.keep k1, ?_⟩
    unfold g3
    rw [hx]
    exact ⟨he.keep k1, r, _, o, hm.keep k1⟩
  | some q =>
    obtain ⟨R, n, ys⟩ := q
    rw [hx] at h
    obtain ⟨A, gr, hgr, he, hm, hR, hr, hL, hn⟩ := h
    have h0 : BidsI ys n B (B + 2) gr w0 w.heap.size 0 w := by
      unfold BidsI getLs
      exact ⟨[], rfl, rfl, by simp, by simpa using hr, hL, he, List.Pairwise.nil⟩
    refine (bids_f ys n B (B + 2) (B + 1) (B + 3) gr _ _ w0 w hF.k hn (by omega) (by omega) (by omega) (by omega) (by omega) (by omega) (by omega) (by omega) (by omega) (by omega) (by omega) (by omega) hF.f hm h0).mono ?_
    rintro e w1 ⟨rfl, t, hp⟩
    refine ⟨rfl, hF.but hB t (by omega) (by omega) (fun i hi => by omega), ?_⟩
    obtain ⟨u, hb⟩ := hL.blk
    have f1 := hR.but t (hR.apart hb he hr (by decide))
    have m1 := hm.but t (by omega)
    unfold g3
    rw [hx]
    unfold BidsI at hp
    cases hy : getLs n ys with
    | none =>
      rw [hy] at hp
      simp only [hy]
      exact ⟨hp.1, _, _, _, m1⟩
    | some q =>
      obtain ⟨bl, zs⟩ := q
      rw [hy] at hp
      simp only [hy]
      obtain ⟨hs, b1, b2, b3, b4, b5, b6, b7⟩ := hp
      subst b2
      have hbase : B ≤ w.heap.size := by rw [hB]; exact hF.k.size
      exact ⟨A, gr, hs, hgr, b6, m1, f1, b1, fun s h => ⟨(b3 s h).1, (b3 s h).2.mono hbase⟩, by simpa using b4, b5, hn, List.pairwise_cons.2 ⟨fun s h k hk e => by
        have h3 := (hR.own_ge hk).2
        have h4 := ((b3 s h).2.own_ge e).1
        omega, b7⟩⟩
theorem part4 (hB : B = w0.heap.size) (h : P3 xs w0 B w) : Calls Tryd.prog 83 #[ptr (B + 3) 0, ptr (B + 1) 0] w fun e w' => e = .returned (.tuple #[]) ∧ P4 xs w0 B w' := by
  obtain ⟨hF, h⟩ := h
  cases hx : g3 xs with
  | none =>
    rw [hx] at h
    obtain ⟨he, r, b, o, hm⟩ := h
    refine (order_no w B (B + 1) (B + 2) (B + 3) 5 hF.f he rfl).mono ?_
    rintro e w1 ⟨rfl, k1⟩
    refine ⟨rfl, hF.keep k1, ?_⟩
    unfold g4
    rw [hx]
    exact ⟨he.keep k1, r, b, o, hm.keep k1⟩
  | some q =>
    obtain ⟨R, bl, ys⟩ := q
    rw [hx] at h
    obtain ⟨A, gr, hs, hgr, he, hm, hR, b1, b2, hr, hL, hn, hpw⟩ := h
    refine (order_f ys B (B + 2) (B + 1) (B + 3) _ w0 w hF.k (by omega) (by omega) (by omega) rfl hF.f hL he hm).mono ?_
    rintro e w1 ⟨rfl, t, hp⟩
    refine ⟨rfl, hF.but hB t (by omega) (by omega) (fun i hi => by omega), ?_⟩
    obtain ⟨u, hb⟩ := hL.blk
    have f1 := hR.but t (hR.apart hb he hm (by decide))
    have r1 := hr.but t (by omega)
    unfold g4
    rw [hx]
    cases hy : getL ys with
    | none =>
      rw [hy] at hp
      simp only [hy]
      exact ⟨hp.2.2, _, _, _, hp.1⟩
    | some O =>
      rw [hy] at hp
      simp only [hy]
      obtain ⟨A', m2, f2, e2, l2⟩ := hp
      exact ⟨A, gr, A', hs, hgr, e2, m2, f1, b1, fun s h => ⟨(b2 s h).1, (b2 s h).2.but t ((b2 s h).2.apart hb he hm (by decide))⟩, r1, l2, f2.mono (by rw [hB]; exact hF.k.size), hn, List.pairwise_append.2 ⟨hpw, List.pairwise_singleton _ _, fun s h1 t h2 k hk e => by
        rw [List.mem_singleton] at h2
        subst h2
        have h4 := (f2.own_ge e).1
        rcases List.mem_cons.1 h1 with h1 | h1
        · subst h1
          have h3 := (hR.own_ge hk).2
          omega
        · have h3 := ((b2 s h1).2.own_ge hk).2
          omega⟩⟩
end
end Go.Proofs.YtafiahnaeakcfaaDoor

namespace Go.Proofs.YtafiahnaeakcfaaDoor
open Go.RowKit

/-- The market of none. -/
abbrev zeroM : Value := .agg #[nilS, nilS, nilS]
/-- What Get leaves. -/
def GetMP (xs : List Int) (w : World) (e : Ending) (w' : World) : Prop :=
  Keep w w' ∧ match g4 xs with
  | none => e = .returned (.tuple #[zeroM, .int .i64 5])
  | some (R, bl, O, rest) =>
    if (rest = [] ∧ chkM R bl O = true) then ∃ N : Mkt, e = .returned (.tuple #[N.val, .int .i64 0]) ∧ N.Ok w' ∧ N.r.l = R ∧ bidsOf N.bs = bl ∧ N.o.l = O ∧ N.Own w.heap.size w' ∧ (N.r :: N.bs ++ [N.o]).Pairwise Sep
    else e = .returned (.tuple #[zeroM, .int .i64 4])

theorem mg_results {fn : Func} {tmps : Array Value} {w : World} {bm be : Nat} {v0 v1 v2 x : Value} (h : fn.results = #[ResultVar.cell 2 66, ResultVar.cell 3 49]) (hm : Blk w bm 66 [v0, v1, v2]) (he : Blk w be 49 [x])
    (t2 : tmps[2]?.getD undef = ptr bm 0) (t3 : tmps[3]?.getD undef = ptr be 0) : (results fn tmps).run Tryd.prog w = .ok (.tuple #[.agg #[v0, v1, v2], x]) w := by
  have m0 := hm.cell_ (i := 0) rfl
  have m1 := hm.cell_ (i := 1) rfl
  have m2 := hm.cell_ (i := 2) rfl
  have c1 := he.cell_ (i := 0) rfl
  simp [results, h, t2, t3, m0, m1, m2, c1, asAddr, go_sem]
theorem getL_range {xs zs : List Int} (hb : Bytes xs) (h : getL xs = some zs) : ∀ x ∈ zs, 0 ≤ x ∧ x < 4294967296 := by
  unfold getL at h
  split at h
  · cases h
  · injection h with h
    subst h
    intro x hx
    obtain ⟨i, _, rfl⟩ := List.mem_map.1 hx
    unfold num4
    have := val_lt ((hb.drop (1 + 4 * i)).take 4)
    have hl : ((xs.drop (1 + 4 * i)).take 4).length ≤ 4 := by simp; omega
    have hp : 256 ^ ((xs.drop (1 + 4 * i)).take 4).length ≤ 256 ^ 4 := Nat.pow_le_pow_right (by decide) hl
    omega
theorem getLs_range {n : Nat} {xs : List Int} (hb : Bytes xs) : ∀ {bl ys}, getLs n xs = some (bl, ys) → (∀ b ∈ bl, ∀ x ∈ b, 0 ≤ x ∧ x < 4294967296) ∧ Bytes ys := by
  induction n with
  | zero =>
    intro bl ys h
    injection h with h
    cases h
    exact ⟨fun b h => (by cases h), hb⟩
  | succ n ih =>
    intro bl ys h
    rw [getLs_succ] at h
    cases h1 : getLs n xs with
    | none => rw [h1] at h; cases h
    | some q =>
      obtain ⟨b0, y0⟩ := q
      rw [h1] at h
      simp only at h
      obtain ⟨i1, i2⟩ := ih h1
      cases h2 : getL y0 with
      | none => rw [h2] at h; cases h
      | some zs =>
        rw [h2] at h
        injection h with h
        cases h
        refine ⟨fun b hb' => ?_, i2.drop _⟩
        rcases List.mem_append.1 hb' with h' | h'
        · exact i1 b h'
        · rw [List.mem_singleton] at h'
          subst h'
          exact getL_range i2 h2
theorem g4_range {xs R O rest : List Int} {bl : List (List Int)} (hb : Bytes xs) (h : g4 xs = some (R, bl, O, rest)) : (∀ x ∈ R, 0 ≤ x ∧ x < 4294967296) ∧ (∀ b ∈ bl, ∀ x ∈ b, 0 ≤ x ∧ x < 4294967296) ∧ ∀ x ∈ O, 0 ≤ x ∧ x < 4294967296 := by
  unfold g4 at h
  split at h
  · cases h
  · rename_i R' bl' zs h3
    split at h
    · cases h
    · rename_i O' hO
      injection h with h
      cases h
      unfold g3 at h3
      split at h3
      · cases h3
      · rename_i R'' n ys h2
        split at h3
        · cases h3
        · rename_i bl'' zs' hl
          injection h3 with h3
          cases h3
          unfold g2 at h2
          split at h2
          · cases h2
          · rename_i R3 hR
            split at h2
            · cases h2
            · rename_i x ys' hd
              injection h2 with h2
              cases h2
              have hy : Bytes (x :: ys) := hd ▸ hb.drop _
              obtain ⟨q1, q2⟩ := getLs_range hy.tail hl
              exact ⟨getL_range hb hR, q1, getL_range q2 hO⟩
theorem got_ok {w : World} {B gr : Nat} {A1 A2 : Option Addr} {R O : List Int} {hs : List Sl} (f1 : Fr 3 w B A1 R.length R.length (cs .i64 R)) (f2 : Fr 3 w B A2 O.length O.length (cs .i64 O)) (br : Blk w gr 23 (hs.map Sl.val)) (hn : hs.length < 256)
    (b2 : ∀ s ∈ hs, s.c = s.l.length ∧ Fr 3 w B s.a s.l.length s.c (cs .i64 s.l)) (r1 : ∀ x ∈ R, 0 ≤ x ∧ x < 4294967296) (r2 : ∀ b ∈ bidsOf hs, ∀ x ∈ b, 0 ≤ x ∧ x < 4294967296) (r3 : ∀ x ∈ O, 0 ≤ x ∧ x < 4294967296) :
    (Mkt.mk ⟨A1, R.length, R⟩ (some ⟨gr, 0, none⟩) hs.length hs ⟨A2, O.length, O⟩).Ok w := by
  have wf : ∀ {x : Int}, 0 ≤ x ∧ x < 4294967296 → (Lit.int .i64 x).wf = true := fun h => WalkArith.wf_i64 (by omega)
  refine ⟨⟨⟨f1.rd, Nat.le_refl _, f1.capMax, fun x h => wf (r1 x h)⟩, f1.capNil⟩, ⟨br.rd, Nat.le_refl _, by unfold maxLen; simp only; omega, fun s h => ?_⟩, (fun h => by cases h), ⟨⟨f2.rd, Nat.le_refl _, f2.capMax, fun x h => wf (r3 x h)⟩, f2.capNil⟩⟩
  obtain ⟨q1, q2⟩ := b2 s h
  exact ⟨⟨q2.rd, q2.cap, q2.capMax, fun x hx => wf (r2 s.l (List.mem_map.2 ⟨s, h, rfl⟩) x hx)⟩, q2.capNil⟩

set_option maxRecDepth 100000 in
set_option maxHeartbeats 8000000 in
theorem getM_f (A : Option Addr) (c : Nat) (xs : List Int) (w : World) (ha : Rd w A (cs .u8 xs)) (hb : Bytes xs) (hc : xs.length ≤ c) (lc : Len c) :
    Calls Tryd.prog 37 #[.slice A xs.length c] w (GetMP xs w) := by
  have b0 : Blk (w.alloc (.cells #[.slice A xs.length c] 22)) w.heap.size 22 [.slice A xs.length c] := Blk.new w _ _
  have b1 : Blk ((w.alloc (.cells #[.slice A xs.length c] 22)).alloc (.cells #[.slice none 0 0, .slice none 0 0, .slice none 0 0] 66)) (w.heap.size + 1) 66 [nilS, nilS, nilS] := by
    have h := Blk.new (w.alloc (.cells #[.slice A xs.length c] 22)) 66 [nilS, nilS, nilS]
    simpa using h
  have b2 : Blk (((w.alloc (.cells #[.slice A xs.length c] 22)).alloc (.cells #[.slice none 0 0, .slice none 0 0, .slice none 0 0] 66)).alloc (.cells #[.int .i64 0] 49)) (w.heap.size + 1 + 1) 49 [.int .i64 0] := by
    have h := Blk.new ((w.alloc (.cells #[.slice A xs.length c] 22)).alloc (.cells #[.slice none 0 0, .slice none 0 0, .slice none 0 0] 66)) 49 [.int .i64 0]
    simpa using h
  have b3 : Blk ((((w.alloc (.cells #[.slice A xs.length c] 22)).alloc (.cells #[.slice none 0 0, .slice none 0 0, .slice none 0 0] 66)).alloc (.cells #[.int .i64 0] 49)).alloc (.cells #[.nilFunc] 83)) (w.heap.size + 1 + 1 + 1) 83 [.nilFunc] := by
    have h := Blk.new (((w.alloc (.cells #[.slice A xs.length c] 22)).alloc (.cells #[.slice none 0 0, .slice none 0 0, .slice none 0 0] 66)).alloc (.cells #[.int .i64 0] 49)) 83 [.nilFunc]
    simpa using h
  have c3 := b3.cell_ (i := 0) rfl
  have f3 := b3.frozen 0
  go_enter Tryd.func37, Tryd.ntmps37
  go_upto_region 3 with fail
  obtain ⟨B, hB⟩ : ∃ B, B = w.heap.size := ⟨_, rfl⟩
  rw [← hB] at b0 b1 b2 ⊢
  have b3' : Blk ((((w.alloc (.cells #[.slice A xs.length c] 22)).alloc (.cells #[.slice none 0 0, .slice none 0 0, .slice none 0 0] 66)).alloc (.cells #[.int .i64 0] 49)).alloc (.cells #[rdFn B (B + 2)] 83)) (B + 3) 83 [rdFn B (B + 2)] := by
    have h := Blk.new (((w.alloc (.cells #[.slice A xs.length c] 22)).alloc (.cells #[.slice none 0 0, .slice none 0 0, .slice none 0 0] 66)).alloc (.cells #[.int .i64 0] 49)) 83 [rdFn B (B + 2)]
    simpa [hB] using h
  have b4 : Blk (((((w.alloc (.cells #[.slice A xs.length c] 22)).alloc (.cells #[.slice none 0 0, .slice none 0 0, .slice none 0 0] 66)).alloc (.cells #[.int .i64 0] 49)).alloc (.cells #[rdFn B (B + 2)] 83)).alloc (.cells #[fn2 B, fn3 B, fn4 B, fn5 B] 1)) (B + 4) 1 [fn2 B, fn3 B, fn4 B, fn5 B] := by
    have h := Blk.new ((((w.alloc (.cells #[.slice A xs.length c] 22)).alloc (.cells #[.slice none 0 0, .slice none 0 0, .slice none 0 0] 66)).alloc (.cells #[.int .i64 0] 49)).alloc (.cells #[rdFn B (B + 2)] 83)) 1 [fn2 B, fn3 B, fn4 B, fn5 B]
    simpa [hB] using h
  have k5 : Keep (((w.alloc (.cells #[.slice A xs.length c] 22)).alloc (.cells #[.slice none 0 0, .slice none 0 0, .slice none 0 0] 66)).alloc (.cells #[.int .i64 0] 49)) ((((w.alloc (.cells #[.slice A xs.length c] 22)).alloc (.cells #[.slice none 0 0, .slice none 0 0, .slice none 0 0] 66)).alloc (.cells #[.int .i64 0] 49)).alloc (.cells #[rdFn B (B + 2)] 83)) := Keep.alloc1 _ _
  have k6 : Keep ((((w.alloc (.cells #[.slice A xs.length c] 22)).alloc (.cells #[.slice none 0 0, .slice none 0 0, .slice none 0 0] 66)).alloc (.cells #[.int .i64 0] 49)).alloc (.cells #[rdFn B (B + 2)] 83)) (((((w.alloc (.cells #[.slice A xs.length c] 22)).alloc (.cells #[.slice none 0 0, .slice none 0 0, .slice none 0 0] 66)).alloc (.cells #[.int .i64 0] 49)).alloc (.cells #[rdFn B (B + 2)] 83)).alloc (.cells #[fn2 B, fn3 B, fn4 B, fn5 B] 1)) := Keep.alloc1 _ _
  have p0 : P0 xs w B (((((w.alloc (.cells #[.slice A xs.length c] 22)).alloc (.cells #[.slice none 0 0, .slice none 0 0, .slice none 0 0] 66)).alloc (.cells #[.int .i64 0] 49)).alloc (.cells #[rdFn B (B + 2)] 83)).alloc (.cells #[fn2 B, fn3 B, fn4 B, fn5 B] 1)) := ⟨⟨(((((Keep.alloc1 _ _).trans (Keep.alloc1 _ _)).trans (Keep.alloc1 _ _)).trans k5).trans k6), b3'.keep k6, b4⟩, (b2.keep k5).keep k6, ((b1.keep (Keep.alloc1 _ _)).keep k5).keep k6,
    ⟨A, c, (((b0.keep (Keep.alloc1 _ _)).keep (Keep.alloc1 _ _)).keep k5).keep k6, ha, hb, hc, lc⟩⟩
  change Code.wp _ _ _ _ (((((w.alloc (.cells #[.slice A xs.length c] 22)).alloc (.cells #[.slice none 0 0, .slice none 0 0, .slice none 0 0] 66)).alloc (.cells #[.int .i64 0] 49)).alloc (.cells #[rdFn B (B + 2)] 83)).alloc (.cells #[fn2 B, fn3 B, fn4 B, fn5 B] 1))
  generalize (((((w.alloc (.cells #[.slice A xs.length c] 22)).alloc (.cells #[.slice none 0 0, .slice none 0 0, .slice none 0 0] 66)).alloc (.cells #[.int .i64 0] 49)).alloc (.cells #[rdFn B (B + 2)] 83)).alloc (.cells #[fn2 B, fn3 B, fn4 B, fn5 B] 1)) = w1 at p0 ⊢
  rw [show B + 1 + 1 + 1 + 1 = B + 4 from rfl, show B + 1 + 1 + 1 = B + 3 from rfl, show B + 1 + 1 = B + 2 from rfl]
  clear b3 b3' b4 k5 k6 c3 f3 b0 b1 b2
  have HB := Lib.hid hB
  clear hB
  go_wp2_with fail
  refine wp_loop_rounds 5 ?_
  rw [rounds_succ]
  have q0 := p0.1.p.cell_ (i := 0) rfl
  have h0 := part1 HB.out p0
  go_wp2_with fail
  refine h0.mono ?_
  rintro e w2 ⟨rfl, p1⟩
  clear h0 q0 p0
  go_wp2_with fail
  rw [rounds_succ]
  have q1 := p1.1.p.cell_ (i := 1) rfl
  have h1 := part2 HB.out p1
  go_wp2_with fail
  refine h1.mono ?_
  rintro e w3 ⟨rfl, p2⟩
  clear h1 q1 p1
  go_wp2_with fail
  rw [rounds_succ]
  have q2 := p2.1.p.cell_ (i := 2) rfl
  have h2 := part3 HB.out p2
  go_wp2_with fail
  refine h2.mono ?_
  rintro e w4 ⟨rfl, p3⟩
  clear h2 q2 p2
  go_wp2_with fail
  rw [rounds_succ]
  have q3 := p3.1.p.cell_ (i := 3) rfl
  have h3 := part4 HB.out p3
  go_wp2_with fail
  refine h3.mono ?_
  rintro e w5 ⟨rfl, p4⟩
  clear h3 q3 p3
  go_wp2_with fail
  rw [rounds_succ]
  obtain ⟨hF, h⟩ := p4
  have kk := hF.k
  clear hF
  cases hx : g4 xs with
  | none =>
    rw [hx] at h
    obtain ⟨be, r, b, o, bm⟩ := h
    have HX := Lib.hid hx
    clear hx
    have ce := be.cell_ (i := 0) rfl
    go_upto_region 11 with fail
    refine wp_region_noPanic ?_
    refine wp_region_held_drew (S := (fun w' => w'.cell? ⟨B + 2, 0, none⟩ = some (.int .i64 5))) (by kernel_rfl) (be.cell_ (i := 0) rfl) (fun hS => ?_)
    replace be := be.keep (Keep.refl w5).drew
    replace bm := bm.keep (Keep.refl w5).drew
    replace kk := kk.trans (Keep.refl w5).drew
    generalize w5.drew = wq at be bm kk hS ⊢
    refine wpAnyH_take (i := 0) (v := ?_) rfl (by kernel_rfl) (by kernel_rfl) (by kernel_rfl) (fun _ _ _ h => h) (Or.inl ⟨by rfl, ?_⟩) hS ?_
    rotate_left
    · (intro w hSw; (try dsimp only at hSw); go_simp; (first | done | with_reducible rfl))
    change wpAnyH _ _ _ _ _ _ _ (Act.put _ (some 37) _) _
    simp only [Act.put, List.setIfInBounds_toArray, List.set_cons_zero, List.set_cons_succ]
    refine wpAnyH_take (i := 1) (v := ?_) rfl (by kernel_rfl) (by kernel_rfl) (by kernel_rfl) (fun _ _ _ h => h) (Or.inl ⟨by rfl, ?_⟩) hS ?_
    rotate_left
    · (intro w hSw; (try dsimp only at hSw); go_simp; (first | done | with_reducible rfl))
    change wpAnyH _ _ _ _ _ _ _ (Act.put _ (some 38) _) _
    simp only [Act.put, List.setIfInBounds_toArray, List.set_cons_zero, List.set_cons_succ]
    refine wpAnyH_ready (rs := [2]) (by kernel_rfl) (by simp) ?_
    refine AllReadyH.cons rfl (fun K hK => ?_) AllReadyH.nil
    rw [if_pos (by rfl)]
    refine wp_store_row 66 _ _ rfl (B + 1) #[.slice none 0 0, .slice none 0 0, .slice none 0 0] rfl rfl _ _ bm (by kernel_rfl) rfl (by simp [Value.oneCell']) ?_
    have og := only_row wq (B + 1) #[.slice none 0 0, .slice none 0 0, .slice none 0 0]
    replace bm := bm.row #[.slice none 0 0, .slice none 0 0, .slice none 0 0]
    replace be := be.grown og (fun e => by injection e with e; omega)
    replace kk := kk.grown og (fun k e => by injection e with e; have := HB.out; have := kk.size; omega)
    clear og
    have fe3 := be.frozen 0
    refine hK.out _ _ (be.cell_ (i := 0) rfl) (fun hS => ?_)
    clear hK K
    try simp only [Act.put, List.setIfInBounds_toArray]
    refine wpAnyH_ready (rs := [3]) (by kernel_rfl) (by simp) ?_
    refine AllReadyH.cons rfl (fun K hK => ?_) AllReadyH.nil
    go_simp
    replace bm := bm.far (p := ⟨B + 2, 0, none⟩) (by simp only; omega) (.int .i64 5)
    replace be := be.set_ 0 (.int .i64 5)
    replace kk := kk.setCell (p := ⟨B + 2, 0, none⟩) (by have := HB.out; simp only; omega) (.int .i64 5)
    go_wp2_with fail
    refine hK.out _ _ (be.cell_ (i := 0) rfl) (fun hS => ?_)
    clear hK K
    try simp only [Act.put, List.setIfInBounds_toArray]
    refine wpAnyH_done (by kernel_rfl) ?_ _
    refine NoPanic.normal ?_
    go_wp2_with fail
    refine bodyPost_ret (mg_results rfl bm be rfl rfl) rfl ?_
    exact ⟨kk, by rw [HX.out]⟩
  | some q =>
    obtain ⟨R, bl, O, rest⟩ := q
    rw [hx] at h
    obtain ⟨A1, gr, A2, hs, hgr, be, bm, f1, b1, b2, br, ⟨A3, c3, bb, rd3, hB3, hc3, lc3⟩, f2, hn, hpw⟩ := h
    obtain ⟨r1, r2, r3⟩ := g4_range hb hx
    have ce := be.cell_ (i := 0) rfl
    have fe := be.frozen 0
    have cb := bb.cell_ (i := 0) rfl
    have HX := Lib.hid hx
    clear hx
    by_cases hr : rest = []
    · subst hr
      have hM : (Mkt.mk ⟨A1, R.length, R⟩ (some ⟨gr, 0, none⟩) hs.length hs ⟨A2, O.length, O⟩).Ok w5 := got_ok f1 f2 br hn b2 r1 (by rw [b1]; exact r2) r3
      have hck := mcheck_f _ w5 hM
      simp only [Mkt.val] at hck
      rw [b1] at hck
      have c0 := bm.cell_ (i := 0) rfl
      have c1 := bm.cell_ (i := 1) rfl
      have c2 := bm.cell_ (i := 2) rfl
      cases hk : chkM R bl O with
      | false =>
        rw [hk] at hck
        have HK := Lib.hid hk
        clear hk
        go_wp2_with fail
        refine hck.mono ?_
        rintro e w6 ⟨rfl, k6⟩
        clear hck
        replace be := be.keep k6
        replace bm := bm.keep k6
        replace kk := kk.trans k6
        clear ce fe cb c0 c1 c2
        have ce := be.cell_ (i := 0) rfl
        have fe := be.frozen 0
        go_upto_region 10 with fail
        replace bm := bm.far (p := ⟨B + 2, 0, none⟩) (by simp only; omega) (.int .i64 4)
        replace be := be.set_ 0 (.int .i64 4)
        replace kk := kk.setCell (p := ⟨B + 2, 0, none⟩) (by have := HB.out; simp only; omega) (.int .i64 4)
        generalize w6.setCell ⟨B + 2, 0, none⟩ (.int .i64 4) = w7 at be bm kk ⊢
        clear ce fe
        have ce := be.cell_ (i := 0) rfl
        go_upto_region 11 with fail
        refine wp_region_noPanic ?_
        refine wp_region_held_drew (S := (fun w' => w'.cell? ⟨B + 2, 0, none⟩ = some (.int .i64 4))) (by kernel_rfl) (be.cell_ (i := 0) rfl) (fun hS => ?_)
        replace be := be.keep (Keep.refl w7).drew
        replace bm := bm.keep (Keep.refl w7).drew
        replace kk := kk.trans (Keep.refl w7).drew
        generalize w7.drew = wq at be bm kk hS ⊢
        refine wpAnyH_take (i := 0) (v := ?_) rfl (by kernel_rfl) (by kernel_rfl) (by kernel_rfl) (fun _ _ _ h => h) (Or.inl ⟨by rfl, ?_⟩) hS ?_
        rotate_left
        · (intro w hSw; (try dsimp only at hSw); go_simp; (first | done | with_reducible rfl))
        change wpAnyH _ _ _ _ _ _ _ (Act.put _ (some 37) _) _
        simp only [Act.put, List.setIfInBounds_toArray, List.set_cons_zero, List.set_cons_succ]
        refine wpAnyH_take (i := 1) (v := ?_) rfl (by kernel_rfl) (by kernel_rfl) (by kernel_rfl) (fun _ _ _ h => h) (Or.inl ⟨by rfl, ?_⟩) hS ?_
        rotate_left
        · (intro w hSw; (try dsimp only at hSw); go_simp; (first | done | with_reducible rfl))
        change wpAnyH _ _ _ _ _ _ _ (Act.put _ (some 38) _) _
        simp only [Act.put, List.setIfInBounds_toArray, List.set_cons_zero, List.set_cons_succ]
        refine wpAnyH_ready (rs := [2]) (by kernel_rfl) (by simp) ?_
        refine AllReadyH.cons rfl (fun K hK => ?_) AllReadyH.nil
        rw [if_pos (by rfl)]
        refine wp_store_row 66 _ _ rfl (B + 1) #[.slice none 0 0, .slice none 0 0, .slice none 0 0] rfl rfl _ _ bm (by kernel_rfl) rfl (by simp [Value.oneCell']) ?_
        have og := only_row wq (B + 1) #[.slice none 0 0, .slice none 0 0, .slice none 0 0]
        replace bm := bm.row #[.slice none 0 0, .slice none 0 0, .slice none 0 0]
        replace be := be.grown og (fun e => by injection e with e; omega)
        replace kk := kk.grown og (fun k e => by injection e with e; have := HB.out; have := kk.size; omega)
        clear og
        have fe3 := be.frozen 0
        refine hK.out _ _ (be.cell_ (i := 0) rfl) (fun hS => ?_)
        clear hK K
        try simp only [Act.put, List.setIfInBounds_toArray]
        refine wpAnyH_ready (rs := [3]) (by kernel_rfl) (by simp) ?_
        refine AllReadyH.cons rfl (fun K hK => ?_) AllReadyH.nil
        go_simp
        replace bm := bm.far (p := ⟨B + 2, 0, none⟩) (by simp only; omega) (.int .i64 4)
        replace be := be.set_ 0 (.int .i64 4)
        replace kk := kk.setCell (p := ⟨B + 2, 0, none⟩) (by have := HB.out; simp only; omega) (.int .i64 4)
        go_wp2_with fail
        refine hK.out _ _ (be.cell_ (i := 0) rfl) (fun hS => ?_)
        clear hK K
        try simp only [Act.put, List.setIfInBounds_toArray]
        refine wpAnyH_done (by kernel_rfl) ?_ _
        refine NoPanic.normal ?_
        go_wp2_with fail
        refine bodyPost_ret (mg_results rfl bm be rfl rfl) rfl ?_
        unfold GetMP
        rw [HX.out]
        dsimp only
        exact ⟨kk, by rw [if_neg (by rw [HK.out]; simp)]⟩
      | true =>
        rw [hk] at hck
        have HK := Lib.hid hk
        clear hk
        go_wp2_with fail
        refine hck.mono ?_
        rintro e w6 ⟨rfl, k6⟩
        clear hck
        replace be := be.keep k6
        replace bm := bm.keep k6
        replace br := br.keep k6
        replace kk := kk.trans k6
        replace f1 := f1.keep k6
        replace f2 := f2.keep k6
        replace b2 := fun s hs' => (show s.c = s.l.length ∧ Fr 3 w6 B s.a s.l.length s.c (cs .i64 s.l) from ⟨(b2 s hs').1, (b2 s hs').2.keep k6⟩)
        clear ce fe cb c0 c1 c2 hM bb
        have ce := be.cell_ (i := 0) rfl
        have c0 := bm.cell_ (i := 0) rfl
        have c1 := bm.cell_ (i := 1) rfl
        have c2 := bm.cell_ (i := 2) rfl
        have og := only_row w6 (B + 1) #[.slice A1 R.length R.length, .slice (some ⟨gr, 0, none⟩) hs.length hs.length, .slice A2 O.length O.length]
        have be' := be.grown og (fun e => by injection e with e; omega)
        have ce' := be'.cell_ (i := 0) rfl
        have fe' := be'.frozen 0
        go_wp2_with (refine wpList_store_row rfl 66 _ _ rfl (B + 1) #[.slice A1 R.length R.length, .slice (some ⟨gr, 0, none⟩) hs.length hs.length, .slice A2 O.length O.length] rfl rfl _ _ bm (by kernel_rfl) rfl (by simp [Value.oneCell']) ?_)
        have t6 : But (fun k => k = B + 1 ∨ k = B + 2) w6 ((w6.setRow (B + 1) #[.slice A1 R.length R.length, .slice (some ⟨gr, 0, none⟩) hs.length hs.length, .slice A2 O.length O.length]).setCell ⟨B + 2, 0, none⟩ (.int .i64 0)) := ((But.refl _ _).grown og (fun k e => by injection e with e; exact .inl e.symm)).setCell (.inr rfl) _
        have bm' := (bm.row #[.slice A1 R.length R.length, .slice (some ⟨gr, 0, none⟩) hs.length hs.length, .slice A2 O.length O.length]).far (p := ⟨B + 2, 0, none⟩) (by simp only; omega) (.int .i64 0)
        have far : ∀ {n c : Nat} {A : Option Addr} {vs : List Value}, Fr 3 w6 B A n c vs → Fr 3 ((w6.setRow (B + 1) #[.slice A1 R.length R.length, .slice (some ⟨gr, 0, none⟩) hs.length hs.length, .slice A2 O.length O.length]).setCell ⟨B + 2, 0, none⟩ (.int .i64 0)) B A n c vs := fun h =>
          h.but t6 (fun k hk e => e.elim (fun e => h.own_ne bm (by decide) k hk e.symm) (fun e => h.own_ne be (by decide) k hk e.symm))
        have f1' := far f1
        have f2' := far f2
        have br' := br.but t6 (by omega)
        have b2' := fun s hs' => (show s.c = s.l.length ∧ Fr 3 ((w6.setRow (B + 1) #[.slice A1 R.length R.length, .slice (some ⟨gr, 0, none⟩) hs.length hs.length, .slice A2 O.length O.length]).setCell ⟨B + 2, 0, none⟩ (.int .i64 0)) B s.a s.l.length s.c (cs .i64 s.l) from ⟨(b2 s hs').1, far (b2 s hs').2⟩)
        have kk' := kk.but t6 (fun k e => by have := HB.out; omega)
        refine bodyPost_ret (mg_results rfl bm' (be'.set_ 0 _) rfl rfl) rfl ?_
        unfold GetMP
        rw [HX.out]
        dsimp only
        rw [if_pos ⟨rfl, HK.out⟩]
        have hb0 := HB.out
        refine ⟨kk', Mkt.mk ⟨A1, R.length, R⟩ (some ⟨gr, 0, none⟩) hs.length hs ⟨A2, O.length, O⟩, rfl, got_ok f1' f2' br' hn b2' r1 (by rw [b1]; exact r2) r3, rfl, b1, rfl, ?_⟩
        rw [← hb0]
        exact ⟨⟨f1', ⟨gr, rfl, by omega, br'⟩, rfl, fun s hs' => (b2' s hs').2, f2'⟩, hpw⟩
    · have z0 : 0 < rest.length := List.length_pos_iff.2 hr
      have z1 : (0 : Int) < rest.length := by omega
      have HR := Lib.hid hr
      clear hr z0
      go_upto_region 10 with fail
      replace bm := bm.far (p := ⟨B + 2, 0, none⟩) (by simp only; omega) (.int .i64 4)
      replace be := be.set_ 0 (.int .i64 4)
      replace kk := kk.setCell (p := ⟨B + 2, 0, none⟩) (by have := HB.out; simp only; omega) (.int .i64 4)
      generalize w5.setCell ⟨B + 2, 0, none⟩ (.int .i64 4) = w7 at be bm kk ⊢
      clear ce fe
      have ce := be.cell_ (i := 0) rfl
      go_upto_region 11 with fail
      refine wp_region_noPanic ?_
      refine wp_region_held_drew (S := (fun w' => w'.cell? ⟨B + 2, 0, none⟩ = some (.int .i64 4))) (by kernel_rfl) (be.cell_ (i := 0) rfl) (fun hS => ?_)
      replace be := be.keep (Keep.refl w7).drew
      replace bm := bm.keep (Keep.refl w7).drew
      replace kk := kk.trans (Keep.refl w7).drew
      generalize w7.drew = wq at be bm kk hS ⊢
      refine wpAnyH_take (i := 0) (v := ?_) rfl (by kernel_rfl) (by kernel_rfl) (by kernel_rfl) (fun _ _ _ h => h) (Or.inl ⟨by rfl, ?_⟩) hS ?_
      rotate_left
      · (intro w hSw; (try dsimp only at hSw); go_simp; (first | done | with_reducible rfl))
      change wpAnyH _ _ _ _ _ _ _ (Act.put _ (some 37) _) _
      simp only [Act.put, List.setIfInBounds_toArray, List.set_cons_zero, List.set_cons_succ]
      refine wpAnyH_take (i := 1) (v := ?_) rfl (by kernel_rfl) (by kernel_rfl) (by kernel_rfl) (fun _ _ _ h => h) (Or.inl ⟨by rfl, ?_⟩) hS ?_
      rotate_left
      · (intro w hSw; (try dsimp only at hSw); go_simp; (first | done | with_reducible rfl))
      change wpAnyH _ _ _ _ _ _ _ (Act.put _ (some 38) _) _
      simp only [Act.put, List.setIfInBounds_toArray, List.set_cons_zero, List.set_cons_succ]
      refine wpAnyH_ready (rs := [2]) (by kernel_rfl) (by simp) ?_
      refine AllReadyH.cons rfl (fun K hK => ?_) AllReadyH.nil
      rw [if_pos (by rfl)]
      refine wp_store_row 66 _ _ rfl (B + 1) #[.slice none 0 0, .slice none 0 0, .slice none 0 0] rfl rfl _ _ bm (by kernel_rfl) rfl (by simp [Value.oneCell']) ?_
      have og := only_row wq (B + 1) #[.slice none 0 0, .slice none 0 0, .slice none 0 0]
      replace bm := bm.row #[.slice none 0 0, .slice none 0 0, .slice none 0 0]
      replace be := be.grown og (fun e => by injection e with e; omega)
      replace kk := kk.grown og (fun k e => by injection e with e; have := HB.out; have := kk.size; omega)
      clear og
      have fe3 := be.frozen 0
      refine hK.out _ _ (be.cell_ (i := 0) rfl) (fun hS => ?_)
      clear hK K
      try simp only [Act.put, List.setIfInBounds_toArray]
      refine wpAnyH_ready (rs := [3]) (by kernel_rfl) (by simp) ?_
      refine AllReadyH.cons rfl (fun K hK => ?_) AllReadyH.nil
      go_simp
      replace bm := bm.far (p := ⟨B + 2, 0, none⟩) (by simp only; omega) (.int .i64 4)
      replace be := be.set_ 0 (.int .i64 4)
      replace kk := kk.setCell (p := ⟨B + 2, 0, none⟩) (by have := HB.out; simp only; omega) (.int .i64 4)
      go_wp2_with fail
      refine hK.out _ _ (be.cell_ (i := 0) rfl) (fun hS => ?_)
      clear hK K
      try simp only [Act.put, List.setIfInBounds_toArray]
      refine wpAnyH_done (by kernel_rfl) ?_ _
      refine NoPanic.normal ?_
      go_wp2_with fail
      refine bodyPost_ret (mg_results rfl bm be rfl rfl) rfl ?_
      unfold GetMP
      rw [HX.out]
      dsimp only
      exact ⟨kk, by rw [if_neg (fun h => HR.out h.1)]⟩
end Go.Proofs.YtafiahnaeakcfaaDoor

namespace Go.Proofs.YtafiahnaeakcfaaDoor
open Go.RowKit

theorem val_drop {xs : List Int} {k j : Nat} {x : Int} (hj : j < k) (hx : xs[j]? = some x) : val ((xs.take k).drop j) = x.toNat + 256 * val ((xs.take k).drop (j + 1)) := by
  have h1 : (xs.take k)[j]? = some x := by rw [List.getElem?_take, if_pos hj, hx]
  obtain ⟨hl, he⟩ := List.getElem?_eq_some_iff.1 h1
  rw [List.drop_eq_getElem_cons hl, he]
  rfl

set_option maxRecDepth 100000 in
set_option maxHeartbeats 2000000 in
theorem refGet_f (A : Option Addr) (c : Nat) (xs : List Int) (n : Int) (w : World) (ha : Rd w A (cs .u8 xs)) (hb : Bytes xs) (hc : xs.length ≤ c) (lc : Len c) (hn : -9223372036854775808 ≤ n ∧ n ≤ 9223372036854775807) :
    Calls Tryd.prog 23 #[.slice A xs.length c, .int .i64 n] w (GetP xs n w) := by
  have lc' := lc.le
  have hc' : (xs.length : Int) ≤ c := by omega
  obtain ⟨n0, n1⟩ := hn
  unfold GetP
  by_cases h1 : n < 1
  · have e : getV xs n = (0, 1) := by unfold getV; rw [if_pos (.inl h1)]
    rw [e]
    clear e
    have y1 : decide (n < 1) = true := decide_eq_true h1
    go_enter Tryd.func23, Tryd.ntmps23
    go_wp2_with fail
    go_ret2
    exact ⟨rfl, Keep.refl _⟩
  by_cases h8 : 8 < n
  · have e : getV xs n = (0, 1) := by unfold getV; rw [if_pos (.inr h8)]
    rw [e]
    clear e
    have y1 : decide (n < 1) = false := decide_eq_false h1
    go_enter Tryd.func23, Tryd.ntmps23
    go_wp2_with fail
    go_ret2
    exact ⟨rfl, Keep.refl _⟩
  have y1 : decide (n < 1) = false := decide_eq_false h1
  have y2 : decide (8 < n) = false := decide_eq_false h8
  by_cases hs : (xs.length : Int) < n
  · have e : getV xs n = (0, 5) := by unfold getV; rw [if_neg (by omega), if_pos hs]
    rw [e]
    clear e
    go_enter Tryd.func23, Tryd.ntmps23
    go_wp2_with fail
    go_ret2
    exact ⟨rfl, Keep.refl _⟩
  obtain ⟨k, hk⟩ : ∃ k : Nat, n = k := ⟨n.toNat, by omega⟩
  subst hk
  have e : getV xs k = (val (xs.take k), 0) := by unfold getV; rw [if_neg (by omega), if_neg hs, Int.toNat_natCast]
  rw [e]
  clear e
  have hkl : k ≤ xs.length := by omega
  have hk8 : k ≤ 8 := by omega
  go_enter Tryd.func23, Tryd.ntmps23
  go_wp2_with fail
  go_loopw [6, 7] (fun u i wr => ∃ j : Nat, j ≤ k ∧ i = .int .i64 ((j : Int) - 1) ∧ u = .int .u64 (val ((xs.take k).drop j) : Int) ∧ Keep w wr) (fun _ i _ => (intOf i + 1).toNat)
  case atStart => exact ⟨k, Nat.le_refl _, by go_num, by rw [List.drop_eq_nil_of_le (by rw [List.length_take]; omega)]; rfl, Keep.refl _⟩
  case round =>
    obtain ⟨j, hj, rfl, rfl, hk2⟩ := hrel
    by_cases hj0 : 0 < j
    · obtain ⟨i, rfl⟩ : ∃ i, j = i + 1 := ⟨j - 1, by omega⟩
      obtain ⟨b1, o1, x, rfl, hx, hc1⟩ := (ha.keep hk2).int_at (j := i) (by omega)
      have hv := val_drop (xs := xs) (k := k) (by omega) hx
      obtain ⟨x0, x1⟩ := hb x (List.mem_of_getElem? hx)
      have hlt := val_lt (l := (xs.take k).drop (i + 1)) (fun y hy => hb y (List.mem_of_mem_take (List.mem_of_mem_drop hy)))
      rw [List.length_drop, List.length_take] at hlt
      have hp : 256 ^ (min k xs.length - (i + 1)) ≤ 256 ^ 7 := Nat.pow_le_pow_right (by decide) (by omega)
      obtain ⟨m, hm⟩ : ∃ m, m = val ((xs.take k).drop (i + 1)) := ⟨_, rfl⟩
      rw [← hm] at hv hlt ⊢
      have hm7 : m < 72057594037927936 := Nat.lt_of_lt_of_le hlt hp
      have HV := Lib.hid hv
      have hi1 : (((i + 1 : Nat) : Int) - 1) = i := by omega
      rw [hi1]
      have hi2 : (i : Int) < xs.length := by omega
      have hi0 : (0 : Int) ≤ i := by omega
      clear hx hv hlt hp hm hi1
      go_wp2_with fail
      go_roundw
      case rel => exact ⟨i, by omega, rfl, congrArg (Value.int .u64) (by rw [HV.out]; omega), hk2⟩
      case measure => simp [intOf]
    · obtain rfl : j = 0 := by omega
      have hm1 : (((0 : Nat) : Int) - 1) = -1 := rfl
      rw [hm1]
      clear hm1
      go_wp2_with fail
      go_ret2
      exact ⟨rfl, hk2⟩
/-- What GetList leaves: a list of the call's own. -/
def RefLO (xs : List Int) (w : World) (e : Ending) (w' : World) : Prop :=
  match getL xs with
  | none => e = .returned (.tuple #[.slice none 0 0, .int .i64 0, .int .i64 5]) ∧ Keep w w'
  | some zs => ∃ A' c', e = .returned (.tuple #[.slice A' zs.length c', .int .i64 ((1 + 4 * zs.length : Nat) : Int), .int .i64 0]) ∧ Fr 3 w' w.heap.size A' zs.length c' (cs .i64 zs) ∧ Keep w w'
/-- What GetList leaves. -/
def RefLP (xs : List Int) (w : World) (e : Ending) (w' : World) : Prop :=
  match getL xs with
  | none => e = .returned (.tuple #[.slice none 0 0, .int .i64 0, .int .i64 5]) ∧ Keep w w'
  | some zs => ∃ A' c', e = .returned (.tuple #[.slice A' zs.length c', .int .i64 ((1 + 4 * zs.length : Nat) : Int), .int .i64 0]) ∧ Rd w' A' (cs .i64 zs) ∧ Keep w w'
theorem num4_snoc (xs : List Int) (k : Nat) : (List.range (k + 1)).map (num4 xs) = (List.range k).map (num4 xs) ++ [num4 xs k] := by rw [List.range_succ, List.map_append]; rfl

set_option maxRecDepth 100000 in
set_option maxHeartbeats 4000000 in
theorem refGetList_o (A : Option Addr) (c : Nat) (xs : List Int) (w : World) (ha : Rd w A (cs .u8 xs)) (hb : Bytes xs) (hc : xs.length ≤ c) (lc : Len c) :
    Calls Tryd.prog 25 #[.slice A xs.length c] w (RefLO xs w) := by
  have lc' := lc.le
  have hc' : (xs.length : Int) ≤ c := by omega
  by_cases h0 : 0 < xs.length
  · obtain ⟨b, off, rfl, hcell⟩ := ha.ad (by rw [length_cs]; exact h0)
    have hx0 : xs[0]? = some (xs.getD 0 0) := by rw [List.getD_eq_getElem?_getD, List.getElem?_eq_getElem h0]; rfl
    have hc0 : w.cell? ⟨b, off, none⟩ = some (.int .u8 (xs.getD 0 0)) := by
      have := hcell 0 (.int .u8 (xs.getD 0 0)) (by rw [cs_at, hx0]; rfl)
      rwa [Nat.add_zero] at this
    obtain ⟨m0, m1⟩ := hb.getD 0
    obtain ⟨n, hn⟩ : ∃ n : Nat, xs.getD 0 0 = n := ⟨(xs.getD 0 0).toNat, by omega⟩
    have HN := Lib.hid (show n = (xs.getD 0 0).toNat by omega)
    rw [hn] at hc0 m1
    clear hcell hx0 hn m0
    have q1 : decide ((xs.length : Int) < 1) = false := decide_eq_false (by omega)
    have q0 : (0 : Int) < xs.length := by omega
    by_cases h4 : xs.length < 1 + 4 * n
    · have hg : getL xs = none := by rw [getL, if_pos (.inr (by rw [← HN.out]; exact h4))]
      unfold RefLO
      rw [hg]
      clear hg
      go_enter Tryd.func25, Tryd.ntmps25
      go_wp2_with fail
      go_ret3
      exact ⟨rfl, Keep.refl _⟩
    · have hg : getL xs = some ((List.range n).map (num4 xs)) := by rw [getL, if_neg (by rw [← HN.out]; omega), ← HN.out]
      unfold RefLO
      rw [hg]
      dsimp only
      rw [List.length_map, List.length_range]
      clear hg
      have hz1 : decide ((xs.length : Int) < 1 + 4 * (n : Int)) = false := decide_eq_false (by omega)
      go_enter Tryd.func25, Tryd.ntmps25
      go_wp2_with fail
      go_loopw [5, 6] (fun u i wr => ∃ (k : Nat) (A' : Option Addr) (c' : Nat), k ≤ n ∧ i = .int .i64 k ∧ u = .slice A' k c' ∧ Fr 3 wr w.heap.size A' k c' (cs .i64 ((List.range k).map (num4 xs))) ∧ Keep w wr) (fun _ i _ => n - (intOf i).toNat)
      case atStart => exact ⟨0, none, 0, Nat.zero_le _, rfl, rfl, Fr.empty _ _ _ _, Keep.refl _⟩
      case round =>
        obtain ⟨k, A1, c1, hk, rfl, rfl, hfr, hkeep⟩ := hrel
        have cb := hkeep.cell hc0
        by_cases hlt : k < n
        · have hrz : Rd wr (some ⟨b, off + (1 + 4 * k), none⟩) (cs .u8 (xs.drop (1 + 4 * k))) := by
            rw [← cs_drop]
            exact (ha.keep hkeep).drop (n := 1 + 4 * k) (cap := xs.length + (1 + 4 * k)) (by rw [length_cs]; omega) _ (fun _ => by simp [Addr.add_lit])
          have hgv : getV (xs.drop (1 + 4 * k)) 4 = (val ((xs.drop (1 + 4 * k)).take 4), 0) := by
            rw [getV, if_neg (by omega), if_neg (by rw [List.length_drop]; omega)]
            rfl
          have hp := refGet_f _ (c - (1 + 4 * k)) (xs.drop (1 + 4 * k)) 4 wr hrz (hb.drop _) (by rw [List.length_drop]; omega) (by unfold Len at lc ⊢; omega) (by omega)
          unfold GetP at hp
          rw [hgv, List.length_drop] at hp
          have hV : val ((xs.drop (1 + 4 * k)).take 4) < 4294967296 := by
            have h := val_lt ((hb.drop (1 + 4 * k)).take 4)
            rw [List.length_take, List.length_drop, Nat.min_eq_left (by omega)] at h
            simpa using h
          obtain ⟨V, hv⟩ : ∃ V, V = val ((xs.drop (1 + 4 * k)).take 4) := ⟨_, rfl⟩
          rw [← hv] at hp hV
          have HV := Lib.hid (show (V : Int) = num4 xs k by rw [hv]; rfl)
          clear hv hgv hrz
          go_wp2_with fail
          refine hp.mono ?_
          rintro e w2 ⟨rfl, hk2⟩
          have hf2 := hfr.keep hk2
          have hkk := hkeep.trans hk2
          clear hp
          go_wp2_with (at_builtin; refine wpList_append_fr _ rfl _ _ 23 rfl w.heap.size 3 (.int .i64 0) 8 Tryd.underlying23 infoInt rfl A1 k c1 _ rfl (hf2.keep (Keep.alloc1 _ _)) (some ⟨w2.heap.size, 0, none⟩) 1 1 [.int .i64 (V : Int)] rfl rfl (Rd.one _ _ _) (one_int _ _) ?c1 ?c2 ?c3 ?_)
          case c1 => unfold maxLen; omega
          case c2 => omega
          case c3 => have := hkk.size; simp; omega
          intro A' c' w3 happ
          have hk3 := happ.keep (hkk.alloc _) (hf2.keep (Keep.alloc1 _ _))
          have hf3 := happ.fr
          rw [HV.out, ← cs_one, ← cs_append, ← num4_snoc] at hf3
          clear happ hfr
          go_wp2_with fail
          go_roundw
          case rel => exact ⟨k + 1, A', c', by omega, by go_num, rfl, hf3, hk3⟩
          case measure => simp [intOf]; omega
        · obtain rfl : k = n := by omega
          have ww1 : IntKind.i64.wrap (k : Int) = k := IntWalk.i64_in _ (by omega)
          have ww2 : IntKind.i64.wrap (4 * (k : Int)) = 4 * k := IntWalk.i64_in _ (by omega)
          have ww3 : IntKind.i64.wrap (1 + 4 * (k : Int)) = 1 + 4 * k := IntWalk.i64_in _ (by omega)
          go_upto_region 9 with fail
          refine wp_region_noPanic ?_
          refine wp_region_held_drew (S := (fun w' => w'.cell? ⟨b, off, none⟩ = some (.int .u8 (k : Int)))) (by kernel_rfl) cb (fun hS => ?_)
          refine wpAnyH_take (i := 0) (v := ?_) rfl (by kernel_rfl) (by kernel_rfl) (by kernel_rfl) (fun _ _ _ h => h) (Or.inl ⟨by rfl, ?_⟩) hS ?_
          rotate_left
          · (intro w hSw; (try dsimp only at hSw); go_simp; (first | done | with_reducible rfl))
          change wpAnyH _ _ _ _ _ _ _ (Act.put _ (some 45) _) _
          simp only [Act.put, List.setIfInBounds_toArray, List.set_cons_zero, List.set_cons_succ]
          refine wpAnyH_take (i := 7) (v := ?_) rfl (by kernel_rfl) (by kernel_rfl) (by kernel_rfl) (fun _ _ _ h => h) (Or.inl ⟨by rfl, ?_⟩) hS ?_
          rotate_left
          · (intro w hSw; (try dsimp only at hSw); go_simp; (first | done | with_reducible rfl))
          change wpAnyH _ _ _ _ _ _ _ (Act.put _ (some 2) _) _
          simp only [Act.put, List.setIfInBounds_toArray, List.set_cons_zero, List.set_cons_succ]
          refine wpAnyH_take (i := 1) (v := ?_) rfl (by kernel_rfl) (by kernel_rfl) (by kernel_rfl) (fun _ _ _ h => h) (Or.inl ⟨by rfl, ?_⟩) hS ?_
          rotate_left
          · (intro w hSw; (try dsimp only at hSw); go_simp; (first | done | with_reducible rfl))
          change wpAnyH _ _ _ _ _ _ _ (Act.put _ (some 46) _) _
          simp only [Act.put, List.setIfInBounds_toArray, List.set_cons_zero, List.set_cons_succ]
          refine wpAnyH_take (i := 2) (v := ?_) rfl (by kernel_rfl) (by kernel_rfl) (by kernel_rfl) (fun _ _ _ h => h) (Or.inl ⟨by rfl, ?_⟩) hS ?_
          rotate_left
          · (intro w hSw; (try dsimp only at hSw); go_simp; (first | done | with_reducible rfl))
          change wpAnyH _ _ _ _ _ _ _ (Act.put _ (some 47) _) _
          simp only [Act.put, List.setIfInBounds_toArray, List.set_cons_zero, List.set_cons_succ]
          refine wpAnyH_take (i := 3) (v := ?_) rfl (by kernel_rfl) (by kernel_rfl) (by kernel_rfl) (fun _ _ _ h => h) (Or.inl ⟨by rfl, ?_⟩) hS ?_
          rotate_left
          · (intro w hSw; (try dsimp only at hSw); go_simp; (first | done | with_reducible rfl))
          change wpAnyH _ _ _ _ _ _ _ (Act.put _ (some 48) _) _
          simp only [Act.put, List.setIfInBounds_toArray, List.set_cons_zero, List.set_cons_succ]
          refine wpAnyH_take (i := 4) (v := ?_) rfl (by kernel_rfl) (by kernel_rfl) (by kernel_rfl) (fun _ _ _ h => h) (Or.inl ⟨by rfl, ?_⟩) hS ?_
          rotate_left
          · (intro w hSw; (try dsimp only at hSw); go_simp; (first | done | with_reducible rfl))
          change wpAnyH _ _ _ _ _ _ _ (Act.put _ (some 49) _) _
          simp only [Act.put, List.setIfInBounds_toArray, List.set_cons_zero, List.set_cons_succ]
          refine wpAnyH_take (i := 5) (v := ?_) rfl (by kernel_rfl) (by kernel_rfl) (by kernel_rfl) (fun _ _ _ h => h) (Or.inl ⟨by rfl, ?_⟩) hS ?_
          rotate_left
          · (intro w hSw; (try dsimp only at hSw); go_simp; (first | done | with_reducible rfl))
          change wpAnyH _ _ _ _ _ _ _ (Act.put _ (some 50) _) _
          simp only [Act.put, List.setIfInBounds_toArray, List.set_cons_zero, List.set_cons_succ]
          refine wpAnyH_take (i := 6) (v := ?_) rfl (by kernel_rfl) (by kernel_rfl) (by kernel_rfl) (fun _ _ _ h => h) (Or.inl ⟨by rfl, ?_⟩) hS ?_
          rotate_left
          · (intro w hSw; (try dsimp only at hSw); go_simp; (first | done | with_reducible rfl))
          change wpAnyH _ _ _ _ _ _ _ (Act.put _ (some 51) _) _
          simp only [Act.put, List.setIfInBounds_toArray, List.set_cons_zero, List.set_cons_succ]
          refine wpAnyH_take (i := 8) (v := ?_) rfl (by kernel_rfl) (by kernel_rfl) (by kernel_rfl) (fun _ _ _ h => h) (Or.inl ⟨by rfl, ?_⟩) hS ?_
          rotate_left
          · (intro w hSw; (try dsimp only at hSw); go_simp; (first | done | with_reducible rfl))
          change wpAnyH _ _ _ _ _ _ _ (Act.put _ (some 3) _) _
          simp only [Act.put, List.setIfInBounds_toArray, List.set_cons_zero, List.set_cons_succ]
          refine wpAnyH_take (i := 9) (v := ?_) rfl (by kernel_rfl) (by kernel_rfl) (by kernel_rfl) (fun _ _ _ h => h) (Or.inl ⟨by rfl, ?_⟩) hS ?_
          rotate_left
          · (intro w hSw; (try dsimp only at hSw); go_simp; (first | done | with_reducible rfl))
          change wpAnyH _ _ _ _ _ _ _ (Act.put _ (some 4) _) _
          simp only [Act.put, List.setIfInBounds_toArray, List.set_cons_zero, List.set_cons_succ]
          refine wpAnyH_done (by kernel_rfl) ?_ _
          refine NoPanic.normal ?_
          go_wp2_with fail
          go_ret3
          exact ⟨A1, c1, by first | rfl | (simp; rfl), hfr.keep ((Keep.refl _).drew), hkeep.drew⟩
  · have hg : getL xs = none := by rw [getL, if_pos (.inl (by omega))]
    have q1 : decide ((xs.length : Int) < 1) = true := decide_eq_true (by omega)
    unfold RefLO
    rw [hg]
    clear hg
    go_enter Tryd.func25, Tryd.ntmps25
    go_wp2_with fail
    go_ret3
    exact ⟨rfl, Keep.refl _⟩

theorem refGetList_f (A : Option Addr) (c : Nat) (xs : List Int) (w : World) (ha : Rd w A (cs .u8 xs)) (hb : Bytes xs) (hc : xs.length ≤ c) (lc : Len c) :
    Calls Tryd.prog 25 #[.slice A xs.length c] w (RefLP xs w) := by
  refine (refGetList_o A c xs w ha hb hc lc).mono ?_
  intro e w' h
  unfold RefLO at h
  unfold RefLP
  cases hg : getL xs with
  | none => rw [hg] at h; exact h
  | some zs =>
    rw [hg] at h
    obtain ⟨A', c', h1, h2, h3⟩ := h
    exact ⟨A', c', h1, h2.rd, h3⟩

/-- What GetBytes leaves. -/
def RefByP (xs : List Int) (w : World) (e : Ending) (w' : World) : Prop :=
  match getBy xs with
  | none => e = .returned (.tuple #[.slice none 0 0, .int .i64 0, .int .i64 5]) ∧ Keep w w'
  | some zs => ∃ A' c', e = .returned (.tuple #[.slice A' zs.length c', .int .i64 ((2 + zs.length : Nat) : Int), .int .i64 0]) ∧ Rd w' A' (cs .u8 zs) ∧ Keep w w'
set_option maxRecDepth 100000 in
set_option maxHeartbeats 4000000 in
theorem refGetBytes_f (A : Option Addr) (c : Nat) (xs : List Int) (w : World) (ha : Rd w A (cs .u8 xs)) (hb : Bytes xs) (hc : xs.length ≤ c) (lc : Len c) :
    Calls Tryd.prog 27 #[.slice A xs.length c] w (RefByP xs w) := by
  have lc' := lc.le
  have hc' : (xs.length : Int) ≤ c := by omega
  by_cases h2 : xs.length < 2
  · have hg : getV xs 2 = (0, 5) := by rw [getV, if_neg (by omega), if_pos (by omega)]
    have hn : getBy xs = none := by rw [getBy, if_pos (.inl h2)]
    unfold RefByP
    rw [hn]
    have hp := refGet_f A c xs 2 w ha hb hc lc (by omega)
    unfold GetP at hp
    rw [hg] at hp
    clear hg hn
    go_enter Tryd.func27, Tryd.ntmps27
    go_wp2_with fail
    refine hp.mono ?_
    rintro e w1 ⟨rfl, hk1⟩
    go_wp2_with fail
    go_ret3
    exact ⟨rfl, hk1⟩
  · have hg : getV xs 2 = (val (xs.take 2), 0) := by rw [getV, if_neg (by omega), if_neg (by omega)]; rfl
    have hp := refGet_f A c xs 2 w ha hb hc lc (by omega)
    unfold GetP at hp
    rw [hg] at hp
    have hV : val (xs.take 2) < 65536 := by
      have := val_lt (hb.take 2)
      rw [List.length_take, Nat.min_eq_left (by omega)] at this
      simpa using this
    obtain ⟨V, hv⟩ : ∃ V, V = val (xs.take 2) := ⟨_, rfl⟩
    rw [← hv] at hp hV
    have HV := Lib.hid hv
    clear hg hv
    by_cases h3 : xs.length < 2 + V
    · have hn : getBy xs = none := by rw [getBy, if_pos (.inr (by rw [← HV.out]; exact h3))]
      have y1 : decide ((xs.length : Int) < 2 + V) = true := decide_eq_true (by omega)
      unfold RefByP
      rw [hn]
      clear hn
      go_enter Tryd.func27, Tryd.ntmps27
      go_wp2_with fail
      refine hp.mono ?_
      rintro e w1 ⟨rfl, hk1⟩
      go_wp2_with fail
      go_ret3
      exact ⟨rfl, hk1⟩
    · obtain ⟨zs, hz⟩ : ∃ zs, zs = (xs.drop 2).take V := ⟨_, rfl⟩
      have hn : getBy xs = some zs := by rw [getBy, ← HV.out, if_neg (by omega), hz]
      have y1 : decide ((xs.length : Int) < 2 + V) = false := decide_eq_false (by omega)
      unfold RefByP
      rw [hn]
      clear hn
      have hzl : zs.length = V := by rw [hz, List.length_take, List.length_drop]; omega
      have hrz : Rd w (if c = 2 then A else A.map (·.add 2)) (cs .u8 zs) := by
        rw [hz, ← cs_take, ← cs_drop]
        exact (ha.drop (n := 2) (cap := c) (by rw [length_cs]; exact hc) _ (fun h => by rw [if_neg h])).take V
      obtain ⟨b, off, rfl, hcell⟩ := ha.ad (by rw [length_cs]; omega)
      have HZ := Lib.hid hzl
      have HR := Lib.hid hrz
      clear hz hzl hcell ha hb hrz
      go_enter Tryd.func27, Tryd.ntmps27
      go_wp2_with fail
      refine hp.mono ?_
      rintro e w1 ⟨rfl, hk1⟩
      have q2 : (2 : Int) + V ≤ c := by omega
      clear hp
      go_wp2_with (at_builtin; refine wpList_append_fr _ rfl _ _ 22 rfl w1.heap.size 5 (.int .u8 0) 1 Tryd.underlying22 infoByte rfl none 0 0 [] rfl (Fr.empty _ _ _ _) _ (2 + V - 2) _ (cs .u8 zs) rfl ((length_cs _ _).trans (HZ.out.trans (Nat.add_sub_cancel_left 2 V).symm)) (by have h := HR.out.keep hk1; simpa [Addr.add_lit] using h) (one_cs _ _) ?c1 ?c2 ?c3 ?_)
      case c1 => unfold maxLen; omega
      case c2 => omega
      case c3 => exact Nat.le_refl _
      all_goals
        intro A' c' w2 happ
        have e22 : 2 + V - 2 = V := Nat.add_sub_cancel_left 2 V
        try simp only [Nat.zero_add, e22] at happ
        try simp only [Nat.zero_add, e22]
        clear e22
        have hk2 := happ.keep (Keep.refl _) (Fr.empty _ _ _ _)
        have hf2 := happ.fr
        clear happ
        go_wp2_with fail
        go_ret3
        rw [HZ.out]
        exact ⟨A', c', rfl, hf2.rd, hk1.trans hk2⟩
end Go.Proofs.YtafiahnaeakcfaaDoor

namespace Go.Proofs.YtafiahnaeakcfaaDoor
open Go.RowKit

def getLV (xs : List Int) : List Int × Nat × Int := match getL xs with | none => ([], 0, 5) | some zs => (zs, 1 + 4 * zs.length, 0)
def getBV (xs : List Int) : List Int × Nat × Int := match getBy xs with | none => ([], 0, 5) | some zs => (zs, 2 + zs.length, 0)
theorem getLV_len {xs : List Int} (hb : Bytes xs) : (getLV xs).1.length ≤ 255 := by
  unfold getLV getL
  obtain ⟨h0, h1⟩ := hb.getD 0
  split
  · exact Nat.zero_le _
  · rename_i zs h
    split at h
    · cases h
    · cases h
      rw [List.length_map, List.length_range]
      omega
theorem getBV_len {xs : List Int} (hb : Bytes xs) : (getBV xs).1.length ≤ 65535 := by
  unfold getBV getBy
  split
  · exact Nat.zero_le _
  · rename_i zs h
    split at h
    · cases h
    · rename_i h2
      cases h
      have := val_lt (hb.take 2)
      rw [List.length_take, Nat.min_eq_left (by omega)] at this
      rw [List.length_take]
      omega
theorem getList_u (A : Option Addr) (c : Nat) (xs : List Int) (w : World) (ha : Rd w A (cs .u8 xs)) (hb : Bytes xs) (hc : xs.length ≤ c) (lc : Len c) {L : List Int} {t : Nat} {r : Int} (h : getLV xs = (L, t, r)) :
    Calls Tryd.prog 24 #[.slice A xs.length c] w fun e w' => ∃ A', e = .returned (.tuple #[.slice A' L.length L.length, .int .i64 (t : Int), .int .i64 r]) ∧ Fr 3 w' w.heap.size A' L.length L.length (cs .i64 L) ∧ Keep w w' := by
  refine (getList_f A c xs w ha hb hc lc).mono ?_
  intro e w' hq
  unfold GetLP at hq
  unfold getLV at h
  cases hg : getL xs with
  | none =>
    rw [hg] at hq h
    cases h
    exact ⟨none, hq.1, Fr.empty _ _ _ _, hq.2⟩
  | some zs =>
    rw [hg] at hq h
    cases h
    exact hq
theorem refGetList_u (A : Option Addr) (c : Nat) (xs : List Int) (w : World) (ha : Rd w A (cs .u8 xs)) (hb : Bytes xs) (hc : xs.length ≤ c) (lc : Len c) {L : List Int} {t : Nat} {r : Int} (h : getLV xs = (L, t, r)) :
    Calls Tryd.prog 25 #[.slice A xs.length c] w fun e w' => ∃ A' c', e = .returned (.tuple #[.slice A' L.length c', .int .i64 (t : Int), .int .i64 r]) ∧ Rd w' A' (cs .i64 L) ∧ Keep w w' := by
  refine (refGetList_f A c xs w ha hb hc lc).mono ?_
  intro e w' hq
  unfold RefLP at hq
  unfold getLV at h
  cases hg : getL xs with
  | none =>
    rw [hg] at hq h
    cases h
    exact ⟨none, 0, hq.1, Rd.nil _ _, hq.2⟩
  | some zs =>
    rw [hg] at hq h
    cases h
    exact hq
theorem getBytes_u (A : Option Addr) (c : Nat) (xs : List Int) (w : World) (ha : Rd w A (cs .u8 xs)) (hb : Bytes xs) (hc : xs.length ≤ c) (lc : Len c) {L : List Int} {t : Nat} {r : Int} (h : getBV xs = (L, t, r)) :
    Calls Tryd.prog 26 #[.slice A xs.length c] w fun e w' => ∃ A', e = .returned (.tuple #[.slice A' L.length L.length, .int .i64 (t : Int), .int .i64 r]) ∧ Fr 5 w' w.heap.size A' L.length L.length (cs .u8 L) ∧ Keep w w' := by
  refine (getBytes_f A c xs w ha hb hc lc).mono ?_
  intro e w' hq
  unfold GetByP at hq
  unfold getBV at h
  cases hg : getBy xs with
  | none =>
    rw [hg] at hq h
    cases h
    exact ⟨none, hq.1, Fr.empty _ _ _ _, hq.2⟩
  | some zs =>
    rw [hg] at hq h
    cases h
    exact hq
theorem refGetBytes_u (A : Option Addr) (c : Nat) (xs : List Int) (w : World) (ha : Rd w A (cs .u8 xs)) (hb : Bytes xs) (hc : xs.length ≤ c) (lc : Len c) {L : List Int} {t : Nat} {r : Int} (h : getBV xs = (L, t, r)) :
    Calls Tryd.prog 27 #[.slice A xs.length c] w fun e w' => ∃ A' c', e = .returned (.tuple #[.slice A' L.length c', .int .i64 (t : Int), .int .i64 r]) ∧ Rd w' A' (cs .u8 L) ∧ Keep w w' := by
  refine (refGetBytes_f A c xs w ha hb hc lc).mono ?_
  intro e w' hq
  unfold RefByP at hq
  unfold getBV at h
  cases hg : getBy xs with
  | none =>
    rw [hg] at hq h
    cases h
    exact ⟨none, 0, hq.1, Rd.nil _ _, hq.2⟩
  | some zs =>
    rw [hg] at hq h
    cases h
    exact hq
end Go.Proofs.YtafiahnaeakcfaaDoor

namespace Go.Proofs.YtafiahnaeakcfaaDoor
open Go.RowKit

set_option maxRecDepth 100000 in
set_option maxHeartbeats 2000000 in
theorem refCheck_f (A : Option Addr) (c : Nat) (xs : List Int) (items : Int) (w : World) (ha : Rd w A (cs .i64 xs)) (la : Len xs.length) :
    Calls Tryd.prog 36 #[.slice A xs.length c, .int .i64 items] w fun e w' => e = .returned (.bool (chk xs items)) ∧ Keep w w' := by
  have la' := la.le
  have hno : ∀ b, chk xs items = b → chk xs items = b := fun _ h => h
  clear hno
  by_cases h1 : items < 1
  · have e : chk xs items = false := by unfold chk; rw [decide_eq_false (show ¬ 1 ≤ items by omega)]; rfl
    rw [e]
    clear e
    have y1 : decide (items < 1) = true := decide_eq_true h1
    go_enter Tryd.func36, Tryd.ntmps36
    go_wp2_with fail
    go_ret
    exact ⟨rfl, Keep.refl _⟩
  have y1 : decide (items < 1) = false := decide_eq_false h1
  by_cases h8 : 8 < items
  · have e : chk xs items = false := by unfold chk; rw [decide_eq_false (show ¬ items ≤ 8 by omega), Bool.and_false]; rfl
    rw [e]
    clear e
    have y2 : decide (8 < items) = true := decide_eq_true h8
    go_enter Tryd.func36, Tryd.ntmps36
    go_wp2_with fail
    go_ret
    exact ⟨rfl, Keep.refl _⟩
  have y2 : decide (8 < items) = false := decide_eq_false h8
  by_cases hl : (xs.length : Int) = items
  · have e : chk xs items = within 1000000 xs := by unfold chk; rw [decide_eq_true (show 1 ≤ items by omega), decide_eq_true (show items ≤ 8 by omega), decide_eq_true hl]; rfl
    rw [e]
    clear e
    subst hl
    have y3 : ((xs.length : Int) != xs.length) = false := by simp
    go_enter Tryd.func36, Tryd.ntmps36
    go_wp2_with fail
    go_loopw [5] (fun v wr => ∃ i : Nat, i ≤ xs.length ∧ v = .int .i64 i ∧ within 1000000 (xs.take i) = true ∧ Keep w wr) (fun v _ => xs.length - (intOf v).toNat)
    case atStart => exact ⟨0, Nat.zero_le _, rfl, rfl, Keep.refl _⟩
    case round =>
      obtain ⟨i, hi, rfl, hw, hk⟩ := hrel
      have HW := Lib.hid hw
      clear hw
      by_cases hlt : i < xs.length
      · obtain ⟨b1, o1, x, rfl, hx, hc1⟩ := (ha.keep hk).int_at hlt
        have HX := Lib.hid hx
        have hi1 : (i : Int) < xs.length := by omega
        have hi0 : (0 : Int) ≤ i := by omega
        clear hx
        by_cases hx0 : x < 0
        · have z1 : decide (x < 0) = true := decide_eq_true hx0
          have HN := Lib.hid (within_not (most := 1000000) HX.out (.inl hx0))
          go_wp2_with fail
          go_ret
          exact ⟨by rw [HN.out]; rfl, hk⟩
        · have z1 : decide (x < 0) = false := decide_eq_false hx0
          by_cases hx1 : 1000000 < x
          · have z2 : decide (1000000 < x) = true := decide_eq_true hx1
            have HN := Lib.hid (within_not (most := 1000000) HX.out (.inr hx1))
            go_wp2_with fail
            go_ret
            exact ⟨by rw [HN.out]; rfl, hk⟩
          · have z2 : decide (1000000 < x) = false := decide_eq_false hx1
            have HT := Lib.hid (within_take HW.out HX.out (by omega) (by omega))
            go_wp2_with fail
            go_roundw
            case rel => exact ⟨i + 1, by omega, by go_num, HT.out, hk⟩
            case measure => simp [intOf]; omega
      · have hw := HW.out
        rw [List.take_of_length_le (by omega)] at hw
        have HW2 := Lib.hid hw
        clear hw
        go_wp2_with fail
        go_ret
        exact ⟨by rw [HW2.out]; rfl, hk⟩
  · have e : chk xs items = false := by unfold chk; rw [decide_eq_false hl, Bool.and_false]; rfl
    rw [e]
    clear e
    have y3 : ((xs.length : Int) != items) = true := by simp [hl]
    clear hl
    go_enter Tryd.func36, Tryd.ntmps36
    go_wp2_with fail
    go_ret
    exact ⟨rfl, Keep.refl _⟩

set_option maxRecDepth 100000 in
set_option maxHeartbeats 2000000 in
theorem refPrices_f (A : Option Addr) (c : Nat) (xs : List Int) (w : World) (ha : Rd w A (cs .i64 xs)) (la : Len xs.length) :
    Calls Tryd.prog 77 #[.slice A xs.length c] w fun e w' => e = .returned (.bool (mayP xs xs.length)) ∧ Keep w w' := by
  have la' := la.le
  by_cases h1 : xs.length < 1
  · have e : mayP xs xs.length = false := by unfold mayP; rw [decide_eq_false (show ¬ (1 : Int) ≤ xs.length by omega)]; rfl
    rw [e]
    clear e
    have y1 : decide ((xs.length : Int) < 1) = true := decide_eq_true (by omega)
    go_enter Tryd.func77, Tryd.ntmps77
    go_wp2_with fail
    go_ret
    exact ⟨rfl, Keep.refl _⟩
  have y1 : decide ((xs.length : Int) < 1) = false := decide_eq_false (by omega)
  have y0 : (0 : Int) < xs.length := by omega
  by_cases h8 : 8 < xs.length
  · have e : mayP xs xs.length = false := by unfold mayP; rw [decide_eq_false (show ¬ (xs.length : Int) ≤ 8 by omega), Bool.and_false]; rfl
    rw [e]
    clear e
    have y2 : decide ((8 : Int) < xs.length) = true := decide_eq_true (by omega)
    go_enter Tryd.func77, Tryd.ntmps77
    go_wp2_with fail
    go_ret
    exact ⟨rfl, Keep.refl _⟩
  have y2 : decide ((8 : Int) < xs.length) = false := decide_eq_false (by omega)
  have e : mayP xs xs.length = within 2000000 xs := by unfold mayP; rw [decide_eq_true (show (1 : Int) ≤ xs.length by omega), decide_eq_true (show (xs.length : Int) ≤ 8 by omega), decide_eq_true rfl]; rfl
  rw [e]
  clear e
  go_enter Tryd.func77, Tryd.ntmps77
  go_wp2_with fail
  go_loopw [3] (fun v wr => ∃ i : Nat, i ≤ xs.length ∧ v = .int .i64 i ∧ within 2000000 (xs.take i) = true ∧ Keep w wr) (fun v _ => xs.length - (intOf v).toNat)
  case atStart => exact ⟨0, Nat.zero_le _, rfl, rfl, Keep.refl _⟩
  case round =>
    obtain ⟨i, hi, rfl, hw, hk⟩ := hrel
    have HW := Lib.hid hw
    clear hw
    by_cases hlt : i < xs.length
    · obtain ⟨b1, o1, x, rfl, hx, hc1⟩ := (ha.keep hk).int_at hlt
      have HX := Lib.hid hx
      have hi1 : (i : Int) < xs.length := by omega
      have hi0 : (0 : Int) ≤ i := by omega
      clear hx
      by_cases hx0 : x < 0
      · have z1 : decide (x < 0) = true := decide_eq_true hx0
        have HN := Lib.hid (within_not (most := 2000000) HX.out (.inl hx0))
        go_wp2_with fail
        go_ret
        exact ⟨by rw [HN.out]; rfl, hk⟩
      · have z1 : decide (x < 0) = false := decide_eq_false hx0
        by_cases hx1 : 2000000 < x
        · have z2 : decide (2000000 < x) = true := decide_eq_true hx1
          have HN := Lib.hid (within_not (most := 2000000) HX.out (.inr hx1))
          go_wp2_with fail
          go_ret
          exact ⟨by rw [HN.out]; rfl, hk⟩
        · have z2 : decide (2000000 < x) = false := decide_eq_false hx1
          have HT := Lib.hid (within_take HW.out HX.out (by omega) (by omega))
          go_wp2_with fail
          go_roundw
          case rel => exact ⟨i + 1, by omega, by go_num, HT.out, hk⟩
          case measure => simp [intOf]; omega
    · have hw := HW.out
      rw [List.take_of_length_le (by omega)] at hw
      have HW2 := Lib.hid hw
      clear hw
      go_wp2_with fail
      go_ret
      exact ⟨by rw [HW2.out]; rfl, hk⟩

/-- The largest difference so far. -/
def gmax (xs ys : List Int) (k : Nat) : Int := (best (gs xs ys k)).2
theorem gmax_succ {xs ys : List Int} {k : Nat} {x y : Int} (hx : xs[k]? = some x) (hy : ys[k]? = some y) : gmax xs ys (k + 1) = max (gmax xs ys k) (x - y) := by
  unfold gmax
  rw [gs_at hx hy, best_snoc]
  unfold stepG
  split
  · omega
  · split <;> omega
theorem pick_succ {xs ys : List Int} {k : Nat} {x y : Int} (hx : xs[k]? = some x) (hy : ys[k]? = some y) (g : Int) : pick xs ys (k + 1) g = pick xs ys k g ++ (if x - y = g then [(k : Int)] else []) := by
  unfold pick
  rw [List.range_succ, List.filter_append, List.map_append]
  congr 1
  have hd := dif_at hx hy
  by_cases h : x - y = g <;> simp [h, hd]
theorem length_pick (xs ys : List Int) (k : Nat) (g : Int) : (pick xs ys k g).length ≤ k := by
  unfold pick
  rw [List.length_map]
  exact Nat.le_trans (List.length_filter_le _ _) (by simp)

theorem results_tmp4 {fn : Func} {t u v x : Tmp} (h : fn.results = #[.tmp t, .tmp u, .tmp v, .tmp x]) (tmps : Array Value) (P : Program) (w : World) :
    (results fn tmps).run P w = .ok (.tuple #[tmps.getD t undef, tmps.getD u undef, tmps.getD v undef, tmps.getD x undef]) w := by
  simp [results, h]
/-- What Of leaves. -/
def RefOfP (xs ys : List Int) (w : World) (e : Ending) (w' : World) : Prop :=
  ∃ (A : Option Addr) (c : Nat) (L : List Int) (n : Bool) (g r : Int), e = .returned (.tuple #[.slice A L.length c, .bool n, .int .i64 g, .int .i64 r]) ∧ Rd w' A (cs .i64 L) ∧ Keep w w' ∧ ofV xs ys = (L, n, g, r)
set_option maxRecDepth 100000 in
set_option maxHeartbeats 4000000 in
theorem refOf_f (A B : Option Addr) (ca cb : Nat) (xs ys : List Int) (w : World) (ha : Rd w A (cs .i64 xs)) (la : Len xs.length) (hb : Rd w B (cs .i64 ys)) (lb : Len ys.length) :
    Calls Tryd.prog 30 #[.slice A xs.length ca, .slice B ys.length cb] w (RefOfP xs ys w) := by
  have la' := la.le
  have lb' := lb.le
  have hp := refPrices_f B cb ys w hb lb
  have hno : ofOk xs ys = false → ofV xs ys = ([], false, 0, 1) := fun h => by unfold ofV; rw [h]; rfl
  cases hm : mayP ys ys.length with
  | false =>
    have hv := hno (by unfold ofOk; rw [hm]; rfl)
    rw [hm] at hp
    have HV := Lib.hid hv
    clear hm hv hno
    go_enter Tryd.func30, Tryd.ntmps30
    go_wp2_with fail
    refine hp.mono ?_
    rintro e w1 ⟨rfl, k1⟩
    go_wp2_with fail
    refine bodyPost_ret (results_tmp4 rfl _ _ _) rfl ?_
    exact ⟨none, 0, [], false, 0, 1, rfl, Rd.nil _ _, k1, HV.out⟩
  | true =>
    rw [hm] at hp
    obtain ⟨m1, m8, m3⟩ := mayP_facts hm
    by_cases hok : ofOk xs ys = true
    · have hcx : xs.length = 0 ∨ chk xs ys.length = true := by
        unfold ofOk at hok
        simp only [Bool.and_eq_true, Bool.or_eq_true, decide_eq_true_eq] at hok
        exact hok.2
      have hle : xs.length ≤ ys.length := by
        rcases hcx with h | h
        · omega
        · have := (chk_facts h).1
          omega
      have hxb : ∀ x ∈ xs, 0 ≤ x ∧ x ≤ 1000000 := by
        rcases hcx with h | h
        · rw [List.eq_nil_of_length_eq_zero h]
          intro x hx
          cases hx
        · exact (chk_facts h).2
      have hV : ofV xs ys = (pick xs ys xs.length (gmax xs ys xs.length), gmax xs ys xs.length == 0, gmax xs ys xs.length, 0) := by
        unfold ofV
        rw [if_pos hok, (best_spec xs ys xs.length).2.2.1]
        rfl
      have HV := Lib.hid hV
      have HXB := Lib.hid hxb
      have HYB := Lib.hid m3
      clear hV hxb m3 hok hno hm
      have hck := fun w1 (k1 : Keep w w1) => refCheck_f A ca xs (ys.length : Int) w1 (ha.keep k1) la
      have wbig : (xs.length : Int) ≤ 8 := by omega
      have lx8 : xs.length ≤ 8 := by omega
      have hent : ∀ w1, Keep w w1 → True := fun _ _ => trivial
      clear hent
      by_cases hx0 : xs.length = 0
      case' pos =>
        have z1 : decide ((0 : Int) < xs.length) = false := decide_eq_false (by omega)
        have z2 : ((0 : Int) < xs.length) = False := eq_false (by omega)
        clear hck hcx
        have z3 : (xs.length = 0) = True := eq_true hx0
        have z4 : decide (0 < xs.length) = false := decide_eq_false (by omega)
        have z5 : (0 < xs.length) = False := eq_false (by omega)
        have HX0 := Lib.hid hx0
        clear hx0
        go_enter Tryd.func30, Tryd.ntmps30
        go_wp2_with fail
        refine hp.mono ?_
        rintro e w1 ⟨rfl, k1⟩
        go_wp2_with fail
      case' neg =>
        have hc1 : chk xs ys.length = true := hcx.resolve_left hx0
        have z1 : decide ((0 : Int) < xs.length) = true := decide_eq_true (by omega)
        have z2 : (0 : Int) < xs.length := by omega
        simp only [hc1] at hck
        clear hcx hc1
        go_enter Tryd.func30, Tryd.ntmps30
        go_wp2_with fail
        refine hp.mono ?_
        rintro e w0 ⟨rfl, k0⟩
        have hq := hck w0 k0
        go_wp2_with fail
        refine hq.mono ?_
        rintro e w1 ⟨rfl, k1'⟩
        have k1 := k0.trans k1'
        clear hq hck k0 k1'
        go_wp2_with fail
      all_goals
        go_loopw [8, 9] (fun u v wr => ∃ k : Nat, k ≤ xs.length ∧ v = .int .i64 k ∧ u = .int .i64 (gmax xs ys k) ∧ (0 ≤ gmax xs ys k ∧ gmax xs ys k ≤ 1000000) ∧ Keep w wr) (fun _ v _ => xs.length - (intOf v).toNat)
        case atStart => exact ⟨0, Nat.zero_le _, rfl, rfl, ⟨by show (0 : Int) ≤ 0; decide, by show (0 : Int) ≤ 1000000; decide⟩, k1⟩
        case round =>
          obtain ⟨k, hk, rfl, rfl, hgb, hkk⟩ := hrel
          obtain ⟨g0, g1⟩ := hgb
          by_cases hlt : k < xs.length
          · obtain ⟨b1, o1, x, e1, hx, hc1⟩ := (ha.keep hkk).int_at hlt
            obtain ⟨b2, o2, y, e2, hy, hc2⟩ := (hb.keep hkk).int_at (show k < ys.length by omega)
            subst e1
            subst e2
            obtain ⟨x0, x1⟩ := HXB.out x (List.mem_of_getElem? hx)
            obtain ⟨y0, y1⟩ := HYB.out y (List.mem_of_getElem? hy)
            have HG := Lib.hid (gmax_succ hx hy)
            have hk1 : (k : Int) < xs.length := by omega
            have hk2 : (k : Int) < ys.length := by omega
            have hk0 : (0 : Int) ≤ k := by omega
            obtain ⟨g, hg⟩ : ∃ g, g = gmax xs ys k := ⟨_, rfl⟩
            rw [← hg] at g0 g1 HG ⊢
            have ww : IntKind.i64.wrap (x - y) = x - y := IntWalk.i64_in _ (by omega)
            clear hx hy hg
            by_cases hmx : g < x - y
            · have hg2 : gmax xs ys (k + 1) = x - y := by rw [HG.out]; omega
              have HG2 := Lib.hid hg2
              clear hg2
              go_upto_region 7 with fail
              refine wp_region_noPanic ?_
              refine wp_region_held_drew (S := (fun w' => w'.cell? ⟨b1, o1 + k, none⟩ = some (.int .i64 x) ∧ w'.cell? ⟨b2, o2 + k, none⟩ = some (.int .i64 y))) (by kernel_rfl) ⟨hc1, hc2⟩ (fun hS => ?_)
              refine wpAnyH_take (i := 0) (v := ?_) rfl (by kernel_rfl) (by kernel_rfl) (by kernel_rfl) (fun _ _ _ h => h) (Or.inl ⟨by rfl, ?_⟩) hS ?_
              rotate_left
              · (intro w hSw; (try dsimp only at hSw); go_simp; (first | done | with_reducible rfl))
              change wpAnyH _ _ _ _ _ _ _ (Act.put _ (some 33) _) _
              simp only [Act.put, List.setIfInBounds_toArray, List.set_cons_zero, List.set_cons_succ]
              refine wpAnyH_take (i := 1) (v := ?_) rfl (by kernel_rfl) (by kernel_rfl) (by kernel_rfl) (fun _ _ _ h => h) (Or.inl ⟨by rfl, ?_⟩) hS ?_
              rotate_left
              · (intro w hSw; (try dsimp only at hSw); go_simp; (first | done | with_reducible rfl))
              change wpAnyH _ _ _ _ _ _ _ (Act.put _ (some 34) _) _
              simp only [Act.put, List.setIfInBounds_toArray, List.set_cons_zero, List.set_cons_succ]
              refine wpAnyH_take (i := 2) (v := ?_) rfl (by kernel_rfl) (by kernel_rfl) (by kernel_rfl) (fun _ _ _ h => h) (Or.inl ⟨by rfl, ?_⟩) hS ?_
              rotate_left
              · (intro w hSw; (try dsimp only at hSw); go_simp; (first | done | with_reducible rfl))
              change wpAnyH _ _ _ _ _ _ _ (Act.put _ (some 35) _) _
              simp only [Act.put, List.setIfInBounds_toArray, List.set_cons_zero, List.set_cons_succ]
              refine wpAnyH_take (i := 3) (v := ?_) rfl (by kernel_rfl) (by kernel_rfl) (by kernel_rfl) (fun _ _ _ h => h) (Or.inl ⟨by rfl, ?_⟩) hS ?_
              rotate_left
              · (intro w hSw; (try dsimp only at hSw); go_simp; (first | done | with_reducible rfl))
              change wpAnyH _ _ _ _ _ _ _ (Act.put _ (some 36) _) _
              simp only [Act.put, List.setIfInBounds_toArray, List.set_cons_zero, List.set_cons_succ]
              refine wpAnyH_take (i := 4) (v := ?_) rfl (by kernel_rfl) (by kernel_rfl) (by kernel_rfl) (fun _ _ _ h => h) (Or.inl ⟨by rfl, ?_⟩) hS ?_
              rotate_left
              · (intro w hSw; (try dsimp only at hSw); go_simp; (first | done | with_reducible rfl))
              change wpAnyH _ _ _ _ _ _ _ (Act.put _ (some 37) _) _
              simp only [Act.put, List.setIfInBounds_toArray, List.set_cons_zero, List.set_cons_succ]
              refine wpAnyH_take (i := 5) (v := ?_) rfl (by kernel_rfl) (by kernel_rfl) (by kernel_rfl) (fun _ _ _ h => h) (Or.inl ⟨by rfl, ?_⟩) hS ?_
              rotate_left
              · (intro w hSw; (try dsimp only at hSw); go_simp; (first | done | with_reducible rfl))
              change wpAnyH _ _ _ _ _ _ _ (Act.put _ (some 38) _) _
              simp only [Act.put, List.setIfInBounds_toArray, List.set_cons_zero, List.set_cons_succ]
              refine wpAnyH_take (i := 6) (v := ?_) rfl (by kernel_rfl) (by kernel_rfl) (by kernel_rfl) (fun _ _ _ h => h) (Or.inl ⟨by rfl, ?_⟩) hS ?_
              rotate_left
              · (intro w hSw; (try dsimp only at hSw); go_simp; (first | done | with_reducible rfl))
              change wpAnyH _ _ _ _ _ _ _ (Act.put _ (some 39) _) _
              simp only [Act.put, List.setIfInBounds_toArray, List.set_cons_zero, List.set_cons_succ]
              refine wpAnyH_take (i := 7) (v := ?_) rfl (by kernel_rfl) (by kernel_rfl) (by kernel_rfl) (fun _ _ _ h => h) (Or.inl ⟨by rfl, ?_⟩) hS ?_
              rotate_left
              · (intro w hSw; (try dsimp only at hSw); go_simp; (first | done | with_reducible rfl))
              change wpAnyH _ _ _ _ _ _ _ (Act.put _ (some 40) _) _
              simp only [Act.put, List.setIfInBounds_toArray, List.set_cons_zero, List.set_cons_succ]
              refine wpAnyH_take (i := 8) (v := ?_) rfl (by kernel_rfl) (by kernel_rfl) (by kernel_rfl) (fun _ _ _ h => h) (Or.inl ⟨by rfl, ?_⟩) hS ?_
              rotate_left
              · (intro w hSw; (try dsimp only at hSw); go_simp; (first | done | with_reducible rfl))
              change wpAnyH _ _ _ _ _ _ _ (Act.put _ (some 41) _) _
              simp only [Act.put, List.setIfInBounds_toArray, List.set_cons_zero, List.set_cons_succ]
              refine wpAnyH_take (i := 9) (v := ?_) rfl (by kernel_rfl) (by kernel_rfl) (by kernel_rfl) (fun _ _ _ h => h) (Or.inl ⟨by rfl, ?_⟩) hS ?_
              rotate_left
              · (intro w hSw; (try dsimp only at hSw); go_simp; (first | done | with_reducible rfl))
              change wpAnyH _ _ _ _ _ _ _ (Act.put _ (some 42) _) _
              simp only [Act.put, List.setIfInBounds_toArray, List.set_cons_zero, List.set_cons_succ]
              refine wpAnyH_take (i := 10) (v := ?_) rfl (by kernel_rfl) (by kernel_rfl) (by kernel_rfl) (fun _ _ _ h => h) (Or.inl ⟨by rfl, ?_⟩) hS ?_
              rotate_left
              · (intro w hSw; (try dsimp only at hSw); go_simp; (first | done | with_reducible rfl))
              change wpAnyH _ _ _ _ _ _ _ (Act.put _ (some 43) _) _
              simp only [Act.put, List.setIfInBounds_toArray, List.set_cons_zero, List.set_cons_succ]
              refine wpAnyH_take (i := 11) (v := ?_) rfl (by kernel_rfl) (by kernel_rfl) (by kernel_rfl) (fun _ _ _ h => h) (Or.inl ⟨by rfl, ?_⟩) hS ?_
              rotate_left
              · (intro w hSw; (try dsimp only at hSw); go_simp; (first | done | with_reducible rfl))
              change wpAnyH _ _ _ _ _ _ _ (Act.put _ (some 8) _) _
              simp only [Act.put, List.setIfInBounds_toArray, List.set_cons_zero, List.set_cons_succ]
              refine wpAnyH_done (by kernel_rfl) ?_ _
              refine NoPanic.normal ?_
              go_wp2_with fail
              go_roundw
              case rel => exact ⟨k + 1, by omega, by go_num, by rw [HG2.out], by rw [HG2.out]; omega, hkk.drew⟩
              case measure => simp [intOf]; omega
            · have hg2 : gmax xs ys (k + 1) = g := by rw [HG.out]; omega
              have HG2 := Lib.hid hg2
              clear hg2
              go_upto_region 7 with fail
              refine wp_region_noPanic ?_
              refine wp_region_held_drew (S := (fun w' => w'.cell? ⟨b1, o1 + k, none⟩ = some (.int .i64 x) ∧ w'.cell? ⟨b2, o2 + k, none⟩ = some (.int .i64 y))) (by kernel_rfl) ⟨hc1, hc2⟩ (fun hS => ?_)
              refine wpAnyH_take (i := 0) (v := ?_) rfl (by kernel_rfl) (by kernel_rfl) (by kernel_rfl) (fun _ _ _ h => h) (Or.inl ⟨by rfl, ?_⟩) hS ?_
              rotate_left
              · (intro w hSw; (try dsimp only at hSw); go_simp; (first | done | with_reducible rfl))
              change wpAnyH _ _ _ _ _ _ _ (Act.put _ (some 33) _) _
              simp only [Act.put, List.setIfInBounds_toArray, List.set_cons_zero, List.set_cons_succ]
              refine wpAnyH_take (i := 1) (v := ?_) rfl (by kernel_rfl) (by kernel_rfl) (by kernel_rfl) (fun _ _ _ h => h) (Or.inl ⟨by rfl, ?_⟩) hS ?_
              rotate_left
              · (intro w hSw; (try dsimp only at hSw); go_simp; (first | done | with_reducible rfl))
              change wpAnyH _ _ _ _ _ _ _ (Act.put _ (some 34) _) _
              simp only [Act.put, List.setIfInBounds_toArray, List.set_cons_zero, List.set_cons_succ]
              refine wpAnyH_take (i := 2) (v := ?_) rfl (by kernel_rfl) (by kernel_rfl) (by kernel_rfl) (fun _ _ _ h => h) (Or.inl ⟨by rfl, ?_⟩) hS ?_
              rotate_left
              · (intro w hSw; (try dsimp only at hSw); go_simp; (first | done | with_reducible rfl))
              change wpAnyH _ _ _ _ _ _ _ (Act.put _ (some 35) _) _
              simp only [Act.put, List.setIfInBounds_toArray, List.set_cons_zero, List.set_cons_succ]
              refine wpAnyH_take (i := 3) (v := ?_) rfl (by kernel_rfl) (by kernel_rfl) (by kernel_rfl) (fun _ _ _ h => h) (Or.inl ⟨by rfl, ?_⟩) hS ?_
              rotate_left
              · (intro w hSw; (try dsimp only at hSw); go_simp; (first | done | with_reducible rfl))
              change wpAnyH _ _ _ _ _ _ _ (Act.put _ (some 36) _) _
              simp only [Act.put, List.setIfInBounds_toArray, List.set_cons_zero, List.set_cons_succ]
              refine wpAnyH_take (i := 4) (v := ?_) rfl (by kernel_rfl) (by kernel_rfl) (by kernel_rfl) (fun _ _ _ h => h) (Or.inl ⟨by rfl, ?_⟩) hS ?_
              rotate_left
              · (intro w hSw; (try dsimp only at hSw); go_simp; (first | done | with_reducible rfl))
              change wpAnyH _ _ _ _ _ _ _ (Act.put _ (some 37) _) _
              simp only [Act.put, List.setIfInBounds_toArray, List.set_cons_zero, List.set_cons_succ]
              refine wpAnyH_take (i := 5) (v := ?_) rfl (by kernel_rfl) (by kernel_rfl) (by kernel_rfl) (fun _ _ _ h => h) (Or.inl ⟨by rfl, ?_⟩) hS ?_
              rotate_left
              · (intro w hSw; (try dsimp only at hSw); go_simp; (first | done | with_reducible rfl))
              change wpAnyH _ _ _ _ _ _ _ (Act.put _ (some 38) _) _
              simp only [Act.put, List.setIfInBounds_toArray, List.set_cons_zero, List.set_cons_succ]
              refine wpAnyH_take (i := 6) (v := ?_) rfl (by kernel_rfl) (by kernel_rfl) (by kernel_rfl) (fun _ _ _ h => h) (Or.inl ⟨by rfl, ?_⟩) hS ?_
              rotate_left
              · (intro w hSw; (try dsimp only at hSw); go_simp; (first | done | with_reducible rfl))
              change wpAnyH _ _ _ _ _ _ _ (Act.put _ (some 39) _) _
              simp only [Act.put, List.setIfInBounds_toArray, List.set_cons_zero, List.set_cons_succ]
              refine wpAnyH_take (i := 7) (v := ?_) rfl (by kernel_rfl) (by kernel_rfl) (by kernel_rfl) (fun _ _ _ h => h) (Or.inl ⟨by rfl, ?_⟩) hS ?_
              rotate_left
              · (intro w hSw; (try dsimp only at hSw); go_simp; (first | done | with_reducible rfl))
              change wpAnyH _ _ _ _ _ _ _ (Act.put _ (some 40) _) _
              simp only [Act.put, List.setIfInBounds_toArray, List.set_cons_zero, List.set_cons_succ]
              refine wpAnyH_take (i := 8) (v := ?_) rfl (by kernel_rfl) (by kernel_rfl) (by kernel_rfl) (fun _ _ _ h => h) (Or.inl ⟨by rfl, ?_⟩) hS ?_
              rotate_left
              · (intro w hSw; (try dsimp only at hSw); go_simp; (first | done | with_reducible rfl))
              change wpAnyH _ _ _ _ _ _ _ (Act.put _ (some 41) _) _
              simp only [Act.put, List.setIfInBounds_toArray, List.set_cons_zero, List.set_cons_succ]
              refine wpAnyH_take (i := 9) (v := ?_) rfl (by kernel_rfl) (by kernel_rfl) (by kernel_rfl) (fun _ _ _ h => h) (Or.inl ⟨by rfl, ?_⟩) hS ?_
              rotate_left
              · (intro w hSw; (try dsimp only at hSw); go_simp; (first | done | with_reducible rfl))
              change wpAnyH _ _ _ _ _ _ _ (Act.put _ (some 42) _) _
              simp only [Act.put, List.setIfInBounds_toArray, List.set_cons_zero, List.set_cons_succ]
              refine wpAnyH_take (i := 10) (v := ?_) rfl (by kernel_rfl) (by kernel_rfl) (by kernel_rfl) (fun _ _ _ h => h) (Or.inl ⟨by rfl, ?_⟩) hS ?_
              rotate_left
              · (intro w hSw; (try dsimp only at hSw); go_simp; (first | done | with_reducible rfl))
              change wpAnyH _ _ _ _ _ _ _ (Act.put _ (some 43) _) _
              simp only [Act.put, List.setIfInBounds_toArray, List.set_cons_zero, List.set_cons_succ]
              refine wpAnyH_take (i := 11) (v := ?_) rfl (by kernel_rfl) (by kernel_rfl) (by kernel_rfl) (fun _ _ _ h => h) (Or.inl ⟨by rfl, ?_⟩) hS ?_
              rotate_left
              · (intro w hSw; (try dsimp only at hSw); go_simp; (first | done | with_reducible rfl))
              change wpAnyH _ _ _ _ _ _ _ (Act.put _ (some 8) _) _
              simp only [Act.put, List.setIfInBounds_toArray, List.set_cons_zero, List.set_cons_succ]
              refine wpAnyH_done (by kernel_rfl) ?_ _
              refine NoPanic.normal ?_
              go_wp2_with fail
              go_roundw
              case rel => exact ⟨k + 1, by omega, by go_num, by rw [HG2.out], by rw [HG2.out]; omega, hkk.drew⟩
              case measure => simp [intOf]; omega
          · obtain rfl : k = xs.length := by omega
            obtain ⟨G, hG⟩ : ∃ G, G = gmax xs ys xs.length := ⟨_, rfl⟩
            rw [← hG] at g0 g1 ⊢
            have HG := Lib.hid hG
            clear hG
            go_wp2_with fail
            obtain ⟨w2, hw2⟩ : ∃ x, x = wr := ⟨wr, rfl⟩
            subst hw2
            go_loopw [10, 11] (fun u v wr => ∃ (k : Nat) (A' : Option Addr) (c' : Nat), k ≤ xs.length ∧ v = .int .i64 k ∧ u = .slice A' (pick xs ys k G).length c' ∧ Fr 3 wr w.heap.size A' (pick xs ys k G).length c' (cs .i64 (pick xs ys k G)) ∧ Keep w wr) (fun _ v _ => xs.length - (intOf v).toNat)
            case atStart => exact ⟨0, none, 0, Nat.zero_le _, rfl, rfl, Fr.empty _ _ _ _, hkk⟩
            case round =>
              clear hkk
              obtain ⟨k, A', c', hk, rfl, rfl, hfr, hkk⟩ := hrel
              by_cases hlt : k < xs.length
              · obtain ⟨b1, o1, x, e1, hx, hc1⟩ := (ha.keep hkk).int_at hlt
                obtain ⟨b2, o2, y, e2, hy, hc2⟩ := (hb.keep hkk).int_at (show k < ys.length by omega)
                subst e1
                subst e2
                obtain ⟨x0, x1⟩ := HXB.out x (List.mem_of_getElem? hx)
                obtain ⟨y0, y1⟩ := HYB.out y (List.mem_of_getElem? hy)
                have hps := pick_succ hx hy G
                have hk1 : (k : Int) < xs.length := by omega
                have hk2 : (k : Int) < ys.length := by omega
                have hk0 : (0 : Int) ≤ k := by omega
                have ww : IntKind.i64.wrap (x - y) = x - y := IntWalk.i64_in _ (by omega)
                have hpl := length_pick xs ys k G
                clear hx hy
                by_cases heq : x - y = G
                · rw [if_pos heq] at hps
                  have HPS := Lib.hid hps
                  have z5 : ((x - y) == G) = true := beq_iff_eq.2 heq
                  obtain ⟨pl, hplq⟩ : ∃ pl, pl = pick xs ys k G := ⟨_, rfl⟩
                  rw [← hplq] at hfr HPS hpl ⊢
                  clear hps heq hplq
                  go_upto_region 12 with fail
                  go_cut [60] from 50 to 60 (fun v wx => v = .bool true ∧ Keep wr wx)
                  case first =>
                    refine wp_region_noPanic ?_
                    refine wp_region_held_drew (S := (fun w' => w'.cell? ⟨b1, o1 + k, none⟩ = some (.int .i64 x) ∧ w'.cell? ⟨b2, o2 + k, none⟩ = some (.int .i64 y))) (by kernel_rfl) ⟨hc1, hc2⟩ (fun hS => ?_)
                    refine wpAnyH_take (i := 0) (v := ?_) rfl (by kernel_rfl) (by kernel_rfl) (by kernel_rfl) (fun _ _ _ h => h) (Or.inl ⟨by rfl, ?_⟩) hS ?_
                    rotate_left
                    · (intro w hSw; (try dsimp only at hSw); go_simp; (first | done | with_reducible rfl))
                    change wpAnyH _ _ _ _ _ _ _ (Act.put _ (some 50) _) _
                    simp only [Act.put, List.setIfInBounds_toArray, List.set_cons_zero, List.set_cons_succ]
                    refine wpAnyH_take (i := 1) (v := ?_) rfl (by kernel_rfl) (by kernel_rfl) (by kernel_rfl) (fun _ _ _ h => h) (Or.inl ⟨by rfl, ?_⟩) hS ?_
                    rotate_left
                    · (intro w hSw; (try dsimp only at hSw); go_simp; (first | done | with_reducible rfl))
                    change wpAnyH _ _ _ _ _ _ _ (Act.put _ (some 51) _) _
                    simp only [Act.put, List.setIfInBounds_toArray, List.set_cons_zero, List.set_cons_succ]
                    refine wpAnyH_take (i := 2) (v := ?_) rfl (by kernel_rfl) (by kernel_rfl) (by kernel_rfl) (fun _ _ _ h => h) (Or.inl ⟨by rfl, ?_⟩) hS ?_
                    rotate_left
                    · (intro w hSw; (try dsimp only at hSw); go_simp; (first | done | with_reducible rfl))
                    change wpAnyH _ _ _ _ _ _ _ (Act.put _ (some 52) _) _
                    simp only [Act.put, List.setIfInBounds_toArray, List.set_cons_zero, List.set_cons_succ]
                    refine wpAnyH_take (i := 3) (v := ?_) rfl (by kernel_rfl) (by kernel_rfl) (by kernel_rfl) (fun _ _ _ h => h) (Or.inl ⟨by rfl, ?_⟩) hS ?_
                    rotate_left
                    · (intro w hSw; (try dsimp only at hSw); go_simp; (first | done | with_reducible rfl))
                    change wpAnyH _ _ _ _ _ _ _ (Act.put _ (some 53) _) _
                    simp only [Act.put, List.setIfInBounds_toArray, List.set_cons_zero, List.set_cons_succ]
                    refine wpAnyH_take (i := 4) (v := ?_) rfl (by kernel_rfl) (by kernel_rfl) (by kernel_rfl) (fun _ _ _ h => h) (Or.inl ⟨by rfl, ?_⟩) hS ?_
                    rotate_left
                    · (intro w hSw; (try dsimp only at hSw); go_simp; (first | done | with_reducible rfl))
                    change wpAnyH _ _ _ _ _ _ _ (Act.put _ (some 54) _) _
                    simp only [Act.put, List.setIfInBounds_toArray, List.set_cons_zero, List.set_cons_succ]
                    refine wpAnyH_take (i := 5) (v := ?_) rfl (by kernel_rfl) (by kernel_rfl) (by kernel_rfl) (fun _ _ _ h => h) (Or.inl ⟨by rfl, ?_⟩) hS ?_
                    rotate_left
                    · (intro w hSw; (try dsimp only at hSw); go_simp; (first | done | with_reducible rfl))
                    change wpAnyH _ _ _ _ _ _ _ (Act.put _ (some 55) _) _
                    simp only [Act.put, List.setIfInBounds_toArray, List.set_cons_zero, List.set_cons_succ]
                    refine wpAnyH_take (i := 6) (v := ?_) rfl (by kernel_rfl) (by kernel_rfl) (by kernel_rfl) (fun _ _ _ h => h) (Or.inl ⟨by rfl, ?_⟩) hS ?_
                    rotate_left
                    · (intro w hSw; (try dsimp only at hSw); go_simp; (first | done | with_reducible rfl))
                    change wpAnyH _ _ _ _ _ _ _ (Act.put _ (some 56) _) _
                    simp only [Act.put, List.setIfInBounds_toArray, List.set_cons_zero, List.set_cons_succ]
                    refine wpAnyH_take (i := 7) (v := ?_) rfl (by kernel_rfl) (by kernel_rfl) (by kernel_rfl) (fun _ _ _ h => h) (Or.inl ⟨by rfl, ?_⟩) hS ?_
                    rotate_left
                    · (intro w hSw; (try dsimp only at hSw); go_simp; (first | done | with_reducible rfl))
                    change wpAnyH _ _ _ _ _ _ _ (Act.put _ (some 57) _) _
                    simp only [Act.put, List.setIfInBounds_toArray, List.set_cons_zero, List.set_cons_succ]
                    refine wpAnyH_take (i := 8) (v := ?_) rfl (by kernel_rfl) (by kernel_rfl) (by kernel_rfl) (fun _ _ _ h => h) (Or.inl ⟨by rfl, ?_⟩) hS ?_
                    rotate_left
                    · (intro w hSw; (try dsimp only at hSw); go_simp; (first | done | with_reducible rfl))
                    change wpAnyH _ _ _ _ _ _ _ (Act.put _ (some 58) _) _
                    simp only [Act.put, List.setIfInBounds_toArray, List.set_cons_zero, List.set_cons_succ]
                    refine wpAnyH_take (i := 9) (v := ?_) rfl (by kernel_rfl) (by kernel_rfl) (by kernel_rfl) (fun _ _ _ h => h) (Or.inl ⟨by rfl, ?_⟩) hS ?_
                    rotate_left
                    · (intro w hSw; (try dsimp only at hSw); go_simp; (first | done | with_reducible rfl))
                    change wpAnyH _ _ _ _ _ _ _ (Act.put _ (some 59) _) _
                    simp only [Act.put, List.setIfInBounds_toArray, List.set_cons_zero, List.set_cons_succ]
                    refine wpAnyH_take (i := 10) (v := ?_) rfl (by kernel_rfl) (by kernel_rfl) (by kernel_rfl) (fun _ _ _ h => h) (Or.inl ⟨by rfl, ?_⟩) hS ?_
                    rotate_left
                    · (intro w hSw; (try dsimp only at hSw); go_simp; (first | done | with_reducible rfl))
                    change wpAnyH _ _ _ _ _ _ _ (Act.put _ (some 60) _) _
                    simp only [Act.put, List.setIfInBounds_toArray, List.set_cons_zero, List.set_cons_succ]
                    refine wpAnyH_done (by kernel_rfl) ?_ _
                    refine NoPanic.normal ?_
                    go_wp2_with fail
                    go_meet
                    exact ⟨rfl, (Keep.refl _).drew⟩
                  case rest =>
                  obtain ⟨rfl, kq⟩ := hcut
                  have hf2 := hfr.keep kq
                  have hk3 := hkk.trans kq
                  clear hfr hkk hc1 hc2 z5
                  go_wp2_with (at_builtin; refine wpList_append_fr _ rfl _ _ 23 rfl w.heap.size 3 (.int .i64 0) 8 Tryd.underlying23 infoInt rfl A' pl.length c' _ rfl (hf2.keep (Keep.alloc1 _ _)) (some ⟨wc.heap.size, 0, none⟩) 1 1 [.int .i64 (k : Int)] rfl rfl (Rd.one _ _ _) (one_int _ _) ?c1 ?c2 ?c3 ?_)
                  case c1 => unfold maxLen; omega
                  case c2 => omega
                  case c3 => have := hk3.size; simp; omega
                  intro A2 c2 w3 happ
                  have hk4 := happ.keep (hk3.alloc _) (hf2.keep (Keep.alloc1 _ _))
                  have hf3 := happ.fr
                  rw [← cs_one, ← cs_append, ← HPS.out] at hf3
                  have hl2 : pl.length + 1 = (pick xs ys (k + 1) G).length := by rw [HPS.out, List.length_append]; rfl
                  have HL2 := Lib.hid hl2
                  clear happ hf2 hl2
                  go_wp2_with fail
                  go_roundw
                  case rel => exact ⟨k + 1, A2, c2, by omega, by go_num, by rw [HL2.out], by rw [← HL2.out]; exact hf3, hk4⟩
                  case measure => simp [intOf]; omega
                · rw [if_neg heq, List.append_nil] at hps
                  have HPS := Lib.hid hps
                  have z5 : ((x - y) == G) = false := beq_eq_false_iff_ne.2 heq
                  clear hps heq
                  go_upto_region 12 with fail
                  go_cut [60] from 50 to 60 (fun v wx => v = .bool false ∧ Keep wr wx)
                  case first =>
                    refine wp_region_noPanic ?_
                    refine wp_region_held_drew (S := (fun w' => w'.cell? ⟨b1, o1 + k, none⟩ = some (.int .i64 x) ∧ w'.cell? ⟨b2, o2 + k, none⟩ = some (.int .i64 y))) (by kernel_rfl) ⟨hc1, hc2⟩ (fun hS => ?_)
                    refine wpAnyH_take (i := 0) (v := ?_) rfl (by kernel_rfl) (by kernel_rfl) (by kernel_rfl) (fun _ _ _ h => h) (Or.inl ⟨by rfl, ?_⟩) hS ?_
                    rotate_left
                    · (intro w hSw; (try dsimp only at hSw); go_simp; (first | done | with_reducible rfl))
                    change wpAnyH _ _ _ _ _ _ _ (Act.put _ (some 50) _) _
                    simp only [Act.put, List.setIfInBounds_toArray, List.set_cons_zero, List.set_cons_succ]
                    refine wpAnyH_take (i := 1) (v := ?_) rfl (by kernel_rfl) (by kernel_rfl) (by kernel_rfl) (fun _ _ _ h => h) (Or.inl ⟨by rfl, ?_⟩) hS ?_
                    rotate_left
                    · (intro w hSw; (try dsimp only at hSw); go_simp; (first | done | with_reducible rfl))
                    change wpAnyH _ _ _ _ _ _ _ (Act.put _ (some 51) _) _
                    simp only [Act.put, List.setIfInBounds_toArray, List.set_cons_zero, List.set_cons_succ]
                    refine wpAnyH_take (i := 2) (v := ?_) rfl (by kernel_rfl) (by kernel_rfl) (by kernel_rfl) (fun _ _ _ h => h) (Or.inl ⟨by rfl, ?_⟩) hS ?_
                    rotate_left
                    · (intro w hSw; (try dsimp only at hSw); go_simp; (first | done | with_reducible rfl))
                    change wpAnyH _ _ _ _ _ _ _ (Act.put _ (some 52) _) _
                    simp only [Act.put, List.setIfInBounds_toArray, List.set_cons_zero, List.set_cons_succ]
                    refine wpAnyH_take (i := 3) (v := ?_) rfl (by kernel_rfl) (by kernel_rfl) (by kernel_rfl) (fun _ _ _ h => h) (Or.inl ⟨by rfl, ?_⟩) hS ?_
                    rotate_left
                    · (intro w hSw; (try dsimp only at hSw); go_simp; (first | done | with_reducible rfl))
                    change wpAnyH _ _ _ _ _ _ _ (Act.put _ (some 53) _) _
                    simp only [Act.put, List.setIfInBounds_toArray, List.set_cons_zero, List.set_cons_succ]
                    refine wpAnyH_take (i := 4) (v := ?_) rfl (by kernel_rfl) (by kernel_rfl) (by kernel_rfl) (fun _ _ _ h => h) (Or.inl ⟨by rfl, ?_⟩) hS ?_
                    rotate_left
                    · (intro w hSw; (try dsimp only at hSw); go_simp; (first | done | with_reducible rfl))
                    change wpAnyH _ _ _ _ _ _ _ (Act.put _ (some 54) _) _
                    simp only [Act.put, List.setIfInBounds_toArray, List.set_cons_zero, List.set_cons_succ]
                    refine wpAnyH_take (i := 5) (v := ?_) rfl (by kernel_rfl) (by kernel_rfl) (by kernel_rfl) (fun _ _ _ h => h) (Or.inl ⟨by rfl, ?_⟩) hS ?_
                    rotate_left
                    · (intro w hSw; (try dsimp only at hSw); go_simp; (first | done | with_reducible rfl))
                    change wpAnyH _ _ _ _ _ _ _ (Act.put _ (some 55) _) _
                    simp only [Act.put, List.setIfInBounds_toArray, List.set_cons_zero, List.set_cons_succ]
                    refine wpAnyH_take (i := 6) (v := ?_) rfl (by kernel_rfl) (by kernel_rfl) (by kernel_rfl) (fun _ _ _ h => h) (Or.inl ⟨by rfl, ?_⟩) hS ?_
                    rotate_left
                    · (intro w hSw; (try dsimp only at hSw); go_simp; (first | done | with_reducible rfl))
                    change wpAnyH _ _ _ _ _ _ _ (Act.put _ (some 56) _) _
                    simp only [Act.put, List.setIfInBounds_toArray, List.set_cons_zero, List.set_cons_succ]
                    refine wpAnyH_take (i := 7) (v := ?_) rfl (by kernel_rfl) (by kernel_rfl) (by kernel_rfl) (fun _ _ _ h => h) (Or.inl ⟨by rfl, ?_⟩) hS ?_
                    rotate_left
                    · (intro w hSw; (try dsimp only at hSw); go_simp; (first | done | with_reducible rfl))
                    change wpAnyH _ _ _ _ _ _ _ (Act.put _ (some 57) _) _
                    simp only [Act.put, List.setIfInBounds_toArray, List.set_cons_zero, List.set_cons_succ]
                    refine wpAnyH_take (i := 8) (v := ?_) rfl (by kernel_rfl) (by kernel_rfl) (by kernel_rfl) (fun _ _ _ h => h) (Or.inl ⟨by rfl, ?_⟩) hS ?_
                    rotate_left
                    · (intro w hSw; (try dsimp only at hSw); go_simp; (first | done | with_reducible rfl))
                    change wpAnyH _ _ _ _ _ _ _ (Act.put _ (some 58) _) _
                    simp only [Act.put, List.setIfInBounds_toArray, List.set_cons_zero, List.set_cons_succ]
                    refine wpAnyH_take (i := 9) (v := ?_) rfl (by kernel_rfl) (by kernel_rfl) (by kernel_rfl) (fun _ _ _ h => h) (Or.inl ⟨by rfl, ?_⟩) hS ?_
                    rotate_left
                    · (intro w hSw; (try dsimp only at hSw); go_simp; (first | done | with_reducible rfl))
                    change wpAnyH _ _ _ _ _ _ _ (Act.put _ (some 59) _) _
                    simp only [Act.put, List.setIfInBounds_toArray, List.set_cons_zero, List.set_cons_succ]
                    refine wpAnyH_take (i := 10) (v := ?_) rfl (by kernel_rfl) (by kernel_rfl) (by kernel_rfl) (fun _ _ _ h => h) (Or.inl ⟨by rfl, ?_⟩) hS ?_
                    rotate_left
                    · (intro w hSw; (try dsimp only at hSw); go_simp; (first | done | with_reducible rfl))
                    change wpAnyH _ _ _ _ _ _ _ (Act.put _ (some 60) _) _
                    simp only [Act.put, List.setIfInBounds_toArray, List.set_cons_zero, List.set_cons_succ]
                    refine wpAnyH_done (by kernel_rfl) ?_ _
                    refine NoPanic.normal ?_
                    go_wp2_with fail
                    go_meet
                    exact ⟨rfl, (Keep.refl _).drew⟩
                  case rest =>
                  obtain ⟨rfl, kq⟩ := hcut
                  go_wp2_with fail
                  go_roundw
                  case rel => exact ⟨k + 1, A', c', by omega, by go_num, by rw [HPS.out], by rw [HPS.out]; exact hfr.keep kq, hkk.trans kq⟩
                  case measure => simp [intOf]; omega
              · obtain rfl : k = xs.length := by omega
                go_wp2_with fail
                refine bodyPost_ret (results_tmp4 rfl _ _ _) rfl ?_
                exact ⟨A', c', pick xs ys xs.length G, _, _, _, rfl, hfr.rd, hkk, by rw [HV.out, ← HG.out]⟩
    · have hv := hno (by cases h : ofOk xs ys with | true => exact absurd h hok | false => rfl)
      have hx0 : 0 < xs.length := by
        refine Nat.pos_of_ne_zero fun h => hok ?_
        unfold ofOk
        rw [hm, decide_eq_true h]
        rfl
      have hck : chk xs ys.length = false := by
        cases h : chk xs ys.length with
        | false => rfl
        | true =>
          refine absurd ?_ hok
          unfold ofOk
          rw [hm, h, Bool.or_true]
          rfl
      have hq := fun w1 (k1 : Keep w w1) => refCheck_f A ca xs (ys.length : Int) w1 (ha.keep k1) la
      simp only [hck] at hq
      have z1 : decide ((0 : Int) < xs.length) = true := decide_eq_true (by omega)
      have z2 : (0 : Int) < xs.length := by omega
      have HV := Lib.hid hv
      clear hck hm hv hno hok hx0
      go_enter Tryd.func30, Tryd.ntmps30
      go_wp2_with fail
      refine hp.mono ?_
      rintro e w1 ⟨rfl, k1⟩
      have hq1 := hq w1 k1
      go_wp2_with fail
      refine hq1.mono ?_
      rintro e w2 ⟨rfl, k2⟩
      go_wp2_with fail
      refine bodyPost_ret (results_tmp4 rfl _ _ _) rfl ?_
      exact ⟨none, 0, [], false, 0, 1, rfl, Rd.nil _ _, k1.trans k2, HV.out⟩
end Go.Proofs.YtafiahnaeakcfaaDoor

namespace Go.Proofs.YtafiahnaeakcfaaDoor
open Go.RowKit

/-- So many numbers, each one below it once: none else. -/
theorem all_in {n : Nat} : ∀ {l : List Int}, l.length = n → (∀ i, i < n → l.count (i : Int) = 1) → ∀ x ∈ l, 0 ≤ x ∧ x < n := by
  induction n with
  | zero =>
    intro l hl _ x hx
    rw [List.eq_nil_of_length_eq_zero hl] at hx
    cases hx
  | succ n ih =>
    intro l hl hc x hx
    have hm : (n : Int) ∈ l := List.count_pos_iff.1 (by rw [hc n (by omega)]; omega)
    have h1 : (l.erase (n : Int)).length = n := by rw [List.length_erase_of_mem hm]; omega
    have h2 : ∀ i, i < n → (l.erase (n : Int)).count (i : Int) = 1 := fun i hi => by
      rw [List.count_erase_of_ne (by omega)]
      exact hc i (by omega)
    by_cases hxn : x = n
    · omega
    · have := ih h1 h2 x ((List.mem_erase_of_ne hxn).2 hx)
      omega
theorem ordB_of {l : List Int} {n : Nat} (hl : l.length = n) (hc : ∀ i, i < n → l.count (i : Int) = 1) : ordB l n = true := by
  unfold ordB
  rw [Bool.and_eq_true]
  refine ⟨List.all_eq_true.2 fun x hx => ?_, decide_eq_true hc⟩
  have := all_in hl hc x hx
  rw [decide_eq_true (by omega : 0 ≤ x), decide_eq_true (by omega : x < n)]
  rfl
theorem ordB_count {l : List Int} {n i : Nat} (hi : i < n) (h : l.count (i : Int) ≠ 1) : ordB l n = false := by
  cases hb : ordB l n with
  | false => rfl
  | true =>
    unfold ordB at hb
    rw [Bool.and_eq_true] at hb
    exact absurd (of_decide_eq_true hb.2 i hi) h
theorem ordB_length {l : List Int} {n : Nat} (h : l.length ≠ n) : ordB l n = false := by
  cases hb : ordB l n with
  | false => rfl
  | true => exact absurd (ordB_len hb) h
theorem count_snoc {l : List Int} {k : Nat} {x i : Int} (h : l[k]? = some x) : ((l.take (k + 1)).count i : Int) = (l.take k).count i + if x = i then 1 else 0 := by
  rw [List.take_add_one, h, List.count_append]
  by_cases e : x = i
  · subst e; simp
  · simp [e]

set_option maxRecDepth 100000 in
set_option maxHeartbeats 4000000 in
theorem refCheckM_f (M : Mkt) (w : World) (hM : M.Ok w) :
    Calls Tryd.prog 85 #[M.val] w fun e w' => e = .returned (.bool (chkM M.r.l (bidsOf M.bs) M.o.l)) ∧ Keep w w' := by
  have lr := hM.r.len
  have lb := hM.b.len
  have lo := hM.o.len
  have lr' := lr.le
  have lb' := lb.le
  have lo' := lo.le
  have bA := Blk.new w 66 [.slice M.r.a M.r.l.length M.r.c, .slice M.ba M.bs.length M.bc, .slice M.o.a M.o.l.length M.o.c]
  have k0 : Keep w (w.alloc (.cells #[.slice M.r.a M.r.l.length M.r.c, .slice M.ba M.bs.length M.bc, .slice M.o.a M.o.l.length M.o.c] 66)) := Keep.alloc1 _ _
  have hM1 := hM.keep k0
  unfold Mkt.val
  have hno : ∀ {b : Bool}, chkM M.r.l (bidsOf M.bs) M.o.l = b → chkM M.r.l (bidsOf M.bs) M.o.l = b := fun h => h
  clear hno
  have hlb : (bidsOf M.bs).length = M.bs.length := length_bids M.bs
  have hchk := fun w1 (k : Keep w w1) => refCheck_f M.r.a M.r.c M.r.l (M.r.l.length : Int) w1 (hM.keep k).r.rd lr
  cases hcr : chk M.r.l M.r.l.length with
  | false =>
    have e : chkM M.r.l (bidsOf M.bs) M.o.l = false := by unfold chkM; rw [hcr]; rfl
    rw [e]
    rw [hcr] at hchk
    clear e hcr hlb
    go_enter Tryd.func85, Tryd.ntmps85
    go_wp2_with fail
    refine (hchk _ k0).mono ?_
    rintro e w1 ⟨rfl, k1⟩
    go_wp2_with fail
    go_ret
    exact ⟨rfl, k0.trans k1⟩
  | true =>
    rw [hcr] at hchk
    have hC : chkM M.r.l (bidsOf M.bs) M.o.l = (decide (1 ≤ M.bs.length) && decide (M.bs.length ≤ 8) && ordB M.o.l M.bs.length && !(bidsOf M.bs).any (badB M.r.l.length)) := by unfold chkM; rw [hcr, hlb, Bool.true_and]
    rw [hC]
    clear hC hlb
    by_cases h1 : M.bs.length < 1
    · have e : (decide (1 ≤ M.bs.length) && decide (M.bs.length ≤ 8) && ordB M.o.l M.bs.length && !(bidsOf M.bs).any (badB M.r.l.length)) = false := by rw [decide_eq_false (by omega : ¬ 1 ≤ M.bs.length)]; rfl
      rw [e]
      have y1 : decide ((M.bs.length : Int) < 1) = true := decide_eq_true (by omega)
      clear e hcr
      go_enter Tryd.func85, Tryd.ntmps85
      go_wp2_with fail
      refine (hchk _ k0).mono ?_
      rintro e w1 ⟨rfl, k1⟩
      go_wp2_with fail
      go_ret
      exact ⟨rfl, k0.trans k1⟩
    have y1 : decide ((M.bs.length : Int) < 1) = false := decide_eq_false (by omega)
    have y0 : (0 : Int) < M.bs.length := by omega
    rw [decide_eq_true (by omega : 1 ≤ M.bs.length), Bool.true_and]
    by_cases h8 : 8 < M.bs.length
    · have e : (decide (M.bs.length ≤ 8) && ordB M.o.l M.bs.length && !(bidsOf M.bs).any (badB M.r.l.length)) = false := by rw [decide_eq_false (by omega : ¬ M.bs.length ≤ 8)]; rfl
      rw [e]
      have y2 : decide ((8 : Int) < M.bs.length) = true := decide_eq_true (by omega)
      clear e hcr
      go_enter Tryd.func85, Tryd.ntmps85
      go_wp2_with fail
      refine (hchk _ k0).mono ?_
      rintro e w1 ⟨rfl, k1⟩
      go_wp2_with fail
      go_ret
      exact ⟨rfl, k0.trans k1⟩
    have y2 : decide ((8 : Int) < M.bs.length) = false := decide_eq_false (by omega)
    rw [decide_eq_true (by omega : M.bs.length ≤ 8), Bool.true_and]
    have c1 := bA.cell_ (i := 1) rfl
    have c2 := bA.cell_ (i := 2) rfl
    by_cases hol : M.o.l.length = M.bs.length
    case neg =>
      have e : (ordB M.o.l M.bs.length && !(bidsOf M.bs).any (badB M.r.l.length)) = false := by rw [ordB_length hol]; rfl
      rw [e]
      have y3 : ((M.o.l.length : Int) != M.bs.length) = true := by simp; omega
      clear e hcr hol
      go_enter Tryd.func85, Tryd.ntmps85
      go_wp2_with fail
      refine (hchk _ k0).mono ?_
      rintro e w1 ⟨rfl, k1⟩
      replace c1 := k1.cell c1
      replace c2 := k1.cell c2
      go_wp2_with fail
      go_ret
      exact ⟨rfl, k0.trans k1⟩
    case pos =>
    have y3 : ((M.o.l.length : Int) != M.bs.length) = false := by simp [hol]
    have HOL := Lib.hid hol
    have lb8 : M.bs.length ≤ 8 := by omega
    clear hcr hol h1 h8
    go_enter Tryd.func85, Tryd.ntmps85
    go_wp2_with fail
    refine (hchk _ k0).mono ?_
    rintro e w1 ⟨rfl, k1⟩
    clear hchk
    replace c1 := k1.cell c1
    replace c2 := k1.cell c2
    replace bA := bA.keep k1
    replace hM1 := hM1.keep k1
    replace k0 := k0.trans k1
    clear k1
    generalize w.heap.size = gA at bA c1 c2 ⊢
    go_wp2_with fail
    go_loopw [5] (fun v wr => ∃ i : Nat, i ≤ M.bs.length ∧ v = .int .i64 i ∧ Hid (∀ j, j < i → (∀ t, M.bs[j]? = some t → badB M.r.l.length t.l = false) ∧ M.o.l.count (j : Int) = 1) ∧ Keep w1 wr) (fun v _ => M.bs.length - (intOf v).toNat)
    case atStart => exact ⟨0, Nat.zero_le _, rfl, Lib.hid (fun j hj => absurd hj (Nat.not_lt_zero _)), Keep.refl _⟩
    case round =>
      obtain ⟨i, hi, rfl, hall, hk⟩ := hrel
      have e0 := (bA.keep hk).cell_ (i := 0) rfl
      have e1 := (bA.keep hk).cell_ (i := 1) rfl
      have e2 := (bA.keep hk).cell_ (i := 2) rfl
      have hM2 := hM1.keep hk
      by_cases hlt : i < M.bs.length
      · obtain ⟨b1, o1, t, hba, hsk, hc1, ht⟩ := hM2.b.at_ hlt
        have HSK := Lib.hid hsk
        have i0 : (0 : Int) ≤ i := by omega
        have i1 : (i : Int) < M.bs.length := by omega
        rw [hba] at e1
        have ltt := ht.len.le
        clear hsk hba c1 c2
        go_upto_region 8 with fail
        go_cut [55] from 39 to 54 (fun v wx => v = .bool (badB M.r.l.length t.l) ∧ Keep wr wx)
        case first =>
          by_cases h0 : 0 < t.l.length
          · have q1 : decide ((0 : Int) < t.l.length) = true := decide_eq_true (by omega)
            have q2 : (0 : Int) < t.l.length := by omega
            have q3 : decide (0 < t.l.length) = true := decide_eq_true h0
            have q4 : (0 < t.l.length) = True := eq_true h0
            have q5 : (t.l.length = 0) = False := eq_false (by omega)
            have hq := refCheck_f t.a t.c t.l (M.r.l.length : Int) wr ht.rd ht.len
            have hbb : badB M.r.l.length t.l = !chk t.l M.r.l.length := by unfold badB; rw [decide_eq_true h0]; rfl
            have HBB := Lib.hid hbb
            clear h0 hbb
            go_wp2_with fail
            refine hq.mono ?_
            rintro e w3 ⟨rfl, k3⟩
            go_wp2_with fail
            go_meet
            exact ⟨by rw [HBB.out], k3⟩
          · have q1 : decide ((0 : Int) < t.l.length) = false := decide_eq_false (by omega)
            have q2 : ((0 : Int) < t.l.length) = False := eq_false (by omega)
            have q3 : decide (0 < t.l.length) = false := decide_eq_false h0
            have q4 : (0 < t.l.length) = False := eq_false h0
            have q5 : (t.l.length = 0) = True := eq_true (by omega)
            have hbb : badB M.r.l.length t.l = false := by unfold badB; rw [decide_eq_false h0]; rfl
            have HBB := Lib.hid hbb
            clear h0 hbb
            go_wp2_with fail
            go_meet
            exact ⟨by rw [HBB.out], Keep.refl _⟩
        case rest =>
        obtain ⟨rfl, k3⟩ := hcut
        replace hk := hk.trans k3
        clear e0 e1 e2 hc1 hM2 ht k3
        have e1 := (bA.keep hk).cell_ (i := 1) rfl
        have e2 := (bA.keep hk).cell_ (i := 2) rfl
        have hM2 := hM1.keep hk
        cases hbad : badB M.r.l.length t.l with
        | true =>
          have e : (ordB M.o.l M.bs.length && !(bidsOf M.bs).any (badB M.r.l.length)) = false := by
            rw [Bool.and_eq_false_iff]
            right
            rw [Bool.not_eq_false']
            exact List.any_eq_true.2 ⟨t.l, List.mem_map.2 ⟨t, List.mem_of_getElem? HSK.out, rfl⟩, hbad⟩
          have HE := Lib.hid e
          clear e hbad
          go_wp2_with fail
          go_ret
          exact ⟨by rw [HE.out]; rfl, k0.trans hk⟩
        | false =>
          have HBAD := Lib.hid hbad
          clear hbad
          go_wp2_with fail
          obtain ⟨w4, hw4⟩ : ∃ x, x = wc := ⟨wc, rfl⟩
          subst hw4
          go_loopw [6, 7] (fun u v wr => ∃ k q : Nat, k ≤ M.bs.length ∧ q ≤ k ∧ Hid (q = (M.o.l.take k).count (i : Int)) ∧ u = .int .i64 q ∧ v = .int .i64 k ∧ Keep w4 wr) (fun _ v _ => M.bs.length - (intOf v).toNat)
          case atStart => exact ⟨0, 0, Nat.zero_le _, Nat.le_refl _, Lib.hid rfl, rfl, rfl, Keep.refl _⟩
          case round =>
            obtain ⟨k, q, hkl, hqk, hq, rfl, rfl, hk2⟩ := hrel
            have g2 := ((bA.keep hk).keep hk2).cell_ (i := 2) rfl
            have hM3 := hM2.keep hk2
            by_cases hlt2 : k < M.bs.length
            · obtain ⟨b3, o3, x, hoa, hx, hc3⟩ := hM3.o.rd.int_at (j := k) (by rw [HOL.out]; exact hlt2)
              have hcs := count_snoc (i := (i : Int)) hx
              rw [← hq.out] at hcs
              rw [hoa] at g2
              have k0' : (0 : Int) ≤ k := by omega
              have k1' : (k : Int) < M.o.l.length := by rw [HOL.out]; omega
              have k2' : (k : Int) < M.bs.length := by omega
              by_cases hxi : x = i
              · have z1 : (x == (i : Int)) = true := by simp [hxi]
                rw [if_pos hxi] at hcs
                have HC := Lib.hid (show q + 1 = (M.o.l.take (k + 1)).count (i : Int) by omega)
                clear hoa hx hxi hcs hq
                go_wp2_with fail
                go_roundw
                case rel => exact ⟨k + 1, q + 1, by omega, by omega, HC, by go_num, by go_num, hk2⟩
                case measure => simp [intOf]; omega
              · have z1 : (x == (i : Int)) = false := by simp [hxi]
                rw [if_neg hxi] at hcs
                have HC := Lib.hid (show q = (M.o.l.take (k + 1)).count (i : Int) by omega)
                clear hoa hx hxi hcs hq
                go_wp2_with fail
                go_roundw
                case rel => exact ⟨k + 1, q, by omega, by omega, HC, rfl, by go_num, hk2⟩
                case measure => simp [intOf]; omega
            · obtain rfl : k = M.bs.length := by omega
              have hqq := hq.out
              rw [List.take_of_length_le (by rw [HOL.out]; exact Nat.le_refl _)] at hqq
              have k2' : decide ((M.bs.length : Int) < M.bs.length) = false := decide_eq_false (by omega)
              by_cases hq1 : q = 1
              · have z1 : ((q : Int) != 1) = false := by simp [hq1]
                have HN := Lib.hid (fun j (hj : j < i + 1) => (show (∀ t, M.bs[j]? = some t → badB M.r.l.length t.l = false) ∧ M.o.l.count (j : Int) = 1 from by
                  by_cases hji : j < i
                  · exact hall.out j hji
                  · obtain rfl : j = i := by omega
                    refine ⟨fun t' ht' => ?_, by rw [← hqq, hq1]⟩
                    rw [HSK.out] at ht'
                    cases ht'
                    exact HBAD.out))
                clear hq hqq hq1
                go_wp2_with fail
                go_roundw
                case rel => exact ⟨i + 1, by omega, by go_num, HN, hk.trans hk2⟩
                case measure => simp [intOf]; omega
              · have z1 : ((q : Int) != 1) = true := by simp; omega
                have e : (ordB M.o.l M.bs.length && !(bidsOf M.bs).any (badB M.r.l.length)) = false := by rw [ordB_count hlt (by rw [← hqq]; exact hq1)]; rfl
                have HE := Lib.hid e
                clear e hq hqq hq1
                go_wp2_with fail
                go_ret
                exact ⟨by rw [HE.out]; rfl, (k0.trans hk).trans hk2⟩
      · obtain rfl : i = M.bs.length := by omega
        have e : (ordB M.o.l M.bs.length && !(bidsOf M.bs).any (badB M.r.l.length)) = true := by
          rw [ordB_of HOL.out (fun j hj => (hall.out j hj).2), Bool.true_and, Bool.not_eq_true', List.any_eq_false]
          intro b hb
          obtain ⟨t, ht, rfl⟩ := List.mem_map.1 hb
          obtain ⟨j, hj⟩ := List.getElem?_of_mem ht
          rw [(hall.out j (List.getElem?_eq_some_iff.1 hj).1).1 t hj]
          decide
        have HE := Lib.hid e
        have k2' : decide ((M.bs.length : Int) < M.bs.length) = false := decide_eq_false (by omega)
        clear e hall
        go_wp2_with fail
        go_ret
        exact ⟨by rw [HE.out]; rfl, k0.trans hk⟩
end Go.Proofs.YtafiahnaeakcfaaDoor

namespace Go.Proofs.YtafiahnaeakcfaaDoor
open Go.RowKit

theorem rg_results {fn : Func} {tmps : Array Value} {w : World} {b : Nat} {v0 v1 v2 : Value} (h : fn.results = #[ResultVar.cell 2 66, ResultVar.tmp 3]) (hb : Blk w b 66 [v0, v1, v2])
    (t1 : tmps.getD 2 undef = .pointer (some ⟨b, 0, none⟩)) : (results fn tmps).run Tryd.prog w = .ok (.tuple #[.agg #[v0, v1, v2], tmps.getD 3 undef]) w := by
  rw [results_cell_tmp h, t1]
  have hr := run_loadVar_row (P := Tryd.prog) w b 66 66 _ (0, 0) _ hb Tryd.underlying66 rfl (by kernel_rfl)
  simp only [asAddr, Sem.run_pure, Result.andThen, hr]
theorem one_slr (s : Sl) : ∀ u ∈ [s.val], u.oneCell' = true := by
  intro u hu
  rw [List.mem_singleton] at hu
  subst hu
  rfl
/-- A slice of bytes that are left. -/
def SlB (w : World) (ys : List Int) (v : Value) : Prop := ∃ A c, v = .slice A ys.length c ∧ Rd w A (cs .u8 ys) ∧ Bytes ys ∧ ys.length ≤ c ∧ Len c
theorem SlB.of_cut {w : World} {A A' : Option Addr} {c c' k n' : Nat} {xs : List Int} (rd : Rd w A (cs .u8 xs)) (hB : Bytes xs) (hc : xs.length ≤ c) (lc : Len c)
    (hA : c ≠ k → A' = A.map (·.add k)) (hk : c' = c - k) (hn : n' = xs.length - k) : SlB w (xs.drop k) (.slice A' n' c') := by
  subst hk hn
  refine ⟨A', c - k, by rw [List.length_drop], ?_, hB.drop k, by rw [List.length_drop]; omega, by unfold Len at lc ⊢; omega⟩
  rw [← cs_drop]
  exact rd.drop (cap := c) (by rw [length_cs]; exact hc) A' hA
theorem getLs_none {ys : List Int} {k : Nat} (h : getLs k ys = none) : ∀ n, k ≤ n → getLs n ys = none := by
  intro n hn
  obtain ⟨d, rfl⟩ : ∃ d, n = k + d := ⟨n - k, by omega⟩
  clear hn
  induction d with
  | zero => exact h
  | succ d ih => rw [Nat.add_succ, getLs_succ, ih]
theorem ref_ok {w : World} {B : Nat} {A1 A2 AB : Option Addr} {c1 c2 cB : Nat} {R O : List Int} {hs : List Sl} (f1 : Fr 3 w B A1 R.length c1 (cs .i64 R)) (f2 : Fr 3 w B A2 O.length c2 (cs .i64 O)) (br : Fr 23 w B AB hs.length cB (hs.map Sl.val))
    (b2 : ∀ s ∈ hs, Fr 3 w B s.a s.l.length s.c (cs .i64 s.l)) (r1 : ∀ x ∈ R, 0 ≤ x ∧ x < 4294967296) (r2 : ∀ b ∈ bidsOf hs, ∀ x ∈ b, 0 ≤ x ∧ x < 4294967296) (r3 : ∀ x ∈ O, 0 ≤ x ∧ x < 4294967296) :
    (Mkt.mk ⟨A1, c1, R⟩ AB cB hs ⟨A2, c2, O⟩).Ok w := by
  have wf : ∀ {x : Int}, 0 ≤ x ∧ x < 4294967296 → (Lit.int .i64 x).wf = true := fun h => WalkArith.wf_i64 (by omega)
  refine ⟨⟨⟨f1.rd, f1.cap, f1.capMax, fun x h => wf (r1 x h)⟩, f1.capNil⟩, ⟨br.rd, br.cap, br.capMax, fun s h => ?_⟩, br.capNil, ⟨⟨f2.rd, f2.cap, f2.capMax, fun x h => wf (r3 x h)⟩, f2.capNil⟩⟩
  have q2 := b2 s h
  exact ⟨⟨q2.rd, q2.cap, q2.capMax, fun x hx => wf (r2 s.l (List.mem_map.2 ⟨s, h, rfl⟩) x hx)⟩, q2.capNil⟩
/-- What the document's Get leaves. -/
def RefGetMP (xs : List Int) (w : World) (e : Ending) (w' : World) : Prop :=
  Keep w w' ∧ match g4 xs with
  | none => e = .returned (.tuple #[zeroM, .int .i64 5])
  | some (R, bl, O, rest) =>
    if (rest = [] ∧ chkM R bl O = true) then ∃ N : Mkt, e = .returned (.tuple #[N.val, .int .i64 0]) ∧ N.Ok w' ∧ N.r.l = R ∧ bidsOf N.bs = bl ∧ N.o.l = O
    else e = .returned (.tuple #[zeroM, .int .i64 4])

set_option maxRecDepth 100000 in
set_option maxHeartbeats 8000000 in
theorem refGetM_f (A : Option Addr) (c : Nat) (xs : List Int) (w : World) (ha : Rd w A (cs .u8 xs)) (hb : Bytes xs) (hc : xs.length ≤ c) (lc : Len c) :
    Calls Tryd.prog 38 #[.slice A xs.length c] w (RefGetMP xs w) := by
  have lc' := lc.le
  have hc' : (xs.length : Int) ≤ c := by omega
  have hzero : ∀ w, (zeroValue 66).run Tryd.prog w = .ok (.agg #[.slice none 0 0, .slice none 0 0, .slice none 0 0]) w := fun w => by kernel_rfl
  obtain ⟨W1, hW1⟩ : ∃ W1, W1 = (w.alloc (.cells #[.slice none 0 0, .slice none 0 0, .slice none 0 0] 66)).alloc (.cells #[.slice none 0 0, .slice none 0 0, .slice none 0 0] 66) := ⟨_, rfl⟩
  have bO : Blk W1 w.heap.size 66 [nilS, nilS, nilS] := by rw [hW1]; exact (Blk.new w 66 [nilS, nilS, nilS]).keep (Keep.alloc1 _ _)
  have bM : Blk W1 (w.heap.size + 1) 66 [nilS, nilS, nilS] := by
    have h := Blk.new (w.alloc (.cells #[.slice none 0 0, .slice none 0 0, .slice none 0 0] 66)) 66 [nilS, nilS, nilS]
    rw [hW1]
    simpa using h
  have kk : Keep w W1 := by rw [hW1]; exact (Keep.alloc1 _ _).trans (Keep.alloc1 _ _)
  go_enter Tryd.func38, Tryd.ntmps38
  go_upto_region 2 with fail
  obtain ⟨B, hB⟩ : ∃ B, B = w.heap.size := ⟨_, rfl⟩
  rw [← hB] at bO bM ⊢
  rw [← hW1]
  have HB := Lib.hid hB
  clear hW1 hB
  have hq := refGetList_o A c xs W1 (ha.keep kk) hb hc lc
  unfold RefLO at hq
  cases hg : getL xs with
  | none =>
    rw [hg] at hq
    have HG := Lib.hid (show g4 xs = none by unfold g4 g3 g2; rw [hg])
    clear hg
    go_wp2_with fail
    refine hq.mono ?_
    rintro e w2 ⟨rfl, k2⟩
    clear hq
    replace bO := bO.keep k2
    replace kk := kk.trans k2
    go_wp2_with (refine wpList_store_row rfl 66 _ _ rfl B #[.slice none 0 0, .slice none 0 0, .slice none 0 0] rfl rfl _ _ bO (by kernel_rfl) rfl (by simp [Value.oneCell']) ?_)
    refine bodyPost_ret (rg_results rfl (bO.row _) rfl) rfl ?_
    unfold RefGetMP
    rw [HG.out]
    exact ⟨kk.grown (only_row _ _ _) (fun k e => by injection e with e; have := HB.out; omega), rfl⟩
  | some R =>
    rw [hg] at hq
    dsimp only at hq
    have hle := getL_len hg
    have hrR := getL_range hb hg
    have HRR := Lib.hid hrR
    obtain ⟨ys, hys⟩ : ∃ ys, ys = xs.drop (1 + 4 * R.length) := ⟨_, rfl⟩
    have HG2 := Lib.hid (show g2 xs = match (generalizing := false) ys with | [] => none | y :: zs => some (R, y.toNat, zs) by unfold g2; simp only [hg]; rw [← hys]; first | done | (cases ys <;> rfl))
    have HG := Lib.hid hg
    clear hg hrR
    go_wp2_with fail
    refine hq.mono ?_
    rintro e w2 ⟨A1, c1, rfl, f1, k2⟩
    clear hq
    replace f1 : Fr 3 w2 B A1 R.length c1 (cs .i64 R) := f1.mono (by rw [HB.out]; exact kk.size)
    replace bO := bO.keep k2
    replace bM := bM.keep k2
    replace kk := kk.trans k2
    clear k2
    have m0 := bM.cell_ (i := 0) rfl
    have fm0 := bM.frozen 0
    go_upto_region 6 with fail
    replace f1 := f1.setCell (p := ⟨B + 1, 0, none⟩) (fun k hk => f1.own_ne bM (by decide) k hk) (.slice A1 R.length c1)
    replace bO := bO.far (p := ⟨B + 1, 0, none⟩) (by simp only; omega) (.slice A1 R.length c1)
    replace bM := bM.set_ 0 (.slice A1 R.length c1)
    replace kk := kk.setCell (p := ⟨B + 1, 0, none⟩) (by have := HB.out; simp only; omega) (.slice A1 R.length c1)
    generalize w2.setCell ⟨B + 1, 0, none⟩ (.slice A1 R.length c1) = w3 at f1 bO bM kk ⊢
    clear m0 fm0
    have zle : (1 + 4 * R.length : Int) ≤ xs.length := by omega
    have hcut0 : ∀ A2 n2 c2, (c ≠ 1 + 4 * R.length → A2 = A.map (·.add (1 + 4 * R.length))) → c2 = c - (1 + 4 * R.length) → n2 = xs.length - (1 + 4 * R.length) → SlB w ys (.slice A2 n2 c2) := fun A2 n2 c2 h1 h2 h3 => by
      rw [hys]
      exact SlB.of_cut ha hb hc lc h1 h2 h3
    have HC := Lib.hid hcut0
    clear hcut0
    go_cut [0] from 10 to 24 (fun v wx => SlB w ys v ∧ wx = w3)
    case first =>
      go_wp2_with fail
      all_goals go_meet
      · exact ⟨HC.out _ _ _ (fun e => absurd h e) (by omega) rfl, rfl⟩
      · exact ⟨HC.out _ _ _ (fun _ => rfl) rfl rfl, rfl⟩
    case rest =>
    obtain ⟨⟨A3, c3, rfl, rd3, hB3, hc3, lc3⟩, rfl⟩ := hcut
    clear HC zle hle hys
    have hq := refGet_f A3 c3 ys 1 wc (rd3.keep kk) hB3 hc3 lc3 (by omega)
    unfold GetP at hq
    cases ys with
    | nil =>
      have HN := Lib.hid (show g4 xs = none by unfold g4 g3; rw [HG2.out])
      rw [show getV [] 1 = (0, 5) from rfl] at hq
      dsimp only at hq
      go_wp2_with fail
      refine hq.mono ?_
      rintro e w4 ⟨rfl, k4⟩
      clear hq
      replace bO := bO.keep k4
      replace kk := kk.trans k4
      go_wp2_with (refine wpList_store_row rfl 66 _ _ rfl B #[.slice none 0 0, .slice none 0 0, .slice none 0 0] rfl rfl _ _ bO (by kernel_rfl) rfl (by simp [Value.oneCell']) ?_)
      refine bodyPost_ret (rg_results rfl (bO.row _) rfl) rfl ?_
      unfold RefGetMP
      rw [HN.out]
      exact ⟨kk.grown (only_row _ _ _) (fun k e => by injection e with e; have := HB.out; omega), rfl⟩
    | cons y zs =>
      have hy := hB3.head
      obtain ⟨n, hn⟩ : ∃ n : Nat, y.toNat = n := ⟨_, rfl⟩
      have hgv : getV (y :: zs) 1 = (n, 0) := by
        rw [getV, if_neg (by omega), if_neg (by simp; omega)]
        simp [val, hn]
      rw [hgv] at hq
      have hG2 := HG2.out
      dsimp only at hG2
      rw [hn] at hG2
      have HG3 := Lib.hid hG2
      have hn256 : n < 256 := by omega
      have hcut0 : ∀ A2 n2 c2, (c3 ≠ 1 → A2 = A3.map (·.add 1)) → c2 = c3 - 1 → n2 = (y :: zs).length - 1 → SlB w zs (.slice A2 n2 c2) := fun A2 n2 c2 h1 h2 h3 => SlB.of_cut (xs := y :: zs) (k := 1) rd3 hB3 hc3 lc3 h1 h2 h3
      have HC := Lib.hid hcut0
      have hl3 := hc3
      rw [List.length_cons] at hl3
      have lc3' := lc3.le
      rw [List.length_cons] at hq ⊢
      clear hcut0 hG2 HG2 hgv hn hy rd3 hB3 hc3 lc3
      go_wp2_with fail
      refine hq.mono ?_
      rintro e w4 ⟨rfl, k4⟩
      clear hq
      replace f1 := f1.keep k4
      replace bO := bO.keep k4
      replace bM := bM.keep k4
      replace kk := kk.trans k4
      clear k4
      go_upto_region 10 with fail
      go_cut [0] from 25 to 35 (fun v wx => SlB w zs v ∧ wx = w4)
      case first =>
        go_wp2_with fail
        all_goals go_meet
        · exact ⟨HC.out _ _ _ (fun e => absurd h e) (by omega) rfl, rfl⟩
        · exact ⟨HC.out _ _ _ (fun _ => rfl) rfl rfl, rfl⟩
      case rest =>
      obtain ⟨⟨A3, c3, rfl, rd3, hB3, hc3, lc3⟩, rfl⟩ := hcut
      have HGV := Lib.hid (show g3 xs = match (generalizing := false) getLs n zs with | none => none | some (bl, us) => some (R, bl, us) by unfold g3; simp only [HG3.out]; first | done | (rcases getLs n zs with _ | ⟨_, _⟩ <;> rfl))
      clear HC hl3 lc3'
      have hbase : B ≤ w.heap.size := by rw [HB.out]; exact Nat.le_refl _
      go_wp2_with fail
      go_loopw [0, 9] (fun v i wr => ∃ (k : Nat) (bl : List (List Int)) (us : List Int) (AB : Option Addr) (cB : Nat) (hs : List Sl), k ≤ n ∧ i = .int .u64 k ∧ SlB w us v ∧ Hid (getLs k zs = some (bl, us)) ∧ Hid (bidsOf hs = bl) ∧ Hid (hs.length = k) ∧ Blk wr B 66 [nilS, nilS, nilS] ∧ Blk wr (B + 1) 66 [.slice A1 R.length c1, .slice AB k cB, nilS] ∧ Fr 23 wr B AB k cB (hs.map Sl.val) ∧ (∀ s ∈ hs, Fr 3 wr B s.a s.l.length s.c (cs .i64 s.l)) ∧ Fr 3 wr B A1 R.length c1 (cs .i64 R) ∧ Keep w wr) (fun _ i _ => n - (intOf i).toNat)
      case atStart => exact ⟨0, [], zs, none, 0, [], Nat.zero_le _, rfl, ⟨A3, c3, rfl, rd3, hB3, hc3, lc3⟩, Lib.hid rfl, Lib.hid rfl, Lib.hid rfl, bO, bM, Fr.empty _ _ _ _, fun s h => (by cases h), f1, kk⟩
      case round =>
        clear bO bM f1 kk rd3 hB3 hc3 lc3
        obtain ⟨k, bl, us, AB, cB, hs, hkn, rfl, ⟨A4, c4, rfl, rd4, hB4, hc4, lc4⟩, hgl, hbl, hhl, bO, bM, fB, fs, f1, kk⟩ := hrel
        have lc4' := lc4.le
        by_cases hlt : k < n
        · have hq := refGetList_o A4 c4 us wr (rd4.keep kk) hB4 hc4 lc4
          unfold RefLO at hq
          cases hgz : getL us with
          | none =>
            rw [hgz] at hq
            dsimp only at hq
            have hz : getLs (k + 1) zs = none := by rw [getLs_succ, hgl.out]; simp only [hgz]
            have HN := Lib.hid (show g4 xs = none by unfold g4; rw [HGV.out, getLs_none hz n (by omega)])
            clear hgz hz
            go_wp2_with fail
            refine hq.mono ?_
            rintro e w4 ⟨rfl, k4⟩
            clear hq
            replace bO := bO.keep k4
            replace kk := kk.trans k4
            go_wp2_with (refine wpList_store_row rfl 66 _ _ rfl B #[.slice none 0 0, .slice none 0 0, .slice none 0 0] rfl rfl _ _ bO (by kernel_rfl) rfl (by simp [Value.oneCell']) ?_)
            refine bodyPost_ret (rg_results rfl (bO.row _) rfl) rfl ?_
            unfold RefGetMP
            rw [HN.out]
            exact ⟨kk.grown (only_row _ _ _) (fun k e => by injection e with e; have := HB.out; omega), rfl⟩
          | some ts =>
            rw [hgz] at hq
            dsimp only at hq
            have hle := getL_len hgz
            have hz : getLs (k + 1) zs = some (bl ++ [ts], us.drop (1 + 4 * ts.length)) := by rw [getLs_succ, hgl.out]; simp only [hgz]
            have HZ := Lib.hid hz
            clear hgz hz
            go_wp2_with fail
            refine hq.mono ?_
            rintro e w4 ⟨A5, c5, rfl, f5, k4⟩
            clear hq
            replace f5 : Fr 3 w4 B A5 ts.length c5 (cs .i64 ts) := f5.mono (by rw [HB.out]; exact kk.size)
            replace f1 := f1.keep k4
            replace fB := fB.keep k4
            replace fs := fun s h => (fs s h).keep k4
            replace bO := bO.keep k4
            replace bM := bM.keep k4
            replace kk := kk.trans k4
            clear k4
            have m1 := bM.cell_ (i := 1) rfl
            go_wp2_with (at_builtin; refine wpList_append_fr _ rfl _ _ 64 rfl B 23 (.slice none 0 0) 24 Tryd.underlying64 infoInts rfl AB k cB _ rfl (fB.keep (Keep.alloc1 _ _)) (some ⟨w4.heap.size, 0, none⟩) 1 1 [.slice A5 ts.length c5] rfl rfl (Rd.one _ _ _) (one_slr ⟨A5, c5, ts⟩) ?c1 ?c2 ?c3 ?_)
            case c1 => unfold maxLen; omega
            case c2 => omega
            case c3 => have := kk.size; have := HB.out; simp; omega
            intro AB' cB' w5 happ
            have ka := Keep.alloc1 w4 (.cells #[.slice A5 ts.length c5] 23)
            have fBa := fB.keep ka
            have offI : ∀ {A : Option Addr} {n c : Nat} {vs : List Value}, Fr 3 w4 B A n c vs → Fr 3 w5 B A n c vs := fun h => (h.keep ka).grown happ.2.1 fun q hq e => Fr.offtype (h.keep ka) fBa (by decide) q hq e
            have offM : ∀ {g : Nat} {l : List Value}, Blk w4 g 66 l → Blk w5 g 66 l := fun h => (h.keep ka).grown happ.2.1 fun e => (fBa.own_ne (h.keep ka) (by decide) _ e.symm) rfl
            have bO5 := offM bO
            have bM5 := offM bM
            have f15 := offI f1
            have f55 := offI f5
            have fs5 := fun s (h : s ∈ hs) => offI (fs s h)
            have hbw := HB.out
            have k5 := kk.trans ka |>.grown happ.2.1 (fun q e => by rw [← hbw]; exact (fBa.own_ge e).1)
            have fB5 := happ.fr
            have hm1 : hs.map Sl.val ++ [.slice A5 ts.length c5] = (hs ++ [(⟨A5, c5, ts⟩ : Sl)]).map Sl.val := by rw [List.map_append]; rfl
            rw [hm1] at fB5
            clear m1 happ offI offM fBa ka bO bM f1 f5 fs fB kk hm1 hbw
            have m1 := bM5.cell_ (i := 1) rfl
            have fm1 := bM5.frozen 1
            go_upto_region 18 with fail
            have far : ∀ {e : TypeId} {A : Option Addr} {n c : Nat} {vs : List Value}, e ≠ 66 → Fr e w5 B A n c vs → Fr e (w5.setCell ⟨B + 1, 1, none⟩ (.slice AB' (k + 1) cB')) B A n c vs := fun hne h => h.setCell (p := ⟨B + 1, 1, none⟩) (fun q hq => h.own_ne bM5 hne q hq) _
            replace f15 := far (by decide) f15
            replace f55 := far (by decide) f55
            replace fB5 := far (by decide) fB5
            replace fs5 := fun s h => far (by decide) (fs5 s h)
            replace bO5 := bO5.far (p := ⟨B + 1, 1, none⟩) (by simp only; omega) (.slice AB' (k + 1) cB')
            replace bM5 := bM5.set_ 1 (.slice AB' (k + 1) cB')
            replace k5 := k5.setCell (p := ⟨B + 1, 1, none⟩) (by have := HB.out; simp only; omega) (.slice AB' (k + 1) cB')
            clear far m1 fm1
            generalize w5.setCell ⟨B + 1, 1, none⟩ (.slice AB' (k + 1) cB') = w6 at f15 f55 fB5 fs5 bO5 bM5 k5 ⊢
            have zle : (1 + 4 * ts.length : Int) ≤ us.length := by omega
            have hcc : (us.length : Int) ≤ c4 := by omega
            have HC := Lib.hid (show ∀ A2 n2 c2, (c4 ≠ 1 + 4 * ts.length → A2 = A4.map (·.add (1 + 4 * ts.length))) → c2 = c4 - (1 + 4 * ts.length) → n2 = us.length - (1 + 4 * ts.length) → SlB w (us.drop (1 + 4 * ts.length)) (.slice A2 n2 c2) from fun A2 n2 c2 h1 h2 h3 => SlB.of_cut rd4 hB4 hc4 lc4 h1 h2 h3)
            clear rd4 hB4 hc4 lc4
            have hfs : ∀ s ∈ hs ++ [(⟨A5, c5, ts⟩ : Sl)], Fr 3 w6 B s.a s.l.length s.c (cs .i64 s.l) := fun s h => by
              rcases List.mem_append.1 h with h | h
              · exact fs5 s h
              · rw [List.mem_singleton] at h
                subst h
                exact f55
            have HFS := Lib.hid hfs
            have HBL := Lib.hid (show bidsOf (hs ++ [(⟨A5, c5, ts⟩ : Sl)]) = bl ++ [ts] by rw [← hbl.out]; simp [bidsOf])
            have HHL := Lib.hid (show (hs ++ [(⟨A5, c5, ts⟩ : Sl)]).length = k + 1 by rw [List.length_append, hhl.out]; rfl)
            clear hfs fs5 f55 hle
            go_wp2_with fail
            go_roundw
            case rel => exact ⟨k + 1, bl ++ [ts], us.drop (1 + 4 * ts.length), AB', cB', hs ++ [⟨A5, c5, ts⟩], by omega, by go_num, HC.out _ _ _ (fun e => if_neg e) rfl rfl, HZ, HBL, HHL, bO5, bM5, fB5, HFS.out, f15, k5⟩
            case measure => simp [intOf]; omega
        · obtain rfl : k = n := by omega
          have k9 : decide ((k : Int) < k) = false := decide_eq_false (by omega)
          have HG5 := Lib.hid (show g3 xs = some (R, bl, us) by rw [HGV.out, hgl.out])
          have hq := refGetList_o A4 c4 us wr (rd4.keep kk) hB4 hc4 lc4
          unfold RefLO at hq
          cases hgz : getL us with
          | none =>
            rw [hgz] at hq
            dsimp only at hq
            have HN := Lib.hid (show g4 xs = none by unfold g4; rw [HG5.out]; simp only [hgz])
            clear hgz
            go_wp2_with fail
            refine hq.mono ?_
            rintro e w4 ⟨rfl, k4⟩
            clear hq
            replace bO := bO.keep k4
            replace kk := kk.trans k4
            go_wp2_with (refine wpList_store_row rfl 66 _ _ rfl B #[.slice none 0 0, .slice none 0 0, .slice none 0 0] rfl rfl _ _ bO (by kernel_rfl) rfl (by simp [Value.oneCell']) ?_)
            refine bodyPost_ret (rg_results rfl (bO.row _) rfl) rfl ?_
            unfold RefGetMP
            rw [HN.out]
            exact ⟨kk.grown (only_row _ _ _) (fun k e => by injection e with e; have := HB.out; omega), rfl⟩
          | some O =>
            rw [hgz] at hq
            dsimp only at hq
            have hle := getL_len hgz
            have HX := Lib.hid (show g4 xs = some (R, bl, O, us.drop (1 + 4 * O.length)) by unfold g4; rw [HG5.out]; simp only [hgz])
            obtain ⟨r1, r2, r3⟩ := g4_range hb HX.out
            have HR2 := Lib.hid r2
            have HR3 := Lib.hid r3
            clear hgz r1 r2 r3
            go_wp2_with fail
            refine hq.mono ?_
            rintro e w4 ⟨A5, c5, rfl, f5, k4⟩
            clear hq
            replace f5 : Fr 3 w4 B A5 O.length c5 (cs .i64 O) := f5.mono (by rw [HB.out]; exact kk.size)
            replace f1 := f1.keep k4
            replace fB := fB.keep k4
            replace fs := fun s h => (fs s h).keep k4
            replace bO := bO.keep k4
            replace bM := bM.keep k4
            replace kk := kk.trans k4
            clear k4
            have m2 := bM.cell_ (i := 2) rfl
            have fm2 := bM.frozen 2
            go_upto_region 23 with fail
            have far : ∀ {e : TypeId} {A : Option Addr} {n c : Nat} {vs : List Value}, e ≠ 66 → Fr e w4 B A n c vs → Fr e (w4.setCell ⟨B + 1, 2, none⟩ (.slice A5 O.length c5)) B A n c vs := fun hne h => h.setCell (p := ⟨B + 1, 2, none⟩) (fun q hq => h.own_ne bM hne q hq) _
            replace f1 := far (by decide) f1
            replace f5 := far (by decide) f5
            replace fB := far (by decide) fB
            replace fs := fun s h => far (by decide) (fs s h)
            replace bO := bO.far (p := ⟨B + 1, 2, none⟩) (by simp only; omega) (.slice A5 O.length c5)
            replace bM := bM.set_ 2 (.slice A5 O.length c5)
            replace kk := kk.setCell (p := ⟨B + 1, 2, none⟩) (by have := HB.out; simp only; omega) (.slice A5 O.length c5)
            clear far m2 fm2
            generalize w4.setCell ⟨B + 1, 2, none⟩ (.slice A5 O.length c5) = w5 at f1 f5 fB fs bO bM kk ⊢
            have hsl := hhl.out
            have hok : (Mkt.mk ⟨A1, c1, R⟩ AB cB hs ⟨A5, c5, O⟩).Ok w5 := ref_ok f1 f5 (by rw [hsl]; exact fB) fs HRR.out (by rw [hbl.out]; exact HR2.out) HR3.out
            by_cases hlen : us.length = 1 + 4 * O.length
            · have z1 : (((1 + 4 * O.length : Nat) : Int) != (us.length : Int)) = false := by simp; omega
              have z2 : ((1 : Int) + 4 * (O.length : Int) != (us.length : Int)) = false := by simp; omega
              have hdr : us.drop (1 + 4 * O.length) = [] := List.drop_eq_nil_of_le (by omega)
              have hX := HX.out
              rw [hdr] at hX
              have HX2 := Lib.hid hX
              have hck := refCheckM_f _ w5 hok
              unfold Mkt.val at hck
              dsimp only at hck
              rw [hbl.out, hsl] at hck
              have c0 := bM.cell_ (i := 0) rfl
              have cc1 := bM.cell_ (i := 1) rfl
              have c2 := bM.cell_ (i := 2) rfl
              clear HX hX hdr hlen
              cases hk : chkM R bl O with
              | false =>
                rw [hk] at hck
                have HK := Lib.hid hk
                clear hk hok
                go_wp2_with fail
                refine hck.mono ?_
                rintro e w6 ⟨rfl, k6⟩
                clear hck
                replace bO := bO.keep k6
                replace kk := kk.trans k6
                go_wp2_with (refine wpList_store_row rfl 66 _ _ rfl B #[.slice none 0 0, .slice none 0 0, .slice none 0 0] rfl rfl _ _ bO (by kernel_rfl) rfl (by simp [Value.oneCell']) ?_)
                refine bodyPost_ret (rg_results rfl (bO.row _) rfl) rfl ?_
                unfold RefGetMP
                rw [HX2.out]
                dsimp only
                rw [if_neg (by rw [HK.out]; simp)]
                exact ⟨kk.grown (only_row _ _ _) (fun k e => by injection e with e; have := HB.out; omega), rfl⟩
              | true =>
                rw [hk] at hck
                have HK := Lib.hid hk
                clear hk
                go_wp2_with fail
                refine hck.mono ?_
                rintro e w6 ⟨rfl, k6⟩
                clear hck c0 cc1 c2
                replace bO := bO.keep k6
                replace bM := bM.keep k6
                replace kk := kk.trans k6
                have c0 := bM.cell_ (i := 0) rfl
                have cc1 := bM.cell_ (i := 1) rfl
                have c2 := bM.cell_ (i := 2) rfl
                replace f1 := f1.keep k6
                replace f5 := f5.keep k6
                replace fB := fB.keep k6
                replace fs := fun s h => (fs s h).keep k6
                clear hok
                go_wp2_with (refine wpList_store_row rfl 66 _ _ rfl B #[.slice A1 R.length c1, .slice AB k cB, .slice A5 O.length c5] rfl rfl _ _ bO (by kernel_rfl) rfl (by simp [Value.oneCell']) ?_)
                refine bodyPost_ret (rg_results rfl (bO.row _) rfl) rfl ?_
                unfold RefGetMP
                rw [HX2.out]
                dsimp only
                rw [if_pos ⟨rfl, HK.out⟩]
                have og := only_row w6 B #[.slice A1 R.length c1, .slice AB k cB, .slice A5 O.length c5]
                have far : ∀ {e : TypeId} {A : Option Addr} {n c : Nat} {vs : List Value}, e ≠ 66 → Fr e w6 B A n c vs → Fr e (w6.setRow B #[.slice A1 R.length c1, .slice AB k cB, .slice A5 O.length c5]) B A n c vs := fun hne h => h.grown og (fun q hq e => by injection e with e; exact h.own_ne bO hne q hq e)
                refine ⟨kk.grown og (fun k e => by injection e with e; have := HB.out; omega), Mkt.mk ⟨A1, c1, R⟩ AB cB hs ⟨A5, c5, O⟩, ?_, ref_ok (far (by decide) f1) (far (by decide) f5) (far (by decide) (by rw [hsl]; exact fB)) (fun s h => far (by decide) (fs s h)) HRR.out (by rw [hbl.out]; exact HR2.out) HR3.out, rfl, hbl.out, rfl⟩
                unfold Mkt.val
                rw [hsl]
                rfl
            · have z1 : (((1 + 4 * O.length : Nat) : Int) != (us.length : Int)) = true := by simp; omega
              have z2 : ((1 : Int) + 4 * (O.length : Int) != (us.length : Int)) = true := by simp; omega
              have HD := Lib.hid (show ¬ (us.drop (1 + 4 * O.length) = [] ∧ chkM R bl O = true) from fun h => by
                have := congrArg List.length h.1
                rw [List.length_drop] at this
                simp at this
                omega)
              clear hok hlen
              go_wp2_with (refine wpList_store_row rfl 66 _ _ rfl B #[.slice none 0 0, .slice none 0 0, .slice none 0 0] rfl rfl _ _ bO (by kernel_rfl) rfl (by simp [Value.oneCell']) ?_)
              refine bodyPost_ret (rg_results rfl (bO.row _) rfl) rfl ?_
              unfold RefGetMP
              rw [HX.out]
              dsimp only
              rw [if_neg HD.out]
              exact ⟨kk.grown (only_row _ _ _) (fun k e => by injection e with e; have := HB.out; omega), rfl⟩
end Go.Proofs.YtafiahnaeakcfaaDoor
