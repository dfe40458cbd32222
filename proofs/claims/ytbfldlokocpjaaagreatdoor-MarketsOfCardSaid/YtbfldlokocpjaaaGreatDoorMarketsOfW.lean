/-
  SEVERAL TEXTS IN ONE (merged by a program of mine: a claim has at most 60 files). WORDS on markets: the market of none. Plain theorems. No condition. CONTRACTS of markets.Gains and Put in the ways that laws want. Conditions: those that each theorem states. CONTRACT for the package markets: Without where it refuses. Conditions: the slices of the market read as lists, and are no longer than memory lets them be. PLAIN LAWS of markets (no program in sight): the bytes of a market that may be. Conditions: those that each theorem states. CONTRACTS of Without and SameMarket in the ways that laws want. Conditions: the slices of the markets read as lists. WORDS for the laws' Book: how lists of the call's own are brought together as what it holds. Plain theorems. Conditions: those that each theorem states. CONTRACTS of the laws' Book: a list of bytes, of ints, of lists of ints, is kept (a Book that may hold all three). Conditions: those that each theorem states. CONTRACTS of the laws' Book: a list of lists of ints, a market, is kept, with all lists within it. Conditions: those that each theorem states. WORDS on markets of the call's own: as lists that the laws' Book may hold. Plain theorems. Conditions: those that each theorem states. CONTRACTS of markets.Gains, Without and Put in one word each, whether the market may be or not. Conditions: the slices of the market read as lists. CONTRACTS for the document's answers of layer 5: Gains, Put. Conditions: the slices of the market read as lists. CONTRACT for the document's answer of layer 5: Without. Conditions: the slices of the market read as lists. CONTRACTS of the laws' LeftInts: a copy that stands as it was made reads so, its mark too. Conditions: the slices read as lists, the copy is of the call's own. CONTRACTS of the laws' copies: of a list of ints, of a list of such lists: in memory of their own, a mark in the room behind. Conditions: the slices read as lists, and are not too long. CONTRACT of the laws' copy of a market: in memory of its own, marks in the room behind. Conditions: the slices of the market read as lists, and are not too long. CONTRACTS of the laws' LeftIntLists, LeftMarket: a copy that stands as it was made reads so, its marks too. Conditions: the slices read as lists, the copy is of the call's own. CONTRACTS of the laws' sizes of a list of lists of ints, of a market: where they are small, all that lies within is. Conditions: the slices read as lists. WORDS ON MEMORY: held lists joined; a copied market as the call's own. Plain theorems. Conditions: those that each theorem states. THE WALK OF THE 3 MarketsOf: it answers true, and turns nothing that was there. Conditions: the argument is a market that came in, no slice of it longer than the form lets it be; a number.
-/
import Derived.Test.YtbfldlokocpjaaaGreatDoorMktC
import Derived.Test.YtbfldlokocpjaaaGreatDoorMktF
import Derived.Test.YtbfldlokocpjaaaGreatDoorMktE
import Derived.Test.YtbfldlokocpjaaaGreatDoorMktH
import Derived.Test.YtbfldlokocpjaaaGreatDoorMktHa
import Derived.Test.YtbfldlokocpjaaaGreatDoorBookG
import Derived.Test.YtbfldlokocpjaaaGreatDoorBookO
import Derived.Test.YtbfldlokocpjaaaGreatDoorRefF
import Derived.Test.YtbfldlokocpjaaaGreatDoorRefA
import Derived.IntWalk
import Derived.Test.YtbfldlokocpjaaaGreatDoorTwinI
import Derived.Deep.RegionHeld3
import Derived.Test.YtbfldlokocpjaaaGreatDoorMktG
import Derived.Test.YtbfldlokocpjaaaGreatDoorOwnAll
import Derived.Lib.JoinLaws
import Derived.Test.YtbfldlokocpjaaaGreatDoorSized

namespace Go.Proofs.YtbfldlokocpjaaaGreatDoor
open Go.RowKit

abbrev nilS : Value := .slice none 0 0
/-- The market of none, as it stands in memory. -/
abbrev zeroM : Value := .agg #[nilS, nilS, nilS]
/-- The market of none. -/
def noM : Mkt := ⟨⟨none, 0, []⟩, none, 0, [], ⟨none, 0, []⟩⟩
theorem noM_ok (w : World) : noM.Ok w := ⟨⟨⟨Rd.nil _ _, Nat.le_refl _, Nat.zero_le _, fun x h => by cases h⟩, fun _ => rfl⟩, ⟨Rd.nil _ _, Nat.le_refl _, Nat.zero_le _, fun s h => by cases h⟩, fun _ => rfl, ⟨⟨Rd.nil _ _, Nat.le_refl _, Nat.zero_le _, fun x h => by cases h⟩, fun _ => rfl⟩⟩
end Go.Proofs.YtbfldlokocpjaaaGreatDoor

namespace Go.Proofs.YtbfldlokocpjaaaGreatDoor
open Go.RowKit

/-- Gains, Put and Get in the ways that laws want. -/
theorem gains_yes (M : Mkt) (w : World) (hM : M.Ok w) (hc : chkM M.r.l (bidsOf M.bs) M.o.l = true) :
    Calls Tryz.prog 7 #[M.val] w fun e w' => ∃ (g : Nat) (ss : List Sl), e = .returned (.tuple #[.slice (some ⟨g, 0, none⟩) ss.length ss.length, .int .i64 0]) ∧ InR .i64 w' (some ⟨g, 0, none⟩) ss.length ss ∧ bidsOf ss = gainsM M.r.l (bidsOf M.bs) ∧ Keep w w' := by
  refine (gainsM_f M w hM).mono ?_
  intro e w' h
  unfold GainsP at h
  rw [if_pos hc] at h
  obtain ⟨g, ss, h1, h2, h3, _, _, _, h4⟩ := h
  exact ⟨g, ss, h1, h2, h3, h4⟩
theorem gains_no (M : Mkt) (w : World) (hM : M.Ok w) (hc : chkM M.r.l (bidsOf M.bs) M.o.l = false) :
    Calls Tryz.prog 7 #[M.val] w fun e w' => e = .returned (.tuple #[.slice none 0 0, .int .i64 1]) ∧ Keep w w' := by
  refine (gainsM_f M w hM).mono ?_
  intro e w' h
  unfold GainsP at h
  rwa [if_neg (by rw [hc]; decide)] at h
theorem mput_yes (M : Mkt) (w : World) (hM : M.Ok w) (hc : chkM M.r.l (bidsOf M.bs) M.o.l = true) :
    Calls Tryz.prog 11 #[M.val] w fun e w' => ∃ A' n, n = (putM M.r.l (bidsOf M.bs) M.o.l).length ∧ e = .returned (.tuple #[.slice A' n n, .int .i64 0]) ∧ Fr 5 w' w.heap.size A' n n (cs .u8 (putM M.r.l (bidsOf M.bs) M.o.l)) ∧ Keep w w' := by
  refine (mput_f M w hM).mono ?_
  intro e w' h
  unfold MPutP at h
  rw [if_pos hc] at h
  obtain ⟨A', h1, h2⟩ := h
  exact ⟨A', _, rfl, h1, h2⟩
theorem mput_no (M : Mkt) (w : World) (hM : M.Ok w) (hc : chkM M.r.l (bidsOf M.bs) M.o.l = false) :
    Calls Tryz.prog 11 #[M.val] w fun e w' => e = .returned (.tuple #[.slice none 0 0, .int .i64 1]) ∧ Keep w w' := by
  refine (mput_f M w hM).mono ?_
  intro e w' h
  unfold MPutP at h
  rwa [if_neg (by rw [hc]; decide)] at h
end Go.Proofs.YtbfldlokocpjaaaGreatDoor

namespace Go.Proofs.YtbfldlokocpjaaaGreatDoor
open Go.RowKit

set_option maxRecDepth 100000 in
set_option maxHeartbeats 2000000 in
theorem without_chk (M : Mkt) (p : Int) (w : World) (hM : M.Ok w) (hc : chkM M.r.l (bidsOf M.bs) M.o.l = false) :
    Calls Tryz.prog 9 #[M.val, .int .i64 p] w fun e w' => e = .returned (.tuple #[zeroM, .int .i64 1]) ∧ Keep w w' := by
  have hck := fun w1 (k1 : Keep w w1) => mcheck_f M w1 (hM.keep k1)
  unfold Mkt.val at hck ⊢
  rw [hc] at hck
  clear hc
  have lb := hM.b.len.le
  go_enter Tryz.func9, Tryz.ntmps9
  go_wp2_with fail
  have k0 : Keep w ((w.alloc (.cells #[.slice M.r.a M.r.l.length M.r.c, .slice M.ba M.bs.length M.bc, .slice M.o.a M.o.l.length M.o.c] 25)).alloc (.cells #[.slice none 0 0, .slice none 0 0, .slice none 0 0] 25)) := (Keep.alloc1 _ _).trans (Keep.alloc1 _ _)
  have d1 : ((w.alloc (.cells #[.slice M.r.a M.r.l.length M.r.c, .slice M.ba M.bs.length M.bc, .slice M.o.a M.o.l.length M.o.c] 25)).alloc (.cells #[.slice none 0 0, .slice none 0 0, .slice none 0 0] 25)).cell? ⟨w.heap.size, 1, none⟩ = some (.slice M.ba M.bs.length M.bc) := by
    have h := (Blk.new w 25 [.slice M.r.a M.r.l.length M.r.c, .slice M.ba M.bs.length M.bc, .slice M.o.a M.o.l.length M.o.c]).keep (Keep.alloc1 _ (.cells #[.slice none 0 0, .slice none 0 0, .slice none 0 0] 25))
    exact h.cell_ rfl
  have b0 : Blk ((w.alloc (.cells #[.slice M.r.a M.r.l.length M.r.c, .slice M.ba M.bs.length M.bc, .slice M.o.a M.o.l.length M.o.c] 25)).alloc (.cells #[.slice none 0 0, .slice none 0 0, .slice none 0 0] 25)) (w.heap.size + 1) 25 [.slice none 0 0, .slice none 0 0, .slice none 0 0] := by
    have h := Blk.new (w.alloc (.cells #[.slice M.r.a M.r.l.length M.r.c, .slice M.ba M.bs.length M.bc, .slice M.o.a M.o.l.length M.o.c] 25)) 25 [.slice none 0 0, .slice none 0 0, .slice none 0 0]
    simpa using h
  generalize ((w.alloc (.cells #[.slice M.r.a M.r.l.length M.r.c, .slice M.ba M.bs.length M.bc, .slice M.o.a M.o.l.length M.o.c] 25)).alloc (.cells #[.slice none 0 0, .slice none 0 0, .slice none 0 0] 25)) = w0 at k0 d1 b0 ⊢
  refine (hck _ k0).mono ?_
  rintro e w1 ⟨rfl, k1⟩
  replace d1 := k1.cell d1
  replace b0 := b0.keep k1
  replace k0 := k0.trans k1
  clear hck k1
  go_wp2_with (refine wpList_store_row rfl 25 _ _ rfl (w.heap.size + 1) #[.slice none 0 0, .slice none 0 0, .slice none 0 0] rfl rfl _ _ b0 (by kernel_rfl) rfl (by simp [Value.oneCell']) ?_)
  refine bodyPost_ret (wo_results rfl (b0.row #[.slice none 0 0, .slice none 0 0, .slice none 0 0]) rfl) rfl ?_
  exact ⟨rfl, k0.grown (only_row w1 (w.heap.size + 1) #[.slice none 0 0, .slice none 0 0, .slice none 0 0]) (fun k e => by injection e with e; omega)⟩
set_option maxRecDepth 100000 in
set_option maxHeartbeats 2000000 in
theorem without_neg (M : Mkt) (p : Int) (w : World) (hM : M.Ok w) (hc : chkM M.r.l (bidsOf M.bs) M.o.l = true) (hp : p < 0) :
    Calls Tryz.prog 9 #[M.val, .int .i64 p] w fun e w' => e = .returned (.tuple #[zeroM, .int .i64 1]) ∧ Keep w w' := by
  have hck := fun w1 (k1 : Keep w w1) => mcheck_f M w1 (hM.keep k1)
  unfold Mkt.val at hck ⊢
  rw [hc] at hck
  clear hc
  have lb := hM.b.len.le
  have z1 := eq_true hp
  have z2 := decide_eq_true hp
  go_enter Tryz.func9, Tryz.ntmps9
  go_wp2_with fail
  have k0 : Keep w ((w.alloc (.cells #[.slice M.r.a M.r.l.length M.r.c, .slice M.ba M.bs.length M.bc, .slice M.o.a M.o.l.length M.o.c] 25)).alloc (.cells #[.slice none 0 0, .slice none 0 0, .slice none 0 0] 25)) := (Keep.alloc1 _ _).trans (Keep.alloc1 _ _)
  have d1 : ((w.alloc (.cells #[.slice M.r.a M.r.l.length M.r.c, .slice M.ba M.bs.length M.bc, .slice M.o.a M.o.l.length M.o.c] 25)).alloc (.cells #[.slice none 0 0, .slice none 0 0, .slice none 0 0] 25)).cell? ⟨w.heap.size, 1, none⟩ = some (.slice M.ba M.bs.length M.bc) := by
    have h := (Blk.new w 25 [.slice M.r.a M.r.l.length M.r.c, .slice M.ba M.bs.length M.bc, .slice M.o.a M.o.l.length M.o.c]).keep (Keep.alloc1 _ (.cells #[.slice none 0 0, .slice none 0 0, .slice none 0 0] 25))
    exact h.cell_ rfl
  have b0 : Blk ((w.alloc (.cells #[.slice M.r.a M.r.l.length M.r.c, .slice M.ba M.bs.length M.bc, .slice M.o.a M.o.l.length M.o.c] 25)).alloc (.cells #[.slice none 0 0, .slice none 0 0, .slice none 0 0] 25)) (w.heap.size + 1) 25 [.slice none 0 0, .slice none 0 0, .slice none 0 0] := by
    have h := Blk.new (w.alloc (.cells #[.slice M.r.a M.r.l.length M.r.c, .slice M.ba M.bs.length M.bc, .slice M.o.a M.o.l.length M.o.c] 25)) 25 [.slice none 0 0, .slice none 0 0, .slice none 0 0]
    simpa using h
  generalize ((w.alloc (.cells #[.slice M.r.a M.r.l.length M.r.c, .slice M.ba M.bs.length M.bc, .slice M.o.a M.o.l.length M.o.c] 25)).alloc (.cells #[.slice none 0 0, .slice none 0 0, .slice none 0 0] 25)) = w0 at k0 d1 b0 ⊢
  refine (hck _ k0).mono ?_
  rintro e w1 ⟨rfl, k1⟩
  replace d1 := k1.cell d1
  replace b0 := b0.keep k1
  replace k0 := k0.trans k1
  clear hck k1
  go_wp2_with (refine wpList_store_row rfl 25 _ _ rfl (w.heap.size + 1) #[.slice none 0 0, .slice none 0 0, .slice none 0 0] rfl rfl _ _ b0 (by kernel_rfl) rfl (by simp [Value.oneCell']) ?_)
  refine bodyPost_ret (wo_results rfl (b0.row #[.slice none 0 0, .slice none 0 0, .slice none 0 0]) rfl) rfl ?_
  exact ⟨rfl, k0.grown (only_row w1 (w.heap.size + 1) #[.slice none 0 0, .slice none 0 0, .slice none 0 0]) (fun k e => by injection e with e; omega)⟩
set_option maxRecDepth 100000 in
set_option maxHeartbeats 2000000 in
theorem without_many (M : Mkt) (p : Int) (w : World) (hM : M.Ok w) (hc : chkM M.r.l (bidsOf M.bs) M.o.l = true) (hp : (M.bs.length : Int) ≤ p) :
    Calls Tryz.prog 9 #[M.val, .int .i64 p] w fun e w' => e = .returned (.tuple #[zeroM, .int .i64 1]) ∧ Keep w w' := by
  have hck := fun w1 (k1 : Keep w w1) => mcheck_f M w1 (hM.keep k1)
  unfold Mkt.val at hck ⊢
  rw [hc] at hck
  clear hc
  have lb := hM.b.len.le
  have z0 : (p < 0) = False := eq_false (by omega)
  have z1 : decide (p < 0) = false := decide_eq_false (by omega)
  have z2 := decide_eq_true hp
  go_enter Tryz.func9, Tryz.ntmps9
  go_wp2_with fail
  have k0 : Keep w ((w.alloc (.cells #[.slice M.r.a M.r.l.length M.r.c, .slice M.ba M.bs.length M.bc, .slice M.o.a M.o.l.length M.o.c] 25)).alloc (.cells #[.slice none 0 0, .slice none 0 0, .slice none 0 0] 25)) := (Keep.alloc1 _ _).trans (Keep.alloc1 _ _)
  have d1 : ((w.alloc (.cells #[.slice M.r.a M.r.l.length M.r.c, .slice M.ba M.bs.length M.bc, .slice M.o.a M.o.l.length M.o.c] 25)).alloc (.cells #[.slice none 0 0, .slice none 0 0, .slice none 0 0] 25)).cell? ⟨w.heap.size, 1, none⟩ = some (.slice M.ba M.bs.length M.bc) := by
    have h := (Blk.new w 25 [.slice M.r.a M.r.l.length M.r.c, .slice M.ba M.bs.length M.bc, .slice M.o.a M.o.l.length M.o.c]).keep (Keep.alloc1 _ (.cells #[.slice none 0 0, .slice none 0 0, .slice none 0 0] 25))
    exact h.cell_ rfl
  have b0 : Blk ((w.alloc (.cells #[.slice M.r.a M.r.l.length M.r.c, .slice M.ba M.bs.length M.bc, .slice M.o.a M.o.l.length M.o.c] 25)).alloc (.cells #[.slice none 0 0, .slice none 0 0, .slice none 0 0] 25)) (w.heap.size + 1) 25 [.slice none 0 0, .slice none 0 0, .slice none 0 0] := by
    have h := Blk.new (w.alloc (.cells #[.slice M.r.a M.r.l.length M.r.c, .slice M.ba M.bs.length M.bc, .slice M.o.a M.o.l.length M.o.c] 25)) 25 [.slice none 0 0, .slice none 0 0, .slice none 0 0]
    simpa using h
  generalize ((w.alloc (.cells #[.slice M.r.a M.r.l.length M.r.c, .slice M.ba M.bs.length M.bc, .slice M.o.a M.o.l.length M.o.c] 25)).alloc (.cells #[.slice none 0 0, .slice none 0 0, .slice none 0 0] 25)) = w0 at k0 d1 b0 ⊢
  refine (hck _ k0).mono ?_
  rintro e w1 ⟨rfl, k1⟩
  replace d1 := k1.cell d1
  replace b0 := b0.keep k1
  replace k0 := k0.trans k1
  clear hck k1
  go_wp2_with (refine wpList_store_row rfl 25 _ _ rfl (w.heap.size + 1) #[.slice none 0 0, .slice none 0 0, .slice none 0 0] rfl rfl _ _ b0 (by kernel_rfl) rfl (by simp [Value.oneCell']) ?_)
  refine bodyPost_ret (wo_results rfl (b0.row #[.slice none 0 0, .slice none 0 0, .slice none 0 0]) rfl) rfl ?_
  exact ⟨rfl, k0.grown (only_row w1 (w.heap.size + 1) #[.slice none 0 0, .slice none 0 0, .slice none 0 0]) (fun k e => by injection e with e; omega)⟩
end Go.Proofs.YtbfldlokocpjaaaGreatDoor

namespace Go.Proofs.YtbfldlokocpjaaaGreatDoor
open Go.RowKit

theorem chkM_lens {R : List Int} {B : List (List Int)} {O : List Int} (h : chkM R B O = true) : 1 ≤ R.length ∧ R.length ≤ 8 ∧ 1 ≤ B.length ∧ B.length ≤ 8 ∧ (∀ b ∈ B, b.length ≤ 8) ∧ O.length = B.length := by
  obtain ⟨m1, m2, m3, m4⟩ := chkM_facts h
  obtain ⟨_, pb⟩ := chkM_bids h
  have ho : ordB O B.length = true := by
    unfold chkM at h
    simp only [Bool.and_eq_true] at h
    exact h.1.2
  refine ⟨m1, m2, m3, m4, fun b hb => ?_, ordB_len ho⟩
  rcases pb b hb with h0 | h0 <;> omega
/-- The bytes of a market. -/
def bytesM (R : List Int) (B : List (List Int)) (O : List Int) : List Int := putL R ++ (le B.length 1 ++ (B.flatMap putL ++ putL O))
theorem putM_few {R : List Int} {B : List (List Int)} {O : List Int} (h : chkM R B O = true) : putM R B O = bytesM R B O := by
  obtain ⟨_, h1, _, h2, h3, h4⟩ := chkM_lens h
  unfold putM bytesM
  rw [List.take_of_length_le (by omega), List.take_of_length_le (by omega), List.flatMap_def, List.flatMap_def, List.map_congr_left (g := putL) (fun b hb => by rw [List.take_of_length_le (by have := h3 b hb; omega)])]
  simp only [List.append_assoc]
/-- The bytes of the bids. -/
def sumB : List (List Int) → Nat
  | [] => 0
  | b :: B => 1 + 4 * b.length + sumB B
theorem sumB_append (A B : List (List Int)) : sumB (A ++ B) = sumB A + sumB B := by
  induction A with
  | nil => simp [sumB]
  | cons a A ih => simp [sumB, ih]; omega
theorem sumB_snoc {B : List (List Int)} {k : Nat} {b : List Int} (h : B[k]? = some b) : sumB (B.take (k + 1)) = sumB (B.take k) + (1 + 4 * b.length) := by
  rw [List.take_add_one, h, sumB_append]
  simp [sumB]
theorem sumB_le {B : List (List Int)} (h : ∀ b ∈ B, b.length ≤ 8) : sumB B ≤ 33 * B.length := by
  induction B with
  | nil => simp [sumB]
  | cons b B ih =>
    have h1 := h b List.mem_cons_self
    have h2 := ih (fun x hx => h x (List.mem_cons_of_mem _ hx))
    simp only [sumB, List.length_cons]
    omega
theorem length_flatL (B : List (List Int)) : (B.flatMap putL).length = sumB B := by
  induction B with
  | nil => rfl
  | cons b B ih => rw [List.flatMap_cons, List.length_append, length_putL, ih]; rfl
theorem length_putM {R : List Int} {B : List (List Int)} {O : List Int} (h : chkM R B O = true) : (putM R B O).length = 3 + 4 * R.length + 4 * O.length + sumB B := by
  rw [putM_few h]
  unfold bytesM
  simp only [List.length_append, length_putL, length_le, length_flatL]
  omega
theorem putM_max {R : List Int} {B : List (List Int)} {O : List Int} (h : chkM R B O = true) : (putM R B O).length ≤ 400 := by
  obtain ⟨_, h1, _, h2, h3, h4⟩ := chkM_lens h
  have := sumB_le h3
  rw [length_putM h]
  omega
end Go.Proofs.YtbfldlokocpjaaaGreatDoor

namespace Go.Proofs.YtbfldlokocpjaaaGreatDoor
open Go.RowKit

/-- N reads as M without p's bid. -/
def Out (M : Mkt) (p : Nat) (N : Mkt) : Prop := N.r.l = M.r.l ∧ bidsOf N.bs = (bidsOf M.bs).set p [] ∧ N.o.l = M.o.l
theorem set_swap (B : List (List Int)) (i k : Nat) : (B.set i []).set k [] = (B.set k []).set i [] := by
  by_cases h : i = k
  · rw [h]
  · exact List.set_comm _ _ h
theorem set_same {B : List (List Int)} {i : Nat} (h : B[i]? = some []) : B.set i [] = B := by
  refine List.ext_getElem? fun j => ?_
  rw [List.getElem?_set]
  by_cases e : i = j
  · subst e
    have := (List.getElem?_eq_some_iff.1 h).1
    rw [if_pos rfl, if_pos this, h]
  · rw [if_neg e]
theorem without_ok (M : Mkt) (p : Nat) (w : World) (hM : M.Ok w) (hc : chkM M.r.l (bidsOf M.bs) M.o.l = true) (hp : p < M.bs.length) :
    Calls Tryz.prog 9 #[M.val, .int .i64 p] w fun e w' => ∃ N : Mkt, e = .returned (.tuple #[N.val, .int .i64 0]) ∧ N.Ok w' ∧ N.r.l = M.r.l ∧ bidsOf N.bs = (bidsOf M.bs).set p [] ∧ N.o.l = M.o.l ∧ Keep w w' :=
  (without_yes M p w hM hc hp).mono fun _ _ ⟨N, h1, h2, h3, h4, h5, _, _, h6⟩ => ⟨N, h1, h2, h3, h4, h5, h6⟩
theorem chkM_set {R : List Int} {B : List (List Int)} {O : List Int} (p : Nat) (h : chkM R B O = true) : chkM R (B.set p []) O = true := by
  unfold chkM at h ⊢
  simp only [Bool.and_eq_true, List.length_set] at h ⊢
  refine ⟨h.1, ?_⟩
  have h5 := h.2
  rw [Bool.not_eq_true', List.any_eq_false] at h5 ⊢
  intro b hb
  rcases List.mem_or_eq_of_mem_set hb with h | h
  · exact h5 b h
  · subst h
    unfold badB
    simp
theorem chkM_out {M N : Mkt} {p : Nat} (h : chkM M.r.l (bidsOf M.bs) M.o.l = true) (hN : N.r.l = M.r.l ∧ bidsOf N.bs = (bidsOf M.bs).set p [] ∧ N.o.l = M.o.l) : chkM N.r.l (bidsOf N.bs) N.o.l = true := by
  rw [hN.1, hN.2.1, hN.2.2]
  exact chkM_set p h
theorem out_len {M N : Mkt} {p : Nat} (hN : N.r.l = M.r.l ∧ bidsOf N.bs = (bidsOf M.bs).set p [] ∧ N.o.l = M.o.l) : N.bs.length = M.bs.length := by
  rw [← length_bids, hN.2.1, List.length_set, length_bids]
theorem same_yes (M N : Mkt) (w : World) (hM : M.Ok w) (hN : N.Ok w) (cM : chkM M.r.l (bidsOf M.bs) M.o.l = true) (cN : chkM N.r.l (bidsOf N.bs) N.o.l = true) (h : M.r.l = N.r.l ∧ bidsOf M.bs = bidsOf N.bs ∧ M.o.l = N.o.l) :
    Calls Tryz.prog 16 #[M.val, N.val] w fun e w' => e = .returned (.bool true) ∧ Keep w w' := by
  have hs := sameMarket_f M N w hM hN (chkM_few cM) (chkM_few cN)
  rwa [show sameM M N = true by unfold sameM; rw [decide_eq_true h.1, decide_eq_true h.2.1, decide_eq_true h.2.2]; rfl] at hs
end Go.Proofs.YtbfldlokocpjaaaGreatDoor

namespace Go.Proofs.YtbfldlokocpjaaaGreatDoor
open Go.RowKit

/-- Lists of the call's own, in rows apart. -/
structure Held (e : TypeId) (w : World) (base : Nat) (hs : List Hd) : Prop where
  f : ∀ h ∈ hs, ∃ us, Fr e w base h.a h.n h.c us
  p : hs.Pairwise fun x y => ∀ k, ownB x.a x.c = some k → ownB y.a y.c ≠ some k
  m : ∀ h ∈ hs, h.m < 100000 ∧ h.n ≤ 1000000
theorem Held.nil (e : TypeId) (w : World) (base : Nat) : Held e w base [] := ⟨fun _ h => (by cases h), List.Pairwise.nil, fun _ h => (by cases h)⟩
theorem Held.keep {e : TypeId} {w w' : World} {base : Nat} {hs : List Hd} (h : Held e w base hs) (hk : Keep w w') : Held e w' base hs :=
  ⟨fun x hx => by obtain ⟨us, hu⟩ := h.f x hx; exact ⟨us, hu.keep hk⟩, h.p, h.m⟩
theorem Held.snoc {e : TypeId} {w w' : World} {base : Nat} {hs : List Hd} {A : Option Addr} {c n : Nat} {us : List Value} (h : Held e w base hs) (hk : Keep w w') (hb : base ≤ w.heap.size) (f : Fr e w' w.heap.size A n c us) (m : Nat) (hm : m < 100000) (hn : n ≤ 1000000) :
    Held e w' base (hs ++ [⟨A, c, n, m, none, 0, 0⟩]) := by
  refine ⟨fun x hx => ?_, ?_, fun x hx => ?_⟩
  · rcases List.mem_append.1 hx with hx | hx
    · obtain ⟨us', hu⟩ := h.f x hx
      exact ⟨us', hu.keep hk⟩
    · rw [List.mem_singleton] at hx
      subst hx
      exact ⟨us, f.mono hb⟩
  · rw [List.pairwise_append]
    refine ⟨h.p, List.pairwise_singleton _ _, fun x hx y hy k h1 h2 => ?_⟩
    rw [List.mem_singleton] at hy
    subst hy
    obtain ⟨us', hu⟩ := h.f x hx
    have := (hu.own_ge h1).2
    have := (f.own_ge h2).1
    omega
  · rcases List.mem_append.1 hx with hx | hx
    · exact h.m x hx
    · rw [List.mem_singleton] at hx
      subst hx
      exact ⟨hm, hn⟩
theorem Held.aparts {e : TypeId} {w : World} {base : Nat} {hs : List Hd} (h : Held e w base hs) : Aparts hs := by
  intro i j x y hij hx hy k h1 h2
  obtain ⟨li, rfl⟩ := List.getElem?_eq_some_iff.1 hx
  obtain ⟨lj, rfl⟩ := List.getElem?_eq_some_iff.1 hy
  rcases Nat.lt_or_gt_of_ne hij with h' | h'
  · exact List.pairwise_iff_getElem.1 h.p i j li lj h' k h1 h2
  · exact List.pairwise_iff_getElem.1 h.p j i lj li h' k h2 h1
theorem Holds.of {w : World} {base : Nat} {hb hi : List Hd} (h1 : Held 5 w base hb) (h2 : Held 3 w base hi) (l1 : hb.length ≤ 10000) (l2 : hi.length ≤ 10000) : Holds w base hb hi := ⟨h1.f, h2.f, h1.aparts, h2.aparts, h1.m, h2.m, l1, l2⟩
theorem Bk.mono {w : World} {base b' g n : Nat} {hb hi : List Hd} {vb vi : Value} (h : Bk w base g n hb hi vb vi) (hb' : b' ≤ base) : Bk w b' g n hb hi vb vi := ⟨h.b, h.rb.mono hb', h.ri.mono hb', Nat.le_trans hb' h.g⟩
/-- A Book that is new. -/
theorem Bk.new (w : World) : Bk (w.alloc (.cells #[.int .i64 0, .slice none 0 0, .slice none 0 0, .slice none 0 0, .slice none 0 0, .slice none 0 0, .slice none 0 0, .slice none 0 0, .slice none 0 0, .slice none 0 0] 50)) w.heap.size w.heap.size 0 [] [] (.slice none 0 0) (.slice none 0 0) :=
  ⟨Blk.new w _ _, HRow.nil _ _ _, HRow.nil _ _ _, Nat.le_refl _⟩
theorem Bk.stepB {w0 w w' : World} {g n : Nat} {hb hi : List Hd} {vb vi : Value} (hk : Bk w w0.heap.size g n hb hi vb vi) (kk : Keep w0 w) (h : But (fun q => q = g ∨ vb.ownBlock = some q) w w') : Keep w0 w' :=
  kk.but h fun q hq => hq.elim (fun e => e ▸ hk.g) (hk.rb.own_ge q)
theorem Bk.stepI {w0 w w' : World} {g n : Nat} {hb hi : List Hd} {vb vi : Value} (hk : Bk w w0.heap.size g n hb hi vb vi) (kk : Keep w0 w) (h : But (fun q => q = g ∨ vi.ownBlock = some q) w w') : Keep w0 w' :=
  kk.but h fun q hq => hq.elim (fun e => e ▸ hk.g) (hk.ri.own_ge q)
end Go.Proofs.YtbfldlokocpjaaaGreatDoor

namespace Go.Proofs.YtbfldlokocpjaaaGreatDoor
open Go.RowKit

theorem infoHL : (Tryz.prog.info? 81).map (fun i => (i.zero, i.size, i.bytes)) = some (some (.agg #[.slice none 0 0, .slice none 0 0, .int .i64 0]), 3, 56) := by kernel_rfl

set_option maxRecDepth 100000 in
set_option maxHeartbeats 4000000 in
theorem keepByteL_f (g n base : Nat) (hb hi hl : List Hd) (vb vi vl : Value) (A : Option Addr) (m c : Nat) (w : World) (hk : BkL w base g n hb hi hl vb vi vl) (hn : n ≤ 10000) (hL : hb.length ≤ 10000) :
    Calls Tryz.prog 45 #[pK g, .slice A m c] w fun e w' => e = .returned (.tuple #[]) ∧ ∃ v', BkL w' base g (n + 1) (hb ++ [⟨A, c, m, n + 1, none, 0, 0⟩]) hi hl v' vi vl ∧ But (fun q => q = g ∨ vb.ownBlock = some q) w w' := by
  obtain ⟨ti, hi2, hzz⟩ := Option.map_eq_some_iff.1 infoHB
  simp only [Prod.mk.injEq] at hzz
  obtain ⟨hz2, hsz2, hby2⟩ := hzz
  have hbs : base ≤ w.heap.size := Nat.le_trans hk.g (Nat.le_of_lt hk.b.lt)
  have b0 := hk.b.cell_ (i := 0) rfl
  have f0 := hk.b.frozen 0
  have hzero : (zeroValue 83).run Tryz.prog w = .ok (.agg #[.slice none 0 0, .slice none 0 0, .int .i64 0]) w := by kernel_rfl
  unfold pK
  go_enter Tryz.func45, Tryz.ntmps45
  go_upto_region 1 with fail
  have h0 : But (fun q => q = g ∨ vb.ownBlock = some q) w (w.setCell ⟨g, 0, none⟩ (.int .i64 ((n : Int) + 1))) := (But.refl _ _).setCell (.inl rfl) _
  have hS1 : But (fun q => q = g) w (w.setCell ⟨g, 0, none⟩ (.int .i64 ((n : Int) + 1))) := (But.refl (fun q => q = g) w).setCell (p := ⟨g, 0, none⟩) rfl _
  have bk : Blk (w.setCell ⟨g, 0, none⟩ (.int .i64 ((n : Int) + 1))) g 50 [.int .i64 ((n : Int) + 1), vb, vi, nilV, vl, nilV, nilV, nilV, nilV, nilV] := hk.b.set_ 0 _
  have hrow := hk.rb.but hS1 (fun k e e2 => hk.b.offRow hk.rb (by decide) (e2 ▸ e))
  have hother := hk.ri.but hS1 (fun k e e2 => hk.b.offRow hk.ri (by decide) (e2 ▸ e))
  have hog := hk.b.offRow hk.ri (by decide)
  have hoo := hk.ri.offRow hk.rb (by decide)
  have hothes := hk.rl.but hS1 (fun k e e2 => hk.b.offRow hk.rl (by decide) (e2 ▸ e))
  have hos := hk.b.offRow hk.rl (by decide)
  have hos2 := hk.rl.offRow hk.rb (by decide)
  have hbs : base ≤ (w.setCell ⟨g, 0, none⟩ (.int .i64 ((n : Int) + 1))).heap.size := Nat.le_trans hbs h0.size
  generalize w.setCell ⟨g, 0, none⟩ (.int .i64 ((n : Int) + 1)) = W at h0 bk hrow hother hothes hbs ⊢
  have e0 := bk.cell_ (i := 0) rfl
  clear b0 f0 hS1
  refine wp_region_noPanic ?_
  refine wp_region_held_drew (S := (fun w' => w'.cell? ⟨g, 0, none⟩ = some (.int .i64 ((n : Int) + 1)))) (by kernel_rfl) e0 (fun hS => ?_)
  have ky : Keep W W.drew := (Keep.refl _).drew
  replace bk := bk.keep ky
  replace hrow := hrow.keep ky
  generalize W.drew = v0 at ky hS bk hrow ⊢
  refine wpAnyH_take (i := 0) (v := ?_) rfl (by kernel_rfl) (by kernel_rfl) (by kernel_rfl) (fun _ _ _ h => h) (Or.inl ⟨by rfl, ?_⟩) hS ?_
  rotate_left
  · (intro w hSw; (try dsimp only at hSw); go_simp; (first | done | with_reducible rfl))
  change wpAnyH _ _ _ _ _ _ _ (Act.put _ (some 11) _) _
  simp only [Act.put, List.setIfInBounds_toArray, List.set_cons_zero, List.set_cons_succ]
  refine wpAnyH_take (i := 1) (v := ?_) rfl (by kernel_rfl) (by kernel_rfl) (by kernel_rfl) (fun _ _ _ h => h) (Or.inl ⟨by rfl, ?_⟩) hS ?_
  rotate_left
  · (intro w hSw; (try dsimp only at hSw); go_simp; (first | done | with_reducible rfl))
  change wpAnyH _ _ _ _ _ _ _ (Act.put _ (some 12) _) _
  simp only [Act.put, List.setIfInBounds_toArray, List.set_cons_zero, List.set_cons_succ]
  refine wpAnyH_take (i := 2) (v := ?_) rfl (by kernel_rfl) (by kernel_rfl) (by kernel_rfl) (fun _ _ _ h => h) (Or.inl ⟨by rfl, ?_⟩) hS ?_
  rotate_left
  · (intro w hSw; (try dsimp only at hSw); go_simp; (first | done | with_reducible rfl))
  change wpAnyH _ _ _ _ _ _ _ (Act.put _ (some 13) _) _
  simp only [Act.put, List.setIfInBounds_toArray, List.set_cons_zero, List.set_cons_succ]
  refine wpAnyH_take (i := 3) (v := ?_) rfl (by kernel_rfl) (by kernel_rfl) (by kernel_rfl) (fun _ _ _ h => h) (Or.inl ⟨by rfl, ?_⟩) hS ?_
  rotate_left
  · (intro w hSw; (try dsimp only at hSw); go_simp; (first | done | with_reducible rfl))
  change wpAnyH _ _ _ _ _ _ _ (Act.put _ (some 14) _) _
  simp only [Act.put, List.setIfInBounds_toArray, List.set_cons_zero, List.set_cons_succ]
  refine wpAnyH_take (i := 5) (v := ?_) rfl (by kernel_rfl) (by kernel_rfl) (by kernel_rfl) (fun _ _ _ h => h) (Or.inl ⟨by rfl, ?_⟩) hS ?_
  rotate_left
  · (intro w hSw; (try dsimp only at hSw); go_simp; (first | done | with_reducible rfl))
  change wpAnyH _ _ _ _ _ _ _ (Act.put _ (some 16) _) _
  simp only [Act.put, List.setIfInBounds_toArray, List.set_cons_zero, List.set_cons_succ]
  refine wpAnyH_take (i := 6) (v := ?_) rfl (by kernel_rfl) (by kernel_rfl) (by kernel_rfl) (fun _ _ _ h => h) (Or.inl ⟨by rfl, ?_⟩) hS ?_
  rotate_left
  · (intro w hSw; (try dsimp only at hSw); go_simp; (first | done | with_reducible rfl))
  change wpAnyH _ _ _ _ _ _ _ (Act.put _ (some 17) _) _
  simp only [Act.put, List.setIfInBounds_toArray, List.set_cons_zero, List.set_cons_succ]
  refine wpAnyH_take (i := 7) (v := ?_) rfl (by kernel_rfl) (by kernel_rfl) (by kernel_rfl) (fun _ _ _ h => h) (Or.inl ⟨by rfl, ?_⟩) hS ?_
  rotate_left
  · (intro w hSw; (try dsimp only at hSw); go_simp; (first | done | with_reducible rfl))
  change wpAnyH _ _ _ _ _ _ _ (Act.put _ (some 18) _) _
  simp only [Act.put, List.setIfInBounds_toArray, List.set_cons_zero, List.set_cons_succ]
  refine wpAnyH_take (i := 8) (v := ?_) rfl (by kernel_rfl) (by kernel_rfl) (by kernel_rfl) (fun _ _ _ h => h) (Or.inl ⟨by rfl, ?_⟩) hS ?_
  rotate_left
  · (intro w hSw; (try dsimp only at hSw); go_simp; (first | done | with_reducible rfl))
  change wpAnyH _ _ _ _ _ _ _ (Act.put _ (some 19) _) _
  simp only [Act.put, List.setIfInBounds_toArray, List.set_cons_zero, List.set_cons_succ]
  refine wpAnyH_take (i := 9) (v := ?_) rfl (by kernel_rfl) (by kernel_rfl) (by kernel_rfl) (fun _ _ _ h => h) (Or.inl ⟨by rfl, ?_⟩) hS ?_
  rotate_left
  · (intro w hSw; (try dsimp only at hSw); go_simp; (first | done | with_reducible rfl))
  change wpAnyH _ _ _ _ _ _ _ (Act.put _ (some 20) _) _
  simp only [Act.put, List.setIfInBounds_toArray, List.set_cons_zero, List.set_cons_succ]
  refine wpAnyH_take (i := 10) (v := ?_) rfl (by kernel_rfl) (by kernel_rfl) (by kernel_rfl) (fun _ _ _ h => h) (Or.inl ⟨by rfl, ?_⟩) hS ?_
  rotate_left
  · (intro w hSw; (try dsimp only at hSw); go_simp; (first | done | with_reducible rfl))
  change wpAnyH _ _ _ _ _ _ _ (Act.put _ (some 21) _) _
  simp only [Act.put, List.setIfInBounds_toArray, List.set_cons_zero, List.set_cons_succ]
  refine wpAnyH_ready (rs := [4, 11]) (by kernel_rfl) (by simp) ?_
  refine AllReadyH.cons rfl (fun K hK => ?_) ?_
  · have cq := bk.cell_ (i := 1) rfl
    go_simp
    refine hK.out _ _ hS (fun hS => ?_)
    clear hK K
    try simp only [Act.put, List.setIfInBounds_toArray, List.set_cons_zero, List.set_cons_succ]
    clear cq
    refine wpAnyH_ready (rs := [11]) (by kernel_rfl) (by simp) ?_
    refine AllReadyH.cons rfl (fun K hK => ?_) AllReadyH.nil
    go_simp
    have kn : Keep v0 (v0.alloc (.cells #[.slice A m c, .slice none 0 0, .int .i64 ((n : Int) + 1)] 83)) := Keep.alloc1 _ _
    have bN : Blk (v0.alloc (.cells #[.slice A m c, .slice none 0 0, .int .i64 ((n : Int) + 1)] 83)) v0.heap.size 83 [.slice A m c, .slice none 0 0, .int .i64 ((n : Int) + 1)] := Blk.new v0 _ _
    refine hK.out _ _ (kn.cell hS) (fun hS => ?_)
    clear hK K
    try simp only [Act.put, List.setIfInBounds_toArray, List.set_cons_zero, List.set_cons_succ]
    generalize (v0.alloc (.cells #[.slice A m c, .slice none 0 0, .int .i64 ((n : Int) + 1)] 83)) = v2 at bN kn hS ⊢
    generalize v0.heap.size = gN at bN ⊢
    replace bk := bk.keep kn
    replace hrow := hrow.keep kn
    replace ky := ky.trans kn
    clear kn
    refine wpAnyH_ready (rs := [12]) (by kernel_rfl) (by simp) ?_
    refine AllReadyH.cons rfl (fun K hK => ?_) AllReadyH.nil
    rw [if_pos (by rfl)]
    have hbs2 : base ≤ v2.heap.size := Nat.le_trans hbs ky.size
    have hoff := bk.offRow hrow (by decide)
    refine wp_append_own v2 (.tmp 15) (.tmp 22) 40 rfl base 83 ti _ 3 56 Tryz.underlying40 hi2 hz2 hsz2 hby2 rfl (by decide) vb hb.length _ rfl hrow ⟨gN, 0, none⟩ 1 1 [.slice A m c, .slice none 0 0, .int .i64 ((n : Int) + 1)] rfl rfl bN.rd.cells (by intro u hu; simp only [List.mem_cons, List.not_mem_nil, or_false] at hu; rcases hu with rfl | rfl | rfl <;> rfl) (by unfold maxLen; omega) (by omega) hbs2 ?_
    intro v' v3 hown hgrow _
    obtain ⟨A', c', rfl⟩ := ownsRow_val hown
    refine hK.out _ _ (hgrow.cell hS (fun e => hoff e.symm)) (fun hS => ?_)
    clear hK K
    change wpAnyH _ _ _ _ _ _ _ (Act.put _ (some 23) _) _
    try simp only [Act.put, List.setIfInBounds_toArray, List.set_cons_zero, List.set_cons_succ]
    have bk2 := bk.grown hgrow (fun e => hoff e.symm)
    have hW := (But.keep ky (fun q => q = g ∨ vb.ownBlock = some q)).grown hgrow (fun k e => .inr e)
    clear hrow bN hoff hbs2
    refine wpAnyH_take (i := 13) (v := ?_) rfl (by kernel_rfl) (by kernel_rfl) (by kernel_rfl) (fun _ _ _ h => h) (Or.inl ⟨by rfl, ?_⟩) hS ?_
    rotate_left
    · (intro w hSw; (try dsimp only at hSw); go_simp; (first | done | with_reducible rfl))
    change wpAnyH _ _ _ _ _ _ _ (Act.put _ (some 24) _) _
    simp only [Act.put, List.setIfInBounds_toArray, List.set_cons_zero, List.set_cons_succ]
    refine wpAnyH_take (i := 14) (v := ?_) rfl (by kernel_rfl) (by kernel_rfl) (by kernel_rfl) (fun _ _ _ h => h) (Or.inl ⟨by rfl, ?_⟩) hS ?_
    rotate_left
    · (intro w hSw; (try dsimp only at hSw); go_simp; (first | done | with_reducible rfl))
    change wpAnyH _ _ _ _ _ _ _ (Act.put _ (some 25) _) _
    simp only [Act.put, List.setIfInBounds_toArray, List.set_cons_zero, List.set_cons_succ]
    refine wpAnyH_ready (rs := [15]) (by kernel_rfl) (by simp) ?_
    refine AllReadyH.cons rfl (fun K hK => ?_) AllReadyH.nil
    have cq := bk2.cell_ (i := 1) rfl
    have fq := bk2.frozen 1
    go_simp
    refine hK.out _ _ ((World.cell?_setCell_other v3 ⟨g, 1, none⟩ ⟨g, 0, none⟩ _ (fun e => by injection e with _ e2; cases e2)).trans hS) (fun hS => ?_)
    clear hK K
    try simp only [Act.put, List.setIfInBounds_toArray]
    refine wpAnyH_done (by kernel_rfl) ?_ _
    refine NoPanic.normal ?_
    have bk3 := bk2.set_ 1 (.slice A' (hb.length + 1) c')
    have hW3 : But (fun q => q = g ∨ vb.ownBlock = some q) W (v3.setCell ⟨g, 1, none⟩ (.slice A' (hb.length + 1) c')) := hW.setCell (.inl rfl) _
    have hr3 : HRow v3 base 83 (.slice A' (hb.length + 1) c') (hb ++ [⟨A, c, m, n + 1, none, 0, 0⟩]) := by
      unfold HRow
      rw [List.length_append, cellsOf_append]
      exact hown
    have hr4 := hr3.but ((But.refl (fun q => q = g) _).setCell (p := ⟨g, 1, none⟩) rfl (.slice A' (hb.length + 1) c')) (fun k e e2 => bk2.offRow hr3 (by decide) (e2 ▸ e))
    have ho3 := hother.but hW3 (fun k e e2 => e2.elim (fun e3 => hog (e3 ▸ e)) (fun e3 => hoo k e e3))
    have ho4 := hothes.but hW3 (fun k e e2 => e2.elim (fun e3 => hos (e3 ▸ e)) (fun e3 => hos2 k e e3))
    have h0W := h0.trans hW3
    have HRES := Lib.hid (And.intro bk3 (And.intro hr4 (And.intro ho3 (And.intro ho4 h0W))))
    clear bk3 hr4 ho3 ho4 h0W hr3 hown hW3
    go_wp2_with fail
    go_end0
    exact ⟨rfl, _, ⟨HRES.out.1, HRES.out.2.1, HRES.out.2.2.1, HRES.out.2.2.2.1, hk.g⟩, HRES.out.2.2.2.2⟩
  refine AllReadyH.cons rfl (fun K hK => ?_) ?_
  · go_simp
    have kn : Keep v0 (v0.alloc (.cells #[.slice A m c, .slice none 0 0, .int .i64 ((n : Int) + 1)] 83)) := Keep.alloc1 _ _
    have bN : Blk (v0.alloc (.cells #[.slice A m c, .slice none 0 0, .int .i64 ((n : Int) + 1)] 83)) v0.heap.size 83 [.slice A m c, .slice none 0 0, .int .i64 ((n : Int) + 1)] := Blk.new v0 _ _
    refine hK.out _ _ (kn.cell hS) (fun hS => ?_)
    clear hK K
    try simp only [Act.put, List.setIfInBounds_toArray, List.set_cons_zero, List.set_cons_succ]
    generalize (v0.alloc (.cells #[.slice A m c, .slice none 0 0, .int .i64 ((n : Int) + 1)] 83)) = v5 at bN kn hS ⊢
    generalize v0.heap.size = gN at bN ⊢
    replace bk := bk.keep kn
    replace hrow := hrow.keep kn
    replace ky := ky.trans kn
    clear kn
    refine wpAnyH_ready (rs := [4]) (by kernel_rfl) (by simp) ?_
    refine AllReadyH.cons rfl (fun K hK => ?_) AllReadyH.nil
    have cq := bk.cell_ (i := 1) rfl
    go_simp
    refine hK.out _ _ hS (fun hS => ?_)
    clear hK K
    try simp only [Act.put, List.setIfInBounds_toArray, List.set_cons_zero, List.set_cons_succ]
    clear cq
    refine wpAnyH_ready (rs := [12]) (by kernel_rfl) (by simp) ?_
    refine AllReadyH.cons rfl (fun K hK => ?_) AllReadyH.nil
    rw [if_pos (by rfl)]
    have hbs2 : base ≤ v5.heap.size := Nat.le_trans hbs ky.size
    have hoff := bk.offRow hrow (by decide)
    refine wp_append_own v5 (.tmp 15) (.tmp 22) 40 rfl base 83 ti _ 3 56 Tryz.underlying40 hi2 hz2 hsz2 hby2 rfl (by decide) vb hb.length _ rfl hrow ⟨gN, 0, none⟩ 1 1 [.slice A m c, .slice none 0 0, .int .i64 ((n : Int) + 1)] rfl rfl bN.rd.cells (by intro u hu; simp only [List.mem_cons, List.not_mem_nil, or_false] at hu; rcases hu with rfl | rfl | rfl <;> rfl) (by unfold maxLen; omega) (by omega) hbs2 ?_
    intro v' v7 hown hgrow _
    obtain ⟨A', c', rfl⟩ := ownsRow_val hown
    refine hK.out _ _ (hgrow.cell hS (fun e => hoff e.symm)) (fun hS => ?_)
    clear hK K
    change wpAnyH _ _ _ _ _ _ _ (Act.put _ (some 23) _) _
    try simp only [Act.put, List.setIfInBounds_toArray, List.set_cons_zero, List.set_cons_succ]
    have bk2 := bk.grown hgrow (fun e => hoff e.symm)
    have hW := (But.keep ky (fun q => q = g ∨ vb.ownBlock = some q)).grown hgrow (fun k e => .inr e)
    clear hrow bN hoff hbs2
    refine wpAnyH_take (i := 13) (v := ?_) rfl (by kernel_rfl) (by kernel_rfl) (by kernel_rfl) (fun _ _ _ h => h) (Or.inl ⟨by rfl, ?_⟩) hS ?_
    rotate_left
    · (intro w hSw; (try dsimp only at hSw); go_simp; (first | done | with_reducible rfl))
    change wpAnyH _ _ _ _ _ _ _ (Act.put _ (some 24) _) _
    simp only [Act.put, List.setIfInBounds_toArray, List.set_cons_zero, List.set_cons_succ]
    refine wpAnyH_take (i := 14) (v := ?_) rfl (by kernel_rfl) (by kernel_rfl) (by kernel_rfl) (fun _ _ _ h => h) (Or.inl ⟨by rfl, ?_⟩) hS ?_
    rotate_left
    · (intro w hSw; (try dsimp only at hSw); go_simp; (first | done | with_reducible rfl))
    change wpAnyH _ _ _ _ _ _ _ (Act.put _ (some 25) _) _
    simp only [Act.put, List.setIfInBounds_toArray, List.set_cons_zero, List.set_cons_succ]
    refine wpAnyH_ready (rs := [15]) (by kernel_rfl) (by simp) ?_
    refine AllReadyH.cons rfl (fun K hK => ?_) AllReadyH.nil
    have cq := bk2.cell_ (i := 1) rfl
    have fq := bk2.frozen 1
    go_simp
    refine hK.out _ _ ((World.cell?_setCell_other v7 ⟨g, 1, none⟩ ⟨g, 0, none⟩ _ (fun e => by injection e with _ e2; cases e2)).trans hS) (fun hS => ?_)
    clear hK K
    try simp only [Act.put, List.setIfInBounds_toArray]
    refine wpAnyH_done (by kernel_rfl) ?_ _
    refine NoPanic.normal ?_
    have bk3 := bk2.set_ 1 (.slice A' (hb.length + 1) c')
    have hW3 : But (fun q => q = g ∨ vb.ownBlock = some q) W (v7.setCell ⟨g, 1, none⟩ (.slice A' (hb.length + 1) c')) := hW.setCell (.inl rfl) _
    have hr3 : HRow v7 base 83 (.slice A' (hb.length + 1) c') (hb ++ [⟨A, c, m, n + 1, none, 0, 0⟩]) := by
      unfold HRow
      rw [List.length_append, cellsOf_append]
      exact hown
    have hr4 := hr3.but ((But.refl (fun q => q = g) _).setCell (p := ⟨g, 1, none⟩) rfl (.slice A' (hb.length + 1) c')) (fun k e e2 => bk2.offRow hr3 (by decide) (e2 ▸ e))
    have ho3 := hother.but hW3 (fun k e e2 => e2.elim (fun e3 => hog (e3 ▸ e)) (fun e3 => hoo k e e3))
    have ho4 := hothes.but hW3 (fun k e e2 => e2.elim (fun e3 => hos (e3 ▸ e)) (fun e3 => hos2 k e e3))
    have h0W := h0.trans hW3
    have HRES := Lib.hid (And.intro bk3 (And.intro hr4 (And.intro ho3 (And.intro ho4 h0W))))
    clear bk3 hr4 ho3 ho4 h0W hr3 hown hW3
    go_wp2_with fail
    go_end0
    exact ⟨rfl, _, ⟨HRES.out.1, HRES.out.2.1, HRES.out.2.2.1, HRES.out.2.2.2.1, hk.g⟩, HRES.out.2.2.2.2⟩
  exact AllReadyH.nil

set_option maxRecDepth 100000 in
set_option maxHeartbeats 1000000 in
theorem bookBytesL_f (g n base : Nat) (hb hi hl : List Hd) (vb vi vl : Value) (A : Option Addr) (m c : Nat) (w : World) (hk : BkL w base g n hb hi hl vb vi vl) (hn : n ≤ 10000) (hL : hb.length ≤ 10000) :
    Calls Tryz.prog 21 #[pK g, .slice A m c] w fun e w' => e = .returned (.tuple #[]) ∧ ∃ v', BkL w' base g (n + 1) (hb ++ [⟨A, c, m, n + 1, none, 0, 0⟩]) hi hl v' vi vl ∧ But (fun q => q = g ∨ vb.ownBlock = some q) w w' := by
  have hq := keepByteL_f g n base hb hi hl vb vi vl A m c w hk hn hL
  unfold pK at hq ⊢
  go_enter Tryz.func21, Tryz.ntmps21
  go_wp2_with fail
  refine hq.mono ?_
  rintro e w1 ⟨rfl, h⟩
  go_wp2_with fail
  go_end0
  exact ⟨rfl, h⟩

set_option maxRecDepth 100000 in
set_option maxHeartbeats 4000000 in
theorem keepIntL_f (g n base : Nat) (hb hi hl : List Hd) (vb vi vl : Value) (A : Option Addr) (m c : Nat) (w : World) (hk : BkL w base g n hb hi hl vb vi vl) (hn : n ≤ 10000) (hL : hi.length ≤ 10000) :
    Calls Tryz.prog 77 #[pK g, .slice A m c] w fun e w' => e = .returned (.tuple #[]) ∧ ∃ v', BkL w' base g (n + 1) hb (hi ++ [⟨A, c, m, n + 1, none, 0, 0⟩]) hl vb v' vl ∧ But (fun q => q = g ∨ vi.ownBlock = some q) w w' := by
  obtain ⟨ti, hi2, hzz⟩ := Option.map_eq_some_iff.1 infoHI
  simp only [Prod.mk.injEq] at hzz
  obtain ⟨hz2, hsz2, hby2⟩ := hzz
  have hbs : base ≤ w.heap.size := Nat.le_trans hk.g (Nat.le_of_lt hk.b.lt)
  have b0 := hk.b.cell_ (i := 0) rfl
  have f0 := hk.b.frozen 0
  have hzero : (zeroValue 86).run Tryz.prog w = .ok (.agg #[.slice none 0 0, .slice none 0 0, .int .i64 0]) w := by kernel_rfl
  unfold pK
  go_enter Tryz.func77, Tryz.ntmps77
  go_upto_region 1 with fail
  have h0 : But (fun q => q = g ∨ vi.ownBlock = some q) w (w.setCell ⟨g, 0, none⟩ (.int .i64 ((n : Int) + 1))) := (But.refl _ _).setCell (.inl rfl) _
  have hS1 : But (fun q => q = g) w (w.setCell ⟨g, 0, none⟩ (.int .i64 ((n : Int) + 1))) := (But.refl (fun q => q = g) w).setCell (p := ⟨g, 0, none⟩) rfl _
  have bk : Blk (w.setCell ⟨g, 0, none⟩ (.int .i64 ((n : Int) + 1))) g 50 [.int .i64 ((n : Int) + 1), vb, vi, nilV, vl, nilV, nilV, nilV, nilV, nilV] := hk.b.set_ 0 _
  have hrow := hk.ri.but hS1 (fun k e e2 => hk.b.offRow hk.ri (by decide) (e2 ▸ e))
  have hother := hk.rb.but hS1 (fun k e e2 => hk.b.offRow hk.rb (by decide) (e2 ▸ e))
  have hog := hk.b.offRow hk.rb (by decide)
  have hoo := hk.rb.offRow hk.ri (by decide)
  have hothes := hk.rl.but hS1 (fun k e e2 => hk.b.offRow hk.rl (by decide) (e2 ▸ e))
  have hos := hk.b.offRow hk.rl (by decide)
  have hos2 := hk.rl.offRow hk.ri (by decide)
  have hbs : base ≤ (w.setCell ⟨g, 0, none⟩ (.int .i64 ((n : Int) + 1))).heap.size := Nat.le_trans hbs h0.size
  generalize w.setCell ⟨g, 0, none⟩ (.int .i64 ((n : Int) + 1)) = W at h0 bk hrow hother hothes hbs ⊢
  have e0 := bk.cell_ (i := 0) rfl
  clear b0 f0 hS1
  refine wp_region_noPanic ?_
  refine wp_region_held_drew (S := (fun w' => w'.cell? ⟨g, 0, none⟩ = some (.int .i64 ((n : Int) + 1)))) (by kernel_rfl) e0 (fun hS => ?_)
  have ky : Keep W W.drew := (Keep.refl _).drew
  replace bk := bk.keep ky
  replace hrow := hrow.keep ky
  generalize W.drew = v0 at ky hS bk hrow ⊢
  refine wpAnyH_take (i := 0) (v := ?_) rfl (by kernel_rfl) (by kernel_rfl) (by kernel_rfl) (fun _ _ _ h => h) (Or.inl ⟨by rfl, ?_⟩) hS ?_
  rotate_left
  · (intro w hSw; (try dsimp only at hSw); go_simp; (first | done | with_reducible rfl))
  change wpAnyH _ _ _ _ _ _ _ (Act.put _ (some 11) _) _
  simp only [Act.put, List.setIfInBounds_toArray, List.set_cons_zero, List.set_cons_succ]
  refine wpAnyH_take (i := 1) (v := ?_) rfl (by kernel_rfl) (by kernel_rfl) (by kernel_rfl) (fun _ _ _ h => h) (Or.inl ⟨by rfl, ?_⟩) hS ?_
  rotate_left
  · (intro w hSw; (try dsimp only at hSw); go_simp; (first | done | with_reducible rfl))
  change wpAnyH _ _ _ _ _ _ _ (Act.put _ (some 12) _) _
  simp only [Act.put, List.setIfInBounds_toArray, List.set_cons_zero, List.set_cons_succ]
  refine wpAnyH_take (i := 2) (v := ?_) rfl (by kernel_rfl) (by kernel_rfl) (by kernel_rfl) (fun _ _ _ h => h) (Or.inl ⟨by rfl, ?_⟩) hS ?_
  rotate_left
  · (intro w hSw; (try dsimp only at hSw); go_simp; (first | done | with_reducible rfl))
  change wpAnyH _ _ _ _ _ _ _ (Act.put _ (some 13) _) _
  simp only [Act.put, List.setIfInBounds_toArray, List.set_cons_zero, List.set_cons_succ]
  refine wpAnyH_take (i := 3) (v := ?_) rfl (by kernel_rfl) (by kernel_rfl) (by kernel_rfl) (fun _ _ _ h => h) (Or.inl ⟨by rfl, ?_⟩) hS ?_
  rotate_left
  · (intro w hSw; (try dsimp only at hSw); go_simp; (first | done | with_reducible rfl))
  change wpAnyH _ _ _ _ _ _ _ (Act.put _ (some 14) _) _
  simp only [Act.put, List.setIfInBounds_toArray, List.set_cons_zero, List.set_cons_succ]
  refine wpAnyH_take (i := 5) (v := ?_) rfl (by kernel_rfl) (by kernel_rfl) (by kernel_rfl) (fun _ _ _ h => h) (Or.inl ⟨by rfl, ?_⟩) hS ?_
  rotate_left
  · (intro w hSw; (try dsimp only at hSw); go_simp; (first | done | with_reducible rfl))
  change wpAnyH _ _ _ _ _ _ _ (Act.put _ (some 16) _) _
  simp only [Act.put, List.setIfInBounds_toArray, List.set_cons_zero, List.set_cons_succ]
  refine wpAnyH_take (i := 6) (v := ?_) rfl (by kernel_rfl) (by kernel_rfl) (by kernel_rfl) (fun _ _ _ h => h) (Or.inl ⟨by rfl, ?_⟩) hS ?_
  rotate_left
  · (intro w hSw; (try dsimp only at hSw); go_simp; (first | done | with_reducible rfl))
  change wpAnyH _ _ _ _ _ _ _ (Act.put _ (some 17) _) _
  simp only [Act.put, List.setIfInBounds_toArray, List.set_cons_zero, List.set_cons_succ]
  refine wpAnyH_take (i := 7) (v := ?_) rfl (by kernel_rfl) (by kernel_rfl) (by kernel_rfl) (fun _ _ _ h => h) (Or.inl ⟨by rfl, ?_⟩) hS ?_
  rotate_left
  · (intro w hSw; (try dsimp only at hSw); go_simp; (first | done | with_reducible rfl))
  change wpAnyH _ _ _ _ _ _ _ (Act.put _ (some 18) _) _
  simp only [Act.put, List.setIfInBounds_toArray, List.set_cons_zero, List.set_cons_succ]
  refine wpAnyH_take (i := 8) (v := ?_) rfl (by kernel_rfl) (by kernel_rfl) (by kernel_rfl) (fun _ _ _ h => h) (Or.inl ⟨by rfl, ?_⟩) hS ?_
  rotate_left
  · (intro w hSw; (try dsimp only at hSw); go_simp; (first | done | with_reducible rfl))
  change wpAnyH _ _ _ _ _ _ _ (Act.put _ (some 19) _) _
  simp only [Act.put, List.setIfInBounds_toArray, List.set_cons_zero, List.set_cons_succ]
  refine wpAnyH_take (i := 9) (v := ?_) rfl (by kernel_rfl) (by kernel_rfl) (by kernel_rfl) (fun _ _ _ h => h) (Or.inl ⟨by rfl, ?_⟩) hS ?_
  rotate_left
  · (intro w hSw; (try dsimp only at hSw); go_simp; (first | done | with_reducible rfl))
  change wpAnyH _ _ _ _ _ _ _ (Act.put _ (some 20) _) _
  simp only [Act.put, List.setIfInBounds_toArray, List.set_cons_zero, List.set_cons_succ]
  refine wpAnyH_take (i := 10) (v := ?_) rfl (by kernel_rfl) (by kernel_rfl) (by kernel_rfl) (fun _ _ _ h => h) (Or.inl ⟨by rfl, ?_⟩) hS ?_
  rotate_left
  · (intro w hSw; (try dsimp only at hSw); go_simp; (first | done | with_reducible rfl))
  change wpAnyH _ _ _ _ _ _ _ (Act.put _ (some 21) _) _
  simp only [Act.put, List.setIfInBounds_toArray, List.set_cons_zero, List.set_cons_succ]
  refine wpAnyH_ready (rs := [4, 11]) (by kernel_rfl) (by simp) ?_
  refine AllReadyH.cons rfl (fun K hK => ?_) ?_
  · have cq := bk.cell_ (i := 2) rfl
    go_simp
    refine hK.out _ _ hS (fun hS => ?_)
    clear hK K
    try simp only [Act.put, List.setIfInBounds_toArray, List.set_cons_zero, List.set_cons_succ]
    clear cq
    refine wpAnyH_ready (rs := [11]) (by kernel_rfl) (by simp) ?_
    refine AllReadyH.cons rfl (fun K hK => ?_) AllReadyH.nil
    go_simp
    have kn : Keep v0 (v0.alloc (.cells #[.slice A m c, .slice none 0 0, .int .i64 ((n : Int) + 1)] 86)) := Keep.alloc1 _ _
    have bN : Blk (v0.alloc (.cells #[.slice A m c, .slice none 0 0, .int .i64 ((n : Int) + 1)] 86)) v0.heap.size 86 [.slice A m c, .slice none 0 0, .int .i64 ((n : Int) + 1)] := Blk.new v0 _ _
    refine hK.out _ _ (kn.cell hS) (fun hS => ?_)
    clear hK K
    try simp only [Act.put, List.setIfInBounds_toArray, List.set_cons_zero, List.set_cons_succ]
    generalize (v0.alloc (.cells #[.slice A m c, .slice none 0 0, .int .i64 ((n : Int) + 1)] 86)) = v2 at bN kn hS ⊢
    generalize v0.heap.size = gN at bN ⊢
    replace bk := bk.keep kn
    replace hrow := hrow.keep kn
    replace ky := ky.trans kn
    clear kn
    refine wpAnyH_ready (rs := [12]) (by kernel_rfl) (by simp) ?_
    refine AllReadyH.cons rfl (fun K hK => ?_) AllReadyH.nil
    rw [if_pos (by rfl)]
    have hbs2 : base ≤ v2.heap.size := Nat.le_trans hbs ky.size
    have hoff := bk.offRow hrow (by decide)
    refine wp_append_own v2 (.tmp 15) (.tmp 22) 41 rfl base 86 ti _ 3 56 Tryz.underlying41 hi2 hz2 hsz2 hby2 rfl (by decide) vi hi.length _ rfl hrow ⟨gN, 0, none⟩ 1 1 [.slice A m c, .slice none 0 0, .int .i64 ((n : Int) + 1)] rfl rfl bN.rd.cells (by intro u hu; simp only [List.mem_cons, List.not_mem_nil, or_false] at hu; rcases hu with rfl | rfl | rfl <;> rfl) (by unfold maxLen; omega) (by omega) hbs2 ?_
    intro v' v3 hown hgrow _
    obtain ⟨A', c', rfl⟩ := ownsRow_val hown
    refine hK.out _ _ (hgrow.cell hS (fun e => hoff e.symm)) (fun hS => ?_)
    clear hK K
    change wpAnyH _ _ _ _ _ _ _ (Act.put _ (some 23) _) _
    try simp only [Act.put, List.setIfInBounds_toArray, List.set_cons_zero, List.set_cons_succ]
    have bk2 := bk.grown hgrow (fun e => hoff e.symm)
    have hW := (But.keep ky (fun q => q = g ∨ vi.ownBlock = some q)).grown hgrow (fun k e => .inr e)
    clear hrow bN hoff hbs2
    refine wpAnyH_take (i := 13) (v := ?_) rfl (by kernel_rfl) (by kernel_rfl) (by kernel_rfl) (fun _ _ _ h => h) (Or.inl ⟨by rfl, ?_⟩) hS ?_
    rotate_left
    · (intro w hSw; (try dsimp only at hSw); go_simp; (first | done | with_reducible rfl))
    change wpAnyH _ _ _ _ _ _ _ (Act.put _ (some 24) _) _
    simp only [Act.put, List.setIfInBounds_toArray, List.set_cons_zero, List.set_cons_succ]
    refine wpAnyH_take (i := 14) (v := ?_) rfl (by kernel_rfl) (by kernel_rfl) (by kernel_rfl) (fun _ _ _ h => h) (Or.inl ⟨by rfl, ?_⟩) hS ?_
    rotate_left
    · (intro w hSw; (try dsimp only at hSw); go_simp; (first | done | with_reducible rfl))
    change wpAnyH _ _ _ _ _ _ _ (Act.put _ (some 25) _) _
    simp only [Act.put, List.setIfInBounds_toArray, List.set_cons_zero, List.set_cons_succ]
    refine wpAnyH_ready (rs := [15]) (by kernel_rfl) (by simp) ?_
    refine AllReadyH.cons rfl (fun K hK => ?_) AllReadyH.nil
    have cq := bk2.cell_ (i := 2) rfl
    have fq := bk2.frozen 2
    go_simp
    refine hK.out _ _ ((World.cell?_setCell_other v3 ⟨g, 2, none⟩ ⟨g, 0, none⟩ _ (fun e => by injection e with _ e2; cases e2)).trans hS) (fun hS => ?_)
    clear hK K
    try simp only [Act.put, List.setIfInBounds_toArray]
    refine wpAnyH_done (by kernel_rfl) ?_ _
    refine NoPanic.normal ?_
    have bk3 := bk2.set_ 2 (.slice A' (hi.length + 1) c')
    have hW3 : But (fun q => q = g ∨ vi.ownBlock = some q) W (v3.setCell ⟨g, 2, none⟩ (.slice A' (hi.length + 1) c')) := hW.setCell (.inl rfl) _
    have hr3 : HRow v3 base 86 (.slice A' (hi.length + 1) c') (hi ++ [⟨A, c, m, n + 1, none, 0, 0⟩]) := by
      unfold HRow
      rw [List.length_append, cellsOf_append]
      exact hown
    have hr4 := hr3.but ((But.refl (fun q => q = g) _).setCell (p := ⟨g, 2, none⟩) rfl (.slice A' (hi.length + 1) c')) (fun k e e2 => bk2.offRow hr3 (by decide) (e2 ▸ e))
    have ho3 := hother.but hW3 (fun k e e2 => e2.elim (fun e3 => hog (e3 ▸ e)) (fun e3 => hoo k e e3))
    have ho4 := hothes.but hW3 (fun k e e2 => e2.elim (fun e3 => hos (e3 ▸ e)) (fun e3 => hos2 k e e3))
    have h0W := h0.trans hW3
    have HRES := Lib.hid (And.intro bk3 (And.intro hr4 (And.intro ho3 (And.intro ho4 h0W))))
    clear bk3 hr4 ho3 ho4 h0W hr3 hown hW3
    go_wp2_with fail
    go_end0
    exact ⟨rfl, _, ⟨HRES.out.1, HRES.out.2.2.1, HRES.out.2.1, HRES.out.2.2.2.1, hk.g⟩, HRES.out.2.2.2.2⟩
  refine AllReadyH.cons rfl (fun K hK => ?_) ?_
  · go_simp
    have kn : Keep v0 (v0.alloc (.cells #[.slice A m c, .slice none 0 0, .int .i64 ((n : Int) + 1)] 86)) := Keep.alloc1 _ _
    have bN : Blk (v0.alloc (.cells #[.slice A m c, .slice none 0 0, .int .i64 ((n : Int) + 1)] 86)) v0.heap.size 86 [.slice A m c, .slice none 0 0, .int .i64 ((n : Int) + 1)] := Blk.new v0 _ _
    refine hK.out _ _ (kn.cell hS) (fun hS => ?_)
    clear hK K
    try simp only [Act.put, List.setIfInBounds_toArray, List.set_cons_zero, List.set_cons_succ]
    generalize (v0.alloc (.cells #[.slice A m c, .slice none 0 0, .int .i64 ((n : Int) + 1)] 86)) = v5 at bN kn hS ⊢
    generalize v0.heap.size = gN at bN ⊢
    replace bk := bk.keep kn
    replace hrow := hrow.keep kn
    replace ky := ky.trans kn
    clear kn
    refine wpAnyH_ready (rs := [4]) (by kernel_rfl) (by simp) ?_
    refine AllReadyH.cons rfl (fun K hK => ?_) AllReadyH.nil
    have cq := bk.cell_ (i := 2) rfl
    go_simp
    refine hK.out _ _ hS (fun hS => ?_)
    clear hK K
    try simp only [Act.put, List.setIfInBounds_toArray, List.set_cons_zero, List.set_cons_succ]
    clear cq
    refine wpAnyH_ready (rs := [12]) (by kernel_rfl) (by simp) ?_
    refine AllReadyH.cons rfl (fun K hK => ?_) AllReadyH.nil
    rw [if_pos (by rfl)]
    have hbs2 : base ≤ v5.heap.size := Nat.le_trans hbs ky.size
    have hoff := bk.offRow hrow (by decide)
    refine wp_append_own v5 (.tmp 15) (.tmp 22) 41 rfl base 86 ti _ 3 56 Tryz.underlying41 hi2 hz2 hsz2 hby2 rfl (by decide) vi hi.length _ rfl hrow ⟨gN, 0, none⟩ 1 1 [.slice A m c, .slice none 0 0, .int .i64 ((n : Int) + 1)] rfl rfl bN.rd.cells (by intro u hu; simp only [List.mem_cons, List.not_mem_nil, or_false] at hu; rcases hu with rfl | rfl | rfl <;> rfl) (by unfold maxLen; omega) (by omega) hbs2 ?_
    intro v' v7 hown hgrow _
    obtain ⟨A', c', rfl⟩ := ownsRow_val hown
    refine hK.out _ _ (hgrow.cell hS (fun e => hoff e.symm)) (fun hS => ?_)
    clear hK K
    change wpAnyH _ _ _ _ _ _ _ (Act.put _ (some 23) _) _
    try simp only [Act.put, List.setIfInBounds_toArray, List.set_cons_zero, List.set_cons_succ]
    have bk2 := bk.grown hgrow (fun e => hoff e.symm)
    have hW := (But.keep ky (fun q => q = g ∨ vi.ownBlock = some q)).grown hgrow (fun k e => .inr e)
    clear hrow bN hoff hbs2
    refine wpAnyH_take (i := 13) (v := ?_) rfl (by kernel_rfl) (by kernel_rfl) (by kernel_rfl) (fun _ _ _ h => h) (Or.inl ⟨by rfl, ?_⟩) hS ?_
    rotate_left
    · (intro w hSw; (try dsimp only at hSw); go_simp; (first | done | with_reducible rfl))
    change wpAnyH _ _ _ _ _ _ _ (Act.put _ (some 24) _) _
    simp only [Act.put, List.setIfInBounds_toArray, List.set_cons_zero, List.set_cons_succ]
    refine wpAnyH_take (i := 14) (v := ?_) rfl (by kernel_rfl) (by kernel_rfl) (by kernel_rfl) (fun _ _ _ h => h) (Or.inl ⟨by rfl, ?_⟩) hS ?_
    rotate_left
    · (intro w hSw; (try dsimp only at hSw); go_simp; (first | done | with_reducible rfl))
    change wpAnyH _ _ _ _ _ _ _ (Act.put _ (some 25) _) _
    simp only [Act.put, List.setIfInBounds_toArray, List.set_cons_zero, List.set_cons_succ]
    refine wpAnyH_ready (rs := [15]) (by kernel_rfl) (by simp) ?_
    refine AllReadyH.cons rfl (fun K hK => ?_) AllReadyH.nil
    have cq := bk2.cell_ (i := 2) rfl
    have fq := bk2.frozen 2
    go_simp
    refine hK.out _ _ ((World.cell?_setCell_other v7 ⟨g, 2, none⟩ ⟨g, 0, none⟩ _ (fun e => by injection e with _ e2; cases e2)).trans hS) (fun hS => ?_)
    clear hK K
    try simp only [Act.put, List.setIfInBounds_toArray]
    refine wpAnyH_done (by kernel_rfl) ?_ _
    refine NoPanic.normal ?_
    have bk3 := bk2.set_ 2 (.slice A' (hi.length + 1) c')
    have hW3 : But (fun q => q = g ∨ vi.ownBlock = some q) W (v7.setCell ⟨g, 2, none⟩ (.slice A' (hi.length + 1) c')) := hW.setCell (.inl rfl) _
    have hr3 : HRow v7 base 86 (.slice A' (hi.length + 1) c') (hi ++ [⟨A, c, m, n + 1, none, 0, 0⟩]) := by
      unfold HRow
      rw [List.length_append, cellsOf_append]
      exact hown
    have hr4 := hr3.but ((But.refl (fun q => q = g) _).setCell (p := ⟨g, 2, none⟩) rfl (.slice A' (hi.length + 1) c')) (fun k e e2 => bk2.offRow hr3 (by decide) (e2 ▸ e))
    have ho3 := hother.but hW3 (fun k e e2 => e2.elim (fun e3 => hog (e3 ▸ e)) (fun e3 => hoo k e e3))
    have ho4 := hothes.but hW3 (fun k e e2 => e2.elim (fun e3 => hos (e3 ▸ e)) (fun e3 => hos2 k e e3))
    have h0W := h0.trans hW3
    have HRES := Lib.hid (And.intro bk3 (And.intro hr4 (And.intro ho3 (And.intro ho4 h0W))))
    clear bk3 hr4 ho3 ho4 h0W hr3 hown hW3
    go_wp2_with fail
    go_end0
    exact ⟨rfl, _, ⟨HRES.out.1, HRES.out.2.2.1, HRES.out.2.1, HRES.out.2.2.2.1, hk.g⟩, HRES.out.2.2.2.2⟩
  exact AllReadyH.nil

set_option maxRecDepth 100000 in
set_option maxHeartbeats 1000000 in
theorem bookIntsL_f (g n base : Nat) (hb hi hl : List Hd) (vb vi vl : Value) (A : Option Addr) (m c : Nat) (w : World) (hk : BkL w base g n hb hi hl vb vi vl) (hn : n ≤ 10000) (hL : hi.length ≤ 10000) :
    Calls Tryz.prog 27 #[pK g, .slice A m c] w fun e w' => e = .returned (.tuple #[]) ∧ ∃ v', BkL w' base g (n + 1) hb (hi ++ [⟨A, c, m, n + 1, none, 0, 0⟩]) hl vb v' vl ∧ But (fun q => q = g ∨ vi.ownBlock = some q) w w' := by
  have hq := keepIntL_f g n base hb hi hl vb vi vl A m c w hk hn hL
  unfold pK at hq ⊢
  go_enter Tryz.func27, Tryz.ntmps27
  go_wp2_with fail
  refine hq.mono ?_
  rintro e w1 ⟨rfl, h⟩
  go_wp2_with fail
  go_end0
  exact ⟨rfl, h⟩

set_option maxRecDepth 100000 in
set_option maxHeartbeats 4000000 in
theorem keepIntListL_f (g n base : Nat) (hb hi hl : List Hd) (vb vi vl : Value) (A : Option Addr) (m c : Nat) (w : World) (hk : BkL w base g n hb hi hl vb vi vl) (hn : n ≤ 10000) (hL : hl.length ≤ 10000) :
    Calls Tryz.prog 44 #[pK g, .slice A m c] w fun e w' => e = .returned (.tuple #[]) ∧ ∃ v', BkL w' base g (n + 1) hb hi (hl ++ [⟨A, c, m, n + 1, none, 0, 0⟩]) vb vi v' ∧ But (fun q => q = g ∨ vl.ownBlock = some q) w w' := by
  obtain ⟨ti, hi2, hzz⟩ := Option.map_eq_some_iff.1 infoHL
  simp only [Prod.mk.injEq] at hzz
  obtain ⟨hz2, hsz2, hby2⟩ := hzz
  have hbs : base ≤ w.heap.size := Nat.le_trans hk.g (Nat.le_of_lt hk.b.lt)
  have b0 := hk.b.cell_ (i := 0) rfl
  have f0 := hk.b.frozen 0
  have hzero : (zeroValue 81).run Tryz.prog w = .ok (.agg #[.slice none 0 0, .slice none 0 0, .int .i64 0]) w := by kernel_rfl
  unfold pK
  go_enter Tryz.func44, Tryz.ntmps44
  go_upto_region 1 with fail
  have h0 : But (fun q => q = g ∨ vl.ownBlock = some q) w (w.setCell ⟨g, 0, none⟩ (.int .i64 ((n : Int) + 1))) := (But.refl _ _).setCell (.inl rfl) _
  have hS1 : But (fun q => q = g) w (w.setCell ⟨g, 0, none⟩ (.int .i64 ((n : Int) + 1))) := (But.refl (fun q => q = g) w).setCell (p := ⟨g, 0, none⟩) rfl _
  have bk : Blk (w.setCell ⟨g, 0, none⟩ (.int .i64 ((n : Int) + 1))) g 50 [.int .i64 ((n : Int) + 1), vb, vi, nilV, vl, nilV, nilV, nilV, nilV, nilV] := hk.b.set_ 0 _
  have hrow := hk.rl.but hS1 (fun k e e2 => hk.b.offRow hk.rl (by decide) (e2 ▸ e))
  have hother := hk.rb.but hS1 (fun k e e2 => hk.b.offRow hk.rb (by decide) (e2 ▸ e))
  have hog := hk.b.offRow hk.rb (by decide)
  have hoo := hk.rb.offRow hk.rl (by decide)
  have hothes := hk.ri.but hS1 (fun k e e2 => hk.b.offRow hk.ri (by decide) (e2 ▸ e))
  have hos := hk.b.offRow hk.ri (by decide)
  have hos2 := hk.ri.offRow hk.rl (by decide)
  have hbs : base ≤ (w.setCell ⟨g, 0, none⟩ (.int .i64 ((n : Int) + 1))).heap.size := Nat.le_trans hbs h0.size
  generalize w.setCell ⟨g, 0, none⟩ (.int .i64 ((n : Int) + 1)) = W at h0 bk hrow hother hothes hbs ⊢
  have e0 := bk.cell_ (i := 0) rfl
  clear b0 f0 hS1
  refine wp_region_noPanic ?_
  refine wp_region_held_drew (S := (fun w' => w'.cell? ⟨g, 0, none⟩ = some (.int .i64 ((n : Int) + 1)))) (by kernel_rfl) e0 (fun hS => ?_)
  have ky : Keep W W.drew := (Keep.refl _).drew
  replace bk := bk.keep ky
  replace hrow := hrow.keep ky
  generalize W.drew = v0 at ky hS bk hrow ⊢
  refine wpAnyH_take (i := 0) (v := ?_) rfl (by kernel_rfl) (by kernel_rfl) (by kernel_rfl) (fun _ _ _ h => h) (Or.inl ⟨by rfl, ?_⟩) hS ?_
  rotate_left
  · (intro w hSw; (try dsimp only at hSw); go_simp; (first | done | with_reducible rfl))
  change wpAnyH _ _ _ _ _ _ _ (Act.put _ (some 11) _) _
  simp only [Act.put, List.setIfInBounds_toArray, List.set_cons_zero, List.set_cons_succ]
  refine wpAnyH_take (i := 1) (v := ?_) rfl (by kernel_rfl) (by kernel_rfl) (by kernel_rfl) (fun _ _ _ h => h) (Or.inl ⟨by rfl, ?_⟩) hS ?_
  rotate_left
  · (intro w hSw; (try dsimp only at hSw); go_simp; (first | done | with_reducible rfl))
  change wpAnyH _ _ _ _ _ _ _ (Act.put _ (some 12) _) _
  simp only [Act.put, List.setIfInBounds_toArray, List.set_cons_zero, List.set_cons_succ]
  refine wpAnyH_take (i := 2) (v := ?_) rfl (by kernel_rfl) (by kernel_rfl) (by kernel_rfl) (fun _ _ _ h => h) (Or.inl ⟨by rfl, ?_⟩) hS ?_
  rotate_left
  · (intro w hSw; (try dsimp only at hSw); go_simp; (first | done | with_reducible rfl))
  change wpAnyH _ _ _ _ _ _ _ (Act.put _ (some 13) _) _
  simp only [Act.put, List.setIfInBounds_toArray, List.set_cons_zero, List.set_cons_succ]
  refine wpAnyH_take (i := 3) (v := ?_) rfl (by kernel_rfl) (by kernel_rfl) (by kernel_rfl) (fun _ _ _ h => h) (Or.inl ⟨by rfl, ?_⟩) hS ?_
  rotate_left
  · (intro w hSw; (try dsimp only at hSw); go_simp; (first | done | with_reducible rfl))
  change wpAnyH _ _ _ _ _ _ _ (Act.put _ (some 14) _) _
  simp only [Act.put, List.setIfInBounds_toArray, List.set_cons_zero, List.set_cons_succ]
  refine wpAnyH_take (i := 5) (v := ?_) rfl (by kernel_rfl) (by kernel_rfl) (by kernel_rfl) (fun _ _ _ h => h) (Or.inl ⟨by rfl, ?_⟩) hS ?_
  rotate_left
  · (intro w hSw; (try dsimp only at hSw); go_simp; (first | done | with_reducible rfl))
  change wpAnyH _ _ _ _ _ _ _ (Act.put _ (some 16) _) _
  simp only [Act.put, List.setIfInBounds_toArray, List.set_cons_zero, List.set_cons_succ]
  refine wpAnyH_take (i := 6) (v := ?_) rfl (by kernel_rfl) (by kernel_rfl) (by kernel_rfl) (fun _ _ _ h => h) (Or.inl ⟨by rfl, ?_⟩) hS ?_
  rotate_left
  · (intro w hSw; (try dsimp only at hSw); go_simp; (first | done | with_reducible rfl))
  change wpAnyH _ _ _ _ _ _ _ (Act.put _ (some 17) _) _
  simp only [Act.put, List.setIfInBounds_toArray, List.set_cons_zero, List.set_cons_succ]
  refine wpAnyH_take (i := 7) (v := ?_) rfl (by kernel_rfl) (by kernel_rfl) (by kernel_rfl) (fun _ _ _ h => h) (Or.inl ⟨by rfl, ?_⟩) hS ?_
  rotate_left
  · (intro w hSw; (try dsimp only at hSw); go_simp; (first | done | with_reducible rfl))
  change wpAnyH _ _ _ _ _ _ _ (Act.put _ (some 18) _) _
  simp only [Act.put, List.setIfInBounds_toArray, List.set_cons_zero, List.set_cons_succ]
  refine wpAnyH_take (i := 8) (v := ?_) rfl (by kernel_rfl) (by kernel_rfl) (by kernel_rfl) (fun _ _ _ h => h) (Or.inl ⟨by rfl, ?_⟩) hS ?_
  rotate_left
  · (intro w hSw; (try dsimp only at hSw); go_simp; (first | done | with_reducible rfl))
  change wpAnyH _ _ _ _ _ _ _ (Act.put _ (some 19) _) _
  simp only [Act.put, List.setIfInBounds_toArray, List.set_cons_zero, List.set_cons_succ]
  refine wpAnyH_take (i := 9) (v := ?_) rfl (by kernel_rfl) (by kernel_rfl) (by kernel_rfl) (fun _ _ _ h => h) (Or.inl ⟨by rfl, ?_⟩) hS ?_
  rotate_left
  · (intro w hSw; (try dsimp only at hSw); go_simp; (first | done | with_reducible rfl))
  change wpAnyH _ _ _ _ _ _ _ (Act.put _ (some 20) _) _
  simp only [Act.put, List.setIfInBounds_toArray, List.set_cons_zero, List.set_cons_succ]
  refine wpAnyH_take (i := 10) (v := ?_) rfl (by kernel_rfl) (by kernel_rfl) (by kernel_rfl) (fun _ _ _ h => h) (Or.inl ⟨by rfl, ?_⟩) hS ?_
  rotate_left
  · (intro w hSw; (try dsimp only at hSw); go_simp; (first | done | with_reducible rfl))
  change wpAnyH _ _ _ _ _ _ _ (Act.put _ (some 21) _) _
  simp only [Act.put, List.setIfInBounds_toArray, List.set_cons_zero, List.set_cons_succ]
  refine wpAnyH_ready (rs := [4, 11]) (by kernel_rfl) (by simp) ?_
  refine AllReadyH.cons rfl (fun K hK => ?_) ?_
  · have cq := bk.cell_ (i := 4) rfl
    go_simp
    refine hK.out _ _ hS (fun hS => ?_)
    clear hK K
    try simp only [Act.put, List.setIfInBounds_toArray, List.set_cons_zero, List.set_cons_succ]
    clear cq
    refine wpAnyH_ready (rs := [11]) (by kernel_rfl) (by simp) ?_
    refine AllReadyH.cons rfl (fun K hK => ?_) AllReadyH.nil
    go_simp
    have kn : Keep v0 (v0.alloc (.cells #[.slice A m c, .slice none 0 0, .int .i64 ((n : Int) + 1)] 81)) := Keep.alloc1 _ _
    have bN : Blk (v0.alloc (.cells #[.slice A m c, .slice none 0 0, .int .i64 ((n : Int) + 1)] 81)) v0.heap.size 81 [.slice A m c, .slice none 0 0, .int .i64 ((n : Int) + 1)] := Blk.new v0 _ _
    refine hK.out _ _ (kn.cell hS) (fun hS => ?_)
    clear hK K
    try simp only [Act.put, List.setIfInBounds_toArray, List.set_cons_zero, List.set_cons_succ]
    generalize (v0.alloc (.cells #[.slice A m c, .slice none 0 0, .int .i64 ((n : Int) + 1)] 81)) = v2 at bN kn hS ⊢
    generalize v0.heap.size = gN at bN ⊢
    replace bk := bk.keep kn
    replace hrow := hrow.keep kn
    replace ky := ky.trans kn
    clear kn
    refine wpAnyH_ready (rs := [12]) (by kernel_rfl) (by simp) ?_
    refine AllReadyH.cons rfl (fun K hK => ?_) AllReadyH.nil
    rw [if_pos (by rfl)]
    have hbs2 : base ≤ v2.heap.size := Nat.le_trans hbs ky.size
    have hoff := bk.offRow hrow (by decide)
    refine wp_append_own v2 (.tmp 15) (.tmp 22) 43 rfl base 81 ti _ 3 56 Tryz.underlying43 hi2 hz2 hsz2 hby2 rfl (by decide) vl hl.length _ rfl hrow ⟨gN, 0, none⟩ 1 1 [.slice A m c, .slice none 0 0, .int .i64 ((n : Int) + 1)] rfl rfl bN.rd.cells (by intro u hu; simp only [List.mem_cons, List.not_mem_nil, or_false] at hu; rcases hu with rfl | rfl | rfl <;> rfl) (by unfold maxLen; omega) (by omega) hbs2 ?_
    intro v' v3 hown hgrow _
    obtain ⟨A', c', rfl⟩ := ownsRow_val hown
    refine hK.out _ _ (hgrow.cell hS (fun e => hoff e.symm)) (fun hS => ?_)
    clear hK K
    change wpAnyH _ _ _ _ _ _ _ (Act.put _ (some 23) _) _
    try simp only [Act.put, List.setIfInBounds_toArray, List.set_cons_zero, List.set_cons_succ]
    have bk2 := bk.grown hgrow (fun e => hoff e.symm)
    have hW := (But.keep ky (fun q => q = g ∨ vl.ownBlock = some q)).grown hgrow (fun k e => .inr e)
    clear hrow bN hoff hbs2
    refine wpAnyH_take (i := 13) (v := ?_) rfl (by kernel_rfl) (by kernel_rfl) (by kernel_rfl) (fun _ _ _ h => h) (Or.inl ⟨by rfl, ?_⟩) hS ?_
    rotate_left
    · (intro w hSw; (try dsimp only at hSw); go_simp; (first | done | with_reducible rfl))
    change wpAnyH _ _ _ _ _ _ _ (Act.put _ (some 24) _) _
    simp only [Act.put, List.setIfInBounds_toArray, List.set_cons_zero, List.set_cons_succ]
    refine wpAnyH_take (i := 14) (v := ?_) rfl (by kernel_rfl) (by kernel_rfl) (by kernel_rfl) (fun _ _ _ h => h) (Or.inl ⟨by rfl, ?_⟩) hS ?_
    rotate_left
    · (intro w hSw; (try dsimp only at hSw); go_simp; (first | done | with_reducible rfl))
    change wpAnyH _ _ _ _ _ _ _ (Act.put _ (some 25) _) _
    simp only [Act.put, List.setIfInBounds_toArray, List.set_cons_zero, List.set_cons_succ]
    refine wpAnyH_ready (rs := [15]) (by kernel_rfl) (by simp) ?_
    refine AllReadyH.cons rfl (fun K hK => ?_) AllReadyH.nil
    have cq := bk2.cell_ (i := 4) rfl
    have fq := bk2.frozen 4
    go_simp
    refine hK.out _ _ ((World.cell?_setCell_other v3 ⟨g, 4, none⟩ ⟨g, 0, none⟩ _ (fun e => by injection e with _ e2; cases e2)).trans hS) (fun hS => ?_)
    clear hK K
    try simp only [Act.put, List.setIfInBounds_toArray]
    refine wpAnyH_done (by kernel_rfl) ?_ _
    refine NoPanic.normal ?_
    have bk3 := bk2.set_ 4 (.slice A' (hl.length + 1) c')
    have hW3 : But (fun q => q = g ∨ vl.ownBlock = some q) W (v3.setCell ⟨g, 4, none⟩ (.slice A' (hl.length + 1) c')) := hW.setCell (.inl rfl) _
    have hr3 : HRow v3 base 81 (.slice A' (hl.length + 1) c') (hl ++ [⟨A, c, m, n + 1, none, 0, 0⟩]) := by
      unfold HRow
      rw [List.length_append, cellsOf_append]
      exact hown
    have hr4 := hr3.but ((But.refl (fun q => q = g) _).setCell (p := ⟨g, 4, none⟩) rfl (.slice A' (hl.length + 1) c')) (fun k e e2 => bk2.offRow hr3 (by decide) (e2 ▸ e))
    have ho3 := hother.but hW3 (fun k e e2 => e2.elim (fun e3 => hog (e3 ▸ e)) (fun e3 => hoo k e e3))
    have ho4 := hothes.but hW3 (fun k e e2 => e2.elim (fun e3 => hos (e3 ▸ e)) (fun e3 => hos2 k e e3))
    have h0W := h0.trans hW3
    have HRES := Lib.hid (And.intro bk3 (And.intro hr4 (And.intro ho3 (And.intro ho4 h0W))))
    clear bk3 hr4 ho3 ho4 h0W hr3 hown hW3
    go_wp2_with fail
    go_end0
    exact ⟨rfl, _, ⟨HRES.out.1, HRES.out.2.2.1, HRES.out.2.2.2.1, HRES.out.2.1, hk.g⟩, HRES.out.2.2.2.2⟩
  refine AllReadyH.cons rfl (fun K hK => ?_) ?_
  · go_simp
    have kn : Keep v0 (v0.alloc (.cells #[.slice A m c, .slice none 0 0, .int .i64 ((n : Int) + 1)] 81)) := Keep.alloc1 _ _
    have bN : Blk (v0.alloc (.cells #[.slice A m c, .slice none 0 0, .int .i64 ((n : Int) + 1)] 81)) v0.heap.size 81 [.slice A m c, .slice none 0 0, .int .i64 ((n : Int) + 1)] := Blk.new v0 _ _
    refine hK.out _ _ (kn.cell hS) (fun hS => ?_)
    clear hK K
    try simp only [Act.put, List.setIfInBounds_toArray, List.set_cons_zero, List.set_cons_succ]
    generalize (v0.alloc (.cells #[.slice A m c, .slice none 0 0, .int .i64 ((n : Int) + 1)] 81)) = v5 at bN kn hS ⊢
    generalize v0.heap.size = gN at bN ⊢
    replace bk := bk.keep kn
    replace hrow := hrow.keep kn
    replace ky := ky.trans kn
    clear kn
    refine wpAnyH_ready (rs := [4]) (by kernel_rfl) (by simp) ?_
    refine AllReadyH.cons rfl (fun K hK => ?_) AllReadyH.nil
    have cq := bk.cell_ (i := 4) rfl
    go_simp
    refine hK.out _ _ hS (fun hS => ?_)
    clear hK K
    try simp only [Act.put, List.setIfInBounds_toArray, List.set_cons_zero, List.set_cons_succ]
    clear cq
    refine wpAnyH_ready (rs := [12]) (by kernel_rfl) (by simp) ?_
    refine AllReadyH.cons rfl (fun K hK => ?_) AllReadyH.nil
    rw [if_pos (by rfl)]
    have hbs2 : base ≤ v5.heap.size := Nat.le_trans hbs ky.size
    have hoff := bk.offRow hrow (by decide)
    refine wp_append_own v5 (.tmp 15) (.tmp 22) 43 rfl base 81 ti _ 3 56 Tryz.underlying43 hi2 hz2 hsz2 hby2 rfl (by decide) vl hl.length _ rfl hrow ⟨gN, 0, none⟩ 1 1 [.slice A m c, .slice none 0 0, .int .i64 ((n : Int) + 1)] rfl rfl bN.rd.cells (by intro u hu; simp only [List.mem_cons, List.not_mem_nil, or_false] at hu; rcases hu with rfl | rfl | rfl <;> rfl) (by unfold maxLen; omega) (by omega) hbs2 ?_
    intro v' v7 hown hgrow _
    obtain ⟨A', c', rfl⟩ := ownsRow_val hown
    refine hK.out _ _ (hgrow.cell hS (fun e => hoff e.symm)) (fun hS => ?_)
    clear hK K
    change wpAnyH _ _ _ _ _ _ _ (Act.put _ (some 23) _) _
    try simp only [Act.put, List.setIfInBounds_toArray, List.set_cons_zero, List.set_cons_succ]
    have bk2 := bk.grown hgrow (fun e => hoff e.symm)
    have hW := (But.keep ky (fun q => q = g ∨ vl.ownBlock = some q)).grown hgrow (fun k e => .inr e)
    clear hrow bN hoff hbs2
    refine wpAnyH_take (i := 13) (v := ?_) rfl (by kernel_rfl) (by kernel_rfl) (by kernel_rfl) (fun _ _ _ h => h) (Or.inl ⟨by rfl, ?_⟩) hS ?_
    rotate_left
    · (intro w hSw; (try dsimp only at hSw); go_simp; (first | done | with_reducible rfl))
    change wpAnyH _ _ _ _ _ _ _ (Act.put _ (some 24) _) _
    simp only [Act.put, List.setIfInBounds_toArray, List.set_cons_zero, List.set_cons_succ]
    refine wpAnyH_take (i := 14) (v := ?_) rfl (by kernel_rfl) (by kernel_rfl) (by kernel_rfl) (fun _ _ _ h => h) (Or.inl ⟨by rfl, ?_⟩) hS ?_
    rotate_left
    · (intro w hSw; (try dsimp only at hSw); go_simp; (first | done | with_reducible rfl))
    change wpAnyH _ _ _ _ _ _ _ (Act.put _ (some 25) _) _
    simp only [Act.put, List.setIfInBounds_toArray, List.set_cons_zero, List.set_cons_succ]
    refine wpAnyH_ready (rs := [15]) (by kernel_rfl) (by simp) ?_
    refine AllReadyH.cons rfl (fun K hK => ?_) AllReadyH.nil
    have cq := bk2.cell_ (i := 4) rfl
    have fq := bk2.frozen 4
    go_simp
    refine hK.out _ _ ((World.cell?_setCell_other v7 ⟨g, 4, none⟩ ⟨g, 0, none⟩ _ (fun e => by injection e with _ e2; cases e2)).trans hS) (fun hS => ?_)
    clear hK K
    try simp only [Act.put, List.setIfInBounds_toArray]
    refine wpAnyH_done (by kernel_rfl) ?_ _
    refine NoPanic.normal ?_
    have bk3 := bk2.set_ 4 (.slice A' (hl.length + 1) c')
    have hW3 : But (fun q => q = g ∨ vl.ownBlock = some q) W (v7.setCell ⟨g, 4, none⟩ (.slice A' (hl.length + 1) c')) := hW.setCell (.inl rfl) _
    have hr3 : HRow v7 base 81 (.slice A' (hl.length + 1) c') (hl ++ [⟨A, c, m, n + 1, none, 0, 0⟩]) := by
      unfold HRow
      rw [List.length_append, cellsOf_append]
      exact hown
    have hr4 := hr3.but ((But.refl (fun q => q = g) _).setCell (p := ⟨g, 4, none⟩) rfl (.slice A' (hl.length + 1) c')) (fun k e e2 => bk2.offRow hr3 (by decide) (e2 ▸ e))
    have ho3 := hother.but hW3 (fun k e e2 => e2.elim (fun e3 => hog (e3 ▸ e)) (fun e3 => hoo k e e3))
    have ho4 := hothes.but hW3 (fun k e e2 => e2.elim (fun e3 => hos (e3 ▸ e)) (fun e3 => hos2 k e e3))
    have h0W := h0.trans hW3
    have HRES := Lib.hid (And.intro bk3 (And.intro hr4 (And.intro ho3 (And.intro ho4 h0W))))
    clear bk3 hr4 ho3 ho4 h0W hr3 hown hW3
    go_wp2_with fail
    go_end0
    exact ⟨rfl, _, ⟨HRES.out.1, HRES.out.2.2.1, HRES.out.2.2.2.1, HRES.out.2.1, hk.g⟩, HRES.out.2.2.2.2⟩
  exact AllReadyH.nil
end Go.Proofs.YtbfldlokocpjaaaGreatDoor

namespace Go.Proofs.YtbfldlokocpjaaaGreatDoor
open Go.RowKit

/-- Lists as the Book holds them, numbered from n + 1. -/
def hdsOf (n : Nat) (ts : List Sl) : List Hd := ts.mapIdx fun i t => ⟨t.a, t.c, t.l.length, n + 1 + i, none, 0, 0⟩
theorem hdsOf_take {n k : Nat} {ts : List Sl} {t : Sl} (h : ts[k]? = some t) : hdsOf n (ts.take (k + 1)) = hdsOf n (ts.take k) ++ [⟨t.a, t.c, t.l.length, n + k + 1, none, 0, 0⟩] := by
  have hk := (List.getElem?_eq_some_iff.1 h).1
  unfold hdsOf
  rw [List.take_add_one, h, List.mapIdx_append]
  simp only [Option.toList, List.mapIdx_cons, List.mapIdx_nil, List.length_take]
  rw [Nat.min_eq_left (by omega), show n + 1 + (0 + k) = n + k + 1 by omega]
theorem length_hdsOf (n : Nat) (ts : List Sl) : (hdsOf n ts).length = ts.length := by unfold hdsOf; simp

theorem BkL.mono {w : World} {base b' g n : Nat} {hb hi hl : List Hd} {vb vi vl : Value} (h : BkL w base g n hb hi hl vb vi vl) (hb' : b' ≤ base) : BkL w b' g n hb hi hl vb vi vl := ⟨h.b, h.rb.mono hb', h.ri.mono hb', h.rl.mono hb', Nat.le_trans hb' h.g⟩
/-- A Book that is new. -/
theorem BkL.new (w : World) : BkL (w.alloc (.cells #[.int .i64 0, .slice none 0 0, .slice none 0 0, .slice none 0 0, .slice none 0 0, .slice none 0 0, .slice none 0 0, .slice none 0 0, .slice none 0 0, .slice none 0 0] 50)) w.heap.size w.heap.size 0 [] [] [] (.slice none 0 0) (.slice none 0 0) (.slice none 0 0) :=
  ⟨Blk.new w _ _, HRow.nil _ _ _, HRow.nil _ _ _, HRow.nil _ _ _, Nat.le_refl _⟩
section
variable {w0 w w' : World} {g n : Nat} {hb hi hl : List Hd} {vb vi vl : Value}
theorem BkL.stepB (hk : BkL w w0.heap.size g n hb hi hl vb vi vl) (kk : Keep w0 w) (h : But (fun q => q = g ∨ vb.ownBlock = some q) w w') : Keep w0 w' :=
  kk.but h fun q hq => hq.elim (fun e => e ▸ hk.g) (hk.rb.own_ge q)
theorem BkL.stepI (hk : BkL w w0.heap.size g n hb hi hl vb vi vl) (kk : Keep w0 w) (h : But (fun q => q = g ∨ vi.ownBlock = some q) w w') : Keep w0 w' :=
  kk.but h fun q hq => hq.elim (fun e => e ▸ hk.g) (hk.ri.own_ge q)
theorem BkL.stepL (hk : BkL w w0.heap.size g n hb hi hl vb vi vl) (kk : Keep w0 w) (h : But (fun q => q = g ∨ vl.ownBlock = some q) w w') : Keep w0 w' :=
  kk.but h fun q hq => hq.elim (fun e => e ▸ hk.g) (hk.rl.own_ge q)
end
theorem Blk.offMk {w : World} {g : Nat} {l l' : List Value} (h : Blk w g 50 l) (h' : Blk w g 25 l') : False := by
  unfold Blk at h h'
  rw [h] at h'
  injection h' with h'
  injection h' with _ ht
  exact absurd ht (by decide)
theorem HoldsL.of {w : World} {base : Nat} {hb hi hl : List Hd} (h1 : Held 5 w base hb) (h2 : Held 3 w base hi) (h3 : Held 22 w base hl) (l1 : hb.length ≤ 10000) (l2 : hi.length ≤ 10000) (l3 : hl.length ≤ 10000) : HoldsL w base hb hi hl :=
  ⟨h1.f, h2.f, h3.f, h1.aparts, h2.aparts, h3.aparts, h1.m, h2.m, fun h x => (h3.m h x).2, l1, l2, l3⟩

set_option maxRecDepth 100000 in
set_option maxHeartbeats 4000000 in
theorem bookListsL_f (g n : Nat) (hb hi hl : List Hd) (vb vi vl : Value) (A : Option Addr) (c : Nat) (ts : List Sl) (w0 w : World) (hk : BkL w w0.heap.size g n hb hi hl vb vi vl) (kk : Keep w0 w) (hr : Rd w0 A (ts.map Sl.val)) (hn : n + ts.length ≤ 9000) (hil : hi.length + ts.length ≤ 9000) (hll : hl.length ≤ 9000) :
    Calls Tryz.prog 20 #[pK g, .slice A ts.length c] w fun e w' => e = .returned (.tuple #[]) ∧ (∃ vi' vl', BkL w' w0.heap.size g (n + ts.length + 1) hb (hi ++ hdsOf n ts) (hl ++ [⟨A, c, ts.length, n + ts.length + 1, none, 0, 0⟩]) vb vi' vl') ∧ Keep w0 w' ∧ (∀ gA l, Blk w gA 25 l → Blk w' gA 25 l) := by
  unfold pK
  go_enter Tryz.func20, Tryz.ntmps20
  go_wp2_with fail
  go_loopw [4] (fun v wr => ∃ (k : Nat) (vi' : Value), k ≤ ts.length ∧ v = .int .i64 k ∧ BkL wr w0.heap.size g (n + k) hb (hi ++ hdsOf n (ts.take k)) hl vb vi' vl ∧ Keep w0 wr ∧ (∀ gA l, Blk w gA 25 l → Blk wr gA 25 l)) (fun v _ => ts.length - (intOf v).toNat)
  case atStart => exact ⟨0, vi, Nat.zero_le _, rfl, by rw [List.take_zero, Nat.add_zero]; unfold hdsOf; rw [List.mapIdx_nil, List.append_nil]; exact hk, kk, fun _ _ h => h⟩
  case round =>
    obtain ⟨k, vi', hkl, rfl, hbk, hkk, hmm⟩ := hrel
    have HM := Lib.hid hmm
    clear hmm
    by_cases hlt : k < ts.length
    · obtain ⟨b1, o1, ha, hc⟩ := (hr.keep hkk).at_ (j := k) (by rw [List.length_map]; exact hlt)
      obtain ⟨t, ht⟩ : ∃ t, ts[k]? = some t := ⟨_, List.getElem?_eq_getElem hlt⟩
      rw [List.getElem_map, (List.getElem?_eq_some_iff.1 ht).2] at hc
      unfold Sl.val at hc
      have hlen : (hi ++ hdsOf n (ts.take k)).length ≤ 10000 := by rw [List.length_append, length_hdsOf, List.length_take]; omega
      have hq := bookIntsL_f g (n + k) w0.heap.size hb (hi ++ hdsOf n (ts.take k)) hl vb vi' vl t.a t.l.length t.c wr hbk (by omega) hlen
      have HT := Lib.hid ht
      have HA := Lib.hid ha
      unfold pK at hq
      rw [ha]
      have hk0 : (0 : Int) ≤ k := by omega
      have hk1 : (k : Int) < ts.length := by omega
      clear ht ha hlen
      go_wp2_with fail
      refine hq.mono ?_
      rintro e w1 ⟨rfl, v', hb1, hbut⟩
      have hkk1 := hbk.stepI hkk hbut
      have HM1 := Lib.hid (fun gA l (h : Blk w gA 25 l) => (HM.out gA l h).but hbut (fun h' => h'.elim (fun e => hbk.b.offMk (e ▸ HM.out gA l h)) ((HM.out gA l h).offRow hbk.ri (by decide))))
      rw [List.append_assoc, ← hdsOf_take HT.out] at hb1
      clear hq hbut hbk
      go_wp2_with fail
      go_roundw
      case rel => exact ⟨k + 1, v', by omega, by go_num, hb1, hkk1, HM1.out⟩
      case measure => simp [intOf]; omega
    · obtain rfl : k = ts.length := by omega
      rw [List.take_of_length_le (Nat.le_refl _)] at hbk
      have hq := keepIntListL_f g (n + ts.length) w0.heap.size hb (hi ++ hdsOf n ts) hl vb vi' vl A ts.length c wr hbk (by omega) (by omega)
      unfold pK at hq
      go_wp2_with fail
      refine hq.mono ?_
      rintro e w1 ⟨rfl, v', hb1, hbut⟩
      have hkk1 := hbk.stepL hkk hbut
      have HM1 := Lib.hid (fun gA l (h : Blk w gA 25 l) => (HM.out gA l h).but hbut (fun h' => h'.elim (fun e => hbk.b.offMk (e ▸ HM.out gA l h)) ((HM.out gA l h).offRow hbk.rl (by decide))))
      clear hq hbut hbk
      go_wp2_with fail
      go_end0
      exact ⟨rfl, ⟨vi', v', hb1⟩, hkk1, HM1.out⟩

set_option maxRecDepth 100000 in
set_option maxHeartbeats 4000000 in
theorem bookMarketL_f (g n : Nat) (hb hi hl : List Hd) (vb vi vl : Value) (M : Mkt) (w0 w : World) (hk : BkL w w0.heap.size g n hb hi hl vb vi vl) (kk : Keep w0 w) (hr : Rd w0 M.ba (M.bs.map Sl.val)) (hn : n + M.bs.length ≤ 8000) (hil : hi.length + M.bs.length ≤ 8000) (hll : hl.length ≤ 8000) :
    Calls Tryz.prog 19 #[pK g, M.val] w fun e w' => e = .returned (.tuple #[]) ∧ (∃ vi' vl', BkL w' w0.heap.size g (n + M.bs.length + 3) hb (hi ++ [⟨M.r.a, M.r.c, M.r.l.length, n + 1, none, 0, 0⟩] ++ hdsOf (n + 1) M.bs ++ [⟨M.o.a, M.o.c, M.o.l.length, n + M.bs.length + 3, none, 0, 0⟩]) (hl ++ [⟨M.ba, M.bc, M.bs.length, n + M.bs.length + 2, none, 0, 0⟩]) vb vi' vl') ∧ Keep w0 w' := by
  unfold pK Mkt.val
  have bA := Blk.new w 25 [.slice M.r.a M.r.l.length M.r.c, .slice M.ba M.bs.length M.bc, .slice M.o.a M.o.l.length M.o.c]
  have k0 : Keep w (w.alloc (.cells #[.slice M.r.a M.r.l.length M.r.c, .slice M.ba M.bs.length M.bc, .slice M.o.a M.o.l.length M.o.c] 25)) := Keep.alloc1 _ _
  have hgA : g < w.heap.size := hk.b.lt
  go_enter Tryz.func19, Tryz.ntmps19
  go_upto_region 1 with fail
  replace hk := hk.keep k0
  replace kk := kk.trans k0
  change Code.wp _ _ _ _ (w.alloc (.cells #[.slice M.r.a M.r.l.length M.r.c, .slice M.ba M.bs.length M.bc, .slice M.o.a M.o.l.length M.o.c] 25))
  generalize hw1 : (w.alloc (.cells #[.slice M.r.a M.r.l.length M.r.c, .slice M.ba M.bs.length M.bc, .slice M.o.a M.o.l.length M.o.c] 25)) = w1 at bA hk kk k0 ⊢
  clear hw1
  generalize w.heap.size = gA at bA hgA ⊢
  clear k0
  have c0 := bA.cell_ (i := 0) rfl
  have hq := bookIntsL_f g n w0.heap.size hb hi hl vb vi vl M.r.a M.r.l.length M.r.c w1 hk (by omega) (by omega)
  unfold pK at hq
  go_wp2_with fail
  refine hq.mono ?_
  rintro e w2 ⟨rfl, v1, hb1, hbut⟩
  have kk1 := hk.stepI kk hbut
  have bA1 := bA.but hbut (fun h => h.elim (fun e => by omega) (bA.offRow hk.ri (by decide)))
  clear hq hbut hk kk bA c0
  have c1 := bA1.cell_ (i := 1) rfl
  have hq := bookListsL_f g (n + 1) hb (hi ++ [⟨M.r.a, M.r.c, M.r.l.length, n + 1, none, 0, 0⟩]) hl vb v1 vl M.ba M.bc M.bs w0 w2 hb1 kk1 hr (by omega) (by rw [List.length_append]; simp; omega) (by omega)
  unfold pK at hq
  go_wp2_with fail
  refine hq.mono ?_
  rintro e w3 ⟨rfl, ⟨v2, v3, hb2⟩, kk2, hmm⟩
  have bA2 := hmm gA _ bA1
  clear hq hmm bA1 hb1 kk1 c1
  have c2 := bA2.cell_ (i := 2) rfl
  have hq := bookIntsL_f g _ w0.heap.size hb _ _ vb v2 v3 M.o.a M.o.l.length M.o.c w3 hb2 (by omega) (by rw [List.length_append, List.length_append, length_hdsOf]; simp; omega)
  unfold pK at hq
  go_wp2_with fail
  refine hq.mono ?_
  rintro e w4 ⟨rfl, v4, hb3, hbut⟩
  have kk3 := hb2.stepI kk2 hbut
  rw [show n + 1 + M.bs.length + 1 = n + M.bs.length + 2 by omega] at hb3
  have HB := Lib.hid hb3
  clear hq hbut hb2 kk2 hb3 c2 bA2
  go_wp2_with fail
  go_end0
  exact ⟨rfl, ⟨v4, v3, HB.out⟩, kk3⟩
end Go.Proofs.YtbfldlokocpjaaaGreatDoor

namespace Go.Proofs.YtbfldlokocpjaaaGreatDoor
open Go.RowKit

/-- A market of the call's own: all its lists in rows apart. -/
structure OwnM (w : World) (base : Nat) (N : Mkt) : Prop where
  f : ∀ s ∈ N.r :: N.bs ++ [N.o], Fr 3 w base s.a s.l.length s.c (cs .i64 s.l)
  p : (N.r :: N.bs ++ [N.o]).Pairwise Sep
  b : Fr 22 w base N.ba N.bs.length N.bc (N.bs.map Sl.val)
theorem OwnM.keep {w w' : World} {base : Nat} {N : Mkt} (h : OwnM w base N) (hk : Keep w w') : OwnM w' base N := ⟨fun s hs => (h.f s hs).keep hk, h.p, h.b.keep hk⟩
theorem OwnM.mono {w : World} {base b' : Nat} {N : Mkt} (h : OwnM w base N) (hb : b' ≤ base) : OwnM w b' N := ⟨fun s hs => (h.f s hs).mono hb, h.p, h.b.mono hb⟩
theorem Blk.fr {w : World} {g n base : Nat} {e : TypeId} {vs : List Value} (h : Blk w g e vs) (hl : vs.length = n) (hb : base ≤ g) (hn : n ≤ maxLen) : Fr e w base (some ⟨g, 0, none⟩) n n vs :=
  ⟨hl, Nat.le_refl _, hn, .inr ⟨g, vs.toArray, rfl, hb, h, by simp [hl], by simp [← hl]⟩⟩
theorem Mkt.Own.own {w : World} {base : Nat} {N : Mkt} (h : N.Own base w) (hp : (N.r :: N.bs ++ [N.o]).Pairwise Sep) (hn : N.bs.length ≤ 1000000) : OwnM w base N := by
  obtain ⟨g, e1, e2, e3⟩ := h.g
  refine ⟨fun s hs => ?_, hp, ?_⟩
  · rcases List.mem_append.1 hs with hs | hs
    · rcases List.mem_cons.1 hs with hs | hs
      · exact hs ▸ h.r
      · exact h.b s hs
    · rw [List.mem_singleton] at hs
      exact hs ▸ h.o
  · rw [e1, h.c]
    exact e3.fr (by rw [List.length_map]) e2 (by unfold maxLen; omega)
theorem noM_own (w : World) (base : Nat) : OwnM w base noM := by
  refine ⟨fun s hs => ?_, ?_, Fr.empty _ _ _ _⟩
  · have : s = ⟨none, 0, []⟩ := by
      rcases List.mem_append.1 hs with hs | hs
      · rcases List.mem_cons.1 hs with hs | hs
        · exact hs
        · cases hs
      · rw [List.mem_singleton] at hs
        exact hs
    rw [this]
    exact Fr.empty _ _ _ _
  · refine List.Pairwise.cons (fun t _ k hk => ?_) (List.pairwise_singleton _ _)
    simp [noM, ownB] at hk
theorem noM_few : noM.Few := ⟨Nat.zero_le _, fun s h => (by cases h), Nat.zero_le _⟩

/-- What the laws look at of a market. -/
def Mkt.lists (N : Mkt) : List Int × List (List Int) × List Int := (N.r.l, bidsOf N.bs, N.o.l)
theorem sameM_of {M N : Mkt} (h : M.lists = N.lists) : sameM M N = true := by
  unfold Mkt.lists at h
  injection h with h1 h2
  injection h2 with h2 h3
  unfold sameM
  rw [h1, h2, h3, decide_eq_true rfl, decide_eq_true rfl, decide_eq_true rfl]
  rfl

/-- A slice as the Book holds it. -/
def Sl.hd (s : Sl) (m : Nat) : Hd := ⟨s.a, s.c, s.l.length, m, none, 0, 0⟩
theorem hdsOf_at {n i : Nat} {ts : List Sl} {h : Hd} (hh : (hdsOf n ts)[i]? = some h) : ∃ t, ts[i]? = some t ∧ h = t.hd (n + 1 + i) := by
  unfold hdsOf at hh
  rw [List.getElem?_mapIdx, Option.map_eq_some_iff] at hh
  obtain ⟨t, h1, h2⟩ := hh
  exact ⟨t, h1, h2.symm⟩
theorem hdsOf_mem {n : Nat} {ts : List Sl} {h : Hd} (hh : h ∈ hdsOf n ts) : ∃ t ∈ ts, ∃ m, m ≤ n + ts.length ∧ h = t.hd m := by
  obtain ⟨i, hi⟩ := List.getElem?_of_mem hh
  obtain ⟨t, h1, h2⟩ := hdsOf_at hi
  have := (List.getElem?_eq_some_iff.1 h1).1
  exact ⟨t, List.mem_of_getElem? h1, n + 1 + i, by omega, h2⟩
theorem hdsOf_pair {n : Nat} {ts : List Sl} (h : ts.Pairwise Sep) : (hdsOf n ts).Pairwise fun x y => ∀ k, ownB x.a x.c = some k → ownB y.a y.c ≠ some k := by
  rw [List.pairwise_iff_getElem] at h ⊢
  intro i j hi hj hij
  obtain ⟨t, h1, h2⟩ := hdsOf_at (List.getElem?_eq_getElem hi)
  obtain ⟨u, h3, h4⟩ := hdsOf_at (List.getElem?_eq_getElem hj)
  obtain ⟨l1, rfl⟩ := List.getElem?_eq_some_iff.1 h1
  obtain ⟨l2, rfl⟩ := List.getElem?_eq_some_iff.1 h3
  rw [h2, h4]
  exact h i j l1 l2 hij
/-- The market's lists of ints, as the Book holds them. -/
def Mkt.hds (N : Mkt) (n : Nat) : List Hd := [⟨N.r.a, N.r.c, N.r.l.length, n + 1, none, 0, 0⟩] ++ hdsOf (n + 1) N.bs ++ [⟨N.o.a, N.o.c, N.o.l.length, n + N.bs.length + 3, none, 0, 0⟩]
theorem OwnM.held {w : World} {base : Nat} {N : Mkt} (h : OwnM w base N) (fw : N.Few) {n : Nat} (hn : n + N.bs.length + 3 < 100000) : Held 3 w base (N.hds n) := by
  have hall : ∀ x ∈ N.hds n, ∃ s ∈ N.r :: N.bs ++ [N.o], ∃ m, m < 100000 ∧ s.l.length ≤ 1000000 ∧ x = s.hd m := by
    intro x hx
    unfold Mkt.hds at hx
    rcases List.mem_append.1 hx with hx | hx
    · rcases List.mem_append.1 hx with hx | hx
      · rw [List.mem_singleton] at hx
        exact ⟨N.r, by simp, n + 1, by omega, fw.r, hx⟩
      · obtain ⟨t, h1, m, h2, h3⟩ := hdsOf_mem hx
        exact ⟨t, by simp [h1], m, by omega, fw.b t h1, h3⟩
    · rw [List.mem_singleton] at hx
      exact ⟨N.o, by simp, _, hn, fw.o, hx⟩
  refine ⟨fun x hx => ?_, ?_, fun x hx => ?_⟩
  · obtain ⟨s, h1, m, h2, h3, rfl⟩ := hall x hx
    exact ⟨_, h.f s h1⟩
  · have hp := h.p
    rw [List.pairwise_append, List.pairwise_cons] at hp
    obtain ⟨⟨p1, p2⟩, _, p3⟩ := hp
    unfold Mkt.hds
    rw [List.pairwise_append, List.pairwise_append]
    refine ⟨⟨List.pairwise_singleton _ _, hdsOf_pair p2, fun x hx y hy => ?_⟩, List.pairwise_singleton _ _, fun x hx y hy => ?_⟩
    · rw [List.mem_singleton] at hx
      obtain ⟨t, h1, m, _, rfl⟩ := hdsOf_mem hy
      rw [hx]
      exact p1 t h1
    · rw [List.mem_singleton] at hy
      rw [hy]
      rcases List.mem_append.1 hx with hx | hx
      · rw [List.mem_singleton] at hx
        rw [hx]
        exact p3 N.r (by simp) N.o (by simp)
      · obtain ⟨t, h1, m, _, rfl⟩ := hdsOf_mem hx
        exact p3 t (by simp [h1]) N.o (by simp)
  · obtain ⟨s, h1, m, h2, h3, rfl⟩ := hall x hx
    exact ⟨h2, h3⟩
theorem Held.one {e : TypeId} {w : World} {base c n m : Nat} {A : Option Addr} {us : List Value} (f : Fr e w base A n c us) (hm : m < 100000) (hn : n ≤ 1000000) : Held e w base [⟨A, c, n, m, none, 0, 0⟩] := by
  refine ⟨fun x hx => ?_, List.pairwise_singleton _ _, fun x hx => ?_⟩
  · rw [List.mem_singleton] at hx
    subst hx
    exact ⟨us, f⟩
  · rw [List.mem_singleton] at hx
    subst hx
    exact ⟨hm, hn⟩
end Go.Proofs.YtbfldlokocpjaaaGreatDoor

namespace Go.Proofs.YtbfldlokocpjaaaGreatDoor
open Go.RowKit

/-- What Gains says: the lists, the error's number. -/
def gainsV (R : List Int) (B : List (List Int)) (O : List Int) : List (List Int) × Int := if chkM R B O = true then (gainsM R B, 0) else ([], 1)
/-- What Without says. -/
def outV (R : List Int) (B : List (List Int)) (O : List Int) (p : Int) : (List Int × List (List Int) × List Int) × Int :=
  if chkM R B O = true ∧ 0 ≤ p ∧ p < B.length then ((R, B.set p.toNat [], O), 0) else (([], [], []), 1)
/-- What Put says. -/
def putV (R : List Int) (B : List (List Int)) (O : List Int) : List Int × Int := if chkM R B O = true then (putM R B O, 0) else ([], 1)

/-- Lists of lists of the call's own. -/
structure OwnL (w : World) (base : Nat) (A : Option Addr) (c : Nat) (ss : List Sl) : Prop where
  f : Fr 22 w base A ss.length c (ss.map Sl.val)
  o : OwnAll w base ss
theorem OwnL.keep {w w' : World} {base c : Nat} {A : Option Addr} {ss : List Sl} (h : OwnL w base A c ss) (hk : Keep w w') : OwnL w' base A c ss := ⟨h.f.keep hk, h.o.keep hk⟩
theorem OwnL.mono {w : World} {base b' c : Nat} {A : Option Addr} {ss : List Sl} (h : OwnL w base A c ss) (hb : b' ≤ base) : OwnL w b' A c ss := ⟨h.f.mono hb, fun s hs => (h.o.1 s hs).mono hb, h.o.2⟩

theorem gains_u (M : Mkt) (w : World) (hM : M.Ok w) {V : List (List Int)} {r : Int} (hv : gainsV M.r.l (bidsOf M.bs) M.o.l = (V, r)) :
    Calls Tryz.prog 7 #[M.val] w fun e w' => ∃ (A : Option Addr) (c : Nat) (ss : List Sl), e = .returned (.tuple #[.slice A ss.length c, .int .i64 r]) ∧ InR .i64 w' A c ss ∧ bidsOf ss = V ∧ Short ss ∧ ss.length ≤ 8 ∧ OwnL w' w.heap.size A c ss ∧ Keep w w' := by
  unfold gainsV at hv
  cases hc : chkM M.r.l (bidsOf M.bs) M.o.l with
  | false =>
    rw [hc] at hv
    cases hv
    refine (gains_no M w hM hc).mono ?_
    rintro e w' ⟨rfl, kk⟩
    exact ⟨none, 0, [], rfl, ⟨Rd.nil _ _, Nat.le_refl _, Nat.zero_le _, fun s h => by cases h⟩, rfl, (fun s h => by cases h), Nat.zero_le _, ⟨Fr.empty _ _ _ _, (fun s h => by cases h), List.Pairwise.nil⟩, kk⟩
  | true =>
    rw [hc] at hv
    cases hv
    refine (gainsM_f M w hM).mono ?_
    intro e w' h
    unfold GainsP at h
    rw [if_pos hc] at h
    obtain ⟨g, ss, h1, h2, h3, h4, h5, h6, h7⟩ := h
    obtain ⟨m1, m2, m3, m4⟩ := chkM_facts hc
    have hl : ss.length ≤ 8 := by
      have := congrArg List.length h3
      rw [length_bids] at this
      simp [gainsM, bidsOf] at this m4
      omega
    refine ⟨_, _, ss, h1, h2, h3, fun s hs => ?_, hl, ⟨h5.fr_ (by rw [List.length_map]) h4 (by unfold maxLen; omega), h6⟩, h7⟩
    have hm : s.l ∈ bidsOf ss := List.mem_map.2 ⟨s, hs, rfl⟩
    rw [h3] at hm
    obtain ⟨b, _, e2⟩ := List.mem_map.1 hm
    rw [← e2, length_gainRow]
    omega
theorem without_u (M : Mkt) (p : Int) (w : World) (hM : M.Ok w) {V : List Int × List (List Int) × List Int} {r : Int} (hv : outV M.r.l (bidsOf M.bs) M.o.l p = (V, r)) :
    Calls Tryz.prog 9 #[M.val, .int .i64 p] w fun e w' => ∃ N : Mkt, e = .returned (.tuple #[N.val, .int .i64 r]) ∧ N.Ok w' ∧ N.lists = V ∧ N.Few ∧ N.bs.length ≤ 8 ∧ OwnM w' w.heap.size N ∧ Keep w w' := by
  unfold outV at hv
  by_cases h : chkM M.r.l (bidsOf M.bs) M.o.l = true ∧ 0 ≤ p ∧ p < (bidsOf M.bs).length
  · rw [if_pos h] at hv
    cases hv
    obtain ⟨hc, p0, p1⟩ := h
    rw [length_bids] at p1
    obtain ⟨n, rfl⟩ := Int.eq_ofNat_of_zero_le p0
    refine (without_yes M n w hM hc (by omega)).mono ?_
    rintro e w' ⟨N, h1, h2, h3, h4, h5, h6, h7, h8⟩
    have hck := chkM_out hc ⟨h3, h4, h5⟩
    have hl := (chkM_facts hck).2.2.2
    rw [length_bids] at hl
    refine ⟨N, h1, h2, ?_, chkM_few hck, hl, h6.own h7 (by omega), h8⟩
    unfold Mkt.lists
    rw [h3, h4, h5]
    rfl
  · rw [if_neg h] at hv
    cases hv
    have hno : Calls Tryz.prog 9 #[M.val, .int .i64 p] w fun e w' => e = .returned (.tuple #[zeroM, .int .i64 1]) ∧ Keep w w' := by
      cases hc : chkM M.r.l (bidsOf M.bs) M.o.l with
      | false => exact without_chk M p w hM hc
      | true =>
        by_cases p0 : p < 0
        · exact without_neg M p w hM hc p0
        · exact without_many M p w hM hc (by
            rw [length_bids] at h
            by_cases p1 : p < M.bs.length
            · exact absurd ⟨hc, by omega, p1⟩ h
            · omega)
    exact hno.mono fun e w' ⟨h1, kk⟩ => ⟨noM, h1, noM_ok _, rfl, noM_few, Nat.zero_le _, noM_own _ _, kk⟩
theorem mput_u (M : Mkt) (w : World) (hM : M.Ok w) {L : List Int} {r : Int} (hv : putV M.r.l (bidsOf M.bs) M.o.l = (L, r)) :
    Calls Tryz.prog 11 #[M.val] w fun e w' => ∃ A', e = .returned (.tuple #[.slice A' L.length L.length, .int .i64 r]) ∧ Fr 5 w' w.heap.size A' L.length L.length (cs .u8 L) ∧ L.length ≤ 400 ∧ Keep w w' := by
  unfold putV at hv
  cases hc : chkM M.r.l (bidsOf M.bs) M.o.l with
  | false =>
    rw [hc] at hv
    cases hv
    refine (mput_no M w hM hc).mono ?_
    rintro e w' ⟨rfl, kk⟩
    exact ⟨none, rfl, Fr.empty _ _ _ _, Nat.zero_le _, kk⟩
  | true =>
    rw [hc] at hv
    cases hv
    refine (mput_yes M w hM hc).mono ?_
    rintro e w' ⟨A', n, rfl, h1, h2, kk⟩
    exact ⟨A', h1, h2, putM_max hc, kk⟩
end Go.Proofs.YtbfldlokocpjaaaGreatDoor

namespace Go.Proofs.YtbfldlokocpjaaaGreatDoor
open Go.RowKit

theorem one_slh (s : Sl) : ∀ u ∈ [s.val], u.oneCell' = true := fun u hu => by
  rw [List.mem_singleton] at hu
  subst hu
  rfl
theorem gainRow_at (R b : List Int) {k : Nat} (h : k < R.length) : (gainRow R b)[k]? = some (gainAt R b k) := by simp [gainRow, h]
theorem gainsM_snoc {R : List Int} {bs : List Sl} {i : Nat} {s : Sl} (h : bs[i]? = some s) : gainsM R (bidsOf (bs.take (i + 1))) = gainsM R (bidsOf (bs.take i)) ++ [gainRow R s.l] := by
  rw [List.take_add_one, h]
  simp [gainsM, bidsOf]

set_option maxRecDepth 100000 in
set_option maxHeartbeats 8000000 in
theorem refGains_f (M : Mkt) (w : World) (hM : M.Ok w) {V : List (List Int)} {r : Int} (hv : gainsV M.r.l (bidsOf M.bs) M.o.l = (V, r)) :
    Calls Tryz.prog 8 #[M.val] w fun e w' => ∃ (A : Option Addr) (c : Nat) (ss : List Sl), e = .returned (.tuple #[.slice A ss.length c, .int .i64 r]) ∧ InR .i64 w' A c ss ∧ bidsOf ss = V ∧ Short ss ∧ Keep w w' := by
  have lr := hM.r.len.le
  have lb := hM.b.len.le
  have hck := fun w1 (k1 : Keep w w1) => refCheckM_f M w1 (hM.keep k1)
  unfold gainsV at hv
  unfold Mkt.val at hck ⊢
  have k0 : Keep w (w.alloc (.cells #[.slice M.r.a M.r.l.length M.r.c, .slice M.ba M.bs.length M.bc, .slice M.o.a M.o.l.length M.o.c] 25)) := Keep.alloc1 _ _
  have bM := Blk.new w 25 [.slice M.r.a M.r.l.length M.r.c, .slice M.ba M.bs.length M.bc, .slice M.o.a M.o.l.length M.o.c]
  cases hc : chkM M.r.l (bidsOf M.bs) M.o.l with
  | false =>
    rw [hc] at hck hv
    cases hv
    clear hc
    go_enter Tryz.func8, Tryz.ntmps8
    go_wp2_with fail
    refine (hck _ k0).mono ?_
    rintro e w1 ⟨rfl, k1⟩
    go_wp2_with fail
    go_ret2
    exact ⟨none, 0, [], rfl, ⟨Rd.nil _ _, Nat.le_refl _, Nat.zero_le _, (fun s h => by cases h)⟩, rfl, (fun s h => by cases h), k0.trans k1⟩
  | true =>
    rw [hc] at hck hv
    obtain ⟨m1, m2, m3, m4⟩ := chkM_facts hc
    obtain ⟨pr, pb⟩ := chkM_bids hc
    have PR := Lib.hid pr
    have PB := Lib.hid pb
    rw [length_bids] at m3 m4
    have HV := Lib.hid hv
    clear hc pr pb hv
    go_enter Tryz.func8, Tryz.ntmps8
    go_wp2_with fail
    have hq := hck _ k0
    change Calls _ _ _ (w.alloc (.cells #[.slice M.r.a M.r.l.length M.r.c, .slice M.ba M.bs.length M.bc, .slice M.o.a M.o.l.length M.o.c] 25)) _
    generalize w.alloc (.cells #[.slice M.r.a M.r.l.length M.r.c, .slice M.ba M.bs.length M.bc, .slice M.o.a M.o.l.length M.o.c] 25) = w0 at k0 bM hq ⊢
    generalize w.heap.size = gm at bM ⊢
    refine hq.mono ?_
    rintro e w1 ⟨rfl, k1⟩
    replace bM := bM.keep k1
    replace k0 := k0.trans k1
    have hM1 := hM.keep k0
    clear hck hq k1
    go_wp2_with fail
    obtain ⟨W1, hW1⟩ : ∃ x, x = w1 := ⟨_, rfl⟩
    subst hW1
    go_loopw [4, 5] (fun v u wr => ∃ (i : Nat) (A : Option Addr) (c : Nat) (ss : List Sl), i ≤ M.bs.length ∧ v = .slice A i c ∧ u = .int .i64 i ∧ Hid (bidsOf ss = gainsM M.r.l (bidsOf (M.bs.take i))) ∧ Hid (ss.length = i) ∧ Fr 22 wr W1.heap.size A i c (ss.map Sl.val) ∧ (∀ s ∈ ss, Fr 3 wr W1.heap.size s.a s.l.length s.c (cs .i64 s.l)) ∧ Keep W1 wr) (fun _ u _ => M.bs.length - (intOf u).toNat)
    case atStart => exact ⟨0, none, 0, [], Nat.zero_le _, rfl, rfl, Lib.hid rfl, Lib.hid rfl, Fr.empty _ _ _ _, (fun s h => by cases h), Keep.refl _⟩
    case round =>
      obtain ⟨i, A, c, ss, hi, rfl, rfl, hbd, hsl, hfr, hss, hk⟩ := hrel
      have HSS := Lib.hid hss
      clear hss
      have bR := bM.keep hk
      by_cases hlt : i < M.bs.length
      · obtain ⟨b1, o1, s, hba, hsk, hc1, hs⟩ := (hM1.keep hk).b.at_ hlt
        have hbb : s.l.length = 0 ∨ (s.l.length = M.r.l.length ∧ ∀ x ∈ s.l, 0 ≤ x ∧ x ≤ 1000000) := PB.out s.l (List.mem_map.2 ⟨s, List.mem_of_getElem? hsk, rfl⟩)
        have HBB := Lib.hid hbb
        have HSK := Lib.hid hsk
        have hsl8 : s.l.length ≤ 8 := by omega
        have p0 := bR.cell_ (i := 0) rfl
        have p1 := bR.cell_ (i := 1) rfl
        have hM2 := hM1.keep hk
        rw [hba] at p1
        clear hbb hsk hba
        have hi1 : (i : Int) < M.bs.length := by omega
        have hi0 : (0 : Int) ≤ i := by omega
        go_wp2_with fail
        obtain ⟨W2, hW2⟩ : ∃ x, x = wr := ⟨_, rfl⟩
        subst hW2
        go_loopw [6, 7] (fun v u wr => ∃ (k : Nat) (A2 : Option Addr) (c2 : Nat), k ≤ M.r.l.length ∧ v = .slice A2 k c2 ∧ u = .int .i64 k ∧ Fr 3 wr W2.heap.size A2 k c2 (cs .i64 ((gainRow M.r.l s.l).take k)) ∧ Keep W2 wr) (fun _ u _ => M.r.l.length - (intOf u).toNat)
        case atStart => exact ⟨0, none, 0, Nat.zero_le _, rfl, rfl, Fr.empty _ _ _ _, Keep.refl _⟩
        case round =>
          obtain ⟨k, A2, c2, hkr, rfl, rfl, f2, hk2⟩ := hrel
          by_cases hml : k < M.r.l.length
          · obtain ⟨br, or, y, hra, hym, hcy⟩ := hM2.r.rd.int_at hml
            have by_ := PR.out y (List.mem_of_getElem? hym)
            have HYM := Lib.hid hym
            rw [hra] at p0
            clear hra
            have hk0 : (0 : Int) ≤ k := by omega
            have hk1 : (k : Int) < M.r.l.length := by omega
            clear hym
            by_cases hbl : s.l.length = 0
            · have q0 := hk2.cell p0
              have q1 := hk2.cell p1
              have q2 := hk2.cell hc1
              have HG := Lib.hid (show (gainRow M.r.l s.l)[k]? = some (-1) by rw [gainRow_at _ _ hml, gainAt_no (by omega)])
              have e1 : ((s.l.length : Int) == 0) = true := by rw [hbl]; rfl
              have e2 : (s.l.length = 0) = True := eq_true hbl
              clear hbl p0 p1 hc1 hcy
              go_wp2_with (at_builtin; refine wpList_append_fr _ rfl _ _ 22 rfl W2.heap.size 3 (.int .i64 0) 8 Tryz.underlying22 infoInt rfl A2 k c2 _ rfl (f2.keep (Keep.alloc1 _ _)) (some ⟨wr.heap.size, 0, none⟩) 1 1 [.int .i64 (-1)] rfl rfl (Rd.one _ _ _) (one_int _ _) ?c1 ?c2 ?c3 ?_)
              case c1 => unfold maxLen; omega
              case c2 => omega
              case c3 => have := hk2.size; simp; omega
              intro A3 c3 v3 happ
              have k3 := happ.keep (hk2.alloc _) (f2.keep (Keep.alloc1 _ _))
              have f3 := happ.fr
              rw [cs_take_succ HG.out] at f3
              clear happ
              go_wp2_with fail
              go_roundw
              case rel => exact ⟨k + 1, A3, c3, by omega, rfl, by go_num, f3, k3⟩
              case measure => simp [intOf]; omega
            · have hls := (HBB.out.resolve_left hbl).1
              obtain ⟨b2, o2, x, hsa, hxm, hcx⟩ := hs.rd.int_at (j := k) (by omega)
              have bx := (HBB.out.resolve_left hbl).2 x (List.mem_of_getElem? hxm)
              have HG := Lib.hid (show (gainRow M.r.l s.l)[k]? = some (x - y) by rw [gainRow_at _ _ hml, gainAt_in (by omega) hxm HYM.out])
              rw [hsa] at hc1
              have KS : ∀ v, Keep W2 v → _ := fun v (K : Keep W2 v) => And.intro (K.cell p1) (And.intro (K.cell hc1) (And.intro (K.cell hcx) (And.intro (K.cell p0) (K.cell hcy))))
              have q0 := hk2.cell p0
              have q1 := hk2.cell p1
              have q2 := hk2.cell hc1
              have e1 : ((s.l.length : Int) == 0) = false := by rw [beq_eq_false_iff_ne]; omega
              have e2 : (s.l.length = 0) = False := eq_false hbl
              have hk3 : (k : Int) < s.l.length := by omega
              have jx : IntKind.i64.wrap (x - y) = x - y := IntWalk.i64_in _ (by omega)
              clear hbl p0 p1 hc1 hcy hcx hxm hsa hls
              go_upto_region 13 with fail
              clear q0 q1 q2
              refine wp_region_noPanic ?_
              refine wp_region_held_drew (S := (fun w' => w'.cell? ⟨gm, 1, none⟩ = some (.slice (some ⟨b1, o1, none⟩) M.bs.length M.bc) ∧ w'.cell? ⟨b1, o1 + i, none⟩ = some (.slice (some ⟨b2, o2, none⟩) s.l.length s.c) ∧ w'.cell? ⟨b2, o2 + k, none⟩ = some (.int .i64 x) ∧ w'.cell? ⟨gm, 0, none⟩ = some (.slice (some ⟨br, or, none⟩) M.r.l.length M.r.c) ∧ w'.cell? ⟨br, or + k, none⟩ = some (.int .i64 y))) (by kernel_rfl) (KS _ hk2.drew) (fun hS => ?_)
              have kz := hk2.drew
              replace f2 := f2.keep (Keep.refl wr).drew
              generalize wr.drew = v0 at hS kz f2 ⊢
              refine wpAnyH_take (i := 0) (v := ?_) rfl (by kernel_rfl) (by kernel_rfl) (by kernel_rfl) (fun _ _ _ h => h) (Or.inl ⟨by rfl, ?_⟩) hS ?_
              rotate_left
              · (intro w hSw; (try dsimp only at hSw); go_simp; (first | done | with_reducible rfl))
              change wpAnyH _ _ _ _ _ _ _ (Act.put _ (some 35) _) _
              simp only [Act.put, List.setIfInBounds_toArray, List.set_cons_zero, List.set_cons_succ]
              refine wpAnyH_take (i := 1) (v := ?_) rfl (by kernel_rfl) (by kernel_rfl) (by kernel_rfl) (fun _ _ _ h => h) (Or.inl ⟨by rfl, ?_⟩) hS ?_
              rotate_left
              · (intro w hSw; (try dsimp only at hSw); go_simp; (first | done | with_reducible rfl))
              change wpAnyH _ _ _ _ _ _ _ (Act.put _ (some 36) _) _
              simp only [Act.put, List.setIfInBounds_toArray, List.set_cons_zero, List.set_cons_succ]
              refine wpAnyH_take (i := 2) (v := ?_) rfl (by kernel_rfl) (by kernel_rfl) (by kernel_rfl) (fun _ _ _ h => h) (Or.inl ⟨by rfl, ?_⟩) hS ?_
              rotate_left
              · (intro w hSw; (try dsimp only at hSw); go_simp; (first | done | with_reducible rfl))
              change wpAnyH _ _ _ _ _ _ _ (Act.put _ (some 37) _) _
              simp only [Act.put, List.setIfInBounds_toArray, List.set_cons_zero, List.set_cons_succ]
              refine wpAnyH_take (i := 3) (v := ?_) rfl (by kernel_rfl) (by kernel_rfl) (by kernel_rfl) (fun _ _ _ h => h) (Or.inl ⟨by rfl, ?_⟩) hS ?_
              rotate_left
              · (intro w hSw; (try dsimp only at hSw); go_simp; (first | done | with_reducible rfl))
              change wpAnyH _ _ _ _ _ _ _ (Act.put _ (some 38) _) _
              simp only [Act.put, List.setIfInBounds_toArray, List.set_cons_zero, List.set_cons_succ]
              refine wpAnyH_take (i := 4) (v := ?_) rfl (by kernel_rfl) (by kernel_rfl) (by kernel_rfl) (fun _ _ _ h => h) (Or.inl ⟨by rfl, ?_⟩) hS ?_
              rotate_left
              · (intro w hSw; (try dsimp only at hSw); go_simp; (first | done | with_reducible rfl))
              change wpAnyH _ _ _ _ _ _ _ (Act.put _ (some 39) _) _
              simp only [Act.put, List.setIfInBounds_toArray, List.set_cons_zero, List.set_cons_succ]
              refine wpAnyH_take (i := 5) (v := ?_) rfl (by kernel_rfl) (by kernel_rfl) (by kernel_rfl) (fun _ _ _ h => h) (Or.inl ⟨by rfl, ?_⟩) hS ?_
              rotate_left
              · (intro w hSw; (try dsimp only at hSw); go_simp; (first | done | with_reducible rfl))
              change wpAnyH _ _ _ _ _ _ _ (Act.put _ (some 40) _) _
              simp only [Act.put, List.setIfInBounds_toArray, List.set_cons_zero, List.set_cons_succ]
              refine wpAnyH_take (i := 6) (v := ?_) rfl (by kernel_rfl) (by kernel_rfl) (by kernel_rfl) (fun _ _ _ h => h) (Or.inl ⟨by rfl, ?_⟩) hS ?_
              rotate_left
              · (intro w hSw; (try dsimp only at hSw); go_simp; (first | done | with_reducible rfl))
              change wpAnyH _ _ _ _ _ _ _ (Act.put _ (some 41) _) _
              simp only [Act.put, List.setIfInBounds_toArray, List.set_cons_zero, List.set_cons_succ]
              refine wpAnyH_take (i := 7) (v := ?_) rfl (by kernel_rfl) (by kernel_rfl) (by kernel_rfl) (fun _ _ _ h => h) (Or.inl ⟨by rfl, ?_⟩) hS ?_
              rotate_left
              · (intro w hSw; (try dsimp only at hSw); go_simp; (first | done | with_reducible rfl))
              change wpAnyH _ _ _ _ _ _ _ (Act.put _ (some 42) _) _
              simp only [Act.put, List.setIfInBounds_toArray, List.set_cons_zero, List.set_cons_succ]
              refine wpAnyH_take (i := 8) (v := ?_) rfl (by kernel_rfl) (by kernel_rfl) (by kernel_rfl) (fun _ _ _ h => h) (Or.inl ⟨by rfl, ?_⟩) hS ?_
              rotate_left
              · (intro w hSw; (try dsimp only at hSw); go_simp; (first | done | with_reducible rfl))
              change wpAnyH _ _ _ _ _ _ _ (Act.put _ (some 43) _) _
              simp only [Act.put, List.setIfInBounds_toArray, List.set_cons_zero, List.set_cons_succ]
              refine wpAnyH_take (i := 9) (v := ?_) rfl (by kernel_rfl) (by kernel_rfl) (by kernel_rfl) (fun _ _ _ h => h) (Or.inl ⟨by rfl, ?_⟩) hS ?_
              rotate_left
              · (intro w hSw; (try dsimp only at hSw); go_simp; (first | done | with_reducible rfl))
              change wpAnyH _ _ _ _ _ _ _ (Act.put _ (some 44) _) _
              simp only [Act.put, List.setIfInBounds_toArray, List.set_cons_zero, List.set_cons_succ]
              refine wpAnyH_take (i := 10) (v := ?_) rfl (by kernel_rfl) (by kernel_rfl) (by kernel_rfl) (fun _ _ _ h => h) (Or.inl ⟨by rfl, ?_⟩) hS ?_
              rotate_left
              · (intro w hSw; (try dsimp only at hSw); go_simp; (first | done | with_reducible rfl))
              change wpAnyH _ _ _ _ _ _ _ (Act.put _ (some 45) _) _
              simp only [Act.put, List.setIfInBounds_toArray, List.set_cons_zero, List.set_cons_succ]
              refine wpAnyH_take (i := 11) (v := ?_) rfl (by kernel_rfl) (by kernel_rfl) (by kernel_rfl) (fun _ _ _ h => h) (Or.inl ⟨by rfl, ?_⟩) hS ?_
              rotate_left
              · (intro w hSw; (try dsimp only at hSw); go_simp; (first | done | with_reducible rfl))
              change wpAnyH _ _ _ _ _ _ _ (Act.put _ (some 46) _) _
              simp only [Act.put, List.setIfInBounds_toArray, List.set_cons_zero, List.set_cons_succ]
              refine wpAnyH_take (i := 12) (v := ?_) rfl (by kernel_rfl) (by kernel_rfl) (by kernel_rfl) (fun _ _ _ h => h) (Or.inl ⟨by rfl, ?_⟩) hS ?_
              rotate_left
              · (intro w hSw; (try dsimp only at hSw); go_simp; (first | done | with_reducible rfl))
              change wpAnyH _ _ _ _ _ _ _ (Act.put _ (some 47) _) _
              simp only [Act.put, List.setIfInBounds_toArray, List.set_cons_zero, List.set_cons_succ]
              refine wpAnyH_take (i := 13) (v := ?_) rfl (by kernel_rfl) (by kernel_rfl) (by kernel_rfl) (fun _ _ _ h => h) (Or.inl ⟨by rfl, ?_⟩) hS ?_
              rotate_left
              · (intro w hSw; (try dsimp only at hSw); go_simp; (first | done | with_reducible rfl))
              change wpAnyH _ _ _ _ _ _ _ (Act.put _ (some 48) _) _
              simp only [Act.put, List.setIfInBounds_toArray, List.set_cons_zero, List.set_cons_succ]
              refine wpAnyH_take (i := 14) (v := ?_) rfl (by kernel_rfl) (by kernel_rfl) (by kernel_rfl) (fun _ _ _ h => h) (Or.inl ⟨by rfl, ?_⟩) hS ?_
              rotate_left
              · (intro w hSw; (try dsimp only at hSw); go_simp; (first | done | with_reducible rfl))
              change wpAnyH _ _ _ _ _ _ _ (Act.put _ (some 49) _) _
              simp only [Act.put, List.setIfInBounds_toArray, List.set_cons_zero, List.set_cons_succ]
              refine wpAnyH_ready (rs := [15]) (by kernel_rfl) (by simp) ?_
              refine AllReadyH.cons rfl (fun K hK => ?_) AllReadyH.nil
              go_simp
              have kn : Keep v0 (v0.alloc (.cells #[.int .i64 (x - y)] 3)) := Keep.alloc1 _ _
              have rb := Rd.one v0 (.int .i64 (x - y)) 3
              refine hK.out _ _ (KS _ (kz.trans kn)) (fun hS => ?_)
              clear hK K
              try simp only [Act.put, List.setIfInBounds_toArray, List.set_cons_zero, List.set_cons_succ]
              refine wpAnyH_ready (rs := [16]) (by kernel_rfl) (by simp) ?_
              refine AllReadyH.cons rfl (fun K hK => ?_) AllReadyH.nil
              rw [if_pos (by rfl)]
              refine wp_append_fr _ (.tmp 35) (.tmp 50) 22 rfl W2.heap.size 3 (.int .i64 0) 8 Tryz.underlying22 infoInt rfl A2 k c2 _ rfl (f2.keep kn) (some ⟨v0.heap.size, 0, none⟩) 1 1 [.int .i64 (x - y)] rfl rfl rb (one_int _ _) ?g1 ?g2 ?g3 ?_
              case g1 => unfold maxLen; omega
              case g2 => omega
              case g3 => exact (kz.trans kn).size
              intro A3 c3 v3 happ
              have k3 := happ.keep (kz.trans kn) (f2.keep kn)
              have f3 := happ.fr
              rw [cs_take_succ HG.out] at f3
              clear happ
              refine hK.out _ _ (KS _ k3) (fun hS => ?_)
              clear hK K
              change wpAnyH _ _ _ _ _ _ _ (Act.put _ (some 51) _) _
              try simp only [Act.put, List.setIfInBounds_toArray, List.set_cons_zero, List.set_cons_succ]
              refine wpAnyH_take (i := 17) (v := ?_) rfl (by kernel_rfl) (by kernel_rfl) (by kernel_rfl) (fun _ _ _ h => h) (Or.inl ⟨by rfl, ?_⟩) hS ?_
              rotate_left
              · (intro w hSw; (try dsimp only at hSw); go_simp; (first | done | with_reducible rfl))
              change wpAnyH _ _ _ _ _ _ _ (Act.put _ (some 6) _) _
              simp only [Act.put, List.setIfInBounds_toArray, List.set_cons_zero, List.set_cons_succ]
              refine wpAnyH_done (by kernel_rfl) ?_ _
              refine NoPanic.normal ?_
              go_wp2_with fail
              go_roundw
              case rel => exact ⟨k + 1, A3, c3, by omega, rfl, by go_num, f3, k3⟩
              case measure => simp [intOf]; omega
          · obtain rfl : k = M.r.l.length := by omega
            rw [List.take_of_length_le (by rw [length_gainRow]; exact Nat.le_refl _)] at f2
            have q0 := hk2.cell p0
            have fB := hfr.keep hk2
            have hb2 : W1.heap.size ≤ W2.heap.size := hk.size
            have HSS2 := Lib.hid (fun s' (h : s' ∈ ss) => (HSS.out s' h).keep hk2)
            replace f2 := f2.mono hb2
            have kW := hk.trans hk2
            clear p0 p1 hc1 hk2
            go_wp2_with (at_builtin; refine wpList_append_fr _ rfl _ _ 23 rfl W1.heap.size 22 (.slice none 0 0) 24 Tryz.underlying23 infoInts rfl A i c _ rfl (fB.keep (Keep.alloc1 _ _)) (some ⟨wr.heap.size, 0, none⟩) 1 1 [.slice A2 M.r.l.length c2] rfl rfl (Rd.one _ _ _) (fun u hu => by rw [List.mem_singleton] at hu; subst hu; rfl) ?c1 ?c2 ?c3 ?_)
            case c1 => unfold maxLen; omega
            case c2 => omega
            case c3 => have := kW.size; simp; omega
            intro A3 c3 v3 happ
            have ka := Keep.alloc1 wr (.cells #[.slice A2 M.r.l.length c2] 22)
            have fBa := fB.keep ka
            have offI : ∀ {A : Option Addr} {n c : Nat} {vs : List Value}, Fr 3 wr W1.heap.size A n c vs → Fr 3 v3 W1.heap.size A n c vs := fun h => (h.keep ka).grown happ.2.1 fun q hq e => Fr.offtype (h.keep ka) fBa (by decide) q hq e
            have f22 := offI f2
            have hs2 : ∀ s' ∈ ss ++ [(⟨A2, c2, gainRow M.r.l s.l⟩ : Sl)], Fr 3 v3 W1.heap.size s'.a s'.l.length s'.c (cs .i64 s'.l) := fun s' h => by
              rcases List.mem_append.1 h with h | h
              · exact offI (HSS2.out s' h)
              · rw [List.mem_singleton] at h
                subst h
                simp only [length_gainRow]
                exact f22
            have k3 := happ.keep (kW.trans ka) fBa
            have f3 := happ.fr
            have hm1 : ss.map Sl.val ++ [.slice A2 M.r.l.length c2] = (ss ++ [(⟨A2, c2, gainRow M.r.l s.l⟩ : Sl)]).map Sl.val := by rw [List.map_append]; simp [Sl.val, length_gainRow]
            rw [hm1] at f3
            have HB := Lib.hid (show bidsOf (ss ++ [(⟨A2, c2, gainRow M.r.l s.l⟩ : Sl)]) = gainsM M.r.l (bidsOf (M.bs.take (i + 1))) by rw [gainsM_snoc HSK.out, ← hbd.out]; simp [bidsOf])
            have HL := Lib.hid (show (ss ++ [(⟨A2, c2, gainRow M.r.l s.l⟩ : Sl)]).length = i + 1 by rw [List.length_append, hsl.out]; rfl)
            have HS2 := Lib.hid hs2
            clear happ hm1 hs2 offI fBa ka f2 f22
            go_wp2_with fail
            go_roundw
            case rel => exact ⟨i + 1, A3, c3, ss ++ [⟨A2, c2, gainRow M.r.l s.l⟩], by omega, rfl, by go_num, HB, HL, f3, HS2.out, k3⟩
            case measure => simp [intOf]; omega
      · obtain rfl : i = M.bs.length := by omega
        have p1 := bR.cell_ (i := 1) rfl
        go_wp2_with fail
        go_ret2
        have hv := HV.out
        simp only [if_true, Prod.mk.injEq] at hv
        obtain ⟨rfl, rfl⟩ := hv
        have hb := hbd.out
        rw [List.take_length] at hb
        refine ⟨A, c, ss, by rw [hsl.out]; rfl, ⟨hfr.rd, by rw [hsl.out]; exact hfr.cap, hfr.capMax, fun s' hs' => ?_⟩, hb, fun s' hs' => ?_, k0.trans hk⟩
        · have hf := HSS.out s' hs'
          refine ⟨⟨hf.rd, hf.cap, hf.capMax, fun x hx => ?_⟩, hf.capNil⟩
          have hm : s'.l ∈ bidsOf ss := List.mem_map.2 ⟨s', hs', rfl⟩
          rw [hb] at hm
          obtain ⟨b, hbm, e2⟩ := List.mem_map.1 hm
          rw [← e2] at hx
          have := gainRow_bd PR.out (PB.out b hbm) x hx
          exact WalkArith.wf_i64 (by omega)
        · have hm : s'.l ∈ bidsOf ss := List.mem_map.2 ⟨s', hs', rfl⟩
          rw [hb] at hm
          obtain ⟨b, hbm, e2⟩ := List.mem_map.1 hm
          rw [← e2, length_gainRow]
          omega

set_option maxRecDepth 100000 in
set_option maxHeartbeats 8000000 in
theorem refPutM_f (M : Mkt) (w : World) (hM : M.Ok w) {L : List Int} {r : Int} (hv : putV M.r.l (bidsOf M.bs) M.o.l = (L, r)) :
    Calls Tryz.prog 12 #[M.val] w fun e w' => ∃ (A : Option Addr) (c : Nat), e = .returned (.tuple #[.slice A L.length c, .int .i64 r]) ∧ Rd w' A (cs .u8 L) ∧ Keep w w' := by
  have lr := hM.r.len.le
  have lb := hM.b.len.le
  have hck := fun w1 (k1 : Keep w w1) => refCheckM_f M w1 (hM.keep k1)
  unfold putV at hv
  unfold Mkt.val at hck ⊢
  have k0 : Keep w (w.alloc (.cells #[.slice M.r.a M.r.l.length M.r.c, .slice M.ba M.bs.length M.bc, .slice M.o.a M.o.l.length M.o.c] 25)) := Keep.alloc1 _ _
  have bM := Blk.new w 25 [.slice M.r.a M.r.l.length M.r.c, .slice M.ba M.bs.length M.bc, .slice M.o.a M.o.l.length M.o.c]
  cases hc : chkM M.r.l (bidsOf M.bs) M.o.l with
  | false =>
    rw [hc] at hck hv
    cases hv
    clear hc
    go_enter Tryz.func12, Tryz.ntmps12
    go_wp2_with fail
    refine (hck _ k0).mono ?_
    rintro e w1 ⟨rfl, k1⟩
    go_wp2_with fail
    go_ret2
    exact ⟨none, 0, rfl, Rd.nil _ _, k0.trans k1⟩
  | true =>
    rw [hc] at hck hv
    obtain ⟨m1, m2, m3, m4⟩ := chkM_facts hc
    rw [length_bids] at m3 m4
    have HV := Lib.hid hv
    clear hc hv
    go_enter Tryz.func12, Tryz.ntmps12
    go_wp2_with fail
    have hq := hck _ k0
    change Calls _ _ _ (w.alloc (.cells #[.slice M.r.a M.r.l.length M.r.c, .slice M.ba M.bs.length M.bc, .slice M.o.a M.o.l.length M.o.c] 25)) _
    generalize w.alloc (.cells #[.slice M.r.a M.r.l.length M.r.c, .slice M.ba M.bs.length M.bc, .slice M.o.a M.o.l.length M.o.c] 25) = w0 at k0 bM hq ⊢
    generalize w.heap.size = gm at bM ⊢
    refine hq.mono ?_
    rintro e w1 ⟨rfl, k1⟩
    replace bM := bM.keep k1
    replace k0 := k0.trans k1
    have hM1 := hM.keep k0
    clear hck hq k1
    have d0 := bM.cell_ (i := 0) rfl
    have hq1 := refPutList_f none 0 [] M.r.a M.r.c M.r.l w1 (Rd.nil _ _) (by simp) hM1.r.rd hM.r.inn.cap (by have := hM.r.inn.capI; unfold Len; omega)
    obtain ⟨P1, hP1, hl1⟩ : ∃ P1, P1 = putL (M.r.l.take 255) ∧ P1.length ≤ 1021 := ⟨_, rfl, by rw [length_putL, List.length_take]; omega⟩
    rw [List.nil_append, ← hP1] at hq1
    have h0 : P1 ++ le M.bs.length (clampB 1) = putMk M.r.l M.bs 0 := by
      rw [hP1]
      show _ = putL (M.r.l.take 255) ++ le M.bs.length 1 ++ []
      rw [List.append_nil]
      rfl
    have HP1 := Lib.hid hP1
    clear hP1
    go_wp2_with fail
    refine hq1.mono ?_
    rintro e w2 ⟨A2, c2, rfl, f2, k2⟩
    clear hq1 d0
    replace bM := bM.keep k2
    replace k0 := k0.trans k2
    have d1 := bM.cell_ (i := 1) rfl
    have hu : IntKind.u64.wrap (M.bs.length : Int) = M.bs.length := u64_wrap8 m4
    have hq2 := refPut_r A2 c2 P1 M.bs.length 1 w2 f2.rd (by omega) (by omega)
    rw [h0] at hq2
    clear h0
    go_wp2_with fail
    refine hq2.mono ?_
    rintro e w3 ⟨A3, c3, rfl, f3, k3⟩
    clear hq2 d1 hu
    replace bM := bM.keep k3
    replace k0 := k0.trans k3
    have hM3 := hM.keep k0
    go_wp2_with fail
    obtain ⟨W, hW⟩ : ∃ W, W = w3 := ⟨_, rfl⟩
    subst hW
    go_loopw [4, 5] (fun v i wr => ∃ (k : Nat) (A' : Option Addr) (c' : Nat), k ≤ M.bs.length ∧ i = .int .i64 k ∧ v = .slice A' (putMk M.r.l M.bs k).length c' ∧ Rd wr A' (cs .u8 (putMk M.r.l M.bs k)) ∧ Keep W wr) (fun _ i _ => M.bs.length - (intOf i).toNat)
    case atStart => exact ⟨0, A3, c3, Nat.zero_le _, rfl, rfl, f3.rd, Keep.refl _⟩
    case round =>
      obtain ⟨k, A', c', hk, rfl, rfl, hrd, hkeep⟩ := hrel
      have hlk := length_putMk M.r.l M.bs k
      have bR := bM.keep hkeep
      have d1 := bR.cell_ (i := 1) rfl
      by_cases hlt : k < M.bs.length
      · obtain ⟨b1, o1, s, hba, hsk, hc1, hs⟩ := (hM3.b.keep hkeep).at_ hlt
        have hp := refPutList_f A' c' (putMk M.r.l M.bs k) s.a s.c s.l wr hrd (by omega) hs.rd hs.inn.cap (by have := hs.inn.capI; unfold Len; omega)
        rw [putMk_succ hsk] at hp
        rw [hba] at d1
        clear hba
        have hi1 : (k : Int) < M.bs.length := by omega
        have hi0 : (0 : Int) ≤ k := by omega
        clear hsk hlk
        go_wp2_with fail
        refine hp.mono ?_
        rintro e w5 ⟨A5, c5, rfl, f5, k5⟩
        go_wp2_with fail
        go_roundw
        case rel => exact ⟨k + 1, A5, c5, by omega, by go_num, rfl, f5.rd, hkeep.trans k5⟩
        case measure => simp [intOf]; omega
      · obtain rfl : k = M.bs.length := by omega
        have hMr := hM3.keep hkeep
        have hp := refPutList_f A' c' (putMk M.r.l M.bs M.bs.length) M.o.a M.o.c M.o.l wr hrd (by omega) hMr.o.rd hM.o.inn.cap (by have := hM.o.inn.capI; unfold Len; omega)
        rw [putMk_all] at hp
        have d2 := bR.cell_ (i := 2) rfl
        clear hlk
        go_wp2_with fail
        refine hp.mono ?_
        rintro e w5 ⟨A5, c5, rfl, f5, k5⟩
        go_wp2_with fail
        go_ret2
        have hv := HV.out
        simp only [if_true, Prod.mk.injEq] at hv
        obtain ⟨rfl, rfl⟩ := hv
        exact ⟨A5, c5, rfl, f5.rd, (k0.trans hkeep).trans k5⟩
end Go.Proofs.YtbfldlokocpjaaaGreatDoor

namespace Go.Proofs.YtbfldlokocpjaaaGreatDoor
open Go.RowKit

theorem row_leaf2 {w v : World} {B gO r o c1 c2 : Nat} {A1 A2 : Option Addr} {l lm l0 R O : List Value} (go : w.heap.size ≤ gO) (h1 : B ≠ gO) (h2 : B + 1 ≠ gO) (bO : Blk v gO 25 l) (bm : Blk v B 25 lm) (b0 : Blk v (B + 1) 25 l0)
    (fR : Fr 3 v B A1 r c1 R) (fO : Fr 3 v B A2 o c2 O) (kk : Keep w v) (cs : Array Value) :
    Blk (v.setRow gO cs) gO 25 cs.toList ∧ Blk (v.setRow gO cs) B 25 lm ∧ Blk (v.setRow gO cs) (B + 1) 25 l0 ∧ Fr 3 (v.setRow gO cs) B A1 r c1 R ∧ Fr 3 (v.setRow gO cs) B A2 o c2 O ∧ Keep w (v.setRow gO cs) := by
  have hg := only_row v gO cs
  have ht : 3 ≠ 25 := by decide
  refine ⟨bO.row cs, bm.grown hg (fun e => ?_), b0.grown hg (fun e => ?_), fR.grown hg (fun k hk e => ?_), fO.grown hg (fun k hk e => ?_), kk.grown hg (fun k e => ?_)⟩
  · injection e with e
    exact h1 e
  · injection e with e
    exact h2 e
  · injection e with e
    exact fR.own_ne bO ht k hk e
  · injection e with e
    exact fO.own_ne bO ht k hk e
  · injection e with e
    omega

set_option maxRecDepth 100000 in
set_option maxHeartbeats 8000000 in
theorem refWithout_u (M : Mkt) (p : Int) (w : World) (hM : M.Ok w) {V : List Int × List (List Int) × List Int} {r : Int} (hv : outV M.r.l (bidsOf M.bs) M.o.l p = (V, r)) :
    Calls Tryz.prog 10 #[M.val, .int .i64 p] w fun e w' => ∃ N : Mkt, e = .returned (.tuple #[N.val, .int .i64 r]) ∧ N.Ok w' ∧ N.lists = V ∧ N.Few ∧ Keep w w' := by
  have lr := hM.r.len.le
  have lb := hM.b.len.le
  have hck := fun w1 (k1 : Keep w w1) => refCheckM_f M w1 (hM.keep k1)
  unfold outV at hv
  unfold Mkt.val at hck
  unfold Mkt.val
  have hzero : ∀ w, (zeroValue 25).run Tryz.prog w = .ok (.agg #[.slice none 0 0, .slice none 0 0, .slice none 0 0]) w := fun w => by kernel_rfl
  have k0 : Keep w ((w.alloc (.cells #[.slice M.r.a M.r.l.length M.r.c, .slice M.ba M.bs.length M.bc, .slice M.o.a M.o.l.length M.o.c] 25)).alloc (.cells #[.slice none 0 0, .slice none 0 0, .slice none 0 0] 25)) := (Keep.alloc1 _ _).trans (Keep.alloc1 _ _)
  have bm := (Blk.new w 25 [.slice M.r.a M.r.l.length M.r.c, .slice M.ba M.bs.length M.bc, .slice M.o.a M.o.l.length M.o.c]).keep (Keep.alloc1 _ (.cells #[.slice none 0 0, .slice none 0 0, .slice none 0 0] 25))
  have b0 : Blk ((w.alloc (.cells #[.slice M.r.a M.r.l.length M.r.c, .slice M.ba M.bs.length M.bc, .slice M.o.a M.o.l.length M.o.c] 25)).alloc (.cells #[.slice none 0 0, .slice none 0 0, .slice none 0 0] 25)) (w.heap.size + 1) 25 [.slice none 0 0, .slice none 0 0, .slice none 0 0] := by
    have h := Blk.new (w.alloc (.cells #[.slice M.r.a M.r.l.length M.r.c, .slice M.ba M.bs.length M.bc, .slice M.o.a M.o.l.length M.o.c] 25)) 25 [.slice none 0 0, .slice none 0 0, .slice none 0 0]
    simpa using h
  cases hc : chkM M.r.l (bidsOf M.bs) M.o.l with
  | false =>
    rw [hc] at hck
    rw [if_neg (fun h => by rw [hc] at h; cases h.1)] at hv
    cases hv
    clear hc
    go_enter Tryz.func10, Tryz.ntmps10
    go_wp2_with fail
    refine (hck _ k0).mono ?_
    rintro e w1 ⟨rfl, k1⟩
    replace b0 := b0.keep k1
    replace bm := bm.keep k1
    have d1 := bm.cell_ (i := 1) rfl
    go_wp2_with (refine wpList_store_row rfl 25 _ _ rfl (w.heap.size + 1) #[.slice none 0 0, .slice none 0 0, .slice none 0 0] rfl rfl _ _ b0 (by kernel_rfl) rfl (by simp [Value.oneCell']) ?_)
    refine bodyPost_ret (wo_results rfl (b0.row _) rfl) rfl ?_
    exact ⟨noM, rfl, noM_ok _, rfl, noM_few, (k0.trans k1).grown (only_row _ _ _) (fun k e => by injection e with e; omega)⟩
  | true =>
   rw [hc] at hck
   by_cases hp0 : p < 0
   · rw [if_neg (fun h => by omega)] at hv
     cases hv
     clear hc
     have z1 : decide (p < 0) = true := decide_eq_true hp0
     go_enter Tryz.func10, Tryz.ntmps10
     go_wp2_with fail
     refine (hck _ k0).mono ?_
     rintro e w1 ⟨rfl, k1⟩
     replace b0 := b0.keep k1
     replace bm := bm.keep k1
     have d1 := bm.cell_ (i := 1) rfl
     go_wp2_with (refine wpList_store_row rfl 25 _ _ rfl (w.heap.size + 1) #[.slice none 0 0, .slice none 0 0, .slice none 0 0] rfl rfl _ _ b0 (by kernel_rfl) rfl (by simp [Value.oneCell']) ?_)
     refine bodyPost_ret (wo_results rfl (b0.row _) rfl) rfl ?_
     exact ⟨noM, rfl, noM_ok _, rfl, noM_few, (k0.trans k1).grown (only_row _ _ _) (fun k e => by injection e with e; omega)⟩
   by_cases hp1 : (M.bs.length : Int) ≤ p
   · rw [if_neg (fun h => by rw [length_bids] at h; omega)] at hv
     cases hv
     clear hc
     have z1 : decide (p < 0) = false := decide_eq_false hp0
     have z2 : decide ((M.bs.length : Int) ≤ p) = true := decide_eq_true hp1
     go_enter Tryz.func10, Tryz.ntmps10
     go_wp2_with fail
     refine (hck _ k0).mono ?_
     rintro e w1 ⟨rfl, k1⟩
     replace b0 := b0.keep k1
     replace bm := bm.keep k1
     have d1 := bm.cell_ (i := 1) rfl
     go_wp2_with (refine wpList_store_row rfl 25 _ _ rfl (w.heap.size + 1) #[.slice none 0 0, .slice none 0 0, .slice none 0 0] rfl rfl _ _ b0 (by kernel_rfl) rfl (by simp [Value.oneCell']) ?_)
     refine bodyPost_ret (wo_results rfl (b0.row _) rfl) rfl ?_
     exact ⟨noM, rfl, noM_ok _, rfl, noM_few, (k0.trans k1).grown (only_row _ _ _) (fun k e => by injection e with e; omega)⟩
   rw [if_pos ⟨hc, by omega, by rw [length_bids]; omega⟩] at hv
   obtain ⟨p, rfl⟩ := Int.eq_ofNat_of_zero_le (show 0 ≤ p by omega)
   obtain ⟨m1, m2, m3, m4⟩ := chkM_facts hc
   rw [length_bids] at m3 m4
   have mo : M.o.l.length ≤ 1000000 := (chkM_few hc).o
   have lbs : Short M.bs := (chkM_few hc).b
   have HC := Lib.hid hc
   have HV := Lib.hid hv
   have HP := Lib.hid (show p < M.bs.length by omega)
   clear hc hv
   have z1 : decide ((p : Int) < 0) = false := decide_eq_false hp0
   have z2 : decide ((M.bs.length : Int) ≤ p) = false := decide_eq_false hp1
   have z3 : (M.bs.length ≤ p) = False := eq_false (by omega)
   clear hp0 hp1
   go_enter Tryz.func10, Tryz.ntmps10
   go_wp2_with fail
   have hq := hck _ k0
   change Calls _ _ _ ((w.alloc (.cells #[.slice M.r.a M.r.l.length M.r.c, .slice M.ba M.bs.length M.bc, .slice M.o.a M.o.l.length M.o.c] 25)).alloc (.cells #[.slice none 0 0, .slice none 0 0, .slice none 0 0] 25)) _
   generalize (w.alloc (.cells #[.slice M.r.a M.r.l.length M.r.c, .slice M.ba M.bs.length M.bc, .slice M.o.a M.o.l.length M.o.c] 25)).alloc (.cells #[.slice none 0 0, .slice none 0 0, .slice none 0 0] 25) = w0 at k0 bm b0 hq ⊢
   obtain ⟨B, hB⟩ : ∃ B, B = w.heap.size := ⟨_, rfl⟩
   rw [← hB] at bm b0 ⊢
   have HB := Lib.hid hB
   clear hB
   refine hq.mono ?_
   rintro e w1 ⟨rfl, k1⟩
   replace bm := bm.keep k1
   replace b0 := b0.keep k1
   have kk := k0.trans k1
   clear hck hq k1 k0
   have d0 := bm.cell_ (i := 0) rfl
   have d1 := bm.cell_ (i := 1) rfl
   have d2 := bm.cell_ (i := 2) rfl
   go_upto_region 3 with fail
   go_cut [6] from 23 to 29 (fun q wx => ∃ (gO : Nat) (A1 : Option Addr) (c1 : Nat) (A2 : Option Addr) (c2 : Nat), q = .pointer (some ⟨gO, 0, none⟩) ∧ B + 1 < gO ∧ Blk wx gO 25 [.slice A1 M.r.l.length c1, .slice none 0 0, .slice A2 M.o.l.length c2] ∧ Blk wx B 25 [.slice M.r.a M.r.l.length M.r.c, .slice M.ba M.bs.length M.bc, .slice M.o.a M.o.l.length M.o.c] ∧ Blk wx (B + 1) 25 [.slice none 0 0, .slice none 0 0, .slice none 0 0] ∧ Fr 3 wx B A1 M.r.l.length c1 (cs .i64 M.r.l) ∧ Fr 3 wx B A2 M.o.l.length c2 (cs .i64 M.o.l) ∧ Keep w wx)
   case first =>
    refine wp_region_noPanic ?_
    refine wp_region_held_drew (S := (fun w' => w'.cell? ⟨B, 0, none⟩ = some (.slice M.r.a M.r.l.length M.r.c) ∧ w'.cell? ⟨B, 2, none⟩ = some (.slice M.o.a M.o.l.length M.o.c))) (by kernel_rfl) ⟨d0, d2⟩ (fun hS => ?_)
    replace kk := kk.drew
    replace bm := bm.keep (Keep.refl w1).drew
    replace b0 := b0.keep (Keep.refl w1).drew
    generalize w1.drew = v0 at kk bm b0 hS ⊢
    refine wpAnyH_take (i := 0) (v := ?_) rfl (by kernel_rfl) (by kernel_rfl) (by kernel_rfl) (fun _ _ _ h => h) (Or.inl ⟨by rfl, ?_⟩) hS ?_
    rotate_left
    · (intro w hSw; (try dsimp only at hSw); go_simp; (first | done | with_reducible rfl))
    change wpAnyH _ _ _ _ _ _ _ (Act.put _ (some 23) _) _
    simp only [Act.put, List.setIfInBounds_toArray, List.set_cons_zero, List.set_cons_succ]
    refine wpAnyH_take (i := 1) (v := ?_) rfl (by kernel_rfl) (by kernel_rfl) (by kernel_rfl) (fun _ _ _ h => h) (Or.inl ⟨by rfl, ?_⟩) hS ?_
    rotate_left
    · (intro w hSw; (try dsimp only at hSw); go_simp; (first | done | with_reducible rfl))
    change wpAnyH _ _ _ _ _ _ _ (Act.put _ (some 24) _) _
    simp only [Act.put, List.setIfInBounds_toArray, List.set_cons_zero, List.set_cons_succ]
    refine wpAnyH_take (i := 3) (v := ?_) rfl (by kernel_rfl) (by kernel_rfl) (by kernel_rfl) (fun _ _ _ h => h) (Or.inl ⟨by rfl, ?_⟩) hS ?_
    rotate_left
    · (intro w hSw; (try dsimp only at hSw); go_simp; (first | done | with_reducible rfl))
    change wpAnyH _ _ _ _ _ _ _ (Act.put _ (some 26) _) _
    simp only [Act.put, List.setIfInBounds_toArray, List.set_cons_zero, List.set_cons_succ]
    refine wpAnyH_take (i := 4) (v := ?_) rfl (by kernel_rfl) (by kernel_rfl) (by kernel_rfl) (fun _ _ _ h => h) (Or.inl ⟨by rfl, ?_⟩) hS ?_
    rotate_left
    · (intro w hSw; (try dsimp only at hSw); go_simp; (first | done | with_reducible rfl))
    change wpAnyH _ _ _ _ _ _ _ (Act.put _ (some 27) _) _
    simp only [Act.put, List.setIfInBounds_toArray, List.set_cons_zero, List.set_cons_succ]
    refine wpAnyH_ready (rs := [2, 7]) (by kernel_rfl) (by simp) ?_
    refine AllReadyH.cons rfl (fun K hK => ?_) ?_
    · rw [if_pos (by rfl)]
      refine wp_append_fr _ (.const (.slice none 0 0)) (.tmp 24) 22 rfl B 3 (.int .i64 0) 8 Tryz.underlying22 infoInt rfl none 0 0 [] rfl (Fr.empty _ _ _ _) M.r.a M.r.l.length M.r.c (cs .i64 M.r.l) rfl (length_cs _ _) (hM.keep kk).r.rd (one_cs _ _) ?x1a ?x1b ?x1c ?_
      case x1a => unfold maxLen; omega
      case x1b => omega
      case x1c => have := HB.out; have := kk.size; omega
      intro A1 c1 v1 happ
      have kn := happ.keep (Keep.refl _) (Fr.empty _ _ _ _)
      have fR := happ.fr
      rw [List.nil_append, Nat.zero_add] at fR
      clear happ
      refine hK.out _ _ ⟨kn.cell hS.1, kn.cell hS.2⟩ (fun hS => ?_)
      clear hK K
      change wpAnyH _ _ _ _ _ _ _ (Act.put _ (some 25) _) _
      try simp only [Act.put, List.setIfInBounds_toArray, List.set_cons_zero, List.set_cons_succ]
      try simp only [Nat.zero_add]
      replace kk := kk.trans kn
      replace bm := bm.keep kn
      replace b0 := b0.keep kn
      clear kn
      refine wpAnyH_ready (rs := [5, 7]) (by kernel_rfl) (by simp) ?_
      refine AllReadyH.cons rfl (fun K hK => ?_) ?_
      · rw [if_pos (by rfl)]
        refine wp_append_fr _ (.const (.slice none 0 0)) (.tmp 27) 22 rfl B 3 (.int .i64 0) 8 Tryz.underlying22 infoInt rfl none 0 0 [] rfl (Fr.empty _ _ _ _) M.o.a M.o.l.length M.o.c (cs .i64 M.o.l) rfl (length_cs _ _) (hM.keep kk).o.rd (one_cs _ _) ?x2a ?x2b ?x2c ?_
        case x2a => unfold maxLen; omega
        case x2b => omega
        case x2c => have := HB.out; have := kk.size; omega
        intro A2 c2 v2 happ
        have kn := happ.keep (Keep.refl _) (Fr.empty _ _ _ _)
        have fO := happ.fr
        rw [List.nil_append, Nat.zero_add] at fO
        clear happ
        refine hK.out _ _ ⟨kn.cell hS.1, kn.cell hS.2⟩ (fun hS => ?_)
        clear hK K
        change wpAnyH _ _ _ _ _ _ _ (Act.put _ (some 28) _) _
        try simp only [Act.put, List.setIfInBounds_toArray, List.set_cons_zero, List.set_cons_succ]
        try simp only [Nat.zero_add]
        replace kk := kk.trans kn
        replace fR := fR.keep kn
        replace bm := bm.keep kn
        replace b0 := b0.keep kn
        clear kn
        refine wpAnyH_take (i := 6) (v := ?_) rfl (by kernel_rfl) (by kernel_rfl) (by kernel_rfl) (fun _ _ _ h => h) (Or.inl ⟨by rfl, ?_⟩) hS ?_
        rotate_left
        · (intro w hSw; (try dsimp only at hSw); go_simp; (first | done | with_reducible rfl))
        change wpAnyH _ _ _ _ _ _ _ (Act.put _ (some 29) _) _
        simp only [Act.put, List.setIfInBounds_toArray, List.set_cons_zero, List.set_cons_succ]
        refine wpAnyH_ready (rs := [7]) (by kernel_rfl) (by simp) ?_
        refine AllReadyH.cons rfl (fun K hK => ?_) AllReadyH.nil
        go_simp
        have bO := Blk.new v2 25 [.slice none 0 0, .slice none 0 0, .slice none 0 0]
        have kn := Keep.alloc1 v2 (.cells #[.slice none 0 0, .slice none 0 0, .slice none 0 0] 25)
        have go : B + 1 < v2.heap.size := b0.lt
        refine hK.out _ _ ⟨kn.cell hS.1, kn.cell hS.2⟩ (fun hS => ?_)
        clear hK K
        try simp only [Act.put, List.setIfInBounds_toArray, List.set_cons_zero, List.set_cons_succ]
        generalize (v2.alloc (.cells #[.slice none 0 0, .slice none 0 0, .slice none 0 0] 25)) = v3 at bO kn hS ⊢
        generalize v2.heap.size = gO at bO go ⊢
        replace kk := kk.trans kn
        replace fR := fR.keep kn
        replace fO := fO.keep kn
        replace bm := bm.keep kn
        replace b0 := b0.keep kn
        clear kn
        refine wpAnyH_ready (rs := [8]) (by kernel_rfl) (by simp) ?_
        refine AllReadyH.cons rfl (fun K hK => ?_) AllReadyH.nil
        rw [if_pos (by rfl)]
        refine wp_store_row 25 _ _ rfl gO #[.slice A1 M.r.l.length c1, .slice none 0 0, .slice A2 M.o.l.length c2] rfl rfl _ _ bO (by kernel_rfl) rfl (by simp [Value.oneCell']) ?_
        refine hK.out _ _ ⟨(cell_setRow_other _ _ _ _ (show B ≠ gO by omega)).trans hS.1, (cell_setRow_other _ _ _ _ (show B ≠ gO by omega)).trans hS.2⟩ (fun hS => ?_)
        clear hK K
        try simp only [Act.put, List.setIfInBounds_toArray]
        have hl := row_leaf2 (by have := HB.out; omega) (by omega) (by omega) bO bm b0 fR fO kk #[.slice A1 M.r.l.length c1, .slice none 0 0, .slice A2 M.o.l.length c2]
        refine wpAnyH_done (by kernel_rfl) ?_ _
        refine NoPanic.normal ?_
        go_wp2_with fail
        go_meet
        exact ⟨gO, A1, c1, A2, c2, rfl, by omega, hl⟩
      refine AllReadyH.cons rfl (fun K hK => ?_) ?_
      · go_simp
        have bO := Blk.new v1 25 [.slice none 0 0, .slice none 0 0, .slice none 0 0]
        have kn := Keep.alloc1 v1 (.cells #[.slice none 0 0, .slice none 0 0, .slice none 0 0] 25)
        have go : B + 1 < v1.heap.size := b0.lt
        refine hK.out _ _ ⟨kn.cell hS.1, kn.cell hS.2⟩ (fun hS => ?_)
        clear hK K
        try simp only [Act.put, List.setIfInBounds_toArray, List.set_cons_zero, List.set_cons_succ]
        generalize (v1.alloc (.cells #[.slice none 0 0, .slice none 0 0, .slice none 0 0] 25)) = v5 at bO kn hS ⊢
        generalize v1.heap.size = gO at bO go ⊢
        replace kk := kk.trans kn
        replace fR := fR.keep kn
        replace bm := bm.keep kn
        replace b0 := b0.keep kn
        clear kn
        refine wpAnyH_ready (rs := [5]) (by kernel_rfl) (by simp) ?_
        refine AllReadyH.cons rfl (fun K hK => ?_) AllReadyH.nil
        rw [if_pos (by rfl)]
        refine wp_append_fr _ (.const (.slice none 0 0)) (.tmp 27) 22 rfl B 3 (.int .i64 0) 8 Tryz.underlying22 infoInt rfl none 0 0 [] rfl (Fr.empty _ _ _ _) M.o.a M.o.l.length M.o.c (cs .i64 M.o.l) rfl (length_cs _ _) (hM.keep kk).o.rd (one_cs _ _) ?x3a ?x3b ?x3c ?_
        case x3a => unfold maxLen; omega
        case x3b => omega
        case x3c => have := HB.out; have := kk.size; omega
        intro A2 c2 v6 happ
        have kn := happ.keep (Keep.refl _) (Fr.empty _ _ _ _)
        have fO := happ.fr
        rw [List.nil_append, Nat.zero_add] at fO
        clear happ
        refine hK.out _ _ ⟨kn.cell hS.1, kn.cell hS.2⟩ (fun hS => ?_)
        clear hK K
        change wpAnyH _ _ _ _ _ _ _ (Act.put _ (some 28) _) _
        try simp only [Act.put, List.setIfInBounds_toArray, List.set_cons_zero, List.set_cons_succ]
        try simp only [Nat.zero_add]
        replace kk := kk.trans kn
        replace fR := fR.keep kn
        replace bO := bO.keep kn
        replace bm := bm.keep kn
        replace b0 := b0.keep kn
        clear kn
        refine wpAnyH_take (i := 6) (v := ?_) rfl (by kernel_rfl) (by kernel_rfl) (by kernel_rfl) (fun _ _ _ h => h) (Or.inl ⟨by rfl, ?_⟩) hS ?_
        rotate_left
        · (intro w hSw; (try dsimp only at hSw); go_simp; (first | done | with_reducible rfl))
        change wpAnyH _ _ _ _ _ _ _ (Act.put _ (some 29) _) _
        simp only [Act.put, List.setIfInBounds_toArray, List.set_cons_zero, List.set_cons_succ]
        refine wpAnyH_ready (rs := [8]) (by kernel_rfl) (by simp) ?_
        refine AllReadyH.cons rfl (fun K hK => ?_) AllReadyH.nil
        rw [if_pos (by rfl)]
        refine wp_store_row 25 _ _ rfl gO #[.slice A1 M.r.l.length c1, .slice none 0 0, .slice A2 M.o.l.length c2] rfl rfl _ _ bO (by kernel_rfl) rfl (by simp [Value.oneCell']) ?_
        refine hK.out _ _ ⟨(cell_setRow_other _ _ _ _ (show B ≠ gO by omega)).trans hS.1, (cell_setRow_other _ _ _ _ (show B ≠ gO by omega)).trans hS.2⟩ (fun hS => ?_)
        clear hK K
        try simp only [Act.put, List.setIfInBounds_toArray]
        have hl := row_leaf2 (by have := HB.out; omega) (by omega) (by omega) bO bm b0 fR fO kk #[.slice A1 M.r.l.length c1, .slice none 0 0, .slice A2 M.o.l.length c2]
        refine wpAnyH_done (by kernel_rfl) ?_ _
        refine NoPanic.normal ?_
        go_wp2_with fail
        go_meet
        exact ⟨gO, A1, c1, A2, c2, rfl, by omega, hl⟩
      exact AllReadyH.nil
    refine AllReadyH.cons rfl (fun K hK => ?_) ?_
    · go_simp
      have bO := Blk.new v0 25 [.slice none 0 0, .slice none 0 0, .slice none 0 0]
      have kn := Keep.alloc1 v0 (.cells #[.slice none 0 0, .slice none 0 0, .slice none 0 0] 25)
      have go : B + 1 < v0.heap.size := b0.lt
      refine hK.out _ _ ⟨kn.cell hS.1, kn.cell hS.2⟩ (fun hS => ?_)
      clear hK K
      try simp only [Act.put, List.setIfInBounds_toArray, List.set_cons_zero, List.set_cons_succ]
      generalize (v0.alloc (.cells #[.slice none 0 0, .slice none 0 0, .slice none 0 0] 25)) = v8 at bO kn hS ⊢
      generalize v0.heap.size = gO at bO go ⊢
      replace kk := kk.trans kn
      replace bm := bm.keep kn
      replace b0 := b0.keep kn
      clear kn
      refine wpAnyH_ready (rs := [2]) (by kernel_rfl) (by simp) ?_
      refine AllReadyH.cons rfl (fun K hK => ?_) AllReadyH.nil
      rw [if_pos (by rfl)]
      refine wp_append_fr _ (.const (.slice none 0 0)) (.tmp 24) 22 rfl B 3 (.int .i64 0) 8 Tryz.underlying22 infoInt rfl none 0 0 [] rfl (Fr.empty _ _ _ _) M.r.a M.r.l.length M.r.c (cs .i64 M.r.l) rfl (length_cs _ _) (hM.keep kk).r.rd (one_cs _ _) ?x4a ?x4b ?x4c ?_
      case x4a => unfold maxLen; omega
      case x4b => omega
      case x4c => have := HB.out; have := kk.size; omega
      intro A1 c1 v9 happ
      have kn := happ.keep (Keep.refl _) (Fr.empty _ _ _ _)
      have fR := happ.fr
      rw [List.nil_append, Nat.zero_add] at fR
      clear happ
      refine hK.out _ _ ⟨kn.cell hS.1, kn.cell hS.2⟩ (fun hS => ?_)
      clear hK K
      change wpAnyH _ _ _ _ _ _ _ (Act.put _ (some 25) _) _
      try simp only [Act.put, List.setIfInBounds_toArray, List.set_cons_zero, List.set_cons_succ]
      try simp only [Nat.zero_add]
      replace kk := kk.trans kn
      replace bO := bO.keep kn
      replace bm := bm.keep kn
      replace b0 := b0.keep kn
      clear kn
      refine wpAnyH_ready (rs := [5]) (by kernel_rfl) (by simp) ?_
      refine AllReadyH.cons rfl (fun K hK => ?_) AllReadyH.nil
      rw [if_pos (by rfl)]
      refine wp_append_fr _ (.const (.slice none 0 0)) (.tmp 27) 22 rfl B 3 (.int .i64 0) 8 Tryz.underlying22 infoInt rfl none 0 0 [] rfl (Fr.empty _ _ _ _) M.o.a M.o.l.length M.o.c (cs .i64 M.o.l) rfl (length_cs _ _) (hM.keep kk).o.rd (one_cs _ _) ?x5a ?x5b ?x5c ?_
      case x5a => unfold maxLen; omega
      case x5b => omega
      case x5c => have := HB.out; have := kk.size; omega
      intro A2 c2 v10 happ
      have kn := happ.keep (Keep.refl _) (Fr.empty _ _ _ _)
      have fO := happ.fr
      rw [List.nil_append, Nat.zero_add] at fO
      clear happ
      refine hK.out _ _ ⟨kn.cell hS.1, kn.cell hS.2⟩ (fun hS => ?_)
      clear hK K
      change wpAnyH _ _ _ _ _ _ _ (Act.put _ (some 28) _) _
      try simp only [Act.put, List.setIfInBounds_toArray, List.set_cons_zero, List.set_cons_succ]
      try simp only [Nat.zero_add]
      replace kk := kk.trans kn
      replace fR := fR.keep kn
      replace bO := bO.keep kn
      replace bm := bm.keep kn
      replace b0 := b0.keep kn
      clear kn
      refine wpAnyH_take (i := 6) (v := ?_) rfl (by kernel_rfl) (by kernel_rfl) (by kernel_rfl) (fun _ _ _ h => h) (Or.inl ⟨by rfl, ?_⟩) hS ?_
      rotate_left
      · (intro w hSw; (try dsimp only at hSw); go_simp; (first | done | with_reducible rfl))
      change wpAnyH _ _ _ _ _ _ _ (Act.put _ (some 29) _) _
      simp only [Act.put, List.setIfInBounds_toArray, List.set_cons_zero, List.set_cons_succ]
      refine wpAnyH_ready (rs := [8]) (by kernel_rfl) (by simp) ?_
      refine AllReadyH.cons rfl (fun K hK => ?_) AllReadyH.nil
      rw [if_pos (by rfl)]
      refine wp_store_row 25 _ _ rfl gO #[.slice A1 M.r.l.length c1, .slice none 0 0, .slice A2 M.o.l.length c2] rfl rfl _ _ bO (by kernel_rfl) rfl (by simp [Value.oneCell']) ?_
      refine hK.out _ _ ⟨(cell_setRow_other _ _ _ _ (show B ≠ gO by omega)).trans hS.1, (cell_setRow_other _ _ _ _ (show B ≠ gO by omega)).trans hS.2⟩ (fun hS => ?_)
      clear hK K
      try simp only [Act.put, List.setIfInBounds_toArray]
      have hl := row_leaf2 (by have := HB.out; omega) (by omega) (by omega) bO bm b0 fR fO kk #[.slice A1 M.r.l.length c1, .slice none 0 0, .slice A2 M.o.l.length c2]
      refine wpAnyH_done (by kernel_rfl) ?_ _
      refine NoPanic.normal ?_
      go_wp2_with fail
      go_meet
      exact ⟨gO, A1, c1, A2, c2, rfl, by omega, hl⟩
    exact AllReadyH.nil
   case rest =>
    clear d0 d1 d2 bm b0 kk
    obtain ⟨gO, A1, c1, A2, c2, rfl, hgO, bO, bm, b0, fR, fO, kk⟩ := hcut
    go_wp2_with fail
    go_loopw [7] (fun u wr => ∃ (i : Nat) (AB : Option Addr) (cB : Nat) (ss : List Sl), i ≤ M.bs.length ∧ u = .int .i64 i ∧ Hid (bidsOf ss = ((bidsOf M.bs).set p []).take i) ∧ Hid (ss.length = i) ∧ Fr 22 wr B AB i cB (ss.map Sl.val) ∧ (∀ s' ∈ ss, Fr 3 wr B s'.a s'.l.length s'.c (cs .i64 s'.l)) ∧ Fr 3 wr B A1 M.r.l.length c1 (cs .i64 M.r.l) ∧ Fr 3 wr B A2 M.o.l.length c2 (cs .i64 M.o.l) ∧ Blk wr gO 25 [.slice A1 M.r.l.length c1, .slice AB i cB, .slice A2 M.o.l.length c2] ∧ Blk wr B 25 [.slice M.r.a M.r.l.length M.r.c, .slice M.ba M.bs.length M.bc, .slice M.o.a M.o.l.length M.o.c] ∧ Blk wr (B + 1) 25 [.slice none 0 0, .slice none 0 0, .slice none 0 0] ∧ Keep w wr) (fun u _ => M.bs.length - (intOf u).toNat)
    case atStart => exact ⟨0, none, 0, [], Nat.zero_le _, rfl, Lib.hid rfl, Lib.hid rfl, Fr.empty _ _ _ _, (fun s h => by cases h), fR, fO, bO, bm, b0, kk⟩
    case round =>
      clear bO bm b0 fR fO kk
      obtain ⟨i, AB, cB, ss, hi, rfl, hbd, hsl, fB, fs, fR, fO, bO, bm, b0, kk⟩ := hrel
      by_cases hlt : i < M.bs.length
      · obtain ⟨b1, o1, s, hba, hsk, hcw, hs⟩ := hM.b.at_ hlt
        have hsw := hs.rd
        have hsl9 : s.l.length ≤ 1000000 := lbs s (List.mem_of_getElem? hsk)
        have HBA := Lib.hid hba
        have HSK := Lib.hid hsk
        rw [hba] at bm
        clear hsk hba
        have d1 := bm.cell_ (i := 1) rfl
        have hi1 : (i : Int) < M.bs.length := by omega
        have hi0 : (0 : Int) ≤ i := by omega
        by_cases hp : i = p
        · subst hp
          have z5 : ((i : Int) == i) = true := by simp
          have HGET := Lib.hid (show ((bidsOf M.bs).set i [])[i]? = some [] by rw [List.getElem?_set_self (by rw [length_bids]; exact hlt)])
          have m1 := bO.cell_ (i := 1) rfl
          go_wp2_with (at_builtin; refine wpList_append_fr _ rfl _ _ 23 rfl B 22 (.slice none 0 0) 24 Tryz.underlying23 infoInts rfl AB i cB _ rfl (fB.keep (Keep.alloc1 _ _)) (some ⟨wr.heap.size, 0, none⟩) 1 1 [.slice none 0 0] rfl rfl (Rd.one _ _ _) (fun u hu => by rw [List.mem_singleton] at hu; subst hu; rfl) ?c1 ?c2 ?c3 ?_)
          case c1 => unfold maxLen; omega
          case c2 => omega
          case c3 => have := HB.out; have := kk.size; simp; omega
          intro AB' cB' w5 happ
          have kn := Keep.alloc1 wr (.cells #[.slice none 0 0] 22)
          generalize wr.alloc (.cells #[.slice none 0 0] 22) = w4 at kn happ
          replace fR := fR.keep kn
          replace fO := fO.keep kn
          replace bO := bO.keep kn
          replace bm := bm.keep kn
          replace b0 := b0.keep kn
          replace fB := fB.keep kn
          replace fs := fun s' h => (fs s' h).keep kn
          replace kk := kk.trans kn
          clear kn m1 d1
          have offI : ∀ {A : Option Addr} {n c : Nat} {vs : List Value}, Fr 3 w4 B A n c vs → Fr 3 w5 B A n c vs := fun h => h.grown happ.2.1 fun q hq e => Fr.offtype h fB (by decide) q hq e
          have offM : ∀ {g : Nat} {l : List Value}, Blk w4 g 25 l → Blk w5 g 25 l := fun h => h.grown happ.2.1 fun e => (fB.own_ne h (by decide) _ e.symm) rfl
          have k9 := kk.grown happ.2.1 (fun q e => by rw [← HB.out]; exact (fB.own_ge e).1)
          have fB9 := happ.fr
          replace fR := offI fR
          replace fO := offI fO
          try replace f5 := offI f5
          replace bm := offM bm
          replace b0 := offM b0
          replace bO := offM bO
          replace fs := fun s' h => offI (fs s' h)
          clear happ fB kk offI offM
          have kk := k9
          have fB := fB9
          clear k9 fB9
          have m1 := bO.cell_ (i := 1) rfl
          have fm1 := bO.frozen 1
          have HGP := Lib.hid hgO
          go_upto_region 6 with fail
          clear m1 fm1
          have hb9 : B ≤ gO := by omega
          replace kk := kk.setCell (p := ⟨gO, 1, none⟩) (by have := HB.out; simp only; omega) (.slice AB' (i + 1) cB')
          have far : ∀ {e : TypeId} {A : Option Addr} {n c : Nat} {vs : List Value}, e ≠ 25 → Fr e w5 B A n c vs → Fr e (w5.setCell ⟨gO, 1, none⟩ (.slice AB' (i + 1) cB')) B A n c vs := fun hne h => h.setCell (p := ⟨gO, 1, none⟩) (fun q hq => h.own_ne bO hne q hq) _
          replace fR := far (by decide) fR
          replace fO := far (by decide) fO
          replace fB := far (by decide) fB
          replace fs := fun s' h => far (by decide) (fs s' h)
          replace bm := bm.far (p := ⟨gO, 1, none⟩) (by simp only; omega) (.slice AB' (i + 1) cB')
          replace b0 := b0.far (p := ⟨gO, 1, none⟩) (by simp only; omega) (.slice AB' (i + 1) cB')
          replace bO := bO.set_ 1 (.slice AB' (i + 1) cB')
          clear far
          generalize w5.setCell ⟨gO, 1, none⟩ (.slice AB' (i + 1) cB') = wz at kk fR fO fB fs bm b0 bO ⊢
          have f5 : Fr 3 wz B (none : Option Addr) 0 0 (cs .i64 []) := Fr.empty _ _ _ _
          rw [← HBA.out] at bm
          have HS2 := Lib.hid (fun s' (h : s' ∈ ss ++ [(⟨none, 0, []⟩ : Sl)]) => show Fr 3 wz B s'.a s'.l.length s'.c (cs .i64 s'.l) from by
            rcases List.mem_append.1 h with h | h
            · exact fs s' h
            · rw [List.mem_singleton] at h
              subst h
              exact f5)
          have hm1 : ss.map Sl.val ++ [Sl.val ⟨none, 0, []⟩] = (ss ++ [(⟨none, 0, []⟩ : Sl)]).map Sl.val := by rw [List.map_append]; rfl
          change Fr _ _ _ _ _ _ (ss.map Sl.val ++ [Sl.val ⟨none, 0, []⟩]) at fB
          rw [hm1] at fB
          have HB2 := Lib.hid (show bidsOf (ss ++ [(⟨none, 0, []⟩ : Sl)]) = ((bidsOf M.bs).set i []).take (i + 1) by rw [List.take_add_one, HGET.out, ← hbd.out]; simp [bidsOf])
          have HL2 := Lib.hid (show (ss ++ [(⟨none, 0, []⟩ : Sl)]).length = i + 1 by rw [List.length_append, hsl.out]; rfl)
          clear hm1 fs
          go_wp2_with fail
          go_roundw
          case rel => exact ⟨i + 1, AB', cB', ss ++ [⟨none, 0, []⟩], by omega, by go_num, HB2, HL2, fB, HS2.out, fR, fO, bO, bm, b0, kk⟩
          case measure => simp [intOf]; omega
        · have z5 : ((i : Int) == p) = false := by rw [beq_eq_false_iff_ne]; omega
          have HGET := Lib.hid (show ((bidsOf M.bs).set p [])[i]? = some s.l by rw [List.getElem?_set_ne (by omega), bidsOf, List.getElem?_map, HSK.out]; rfl)
          have HPN := Lib.hid hp
          clear hp z1 z2 z3
          go_upto_region 9 with fail
          refine wp_region_noPanic ?_
          refine wp_region_held_drew (S := (fun w' => w'.cell? ⟨B, 1, none⟩ = some (.slice (some ⟨b1, o1, none⟩) M.bs.length M.bc) ∧ w'.cell? ⟨b1, o1 + i, none⟩ = some (.slice s.a s.l.length s.c))) (by kernel_rfl) ⟨d1, kk.drew.cell hcw⟩ (fun hS => ?_)
          have kn := (Keep.refl wr).drew
          replace fR := fR.keep kn
          replace fO := fO.keep kn
          replace bO := bO.keep kn
          replace bm := bm.keep kn
          replace b0 := b0.keep kn
          replace fB := fB.keep kn
          replace fs := fun s' h => (fs s' h).keep kn
          replace kk := kk.trans kn
          clear kn
          generalize wr.drew = u0 at kk fR fO bO bm b0 fB fs hS ⊢
          refine wpAnyH_take (i := 0) (v := ?_) rfl (by kernel_rfl) (by kernel_rfl) (by kernel_rfl) (fun _ _ _ h => h) (Or.inl ⟨by rfl, ?_⟩) hS ?_
          rotate_left
          · (intro w hSw; (try dsimp only at hSw); go_simp; (first | done | with_reducible rfl))
          change wpAnyH _ _ _ _ _ _ _ (Act.put _ (some 45) _) _
          simp only [Act.put, List.setIfInBounds_toArray, List.set_cons_zero, List.set_cons_succ]
          refine wpAnyH_take (i := 2) (v := ?_) rfl (by kernel_rfl) (by kernel_rfl) (by kernel_rfl) (fun _ _ _ h => h) (Or.inl ⟨by rfl, ?_⟩) hS ?_
          rotate_left
          · (intro w hSw; (try dsimp only at hSw); go_simp; (first | done | with_reducible rfl))
          change wpAnyH _ _ _ _ _ _ _ (Act.put _ (some 47) _) _
          simp only [Act.put, List.setIfInBounds_toArray, List.set_cons_zero, List.set_cons_succ]
          refine wpAnyH_take (i := 3) (v := ?_) rfl (by kernel_rfl) (by kernel_rfl) (by kernel_rfl) (fun _ _ _ h => h) (Or.inl ⟨by rfl, ?_⟩) hS ?_
          rotate_left
          · (intro w hSw; (try dsimp only at hSw); go_simp; (first | done | with_reducible rfl))
          change wpAnyH _ _ _ _ _ _ _ (Act.put _ (some 48) _) _
          simp only [Act.put, List.setIfInBounds_toArray, List.set_cons_zero, List.set_cons_succ]
          refine wpAnyH_take (i := 4) (v := ?_) rfl (by kernel_rfl) (by kernel_rfl) (by kernel_rfl) (fun _ _ _ h => h) (Or.inl ⟨by rfl, ?_⟩) hS ?_
          rotate_left
          · (intro w hSw; (try dsimp only at hSw); go_simp; (first | done | with_reducible rfl))
          change wpAnyH _ _ _ _ _ _ _ (Act.put _ (some 49) _) _
          simp only [Act.put, List.setIfInBounds_toArray, List.set_cons_zero, List.set_cons_succ]
          refine wpAnyH_take (i := 5) (v := ?_) rfl (by kernel_rfl) (by kernel_rfl) (by kernel_rfl) (fun _ _ _ h => h) (Or.inl ⟨by rfl, ?_⟩) hS ?_
          rotate_left
          · (intro w hSw; (try dsimp only at hSw); go_simp; (first | done | with_reducible rfl))
          change wpAnyH _ _ _ _ _ _ _ (Act.put _ (some 50) _) _
          simp only [Act.put, List.setIfInBounds_toArray, List.set_cons_zero, List.set_cons_succ]
          refine wpAnyH_take (i := 6) (v := ?_) rfl (by kernel_rfl) (by kernel_rfl) (by kernel_rfl) (fun _ _ _ h => h) (Or.inl ⟨by rfl, ?_⟩) hS ?_
          rotate_left
          · (intro w hSw; (try dsimp only at hSw); go_simp; (first | done | with_reducible rfl))
          change wpAnyH _ _ _ _ _ _ _ (Act.put _ (some 51) _) _
          simp only [Act.put, List.setIfInBounds_toArray, List.set_cons_zero, List.set_cons_succ]
          refine wpAnyH_ready (rs := [1, 7]) (by kernel_rfl) (by simp) ?_
          refine AllReadyH.cons rfl (fun K hK => ?_) ?_
          · have m1 := bO.cell_ (i := 1) rfl
            go_simp
            refine hK.out _ _ hS (fun hS => ?_)
            clear hK K
            try simp only [Act.put, List.setIfInBounds_toArray, List.set_cons_zero, List.set_cons_succ]
            clear m1
            refine wpAnyH_ready (rs := [7]) (by kernel_rfl) (by simp) ?_
            refine AllReadyH.cons rfl (fun K hK => ?_) AllReadyH.nil
            rw [if_pos (by rfl)]
            refine wp_append_fr _ (.const (.slice none 0 0)) (.tmp 51) 22 rfl B 3 (.int .i64 0) 8 Tryz.underlying22 infoInt rfl none 0 0 [] rfl (Fr.empty _ _ _ _) s.a s.l.length s.c (cs .i64 s.l) rfl (length_cs _ _) (hsw.keep kk) (one_cs _ _) ?x6a ?x6b ?x6c ?_
            case x6a => unfold maxLen; omega
            case x6b => omega
            case x6c => have := HB.out; have := kk.size; omega
            intro A5 c5 v2 happ
            have kn := happ.keep (Keep.refl _) (Fr.empty _ _ _ _)
            have f5 := happ.fr
            rw [List.nil_append, Nat.zero_add] at f5
            clear happ
            refine hK.out _ _ ⟨kn.cell hS.1, kn.cell hS.2⟩ (fun hS => ?_)
            clear hK K
            change wpAnyH _ _ _ _ _ _ _ (Act.put _ (some 52) _) _
            try simp only [Act.put, List.setIfInBounds_toArray, List.set_cons_zero, List.set_cons_succ]
            try simp only [Nat.zero_add]
            replace kk := kk.trans kn
            replace fR := fR.keep kn
            replace fO := fO.keep kn
            replace bO := bO.keep kn
            replace bm := bm.keep kn
            replace b0 := b0.keep kn
            replace fB := fB.keep kn
            replace fs := fun s' h => (fs s' h).keep kn
            clear kn
            refine wpAnyH_ready (rs := [8]) (by kernel_rfl) (by simp) ?_
            refine AllReadyH.cons rfl (fun K hK => ?_) AllReadyH.nil
            go_simp
            have rb := Rd.one v2 (.slice A5 s.l.length c5) 22
            have kn := Keep.alloc1 v2 (.cells #[.slice A5 s.l.length c5] 22)
            refine hK.out _ _ ⟨kn.cell hS.1, kn.cell hS.2⟩ (fun hS => ?_)
            clear hK K
            try simp only [Act.put, List.setIfInBounds_toArray, List.set_cons_zero, List.set_cons_succ]
            generalize (v2.alloc (.cells #[.slice A5 s.l.length c5] 22)) = v3 at rb kn hS ⊢
            generalize v2.heap.size = gb at rb ⊢
            replace kk := kk.trans kn
            replace fR := fR.keep kn
            replace fO := fO.keep kn
            replace bO := bO.keep kn
            replace bm := bm.keep kn
            replace b0 := b0.keep kn
            replace fB := fB.keep kn
            replace f5 := f5.keep kn
            replace fs := fun s' h => (fs s' h).keep kn
            clear kn
            refine wpAnyH_ready (rs := [9]) (by kernel_rfl) (by simp) ?_
            refine AllReadyH.cons rfl (fun K hK => ?_) AllReadyH.nil
            rw [if_pos (by rfl)]
            refine wp_append_fr _ (.tmp 46) (.tmp 53) 23 rfl B 22 (.slice none 0 0) 24 Tryz.underlying23 infoInts rfl AB i cB _ rfl fB (some ⟨gb, 0, none⟩) 1 1 [.slice A5 s.l.length c5] rfl rfl rb (fun u hu => by rw [List.mem_singleton] at hu; subst hu; rfl) ?x7a ?x7b ?x7c ?_
            case x7a => unfold maxLen; omega
            case x7b => omega
            case x7c => have := HB.out; have := kk.size; omega
            intro AB' cB' v4 happ
            have offI : ∀ {A : Option Addr} {n c : Nat} {vs : List Value}, Fr 3 v3 B A n c vs → Fr 3 v4 B A n c vs := fun h => h.grown happ.2.1 fun q hq e => Fr.offtype h fB (by decide) q hq e
            have offM : ∀ {g : Nat} {l : List Value}, Blk v3 g 25 l → Blk v4 g 25 l := fun h => h.grown happ.2.1 fun e => (fB.own_ne h (by decide) _ e.symm) rfl
            have k9 := kk.grown happ.2.1 (fun q e => by rw [← HB.out]; exact (fB.own_ge e).1)
            have fB9 := happ.fr
            replace fR := offI fR
            replace fO := offI fO
            try replace f5 := offI f5
            replace bm := offM bm
            replace b0 := offM b0
            replace bO := offM bO
            replace fs := fun s' h => offI (fs s' h)
            clear happ fB kk offI offM
            have kk := k9
            have fB := fB9
            clear k9 fB9
            refine hK.out _ _ ⟨bm.cell_ (i := 1) rfl, kk.cell hcw⟩ (fun hS => ?_)
            clear hK K
            change wpAnyH _ _ _ _ _ _ _ (Act.put _ (some 54) _) _
            try simp only [Act.put, List.setIfInBounds_toArray, List.set_cons_zero, List.set_cons_succ]
            refine wpAnyH_take (i := 10) (v := ?_) rfl (by kernel_rfl) (by kernel_rfl) (by kernel_rfl) (fun _ _ _ h => h) (Or.inl ⟨by rfl, ?_⟩) hS ?_
            rotate_left
            · (intro w hSw; (try dsimp only at hSw); go_simp; (first | done | with_reducible rfl))
            change wpAnyH _ _ _ _ _ _ _ (Act.put _ (some 55) _) _
            simp only [Act.put, List.setIfInBounds_toArray, List.set_cons_zero, List.set_cons_succ]
            refine wpAnyH_ready (rs := [11]) (by kernel_rfl) (by simp) ?_
            refine AllReadyH.cons rfl (fun K hK => ?_) AllReadyH.nil
            have m1 := bO.cell_ (i := 1) rfl
            have fm1 := bO.frozen 1
            go_simp
            refine hK.out _ _ ⟨(bm.far (p := ⟨gO, 1, none⟩) (by simp only; omega) (.slice AB' (i + 1) cB')).cell_ (i := 1) rfl, (kk.setCell (p := ⟨gO, 1, none⟩) (by have := HB.out; simp only; omega) (.slice AB' (i + 1) cB')).cell hcw⟩ (fun hS => ?_)
            clear hK K
            try simp only [Act.put, List.setIfInBounds_toArray]
            clear m1 fm1
            refine wpAnyH_done (by kernel_rfl) ?_ _
            refine NoPanic.normal ?_
            have hb9 : B ≤ gO := by omega
            replace kk := kk.setCell (p := ⟨gO, 1, none⟩) (by have := HB.out; simp only; omega) (.slice AB' (i + 1) cB')
            have far : ∀ {e : TypeId} {A : Option Addr} {n c : Nat} {vs : List Value}, e ≠ 25 → Fr e v4 B A n c vs → Fr e (v4.setCell ⟨gO, 1, none⟩ (.slice AB' (i + 1) cB')) B A n c vs := fun hne h => h.setCell (p := ⟨gO, 1, none⟩) (fun q hq => h.own_ne bO hne q hq) _
            replace fR := far (by decide) fR
            replace fO := far (by decide) fO
            replace fB := far (by decide) fB
            replace fs := fun s' h => far (by decide) (fs s' h)
            replace f5 := far (by decide) f5
            replace bm := bm.far (p := ⟨gO, 1, none⟩) (by simp only; omega) (.slice AB' (i + 1) cB')
            replace b0 := b0.far (p := ⟨gO, 1, none⟩) (by simp only; omega) (.slice AB' (i + 1) cB')
            replace bO := bO.set_ 1 (.slice AB' (i + 1) cB')
            clear far
            generalize v4.setCell ⟨gO, 1, none⟩ (.slice AB' (i + 1) cB') = wz at kk fR fO fB fs f5 bm b0 bO ⊢
            rw [← HBA.out] at bm
            have HS2 := Lib.hid (fun s' (h : s' ∈ ss ++ [(⟨A5, c5, s.l⟩ : Sl)]) => show Fr 3 wz B s'.a s'.l.length s'.c (cs .i64 s'.l) from by
              rcases List.mem_append.1 h with h | h
              · exact fs s' h
              · rw [List.mem_singleton] at h
                subst h
                exact f5)
            have hm1 : ss.map Sl.val ++ [Sl.val ⟨A5, c5, s.l⟩] = (ss ++ [(⟨A5, c5, s.l⟩ : Sl)]).map Sl.val := by rw [List.map_append]; rfl
            change Fr _ _ _ _ _ _ (ss.map Sl.val ++ [Sl.val ⟨A5, c5, s.l⟩]) at fB
            rw [hm1] at fB
            have HB2 := Lib.hid (show bidsOf (ss ++ [(⟨A5, c5, s.l⟩ : Sl)]) = ((bidsOf M.bs).set p []).take (i + 1) by rw [List.take_add_one, HGET.out, ← hbd.out]; simp [bidsOf])
            have HL2 := Lib.hid (show (ss ++ [(⟨A5, c5, s.l⟩ : Sl)]).length = i + 1 by rw [List.length_append, hsl.out]; rfl)
            clear hm1 fs
            go_wp2_with fail
            go_roundw
            case rel => exact ⟨i + 1, AB', cB', ss ++ [⟨A5, c5, s.l⟩], by omega, by go_num, HB2, HL2, fB, HS2.out, fR, fO, bO, bm, b0, kk⟩
            case measure => simp [intOf]; omega
          refine AllReadyH.cons rfl (fun K hK => ?_) ?_
          · rw [if_pos (by rfl)]
            refine wp_append_fr _ (.const (.slice none 0 0)) (.tmp 51) 22 rfl B 3 (.int .i64 0) 8 Tryz.underlying22 infoInt rfl none 0 0 [] rfl (Fr.empty _ _ _ _) s.a s.l.length s.c (cs .i64 s.l) rfl (length_cs _ _) (hsw.keep kk) (one_cs _ _) ?x8a ?x8b ?x8c ?_
            case x8a => unfold maxLen; omega
            case x8b => omega
            case x8c => have := HB.out; have := kk.size; omega
            intro A5 c5 v6 happ
            have kn := happ.keep (Keep.refl _) (Fr.empty _ _ _ _)
            have f5 := happ.fr
            rw [List.nil_append, Nat.zero_add] at f5
            clear happ
            refine hK.out _ _ ⟨kn.cell hS.1, kn.cell hS.2⟩ (fun hS => ?_)
            clear hK K
            change wpAnyH _ _ _ _ _ _ _ (Act.put _ (some 52) _) _
            try simp only [Act.put, List.setIfInBounds_toArray, List.set_cons_zero, List.set_cons_succ]
            try simp only [Nat.zero_add]
            replace kk := kk.trans kn
            replace fR := fR.keep kn
            replace fO := fO.keep kn
            replace bO := bO.keep kn
            replace bm := bm.keep kn
            replace b0 := b0.keep kn
            replace fB := fB.keep kn
            replace fs := fun s' h => (fs s' h).keep kn
            clear kn
            refine wpAnyH_ready (rs := [1, 8]) (by kernel_rfl) (by simp) ?_
            refine AllReadyH.cons rfl (fun K hK => ?_) ?_
            · have m1 := bO.cell_ (i := 1) rfl
              go_simp
              refine hK.out _ _ hS (fun hS => ?_)
              clear hK K
              try simp only [Act.put, List.setIfInBounds_toArray, List.set_cons_zero, List.set_cons_succ]
              clear m1
              refine wpAnyH_ready (rs := [8]) (by kernel_rfl) (by simp) ?_
              refine AllReadyH.cons rfl (fun K hK => ?_) AllReadyH.nil
              go_simp
              have rb := Rd.one v6 (.slice A5 s.l.length c5) 22
              have kn := Keep.alloc1 v6 (.cells #[.slice A5 s.l.length c5] 22)
              refine hK.out _ _ ⟨kn.cell hS.1, kn.cell hS.2⟩ (fun hS => ?_)
              clear hK K
              try simp only [Act.put, List.setIfInBounds_toArray, List.set_cons_zero, List.set_cons_succ]
              generalize (v6.alloc (.cells #[.slice A5 s.l.length c5] 22)) = v8 at rb kn hS ⊢
              generalize v6.heap.size = gb at rb ⊢
              replace kk := kk.trans kn
              replace fR := fR.keep kn
              replace fO := fO.keep kn
              replace bO := bO.keep kn
              replace bm := bm.keep kn
              replace b0 := b0.keep kn
              replace fB := fB.keep kn
              replace f5 := f5.keep kn
              replace fs := fun s' h => (fs s' h).keep kn
              clear kn
              refine wpAnyH_ready (rs := [9]) (by kernel_rfl) (by simp) ?_
              refine AllReadyH.cons rfl (fun K hK => ?_) AllReadyH.nil
              rw [if_pos (by rfl)]
              refine wp_append_fr _ (.tmp 46) (.tmp 53) 23 rfl B 22 (.slice none 0 0) 24 Tryz.underlying23 infoInts rfl AB i cB _ rfl fB (some ⟨gb, 0, none⟩) 1 1 [.slice A5 s.l.length c5] rfl rfl rb (fun u hu => by rw [List.mem_singleton] at hu; subst hu; rfl) ?x9a ?x9b ?x9c ?_
              case x9a => unfold maxLen; omega
              case x9b => omega
              case x9c => have := HB.out; have := kk.size; omega
              intro AB' cB' v9 happ
              have offI : ∀ {A : Option Addr} {n c : Nat} {vs : List Value}, Fr 3 v8 B A n c vs → Fr 3 v9 B A n c vs := fun h => h.grown happ.2.1 fun q hq e => Fr.offtype h fB (by decide) q hq e
              have offM : ∀ {g : Nat} {l : List Value}, Blk v8 g 25 l → Blk v9 g 25 l := fun h => h.grown happ.2.1 fun e => (fB.own_ne h (by decide) _ e.symm) rfl
              have k9 := kk.grown happ.2.1 (fun q e => by rw [← HB.out]; exact (fB.own_ge e).1)
              have fB9 := happ.fr
              replace fR := offI fR
              replace fO := offI fO
              try replace f5 := offI f5
              replace bm := offM bm
              replace b0 := offM b0
              replace bO := offM bO
              replace fs := fun s' h => offI (fs s' h)
              clear happ fB kk offI offM
              have kk := k9
              have fB := fB9
              clear k9 fB9
              refine hK.out _ _ ⟨bm.cell_ (i := 1) rfl, kk.cell hcw⟩ (fun hS => ?_)
              clear hK K
              change wpAnyH _ _ _ _ _ _ _ (Act.put _ (some 54) _) _
              try simp only [Act.put, List.setIfInBounds_toArray, List.set_cons_zero, List.set_cons_succ]
              refine wpAnyH_take (i := 10) (v := ?_) rfl (by kernel_rfl) (by kernel_rfl) (by kernel_rfl) (fun _ _ _ h => h) (Or.inl ⟨by rfl, ?_⟩) hS ?_
              rotate_left
              · (intro w hSw; (try dsimp only at hSw); go_simp; (first | done | with_reducible rfl))
              change wpAnyH _ _ _ _ _ _ _ (Act.put _ (some 55) _) _
              simp only [Act.put, List.setIfInBounds_toArray, List.set_cons_zero, List.set_cons_succ]
              refine wpAnyH_ready (rs := [11]) (by kernel_rfl) (by simp) ?_
              refine AllReadyH.cons rfl (fun K hK => ?_) AllReadyH.nil
              have m1 := bO.cell_ (i := 1) rfl
              have fm1 := bO.frozen 1
              go_simp
              refine hK.out _ _ ⟨(bm.far (p := ⟨gO, 1, none⟩) (by simp only; omega) (.slice AB' (i + 1) cB')).cell_ (i := 1) rfl, (kk.setCell (p := ⟨gO, 1, none⟩) (by have := HB.out; simp only; omega) (.slice AB' (i + 1) cB')).cell hcw⟩ (fun hS => ?_)
              clear hK K
              try simp only [Act.put, List.setIfInBounds_toArray]
              clear m1 fm1
              refine wpAnyH_done (by kernel_rfl) ?_ _
              refine NoPanic.normal ?_
              have hb9 : B ≤ gO := by omega
              replace kk := kk.setCell (p := ⟨gO, 1, none⟩) (by have := HB.out; simp only; omega) (.slice AB' (i + 1) cB')
              have far : ∀ {e : TypeId} {A : Option Addr} {n c : Nat} {vs : List Value}, e ≠ 25 → Fr e v9 B A n c vs → Fr e (v9.setCell ⟨gO, 1, none⟩ (.slice AB' (i + 1) cB')) B A n c vs := fun hne h => h.setCell (p := ⟨gO, 1, none⟩) (fun q hq => h.own_ne bO hne q hq) _
              replace fR := far (by decide) fR
              replace fO := far (by decide) fO
              replace fB := far (by decide) fB
              replace fs := fun s' h => far (by decide) (fs s' h)
              replace f5 := far (by decide) f5
              replace bm := bm.far (p := ⟨gO, 1, none⟩) (by simp only; omega) (.slice AB' (i + 1) cB')
              replace b0 := b0.far (p := ⟨gO, 1, none⟩) (by simp only; omega) (.slice AB' (i + 1) cB')
              replace bO := bO.set_ 1 (.slice AB' (i + 1) cB')
              clear far
              generalize v9.setCell ⟨gO, 1, none⟩ (.slice AB' (i + 1) cB') = wz at kk fR fO fB fs f5 bm b0 bO ⊢
              rw [← HBA.out] at bm
              have HS2 := Lib.hid (fun s' (h : s' ∈ ss ++ [(⟨A5, c5, s.l⟩ : Sl)]) => show Fr 3 wz B s'.a s'.l.length s'.c (cs .i64 s'.l) from by
                rcases List.mem_append.1 h with h | h
                · exact fs s' h
                · rw [List.mem_singleton] at h
                  subst h
                  exact f5)
              have hm1 : ss.map Sl.val ++ [Sl.val ⟨A5, c5, s.l⟩] = (ss ++ [(⟨A5, c5, s.l⟩ : Sl)]).map Sl.val := by rw [List.map_append]; rfl
              change Fr _ _ _ _ _ _ (ss.map Sl.val ++ [Sl.val ⟨A5, c5, s.l⟩]) at fB
              rw [hm1] at fB
              have HB2 := Lib.hid (show bidsOf (ss ++ [(⟨A5, c5, s.l⟩ : Sl)]) = ((bidsOf M.bs).set p []).take (i + 1) by rw [List.take_add_one, HGET.out, ← hbd.out]; simp [bidsOf])
              have HL2 := Lib.hid (show (ss ++ [(⟨A5, c5, s.l⟩ : Sl)]).length = i + 1 by rw [List.length_append, hsl.out]; rfl)
              clear hm1 fs
              go_wp2_with fail
              go_roundw
              case rel => exact ⟨i + 1, AB', cB', ss ++ [⟨A5, c5, s.l⟩], by omega, by go_num, HB2, HL2, fB, HS2.out, fR, fO, bO, bm, b0, kk⟩
              case measure => simp [intOf]; omega
            refine AllReadyH.cons rfl (fun K hK => ?_) ?_
            · go_simp
              have rb := Rd.one v6 (.slice A5 s.l.length c5) 22
              have kn := Keep.alloc1 v6 (.cells #[.slice A5 s.l.length c5] 22)
              refine hK.out _ _ ⟨kn.cell hS.1, kn.cell hS.2⟩ (fun hS => ?_)
              clear hK K
              try simp only [Act.put, List.setIfInBounds_toArray, List.set_cons_zero, List.set_cons_succ]
              generalize (v6.alloc (.cells #[.slice A5 s.l.length c5] 22)) = v11 at rb kn hS ⊢
              generalize v6.heap.size = gb at rb ⊢
              replace kk := kk.trans kn
              replace fR := fR.keep kn
              replace fO := fO.keep kn
              replace bO := bO.keep kn
              replace bm := bm.keep kn
              replace b0 := b0.keep kn
              replace fB := fB.keep kn
              replace f5 := f5.keep kn
              replace fs := fun s' h => (fs s' h).keep kn
              clear kn
              refine wpAnyH_ready (rs := [1]) (by kernel_rfl) (by simp) ?_
              refine AllReadyH.cons rfl (fun K hK => ?_) AllReadyH.nil
              have m1 := bO.cell_ (i := 1) rfl
              go_simp
              refine hK.out _ _ hS (fun hS => ?_)
              clear hK K
              try simp only [Act.put, List.setIfInBounds_toArray, List.set_cons_zero, List.set_cons_succ]
              clear m1
              refine wpAnyH_ready (rs := [9]) (by kernel_rfl) (by simp) ?_
              refine AllReadyH.cons rfl (fun K hK => ?_) AllReadyH.nil
              rw [if_pos (by rfl)]
              refine wp_append_fr _ (.tmp 46) (.tmp 53) 23 rfl B 22 (.slice none 0 0) 24 Tryz.underlying23 infoInts rfl AB i cB _ rfl fB (some ⟨gb, 0, none⟩) 1 1 [.slice A5 s.l.length c5] rfl rfl rb (fun u hu => by rw [List.mem_singleton] at hu; subst hu; rfl) ?x10a ?x10b ?x10c ?_
              case x10a => unfold maxLen; omega
              case x10b => omega
              case x10c => have := HB.out; have := kk.size; omega
              intro AB' cB' v13 happ
              have offI : ∀ {A : Option Addr} {n c : Nat} {vs : List Value}, Fr 3 v11 B A n c vs → Fr 3 v13 B A n c vs := fun h => h.grown happ.2.1 fun q hq e => Fr.offtype h fB (by decide) q hq e
              have offM : ∀ {g : Nat} {l : List Value}, Blk v11 g 25 l → Blk v13 g 25 l := fun h => h.grown happ.2.1 fun e => (fB.own_ne h (by decide) _ e.symm) rfl
              have k9 := kk.grown happ.2.1 (fun q e => by rw [← HB.out]; exact (fB.own_ge e).1)
              have fB9 := happ.fr
              replace fR := offI fR
              replace fO := offI fO
              try replace f5 := offI f5
              replace bm := offM bm
              replace b0 := offM b0
              replace bO := offM bO
              replace fs := fun s' h => offI (fs s' h)
              clear happ fB kk offI offM
              have kk := k9
              have fB := fB9
              clear k9 fB9
              refine hK.out _ _ ⟨bm.cell_ (i := 1) rfl, kk.cell hcw⟩ (fun hS => ?_)
              clear hK K
              change wpAnyH _ _ _ _ _ _ _ (Act.put _ (some 54) _) _
              try simp only [Act.put, List.setIfInBounds_toArray, List.set_cons_zero, List.set_cons_succ]
              refine wpAnyH_take (i := 10) (v := ?_) rfl (by kernel_rfl) (by kernel_rfl) (by kernel_rfl) (fun _ _ _ h => h) (Or.inl ⟨by rfl, ?_⟩) hS ?_
              rotate_left
              · (intro w hSw; (try dsimp only at hSw); go_simp; (first | done | with_reducible rfl))
              change wpAnyH _ _ _ _ _ _ _ (Act.put _ (some 55) _) _
              simp only [Act.put, List.setIfInBounds_toArray, List.set_cons_zero, List.set_cons_succ]
              refine wpAnyH_ready (rs := [11]) (by kernel_rfl) (by simp) ?_
              refine AllReadyH.cons rfl (fun K hK => ?_) AllReadyH.nil
              have m1 := bO.cell_ (i := 1) rfl
              have fm1 := bO.frozen 1
              go_simp
              refine hK.out _ _ ⟨(bm.far (p := ⟨gO, 1, none⟩) (by simp only; omega) (.slice AB' (i + 1) cB')).cell_ (i := 1) rfl, (kk.setCell (p := ⟨gO, 1, none⟩) (by have := HB.out; simp only; omega) (.slice AB' (i + 1) cB')).cell hcw⟩ (fun hS => ?_)
              clear hK K
              try simp only [Act.put, List.setIfInBounds_toArray]
              clear m1 fm1
              refine wpAnyH_done (by kernel_rfl) ?_ _
              refine NoPanic.normal ?_
              have hb9 : B ≤ gO := by omega
              replace kk := kk.setCell (p := ⟨gO, 1, none⟩) (by have := HB.out; simp only; omega) (.slice AB' (i + 1) cB')
              have far : ∀ {e : TypeId} {A : Option Addr} {n c : Nat} {vs : List Value}, e ≠ 25 → Fr e v13 B A n c vs → Fr e (v13.setCell ⟨gO, 1, none⟩ (.slice AB' (i + 1) cB')) B A n c vs := fun hne h => h.setCell (p := ⟨gO, 1, none⟩) (fun q hq => h.own_ne bO hne q hq) _
              replace fR := far (by decide) fR
              replace fO := far (by decide) fO
              replace fB := far (by decide) fB
              replace fs := fun s' h => far (by decide) (fs s' h)
              replace f5 := far (by decide) f5
              replace bm := bm.far (p := ⟨gO, 1, none⟩) (by simp only; omega) (.slice AB' (i + 1) cB')
              replace b0 := b0.far (p := ⟨gO, 1, none⟩) (by simp only; omega) (.slice AB' (i + 1) cB')
              replace bO := bO.set_ 1 (.slice AB' (i + 1) cB')
              clear far
              generalize v13.setCell ⟨gO, 1, none⟩ (.slice AB' (i + 1) cB') = wz at kk fR fO fB fs f5 bm b0 bO ⊢
              rw [← HBA.out] at bm
              have HS2 := Lib.hid (fun s' (h : s' ∈ ss ++ [(⟨A5, c5, s.l⟩ : Sl)]) => show Fr 3 wz B s'.a s'.l.length s'.c (cs .i64 s'.l) from by
                rcases List.mem_append.1 h with h | h
                · exact fs s' h
                · rw [List.mem_singleton] at h
                  subst h
                  exact f5)
              have hm1 : ss.map Sl.val ++ [Sl.val ⟨A5, c5, s.l⟩] = (ss ++ [(⟨A5, c5, s.l⟩ : Sl)]).map Sl.val := by rw [List.map_append]; rfl
              change Fr _ _ _ _ _ _ (ss.map Sl.val ++ [Sl.val ⟨A5, c5, s.l⟩]) at fB
              rw [hm1] at fB
              have HB2 := Lib.hid (show bidsOf (ss ++ [(⟨A5, c5, s.l⟩ : Sl)]) = ((bidsOf M.bs).set p []).take (i + 1) by rw [List.take_add_one, HGET.out, ← hbd.out]; simp [bidsOf])
              have HL2 := Lib.hid (show (ss ++ [(⟨A5, c5, s.l⟩ : Sl)]).length = i + 1 by rw [List.length_append, hsl.out]; rfl)
              clear hm1 fs
              go_wp2_with fail
              go_roundw
              case rel => exact ⟨i + 1, AB', cB', ss ++ [⟨A5, c5, s.l⟩], by omega, by go_num, HB2, HL2, fB, HS2.out, fR, fO, bO, bm, b0, kk⟩
              case measure => simp [intOf]; omega
            exact AllReadyH.nil
          exact AllReadyH.nil
      · obtain rfl : i = M.bs.length := by omega
        have c0 := bO.cell_ (i := 0) rfl
        have c1' := bO.cell_ (i := 1) rfl
        have c2' := bO.cell_ (i := 2) rfl
        have d1 := bm.cell_ (i := 1) rfl
        go_wp2_with (refine wpList_store_row rfl 25 _ _ rfl (B + 1) #[.slice A1 M.r.l.length c1, .slice AB M.bs.length cB, .slice A2 M.o.l.length c2] rfl rfl _ _ b0 (by kernel_rfl) rfl (by simp [Value.oneCell']) ?_)
        refine bodyPost_ret (wo_results rfl (b0.row _) rfl) rfl ?_
        have hv := HV.out
        simp only [Prod.mk.injEq] at hv
        obtain ⟨hv1, rfl⟩ := hv
        have og := only_row wr (B + 1) #[.slice A1 M.r.l.length c1, .slice AB M.bs.length cB, .slice A2 M.o.l.length c2]
        have far : ∀ {e : TypeId} {A : Option Addr} {n c : Nat} {vs : List Value}, e ≠ 25 → Fr e wr B A n c vs → Fr e (wr.setRow (B + 1) #[.slice A1 M.r.l.length c1, .slice AB M.bs.length cB, .slice A2 M.o.l.length c2]) B A n c vs := fun hne h => h.grown og (fun q hq e => by injection e with e; exact h.own_ne b0 hne q hq e)
        have hb := hbd.out
        rw [List.take_of_length_le (by rw [List.length_set, length_bids]; exact Nat.le_refl _)] at hb
        have hck := chkM_out (M := M) (N := ⟨⟨A1, c1, M.r.l⟩, AB, cB, ss, ⟨A2, c2, M.o.l⟩⟩) HC.out ⟨rfl, hb, rfl⟩
        have fR' := far (by decide) fR
        have fO' := far (by decide) fO
        have fB' := far (by decide) fB
        refine ⟨⟨⟨A1, c1, M.r.l⟩, AB, cB, ss, ⟨A2, c2, M.o.l⟩⟩, ?_, ⟨⟨⟨fR'.rd, fR'.cap, fR'.capMax, hM.r.inn.wf⟩, fR'.capNil⟩, ⟨fB'.rd, by rw [hsl.out]; exact fB'.cap, fB'.capMax, fun s' hs' => ?_⟩, fB'.capNil, ⟨⟨fO'.rd, fO'.cap, fO'.capMax, hM.o.inn.wf⟩, fO'.capNil⟩⟩, ?_, chkM_few hck, kk.grown og (fun k e => by injection e with e; have := HB.out; omega)⟩
        · show _ = Ending.returned (.tuple #[.agg #[_, .slice AB ss.length cB, _], _])
          rw [hsl.out]
          rfl
        · have f3 := far (by decide) (fs s' hs')
          refine ⟨⟨f3.rd, f3.cap, f3.capMax, fun x hx => ?_⟩, f3.capNil⟩
          have hm : s'.l ∈ bidsOf ss := List.mem_map.2 ⟨s', hs', rfl⟩
          rw [hb] at hm
          rcases List.mem_or_eq_of_mem_set hm with h | h
          · obtain ⟨s2, h2, e2⟩ := List.mem_map.1 h
            rw [← e2] at hx
            exact (hM.b.ok s2 h2).inn.wf x hx
          · rw [h] at hx
            cases hx
        · unfold Mkt.lists
          rw [← hv1, hb]
          rfl
end Go.Proofs.YtbfldlokocpjaaaGreatDoor

namespace Go.Proofs.YtbfldlokocpjaaaGreatDoor
open Go.RowKit

set_option maxRecDepth 100000 in
set_option maxHeartbeats 2000000 in
theorem leftInts_f (A B : Option Addr) (ca cb : Nat) (xs : List Int) (base : Nat) (w : World) (ht : Twin w base ⟨A, ca, xs⟩) (hb : Rd w B (cs .i64 xs)) (la : xs.length ≤ 1000000) :
    Calls Tryz.prog 26 #[.slice A xs.length ca, .slice B xs.length cb] w fun e w' => e = .returned (.bool true) ∧ Keep w w' := by
  have hcap : xs.length + 1 ≤ ca := Fr.cap ht
  have hcm := Fr.capMax ht
  unfold maxLen at hcm
  have hra : Rd w A (cs .i64 (xs ++ [77])) := Fr.rd ht
  have y1 : decide ((ca : Int) ≤ xs.length) = false := decide_eq_false (by omega)
  have y2 : (ca ≤ xs.length) = False := eq_false (by omega)
  have z1 : ((xs.length : Int) != xs.length) = false := by simp
  obtain ⟨bm, om, hAm, hmark⟩ := hra.at_ (j := xs.length) (by rw [length_cs, List.length_append]; simp)
  have hval : (cs .i64 (xs ++ [77]))[xs.length]'(by rw [length_cs, List.length_append]; simp) = .int .i64 77 := by
    simp [cs]
  rw [hval] at hmark
  clear hval
  have HA := Lib.hid hAm
  clear ht hAm
  go_enter Tryz.func26, Tryz.ntmps26
  go_wp2_with fail
  go_loopw [5] (fun v wr => ∃ i : Nat, i ≤ xs.length ∧ v = .int .i64 i ∧ Keep w wr) (fun v _ => xs.length - (intOf v).toNat)
  case atStart => exact ⟨0, Nat.zero_le _, rfl, Keep.refl _⟩
  case round =>
    obtain ⟨i, hi, rfl, hk⟩ := hrel
    by_cases hlt : i < xs.length
    · obtain ⟨b1, o1, x, e1, hx, cA⟩ := (hra.keep hk).int_at (j := i) (by rw [List.length_append]; simp; omega)
      obtain ⟨b2, o2, x2, e2, hx2, cB⟩ := (hb.keep hk).int_at hlt
      have hxx : x2 = x := by
        rw [List.getElem?_append_left hlt] at hx
        exact Option.some.inj (hx2.symm.trans hx)
      subst hxx
      subst e1
      subst e2
      have z2 : (x2 != x2) = false := by simp
      have hi1 : (i : Int) < xs.length := by omega
      have hi0 : (0 : Int) ≤ i := by omega
      clear hx hx2
      go_upto_region 6 with fail
      refine wp_region_noPanic ?_
      refine wp_region_held_drew (S := (fun w' => w'.cell? ⟨b1, o1 + i, none⟩ = some (.int .i64 x2) ∧ w'.cell? ⟨b2, o2 + i, none⟩ = some (.int .i64 x2))) (by kernel_rfl) ⟨cA, cB⟩ (fun hS => ?_)
      refine wpAnyH_take (i := 0) (v := ?_) rfl (by kernel_rfl) (by kernel_rfl) (by kernel_rfl) (fun _ _ _ h => h) (Or.inl ⟨by rfl, ?_⟩) hS ?_
      rotate_left
      · (intro w hSw; (try dsimp only at hSw); go_simp; (first | done | with_reducible rfl))
      change wpAnyH _ _ _ _ _ _ _ (Act.put _ (some 25) _) _
      simp only [Act.put, List.setIfInBounds_toArray, List.set_cons_zero, List.set_cons_succ]
      refine wpAnyH_take (i := 1) (v := ?_) rfl (by kernel_rfl) (by kernel_rfl) (by kernel_rfl) (fun _ _ _ h => h) (Or.inl ⟨by rfl, ?_⟩) hS ?_
      rotate_left
      · (intro w hSw; (try dsimp only at hSw); go_simp; (first | done | with_reducible rfl))
      change wpAnyH _ _ _ _ _ _ _ (Act.put _ (some 26) _) _
      simp only [Act.put, List.setIfInBounds_toArray, List.set_cons_zero, List.set_cons_succ]
      refine wpAnyH_take (i := 2) (v := ?_) rfl (by kernel_rfl) (by kernel_rfl) (by kernel_rfl) (fun _ _ _ h => h) (Or.inl ⟨by rfl, ?_⟩) hS ?_
      rotate_left
      · (intro w hSw; (try dsimp only at hSw); go_simp; (first | done | with_reducible rfl))
      change wpAnyH _ _ _ _ _ _ _ (Act.put _ (some 27) _) _
      simp only [Act.put, List.setIfInBounds_toArray, List.set_cons_zero, List.set_cons_succ]
      refine wpAnyH_take (i := 3) (v := ?_) rfl (by kernel_rfl) (by kernel_rfl) (by kernel_rfl) (fun _ _ _ h => h) (Or.inl ⟨by rfl, ?_⟩) hS ?_
      rotate_left
      · (intro w hSw; (try dsimp only at hSw); go_simp; (first | done | with_reducible rfl))
      change wpAnyH _ _ _ _ _ _ _ (Act.put _ (some 28) _) _
      simp only [Act.put, List.setIfInBounds_toArray, List.set_cons_zero, List.set_cons_succ]
      refine wpAnyH_take (i := 4) (v := ?_) rfl (by kernel_rfl) (by kernel_rfl) (by kernel_rfl) (fun _ _ _ h => h) (Or.inl ⟨by rfl, ?_⟩) hS ?_
      rotate_left
      · (intro w hSw; (try dsimp only at hSw); go_simp; (first | done | with_reducible rfl))
      change wpAnyH _ _ _ _ _ _ _ (Act.put _ (some 29) _) _
      simp only [Act.put, List.setIfInBounds_toArray, List.set_cons_zero, List.set_cons_succ]
      refine wpAnyH_take (i := 5) (v := ?_) rfl (by kernel_rfl) (by kernel_rfl) (by kernel_rfl) (fun _ _ _ h => h) (Or.inl ⟨by rfl, ?_⟩) hS ?_
      rotate_left
      · (intro w hSw; (try dsimp only at hSw); go_simp; (first | done | with_reducible rfl))
      change wpAnyH _ _ _ _ _ _ _ (Act.put _ (some 30) _) _
      simp only [Act.put, List.setIfInBounds_toArray, List.set_cons_zero, List.set_cons_succ]
      refine wpAnyH_take (i := 6) (v := ?_) rfl (by kernel_rfl) (by kernel_rfl) (by kernel_rfl) (fun _ _ _ h => h) (Or.inl ⟨by rfl, ?_⟩) hS ?_
      rotate_left
      · (intro w hSw; (try dsimp only at hSw); go_simp; (first | done | with_reducible rfl))
      change wpAnyH _ _ _ _ _ _ _ (Act.put _ (some 31) _) _
      simp only [Act.put, List.setIfInBounds_toArray, List.set_cons_zero, List.set_cons_succ]
      refine wpAnyH_take (i := 7) (v := ?_) rfl (by kernel_rfl) (by kernel_rfl) (by kernel_rfl) (fun _ _ _ h => h) (Or.inl ⟨by rfl, ?_⟩) hS ?_
      rotate_left
      · (intro w hSw; (try dsimp only at hSw); go_simp; (first | done | with_reducible rfl))
      change wpAnyH _ _ _ _ _ _ _ (Act.put _ (some 32) _) _
      simp only [Act.put, List.setIfInBounds_toArray, List.set_cons_zero, List.set_cons_succ]
      refine wpAnyH_take (i := 8) (v := ?_) rfl (by kernel_rfl) (by kernel_rfl) (by kernel_rfl) (fun _ _ _ h => h) (Or.inl ⟨by rfl, ?_⟩) hS ?_
      rotate_left
      · (intro w hSw; (try dsimp only at hSw); go_simp; (first | done | with_reducible rfl))
      change wpAnyH _ _ _ _ _ _ _ (Act.put _ (some 33) _) _
      simp only [Act.put, List.setIfInBounds_toArray, List.set_cons_zero, List.set_cons_succ]
      refine wpAnyH_done (by kernel_rfl) ?_ _
      refine NoPanic.normal ?_
      go_wp2_with fail
      go_roundw
      case rel => exact ⟨i + 1, by omega, by go_num, hk.drew⟩
      case measure => simp [intOf]; omega
    · have hm2 := hk.cell hmark
      have y3 : (xs.length : Int) + 1 ≤ ca := by omega
      rw [HA.out]
      clear HA
      go_wp2_with fail
      go_ret
      exact ⟨rfl, hk⟩
end Go.Proofs.YtbfldlokocpjaaaGreatDoor

namespace Go.Proofs.YtbfldlokocpjaaaGreatDoor
open Go.RowKit

/-- A value that stands as a slice is one cell. -/
theorem one_sl (s : Sl) : ∀ u ∈ [s.val], u.oneCell' = true := by
  intro u hu
  rw [List.mem_singleton] at hu
  subst hu
  rfl
/-- Copies of the call's own, in rows apart. -/
def Twins (w : World) (base : Nat) (ts : List Sl) : Prop := (∀ t ∈ ts, Twin w base t) ∧ ts.Pairwise Sep
theorem Twins.keep {w w' : World} {base : Nat} {ts : List Sl} (h : Twins w base ts) (hk : Keep w w') : Twins w' base ts := ⟨fun t ht => (h.1 t ht).keep hk, h.2⟩
theorem Twins.snoc {w : World} {base : Nat} {ts : List Sl} {t : Sl} (h : Twins w base ts) (ht : Twin w base t) (hn : ∀ u ∈ ts, Sep u t) : Twins w base (ts ++ [t]) := by
  refine ⟨fun u hu => ?_, ?_⟩
  · rcases List.mem_append.1 hu with hu | hu
    · exact h.1 u hu
    · rw [List.mem_singleton] at hu
      exact hu ▸ ht
  · rw [List.pairwise_append]
    refine ⟨h.2, List.pairwise_singleton _ _, fun u hu v hv => ?_⟩
    rw [List.mem_singleton] at hv
    exact hv ▸ hn u hu
/-- What lay ahead lies apart from what is new. -/
theorem Sep.new {w w' : World} {base : Nat} {s t : Sl} {e e' : TypeId} {n n' : Nat} {vs vs' : List Value} (h : Fr e w base s.a n s.c vs) (h' : Fr e' w' w.heap.size t.a n' t.c vs') : Sep s t := fun k hk e => by
  have h1 := (h.own_ge hk).2
  have h2 := (h'.own_ge e).1
  omega
/-- An append onto a row of slices leaves the copies. -/
theorem Twins.appended {w w' : World} {base : Nat} {ts : List Sl} {A A' : Option Addr} {c c' n n' : Nat} {us vs : List Value} (h : Twins w base ts) (hf : Fr 22 w base A n c us) (happ : Appended 22 w base A c n' vs A' c' w') : Twins w' base ts :=
  ⟨fun t ht => Fr.grown (h.1 t ht) happ.2.1 fun k hk e => Fr.offtype (h.1 t ht) hf (by decide) k hk e, h.2⟩

set_option maxRecDepth 100000 in
set_option maxHeartbeats 4000000 in
theorem twinLists_f (A : Option Addr) (c : Nat) (ss : List Sl) (w : World) (ha : InR .i64 w A c ss) (hn : ss.length ≤ 1000000) (hh : Short ss) :
    Calls Tryz.prog 30 #[.slice A ss.length c] w fun e w' => ∃ (A' : Option Addr) (c' : Nat) (ts : List Sl) (z : Sl), e = .returned (.slice A' ss.length c') ∧ bidsOf ts = bidsOf ss ∧ z.l = [77] ∧ Twins w' w.heap.size ts ∧ Fr 22 w' w.heap.size A' (ss.length + 1) c' (ts.map Sl.val ++ [z.val]) ∧ Fr 3 w' w.heap.size z.a 1 z.c (cs .i64 z.l) ∧ Keep w w' := by
  have hmk : ∀ w : World, (Instr.makeSlice 23 (.int .i64 0) (.int .i64 ((ss.length : Int) + 1))).run Tryz.prog w = .ok (.slice (some ⟨w.heap.size, 0, none⟩) 0 (ss.length + 1)) (w.alloc (.cells (madeCells #[.slice none 0 0] (ss.length + 1)) 22)) := fun w => run_make_room (P := Tryz.prog) 23 22 (.slice none 0 0) 24 Tryz.underlying23 infoInts rfl .i64 .i64 (ss.length + 1) (by omega) (by omega) w
  have HH := Lib.hid hh
  clear hh
  go_enter Tryz.func30, Tryz.ntmps30
  go_upto_region 2 with fail
  have kk : Keep w (w.alloc (.cells (madeCells #[.slice none 0 0] (ss.length + 1)) 22)) := Keep.alloc1 _ _
  have f0 : Fr 22 (w.alloc (.cells (madeCells #[.slice none 0 0] (ss.length + 1)) 22)) w.heap.size (some ⟨w.heap.size, 0, none⟩) 0 (ss.length + 1) [] := Fr.new w _ _ (Nat.zero_le _) (by unfold maxLen; omega) (by rw [size_madeCells]; exact Nat.le_refl _) (Nat.le_refl _)
  generalize w.alloc (.cells (madeCells #[.slice none 0 0] (ss.length + 1)) 22) = w1 at kk f0 ⊢
  clear hmk
  go_wp2_with fail
  go_loopw [3, 4] (fun v i wr => ∃ (k : Nat) (B : Option Addr) (c : Nat) (ts : List Sl), k ≤ ss.length ∧ i = .int .i64 k ∧ v = .slice B k c ∧ bidsOf ts = bidsOf (ss.take k) ∧ Fr 22 wr w.heap.size B k c (ts.map Sl.val) ∧ Twins wr w.heap.size ts ∧ Keep w wr) (fun _ i _ => ss.length - (intOf i).toNat)
  case atStart => exact ⟨0, _, _, [], Nat.zero_le _, rfl, rfl, rfl, f0, ⟨fun t h => (by cases h), List.Pairwise.nil⟩, kk⟩
  case round =>
    clear f0 kk
    obtain ⟨k, B, c, ts, hk, rfl, rfl, hbt, hfr, htw, hkeep⟩ := hrel
    have HB := Lib.hid hbt
    clear hbt
    by_cases hlt : k < ss.length
    · obtain ⟨b1, o1, s, hsa, hsk, hc1, hs⟩ := (ha.keep hkeep).at_ hlt
      have HX := Lib.hid hsk
      have hq := twinInts_f s wr hs (HH.out s (List.mem_of_getElem? hsk))
      rw [hsa]
      clear hsk hsa
      go_wp2_with fail
      refine hq.mono ?_
      rintro e w2 ⟨A2, c2, rfl, ht2, k2⟩
      have hsep : ∀ u ∈ ts, Sep u ⟨A2, c2, s.l⟩ := fun u hu => Sep.new (htw.1 u hu) ht2
      have ht3 : Twin w2 w.heap.size ⟨A2, c2, s.l⟩ := Fr.mono ht2 hkeep.size
      replace htw := (htw.keep k2).snoc ht3 hsep
      replace hfr := hfr.keep k2
      replace hkeep := hkeep.trans k2
      clear ht2 ht3 hsep hq k2 hc1 hs
      go_wp2_with (at_builtin; refine wpList_append_fr _ rfl _ _ 23 rfl w.heap.size 22 (.slice none 0 0) 24 Tryz.underlying23 infoInts rfl B k c _ rfl (hfr.keep (Keep.alloc1 _ _)) (some ⟨w2.heap.size, 0, none⟩) 1 1 [.slice A2 s.l.length c2] rfl rfl (Rd.one _ _ _) (one_sl ⟨A2, c2, s.l⟩) ?c1 ?c2 ?c3 ?_)
      case c1 => unfold maxLen; omega
      case c2 => omega
      case c3 => have := hkeep.size; simp; omega
      intro A' c' w3 happ
      have hk2 := happ.keep (hkeep.alloc _) (hfr.keep (Keep.alloc1 _ _))
      have hf1 := happ.fr
      have ht1 := (htw.keep (Keep.alloc1 _ _)).appended (hfr.keep (Keep.alloc1 _ _)) happ
      have hb1 : bidsOf (ts ++ [(⟨A2, c2, s.l⟩ : Sl)]) = bidsOf (ss.take (k + 1)) := by
        rw [List.take_add_one, HX.out]
        unfold bidsOf
        rw [List.map_append, List.map_append]
        exact congrArg (· ++ [s.l]) HB.out
      have HB1 := Lib.hid hb1
      have hm1 : ts.map Sl.val ++ [.slice A2 s.l.length c2] = (ts ++ [(⟨A2, c2, s.l⟩ : Sl)]).map Sl.val := by rw [List.map_append]; rfl
      rw [hm1] at hf1
      clear happ hfr htw hb1 hm1
      go_wp2_with fail
      go_roundw
      case rel => exact ⟨k + 1, A', c', _, by omega, by go_num, rfl, HB1.out, hf1, ht1, hk2⟩
      case measure => simp [intOf]; omega
    · obtain rfl : k = ss.length := by omega
      have hb1 := HB.out
      rw [List.take_of_length_le (Nat.le_refl _)] at hb1
      have HB1 := Lib.hid hb1
      have kz := Keep.alloc1 wr (.cells #[.int .i64 77] 3)
      have fz : Fr 3 (wr.alloc (.cells #[.int .i64 77] 3)) w.heap.size (some ⟨wr.heap.size, 0, none⟩) 1 1 (cs .i64 [77]) := Fr.new wr #[.int .i64 77] 3 (Nat.le_refl _) (by unfold maxLen; omega) (Nat.le_refl _) hkeep.size
      replace hkeep := hkeep.trans kz
      replace hfr := hfr.keep kz
      replace htw := htw.keep kz
      clear hb1 HB
      have hsz : (wr.alloc (.cells #[.int .i64 77] 3)).heap.size = wr.heap.size + 1 := by simp
      have hro := Rd.one (wr.alloc (.cells #[.int .i64 77] 3)) (.slice (some ⟨wr.heap.size, 0, none⟩) 1 1) 22
      rw [hsz] at hro
      clear hsz
      go_wp2_with (at_builtin; refine wpList_append_fr _ rfl _ _ 23 rfl w.heap.size 22 (.slice none 0 0) 24 Tryz.underlying23 infoInts rfl B ss.length c _ rfl (hfr.keep (Keep.alloc1 _ _)) (some ⟨wr.heap.size + 1, 0, none⟩) 1 1 [.slice (some ⟨wr.heap.size, 0, none⟩) 1 1] rfl rfl hro (one_sl ⟨some ⟨wr.heap.size, 0, none⟩, 1, [77]⟩) ?d1 ?d2 ?d3 ?_)
      case d1 => unfold maxLen; omega
      case d2 => omega
      case d3 => have := hkeep.size; simp at this ⊢; omega
      intro A' c' w2 happ
      have hk2 := happ.keep (hkeep.alloc _) (hfr.keep (Keep.alloc1 _ _))
      have hf1 := happ.fr
      have ht1 := (htw.keep (Keep.alloc1 _ _)).appended (hfr.keep (Keep.alloc1 _ _)) happ
      have hz1 : Fr 3 w2 w.heap.size (some ⟨wr.heap.size, 0, none⟩) 1 1 (cs .i64 [77]) := Fr.grown (fz.keep (Keep.alloc1 _ _)) happ.2.1 fun k hk e => Fr.offtype fz (hfr) (by decide) k hk e
      have hc1 := hf1.cap
      clear happ hfr htw fz kz
      have y1 : (ss.length : Int) ≤ c' := by omega
      go_wp2_with fail
      go_ret
      exact ⟨A', c', ts, ⟨some ⟨wr.heap.size, 0, none⟩, 1, [77]⟩, rfl, HB1.out, rfl, ht1, hf1, hz1, hk2⟩
end Go.Proofs.YtbfldlokocpjaaaGreatDoor

namespace Go.Proofs.YtbfldlokocpjaaaGreatDoor
open Go.RowKit

/-- N is a copy of M, of the call's own. -/
structure TwinMP (M N : Mkt) (base : Nat) (w : World) : Prop where
  r : N.r.l = M.r.l
  b : bidsOf N.bs = bidsOf M.bs
  o : N.o.l = M.o.l
  own : Twins w base (N.r :: (N.bs ++ [N.o]))
  outer : ∃ z : Sl, z.l = [77] ∧ Fr 22 w base N.ba (N.bs.length + 1) N.bc (N.bs.map Sl.val ++ [z.val]) ∧ Fr 3 w base z.a 1 z.c (cs .i64 z.l)
theorem TwinMP.keep {M N : Mkt} {base : Nat} {w w' : World} (h : TwinMP M N base w) (hk : Keep w w') : TwinMP M N base w' := by
  obtain ⟨z, h1, h2, h3⟩ := h.outer
  exact ⟨h.r, h.b, h.o, h.own.keep hk, z, h1, h2.keep hk, h3.keep hk⟩
theorem TwinMP.len {M N : Mkt} {base : Nat} {w : World} (h : TwinMP M N base w) : N.bs.length = M.bs.length := by
  have := congrArg List.length h.b
  simpa [bidsOf] using this
theorem TwinMP.ok {M N : Mkt} {base : Nat} {w w0 : World} (h : TwinMP M N base w) (hM : M.Ok w0) : N.Ok w := by
  obtain ⟨z, h1, h2, h3⟩ := h.outer
  have f2 := Fr.take h2 (Nat.le_succ N.bs.length)
  rw [show (N.bs.map Sl.val ++ [z.val]).take N.bs.length = N.bs.map Sl.val by rw [← List.length_map (f := Sl.val), List.take_left]] at f2
  have hw : ∀ s ∈ N.bs, ∀ x ∈ s.l, (Lit.int .i64 x).wf = true := fun s hs x hx => by
    have h4 : s.l ∈ bidsOf N.bs := List.mem_map.2 ⟨s, hs, rfl⟩
    rw [h.b] at h4
    obtain ⟨s', hs', e⟩ := List.mem_map.1 h4
    exact (hM.b.ok s' hs').inn.wf x (e ▸ hx)
  refine ⟨(h.own.1 _ List.mem_cons_self).ok (by rw [h.r]; exact hM.r.inn.wf), ⟨f2.rd, f2.cap, f2.capMax, fun s hs => (h.own.1 s (List.mem_cons_of_mem _ (List.mem_append_left _ hs))).ok (hw s hs)⟩, fun e => h2.capNil e, (h.own.1 N.o (List.mem_cons_of_mem _ (List.mem_append_right _ List.mem_cons_self))).ok (by rw [h.o]; exact hM.o.inn.wf)⟩
theorem Twin.far {w : World} {base g : Nat} {t : Sl} {cur : Array Value} {tt : TypeId} {z : Nat × Nat} (h : Twin w base t) (hb : w.heap[g]? = some (.cells cur tt z)) (hne : 3 ≠ tt) (j : Nat) (u : Value) : Twin (w.setCell ⟨g, j, none⟩ u) base t :=
  Fr.setCell h (fun k hk => Fr.own_ne h hb hne k hk) u
theorem Fr.blk {e : TypeId} {w : World} {base g n c : Nat} {vs : List Value} (h : Fr e w base (some ⟨g, 0, none⟩) n c vs) (hn : 0 < n) : ∃ cur, w.heap[g]? = some (.cells cur e (0, 0)) := by
  obtain ⟨_, h2, _, h4 | ⟨g', cur, hA, _, hg, _⟩⟩ := h
  · omega
  · cases hA
    exact ⟨cur, hg⟩
/-- A copy with another bid in one place and another order. -/
theorem TwinMP.other {M N : Mkt} {s o : Sl} {w1 w3 w5 : World} {gB gN k : Nat} {zz : Sl} {v : Value} {l : List Value} (tN : TwinMP M N w1.heap.size w3) (hM : M.Ok w1) (hs : s.Ok .i64 w1) (hk : k < N.bs.length)
    (hz : Fr 22 w3 w1.heap.size (some ⟨gB, 0, none⟩) (N.bs.length + 1) N.bc (N.bs.map Sl.val ++ [zz.val])) (hB : w1.heap.size ≤ gB) (hN : w1.heap.size ≤ gN) (kq : Keep w1 w3) (k45 : Keep (w3.setCell ⟨gB, k, none⟩ s.val) w5)
    (bN : Blk w5 gN 25 l) (fo : Fr 3 w5 w1.heap.size o.a o.l.length o.c (cs .i64 o.l)) (hw : ∀ x ∈ o.l, (Lit.int .i64 x).wf = true) :
    (⟨N.r, some ⟨gB, 0, none⟩, N.bc, N.bs.set k s, o⟩ : Mkt).Ok (w5.setCell ⟨gN, 2, none⟩ v) := by
  obtain ⟨cur, hcur⟩ := hz.blk (by omega)
  have k6 : Keep w1 (w5.setCell ⟨gN, 2, none⟩ v) := (((kq.setCell (p := ⟨gB, k, none⟩) hB _).trans k45)).setCell (p := ⟨gN, 2, none⟩) hN _
  have ht : ∀ t, Twin w3 w1.heap.size t → Twin (w5.setCell ⟨gN, 2, none⟩ v) w1.heap.size t := fun t h => ((h.far hcur (by decide) k s.val).keep k45).far bN (by decide) 2 v
  have hz4 := (hz.stored (j := k) (by omega) s.val).keep k45
  have hz6 := hz4.setCell (fun k' hk' => hz4.own_ne bN (by decide) k' hk') (p := ⟨gN, 2, none⟩) v
  have f6 := Fr.take hz6 (Nat.le_succ N.bs.length)
  have e6 : ((N.bs.map Sl.val ++ [zz.val]).set k s.val).take N.bs.length = (N.bs.set k s).map Sl.val := by
    rw [List.set_append_left _ _ (by rw [List.length_map]; exact hk), ← List.map_set]
    have hl : ((N.bs.set k s).map Sl.val).length = N.bs.length := by simp
    rw [← hl, List.take_left]
  rw [e6] at f6
  have hw' : ∀ s' ∈ N.bs, ∀ x ∈ s'.l, (Lit.int .i64 x).wf = true := fun s' hs' x hx => by
    have h4 : s'.l ∈ bidsOf N.bs := List.mem_map.2 ⟨s', hs', rfl⟩
    rw [tN.b] at h4
    obtain ⟨s2, hs2, e⟩ := List.mem_map.1 h4
    exact (hM.b.ok s2 hs2).inn.wf x (e ▸ hx)
  have fo6 := fo.setCell (fun k' hk' => fo.own_ne bN (by decide) k' hk') (p := ⟨gN, 2, none⟩) v
  refine ⟨(ht _ (tN.own.1 _ List.mem_cons_self)).ok (by rw [tN.r]; exact hM.r.inn.wf), ⟨f6.rd, by rw [List.length_set]; exact f6.cap, f6.capMax, fun t h => ?_⟩, (fun h => by cases h), ⟨⟨fo6.rd, fo6.cap, fo6.capMax, hw⟩, fun h => fo6.capNil h⟩⟩
  rcases List.mem_or_eq_of_mem_set h with h | rfl
  · exact (ht t (tN.own.1 t (List.mem_cons_of_mem _ (List.mem_append_left _ h)))).ok (hw' t h)
  · exact hs.keep k6
theorem bids_set (bs : List Sl) (k : Nat) (s : Sl) : bidsOf (bs.set k s) = (bidsOf bs).set k s.l := by
  unfold bidsOf
  rw [List.map_set]

set_option maxRecDepth 100000 in
set_option maxHeartbeats 4000000 in
theorem twinMarket_f (M : Mkt) (w : World) (hM : M.Ok w) (lr : M.r.l.length ≤ 1000000) (lb : M.bs.length ≤ 1000000) (hh : Short M.bs) (lo : M.o.l.length ≤ 1000000) :
    Calls Tryz.prog 6 #[M.val] w fun e w' => ∃ N : Mkt, e = .returned N.val ∧ TwinMP M N w.heap.size w' ∧ Keep w w' := by
  have bM := (Blk.new w 25 [.slice M.r.a M.r.l.length M.r.c, .slice M.ba M.bs.length M.bc, .slice M.o.a M.o.l.length M.o.c]).keep (Keep.alloc1 (w.alloc (.cells #[.slice M.r.a M.r.l.length M.r.c, .slice M.ba M.bs.length M.bc, .slice M.o.a M.o.l.length M.o.c] 25)) (.cells #[.slice none 0 0, .slice none 0 0, .slice none 0 0] 25))
  have kk : Keep w ((w.alloc (.cells #[.slice M.r.a M.r.l.length M.r.c, .slice M.ba M.bs.length M.bc, .slice M.o.a M.o.l.length M.o.c] 25)).alloc (.cells #[.slice none 0 0, .slice none 0 0, .slice none 0 0] 25)) := (Keep.alloc1 _ _).trans (Keep.alloc1 _ _)
  have bO : Blk ((w.alloc (.cells #[.slice M.r.a M.r.l.length M.r.c, .slice M.ba M.bs.length M.bc, .slice M.o.a M.o.l.length M.o.c] 25)).alloc (.cells #[.slice none 0 0, .slice none 0 0, .slice none 0 0] 25)) (w.heap.size + 1) 25 [.slice none 0 0, .slice none 0 0, .slice none 0 0] := by
    have h := Blk.new (w.alloc (.cells #[.slice M.r.a M.r.l.length M.r.c, .slice M.ba M.bs.length M.bc, .slice M.o.a M.o.l.length M.o.c] 25)) 25 [.slice none 0 0, .slice none 0 0, .slice none 0 0]
    simpa using h
  have LR := Lib.hid lr
  have LO := Lib.hid lo
  have LB := Lib.hid lb
  clear lr lo lb
  unfold Mkt.val
  go_enter Tryz.func6, Tryz.ntmps6
  go_upto_region 1 with fail
  generalize ((w.alloc (.cells #[.slice M.r.a M.r.l.length M.r.c, .slice M.ba M.bs.length M.bc, .slice M.o.a M.o.l.length M.o.c] 25)).alloc (.cells #[.slice none 0 0, .slice none 0 0, .slice none 0 0] 25)) = w0 at bM kk bO ⊢
  have d0 := bM.cell_ (i := 0) rfl
  have d1 := bM.cell_ (i := 1) rfl
  have d2 := bM.cell_ (i := 2) rfl
  refine wp_region_noPanic ?_
  refine wp_region_held_drew (S := (fun w' => w'.cell? ⟨w.heap.size, 0, none⟩ = some (.slice M.r.a M.r.l.length M.r.c) ∧ w'.cell? ⟨w.heap.size, 1, none⟩ = some (.slice M.ba M.bs.length M.bc) ∧ w'.cell? ⟨w.heap.size, 2, none⟩ = some (.slice M.o.a M.o.l.length M.o.c))) (by kernel_rfl) ⟨d0, d1, d2⟩ (fun hS => ?_)
  have kn : Keep w0 w0.drew := (Keep.refl _).drew
  replace kk := kk.trans kn
  replace bO := bO.keep kn
  generalize w0.drew = v0 at hS kk bO ⊢
  clear kn d0 d1 d2 bM
  refine wpAnyH_take (i := 0) (v := ?_) rfl (by kernel_rfl) (by kernel_rfl) (by kernel_rfl) (fun _ _ _ h => h) (Or.inl ⟨by rfl, ?_⟩) hS ?_
  rotate_left
  · (intro w hSw; (try dsimp only at hSw); go_simp; (first | done | with_reducible rfl))
  change wpAnyH _ _ _ _ _ _ _ (Act.put _ (some 3) _) _
  simp only [Act.put, List.setIfInBounds_toArray, List.set_cons_zero, List.set_cons_succ]
  refine wpAnyH_take (i := 1) (v := ?_) rfl (by kernel_rfl) (by kernel_rfl) (by kernel_rfl) (fun _ _ _ h => h) (Or.inl ⟨by rfl, ?_⟩) hS ?_
  rotate_left
  · (intro w hSw; (try dsimp only at hSw); go_simp; (first | done | with_reducible rfl))
  change wpAnyH _ _ _ _ _ _ _ (Act.put _ (some 4) _) _
  simp only [Act.put, List.setIfInBounds_toArray, List.set_cons_zero, List.set_cons_succ]
  refine wpAnyH_take (i := 3) (v := ?_) rfl (by kernel_rfl) (by kernel_rfl) (by kernel_rfl) (fun _ _ _ h => h) (Or.inl ⟨by rfl, ?_⟩) hS ?_
  rotate_left
  · (intro w hSw; (try dsimp only at hSw); go_simp; (first | done | with_reducible rfl))
  change wpAnyH _ _ _ _ _ _ _ (Act.put _ (some 6) _) _
  simp only [Act.put, List.setIfInBounds_toArray, List.set_cons_zero, List.set_cons_succ]
  refine wpAnyH_take (i := 4) (v := ?_) rfl (by kernel_rfl) (by kernel_rfl) (by kernel_rfl) (fun _ _ _ h => h) (Or.inl ⟨by rfl, ?_⟩) hS ?_
  rotate_left
  · (intro w hSw; (try dsimp only at hSw); go_simp; (first | done | with_reducible rfl))
  change wpAnyH _ _ _ _ _ _ _ (Act.put _ (some 7) _) _
  simp only [Act.put, List.setIfInBounds_toArray, List.set_cons_zero, List.set_cons_succ]
  refine wpAnyH_take (i := 6) (v := ?_) rfl (by kernel_rfl) (by kernel_rfl) (by kernel_rfl) (fun _ _ _ h => h) (Or.inl ⟨by rfl, ?_⟩) hS ?_
  rotate_left
  · (intro w hSw; (try dsimp only at hSw); go_simp; (first | done | with_reducible rfl))
  change wpAnyH _ _ _ _ _ _ _ (Act.put _ (some 9) _) _
  simp only [Act.put, List.setIfInBounds_toArray, List.set_cons_zero, List.set_cons_succ]
  refine wpAnyH_take (i := 7) (v := ?_) rfl (by kernel_rfl) (by kernel_rfl) (by kernel_rfl) (fun _ _ _ h => h) (Or.inl ⟨by rfl, ?_⟩) hS ?_
  rotate_left
  · (intro w hSw; (try dsimp only at hSw); go_simp; (first | done | with_reducible rfl))
  change wpAnyH _ _ _ _ _ _ _ (Act.put _ (some 10) _) _
  simp only [Act.put, List.setIfInBounds_toArray, List.set_cons_zero, List.set_cons_succ]
  refine wpAnyH_ready (rs := [2]) (by kernel_rfl) (by simp) ?_
  refine AllReadyH.cons rfl (fun K hK => ?_) AllReadyH.nil
  go_simp
  refine (twinInts_f M.r v0 (hM.keep kk).r LR.out).mono ?_
  rintro e v1 ⟨A1, c1, rfl, t1, kn⟩
  replace t1 : Twin v1 w.heap.size ⟨A1, c1, M.r.l⟩ := Fr.mono t1 kk.size
  go_wp2_with fail
  refine hK.out _ _ ⟨kn.cell hS.1, kn.cell hS.2.1, kn.cell hS.2.2⟩ (fun hS => ?_)
  clear hK K
  try simp only [Act.put, List.setIfInBounds_toArray, List.set_cons_zero, List.set_cons_succ]
  refine wpAnyH_ready (rs := [5]) (by kernel_rfl) (by simp) ?_
  refine AllReadyH.cons rfl (fun K hK => ?_) AllReadyH.nil
  go_simp
  replace kk := kk.trans kn
  replace bO := bO.keep kn
  clear kn
  refine (twinLists_f M.ba M.bc M.bs v1 (hM.keep kk).b LB.out hh).mono ?_
  rintro e v2 ⟨A2, c2, ts, z, rfl, hb, hz, tw, fo, fz, kn⟩
  have s1 : ∀ t ∈ ts, Sep ⟨A1, c1, M.r.l⟩ t := fun t ht => Sep.new t1 (tw.1 t ht)
  replace tw : Twins v2 w.heap.size ts := ⟨fun t ht => Fr.mono (tw.1 t ht) kk.size, tw.2⟩
  replace fo := fo.mono kk.size
  replace fz := fz.mono kk.size
  replace t1 := Twin.keep t1 kn
  have HB := Lib.hid hb
  have HZ := Lib.hid hz
  clear hb hz
  go_wp2_with fail
  refine hK.out _ _ ⟨kn.cell hS.1, kn.cell hS.2.1, kn.cell hS.2.2⟩ (fun hS => ?_)
  clear hK K
  try simp only [Act.put, List.setIfInBounds_toArray, List.set_cons_zero, List.set_cons_succ]
  refine wpAnyH_ready (rs := [8]) (by kernel_rfl) (by simp) ?_
  refine AllReadyH.cons rfl (fun K hK => ?_) AllReadyH.nil
  go_simp
  replace kk := kk.trans kn
  replace bO := bO.keep kn
  clear kn
  refine (twinInts_f M.o v2 (hM.keep kk).o LO.out).mono ?_
  rintro e v3 ⟨A3, c3, rfl, t3, kn⟩
  have s2 : Sep ⟨A1, c1, M.r.l⟩ ⟨A3, c3, M.o.l⟩ := Sep.new t1 t3
  have s3 : ∀ t ∈ ts, Sep t ⟨A3, c3, M.o.l⟩ := fun t ht => Sep.new (tw.1 t ht) t3
  replace t3 : Twin v3 w.heap.size ⟨A3, c3, M.o.l⟩ := Fr.mono t3 kk.size
  replace t1 := Twin.keep t1 kn
  replace tw := tw.keep kn
  replace fo := fo.keep kn
  replace fz := fz.keep kn
  go_wp2_with fail
  refine hK.out _ _ ⟨kn.cell hS.1, kn.cell hS.2.1, kn.cell hS.2.2⟩ (fun hS => ?_)
  clear hK K
  try simp only [Act.put, List.setIfInBounds_toArray, List.set_cons_zero, List.set_cons_succ]
  refine wpAnyH_take (i := 9) (v := ?_) rfl (by kernel_rfl) (by kernel_rfl) (by kernel_rfl) (fun _ _ _ h => h) (Or.inl ⟨by rfl, ?_⟩) hS ?_
  rotate_left
  · (intro w hSw; (try dsimp only at hSw); go_simp; (first | done | with_reducible rfl))
  change wpAnyH _ _ _ _ _ _ _ (Act.put _ (some 12) _) _
  simp only [Act.put, List.setIfInBounds_toArray, List.set_cons_zero, List.set_cons_succ]
  refine wpAnyH_ready (rs := [10]) (by kernel_rfl) (by simp) ?_
  refine AllReadyH.cons rfl (fun K hK => ?_) AllReadyH.nil
  rw [if_pos (by rfl)]
  replace kk := kk.trans kn
  replace bO := bO.keep kn
  clear kn
  refine wp_store_row 25 _ _ rfl (w.heap.size + 1) #[.slice A1 M.r.l.length c1, .slice A2 M.bs.length c2, .slice A3 M.o.l.length c3] rfl rfl _ _ bO (by kernel_rfl) rfl (by simp [Value.oneCell']) ?_
  refine hK.out _ _ ⟨(cell_setRow_other _ _ _ _ (show w.heap.size ≠ w.heap.size + 1 by omega)).trans hS.1, (cell_setRow_other _ _ _ _ (show w.heap.size ≠ w.heap.size + 1 by omega)).trans hS.2.1, (cell_setRow_other _ _ _ _ (show w.heap.size ≠ w.heap.size + 1 by omega)).trans hS.2.2⟩ (fun hS => ?_)
  clear hK K
  try simp only [Act.put, List.setIfInBounds_toArray]
  refine wpAnyH_done (by kernel_rfl) ?_ _
  refine NoPanic.normal ?_
  have og := only_row v3 (w.heap.size + 1) #[.slice A1 M.r.l.length c1, .slice A2 M.bs.length c2, .slice A3 M.o.l.length c3]
  have bR := bO.row #[.slice A1 M.r.l.length c1, .slice A2 M.bs.length c2, .slice A3 M.o.l.length c3]
  go_wp2_with fail
  refine bodyPost_ret (results_cell_row rfl _ _ (w.heap.size + 1) 25 _ (0, 0) _ rfl bR Tryz.underlying25 rfl (by kernel_rfl)) rfl ?_
  have g1 : ∀ {n c : Nat} {A : Option Addr} {vs : List Value}, Fr 3 v3 w.heap.size A n c vs → Fr 3 (v3.setRow (w.heap.size + 1) #[.slice A1 M.r.l.length c1, .slice A2 M.bs.length c2, .slice A3 M.o.l.length c3]) w.heap.size A n c vs := fun f => f.grown og (fun k hk e => by injection e with e; exact f.own_ne bO (by decide) k hk e)
  have fo' := fo.grown og (fun k hk e => by injection e with e; exact fo.own_ne bO (by decide) k hk e)
  have hlen : ts.length = M.bs.length := by
    have := congrArg List.length HB.out
    simpa [bidsOf] using this
  refine ⟨⟨⟨A1, c1, M.r.l⟩, A2, c2, ts, ⟨A3, c3, M.o.l⟩⟩, ?_, ⟨rfl, HB.out, rfl, ⟨fun t ht => ?_, ?_⟩, z, HZ.out, by show Fr _ _ _ _ (ts.length + 1) _ _; rw [hlen]; exact fo', g1 fz⟩, kk.grown og (fun k e => by injection e with e; omega)⟩
  · simp only [hlen]
  · rcases List.mem_cons.1 ht with rfl | ht
    · exact g1 t1
    · rcases List.mem_append.1 ht with ht | ht
      · exact g1 (tw.1 t ht)
      · rw [List.mem_singleton] at ht
        subst ht
        exact g1 t3
  · rw [List.pairwise_cons, List.pairwise_append]
    refine ⟨fun t ht => ?_, tw.2, List.pairwise_singleton _ _, fun u hu v hv => ?_⟩
    · rcases List.mem_append.1 ht with ht | ht
      · exact s1 t ht
      · rw [List.mem_singleton] at ht
        exact ht ▸ s2
    · rw [List.mem_singleton] at hv
      exact hv ▸ s3 u hu
end Go.Proofs.YtbfldlokocpjaaaGreatDoor

namespace Go.Proofs.YtbfldlokocpjaaaGreatDoor
open Go.RowKit

set_option maxRecDepth 100000 in
set_option maxHeartbeats 4000000 in
theorem leftLists_f (A B : Option Addr) (ca cb : Nat) (ts ss : List Sl) (z : Sl) (base : Nat) (w : World) (ht : ∀ t ∈ ts, Twin w base t) (hb : bidsOf ts = bidsOf ss) (hf : Fr 22 w base A (ts.length + 1) ca (ts.map Sl.val ++ [z.val])) (hz : z.l = [77]) (fz : Fr 3 w base z.a 1 z.c (cs .i64 z.l)) (hs : InR .i64 w B cb ss)
    (la : ts.length ≤ 1000000) (lb : ∀ t ∈ ts, t.l.length ≤ 1000000) :
    Calls Tryz.prog 43 #[.slice A ts.length ca, .slice B ss.length cb] w fun e w' => e = .returned (.bool true) ∧ Keep w w' := by
  have hlen : ss.length = ts.length := by have := congrArg List.length hb; rw [length_bids, length_bids] at this; exact this.symm
  have hcap : ts.length + 1 ≤ ca := Fr.cap hf
  have hcm := Fr.capMax hf
  unfold maxLen at hcm
  have hra : Rd w A (ts.map Sl.val ++ [z.val]) := hf.rd
  have hrb : Rd w B (ss.map Sl.val) := hs.rd
  rw [hlen]
  have y1 : decide ((ca : Int) ≤ ts.length) = false := decide_eq_false (by omega)
  have y2 : (ca ≤ ts.length) = False := eq_false (by omega)
  have z1 : ((ts.length : Int) != ts.length) = false := by simp
  obtain ⟨bm, om, hAm, hmark⟩ := hra.at_ (j := ts.length) (by rw [List.length_append, List.length_map]; simp)
  have hval : (ts.map Sl.val ++ [z.val])[ts.length]'(by rw [List.length_append, List.length_map]; simp) = z.val := by simp
  rw [hval] at hmark
  obtain ⟨bz, oz, hza, hcz⟩ := fz.rd.at_ (j := 0) (by rw [length_cs, hz]; simp)
  have hcz0 : (cs .i64 z.l)[0]'(by rw [length_cs, hz]; simp) = .int .i64 77 := by simp [cs, hz]
  rw [hcz0, Nat.add_zero] at hcz
  unfold Sl.val at hmark
  rw [hz, hza] at hmark
  have HA := Lib.hid hAm
  have HT := Lib.hid ht
  have HB := Lib.hid hb
  have HL := Lib.hid hlen
  have HLB := Lib.hid lb
  have HRS := Lib.hid (fun s (h : s ∈ ss) => (hs.ok s h).rd)
  clear hf hAm hval hcz0 hza ht hb hlen lb hs
  go_enter Tryz.func43, Tryz.ntmps43
  go_wp2_with fail
  go_loopw [5] (fun v wr => ∃ i : Nat, i ≤ ts.length ∧ v = .int .i64 i ∧ Keep w wr) (fun v _ => ts.length - (intOf v).toNat)
  case atStart => exact ⟨0, Nat.zero_le _, rfl, Keep.refl _⟩
  case round =>
    obtain ⟨i, hi, rfl, hk⟩ := hrel
    by_cases hlt : i < ts.length
    · obtain ⟨b1, o1, e1, cA⟩ := (hra.keep hk).at_ (j := i) (by rw [List.length_append, List.length_map]; simp; omega)
      obtain ⟨b2, o2, e2, cB⟩ := (hrb.keep hk).at_ (j := i) (by rw [List.length_map, HL.out]; exact hlt)
      obtain ⟨t, htt⟩ : ∃ t, ts[i]? = some t := ⟨_, List.getElem?_eq_getElem hlt⟩
      obtain ⟨s, hss⟩ : ∃ s, ss[i]? = some s := ⟨_, List.getElem?_eq_getElem (by rw [HL.out]; exact hlt)⟩
      have hsl : s.l = t.l := by
        have h1 : (bidsOf ts)[i]? = some t.l := by rw [bidsOf, List.getElem?_map, htt]; rfl
        have h2 : (bidsOf ss)[i]? = some s.l := by rw [bidsOf, List.getElem?_map, hss]; rfl
        rw [HB.out, h2] at h1
        exact Option.some.inj h1
      rw [List.getElem_append_left (by rw [List.length_map]; exact hlt), List.getElem_map, (List.getElem?_eq_some_iff.1 htt).2] at cA
      rw [List.getElem_map, (List.getElem?_eq_some_iff.1 hss).2] at cB
      unfold Sl.val at cA cB
      rw [hsl] at cB
      have tt : Twin wr base ⟨t.a, t.c, t.l⟩ := (HT.out t (List.mem_of_getElem? htt)).keep hk
      have rs : Rd wr s.a (cs .i64 t.l) := by rw [← hsl]; exact (HRS.out s (List.mem_of_getElem? hss)).keep hk
      have hll : t.l.length ≤ 1000000 := HLB.out t (List.mem_of_getElem? htt)
      subst e1
      subst e2
      have hi1 : (i : Int) < ts.length := by omega
      have hi0 : (0 : Int) ≤ i := by omega
      clear htt hss hsl
      go_upto_region 6 with fail
      refine wp_region_noPanic ?_
      refine wp_region_held_drew (S := (fun w' => w'.cell? ⟨b1, o1 + i, none⟩ = some (.slice t.a t.l.length t.c) ∧ w'.cell? ⟨b2, o2 + i, none⟩ = some (.slice s.a t.l.length s.c))) (by kernel_rfl) ⟨cA, cB⟩ (fun hS => ?_)
      have kz : Keep wr wr.drew := (Keep.refl _).drew
      replace tt := tt.keep kz
      replace rs := rs.keep kz
      generalize wr.drew = v0 at hS kz tt rs ⊢
      refine wpAnyH_take (i := 0) (v := ?_) rfl (by kernel_rfl) (by kernel_rfl) (by kernel_rfl) (fun _ _ _ h => h) (Or.inl ⟨by rfl, ?_⟩) hS ?_
      rotate_left
      · (intro w hSw; (try dsimp only at hSw); go_simp; (first | done | with_reducible rfl))
      change wpAnyH _ _ _ _ _ _ _ (Act.put _ (some 25) _) _
      simp only [Act.put, List.setIfInBounds_toArray, List.set_cons_zero, List.set_cons_succ]
      refine wpAnyH_take (i := 1) (v := ?_) rfl (by kernel_rfl) (by kernel_rfl) (by kernel_rfl) (fun _ _ _ h => h) (Or.inl ⟨by rfl, ?_⟩) hS ?_
      rotate_left
      · (intro w hSw; (try dsimp only at hSw); go_simp; (first | done | with_reducible rfl))
      change wpAnyH _ _ _ _ _ _ _ (Act.put _ (some 26) _) _
      simp only [Act.put, List.setIfInBounds_toArray, List.set_cons_zero, List.set_cons_succ]
      refine wpAnyH_take (i := 2) (v := ?_) rfl (by kernel_rfl) (by kernel_rfl) (by kernel_rfl) (fun _ _ _ h => h) (Or.inl ⟨by rfl, ?_⟩) hS ?_
      rotate_left
      · (intro w hSw; (try dsimp only at hSw); go_simp; (first | done | with_reducible rfl))
      change wpAnyH _ _ _ _ _ _ _ (Act.put _ (some 27) _) _
      simp only [Act.put, List.setIfInBounds_toArray, List.set_cons_zero, List.set_cons_succ]
      refine wpAnyH_take (i := 3) (v := ?_) rfl (by kernel_rfl) (by kernel_rfl) (by kernel_rfl) (fun _ _ _ h => h) (Or.inl ⟨by rfl, ?_⟩) hS ?_
      rotate_left
      · (intro w hSw; (try dsimp only at hSw); go_simp; (first | done | with_reducible rfl))
      change wpAnyH _ _ _ _ _ _ _ (Act.put _ (some 28) _) _
      simp only [Act.put, List.setIfInBounds_toArray, List.set_cons_zero, List.set_cons_succ]
      refine wpAnyH_take (i := 4) (v := ?_) rfl (by kernel_rfl) (by kernel_rfl) (by kernel_rfl) (fun _ _ _ h => h) (Or.inl ⟨by rfl, ?_⟩) hS ?_
      rotate_left
      · (intro w hSw; (try dsimp only at hSw); go_simp; (first | done | with_reducible rfl))
      change wpAnyH _ _ _ _ _ _ _ (Act.put _ (some 29) _) _
      simp only [Act.put, List.setIfInBounds_toArray, List.set_cons_zero, List.set_cons_succ]
      refine wpAnyH_take (i := 5) (v := ?_) rfl (by kernel_rfl) (by kernel_rfl) (by kernel_rfl) (fun _ _ _ h => h) (Or.inl ⟨by rfl, ?_⟩) hS ?_
      rotate_left
      · (intro w hSw; (try dsimp only at hSw); go_simp; (first | done | with_reducible rfl))
      change wpAnyH _ _ _ _ _ _ _ (Act.put _ (some 30) _) _
      simp only [Act.put, List.setIfInBounds_toArray, List.set_cons_zero, List.set_cons_succ]
      refine wpAnyH_take (i := 6) (v := ?_) rfl (by kernel_rfl) (by kernel_rfl) (by kernel_rfl) (fun _ _ _ h => h) (Or.inl ⟨by rfl, ?_⟩) hS ?_
      rotate_left
      · (intro w hSw; (try dsimp only at hSw); go_simp; (first | done | with_reducible rfl))
      change wpAnyH _ _ _ _ _ _ _ (Act.put _ (some 31) _) _
      simp only [Act.put, List.setIfInBounds_toArray, List.set_cons_zero, List.set_cons_succ]
      refine wpAnyH_take (i := 7) (v := ?_) rfl (by kernel_rfl) (by kernel_rfl) (by kernel_rfl) (fun _ _ _ h => h) (Or.inl ⟨by rfl, ?_⟩) hS ?_
      rotate_left
      · (intro w hSw; (try dsimp only at hSw); go_simp; (first | done | with_reducible rfl))
      change wpAnyH _ _ _ _ _ _ _ (Act.put _ (some 32) _) _
      simp only [Act.put, List.setIfInBounds_toArray, List.set_cons_zero, List.set_cons_succ]
      refine wpAnyH_ready (rs := [8]) (by kernel_rfl) (by simp) ?_
      refine AllReadyH.cons rfl (fun K hK => ?_) AllReadyH.nil
      go_simp
      refine (leftInts_f t.a s.a t.c s.c t.l base v0 tt rs hll).mono ?_
      rintro e v1 ⟨rfl, kq⟩
      have hSk := And.intro (kq.cell hS.1) (kq.cell hS.2)
      replace kz := kz.trans kq
      clear hS tt rs
      go_wp2_with fail
      refine hK.out _ _ hSk (fun hS => ?_)
      clear hK K
      try simp only [Act.put, List.setIfInBounds_toArray, List.set_cons_zero, List.set_cons_succ]
      refine wpAnyH_take (i := 9) (v := ?_) rfl (by kernel_rfl) (by kernel_rfl) (by kernel_rfl) (fun _ _ _ h => h) (Or.inl ⟨by rfl, ?_⟩) hS ?_
      rotate_left
      · (intro w hSw; (try dsimp only at hSw); go_simp; (first | done | with_reducible rfl))
      change wpAnyH _ _ _ _ _ _ _ (Act.put _ (some 34) _) _
      simp only [Act.put, List.setIfInBounds_toArray, List.set_cons_zero, List.set_cons_succ]
      refine wpAnyH_done (by kernel_rfl) ?_ _
      refine NoPanic.normal ?_
      go_wp2_with fail
      go_roundw
      case rel => exact ⟨i + 1, by omega, by go_num, hk.trans kz⟩
      case measure => simp [intOf]; omega
    · obtain rfl : i = ts.length := by omega
      have hm2 := hk.cell hmark
      have hc2 := hk.cell hcz
      have y3 : (ts.length : Int) + 1 ≤ ca := by omega
      have y4 : decide ((ts.length : Int) < ts.length) = false := decide_eq_false (by omega)
      rw [HA.out]
      clear HA
      go_wp2_with fail
      go_ret
      exact ⟨rfl, hk⟩

set_option maxRecDepth 100000 in
set_option maxHeartbeats 4000000 in
theorem leftMarket_f (M N : Mkt) (base : Nat) (w : World) (ht : TwinMP M N base w) (hM : M.Ok w) (fM : M.Few) (lb : M.bs.length ≤ 1000000) :
    Calls Tryz.prog 18 #[N.val, M.val] w fun e w' => e = .returned (.bool true) ∧ Keep w w' := by
  have hlen := ht.len
  have tr : Twin w base ⟨N.r.a, N.r.c, M.r.l⟩ := by have := ht.own.1 N.r (by simp); rw [← ht.r]; exact this
  have tq : Twin w base ⟨N.o.a, N.o.c, M.o.l⟩ := by have := ht.own.1 N.o (by simp); rw [← ht.o]; exact this
  obtain ⟨z, hz, hf, fz⟩ := ht.outer
  have hNs : ∀ t ∈ N.bs, t.l.length ≤ 1000000 := fun t h => by
    have h4 : t.l ∈ bidsOf N.bs := List.mem_map.2 ⟨t, h, rfl⟩
    rw [ht.b] at h4
    obtain ⟨s', hs', e⟩ := List.mem_map.1 h4
    exact e ▸ fM.b s' hs'
  have q1 := fun w1 (k : Keep w w1) => leftInts_f N.r.a M.r.a N.r.c M.r.c M.r.l base w1 (tr.keep k) (hM.keep k).r.rd fM.r
  have q2 := fun w1 (k : Keep w w1) => leftLists_f N.ba M.ba N.bc M.bc N.bs M.bs z base w1 (fun t h => (ht.own.1 t (by simp [h])).keep k) ht.b (hf.keep k) hz (fz.keep k) (hM.keep k).b (by rw [hlen]; exact lb) hNs
  have q3 := fun w1 (k : Keep w w1) => leftInts_f N.o.a M.o.a N.o.c M.o.c M.o.l base w1 (tq.keep k) (hM.keep k).o.rd fM.o
  have kb : Keep w ((w.alloc (.cells #[.slice N.r.a N.r.l.length N.r.c, .slice N.ba N.bs.length N.bc, .slice N.o.a N.o.l.length N.o.c] 25)).alloc (.cells #[.slice M.r.a M.r.l.length M.r.c, .slice M.ba M.bs.length M.bc, .slice M.o.a M.o.l.length M.o.c] 25)) := (Keep.alloc1 _ _).trans (Keep.alloc1 _ _)
  unfold Mkt.val
  rw [ht.r, ht.o] at kb ⊢
  clear ht tr tq hf fz hNs hz hlen
  go_enter Tryz.func18, Tryz.ntmps18
  go_wp2_with fail
  refine (q1 _ kb).mono ?_
  rintro e w1 ⟨rfl, k1⟩
  have c1 : w1.cell? ⟨w.heap.size, 1, none⟩ = some (.slice N.ba N.bs.length N.bc) := k1.cell (by simp)
  have c2 : w1.cell? ⟨w.heap.size + 1, 1, none⟩ = some (.slice M.ba M.bs.length M.bc) := k1.cell (by simp)
  have c3 : w1.cell? ⟨w.heap.size, 2, none⟩ = some (.slice N.o.a M.o.l.length N.o.c) := k1.cell (by simp)
  have c4 : w1.cell? ⟨w.heap.size + 1, 2, none⟩ = some (.slice M.o.a M.o.l.length M.o.c) := k1.cell (by simp)
  have hq2 := q2 _ (kb.trans k1)
  clear q1 q2
  go_wp2_with fail
  refine hq2.mono ?_
  rintro e w2 ⟨rfl, k2⟩
  have c5 := k2.cell c3
  have c6 := k2.cell c4
  have hq3 := q3 _ ((kb.trans k1).trans k2)
  clear q3 hq2
  go_wp2_with fail
  refine hq3.mono ?_
  rintro e w3 ⟨rfl, k3⟩
  go_wp2_with fail
  go_ret
  exact ⟨rfl, ((kb.trans k1).trans k2).trans k3⟩
end Go.Proofs.YtbfldlokocpjaaaGreatDoor

namespace Go.Proofs.YtbfldlokocpjaaaGreatDoor
open Go.RowKit

set_option maxRecDepth 100000 in
set_option maxHeartbeats 1000000 in
theorem intsSize_s (s : Sl) (w : World) : Calls Tryz.prog 28 #[.slice s.a s.l.length s.c] w fun e w' => e = .returned (.int .i64 s.l.length) ∧ Keep w w' := by
  go_enter Tryz.func28, Tryz.ntmps28
  go_wp2_with fail
  go_ret
  exact ⟨rfl, Keep.refl _⟩

set_option maxRecDepth 100000 in
set_option maxHeartbeats 2000000 in
theorem listsSize_s (A : Option Addr) (c : Nat) (ss : List Sl) (w : World) (ha : InR .i64 w A c ss) (lm : ss.length ≤ 140737488351232) (ls : ∀ s ∈ ss, s.l.length ≤ 140737488351232) : Calls Tryz.prog 29 #[.slice A ss.length c] w fun e w' => (∃ n : Nat, e = .returned (.int .i64 n) ∧ n ≤ 300000000000000 ∧ (n ≤ 1048576 → ss.length ≤ n ∧ ∀ s ∈ ss, s.l.length ≤ n)) ∧ Keep w w' := by
  have la' := ha.len.le
  go_enter Tryz.func29, Tryz.ntmps29
  go_wp2_with fail
  go_loopw [3, 4] (fun a i wr => ∃ (k m : Nat), k ≤ ss.length ∧ i = .int .i64 k ∧ a = .int .i64 m ∧ m ≤ 300000000000000 ∧ Hid (ss.length ≤ m ∧ ∀ s ∈ ss.take k, s.l.length ≤ m) ∧ Keep w wr) (fun _ i _ => ss.length - (intOf i).toNat)
  case atStart => exact ⟨0, ss.length, Nat.zero_le _, rfl, rfl, by omega, Lib.hid ⟨Nat.le_refl _, fun s h => (by cases h)⟩, Keep.refl _⟩
  case round =>
    obtain ⟨k, m, hk, rfl, rfl, hm3, hall, hkeep⟩ := hrel
    by_cases hlt : k < ss.length
    · by_cases hm : m ≤ 1048576
      · have hmi : (m : Int) ≤ 1048576 := by omega
        obtain ⟨b1, o1, s, rfl, hx, hc1, hs⟩ := (ha.keep hkeep).at_ hlt
        have hsl : s.l.length ≤ 140737488351232 := ls s (List.mem_of_getElem? hx)
        have HN := Lib.hid (show ss.length ≤ m + s.l.length ∧ ∀ t ∈ ss.take (k + 1), t.l.length ≤ m + s.l.length from by
          refine ⟨by have := hall.out.1; omega, fun t ht => ?_⟩
          rw [List.take_add_one, hx] at ht
          rcases List.mem_append.1 ht with ht | ht
          · have := hall.out.2 t ht
            omega
          · simp at ht
            subst ht
            omega)
        clear hx hs
        have hq := intsSize_s s wr
        go_wp2_with fail
        refine hq.mono ?_
        rintro e w1 ⟨rfl, k1⟩
        go_wp2_with fail
        go_roundw
        case rel => exact ⟨k + 1, m + s.l.length, by omega, by go_num, by go_num, by omega, HN, hkeep.trans k1⟩
        case measure => simp [intOf]; omega
      · have hmi : decide ((m : Int) ≤ 1048576) = false := decide_eq_false (by omega)
        have hmj : (m ≤ 1048576) = False := eq_false hm
        have HV := Lib.hid (show m ≤ 1048576 → ss.length ≤ m ∧ ∀ s ∈ ss, s.l.length ≤ m from fun h => absurd h hm)
        clear hm
        go_wp2_with fail
        go_ret
        exact ⟨⟨m, rfl, hm3, HV.out⟩, hkeep⟩
    · obtain rfl : k = ss.length := by omega
      have h2 := hall.out
      rw [List.take_of_length_le (Nat.le_refl _)] at h2
      have HV := Lib.hid (show m ≤ 1048576 → ss.length ≤ m ∧ ∀ s ∈ ss, s.l.length ≤ m from fun _ => h2)
      clear h2 hall
      go_wp2_with fail
      go_ret
      exact ⟨⟨m, rfl, hm3, HV.out⟩, hkeep⟩

/-- All of it is small. -/
structure Mkt.Tiny (M : Mkt) : Prop where
  r : M.r.l.length ≤ 3000
  b : M.bs.length ≤ 3000
  s : ∀ s ∈ M.bs, s.l.length ≤ 3000
  o : M.o.l.length ≤ 3000
theorem Mkt.Tiny.few {M : Mkt} (h : M.Tiny) : M.Few := ⟨by have := h.r; omega, fun s hs => by have := h.s s hs; omega, by have := h.o; omega⟩
set_option maxRecDepth 100000 in
set_option maxHeartbeats 2000000 in
theorem marketSize_s (M : Mkt) (w : World) (hM : M.Ok w) (hS : M.Sized) : Calls Tryz.prog 5 #[M.val] w fun e w' => (∃ n : Nat, e = .returned (.int .i64 n) ∧ (n ≤ 3000 → M.Tiny)) ∧ Keep w w' := by
  have bM := Blk.new w 25 [.slice M.r.a M.r.l.length M.r.c, .slice M.ba M.bs.length M.bc, .slice M.o.a M.o.l.length M.o.c]
  have kk : Keep w (w.alloc (.cells #[.slice M.r.a M.r.l.length M.r.c, .slice M.ba M.bs.length M.bc, .slice M.o.a M.o.l.length M.o.c] 25)) := Keep.alloc1 _ _
  have lr := hS.r
  have lo := hS.o
  unfold Mkt.val
  go_enter Tryz.func5, Tryz.ntmps5
  go_wp2_with fail
  generalize w.alloc (.cells #[.slice M.r.a M.r.l.length M.r.c, .slice M.ba M.bs.length M.bc, .slice M.o.a M.o.l.length M.o.c] 25) = wA at bM kk ⊢
  generalize w.heap.size = gA at bM ⊢
  have hq := intsSize_s M.r wA
  refine hq.mono ?_
  rintro e w1 ⟨rfl, k1⟩
  replace bM := bM.keep k1
  replace kk := kk.trans k1
  have c1 := bM.cell_ (i := 1) rfl
  clear hq k1
  have hq2 := listsSize_s M.ba M.bc M.bs w1 ((hM.keep kk).b) hS.b hS.s
  by_cases h1 : 1 + M.r.l.length ≤ 1048576
  case neg =>
    have z1 : decide ((1 : Int) + M.r.l.length ≤ 1048576) = false := decide_eq_false (by omega)
    have HV := Lib.hid (show ∀ n : Nat, (n : Int) = 1 + (M.r.l.length : Int) → n ≤ 3000 → M.Tiny from fun n hn h => by omega)
    clear h1
    go_wp2_with fail
    go_ret
    exact ⟨⟨1 + M.r.l.length, by simp, HV.out _ (by omega)⟩, kk⟩
  have z1 : decide ((1 : Int) + M.r.l.length ≤ 1048576) = true := decide_eq_true (by omega)
  go_wp2_with fail
  refine hq2.mono ?_
  rintro e w2 ⟨⟨n, rfl, hn3, hn⟩, k2⟩
  replace bM := bM.keep k2
  replace kk := kk.trans k2
  have c2 := bM.cell_ (i := 2) rfl
  have hq3 := intsSize_s M.o w2
  have HN := Lib.hid hn
  clear hq2 k2 c1 hn
  by_cases h2 : 1 + M.r.l.length + n ≤ 1048576
  case neg =>
    have z2 : decide ((1 : Int) + M.r.l.length + n ≤ 1048576) = false := decide_eq_false (by omega)
    have HV := Lib.hid (show ∀ m : Nat, (m : Int) = 1 + (M.r.l.length : Int) + n → m ≤ 3000 → M.Tiny from fun m hm h => by omega)
    clear h1 h2
    go_wp2_with fail
    go_ret
    exact ⟨⟨1 + M.r.l.length + n, by simp, HV.out _ (by omega)⟩, kk⟩
  have z2 : decide ((1 : Int) + M.r.l.length + n ≤ 1048576) = true := decide_eq_true (by omega)
  have HV := Lib.hid (show ∀ m : Nat, (m : Int) = 1 + (M.r.l.length : Int) + n + M.o.l.length → m ≤ 3000 → M.Tiny from fun m hm h => by
    obtain ⟨q1, q2⟩ := HN.out (by omega)
    exact ⟨by omega, by omega, fun s hs => by have := q2 s hs; omega, by omega⟩)
  clear h1 h2
  go_wp2_with fail
  refine hq3.mono ?_
  rintro e w3 ⟨rfl, k3⟩
  go_wp2_with fail
  go_ret
  exact ⟨⟨1 + M.r.l.length + n + M.o.l.length, by simp, HV.out _ (by omega)⟩, kk.trans k3⟩
end Go.Proofs.YtbfldlokocpjaaaGreatDoor

namespace Go.Proofs.YtbfldlokocpjaaaGreatDoor
open Go.RowKit

theorem Held.join {e : TypeId} {w w' : World} {base : Nat} {hs hs' : List Hd} (h : Held e w base hs) (hk : Keep w w') (hb : base ≤ w.heap.size) (h' : Held e w' w.heap.size hs') : Held e w' base (hs ++ hs') := by
  refine ⟨fun x hx => ?_, ?_, fun x hx => ?_⟩
  · rcases List.mem_append.1 hx with hx | hx
    · obtain ⟨us', hu⟩ := h.f x hx
      exact ⟨us', hu.keep hk⟩
    · obtain ⟨us', hu⟩ := h'.f x hx
      exact ⟨us', hu.mono hb⟩
  · rw [List.pairwise_append]
    refine ⟨h.p, h'.p, fun x hx y hy k h1 h2 => ?_⟩
    obtain ⟨us', hu⟩ := h.f x hx
    obtain ⟨us2, hu2⟩ := h'.f y hy
    have := (hu.own_ge h1).2
    have := (hu2.own_ge h2).1
    omega
  · rcases List.mem_append.1 hx with hx | hx
    · exact h.m x hx
    · exact h'.m x hx
theorem OwnAll.held {w : World} {base : Nat} {ss : List Sl} (h : OwnAll w base ss) (hs : Short ss) {n : Nat} (hn : n + ss.length < 100000) : Held 3 w base (hdsOf n ss) := by
  refine ⟨fun x hx => ?_, hdsOf_pair h.2, fun x hx => ?_⟩
  · obtain ⟨t, h1, m, h2, rfl⟩ := hdsOf_mem hx
    exact ⟨_, h.1 t h1⟩
  · obtain ⟨t, h1, m, h2, rfl⟩ := hdsOf_mem hx
    exact ⟨by show m < 100000; omega, hs t h1⟩
theorem TwinMP.ownM {M N : Mkt} {base : Nat} {w : World} (h : TwinMP M N base w) : OwnM w base N := by
  refine ⟨fun s hs => (h.own.1 s (by simpa using hs)).fr, h.own.2, ?_⟩
  obtain ⟨z, _, hf, _⟩ := h.outer
  have := hf.take (m := N.bs.length) (by omega)
  rwa [List.take_left' (by rw [List.length_map])] at this
theorem OwnM.few {M N : Mkt} {base : Nat} {w : World} (h : TwinMP M N base w) (hM : M.Few) : N.Few := by
  refine ⟨by rw [h.r]; exact hM.r, fun s hs => ?_, by rw [h.o]; exact hM.o⟩
  have h4 : s.l ∈ bidsOf N.bs := List.mem_map.2 ⟨s, hs, rfl⟩
  rw [h.b] at h4
  obtain ⟨s', hs', e⟩ := List.mem_map.1 h4
  exact e ▸ hM.b s' hs'
end Go.Proofs.YtbfldlokocpjaaaGreatDoor

namespace Go.Proofs.YtbfldlokocpjaaaGreatDoor
open Go.RowKit

set_option maxRecDepth 100000 in
set_option maxHeartbeats 16000000 in
theorem marketsOf_w (M : Mkt) (p : Int) (w : World) (hM : M.Ok w) (hS : M.Sized) :
    Calls Tryz.prog 3 #[M.val, .int .i64 p] w fun e w' => e = .returned (.bool true) ∧ Below w.heap.size w w' := by
  have kk : Keep w w := Keep.refl _
  have kq : Keep w (w.alloc (.cells #[.slice M.r.a M.r.l.length M.r.c, .slice M.ba M.bs.length M.bc, .slice M.o.a M.o.l.length M.o.c] 25)) := Keep.alloc1 _ _
  have bm := Blk.new w 25 [.slice M.r.a M.r.l.length M.r.c, .slice M.ba M.bs.length M.bc, .slice M.o.a M.o.l.length M.o.c]
  obtain ⟨VG, rG, hVG⟩ : ∃ v r, gainsV M.r.l (bidsOf M.bs) M.o.l = (v, r) := ⟨_, _, rfl⟩
  obtain ⟨VO, rO, hVO⟩ : ∃ v r, outV M.r.l (bidsOf M.bs) M.o.l p = (v, r) := ⟨_, _, rfl⟩
  obtain ⟨VP, rP, hVP⟩ : ∃ v r, putV M.r.l (bidsOf M.bs) M.o.l = (v, r) := ⟨_, _, rfl⟩
  replace hVG := Lib.hid hVG
  replace hVO := Lib.hid hVO
  replace hVP := Lib.hid hVP
  unfold Mkt.val
  go_enter Tryz.func3, Tryz.ntmps3
  go_upto_region 1 with fail
  have hbase := Nat.le_refl w.heap.size
  change Code.wp _ _ _ _ (w.alloc (.cells #[.slice M.r.a M.r.l.length M.r.c, .slice M.ba M.bs.length M.bc, .slice M.o.a M.o.l.length M.o.c] 25))
  generalize w.alloc (.cells #[.slice M.r.a M.r.l.length M.r.c, .slice M.ba M.bs.length M.bc, .slice M.o.a M.o.l.length M.o.c] 25) = w0 at kq bm ⊢
  obtain ⟨gm, hgm⟩ : ∃ gm, gm = w.heap.size := ⟨_, rfl⟩
  rw [← hgm] at bm ⊢
  clear hbase
  replace hgm := Lib.hid hgm
  have HB0 := Held.nil 5 w w.heap.size
  clear HB0
  have ok0 := hM.keep kq
  replace kk := kk.trans kq
  clear kq
  have m0 := bm.cell_ (i := 0) rfl
  have m1 := bm.cell_ (i := 1) rfl
  have m2 := bm.cell_ (i := 2) rfl
  have hq := marketSize_s M w0 ok0 hS
  unfold Mkt.val at hq
  go_wp2_with fail
  refine hq.mono ?_
  rintro e w1 ⟨⟨ns, rfl, tiny⟩, kq⟩
  clear hq
  replace bm := bm.keep kq
  replace ok0 := ok0.keep kq
  replace kk := kk.trans kq
  clear kq
  clear m0 m1 m2
  by_cases hbig : 3000 < ns
  · have z1 : decide ((3000 : Int) < ns) = true := decide_eq_true (by omega)
    have z2 : (3000 < ns) = True := eq_true hbig
    clear hbig
    go_wp2_with fail
    go_ret
    exact ⟨rfl, kk⟩
  have z1 : decide ((3000 : Int) < ns) = false := decide_eq_false (by omega)
  have z2 : (3000 < ns) = False := eq_false hbig
  have ti := tiny (by omega)
  have few := ti.few
  have HT := Lib.hid ti
  clear tiny hbig ti
  have m0 := bm.cell_ (i := 0) rfl
  have m1 := bm.cell_ (i := 1) rfl
  have m2 := bm.cell_ (i := 2) rfl
  have hq := twinMarket_f M w1 ok0 few.r (by have := HT.out.b; omega) few.b few.o
  unfold Mkt.val at hq
  go_wp2_with fail
  refine hq.mono ?_
  rintro e w2 ⟨T, rfl, tw, kq⟩
  clear hq
  replace bm := bm.keep kq
  replace ok0 := ok0.keep kq
  have ownT := tw.ownM.mono kk.size
  replace kk := kk.trans kq
  clear kq
  clear m0 m1 m2
  have okT := tw.ok ok0
  have eT : T.r.l = M.r.l ∧ bidsOf T.bs = bidsOf M.bs ∧ T.o.l = M.o.l := ⟨tw.r, tw.b, tw.o⟩
  have fewT := OwnM.few tw few
  have lT : T.bs.length ≤ 3000 := by have := tw.len; have := HT.out.b; omega
  replace eT := Lib.hid eT
  go_upto_region 4 with fail
  have kq : Keep w2 (w2.alloc (.cells #[.slice T.r.a T.r.l.length T.r.c, .slice T.ba T.bs.length T.bc, .slice T.o.a T.o.l.length T.o.c] 25)) := Keep.alloc1 _ _
  have bt := Blk.new w2 25 [.slice T.r.a T.r.l.length T.r.c, .slice T.ba T.bs.length T.bc, .slice T.o.a T.o.l.length T.o.c]
  change Code.wp _ _ _ _ (w2.alloc (.cells #[.slice T.r.a T.r.l.length T.r.c, .slice T.ba T.bs.length T.bc, .slice T.o.a T.o.l.length T.o.c] 25))
  generalize hwd : (w2.alloc (.cells #[.slice T.r.a T.r.l.length T.r.c, .slice T.ba T.bs.length T.bc, .slice T.o.a T.o.l.length T.o.c] 25)) = w3 at kq bt ⊢
  clear hwd
  generalize w2.heap.size = gt at bt ⊢
  replace bm := bm.keep kq
  replace ok0 := ok0.keep kq
  replace tw := tw.keep kq
  replace ownT := ownT.keep kq
  replace okT := okT.keep kq
  replace kk := kk.trans kq
  clear kq
  have HI0 := ownT.held fewT (n := 0) (by omega)
  have HL0 := Held.one (m := 0 + T.bs.length + 2) ownT.b (by omega) (by omega)
  have hg := gains_u T w3 okT (V := VG) (r := rG) (by rw [eT.out.1, eT.out.2.1, eT.out.2.2]; exact hVG.out)
  have t0 := bt.cell_ (i := 0) rfl
  have t1 := bt.cell_ (i := 1) rfl
  have t2 := bt.cell_ (i := 2) rfl
  have hq := hg
  unfold Mkt.val at hq
  clear hg
  go_wp2_with fail
  refine hq.mono ?_
  rintro e w4 ⟨A1, c1, ss, rfl, in1, e1, sh1, l1, ol, kq⟩
  clear hq
  replace e1 := Lib.hid e1
  have HI1 := HI0.join kq kk.size (ol.o.held sh1 (n := 0 + T.bs.length + 3) (by omega))
  have HL1 := HL0.join kq kk.size (Held.one (m := 0 + T.bs.length + 3 + ss.length + 1) ol.f (by omega) (by omega))
  clear HI0 HL0
  replace bm := bm.keep kq
  replace ok0 := ok0.keep kq
  replace tw := tw.keep kq
  replace ownT := ownT.keep kq
  replace okT := okT.keep kq
  replace bt := bt.keep kq
  replace kk := kk.trans kq
  clear kq
  clear t0 t1 t2
  have m0 := bm.cell_ (i := 0) rfl
  have m1 := bm.cell_ (i := 1) rfl
  have m2 := bm.cell_ (i := 2) rfl
  have hq := refGains_f M w4 ok0 hVG.out
  unfold Mkt.val at hq
  go_wp2_with fail
  refine hq.mono ?_
  rintro e w5 ⟨A2, c2, ss2, rfl, in2, e2, sh2, kq⟩
  clear hq
  replace e2 := Lib.hid e2
  replace bm := bm.keep kq
  replace ok0 := ok0.keep kq
  replace tw := tw.keep kq
  replace ownT := ownT.keep kq
  replace okT := okT.keep kq
  replace bt := bt.keep kq
  replace in1 := in1.keep kq
  replace ol := ol.keep kq
  replace HI1 := HI1.keep kq
  replace HL1 := HL1.keep kq
  replace kk := kk.trans kq
  clear kq
  clear m0 m1 m2
  have ho := without_u T p w5 okT (V := VO) (r := rO) (by rw [eT.out.1, eT.out.2.1, eT.out.2.2]; exact hVO.out)
  have t0 := bt.cell_ (i := 0) rfl
  have t1 := bt.cell_ (i := 1) rfl
  have t2 := bt.cell_ (i := 2) rfl
  have hq := ho
  unfold Mkt.val at hq
  clear ho
  go_wp2_with fail
  refine hq.mono ?_
  rintro e w6 ⟨N, rfl, okN, eN, fewN, lN, ownN, kq⟩
  clear hq
  replace eN := Lib.hid eN
  have HI2 := HI1.join kq kk.size (ownN.held fewN (n := 0 + T.bs.length + 3 + ss.length + 1) (by omega))
  have HL2 := HL1.join kq kk.size (Held.one (m := 0 + T.bs.length + 3 + ss.length + 1 + N.bs.length + 2) ownN.b (by omega) (by omega))
  clear HI1 HL1
  replace bm := bm.keep kq
  replace ok0 := ok0.keep kq
  replace tw := tw.keep kq
  replace ownT := ownT.keep kq
  replace okT := okT.keep kq
  replace bt := bt.keep kq
  replace in1 := in1.keep kq
  replace ol := ol.keep kq
  replace in2 := in2.keep kq
  replace kk := kk.trans kq
  clear kq
  clear t0 t1 t2
  go_upto_region 7 with fail
  have kq : Keep w6 (w6.alloc (.cells #[.slice N.r.a N.r.l.length N.r.c, .slice N.ba N.bs.length N.bc, .slice N.o.a N.o.l.length N.o.c] 25)) := Keep.alloc1 _ _
  have bc := Blk.new w6 25 [.slice N.r.a N.r.l.length N.r.c, .slice N.ba N.bs.length N.bc, .slice N.o.a N.o.l.length N.o.c]
  change Code.wp _ _ _ _ (w6.alloc (.cells #[.slice N.r.a N.r.l.length N.r.c, .slice N.ba N.bs.length N.bc, .slice N.o.a N.o.l.length N.o.c] 25))
  generalize hwd : (w6.alloc (.cells #[.slice N.r.a N.r.l.length N.r.c, .slice N.ba N.bs.length N.bc, .slice N.o.a N.o.l.length N.o.c] 25)) = w7 at kq bc ⊢
  clear hwd
  generalize w6.heap.size = gc at bc ⊢
  replace bm := bm.keep kq
  replace ok0 := ok0.keep kq
  replace tw := tw.keep kq
  replace ownT := ownT.keep kq
  replace okT := okT.keep kq
  replace bt := bt.keep kq
  replace in1 := in1.keep kq
  replace ol := ol.keep kq
  replace in2 := in2.keep kq
  replace okN := okN.keep kq
  replace ownN := ownN.keep kq
  replace HI2 := HI2.keep kq
  replace HL2 := HL2.keep kq
  replace kk := kk.trans kq
  clear kq
  have m0 := bm.cell_ (i := 0) rfl
  have m1 := bm.cell_ (i := 1) rfl
  have m2 := bm.cell_ (i := 2) rfl
  have hq := refWithout_u M p w7 ok0 hVO.out
  unfold Mkt.val at hq
  go_wp2_with fail
  refine hq.mono ?_
  rintro e w8 ⟨KM, rfl, okK, eK, fewK, kq⟩
  clear hq
  replace eK := Lib.hid eK
  replace bm := bm.keep kq
  replace ok0 := ok0.keep kq
  replace tw := tw.keep kq
  replace ownT := ownT.keep kq
  replace okT := okT.keep kq
  replace bt := bt.keep kq
  replace in1 := in1.keep kq
  replace ol := ol.keep kq
  replace in2 := in2.keep kq
  replace okN := okN.keep kq
  replace ownN := ownN.keep kq
  replace HI2 := HI2.keep kq
  replace HL2 := HL2.keep kq
  replace bc := bc.keep kq
  replace kk := kk.trans kq
  clear kq
  clear m0 m1 m2
  go_upto_region 8 with fail
  have kq : Keep w8 (w8.alloc (.cells #[.slice KM.r.a KM.r.l.length KM.r.c, .slice KM.ba KM.bs.length KM.bc, .slice KM.o.a KM.o.l.length KM.o.c] 25)) := Keep.alloc1 _ _
  have bd := Blk.new w8 25 [.slice KM.r.a KM.r.l.length KM.r.c, .slice KM.ba KM.bs.length KM.bc, .slice KM.o.a KM.o.l.length KM.o.c]
  change Code.wp _ _ _ _ (w8.alloc (.cells #[.slice KM.r.a KM.r.l.length KM.r.c, .slice KM.ba KM.bs.length KM.bc, .slice KM.o.a KM.o.l.length KM.o.c] 25))
  generalize hwd : (w8.alloc (.cells #[.slice KM.r.a KM.r.l.length KM.r.c, .slice KM.ba KM.bs.length KM.bc, .slice KM.o.a KM.o.l.length KM.o.c] 25)) = w9 at kq bd ⊢
  clear hwd
  generalize w8.heap.size = gd at bd ⊢
  replace bm := bm.keep kq
  replace ok0 := ok0.keep kq
  replace tw := tw.keep kq
  replace ownT := ownT.keep kq
  replace okT := okT.keep kq
  replace bt := bt.keep kq
  replace in1 := in1.keep kq
  replace ol := ol.keep kq
  replace in2 := in2.keep kq
  replace okN := okN.keep kq
  replace ownN := ownN.keep kq
  replace HI2 := HI2.keep kq
  replace HL2 := HL2.keep kq
  replace bc := bc.keep kq
  replace okK := okK.keep kq
  replace kk := kk.trans kq
  clear kq
  have hp := mput_u T w9 okT (L := VP) (r := rP) (by rw [eT.out.1, eT.out.2.1, eT.out.2.2]; exact hVP.out)
  have t0 := bt.cell_ (i := 0) rfl
  have t1 := bt.cell_ (i := 1) rfl
  have t2 := bt.cell_ (i := 2) rfl
  have hq := hp
  unfold Mkt.val at hq
  clear hp
  go_wp2_with fail
  refine hq.mono ?_
  rintro e w10 ⟨A3, rfl, f3, l3, kq⟩
  clear hq
  have HB1 := Held.one (m := 0 + T.bs.length + 3 + ss.length + 1 + N.bs.length + 3 + 1) (f3.mono kk.size) (by omega) (by omega)
  replace bm := bm.keep kq
  replace ok0 := ok0.keep kq
  replace tw := tw.keep kq
  replace ownT := ownT.keep kq
  replace okT := okT.keep kq
  replace bt := bt.keep kq
  replace in1 := in1.keep kq
  replace ol := ol.keep kq
  replace in2 := in2.keep kq
  replace okN := okN.keep kq
  replace ownN := ownN.keep kq
  replace HI2 := HI2.keep kq
  replace HL2 := HL2.keep kq
  replace bc := bc.keep kq
  replace okK := okK.keep kq
  replace bd := bd.keep kq
  replace kk := kk.trans kq
  clear kq
  clear t0 t1 t2
  have m0 := bm.cell_ (i := 0) rfl
  have m1 := bm.cell_ (i := 1) rfl
  have m2 := bm.cell_ (i := 2) rfl
  have hq := refPutM_f M w10 ok0 hVP.out
  unfold Mkt.val at hq
  go_wp2_with fail
  refine hq.mono ?_
  rintro e w11 ⟨A4, c4, rfl, r4, kq⟩
  clear hq
  replace bm := bm.keep kq
  replace ok0 := ok0.keep kq
  replace tw := tw.keep kq
  replace ownT := ownT.keep kq
  replace okT := okT.keep kq
  replace bt := bt.keep kq
  replace in1 := in1.keep kq
  replace ol := ol.keep kq
  replace in2 := in2.keep kq
  replace okN := okN.keep kq
  replace ownN := ownN.keep kq
  replace HI2 := HI2.keep kq
  replace HL2 := HL2.keep kq
  replace bc := bc.keep kq
  replace okK := okK.keep kq
  replace bd := bd.keep kq
  replace f3 := f3.keep kq
  replace HB1 := HB1.keep kq
  replace kk := kk.trans kq
  clear kq
  clear m0 m1 m2
  go_upto_region 10 with fail
  have KS : ∀ v, Keep w11 v → v.cell? ⟨gt, 0, none⟩ = some (.slice T.r.a T.r.l.length T.r.c) ∧ v.cell? ⟨gt, 1, none⟩ = some (.slice T.ba T.bs.length T.bc) ∧ v.cell? ⟨gt, 2, none⟩ = some (.slice T.o.a T.o.l.length T.o.c) ∧ v.cell? ⟨gm, 0, none⟩ = some (.slice M.r.a M.r.l.length M.r.c) ∧ v.cell? ⟨gm, 1, none⟩ = some (.slice M.ba M.bs.length M.bc) ∧ v.cell? ⟨gm, 2, none⟩ = some (.slice M.o.a M.o.l.length M.o.c) ∧ v.cell? ⟨gc, 0, none⟩ = some (.slice N.r.a N.r.l.length N.r.c) ∧ v.cell? ⟨gc, 1, none⟩ = some (.slice N.ba N.bs.length N.bc) ∧ v.cell? ⟨gc, 2, none⟩ = some (.slice N.o.a N.o.l.length N.o.c) ∧ v.cell? ⟨gd, 0, none⟩ = some (.slice KM.r.a KM.r.l.length KM.r.c) ∧ v.cell? ⟨gd, 1, none⟩ = some (.slice KM.ba KM.bs.length KM.bc) ∧ v.cell? ⟨gd, 2, none⟩ = some (.slice KM.o.a KM.o.l.length KM.o.c) := fun v K' => ⟨K'.cell (bt.cell_ (i := 0) rfl), K'.cell (bt.cell_ (i := 1) rfl), K'.cell (bt.cell_ (i := 2) rfl), K'.cell (bm.cell_ (i := 0) rfl), K'.cell (bm.cell_ (i := 1) rfl), K'.cell (bm.cell_ (i := 2) rfl), K'.cell (bc.cell_ (i := 0) rfl), K'.cell (bc.cell_ (i := 1) rfl), K'.cell (bc.cell_ (i := 2) rfl), K'.cell (bd.cell_ (i := 0) rfl), K'.cell (bd.cell_ (i := 1) rfl), K'.cell (bd.cell_ (i := 2) rfl)⟩
  refine wp_region_noPanic ?_
  refine wp_region_held_drew (S := (fun w' => w'.cell? ⟨gt, 0, none⟩ = some (.slice T.r.a T.r.l.length T.r.c) ∧ w'.cell? ⟨gt, 1, none⟩ = some (.slice T.ba T.bs.length T.bc) ∧ w'.cell? ⟨gt, 2, none⟩ = some (.slice T.o.a T.o.l.length T.o.c) ∧ w'.cell? ⟨gm, 0, none⟩ = some (.slice M.r.a M.r.l.length M.r.c) ∧ w'.cell? ⟨gm, 1, none⟩ = some (.slice M.ba M.bs.length M.bc) ∧ w'.cell? ⟨gm, 2, none⟩ = some (.slice M.o.a M.o.l.length M.o.c) ∧ w'.cell? ⟨gc, 0, none⟩ = some (.slice N.r.a N.r.l.length N.r.c) ∧ w'.cell? ⟨gc, 1, none⟩ = some (.slice N.ba N.bs.length N.bc) ∧ w'.cell? ⟨gc, 2, none⟩ = some (.slice N.o.a N.o.l.length N.o.c) ∧ w'.cell? ⟨gd, 0, none⟩ = some (.slice KM.r.a KM.r.l.length KM.r.c) ∧ w'.cell? ⟨gd, 1, none⟩ = some (.slice KM.ba KM.bs.length KM.bc) ∧ w'.cell? ⟨gd, 2, none⟩ = some (.slice KM.o.a KM.o.l.length KM.o.c))) (by kernel_rfl) (KS _ (Keep.refl w11).drew) (fun hS => ?_)
  have ky := (Keep.refl w11).drew
  generalize w11.drew = v0 at hS ky ⊢
  refine wpAnyH_take (i := 0) (v := ?_) rfl (by kernel_rfl) (by kernel_rfl) (by kernel_rfl) (fun _ _ _ h => h) (Or.inl ⟨by rfl, ?_⟩) hS ?_
  rotate_left
  · (intro w hSw; (try dsimp only at hSw); go_simp; (first | done | with_reducible rfl))
  change wpAnyH _ _ _ _ _ _ _ (Act.put _ (some 56) _) _
  simp only [Act.put, List.setIfInBounds_toArray, List.set_cons_zero, List.set_cons_succ]
  refine wpAnyH_take (i := 2) (v := ?_) rfl (by kernel_rfl) (by kernel_rfl) (by kernel_rfl) (fun _ _ _ h => h) (Or.inl ⟨by rfl, ?_⟩) hS ?_
  rotate_left
  · (intro w hSw; (try dsimp only at hSw); go_simp; (first | done | with_reducible rfl))
  change wpAnyH _ _ _ _ _ _ _ (Act.put _ (some 58) _) _
  simp only [Act.put, List.setIfInBounds_toArray, List.set_cons_zero, List.set_cons_succ]
  refine wpAnyH_ready (rs := [1]) (by kernel_rfl) (by simp) ?_
  refine AllReadyH.cons rfl (fun K hK => ?_) AllReadyH.nil
  go_simp
  have hq := mcheck_f T v0 (okT.keep ky)
  rw [eT.out.1, eT.out.2.1, eT.out.2.2] at hq
  unfold Mkt.val at hq
  refine hq.mono ?_
  rintro e v1 ⟨rfl, kq⟩
  clear hq
  replace ky := ky.trans kq
  clear kq
  go_wp2_with fail
  refine hK.out _ _ (KS _ ky) (fun hS => ?_)
  clear hK K
  try simp only [Act.put, List.setIfInBounds_toArray, List.set_cons_zero, List.set_cons_succ]
  refine wpAnyH_ready (rs := [3]) (by kernel_rfl) (by simp) ?_
  refine AllReadyH.cons rfl (fun K hK => ?_) AllReadyH.nil
  go_simp
  have hq := refCheckM_f M v1 (ok0.keep ky)
  unfold Mkt.val at hq
  refine hq.mono ?_
  rintro e v2 ⟨rfl, kq⟩
  clear hq
  replace ky := ky.trans kq
  clear kq
  go_wp2_with fail
  refine hK.out _ _ (KS _ ky) (fun hS => ?_)
  clear hK K
  try simp only [Act.put, List.setIfInBounds_toArray, List.set_cons_zero, List.set_cons_succ]
  refine wpAnyH_take (i := 4) (v := ?_) rfl (by kernel_rfl) (by kernel_rfl) (by kernel_rfl) (fun _ _ _ h => h) (Or.inl ⟨by rfl, ?_⟩) hS ?_
  rotate_left
  · (intro w hSw; (try dsimp only at hSw); go_simp; (first | done | with_reducible rfl))
  change wpAnyH _ _ _ _ _ _ _ (Act.put _ (some 60) _) _
  simp only [Act.put, List.setIfInBounds_toArray, List.set_cons_zero, List.set_cons_succ]
  refine wpAnyH_take (i := 5) (v := ?_) rfl (by kernel_rfl) (by kernel_rfl) (by kernel_rfl) (fun _ _ _ h => h) (Or.inl ⟨by rfl, ?_⟩) hS ?_
  rotate_left
  · (intro w hSw; (try dsimp only at hSw); go_simp; (first | done | with_reducible rfl))
  change wpAnyH _ _ _ _ _ _ _ (Act.put _ (some 61) _) _
  simp only [Act.put, List.setIfInBounds_toArray, List.set_cons_zero, List.set_cons_succ]
  refine wpAnyH_take (i := 6) (v := ?_) rfl (by kernel_rfl) (by kernel_rfl) (by kernel_rfl) (fun _ _ _ h => h) (Or.inl ⟨by rfl, ?_⟩) hS ?_
  rotate_left
  · (intro w hSw; (try dsimp only at hSw); go_simp; (first | done | with_reducible rfl))
  change wpAnyH _ _ _ _ _ _ _ (Act.put _ (some 62) _) _
  simp only [Act.put, List.setIfInBounds_toArray, List.set_cons_zero, List.set_cons_succ]
  refine wpAnyH_take (i := 7) (v := ?_) rfl (by kernel_rfl) (by kernel_rfl) (by kernel_rfl) (fun _ _ _ h => h) (Or.inl ⟨by rfl, ?_⟩) hS ?_
  rotate_left
  · (intro w hSw; (try dsimp only at hSw); go_simp; (first | done | with_reducible rfl))
  change wpAnyH _ _ _ _ _ _ _ (Act.put _ (some 63) _) _
  simp only [Act.put, List.setIfInBounds_toArray, List.set_cons_zero, List.set_cons_succ]
  refine wpAnyH_take (i := 8) (v := ?_) rfl (by kernel_rfl) (by kernel_rfl) (by kernel_rfl) (fun _ _ _ h => h) (Or.inl ⟨by rfl, ?_⟩) hS ?_
  rotate_left
  · (intro w hSw; (try dsimp only at hSw); go_simp; (first | done | with_reducible rfl))
  change wpAnyH _ _ _ _ _ _ _ (Act.put _ (some 64) _) _
  simp only [Act.put, List.setIfInBounds_toArray, List.set_cons_zero, List.set_cons_succ]
  refine wpAnyH_take (i := 9) (v := ?_) rfl (by kernel_rfl) (by kernel_rfl) (by kernel_rfl) (fun _ _ _ h => h) (Or.inl ⟨by rfl, ?_⟩) hS ?_
  rotate_left
  · (intro w hSw; (try dsimp only at hSw); go_simp; (first | done | with_reducible rfl))
  change wpAnyH _ _ _ _ _ _ _ (Act.put _ (some 65) _) _
  simp only [Act.put, List.setIfInBounds_toArray, List.set_cons_zero, List.set_cons_succ]
  refine wpAnyH_take (i := 10) (v := ?_) rfl (by kernel_rfl) (by kernel_rfl) (by kernel_rfl) (fun _ _ _ h => h) (Or.inl ⟨by rfl, ?_⟩) hS ?_
  rotate_left
  · (intro w hSw; (try dsimp only at hSw); go_simp; (first | done | with_reducible rfl))
  change wpAnyH _ _ _ _ _ _ _ (Act.put _ (some 66) _) _
  simp only [Act.put, List.setIfInBounds_toArray, List.set_cons_zero, List.set_cons_succ]
  refine wpAnyH_take (i := 11) (v := ?_) rfl (by kernel_rfl) (by kernel_rfl) (by kernel_rfl) (fun _ _ _ h => h) (Or.inl ⟨by rfl, ?_⟩) hS ?_
  rotate_left
  · (intro w hSw; (try dsimp only at hSw); go_simp; (first | done | with_reducible rfl))
  change wpAnyH _ _ _ _ _ _ _ (Act.put _ (some 67) _) _
  simp only [Act.put, List.setIfInBounds_toArray, List.set_cons_zero, List.set_cons_succ]
  refine wpAnyH_take (i := 12) (v := ?_) rfl (by kernel_rfl) (by kernel_rfl) (by kernel_rfl) (fun _ _ _ h => h) (Or.inl ⟨by rfl, ?_⟩) hS ?_
  rotate_left
  · (intro w hSw; (try dsimp only at hSw); go_simp; (first | done | with_reducible rfl))
  change wpAnyH _ _ _ _ _ _ _ (Act.put _ (some 68) _) _
  simp only [Act.put, List.setIfInBounds_toArray, List.set_cons_zero, List.set_cons_succ]
  refine wpAnyH_take (i := 13) (v := ?_) rfl (by kernel_rfl) (by kernel_rfl) (by kernel_rfl) (fun _ _ _ h => h) (Or.inl ⟨by rfl, ?_⟩) hS ?_
  rotate_left
  · (intro w hSw; (try dsimp only at hSw); go_simp; (first | done | with_reducible rfl))
  change wpAnyH _ _ _ _ _ _ _ (Act.put _ (some 69) _) _
  simp only [Act.put, List.setIfInBounds_toArray, List.set_cons_zero, List.set_cons_succ]
  refine wpAnyH_take (i := 14) (v := ?_) rfl (by kernel_rfl) (by kernel_rfl) (by kernel_rfl) (fun _ _ _ h => h) (Or.inl ⟨by rfl, ?_⟩) hS ?_
  rotate_left
  · (intro w hSw; (try dsimp only at hSw); go_simp; (first | done | with_reducible rfl))
  change wpAnyH _ _ _ _ _ _ _ (Act.put _ (some 70) _) _
  simp only [Act.put, List.setIfInBounds_toArray, List.set_cons_zero, List.set_cons_succ]
  refine wpAnyH_take (i := 15) (v := ?_) rfl (by kernel_rfl) (by kernel_rfl) (by kernel_rfl) (fun _ _ _ h => h) (Or.inl ⟨by rfl, ?_⟩) hS ?_
  rotate_left
  · (intro w hSw; (try dsimp only at hSw); go_simp; (first | done | with_reducible rfl))
  change wpAnyH _ _ _ _ _ _ _ (Act.put _ (some 71) _) _
  simp only [Act.put, List.setIfInBounds_toArray, List.set_cons_zero, List.set_cons_succ]
  refine wpAnyH_take (i := 16) (v := ?_) rfl (by kernel_rfl) (by kernel_rfl) (by kernel_rfl) (fun _ _ _ h => h) (Or.inl ⟨by rfl, ?_⟩) hS ?_
  rotate_left
  · (intro w hSw; (try dsimp only at hSw); go_simp; (first | done | with_reducible rfl))
  change wpAnyH _ _ _ _ _ _ _ (Act.put _ (some 72) _) _
  simp only [Act.put, List.setIfInBounds_toArray, List.set_cons_zero, List.set_cons_succ]
  refine wpAnyH_take (i := 17) (v := ?_) rfl (by kernel_rfl) (by kernel_rfl) (by kernel_rfl) (fun _ _ _ h => h) (Or.inl ⟨by rfl, ?_⟩) hS ?_
  rotate_left
  · (intro w hSw; (try dsimp only at hSw); go_simp; (first | done | with_reducible rfl))
  change wpAnyH _ _ _ _ _ _ _ (Act.put _ (some 73) _) _
  simp only [Act.put, List.setIfInBounds_toArray, List.set_cons_zero, List.set_cons_succ]
  refine wpAnyH_take (i := 18) (v := ?_) rfl (by kernel_rfl) (by kernel_rfl) (by kernel_rfl) (fun _ _ _ h => h) (Or.inl ⟨by rfl, ?_⟩) hS ?_
  rotate_left
  · (intro w hSw; (try dsimp only at hSw); go_simp; (first | done | with_reducible rfl))
  change wpAnyH _ _ _ _ _ _ _ (Act.put _ (some 74) _) _
  simp only [Act.put, List.setIfInBounds_toArray, List.set_cons_zero, List.set_cons_succ]
  refine wpAnyH_take (i := 19) (v := ?_) rfl (by kernel_rfl) (by kernel_rfl) (by kernel_rfl) (fun _ _ _ h => h) (Or.inl ⟨by rfl, ?_⟩) hS ?_
  rotate_left
  · (intro w hSw; (try dsimp only at hSw); go_simp; (first | done | with_reducible rfl))
  change wpAnyH _ _ _ _ _ _ _ (Act.put _ (some 75) _) _
  simp only [Act.put, List.setIfInBounds_toArray, List.set_cons_zero, List.set_cons_succ]
  refine wpAnyH_take (i := 20) (v := ?_) rfl (by kernel_rfl) (by kernel_rfl) (by kernel_rfl) (fun _ _ _ h => h) (Or.inl ⟨by rfl, ?_⟩) hS ?_
  rotate_left
  · (intro w hSw; (try dsimp only at hSw); go_simp; (first | done | with_reducible rfl))
  change wpAnyH _ _ _ _ _ _ _ (Act.put _ (some 76) _) _
  simp only [Act.put, List.setIfInBounds_toArray, List.set_cons_zero, List.set_cons_succ]
  refine wpAnyH_take (i := 21) (v := ?_) rfl (by kernel_rfl) (by kernel_rfl) (by kernel_rfl) (fun _ _ _ h => h) (Or.inl ⟨by rfl, ?_⟩) hS ?_
  rotate_left
  · (intro w hSw; (try dsimp only at hSw); go_simp; (first | done | with_reducible rfl))
  change wpAnyH _ _ _ _ _ _ _ (Act.put _ (some 77) _) _
  simp only [Act.put, List.setIfInBounds_toArray, List.set_cons_zero, List.set_cons_succ]
  refine wpAnyH_take (i := 22) (v := ?_) rfl (by kernel_rfl) (by kernel_rfl) (by kernel_rfl) (fun _ _ _ h => h) (Or.inl ⟨by rfl, ?_⟩) hS ?_
  rotate_left
  · (intro w hSw; (try dsimp only at hSw); go_simp; (first | done | with_reducible rfl))
  change wpAnyH _ _ _ _ _ _ _ (Act.put _ (some 78) _) _
  simp only [Act.put, List.setIfInBounds_toArray, List.set_cons_zero, List.set_cons_succ]
  refine wpAnyH_ready (rs := [23]) (by kernel_rfl) (by simp) ?_
  refine AllReadyH.cons rfl (fun K hK => ?_) AllReadyH.nil
  go_simp
  have hq := saysK (sameLists A1 A2 c1 c2 ss ss2 v2 (in1.keep ky) (in2.keep ky) sh1 sh2)
  rw [show decide (bidsOf ss = bidsOf ss2) = true from decide_eq_true (e1.out.trans e2.out.symm)] at hq
  refine hq.mono ?_
  rintro e v3 ⟨rfl, kq⟩
  clear hq
  replace ky := ky.trans kq
  clear kq
  go_wp2_with fail
  refine hK.out _ _ (KS _ ky) (fun hS => ?_)
  clear hK K
  try simp only [Act.put, List.setIfInBounds_toArray, List.set_cons_zero, List.set_cons_succ]
  refine wpAnyH_take (i := 24) (v := ?_) rfl (by kernel_rfl) (by kernel_rfl) (by kernel_rfl) (fun _ _ _ h => h) (Or.inl ⟨by rfl, ?_⟩) hS ?_
  rotate_left
  · (intro w hSw; (try dsimp only at hSw); go_simp; (first | done | with_reducible rfl))
  change wpAnyH _ _ _ _ _ _ _ (Act.put _ (some 80) _) _
  simp only [Act.put, List.setIfInBounds_toArray, List.set_cons_zero, List.set_cons_succ]
  refine wpAnyH_take (i := 25) (v := ?_) rfl (by kernel_rfl) (by kernel_rfl) (by kernel_rfl) (fun _ _ _ h => h) (Or.inl ⟨by rfl, ?_⟩) hS ?_
  rotate_left
  · (intro w hSw; (try dsimp only at hSw); go_simp; (first | done | with_reducible rfl))
  change wpAnyH _ _ _ _ _ _ _ (Act.put _ (some 81) _) _
  simp only [Act.put, List.setIfInBounds_toArray, List.set_cons_zero, List.set_cons_succ]
  refine wpAnyH_take (i := 26) (v := ?_) rfl (by kernel_rfl) (by kernel_rfl) (by kernel_rfl) (fun _ _ _ h => h) (Or.inl ⟨by rfl, ?_⟩) hS ?_
  rotate_left
  · (intro w hSw; (try dsimp only at hSw); go_simp; (first | done | with_reducible rfl))
  change wpAnyH _ _ _ _ _ _ _ (Act.put _ (some 82) _) _
  simp only [Act.put, List.setIfInBounds_toArray, List.set_cons_zero, List.set_cons_succ]
  refine wpAnyH_take (i := 27) (v := ?_) rfl (by kernel_rfl) (by kernel_rfl) (by kernel_rfl) (fun _ _ _ h => h) (Or.inl ⟨by rfl, ?_⟩) hS ?_
  rotate_left
  · (intro w hSw; (try dsimp only at hSw); go_simp; (first | done | with_reducible rfl))
  change wpAnyH _ _ _ _ _ _ _ (Act.put _ (some 83) _) _
  simp only [Act.put, List.setIfInBounds_toArray, List.set_cons_zero, List.set_cons_succ]
  refine wpAnyH_take (i := 28) (v := ?_) rfl (by kernel_rfl) (by kernel_rfl) (by kernel_rfl) (fun _ _ _ h => h) (Or.inl ⟨by rfl, ?_⟩) hS ?_
  rotate_left
  · (intro w hSw; (try dsimp only at hSw); go_simp; (first | done | with_reducible rfl))
  change wpAnyH _ _ _ _ _ _ _ (Act.put _ (some 84) _) _
  simp only [Act.put, List.setIfInBounds_toArray, List.set_cons_zero, List.set_cons_succ]
  refine wpAnyH_ready (rs := [29]) (by kernel_rfl) (by simp) ?_
  refine AllReadyH.cons rfl (fun K hK => ?_) AllReadyH.nil
  go_simp
  have hq := sameMarket_f N KM v3 (okN.keep ky) (okK.keep ky) fewN fewK
  rw [sameM_of (eN.out.trans eK.out.symm)] at hq
  unfold Mkt.val at hq
  refine hq.mono ?_
  rintro e v4 ⟨rfl, kq⟩
  clear hq
  replace ky := ky.trans kq
  clear kq
  go_wp2_with fail
  refine hK.out _ _ (KS _ ky) (fun hS => ?_)
  clear hK K
  try simp only [Act.put, List.setIfInBounds_toArray, List.set_cons_zero, List.set_cons_succ]
  refine wpAnyH_take (i := 30) (v := ?_) rfl (by kernel_rfl) (by kernel_rfl) (by kernel_rfl) (fun _ _ _ h => h) (Or.inl ⟨by rfl, ?_⟩) hS ?_
  rotate_left
  · (intro w hSw; (try dsimp only at hSw); go_simp; (first | done | with_reducible rfl))
  change wpAnyH _ _ _ _ _ _ _ (Act.put _ (some 86) _) _
  simp only [Act.put, List.setIfInBounds_toArray, List.set_cons_zero, List.set_cons_succ]
  refine wpAnyH_take (i := 31) (v := ?_) rfl (by kernel_rfl) (by kernel_rfl) (by kernel_rfl) (fun _ _ _ h => h) (Or.inl ⟨by rfl, ?_⟩) hS ?_
  rotate_left
  · (intro w hSw; (try dsimp only at hSw); go_simp; (first | done | with_reducible rfl))
  change wpAnyH _ _ _ _ _ _ _ (Act.put _ (some 87) _) _
  simp only [Act.put, List.setIfInBounds_toArray, List.set_cons_zero, List.set_cons_succ]
  refine wpAnyH_take (i := 32) (v := ?_) rfl (by kernel_rfl) (by kernel_rfl) (by kernel_rfl) (fun _ _ _ h => h) (Or.inl ⟨by rfl, ?_⟩) hS ?_
  rotate_left
  · (intro w hSw; (try dsimp only at hSw); go_simp; (first | done | with_reducible rfl))
  change wpAnyH _ _ _ _ _ _ _ (Act.put _ (some 88) _) _
  simp only [Act.put, List.setIfInBounds_toArray, List.set_cons_zero, List.set_cons_succ]
  refine wpAnyH_take (i := 33) (v := ?_) rfl (by kernel_rfl) (by kernel_rfl) (by kernel_rfl) (fun _ _ _ h => h) (Or.inl ⟨by rfl, ?_⟩) hS ?_
  rotate_left
  · (intro w hSw; (try dsimp only at hSw); go_simp; (first | done | with_reducible rfl))
  change wpAnyH _ _ _ _ _ _ _ (Act.put _ (some 89) _) _
  simp only [Act.put, List.setIfInBounds_toArray, List.set_cons_zero, List.set_cons_succ]
  refine wpAnyH_take (i := 34) (v := ?_) rfl (by kernel_rfl) (by kernel_rfl) (by kernel_rfl) (fun _ _ _ h => h) (Or.inl ⟨by rfl, ?_⟩) hS ?_
  rotate_left
  · (intro w hSw; (try dsimp only at hSw); go_simp; (first | done | with_reducible rfl))
  change wpAnyH _ _ _ _ _ _ _ (Act.put _ (some 90) _) _
  simp only [Act.put, List.setIfInBounds_toArray, List.set_cons_zero, List.set_cons_succ]
  refine wpAnyH_ready (rs := [35]) (by kernel_rfl) (by simp) ?_
  refine AllReadyH.cons rfl (fun K hK => ?_) AllReadyH.nil
  go_simp
  have hq := saysK (sameBytes A3 A4 VP.length c4 VP VP v4 (f3.keep ky).rd (r4.keep ky) (by unfold Reach; omega) (by unfold Reach; omega))
  rw [show decide (VP = VP) = true from decide_eq_true rfl] at hq
  refine hq.mono ?_
  rintro e v5 ⟨rfl, kq⟩
  clear hq
  replace ky := ky.trans kq
  clear kq
  go_wp2_with fail
  refine hK.out _ _ (KS _ ky) (fun hS => ?_)
  clear hK K
  try simp only [Act.put, List.setIfInBounds_toArray, List.set_cons_zero, List.set_cons_succ]
  refine wpAnyH_take (i := 36) (v := ?_) rfl (by kernel_rfl) (by kernel_rfl) (by kernel_rfl) (fun _ _ _ h => h) (Or.inl ⟨by rfl, ?_⟩) hS ?_
  rotate_left
  · (intro w hSw; (try dsimp only at hSw); go_simp; (first | done | with_reducible rfl))
  change wpAnyH _ _ _ _ _ _ _ (Act.put _ (some 92) _) _
  simp only [Act.put, List.setIfInBounds_toArray, List.set_cons_zero, List.set_cons_succ]
  refine wpAnyH_take (i := 37) (v := ?_) rfl (by kernel_rfl) (by kernel_rfl) (by kernel_rfl) (fun _ _ _ h => h) (Or.inl ⟨by rfl, ?_⟩) hS ?_
  rotate_left
  · (intro w hSw; (try dsimp only at hSw); go_simp; (first | done | with_reducible rfl))
  change wpAnyH _ _ _ _ _ _ _ (Act.put _ (some 93) _) _
  simp only [Act.put, List.setIfInBounds_toArray, List.set_cons_zero, List.set_cons_succ]
  refine wpAnyH_take (i := 38) (v := ?_) rfl (by kernel_rfl) (by kernel_rfl) (by kernel_rfl) (fun _ _ _ h => h) (Or.inl ⟨by rfl, ?_⟩) hS ?_
  rotate_left
  · (intro w hSw; (try dsimp only at hSw); go_simp; (first | done | with_reducible rfl))
  change wpAnyH _ _ _ _ _ _ _ (Act.put _ (some 94) _) _
  simp only [Act.put, List.setIfInBounds_toArray, List.set_cons_zero, List.set_cons_succ]
  refine wpAnyH_take (i := 39) (v := ?_) rfl (by kernel_rfl) (by kernel_rfl) (by kernel_rfl) (fun _ _ _ h => h) (Or.inl ⟨by rfl, ?_⟩) hS ?_
  rotate_left
  · (intro w hSw; (try dsimp only at hSw); go_simp; (first | done | with_reducible rfl))
  change wpAnyH _ _ _ _ _ _ _ (Act.put _ (some 95) _) _
  simp only [Act.put, List.setIfInBounds_toArray, List.set_cons_zero, List.set_cons_succ]
  refine wpAnyH_take (i := 40) (v := ?_) rfl (by kernel_rfl) (by kernel_rfl) (by kernel_rfl) (fun _ _ _ h => h) (Or.inl ⟨by rfl, ?_⟩) hS ?_
  rotate_left
  · (intro w hSw; (try dsimp only at hSw); go_simp; (first | done | with_reducible rfl))
  change wpAnyH _ _ _ _ _ _ _ (Act.put _ (some 96) _) _
  simp only [Act.put, List.setIfInBounds_toArray, List.set_cons_zero, List.set_cons_succ]
  refine wpAnyH_ready (rs := [41]) (by kernel_rfl) (by simp) ?_
  refine AllReadyH.cons rfl (fun K hK => ?_) AllReadyH.nil
  go_simp
  have hq := leftMarket_f M T w1.heap.size v5 (tw.keep ky) (ok0.keep ky) few (by have := HT.out.b; omega)
  unfold Mkt.val at hq
  refine hq.mono ?_
  rintro e v6 ⟨rfl, kq⟩
  clear hq
  replace ky := ky.trans kq
  clear kq
  go_wp2_with fail
  refine hK.out _ _ (KS _ ky) (fun hS => ?_)
  clear hK K
  try simp only [Act.put, List.setIfInBounds_toArray, List.set_cons_zero, List.set_cons_succ]
  refine wpAnyH_take (i := 42) (v := ?_) rfl (by kernel_rfl) (by kernel_rfl) (by kernel_rfl) (fun _ _ _ h => h) (Or.inl ⟨by rfl, ?_⟩) hS ?_
  rotate_left
  · (intro w hSw; (try dsimp only at hSw); go_simp; (first | done | with_reducible rfl))
  change wpAnyH _ _ _ _ _ _ _ (Act.put _ (some 98) _) _
  simp only [Act.put, List.setIfInBounds_toArray, List.set_cons_zero, List.set_cons_succ]
  refine wpAnyH_take (i := 43) (v := ?_) rfl (by kernel_rfl) (by kernel_rfl) (by kernel_rfl) (fun _ _ _ h => h) (Or.inl ⟨by rfl, ?_⟩) hS ?_
  rotate_left
  · (intro w hSw; (try dsimp only at hSw); go_simp; (first | done | with_reducible rfl))
  change wpAnyH _ _ _ _ _ _ _ (Act.put _ (some 99) _) _
  simp only [Act.put, List.setIfInBounds_toArray, List.set_cons_zero, List.set_cons_succ]
  refine wpAnyH_done (by kernel_rfl) ?_ _
  refine NoPanic.normal ?_
  replace bt := bt.keep ky
  replace bc := bc.keep ky
  replace bm := bm.keep ky
  replace ownT := ownT.keep ky
  replace ol := ol.keep ky
  replace ownN := ownN.keep ky
  replace HI2 := HI2.keep ky
  replace HL2 := HL2.keep ky
  replace HB1 := HB1.keep ky
  replace kk := kk.trans ky
  clear ky hS KS bm in1 in2 okT okN okK ok0 r4 tw
  go_upto_region 13 with fail
  have hK := BkL.new v6
  have k0 : Keep v6 (v6.alloc (.cells #[.int .i64 0, .slice none 0 0, .slice none 0 0, .slice none 0 0, .slice none 0 0, .slice none 0 0, .slice none 0 0, .slice none 0 0, .slice none 0 0, .slice none 0 0] 50)) := Keep.alloc1 _ _
  generalize v6.alloc (.cells #[.int .i64 0, .slice none 0 0, .slice none 0 0, .slice none 0 0, .slice none 0 0, .slice none 0 0, .slice none 0 0, .slice none 0 0, .slice none 0 0, .slice none 0 0] 50) = u0 at hK k0 ⊢
  have hbt := bt.keep k0
  have t0 := hbt.cell_ (i := 0) rfl
  have t1 := hbt.cell_ (i := 1) rfl
  have t2 := hbt.cell_ (i := 2) rfl
  have hq := bookMarketL_f v6.heap.size 0 _ _ _ _ _ _ T v6 u0 hK k0 ownT.b.rd (by omega) (by simp; omega) (by simp)
  unfold pK Mkt.val at hq
  go_wp2_with fail
  refine hq.mono ?_
  rintro e u1 ⟨rfl, ⟨x1, x2, hK1⟩, k1⟩
  clear hK hq k0 hbt t0 t1 t2 bt
  have hq := bookListsL_f v6.heap.size _ _ _ _ _ _ _ A1 c1 ss v6 u1 hK1 k1 ol.f.rd (by omega) (by simp [length_hdsOf]; omega) (by simp)
  unfold pK at hq
  go_wp2_with fail
  refine hq.mono ?_
  rintro e u2 ⟨rfl, ⟨x3, x4, hK2⟩, k2, _⟩
  clear hK1 hq k1
  have hbc := bc.keep k2
  have c0 := hbc.cell_ (i := 0) rfl
  have c1 := hbc.cell_ (i := 1) rfl
  have c2 := hbc.cell_ (i := 2) rfl
  have hq := bookMarketL_f v6.heap.size _ _ _ _ _ _ _ N v6 u2 hK2 k2 ownN.b.rd (by omega) (by simp [length_hdsOf]; omega) (by simp)
  unfold pK Mkt.val at hq
  go_wp2_with fail
  refine hq.mono ?_
  rintro e u3 ⟨rfl, ⟨x5, x6, hK3⟩, k3⟩
  clear hK2 hq k2 hbc  bc
  have hq := bookBytesL_f v6.heap.size _ v6.heap.size _ _ _ _ _ _ A3 VP.length VP.length u3 hK3 (by omega) (by simp)
  unfold pK at hq
  go_wp2_with fail
  refine hq.mono ?_
  rintro e u4 ⟨rfl, x7, hK4, tb⟩
  have k4 := hK3.stepB k3 tb
  clear hK3 hq tb k3
  have hK5 := hK4
  have hB3 := HB1.keep k4
  have hI3 := HI2.keep k4
  have hL3 := HL2.keep k4
  simp only [Mkt.hds, List.append_assoc, List.nil_append] at hK5 hB3 hI3 hL3
  clear hK4
  have hH := HoldsL.of hB3 hI3 hL3 (by simp) (by simp [length_hdsOf]; omega) (by simp)
  have hq := apartL_f v6.heap.size _ w.heap.size _ _ _ _ _ _ u4 (hK5.mono kk.size) hH
  unfold pK at hq
  go_wp2_with fail
  refine hq.mono ?_
  rintro e u5 ⟨rfl, t5⟩
  go_wp2_with fail
  go_ret
  exact ⟨rfl, (kk.trans k4).but t5 fun i h => h⟩
end Go.Proofs.YtbfldlokocpjaaaGreatDoor
