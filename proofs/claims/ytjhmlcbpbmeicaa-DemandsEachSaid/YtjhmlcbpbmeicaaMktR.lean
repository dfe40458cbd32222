/-
  CONTRACTS of Without and SameMarket in the ways that laws want. Conditions: the slices of the markets read as lists.
-/
import Derived.Test.YtjhmlcbpbmeicaaMktQ
namespace Go.Proofs.Ytjhmlcbpbmeicaa
open Go.RowKit

/-- N reads as M without p's bid. -/
def Out (M : Mkt) (p : Nat) (N : Mkt) : Prop := N.r.l = M.r.l ∧ bidsOf N.bs = (bidsOf M.bs).set p [] ∧ N.o.l = M.o.l
theorem set_swap (B : List (List Int)) (i k : Nat) : (B.set i []).set k [] = (B.set k []).set i [] := by
  by_cases h : i = k
  · rw [h]
  · exact List.set_comm _ _ h
theorem set_same {B : List (List Int)} {i : Nat} (h : B[i]? = some []) : B.set i [] = B := by
  refine List.ext_getElem? fun j => ?_
  rw [List.getElem?_set]
  by_cases e : i = j
  · subst e
    have := (List.getElem?_eq_some_iff.1 h).1
    rw [if_pos rfl, if_pos this, h]
  · rw [if_neg e]
theorem without_ok (M : Mkt) (p : Nat) (w : World) (hM : M.Ok w) (hc : chkM M.r.l (bidsOf M.bs) M.o.l = true) (hp : p < M.bs.length) :
    Calls Try.prog 36 #[M.val, .int .i64 p] w fun e w' => ∃ N : Mkt, e = .returned (.tuple #[N.val, .int .i64 0]) ∧ N.Ok w' ∧ N.r.l = M.r.l ∧ bidsOf N.bs = (bidsOf M.bs).set p [] ∧ N.o.l = M.o.l ∧ Keep w w' :=
  (without_yes M p w hM hc hp).mono fun _ _ ⟨N, h1, h2, h3, h4, h5, _, h6⟩ => ⟨N, h1, h2, h3, h4, h5, h6⟩
theorem chkM_set {R : List Int} {B : List (List Int)} {O : List Int} (p : Nat) (h : chkM R B O = true) : chkM R (B.set p []) O = true := by
  unfold chkM at h ⊢
  simp only [Bool.and_eq_true, List.length_set] at h ⊢
  refine ⟨h.1, ?_⟩
  have h5 := h.2
  rw [Bool.not_eq_true', List.any_eq_false] at h5 ⊢
  intro b hb
  rcases List.mem_or_eq_of_mem_set hb with h | h
  · exact h5 b h
  · subst h
    unfold badB
    simp
theorem chkM_out {M N : Mkt} {p : Nat} (h : chkM M.r.l (bidsOf M.bs) M.o.l = true) (hN : N.r.l = M.r.l ∧ bidsOf N.bs = (bidsOf M.bs).set p [] ∧ N.o.l = M.o.l) : chkM N.r.l (bidsOf N.bs) N.o.l = true := by
  rw [hN.1, hN.2.1, hN.2.2]
  exact chkM_set p h
theorem out_len {M N : Mkt} {p : Nat} (hN : N.r.l = M.r.l ∧ bidsOf N.bs = (bidsOf M.bs).set p [] ∧ N.o.l = M.o.l) : N.bs.length = M.bs.length := by
  rw [← length_bids, hN.2.1, List.length_set, length_bids]
theorem same_yes (M N : Mkt) (w : World) (hM : M.Ok w) (hN : N.Ok w) (cM : chkM M.r.l (bidsOf M.bs) M.o.l = true) (cN : chkM N.r.l (bidsOf N.bs) N.o.l = true) (h : M.r.l = N.r.l ∧ bidsOf M.bs = bidsOf N.bs ∧ M.o.l = N.o.l) :
    Calls Try.prog 40 #[M.val, N.val] w fun e w' => e = .returned (.bool true) ∧ Keep w w' := by
  have hs := sameMarket_f M N w hM hN (chkM_few cM) (chkM_few cN)
  rwa [show sameM M N = true by unfold sameM; rw [decide_eq_true h.1, decide_eq_true h.2.1, decide_eq_true h.2.2]; rfl] at hs
end Go.Proofs.Ytjhmlcbpbmeicaa
