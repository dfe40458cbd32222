/-
  CONTRACTS of the laws' sizes: each answers some number, and turns nothing. Conditions: the slices read as lists, and are no longer than memory lets them be.
-/
import Derived.Test.YtjhmlcbpbmeicaaMktG
import Derived.IntWalk
namespace Go.Proofs.Ytjhmlcbpbmeicaa
open Go.RowKit

set_option maxRecDepth 100000 in
set_option maxHeartbeats 1000000 in
theorem intsSize_f (s : Sl) (w : World) : Calls Try.prog 64 #[.slice s.a s.l.length s.c] w fun e w' => e = .returned (.int .i64 s.l.length) ∧ Keep w w' := by
  go_enter Try.func64, Try.ntmps64
  go_wp2_with fail
  go_ret
  exact ⟨rfl, Keep.refl _⟩

set_option maxRecDepth 100000 in
set_option maxHeartbeats 2000000 in
theorem listsSize_f (A : Option Addr) (c : Nat) (ss : List Sl) (w : World) (ha : InR .i64 w A c ss) : Calls Try.prog 65 #[.slice A ss.length c] w fun e w' => (∃ n : Int, e = .returned (.int .i64 n)) ∧ Keep w w' := by
  have la' := ha.len.le
  go_enter Try.func65, Try.ntmps65
  go_wp2_with fail
  go_loopw [3, 4] (fun a i wr => ∃ (k : Nat) (m : Int), k ≤ ss.length ∧ i = .int .i64 k ∧ a = .int .i64 m ∧ Keep w wr) (fun _ i _ => ss.length - (intOf i).toNat)
  case atStart => exact ⟨0, _, Nat.zero_le _, rfl, rfl, Keep.refl _⟩
  case round =>
    obtain ⟨k, m, hk, rfl, rfl, hkeep⟩ := hrel
    by_cases hlt : k < ss.length
    · by_cases hm : m ≤ 1048576
      · obtain ⟨b1, o1, s, rfl, hx, hc1, hs⟩ := (ha.keep hkeep).at_ hlt
        clear hx hs
        have hq := intsSize_f s wr
        go_wp2_with fail
        refine hq.mono ?_
        rintro e w1 ⟨rfl, k1⟩
        go_wp2_with fail
        go_roundw
        case rel => exact ⟨k + 1, _, by omega, by go_num, rfl, hkeep.trans k1⟩
        case measure => simp [intOf]; omega
      · go_wp2_with fail
        go_ret
        exact ⟨⟨_, rfl⟩, hkeep⟩
    · go_wp2_with fail
      go_ret
      exact ⟨⟨_, rfl⟩, hkeep⟩

set_option maxRecDepth 100000 in
set_option maxHeartbeats 2000000 in
theorem marketSize_f (M : Mkt) (w : World) (hM : M.Ok w) : Calls Try.prog 42 #[M.val] w fun e w' => (∃ n : Int, e = .returned (.int .i64 n)) ∧ Keep w w' := by
  have bM := Blk.new w 62 [.slice M.r.a M.r.l.length M.r.c, .slice M.ba M.bs.length M.bc, .slice M.o.a M.o.l.length M.o.c]
  have kk : Keep w (w.alloc (.cells #[.slice M.r.a M.r.l.length M.r.c, .slice M.ba M.bs.length M.bc, .slice M.o.a M.o.l.length M.o.c] 62)) := Keep.alloc1 _ _
  have lr := hM.r.len.le
  unfold Mkt.val
  go_enter Try.func42, Try.ntmps42
  go_wp2_with fail
  generalize w.alloc (.cells #[.slice M.r.a M.r.l.length M.r.c, .slice M.ba M.bs.length M.bc, .slice M.o.a M.o.l.length M.o.c] 62) = wA at bM kk ⊢
  generalize w.heap.size = gA at bM ⊢
  have hq := intsSize_f M.r wA
  refine hq.mono ?_
  rintro e w1 ⟨rfl, k1⟩
  replace bM := bM.keep k1
  replace kk := kk.trans k1
  have c1 := bM.cell_ (i := 1) rfl
  clear hq k1
  have hq2 := listsSize_f M.ba M.bc M.bs w1 ((hM.keep kk).b)
  go_wp2_with fail
  · refine hq2.mono ?_
    rintro e w2 ⟨⟨n, rfl⟩, k2⟩
    replace bM := bM.keep k2
    replace kk := kk.trans k2
    have c2 := bM.cell_ (i := 2) rfl
    have hq3 := intsSize_f M.o w2
    clear hq2 k2 c1
    go_wp2_with fail
    · refine hq3.mono ?_
      rintro e w3 ⟨rfl, k3⟩
      go_wp2_with fail
      go_ret
      exact ⟨⟨_, rfl⟩, kk.trans k3⟩
    · go_ret
      exact ⟨⟨_, rfl⟩, kk⟩
  · go_ret
    exact ⟨⟨_, rfl⟩, kk⟩
end Go.Proofs.Ytjhmlcbpbmeicaa
