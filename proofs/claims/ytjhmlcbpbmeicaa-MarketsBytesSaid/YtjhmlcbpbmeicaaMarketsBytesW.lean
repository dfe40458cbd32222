/-
  THE WALK OF THE LAW MarketsBytes: it answers true, and turns nothing that was there. Conditions: the argument is a market that came in.
-/
import Derived.Test.YtjhmlcbpbmeicaaMktQ
import Derived.Deep.CutRange
import Derived.IntWalk
namespace Go.Proofs.Ytjhmlcbpbmeicaa
open Go.RowKit

set_option maxRecDepth 100000 in
set_option maxHeartbeats 4000000 in
theorem marketsBytes_w (M : Mkt) (w : World) (hM : M.Ok w) :
    Calls Try.prog 17 #[M.val] w fun e w' => e = .returned (.bool true) ∧ Below w.heap.size w w' := by
  have lr := hM.r.len.le
  have lb := hM.b.len.le
  have lo := hM.o.len.le
  have bA := Blk.new w 62 [.slice M.r.a M.r.l.length M.r.c, .slice M.ba M.bs.length M.bc, .slice M.o.a M.o.l.length M.o.c]
  have k0 : Keep w (w.alloc (.cells #[.slice M.r.a M.r.l.length M.r.c, .slice M.ba M.bs.length M.bc, .slice M.o.a M.o.l.length M.o.c] 62)) := Keep.alloc1 _ _
  cases hck : chkM M.r.l (bidsOf M.bs) M.o.l with
  | false =>
    have hq := mput_no M _ (hM.keep k0) hck
    unfold Mkt.val at hq ⊢
    clear hck
    go_enter Try.func17, Try.ntmps17
    go_wp2_with fail
    refine hq.mono ?_
    rintro e w1 ⟨rfl, k1⟩
    have ha := alive05_f w1
    go_wp2_with fail
    refine ha.mono ?_
    rintro e w2 ⟨rfl, k2⟩
    go_wp2_with fail
    go_ret
    exact ⟨rfl, (k0.trans k1).trans k2⟩
  | true =>
    have hq := mput_yes M _ (hM.keep k0) hck
    have hlen := length_putM hck
    obtain ⟨_, h1, _, h2, h3, h4⟩ := chkM_lens hck
    rw [length_bids] at h2 h4
    have HL := Lib.hid hlen
    have HB := Lib.hid h3
    have HO := Lib.hid h4
    unfold Mkt.val at hq ⊢
    clear hck h3 hlen
    have ho8 : M.o.l.length ≤ 8 := by omega
    clear h4
    go_enter Try.func17, Try.ntmps17
    go_wp2_with fail
    refine hq.mono ?_
    rintro e w1 ⟨A', n, hn, rfl, hf, k1⟩
    have HN := Lib.hid hn
    clear hn hq hf
    replace bA := bA.keep k1
    have hM1 := (hM.keep k0).keep k1
    replace k0 := k0.trans k1
    generalize w.heap.size = gA at bA ⊢
    have c0 := bA.cell_ (i := 0) rfl
    have c1 := bA.cell_ (i := 1) rfl
    have c2 := bA.cell_ (i := 2) rfl
    clear k1
    go_wp2_with fail
    go_loopw [5, 6] (fun v i wr => ∃ k s : Nat, k ≤ M.bs.length ∧ Hid (s = sumB ((bidsOf M.bs).take k)) ∧ i = .int .i64 k ∧ v = .int .i64 ((3 : Int) + 4 * M.r.l.length + 4 * M.o.l.length + s) ∧ wr = w1) (fun _ i _ => M.bs.length - (intOf i).toNat)
    case atStart => exact ⟨0, 0, Nat.zero_le _, Lib.hid rfl, rfl, by simp, rfl⟩
    case round =>
      obtain ⟨k, s, hk, hs, rfl, rfl, rfl⟩ := hrel
      by_cases hlt : k < M.bs.length
      · obtain ⟨b1, o1, t, hba, hsk, hc1, ht⟩ := hM1.b.at_ hlt
        have htl : t.l.length ≤ 8 := HB.out t.l (List.mem_map.2 ⟨t, List.mem_of_getElem? hsk, rfl⟩)
        have hs8 : s ≤ 264 := by
          have h5 := sumB_le (B := (bidsOf M.bs).take k) (fun b hb => HB.out b (List.mem_of_mem_take hb))
          have h6 : ((bidsOf M.bs).take k).length ≤ 8 := by rw [List.length_take, length_bids]; omega
          rw [← hs.out] at h5
          omega
        have hsn := sumB_snoc (B := bidsOf M.bs) (k := k) (b := t.l) (by rw [bidsOf, List.getElem?_map, hsk]; rfl)
        rw [← hs.out] at hsn
        have HS := Lib.hid hsn
        rw [hba] at c1
        clear hsk hba hsn hs
        go_wp2_with fail
        go_roundw
        case rel => exact ⟨k + 1, s + (1 + 4 * t.l.length), by omega, Lib.hid HS.out.symm, by go_num, by go_num, trivial⟩
        case measure => simp [intOf]; omega
      · obtain rfl : k = M.bs.length := by omega
        have ha := alive05_f wr
        have e1 : n = 3 + 4 * M.r.l.length + 4 * M.o.l.length + s := by
          rw [HN.out, HL.out, hs.out, List.take_of_length_le (by rw [length_bids]; exact Nat.le_refl _)]
        have HE := Lib.hid e1
        clear e1
        go_wp2_with fail
        refine ha.mono ?_
        rintro e w2 ⟨rfl, k2⟩
        have e2 : ((n : Int) == 3 + 4 * (M.r.l.length : Int) + 4 * (M.o.l.length : Int) + (s : Int)) = true := by
          have := HE.out
          rw [beq_iff_eq]
          omega
        go_wp2_with fail
        go_ret
        exact ⟨rfl, k0.trans k2⟩
end Go.Proofs.Ytjhmlcbpbmeicaa
