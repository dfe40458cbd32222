/-
  CONTRACT for the package frames: whole with the way of GetReply. Conditions: what the function that it is handed captured are blocks of their own; the bytes read as a list in memory that was there before.
-/
import Derived.Test.YtnjjeanbopclhaaGreatDoorFrmH
namespace Go.Proofs.YtnjjeanbopclhaaGreatDoor
open Go.RowKit

/-- What whole says, with the way of GetReply. -/
def WholeR (xs : List Int) (gf gh : Nat) (w0 w : World) (e : Ending) (w' : World) : Prop :=
  But (fun k => k = gf ∨ k = gh) w w' ∧ Keep w0 w' ∧
  match readR xs with
  | none => e = .returned (.bool false) ∧ (∃ L, L.length = 10 ∧ Blk w' gf 32 L) ∧ ∃ n : Nat, Blk w' gh 24 [.int .u64 n]
  | some q => e = .returned (.bool (decide (q.2.2 = []))) ∧ ∃ ba ca, Blk w' gf 32 [.int .i64 q.1.e, .int .u32 q.1.seq, .int .u64 q.1.tok, .int .u8 q.1.ph, .int .u64 q.1.tm, .bool false, .slice ba q.1.bid.length q.1.bid.length, .int .i64 q.1.item, .int .i64 q.1.pays, .slice ca q.1.cert.length q.1.cert.length] ∧ Fr 3 w' w.heap.size ba q.1.bid.length q.1.bid.length (cs .i64 q.1.bid) ∧ Fr 5 w' w.heap.size ca q.1.cert.length q.1.cert.length (cs .u8 q.1.cert) ∧ Blk w' gh 24 [.int .u64 q.2.1]

set_option maxRecDepth 100000 in
set_option maxHeartbeats 4000000 in
theorem wholeR_f (w0 w : World) (k0 : Keep w0 w) (gf gh : Nat) (A : Option Addr) (c : Nat) (xs : List Int) (hgf : w0.heap.size ≤ gf) (hgh : w0.heap.size ≤ gh) (hn2 : gh ≠ gf) (rd : Rd w0 A (cs .u8 xs)) (hB : Bytes xs) (hc : xs.length ≤ c) (lc : Len c)
    (bf : Blk w gf 32 [.int .i64 0, .int .u32 0, .int .u64 0, .int .u8 0, .int .u64 0, .bool false, .slice none 0 0, .int .i64 0, .int .i64 0, .slice none 0 0]) (bh : Blk w gh 24 [.int .u64 0]) :
    Calls Tryz.prog 69 #[.slice A xs.length c, .func (.func 77) #[] #[.pointer (some ⟨gf, 0, none⟩), .pointer (some ⟨gh, 0, none⟩)]] w (WholeR xs gf gh w0 w) := by
  have hmf : ∀ (fn : Fn) (first cap : Array Value) (w : World), (Instr.makeFunc fn first cap).run Tryz.prog w = .ok (.func fn first cap) w := fun _ _ _ _ => rfl
  have lf := bf.lt
  have lh := bh.lt
  have k1 : Keep w (w.alloc (.cells #[.bool false] 4)) := Keep.alloc1 _ _
  have b1 := Blk.new w 4 [.bool false]
  have z1 : (w.alloc (.cells #[.bool false] 4)).heap.size = w.heap.size + 1 := Deep.nblk_alloc _ _
  have k2 : Keep w ((w.alloc (.cells #[.bool false] 4)).alloc (.cells #[.slice A xs.length c] 138)) := k1.trans (Keep.alloc1 _ _)
  have b2 := Blk.new (w.alloc (.cells #[.bool false] 4)) 138 [.slice A xs.length c]
  replace b1 := b1.keep (Keep.alloc1 _ (.cells #[.slice A xs.length c] 138))
  rw [z1] at b2
  have hk0 := k0.size
  have hR : Rest w0 ((w.alloc (.cells #[.bool false] 4)).alloc (.cells #[.slice A xs.length c] 138)) (w.heap.size + 1) xs := ⟨A, c, b2, rd, hB, hc, lc⟩
  have hq := wayR_f w0 _ (k0.trans k2) (w.heap.size + 1) gf gh xs (by omega) hgf hgh (by omega) (by omega) hn2 hR (bf.keep k2) (bh.keep k2)
  have hsz : ∀ k, k < w.heap.size → k ≠ w.heap.size + 1 := fun k h => by omega
  have hlt : w.heap.size < ((w.alloc (.cells #[.bool false] 4)).alloc (.cells #[.slice A xs.length c] 138)).heap.size := b1.lt
  replace hB := Lib.hid (And.intro hB (And.intro hc lc))
  replace hsz := Lib.hid hsz
  replace hlt := Lib.hid hlt
  have hgf' := Lib.hid (And.intro lf (And.intro lh hk0))
  clear hB hR b2 k1 z1 rd hc lc lf lh hk0
  go_enter_defers Tryz.func69, Tryz.ntmps69
  go_wp2_with fail
  refine hq.mono ?_
  intro e w3 hp
  clear hq
  unfold WayR at hp
  obtain ⟨tt, kw, hp⟩ := hp
  -- what has turned of what was there
  have tg : But (fun k => k = gf ∨ k = gh) w w3 := by
    have t := (But.keep k2 (fun k => k = w.heap.size + 1 ∨ k = gf ∨ k = gh)).trans tt
    exact ⟨t.os, t.tape, t.output, t.size, fun i hi hn => t.block i hi fun h => by
      rcases h with h | h
      · exact hsz.out i hi h
      · exact hn h⟩
  replace b1 := b1.but tt (by have := hgf'.out.1; have := hgf'.out.2.1; omega)
  have c1 := b1.cell_ (i := 0) rfl
  have f1 := b1.frozen 0
  cases hx : readR xs with
  | none =>
    rw [hx] at hp
    obtain ⟨rfl, ⟨L, hL, bL⟩, nh, bH⟩ := hp
    have HX := Lib.hid hx
    clear hx
    show bodyPostD _ _ _ (Exit.panic _) _ _
    refine leaves_cons (f := 102) (args := #[.pointer (some ⟨w.heap.size, 0, none⟩)]) (by simp) (by simp [go_sem]) ?_
    refine (catch_short ⟨w.heap.size, 0, none⟩ [] _ _ c1 f1).mono ?_
    rintro e u' w'' ⟨rfl, rfl, rfl⟩
    have c2 := (b1.set_ 0 (.bool false)).cell_ (i := 0) rfl
    show Leaves _ _ _ _ [] FrameMode.returning _
    refine ⟨.bool false, by simp [results, Tryz.results69, go_sem, c2], ?_⟩
    unfold WholeR
    rw [HX.out]
    have := hgf'.out
    exact ⟨tg.fresh _, kw.setCell this.2.2 _, rfl, ⟨L, hL, bL.far (p := ⟨w.heap.size, 0, none⟩) (by show w.heap.size ≠ gf; omega) _⟩, nh, bH.far (p := ⟨w.heap.size, 0, none⟩) (by show w.heap.size ≠ gh; omega) _⟩
  | some q =>
    rw [hx] at hp
    obtain ⟨rfl, ba, ca, bL, F1, F2, hR, bH⟩ := hp
    obtain ⟨A', c', b2, rd', hB', hc', lc'⟩ := hR
    have HX := Lib.hid hx
    clear hx
    have c2 := b2.cell_ (i := 0) rfl
    have hz : ((q.2.2.length : Int) == 0) = decide (q.2.2 = []) := by cases q.2.2 <;> simp <;> omega
    obtain ⟨z, hz0⟩ : ∃ z, z = decide (q.2.2 = []) := ⟨_, rfl⟩
    rw [← hz0] at hz
    have HZ := Lib.hid hz
    have HZ0 := Lib.hid hz0
    clear hz hz0
    go_wp2_with fail
    rw [HZ.out]
    have c3 := (b1.set_ 0 (.bool z)).cell_ (i := 0) rfl
    refine leaves_cons (f := 102) (args := #[.pointer (some ⟨w.heap.size, 0, none⟩)]) (by simp) (by simp [go_sem]) ?_
    refine (catch_idle ⟨w.heap.size, 0, none⟩ _).mono ?_
    rintro e u' w'' ⟨rfl, rfl, rfl⟩
    show Leaves _ _ _ _ [] FrameMode.returning _
    refine ⟨.bool z, by simp [results, Tryz.results69, go_sem, c3], ?_⟩
    unfold WholeR
    rw [HX.out]
    have hg := hgf'.out
    have hl := hlt.out
    have hu : ∀ {e : TypeId} {A1 : Option Addr} {n1 c1 : Nat} {vs : List Value}, Fr e w3 ((w.alloc (.cells #[.bool false] 4)).alloc (.cells #[.slice A xs.length c] 138)).heap.size A1 n1 c1 vs → Fr e (w3.setCell ⟨w.heap.size, 0, none⟩ (.bool z)) w.heap.size A1 n1 c1 vs := fun F =>
      (F.setCell (p := ⟨w.heap.size, 0, none⟩) (fun k hk => by have := (F.own_ge hk).1; show w.heap.size ≠ k; omega) (.bool z)).mono k2.size
    exact ⟨tg.fresh _, kw.setCell hg.2.2 _, by rw [HZ0.out], ba, ca, bL.far (p := ⟨w.heap.size, 0, none⟩) (by show w.heap.size ≠ gf; omega) _, hu F1, hu F2, bH.far (p := ⟨w.heap.size, 0, none⟩) (by show w.heap.size ≠ gh; omega) _⟩
end Go.Proofs.YtnjjeanbopclhaaGreatDoor
