/-
  CONTRACTS for the package frames: whole, with the function that it defers. Conditions: what the function that it is handed captured is a block of its own; the bytes read as a list in memory that was there before.
-/
import Derived.Test.YtnjjeanbopclhaaGreatDoorFrmG
import Derived.Tactics2
import Derived.Defers
import Derived.Recover
import Derived.Laws.Pointers
import Derived.Deep.Heap
namespace Go.Proofs.YtnjjeanbopclhaaGreatDoor
open Go.RowKit

set_option maxRecDepth 100000 in
theorem catch_short (p : Addr) (older : List PanicEntry) (w : World) (v : Value) (hc : w.cell? p = some v) (hz : w.frozen? p = false) :
    CallsD Tryz.prog 102 #[.pointer (some p)] (.panicking ({ v := .iface 136 (.agg #[]), recovered := false } :: older)) w fun e u' w' =>
      e = .returned (.tuple #[]) ∧ u' = .panicking ({ v := .iface 136 (.agg #[]), recovered := true } :: older) ∧ w' = w.setCell p (.bool false) := by
  have has : ∀ (v : Value) (xT : TypeId) (w : World), (Instr.typeAssert (.iface 136 v) xT 136 true).run Tryz.prog w = .ok (.tuple #[v, .bool true]) w := fun v xT w => by kernel_rfl
  refine callsD_of_wpS Tryz.func102 rfl fun c₀ cs hu => ?_
  apply wpS_seq
  apply wpS_region
  simp [wpOpsS, go_sem, recoverD, hu, Tryz.ntmps102, Exit.thenS]
  apply wpS_of_wp
  go_wp2_with fail
  simp [bodyPostS, results, Tryz.results102]

set_option maxRecDepth 100000 in
theorem catch_idle (p : Addr) (w : World) :
    CallsD Tryz.prog 102 #[.pointer (some p)] .returning w fun e u' w' => e = .returned (.tuple #[]) ∧ u' = .returning ∧ w' = w := by
  refine callsD_of_wpS Tryz.func102 rfl fun c₀ cs hu => ?_
  apply wpS_seq
  apply wpS_region
  simp [wpOpsS, go_sem, recoverD, hu, Tryz.ntmps102, Exit.thenS]
  apply wpS_of_wp
  go_wp2_with fail
  cases c₀
  simp_all [bodyPostS, results, Tryz.results102]

theorem But.low {S T : Nat → Prop} {w w' : World} (h : But T w w') (hs : ∀ i, i < w.heap.size → T i → S i) : But S w w' := ⟨h.os, h.tape, h.output, h.size, fun i hi hn => h.block i hi fun ht => hn (hs i hi ht)⟩
theorem But.fresh {S : Nat → Prop} {w w' : World} (h : But S w w') (u : Value) : But S w (w'.setCell ⟨w.heap.size, 0, none⟩ u) :=
  (((h.mono (T := fun k => S k ∨ k = w.heap.size) fun _ h => .inl h).setCell (p := ⟨w.heap.size, 0, none⟩) (.inr rfl) u).low fun i hi ht => by
    rcases ht with h | h
    · exact h
    · omega)

/-- What whole says, with the way of Get. -/
def WholeF (xs : List Int) (gf : Nat) (w0 w : World) (e : Ending) (w' : World) : Prop :=
  But (fun k => k = gf) w w' ∧ Keep w0 w' ∧
  match readF xs with
  | none => e = .returned (.bool false) ∧ (∃ L, L.length = 6 ∧ Blk w' gf 28 L)
  | some q => e = .returned (.bool (decide (q.2 = []))) ∧ ∃ sa ba, Blk w' gf 28 [.int .u8 q.1.ask, .int .u8 q.1.who, .int .u32 q.1.seq, .int .u64 q.1.tok, .slice sa q.1.sec.length q.1.sec.length, .slice ba q.1.bid.length q.1.bid.length] ∧ Fr 5 w' w.heap.size sa q.1.sec.length q.1.sec.length (cs .u8 q.1.sec) ∧ Fr 3 w' w.heap.size ba q.1.bid.length q.1.bid.length (cs .i64 q.1.bid)

set_option maxRecDepth 100000 in
set_option maxHeartbeats 4000000 in
theorem wholeF_f (w0 w : World) (k0 : Keep w0 w) (gf : Nat) (A : Option Addr) (c : Nat) (xs : List Int) (hgf : w0.heap.size ≤ gf) (rd : Rd w0 A (cs .u8 xs)) (hB : Bytes xs) (hc : xs.length ≤ c) (lc : Len c)
    (bf : Blk w gf 28 [.int .u8 0, .int .u8 0, .int .u32 0, .int .u64 0, .slice none 0 0, .slice none 0 0]) :
    Calls Tryz.prog 69 #[.slice A xs.length c, .func (.func 70) #[] #[.pointer (some ⟨gf, 0, none⟩)]] w (WholeF xs gf w0 w) := by
  have hmf : ∀ (fn : Fn) (first cap : Array Value) (w : World), (Instr.makeFunc fn first cap).run Tryz.prog w = .ok (.func fn first cap) w := fun _ _ _ _ => rfl
  have lf := bf.lt
  have k1 : Keep w (w.alloc (.cells #[.bool false] 4)) := Keep.alloc1 _ _
  have b1 := Blk.new w 4 [.bool false]
  have z1 : (w.alloc (.cells #[.bool false] 4)).heap.size = w.heap.size + 1 := Deep.nblk_alloc _ _
  have k2 : Keep w ((w.alloc (.cells #[.bool false] 4)).alloc (.cells #[.slice A xs.length c] 138)) := k1.trans (Keep.alloc1 _ _)
  have b2 := Blk.new (w.alloc (.cells #[.bool false] 4)) 138 [.slice A xs.length c]
  replace b1 := b1.keep (Keep.alloc1 _ (.cells #[.slice A xs.length c] 138))
  rw [z1] at b2
  have hk0 := k0.size
  have hR : Rest w0 ((w.alloc (.cells #[.bool false] 4)).alloc (.cells #[.slice A xs.length c] 138)) (w.heap.size + 1) xs := ⟨A, c, b2, rd, hB, hc, lc⟩
  have hq := wayF_f w0 _ (k0.trans k2) (w.heap.size + 1) gf xs (by omega) hgf (by omega) hR (bf.keep k2)
  have hsz : ∀ k, k < w.heap.size → k ≠ w.heap.size + 1 := fun k h => by omega
  have hlt : w.heap.size < ((w.alloc (.cells #[.bool false] 4)).alloc (.cells #[.slice A xs.length c] 138)).heap.size := b1.lt
  replace hB := Lib.hid (And.intro hB (And.intro hc lc))
  replace hsz := Lib.hid hsz
  replace hlt := Lib.hid hlt
  have hgf' := Lib.hid (And.intro lf hk0)
  clear hB hR b2 k1 z1 rd hc lc lf hk0
  go_enter_defers Tryz.func69, Tryz.ntmps69
  go_wp2_with fail
  refine hq.mono ?_
  intro e w3 hp
  clear hq
  unfold WayF at hp
  obtain ⟨tt, kw, hp⟩ := hp
  -- what has turned of what was there
  have tg : But (fun k => k = gf) w w3 := by
    have t := (But.keep k2 (fun k => k = w.heap.size + 1 ∨ k = gf)).trans tt
    exact ⟨t.os, t.tape, t.output, t.size, fun i hi hn => t.block i hi fun h => by
      rcases h with h | h
      · exact hsz.out i hi h
      · exact hn h⟩
  replace b1 := b1.but tt (by have := hgf'.out.1; omega)
  have c1 := b1.cell_ (i := 0) rfl
  have f1 := b1.frozen 0
  cases hx : readF xs with
  | none =>
    rw [hx] at hp
    obtain ⟨rfl, L, hL, bL⟩ := hp
    have HX := Lib.hid hx
    clear hx
    show bodyPostD _ _ _ (Exit.panic _) _ _
    refine leaves_cons (f := 102) (args := #[.pointer (some ⟨w.heap.size, 0, none⟩)]) (by simp) (by simp [go_sem]) ?_
    refine (catch_short ⟨w.heap.size, 0, none⟩ [] _ _ c1 f1).mono ?_
    rintro e u' w'' ⟨rfl, rfl, rfl⟩
    have c2 := (b1.set_ 0 (.bool false)).cell_ (i := 0) rfl
    show Leaves _ _ _ _ [] FrameMode.returning _
    refine ⟨.bool false, by simp [results, Tryz.results69, go_sem, c2], ?_⟩
    unfold WholeF
    rw [HX.out]
    have := hgf'.out
    exact ⟨tg.fresh _, kw.setCell this.2 _, rfl, L, hL, bL.far (p := ⟨w.heap.size, 0, none⟩) (by show w.heap.size ≠ gf; omega) _⟩
  | some q =>
    rw [hx] at hp
    obtain ⟨rfl, sa, ba, bL, F1, F2, hR⟩ := hp
    obtain ⟨A', c', b2, rd', hB', hc', lc'⟩ := hR
    have HX := Lib.hid hx
    clear hx
    have c2 := b2.cell_ (i := 0) rfl
    have hz : ((q.2.length : Int) == 0) = decide (q.2 = []) := by cases q.2 <;> simp <;> omega
    obtain ⟨z, hz0⟩ : ∃ z, z = decide (q.2 = []) := ⟨_, rfl⟩
    rw [← hz0] at hz
    have HZ := Lib.hid hz
    have HZ0 := Lib.hid hz0
    clear hz hz0
    go_wp2_with fail
    rw [HZ.out]
    have c3 := (b1.set_ 0 (.bool z)).cell_ (i := 0) rfl
    refine leaves_cons (f := 102) (args := #[.pointer (some ⟨w.heap.size, 0, none⟩)]) (by simp) (by simp [go_sem]) ?_
    refine (catch_idle ⟨w.heap.size, 0, none⟩ _).mono ?_
    rintro e u' w'' ⟨rfl, rfl, rfl⟩
    show Leaves _ _ _ _ [] FrameMode.returning _
    refine ⟨.bool z, by simp [results, Tryz.results69, go_sem, c3], ?_⟩
    unfold WholeF
    rw [HX.out]
    have hg := hgf'.out
    have hl := hlt.out
    have hu : ∀ {e : TypeId} {A1 : Option Addr} {n1 c1 : Nat} {vs : List Value}, Fr e w3 ((w.alloc (.cells #[.bool false] 4)).alloc (.cells #[.slice A xs.length c] 138)).heap.size A1 n1 c1 vs → Fr e (w3.setCell ⟨w.heap.size, 0, none⟩ (.bool z)) w.heap.size A1 n1 c1 vs := fun F =>
      (F.setCell (p := ⟨w.heap.size, 0, none⟩) (fun k hk => by have := (F.own_ge hk).1; show w.heap.size ≠ k; omega) (.bool z)).mono k2.size
    exact ⟨tg.fresh _, kw.setCell hg.2 _, by rw [HZ0.out], sa, ba, bL.far (p := ⟨w.heap.size, 0, none⟩) (by show w.heap.size ≠ gf; omega) _, hu F1, hu F2⟩
end Go.Proofs.YtnjjeanbopclhaaGreatDoor
