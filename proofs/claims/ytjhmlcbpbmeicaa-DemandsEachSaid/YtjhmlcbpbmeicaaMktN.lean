/-
  CONTRACT for the package markets: Without where it refuses. Conditions: the slices of the market read as lists, and are no longer than memory lets them be.
-/
import Derived.Test.YtjhmlcbpbmeicaaMktM
namespace Go.Proofs.Ytjhmlcbpbmeicaa
open Go.RowKit

set_option maxRecDepth 100000 in
set_option maxHeartbeats 2000000 in
theorem without_chk (M : Mkt) (p : Int) (w : World) (hM : M.Ok w) (hc : chkM M.r.l (bidsOf M.bs) M.o.l = false) :
    Calls Try.prog 36 #[M.val, .int .i64 p] w fun e w' => e = .returned (.tuple #[zeroM, .int .i64 1]) ∧ Keep w w' := by
  have hck := fun w1 (k1 : Keep w w1) => mcheck_f M w1 (hM.keep k1)
  unfold Mkt.val at hck ⊢
  rw [hc] at hck
  clear hc
  have lb := hM.b.len.le
  go_enter Try.func36, Try.ntmps36
  go_wp2_with fail
  have k0 : Keep w ((w.alloc (.cells #[.slice M.r.a M.r.l.length M.r.c, .slice M.ba M.bs.length M.bc, .slice M.o.a M.o.l.length M.o.c] 62)).alloc (.cells #[.slice none 0 0, .slice none 0 0, .slice none 0 0] 62)) := (Keep.alloc1 _ _).trans (Keep.alloc1 _ _)
  have d1 : ((w.alloc (.cells #[.slice M.r.a M.r.l.length M.r.c, .slice M.ba M.bs.length M.bc, .slice M.o.a M.o.l.length M.o.c] 62)).alloc (.cells #[.slice none 0 0, .slice none 0 0, .slice none 0 0] 62)).cell? ⟨w.heap.size, 1, none⟩ = some (.slice M.ba M.bs.length M.bc) := by
    have h := (Blk.new w 62 [.slice M.r.a M.r.l.length M.r.c, .slice M.ba M.bs.length M.bc, .slice M.o.a M.o.l.length M.o.c]).keep (Keep.alloc1 _ (.cells #[.slice none 0 0, .slice none 0 0, .slice none 0 0] 62))
    exact h.cell_ rfl
  have b0 : Blk ((w.alloc (.cells #[.slice M.r.a M.r.l.length M.r.c, .slice M.ba M.bs.length M.bc, .slice M.o.a M.o.l.length M.o.c] 62)).alloc (.cells #[.slice none 0 0, .slice none 0 0, .slice none 0 0] 62)) (w.heap.size + 1) 62 [.slice none 0 0, .slice none 0 0, .slice none 0 0] := by
    have h := Blk.new (w.alloc (.cells #[.slice M.r.a M.r.l.length M.r.c, .slice M.ba M.bs.length M.bc, .slice M.o.a M.o.l.length M.o.c] 62)) 62 [.slice none 0 0, .slice none 0 0, .slice none 0 0]
    simpa using h
  generalize ((w.alloc (.cells #[.slice M.r.a M.r.l.length M.r.c, .slice M.ba M.bs.length M.bc, .slice M.o.a M.o.l.length M.o.c] 62)).alloc (.cells #[.slice none 0 0, .slice none 0 0, .slice none 0 0] 62)) = w0 at k0 d1 b0 ⊢
  refine (hck _ k0).mono ?_
  rintro e w1 ⟨rfl, k1⟩
  replace d1 := k1.cell d1
  replace b0 := b0.keep k1
  replace k0 := k0.trans k1
  clear hck k1
  go_wp2_with (refine wpList_store_row rfl 62 _ _ rfl (w.heap.size + 1) #[.slice none 0 0, .slice none 0 0, .slice none 0 0] rfl rfl _ _ b0 (by kernel_rfl) rfl (by simp [Value.oneCell']) ?_)
  refine bodyPost_ret (wo_results rfl (b0.row #[.slice none 0 0, .slice none 0 0, .slice none 0 0]) rfl) rfl ?_
  exact ⟨rfl, k0.grown (only_row w1 (w.heap.size + 1) #[.slice none 0 0, .slice none 0 0, .slice none 0 0]) (fun k e => by injection e with e; omega)⟩
set_option maxRecDepth 100000 in
set_option maxHeartbeats 2000000 in
theorem without_neg (M : Mkt) (p : Int) (w : World) (hM : M.Ok w) (hc : chkM M.r.l (bidsOf M.bs) M.o.l = true) (hp : p < 0) :
    Calls Try.prog 36 #[M.val, .int .i64 p] w fun e w' => e = .returned (.tuple #[zeroM, .int .i64 1]) ∧ Keep w w' := by
  have hck := fun w1 (k1 : Keep w w1) => mcheck_f M w1 (hM.keep k1)
  unfold Mkt.val at hck ⊢
  rw [hc] at hck
  clear hc
  have lb := hM.b.len.le
  have z1 := eq_true hp
  have z2 := decide_eq_true hp
  go_enter Try.func36, Try.ntmps36
  go_wp2_with fail
  have k0 : Keep w ((w.alloc (.cells #[.slice M.r.a M.r.l.length M.r.c, .slice M.ba M.bs.length M.bc, .slice M.o.a M.o.l.length M.o.c] 62)).alloc (.cells #[.slice none 0 0, .slice none 0 0, .slice none 0 0] 62)) := (Keep.alloc1 _ _).trans (Keep.alloc1 _ _)
  have d1 : ((w.alloc (.cells #[.slice M.r.a M.r.l.length M.r.c, .slice M.ba M.bs.length M.bc, .slice M.o.a M.o.l.length M.o.c] 62)).alloc (.cells #[.slice none 0 0, .slice none 0 0, .slice none 0 0] 62)).cell? ⟨w.heap.size, 1, none⟩ = some (.slice M.ba M.bs.length M.bc) := by
    have h := (Blk.new w 62 [.slice M.r.a M.r.l.length M.r.c, .slice M.ba M.bs.length M.bc, .slice M.o.a M.o.l.length M.o.c]).keep (Keep.alloc1 _ (.cells #[.slice none 0 0, .slice none 0 0, .slice none 0 0] 62))
    exact h.cell_ rfl
  have b0 : Blk ((w.alloc (.cells #[.slice M.r.a M.r.l.length M.r.c, .slice M.ba M.bs.length M.bc, .slice M.o.a M.o.l.length M.o.c] 62)).alloc (.cells #[.slice none 0 0, .slice none 0 0, .slice none 0 0] 62)) (w.heap.size + 1) 62 [.slice none 0 0, .slice none 0 0, .slice none 0 0] := by
    have h := Blk.new (w.alloc (.cells #[.slice M.r.a M.r.l.length M.r.c, .slice M.ba M.bs.length M.bc, .slice M.o.a M.o.l.length M.o.c] 62)) 62 [.slice none 0 0, .slice none 0 0, .slice none 0 0]
    simpa using h
  generalize ((w.alloc (.cells #[.slice M.r.a M.r.l.length M.r.c, .slice M.ba M.bs.length M.bc, .slice M.o.a M.o.l.length M.o.c] 62)).alloc (.cells #[.slice none 0 0, .slice none 0 0, .slice none 0 0] 62)) = w0 at k0 d1 b0 ⊢
  refine (hck _ k0).mono ?_
  rintro e w1 ⟨rfl, k1⟩
  replace d1 := k1.cell d1
  replace b0 := b0.keep k1
  replace k0 := k0.trans k1
  clear hck k1
  go_wp2_with (refine wpList_store_row rfl 62 _ _ rfl (w.heap.size + 1) #[.slice none 0 0, .slice none 0 0, .slice none 0 0] rfl rfl _ _ b0 (by kernel_rfl) rfl (by simp [Value.oneCell']) ?_)
  refine bodyPost_ret (wo_results rfl (b0.row #[.slice none 0 0, .slice none 0 0, .slice none 0 0]) rfl) rfl ?_
  exact ⟨rfl, k0.grown (only_row w1 (w.heap.size + 1) #[.slice none 0 0, .slice none 0 0, .slice none 0 0]) (fun k e => by injection e with e; omega)⟩
set_option maxRecDepth 100000 in
set_option maxHeartbeats 2000000 in
theorem without_many (M : Mkt) (p : Int) (w : World) (hM : M.Ok w) (hc : chkM M.r.l (bidsOf M.bs) M.o.l = true) (hp : (M.bs.length : Int) ≤ p) :
    Calls Try.prog 36 #[M.val, .int .i64 p] w fun e w' => e = .returned (.tuple #[zeroM, .int .i64 1]) ∧ Keep w w' := by
  have hck := fun w1 (k1 : Keep w w1) => mcheck_f M w1 (hM.keep k1)
  unfold Mkt.val at hck ⊢
  rw [hc] at hck
  clear hc
  have lb := hM.b.len.le
  have z0 : (p < 0) = False := eq_false (by omega)
  have z1 : decide (p < 0) = false := decide_eq_false (by omega)
  have z2 := decide_eq_true hp
  go_enter Try.func36, Try.ntmps36
  go_wp2_with fail
  have k0 : Keep w ((w.alloc (.cells #[.slice M.r.a M.r.l.length M.r.c, .slice M.ba M.bs.length M.bc, .slice M.o.a M.o.l.length M.o.c] 62)).alloc (.cells #[.slice none 0 0, .slice none 0 0, .slice none 0 0] 62)) := (Keep.alloc1 _ _).trans (Keep.alloc1 _ _)
  have d1 : ((w.alloc (.cells #[.slice M.r.a M.r.l.length M.r.c, .slice M.ba M.bs.length M.bc, .slice M.o.a M.o.l.length M.o.c] 62)).alloc (.cells #[.slice none 0 0, .slice none 0 0, .slice none 0 0] 62)).cell? ⟨w.heap.size, 1, none⟩ = some (.slice M.ba M.bs.length M.bc) := by
    have h := (Blk.new w 62 [.slice M.r.a M.r.l.length M.r.c, .slice M.ba M.bs.length M.bc, .slice M.o.a M.o.l.length M.o.c]).keep (Keep.alloc1 _ (.cells #[.slice none 0 0, .slice none 0 0, .slice none 0 0] 62))
    exact h.cell_ rfl
  have b0 : Blk ((w.alloc (.cells #[.slice M.r.a M.r.l.length M.r.c, .slice M.ba M.bs.length M.bc, .slice M.o.a M.o.l.length M.o.c] 62)).alloc (.cells #[.slice none 0 0, .slice none 0 0, .slice none 0 0] 62)) (w.heap.size + 1) 62 [.slice none 0 0, .slice none 0 0, .slice none 0 0] := by
    have h := Blk.new (w.alloc (.cells #[.slice M.r.a M.r.l.length M.r.c, .slice M.ba M.bs.length M.bc, .slice M.o.a M.o.l.length M.o.c] 62)) 62 [.slice none 0 0, .slice none 0 0, .slice none 0 0]
    simpa using h
  generalize ((w.alloc (.cells #[.slice M.r.a M.r.l.length M.r.c, .slice M.ba M.bs.length M.bc, .slice M.o.a M.o.l.length M.o.c] 62)).alloc (.cells #[.slice none 0 0, .slice none 0 0, .slice none 0 0] 62)) = w0 at k0 d1 b0 ⊢
  refine (hck _ k0).mono ?_
  rintro e w1 ⟨rfl, k1⟩
  replace d1 := k1.cell d1
  replace b0 := b0.keep k1
  replace k0 := k0.trans k1
  clear hck k1
  go_wp2_with (refine wpList_store_row rfl 62 _ _ rfl (w.heap.size + 1) #[.slice none 0 0, .slice none 0 0, .slice none 0 0] rfl rfl _ _ b0 (by kernel_rfl) rfl (by simp [Value.oneCell']) ?_)
  refine bodyPost_ret (wo_results rfl (b0.row #[.slice none 0 0, .slice none 0 0, .slice none 0 0]) rfl) rfl ?_
  exact ⟨rfl, k0.grown (only_row w1 (w.heap.size + 1) #[.slice none 0 0, .slice none 0 0, .slice none 0 0]) (fun k e => by injection e with e; omega)⟩
end Go.Proofs.Ytjhmlcbpbmeicaa
