/-
  THE WALK OF THE LAW NumsJoin: it answers true, and turns nothing that was there. Conditions: the arguments are an array of two slices of bytes that came in and a uint16.
-/
import Derived.Test.YtjhmlcbpbmeicaaNumG
import Derived.Test.YtjhmlcbpbmeicaaNumQ
import Derived.Deep.RegionHeld3
import Derived.IntWalk
namespace Go.Proofs.Ytjhmlcbpbmeicaa
open Go.RowKit

/-- A row of n bytes of its own. -/
def RowsN (n : Nat) (zs : List Int) (w : World) (e : Ending) (w' : World) : Prop :=
  ∃ A', e = .returned (.slice A' n n) ∧ Fr 5 w' w.heap.size A' n n (cs .u8 zs) ∧ Keep w w'
theorem Rows.n {n : Nat} {zs : List Int} {w w' : World} {e : Ending} (h : Rows zs w e w') (hn : zs.length = n) : RowsN n zs w e w' := by
  subst hn
  exact h
/-- 'PutBytes' behind bytes that are known. -/
theorem putBy_n (A B : Option Addr) (c d n m : Nat) (xs ys : List Int) (w : World) (hm : n + (2 + ys.length) = m) (ha : Rd w A (cs .u8 xs)) (hx : xs.length = n) (la : n ≤ 200000) (hA : A = none → c = 0) (hb : Rd w B (cs .u8 ys)) (hd : ys.length ≤ d) (lb : Len d) (hy : ys.length ≤ 65535) :
    Calls Try.prog 28 #[.slice A n c, .slice B ys.length d] w (RowsN m (xs ++ putBy ys) w) := by
  subst hx
  subst hm
  refine (putBytes_f A c xs B d ys w ha (by omega) hA hb hd lb).mono fun e w' h => ?_
  rw [List.take_of_length_le hy] at h
  exact h.n (by rw [List.length_append, length_putBy])
/-- 'GetBytes' where bytes are got. -/
theorem getBy_n (A : Option Addr) (c n : Nat) (xs zs : List Int) (w : World) (ha : Rd w A (cs .u8 xs)) (hb : Bytes xs) (hn : xs.length = n) (hc : n ≤ c) (lc : Len c) (hg : getBy xs = some zs) :
    Calls Try.prog 29 #[.slice A n c] w fun e w' => ∃ A', e = .returned (.tuple #[.slice A' zs.length zs.length, .int .i64 (2 + (zs.length : Int)), .int .i64 0]) ∧ Rd w' A' (cs .u8 zs) ∧ Keep w w' := by
  subst hn
  refine (getBytes_f A c xs w ha hb hc lc).mono fun e w' h => ?_
  unfold GetByP at h
  rw [hg] at h
  obtain ⟨A', rfl, hf, hk⟩ := h
  exact ⟨A', by simp, hf.rd, hk⟩
theorem getBy_no (A : Option Addr) (c n : Nat) (xs : List Int) (w : World) (ha : Rd w A (cs .u8 xs)) (hb : Bytes xs) (hn : xs.length = n) (hc : n ≤ c) (lc : Len c) (hg : getBy xs = none) :
    Calls Try.prog 29 #[.slice A n c] w fun e w' => e = .returned (.tuple #[.slice none 0 0, .int .i64 0, .int .i64 5]) ∧ Keep w w' := by
  subst hn
  refine (getBytes_f A c xs w ha hb hc lc).mono fun e w' h => ?_
  unfold GetByP at h
  rw [hg] at h
  exact h
theorem bytes_putBy {l : List Int} (h : Bytes l) : Bytes (putBy l) := (bytes_le _ _).append h

set_option maxRecDepth 100000 in
set_option maxHeartbeats 4000000 in
theorem numsJoin_w (A0 A1 : Option Addr) (c0 c1 : Nat) (xs ys : List Int) (q : Int) (w : World) (hx : In .u8 w A0 c0 xs) (hy : In .u8 w A1 c1 ys) (hq : 0 ≤ q ∧ q < 65536) :
    Calls Try.prog 6 #[.agg #[.slice A0 xs.length c0, .slice A1 ys.length c1], .int .u16 q] w fun e w' => e = .returned (.bool true) ∧ Below w.heap.size w w' := by
  have lx := hx.len
  have ly := hy.len
  by_cases hb0 : 65535 < xs.length
  · have hb0' : (65535 : Int) < xs.length := by omega
    go_enter Try.func6, Try.ntmps6
    go_wp2_with fail
    have k0 : Keep w (w.alloc (.cells #[.slice A0 xs.length c0, .slice A1 ys.length c1] 32)) := Keep.alloc1 _ _
    have d0 : (w.alloc (.cells #[.slice A0 xs.length c0, .slice A1 ys.length c1] 32)).cell? ⟨w.heap.size, 0, none⟩ = some (.slice A0 xs.length c0) := by simp
    have d1 : (w.alloc (.cells #[.slice A0 xs.length c0, .slice A1 ys.length c1] 32)).cell? ⟨w.heap.size, 1, none⟩ = some (.slice A1 ys.length c1) := by simp
    generalize w.alloc (.cells #[.slice A0 xs.length c0, .slice A1 ys.length c1] 32) = w0 at k0 d0 d1 ⊢
    refine (alive01_f w0).mono ?_
    rintro e w1 ⟨rfl, k1⟩
    have e0 := k1.cell d0
    have e1 := k1.cell d1
    go_wp2_with fail
    refine (alive01_f w1).mono ?_
    rintro e w2 ⟨rfl, k2⟩
    go_wp2_with fail
    go_ret
    exact ⟨rfl, k0.trans (k1.trans k2)⟩
  by_cases hb1 : 65535 < ys.length
  · have hb0' : (xs.length : Int) ≤ 65535 := by omega
    have hb1' : (65535 : Int) < ys.length := by omega
    go_enter Try.func6, Try.ntmps6
    go_wp2_with fail
    have k0 : Keep w (w.alloc (.cells #[.slice A0 xs.length c0, .slice A1 ys.length c1] 32)) := Keep.alloc1 _ _
    have d0 : (w.alloc (.cells #[.slice A0 xs.length c0, .slice A1 ys.length c1] 32)).cell? ⟨w.heap.size, 0, none⟩ = some (.slice A0 xs.length c0) := by simp
    have d1 : (w.alloc (.cells #[.slice A0 xs.length c0, .slice A1 ys.length c1] 32)).cell? ⟨w.heap.size, 1, none⟩ = some (.slice A1 ys.length c1) := by simp
    generalize w.alloc (.cells #[.slice A0 xs.length c0, .slice A1 ys.length c1] 32) = w0 at k0 d0 d1 ⊢
    refine (alive01_f w0).mono ?_
    rintro e w1 ⟨rfl, k1⟩
    have e0 := k1.cell d0
    have e1 := k1.cell d1
    go_wp2_with fail
    refine (alive01_f w1).mono ?_
    rintro e w2 ⟨rfl, k2⟩
    go_wp2_with fail
    go_ret
    exact ⟨rfl, k0.trans (k1.trans k2)⟩
  have hb0' : (xs.length : Int) ≤ 65535 := by omega
  have hb1' : (ys.length : Int) ≤ 65535 := by omega
  have g1 := fun (B : Option Addr) (w' : World) (r : Rd w' B (cs .u8 (putBy xs ++ putBy ys))) => getBy_n B (2 + xs.length + (2 + ys.length)) (2 + xs.length + (2 + ys.length)) (putBy xs ++ putBy ys) xs w' r ((bytes_putBy hx.bytes).append (bytes_putBy hy.bytes)) (by rw [List.length_append, length_putBy, length_putBy]) (Nat.le_refl _) (by unfold Len; omega) (getBy_put xs _ (by omega))
  have g2 := fun (B : Option Addr) (w' : World) (r : Rd w' B (cs .u8 (putBy ys))) => getBy_n B (2 + ys.length) (2 + ys.length) (putBy ys) ys w' r (bytes_putBy hy.bytes) (length_putBy _) (Nat.le_refl _) (by unfold Len; omega) (getBy_put' ys (by omega))
  obtain ⟨k, hk⟩ : ∃ k : Nat, q % (2 + (ys.length : Int)) = k := ⟨(q % (2 + (ys.length : Int))).toNat, by
    have := Int.emod_nonneg q (b := 2 + (ys.length : Int)) (by omega)
    omega⟩
  have hk2 : k < 2 + ys.length := by
    have := Int.emod_lt_of_pos q (b := 2 + (ys.length : Int)) (by omega)
    omega
  have g3 := fun (B : Option Addr) (w' : World) (r : Rd w' B (cs .u8 ((putBy ys).take k))) => getBy_no B (2 + ys.length) k ((putBy ys).take k) w' r ((bytes_putBy hy.bytes).take _) (by rw [List.length_take, length_putBy]; omega) (by omega) (by unfold Len; omega) (getBy_cut ys (by omega) k (by rw [length_putBy]; exact hk2))
  go_enter Try.func6, Try.ntmps6
  go_wp2_with fail
  have k0 : Keep w (w.alloc (.cells #[.slice A0 xs.length c0, .slice A1 ys.length c1] 32)) := Keep.alloc1 _ _
  have d0 : (w.alloc (.cells #[.slice A0 xs.length c0, .slice A1 ys.length c1] 32)).cell? ⟨w.heap.size, 0, none⟩ = some (.slice A0 xs.length c0) := by simp
  have d1 : (w.alloc (.cells #[.slice A0 xs.length c0, .slice A1 ys.length c1] 32)).cell? ⟨w.heap.size, 1, none⟩ = some (.slice A1 ys.length c1) := by simp
  generalize w.alloc (.cells #[.slice A0 xs.length c0, .slice A1 ys.length c1] 32) = w0 at k0 d0 d1 ⊢
  refine (alive01_f w0).mono ?_
  rintro e w1 ⟨rfl, k1⟩
  replace d0 := k1.cell d0
  replace d1 := k1.cell d1
  replace k0 := k0.trans k1
  clear k1
  go_wp2_with fail
  have l0 : Len c0 := by have := hx.capI; unfold Len; omega
  have l1 : Len c1 := by have := hy.capI; unfold Len; omega
  have t0 : (w1.drew).cell? ⟨w.heap.size, 0, none⟩ = some (.slice A0 xs.length c0) := d0
  have t1 : (w1.drew).cell? ⟨w.heap.size, 1, none⟩ = some (.slice A1 ys.length c1) := d1
  refine wp_region_noPanic ?_
  refine wp_region_held_drew (S := (fun w' => w'.cell? ⟨w.heap.size, 0, none⟩ = some (.slice A0 xs.length c0) ∧ w'.cell? ⟨w.heap.size, 1, none⟩ = some (.slice A1 ys.length c1))) (by kernel_rfl) ⟨t0, t1⟩ (fun hS => ?_)
  refine wpAnyH_take (i := 0) (v := ?_) rfl (by kernel_rfl) (by kernel_rfl) (by kernel_rfl) (fun _ _ _ h => h) (Or.inl ⟨by rfl, ?_⟩) hS ?_
  rotate_left
  · (intro w hSw; (try dsimp only at hSw); go_simp; (first | done | with_reducible rfl))
  change wpAnyH _ _ _ _ _ _ _ (Act.put _ (some 31) _) _
  simp only [Act.put, List.setIfInBounds_toArray, List.set_cons_zero, List.set_cons_succ]
  refine wpAnyH_take (i := 1) (v := ?_) rfl (by kernel_rfl) (by kernel_rfl) (by kernel_rfl) (fun _ _ _ h => h) (Or.inl ⟨by rfl, ?_⟩) hS ?_
  rotate_left
  · (intro w hSw; (try dsimp only at hSw); go_simp; (first | done | with_reducible rfl))
  change wpAnyH _ _ _ _ _ _ _ (Act.put _ (some 32) _) _
  simp only [Act.put, List.setIfInBounds_toArray, List.set_cons_zero, List.set_cons_succ]
  refine wpAnyH_take (i := 3) (v := ?_) rfl (by kernel_rfl) (by kernel_rfl) (by kernel_rfl) (fun _ _ _ h => h) (Or.inl ⟨by rfl, ?_⟩) hS ?_
  rotate_left
  · (intro w hSw; (try dsimp only at hSw); go_simp; (first | done | with_reducible rfl))
  change wpAnyH _ _ _ _ _ _ _ (Act.put _ (some 34) _) _
  simp only [Act.put, List.setIfInBounds_toArray, List.set_cons_zero, List.set_cons_succ]
  refine wpAnyH_take (i := 4) (v := ?_) rfl (by kernel_rfl) (by kernel_rfl) (by kernel_rfl) (fun _ _ _ h => h) (Or.inl ⟨by rfl, ?_⟩) hS ?_
  rotate_left
  · (intro w hSw; (try dsimp only at hSw); go_simp; (first | done | with_reducible rfl))
  change wpAnyH _ _ _ _ _ _ _ (Act.put _ (some 35) _) _
  simp only [Act.put, List.setIfInBounds_toArray, List.set_cons_zero, List.set_cons_succ]
  refine wpAnyH_ready (rs := [2]) (by kernel_rfl) (by simp) ?_
  refine AllReadyH.cons rfl (fun K hK => ?_) AllReadyH.nil
  go_simp
  refine (putBy_n none A0 0 c0 0 (2 + xs.length) [] xs _ (Nat.zero_add _) (Rd.nil _ _) List.length_nil (by omega) (fun _ => rfl) (by exact hx.rd.keep (k0.drew)) hx.cap l0 (by omega)).mono ?_
  rintro e w2 ⟨A2, rfl, f2, k2⟩
  simp only [List.nil_append] at f2
  go_wp2_with fail
  refine hK.out _ _ ⟨k2.cell hS.1, k2.cell hS.2⟩ (fun hS => ?_)
  clear hK K
  try simp only [Act.put, List.setIfInBounds_toArray, List.set_cons_zero, List.set_cons_succ]
  refine wpAnyH_ready (rs := [5]) (by kernel_rfl) (by simp) ?_
  refine AllReadyH.cons rfl (fun K hK => ?_) AllReadyH.nil
  go_simp
  refine (putBy_n A2 A1 (2 + xs.length) c1 (2 + xs.length) (2 + xs.length + (2 + ys.length)) (putBy xs) ys _ rfl f2.rd (length_putBy _) (by omega) (fun h => f2.capNil h) (by exact hy.rd.keep (k0.drew.trans k2)) hy.cap l1 (by omega)).mono ?_
  rintro e w3 ⟨A3, rfl, f3, k3⟩
  go_wp2_with fail
  refine hK.out _ _ ⟨k3.cell hS.1, k3.cell hS.2⟩ (fun hS => ?_)
  clear hK K
  try simp only [Act.put, List.setIfInBounds_toArray, List.set_cons_zero, List.set_cons_succ]
  refine wpAnyH_take (i := 6) (v := ?_) rfl (by kernel_rfl) (by kernel_rfl) (by kernel_rfl) (fun _ _ _ h => h) (Or.inl ⟨by rfl, ?_⟩) hS ?_
  rotate_left
  · (intro w hSw; (try dsimp only at hSw); go_simp; (first | done | with_reducible rfl))
  change wpAnyH _ _ _ _ _ _ _ (Act.put _ (some 5) _) _
  simp only [Act.put, List.setIfInBounds_toArray, List.set_cons_zero, List.set_cons_succ]
  refine wpAnyH_done (by kernel_rfl) ?_ _
  refine NoPanic.normal ?_
  replace d0 := k3.cell (k2.cell d0)
  replace d1 := k3.cell (k2.cell d1)
  replace k0 := (k0.drew.trans k2).trans k3
  obtain ⟨g, rfl, _, _⟩ := f3.form (by omega)
  have r3 := f3.rd
  have r3' : Rd w3 (some ⟨g, 2 + xs.length, none⟩) (cs .u8 (putBy ys)) := by
    have h := r3.drop (n := 2 + xs.length) (cap := 2 + xs.length + (2 + ys.length)) (by rw [length_cs, List.length_append, length_putBy, length_putBy]; exact Nat.le_refl _) (some ⟨g, 2 + xs.length, none⟩) (fun _ => by simp [Addr.add_lit])
    rwa [cs_drop, List.drop_left' (length_putBy _)] at h
  clear f2 f3 k2 k3 hS
  go_wp2_with fail
  refine (g1 _ _ r3).mono ?_
  rintro e w4 ⟨A4, rfl, r4, k4⟩
  replace d0 := k4.cell d0
  replace d1 := k4.cell d1
  replace k0 := k0.trans k4
  replace r3' := r3'.keep k4
  clear k4 r3 g1
  go_wp2_with fail
  have hs1 : IntKind.i64.wrap (2 + (xs.length : Int) + (k : Int)) = 2 + (xs.length : Int) + (k : Int) := IntWalk.i64_in _ (by omega)
  have hsb := saysK (sameBytes A4 A0 xs.length c0 xs xs w4 r4 (hx.rd.keep k0) (by unfold Reach; omega) (by unfold Reach; omega))
  rw [decide_eq_true rfl] at hsb
  refine hsb.mono ?_
  rintro e w5 ⟨rfl, k5⟩
  replace d0 := k5.cell d0
  replace d1 := k5.cell d1
  replace k0 := k0.trans k5
  replace r3' := r3'.keep k5
  clear k5 hsb r4
  have hne : ¬ 2 + xs.length + (2 + ys.length) = 2 + xs.length := by omega
  have hsub : 2 + xs.length + (2 + ys.length) - (2 + xs.length) = 2 + ys.length := by omega
  have hsub2 : 2 + xs.length + k - (2 + xs.length) = k := by omega
  go_wp2_with fail
  refine (g2 _ _ r3').mono ?_
  rintro e w6 ⟨A6, rfl, r6, k6⟩
  replace d0 := k6.cell d0
  replace d1 := k6.cell d1
  replace k0 := k0.trans k6
  replace r3' := r3'.keep k6
  clear k6 g2
  go_wp2_with fail
  have r3k := r3'.take k
  rw [cs_take] at r3k
  refine (g3 _ _ r3k).mono ?_
  rintro e w7 ⟨rfl, k7⟩
  replace d0 := k7.cell d0
  replace d1 := k7.cell d1
  replace k0 := k0.trans k7
  replace r6 := r6.keep k7
  clear k7 g3 r3' r3k
  go_wp2_with fail
  have hsb := saysK (sameBytes A6 A1 ys.length c1 ys ys w7 r6 (hy.rd.keep k0) (by unfold Reach; omega) (by unfold Reach; omega))
  rw [decide_eq_true rfl] at hsb
  refine hsb.mono ?_
  rintro e w8 ⟨rfl, k8⟩
  go_wp2_with fail
  go_ret
  exact ⟨rfl, k0.trans k8⟩
end Go.Proofs.Ytjhmlcbpbmeicaa
