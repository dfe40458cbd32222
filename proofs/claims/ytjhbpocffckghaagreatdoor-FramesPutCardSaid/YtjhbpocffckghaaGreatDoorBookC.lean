/-
  CONTRACTS of the laws' Book: every list of bytes, of ints, is marked; is made longer; is looked at. Conditions: those that each theorem states.
-/
import Derived.Test.YtjhbpocffckghaaGreatDoorBookB
import Derived.Test.YtjhbpocffckghaaGreatDoorNumA
import Derived.Deep.RegionHeld3
namespace Go.Proofs.YtjhbpocffckghaaGreatDoor
open Go.RowKit

/-- The blocks of the held slices. -/
def Own (hs : List Hd) (k : Nat) : Prop := ∃ h ∈ hs, ownB h.a h.c = some k
/-- They lie in rows apart. -/
def Aparts (hs : List Hd) : Prop := ∀ (i j : Nat) (x y : Hd), i ≠ j → hs[i]? = some x → hs[j]? = some y → ∀ k, ownB x.a x.c = some k → ownB y.a y.c ≠ some k
theorem HRow.notOwn {w : World} {base b : Nat} {e e' : TypeId} {v : Value} {rs hs : List Hd} (hr : HRow w base e v rs) (hf : ∀ h ∈ hs, ∃ us, Fr e' w b h.a h.n h.c us) (hne : e' ≠ e) : ∀ k, v.ownBlock = some k → ¬ Own hs k := by
  rintro k hk ⟨h, hh, ho⟩
  obtain ⟨cur, hc⟩ := hr.cur hk
  obtain ⟨us, hu⟩ := hf h hh
  exact hu.own_ne hc hne k ho rfl
theorem mark_set {z : Value} {us : List Value} {k : Nat} (h : k < us.length) : (List.replicate k z ++ us.drop k).set k z = List.replicate (k + 1) z ++ us.drop (k + 1) := by
  have hl : (List.replicate k z).length = k := List.length_replicate
  have hd : us.drop k = us[k] :: us.drop (k + 1) := List.drop_eq_getElem_cons h
  rw [List.set_append_right _ _ (by omega), hl, Nat.sub_self, hd, List.set_cons_zero, List.replicate_succ', List.append_assoc]
  rfl
theorem one_rep (u : Value) (h : u.oneCell' = true) : ∀ x ∈ [u], x.oneCell' = true := by
  intro x hx
  rw [List.mem_singleton] at hx
  exact hx ▸ h
theorem rep_snoc (n : Nat) (z : Value) : List.replicate n z ++ [z] = List.replicate (n + 1) z := List.replicate_succ'.symm

set_option maxRecDepth 100000 in
set_option maxHeartbeats 4000000 in
theorem fillByte_f (g : Nat) (vb : Value) (hs : List Hd) (w : World) (base : Nat) (hv : w.cell? ⟨g, 1, none⟩ = some vb) (hr : HRow w base 89 vb hs)
    (hf : ∀ h ∈ hs, ∃ us, Fr 5 w base h.a h.n h.c us) (hp : Aparts hs) (hm : ∀ h ∈ hs, h.m < 100000) (hg : ¬ Own hs g) (ln : hs.length ≤ 10000) :
    Calls Tryz.prog 42 #[pK g] w fun e w' => e = .returned (.tuple #[]) ∧ But (Own hs) w w' ∧ ∀ h ∈ hs, Fr 5 w' base h.a h.n h.c (List.replicate h.n (.int .u8 (mk8 h.m))) := by
  have hno := hr.notOwn hf (by decide)
  obtain ⟨A0, c0, hv0⟩ := hr.val
  have HV := Lib.hid hv0
  have HP := Lib.hid hp
  have HMM := Lib.hid hm
  have HG := Lib.hid hg
  have HNO := Lib.hid hno
  clear hv0 hp hm hg hno
  unfold pK
  go_enter Tryz.func42, Tryz.ntmps42
  go_wp2_with fail
  go_loopw [2] (fun v wr => ∃ i : Nat, i ≤ hs.length ∧ v = .int .i64 i ∧ But (Own hs) w wr ∧ (∀ j h, hs[j]? = some h → (j < i → Fr 5 wr base h.a h.n h.c (List.replicate h.n (.int .u8 (mk8 h.m)))) ∧ (i ≤ j → ∃ us, Fr 5 wr base h.a h.n h.c us))) (fun v _ => hs.length - (intOf v).toNat)
  case atStart => exact ⟨0, Nat.zero_le _, rfl, But.refl _ _, fun j h hj => ⟨fun h' => absurd h' (Nat.not_lt_zero _), fun _ => hf h (List.mem_of_getElem? hj)⟩⟩
  case round =>
    obtain ⟨i, hi, rfl, hb, hall⟩ := hrel
    have HA := Lib.hid hall
    clear hall
    have cv := hb.cell hv HG.out
    by_cases hlt : i < hs.length
    · obtain ⟨h, hh⟩ : ∃ h, hs[i]? = some h := ⟨_, List.getElem?_eq_getElem hlt⟩
      have hrr := hr.but hb HNO.out
      obtain ⟨gr, cap, hv1, hgr, hgr2, hcap, hcm, hcur, hfz, hcell⟩ := hrr.at_ (by omega)
      have r0 := hcell (i * 3) _ ((cellsOf_at hh (j := 0) (by omega)).trans rfl)
      have r1 := hcell (i * 3 + 1) _ ((cellsOf_at hh (j := 1) (by omega)).trans rfl)
      have r2 := hcell (i * 3 + 2) _ ((cellsOf_at hh (j := 2) (by omega)).trans rfl)
      rw [hv1] at cv
      have HH := Lib.hid hh
      have HV1 := Lib.hid hv1
      have hi1 : (i : Int) < hs.length := by omega
      have hi0 : (0 : Int) ≤ i := by omega
      clear hh hv1 hcell hcur hfz hrr
      go_upto_region 4 with fail
      have bH : Blk (wr.alloc (.cells #[.slice h.a h.n h.c, .slice h.la h.ln h.lc, .int .i64 h.m] 89)) wr.heap.size 89 [.slice h.a h.n h.c, .slice h.la h.ln h.lc, .int .i64 h.m] := Blk.new wr _ _
      have kn : Keep wr (wr.alloc (.cells #[.slice h.a h.n h.c, .slice h.la h.ln h.lc, .int .i64 h.m] 89)) := Keep.alloc1 _ _
      change Code.wp _ _ _ _ (wr.alloc (.cells #[.slice h.a h.n h.c, .slice h.la h.ln h.lc, .int .i64 h.m] 89))
      obtain ⟨us, hu⟩ := (HA.out i h HH.out).2 (Nat.le_refl _)
      replace hu := hu.keep kn
      have hub := (hu.keep (Keep.refl _)).own_ne bH (by decide)
      generalize (wr.alloc (.cells #[.slice h.a h.n h.c, .slice h.la h.ln h.lc, .int .i64 h.m] 89)) = w1 at bH kn hu ⊢
      generalize wr.heap.size = gH at bH hub ⊢
      have HM := Lib.hid (HMM.out h (List.mem_of_getElem? HH.out))
      have hul := hu.len
      have hcp := hu.cap
      have hcpm := hu.capMax
      unfold maxLen at hcpm
      have hn63 : (h.n : Int) ≤ 9223372036854775807 := by omega
      clear r0 r1 r2 cv
      go_wp2_with fail
      obtain ⟨w2, hw2⟩ : ∃ x, x = w1 := ⟨w1, rfl⟩
      subst hw2
      go_loopw [4] (fun v wr => ∃ k : Nat, k ≤ h.n ∧ v = .int .i64 k ∧ But (fun q => ownB h.a h.c = some q) w2 wr ∧ Fr 5 wr base h.a h.n h.c (List.replicate k (.int .u8 (mk8 h.m)) ++ us.drop k)) (fun v _ => h.n - (intOf v).toNat)
      case atStart => exact ⟨0, Nat.zero_le _, rfl, But.refl _ _, hu⟩
      case round =>
        obtain ⟨k, hk, rfl, hb2, hfr⟩ := hrel
        have bR := bH.but hb2 (fun e => hub gH e rfl)
        have b0 := bR.cell_ (i := 0) rfl
        have b2 := bR.cell_ (i := 2) rfl
        by_cases hkl : k < h.n
        · obtain ⟨gb, hga, hgb1, hgb2⟩ := hfr.form (by omega)
          have hne : gb ≠ gH := fun e => hub gb (by rw [hga]; unfold ownB; rw [if_neg (by omega)]; rfl) e.symm
          rw [hga] at b0 hfr
          have HGA := Lib.hid hga
          have hz := hfr.rd.at_ (j := k) (by rw [hfr.len]; exact hkl)
          obtain ⟨b', o', e', ck⟩ := hz
          cases e'
          rw [Nat.zero_add] at ck
          obtain ⟨vk, ck⟩ : ∃ v, wr.cell? ⟨gb, k, none⟩ = some v := ⟨_, ck⟩
          have fk := hfr.frozen (by omega) k
          have hk0 : (0 : Int) ≤ k := by omega
          have hk1 : (k : Int) < h.n := by omega
          clear hga bR
          go_upto_region 7 with fail
          refine wp_region_noPanic ?_
          refine wp_region_held_drew (S := (fun w' => w'.cell? ⟨gH, 0, none⟩ = some (.slice (some ⟨gb, 0, none⟩) h.n h.c) ∧ w'.cell? ⟨gH, 2, none⟩ = some (.int .i64 (h.m : Int)))) (by kernel_rfl) ⟨b0, b2⟩ (fun hS => ?_)
          have kz : Keep wr wr.drew := (Keep.refl _).drew
          have cq := kz.cell ck
          have fq := (kz.frozen (p := ⟨gb, k, none⟩) hgb2).trans fk
          replace hfr := hfr.keep kz
          replace hb2 := hb2.grown2 (row := none) ⟨rfl, rfl, rfl, Nat.le_refl _, fun _ _ _ => rfl⟩ (fun _ e => by cases e) (c := wr.drew)
          generalize wr.drew = v0 at hS hfr hb2 cq fq ⊢
          clear kz
          refine wpAnyH_take (i := 0) (v := ?_) rfl (by kernel_rfl) (by kernel_rfl) (by kernel_rfl) (fun _ _ _ h => h) (Or.inl ⟨by rfl, ?_⟩) hS ?_
          rotate_left
          · (intro w hSw; (try dsimp only at hSw); go_simp; (first | done | with_reducible rfl))
          change wpAnyH _ _ _ _ _ _ _ (Act.put _ (some 28) _) _
          simp only [Act.put, List.setIfInBounds_toArray, List.set_cons_zero, List.set_cons_succ]
          refine wpAnyH_take (i := 1) (v := ?_) rfl (by kernel_rfl) (by kernel_rfl) (by kernel_rfl) (fun _ _ _ h => h) (Or.inl ⟨by rfl, ?_⟩) hS ?_
          rotate_left
          · (intro w hSw; (try dsimp only at hSw); go_simp; (first | done | with_reducible rfl))
          change wpAnyH _ _ _ _ _ _ _ (Act.put _ (some 29) _) _
          simp only [Act.put, List.setIfInBounds_toArray, List.set_cons_zero, List.set_cons_succ]
          refine wpAnyH_take (i := 2) (v := ?_) rfl (by kernel_rfl) (by kernel_rfl) (by kernel_rfl) (fun _ _ _ h => h) (Or.inl ⟨by rfl, ?_⟩) hS ?_
          rotate_left
          · (intro w hSw; (try dsimp only at hSw); go_simp; (first | done | with_reducible rfl))
          change wpAnyH _ _ _ _ _ _ _ (Act.put _ (some 30) _) _
          simp only [Act.put, List.setIfInBounds_toArray, List.set_cons_zero, List.set_cons_succ]
          refine wpAnyH_take (i := 3) (v := ?_) rfl (by kernel_rfl) (by kernel_rfl) (by kernel_rfl) (fun _ _ _ h => h) (Or.inl ⟨by rfl, ?_⟩) hS ?_
          rotate_left
          · (intro w hSw; (try dsimp only at hSw); go_simp; (first | done | with_reducible rfl))
          change wpAnyH _ _ _ _ _ _ _ (Act.put _ (some 31) _) _
          simp only [Act.put, List.setIfInBounds_toArray, List.set_cons_zero, List.set_cons_succ]
          refine wpAnyH_take (i := 4) (v := ?_) rfl (by kernel_rfl) (by kernel_rfl) (by kernel_rfl) (fun _ _ _ h => h) (Or.inl ⟨by rfl, ?_⟩) hS ?_
          rotate_left
          · (intro w hSw; (try dsimp only at hSw); go_simp; (first | done | with_reducible rfl))
          change wpAnyH _ _ _ _ _ _ _ (Act.put _ (some 32) _) _
          simp only [Act.put, List.setIfInBounds_toArray, List.set_cons_zero, List.set_cons_succ]
          refine wpAnyH_ready (rs := [5]) (by kernel_rfl) (by simp) ?_
          refine AllReadyH.cons rfl (fun K hK => ?_) AllReadyH.nil
          go_simp
          refine (markByte_f h.m v0 HM.out).mono ?_
          rintro e v0 ⟨rfl, rfl⟩
          go_wp2_with fail
          refine hK.out _ _ hS (fun hS => ?_)
          clear hK K
          try simp only [Act.put, List.setIfInBounds_toArray, List.set_cons_zero, List.set_cons_succ]
          refine wpAnyH_take (i := 6) (v := ?_) rfl (by kernel_rfl) (by kernel_rfl) (by kernel_rfl) (fun _ _ _ h => h) (Or.inl ⟨by rfl, ?_⟩) hS ?_
          rotate_left
          · (intro w hSw; (try dsimp only at hSw); go_simp; (first | done | with_reducible rfl))
          change wpAnyH _ _ _ _ _ _ _ (Act.put _ (some 34) _) _
          simp only [Act.put, List.setIfInBounds_toArray, List.set_cons_zero, List.set_cons_succ]
          refine wpAnyH_ready (rs := [7]) (by kernel_rfl) (by simp) ?_
          refine AllReadyH.cons rfl (fun K hK => ?_) AllReadyH.nil
          go_simp
          go_simp
          refine hK.out _ _ ⟨(World.cell?_setCell_other v0 ⟨gb, k, none⟩ ⟨gH, 0, none⟩ _ (fun e => by injection e with e1; exact hne e1)).trans hS.1, (World.cell?_setCell_other v0 ⟨gb, k, none⟩ ⟨gH, 2, none⟩ _ (fun e => by injection e with e1; exact hne e1)).trans hS.2⟩ (fun hS => ?_)
          clear hK K
          try simp only [Act.put, List.setIfInBounds_toArray]
          refine wpAnyH_done (by kernel_rfl) ?_ _
          refine NoPanic.normal ?_
          have hst := hfr.stored hkl (.int .u8 (mk8 h.m))
          rw [mark_set (by omega)] at hst
          rw [← HGA.out] at hst
          have hb3 := hb2.setCell2 (p := ⟨gb, k, none⟩) (.inl (by rw [HGA.out]; unfold ownB; rw [if_neg (by omega)]; rfl)) (.int .u8 (mk8 h.m))
          go_wp2_with fail
          go_roundw
          case rel => exact ⟨k + 1, by omega, by go_num, hb3, hst⟩
          case measure => simp [intOf]; omega
        · obtain rfl : k = h.n := by omega
          rw [List.drop_eq_nil_of_le (by omega), List.append_nil] at hfr
          have hb4 : But (Own hs) w wr := (hb.grown2 (row := none) ⟨kn.os, kn.tape, kn.output, kn.size, fun _ hi _ => kn.block hi⟩ (fun _ e => by cases e)).trans (hb2.mono fun q hq => ⟨h, List.mem_of_getElem? HH.out, hq⟩)
          have hall : ∀ j h', hs[j]? = some h' → (j < i + 1 → Fr 5 wr base h'.a h'.n h'.c (List.replicate h'.n (.int .u8 (mk8 h'.m)))) ∧ (i + 1 ≤ j → ∃ us, Fr 5 wr base h'.a h'.n h'.c us) := fun j h' hj => by
            by_cases hji : j = i
            · subst hji
              rw [HH.out] at hj
              cases hj
              exact ⟨fun _ => hfr, fun h' => by omega⟩
            · have hs1 : ∀ q, ownB h'.a h'.c = some q → ¬ (ownB h.a h.c = some q) := fun q h1 h2 => HP.out j i h' h hji hj HH.out q h1 h2
              exact ⟨fun h1 => (((HA.out j h' hj).1 (by omega)).keep kn).but hb2 hs1, fun h1 => by
                obtain ⟨us', h2⟩ := (HA.out j h' hj).2 (by omega)
                exact ⟨us', (h2.keep kn).but hb2 hs1⟩⟩
          have HALL := Lib.hid hall
          clear hall
          go_wp2_with fail
          go_roundw
          case rel => exact ⟨i + 1, by omega, by go_num, hb4, HALL.out⟩
          case measure => simp [intOf]; omega
    · rw [HV.out] at cv
      go_wp2_with fail
      go_end0
      exact ⟨rfl, hb, fun h hh => by
        obtain ⟨j, hj⟩ := List.getElem?_of_mem hh
        exact (HA.out j h hj).1 (by have := (List.getElem?_eq_some_iff.1 hj).1; omega)⟩

set_option maxRecDepth 100000 in
set_option maxHeartbeats 4000000 in
theorem fillInt_f (g : Nat) (vb : Value) (hs : List Hd) (w : World) (base : Nat) (hv : w.cell? ⟨g, 2, none⟩ = some vb) (hr : HRow w base 92 vb hs)
    (hf : ∀ h ∈ hs, ∃ us, Fr 3 w base h.a h.n h.c us) (hp : Aparts hs) (hm : ∀ h ∈ hs, h.m < 100000) (hg : ¬ Own hs g) (ln : hs.length ≤ 10000) :
    Calls Tryz.prog 43 #[pK g] w fun e w' => e = .returned (.tuple #[]) ∧ But (Own hs) w w' ∧ ∀ h ∈ hs, Fr 3 w' base h.a h.n h.c (List.replicate h.n (.int .i64 (-((h.m : Nat) : Int)))) := by
  have hno := hr.notOwn hf (by decide)
  obtain ⟨A0, c0, hv0⟩ := hr.val
  have HV := Lib.hid hv0
  have HP := Lib.hid hp
  have HMM := Lib.hid hm
  have HG := Lib.hid hg
  have HNO := Lib.hid hno
  clear hv0 hp hm hg hno
  unfold pK
  go_enter Tryz.func43, Tryz.ntmps43
  go_wp2_with fail
  go_loopw [2] (fun v wr => ∃ i : Nat, i ≤ hs.length ∧ v = .int .i64 i ∧ But (Own hs) w wr ∧ (∀ j h, hs[j]? = some h → (j < i → Fr 3 wr base h.a h.n h.c (List.replicate h.n (.int .i64 (-((h.m : Nat) : Int))))) ∧ (i ≤ j → ∃ us, Fr 3 wr base h.a h.n h.c us))) (fun v _ => hs.length - (intOf v).toNat)
  case atStart => exact ⟨0, Nat.zero_le _, rfl, But.refl _ _, fun j h hj => ⟨fun h' => absurd h' (Nat.not_lt_zero _), fun _ => hf h (List.mem_of_getElem? hj)⟩⟩
  case round =>
    obtain ⟨i, hi, rfl, hb, hall⟩ := hrel
    have HA := Lib.hid hall
    clear hall
    have cv := hb.cell hv HG.out
    by_cases hlt : i < hs.length
    · obtain ⟨h, hh⟩ : ∃ h, hs[i]? = some h := ⟨_, List.getElem?_eq_getElem hlt⟩
      have hrr := hr.but hb HNO.out
      obtain ⟨gr, cap, hv1, hgr, hgr2, hcap, hcm, hcur, hfz, hcell⟩ := hrr.at_ (by omega)
      have r0 := hcell (i * 3) _ ((cellsOf_at hh (j := 0) (by omega)).trans rfl)
      have r1 := hcell (i * 3 + 1) _ ((cellsOf_at hh (j := 1) (by omega)).trans rfl)
      have r2 := hcell (i * 3 + 2) _ ((cellsOf_at hh (j := 2) (by omega)).trans rfl)
      rw [hv1] at cv
      have HH := Lib.hid hh
      have HV1 := Lib.hid hv1
      have hi1 : (i : Int) < hs.length := by omega
      have hi0 : (0 : Int) ≤ i := by omega
      clear hh hv1 hcell hcur hfz hrr
      go_upto_region 4 with fail
      have bH : Blk (wr.alloc (.cells #[.slice h.a h.n h.c, .slice h.la h.ln h.lc, .int .i64 h.m] 92)) wr.heap.size 92 [.slice h.a h.n h.c, .slice h.la h.ln h.lc, .int .i64 h.m] := Blk.new wr _ _
      have kn : Keep wr (wr.alloc (.cells #[.slice h.a h.n h.c, .slice h.la h.ln h.lc, .int .i64 h.m] 92)) := Keep.alloc1 _ _
      change Code.wp _ _ _ _ (wr.alloc (.cells #[.slice h.a h.n h.c, .slice h.la h.ln h.lc, .int .i64 h.m] 92))
      obtain ⟨us, hu⟩ := (HA.out i h HH.out).2 (Nat.le_refl _)
      replace hu := hu.keep kn
      have hub := (hu.keep (Keep.refl _)).own_ne bH (by decide)
      generalize (wr.alloc (.cells #[.slice h.a h.n h.c, .slice h.la h.ln h.lc, .int .i64 h.m] 92)) = w1 at bH kn hu ⊢
      generalize wr.heap.size = gH at bH hub ⊢
      have HM := Lib.hid (HMM.out h (List.mem_of_getElem? HH.out))
      have hul := hu.len
      have hcp := hu.cap
      have hcpm := hu.capMax
      unfold maxLen at hcpm
      have hn63 : (h.n : Int) ≤ 9223372036854775807 := by omega
      clear r0 r1 r2 cv
      go_wp2_with fail
      obtain ⟨w2, hw2⟩ : ∃ x, x = w1 := ⟨w1, rfl⟩
      subst hw2
      go_loopw [4] (fun v wr => ∃ k : Nat, k ≤ h.n ∧ v = .int .i64 k ∧ But (fun q => ownB h.a h.c = some q) w2 wr ∧ Fr 3 wr base h.a h.n h.c (List.replicate k (.int .i64 (-((h.m : Nat) : Int))) ++ us.drop k)) (fun v _ => h.n - (intOf v).toNat)
      case atStart => exact ⟨0, Nat.zero_le _, rfl, But.refl _ _, hu⟩
      case round =>
        obtain ⟨k, hk, rfl, hb2, hfr⟩ := hrel
        have bR := bH.but hb2 (fun e => hub gH e rfl)
        have b0 := bR.cell_ (i := 0) rfl
        have b2 := bR.cell_ (i := 2) rfl
        by_cases hkl : k < h.n
        · obtain ⟨gb, hga, hgb1, hgb2⟩ := hfr.form (by omega)
          have hne : gb ≠ gH := fun e => hub gb (by rw [hga]; unfold ownB; rw [if_neg (by omega)]; rfl) e.symm
          rw [hga] at b0 hfr
          have HGA := Lib.hid hga
          have hz := hfr.rd.at_ (j := k) (by rw [hfr.len]; exact hkl)
          obtain ⟨b', o', e', ck⟩ := hz
          cases e'
          rw [Nat.zero_add] at ck
          obtain ⟨vk, ck⟩ : ∃ v, wr.cell? ⟨gb, k, none⟩ = some v := ⟨_, ck⟩
          have fk := hfr.frozen (by omega) k
          have hk0 : (0 : Int) ≤ k := by omega
          have hk1 : (k : Int) < h.n := by omega
          clear hga bR
          go_upto_region 7 with fail
          refine wp_region_noPanic ?_
          refine wp_region_held_drew (S := (fun w' => w'.cell? ⟨gH, 0, none⟩ = some (.slice (some ⟨gb, 0, none⟩) h.n h.c) ∧ w'.cell? ⟨gH, 2, none⟩ = some (.int .i64 (h.m : Int)))) (by kernel_rfl) ⟨b0, b2⟩ (fun hS => ?_)
          have kz : Keep wr wr.drew := (Keep.refl _).drew
          have cq := kz.cell ck
          have fq := (kz.frozen (p := ⟨gb, k, none⟩) hgb2).trans fk
          replace hfr := hfr.keep kz
          replace hb2 := hb2.grown2 (row := none) ⟨rfl, rfl, rfl, Nat.le_refl _, fun _ _ _ => rfl⟩ (fun _ e => by cases e) (c := wr.drew)
          generalize wr.drew = v0 at hS hfr hb2 cq fq ⊢
          clear kz
          refine wpAnyH_take (i := 0) (v := ?_) rfl (by kernel_rfl) (by kernel_rfl) (by kernel_rfl) (fun _ _ _ h => h) (Or.inl ⟨by rfl, ?_⟩) hS ?_
          rotate_left
          · (intro w hSw; (try dsimp only at hSw); go_simp; (first | done | with_reducible rfl))
          change wpAnyH _ _ _ _ _ _ _ (Act.put _ (some 28) _) _
          simp only [Act.put, List.setIfInBounds_toArray, List.set_cons_zero, List.set_cons_succ]
          refine wpAnyH_take (i := 1) (v := ?_) rfl (by kernel_rfl) (by kernel_rfl) (by kernel_rfl) (fun _ _ _ h => h) (Or.inl ⟨by rfl, ?_⟩) hS ?_
          rotate_left
          · (intro w hSw; (try dsimp only at hSw); go_simp; (first | done | with_reducible rfl))
          change wpAnyH _ _ _ _ _ _ _ (Act.put _ (some 29) _) _
          simp only [Act.put, List.setIfInBounds_toArray, List.set_cons_zero, List.set_cons_succ]
          refine wpAnyH_take (i := 2) (v := ?_) rfl (by kernel_rfl) (by kernel_rfl) (by kernel_rfl) (fun _ _ _ h => h) (Or.inl ⟨by rfl, ?_⟩) hS ?_
          rotate_left
          · (intro w hSw; (try dsimp only at hSw); go_simp; (first | done | with_reducible rfl))
          change wpAnyH _ _ _ _ _ _ _ (Act.put _ (some 30) _) _
          simp only [Act.put, List.setIfInBounds_toArray, List.set_cons_zero, List.set_cons_succ]
          refine wpAnyH_take (i := 3) (v := ?_) rfl (by kernel_rfl) (by kernel_rfl) (by kernel_rfl) (fun _ _ _ h => h) (Or.inl ⟨by rfl, ?_⟩) hS ?_
          rotate_left
          · (intro w hSw; (try dsimp only at hSw); go_simp; (first | done | with_reducible rfl))
          change wpAnyH _ _ _ _ _ _ _ (Act.put _ (some 31) _) _
          simp only [Act.put, List.setIfInBounds_toArray, List.set_cons_zero, List.set_cons_succ]
          refine wpAnyH_take (i := 4) (v := ?_) rfl (by kernel_rfl) (by kernel_rfl) (by kernel_rfl) (fun _ _ _ h => h) (Or.inl ⟨by rfl, ?_⟩) hS ?_
          rotate_left
          · (intro w hSw; (try dsimp only at hSw); go_simp; (first | done | with_reducible rfl))
          change wpAnyH _ _ _ _ _ _ _ (Act.put _ (some 32) _) _
          simp only [Act.put, List.setIfInBounds_toArray, List.set_cons_zero, List.set_cons_succ]
          refine wpAnyH_ready (rs := [5]) (by kernel_rfl) (by simp) ?_
          refine AllReadyH.cons rfl (fun K hK => ?_) AllReadyH.nil
          go_simp
          refine (markInt_f h.m v0 HM.out).mono ?_
          rintro e v0 ⟨rfl, rfl⟩
          go_wp2_with fail
          refine hK.out _ _ hS (fun hS => ?_)
          clear hK K
          try simp only [Act.put, List.setIfInBounds_toArray, List.set_cons_zero, List.set_cons_succ]
          refine wpAnyH_take (i := 6) (v := ?_) rfl (by kernel_rfl) (by kernel_rfl) (by kernel_rfl) (fun _ _ _ h => h) (Or.inl ⟨by rfl, ?_⟩) hS ?_
          rotate_left
          · (intro w hSw; (try dsimp only at hSw); go_simp; (first | done | with_reducible rfl))
          change wpAnyH _ _ _ _ _ _ _ (Act.put _ (some 34) _) _
          simp only [Act.put, List.setIfInBounds_toArray, List.set_cons_zero, List.set_cons_succ]
          refine wpAnyH_ready (rs := [7]) (by kernel_rfl) (by simp) ?_
          refine AllReadyH.cons rfl (fun K hK => ?_) AllReadyH.nil
          go_simp
          go_simp
          refine hK.out _ _ ⟨(World.cell?_setCell_other v0 ⟨gb, k, none⟩ ⟨gH, 0, none⟩ _ (fun e => by injection e with e1; exact hne e1)).trans hS.1, (World.cell?_setCell_other v0 ⟨gb, k, none⟩ ⟨gH, 2, none⟩ _ (fun e => by injection e with e1; exact hne e1)).trans hS.2⟩ (fun hS => ?_)
          clear hK K
          try simp only [Act.put, List.setIfInBounds_toArray]
          refine wpAnyH_done (by kernel_rfl) ?_ _
          refine NoPanic.normal ?_
          have hst := hfr.stored hkl (.int .i64 (-((h.m : Nat) : Int)))
          rw [mark_set (by omega)] at hst
          rw [← HGA.out] at hst
          have hb3 := hb2.setCell2 (p := ⟨gb, k, none⟩) (.inl (by rw [HGA.out]; unfold ownB; rw [if_neg (by omega)]; rfl)) (.int .i64 (-((h.m : Nat) : Int)))
          go_wp2_with fail
          go_roundw
          case rel => exact ⟨k + 1, by omega, by go_num, hb3, hst⟩
          case measure => simp [intOf]; omega
        · obtain rfl : k = h.n := by omega
          rw [List.drop_eq_nil_of_le (by omega), List.append_nil] at hfr
          have hb4 : But (Own hs) w wr := (hb.grown2 (row := none) ⟨kn.os, kn.tape, kn.output, kn.size, fun _ hi _ => kn.block hi⟩ (fun _ e => by cases e)).trans (hb2.mono fun q hq => ⟨h, List.mem_of_getElem? HH.out, hq⟩)
          have hall : ∀ j h', hs[j]? = some h' → (j < i + 1 → Fr 3 wr base h'.a h'.n h'.c (List.replicate h'.n (.int .i64 (-((h'.m : Nat) : Int))))) ∧ (i + 1 ≤ j → ∃ us, Fr 3 wr base h'.a h'.n h'.c us) := fun j h' hj => by
            by_cases hji : j = i
            · subst hji
              rw [HH.out] at hj
              cases hj
              exact ⟨fun _ => hfr, fun h' => by omega⟩
            · have hs1 : ∀ q, ownB h'.a h'.c = some q → ¬ (ownB h.a h.c = some q) := fun q h1 h2 => HP.out j i h' h hji hj HH.out q h1 h2
              exact ⟨fun h1 => (((HA.out j h' hj).1 (by omega)).keep kn).but hb2 hs1, fun h1 => by
                obtain ⟨us', h2⟩ := (HA.out j h' hj).2 (by omega)
                exact ⟨us', (h2.keep kn).but hb2 hs1⟩⟩
          have HALL := Lib.hid hall
          clear hall
          go_wp2_with fail
          go_roundw
          case rel => exact ⟨i + 1, by omega, by go_num, hb4, HALL.out⟩
          case measure => simp [intOf]; omega
    · rw [HV.out] at cv
      go_wp2_with fail
      go_end0
      exact ⟨rfl, hb, fun h hh => by
        obtain ⟨j, hj⟩ := List.getElem?_of_mem hh
        exact (HA.out j h hj).1 (by have := (List.getElem?_eq_some_iff.1 hj).1; omega)⟩
end Go.Proofs.YtjhbpocffckghaaGreatDoor
