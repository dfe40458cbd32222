/-
  CONTRACTS of the laws' Book: every list of lists of ints is marked, each mark a new list. Conditions: those that each theorem states.
-/
import Derived.Test.YtjaaganaohjmaaaGreatDoorBookD
namespace Go.Proofs.YtjaaganaohjmaaaGreatDoor
open Go.RowKit

/-- A mark: a list of one number in a block of its own, none of those below b. -/
def MarkL (w : World) (b m : Nat) (u : Value) : Prop := ∃ g, u = .slice (some ⟨g, 0, none⟩) 1 1 ∧ b ≤ g ∧ Blk w g 3 [.int .i64 m]
/-- A list of the call's own that holds marks alone. -/
def Marked (w : World) (base b : Nat) (A : Option Addr) (n c m : Nat) : Prop := ∃ us, Fr 26 w base A n c us ∧ ∀ u ∈ us, MarkL w b m u
section
variable {w w' : World} {base b n c m : Nat} {A : Option Addr} {u : Value} {S : Nat → Prop} {us : List Value}
theorem MarkL.keep (h : MarkL w b m u) (hk : Keep w w') : MarkL w' b m u := by
  obtain ⟨g, h1, h2, h3⟩ := h
  exact ⟨g, h1, h2, h3.keep hk⟩
theorem MarkL.but (h : MarkL w b m u) (hb : But S w w') (hn : ∀ g l, b ≤ g → Blk w g 3 l → ¬ S g) : MarkL w' b m u := by
  obtain ⟨g, h1, h2, h3⟩ := h
  exact ⟨g, h1, h2, h3.but hb (hn g _ h2 h3)⟩
theorem MarkL.mono {b' : Nat} (h : MarkL w b m u) (hb : b' ≤ b) : MarkL w b' m u := by
  obtain ⟨g, h1, h2, h3⟩ := h
  exact ⟨g, h1, Nat.le_trans hb h2, h3⟩
theorem MarkL.new (w : World) (b m : Nat) (hb : b ≤ w.heap.size) : MarkL (w.alloc (.cells #[.int .i64 m] 3)) b m (.slice (some ⟨w.heap.size, 0, none⟩) 1 1) := ⟨_, rfl, hb, Blk.new w _ [.int .i64 (m : Nat)]⟩
theorem Fr.notInt (h : Fr 26 w base A n c us) : ∀ g l, Blk w g 3 l → ¬ (ownB A c = some g) := fun g _ hg e => h.own_ne hg (by decide) g e rfl
theorem Marked.keep (h : Marked w base b A n c m) (hk : Keep w w') : Marked w' base b A n c m := by
  obtain ⟨us, h1, h2⟩ := h
  exact ⟨us, h1.keep hk, fun u hu => (h2 u hu).keep hk⟩
theorem Marked.but (h : Marked w base b A n c m) (hb : But S w w') (h1 : ∀ k, ownB A c = some k → ¬ S k) (hn : ∀ g l, b ≤ g → Blk w g 3 l → ¬ S g) : Marked w' base b A n c m := by
  obtain ⟨us, h2, h3⟩ := h
  exact ⟨us, h2.but hb h1, fun u hu => (h3 u hu).but hb hn⟩
theorem Marked.own_ge (h : Marked w base b A n c m) {k : Nat} (hk : ownB A c = some k) : base ≤ k ∧ k < w.heap.size := by
  obtain ⟨us, h2, h3⟩ := h
  exact h2.own_ge hk
theorem Marked.own_ne (h : Marked w base b A n c m) {g : Nat} {cur : Array Value} {t : TypeId} {z : Nat × Nat} (hg : w.heap[g]? = some (.cells cur t z)) (hne : 26 ≠ t) : ∀ k, ownB A c = some k → g ≠ k := by
  obtain ⟨us, h2, h3⟩ := h
  exact h2.own_ne hg hne
theorem Marked.fr (h : Marked w base b A n c m) : ∃ us, Fr 26 w base A n c us := by
  obtain ⟨us, h2, h3⟩ := h
  exact ⟨us, h2⟩
end
theorem marks_set {z : Value} {us ms : List Value} {k : Nat} (hm : ms.length = k) (h : k < us.length) : (ms ++ us.drop k).set k z = (ms ++ [z]) ++ us.drop (k + 1) := by
  have hd : us.drop k = us[k] :: us.drop (k + 1) := List.drop_eq_getElem_cons h
  rw [List.set_append_right _ _ (by omega), hm, Nat.sub_self, hd, List.set_cons_zero, List.append_assoc]
  rfl
set_option maxRecDepth 100000 in
set_option maxHeartbeats 1000000 in
theorem markList_f (m : Nat) (w : World) : Calls Tryz.prog 107 #[.int .i64 m] w fun e w' => e = .returned (.slice (some ⟨w.heap.size, 0, none⟩) 1 1) ∧ w' = w.alloc (.cells #[.int .i64 m] 3) := by
  go_enter Tryz.func107, Tryz.ntmps107
  go_wp2_with fail
  go_ret
  exact ⟨rfl, rfl⟩
set_option maxRecDepth 100000 in
set_option maxHeartbeats 1000000 in
theorem isList_f (m b : Nat) (u : Value) (w : World) (hu : MarkL w b m u) : Calls Tryz.prog 116 #[u, .int .i64 m] w fun e w' => e = .returned (.bool true) ∧ w' = w := by
  obtain ⟨g, rfl, -, hg⟩ := hu
  have c0 := hg.cell_ (i := 0) rfl
  go_enter Tryz.func116, Tryz.ntmps116
  go_wp2_with fail
  go_ret
  exact ⟨by simp, rfl⟩

set_option maxRecDepth 100000 in
set_option maxHeartbeats 4000000 in
theorem fillList_f (g : Nat) (vb : Value) (hs : List Hd) (w : World) (base : Nat) (hv : w.cell? ⟨g, 4, none⟩ = some vb) (hr : HRow w base 119 vb hs)
    (hf : ∀ h ∈ hs, ∃ us, Fr 26 w base h.a h.n h.c us) (hp : Aparts hs) (hg : ¬ Own hs g) (ln : hs.length ≤ 10000) :
    Calls Tryz.prog 54 #[pK g] w fun e w' => e = .returned (.tuple #[]) ∧ But (Own hs) w w' ∧ ∀ h ∈ hs, Marked w' base w.heap.size h.a h.n h.c h.m := by
  have hno := hr.notOwn hf (by decide)
  obtain ⟨A0, c0, hv0⟩ := hr.val
  have HV := Lib.hid hv0
  have HP := Lib.hid hp
  have HG := Lib.hid hg
  have HNO := Lib.hid hno
  clear hv0 hp hg hno
  unfold pK
  go_enter Tryz.func54, Tryz.ntmps54
  go_wp2_with fail
  go_loopw [2] (fun v wr => ∃ i : Nat, i ≤ hs.length ∧ v = .int .i64 i ∧ But (Own hs) w wr ∧ (∀ j h, hs[j]? = some h → (j < i → Marked wr base w.heap.size h.a h.n h.c h.m) ∧ (i ≤ j → ∃ us, Fr 26 wr base h.a h.n h.c us))) (fun v _ => hs.length - (intOf v).toNat)
  case atStart => exact ⟨0, Nat.zero_le _, rfl, But.refl _ _, fun j h hj => ⟨fun h' => absurd h' (Nat.not_lt_zero _), fun _ => hf h (List.mem_of_getElem? hj)⟩⟩
  case round =>
    obtain ⟨i, hi, rfl, hb, hall⟩ := hrel
    have HA := Lib.hid hall
    clear hall
    have cv := hb.cell hv HG.out
    by_cases hlt : i < hs.length
    · obtain ⟨h, hh⟩ : ∃ h, hs[i]? = some h := ⟨_, List.getElem?_eq_getElem hlt⟩
      have hrr := hr.but hb HNO.out
      obtain ⟨gr, cap, hv1, hgr, hgr2, hcap, hcm, hcur, hfz, hcell⟩ := hrr.at_ (by omega)
      have r0 := hcell (i * 3) _ ((cellsOf_at hh (j := 0) (by omega)).trans rfl)
      have r1 := hcell (i * 3 + 1) _ ((cellsOf_at hh (j := 1) (by omega)).trans rfl)
      have r2 := hcell (i * 3 + 2) _ ((cellsOf_at hh (j := 2) (by omega)).trans rfl)
      rw [hv1] at cv
      have HH := Lib.hid hh
      have HV1 := Lib.hid hv1
      have hi1 : (i : Int) < hs.length := by omega
      have hi0 : (0 : Int) ≤ i := by omega
      clear hh hv1 hcell hcur hfz hrr
      go_upto_region 4 with fail
      have bH : Blk (wr.alloc (.cells #[.slice h.a h.n h.c, .slice h.la h.ln h.lc, .int .i64 h.m] 119)) wr.heap.size 119 [.slice h.a h.n h.c, .slice h.la h.ln h.lc, .int .i64 h.m] := Blk.new wr _ _
      have kn : Keep wr (wr.alloc (.cells #[.slice h.a h.n h.c, .slice h.la h.ln h.lc, .int .i64 h.m] 119)) := Keep.alloc1 _ _
      change Code.wp _ _ _ _ (wr.alloc (.cells #[.slice h.a h.n h.c, .slice h.la h.ln h.lc, .int .i64 h.m] 119))
      obtain ⟨us, hu⟩ := (HA.out i h HH.out).2 (Nat.le_refl _)
      replace hu := hu.keep kn
      have hub := (hu.keep (Keep.refl _)).own_ne bH (by decide)
      have hws := Nat.le_trans hb.size kn.size
      generalize (wr.alloc (.cells #[.slice h.a h.n h.c, .slice h.la h.ln h.lc, .int .i64 h.m] 119)) = w1 at bH kn hu hws ⊢
      generalize wr.heap.size = gH at bH hub ⊢
      have hul := hu.len
      have hcp := hu.cap
      have hcpm := hu.capMax
      unfold maxLen at hcpm
      have hn63 : (h.n : Int) ≤ 9223372036854775807 := by omega
      clear r0 r1 r2 cv
      go_wp2_with fail
      obtain ⟨w2, hw2⟩ : ∃ x, x = w1 := ⟨w1, rfl⟩
      subst hw2
      go_loopw [4] (fun v wr => ∃ (k : Nat) (ms : List Value), k ≤ h.n ∧ ms.length = k ∧ v = .int .i64 k ∧ But (fun q => ownB h.a h.c = some q) w2 wr ∧ Fr 26 wr base h.a h.n h.c (ms ++ us.drop k) ∧ (∀ u ∈ ms, MarkL wr w.heap.size h.m u)) (fun v _ => h.n - (intOf v).toNat)
      case atStart => exact ⟨0, [], Nat.zero_le _, rfl, rfl, But.refl _ _, hu, fun u hu => (by cases hu)⟩
      case round =>
        obtain ⟨k, ms, hk, hml, rfl, hb2, hfr, hms⟩ := hrel
        have HML := Lib.hid hml
        clear hml
        have bR := bH.but hb2 (fun e => hub gH e rfl)
        have b0 := bR.cell_ (i := 0) rfl
        have b2 := bR.cell_ (i := 2) rfl
        have hws2 := Nat.le_trans hws hb2.size
        by_cases hkl : k < h.n
        · obtain ⟨gb, hga, hgb1, hgb2⟩ := hfr.form (by omega)
          have hne : gb ≠ gH := fun e => hub gb (by rw [hga]; unfold ownB; rw [if_neg (by omega)]; rfl) e.symm
          rw [hga] at b0 hfr
          have HGA := Lib.hid hga
          have hz := hfr.rd.at_ (j := k) (by rw [hfr.len]; exact hkl)
          obtain ⟨b', o', e', ck⟩ := hz
          cases e'
          rw [Nat.zero_add] at ck
          obtain ⟨vk, ck⟩ : ∃ v, wr.cell? ⟨gb, k, none⟩ = some v := ⟨_, ck⟩
          have fk := hfr.frozen (by omega) k
          have hk0 : (0 : Int) ≤ k := by omega
          have hk1 : (k : Int) < h.n := by omega
          clear hga bR
          go_upto_region 7 with fail
          refine wp_region_noPanic ?_
          refine wp_region_held_drew (S := (fun w' => w'.cell? ⟨gH, 0, none⟩ = some (.slice (some ⟨gb, 0, none⟩) h.n h.c) ∧ w'.cell? ⟨gH, 2, none⟩ = some (.int .i64 (h.m : Int)))) (by kernel_rfl) ⟨b0, b2⟩ (fun hS => ?_)
          have kz : Keep wr wr.drew := (Keep.refl _).drew
          have cq := kz.cell ck
          have fq := (kz.frozen (p := ⟨gb, k, none⟩) hgb2).trans fk
          replace hfr := hfr.keep kz
          replace hms := fun u hu => (hms u hu).keep kz
          have hws3 := Nat.le_trans hws2 kz.size
          have hgb3 := Nat.lt_of_lt_of_le hgb2 kz.size
          replace hb2 := hb2.grown2 (row := none) ⟨rfl, rfl, rfl, Nat.le_refl _, fun _ _ _ => rfl⟩ (fun _ e => by cases e) (c := wr.drew)
          generalize wr.drew = v0 at hS hfr hb2 cq fq hms hws3 hgb3 ⊢
          clear kz
          refine wpAnyH_take (i := 0) (v := ?_) rfl (by kernel_rfl) (by kernel_rfl) (by kernel_rfl) (fun _ _ _ h => h) (Or.inl ⟨by rfl, ?_⟩) hS ?_
          rotate_left
          · (intro w hSw; (try dsimp only at hSw); go_simp; (first | done | with_reducible rfl))
          change wpAnyH _ _ _ _ _ _ _ (Act.put _ (some 28) _) _
          simp only [Act.put, List.setIfInBounds_toArray, List.set_cons_zero, List.set_cons_succ]
          refine wpAnyH_take (i := 1) (v := ?_) rfl (by kernel_rfl) (by kernel_rfl) (by kernel_rfl) (fun _ _ _ h => h) (Or.inl ⟨by rfl, ?_⟩) hS ?_
          rotate_left
          · (intro w hSw; (try dsimp only at hSw); go_simp; (first | done | with_reducible rfl))
          change wpAnyH _ _ _ _ _ _ _ (Act.put _ (some 29) _) _
          simp only [Act.put, List.setIfInBounds_toArray, List.set_cons_zero, List.set_cons_succ]
          refine wpAnyH_take (i := 2) (v := ?_) rfl (by kernel_rfl) (by kernel_rfl) (by kernel_rfl) (fun _ _ _ h => h) (Or.inl ⟨by rfl, ?_⟩) hS ?_
          rotate_left
          · (intro w hSw; (try dsimp only at hSw); go_simp; (first | done | with_reducible rfl))
          change wpAnyH _ _ _ _ _ _ _ (Act.put _ (some 30) _) _
          simp only [Act.put, List.setIfInBounds_toArray, List.set_cons_zero, List.set_cons_succ]
          refine wpAnyH_take (i := 3) (v := ?_) rfl (by kernel_rfl) (by kernel_rfl) (by kernel_rfl) (fun _ _ _ h => h) (Or.inl ⟨by rfl, ?_⟩) hS ?_
          rotate_left
          · (intro w hSw; (try dsimp only at hSw); go_simp; (first | done | with_reducible rfl))
          change wpAnyH _ _ _ _ _ _ _ (Act.put _ (some 31) _) _
          simp only [Act.put, List.setIfInBounds_toArray, List.set_cons_zero, List.set_cons_succ]
          refine wpAnyH_take (i := 4) (v := ?_) rfl (by kernel_rfl) (by kernel_rfl) (by kernel_rfl) (fun _ _ _ h => h) (Or.inl ⟨by rfl, ?_⟩) hS ?_
          rotate_left
          · (intro w hSw; (try dsimp only at hSw); go_simp; (first | done | with_reducible rfl))
          change wpAnyH _ _ _ _ _ _ _ (Act.put _ (some 32) _) _
          simp only [Act.put, List.setIfInBounds_toArray, List.set_cons_zero, List.set_cons_succ]
          refine wpAnyH_ready (rs := [5]) (by kernel_rfl) (by simp) ?_
          refine AllReadyH.cons rfl (fun K hK => ?_) AllReadyH.nil
          go_simp
          refine (markList_f h.m v0).mono ?_
          rintro e v1 ⟨rfl, rfl⟩
          have kq : Keep v0 (v0.alloc (.cells #[.int .i64 (h.m : Nat)] 3)) := Keep.alloc1 _ _
          have hM := MarkL.new v0 w.heap.size h.m hws3
          replace hb2 := hb2.grown2 (row := none) ⟨kq.os, kq.tape, kq.output, kq.size, fun _ hi _ => kq.block hi⟩ (fun _ e => by cases e) (c := (v0.alloc (.cells #[.int .i64 (h.m : Nat)] 3)))
          replace hfr := hfr.keep kq
          replace cq := kq.cell cq
          replace fq := (kq.frozen (p := ⟨gb, k, none⟩) hgb3).trans fq
          replace hms := fun u hu => (hms u hu).keep kq
          have hSk := And.intro (kq.cell hS.1) (kq.cell hS.2)
          clear hS kq
          generalize (v0.alloc (.cells #[.int .i64 (h.m : Nat)] 3)) = v1 at hM hb2 hfr cq fq hms hSk ⊢
          generalize v0.heap.size = gm at hM ⊢
          go_wp2_with fail
          refine hK.out _ _ hSk (fun hS => ?_)
          clear hK K
          try simp only [Act.put, List.setIfInBounds_toArray, List.set_cons_zero, List.set_cons_succ]
          refine wpAnyH_take (i := 6) (v := ?_) rfl (by kernel_rfl) (by kernel_rfl) (by kernel_rfl) (fun _ _ _ h => h) (Or.inl ⟨by rfl, ?_⟩) hS ?_
          rotate_left
          · (intro w hSw; (try dsimp only at hSw); go_simp; (first | done | with_reducible rfl))
          change wpAnyH _ _ _ _ _ _ _ (Act.put _ (some 34) _) _
          simp only [Act.put, List.setIfInBounds_toArray, List.set_cons_zero, List.set_cons_succ]
          refine wpAnyH_ready (rs := [7]) (by kernel_rfl) (by simp) ?_
          refine AllReadyH.cons rfl (fun K hK => ?_) AllReadyH.nil
          go_simp
          go_simp
          refine hK.out _ _ ⟨(World.cell?_setCell_other v1 ⟨gb, k, none⟩ ⟨gH, 0, none⟩ _ (fun e => by injection e with e1; exact hne e1)).trans hS.1, (World.cell?_setCell_other v1 ⟨gb, k, none⟩ ⟨gH, 2, none⟩ _ (fun e => by injection e with e1; exact hne e1)).trans hS.2⟩ (fun hS => ?_)
          clear hK K
          try simp only [Act.put, List.setIfInBounds_toArray]
          refine wpAnyH_done (by kernel_rfl) ?_ _
          refine NoPanic.normal ?_
          have hst := hfr.stored hkl (.slice (some ⟨gm, 0, none⟩) 1 1)
          rw [marks_set HML.out (by omega)] at hst
          have hfA := hfr
          rw [← HGA.out] at hst hfA
          have hbs : But (fun q => ownB h.a h.c = some q) v1 (v1.setCell ⟨gb, k, none⟩ (.slice (some ⟨gm, 0, none⟩) 1 1)) := (But.refl _ _).setCell2 (p := ⟨gb, k, none⟩) (.inl (by rw [HGA.out]; unfold ownB; rw [if_neg (by omega)]; rfl)) _
          have hb3 := hb2.trans hbs
          have hm3 : ∀ u ∈ ms ++ [.slice (some ⟨gm, 0, none⟩) 1 1], MarkL (v1.setCell ⟨gb, k, none⟩ (.slice (some ⟨gm, 0, none⟩) 1 1)) w.heap.size h.m u := fun u hu => by
            rcases List.mem_append.1 hu with hu | hu
            · exact (hms u hu).but hbs fun g' l' _ hg' => hfA.notInt g' l' hg'
            · rw [List.mem_singleton] at hu
              exact hu ▸ hM.but hbs fun g' l' _ hg' => hfA.notInt g' l' hg'
          have HM3 := Lib.hid hm3
          have HL3 := Lib.hid (show (ms ++ [Value.slice (some ⟨gm, 0, none⟩) 1 1]).length = k + 1 by rw [List.length_append, HML.out]; rfl)
          clear hms hM hm3 hbs
          go_wp2_with fail
          go_roundw
          case rel => exact ⟨k + 1, _, by omega, HL3.out, by go_num, hb3, hst, HM3.out⟩
          case measure => simp [intOf]; omega
        · obtain rfl : k = h.n := by omega
          rw [List.drop_eq_nil_of_le (by omega), List.append_nil] at hfr
          have hb4 : But (Own hs) w wr := (hb.grown2 (row := none) ⟨kn.os, kn.tape, kn.output, kn.size, fun _ hi _ => kn.block hi⟩ (fun _ e => by cases e)).trans (hb2.mono fun q hq => ⟨h, List.mem_of_getElem? HH.out, hq⟩)
          have hall : ∀ j h', hs[j]? = some h' → (j < i + 1 → Marked wr base w.heap.size h'.a h'.n h'.c h'.m) ∧ (i + 1 ≤ j → ∃ us, Fr 26 wr base h'.a h'.n h'.c us) := fun j h' hj => by
            by_cases hji : j = i
            · subst hji
              rw [HH.out] at hj
              cases hj
              exact ⟨fun _ => ⟨ms, hfr, hms⟩, fun h' => by omega⟩
            · have hs1 : ∀ q, ownB h'.a h'.c = some q → ¬ (ownB h.a h.c = some q) := fun q h1 h2 => HP.out j i h' h hji hj HH.out q h1 h2
              exact ⟨fun h1 => (((HA.out j h' hj).1 (by omega)).keep kn).but hb2 hs1 (fun g' l' _ hg' => hu.notInt g' l' hg'), fun h1 => by
                obtain ⟨us', h2⟩ := (HA.out j h' hj).2 (by omega)
                exact ⟨us', (h2.keep kn).but hb2 hs1⟩⟩
          have HALL := Lib.hid hall
          clear hall
          go_wp2_with fail
          go_roundw
          case rel => exact ⟨i + 1, by omega, by go_num, hb4, HALL.out⟩
          case measure => simp [intOf]; omega
    · rw [HV.out] at cv
      go_wp2_with fail
      go_end0
      exact ⟨rfl, hb, fun h hh => by
        obtain ⟨j, hj⟩ := List.getElem?_of_mem hh
        exact (HA.out j h hj).1 (by have := (List.getElem?_eq_some_iff.1 hj).1; omega)⟩
end Go.Proofs.YtjaaganaohjmaaaGreatDoor
