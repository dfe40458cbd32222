/-
  CONTRACTS of the laws' Book: behind every list of bytes, of ints, forty marks more are put. Conditions: those that each theorem states.
-/
import Derived.Test.YtjhbpocffckghaaGreatDoorBookC
namespace Go.Proofs.YtjhbpocffckghaaGreatDoor
open Go.RowKit

/-- The same list as before; the longer slice aside. -/
def SameHd (h h' : Hd) : Prop := h'.a = h.a ∧ h'.c = h.c ∧ h'.n = h.n ∧ h'.m = h.m
theorem rep_take (n m : Nat) (z : Value) (h : n ≤ m) : (List.replicate m z).take n = List.replicate n z := by
  rw [List.take_replicate, Nat.min_eq_left h]
theorem fr_take {e : TypeId} {w : World} {base : Nat} {A : Option Addr} {n c : Nat} {vs : List Value} (h : Fr e w base A n c vs) {m : Nat} (hm : m ≤ n) : Fr e w base A m c (vs.take m) := by
  obtain ⟨h1, h2, h3, h4 | ⟨g, cur, hA, hb, hg, hs, ht⟩⟩ := h
  · exact ⟨by rw [List.length_take]; omega, by omega, h3, .inl h4⟩
  · exact ⟨by rw [List.length_take]; omega, by omega, h3, .inr ⟨g, cur, hA, hb, hg, hs, by rw [← ht, List.take_take, Nat.min_eq_left hm]⟩⟩

set_option maxRecDepth 100000 in
set_option maxHeartbeats 4000000 in
theorem growByte_f (g : Nat) (vb : Value) (hs : List Hd) (w : World) (base : Nat) (hv : w.cell? ⟨g, 1, none⟩ = some vb) (hr : HRow w base 89 vb hs)
    (hf : ∀ h ∈ hs, Fr 5 w base h.a h.n h.c (List.replicate h.n (.int .u8 (mk8 h.m)))) (hp : Aparts hs) (hm : ∀ h ∈ hs, h.m < 100000) (hn : ∀ h ∈ hs, h.n ≤ 1000000) (hg : ¬ Own hs g) (hgv : vb.ownBlock ≠ some g) (ln : hs.length ≤ 10000) (hbase : base ≤ w.heap.size) :
    Calls Tryz.prog 51 #[pK g] w fun e w' => e = .returned (.tuple #[]) ∧ But (fun q => Own hs q ∨ vb.ownBlock = some q) w w' ∧ ∃ hs', hs'.length = hs.length ∧ HRow w' base 89 vb hs' ∧
      ∀ (j : Nat) h', hs'[j]? = some h' → ∃ h, hs[j]? = some h ∧ SameHd h h' ∧ Fr 5 w' base h'.a h'.n h'.c (List.replicate h'.n (.int .u8 (mk8 h'.m))) ∧ h'.ln = h'.n + 40 ∧ Fr 5 w' base h'.la h'.ln h'.lc (List.replicate (h'.n + 40) (.int .u8 (mk8 h'.m))) := by
  have hno := hr.notOwn (fun h hh => ⟨_, hf h hh⟩) (by decide)
  obtain ⟨A0, c0, hv0⟩ := hr.val
  have HV := Lib.hid hv0
  have HP := Lib.hid hp
  have HMM := Lib.hid hm
  have HNN := Lib.hid hn
  have HG := Lib.hid hg
  have HGV := Lib.hid hgv
  have HNO := Lib.hid hno
  have HF := Lib.hid hf
  clear hv0 hp hm hn hg hno hf hgv
  have lt_own : ∀ h ∈ hs, ∀ q, ownB h.a h.c = some q → q < w.heap.size := fun h hh q hq => ((HF.out h hh).own_ge hq).2
  have HLT := Lib.hid lt_own
  clear lt_own
  unfold pK
  go_enter Tryz.func51, Tryz.ntmps51
  go_wp2_with fail
  go_loopw [2] (fun v wr => ∃ (i : Nat) (hs' : List Hd), i ≤ hs.length ∧ v = .int .i64 i ∧ But (fun q => Own hs q ∨ vb.ownBlock = some q) w wr ∧ hs'.length = hs.length ∧ HRow wr base 89 vb hs' ∧
      (∀ j h', hs'[j]? = some h' → ∃ h, hs[j]? = some h ∧ SameHd h h' ∧ Fr 5 wr base h'.a h'.n h'.c (List.replicate h'.n (.int .u8 (mk8 h'.m))) ∧ (j < i → h'.ln = h'.n + 40 ∧ Fr 5 wr base h'.la h'.ln h'.lc (List.replicate (h'.n + 40) (.int .u8 (mk8 h'.m))) ∧ ∀ q, ownB h'.la h'.lc = some q → ownB h.a h.c = some q ∨ w.heap.size ≤ q))) (fun v _ => hs.length - (intOf v).toNat)
  case atStart => exact ⟨0, hs, Nat.zero_le _, rfl, But.refl _ _, rfl, hr, fun j h hj => ⟨h, hj, ⟨rfl, rfl, rfl, rfl⟩, HF.out h (List.mem_of_getElem? hj), fun h' => absurd h' (Nat.not_lt_zero _)⟩⟩
  case round =>
    obtain ⟨i, hs', hi, rfl, hb, hl', hrr, hall⟩ := hrel
    have HA := Lib.hid hall
    have HL := Lib.hid hl'
    clear hall hl'
    have cv := hb.cell hv (fun h => h.elim HG.out (fun e => HGV.out e))
    by_cases hlt : i < hs.length
    · obtain ⟨h, hh⟩ : ∃ h, hs'[i]? = some h := ⟨_, List.getElem?_eq_getElem (by rw [HL.out]; exact hlt)⟩
      obtain ⟨ho, hho, hsame, hfo, -⟩ := HA.out i h hh
      obtain ⟨gr, cap, hv1, hgr, hgr2, hcap, hcm, hcur, hfz, hcell⟩ := hrr.at_ (by rw [HL.out]; omega)
      have r0 := hcell (i * 3) _ ((cellsOf_at hh (j := 0) (by omega)).trans rfl)
      have r1 := hcell (i * 3 + 1) _ ((cellsOf_at hh (j := 1) (by omega)).trans rfl)
      have r2 := hcell (i * 3 + 2) _ ((cellsOf_at hh (j := 2) (by omega)).trans rfl)
      have hf1 := hfz (i * 3 + 1)
      rw [hv1, HL.out] at cv
      have HH := Lib.hid hh
      have HV1 := Lib.hid hv1
      have HHO := Lib.hid hho
      have HSM := Lib.hid hsame
      have hi1 : (i : Int) < hs.length := by omega
      have hi0 : (0 : Int) ≤ i := by omega
      have hmn : h.n ≤ 1000000 := by rw [HSM.out.2.2.1]; exact HNN.out ho (List.mem_of_getElem? HHO.out)
      have HM := Lib.hid (show h.m < 100000 by rw [HSM.out.2.2.2]; exact HMM.out ho (List.mem_of_getElem? HHO.out))
      have hbs : base ≤ wr.heap.size := Nat.le_trans hbase hb.size
      have HCUR := Lib.hid hcur
      clear hh hv1 hcell hcur hfz hho hsame
      go_upto_region 4 with fail
      have bH : Blk (wr.alloc (.cells #[.slice h.a h.n h.c, .slice h.la h.ln h.lc, .int .i64 h.m] 89)) wr.heap.size 89 [.slice h.a h.n h.c, .slice h.la h.ln h.lc, .int .i64 h.m] := Blk.new wr _ _
      have kn : Keep wr (wr.alloc (.cells #[.slice h.a h.n h.c, .slice h.la h.ln h.lc, .int .i64 h.m] 89)) := Keep.alloc1 _ _
      change Code.wp _ _ _ _ (wr.alloc (.cells #[.slice h.a h.n h.c, .slice h.la h.ln h.lc, .int .i64 h.m] 89))
      have hu := hfo.keep kn
      have hub := hu.own_ne bH (by decide)
      have hwr := kn.size
      replace r0 := kn.cell r0
      replace r1 := kn.cell r1
      replace r2 := kn.cell r2
      replace cv := kn.cell cv
      replace hf1 := (kn.frozen (p := ⟨gr, i * 3 + 1, none⟩) hgr2).trans hf1
      have hrH : gr ≠ wr.heap.size := by omega
      replace hbs := Nat.le_trans hbs hwr
      generalize hw1d : (wr.alloc (.cells #[.slice h.a h.n h.c, .slice h.la h.ln h.lc, .int .i64 h.m] 89)) = w1 at bH kn hu r0 r1 r2 cv hf1 hbs hwr ⊢
      clear hw1d
      generalize wr.heap.size = gH at bH hub hrH hwr ⊢
      have b0 := bH.cell_ (i := 0) rfl
      go_wp2_with fail
      obtain ⟨w2, hw2⟩ : ∃ x, x = w1 := ⟨w1, rfl⟩
      subst hw2
      go_loopw [4, 5] (fun u v wr => ∃ (q : Nat) (A : Option Addr) (c : Nat), q ≤ 40 ∧ v = .int .i64 q ∧ u = .slice A (h.n + q) c ∧ But (fun x => ownB h.a h.c = some x) w2 wr ∧ Fr 5 wr base h.a h.n h.c (List.replicate h.n (.int .u8 (mk8 h.m))) ∧ Fr 5 wr base A (h.n + q) c (List.replicate (h.n + q) (.int .u8 (mk8 h.m))) ∧ ((A = h.a ∧ c = h.c) ∨ ∀ x, ownB A c = some x → w2.heap.size ≤ x)) (fun _ v _ => 40 - (intOf v).toNat)
      case atStart => exact ⟨0, h.a, h.c, Nat.zero_le _, rfl, rfl, But.refl _ _, hu, hu, .inl ⟨rfl, rfl⟩⟩
      case round =>
        obtain ⟨q, A, c, hq, rfl, rfl, hb2, hfr, hfl, hor⟩ := hrel
        have HOR := Lib.hid hor
        clear hor
        have bR := bH.but hb2 (fun e => hub gH e rfl)
        have b2 := bR.cell_ (i := 2) rfl
        have hbw := Nat.le_trans hbs hb2.size
        by_cases hql : q < 40
        · have hmk := markByte_f h.m wr HM.out
          have hq1 : (q : Int) < 40 := by omega
          go_wp2_with fail
          refine hmk.mono ?_
          rintro e wr ⟨rfl, rfl⟩
          clear hmk
          go_wp2_with (at_builtin; refine wpList_append_x _ rfl _ _ 25 rfl base 5 (.int .u8 0) 1 Tryz.underlying25 infoByte rfl A (h.n + q) c _ rfl (hfl.keep (Keep.alloc1 _ _)) (some ⟨wr.heap.size, 0, none⟩) 1 1 [.int .u8 (mk8 h.m)] (by decide) rfl rfl (Rd.one _ _ _) (one_rep _ rfl) ?c1 ?c2 ?c3 ?_)
          case c1 => unfold maxLen; omega
          case c2 => omega
          case c3 => simp; omega
          intro A' c' w3 happ
          obtain ⟨hf3, hcase⟩ := happ
          rw [rep_snoc] at hf3
          have ka := Keep.alloc1 wr (.cells #[.int .u8 (mk8 h.m)] 5)
          have hb3 : But (fun x => ownB h.a h.c = some x) w2 (wr.alloc (.cells #[.int .u8 (mk8 h.m)] 5)) := hb2.grown2 (row := none) ⟨ka.os, ka.tape, ka.output, ka.size, fun _ hi _ => ka.block hi⟩ (fun _ e => by cases e)
          have hres : But (fun x => ownB h.a h.c = some x) w2 w3 ∧ Fr 5 w3 base h.a h.n h.c (List.replicate h.n (.int .u8 (mk8 h.m))) ∧ ((A' = h.a ∧ c' = h.c) ∨ ∀ x, ownB A' c' = some x → w2.heap.size ≤ x) := by
            have hs2 := hb2.size
            rcases hcase with ⟨rfl, rfl, hgrow⟩ | ⟨hgrow, hown⟩
            · rcases HOR.out with ⟨rfl, rfl⟩ | hnew
              · refine ⟨hb3.grown2 hgrow (fun x hx => .inl hx), ?_, .inl ⟨rfl, rfl⟩⟩
                have := fr_take hf3 (m := h.n) (by omega)
                rwa [rep_take _ _ _ (by omega)] at this
              · exact ⟨hb3.grown2 hgrow (fun x hx => .inr (hnew x hx)), (hfr.keep ka).grown hgrow (fun x hx e => by
                  have h1 := hnew x e
                  have h2 := (hu.own_ge hx).2
                  omega), .inr hnew⟩
            · refine ⟨hb3.grown2 hgrow (fun x hx => by cases hx), (hfr.keep ka).grown hgrow (fun x hx e => by cases e), .inr fun x hx => ?_⟩
              rw [hown] at hx
              injection hx with hx
              have := ka.size
              omega
          obtain ⟨hb4, hf4, hor4⟩ := hres
          have HOR4 := Lib.hid hor4
          clear hcase hor4 hb3 ka
          go_wp2_with fail
          go_roundw
          case rel => exact ⟨q + 1, A', c', by omega, by go_num, by rw [Nat.add_assoc], hb4, hf4, hf3, HOR4.out⟩
          case measure => simp [intOf]; omega
        · obtain rfl : q = 40 := by omega
          have hne : ¬ ownB h.a h.c = some gr := fun e => by
            obtain ⟨cur, hcur⟩ := HCUR.out
            exact hfo.own_ne hcur (by decide) gr e rfl
          have hneg : ¬ ownB h.a h.c = some g := fun e => HG.out ⟨ho, List.mem_of_getElem? HHO.out, by rw [← HSM.out.1, ← HSM.out.2.1]; exact e⟩
          have r0' := hb2.cell r0 hne
          have r1' := hb2.cell r1 hne
          have r2' := hb2.cell r2 hne
          have cv' := hb2.cell cv hneg
          have hf1' : wr.frozen? ⟨gr, i * 3 + 1, none⟩ = false := (World.frozen?_of_block (hb2.block gr (World.block_lt_of_cell? w2 _ r0) hne)).trans hf1
          have hrow2 := ((hrr.keep kn).but hb2 (fun q hq e => by rw [HV1.out] at hq; cases hq; exact hne e))
          rw [HV1.out] at hrow2
          have hset := hrow2.set_ HH.out A (h.n + 40) c
          rw [← HV1.out] at hset
          have hgr0 : w.heap.size ≤ gr ∨ vb.ownBlock = some gr := .inr (by rw [HV1.out]; rfl)
          have hb5 : But (fun x => Own hs x ∨ vb.ownBlock = some x) w (wr.setCell ⟨gr, i * 3 + 1, none⟩ (.slice A (h.n + 40) c)) := by
            have h1 : But (fun x => Own hs x ∨ vb.ownBlock = some x) w w2 := hb.grown2 (row := none) ⟨kn.os, kn.tape, kn.output, kn.size, fun _ hi _ => kn.block hi⟩ (fun _ e => by cases e)
            have h2 := h1.trans (hb2.mono fun x hx => (.inl ⟨ho, List.mem_of_getElem? HHO.out, by rw [← HSM.out.1, ← HSM.out.2.1]; exact hx⟩ : Own hs x ∨ vb.ownBlock = some x))
            exact h2.setCell2 (p := ⟨gr, i * 3 + 1, none⟩) (.inl (.inr (by rw [HV1.out]; rfl))) _
          have hlow := hb.size
          have hkn := kn.size
          have hall : ∀ j h', (hs'.set i (h.long A (h.n + 40) c))[j]? = some h' → ∃ ho, hs[j]? = some ho ∧ SameHd ho h' ∧ Fr 5 (wr.setCell ⟨gr, i * 3 + 1, none⟩ (.slice A (h.n + 40) c)) base h'.a h'.n h'.c (List.replicate h'.n (.int .u8 (mk8 h'.m))) ∧ (j < i + 1 → h'.ln = h'.n + 40 ∧ Fr 5 (wr.setCell ⟨gr, i * 3 + 1, none⟩ (.slice A (h.n + 40) c)) base h'.la h'.ln h'.lc (List.replicate (h'.n + 40) (.int .u8 (mk8 h'.m))) ∧ ∀ q, ownB h'.la h'.lc = some q → ownB ho.a ho.c = some q ∨ w.heap.size ≤ q) := by
            intro j h' hj
            obtain ⟨cur, hcur⟩ := (hrow2.cur (k := gr) rfl)
            by_cases hji : i = j
            · subst hji
              rw [List.getElem?_set, if_pos rfl, if_pos (by rw [HL.out]; exact hlt)] at hj
              cases hj
              refine ⟨ho, HHO.out, HSM.out, hfr.setCell (fun x hx => hfr.own_ne hcur (by decide) x hx) (p := ⟨gr, i * 3 + 1, none⟩) _, fun _ => ⟨rfl, hfl.setCell (fun x hx => hfl.own_ne hcur (by decide) x hx) (p := ⟨gr, i * 3 + 1, none⟩) _, fun x hx => ?_⟩⟩
              rcases HOR.out with ⟨rfl, rfl⟩ | hnew
              · left
                rw [← HSM.out.1, ← HSM.out.2.1]
                exact hx
              · right
                have h1 := hnew x hx
                omega
            · rw [List.getElem?_set_ne hji] at hj
              obtain ⟨ho', hho', hsm', hfo', hrest⟩ := HA.out j h' hj
              have hs1 : ∀ x, ownB h'.a h'.c = some x → ¬ (ownB h.a h.c = some x) := fun x h1 h2 => HP.out j i ho' ho (Ne.symm hji) hho' HHO.out x (by rw [← hsm'.1, ← hsm'.2.1]; exact h1) (by rw [← HSM.out.1, ← HSM.out.2.1]; exact h2)
              have hff := (hfo'.keep kn).but hb2 hs1
              refine ⟨ho', hho', hsm', hff.setCell (fun x hx => hff.own_ne hcur (by decide) x hx) (p := ⟨gr, i * 3 + 1, none⟩) _, fun hjl => ?_⟩
              obtain ⟨e1, e2, e3⟩ := hrest (by omega)
              have hs2 : ∀ x, ownB h'.la h'.lc = some x → ¬ (ownB h.a h.c = some x) := fun x h1 h2 => by
                have h3 : ownB ho.a ho.c = some x := by rw [← HSM.out.1, ← HSM.out.2.1]; exact h2
                rcases e3 x h1 with h4 | h4
                · exact HP.out j i ho' ho (Ne.symm hji) hho' HHO.out x h4 h3
                · have := HLT.out ho (List.mem_of_getElem? HHO.out) x h3
                  omega
              have hfg := (e2.keep kn).but hb2 hs2
              exact ⟨e1, hfg.setCell (fun x hx => hfg.own_ne hcur (by decide) x hx) (p := ⟨gr, i * 3 + 1, none⟩) _, e3⟩
          have HALL := Lib.hid hall
          have hl2 : (hs'.set i (h.long A (h.n + 40) c)).length = hs.length := by rw [List.length_set]; exact HL.out
          have HL2 := Lib.hid hl2
          have HSET : HRow (wr.setCell ⟨gr, i * 3 + 1, none⟩ (.slice A (h.n + 40) c)) base 89 vb (hs'.set i (h.long A (h.n + 40) c)) := hset
          clear hall hl2 r0 r1 r2 cv hgr0 hfl hfr hset hrow2
          go_wp2_with fail
          go_roundw
          case rel => exact ⟨i + 1, _, by omega, by go_num, hb5, HL2.out, HSET, HALL.out⟩
          case measure => simp [intOf]; omega
    · rw [HV.out] at cv
      go_wp2_with fail
      go_end0
      exact ⟨rfl, hb, hs', HL.out, hrr, fun j h' hj => by
        obtain ⟨h, h1, h2, h3, h4⟩ := HA.out j h' hj
        obtain ⟨h5, h6, -⟩ := h4 (by have := (List.getElem?_eq_some_iff.1 hj).1; have := HL.out; omega)
        exact ⟨h, h1, h2, h3, h5, h6⟩⟩

set_option maxRecDepth 100000 in
set_option maxHeartbeats 4000000 in
theorem growInt_f (g : Nat) (vb : Value) (hs : List Hd) (w : World) (base : Nat) (hv : w.cell? ⟨g, 2, none⟩ = some vb) (hr : HRow w base 92 vb hs)
    (hf : ∀ h ∈ hs, Fr 3 w base h.a h.n h.c (List.replicate h.n (.int .i64 (-((h.m : Nat) : Int))))) (hp : Aparts hs) (hm : ∀ h ∈ hs, h.m < 100000) (hn : ∀ h ∈ hs, h.n ≤ 1000000) (hg : ¬ Own hs g) (hgv : vb.ownBlock ≠ some g) (ln : hs.length ≤ 10000) (hbase : base ≤ w.heap.size) :
    Calls Tryz.prog 52 #[pK g] w fun e w' => e = .returned (.tuple #[]) ∧ But (fun q => Own hs q ∨ vb.ownBlock = some q) w w' ∧ ∃ hs', hs'.length = hs.length ∧ HRow w' base 92 vb hs' ∧
      ∀ (j : Nat) h', hs'[j]? = some h' → ∃ h, hs[j]? = some h ∧ SameHd h h' ∧ Fr 3 w' base h'.a h'.n h'.c (List.replicate h'.n (.int .i64 (-((h'.m : Nat) : Int)))) ∧ h'.ln = h'.n + 40 ∧ Fr 3 w' base h'.la h'.ln h'.lc (List.replicate (h'.n + 40) (.int .i64 (-((h'.m : Nat) : Int)))) := by
  have hno := hr.notOwn (fun h hh => ⟨_, hf h hh⟩) (by decide)
  obtain ⟨A0, c0, hv0⟩ := hr.val
  have HV := Lib.hid hv0
  have HP := Lib.hid hp
  have HMM := Lib.hid hm
  have HNN := Lib.hid hn
  have HG := Lib.hid hg
  have HGV := Lib.hid hgv
  have HNO := Lib.hid hno
  have HF := Lib.hid hf
  clear hv0 hp hm hn hg hno hf hgv
  have lt_own : ∀ h ∈ hs, ∀ q, ownB h.a h.c = some q → q < w.heap.size := fun h hh q hq => ((HF.out h hh).own_ge hq).2
  have HLT := Lib.hid lt_own
  clear lt_own
  unfold pK
  go_enter Tryz.func52, Tryz.ntmps52
  go_wp2_with fail
  go_loopw [2] (fun v wr => ∃ (i : Nat) (hs' : List Hd), i ≤ hs.length ∧ v = .int .i64 i ∧ But (fun q => Own hs q ∨ vb.ownBlock = some q) w wr ∧ hs'.length = hs.length ∧ HRow wr base 92 vb hs' ∧
      (∀ j h', hs'[j]? = some h' → ∃ h, hs[j]? = some h ∧ SameHd h h' ∧ Fr 3 wr base h'.a h'.n h'.c (List.replicate h'.n (.int .i64 (-((h'.m : Nat) : Int)))) ∧ (j < i → h'.ln = h'.n + 40 ∧ Fr 3 wr base h'.la h'.ln h'.lc (List.replicate (h'.n + 40) (.int .i64 (-((h'.m : Nat) : Int)))) ∧ ∀ q, ownB h'.la h'.lc = some q → ownB h.a h.c = some q ∨ w.heap.size ≤ q))) (fun v _ => hs.length - (intOf v).toNat)
  case atStart => exact ⟨0, hs, Nat.zero_le _, rfl, But.refl _ _, rfl, hr, fun j h hj => ⟨h, hj, ⟨rfl, rfl, rfl, rfl⟩, HF.out h (List.mem_of_getElem? hj), fun h' => absurd h' (Nat.not_lt_zero _)⟩⟩
  case round =>
    obtain ⟨i, hs', hi, rfl, hb, hl', hrr, hall⟩ := hrel
    have HA := Lib.hid hall
    have HL := Lib.hid hl'
    clear hall hl'
    have cv := hb.cell hv (fun h => h.elim HG.out (fun e => HGV.out e))
    by_cases hlt : i < hs.length
    · obtain ⟨h, hh⟩ : ∃ h, hs'[i]? = some h := ⟨_, List.getElem?_eq_getElem (by rw [HL.out]; exact hlt)⟩
      obtain ⟨ho, hho, hsame, hfo, -⟩ := HA.out i h hh
      obtain ⟨gr, cap, hv1, hgr, hgr2, hcap, hcm, hcur, hfz, hcell⟩ := hrr.at_ (by rw [HL.out]; omega)
      have r0 := hcell (i * 3) _ ((cellsOf_at hh (j := 0) (by omega)).trans rfl)
      have r1 := hcell (i * 3 + 1) _ ((cellsOf_at hh (j := 1) (by omega)).trans rfl)
      have r2 := hcell (i * 3 + 2) _ ((cellsOf_at hh (j := 2) (by omega)).trans rfl)
      have hf1 := hfz (i * 3 + 1)
      rw [hv1, HL.out] at cv
      have HH := Lib.hid hh
      have HV1 := Lib.hid hv1
      have HHO := Lib.hid hho
      have HSM := Lib.hid hsame
      have hi1 : (i : Int) < hs.length := by omega
      have hi0 : (0 : Int) ≤ i := by omega
      have hmn : h.n ≤ 1000000 := by rw [HSM.out.2.2.1]; exact HNN.out ho (List.mem_of_getElem? HHO.out)
      have HM := Lib.hid (show h.m < 100000 by rw [HSM.out.2.2.2]; exact HMM.out ho (List.mem_of_getElem? HHO.out))
      have hbs : base ≤ wr.heap.size := Nat.le_trans hbase hb.size
      have HCUR := Lib.hid hcur
      clear hh hv1 hcell hcur hfz hho hsame
      go_upto_region 4 with fail
      have bH : Blk (wr.alloc (.cells #[.slice h.a h.n h.c, .slice h.la h.ln h.lc, .int .i64 h.m] 92)) wr.heap.size 92 [.slice h.a h.n h.c, .slice h.la h.ln h.lc, .int .i64 h.m] := Blk.new wr _ _
      have kn : Keep wr (wr.alloc (.cells #[.slice h.a h.n h.c, .slice h.la h.ln h.lc, .int .i64 h.m] 92)) := Keep.alloc1 _ _
      change Code.wp _ _ _ _ (wr.alloc (.cells #[.slice h.a h.n h.c, .slice h.la h.ln h.lc, .int .i64 h.m] 92))
      have hu := hfo.keep kn
      have hub := hu.own_ne bH (by decide)
      have hwr := kn.size
      replace r0 := kn.cell r0
      replace r1 := kn.cell r1
      replace r2 := kn.cell r2
      replace cv := kn.cell cv
      replace hf1 := (kn.frozen (p := ⟨gr, i * 3 + 1, none⟩) hgr2).trans hf1
      have hrH : gr ≠ wr.heap.size := by omega
      replace hbs := Nat.le_trans hbs hwr
      generalize hw1d : (wr.alloc (.cells #[.slice h.a h.n h.c, .slice h.la h.ln h.lc, .int .i64 h.m] 92)) = w1 at bH kn hu r0 r1 r2 cv hf1 hbs hwr ⊢
      clear hw1d
      generalize wr.heap.size = gH at bH hub hrH hwr ⊢
      have b0 := bH.cell_ (i := 0) rfl
      go_wp2_with fail
      obtain ⟨w2, hw2⟩ : ∃ x, x = w1 := ⟨w1, rfl⟩
      subst hw2
      go_loopw [4, 5] (fun u v wr => ∃ (q : Nat) (A : Option Addr) (c : Nat), q ≤ 40 ∧ v = .int .i64 q ∧ u = .slice A (h.n + q) c ∧ But (fun x => ownB h.a h.c = some x) w2 wr ∧ Fr 3 wr base h.a h.n h.c (List.replicate h.n (.int .i64 (-((h.m : Nat) : Int)))) ∧ Fr 3 wr base A (h.n + q) c (List.replicate (h.n + q) (.int .i64 (-((h.m : Nat) : Int)))) ∧ ((A = h.a ∧ c = h.c) ∨ ∀ x, ownB A c = some x → w2.heap.size ≤ x)) (fun _ v _ => 40 - (intOf v).toNat)
      case atStart => exact ⟨0, h.a, h.c, Nat.zero_le _, rfl, rfl, But.refl _ _, hu, hu, .inl ⟨rfl, rfl⟩⟩
      case round =>
        obtain ⟨q, A, c, hq, rfl, rfl, hb2, hfr, hfl, hor⟩ := hrel
        have HOR := Lib.hid hor
        clear hor
        have bR := bH.but hb2 (fun e => hub gH e rfl)
        have b2 := bR.cell_ (i := 2) rfl
        have hbw := Nat.le_trans hbs hb2.size
        by_cases hql : q < 40
        · have hmk := markInt_f h.m wr HM.out
          have hq1 : (q : Int) < 40 := by omega
          go_wp2_with fail
          refine hmk.mono ?_
          rintro e wr ⟨rfl, rfl⟩
          clear hmk
          go_wp2_with (at_builtin; refine wpList_append_x _ rfl _ _ 26 rfl base 3 (.int .i64 0) 8 Tryz.underlying26 infoInt rfl A (h.n + q) c _ rfl (hfl.keep (Keep.alloc1 _ _)) (some ⟨wr.heap.size, 0, none⟩) 1 1 [.int .i64 (-((h.m : Nat) : Int))] (by decide) rfl rfl (Rd.one _ _ _) (one_rep _ rfl) ?c1 ?c2 ?c3 ?_)
          case c1 => unfold maxLen; omega
          case c2 => omega
          case c3 => simp; omega
          intro A' c' w3 happ
          obtain ⟨hf3, hcase⟩ := happ
          rw [rep_snoc] at hf3
          have ka := Keep.alloc1 wr (.cells #[.int .i64 (-((h.m : Nat) : Int))] 3)
          have hb3 : But (fun x => ownB h.a h.c = some x) w2 (wr.alloc (.cells #[.int .i64 (-((h.m : Nat) : Int))] 3)) := hb2.grown2 (row := none) ⟨ka.os, ka.tape, ka.output, ka.size, fun _ hi _ => ka.block hi⟩ (fun _ e => by cases e)
          have hres : But (fun x => ownB h.a h.c = some x) w2 w3 ∧ Fr 3 w3 base h.a h.n h.c (List.replicate h.n (.int .i64 (-((h.m : Nat) : Int)))) ∧ ((A' = h.a ∧ c' = h.c) ∨ ∀ x, ownB A' c' = some x → w2.heap.size ≤ x) := by
            have hs2 := hb2.size
            rcases hcase with ⟨rfl, rfl, hgrow⟩ | ⟨hgrow, hown⟩
            · rcases HOR.out with ⟨rfl, rfl⟩ | hnew
              · refine ⟨hb3.grown2 hgrow (fun x hx => .inl hx), ?_, .inl ⟨rfl, rfl⟩⟩
                have := fr_take hf3 (m := h.n) (by omega)
                rwa [rep_take _ _ _ (by omega)] at this
              · exact ⟨hb3.grown2 hgrow (fun x hx => .inr (hnew x hx)), (hfr.keep ka).grown hgrow (fun x hx e => by
                  have h1 := hnew x e
                  have h2 := (hu.own_ge hx).2
                  omega), .inr hnew⟩
            · refine ⟨hb3.grown2 hgrow (fun x hx => by cases hx), (hfr.keep ka).grown hgrow (fun x hx e => by cases e), .inr fun x hx => ?_⟩
              rw [hown] at hx
              injection hx with hx
              have := ka.size
              omega
          obtain ⟨hb4, hf4, hor4⟩ := hres
          have HOR4 := Lib.hid hor4
          clear hcase hor4 hb3 ka
          go_wp2_with fail
          go_roundw
          case rel => exact ⟨q + 1, A', c', by omega, by go_num, by rw [Nat.add_assoc], hb4, hf4, hf3, HOR4.out⟩
          case measure => simp [intOf]; omega
        · obtain rfl : q = 40 := by omega
          have hne : ¬ ownB h.a h.c = some gr := fun e => by
            obtain ⟨cur, hcur⟩ := HCUR.out
            exact hfo.own_ne hcur (by decide) gr e rfl
          have hneg : ¬ ownB h.a h.c = some g := fun e => HG.out ⟨ho, List.mem_of_getElem? HHO.out, by rw [← HSM.out.1, ← HSM.out.2.1]; exact e⟩
          have r0' := hb2.cell r0 hne
          have r1' := hb2.cell r1 hne
          have r2' := hb2.cell r2 hne
          have cv' := hb2.cell cv hneg
          have hf1' : wr.frozen? ⟨gr, i * 3 + 1, none⟩ = false := (World.frozen?_of_block (hb2.block gr (World.block_lt_of_cell? w2 _ r0) hne)).trans hf1
          have hrow2 := ((hrr.keep kn).but hb2 (fun q hq e => by rw [HV1.out] at hq; cases hq; exact hne e))
          rw [HV1.out] at hrow2
          have hset := hrow2.set_ HH.out A (h.n + 40) c
          rw [← HV1.out] at hset
          have hgr0 : w.heap.size ≤ gr ∨ vb.ownBlock = some gr := .inr (by rw [HV1.out]; rfl)
          have hb5 : But (fun x => Own hs x ∨ vb.ownBlock = some x) w (wr.setCell ⟨gr, i * 3 + 1, none⟩ (.slice A (h.n + 40) c)) := by
            have h1 : But (fun x => Own hs x ∨ vb.ownBlock = some x) w w2 := hb.grown2 (row := none) ⟨kn.os, kn.tape, kn.output, kn.size, fun _ hi _ => kn.block hi⟩ (fun _ e => by cases e)
            have h2 := h1.trans (hb2.mono fun x hx => (.inl ⟨ho, List.mem_of_getElem? HHO.out, by rw [← HSM.out.1, ← HSM.out.2.1]; exact hx⟩ : Own hs x ∨ vb.ownBlock = some x))
            exact h2.setCell2 (p := ⟨gr, i * 3 + 1, none⟩) (.inl (.inr (by rw [HV1.out]; rfl))) _
          have hlow := hb.size
          have hkn := kn.size
          have hall : ∀ j h', (hs'.set i (h.long A (h.n + 40) c))[j]? = some h' → ∃ ho, hs[j]? = some ho ∧ SameHd ho h' ∧ Fr 3 (wr.setCell ⟨gr, i * 3 + 1, none⟩ (.slice A (h.n + 40) c)) base h'.a h'.n h'.c (List.replicate h'.n (.int .i64 (-((h'.m : Nat) : Int)))) ∧ (j < i + 1 → h'.ln = h'.n + 40 ∧ Fr 3 (wr.setCell ⟨gr, i * 3 + 1, none⟩ (.slice A (h.n + 40) c)) base h'.la h'.ln h'.lc (List.replicate (h'.n + 40) (.int .i64 (-((h'.m : Nat) : Int)))) ∧ ∀ q, ownB h'.la h'.lc = some q → ownB ho.a ho.c = some q ∨ w.heap.size ≤ q) := by
            intro j h' hj
            obtain ⟨cur, hcur⟩ := (hrow2.cur (k := gr) rfl)
            by_cases hji : i = j
            · subst hji
              rw [List.getElem?_set, if_pos rfl, if_pos (by rw [HL.out]; exact hlt)] at hj
              cases hj
              refine ⟨ho, HHO.out, HSM.out, hfr.setCell (fun x hx => hfr.own_ne hcur (by decide) x hx) (p := ⟨gr, i * 3 + 1, none⟩) _, fun _ => ⟨rfl, hfl.setCell (fun x hx => hfl.own_ne hcur (by decide) x hx) (p := ⟨gr, i * 3 + 1, none⟩) _, fun x hx => ?_⟩⟩
              rcases HOR.out with ⟨rfl, rfl⟩ | hnew
              · left
                rw [← HSM.out.1, ← HSM.out.2.1]
                exact hx
              · right
                have h1 := hnew x hx
                omega
            · rw [List.getElem?_set_ne hji] at hj
              obtain ⟨ho', hho', hsm', hfo', hrest⟩ := HA.out j h' hj
              have hs1 : ∀ x, ownB h'.a h'.c = some x → ¬ (ownB h.a h.c = some x) := fun x h1 h2 => HP.out j i ho' ho (Ne.symm hji) hho' HHO.out x (by rw [← hsm'.1, ← hsm'.2.1]; exact h1) (by rw [← HSM.out.1, ← HSM.out.2.1]; exact h2)
              have hff := (hfo'.keep kn).but hb2 hs1
              refine ⟨ho', hho', hsm', hff.setCell (fun x hx => hff.own_ne hcur (by decide) x hx) (p := ⟨gr, i * 3 + 1, none⟩) _, fun hjl => ?_⟩
              obtain ⟨e1, e2, e3⟩ := hrest (by omega)
              have hs2 : ∀ x, ownB h'.la h'.lc = some x → ¬ (ownB h.a h.c = some x) := fun x h1 h2 => by
                have h3 : ownB ho.a ho.c = some x := by rw [← HSM.out.1, ← HSM.out.2.1]; exact h2
                rcases e3 x h1 with h4 | h4
                · exact HP.out j i ho' ho (Ne.symm hji) hho' HHO.out x h4 h3
                · have := HLT.out ho (List.mem_of_getElem? HHO.out) x h3
                  omega
              have hfg := (e2.keep kn).but hb2 hs2
              exact ⟨e1, hfg.setCell (fun x hx => hfg.own_ne hcur (by decide) x hx) (p := ⟨gr, i * 3 + 1, none⟩) _, e3⟩
          have HALL := Lib.hid hall
          have hl2 : (hs'.set i (h.long A (h.n + 40) c)).length = hs.length := by rw [List.length_set]; exact HL.out
          have HL2 := Lib.hid hl2
          have HSET : HRow (wr.setCell ⟨gr, i * 3 + 1, none⟩ (.slice A (h.n + 40) c)) base 92 vb (hs'.set i (h.long A (h.n + 40) c)) := hset
          clear hall hl2 r0 r1 r2 cv hgr0 hfl hfr hset hrow2
          go_wp2_with fail
          go_roundw
          case rel => exact ⟨i + 1, _, by omega, by go_num, hb5, HL2.out, HSET, HALL.out⟩
          case measure => simp [intOf]; omega
    · rw [HV.out] at cv
      go_wp2_with fail
      go_end0
      exact ⟨rfl, hb, hs', HL.out, hrr, fun j h' hj => by
        obtain ⟨h, h1, h2, h3, h4⟩ := HA.out j h' hj
        obtain ⟨h5, h6, -⟩ := h4 (by have := (List.getElem?_eq_some_iff.1 hj).1; have := HL.out; omega)
        exact ⟨h, h1, h2, h3, h5, h6⟩⟩
end Go.Proofs.YtjhbpocffckghaaGreatDoor
