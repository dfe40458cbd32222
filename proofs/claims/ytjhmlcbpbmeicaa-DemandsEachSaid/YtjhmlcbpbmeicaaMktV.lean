/-
  CONTRACTS of the laws' copies: of a list of ints, of a list of such lists: in memory of their own, a mark in the room behind. Conditions: the slices read as lists, and are not too long.
-/
import Derived.Test.YtjhmlcbpbmeicaaMktG
import Derived.Test.YtjhmlcbpbmeicaaOwnAll
import Derived.Lib.JoinLaws
namespace Go.Proofs.Ytjhmlcbpbmeicaa
open Go.RowKit

theorem Fr.take {e : TypeId} {w : World} {base : Nat} {A : Option Addr} {n c : Nat} {vs : List Value} (h : Fr e w base A n c vs) {m : Nat} (hm : m ≤ n) : Fr e w base A m c (vs.take m) := by
  obtain ⟨h1, h2, h3, h4 | ⟨g, cur, hA, hb, hg, hs, ht⟩⟩ := h
  · exact ⟨by rw [List.length_take]; omega, by omega, h3, .inl h4⟩
  · exact ⟨by rw [List.length_take]; omega, by omega, h3, .inr ⟨g, cur, hA, hb, hg, hs, by rw [← ht, List.take_take, Nat.min_eq_left hm]⟩⟩
/-- Slices of the call's own of unlike types lie in rows apart. -/
theorem Fr.offtype {e e' : TypeId} {w : World} {b b' : Nat} {A A' : Option Addr} {n n' c c' : Nat} {vs vs' : List Value} (h : Fr e w b A n c vs) (h' : Fr e' w b' A' n' c' vs') (hne : e ≠ e') : ∀ k, ownB A c = some k → ownB A' c' ≠ some k := by
  intro k hk hk'
  obtain ⟨_, _, _, h4 | ⟨g, cur, rfl, _, hg, _⟩⟩ := h'
  · simp [ownB, h4] at hk'
  · unfold ownB at hk'
    split at hk'
    · cases hk'
    · simp at hk'
      exact h.own_ne hg hne k hk hk'

/-- A copy of a list of ints: of the call's own, the mark 77 behind it. -/
def Twin (w : World) (base : Nat) (t : Sl) : Prop := Fr 3 w base t.a (t.l.length + 1) t.c (cs .i64 (t.l ++ [77]))
theorem Twin.keep {w w' : World} {base : Nat} {t : Sl} (h : Twin w base t) (hk : Keep w w') : Twin w' base t := Fr.keep h hk
theorem Twin.fr {w : World} {base : Nat} {t : Sl} (h : Twin w base t) : Fr 3 w base t.a t.l.length t.c (cs .i64 t.l) := by
  have := Fr.take h (Nat.le_succ t.l.length)
  rw [cs_take, List.take_left] at this
  exact this
theorem Twin.ok {w : World} {base : Nat} {t : Sl} (h : Twin w base t) (hw : ∀ x ∈ t.l, (Lit.int .i64 x).wf = true) : t.Ok .i64 w :=
  ⟨⟨h.fr.rd, h.fr.cap, h.fr.capMax, hw⟩, fun e => h.fr.capNil e⟩

set_option maxRecDepth 100000 in
set_option maxHeartbeats 2000000 in
theorem twinInts_f (s : Sl) (w : World) (hs : s.Ok .i64 w) (hn : s.l.length ≤ 1000000) :
    Calls Try.prog 66 #[.slice s.a s.l.length s.c] w fun e w' => ∃ A c, e = .returned (.slice A s.l.length c) ∧ Twin w' w.heap.size ⟨A, c, s.l⟩ ∧ Keep w w' := by
  have hmk : ∀ w : World, (Instr.makeSlice 22 (.int .i64 0) (.int .i64 ((s.l.length : Int) + 1))).run Try.prog w = .ok (.slice (some ⟨w.heap.size, 0, none⟩) 0 (s.l.length + 1)) (w.alloc (.cells (madeCells #[.int .i64 0] (s.l.length + 1)) 3)) := fun w => run_make_room (P := Try.prog) 22 3 (.int .i64 0) 8 Try.underlying22 infoInt rfl .i64 .i64 (s.l.length + 1) (by omega) (by omega) w
  go_enter Try.func66, Try.ntmps66
  go_upto_region 2 with fail
  have kk : Keep w (w.alloc (.cells (madeCells #[.int .i64 0] (s.l.length + 1)) 3)) := Keep.alloc1 _ _
  have f0 : Fr 3 (w.alloc (.cells (madeCells #[.int .i64 0] (s.l.length + 1)) 3)) w.heap.size (some ⟨w.heap.size, 0, none⟩) 0 (s.l.length + 1) (cs .i64 (s.l.take 0)) := Fr.new w _ _ (Nat.zero_le _) (by unfold maxLen; omega) (by rw [size_madeCells]; exact Nat.le_refl _) (Nat.le_refl _)
  generalize w.alloc (.cells (madeCells #[.int .i64 0] (s.l.length + 1)) 3) = w1 at kk f0 ⊢
  clear hmk
  go_wp2_with fail
  go_loopw [3, 4] (fun v i wr => ∃ (k : Nat) (B : Option Addr) (c : Nat), k ≤ s.l.length ∧ i = .int .i64 k ∧ v = .slice B k c ∧ Fr 3 wr w.heap.size B k c (cs .i64 (s.l.take k)) ∧ Keep w wr) (fun _ i _ => s.l.length - (intOf i).toNat)
  case atStart => exact ⟨0, _, _, Nat.zero_le _, rfl, rfl, f0, kk⟩
  case round =>
    clear f0 kk
    obtain ⟨k, B, c, hk, rfl, rfl, hfr, hkeep⟩ := hrel
    by_cases hlt : k < s.l.length
    · obtain ⟨b1, o1, x, hsa, hxk, hc1⟩ := (hs.rd.keep hkeep).int_at hlt
      have HX := Lib.hid hxk
      rw [hsa]
      clear hxk hsa
      go_wp2_with (at_builtin; refine wpList_append_fr _ rfl _ _ 22 rfl w.heap.size 3 (.int .i64 0) 8 Try.underlying22 infoInt rfl B k c _ rfl (hfr.keep (Keep.alloc1 _ _)) (some ⟨wr.heap.size, 0, none⟩) 1 1 [.int .i64 x] rfl rfl (Rd.one _ _ _) (one_int _ _) ?c1 ?c2 ?c3 ?_)
      case c1 => unfold maxLen; omega
      case c2 => omega
      case c3 => have := hkeep.size; simp; omega
      intro A' c' w2 happ
      have hk2 := happ.keep (hkeep.alloc _) (hfr.keep (Keep.alloc1 _ _))
      have hf1 := happ.fr
      rw [cs_take_succ HX.out] at hf1
      clear happ hfr
      go_wp2_with fail
      go_roundw
      case rel => exact ⟨k + 1, A', c', by omega, by go_num, rfl, hf1, hk2⟩
      case measure => simp [intOf]; omega
    · obtain rfl : k = s.l.length := by omega
      rw [List.take_of_length_le (Nat.le_refl _)] at hfr
      go_wp2_with (at_builtin; refine wpList_append_fr _ rfl _ _ 22 rfl w.heap.size 3 (.int .i64 0) 8 Try.underlying22 infoInt rfl B s.l.length c _ rfl (hfr.keep (Keep.alloc1 _ _)) (some ⟨wr.heap.size, 0, none⟩) 1 1 [.int .i64 77] rfl rfl (Rd.one _ _ _) (one_int _ _) ?d1 ?d2 ?d3 ?_)
      case d1 => unfold maxLen; omega
      case d2 => omega
      case d3 => have := hkeep.size; simp; omega
      intro A' c' w2 happ
      have hk2 := happ.keep (hkeep.alloc _) (hfr.keep (Keep.alloc1 _ _))
      have hf1 := happ.fr
      rw [← cs_one, ← cs_append] at hf1
      have hc1 := hf1.cap
      clear happ hfr
      have y1 : (s.l.length : Int) ≤ c' := by omega
      go_wp2_with fail
      go_ret
      exact ⟨A', c', rfl, hf1, hk2⟩

/-- A value that stands as a slice is one cell. -/
theorem one_sl (s : Sl) : ∀ u ∈ [s.val], u.oneCell' = true := by
  intro u hu
  rw [List.mem_singleton] at hu
  subst hu
  rfl
/-- Copies of the call's own, in rows apart. -/
def Twins (w : World) (base : Nat) (ts : List Sl) : Prop := (∀ t ∈ ts, Twin w base t) ∧ ts.Pairwise Sep
theorem Twins.keep {w w' : World} {base : Nat} {ts : List Sl} (h : Twins w base ts) (hk : Keep w w') : Twins w' base ts := ⟨fun t ht => (h.1 t ht).keep hk, h.2⟩
theorem Twins.snoc {w : World} {base : Nat} {ts : List Sl} {t : Sl} (h : Twins w base ts) (ht : Twin w base t) (hn : ∀ u ∈ ts, Sep u t) : Twins w base (ts ++ [t]) := by
  refine ⟨fun u hu => ?_, ?_⟩
  · rcases List.mem_append.1 hu with hu | hu
    · exact h.1 u hu
    · rw [List.mem_singleton] at hu
      exact hu ▸ ht
  · rw [List.pairwise_append]
    refine ⟨h.2, List.pairwise_singleton _ _, fun u hu v hv => ?_⟩
    rw [List.mem_singleton] at hv
    exact hv ▸ hn u hu
/-- What lay ahead lies apart from what is new. -/
theorem Sep.new {w w' : World} {base : Nat} {s t : Sl} {e e' : TypeId} {n n' : Nat} {vs vs' : List Value} (h : Fr e w base s.a n s.c vs) (h' : Fr e' w' w.heap.size t.a n' t.c vs') : Sep s t := fun k hk e => by
  have h1 := (h.own_ge hk).2
  have h2 := (h'.own_ge e).1
  omega
/-- An append onto a row of slices leaves the copies. -/
theorem Twins.appended {w w' : World} {base : Nat} {ts : List Sl} {A A' : Option Addr} {c c' n n' : Nat} {us vs : List Value} (h : Twins w base ts) (hf : Fr 22 w base A n c us) (happ : Appended 22 w base A c n' vs A' c' w') : Twins w' base ts :=
  ⟨fun t ht => Fr.grown (h.1 t ht) happ.2.1 fun k hk e => Fr.offtype (h.1 t ht) hf (by decide) k hk e, h.2⟩

set_option maxRecDepth 100000 in
set_option maxHeartbeats 4000000 in
theorem twinLists_f (A : Option Addr) (c : Nat) (ss : List Sl) (w : World) (ha : InR .i64 w A c ss) (hn : ss.length ≤ 1000000) (hh : Short ss) :
    Calls Try.prog 67 #[.slice A ss.length c] w fun e w' => ∃ (A' : Option Addr) (c' : Nat) (ts : List Sl) (z : Sl), e = .returned (.slice A' ss.length c') ∧ bidsOf ts = bidsOf ss ∧ z.l = [77] ∧ Twins w' w.heap.size ts ∧ Fr 22 w' w.heap.size A' (ss.length + 1) c' (ts.map Sl.val ++ [z.val]) ∧ Fr 3 w' w.heap.size z.a 1 z.c (cs .i64 z.l) ∧ Keep w w' := by
  have hmk : ∀ w : World, (Instr.makeSlice 60 (.int .i64 0) (.int .i64 ((ss.length : Int) + 1))).run Try.prog w = .ok (.slice (some ⟨w.heap.size, 0, none⟩) 0 (ss.length + 1)) (w.alloc (.cells (madeCells #[.slice none 0 0] (ss.length + 1)) 22)) := fun w => run_make_room (P := Try.prog) 60 22 (.slice none 0 0) 24 Try.underlying60 infoInts rfl .i64 .i64 (ss.length + 1) (by omega) (by omega) w
  have HH := Lib.hid hh
  clear hh
  go_enter Try.func67, Try.ntmps67
  go_upto_region 2 with fail
  have kk : Keep w (w.alloc (.cells (madeCells #[.slice none 0 0] (ss.length + 1)) 22)) := Keep.alloc1 _ _
  have f0 : Fr 22 (w.alloc (.cells (madeCells #[.slice none 0 0] (ss.length + 1)) 22)) w.heap.size (some ⟨w.heap.size, 0, none⟩) 0 (ss.length + 1) [] := Fr.new w _ _ (Nat.zero_le _) (by unfold maxLen; omega) (by rw [size_madeCells]; exact Nat.le_refl _) (Nat.le_refl _)
  generalize w.alloc (.cells (madeCells #[.slice none 0 0] (ss.length + 1)) 22) = w1 at kk f0 ⊢
  clear hmk
  go_wp2_with fail
  go_loopw [3, 4] (fun v i wr => ∃ (k : Nat) (B : Option Addr) (c : Nat) (ts : List Sl), k ≤ ss.length ∧ i = .int .i64 k ∧ v = .slice B k c ∧ bidsOf ts = bidsOf (ss.take k) ∧ Fr 22 wr w.heap.size B k c (ts.map Sl.val) ∧ Twins wr w.heap.size ts ∧ Keep w wr) (fun _ i _ => ss.length - (intOf i).toNat)
  case atStart => exact ⟨0, _, _, [], Nat.zero_le _, rfl, rfl, rfl, f0, ⟨fun t h => (by cases h), List.Pairwise.nil⟩, kk⟩
  case round =>
    clear f0 kk
    obtain ⟨k, B, c, ts, hk, rfl, rfl, hbt, hfr, htw, hkeep⟩ := hrel
    have HB := Lib.hid hbt
    clear hbt
    by_cases hlt : k < ss.length
    · obtain ⟨b1, o1, s, hsa, hsk, hc1, hs⟩ := (ha.keep hkeep).at_ hlt
      have HX := Lib.hid hsk
      have hq := twinInts_f s wr hs (HH.out s (List.mem_of_getElem? hsk))
      rw [hsa]
      clear hsk hsa
      go_wp2_with fail
      refine hq.mono ?_
      rintro e w2 ⟨A2, c2, rfl, ht2, k2⟩
      have hsep : ∀ u ∈ ts, Sep u ⟨A2, c2, s.l⟩ := fun u hu => Sep.new (htw.1 u hu) ht2
      have ht3 : Twin w2 w.heap.size ⟨A2, c2, s.l⟩ := Fr.mono ht2 hkeep.size
      replace htw := (htw.keep k2).snoc ht3 hsep
      replace hfr := hfr.keep k2
      replace hkeep := hkeep.trans k2
      clear ht2 ht3 hsep hq k2 hc1 hs
      go_wp2_with (at_builtin; refine wpList_append_fr _ rfl _ _ 60 rfl w.heap.size 22 (.slice none 0 0) 24 Try.underlying60 infoInts rfl B k c _ rfl (hfr.keep (Keep.alloc1 _ _)) (some ⟨w2.heap.size, 0, none⟩) 1 1 [.slice A2 s.l.length c2] rfl rfl (Rd.one _ _ _) (one_sl ⟨A2, c2, s.l⟩) ?c1 ?c2 ?c3 ?_)
      case c1 => unfold maxLen; omega
      case c2 => omega
      case c3 => have := hkeep.size; simp; omega
      intro A' c' w3 happ
      have hk2 := happ.keep (hkeep.alloc _) (hfr.keep (Keep.alloc1 _ _))
      have hf1 := happ.fr
      have ht1 := (htw.keep (Keep.alloc1 _ _)).appended (hfr.keep (Keep.alloc1 _ _)) happ
      have hb1 : bidsOf (ts ++ [(⟨A2, c2, s.l⟩ : Sl)]) = bidsOf (ss.take (k + 1)) := by
        rw [List.take_add_one, HX.out]
        unfold bidsOf
        rw [List.map_append, List.map_append]
        exact congrArg (· ++ [s.l]) HB.out
      have HB1 := Lib.hid hb1
      have hm1 : ts.map Sl.val ++ [.slice A2 s.l.length c2] = (ts ++ [(⟨A2, c2, s.l⟩ : Sl)]).map Sl.val := by rw [List.map_append]; rfl
      rw [hm1] at hf1
      clear happ hfr htw hb1 hm1
      go_wp2_with fail
      go_roundw
      case rel => exact ⟨k + 1, A', c', _, by omega, by go_num, rfl, HB1.out, hf1, ht1, hk2⟩
      case measure => simp [intOf]; omega
    · obtain rfl : k = ss.length := by omega
      have hb1 := HB.out
      rw [List.take_of_length_le (Nat.le_refl _)] at hb1
      have HB1 := Lib.hid hb1
      have kz := Keep.alloc1 wr (.cells #[.int .i64 77] 3)
      have fz : Fr 3 (wr.alloc (.cells #[.int .i64 77] 3)) w.heap.size (some ⟨wr.heap.size, 0, none⟩) 1 1 (cs .i64 [77]) := Fr.new wr #[.int .i64 77] 3 (Nat.le_refl _) (by unfold maxLen; omega) (Nat.le_refl _) hkeep.size
      replace hkeep := hkeep.trans kz
      replace hfr := hfr.keep kz
      replace htw := htw.keep kz
      clear hb1 HB
      have hsz : (wr.alloc (.cells #[.int .i64 77] 3)).heap.size = wr.heap.size + 1 := by simp
      have hro := Rd.one (wr.alloc (.cells #[.int .i64 77] 3)) (.slice (some ⟨wr.heap.size, 0, none⟩) 1 1) 22
      rw [hsz] at hro
      clear hsz
      go_wp2_with (at_builtin; refine wpList_append_fr _ rfl _ _ 60 rfl w.heap.size 22 (.slice none 0 0) 24 Try.underlying60 infoInts rfl B ss.length c _ rfl (hfr.keep (Keep.alloc1 _ _)) (some ⟨wr.heap.size + 1, 0, none⟩) 1 1 [.slice (some ⟨wr.heap.size, 0, none⟩) 1 1] rfl rfl hro (one_sl ⟨some ⟨wr.heap.size, 0, none⟩, 1, [77]⟩) ?d1 ?d2 ?d3 ?_)
      case d1 => unfold maxLen; omega
      case d2 => omega
      case d3 => have := hkeep.size; simp at this ⊢; omega
      intro A' c' w2 happ
      have hk2 := happ.keep (hkeep.alloc _) (hfr.keep (Keep.alloc1 _ _))
      have hf1 := happ.fr
      have ht1 := (htw.keep (Keep.alloc1 _ _)).appended (hfr.keep (Keep.alloc1 _ _)) happ
      have hz1 : Fr 3 w2 w.heap.size (some ⟨wr.heap.size, 0, none⟩) 1 1 (cs .i64 [77]) := Fr.grown (fz.keep (Keep.alloc1 _ _)) happ.2.1 fun k hk e => Fr.offtype fz (hfr) (by decide) k hk e
      have hc1 := hf1.cap
      clear happ hfr htw fz kz
      have y1 : (ss.length : Int) ≤ c' := by omega
      go_wp2_with fail
      go_ret
      exact ⟨A', c', ts, ⟨some ⟨wr.heap.size, 0, none⟩, 1, [77]⟩, rfl, HB1.out, rfl, ht1, hf1, hz1, hk2⟩
end Go.Proofs.Ytjhmlcbpbmeicaa
