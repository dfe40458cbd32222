/-
  CONTRACTS for the package demands: 'Of': what it answers where it takes the prices and the bid. Conditions: the slices are no longer than memory lets them be.
-/
import Derived.Test.YtjaaganaohjmaaaGreatDoorDemD
import Derived.Shelf.Abstract
namespace Go.Proofs.YtjaaganaohjmaaaGreatDoor
open Go.RowKit Go.Shelf
attribute [local go_sem] Oper.semAt_some

/-- append onto a slice of the call's own, within a round of a range over a function. -/
theorem wpListIn_append_fr {F : Fence} {n₀ : Nat} {P : Program} (w : World) {ops : Array Oper} {rest : List Oper} {o : Oper} {a : Act} {Q : Exit → Act → World → Prop} (hgd : o.guard = none) (s x : Operand) (t : TypeId)
    (ho : o.op = .call { callee := .builtin .append, args := #[s, x], argTypes := #[t, t] })
    (base : Nat) (e : TypeId) (z : Value) (bytes : Nat) (ht : P.underlying t = some (.slice e)) (hinfo : (P.info? e).map (fun i => (i.zero, i.size, i.bytes)) = some (some z, 1, bytes)) (hzs : z.cells.size = 1)
    (A : Option Addr) (n c : Nat) (vs : List Value) (hs : a.eval s = .slice A n c) (hown : Fr e w base A n c vs)
    (B : Option Addr) (m d : Nat) (news : List Value) (hx : a.eval x = .slice B m d) (hl : news.length = m) (hr : Rd w B news) (h1 : ∀ u ∈ news, u.oneCell' = true)
    (h63 : n + m ≤ maxLen) (hbytes : (n + m) * bytes ≤ 140737488355328) (hbase : base ≤ w.heap.size)
    (h : ∀ A' c' w', Appended e w base A c (n + m) (vs ++ news) A' c' w' → wpListIn F n₀ P ops Q rest (a.put o.dst (.slice A' (n + m) c')) w') : wpListIn F n₀ P ops Q (o :: rest) a w := by
  refine wpListIn_plain hgd fun K hK' => ?_
  obtain ⟨i, hi, hz, hsize, hby⟩ := info_parts hinfo
  obtain ⟨A', c', w', hrun, h2⟩ := run_append_fr (P := P) w base t o.type e i z bytes ht hi hz hsize hby hzs A n c vs hown B m d news hl hr h1 h63 hbytes hbase
  unfold Oper.wpIn
  refine ⟨?_, ?_⟩
  · simp [Oper.about, ho, resolve, Target.leads, Sem.run_pure]
  · rw [Oper.semAt_plain F _ _ (by rw [ho]; intro c hc'; cases hc')]
    simp [execOp, ho, resolve, invoke, builtin, hs, hx, hrun, Result.andThen]
    exact hK' _ _ (h A' c' w' h2)

/-- One item comes. -/
def stepG (s : List Int × Int) (x : Nat × Int) : List Int × Int := if s.2 < x.2 then ([(x.1 : Int)], x.2) else if x.2 = s.2 then (s.1 ++ [(x.1 : Int)], s.2) else s
def best (l : List (Nat × Int)) : List Int × Int := l.foldl stepG ([], 0)
theorem best_snoc (l : List (Nat × Int)) (x : Nat × Int) : best (l ++ [x]) = stepG (best l) x := by simp [best]
theorem length_stepG (s : List Int × Int) (x : Nat × Int) : (stepG s x).1.length ≤ s.1.length + 1 := by
  unfold stepG
  split
  · simp
  · split
    · simp
    · simp
theorem length_bestFrom : ∀ (l : List (Nat × Int)) (s : List Int × Int), (l.foldl stepG s).1.length ≤ s.1.length + l.length
  | [], s => by simp
  | x :: l, s => by
    have h := length_bestFrom l (stepG s x)
    have h2 := length_stepG s x
    simp only [List.foldl_cons, List.length_cons]
    omega
theorem length_best (l : List (Nat × Int)) : (best l).1.length ≤ l.length := by
  have h := length_bestFrom l ([], 0)
  simpa [best] using h

theorem Fr.cells {e : TypeId} {w : World} {base : Nat} {A : Option Addr} {n c : Nat} {vs : List Value} (h : Fr e w base A n c vs) (j : Nat) (o : Obj) (hj : ownB A c = some j) (ho : w.heap[j]? = some o) : o.isCells = true := by
  obtain ⟨h1, h2, h3, h4 | ⟨g, cur, rfl, hb, hgg, r⟩⟩ := h
  · simp [ownB, h4] at hj
  · unfold ownB at hj
    split at hj
    · cases hj
    · simp at hj
      subst hj
      rw [hgg] at ho
      cases ho
      rfl

theorem Fr.setLow {e : TypeId} {w : World} {base : Nat} {A : Option Addr} {n c : Nat} {vs : List Value} (h : Fr e w base A n c vs) {p : Addr} (hp : p.block < base) (u : Value) : Fr e (w.setCell p u) base A n c vs :=
  h.setCell (fun k hk => by have := (h.own_ge hk).1; omega) u
theorem Fr.setBox {e : TypeId} {w : World} {base : Nat} {A : Option Addr} {n c : Nat} {vs : List Value} (h : Fr e w base A n c vs) {B : Nat} (hp : B < base) (u : Value) : Fr e (w.setCell ⟨B, 0, none⟩ u) base A n c vs := h.setLow hp u
theorem KeepX.setBox {lo hi n₁ : Nat} {a b : World} (h : KeepX lo hi n₁ a b) {B : Nat} (h1 : lo ≤ B) (h2 : B < hi) (u : Value) : KeepX lo hi n₁ a (b.setCell ⟨B, 0, none⟩ u) := h.setCell (.inl ⟨h1, h2⟩) u
theorem Keep.setBox {a b : World} (h : Keep a b) {B : Nat} (h1 : a.heap.size ≤ B) (u : Value) : Keep a (b.setCell ⟨B, 0, none⟩ u) := h.setCell h1 u
/-- What a round leaves, of a world behind an append. -/
theorem Boxed.low {W w1 : World} {B n₁ n c : Nat} {e t : TypeId} {v : Value} {A : Option Addr} {vs : List Value} (h : Boxed W B t v) (hf : Fr e W n₁ A n c vs) (hg : W.grownBy w1 (ownB A c)) (hB : B < n₁) : Boxed w1 B t v :=
  h.kept hg (fun e' => by have := (hf.own_ge e'.symm).1; omega)

/-- What holds while the items come: the three boxes at B, the row from n₁ on. -/
def OfI (Wl : World) (B n₁ : Nat) (pre : List (Nat × Int)) (W : World) : Prop :=
  ∃ A c, Boxed W B 26 (.slice A (best pre).1.length c) ∧ Boxed W (B + 1) 4 (.bool false) ∧ Boxed W (B + 1 + 1) 3 (.int .i64 (best pre).2) ∧
    Fr 3 W n₁ A (best pre).1.length c (cs .i64 (best pre).1) ∧ KeepX B (B + 3) n₁ Wl W

theorem OfI.own (Wl : World) (B n₁ : Nat) (hn : n₁ = Wl.heap.size) : OwnFrom n₁ (OfI Wl B n₁) := by
  rintro pre W W' row ⟨A, c, h1, h2, h3, h4, h5⟩ hg hr
  have hr' : ∀ r, row = some r → ∃ o : Obj, W.heap[r]? = some o ∧ o.isCells = false := fun r e => (hr r e).2
  exact ⟨A, c, Boxed.others h1 hg hr', Boxed.others h2 hg hr', Boxed.others h3 hg hr', h4.others hg hr', h5.grown hg (by rw [hn]; exact h5.size) fun k e => (hr k e).1⟩

/-- Of's answer where it takes them. -/
def OfYes (xs ys : List Int) (w : World) (e : Ending) (w' : World) : Prop :=
  ∃ A, e = .returned (.tuple #[.slice A (best (gs xs ys xs.length)).1.length (best (gs xs ys xs.length)).1.length, .bool ((best (gs xs ys xs.length)).2 == 0), .int .i64 (best (gs xs ys xs.length)).2, .int .i64 0]) ∧
    Fr 3 w' w.heap.size A (best (gs xs ys xs.length)).1.length (best (gs xs ys xs.length)).1.length (cs .i64 (best (gs xs ys xs.length)).1) ∧ Keep w w'

theorem lenMax {c : Nat} (h : c ≤ maxLen) : Len c := by unfold maxLen at h; unfold Len; omega
theorem heap_setBox {W : World} {B D : Nat} {o : Obj} (h : W.heap[D]? = some o) (hne : D ≠ B) (u : Value) : (W.setCell ⟨B, 0, none⟩ u).heap[D]? = some o := (Below.heap_setCell W ⟨B, 0, none⟩ u D hne).trans h
theorem of_end (xs ys : List Int) (w W : World) (A : Option Addr) (m cc B D base : Nat) (tmps : Array Value) (lc : Len cc) (hB0 : w.heap.size ≤ B) (hB : B + 3 ≤ base) (hD : base ≤ D) (hm : m = (best (gs xs ys xs.length)).1.length)
    (h1 : Boxed W B 26 (.slice A m cc)) (h2 : Boxed W (B + 1) 4 (.bool false)) (h3 : Boxed W (B + 1 + 1) 3 (.int .i64 (best (gs xs ys xs.length)).2))
    (h4 : Fr 3 W base A m cc (cs .i64 (best (gs xs ys xs.length)).1)) (hK : W.heap[D]? = some (.deferred (some []))) (kw : Keep w W)
    (t4 : tmps[4]?.getD undef = .pointer (some ⟨B, 0, none⟩)) (t5 : tmps[5]?.getD undef = .pointer (some ⟨B + 1, 0, none⟩)) (t6 : tmps[6]?.getD undef = .pointer (some ⟨B + 1 + 1, 0, none⟩)) (t7 : tmps.getD 7 undef = .int .i64 0) :
    LeavesInM Fence.wide 9 Tryz.prog Tryz.f93 tmps (OfYes xs ys w) [{ target := .collected D, args := #[] }, { target := .fn (.func 133) #[.pointer (some ⟨B, 0, none⟩), .pointer (some ⟨B + 1 + 1, 0, none⟩), .pointer (some ⟨B + 1, 0, none⟩)], args := #[] }] .returning W := by
  subst hm
  refine ⟨by simp, .inl ⟨D, _, rfl, run_takeDeferred hK, ?_⟩⟩
  refine ⟨by simp, .inr ⟨fun h => by simp [Fence.wide] at h, .func 133, _, 133, _, rfl, enters_of Tryz.func133 (by kernel_rfl) rfl _ _, fun _ _ => trivial, ?_⟩⟩
  have hrow : ∀ r, some D = some r → ∃ o : Obj, W.heap[r]? = some o ∧ o.isCells = false := fun r e => by cases e; exact ⟨_, hK, rfl⟩
  have i1 := Boxed.others h1 (grownBy_putObj' W D (.deferred none)) hrow
  have i2 := Boxed.others h2 (grownBy_putObj' W D (.deferred none)) hrow
  have i3 := Boxed.others h3 (grownBy_putObj' W D (.deferred none)) hrow
  have i4 := h4.others (grownBy_putObj' W D (.deferred none)) hrow
  have k2 := kw.putObj (l := D) (by omega) (.deferred none)
  refine (of1_f 8 B (B + 1 + 1) (B + 1) _ cc A (best (gs xs ys xs.length)).2 false _ h4.cap lc i1 i3 i2 (by omega) (by omega)).mono ?_
  rintro e u' w' ⟨rfl, rfl, rfl⟩
  have r1 := (i1.set (.slice A (best (gs xs ys xs.length)).1.length (best (gs xs ys xs.length)).1.length)).other (B' := B + 1) (by omega) (.bool ((best (gs xs ys xs.length)).2 == 0))
  have r2 := (i2.other (B' := B) (by omega) (.slice A (best (gs xs ys xs.length)).1.length (best (gs xs ys xs.length)).1.length)).set (.bool ((best (gs xs ys xs.length)).2 == 0))
  have r3 := (i3.other (B' := B) (by omega) (.slice A (best (gs xs ys xs.length)).1.length (best (gs xs ys xs.length)).1.length)).other (B' := B + 1) (by omega) (.bool ((best (gs xs ys xs.length)).2 == 0))
  have r4 := (i4.setBox (B := B) (by omega) (.slice A (best (gs xs ys xs.length)).1.length (best (gs xs ys xs.length)).1.length)).setBox (B := B + 1) (by omega) (.bool ((best (gs xs ys xs.length)).2 == 0))
  refine ⟨_, of_results (fn := Tryz.f93) rfl r1 r2 r3 t4 t5 t6, ?_⟩
  rw [t7]
  exact ⟨A, rfl, (r4.clip.mono (by omega)).keep ((Keep.refl _).drew), ((k2.setBox (by omega) _).setBox (by omega) _).drew⟩

set_option maxRecDepth 100000 in
set_option maxHeartbeats 8000000 in
theorem of_yes (A B : Option Addr) (ca cb : Nat) (xs ys : List Int) (w : World) (ha : Rd w A (cs .i64 xs)) (la : Len xs.length) (hb : Rd w B (cs .i64 ys)) (lb : Len ys.length) (hm : mayP ys ys.length = true)
    (lx : Reach xs.length) (ly : Reach ys.length) (hle : xs.length ≤ ys.length) (sx : Small xs) (sy : Small ys) (l8 : xs.length ≤ 8) (hc : 0 < xs.length → chk xs ys.length = true) :
    Calls Tryz.prog 93 #[.slice A xs.length ca, .slice B ys.length cb] w (OfYes xs ys w) := by
  have lb' := lb.le
  have la' := la.le
  refine (callsIn_wide (n := 9)).1 (callsIn_of_wp_marks Tryz.func93 rfl trivial (wpIn_wide.2 ?_) rfl)
  simp only [Tryz.ntmps93, List.size_toArray, List.length_cons, List.length_nil, Nat.reduceAdd, Nat.reduceSub, Array.replicate_succ, Array.replicate_zero, List.push_toArray, List.append_toArray, List.nil_append, List.cons_append]
  have HM := Lib.hid hm
  clear hm
  have HL := Lib.hid hle
  clear hle
  have HC := Lib.hid hc
  clear hc
  by_cases hx : 0 < xs.length
  case' pos =>
    go_wp2_with fail
    refine (may_f B cb ys _ _ (hb.keep (boxes_keep w)) lb).mono ?_
    rintro e w1 ⟨he, m, rfl⟩
    rw [HM.out] at he
    subst he
    go_wp2_with fail
    refine (check_f A ca xs _ _ ((ha.keep (boxes_keep w)).keep ((Keep.refl _).drewN m)) la (WalkArith.wf_i64 (by omega))).mono ?_
    rintro e w2 ⟨he, k2⟩
    rw [HC.out hx] at he
    subst he
    have bi : Boxed w2 w.heap.size 26 (.slice none 0 0) := k2.boxed (boxes_items w)
    have bn : Boxed w2 (w.heap.size + 1) 4 (.bool false) := k2.boxed (boxes_none w)
    have bg : Boxed w2 (w.heap.size + 1 + 1) 3 (.int .i64 0) := k2.boxed (boxes_gain w)
    have kw : Keep w w2 := ((boxes_keep w).drewN m).trans k2
    clear k2
    go_wp2_with fail
  case' neg =>
    go_wp2_with fail
    refine (may_f B cb ys _ _ (hb.keep (boxes_keep w)) lb).mono ?_
    rintro e w1 ⟨he, m, rfl⟩
    rw [HM.out] at he
    subst he
    have kw : Keep w ((boxes w).drewN m) := (boxes_keep w).drewN m
    have bi : Boxed ((boxes w).drewN m) w.heap.size 26 (.slice none 0 0) := boxes_items w
    have bn : Boxed ((boxes w).drewN m) (w.heap.size + 1) 4 (.bool false) := boxes_none w
    have bg : Boxed ((boxes w).drewN m) (w.heap.size + 1 + 1) 3 (.int .i64 0) := boxes_gain w
    go_wp2_with fail
    generalize (boxes w).drewN m = w2 at kw bi bn bg ⊢
  all_goals
    clear hx
    have k2s : w.heap.size + 3 ≤ w2.heap.size := bg.lt
    refine (gains_f A B _ _ _ _ w2).mono ?_
    rintro e w3 ⟨rfl, rfl⟩
    have b1 : Boxed ((w2.alloc (.cells #[.slice A xs.length ca] 26)).alloc (.cells #[.slice B ys.length cb] 26)) w2.heap.size 26 (.slice A xs.length ca) := (Boxed.new w2 _ _).alloc _
    have b2 : Boxed ((w2.alloc (.cells #[.slice A xs.length ca] 26)).alloc (.cells #[.slice B ys.length cb] 26)) (w2.heap.size + 1) 26 (.slice B ys.length cb) := by
      have h := Boxed.new (w2.alloc (.cells #[.slice A xs.length ca] 26)) 26 (.slice B ys.length cb)
      rwa [World.size_alloc] at h
    have hs3 : ((w2.alloc (.cells #[.slice A xs.length ca] 26)).alloc (.cells #[.slice B ys.length cb] 26)).heap.size = w2.heap.size + 2 := by simp
    have k3 : Keep w2 ((w2.alloc (.cells #[.slice A xs.length ca] 26)).alloc (.cells #[.slice B ys.length cb] 26)) := ((Keep.refl w2).alloc _).alloc _
    generalize (w2.alloc (.cells #[.slice A xs.length ca] 26)).alloc (.cells #[.slice B ys.length cb] 26) = w3 at b1 b2 hs3 k3 ⊢
    have hs4 : w2.heap.size + 2 ≤ w3.heap.size := Nat.le_of_eq hs3.symm
    clear hs3
    have bi3 := k3.boxed bi
    have bn3 := k3.boxed bn
    have bg3 := k3.boxed bg
    have kw3 := kw.trans k3
    have ra3 := (ha.below (Nat.le_refl _)).keep kw3
    have rb3 := (hb.below (Nat.le_refl _)).keep kw3
    go_wp2_with fail
    refine (wpIn_wide (n := 9)).1 (wpIn_rangeFunc_ownG (F := Fence.wide) rfl (by omega) (gf := 143) (lb := #[.pointer (some ⟨w2.heap.size, 0, none⟩), .pointer (some ⟨w2.heap.size + 1, 0, none⟩)]) rfl trivial (enters_of Tryz.func143 (by kernel_rfl) rfl)
      (gains_stops Fence.wide 8 trivial rfl (by omega) w2.heap.size (w2.heap.size + 1) w.heap.size (w.heap.size + 3) w3.heap.size ca cb A B xs ys lx HL.out ly sx sy (by omega) (by omega) (by omega) w3 b1 b2 ra3 rb3)
      (fun h k => KeepX.trans h k) (fun W l o o' hl _ _ _ => KeepX.putObj _ _ _ W hl o') (Below.refl _ _) (fun _ => rfl)
      (OfI w3 w.heap.size w3.heap.size) (fun _ _ _ => False) (OfI.own _ _ _ rfl) (fun _ _ _ _ _ hs _ _ => hs)
      ⟨none, 0, bi3, bn3, bg3, Fr.empty _ _ _ _, KeepX.refl _ _ _ _⟩ ?_ ?_ ?_ ?_ ?_)
    rotate_left
    · intro l x W K hK
      gi_wp2
      exact hK
    · rintro l pre x W ⟨A1, cc, h1, h2, h3, h4, h5⟩ hlt
      have lpre := length_best pre
      have c1 := h1.cell
      have c3 := h3.cell
      have f1 := h1.frozen
      have f3 := h3.frozen
      have hsz := h5.size
      have ka : KeepX w.heap.size (w.heap.size + 3) w3.heap.size W (W.alloc (.cells #[.int .i64 (x.1 : Int)] 3)) := (KeepX.refl _ _ _ W).alloc hsz _
      have h1a := h1.alloc (.cells #[.int .i64 (x.1 : Int)] 3)
      have h2a := h2.alloc (.cells #[.int .i64 (x.1 : Int)] 3)
      have h3a := h3.alloc (.cells #[.int .i64 (x.1 : Int)] 3)
      have c1a := h1a.cell
      have f1a := h1a.frozen
      have f3a := h3a.frozen
      have c3a : ∀ v, ((W.alloc (.cells #[.int .i64 (x.1 : Int)] 3)).setCell ⟨w.heap.size, 0, none⟩ v).cell? ⟨w.heap.size + 1 + 1, 0, none⟩ = some (.int .i64 (best pre).2) := fun v => (h3a.other (by omega) v).cell
      have hB : w.heap.size + 3 ≤ w3.heap.size := by omega
      by_cases hgt : (best pre).2 < x.2
      · have hb2 : best (pre ++ [x]) = ([(x.1 : Int)], x.2) := by rw [best_snoc, stepG, if_pos hgt]
        have HB := Lib.hid hb2
        clear hb2
        gi_wp2_with fail
        refine ⟨(((KeepsOthers.alloc _ _).trans (KeepsOthers.setCell _ _ _)).trans (KeepsOthers.setCell _ _ _)).from _, (ka.setBox (by omega) (by omega) _).setBox (by omega) (by omega) _, ?_⟩
        unfold OfI
        rw [HB.out]
        exact ⟨some ⟨W.heap.size, 0, none⟩, 1, (h1a.set _).other (by omega) _, (h2a.other (by omega) _).other (by omega) _, (h3a.other (by omega) _).set _,
          ((Fr.new W #[.int .i64 (x.1 : Int)] 3 (n := 1) (c := 1) (Nat.le_refl _) (by decide) (Nat.le_refl _) hsz).setBox (by omega) _).setBox (by omega) _,
          ((h5.trans ka).setBox (by omega) (by omega) _).setBox (by omega) (by omega) _⟩
      · have hgt' : x.2 ≤ (best pre).2 := by omega
        by_cases heq : x.2 = (best pre).2
        · have hb2 : best (pre ++ [x]) = ((best pre).1 ++ [(x.1 : Int)], (best pre).2) := by rw [best_snoc, stepG, if_neg hgt, if_pos heq]
          have HB := Lib.hid hb2
          clear hb2 hgt
          have h4a : Fr 3 (W.alloc (.cells #[.int .i64 (x.1 : Int)] 3)) w3.heap.size A1 (best pre).1.length cc (cs .i64 (best pre).1) := h4.keep (Keep.alloc1 _ _)
          gi_wp2_with (gi_at_builtin; refine wpListIn_append_fr _ rfl _ _ 26 rfl w3.heap.size 3 (.int .i64 0) 8 Tryz.underlying26 infoInt rfl A1 _ cc _ rfl h4a (some ⟨W.heap.size, 0, none⟩) 1 1 [.int .i64 (x.1 : Int)] rfl rfl (Rd.one _ _ _) (one_int _ _) ?_ ?_ ?_ ?_)
          · unfold maxLen; omega
          · omega
          · simp; omega
          intro A' c' w1 happ
          have hk1 : KeepX w.heap.size (w.heap.size + 3) w3.heap.size W w1 := ka.grown happ.2.1 (by simp; omega) (fun k hk => (h4a.own_ge hk).1)
          have hko : KeepsOthers W w1 := (KeepsOthers.alloc _ _).trans (KeepsOthers.of_grownBy happ.2.1 fun j o ej ho => h4a.cells j o ej ho)
          have h1b := Boxed.low h1a h4a happ.2.1 (by omega)
          have h2b := Boxed.low h2a h4a happ.2.1 (by omega)
          have h3b := Boxed.low h3a h4a happ.2.1 (by omega)
          have hf1 := happ.fr
          rw [← cs_one, ← cs_append] at hf1
          have c1b := h1b.cell
          have f1b := h1b.frozen
          clear happ
          gi_wp2_with fail
          refine ⟨(hko.trans (KeepsOthers.setCell _ _ _)).from _, hk1.setBox (by omega) (by omega) _, ?_⟩
          unfold OfI
          rw [HB.out, List.length_append]
          exact ⟨A', c', h1b.set _, h2b.other (by omega) _, h3b.other (by omega) _, Fr.setBox (B := w.heap.size) hf1 (by omega) _, (h5.trans hk1).setBox (by omega) (by omega) _⟩
        · have hb2 : best (pre ++ [x]) = best pre := by rw [best_snoc, stepG, if_neg hgt, if_neg heq]
          have HB := Lib.hid hb2
          clear hb2 hgt
          gi_wp2_with fail
          refine ⟨KeepsFrom.refl _ _, KeepX.refl _ _ _ _, ?_⟩
          unfold OfI
          rw [HB.out]
          exact ⟨A1, cc, h1, h2, h3, h4, h5⟩
    · rintro D zs W hD rfl ⟨A1, cc, h1, h2, h3, h4, h5⟩ hK
      have c1 := h1.cell
      have c2 := h2.cell
      have c3 := h3.cell
      have f1 := h1.frozen
      have f2 := h2.frozen
      have f3 := h3.frozen
      go_wp2_with fail
      go_region
      all_goals
        go_wp2_with fail
        refine of_end xs ys w _ A1 _ cc w.heap.size D w3.heap.size _ (lenMax h4.capMax) (Nat.le_refl _) (by omega) hD rfl (((h1.set _).other (by omega) _).other (by omega) _) (((h2.other (by omega) _).set _).other (by omega) _) (((h3.other (by omega) _).other (by omega) _).set _)
          ((((h4.setBox (by omega) _).setBox (by omega) _).setBox (by omega) _).keep ((Keep.refl _).drew)) ?_ ?_ rfl rfl rfl rfl
        · exact heap_setBox (heap_setBox (heap_setBox hK (by omega) _) (by omega) _) (by omega) _
        · exact ((((kw3.thenX h5 (Nat.le_refl _) kw3.size).setBox (by omega) _).setBox (by omega) _).setBox (by omega) _).drew
    · rintro D c pre W _ _ h _
      exact h.elim
end Go.Proofs.YtjaaganaohjmaaaGreatDoor
