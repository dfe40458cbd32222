/-
  CONTRACTS for the package frames: the reader's functions. Conditions: the reader is a block of its own, its bytes read as a list in memory that was there before.
-/
import Derived.Test.YtnjjeanbopclhaaGreatDoorFrmP
import Derived.Test.YtnjjeanbopclhaaGreatDoorNumF
import Derived.Test.YtnjjeanbopclhaaGreatDoorBut
import Derived.Deep.CutRange
import Derived.WalkSmall
namespace Go.Proofs.YtnjjeanbopclhaaGreatDoor
open Go.RowKit

/-- What panic(short{}) leaves. -/
def shortP : Ending := .panicked [{ v := .iface 136 (.agg #[]), recovered := false }]
/-- A world of which, of what was there in w, block g alone has turned, and nothing of what was there in w0. -/
structure Turn (g : Nat) (w0 w w' : World) : Prop where
  t : But (fun k => k = g) w w'
  k : Keep w0 w'
theorem Turn.trans {g : Nat} {w0 a b c : World} (h : Turn g w0 a b) (k : Turn g w0 b c) : Turn g w0 a c := ⟨h.t.trans k.t, k.k⟩
/-- The bytes that are left to the reader in block g: they lie in memory that was there at w0. -/
def Rest (w0 w : World) (g : Nat) (xs : List Int) : Prop :=
  ∃ A c, Blk w g 138 [.slice A xs.length c] ∧ Rd w0 A (cs .u8 xs) ∧ Bytes xs ∧ xs.length ≤ c ∧ Len c
theorem Rest.bytes {w0 w : World} {g : Nat} {xs : List Int} (h : Rest w0 w g xs) : Bytes xs := by
  obtain ⟨A, c, _, _, h, _⟩ := h
  exact h
theorem Rest.lt {w0 w : World} {g : Nat} {xs : List Int} (h : Rest w0 w g xs) : g < w.heap.size := by
  obtain ⟨A, c, h, _⟩ := h
  exact h.lt
theorem Rest.cut {w0 w : World} {g : Nat} {A A' : Option Addr} {c c' k n' : Nat} {xs : List Int} (bb : Blk w g 138 [.slice A xs.length c]) (rd : Rd w0 A (cs .u8 xs)) (hB : Bytes xs) (hc : xs.length ≤ c) (lc : Len c)
    (hA : c ≠ k → A' = A.map (·.add k)) (hk : c' = c - k) (hn : n' = xs.length - k) : Rest w0 (w.setCell ⟨g, 0, none⟩ (.slice A' n' c')) g (xs.drop k) := by
  subst hk hn
  have h := bb.set_ 0 (.slice A' (xs.length - k) (c - k))
  refine ⟨A', c - k, by rw [List.length_drop]; exact h, ?_, hB.drop k, by rw [List.length_drop]; omega, by unfold Len at lc ⊢; omega⟩
  rw [← cs_drop]
  exact rd.drop (cap := c) (by rw [length_cs]; exact hc) A' hA

set_option maxRecDepth 100000 in
set_option maxHeartbeats 1000000 in
/-- takes, where the bytes end too early. -/
theorem takes_no (w0 w : World) (g : Nat) (xs : List Int) (n e : Int) (h : Rest w0 w g xs) (hn : e ≠ 0 ∨ (xs.length : Int) < n) :
    Calls Tryz.prog 104 #[.pointer (some ⟨g, 0, none⟩), .int .i64 n, .int .i64 e] w fun x w' => x = shortP ∧ w = w' := by
  obtain ⟨A, c, bb, rd, hB, hc, lc⟩ := h
  have c0 := bb.cell_ (i := 0) rfl
  by_cases he : e = 0
  · have h1 : (xs.length : Int) < n := by
      rcases hn with h | h
      · exact absurd he h
      · exact h
    subst he
    clear hn
    go_enter Tryz.func104, Tryz.ntmps104
    go_wp2_with fail
    exact ⟨rfl, rfl, rfl⟩
  · have h1 : (e != 0) = true := bne_iff_ne.2 he
    clear hn he
    go_enter Tryz.func104, Tryz.ntmps104
    go_wp2_with fail
    exact ⟨rfl, rfl, rfl⟩

set_option maxRecDepth 100000 in
set_option maxHeartbeats 1000000 in
theorem takes_yes (w0 w : World) (k0 : Keep w0 w) (g : Nat) (xs : List Int) (n : Nat) (hg : w0.heap.size ≤ g) (h : Rest w0 w g xs) (hn : n ≤ xs.length) :
    Calls Tryz.prog 104 #[.pointer (some ⟨g, 0, none⟩), .int .i64 (n : Int), .int .i64 0] w fun x w' => x = .returned (.tuple #[]) ∧ Rest w0 w' g (xs.drop n) ∧ Turn g w0 w w' := by
  obtain ⟨A, c, bb, rd, hB, hc, lc⟩ := h
  have c0 := bb.cell_ (i := 0) rfl
  have f0 := bb.frozen 0
  have lc' := lc.le
  have h1 : ¬ (xs.length : Int) < n := by omega
  have fin : ∀ A' n' c', (c ≠ n → A' = A.map (·.add n)) → c' = c - n → n' = xs.length - n → Rest w0 (w.setCell ⟨g, 0, none⟩ (.slice A' n' c')) g (xs.drop n) ∧ Turn g w0 w (w.setCell ⟨g, 0, none⟩ (.slice A' n' c')) := fun A' n' c' hA hk hn' =>
    ⟨Rest.cut bb rd hB hc lc hA hk hn', ⟨(But.refl (fun k => k = g) w).setCell (p := ⟨g, 0, none⟩) rfl _, k0.setCell hg _⟩⟩
  have HF := Lib.hid fin
  clear fin rd hB bb
  go_enter Tryz.func104, Tryz.ntmps104
  go_wp2_with fail
  all_goals go_end0
  · exact ⟨rfl, HF.out _ _ _ (fun e => absurd h e) (by omega) rfl⟩
  · exact ⟨rfl, HF.out _ _ _ (fun _ => rfl) rfl rfl⟩
/-- What the reader of a number leaves. -/
def ReadN (k : Nat) (xs : List Int) (g : Nat) (w0 w : World) (e : Ending) (w' : World) : Prop :=
  match rdN k xs with
  | none => e = shortP ∧ Turn g w0 w w'
  | some q => e = .returned (.int .u64 (q.1 : Int)) ∧ Rest w0 w' g q.2 ∧ Turn g w0 w w'

set_option maxRecDepth 100000 in
set_option maxHeartbeats 2000000 in
theorem num_f (w0 w : World) (k0 : Keep w0 w) (g : Nat) (xs : List Int) (k : Nat) (hg : w0.heap.size ≤ g) (h : Rest w0 w g xs) (h1 : 1 ≤ k) (h8 : k ≤ 8) :
    Calls Tryz.prog 71 #[.pointer (some ⟨g, 0, none⟩), .int .i64 (k : Int)] w (ReadN k xs g w0 w) := by
  have hR := h
  obtain ⟨A, c, bb, rd, hB, hc, lc⟩ := h
  have c0 := bb.cell_ (i := 0) rfl
  have hq := get_f A c xs k w (rd.keep k0) hB hc lc
  unfold GetP at hq
  by_cases hl : xs.length < k
  · have e1 : getV xs k = (0, 5) := by
      unfold getV
      rw [if_neg (by omega), if_pos (by omega)]
    have e2 : rdN k xs = none := by unfold rdN; rw [if_pos hl]
    rw [e1] at hq
    have H2 := Lib.hid e2
    clear e1 e2
    go_enter Tryz.func71, Tryz.ntmps71
    go_wp2_with fail
    refine hq.mono ?_
    rintro e w1 ⟨rfl, k1⟩
    have hT := takes_no w0 w1 g xs k 5 ⟨A, c, bb.keep k1, rd, hB, hc, lc⟩ (.inl (by decide))
    clear hq c0
    go_wp2_with fail
    refine hT.mono ?_
    rintro e w2 ⟨rfl, rfl⟩
    refine ⟨rfl, ?_⟩
    unfold ReadN
    rw [H2.out]
    exact ⟨rfl, But.keep k1 _, k0.trans k1⟩
  · have e1 : getV xs k = (val (xs.take k), 0) := by
      unfold getV
      rw [if_neg (by omega), if_neg (by omega)]
      rfl
    have e2 : rdN k xs = some (val (xs.take k), xs.drop k) := by unfold rdN; rw [if_neg hl]
    rw [e1] at hq
    have H2 := Lib.hid e2
    clear e1 e2
    generalize val (xs.take k) = v at hq H2
    go_enter Tryz.func71, Tryz.ntmps71
    go_wp2_with fail
    refine hq.mono ?_
    rintro e w1 ⟨rfl, k1⟩
    have hT := takes_yes w0 w1 (k0.trans k1) g xs k hg ⟨A, c, bb.keep k1, rd, hB, hc, lc⟩ (by omega)
    clear hq c0
    go_wp2_with fail
    refine hT.mono ?_
    rintro e w2 ⟨rfl, hr, ht⟩
    go_wp2_with fail
    go_ret
    unfold ReadN
    rw [H2.out]
    exact ⟨rfl, hr, ⟨(But.keep k1 _).trans ht.t, ht.k⟩⟩

/-- What the reader of a list leaves. -/
def ReadL (xs : List Int) (g : Nat) (w0 w : World) (e : Ending) (w' : World) : Prop :=
  match rdL xs with
  | none => e = shortP ∧ Turn g w0 w w'
  | some q => ∃ A, e = .returned (.slice A q.1.length q.1.length) ∧ Fr 3 w' w.heap.size A q.1.length q.1.length (cs .i64 q.1) ∧ Rest w0 w' g q.2 ∧ Turn g w0 w w'

set_option maxRecDepth 100000 in
set_option maxHeartbeats 2000000 in
theorem list21_f (w0 w : World) (k0 : Keep w0 w) (g : Nat) (xs : List Int) (hg : w0.heap.size ≤ g) (h : Rest w0 w g xs) :
    Calls Tryz.prog 73 #[.pointer (some ⟨g, 0, none⟩)] w (ReadL xs g w0 w) := by
  obtain ⟨A, c, bb, rd, hB, hc, lc⟩ := h
  have c0 := bb.cell_ (i := 0) rfl
  have hq := getList_f A c xs w (rd.keep k0) hB hc lc
  unfold GetLP at hq
  cases hx : getL xs with
  | none =>
    have e2 : rdL xs = none := by unfold rdL; rw [hx]
    rw [hx] at hq
    have H2 := Lib.hid e2
    clear hx e2
    go_enter Tryz.func73, Tryz.ntmps73
    go_wp2_with fail
    refine hq.mono ?_
    rintro e w1 ⟨rfl, k1⟩
    have hT := takes_no w0 w1 g xs 0 5 ⟨A, c, bb.keep k1, rd, hB, hc, lc⟩ (.inl (by decide))
    clear hq c0
    go_wp2_with fail
    refine hT.mono ?_
    rintro e w2 ⟨rfl, rfl⟩
    refine ⟨rfl, ?_⟩
    unfold ReadL
    rw [H2.out]
    exact ⟨rfl, But.keep k1 _, k0.trans k1⟩
  | some zs =>
    have e2 : rdL xs = some (zs, xs.drop (1 + 4 * zs.length)) := by unfold rdL; rw [hx]
    have hlen : 1 + 4 * zs.length ≤ xs.length := (getL_some hB hx).2.1
    rw [hx] at hq
    have H2 := Lib.hid e2
    clear hx e2
    go_enter Tryz.func73, Tryz.ntmps73
    go_wp2_with fail
    refine hq.mono ?_
    rintro e w1 ⟨A', rfl, hf, k1⟩
    have hT := takes_yes w0 w1 (k0.trans k1) g xs (1 + 4 * zs.length) hg ⟨A, c, bb.keep k1, rd, hB, hc, lc⟩ hlen
    have hgl := bb.lt
    clear hq c0 hlen
    go_wp2_with fail
    refine hT.mono ?_
    rintro e w2 ⟨rfl, hr, ht⟩
    go_wp2_with fail
    go_ret
    unfold ReadL
    rw [H2.out]
    refine ⟨A', rfl, hf.but ht.t (fun k hk => ?_), hr, ⟨(But.keep k1 _).trans ht.t, ht.k⟩⟩
    have := (hf.own_ge hk).1
    omega

/-- What the reader of bytes leaves. -/
def ReadB (xs : List Int) (g : Nat) (w0 w : World) (e : Ending) (w' : World) : Prop :=
  match rdB xs with
  | none => e = shortP ∧ Turn g w0 w w'
  | some q => ∃ A, e = .returned (.slice A q.1.length q.1.length) ∧ Fr 5 w' w.heap.size A q.1.length q.1.length (cs .u8 q.1) ∧ Rest w0 w' g q.2 ∧ Turn g w0 w w'

set_option maxRecDepth 100000 in
set_option maxHeartbeats 2000000 in
theorem bytes21_f (w0 w : World) (k0 : Keep w0 w) (g : Nat) (xs : List Int) (hg : w0.heap.size ≤ g) (h : Rest w0 w g xs) :
    Calls Tryz.prog 72 #[.pointer (some ⟨g, 0, none⟩)] w (ReadB xs g w0 w) := by
  obtain ⟨A, c, bb, rd, hB, hc, lc⟩ := h
  have c0 := bb.cell_ (i := 0) rfl
  have hq := getBytes_f A c xs w (rd.keep k0) hB hc lc
  unfold GetByP at hq
  cases hx : getBy xs with
  | none =>
    have e2 : rdB xs = none := by unfold rdB; rw [hx]
    rw [hx] at hq
    have H2 := Lib.hid e2
    clear hx e2
    go_enter Tryz.func72, Tryz.ntmps72
    go_wp2_with fail
    refine hq.mono ?_
    rintro e w1 ⟨rfl, k1⟩
    have hT := takes_no w0 w1 g xs 0 5 ⟨A, c, bb.keep k1, rd, hB, hc, lc⟩ (.inl (by decide))
    clear hq c0
    go_wp2_with fail
    refine hT.mono ?_
    rintro e w2 ⟨rfl, rfl⟩
    refine ⟨rfl, ?_⟩
    unfold ReadB
    rw [H2.out]
    exact ⟨rfl, But.keep k1 _, k0.trans k1⟩
  | some zs =>
    have e2 : rdB xs = some (zs, xs.drop (2 + zs.length)) := by unfold rdB; rw [hx]
    have hlen : 2 + zs.length ≤ xs.length := (getBy_some hB hx).2.1
    rw [hx] at hq
    have H2 := Lib.hid e2
    clear hx e2
    go_enter Tryz.func72, Tryz.ntmps72
    go_wp2_with fail
    refine hq.mono ?_
    rintro e w1 ⟨A', rfl, hf, k1⟩
    have hT := takes_yes w0 w1 (k0.trans k1) g xs (2 + zs.length) hg ⟨A, c, bb.keep k1, rd, hB, hc, lc⟩ hlen
    have hgl := bb.lt
    clear hq c0 hlen
    go_wp2_with fail
    refine hT.mono ?_
    rintro e w2 ⟨rfl, hr, ht⟩
    go_wp2_with fail
    go_ret
    unfold ReadB
    rw [H2.out]
    refine ⟨A', rfl, hf.but ht.t (fun k hk => ?_), hr, ⟨(But.keep k1 _).trans ht.t, ht.k⟩⟩
    have := (hf.own_ge hk).1
    omega
end Go.Proofs.YtnjjeanbopclhaaGreatDoor
