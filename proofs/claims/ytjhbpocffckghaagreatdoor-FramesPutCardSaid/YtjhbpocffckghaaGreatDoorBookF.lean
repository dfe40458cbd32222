/-
  CONTRACT of the laws' Book: Apart answers true where the lists of bytes and of ints that it holds lie in rows apart, of the call's own. Conditions: those that the theorem states.
-/
import Derived.Test.YtjhbpocffckghaaGreatDoorBookE
namespace Go.Proofs.YtjhbpocffckghaaGreatDoor
open Go.RowKit

def nilV : Value := .slice none 0 0
section
variable {w : World} {b b' n c g : Nat} {e e' t : TypeId} {A : Option Addr} {vs l : List Value} {v v' : Value} {hs hs' : List Hd}
theorem Fr.off (h : Fr e w b A n c vs) (hf : ∀ x ∈ hs, ∃ us, Fr e' w b' x.a x.n x.c us) (hne : e ≠ e') : ∀ k, ownB A c = some k → ¬ Own hs k := by
  rintro k hk ⟨x, hx, ho⟩
  obtain ⟨us, hu⟩ := hf x hx
  obtain ⟨_, _, _, h4 | ⟨g, cur, e1, _, hg, _⟩⟩ := hu
  · simp [ownB, h4] at ho
  · rw [e1] at ho
    unfold ownB at ho
    split at ho
    · cases ho
    · simp at ho
      exact h.own_ne hg hne k hk ho
theorem Fr.offRow (h : Fr e w b A n c vs) (hr : HRow w b' t v hs) (hne : e ≠ t) : ∀ k, ownB A c = some k → v.ownBlock ≠ some k := by
  intro k hk hv
  obtain ⟨cur, hc⟩ := hr.cur hv
  exact h.own_ne hc hne k hk rfl
theorem HRow.offRow (h : HRow w b e v hs) (h' : HRow w b' e' v' hs') (hne : e ≠ e') : ∀ k, v.ownBlock = some k → v'.ownBlock ≠ some k := by
  intro k hk hv
  obtain ⟨cur, hc⟩ := h.cur hk
  obtain ⟨cur', hc'⟩ := h'.cur hv
  rw [hc] at hc'
  injection hc' with hc'
  injection hc' with _ ht
  exact hne ht
theorem Blk.offOwn (h : Blk w g t l) (hf : ∀ x ∈ hs, ∃ us, Fr e' w b' x.a x.n x.c us) (hne : e' ≠ t) : ¬ Own hs g := by
  rintro ⟨x, hx, ho⟩
  obtain ⟨us, hu⟩ := hf x hx
  exact hu.own_ne h hne g ho rfl
theorem Blk.offRow (h : Blk w g t l) (hr : HRow w b' e v hs) (hne : e ≠ t) : v.ownBlock ≠ some g := by
  intro hv
  obtain ⟨cur, hc⟩ := hr.cur hv
  unfold Blk at h
  rw [hc] at h
  injection h with h
  injection h with _ ht
  exact hne ht
theorem own_ge_of (hf : ∀ x ∈ hs, ∃ us, Fr e' w b x.a x.n x.c us) : ∀ k, Own hs k → b ≤ k := by
  rintro k ⟨x, hx, ho⟩
  obtain ⟨us, hu⟩ := hf x hx
  exact (hu.own_ge ho).1
theorem HRow.own_ge (h : HRow w b e v hs) : ∀ k, v.ownBlock = some k → b ≤ k := by
  intro k hk
  obtain ⟨h1, ⟨rfl, h2⟩ | ⟨g, cap, cur, rfl, hg, r⟩⟩ := h
  · cases hk
  · cases hk
    exact hg
end

/-- The Book in memory: its count n; what it holds of bytes, of ints; nothing else. -/
structure Bk (w : World) (base g n : Nat) (hb hi : List Hd) (vb vi : Value) : Prop where
  b : Blk w g 49 [.int .i64 n, vb, vi, nilV, nilV, nilV, nilV, nilV, nilV, nilV]
  rb : HRow w base 89 vb hb
  ri : HRow w base 92 vi hi
  g : base ≤ g
/-- What it holds lies in rows apart, of the call's own. -/
structure Holds (w : World) (base : Nat) (hb hi : List Hd) : Prop where
  fb : ∀ h ∈ hb, ∃ us, Fr 5 w base h.a h.n h.c us
  fi : ∀ h ∈ hi, ∃ us, Fr 3 w base h.a h.n h.c us
  pb : Aparts hb
  pi : Aparts hi
  mb : ∀ h ∈ hb, h.m < 100000 ∧ h.n ≤ 1000000
  mi : ∀ h ∈ hi, h.m < 100000 ∧ h.n ≤ 1000000
  lb : hb.length ≤ 10000
  li : hi.length ≤ 10000
theorem Bk.keep {w w' : World} {base g n : Nat} {hb hi : List Hd} {vb vi : Value} (h : Bk w base g n hb hi vb vi) (hk : Keep w w') : Bk w' base g n hb hi vb vi := ⟨h.b.keep hk, h.rb.keep hk, h.ri.keep hk, h.g⟩
theorem Bk.cell {w : World} {base g n : Nat} {hb hi : List Hd} {vb vi : Value} (h : Bk w base g n hb hi vb vi) {i : Nat} (h2 : 2 < i) (h9 : i < 10) : w.cell? ⟨g, i, none⟩ = some (.slice none 0 0) := by
  refine h.b.cell_ ?_
  match i, h2, h9 with
  | 3, _, _ => rfl
  | 4, _, _ => rfl
  | 5, _, _ => rfl
  | 6, _, _ => rfl
  | 7, _, _ => rfl
  | 8, _, _ => rfl
  | 9, _, _ => rfl

set_option maxRecDepth 100000 in
set_option maxHeartbeats 4000000 in
theorem apart_f (g n base : Nat) (hb hi : List Hd) (vb vi : Value) (w : World) (hk : Bk w base g n hb hi vb vi) (hh : Holds w base hb hi) :
    Calls Tryz.prog 18 #[pK g] w fun e w' => e = .returned (.bool true) ∧ But (fun q => base ≤ q) w w' := by
  have hbs : base ≤ w.heap.size := Nat.le_trans hk.g (Nat.le_of_lt hk.b.lt)
  have mb1 : ∀ h ∈ hb, h.m < 100000 := fun h x => (hh.mb h x).1
  have mi1 : ∀ h ∈ hi, h.m < 100000 := fun h x => (hh.mi h x).1
  have mb2 : ∀ h ∈ hb, h.n ≤ 1000000 := fun h x => (hh.mb h x).2
  have mi2 : ∀ h ∈ hi, h.n ≤ 1000000 := fun h x => (hh.mi h x).2
  have c1 := fillByte_f g vb hb w base (hk.b.cell_ rfl) hk.rb hh.fb hh.pb mb1 (hk.b.offOwn hh.fb (by decide)) hh.lb
  unfold pK at c1 ⊢
  go_enter Tryz.func18, Tryz.ntmps18
  go_wp2_with fail
  refine c1.mono ?_
  rintro e w1 ⟨rfl, t1, fb1⟩
  clear c1
  have hB1 : But (fun q => base ≤ q) w w1 := t1.mono (own_ge_of hh.fb)
  have hk1 : Bk w1 base g n hb hi vb vi := ⟨hk.b.but t1 (hk.b.offOwn hh.fb (by decide)), hk.rb.but t1 (hk.rb.notOwn hh.fb (by decide)), hk.ri.but t1 (hk.ri.notOwn hh.fb (by decide)), hk.g⟩
  have fi1 : ∀ h ∈ hi, ∃ us, Fr 3 w1 base h.a h.n h.c us := fun h x => by
    obtain ⟨us, hu⟩ := hh.fi h x
    exact ⟨us, hu.but t1 (hu.off hh.fb (by decide))⟩
  have c2 := fillInt_f g vi hi w1 base (hk1.b.cell_ rfl) hk1.ri fi1 hh.pi mi1 (hk1.b.offOwn fi1 (by decide)) hh.li
  unfold pK at c2
  go_wp2_with fail
  refine c2.mono ?_
  rintro e w2 ⟨rfl, t2, fi2⟩
  clear c2
  have hB2 : But (fun q => base ≤ q) w w2 := hB1.trans (t2.mono (own_ge_of fi1))
  have hk2 : Bk w2 base g n hb hi vb vi := ⟨hk1.b.but t2 (hk1.b.offOwn fi1 (by decide)), hk1.rb.but t2 (hk1.rb.notOwn fi1 (by decide)), hk1.ri.but t2 (hk1.ri.notOwn fi1 (by decide)), hk.g⟩
  have fb2 : ∀ h ∈ hb, Fr 5 w2 base h.a h.n h.c (List.replicate h.n (.int .u8 (mk8 h.m))) := fun h x => (fb1 h x).but t2 ((fb1 h x).off fi1 (by decide))
  clear t1 t2 fb1 fi1 hB1 hk1
  have c3 := fillText_no g w2 (hk2.cell (i := 3) (by decide) (by decide))
  unfold pK at c3
  go_wp2_with fail
  refine c3.mono ?_
  rintro e w3 ⟨rfl, kq⟩
  clear c3
  have hk3 := hk2.keep kq
  have hB3 := hB2.trans (But.keep kq _)
  have fb3 := fun h x => (fb2 h x).keep kq
  have fi3 := fun h x => (fi2 h x).keep kq
  clear kq hk2 hB2 fb2 fi2
  have c3 := fillIntList_no g w3 (hk3.cell (i := 4) (by decide) (by decide))
  unfold pK at c3
  go_wp2_with fail
  refine c3.mono ?_
  rintro e w4 ⟨rfl, kq⟩
  clear c3
  have hk4 := hk3.keep kq
  have hB4 := hB3.trans (But.keep kq _)
  have fb4 := fun h x => (fb3 h x).keep kq
  have fi4 := fun h x => (fi3 h x).keep kq
  clear kq hk3 hB3 fb3 fi3
  have c3 := fillByteList_no g w4 (hk4.cell (i := 5) (by decide) (by decide))
  unfold pK at c3
  go_wp2_with fail
  refine c3.mono ?_
  rintro e w5 ⟨rfl, kq⟩
  clear c3
  have hk5 := hk4.keep kq
  have hB5 := hB4.trans (But.keep kq _)
  have fb5 := fun h x => (fb4 h x).keep kq
  have fi5 := fun h x => (fi4 h x).keep kq
  clear kq hk4 hB4 fb4 fi4
  have c3 := fillWhy_no g w5 (hk5.cell (i := 6) (by decide) (by decide))
  unfold pK at c3
  go_wp2_with fail
  refine c3.mono ?_
  rintro e w6 ⟨rfl, kq⟩
  clear c3
  have hk6 := hk5.keep kq
  have hB6 := hB5.trans (But.keep kq _)
  have fb6 := fun h x => (fb5 h x).keep kq
  have fi6 := fun h x => (fi5 h x).keep kq
  clear kq hk5 hB5 fb5 fi5
  have c3 := fillFrame_no g w6 (hk6.cell (i := 7) (by decide) (by decide))
  unfold pK at c3
  go_wp2_with fail
  refine c3.mono ?_
  rintro e w7 ⟨rfl, kq⟩
  clear c3
  have hk7 := hk6.keep kq
  have hB7 := hB6.trans (But.keep kq _)
  have fb7 := fun h x => (fb6 h x).keep kq
  have fi7 := fun h x => (fi6 h x).keep kq
  clear kq hk6 hB6 fb6 fi6
  have c3 := fillReply_no g w7 (hk7.cell (i := 8) (by decide) (by decide))
  unfold pK at c3
  go_wp2_with fail
  refine c3.mono ?_
  rintro e w8 ⟨rfl, kq⟩
  clear c3
  have hk8 := hk7.keep kq
  have hB8 := hB7.trans (But.keep kq _)
  have fb8 := fun h x => (fb7 h x).keep kq
  have fi8 := fun h x => (fi7 h x).keep kq
  clear kq hk7 hB7 fb7 fi7
  have c3 := fillRecord_no g w8 (hk8.cell (i := 9) (by decide) (by decide))
  unfold pK at c3
  go_wp2_with fail
  refine c3.mono ?_
  rintro e w9 ⟨rfl, kq⟩
  clear c3
  have hk9 := hk8.keep kq
  have hB9 := hB8.trans (But.keep kq _)
  have fb9 := fun h x => (fb8 h x).keep kq
  have fi9 := fun h x => (fi8 h x).keep kq
  clear kq hk8 hB8 fb8 fi8
  have xb : ∀ h ∈ hb, ∃ us, Fr 5 w9 base h.a h.n h.c us := fun h x => ⟨_, fb9 h x⟩
  have xi : ∀ h ∈ hi, ∃ us, Fr 3 w9 base h.a h.n h.c us := fun h x => ⟨_, fi9 h x⟩
  have c4 := growByte_f g vb hb w9 base (hk9.b.cell_ rfl) hk9.rb fb9 hh.pb mb1 mb2 (hk9.b.offOwn xb (by decide)) (hk9.b.offRow hk9.rb (by decide)) hh.lb (Nat.le_trans hbs hB9.size)
  unfold pK at c4
  go_wp2_with fail
  refine c4.mono ?_
  rintro e w10 ⟨rfl, t3, hb', lb', rb', fb'⟩
  clear c4
  have hB10 : But (fun q => base ≤ q) w w10 := hB9.trans (t3.mono fun q hq => hq.elim (own_ge_of xb q) (hk9.rb.own_ge q))
  have hk10 : Bk w10 base g n hb' hi vb vi := ⟨hk9.b.but t3 (fun h => h.elim (hk9.b.offOwn xb (by decide)) (hk9.b.offRow hk9.rb (by decide))), rb', hk9.ri.but t3 (fun k e h => h.elim (hk9.ri.notOwn xb (by decide) k e) (hk9.ri.offRow hk9.rb (by decide) k e)), hk.g⟩
  have fi10 : ∀ h ∈ hi, Fr 3 w10 base h.a h.n h.c (List.replicate h.n (.int .i64 (-((h.m : Nat) : Int)))) := fun h x => (fi9 h x).but t3 (fun k e h' => h'.elim ((fi9 h x).off xb (by decide) k e) ((fi9 h x).offRow hk9.rb (by decide) k e))
  have fo10 : ∀ h ∈ hb', h.ln = h.n + 40 ∧ Fr 5 w10 base h.a h.n h.c (List.replicate h.n (.int .u8 (mk8 h.m))) ∧ Fr 5 w10 base h.la h.ln h.lc (List.replicate (h.n + 40) (.int .u8 (mk8 h.m))) ∧ h.m < 100000 ∧ h.n ≤ 1000000 := fun h x => by
    obtain ⟨j, hj⟩ := List.getElem?_of_mem x
    obtain ⟨h0, h1, h2, h3, h4, h5⟩ := fb' j h hj
    exact ⟨h4, h3, h5, by rw [h2.2.2.2]; exact mb1 h0 (List.mem_of_getElem? h1), by rw [h2.2.2.1]; exact mb2 h0 (List.mem_of_getElem? h1)⟩
  clear t3 xb xi fb' rb' fi9 fb9 hk9 hB9
  have xi : ∀ h ∈ hi, ∃ us, Fr 3 w10 base h.a h.n h.c us := fun h x => ⟨_, fi10 h x⟩
  have c4 := growInt_f g vi hi w10 base (hk10.b.cell_ rfl) hk10.ri fi10 hh.pi mi1 mi2 (hk10.b.offOwn xi (by decide)) (hk10.b.offRow hk10.ri (by decide)) hh.li (Nat.le_trans hbs hB10.size)
  unfold pK at c4
  go_wp2_with fail
  refine c4.mono ?_
  rintro e w11 ⟨rfl, t3, hi', li', ri', fi'⟩
  clear c4
  have hB11 : But (fun q => base ≤ q) w w11 := hB10.trans (t3.mono fun q hq => hq.elim (own_ge_of xi q) (hk10.ri.own_ge q))
  have hk11 : Bk w11 base g n hb' hi' vb vi := ⟨hk10.b.but t3 (fun h => h.elim (hk10.b.offOwn xi (by decide)) (hk10.b.offRow hk10.ri (by decide))), hk10.rb.but t3 (fun k e h => h.elim (hk10.rb.notOwn xi (by decide) k e) (hk10.rb.offRow hk10.ri (by decide) k e)), ri', hk.g⟩
  have fo11 : ∀ h ∈ hb', h.ln = h.n + 40 ∧ Fr 5 w11 base h.a h.n h.c (List.replicate h.n (.int .u8 (mk8 h.m))) ∧ Fr 5 w11 base h.la h.ln h.lc (List.replicate (h.n + 40) (.int .u8 (mk8 h.m))) ∧ h.m < 100000 ∧ h.n ≤ 1000000 := fun h x => by
    obtain ⟨h1, h2, h3, h4⟩ := fo10 h x
    exact ⟨h1, h2.but t3 (fun k e h' => h'.elim (h2.off xi (by decide) k e) (h2.offRow hk10.ri (by decide) k e)), h3.but t3 (fun k e h' => h'.elim (h3.off xi (by decide) k e) (h3.offRow hk10.ri (by decide) k e)), h4⟩
  have fp11 : ∀ h ∈ hi', h.ln = h.n + 40 ∧ Fr 3 w11 base h.a h.n h.c (List.replicate h.n (.int .i64 (-((h.m : Nat) : Int)))) ∧ Fr 3 w11 base h.la h.ln h.lc (List.replicate (h.n + 40) (.int .i64 (-((h.m : Nat) : Int)))) ∧ h.m < 100000 ∧ h.n ≤ 1000000 := fun h x => by
    obtain ⟨j, hj⟩ := List.getElem?_of_mem x
    obtain ⟨h0, h1, h2, h3, h4, h5⟩ := fi' j h hj
    exact ⟨h4, h3, h5, by rw [h2.2.2.2]; exact mi1 h0 (List.mem_of_getElem? h1), by rw [h2.2.2.1]; exact mi2 h0 (List.mem_of_getElem? h1)⟩
  clear t3 xi fi' ri' fi10 fo10 hk10 hB10
  have c3 := growText_no g w11 (hk11.cell (i := 3) (by decide) (by decide))
  unfold pK at c3
  go_wp2_with fail
  refine c3.mono ?_
  rintro e w12 ⟨rfl, kq⟩
  clear c3
  have hk12 := hk11.keep kq
  have hB12 := hB11.trans (But.keep kq _)
  have fo12 := fun h x => (⟨(fo11 h x).1, (fo11 h x).2.1.keep kq, (fo11 h x).2.2.1.keep kq, (fo11 h x).2.2.2⟩ : _ ∧ _ ∧ _ ∧ _)
  have fp12 := fun h x => (⟨(fp11 h x).1, (fp11 h x).2.1.keep kq, (fp11 h x).2.2.1.keep kq, (fp11 h x).2.2.2⟩ : _ ∧ _ ∧ _ ∧ _)
  clear kq hk11 hB11 fo11 fp11
  have c3 := growIntList_no g w12 (hk12.cell (i := 4) (by decide) (by decide))
  unfold pK at c3
  go_wp2_with fail
  refine c3.mono ?_
  rintro e w13 ⟨rfl, kq⟩
  clear c3
  have hk13 := hk12.keep kq
  have hB13 := hB12.trans (But.keep kq _)
  have fo13 := fun h x => (⟨(fo12 h x).1, (fo12 h x).2.1.keep kq, (fo12 h x).2.2.1.keep kq, (fo12 h x).2.2.2⟩ : _ ∧ _ ∧ _ ∧ _)
  have fp13 := fun h x => (⟨(fp12 h x).1, (fp12 h x).2.1.keep kq, (fp12 h x).2.2.1.keep kq, (fp12 h x).2.2.2⟩ : _ ∧ _ ∧ _ ∧ _)
  clear kq hk12 hB12 fo12 fp12
  have c3 := growByteList_no g w13 (hk13.cell (i := 5) (by decide) (by decide))
  unfold pK at c3
  go_wp2_with fail
  refine c3.mono ?_
  rintro e w14 ⟨rfl, kq⟩
  clear c3
  have hk14 := hk13.keep kq
  have hB14 := hB13.trans (But.keep kq _)
  have fo14 := fun h x => (⟨(fo13 h x).1, (fo13 h x).2.1.keep kq, (fo13 h x).2.2.1.keep kq, (fo13 h x).2.2.2⟩ : _ ∧ _ ∧ _ ∧ _)
  have fp14 := fun h x => (⟨(fp13 h x).1, (fp13 h x).2.1.keep kq, (fp13 h x).2.2.1.keep kq, (fp13 h x).2.2.2⟩ : _ ∧ _ ∧ _ ∧ _)
  clear kq hk13 hB13 fo13 fp13
  have c3 := growWhy_no g w14 (hk14.cell (i := 6) (by decide) (by decide))
  unfold pK at c3
  go_wp2_with fail
  refine c3.mono ?_
  rintro e w15 ⟨rfl, kq⟩
  clear c3
  have hk15 := hk14.keep kq
  have hB15 := hB14.trans (But.keep kq _)
  have fo15 := fun h x => (⟨(fo14 h x).1, (fo14 h x).2.1.keep kq, (fo14 h x).2.2.1.keep kq, (fo14 h x).2.2.2⟩ : _ ∧ _ ∧ _ ∧ _)
  have fp15 := fun h x => (⟨(fp14 h x).1, (fp14 h x).2.1.keep kq, (fp14 h x).2.2.1.keep kq, (fp14 h x).2.2.2⟩ : _ ∧ _ ∧ _ ∧ _)
  clear kq hk14 hB14 fo14 fp14
  have c3 := growFrame_no g w15 (hk15.cell (i := 7) (by decide) (by decide))
  unfold pK at c3
  go_wp2_with fail
  refine c3.mono ?_
  rintro e w16 ⟨rfl, kq⟩
  clear c3
  have hk16 := hk15.keep kq
  have hB16 := hB15.trans (But.keep kq _)
  have fo16 := fun h x => (⟨(fo15 h x).1, (fo15 h x).2.1.keep kq, (fo15 h x).2.2.1.keep kq, (fo15 h x).2.2.2⟩ : _ ∧ _ ∧ _ ∧ _)
  have fp16 := fun h x => (⟨(fp15 h x).1, (fp15 h x).2.1.keep kq, (fp15 h x).2.2.1.keep kq, (fp15 h x).2.2.2⟩ : _ ∧ _ ∧ _ ∧ _)
  clear kq hk15 hB15 fo15 fp15
  have c3 := growReply_no g w16 (hk16.cell (i := 8) (by decide) (by decide))
  unfold pK at c3
  go_wp2_with fail
  refine c3.mono ?_
  rintro e w17 ⟨rfl, kq⟩
  clear c3
  have hk17 := hk16.keep kq
  have hB17 := hB16.trans (But.keep kq _)
  have fo17 := fun h x => (⟨(fo16 h x).1, (fo16 h x).2.1.keep kq, (fo16 h x).2.2.1.keep kq, (fo16 h x).2.2.2⟩ : _ ∧ _ ∧ _ ∧ _)
  have fp17 := fun h x => (⟨(fp16 h x).1, (fp16 h x).2.1.keep kq, (fp16 h x).2.2.1.keep kq, (fp16 h x).2.2.2⟩ : _ ∧ _ ∧ _ ∧ _)
  clear kq hk16 hB16 fo16 fp16
  have c3 := growRecord_no g w17 (hk17.cell (i := 9) (by decide) (by decide))
  unfold pK at c3
  go_wp2_with fail
  refine c3.mono ?_
  rintro e w18 ⟨rfl, kq⟩
  clear c3
  have hk18 := hk17.keep kq
  have hB18 := hB17.trans (But.keep kq _)
  have fo18 := fun h x => (⟨(fo17 h x).1, (fo17 h x).2.1.keep kq, (fo17 h x).2.2.1.keep kq, (fo17 h x).2.2.2⟩ : _ ∧ _ ∧ _ ∧ _)
  have fp18 := fun h x => (⟨(fp17 h x).1, (fp17 h x).2.1.keep kq, (fp17 h x).2.2.1.keep kq, (fp17 h x).2.2.2⟩ : _ ∧ _ ∧ _ ∧ _)
  clear kq hk17 hB17 fo17 fp17
  have c5 := lookByte_f g vb hb' w18 base (hk18.b.cell_ rfl) hk18.rb (fun h x => ⟨(fo18 h x).1, (fo18 h x).2.2.1.rd, (fo18 h x).2.1.rd, (fo18 h x).2.2.2⟩) (by rw [lb']; exact hh.lb)
  unfold pK at c5
  go_wp2_with fail
  refine c5.mono ?_
  rintro e w19 ⟨rfl, kq⟩
  clear c5
  have hk19 := hk18.keep kq
  have hB19 := hB18.trans (But.keep kq _)
  have fo19 := fun h x => (⟨(fo18 h x).1, (fo18 h x).2.1.keep kq, (fo18 h x).2.2.1.keep kq, (fo18 h x).2.2.2⟩ : _ ∧ _ ∧ _ ∧ _)
  have fp19 := fun h x => (⟨(fp18 h x).1, (fp18 h x).2.1.keep kq, (fp18 h x).2.2.1.keep kq, (fp18 h x).2.2.2⟩ : _ ∧ _ ∧ _ ∧ _)
  clear kq hk18 hB18 fo18 fp18
  have c5 := lookInt_f g vi hi' w19 base (hk19.b.cell_ rfl) hk19.ri (fun h x => ⟨(fp19 h x).1, (fp19 h x).2.2.1.rd, (fp19 h x).2.1.rd, (fp19 h x).2.2.2⟩) (by rw [li']; exact hh.li)
  unfold pK at c5
  go_wp2_with fail
  refine c5.mono ?_
  rintro e w20 ⟨rfl, kq⟩
  clear c5
  have hk20 := hk19.keep kq
  have hB20 := hB19.trans (But.keep kq _)
  have fo20 := fun h x => (⟨(fo19 h x).1, (fo19 h x).2.1.keep kq, (fo19 h x).2.2.1.keep kq, (fo19 h x).2.2.2⟩ : _ ∧ _ ∧ _ ∧ _)
  have fp20 := fun h x => (⟨(fp19 h x).1, (fp19 h x).2.1.keep kq, (fp19 h x).2.2.1.keep kq, (fp19 h x).2.2.2⟩ : _ ∧ _ ∧ _ ∧ _)
  clear kq hk19 hB19 fo19 fp19
  have c5 := lookText_no g w20 (hk20.cell (i := 3) (by decide) (by decide))
  unfold pK at c5
  go_wp2_with fail
  refine c5.mono ?_
  rintro e w21 ⟨rfl, kq⟩
  clear c5
  have hk21 := hk20.keep kq
  have hB21 := hB20.trans (But.keep kq _)
  have fo21 := fun h x => (⟨(fo20 h x).1, (fo20 h x).2.1.keep kq, (fo20 h x).2.2.1.keep kq, (fo20 h x).2.2.2⟩ : _ ∧ _ ∧ _ ∧ _)
  have fp21 := fun h x => (⟨(fp20 h x).1, (fp20 h x).2.1.keep kq, (fp20 h x).2.2.1.keep kq, (fp20 h x).2.2.2⟩ : _ ∧ _ ∧ _ ∧ _)
  clear kq hk20 hB20 fo20 fp20
  have c5 := lookIntList_no g w21 (hk21.cell (i := 4) (by decide) (by decide))
  unfold pK at c5
  go_wp2_with fail
  refine c5.mono ?_
  rintro e w22 ⟨rfl, kq⟩
  clear c5
  have hk22 := hk21.keep kq
  have hB22 := hB21.trans (But.keep kq _)
  have fo22 := fun h x => (⟨(fo21 h x).1, (fo21 h x).2.1.keep kq, (fo21 h x).2.2.1.keep kq, (fo21 h x).2.2.2⟩ : _ ∧ _ ∧ _ ∧ _)
  have fp22 := fun h x => (⟨(fp21 h x).1, (fp21 h x).2.1.keep kq, (fp21 h x).2.2.1.keep kq, (fp21 h x).2.2.2⟩ : _ ∧ _ ∧ _ ∧ _)
  clear kq hk21 hB21 fo21 fp21
  have c5 := lookByteList_no g w22 (hk22.cell (i := 5) (by decide) (by decide))
  unfold pK at c5
  go_wp2_with fail
  refine c5.mono ?_
  rintro e w23 ⟨rfl, kq⟩
  clear c5
  have hk23 := hk22.keep kq
  have hB23 := hB22.trans (But.keep kq _)
  have fo23 := fun h x => (⟨(fo22 h x).1, (fo22 h x).2.1.keep kq, (fo22 h x).2.2.1.keep kq, (fo22 h x).2.2.2⟩ : _ ∧ _ ∧ _ ∧ _)
  have fp23 := fun h x => (⟨(fp22 h x).1, (fp22 h x).2.1.keep kq, (fp22 h x).2.2.1.keep kq, (fp22 h x).2.2.2⟩ : _ ∧ _ ∧ _ ∧ _)
  clear kq hk22 hB22 fo22 fp22
  have c5 := lookWhy_no g w23 (hk23.cell (i := 6) (by decide) (by decide))
  unfold pK at c5
  go_wp2_with fail
  refine c5.mono ?_
  rintro e w24 ⟨rfl, kq⟩
  clear c5
  have hk24 := hk23.keep kq
  have hB24 := hB23.trans (But.keep kq _)
  have fo24 := fun h x => (⟨(fo23 h x).1, (fo23 h x).2.1.keep kq, (fo23 h x).2.2.1.keep kq, (fo23 h x).2.2.2⟩ : _ ∧ _ ∧ _ ∧ _)
  have fp24 := fun h x => (⟨(fp23 h x).1, (fp23 h x).2.1.keep kq, (fp23 h x).2.2.1.keep kq, (fp23 h x).2.2.2⟩ : _ ∧ _ ∧ _ ∧ _)
  clear kq hk23 hB23 fo23 fp23
  have c5 := lookFrame_no g w24 (hk24.cell (i := 7) (by decide) (by decide))
  unfold pK at c5
  go_wp2_with fail
  refine c5.mono ?_
  rintro e w25 ⟨rfl, kq⟩
  clear c5
  have hk25 := hk24.keep kq
  have hB25 := hB24.trans (But.keep kq _)
  have fo25 := fun h x => (⟨(fo24 h x).1, (fo24 h x).2.1.keep kq, (fo24 h x).2.2.1.keep kq, (fo24 h x).2.2.2⟩ : _ ∧ _ ∧ _ ∧ _)
  have fp25 := fun h x => (⟨(fp24 h x).1, (fp24 h x).2.1.keep kq, (fp24 h x).2.2.1.keep kq, (fp24 h x).2.2.2⟩ : _ ∧ _ ∧ _ ∧ _)
  clear kq hk24 hB24 fo24 fp24
  have c5 := lookReply_no g w25 (hk25.cell (i := 8) (by decide) (by decide))
  unfold pK at c5
  go_wp2_with fail
  refine c5.mono ?_
  rintro e w26 ⟨rfl, kq⟩
  clear c5
  have hk26 := hk25.keep kq
  have hB26 := hB25.trans (But.keep kq _)
  have fo26 := fun h x => (⟨(fo25 h x).1, (fo25 h x).2.1.keep kq, (fo25 h x).2.2.1.keep kq, (fo25 h x).2.2.2⟩ : _ ∧ _ ∧ _ ∧ _)
  have fp26 := fun h x => (⟨(fp25 h x).1, (fp25 h x).2.1.keep kq, (fp25 h x).2.2.1.keep kq, (fp25 h x).2.2.2⟩ : _ ∧ _ ∧ _ ∧ _)
  clear kq hk25 hB25 fo25 fp25
  have c5 := lookRecord_no g w26 (hk26.cell (i := 9) (by decide) (by decide))
  unfold pK at c5
  go_wp2_with fail
  refine c5.mono ?_
  rintro e w27 ⟨rfl, kq⟩
  clear c5
  have hk27 := hk26.keep kq
  have hB27 := hB26.trans (But.keep kq _)
  have fo27 := fun h x => (⟨(fo26 h x).1, (fo26 h x).2.1.keep kq, (fo26 h x).2.2.1.keep kq, (fo26 h x).2.2.2⟩ : _ ∧ _ ∧ _ ∧ _)
  have fp27 := fun h x => (⟨(fp26 h x).1, (fp26 h x).2.1.keep kq, (fp26 h x).2.2.1.keep kq, (fp26 h x).2.2.2⟩ : _ ∧ _ ∧ _ ∧ _)
  clear kq hk26 hB26 fo26 fp26
  go_wp2_with fail
  go_ret
  exact ⟨rfl, hB27⟩
end Go.Proofs.YtjhbpocffckghaaGreatDoor
