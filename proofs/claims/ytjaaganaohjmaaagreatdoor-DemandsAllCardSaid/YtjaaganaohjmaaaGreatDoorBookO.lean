/-
  CONTRACT of the laws' Book: Apart answers true where the lists of bytes, of ints and of lists of ints that it holds lie in rows apart, of the call's own. Conditions: those that the theorem states.
-/
import Derived.Test.YtjaaganaohjmaaaGreatDoorBookF
import Derived.Test.YtjaaganaohjmaaaGreatDoorBookN
namespace Go.Proofs.YtjaaganaohjmaaaGreatDoor
open Go.RowKit

/-- The Book in memory: its count n; what it holds of bytes, of ints, of lists of ints; nothing else. -/
structure BkL (w : World) (base g n : Nat) (hb hi hl : List Hd) (vb vi vl : Value) : Prop where
  b : Blk w g 49 [.int .i64 n, vb, vi, nilV, vl, nilV, nilV, nilV, nilV, nilV]
  rb : HRow w base 109 vb hb
  ri : HRow w base 112 vi hi
  rl : HRow w base 119 vl hl
  g : base ≤ g
/-- What it holds lies in rows apart, of the call's own. -/
structure HoldsL (w : World) (base : Nat) (hb hi hl : List Hd) : Prop where
  fb : ∀ h ∈ hb, ∃ us, Fr 5 w base h.a h.n h.c us
  fi : ∀ h ∈ hi, ∃ us, Fr 3 w base h.a h.n h.c us
  fl : ∀ h ∈ hl, ∃ us, Fr 26 w base h.a h.n h.c us
  pb : Aparts hb
  pi : Aparts hi
  pl : Aparts hl
  mb : ∀ h ∈ hb, h.m < 100000 ∧ h.n ≤ 1000000
  mi : ∀ h ∈ hi, h.m < 100000 ∧ h.n ≤ 1000000
  ml : ∀ h ∈ hl, h.n ≤ 1000000
  lb : hb.length ≤ 10000
  li : hi.length ≤ 10000
  ll : hl.length ≤ 10000
section
variable {w w' : World} {base b g n : Nat} {hb hi hl hs : List Hd} {vb vi vl v : Value} {e' : TypeId}
theorem BkL.keep (h : BkL w base g n hb hi hl vb vi vl) (hk : Keep w w') : BkL w' base g n hb hi hl vb vi vl := ⟨h.b.keep hk, h.rb.keep hk, h.ri.keep hk, h.rl.keep hk, h.g⟩
theorem BkL.cell (h : BkL w base g n hb hi hl vb vi vl) {i : Nat} (h2 : 2 < i) (h4 : i ≠ 4) (h9 : i < 10) : w.cell? ⟨g, i, none⟩ = some (.slice none 0 0) := by
  refine h.b.cell_ ?_
  match i, h2, h4, h9 with
  | 3, _, _, _ => rfl
  | 5, _, _, _ => rfl
  | 6, _, _, _ => rfl
  | 7, _, _, _ => rfl
  | 8, _, _, _ => rfl
  | 9, _, _, _ => rfl
theorem BkL.butOwn (h : BkL w base g n hb hi hl vb vi vl) (t : But (Own hs) w w') (hf : ∀ h ∈ hs, ∃ us, Fr e' w b h.a h.n h.c us) (n0 : e' ≠ 49) (n1 : e' ≠ 109) (n2 : e' ≠ 112) (n3 : e' ≠ 119) : BkL w' base g n hb hi hl vb vi vl :=
  ⟨h.b.but t (h.b.offOwn hf n0), h.rb.but t (h.rb.notOwn hf n1), h.ri.but t (h.ri.notOwn hf n2), h.rl.but t (h.rl.notOwn hf n3), h.g⟩
end

set_option maxRecDepth 100000 in
set_option maxHeartbeats 8000000 in
theorem apartL_f (g n base : Nat) (hb hi hl : List Hd) (vb vi vl : Value) (w : World) (hk : BkL w base g n hb hi hl vb vi vl) (hh : HoldsL w base hb hi hl) :
    Calls Tryz.prog 19 #[pK g] w fun e w' => e = .returned (.bool true) ∧ But (fun q => base ≤ q) w w' := by
  have hbs : base ≤ w.heap.size := Nat.le_trans hk.g (Nat.le_of_lt hk.b.lt)
  have mb1 : ∀ h ∈ hb, h.m < 100000 := fun h x => (hh.mb h x).1
  have mi1 : ∀ h ∈ hi, h.m < 100000 := fun h x => (hh.mi h x).1
  have mb2 : ∀ h ∈ hb, h.n ≤ 1000000 := fun h x => (hh.mb h x).2
  have mi2 : ∀ h ∈ hi, h.n ≤ 1000000 := fun h x => (hh.mi h x).2
  have c1 := fillByte_f g vb hb w base (hk.b.cell_ rfl) hk.rb hh.fb hh.pb mb1 (hk.b.offOwn hh.fb (by decide)) hh.lb
  unfold pK at c1 ⊢
  go_enter Tryz.func19, Tryz.ntmps19
  go_wp2_with fail
  refine c1.mono ?_
  rintro e w1 ⟨rfl, t1, fb1⟩
  clear c1
  have hB1 : But (fun q => base ≤ q) w w1 := t1.mono (own_ge_of hh.fb)
  have hk1 := hk.butOwn t1 hh.fb (by decide) (by decide) (by decide) (by decide)
  have fi1 : ∀ h ∈ hi, ∃ us, Fr 3 w1 base h.a h.n h.c us := fun h x => by
    obtain ⟨us, hu⟩ := hh.fi h x
    exact ⟨us, hu.but t1 (hu.off hh.fb (by decide))⟩
  have fl1 : ∀ h ∈ hl, ∃ us, Fr 26 w1 base h.a h.n h.c us := fun h x => by
    obtain ⟨us, hu⟩ := hh.fl h x
    exact ⟨us, hu.but t1 (hu.off hh.fb (by decide))⟩
  have c2 := fillInt_f g vi hi w1 base (hk1.b.cell_ rfl) hk1.ri fi1 hh.pi mi1 (hk1.b.offOwn fi1 (by decide)) hh.li
  unfold pK at c2
  go_wp2_with fail
  refine c2.mono ?_
  rintro e w2 ⟨rfl, t2, fi2⟩
  clear c2
  have hB2 : But (fun q => base ≤ q) w w2 := hB1.trans (t2.mono (own_ge_of fi1))
  have hk2 := hk1.butOwn t2 fi1 (by decide) (by decide) (by decide) (by decide)
  have fb2 : ∀ h ∈ hb, Fr 5 w2 base h.a h.n h.c (List.replicate h.n (.int .u8 (mk8 h.m))) := fun h x => (fb1 h x).but t2 ((fb1 h x).off fi1 (by decide))
  have fl2 : ∀ h ∈ hl, ∃ us, Fr 26 w2 base h.a h.n h.c us := fun h x => by
    obtain ⟨us, hu⟩ := fl1 h x
    exact ⟨us, hu.but t2 (hu.off fi1 (by decide))⟩
  clear t1 t2 fb1 fi1 fl1 hB1 hk1
  have c3 := fillText_no g w2 (hk2.cell (i := 3) (by decide) (by decide) (by decide))
  unfold pK at c3
  go_wp2_with fail
  refine c3.mono ?_
  rintro e w3 ⟨rfl, kq⟩
  clear c3
  have hk3 := hk2.keep kq
  have hB3 := hB2.trans (But.keep kq _)
  have fb3 := fun h x => (fb2 h x).keep kq
  have fi3 := fun h x => (fi2 h x).keep kq
  have fl3 := fun h x => Exists.elim (fl2 h x) (fun us hu => (⟨us, Fr.keep hu kq⟩ : ∃ us, Fr 26 _ base h.a h.n h.c us))
  clear kq hk2 hB2 fb2 fi2 fl2
  have xi : ∀ h ∈ hi, ∃ us, Fr 3 w3 base h.a h.n h.c us := fun h x => ⟨_, fi3 h x⟩
  have c4 := fillList_f g vl hl w3 base (hk3.b.cell_ rfl) hk3.rl fl3 hh.pl (hk3.b.offOwn fl3 (by decide)) hh.ll
  obtain ⟨b, hbd⟩ : ∃ b, b = w3.heap.size := ⟨_, rfl⟩
  have HIB : ∀ q, Own hi q → q < b := by
    rintro q ⟨x, hx, ho⟩
    obtain ⟨us, hu⟩ := xi x hx
    rw [hbd]
    exact (hu.own_ge ho).2
  rw [← hbd] at c4
  unfold pK at c4
  go_wp2_with fail
  refine c4.mono ?_
  rintro e w4 ⟨rfl, t3, ml4⟩
  clear c4
  have bw4 : b ≤ w4.heap.size := by rw [hbd]; exact t3.size
  have hB4 : But (fun q => base ≤ q) w w4 := hB3.trans (t3.mono (own_ge_of fl3))
  have hk4 := hk3.butOwn t3 fl3 (by decide) (by decide) (by decide) (by decide)
  have fb4 : ∀ h ∈ hb, Fr 5 w4 base h.a h.n h.c (List.replicate h.n (.int .u8 (mk8 h.m))) := fun h x => (fb3 h x).but t3 ((fb3 h x).off fl3 (by decide))
  have fi4 : ∀ h ∈ hi, Fr 3 w4 base h.a h.n h.c (List.replicate h.n (.int .i64 (-((h.m : Nat) : Int)))) := fun h x => (fi3 h x).but t3 ((fi3 h x).off fl3 (by decide))
  clear t3 hbd xi fb3 fi3 fl3 hB3 hk3
  have c3 := fillByteList_no g w4 (hk4.cell (i := 5) (by decide) (by decide) (by decide))
  unfold pK at c3
  go_wp2_with fail
  refine c3.mono ?_
  rintro e w5 ⟨rfl, kq⟩
  clear c3
  have hk5 := hk4.keep kq
  have hB5 := hB4.trans (But.keep kq _)
  have fb5 := fun h x => (fb4 h x).keep kq
  have fi5 := fun h x => (fi4 h x).keep kq
  have ml5 := fun h x => (ml4 h x).keep kq
  have bw5 := Nat.le_trans bw4 kq.size
  clear kq hk4 hB4 fb4 fi4 ml4 bw4
  have c3 := fillWhy_no g w5 (hk5.cell (i := 6) (by decide) (by decide) (by decide))
  unfold pK at c3
  go_wp2_with fail
  refine c3.mono ?_
  rintro e w6 ⟨rfl, kq⟩
  clear c3
  have hk6 := hk5.keep kq
  have hB6 := hB5.trans (But.keep kq _)
  have fb6 := fun h x => (fb5 h x).keep kq
  have fi6 := fun h x => (fi5 h x).keep kq
  have ml6 := fun h x => (ml5 h x).keep kq
  have bw6 := Nat.le_trans bw5 kq.size
  clear kq hk5 hB5 fb5 fi5 ml5 bw5
  have c3 := fillFrame_no g w6 (hk6.cell (i := 7) (by decide) (by decide) (by decide))
  unfold pK at c3
  go_wp2_with fail
  refine c3.mono ?_
  rintro e w7 ⟨rfl, kq⟩
  clear c3
  have hk7 := hk6.keep kq
  have hB7 := hB6.trans (But.keep kq _)
  have fb7 := fun h x => (fb6 h x).keep kq
  have fi7 := fun h x => (fi6 h x).keep kq
  have ml7 := fun h x => (ml6 h x).keep kq
  have bw7 := Nat.le_trans bw6 kq.size
  clear kq hk6 hB6 fb6 fi6 ml6 bw6
  have c3 := fillReply_no g w7 (hk7.cell (i := 8) (by decide) (by decide) (by decide))
  unfold pK at c3
  go_wp2_with fail
  refine c3.mono ?_
  rintro e w8 ⟨rfl, kq⟩
  clear c3
  have hk8 := hk7.keep kq
  have hB8 := hB7.trans (But.keep kq _)
  have fb8 := fun h x => (fb7 h x).keep kq
  have fi8 := fun h x => (fi7 h x).keep kq
  have ml8 := fun h x => (ml7 h x).keep kq
  have bw8 := Nat.le_trans bw7 kq.size
  clear kq hk7 hB7 fb7 fi7 ml7 bw7
  have c3 := fillRecord_no g w8 (hk8.cell (i := 9) (by decide) (by decide) (by decide))
  unfold pK at c3
  go_wp2_with fail
  refine c3.mono ?_
  rintro e w9 ⟨rfl, kq⟩
  clear c3
  have hk9 := hk8.keep kq
  have hB9 := hB8.trans (But.keep kq _)
  have fb9 := fun h x => (fb8 h x).keep kq
  have fi9 := fun h x => (fi8 h x).keep kq
  have ml9 := fun h x => (ml8 h x).keep kq
  have bw9 := Nat.le_trans bw8 kq.size
  clear kq hk8 hB8 fb8 fi8 ml8 bw8
  have xb : ∀ h ∈ hb, ∃ us, Fr 5 w9 base h.a h.n h.c us := fun h x => ⟨_, fb9 h x⟩
  have c4 := growByte_f g vb hb w9 base (hk9.b.cell_ rfl) hk9.rb fb9 hh.pb mb1 mb2 (hk9.b.offOwn xb (by decide)) (hk9.b.offRow hk9.rb (by decide)) hh.lb (Nat.le_trans hbs hB9.size)
  unfold pK at c4
  go_wp2_with fail
  refine c4.mono ?_
  rintro e w10 ⟨rfl, t3, hb', lb', rb', fb'⟩
  clear c4
  have bw10 := Nat.le_trans bw9 t3.size
  have hB10 : But (fun q => base ≤ q) w w10 := hB9.trans (t3.mono fun q hq => hq.elim (own_ge_of xb q) (hk9.rb.own_ge q))
  have hk10 : BkL w10 base g n hb' hi hl vb vi vl := ⟨hk9.b.but t3 (fun h => h.elim (hk9.b.offOwn xb (by decide)) (hk9.b.offRow hk9.rb (by decide))), rb', hk9.ri.but t3 (fun k e h => h.elim (hk9.ri.notOwn xb (by decide) k e) (hk9.ri.offRow hk9.rb (by decide) k e)), hk9.rl.but t3 (fun k e h => h.elim (hk9.rl.notOwn xb (by decide) k e) (hk9.rl.offRow hk9.rb (by decide) k e)), hk.g⟩
  have fi10 : ∀ h ∈ hi, Fr 3 w10 base h.a h.n h.c (List.replicate h.n (.int .i64 (-((h.m : Nat) : Int)))) := fun h x => (fi9 h x).but t3 (fun k e h' => h'.elim ((fi9 h x).off xb (by decide) k e) ((fi9 h x).offRow hk9.rb (by decide) k e))
  have ml10 : ∀ h ∈ hl, Marked w10 base b h.a h.n h.c h.m := fun h x => (ml9 h x).but t3 (fun k e h' => by
    obtain ⟨us, hu⟩ := (ml9 h x).fr
    exact h'.elim (hu.off xb (by decide) k e) (hu.offRow hk9.rb (by decide) k e)) (fun g' l' _ hg' h' => h'.elim (hg'.offOwn xb (by decide)) (hg'.offRow hk9.rb (by decide)))
  have fo10 : ∀ h ∈ hb', h.ln = h.n + 40 ∧ Fr 5 w10 base h.a h.n h.c (List.replicate h.n (.int .u8 (mk8 h.m))) ∧ Fr 5 w10 base h.la h.ln h.lc (List.replicate (h.n + 40) (.int .u8 (mk8 h.m))) ∧ h.m < 100000 ∧ h.n ≤ 1000000 := fun h x => by
    obtain ⟨j, hj⟩ := List.getElem?_of_mem x
    obtain ⟨h0, h1, h2, h3, h4, h5⟩ := fb' j h hj
    exact ⟨h4, h3, h5, by rw [h2.2.2.2]; exact mb1 h0 (List.mem_of_getElem? h1), by rw [h2.2.2.1]; exact mb2 h0 (List.mem_of_getElem? h1)⟩
  clear t3 xb fb' rb' fi9 fb9 ml9 bw9 hk9 hB9
  have xi : ∀ h ∈ hi, ∃ us, Fr 3 w10 base h.a h.n h.c us := fun h x => ⟨_, fi10 h x⟩
  have c4 := growInt_f g vi hi w10 base (hk10.b.cell_ rfl) hk10.ri fi10 hh.pi mi1 mi2 (hk10.b.offOwn xi (by decide)) (hk10.b.offRow hk10.ri (by decide)) hh.li (Nat.le_trans hbs hB10.size)
  unfold pK at c4
  go_wp2_with fail
  refine c4.mono ?_
  rintro e w11 ⟨rfl, t3, hi', li', ri', fi'⟩
  clear c4
  have bw11 := Nat.le_trans bw10 t3.size
  have hB11 : But (fun q => base ≤ q) w w11 := hB10.trans (t3.mono fun q hq => hq.elim (own_ge_of xi q) (hk10.ri.own_ge q))
  have hk11 : BkL w11 base g n hb' hi' hl vb vi vl := ⟨hk10.b.but t3 (fun h => h.elim (hk10.b.offOwn xi (by decide)) (hk10.b.offRow hk10.ri (by decide))), hk10.rb.but t3 (fun k e h => h.elim (hk10.rb.notOwn xi (by decide) k e) (hk10.rb.offRow hk10.ri (by decide) k e)), ri', hk10.rl.but t3 (fun k e h => h.elim (hk10.rl.notOwn xi (by decide) k e) (hk10.rl.offRow hk10.ri (by decide) k e)), hk.g⟩
  have ml11 : ∀ h ∈ hl, Marked w11 base b h.a h.n h.c h.m := fun h x => (ml10 h x).but t3 (fun k e h' => by
    obtain ⟨us, hu⟩ := (ml10 h x).fr
    exact h'.elim (hu.off xi (by decide) k e) (hu.offRow hk10.ri (by decide) k e)) (fun g' l' hbg hg' h' => h'.elim (fun ho => absurd (HIB g' ho) (by omega)) (hg'.offRow hk10.ri (by decide)))
  have fo11 : ∀ h ∈ hb', h.ln = h.n + 40 ∧ Fr 5 w11 base h.a h.n h.c (List.replicate h.n (.int .u8 (mk8 h.m))) ∧ Fr 5 w11 base h.la h.ln h.lc (List.replicate (h.n + 40) (.int .u8 (mk8 h.m))) ∧ h.m < 100000 ∧ h.n ≤ 1000000 := fun h x => by
    obtain ⟨h1, h2, h3, h4⟩ := fo10 h x
    exact ⟨h1, h2.but t3 (fun k e h' => h'.elim (h2.off xi (by decide) k e) (h2.offRow hk10.ri (by decide) k e)), h3.but t3 (fun k e h' => h'.elim (h3.off xi (by decide) k e) (h3.offRow hk10.ri (by decide) k e)), h4⟩
  have fp11 : ∀ h ∈ hi', h.ln = h.n + 40 ∧ Fr 3 w11 base h.a h.n h.c (List.replicate h.n (.int .i64 (-((h.m : Nat) : Int)))) ∧ Fr 3 w11 base h.la h.ln h.lc (List.replicate (h.n + 40) (.int .i64 (-((h.m : Nat) : Int)))) ∧ h.m < 100000 ∧ h.n ≤ 1000000 := fun h x => by
    obtain ⟨j, hj⟩ := List.getElem?_of_mem x
    obtain ⟨h0, h1, h2, h3, h4, h5⟩ := fi' j h hj
    exact ⟨h4, h3, h5, by rw [h2.2.2.2]; exact mi1 h0 (List.mem_of_getElem? h1), by rw [h2.2.2.1]; exact mi2 h0 (List.mem_of_getElem? h1)⟩
  clear t3 xi HIB fi' ri' fi10 fo10 ml10 bw10 hk10 hB10
  have c3 := growText_no g w11 (hk11.cell (i := 3) (by decide) (by decide) (by decide))
  unfold pK at c3
  go_wp2_with fail
  refine c3.mono ?_
  rintro e w12 ⟨rfl, kq⟩
  clear c3
  have hk12 := hk11.keep kq
  have hB12 := hB11.trans (But.keep kq _)
  have fo12 := fun h x => (⟨(fo11 h x).1, (fo11 h x).2.1.keep kq, (fo11 h x).2.2.1.keep kq, (fo11 h x).2.2.2⟩ : _ ∧ _ ∧ _ ∧ _)
  have fp12 := fun h x => (⟨(fp11 h x).1, (fp11 h x).2.1.keep kq, (fp11 h x).2.2.1.keep kq, (fp11 h x).2.2.2⟩ : _ ∧ _ ∧ _ ∧ _)
  have ml12 := fun h x => (ml11 h x).keep kq
  have bw12 := Nat.le_trans bw11 kq.size
  clear kq hk11 hB11 fo11 fp11 ml11 bw11
  have xl : ∀ h ∈ hl, ∃ us, Fr 26 w12 base h.a h.n h.c us := fun h x => (ml12 h x).fr
  have c4 := growList_f g b vl hl w12 base (hk12.b.cell_ rfl) hk12.rl ml12 hh.pl hh.ml (hk12.b.offOwn xl (by decide)) (hk12.b.offRow hk12.rl (by decide)) hh.ll (Nat.le_trans hbs hB12.size) bw12
  unfold pK at c4
  go_wp2_with fail
  refine c4.mono ?_
  rintro e w13 ⟨rfl, t3, hl', ll', rl', fl'⟩
  clear c4
  have hB13 : But (fun q => base ≤ q) w w13 := hB12.trans (t3.mono fun q hq => hq.elim (own_ge_of xl q) (hk12.rl.own_ge q))
  have hk13 : BkL w13 base g n hb' hi' hl' vb vi vl := ⟨hk12.b.but t3 (fun h => h.elim (hk12.b.offOwn xl (by decide)) (hk12.b.offRow hk12.rl (by decide))), hk12.rb.but t3 (fun k e h => h.elim (hk12.rb.notOwn xl (by decide) k e) (hk12.rb.offRow hk12.rl (by decide) k e)), hk12.ri.but t3 (fun k e h => h.elim (hk12.ri.notOwn xl (by decide) k e) (hk12.ri.offRow hk12.rl (by decide) k e)), rl', hk.g⟩
  have fo13 : ∀ h ∈ hb', h.ln = h.n + 40 ∧ Fr 5 w13 base h.a h.n h.c (List.replicate h.n (.int .u8 (mk8 h.m))) ∧ Fr 5 w13 base h.la h.ln h.lc (List.replicate (h.n + 40) (.int .u8 (mk8 h.m))) ∧ h.m < 100000 ∧ h.n ≤ 1000000 := fun h x => by
    obtain ⟨h1, h2, h3, h4⟩ := fo12 h x
    exact ⟨h1, h2.but t3 (fun k e h' => h'.elim (h2.off xl (by decide) k e) (h2.offRow hk12.rl (by decide) k e)), h3.but t3 (fun k e h' => h'.elim (h3.off xl (by decide) k e) (h3.offRow hk12.rl (by decide) k e)), h4⟩
  have fp13 : ∀ h ∈ hi', h.ln = h.n + 40 ∧ Fr 3 w13 base h.a h.n h.c (List.replicate h.n (.int .i64 (-((h.m : Nat) : Int)))) ∧ Fr 3 w13 base h.la h.ln h.lc (List.replicate (h.n + 40) (.int .i64 (-((h.m : Nat) : Int)))) ∧ h.m < 100000 ∧ h.n ≤ 1000000 := fun h x => by
    obtain ⟨h1, h2, h3, h4⟩ := fp12 h x
    exact ⟨h1, h2.but t3 (fun k e h' => h'.elim (h2.off xl (by decide) k e) (h2.offRow hk12.rl (by decide) k e)), h3.but t3 (fun k e h' => h'.elim (h3.off xl (by decide) k e) (h3.offRow hk12.rl (by decide) k e)), h4⟩
  have fq13 : ∀ h ∈ hl', h.ln = h.n + 40 ∧ Marked w13 base b h.la h.ln h.lc h.m ∧ Marked w13 base b h.a h.n h.c h.m ∧ h.n ≤ 1000000 := fun h x => by
    obtain ⟨j, hj⟩ := List.getElem?_of_mem x
    obtain ⟨h0, h1, h2, h3, h4, h5⟩ := fl' j h hj
    exact ⟨h4, h5, h3, by rw [h2.2.2.1]; exact hh.ml h0 (List.mem_of_getElem? h1)⟩
  clear t3 xl fl' rl' fo12 fp12 ml12 bw12 hk12 hB12
  have c3 := growByteList_no g w13 (hk13.cell (i := 5) (by decide) (by decide) (by decide))
  unfold pK at c3
  go_wp2_with fail
  refine c3.mono ?_
  rintro e w14 ⟨rfl, kq⟩
  clear c3
  have hk14 := hk13.keep kq
  have hB14 := hB13.trans (But.keep kq _)
  have fo14 := fun h x => (⟨(fo13 h x).1, (fo13 h x).2.1.keep kq, (fo13 h x).2.2.1.keep kq, (fo13 h x).2.2.2⟩ : _ ∧ _ ∧ _ ∧ _)
  have fp14 := fun h x => (⟨(fp13 h x).1, (fp13 h x).2.1.keep kq, (fp13 h x).2.2.1.keep kq, (fp13 h x).2.2.2⟩ : _ ∧ _ ∧ _ ∧ _)
  have fq14 := fun h x => (⟨(fq13 h x).1, (fq13 h x).2.1.keep kq, (fq13 h x).2.2.1.keep kq, (fq13 h x).2.2.2⟩ : _ ∧ _ ∧ _ ∧ _)
  clear kq hk13 hB13 fo13 fp13 fq13
  have c3 := growWhy_no g w14 (hk14.cell (i := 6) (by decide) (by decide) (by decide))
  unfold pK at c3
  go_wp2_with fail
  refine c3.mono ?_
  rintro e w15 ⟨rfl, kq⟩
  clear c3
  have hk15 := hk14.keep kq
  have hB15 := hB14.trans (But.keep kq _)
  have fo15 := fun h x => (⟨(fo14 h x).1, (fo14 h x).2.1.keep kq, (fo14 h x).2.2.1.keep kq, (fo14 h x).2.2.2⟩ : _ ∧ _ ∧ _ ∧ _)
  have fp15 := fun h x => (⟨(fp14 h x).1, (fp14 h x).2.1.keep kq, (fp14 h x).2.2.1.keep kq, (fp14 h x).2.2.2⟩ : _ ∧ _ ∧ _ ∧ _)
  have fq15 := fun h x => (⟨(fq14 h x).1, (fq14 h x).2.1.keep kq, (fq14 h x).2.2.1.keep kq, (fq14 h x).2.2.2⟩ : _ ∧ _ ∧ _ ∧ _)
  clear kq hk14 hB14 fo14 fp14 fq14
  have c3 := growFrame_no g w15 (hk15.cell (i := 7) (by decide) (by decide) (by decide))
  unfold pK at c3
  go_wp2_with fail
  refine c3.mono ?_
  rintro e w16 ⟨rfl, kq⟩
  clear c3
  have hk16 := hk15.keep kq
  have hB16 := hB15.trans (But.keep kq _)
  have fo16 := fun h x => (⟨(fo15 h x).1, (fo15 h x).2.1.keep kq, (fo15 h x).2.2.1.keep kq, (fo15 h x).2.2.2⟩ : _ ∧ _ ∧ _ ∧ _)
  have fp16 := fun h x => (⟨(fp15 h x).1, (fp15 h x).2.1.keep kq, (fp15 h x).2.2.1.keep kq, (fp15 h x).2.2.2⟩ : _ ∧ _ ∧ _ ∧ _)
  have fq16 := fun h x => (⟨(fq15 h x).1, (fq15 h x).2.1.keep kq, (fq15 h x).2.2.1.keep kq, (fq15 h x).2.2.2⟩ : _ ∧ _ ∧ _ ∧ _)
  clear kq hk15 hB15 fo15 fp15 fq15
  have c3 := growReply_no g w16 (hk16.cell (i := 8) (by decide) (by decide) (by decide))
  unfold pK at c3
  go_wp2_with fail
  refine c3.mono ?_
  rintro e w17 ⟨rfl, kq⟩
  clear c3
  have hk17 := hk16.keep kq
  have hB17 := hB16.trans (But.keep kq _)
  have fo17 := fun h x => (⟨(fo16 h x).1, (fo16 h x).2.1.keep kq, (fo16 h x).2.2.1.keep kq, (fo16 h x).2.2.2⟩ : _ ∧ _ ∧ _ ∧ _)
  have fp17 := fun h x => (⟨(fp16 h x).1, (fp16 h x).2.1.keep kq, (fp16 h x).2.2.1.keep kq, (fp16 h x).2.2.2⟩ : _ ∧ _ ∧ _ ∧ _)
  have fq17 := fun h x => (⟨(fq16 h x).1, (fq16 h x).2.1.keep kq, (fq16 h x).2.2.1.keep kq, (fq16 h x).2.2.2⟩ : _ ∧ _ ∧ _ ∧ _)
  clear kq hk16 hB16 fo16 fp16 fq16
  have c3 := growRecord_no g w17 (hk17.cell (i := 9) (by decide) (by decide) (by decide))
  unfold pK at c3
  go_wp2_with fail
  refine c3.mono ?_
  rintro e w18 ⟨rfl, kq⟩
  clear c3
  have hk18 := hk17.keep kq
  have hB18 := hB17.trans (But.keep kq _)
  have fo18 := fun h x => (⟨(fo17 h x).1, (fo17 h x).2.1.keep kq, (fo17 h x).2.2.1.keep kq, (fo17 h x).2.2.2⟩ : _ ∧ _ ∧ _ ∧ _)
  have fp18 := fun h x => (⟨(fp17 h x).1, (fp17 h x).2.1.keep kq, (fp17 h x).2.2.1.keep kq, (fp17 h x).2.2.2⟩ : _ ∧ _ ∧ _ ∧ _)
  have fq18 := fun h x => (⟨(fq17 h x).1, (fq17 h x).2.1.keep kq, (fq17 h x).2.2.1.keep kq, (fq17 h x).2.2.2⟩ : _ ∧ _ ∧ _ ∧ _)
  clear kq hk17 hB17 fo17 fp17 fq17
  have c5 := lookByte_f g vb hb' w18 base (hk18.b.cell_ rfl) hk18.rb (fun h x => ⟨(fo18 h x).1, (fo18 h x).2.2.1.rd, (fo18 h x).2.1.rd, (fo18 h x).2.2.2⟩) (by rw [lb']; exact hh.lb)
  unfold pK at c5
  go_wp2_with fail
  refine c5.mono ?_
  rintro e w19 ⟨rfl, kq⟩
  clear c5
  have hk19 := hk18.keep kq
  have hB19 := hB18.trans (But.keep kq _)
  have fo19 := fun h x => (⟨(fo18 h x).1, (fo18 h x).2.1.keep kq, (fo18 h x).2.2.1.keep kq, (fo18 h x).2.2.2⟩ : _ ∧ _ ∧ _ ∧ _)
  have fp19 := fun h x => (⟨(fp18 h x).1, (fp18 h x).2.1.keep kq, (fp18 h x).2.2.1.keep kq, (fp18 h x).2.2.2⟩ : _ ∧ _ ∧ _ ∧ _)
  have fq19 := fun h x => (⟨(fq18 h x).1, (fq18 h x).2.1.keep kq, (fq18 h x).2.2.1.keep kq, (fq18 h x).2.2.2⟩ : _ ∧ _ ∧ _ ∧ _)
  clear kq hk18 hB18 fo18 fp18 fq18
  have c5 := lookInt_f g vi hi' w19 base (hk19.b.cell_ rfl) hk19.ri (fun h x => ⟨(fp19 h x).1, (fp19 h x).2.2.1.rd, (fp19 h x).2.1.rd, (fp19 h x).2.2.2⟩) (by rw [li']; exact hh.li)
  unfold pK at c5
  go_wp2_with fail
  refine c5.mono ?_
  rintro e w20 ⟨rfl, kq⟩
  clear c5
  have hk20 := hk19.keep kq
  have hB20 := hB19.trans (But.keep kq _)
  have fo20 := fun h x => (⟨(fo19 h x).1, (fo19 h x).2.1.keep kq, (fo19 h x).2.2.1.keep kq, (fo19 h x).2.2.2⟩ : _ ∧ _ ∧ _ ∧ _)
  have fp20 := fun h x => (⟨(fp19 h x).1, (fp19 h x).2.1.keep kq, (fp19 h x).2.2.1.keep kq, (fp19 h x).2.2.2⟩ : _ ∧ _ ∧ _ ∧ _)
  have fq20 := fun h x => (⟨(fq19 h x).1, (fq19 h x).2.1.keep kq, (fq19 h x).2.2.1.keep kq, (fq19 h x).2.2.2⟩ : _ ∧ _ ∧ _ ∧ _)
  clear kq hk19 hB19 fo19 fp19 fq19
  have c5 := lookText_no g w20 (hk20.cell (i := 3) (by decide) (by decide) (by decide))
  unfold pK at c5
  go_wp2_with fail
  refine c5.mono ?_
  rintro e w21 ⟨rfl, kq⟩
  clear c5
  have hk21 := hk20.keep kq
  have hB21 := hB20.trans (But.keep kq _)
  have fo21 := fun h x => (⟨(fo20 h x).1, (fo20 h x).2.1.keep kq, (fo20 h x).2.2.1.keep kq, (fo20 h x).2.2.2⟩ : _ ∧ _ ∧ _ ∧ _)
  have fp21 := fun h x => (⟨(fp20 h x).1, (fp20 h x).2.1.keep kq, (fp20 h x).2.2.1.keep kq, (fp20 h x).2.2.2⟩ : _ ∧ _ ∧ _ ∧ _)
  have fq21 := fun h x => (⟨(fq20 h x).1, (fq20 h x).2.1.keep kq, (fq20 h x).2.2.1.keep kq, (fq20 h x).2.2.2⟩ : _ ∧ _ ∧ _ ∧ _)
  clear kq hk20 hB20 fo20 fp20 fq20
  have c5 := lookList_f g b base vl hl' w21 (hk21.b.cell_ rfl) hk21.rl fq21 (by rw [ll']; exact hh.ll)
  unfold pK at c5
  go_wp2_with fail
  refine c5.mono ?_
  rintro e w22 ⟨rfl, kq⟩
  clear c5
  have hk22 := hk21.keep kq
  have hB22 := hB21.trans (But.keep kq _)
  have fo22 := fun h x => (⟨(fo21 h x).1, (fo21 h x).2.1.keep kq, (fo21 h x).2.2.1.keep kq, (fo21 h x).2.2.2⟩ : _ ∧ _ ∧ _ ∧ _)
  have fp22 := fun h x => (⟨(fp21 h x).1, (fp21 h x).2.1.keep kq, (fp21 h x).2.2.1.keep kq, (fp21 h x).2.2.2⟩ : _ ∧ _ ∧ _ ∧ _)
  have fq22 := fun h x => (⟨(fq21 h x).1, (fq21 h x).2.1.keep kq, (fq21 h x).2.2.1.keep kq, (fq21 h x).2.2.2⟩ : _ ∧ _ ∧ _ ∧ _)
  clear kq hk21 hB21 fo21 fp21 fq21
  have c5 := lookByteList_no g w22 (hk22.cell (i := 5) (by decide) (by decide) (by decide))
  unfold pK at c5
  go_wp2_with fail
  refine c5.mono ?_
  rintro e w23 ⟨rfl, kq⟩
  clear c5
  have hk23 := hk22.keep kq
  have hB23 := hB22.trans (But.keep kq _)
  have fo23 := fun h x => (⟨(fo22 h x).1, (fo22 h x).2.1.keep kq, (fo22 h x).2.2.1.keep kq, (fo22 h x).2.2.2⟩ : _ ∧ _ ∧ _ ∧ _)
  have fp23 := fun h x => (⟨(fp22 h x).1, (fp22 h x).2.1.keep kq, (fp22 h x).2.2.1.keep kq, (fp22 h x).2.2.2⟩ : _ ∧ _ ∧ _ ∧ _)
  have fq23 := fun h x => (⟨(fq22 h x).1, (fq22 h x).2.1.keep kq, (fq22 h x).2.2.1.keep kq, (fq22 h x).2.2.2⟩ : _ ∧ _ ∧ _ ∧ _)
  clear kq hk22 hB22 fo22 fp22 fq22
  have c5 := lookWhy_no g w23 (hk23.cell (i := 6) (by decide) (by decide) (by decide))
  unfold pK at c5
  go_wp2_with fail
  refine c5.mono ?_
  rintro e w24 ⟨rfl, kq⟩
  clear c5
  have hk24 := hk23.keep kq
  have hB24 := hB23.trans (But.keep kq _)
  have fo24 := fun h x => (⟨(fo23 h x).1, (fo23 h x).2.1.keep kq, (fo23 h x).2.2.1.keep kq, (fo23 h x).2.2.2⟩ : _ ∧ _ ∧ _ ∧ _)
  have fp24 := fun h x => (⟨(fp23 h x).1, (fp23 h x).2.1.keep kq, (fp23 h x).2.2.1.keep kq, (fp23 h x).2.2.2⟩ : _ ∧ _ ∧ _ ∧ _)
  have fq24 := fun h x => (⟨(fq23 h x).1, (fq23 h x).2.1.keep kq, (fq23 h x).2.2.1.keep kq, (fq23 h x).2.2.2⟩ : _ ∧ _ ∧ _ ∧ _)
  clear kq hk23 hB23 fo23 fp23 fq23
  have c5 := lookFrame_no g w24 (hk24.cell (i := 7) (by decide) (by decide) (by decide))
  unfold pK at c5
  go_wp2_with fail
  refine c5.mono ?_
  rintro e w25 ⟨rfl, kq⟩
  clear c5
  have hk25 := hk24.keep kq
  have hB25 := hB24.trans (But.keep kq _)
  have fo25 := fun h x => (⟨(fo24 h x).1, (fo24 h x).2.1.keep kq, (fo24 h x).2.2.1.keep kq, (fo24 h x).2.2.2⟩ : _ ∧ _ ∧ _ ∧ _)
  have fp25 := fun h x => (⟨(fp24 h x).1, (fp24 h x).2.1.keep kq, (fp24 h x).2.2.1.keep kq, (fp24 h x).2.2.2⟩ : _ ∧ _ ∧ _ ∧ _)
  have fq25 := fun h x => (⟨(fq24 h x).1, (fq24 h x).2.1.keep kq, (fq24 h x).2.2.1.keep kq, (fq24 h x).2.2.2⟩ : _ ∧ _ ∧ _ ∧ _)
  clear kq hk24 hB24 fo24 fp24 fq24
  have c5 := lookReply_no g w25 (hk25.cell (i := 8) (by decide) (by decide) (by decide))
  unfold pK at c5
  go_wp2_with fail
  refine c5.mono ?_
  rintro e w26 ⟨rfl, kq⟩
  clear c5
  have hk26 := hk25.keep kq
  have hB26 := hB25.trans (But.keep kq _)
  have fo26 := fun h x => (⟨(fo25 h x).1, (fo25 h x).2.1.keep kq, (fo25 h x).2.2.1.keep kq, (fo25 h x).2.2.2⟩ : _ ∧ _ ∧ _ ∧ _)
  have fp26 := fun h x => (⟨(fp25 h x).1, (fp25 h x).2.1.keep kq, (fp25 h x).2.2.1.keep kq, (fp25 h x).2.2.2⟩ : _ ∧ _ ∧ _ ∧ _)
  have fq26 := fun h x => (⟨(fq25 h x).1, (fq25 h x).2.1.keep kq, (fq25 h x).2.2.1.keep kq, (fq25 h x).2.2.2⟩ : _ ∧ _ ∧ _ ∧ _)
  clear kq hk25 hB25 fo25 fp25 fq25
  have c5 := lookRecord_no g w26 (hk26.cell (i := 9) (by decide) (by decide) (by decide))
  unfold pK at c5
  go_wp2_with fail
  refine c5.mono ?_
  rintro e w27 ⟨rfl, kq⟩
  clear c5
  have hk27 := hk26.keep kq
  have hB27 := hB26.trans (But.keep kq _)
  have fo27 := fun h x => (⟨(fo26 h x).1, (fo26 h x).2.1.keep kq, (fo26 h x).2.2.1.keep kq, (fo26 h x).2.2.2⟩ : _ ∧ _ ∧ _ ∧ _)
  have fp27 := fun h x => (⟨(fp26 h x).1, (fp26 h x).2.1.keep kq, (fp26 h x).2.2.1.keep kq, (fp26 h x).2.2.2⟩ : _ ∧ _ ∧ _ ∧ _)
  have fq27 := fun h x => (⟨(fq26 h x).1, (fq26 h x).2.1.keep kq, (fq26 h x).2.2.1.keep kq, (fq26 h x).2.2.2⟩ : _ ∧ _ ∧ _ ∧ _)
  clear kq hk26 hB26 fo26 fp26 fq26
  go_wp2_with fail
  go_ret
  exact ⟨rfl, hB27⟩
end Go.Proofs.YtjaaganaohjmaaaGreatDoor
