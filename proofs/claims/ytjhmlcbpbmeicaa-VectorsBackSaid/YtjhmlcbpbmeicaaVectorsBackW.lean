/-
  THE WALK OF THE LAW VectorsBack: it answers true, and turns nothing that was there. Conditions: the arguments are a slice of int that came in, an int, a byte.
-/
import Derived.Test.YtjhmlcbpbmeicaaVecD
import Derived.Test.YtjhmlcbpbmeicaaNumQ
namespace Go.Proofs.Ytjhmlcbpbmeicaa
open Go.RowKit

theorem vgetV_out {xs : List Int} {n : Int} (h : n < 1 ∨ 8 < n) : vgetV xs n = ([], 1) := by rw [vgetV, if_pos h]
theorem vgetV_put {l : List Int} {n : Int} (hl : l.length ≤ 255) (h1 : 1 ≤ n) (h8 : n ≤ 8) : vgetV (putL l) n = if chk (low l) n = false then ([], 4) else (low l, 0) := by
  rw [vgetV, if_neg (by omega), getL_put' l hl]
  dsimp only
  have h := length_putL l
  by_cases hc : chk (low l) n = false
  · rw [if_pos (.inr hc), if_pos hc]
  · have hno : ¬ (1 + 4 * (low l).length < (putL l).length ∨ chk (low l) n = false) := by
      rintro (hh | hh)
      · rw [length_low] at hh
        omega
      · exact hc hh
    rw [if_neg hno, if_neg hc]
theorem vgetV_more {l : List Int} {n m : Int} (hl : l.length ≤ 255) (h1 : 1 ≤ n) (h8 : n ≤ 8) : vgetV (putL l ++ [m]) n = ([], 4) := by
  rw [vgetV, if_neg (by omega), getL_put l [m] hl]
  dsimp only
  have h := length_putL l
  rw [if_pos (.inl (by rw [length_low, List.length_append, List.length_singleton]; omega))]
theorem vgetV_cut {l : List Int} {n : Int} (hl : l.length ≤ 255) (h1 : 1 ≤ n) (h8 : n ≤ 8) : vgetV ((putL l).take (4 * l.length)) n = ([], 5) := by
  have h := length_putL l
  rw [vgetV, if_neg (by omega), getL_cut l hl _ (by omega)]
theorem chk_low {l : List Int} {n : Int} (h : chk l n = true) : low l = l := by
  refine low_id fun x hx => ?_
  unfold chk at h
  simp only [Bool.and_eq_true] at h
  have := within_all h.2 x hx
  omega
/-- What the law asks of the three answers. -/
structure Back3 (l : List Int) (n : Int) (L : List Int) (e f g : Int) : Prop where
  ok : (n < 1 ∨ 8 < n) ∧ e = 1 ∧ f = 1 ∧ g = 1 ∧ L = [] ∨ 1 ≤ n ∧ n ≤ 8 ∧ f = 4 ∧ g = 5 ∧ (chk l n = false ∧ e = 4 ∧ L = [] ∨ chk l n = false ∧ e = 0 ∧ L.length = l.length ∧ chk L n = true ∨ chk l n = true ∧ e = 0 ∧ L = l)
theorem back3 (l : List Int) (n m : Int) (hl : l.length ≤ 255) : ∃ L e f g, vgetV (putL l) n = (L, e) ∧ vgetV (putL l ++ [m]) n = ([], f) ∧ vgetV ((putL l).take (4 * l.length)) n = ([], g) ∧ Back3 l n L e f g := by
  by_cases h : n < 1 ∨ 8 < n
  · exact ⟨[], 1, 1, 1, vgetV_out h, vgetV_out h, vgetV_out h, ⟨.inl ⟨h, rfl, rfl, rfl, rfl⟩⟩⟩
  · have h1 : 1 ≤ n := by omega
    have h8 : n ≤ 8 := by omega
    cases hc : chk l n with
    | true =>
      refine ⟨l, 0, 4, 5, ?_, vgetV_more hl h1 h8, vgetV_cut hl h1 h8, ⟨.inr ⟨h1, h8, rfl, rfl, .inr (.inr ⟨hc, rfl, rfl⟩)⟩⟩⟩
      rw [vgetV_put hl h1 h8, chk_low hc, hc]
      rfl
    | false =>
      cases hc2 : chk (low l) n with
      | true =>
        refine ⟨low l, 0, 4, 5, ?_, vgetV_more hl h1 h8, vgetV_cut hl h1 h8, ⟨.inr ⟨h1, h8, rfl, rfl, .inr (.inl ⟨hc, rfl, by simp, hc2⟩)⟩⟩⟩
        rw [vgetV_put hl h1 h8, hc2]
        rfl
      | false =>
        refine ⟨[], 4, 4, 5, ?_, vgetV_more hl h1 h8, vgetV_cut hl h1 h8, ⟨.inr ⟨h1, h8, rfl, rfl, .inl ⟨hc, rfl, rfl⟩⟩⟩⟩
        rw [vgetV_put hl h1 h8, hc2]
        rfl
theorem bytes_one {m : Int} (h : 0 ≤ m ∧ m < 256) : Bytes [m] := fun x hx => by
  simp at hx
  subst hx
  exact h

set_option maxRecDepth 100000 in
set_option maxHeartbeats 4000000 in
theorem vectorsBack_w (A : Option Addr) (c : Nat) (xs : List Int) (n m : Int) (w : World) (hx : In .i64 w A c xs) (hn : -9223372036854775808 ≤ n ∧ n ≤ 9223372036854775807) (hm : 0 ≤ m ∧ m < 256) :
    Calls Try.prog 8 #[.slice A xs.length c, .int .i64 n, .int .u8 m] w fun e w' => e = .returned (.bool true) ∧ Below w.heap.size w w' := by
  have lx := hx.len
  have lcap : Len c := by have := hx.capI; unfold Len; omega
  by_cases hbig : (255 : Int) < xs.length
  · go_enter Try.func8, Try.ntmps8
    go_wp2_with fail
    refine (alive04_f w).mono ?_
    rintro e w1 ⟨rfl, k1⟩
    go_wp2_with fail
    refine (alive04_f w1).mono ?_
    rintro e w2 ⟨rfl, k2⟩
    go_wp2_with fail
    go_ret
    exact ⟨rfl, k1.trans k2⟩
  · have hl : xs.length ≤ 255 := by omega
    obtain ⟨L, e1, e2, e3, v1, v2, v3, hB⟩ := back3 xs n m hl
    have hvp := fun w1 (k1 : Keep w w1) => vput_f A c xs w1 (hx.rd.keep k1) hx.cap lcap
    rw [List.take_of_length_le hl] at hvp
    have hlp := length_putL xs
    obtain ⟨ps, hps⟩ : ∃ ps, ps = putL xs := ⟨_, rfl⟩
    have hpl : ps.length = 1 + 4 * xs.length := by rw [hps]; exact hlp
    have hpb : Bytes ps := by rw [hps]; exact bytes_putL xs
    rw [← hps] at v1 v2 v3 hvp
    have q1 := fun (B : Option Addr) w1 (r : Rd w1 B (cs .u8 ps)) => vget_f B ps.length ps n w1 r hpb (Nat.le_refl _) (by unfold Len; omega) hn
    have q2 := fun (B : Option Addr) (d : Nat) w1 (r : Rd w1 B (cs .u8 (ps ++ [m]))) (hd : (ps ++ [m]).length ≤ d) (ld : Len d) => vget_f B d (ps ++ [m]) n w1 r (hpb.append (bytes_one hm)) hd ld hn
    have q3 := fun (B : Option Addr) w1 (r : Rd w1 B (cs .u8 (ps.take (4 * xs.length)))) => vget_f B ps.length (ps.take (4 * xs.length)) n w1 r (hpb.take _) (by rw [List.length_take]; omega) (by unfold Len; omega) hn
    unfold VGetP at q1 q2 q3
    rw [v1] at q1
    rw [v2] at q2
    rw [v3] at q3
    have e4 : (ps.take (4 * xs.length)).length = 4 * xs.length := by rw [List.length_take]; omega
    have e5 : (ps ++ [m]).length = 1 + 4 * xs.length + 1 := by rw [List.length_append, hpl]; rfl
    rw [hpl] at q1
    rw [e4, hpl] at q3
    simp only [e5] at q2
    have HL := Lib.hid hpl
    unfold Rows at hvp
    rw [hpl] at hvp
    clear v1 v2 v3 hlp hps hpl e4 e5
    go_enter Try.func8, Try.ntmps8
    go_wp2_with fail
    refine (alive04_f w).mono ?_
    rintro e w1 ⟨rfl, k1⟩
    go_wp2_with fail
    refine (hvp w1 k1).mono ?_
    rintro e w2 ⟨A2, rfl, f2, k2⟩
    have k02 := k1.trans k2
    have r2 := f2.rd
    go_wp2_with fail
    refine (q1 A2 w2 r2).mono ?_
    rintro e w3 ⟨A3, rfl, r3, k3⟩
    have k03 := k02.trans k3
    have p3 := r2.keep k3
    go_wp2_with (at_builtin; refine wpList_append_fr _ rfl _ _ 31 rfl w3.heap.size 5 (.int .u8 0) 1 Try.underlying31 infoByte rfl none 0 0 [] rfl (Fr.empty _ _ _ _) A2 (1 + 4 * xs.length) (1 + 4 * xs.length) (cs .u8 ps) rfl ((length_cs _ _).trans HL.out) p3 (one_cs _ _) ?c1 ?c2 ?c3 ?_)
    case c1 => unfold maxLen; omega
    case c2 => omega
    case c3 => exact Nat.le_refl _
    intro A4 c4 w4 happ
    have hk4 := happ.keep (Keep.refl _) (Fr.empty _ _ _ _)
    have hf4 := happ.fr
    clear happ
    go_wp2_with (at_builtin; refine wpList_append_fr _ rfl _ _ 31 rfl w3.heap.size 5 (.int .u8 0) 1 Try.underlying31 infoByte rfl A4 (1 + 4 * xs.length) c4 _ rfl (hf4.keep (Keep.alloc1 _ _)) (some ⟨w4.heap.size, 0, none⟩) 1 1 [.int .u8 m] rfl rfl (Rd.one _ _ _) (one_int _ _) ?d1 ?d2 ?d3 ?_)
    case d1 => unfold maxLen; omega
    case d2 => omega
    case d3 => have := hk4.size; simp; omega
    intro A5 c5 w5 happ
    have k5 := happ.keep (hk4.alloc _) (hf4.keep (Keep.alloc1 _ _))
    have hf5 := happ.fr
    rw [← cs_one, ← cs_append] at hf5
    have hc5 := hf5.cap
    have hm5 := hf5.capMax
    have k05 := k03.trans k5
    clear happ hf4 hk4
    go_wp2_with fail
    refine (q2 A5 c5 w5 hf5.rd hc5 (lenMax hm5)).mono ?_
    rintro e w6 ⟨A6, rfl, r6, k6⟩
    have k06 := k05.trans k6
    have p6 := p3.keep (k5.trans k6)
    have p6' := p6.take (4 * xs.length)
    rw [cs_take] at p6'
    go_wp2_with fail
    refine (q3 A2 w6 p6').mono ?_
    rintro e w7 ⟨A7, rfl, r7, k7⟩
    have k07 := k06.trans k7
    have r37 := r3.keep ((k5.trans k6).trans k7)
    clear r3 r2 p3 p6 p6' hf5 q1 q2 q3 hvp
    rcases hB.ok with ⟨hr, rfl, rfl, rfl, rfl⟩ | ⟨h1, h8, rfl, rfl, hB2⟩
    · rcases hr with hr | hr
      all_goals
        go_wp2_with fail
        go_ret
        exact ⟨rfl, k07⟩
    · have hck := check_f A c xs n w7 (hx.rd.keep k07) hx.lenL (WalkArith.wf_i64 (by omega))
      rcases hB2 with ⟨hc, rfl, rfl⟩ | ⟨hc, rfl, hLl, hc2⟩ | ⟨hc, rfl, rfl⟩
      · rw [hc] at hck
        go_wp2_with fail
        refine hck.mono ?_
        rintro e w8 ⟨rfl, k8⟩
        go_wp2_with fail
        go_ret
        exact ⟨rfl, k07.trans k8⟩
      · rw [hc] at hck
        have hlb : ((L.length : Int) == xs.length) = true := beq_iff_eq.2 (by omega)
        have hck2 := fun w8 (k8 : Keep w7 w8) => check_f A3 L.length L n w8 (r37.keep k8) (by unfold Len; omega) (WalkArith.wf_i64 (by omega))
        rw [hc2] at hck2
        have HLl := Lib.hid hLl
        clear hLl hc hc2
        go_wp2_with fail
        refine hck.mono ?_
        rintro e w8 ⟨rfl, k8⟩
        go_wp2_with fail
        refine (hck2 _ k8).mono ?_
        rintro e w9 ⟨rfl, k9⟩
        go_wp2_with fail
        go_ret
        exact ⟨rfl, (k07.trans k8).trans k9⟩
      · rw [hc] at hck
        clear hc
        go_wp2_with fail
        refine hck.mono ?_
        rintro e w8 ⟨rfl, k8⟩
        go_wp2_with fail
        refine (saysK (sameInts A3 A _ c L L w8 (r37.keep k8) (hx.rd.keep (k07.trans k8)) (by unfold Reach; omega) (by unfold Reach; omega))).mono ?_
        rintro e w9 ⟨he, k9⟩
        rw [decide_eq_true rfl] at he
        subst he
        go_wp2_with fail
        go_ret
        exact ⟨rfl, (k07.trans k8).trans k9⟩
end Go.Proofs.Ytjhmlcbpbmeicaa
