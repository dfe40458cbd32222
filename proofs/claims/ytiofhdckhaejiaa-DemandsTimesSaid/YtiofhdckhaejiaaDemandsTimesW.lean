/-
  THE WALK OF THE LAW DemandsTimes: it answers true, and turns nothing that was there. Conditions: the arguments are slices of int that came in; a byte.
-/
import Derived.Test.YtiofhdckhaejiaaDemG
import Derived.Test.YtiofhdckhaejiaaDemP
namespace Go.Proofs.Ytiofhdckhaejiaa
open Go.RowKit

/-- An answer, each gain times m. -/
def stepM (m : Int) (s : List Int × Int) : List Int × Int := (s.1, m * s.2)
theorem gs_times (xs ys : List Int) (m : Int) (hm : 0 < m) : ∀ k, k ≤ xs.length → k ≤ ys.length → best (gs (xs.map (m * ·)) (ys.map (m * ·)) k) = stepM m (best (gs xs ys k))
  | 0, _, _ => by simp [gs, best, stepM]
  | k + 1, hx, hy => by
    have h1 : xs[k]? = some xs[k] := List.getElem?_eq_getElem (by omega)
    have h2 : ys[k]? = some ys[k] := List.getElem?_eq_getElem (by omega)
    rw [gs_at h1 h2, gs_at (x := m * xs[k]) (y := m * ys[k]) (by rw [List.getElem?_map, h1]; rfl) (by rw [List.getElem?_map, h2]; rfl), best_snoc, best_snoc, gs_times xs ys m hm k (by omega) (by omega)]
    generalize best (gs xs ys k) = s
    generalize xs[k] = x
    generalize ys[k] = y
    unfold stepG stepM
    simp only
    rw [← Int.mul_sub]
    have e1 : (m * s.2 < m * (x - y)) ↔ s.2 < x - y := Int.mul_lt_mul_left hm
    have e2 : (m * (x - y) = m * s.2) ↔ x - y = s.2 := ⟨fun h => Int.eq_of_mul_eq_mul_left (by omega) h, fun h => by rw [h]⟩
    by_cases c1 : s.2 < x - y
    · rw [if_pos c1, if_pos (e1.2 c1)]
    · rw [if_neg c1, if_neg (fun h => c1 (e1.1 h))]
      by_cases c2 : x - y = s.2
      · rw [if_pos c2, if_pos (e2.2 c2)]
      · rw [if_neg c2, if_neg (fun h => c2 (e2.1 h))]
theorem ofV_times {xs ys L L2 : List Int} {m g g2 r2 : Int} {n n2 : Bool} (hm : 0 < m) (h1 : ofV xs ys = (L, n, g, 0)) (hle : xs.length ≤ ys.length) (h2 : ofV (xs.map (m * ·)) (ys.map (m * ·)) = (L2, n2, g2, r2)) : (r2 = 1 ∧ L2 = [] ∧ n2 = false ∧ g2 = 0) ∨ (r2 = 0 ∧ L2 = L ∧ n2 = n ∧ g2 = m * g) := by
  rcases ofV_cases h2 with ⟨a, b, c, e, _⟩ | ⟨rfl, hk, hG2⟩
  · exact .inl ⟨a, b, c, e⟩
  · rcases ofV_cases h1 with ⟨h, _⟩ | ⟨_, hk1, hG1⟩
    · exact absurd h (by decide)
    · have hn1 := hG1.none_
      have hn2 := hG2.none_
      unfold ofV at h1 h2
      rw [if_pos hk1] at h1
      rw [if_pos hk, List.length_map, gs_times xs ys m hm _ (Nat.le_refl _) hle] at h2
      injection h1 with e1 h1
      injection h1 with e2 h1
      injection h1 with e3 e4
      injection h2 with f1 h2
      injection h2 with f2 h2
      injection h2 with f3 f4
      unfold stepM at f1 f3
      simp only at f1 f3
      rw [e1] at f1
      rw [e3] at f3
      refine .inr ⟨rfl, f1.symm, ?_, f3.symm⟩
      rw [hn1, hn2, ← f3, decide_eq_decide]
      constructor
      · intro h
        rcases Int.mul_eq_zero.1 h with h | h
        · omega
        · exact h
      · intro h
        rw [h, Int.mul_zero]

theorem Given.most {xs ys L : List Int} {n : Bool} {g : Int} (h : Given xs ys L n g) : g ≤ 1000000 := by
  by_cases hg : 0 < g
  · have hne := h.best.some_ hg
    cases hL : L with
    | nil => exact absurd hL hne
    | cons v l =>
      have hv : L[0]? = some v := by rw [hL]; rfl
      obtain ⟨h0, h1⟩ := h.best.ge 0 v hv
      have hk : v.toNat < xs.length := by omega
      have hk2 : v.toNat < ys.length := by have := h.len; omega
      have hx : xs[v.toNat]? = some xs[v.toNat] := List.getElem?_eq_getElem hk
      have hy : ys[v.toNat]? = some ys[v.toNat] := List.getElem?_eq_getElem hk2
      have hm := h.best.mem _ _ _ hx hy
      have ha : L.any (· == ((v.toNat : Nat) : Int)) = true := List.any_eq_true.2 ⟨v, List.mem_of_getElem? hv, by simp; omega⟩
      rw [ha] at hm
      have e := of_decide_eq_true hm.symm
      have b1 := h.bid _ (List.mem_of_getElem? hx)
      have b2 := h.prices _ (List.mem_of_getElem? hy)
      omega
  · omega

theorem mul_bd {m x b : Int} (hm : 0 < m) (hm2 : m ≤ 256) (h0 : 0 ≤ x) (hb : x ≤ b) : 0 ≤ m * x ∧ m * x ≤ 256 * b :=
  ⟨Int.mul_nonneg (by omega) h0, Int.le_trans (Int.mul_le_mul_of_nonneg_right hm2 h0) (by omega)⟩

set_option maxRecDepth 100000 in
set_option maxHeartbeats 4000000 in
theorem demandsTimes_w (A0 : Option Addr) (c0 : Nat) (xs : List Int) (A1 : Option Addr) (c1 : Nat) (ys : List Int) (d : Int) (w : World) (hx : In .i64 w A0 c0 xs) (hy : In .i64 w A1 c1 ys) (hd : (Lit.int .u8 d).wf = true) :
    Calls Try.prog 8 #[.slice A0 xs.length c0, .slice A1 ys.length c1, .int .u8 d] w fun e w' => e = .returned (.bool true) ∧ Below w.heap.size w w' := by
  have lx := hx.len
  have ly := hy.len
  have hd2 : 0 ≤ d ∧ d ≤ 255 := by
    simp [Lit.wf, IntKind.min, IntKind.max, IntKind.signed, IntKind.bits] at hd
    omega
  go_enter Try.func8, Try.ntmps8
  go_wp2_with fail
  refine (of_f A0 A1 c0 c1 xs ys w hx.rd hx.lenL hy.rd hy.lenL).mono ?_
  rintro e w1 ⟨A, L, n, g, r, rfl, hr, hk, hv⟩
  rcases ofV_cases hv with ⟨rfl, rfl, rfl, rfl, hno⟩ | ⟨rfl, hok, hG⟩
  · clear hv hno
    go_wp2_with fail
    refine (alive12_f w1).mono ?_
    rintro e w2 ⟨rfl, k2⟩
    go_wp2_with fail
    go_ret
    exact ⟨rfl, hk.trans k2⟩
  · have hle : xs.length ≤ ys.length := by have := hG.len; omega
    have hit := hG.items
    have hl8 : L.length ≤ 8 := by have := hG.best.short; omega
    have hgm := mul_bd (m := 1 + d) (by omega) (by omega) hG.best.g0 hG.most
    have HV := Lib.hid hv
    have HG := Lib.hid hG
    clear hv hok hG
    go_wp2_with fail
    obtain ⟨W1, hW1⟩ : ∃ W1, W1 = w1 := ⟨_, rfl⟩
    subst hW1
    go_loopw [12, 14] (fun v i wr => ∃ (k : Nat) (B : Option Addr) (c : Nat), k ≤ xs.length ∧ i = .int .i64 k ∧ v = .slice B k c ∧ Fr 3 wr W1.heap.size B k c (cs .i64 ((xs.map ((1 + d) * ·)).take k)) ∧ Keep W1 wr) (fun _ i _ => xs.length - (intOf i).toNat)
    case atStart => exact ⟨0, none, 0, Nat.zero_le _, rfl, rfl, Fr.empty _ _ _ _, Keep.refl _⟩
    case round =>
      obtain ⟨k, B, c, hk1, rfl, rfl, hfr, hkeep⟩ := hrel
      by_cases hlt : k < xs.length
      · obtain ⟨b1, o1, x, rfl, hxk, hc1⟩ := (hx.rd.keep (hk.trans hkeep)).int_at hlt
        have bx := HG.out.bid x (List.mem_of_getElem? hxk)
        have bm := mul_bd (m := 1 + d) (by omega) (by omega) bx.1 bx.2
        have HX := Lib.hid (show (xs.map ((1 + d) * ·))[k]? = some ((1 + d) * x) by rw [List.getElem?_map, hxk]; rfl)
        clear hxk
        go_wp2_with (at_builtin; refine wpList_append_fr _ rfl _ _ 23 rfl W1.heap.size 3 (.int .i64 0) 8 Try.underlying23 infoInt rfl B k c _ rfl (hfr.keep (Keep.alloc1 _ _)) (some ⟨wr.heap.size, 0, none⟩) 1 1 [.int .i64 ((1 + d) * x)] rfl rfl (Rd.one _ _ _) (one_int _ _) ?c1 ?c2 ?c3 ?_)
        case c1 => unfold maxLen; omega
        case c2 => omega
        case c3 => have := hkeep.size; simp; omega
        intro A' c' w2 happ
        have hk2 := happ.keep (hkeep.alloc _) (hfr.keep (Keep.alloc1 _ _))
        have hf1 := happ.fr
        rw [cs_take_succ HX.out] at hf1
        clear happ hfr
        go_wp2_with fail
        go_roundw
        case rel => exact ⟨k + 1, A', c', by omega, by go_num, rfl, hf1, hk2⟩
        case measure => simp [intOf]; omega
      · obtain rfl : k = xs.length := by omega
        rw [List.take_of_length_le (by simp)] at hfr
        go_wp2_with fail
        have hk3 := hk.trans hkeep
        have hr3 := hr.keep hkeep
        obtain ⟨W3, hW3⟩ : ∃ W3, W3 = wr := ⟨_, rfl⟩
        subst hW3
        go_loopw [13, 15] (fun v i wr => ∃ (k : Nat) (E : Option Addr) (c : Nat), k ≤ ys.length ∧ i = .int .i64 k ∧ v = .slice E k c ∧ Fr 3 wr W3.heap.size E k c (cs .i64 ((ys.map ((1 + d) * ·)).take k)) ∧ Keep W3 wr) (fun _ i _ => ys.length - (intOf i).toNat)
        case atStart => exact ⟨0, none, 0, Nat.zero_le _, rfl, rfl, Fr.empty _ _ _ _, Keep.refl _⟩
        case round =>
          obtain ⟨k, E, c2, hk1, rfl, rfl, hfe, hkeep2⟩ := hrel
          by_cases hlt : k < ys.length
          · obtain ⟨b1, o1, x, rfl, hxk, hc1⟩ := (hy.rd.keep (hk3.trans hkeep2)).int_at hlt
            have bx := HG.out.prices x (List.mem_of_getElem? hxk)
            have bm := mul_bd (m := 1 + d) (by omega) (by omega) bx.1 bx.2
            have HX := Lib.hid (show (ys.map ((1 + d) * ·))[k]? = some ((1 + d) * x) by rw [List.getElem?_map, hxk]; rfl)
            clear hxk
            go_wp2_with (at_builtin; refine wpList_append_fr _ rfl _ _ 23 rfl W3.heap.size 3 (.int .i64 0) 8 Try.underlying23 infoInt rfl E k c2 _ rfl (hfe.keep (Keep.alloc1 _ _)) (some ⟨wr.heap.size, 0, none⟩) 1 1 [.int .i64 ((1 + d) * x)] rfl rfl (Rd.one _ _ _) (one_int _ _) ?c1 ?c2 ?c3 ?_)
            case c1 => unfold maxLen; omega
            case c2 => omega
            case c3 => have := hkeep2.size; simp; omega
            intro A' c' w2 happ
            have hk2 := happ.keep (hkeep2.alloc _) (hfe.keep (Keep.alloc1 _ _))
            have hf1 := happ.fr
            rw [cs_take_succ HX.out] at hf1
            clear happ hfe
            go_wp2_with fail
            go_roundw
            case rel => exact ⟨k + 1, A', c', by omega, by go_num, rfl, hf1, hk2⟩
            case measure => simp [intOf]; omega
          · obtain rfl : k = ys.length := by omega
            rw [List.take_of_length_le (by simp)] at hfe
            have hk4 := hk3.trans hkeep2
            have hr4 := hr3.keep hkeep2
            have q1 := hfr.rd.keep hkeep2
            have q2 := hfe.rd
            clear hfr hfe
            go_wp2_with fail
            have hof := of_f B E c c2 (xs.map ((1 + d) * ·)) (ys.map ((1 + d) * ·)) wr q1 (len_small (by simp; omega)) q2 (len_small (by simp; omega))
            rw [List.length_map, List.length_map] at hof
            refine hof.mono ?_
            rintro e w5 ⟨A2, L2, n2, g2, r2, rfl, hr5, hk5, hv2⟩
            have hk6 := hk4.trans hk5
            have hr6 := hr4.keep hk5
            rcases ofV_times (by omega) HV.out hle hv2 with ⟨rfl, rfl, rfl, rfl⟩ | ⟨rfl, rfl, rfl, rfl⟩
            · clear hv2
              go_wp2_with fail
              refine (alive12_f _).mono ?_
              rintro e w7 ⟨rfl, k7⟩
              go_wp2_with fail
              go_ret
              exact ⟨rfl, hk6.trans k7⟩
            · clear hv2
              go_wp2_with fail
              refine (alive12_f _).mono ?_
              rintro e w7 ⟨rfl, k7⟩
              go_wp2_with fail
              refine (saysK (sameInts A2 A _ _ L2 L2 _ (hr5.keep k7) (hr6.keep k7) (by unfold Reach; omega) (by unfold Reach; omega))).mono ?_
              rintro e w8 ⟨he, k8⟩
              rw [decide_eq_true rfl] at he
              subst he
              go_wp2_with fail
              go_ret
              exact ⟨rfl, (hk6.trans k7).trans k8⟩
end Go.Proofs.Ytiofhdckhaejiaa
