/-
  THE WALK OF THE LAW DemandsMoved: it answers true, and turns nothing that was there. Conditions: the arguments are slices of int that came in; a uint16.
-/
import Derived.Test.YtiofhdckhaejiaaDemG
import Derived.Test.YtiofhdckhaejiaaDemP
namespace Go.Proofs.Ytiofhdckhaejiaa
open Go.RowKit

theorem gs_moved (xs ys : List Int) (d : Int) : ∀ k, k ≤ xs.length → k ≤ ys.length → gs (xs.map (· + d)) (ys.map (· + d)) k = gs xs ys k
  | 0, _, _ => rfl
  | k + 1, hx, hy => by
    have h1 : xs[k]? = some xs[k] := List.getElem?_eq_getElem (by omega)
    have h2 : ys[k]? = some ys[k] := List.getElem?_eq_getElem (by omega)
    rw [gs_at h1 h2, gs_at (x := xs[k] + d) (y := ys[k] + d) (by rw [List.getElem?_map, h1]; rfl) (by rw [List.getElem?_map, h2]; rfl), gs_moved xs ys d k (by omega) (by omega)]
    congr 3
    omega
theorem ofV_moved {xs ys L L2 : List Int} {d g g2 r2 : Int} {n n2 : Bool} (h1 : ofV xs ys = (L, n, g, 0)) (hle : xs.length ≤ ys.length) (h2 : ofV (xs.map (· + d)) (ys.map (· + d)) = (L2, n2, g2, r2)) : (r2 = 1 ∧ L2 = [] ∧ n2 = false ∧ g2 = 0) ∨ (r2 = 0 ∧ L2 = L ∧ n2 = n ∧ g2 = g) := by
  rcases ofV_cases h2 with ⟨a, b, c, e, _⟩ | ⟨rfl, hk, _⟩
  · exact .inl ⟨a, b, c, e⟩
  · rcases ofV_cases h1 with ⟨h, _⟩ | ⟨_, hk1, _⟩
    · exact absurd h (by decide)
    · refine .inr ⟨rfl, ?_⟩
      unfold ofV at h1 h2
      rw [if_pos hk1] at h1
      rw [if_pos hk, List.length_map, gs_moved xs ys d _ (Nat.le_refl _) hle, h1] at h2
      injection h2 with e1 h2
      injection h2 with e2 h2
      injection h2 with e3 e4
      exact ⟨e1.symm, e2.symm, e3.symm⟩

set_option maxRecDepth 100000 in
set_option maxHeartbeats 4000000 in
theorem demandsMoved_w (A0 : Option Addr) (c0 : Nat) (xs : List Int) (A1 : Option Addr) (c1 : Nat) (ys : List Int) (d : Int) (w : World) (hx : In .i64 w A0 c0 xs) (hy : In .i64 w A1 c1 ys) (hd : (Lit.int .u16 d).wf = true) :
    Calls Try.prog 5 #[.slice A0 xs.length c0, .slice A1 ys.length c1, .int .u16 d] w fun e w' => e = .returned (.bool true) ∧ Below w.heap.size w w' := by
  have lx := hx.len
  have ly := hy.len
  have hd2 : 0 ≤ d ∧ d ≤ 65535 := by
    simp [Lit.wf, IntKind.min, IntKind.max, IntKind.signed, IntKind.bits] at hd
    omega
  go_enter Try.func5, Try.ntmps5
  go_wp2_with fail
  refine (of_f A0 A1 c0 c1 xs ys w hx.rd hx.lenL hy.rd hy.lenL).mono ?_
  rintro e w1 ⟨A, L, n, g, r, rfl, hr, hk, hv⟩
  rcases ofV_cases hv with ⟨rfl, rfl, rfl, rfl, hno⟩ | ⟨rfl, hok, hG⟩
  · clear hv hno
    go_wp2_with fail
    refine (alive12_f w1).mono ?_
    rintro e w2 ⟨rfl, k2⟩
    go_wp2_with fail
    go_ret
    exact ⟨rfl, hk.trans k2⟩
  · have hle : xs.length ≤ ys.length := by have := hG.len; omega
    have hit := hG.items
    have hl8 : L.length ≤ 8 := by have := hG.best.short; omega
    have HV := Lib.hid hv
    have HG := Lib.hid hG
    clear hv hok hG
    go_wp2_with fail
    obtain ⟨W1, hW1⟩ : ∃ W1, W1 = w1 := ⟨_, rfl⟩
    subst hW1
    go_loopw [11, 13] (fun v i wr => ∃ (k : Nat) (B : Option Addr) (c : Nat), k ≤ xs.length ∧ i = .int .i64 k ∧ v = .slice B k c ∧ Fr 3 wr W1.heap.size B k c (cs .i64 ((xs.map (· + d)).take k)) ∧ Keep W1 wr) (fun _ i _ => xs.length - (intOf i).toNat)
    case atStart => exact ⟨0, none, 0, Nat.zero_le _, rfl, rfl, Fr.empty _ _ _ _, Keep.refl _⟩
    case round =>
      obtain ⟨k, B, c, hk1, rfl, rfl, hfr, hkeep⟩ := hrel
      by_cases hlt : k < xs.length
      · obtain ⟨b1, o1, x, rfl, hxk, hc1⟩ := (hx.rd.keep (hk.trans hkeep)).int_at hlt
        have bx := HG.out.bid x (List.mem_of_getElem? hxk)
        have HX := Lib.hid (show (xs.map (· + d))[k]? = some (x + d) by rw [List.getElem?_map, hxk]; rfl)
        clear hxk
        go_wp2_with (at_builtin; refine wpList_append_fr _ rfl _ _ 23 rfl W1.heap.size 3 (.int .i64 0) 8 Try.underlying23 infoInt rfl B k c _ rfl (hfr.keep (Keep.alloc1 _ _)) (some ⟨wr.heap.size, 0, none⟩) 1 1 [.int .i64 (x + d)] rfl rfl (Rd.one _ _ _) (one_int _ _) ?c1 ?c2 ?c3 ?_)
        case c1 => unfold maxLen; omega
        case c2 => omega
        case c3 => have := hkeep.size; simp; omega
        intro A' c' w2 happ
        have hk2 := happ.keep (hkeep.alloc _) (hfr.keep (Keep.alloc1 _ _))
        have hf1 := happ.fr
        rw [cs_take_succ HX.out] at hf1
        clear happ hfr
        go_wp2_with fail
        go_roundw
        case rel => exact ⟨k + 1, A', c', by omega, by go_num, rfl, hf1, hk2⟩
        case measure => simp [intOf]; omega
      · obtain rfl : k = xs.length := by omega
        rw [List.take_of_length_le (by simp)] at hfr
        go_wp2_with fail
        have hk3 := hk.trans hkeep
        have hr3 := hr.keep hkeep
        obtain ⟨W3, hW3⟩ : ∃ W3, W3 = wr := ⟨_, rfl⟩
        subst hW3
        go_loopw [12, 14] (fun v i wr => ∃ (k : Nat) (E : Option Addr) (c : Nat), k ≤ ys.length ∧ i = .int .i64 k ∧ v = .slice E k c ∧ Fr 3 wr W3.heap.size E k c (cs .i64 ((ys.map (· + d)).take k)) ∧ Keep W3 wr) (fun _ i _ => ys.length - (intOf i).toNat)
        case atStart => exact ⟨0, none, 0, Nat.zero_le _, rfl, rfl, Fr.empty _ _ _ _, Keep.refl _⟩
        case round =>
          obtain ⟨k, E, c2, hk1, rfl, rfl, hfe, hkeep2⟩ := hrel
          by_cases hlt : k < ys.length
          · obtain ⟨b1, o1, x, rfl, hxk, hc1⟩ := (hy.rd.keep (hk3.trans hkeep2)).int_at hlt
            have bx := HG.out.prices x (List.mem_of_getElem? hxk)
            have HX := Lib.hid (show (ys.map (· + d))[k]? = some (x + d) by rw [List.getElem?_map, hxk]; rfl)
            clear hxk
            go_wp2_with (at_builtin; refine wpList_append_fr _ rfl _ _ 23 rfl W3.heap.size 3 (.int .i64 0) 8 Try.underlying23 infoInt rfl E k c2 _ rfl (hfe.keep (Keep.alloc1 _ _)) (some ⟨wr.heap.size, 0, none⟩) 1 1 [.int .i64 (x + d)] rfl rfl (Rd.one _ _ _) (one_int _ _) ?c1 ?c2 ?c3 ?_)
            case c1 => unfold maxLen; omega
            case c2 => omega
            case c3 => have := hkeep2.size; simp; omega
            intro A' c' w2 happ
            have hk2 := happ.keep (hkeep2.alloc _) (hfe.keep (Keep.alloc1 _ _))
            have hf1 := happ.fr
            rw [cs_take_succ HX.out] at hf1
            clear happ hfe
            go_wp2_with fail
            go_roundw
            case rel => exact ⟨k + 1, A', c', by omega, by go_num, rfl, hf1, hk2⟩
            case measure => simp [intOf]; omega
          · obtain rfl : k = ys.length := by omega
            rw [List.take_of_length_le (by simp)] at hfe
            have hk4 := hk3.trans hkeep2
            have hr4 := hr3.keep hkeep2
            have q1 := hfr.rd.keep hkeep2
            have q2 := hfe.rd
            clear hfr hfe
            go_wp2_with fail
            have hof := of_f B E c c2 (xs.map (· + d)) (ys.map (· + d)) wr q1 (len_small (by simp; omega)) q2 (len_small (by simp; omega))
            rw [List.length_map, List.length_map] at hof
            refine hof.mono ?_
            rintro e w5 ⟨A2, L2, n2, g2, r2, rfl, hr5, hk5, hv2⟩
            have hk6 := hk4.trans hk5
            have hr6 := hr4.keep hk5
            rcases ofV_moved HV.out hle hv2 with ⟨rfl, rfl, rfl, rfl⟩ | ⟨rfl, rfl, rfl, rfl⟩
            · clear hv2
              go_wp2_with fail
              refine (alive12_f _).mono ?_
              rintro e w7 ⟨rfl, k7⟩
              go_wp2_with fail
              go_ret
              exact ⟨rfl, hk6.trans k7⟩
            · clear hv2
              go_wp2_with fail
              refine (alive12_f _).mono ?_
              rintro e w7 ⟨rfl, k7⟩
              go_wp2_with fail
              refine (saysK (sameInts A A2 _ _ L2 L2 _ (hr6.keep k7) (hr5.keep k7) (by unfold Reach; omega) (by unfold Reach; omega))).mono ?_
              rintro e w8 ⟨he, k8⟩
              rw [decide_eq_true rfl] at he
              subst he
              go_wp2_with fail
              go_ret
              exact ⟨rfl, (hk6.trans k7).trans k8⟩
end Go.Proofs.Ytiofhdckhaejiaa
