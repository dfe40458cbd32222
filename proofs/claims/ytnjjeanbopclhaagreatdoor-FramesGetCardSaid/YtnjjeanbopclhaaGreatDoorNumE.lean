/-
  CONTRACTS for the package nums: PutBytes, GetBytes. Conditions: the slices are no longer than memory lets them be; a nil slice has no capacity.
-/
import Derived.Test.YtnjjeanbopclhaaGreatDoorNumD
namespace Go.Proofs.YtnjjeanbopclhaaGreatDoor
open Go.RowKit

theorem Rows.of {zs : List Int} {m : Nat} {A : Option Addr} {w w' : World} (hm : zs.length = m) (hf : Fr 5 w' w.heap.size A m m (cs .u8 zs)) (hk : Keep w w') : Rows zs w (.returned (.slice A m m)) w' := by
  subst hm
  exact ⟨A, rfl, hf, hk⟩
theorem length_putBy (l : List Int) : (putBy l).length = 2 + l.length := by simp [putBy]

set_option maxRecDepth 100000 in
set_option maxHeartbeats 1600000 in
theorem putBytes_f (A : Option Addr) (c : Nat) (xs : List Int) (B : Option Addr) (d : Nat) (ys : List Int) (w : World) (ha : Rd w A (cs .u8 xs)) (la : xs.length ≤ 140737488200000) (hA : A = none → c = 0)
    (hb : Rd w B (cs .u8 ys)) (hd : ys.length ≤ d) (lb : Len d) :
    Calls Tryz.prog 30 #[.slice A xs.length c, .slice B ys.length d] w (Rows (xs ++ putBy (ys.take 65535)) w) := by
  have lb' := lb.le
  have hd' : (ys.length : Int) ≤ d := by omega
  by_cases hbig : 65535 < ys.length
  · skip
    have hbI : (65535 : Int) < ys.length := by omega
    obtain ⟨zs, hz, e65⟩ : ∃ zs, zs = ys.take 65535 ∧ zs.length = 65535 := ⟨_, rfl, by simp; omega⟩
    have hbz : Rd w B (cs .u8 zs) := by rw [hz, ← cs_take]; exact hb.take 65535
    rw [← hz]
    have HE := Lib.hid e65
    clear hz e65 hb
    have hp0 : Calls Tryz.prog 29 #[.slice A xs.length c, .int .u64 ((65535 : Nat) : Int), .int .i64 2] w (PutP xs 65535 2 w) := put_f A c xs 65535 2 w ha (by omega) hA (by omega)
    go_enter Tryz.func30, Tryz.ntmps30
    go_wp2_with fail
    refine hp0.mono ?_
    rintro e w1 ⟨A1, rfl, hf1, hk1⟩
    go_wp2_with (at_builtin; refine wpList_append_fr _ rfl _ _ 25 rfl w.heap.size 5 (.int .u8 0) 1 Tryz.underlying25 infoByte rfl A1 _ _ _ rfl hf1 B 65535 d (cs .u8 zs) rfl ((length_cs _ _).trans HE.out) (hbz.keep hk1) (one_cs _ _) ?c1 ?c2 ?c3 ?_)
    case c1 => unfold maxLen; omega
    case c2 => omega
    case c3 => exact hk1.size
    intro A' c' w2 happ
    have hk2 := happ.keep hk1 hf1
    have hf2 := happ.fr
    clear happ
    rw [← cs_append, List.append_assoc] at hf2
    have hf3 : Fr 5 w2 w.heap.size A' (xs.length + 2 + 65535) c' (cs .u8 (xs ++ putBy zs)) := by rw [putBy, HE.out]; exact hf2
    clear hf2
    go_wp2_with fail
    refine (clipB_f A' _ c' _ hf3.cap (lenMax hf3.capMax)).mono ?_
    rintro e w3 ⟨rfl, rfl⟩
    go_wp2_with fail
    go_ret
    exact Rows.of (by rw [List.length_append, length_putBy, HE.out]) hf3.clip hk2
  · have e1 : ys.take 65535 = ys := List.take_of_length_le (by omega)
    rw [e1]
    clear e1
    have hp0 : Calls Tryz.prog 29 #[.slice A xs.length c, .int .u64 (ys.length : Int), .int .i64 2] w (PutP xs ys.length 2 w) := put_f A c xs ys.length 2 w ha (by omega) hA (by omega)
    go_enter Tryz.func30, Tryz.ntmps30
    go_wp2_with fail
    refine hp0.mono ?_
    rintro e w1 ⟨A1, rfl, hf1, hk1⟩
    go_wp2_with (at_builtin; refine wpList_append_fr _ rfl _ _ 25 rfl w.heap.size 5 (.int .u8 0) 1 Tryz.underlying25 infoByte rfl A1 _ _ _ rfl hf1 B ys.length d (cs .u8 ys) rfl (length_cs _ _) (hb.keep hk1) (one_cs _ _) ?c1 ?c2 ?c3 ?_)
    case c1 => unfold maxLen; omega
    case c2 => omega
    case c3 => exact hk1.size
    intro A' c' w2 happ
    have hk2 := happ.keep hk1 hf1
    have hf2 := happ.fr
    clear happ
    rw [← cs_append, List.append_assoc] at hf2
    go_wp2_with fail
    refine (clipB_f A' _ c' _ hf2.cap (lenMax hf2.capMax)).mono ?_
    rintro e w3 ⟨rfl, rfl⟩
    go_wp2_with fail
    go_ret
    exact Rows.of (by rw [List.length_append, length_putBy]; omega) hf2.clip hk2

/-- What GetBytes leaves. -/
def GetByP (xs : List Int) (w : World) (e : Ending) (w' : World) : Prop :=
  match getBy xs with
  | none => e = .returned (.tuple #[.slice none 0 0, .int .i64 0, .int .i64 5]) ∧ Keep w w'
  | some zs => ∃ A', e = .returned (.tuple #[.slice A' zs.length zs.length, .int .i64 ((2 + zs.length : Nat) : Int), .int .i64 0]) ∧ Fr 5 w' w.heap.size A' zs.length zs.length (cs .u8 zs) ∧ Keep w w'

set_option maxRecDepth 100000 in
set_option maxHeartbeats 1600000 in
theorem getBytes_f (A : Option Addr) (c : Nat) (xs : List Int) (w : World) (ha : Rd w A (cs .u8 xs)) (hb : Bytes xs) (hc : xs.length ≤ c) (lc : Len c) :
    Calls Tryz.prog 105 #[.slice A xs.length c] w (GetByP xs w) := by
  have lc' := lc.le
  have hc' : (xs.length : Int) ≤ c := by omega
  by_cases h2 : xs.length < 2
  · have hg : getV xs 2 = (0, 5) := by rw [getV, if_neg (by omega), if_pos (by omega)]
    have hn : getBy xs = none := by rw [getBy, if_pos (.inl h2)]
    unfold GetByP
    rw [hn]
    have hp := get_f A c xs 2 w ha hb hc lc
    unfold GetP at hp
    rw [hg] at hp
    clear hg hn
    go_enter Tryz.func105, Tryz.ntmps105
    go_wp2_with fail
    refine hp.mono ?_
    rintro e w1 ⟨rfl, hk1⟩
    go_wp2_with fail
    go_ret3
    exact ⟨rfl, hk1⟩
  · have hg : getV xs 2 = (val (xs.take 2), 0) := by rw [getV, if_neg (by omega), if_neg (by omega)]; rfl
    have hp := get_f A c xs 2 w ha hb hc lc
    unfold GetP at hp
    rw [hg] at hp
    have hV : val (xs.take 2) < 65536 := by
      have := val_lt (hb.take 2)
      rw [List.length_take, Nat.min_eq_left (by omega)] at this
      simpa using this
    obtain ⟨V, hv⟩ : ∃ V, V = val (xs.take 2) := ⟨_, rfl⟩
    rw [← hv] at hp hV
    have HV := Lib.hid hv
    clear hg hv
    by_cases h3 : xs.length < 2 + V
    · have hn : getBy xs = none := by rw [getBy, if_pos (.inr (by rw [← HV.out]; exact h3))]
      unfold GetByP
      rw [hn]
      clear hn
      go_enter Tryz.func105, Tryz.ntmps105
      go_wp2_with fail
      refine hp.mono ?_
      rintro e w1 ⟨rfl, hk1⟩
      go_wp2_with fail
      go_ret3
      exact ⟨rfl, hk1⟩
    · obtain ⟨zs, hz⟩ : ∃ zs, zs = (xs.drop 2).take V := ⟨_, rfl⟩
      have hn : getBy xs = some zs := by rw [getBy, ← HV.out, if_neg (by omega), hz]
      unfold GetByP
      rw [hn]
      clear hn
      have hzl : zs.length = V := by rw [hz, List.length_take, List.length_drop]; omega
      obtain ⟨b, off, rfl, hcell⟩ := ha.ad (by rw [length_cs]; omega)
      have hrz : Rd w (some ⟨b, off + 2, none⟩) (cs .u8 zs) := by
        rw [hz, ← cs_take, ← cs_drop]
        exact (ha.drop (n := 2) (cap := xs.length + 2) (by rw [length_cs]; omega) (some ⟨b, off + 2, none⟩) (fun _ => by simp [Addr.add_lit])).take V
      have HZ := Lib.hid hzl
      clear hz hzl hcell ha hb
      by_cases hc2 : c = 2
      · obtain rfl : V = 0 := by omega
        have hz0 : zs = [] := List.eq_nil_of_length_eq_zero HZ.out
        subst hz0
        subst hc2
        have hq := fun w1 => cloneB_f (some ⟨b, off, none⟩) 0 [] w1 (Rd.nil _ _) (by unfold Reach; simp) (fun h => by cases h)
        go_enter Tryz.func105, Tryz.ntmps105
        go_wp2_with fail
        refine hp.mono ?_
        rintro e w1 ⟨rfl, hk1⟩
        go_wp2_with fail
        refine (hq _).mono ?_
        rintro e w2 ⟨A2, c2, rfl, hf2, hk2⟩
        go_wp2_with fail
        refine (clipB_f A2 _ c2 _ hf2.cap (lenMax hf2.capMax)).mono ?_
        rintro e w3 ⟨rfl, rfl⟩
        go_wp2_with fail
        go_ret3
        exact ⟨A2, rfl, hf2.clip.mono hk1.size, hk1.trans hk2⟩
      · have hc3 : 2 < c := by omega
        have hq := fun w1 hw => cloneB_f (some ⟨b, off + 2, none⟩) (c - 2) zs w1 hw (by have := HZ.out; unfold Reach; omega) (fun h => by cases h)
        dsimp only
        rw [HZ.out] at hq ⊢
        go_enter Tryz.func105, Tryz.ntmps105
        go_wp2_with fail
        refine hp.mono ?_
        rintro e w1 ⟨rfl, hk1⟩
        go_wp2_with fail
        refine (hq _ (hrz.keep hk1)).mono ?_
        rintro e w2 ⟨A2, c2, rfl, hf2, hk2⟩
        go_wp2_with fail
        refine (clipB_f A2 _ c2 _ hf2.cap (lenMax hf2.capMax)).mono ?_
        rintro e w3 ⟨rfl, rfl⟩
        go_wp2_with fail
        go_ret3
        exact ⟨A2, rfl, hf2.clip.mono hk1.size, hk1.trans hk2⟩
end Go.Proofs.YtnjjeanbopclhaaGreatDoor
