/-
  SEVERAL TEXTS IN ONE (merged by a program of mine: a claim has at most 60 files). CONTRACTS of the document's answer of chapter 1: Put, PutList. Conditions: the slices are no longer than memory lets them be. CONTRACT of the document's answer of chapter 1: PutBytes. Conditions: the slices are no longer than memory lets them be. CONTRACTS of the document's answer of chapter 21: bid. Conditions: the slice reads as a list no longer than memory lets it be. CONTRACT of the document's answer of chapter 21: may a frame be? Conditions: the slices of the frame read as lists. CONTRACT of the document's answer of chapter 21: may a reply be? Conditions: the slices of the reply read as lists. CONTRACT of the document's answer of chapter 21: a frame's bytes. Conditions: the slices of the frame read as lists. CONTRACT of the document's answer of chapter 21: a reply's bytes. Conditions: the slices of the reply read as lists.
-/
import Derived.Test.YtnjjeanbopclhaaGreatDoorNumB
import Derived.Test.YtnjjeanbopclhaaGreatDoorTwinI
import Derived.Test.YtnjjeanbopclhaaGreatDoorNumF
import Derived.Test.YtnjjeanbopclhaaGreatDoorTwinB
import Derived.Test.YtnjjeanbopclhaaGreatDoorFrmP
import Derived.Test.YtnjjeanbopclhaaGreatDoorSame
import Derived.Test.YtnjjeanbopclhaaGreatDoorOpenC
import Derived.Test.YtnjjeanbopclhaaGreatDoorFrmB
import Derived.Test.YtnjjeanbopclhaaGreatDoorFrmC
import Derived.Test.YtnjjeanbopclhaaGreatDoorFrmD
import Derived.Test.YtnjjeanbopclhaaGreatDoorFrmL

namespace Go.Proofs.YtnjjeanbopclhaaGreatDoor
open Go.RowKit

theorem sh_byte (v k : Nat) : (v : Int) / 2 ^ (8 * k) % 256 = ((v / 256 ^ k % 256 : Nat) : Int) := by
  have h : (2 : Int) ^ (8 * k) = ((256 ^ k : Nat) : Int) := by
    rw [Int.natCast_pow, Int.pow_mul]
    rfl
  rw [h]
  rfl
/-- A slice of the call's own that reads as zs; there may be room behind. -/
def RowsC (zs : List Int) (w : World) (e : Ending) (w' : World) : Prop :=
  ∃ A' c', e = .returned (.slice A' zs.length c') ∧ Fr 5 w' w.heap.size A' zs.length c' (cs .u8 zs) ∧ Keep w w'

set_option maxRecDepth 100000 in
set_option maxHeartbeats 2000000 in
theorem refPut_f (A : Option Addr) (c : Nat) (xs : List Int) (v : Nat) (b : Int) (w : World) (ha : Rd w A (cs .u8 xs)) (la : xs.length ≤ 1000000) (hb : -9223372036854775808 ≤ b ∧ b ≤ 9223372036854775807) :
    Calls Tryz.prog 34 #[.slice A xs.length c, .int .u64 (v : Int), .int .i64 b] w fun e w' => ∃ A' c', e = .returned (.slice A' (xs.length + clampB b) c') ∧ Fr 5 w' w.heap.size A' (xs.length + clampB b) c' (cs .u8 (xs ++ le v (clampB b))) ∧ Keep w w' := by
  have hcl1 : (clampB b : Int) ≤ max 0 (min b 8) := by unfold clampB; omega
  have hcl2 : max 0 (min b 8) ≤ (clampB b : Int) := by unfold clampB; omega
  obtain ⟨hb0, hb1⟩ := hb
  obtain ⟨cb, hcb⟩ : ∃ cb, cb = clampB b := ⟨_, rfl⟩
  rw [← hcb] at hcl1 hcl2 ⊢
  clear hcb
  go_enter Tryz.func34, Tryz.ntmps34
  go_wp2_with (at_builtin; refine wpList_append_fr _ rfl _ _ 25 rfl w.heap.size 5 (.int .u8 0) 1 Tryz.underlying25 infoByte rfl none 0 0 [] rfl (Fr.empty _ _ _ _) A xs.length c (cs .u8 xs) rfl (length_cs _ _) ha (one_cs _ _) ?c1 ?c2 ?c3 ?_)
  case c1 => unfold maxLen; omega
  case c2 => omega
  case c3 => exact Nat.le_refl _
  intro A1 c1 w1 happ
  have k1 := happ.keep (Keep.refl _) (Fr.empty _ _ _ _)
  have f1 := happ.fr
  clear happ
  try simp only [Nat.zero_add]
  go_wp2_with fail
  go_loopw [7, 8] (fun u i wr => ∃ (k : Nat) (A' : Option Addr) (c' : Nat), k ≤ cb ∧ i = .int .i64 k ∧ u = .slice A' (xs.length + k) c' ∧ Fr 5 wr w.heap.size A' (xs.length + k) c' (cs .u8 (xs ++ le v k)) ∧ Keep w wr) (fun _ i _ => cb - (intOf i).toNat)
  case atStart => exact ⟨0, A1, c1, Nat.zero_le _, rfl, rfl, by rw [show le v 0 = [] from rfl, List.append_nil]; exact f1, k1⟩
  case round =>
    clear f1 k1
    obtain ⟨k, A2, c2, hk, rfl, rfl, hfr, hkeep⟩ := hrel
    by_cases hlt : k < cb
    · have h8 : k < 8 := by omega
      have y1 : decide ((k : Int) < b) = true := decide_eq_true (by omega)
      have y2 : (k : Int) < 8 := by omega
      have hsh := sh_byte v k
      have HSH := Lib.hid hsh
      clear hsh
      go_wp2_with (at_builtin; refine wpList_append_fr _ rfl _ _ 25 rfl w.heap.size 5 (.int .u8 0) 1 Tryz.underlying25 infoByte rfl A2 _ c2 _ rfl (hfr.keep (Keep.alloc1 _ _)) (some ⟨wr.heap.size, 0, none⟩) 1 1 [.int .u8 ((v : Int) / 2 ^ (8 * k) % 256)] rfl rfl (Rd.one _ _ _) (one_int _ _) ?e1 ?e2 ?e3 ?_)
      case e1 => unfold maxLen; omega
      case e2 => omega
      case e3 => have := hkeep.size; simp; omega
      intro A' c' w2 happ
      have hk2 := happ.keep (hkeep.alloc _) (hfr.keep (Keep.alloc1 _ _))
      have hf2 := happ.fr
      rw [HSH.out, ← cs_one, ← cs_append, List.append_assoc, show le v k ++ [((v / 256 ^ k % 256 : Nat) : Int)] = le v (k + 1) from (le_succ v k).symm] at hf2
      clear happ hfr
      go_wp2_with fail
      go_roundw
      case rel => exact ⟨k + 1, A', c', by omega, by go_num, rfl, hf2, hk2⟩
      case measure => simp [intOf]; omega
    · obtain rfl : k = cb := by omega
      by_cases h8 : (k : Int) < b
      · have y1 : decide ((k : Int) < b) = true := decide_eq_true h8
        have y2 : decide ((k : Int) < 8) = false := decide_eq_false (by omega)
        go_wp2_with fail
        go_ret
        exact ⟨A2, c2, rfl, hfr, hkeep⟩
      · have y1 : decide ((k : Int) < b) = false := decide_eq_false h8
        go_wp2_with fail
        go_ret
        exact ⟨A2, c2, rfl, hfr, hkeep⟩
theorem refPut_r (A : Option Addr) (c : Nat) (xs : List Int) (v : Nat) (b : Int) (w : World) (ha : Rd w A (cs .u8 xs)) (la : xs.length ≤ 1000000) (hb : -9223372036854775808 ≤ b ∧ b ≤ 9223372036854775807) :
    Calls Tryz.prog 34 #[.slice A xs.length c, .int .u64 (v : Int), .int .i64 b] w (RowsC (xs ++ le v (clampB b)) w) :=
  (refPut_f A c xs v b w ha la hb).mono fun _ _ ⟨A', c', h1, h2, h3⟩ => by
    have e : (xs ++ le v (clampB b)).length = xs.length + clampB b := by simp
    exact ⟨A', c', by rw [e]; exact h1, by rw [e]; exact h2, h3⟩

set_option maxRecDepth 100000 in
set_option maxHeartbeats 1600000 in
theorem refPutList_f (A : Option Addr) (c : Nat) (xs : List Int) (B : Option Addr) (d : Nat) (ys : List Int) (w : World) (ha : Rd w A (cs .u8 xs)) (la : xs.length ≤ 900000)
    (hb : Rd w B (cs .i64 ys)) (hd : ys.length ≤ d) (lb : Len d) :
    Calls Tryz.prog 36 #[.slice A xs.length c, .slice B ys.length d] w (RowsC (xs ++ putL (ys.take 255)) w) := by
  have lb' := lb.le
  have hd' : (ys.length : Int) ≤ d := by omega
  obtain ⟨zs, hz⟩ : ∃ zs, zs = ys.take 255 := ⟨_, rfl⟩
  have hz1 : (zs.length : Int) = min (ys.length : Int) 255 := by rw [hz, List.length_take]; omega
  have hbz : Rd w B (cs .i64 zs) := by rw [hz, ← cs_take]; exact hb.take 255
  rw [← hz]
  have HZ := Lib.hid hz
  clear hz hb
  have hw0 : Keep w w := Keep.refl w
  by_cases hbig : 255 < ys.length
  case' pos =>
    have hl1 : zs.length ≤ 255 := by omega
    have hl2 : 255 ≤ zs.length := by omega
    have e255 : zs.length = 255 := by omega
    have hp0 := refPut_r A c xs 255 1 w ha (by omega) (by omega)
    rw [← e255, putAcc_zero] at hp0
    have HE := Lib.hid e255
    clear e255 hz1
    have hbI : (255 : Int) < ys.length := by omega
    go_enter Tryz.func36, Tryz.ntmps36
    go_wp2_with fail
    rw [HE.out] at hp0
    refine hp0.mono ?_
  case' neg =>
    have e1 : zs = ys := by rw [HZ.out]; exact List.take_of_length_le (by omega)
    subst e1
    have hl1 : zs.length ≤ 255 := by omega
    have hp0 := refPut_r A c xs zs.length 1 w ha (by omega) (by omega)
    rw [putAcc_zero] at hp0
    clear hz1
    go_enter Tryz.func36, Tryz.ntmps36
    go_wp2_with fail
    refine hp0.mono ?_
  all_goals
    rintro e w1 ⟨A1, c1, rfl, hf1, hk1⟩
    go_wp2_with fail
    go_loopw [5, 6] (fun s i wr => ∃ (k : Nat) (A' : Option Addr) (c' : Nat), k ≤ zs.length ∧ i = .int .i64 k ∧ s = .slice A' (putAcc xs zs k).length c' ∧ Fr 5 wr w.heap.size A' (putAcc xs zs k).length c' (cs .u8 (putAcc xs zs k)) ∧ Keep w wr) (fun _ i _ => zs.length - (intOf i).toNat)
    case atStart => exact ⟨0, A1, c1, Nat.zero_le _, rfl, rfl, hf1, hk1⟩
    case round =>
      obtain ⟨k, A2, c2, hk, rfl, rfl, hfr, hkeep⟩ := hrel
      by_cases hlt : k < zs.length
      · obtain ⟨b1, o1, x, rfl, hxk, hc1⟩ := (hbz.keep hkeep).int_at hlt
        have hla := length_putAcc xs zs k
        have hp := refPut_r A2 c2 (putAcc xs zs k) (u64 x) 4 wr hfr.rd (by omega) (by omega)
        rw [u64_cast, putAcc_succ hxk] at hp
        clear hxk hla
        go_wp2_with fail
        refine hp.mono ?_
        rintro e w2 ⟨A3, c3, rfl, hf2, hk2⟩
        go_wp2_with fail
        go_roundw
        case rel => exact ⟨k + 1, A3, c3, by omega, by go_num, rfl, hf2.mono hkeep.size, hkeep.trans hk2⟩
        case measure => simp [intOf]; omega
      · obtain rfl : k = zs.length := by omega
        go_wp2_with fail
        go_ret
        rw [putAcc_all] at hfr ⊢
        exact ⟨A2, c2, rfl, hfr, hkeep⟩
end Go.Proofs.YtnjjeanbopclhaaGreatDoor

namespace Go.Proofs.YtnjjeanbopclhaaGreatDoor
open Go.RowKit

set_option maxRecDepth 100000 in
set_option maxHeartbeats 1600000 in
theorem refPutBytes_f (A : Option Addr) (c : Nat) (xs : List Int) (B : Option Addr) (d : Nat) (ys : List Int) (w : World) (ha : Rd w A (cs .u8 xs)) (la : xs.length ≤ 900000)
    (hb : Rd w B (cs .u8 ys)) (hd : ys.length ≤ d) (lb : Len d) :
    Calls Tryz.prog 35 #[.slice A xs.length c, .slice B ys.length d] w (RowsC (xs ++ putBy (ys.take 65535)) w) := by
  have lb' := lb.le
  have hd' : (ys.length : Int) ≤ d := by omega
  by_cases hbig : 65535 < ys.length
  · have hbI : (65535 : Int) < ys.length := by omega
    obtain ⟨zs, hz, e65⟩ : ∃ zs, zs = ys.take 65535 ∧ zs.length = 65535 := ⟨_, rfl, by simp; omega⟩
    have hbz : Rd w B (cs .u8 zs) := by rw [hz, ← cs_take]; exact hb.take 65535
    rw [← hz]
    have HE := Lib.hid e65
    clear hz e65 hb
    have hp0 := refPut_f A c xs 65535 2 w ha (by omega) (by omega)
    go_enter Tryz.func35, Tryz.ntmps35
    go_wp2_with fail
    refine hp0.mono ?_
    rintro e w1 ⟨A1, c1, rfl, hf1, hk1⟩
    rw [show clampB 2 = 2 from rfl] at hf1 ⊢
    go_wp2_with (at_builtin; refine wpList_append_fr _ rfl _ _ 25 rfl w.heap.size 5 (.int .u8 0) 1 Tryz.underlying25 infoByte rfl A1 _ _ _ rfl hf1 B 65535 d (cs .u8 zs) rfl ((length_cs _ _).trans HE.out) (hbz.keep hk1) (one_cs _ _) ?c1 ?c2 ?c3 ?_)
    case c1 => unfold maxLen; omega
    case c2 => omega
    case c3 => exact hk1.size
    intro A' c' w2 happ
    have hk2 := happ.keep hk1 hf1
    have hf2 := happ.fr
    clear happ
    rw [← cs_append, List.append_assoc] at hf2
    have hlz : (xs ++ putBy zs).length = xs.length + 2 + 65535 := by rw [List.length_append, length_putBy, HE.out]
    have hf3 : Fr 5 w2 w.heap.size A' (xs.length + 2 + 65535) c' (cs .u8 (xs ++ putBy zs)) := by rw [putBy, HE.out]; exact hf2
    have HLZ := Lib.hid hlz
    clear hf2 hlz
    go_wp2_with fail
    go_ret
    exact ⟨A', c', by rw [HLZ.out]; rfl, by rw [HLZ.out]; exact hf3, hk2⟩
  · have e1 : ys.take 65535 = ys := List.take_of_length_le (by omega)
    rw [e1]
    clear e1
    have hp0 := refPut_f A c xs ys.length 2 w ha (by omega) (by omega)
    go_enter Tryz.func35, Tryz.ntmps35
    go_wp2_with fail
    refine hp0.mono ?_
    rintro e w1 ⟨A1, c1, rfl, hf1, hk1⟩
    rw [show clampB 2 = 2 from rfl] at hf1 ⊢
    go_wp2_with (at_builtin; refine wpList_append_fr _ rfl _ _ 25 rfl w.heap.size 5 (.int .u8 0) 1 Tryz.underlying25 infoByte rfl A1 _ _ _ rfl hf1 B ys.length d (cs .u8 ys) rfl (length_cs _ _) (hb.keep hk1) (one_cs _ _) ?c1 ?c2 ?c3 ?_)
    case c1 => unfold maxLen; omega
    case c2 => omega
    case c3 => exact hk1.size
    intro A' c' w2 happ
    have hk2 := happ.keep hk1 hf1
    have hf2 := happ.fr
    clear happ
    rw [← cs_append, List.append_assoc] at hf2
    have hlz : (xs ++ putBy ys).length = xs.length + 2 + ys.length := by rw [List.length_append, length_putBy]; omega
    have HLZ := Lib.hid hlz
    clear hlz
    go_wp2_with fail
    go_ret
    exact ⟨A', c', by rw [HLZ.out]; rfl, by rw [HLZ.out]; exact hf2, hk2⟩
end Go.Proofs.YtnjjeanbopclhaaGreatDoor

namespace Go.Proofs.YtnjjeanbopclhaaGreatDoor
open Go.RowKit

theorem within_take {most : Int} {l : List Int} {k : Nat} {x : Int} (h : within most (l.take k) = true) (hx : l[k]? = some x) (h0 : 0 ≤ x) (h1 : x ≤ most) : within most (l.take (k + 1)) = true := by
  rw [List.take_add_one, hx]
  unfold within at *
  simp [h, h0, h1]
theorem within_not {most : Int} {l : List Int} {k : Nat} {x : Int} (hx : l[k]? = some x) (h : x < 0 ∨ most < x) : within most l = false := by
  unfold within
  rw [List.all_eq_false]
  exact ⟨x, List.mem_of_getElem? hx, by simp; omega⟩
theorem bidOk_lt {l : List Int} (h : l.length < 1) : bidOk l = false := by
  unfold bidOk
  rw [decide_eq_false (by omega)]
  rfl
theorem bidOk_gt {l : List Int} (h : 8 < l.length) : bidOk l = false := by
  unfold bidOk
  rw [decide_eq_false (p := l.length ≤ 8) (by omega), Bool.and_false]
  rfl
theorem bidOk_in {l : List Int} (h : 1 ≤ l.length) (k : l.length ≤ 8) : bidOk l = within 1000000 l := by
  unfold bidOk
  rw [decide_eq_true h, decide_eq_true k]
  rfl

set_option maxRecDepth 100000 in
set_option maxHeartbeats 800000 in
theorem refBid_f (A : Option Addr) (c : Nat) (xs : List Int) (w : World) (ha : Rd w A (cs .i64 xs)) (la : Len xs.length) :
    Calls Tryz.prog 82 #[.slice A xs.length c] w (Says w (bidOk xs)) := by
  have la' := la.le
  by_cases h1 : xs.length < 1
  · have z1 : ((xs.length : Int) < 1) = True := eq_true (by omega)
    have z2 : decide ((xs.length : Int) < 1) = true := decide_eq_true (by omega)
    have HB := Lib.hid (bidOk_lt h1)
    clear h1
    go_enter Tryz.func82, Tryz.ntmps82
    go_wp2_with fail
    go_ret
    exact Says.of 0 rfl HB.out.symm
  by_cases h8 : 8 < xs.length
  · have z1 : ((xs.length : Int) < 1) = False := eq_false (by omega)
    have z2 : decide ((xs.length : Int) < 1) = false := decide_eq_false (by omega)
    have z3 : ((8 : Int) < (xs.length : Int)) = True := eq_true (by omega)
    have z4 : decide ((8 : Int) < (xs.length : Int)) = true := decide_eq_true (by omega)
    have HB := Lib.hid (bidOk_gt h8)
    clear h1 h8
    go_enter Tryz.func82, Tryz.ntmps82
    go_wp2_with fail
    go_ret
    exact Says.of 0 rfl HB.out.symm
  have z1 : ((xs.length : Int) < 1) = False := eq_false (by omega)
  have z2 : decide ((xs.length : Int) < 1) = false := decide_eq_false (by omega)
  have z3 : ((8 : Int) < (xs.length : Int)) = False := eq_false (by omega)
  have z4 : decide ((8 : Int) < (xs.length : Int)) = false := decide_eq_false (by omega)
  have HB := Lib.hid (bidOk_in (l := xs) (by omega) (by omega))
  have H8 : Hid (xs.length ≤ 8) := Lib.hid (by omega)
  clear h1 h8
  go_enter Tryz.func82, Tryz.ntmps82
  go_wp2_with fail
  go_loop [3] (fun i => ∃ k : Nat, k ≤ xs.length ∧ i = .int .i64 k ∧ within 1000000 (xs.take k) = true) (fun i => xs.length - (intOf i).toNat)
  case atStart => exact ⟨0, Nat.zero_le _, rfl, rfl⟩
  case round =>
    obtain ⟨k, hk, rfl, hwi⟩ := hrel
    have HW := Lib.hid hwi
    clear hwi
    by_cases hlt : k < xs.length
    · obtain ⟨b1, o1, x, rfl, hx, hc1⟩ := ha.int_at hlt
      have HX := Lib.hid hx
      clear hx
      by_cases h0 : x < 0
      · have d0 : decide (x < 0) = true := decide_eq_true h0
        go_wp2_with fail
        try rw [Exit.noGoto_ret]
        go_ret
        exact Says.of 0 rfl (by rw [HB.out, within_not HX.out (.inl h0)])
      · have d0 : decide (x < 0) = false := decide_eq_false h0
        by_cases h1 : 1000000 < x
        · have d1 : decide (1000000 < x) = true := decide_eq_true h1
          go_wp2_with fail
          try rw [Exit.noGoto_ret]
          go_ret
          exact Says.of 0 rfl (by rw [HB.out, within_not HX.out (.inr h1)])
        · have d1 : decide (1000000 < x) = false := decide_eq_false h1
          go_wp2_with fail
          go_round
          case rel => exact ⟨k + 1, by omega, by go_num, within_take HW.out HX.out (by omega) (by omega)⟩
          case measure => simp [intOf]; omega
    · obtain rfl : k = xs.length := by omega
      go_wp2_with fail
      try rw [Exit.noGoto_ret]
      go_ret
      exact Says.of 0 rfl (by have := HW.out; rw [List.take_length] at this; rw [HB.out]; exact this.symm)
end Go.Proofs.YtnjjeanbopclhaaGreatDoor

namespace Go.Proofs.YtnjjeanbopclhaaGreatDoor
open Go.RowKit

theorem dT {p : Prop} [Decidable p] (h : p) : decide p = true ∧ p = True := ⟨decide_eq_true h, eq_true h⟩
theorem dF {p : Prop} [Decidable p] (h : ¬p) : decide p = false ∧ p = False := ⟨decide_eq_false h, eq_false h⟩

set_option maxRecDepth 100000 in
set_option maxHeartbeats 16000000 in
/-- salesroomref21.May -/
theorem refMay_f (f : Frm) (w : World) (hf : f.Ok w) :
    Calls Tryz.prog 33 #[f.val] w fun e w' => e = .returned (.bool (mayF f.v)) ∧ Keep w w' := by
  have ls := hf.s.len.le
  have lb := hf.b.len.le
  have bF := Blk.new w 28 f.cells
  have kk : Keep w (w.alloc (.cells #[.int .u8 f.v.ask, .int .u8 f.v.who, .int .u32 f.v.seq, .int .u64 f.v.tok, .slice f.sa f.v.sec.length f.sc, .slice f.ba f.v.bid.length f.bc] 28)) := Keep.alloc1 _ _
  have hb := fun w1 (k1 : Keep w w1) => saysK (refBid_f f.ba f.bc f.v.bid w1 (hf.keep k1).b.rd hf.b.len)
  obtain ⟨⟨ask, who, seq, tok, sec, bid⟩, sa, sc, ba, bc⟩ := f
  obtain ⟨M, hm⟩ : ∃ M, M = mayF ⟨ask, who, seq, tok, sec, bid⟩ := ⟨_, rfl⟩
  unfold Frm.cells at bF
  unfold Frm.val
  simp only at ls lb hb bF kk ⊢
  rw [← hm]
  clear hf
  have b0' : ((bid.length : Int) == 0) = decide (bid.length = 0) := by
    by_cases h : bid.length = 0 <;> simp [h]
  generalize hBl : decide (bid.length = 0) = Bl at b0'
  generalize hw1 : w.alloc (.cells #[.int .u8 ask, .int .u8 who, .int .u32 seq, .int .u64 tok, .slice sa sec.length sc, .slice ba bid.length bc] 28) = w1 at kk bF
  have HW := Lib.hid hw1
  clear hw1
  obtain ⟨x, hx⟩ : ∃ x : Int, x = ask := ⟨_, rfl⟩
  obtain ⟨y, hy⟩ : ∃ y : Int, y = seq := ⟨_, rfl⟩
  obtain ⟨z, hz⟩ : ∃ z : Int, z = tok := ⟨_, rfl⟩
  rw [← hx, ← hy, ← hz] at bF HW ⊢
  have u0 := bF.cell_ (i := 0) rfl
  have u2 := bF.cell_ (i := 2) rfl
  have u3 := bF.cell_ (i := 3) rfl
  have u4 := bF.cell_ (i := 4) rfl
  have u5 := bF.cell_ (i := 5) rfl
  clear bF
  rcases (by omega : (ask = 0) ∨ (11 ≤ ask) ∨ (ask = 1) ∨ (ask = 2) ∨ (ask = 3) ∨ (ask = 10) ∨ (4 ≤ ask ∧ ask ≤ 9)) with ha | ha | ha | ha | ha | ha | ha
  · have a1 := dT (p := x < 1) (by omega)
    obtain ⟨a1, a1'⟩ := a1
    have e1 : (x == 1) = false := beq_false_of_ne (by omega)
    have e2 : (x == 2) = false := beq_false_of_ne (by omega)
    have e3 : (x == 3) = false := beq_false_of_ne (by omega)
    have e10 : (x == 10) = false := beq_false_of_ne (by omega)
    have HM : Hid (M = false) := Lib.hid (by rw [hm]; clear hm hb kk; unfold mayF; simp [*])
    clear hm hx hy hz
    try replace ha := Lib.hid ha
    try replace hq := Lib.hid hq
    try replace ht := Lib.hid ht
    try replace hs := Lib.hid hs
    try replace hs2 := Lib.hid hs2
    go_enter Tryz.func33, Tryz.ntmps33
    go_upto_region 1 with fail
    rw [HW.out]
    go_wp2_with fail
    go_ret
    exact ⟨by first | (rw [HM.out]; done) | (rw [HM.out]; rfl), kk⟩
  · have a1 := dF (p := x < 1) (by omega)
    have a2 := dT (p := 10 < x) (by omega)
    obtain ⟨a1, a1'⟩ := a1
    obtain ⟨a2, a2'⟩ := a2
    have e1 : (x == 1) = false := beq_false_of_ne (by omega)
    have e2 : (x == 2) = false := beq_false_of_ne (by omega)
    have e3 : (x == 3) = false := beq_false_of_ne (by omega)
    have e10 : (x == 10) = false := beq_false_of_ne (by omega)
    have HM : Hid (M = false) := Lib.hid (by rw [hm]; clear hm hb kk; have k0 : ¬(ask ≤ 10) := (by omega); unfold mayF; simp [*])
    clear hm hx hy hz
    try replace ha := Lib.hid ha
    try replace hq := Lib.hid hq
    try replace ht := Lib.hid ht
    try replace hs := Lib.hid hs
    try replace hs2 := Lib.hid hs2
    go_enter Tryz.func33, Tryz.ntmps33
    go_upto_region 1 with fail
    rw [HW.out]
    go_wp2_with fail
    go_ret
    exact ⟨by first | (rw [HM.out]; done) | (rw [HM.out]; rfl), kk⟩
  · have a1 := dF (p := x < 1) (by omega)
    have a2 := dF (p := 10 < x) (by omega)
    obtain ⟨a1, a1'⟩ := a1
    obtain ⟨a2, a2'⟩ := a2
    have e1 : (x == 1) = true := beq_iff_eq.2 (by omega)
    have e2 : (x == 2) = false := beq_false_of_ne (by omega)
    have e3 : (x == 3) = false := beq_false_of_ne (by omega)
    have e10 : (x == 10) = false := beq_false_of_ne (by omega)
    by_cases hq : seq = 0
    · have q1 : (y == 0) = true := beq_iff_eq.2 (by omega)
      have q2 : (y != 0) = false := by simp only [bne, q1, Bool.not_true]
      by_cases ht : tok = 0
      · have t1 : (z == 0) = true := beq_iff_eq.2 (by omega)
        have t2 : (z != 0) = false := by simp only [bne, t1, Bool.not_true]
        by_cases hs : 0 < sec.length
        · obtain ⟨s0, s0'⟩ := dT (p := (0 : Int) < (sec.length : Int)) (by omega)
          obtain ⟨s1, s1'⟩ := dT (p := 0 < sec.length) (by omega)
          obtain ⟨s2, s2'⟩ := dF (p := (sec.length : Int) < 1) (by omega)
          by_cases hs2 : 16 < sec.length
          · obtain ⟨s3, s3'⟩ := dT (p := (16 : Int) < (sec.length : Int)) (by omega)
            obtain ⟨s4, s4'⟩ := dT (p := 16 < sec.length) (by omega)
            have HM : Hid (M = false) := Lib.hid (by rw [hm]; clear hm hb kk; have k0 : ¬(sec.length ≤ 16) := (by omega); unfold mayF; simp [*])
            clear hm hx hy hz
            try replace ha := Lib.hid ha
            try replace hq := Lib.hid hq
            try replace ht := Lib.hid ht
            try replace hs := Lib.hid hs
            try replace hs2 := Lib.hid hs2
            go_enter Tryz.func33, Tryz.ntmps33
            go_upto_region 1 with fail
            rw [HW.out]
            go_wp2_with fail
            go_ret
            exact ⟨by first | (rw [HM.out]; done) | (rw [HM.out]; rfl), kk⟩
          · obtain ⟨s3, s3'⟩ := dF (p := (16 : Int) < (sec.length : Int)) (by omega)
            obtain ⟨s4, s4'⟩ := dF (p := 16 < sec.length) (by omega)
            have HM : Hid (M = Bl) := Lib.hid (by rw [hm]; clear hm hb kk; have k0 : sec.length ≤ 16 := (by omega); unfold mayF; simp [*]; rw [← hBl]; simp)
            clear hm hx hy hz
            try replace ha := Lib.hid ha
            try replace hq := Lib.hid hq
            try replace ht := Lib.hid ht
            try replace hs := Lib.hid hs
            try replace hs2 := Lib.hid hs2
            go_enter Tryz.func33, Tryz.ntmps33
            go_upto_region 1 with fail
            rw [HW.out]
            go_wp2_with fail
            go_ret
            exact ⟨by first | (rw [HM.out]; done) | (rw [HM.out]; rfl), kk⟩
        · obtain ⟨s0, s0'⟩ := dF (p := (0 : Int) < (sec.length : Int)) (by omega)
          obtain ⟨s1, s1'⟩ := dF (p := 0 < sec.length) (by omega)
          obtain ⟨s2, s2'⟩ := dT (p := (sec.length : Int) < 1) (by omega)
          have HM : Hid (M = false) := Lib.hid (by rw [hm]; clear hm hb kk; unfold mayF; simp [*])
          clear hm hx hy hz
          try replace ha := Lib.hid ha
          try replace hq := Lib.hid hq
          try replace ht := Lib.hid ht
          try replace hs := Lib.hid hs
          try replace hs2 := Lib.hid hs2
          go_enter Tryz.func33, Tryz.ntmps33
          go_upto_region 1 with fail
          rw [HW.out]
          go_wp2_with fail
          go_ret
          exact ⟨by first | (rw [HM.out]; done) | (rw [HM.out]; rfl), kk⟩
      · have t1 : (z == 0) = false := beq_false_of_ne (by omega)
        have t2 : (z != 0) = true := by simp only [bne, t1, Bool.not_false]
        have HM : Hid (M = false) := Lib.hid (by rw [hm]; clear hm hb kk; unfold mayF; simp [*])
        clear hm hx hy hz
        try replace ha := Lib.hid ha
        try replace hq := Lib.hid hq
        try replace ht := Lib.hid ht
        try replace hs := Lib.hid hs
        try replace hs2 := Lib.hid hs2
        go_enter Tryz.func33, Tryz.ntmps33
        go_upto_region 1 with fail
        rw [HW.out]
        go_wp2_with fail
        go_ret
        exact ⟨by first | (rw [HM.out]; done) | (rw [HM.out]; rfl), kk⟩
    · have q1 : (y == 0) = false := beq_false_of_ne (by omega)
      have q2 : (y != 0) = true := by simp only [bne, q1, Bool.not_false]
      have HM : Hid (M = false) := Lib.hid (by rw [hm]; clear hm hb kk; unfold mayF; simp [*])
      clear hm hx hy hz
      try replace ha := Lib.hid ha
      try replace hq := Lib.hid hq
      try replace ht := Lib.hid ht
      try replace hs := Lib.hid hs
      try replace hs2 := Lib.hid hs2
      go_enter Tryz.func33, Tryz.ntmps33
      go_upto_region 1 with fail
      rw [HW.out]
      go_wp2_with fail
      go_ret
      exact ⟨by first | (rw [HM.out]; done) | (rw [HM.out]; rfl), kk⟩
  · have a1 := dF (p := x < 1) (by omega)
    have a2 := dF (p := 10 < x) (by omega)
    obtain ⟨a1, a1'⟩ := a1
    obtain ⟨a2, a2'⟩ := a2
    have e1 : (x == 1) = false := beq_false_of_ne (by omega)
    have e2 : (x == 2) = true := beq_iff_eq.2 (by omega)
    have e3 : (x == 3) = false := beq_false_of_ne (by omega)
    have e10 : (x == 10) = false := beq_false_of_ne (by omega)
    by_cases hq : seq = 0
    · have q1 : (y == 0) = true := beq_iff_eq.2 (by omega)
      have q2 : (y != 0) = false := by simp only [bne, q1, Bool.not_true]
      have HM : Hid (M = false) := Lib.hid (by rw [hm]; clear hm hb kk; unfold mayF; simp [*])
      clear hm hx hy hz
      try replace ha := Lib.hid ha
      try replace hq := Lib.hid hq
      try replace ht := Lib.hid ht
      try replace hs := Lib.hid hs
      try replace hs2 := Lib.hid hs2
      go_enter Tryz.func33, Tryz.ntmps33
      go_upto_region 1 with fail
      rw [HW.out]
      go_wp2_with fail
      go_ret
      exact ⟨by first | (rw [HM.out]; done) | (rw [HM.out]; rfl), kk⟩
    · have q1 : (y == 0) = false := beq_false_of_ne (by omega)
      have q2 : (y != 0) = true := by simp only [bne, q1, Bool.not_false]
      by_cases ht : tok = 0
      · have t1 : (z == 0) = true := beq_iff_eq.2 (by omega)
        have t2 : (z != 0) = false := by simp only [bne, t1, Bool.not_true]
        by_cases hs : 0 < sec.length
        · obtain ⟨s0, s0'⟩ := dT (p := (0 : Int) < (sec.length : Int)) (by omega)
          obtain ⟨s1, s1'⟩ := dT (p := 0 < sec.length) (by omega)
          obtain ⟨s2, s2'⟩ := dF (p := (sec.length : Int) < 1) (by omega)
          have HM : Hid (M = false) := Lib.hid (by rw [hm]; clear hm hb kk; unfold mayF; simp [*])
          clear hm hx hy hz
          try replace ha := Lib.hid ha
          try replace hq := Lib.hid hq
          try replace ht := Lib.hid ht
          try replace hs := Lib.hid hs
          try replace hs2 := Lib.hid hs2
          go_enter Tryz.func33, Tryz.ntmps33
          go_upto_region 1 with fail
          rw [HW.out]
          go_wp2_with fail
          go_ret
          exact ⟨by first | (rw [HM.out]; done) | (rw [HM.out]; rfl), kk⟩
        · obtain ⟨s0, s0'⟩ := dF (p := (0 : Int) < (sec.length : Int)) (by omega)
          obtain ⟨s1, s1'⟩ := dF (p := 0 < sec.length) (by omega)
          obtain ⟨s2, s2'⟩ := dT (p := (sec.length : Int) < 1) (by omega)
          have HM : Hid (M = bidOk bid) := Lib.hid (by rw [hm]; clear hm hb kk; have k0 : sec.length ≤ 16 := (by omega); unfold mayF; simp [*])
          clear hm hx hy hz
          try replace ha := Lib.hid ha
          try replace hq := Lib.hid hq
          try replace ht := Lib.hid ht
          try replace hs := Lib.hid hs
          try replace hs2 := Lib.hid hs2
          go_enter Tryz.func33, Tryz.ntmps33
          go_upto_region 1 with fail
          rw [HW.out]
          go_wp2_with fail
          refine (hb _ kk).mono ?_
          rintro e w2 ⟨rfl, k2⟩
          go_wp2_with fail
          go_ret
          exact ⟨by first | (rw [HM.out]; done) | (rw [HM.out]; rfl), kk.trans k2⟩
      · have t1 : (z == 0) = false := beq_false_of_ne (by omega)
        have t2 : (z != 0) = true := by simp only [bne, t1, Bool.not_false]
        by_cases hs : 0 < sec.length
        · obtain ⟨s0, s0'⟩ := dT (p := (0 : Int) < (sec.length : Int)) (by omega)
          obtain ⟨s1, s1'⟩ := dT (p := 0 < sec.length) (by omega)
          obtain ⟨s2, s2'⟩ := dF (p := (sec.length : Int) < 1) (by omega)
          have HM : Hid (M = false) := Lib.hid (by rw [hm]; clear hm hb kk; unfold mayF; simp [*])
          clear hm hx hy hz
          try replace ha := Lib.hid ha
          try replace hq := Lib.hid hq
          try replace ht := Lib.hid ht
          try replace hs := Lib.hid hs
          try replace hs2 := Lib.hid hs2
          go_enter Tryz.func33, Tryz.ntmps33
          go_upto_region 1 with fail
          rw [HW.out]
          go_wp2_with fail
          go_ret
          exact ⟨by first | (rw [HM.out]; done) | (rw [HM.out]; rfl), kk⟩
        · obtain ⟨s0, s0'⟩ := dF (p := (0 : Int) < (sec.length : Int)) (by omega)
          obtain ⟨s1, s1'⟩ := dF (p := 0 < sec.length) (by omega)
          obtain ⟨s2, s2'⟩ := dT (p := (sec.length : Int) < 1) (by omega)
          have HM : Hid (M = bidOk bid) := Lib.hid (by rw [hm]; clear hm hb kk; have k0 : sec.length ≤ 16 := (by omega); unfold mayF; simp [*])
          clear hm hx hy hz
          try replace ha := Lib.hid ha
          try replace hq := Lib.hid hq
          try replace ht := Lib.hid ht
          try replace hs := Lib.hid hs
          try replace hs2 := Lib.hid hs2
          go_enter Tryz.func33, Tryz.ntmps33
          go_upto_region 1 with fail
          rw [HW.out]
          go_wp2_with fail
          refine (hb _ kk).mono ?_
          rintro e w2 ⟨rfl, k2⟩
          go_wp2_with fail
          go_ret
          exact ⟨by first | (rw [HM.out]; done) | (rw [HM.out]; rfl), kk.trans k2⟩
  · have a1 := dF (p := x < 1) (by omega)
    have a2 := dF (p := 10 < x) (by omega)
    obtain ⟨a1, a1'⟩ := a1
    obtain ⟨a2, a2'⟩ := a2
    have e1 : (x == 1) = false := beq_false_of_ne (by omega)
    have e2 : (x == 2) = false := beq_false_of_ne (by omega)
    have e3 : (x == 3) = true := beq_iff_eq.2 (by omega)
    have e10 : (x == 10) = false := beq_false_of_ne (by omega)
    by_cases hq : seq = 0
    · have q1 : (y == 0) = true := beq_iff_eq.2 (by omega)
      have q2 : (y != 0) = false := by simp only [bne, q1, Bool.not_true]
      have HM : Hid (M = false) := Lib.hid (by rw [hm]; clear hm hb kk; unfold mayF; simp [*])
      clear hm hx hy hz
      try replace ha := Lib.hid ha
      try replace hq := Lib.hid hq
      try replace ht := Lib.hid ht
      try replace hs := Lib.hid hs
      try replace hs2 := Lib.hid hs2
      go_enter Tryz.func33, Tryz.ntmps33
      go_upto_region 1 with fail
      rw [HW.out]
      go_wp2_with fail
      go_ret
      exact ⟨by first | (rw [HM.out]; done) | (rw [HM.out]; rfl), kk⟩
    · have q1 : (y == 0) = false := beq_false_of_ne (by omega)
      have q2 : (y != 0) = true := by simp only [bne, q1, Bool.not_false]
      by_cases ht : tok = 0
      · have t1 : (z == 0) = true := beq_iff_eq.2 (by omega)
        have t2 : (z != 0) = false := by simp only [bne, t1, Bool.not_true]
        by_cases hs : 0 < sec.length
        · obtain ⟨s0, s0'⟩ := dT (p := (0 : Int) < (sec.length : Int)) (by omega)
          obtain ⟨s1, s1'⟩ := dT (p := 0 < sec.length) (by omega)
          obtain ⟨s2, s2'⟩ := dF (p := (sec.length : Int) < 1) (by omega)
          have HM : Hid (M = false) := Lib.hid (by rw [hm]; clear hm hb kk; unfold mayF; simp [*])
          clear hm hx hy hz
          try replace ha := Lib.hid ha
          try replace hq := Lib.hid hq
          try replace ht := Lib.hid ht
          try replace hs := Lib.hid hs
          try replace hs2 := Lib.hid hs2
          go_enter Tryz.func33, Tryz.ntmps33
          go_upto_region 1 with fail
          rw [HW.out]
          go_wp2_with fail
          go_ret
          exact ⟨by first | (rw [HM.out]; done) | (rw [HM.out]; rfl), kk⟩
        · obtain ⟨s0, s0'⟩ := dF (p := (0 : Int) < (sec.length : Int)) (by omega)
          obtain ⟨s1, s1'⟩ := dF (p := 0 < sec.length) (by omega)
          obtain ⟨s2, s2'⟩ := dT (p := (sec.length : Int) < 1) (by omega)
          have HM : Hid (M = Bl) := Lib.hid (by rw [hm]; clear hm hb kk; have k0 : sec.length ≤ 16 := (by omega); unfold mayF; simp [*]; rw [← hBl]; simp)
          clear hm hx hy hz
          try replace ha := Lib.hid ha
          try replace hq := Lib.hid hq
          try replace ht := Lib.hid ht
          try replace hs := Lib.hid hs
          try replace hs2 := Lib.hid hs2
          go_enter Tryz.func33, Tryz.ntmps33
          go_upto_region 1 with fail
          rw [HW.out]
          go_wp2_with fail
          go_ret
          exact ⟨by first | (rw [HM.out]; done) | (rw [HM.out]; rfl), kk⟩
      · have t1 : (z == 0) = false := beq_false_of_ne (by omega)
        have t2 : (z != 0) = true := by simp only [bne, t1, Bool.not_false]
        by_cases hs : 0 < sec.length
        · obtain ⟨s0, s0'⟩ := dT (p := (0 : Int) < (sec.length : Int)) (by omega)
          obtain ⟨s1, s1'⟩ := dT (p := 0 < sec.length) (by omega)
          obtain ⟨s2, s2'⟩ := dF (p := (sec.length : Int) < 1) (by omega)
          have HM : Hid (M = false) := Lib.hid (by rw [hm]; clear hm hb kk; unfold mayF; simp [*])
          clear hm hx hy hz
          try replace ha := Lib.hid ha
          try replace hq := Lib.hid hq
          try replace ht := Lib.hid ht
          try replace hs := Lib.hid hs
          try replace hs2 := Lib.hid hs2
          go_enter Tryz.func33, Tryz.ntmps33
          go_upto_region 1 with fail
          rw [HW.out]
          go_wp2_with fail
          go_ret
          exact ⟨by first | (rw [HM.out]; done) | (rw [HM.out]; rfl), kk⟩
        · obtain ⟨s0, s0'⟩ := dF (p := (0 : Int) < (sec.length : Int)) (by omega)
          obtain ⟨s1, s1'⟩ := dF (p := 0 < sec.length) (by omega)
          obtain ⟨s2, s2'⟩ := dT (p := (sec.length : Int) < 1) (by omega)
          have HM : Hid (M = Bl) := Lib.hid (by rw [hm]; clear hm hb kk; have k0 : sec.length ≤ 16 := (by omega); unfold mayF; simp [*]; rw [← hBl]; simp)
          clear hm hx hy hz
          try replace ha := Lib.hid ha
          try replace hq := Lib.hid hq
          try replace ht := Lib.hid ht
          try replace hs := Lib.hid hs
          try replace hs2 := Lib.hid hs2
          go_enter Tryz.func33, Tryz.ntmps33
          go_upto_region 1 with fail
          rw [HW.out]
          go_wp2_with fail
          go_ret
          exact ⟨by first | (rw [HM.out]; done) | (rw [HM.out]; rfl), kk⟩
  · have a1 := dF (p := x < 1) (by omega)
    have a2 := dF (p := 10 < x) (by omega)
    obtain ⟨a1, a1'⟩ := a1
    obtain ⟨a2, a2'⟩ := a2
    have e1 : (x == 1) = false := beq_false_of_ne (by omega)
    have e2 : (x == 2) = false := beq_false_of_ne (by omega)
    have e3 : (x == 3) = false := beq_false_of_ne (by omega)
    have e10 : (x == 10) = true := beq_iff_eq.2 (by omega)
    by_cases hq : seq = 0
    · have q1 : (y == 0) = true := beq_iff_eq.2 (by omega)
      have q2 : (y != 0) = false := by simp only [bne, q1, Bool.not_true]
      by_cases ht : tok = 0
      · have t1 : (z == 0) = true := beq_iff_eq.2 (by omega)
        have t2 : (z != 0) = false := by simp only [bne, t1, Bool.not_true]
        by_cases hs : 0 < sec.length
        · obtain ⟨s0, s0'⟩ := dT (p := (0 : Int) < (sec.length : Int)) (by omega)
          obtain ⟨s1, s1'⟩ := dT (p := 0 < sec.length) (by omega)
          obtain ⟨s2, s2'⟩ := dF (p := (sec.length : Int) < 1) (by omega)
          have HM : Hid (M = false) := Lib.hid (by rw [hm]; clear hm hb kk; unfold mayF; simp [*])
          clear hm hx hy hz
          try replace ha := Lib.hid ha
          try replace hq := Lib.hid hq
          try replace ht := Lib.hid ht
          try replace hs := Lib.hid hs
          try replace hs2 := Lib.hid hs2
          go_enter Tryz.func33, Tryz.ntmps33
          go_upto_region 1 with fail
          rw [HW.out]
          go_wp2_with fail
          go_ret
          exact ⟨by first | (rw [HM.out]; done) | (rw [HM.out]; rfl), kk⟩
        · obtain ⟨s0, s0'⟩ := dF (p := (0 : Int) < (sec.length : Int)) (by omega)
          obtain ⟨s1, s1'⟩ := dF (p := 0 < sec.length) (by omega)
          obtain ⟨s2, s2'⟩ := dT (p := (sec.length : Int) < 1) (by omega)
          have HM : Hid (M = Bl) := Lib.hid (by rw [hm]; clear hm hb kk; have k0 : sec.length ≤ 16 := (by omega); unfold mayF; simp [*]; rw [← hBl]; simp)
          clear hm hx hy hz
          try replace ha := Lib.hid ha
          try replace hq := Lib.hid hq
          try replace ht := Lib.hid ht
          try replace hs := Lib.hid hs
          try replace hs2 := Lib.hid hs2
          go_enter Tryz.func33, Tryz.ntmps33
          go_upto_region 1 with fail
          rw [HW.out]
          go_wp2_with fail
          go_ret
          exact ⟨by first | (rw [HM.out]; done) | (rw [HM.out]; rfl), kk⟩
      · have t1 : (z == 0) = false := beq_false_of_ne (by omega)
        have t2 : (z != 0) = true := by simp only [bne, t1, Bool.not_false]
        have HM : Hid (M = false) := Lib.hid (by rw [hm]; clear hm hb kk; unfold mayF; simp [*])
        clear hm hx hy hz
        try replace ha := Lib.hid ha
        try replace hq := Lib.hid hq
        try replace ht := Lib.hid ht
        try replace hs := Lib.hid hs
        try replace hs2 := Lib.hid hs2
        go_enter Tryz.func33, Tryz.ntmps33
        go_upto_region 1 with fail
        rw [HW.out]
        go_wp2_with fail
        go_ret
        exact ⟨by first | (rw [HM.out]; done) | (rw [HM.out]; rfl), kk⟩
    · have q1 : (y == 0) = false := beq_false_of_ne (by omega)
      have q2 : (y != 0) = true := by simp only [bne, q1, Bool.not_false]
      have HM : Hid (M = false) := Lib.hid (by rw [hm]; clear hm hb kk; unfold mayF; simp [*])
      clear hm hx hy hz
      try replace ha := Lib.hid ha
      try replace hq := Lib.hid hq
      try replace ht := Lib.hid ht
      try replace hs := Lib.hid hs
      try replace hs2 := Lib.hid hs2
      go_enter Tryz.func33, Tryz.ntmps33
      go_upto_region 1 with fail
      rw [HW.out]
      go_wp2_with fail
      go_ret
      exact ⟨by first | (rw [HM.out]; done) | (rw [HM.out]; rfl), kk⟩
  · have a1 := dF (p := x < 1) (by omega)
    have a2 := dF (p := 10 < x) (by omega)
    obtain ⟨a1, a1'⟩ := a1
    obtain ⟨a2, a2'⟩ := a2
    have e1 : (x == 1) = false := beq_false_of_ne (by omega)
    have e2 : (x == 2) = false := beq_false_of_ne (by omega)
    have e3 : (x == 3) = false := beq_false_of_ne (by omega)
    have e10 : (x == 10) = false := beq_false_of_ne (by omega)
    by_cases hq : seq = 0
    · have q1 : (y == 0) = true := beq_iff_eq.2 (by omega)
      have q2 : (y != 0) = false := by simp only [bne, q1, Bool.not_true]
      by_cases ht : tok = 0
      · have t1 : (z == 0) = true := beq_iff_eq.2 (by omega)
        have t2 : (z != 0) = false := by simp only [bne, t1, Bool.not_true]
        by_cases hs : 0 < sec.length
        · obtain ⟨s0, s0'⟩ := dT (p := (0 : Int) < (sec.length : Int)) (by omega)
          obtain ⟨s1, s1'⟩ := dT (p := 0 < sec.length) (by omega)
          obtain ⟨s2, s2'⟩ := dF (p := (sec.length : Int) < 1) (by omega)
          have HM : Hid (M = false) := Lib.hid (by rw [hm]; clear hm hb kk; have k0 : 1 ≤ ask := (by omega); have k1 : ask ≤ 10 := (by omega); have k2 : ¬(ask = 1) := (by omega); have k3 : ¬(ask = 2) := (by omega); have k4 : ¬(ask = 3) := (by omega); have k5 : ¬(ask = 10) := (by omega); unfold mayF; simp [*])
          clear hm hx hy hz
          try replace ha := Lib.hid ha
          try replace hq := Lib.hid hq
          try replace ht := Lib.hid ht
          try replace hs := Lib.hid hs
          try replace hs2 := Lib.hid hs2
          go_enter Tryz.func33, Tryz.ntmps33
          go_upto_region 1 with fail
          rw [HW.out]
          go_wp2_with fail
          go_ret
          exact ⟨by first | (rw [HM.out]; done) | (rw [HM.out]; rfl), kk⟩
        · obtain ⟨s0, s0'⟩ := dF (p := (0 : Int) < (sec.length : Int)) (by omega)
          obtain ⟨s1, s1'⟩ := dF (p := 0 < sec.length) (by omega)
          obtain ⟨s2, s2'⟩ := dT (p := (sec.length : Int) < 1) (by omega)
          have HM : Hid (M = Bl) := Lib.hid (by rw [hm]; clear hm hb kk; have k0 : 1 ≤ ask := (by omega); have k1 : ask ≤ 10 := (by omega); have k2 : ¬(ask = 1) := (by omega); have k3 : ¬(ask = 2) := (by omega); have k4 : ¬(ask = 3) := (by omega); have k5 : ¬(ask = 10) := (by omega); have k6 : sec.length ≤ 16 := (by omega); unfold mayF; simp [*]; rw [← hBl]; simp)
          clear hm hx hy hz
          try replace ha := Lib.hid ha
          try replace hq := Lib.hid hq
          try replace ht := Lib.hid ht
          try replace hs := Lib.hid hs
          try replace hs2 := Lib.hid hs2
          go_enter Tryz.func33, Tryz.ntmps33
          go_upto_region 1 with fail
          rw [HW.out]
          go_wp2_with fail
          go_ret
          exact ⟨by first | (rw [HM.out]; done) | (rw [HM.out]; rfl), kk⟩
      · have t1 : (z == 0) = false := beq_false_of_ne (by omega)
        have t2 : (z != 0) = true := by simp only [bne, t1, Bool.not_false]
        by_cases hs : 0 < sec.length
        · obtain ⟨s0, s0'⟩ := dT (p := (0 : Int) < (sec.length : Int)) (by omega)
          obtain ⟨s1, s1'⟩ := dT (p := 0 < sec.length) (by omega)
          obtain ⟨s2, s2'⟩ := dF (p := (sec.length : Int) < 1) (by omega)
          have HM : Hid (M = false) := Lib.hid (by rw [hm]; clear hm hb kk; have k0 : 1 ≤ ask := (by omega); have k1 : ask ≤ 10 := (by omega); have k2 : ¬(ask = 1) := (by omega); have k3 : ¬(ask = 2) := (by omega); have k4 : ¬(ask = 3) := (by omega); have k5 : ¬(ask = 10) := (by omega); unfold mayF; simp [*])
          clear hm hx hy hz
          try replace ha := Lib.hid ha
          try replace hq := Lib.hid hq
          try replace ht := Lib.hid ht
          try replace hs := Lib.hid hs
          try replace hs2 := Lib.hid hs2
          go_enter Tryz.func33, Tryz.ntmps33
          go_upto_region 1 with fail
          rw [HW.out]
          go_wp2_with fail
          go_ret
          exact ⟨by first | (rw [HM.out]; done) | (rw [HM.out]; rfl), kk⟩
        · obtain ⟨s0, s0'⟩ := dF (p := (0 : Int) < (sec.length : Int)) (by omega)
          obtain ⟨s1, s1'⟩ := dF (p := 0 < sec.length) (by omega)
          obtain ⟨s2, s2'⟩ := dT (p := (sec.length : Int) < 1) (by omega)
          have HM : Hid (M = Bl) := Lib.hid (by rw [hm]; clear hm hb kk; have k0 : 1 ≤ ask := (by omega); have k1 : ask ≤ 10 := (by omega); have k2 : ¬(ask = 1) := (by omega); have k3 : ¬(ask = 2) := (by omega); have k4 : ¬(ask = 3) := (by omega); have k5 : ¬(ask = 10) := (by omega); have k6 : sec.length ≤ 16 := (by omega); unfold mayF; simp [*]; rw [← hBl]; simp)
          clear hm hx hy hz
          try replace ha := Lib.hid ha
          try replace hq := Lib.hid hq
          try replace ht := Lib.hid ht
          try replace hs := Lib.hid hs
          try replace hs2 := Lib.hid hs2
          go_enter Tryz.func33, Tryz.ntmps33
          go_upto_region 1 with fail
          rw [HW.out]
          go_wp2_with fail
          go_ret
          exact ⟨by first | (rw [HM.out]; done) | (rw [HM.out]; rfl), kk⟩
    · have q1 : (y == 0) = false := beq_false_of_ne (by omega)
      have q2 : (y != 0) = true := by simp only [bne, q1, Bool.not_false]
      have HM : Hid (M = false) := Lib.hid (by rw [hm]; clear hm hb kk; have k0 : 1 ≤ ask := (by omega); have k1 : ask ≤ 10 := (by omega); have k2 : ¬(ask = 1) := (by omega); have k3 : ¬(ask = 2) := (by omega); have k4 : ¬(ask = 3) := (by omega); have k5 : ¬(ask = 10) := (by omega); unfold mayF; simp [*])
      clear hm hx hy hz
      try replace ha := Lib.hid ha
      try replace hq := Lib.hid hq
      try replace ht := Lib.hid ht
      try replace hs := Lib.hid hs
      try replace hs2 := Lib.hid hs2
      go_enter Tryz.func33, Tryz.ntmps33
      go_upto_region 1 with fail
      rw [HW.out]
      go_wp2_with fail
      go_ret
      exact ⟨by first | (rw [HM.out]; done) | (rw [HM.out]; rfl), kk⟩
end Go.Proofs.YtnjjeanbopclhaaGreatDoor

namespace Go.Proofs.YtnjjeanbopclhaaGreatDoor
open Go.RowKit

set_option maxRecDepth 100000 in
set_option maxHeartbeats 16000000 in
/-- salesroomref21.mayReply -/
theorem refMayR_f (r : Rpl) (w : World) (hr : r.Ok w) :
    Calls Tryz.prog 38 #[r.val] w fun e w' => e = .returned (.bool (mayR r.v)) ∧ Keep w w' := by
  have lc := hr.c.len.le
  have lb := hr.b.len.le
  have hb := fun w1 (k1 : Keep w w1) => saysK (refBid_f r.ba r.bc r.v.bid w1 (hr.keep k1).b.rd hr.b.len)
  obtain ⟨⟨e, seq, tok, ph, tm, has, bid, item, pays, cert⟩, ba, bc, ca, cc⟩ := r
  obtain ⟨M, hm⟩ : ∃ M, M = mayR ⟨e, seq, tok, ph, tm, has, bid, item, pays, cert⟩ := ⟨_, rfl⟩
  unfold Rpl.val
  simp only at lc lb hb ⊢
  rw [← hm]
  clear hr
  have b0' : ((bid.length : Int) == 0) = decide (bid.length = 0) := by
    by_cases h : bid.length = 0 <;> simp [h]
  generalize hBl : decide (bid.length = 0) = Bl at b0'
  obtain ⟨x, hx⟩ : ∃ x : Int, x = ph := ⟨_, rfl⟩
  obtain ⟨y, hy⟩ : ∃ y : Int, y = tm := ⟨_, rfl⟩
  rw [← hx, ← hy]
  have bF := Blk.new w 32 [.int .i64 e, .int .u32 seq, .int .u64 tok, .int .u8 x, .int .u64 y, .bool has, .slice ba bid.length bc, .int .i64 item, .int .i64 pays, .slice ca cert.length cc]
  have kk : Keep w (w.alloc (.cells #[.int .i64 e, .int .u32 seq, .int .u64 tok, .int .u8 x, .int .u64 y, .bool has, .slice ba bid.length bc, .int .i64 item, .int .i64 pays, .slice ca cert.length cc] 32)) := Keep.alloc1 _ _
  generalize hw1 : w.alloc (.cells #[.int .i64 e, .int .u32 seq, .int .u64 tok, .int .u8 x, .int .u64 y, .bool has, .slice ba bid.length bc, .int .i64 item, .int .i64 pays, .slice ca cert.length cc] 32) = w1 at kk bF
  have HW := Lib.hid hw1
  clear hw1
  have u0 := bF.cell_ (i := 0) rfl
  have u3 := bF.cell_ (i := 3) rfl
  have u4 := bF.cell_ (i := 4) rfl
  have u5 := bF.cell_ (i := 5) rfl
  have u6 := bF.cell_ (i := 6) rfl
  have u7 := bF.cell_ (i := 7) rfl
  have u8 := bF.cell_ (i := 8) rfl
  have u9 := bF.cell_ (i := 9) rfl
  clear bF
  by_cases g0 : 0 ≤ e
  rotate_left
  · obtain ⟨d00, d00'⟩ := dT (p := e < 0) (by omega)
    have HM : Hid (M = false) := Lib.hid (by rw [hm]; clear hm hb kk; unfold mayR; simp [*])
    clear hm hx hy
    try replace g0 := Lib.hid g0
    try replace g1 := Lib.hid g1
    try replace g2 := Lib.hid g2
    try replace g3 := Lib.hid g3
    try replace g4 := Lib.hid g4
    try replace g5 := Lib.hid g5
    try replace g6 := Lib.hid g6
    try replace g7 := Lib.hid g7
    try replace g8 := Lib.hid g8
    go_enter Tryz.func38, Tryz.ntmps38
    go_upto_region 1 with fail
    rw [HW.out]
    go_wp2_with fail
    go_ret
    exact ⟨by first | (rw [HM.out]; done) | (rw [HM.out]; rfl), kk⟩
  obtain ⟨d00, d00'⟩ := dF (p := e < 0) (by omega)
  by_cases g1 : e ≤ 12
  rotate_left
  · obtain ⟨d10, d10'⟩ := dT (p := 12 < e) (by omega)
    have HM : Hid (M = false) := Lib.hid (by rw [hm]; clear hm hb kk; unfold mayR; simp [*])
    clear hm hx hy
    try replace g0 := Lib.hid g0
    try replace g1 := Lib.hid g1
    try replace g2 := Lib.hid g2
    try replace g3 := Lib.hid g3
    try replace g4 := Lib.hid g4
    try replace g5 := Lib.hid g5
    try replace g6 := Lib.hid g6
    try replace g7 := Lib.hid g7
    try replace g8 := Lib.hid g8
    go_enter Tryz.func38, Tryz.ntmps38
    go_upto_region 1 with fail
    rw [HW.out]
    go_wp2_with fail
    go_ret
    exact ⟨by first | (rw [HM.out]; done) | (rw [HM.out]; rfl), kk⟩
  obtain ⟨d10, d10'⟩ := dF (p := 12 < e) (by omega)
  by_cases g2 : ph ≤ 3
  rotate_left
  · obtain ⟨d20, d20'⟩ := dT (p := 3 < x) (by omega)
    have HM : Hid (M = false) := Lib.hid (by rw [hm]; clear hm hb kk; unfold mayR; simp [*])
    clear hm hx hy
    try replace g0 := Lib.hid g0
    try replace g1 := Lib.hid g1
    try replace g2 := Lib.hid g2
    try replace g3 := Lib.hid g3
    try replace g4 := Lib.hid g4
    try replace g5 := Lib.hid g5
    try replace g6 := Lib.hid g6
    try replace g7 := Lib.hid g7
    try replace g8 := Lib.hid g8
    go_enter Tryz.func38, Tryz.ntmps38
    go_upto_region 1 with fail
    rw [HW.out]
    go_wp2_with fail
    go_ret
    exact ⟨by first | (rw [HM.out]; done) | (rw [HM.out]; rfl), kk⟩
  obtain ⟨d20, d20'⟩ := dF (p := 3 < x) (by omega)
  by_cases g3 : tm ≤ 1099511627776
  rotate_left
  · obtain ⟨d30, d30'⟩ := dT (p := 1099511627776 < y) (by omega)
    have HM : Hid (M = false) := Lib.hid (by rw [hm]; clear hm hb kk; unfold mayR; simp [*])
    clear hm hx hy
    try replace g0 := Lib.hid g0
    try replace g1 := Lib.hid g1
    try replace g2 := Lib.hid g2
    try replace g3 := Lib.hid g3
    try replace g4 := Lib.hid g4
    try replace g5 := Lib.hid g5
    try replace g6 := Lib.hid g6
    try replace g7 := Lib.hid g7
    try replace g8 := Lib.hid g8
    go_enter Tryz.func38, Tryz.ntmps38
    go_upto_region 1 with fail
    rw [HW.out]
    go_wp2_with fail
    go_ret
    exact ⟨by first | (rw [HM.out]; done) | (rw [HM.out]; rfl), kk⟩
  obtain ⟨d30, d30'⟩ := dF (p := 1099511627776 < y) (by omega)
  by_cases g4 : -1 ≤ item
  rotate_left
  · obtain ⟨d40, d40'⟩ := dT (p := item < -1) (by omega)
    have HM : Hid (M = false) := Lib.hid (by rw [hm]; clear hm hb kk; unfold mayR; simp [*])
    clear hm hx hy
    try replace g0 := Lib.hid g0
    try replace g1 := Lib.hid g1
    try replace g2 := Lib.hid g2
    try replace g3 := Lib.hid g3
    try replace g4 := Lib.hid g4
    try replace g5 := Lib.hid g5
    try replace g6 := Lib.hid g6
    try replace g7 := Lib.hid g7
    try replace g8 := Lib.hid g8
    go_enter Tryz.func38, Tryz.ntmps38
    go_upto_region 1 with fail
    rw [HW.out]
    go_wp2_with fail
    go_ret
    exact ⟨by first | (rw [HM.out]; done) | (rw [HM.out]; rfl), kk⟩
  obtain ⟨d40, d40'⟩ := dF (p := item < -1) (by omega)
  by_cases g5 : item < 8
  rotate_left
  · obtain ⟨d50, d50'⟩ := dT (p := 8 ≤ item) (by omega)
    obtain ⟨d51, d51'⟩ := dF (p := item < 8) (by omega)
    have HM : Hid (M = false) := Lib.hid (by rw [hm]; clear hm hb kk; unfold mayR; simp [*])
    clear hm hx hy
    try replace g0 := Lib.hid g0
    try replace g1 := Lib.hid g1
    try replace g2 := Lib.hid g2
    try replace g3 := Lib.hid g3
    try replace g4 := Lib.hid g4
    try replace g5 := Lib.hid g5
    try replace g6 := Lib.hid g6
    try replace g7 := Lib.hid g7
    try replace g8 := Lib.hid g8
    go_enter Tryz.func38, Tryz.ntmps38
    go_upto_region 1 with fail
    rw [HW.out]
    go_wp2_with fail
    go_ret
    exact ⟨by first | (rw [HM.out]; done) | (rw [HM.out]; rfl), kk⟩
  obtain ⟨d50, d50'⟩ := dF (p := 8 ≤ item) (by omega)
  obtain ⟨d51, d51'⟩ := dT (p := item < 8) (by omega)
  by_cases g6 : 0 ≤ pays
  rotate_left
  · obtain ⟨d60, d60'⟩ := dT (p := pays < 0) (by omega)
    have HM : Hid (M = false) := Lib.hid (by rw [hm]; clear hm hb kk; unfold mayR; simp [*])
    clear hm hx hy
    try replace g0 := Lib.hid g0
    try replace g1 := Lib.hid g1
    try replace g2 := Lib.hid g2
    try replace g3 := Lib.hid g3
    try replace g4 := Lib.hid g4
    try replace g5 := Lib.hid g5
    try replace g6 := Lib.hid g6
    try replace g7 := Lib.hid g7
    try replace g8 := Lib.hid g8
    go_enter Tryz.func38, Tryz.ntmps38
    go_upto_region 1 with fail
    rw [HW.out]
    go_wp2_with fail
    go_ret
    exact ⟨by first | (rw [HM.out]; done) | (rw [HM.out]; rfl), kk⟩
  obtain ⟨d60, d60'⟩ := dF (p := pays < 0) (by omega)
  by_cases g7 : pays ≤ 2000000
  rotate_left
  · obtain ⟨d70, d70'⟩ := dT (p := 2000000 < pays) (by omega)
    have HM : Hid (M = false) := Lib.hid (by rw [hm]; clear hm hb kk; unfold mayR; simp [*])
    clear hm hx hy
    try replace g0 := Lib.hid g0
    try replace g1 := Lib.hid g1
    try replace g2 := Lib.hid g2
    try replace g3 := Lib.hid g3
    try replace g4 := Lib.hid g4
    try replace g5 := Lib.hid g5
    try replace g6 := Lib.hid g6
    try replace g7 := Lib.hid g7
    try replace g8 := Lib.hid g8
    go_enter Tryz.func38, Tryz.ntmps38
    go_upto_region 1 with fail
    rw [HW.out]
    go_wp2_with fail
    go_ret
    exact ⟨by first | (rw [HM.out]; done) | (rw [HM.out]; rfl), kk⟩
  obtain ⟨d70, d70'⟩ := dF (p := 2000000 < pays) (by omega)
  by_cases g8 : cert.length ≤ 1024
  rotate_left
  · obtain ⟨d80, d80'⟩ := dT (p := (1024 : Int) < (cert.length : Int)) (by omega)
    obtain ⟨d81, d81'⟩ := dT (p := 1024 < cert.length) (by omega)
    have HM : Hid (M = false) := Lib.hid (by rw [hm]; clear hm hb kk; unfold mayR; simp [*])
    clear hm hx hy
    try replace g0 := Lib.hid g0
    try replace g1 := Lib.hid g1
    try replace g2 := Lib.hid g2
    try replace g3 := Lib.hid g3
    try replace g4 := Lib.hid g4
    try replace g5 := Lib.hid g5
    try replace g6 := Lib.hid g6
    try replace g7 := Lib.hid g7
    try replace g8 := Lib.hid g8
    go_enter Tryz.func38, Tryz.ntmps38
    go_upto_region 1 with fail
    rw [HW.out]
    go_wp2_with fail
    go_ret
    exact ⟨by first | (rw [HM.out]; done) | (rw [HM.out]; rfl), kk⟩
  obtain ⟨d80, d80'⟩ := dF (p := (1024 : Int) < (cert.length : Int)) (by omega)
  obtain ⟨d81, d81'⟩ := dF (p := 1024 < cert.length) (by omega)
  cases has with
  | true =>
    have HM : Hid (M = bidOk bid) := Lib.hid (by rw [hm]; clear hm hb kk; unfold mayR; simp [*])
    clear hm hx hy
    try replace g0 := Lib.hid g0
    try replace g1 := Lib.hid g1
    try replace g2 := Lib.hid g2
    try replace g3 := Lib.hid g3
    try replace g4 := Lib.hid g4
    try replace g5 := Lib.hid g5
    try replace g6 := Lib.hid g6
    try replace g7 := Lib.hid g7
    try replace g8 := Lib.hid g8
    go_enter Tryz.func38, Tryz.ntmps38
    go_upto_region 1 with fail
    rw [HW.out]
    go_wp2_with fail
    refine (hb _ kk).mono ?_
    rintro e w2 ⟨rfl, k2⟩
    go_wp2_with fail
    go_ret
    exact ⟨by first | (rw [HM.out]; done) | (rw [HM.out]; rfl), kk.trans k2⟩
  | false =>
    have HM : Hid (M = Bl) := Lib.hid (by rw [hm]; clear hm hb kk; unfold mayR; simp [*]; rw [← hBl]; simp)
    clear hm hx hy
    try replace g0 := Lib.hid g0
    try replace g1 := Lib.hid g1
    try replace g2 := Lib.hid g2
    try replace g3 := Lib.hid g3
    try replace g4 := Lib.hid g4
    try replace g5 := Lib.hid g5
    try replace g6 := Lib.hid g6
    try replace g7 := Lib.hid g7
    try replace g8 := Lib.hid g8
    go_enter Tryz.func38, Tryz.ntmps38
    go_upto_region 1 with fail
    rw [HW.out]
    go_wp2_with fail
    go_ret
    exact ⟨by first | (rw [HM.out]; done) | (rw [HM.out]; rfl), kk⟩
end Go.Proofs.YtnjjeanbopclhaaGreatDoor

namespace Go.Proofs.YtnjjeanbopclhaaGreatDoor
open Go.RowKit

set_option maxRecDepth 100000 in
set_option maxHeartbeats 8000000 in
/-- salesroomref21.Put -/
theorem refPutF_f (f : Frm) (w : World) (hf : f.Ok w) {L : List Int} {r : Int} (hv : putFV f.v = (L, r)) :
    Calls Tryz.prog 9 #[f.val] w fun e w' => ∃ A c, e = .returned (.tuple #[.slice A L.length c, .int .i64 r]) ∧ Fr 5 w' w.heap.size A L.length c (cs .u8 L) ∧ Keep w w' := by
  have ls := hf.s.len.le
  have lb := hf.b.len.le
  have hq2 := hf.seq
  have la := hf.ask
  have lw := hf.who
  have kk : Keep w w := Keep.refl _
  obtain ⟨f, sa, sc, ba, bc⟩ := f
  unfold Frm.val
  simp only at ls lb hq2 la lw hv ⊢
  have z1 : IntKind.u64.wrap (f.seq : Int) = f.seq := by
    show (f.seq : Int) % 18446744073709551616 = f.seq
    omega
  unfold putFV at hv
  cases hmay : mayF f with
  | false =>
    rw [hmay, if_neg (by decide)] at hv
    cases hv
    have HM := Lib.hid hmay
    clear hmay
    go_enter Tryz.func9, Tryz.ntmps9
    go_upto_region 1 with fail
    have kq : Keep w (w.alloc (.cells #[.int .u8 f.ask, .int .u8 f.who, .int .u32 f.seq, .int .u64 f.tok, .slice sa f.sec.length sc, .slice ba f.bid.length bc] 28)) := Keep.alloc1 _ _
    have bF := Blk.new w 28 [.int .u8 f.ask, .int .u8 f.who, .int .u32 f.seq, .int .u64 f.tok, .slice sa f.sec.length sc, .slice ba f.bid.length bc]
    change Code.wp _ _ _ _ (w.alloc (.cells #[.int .u8 f.ask, .int .u8 f.who, .int .u32 f.seq, .int .u64 f.tok, .slice sa f.sec.length sc, .slice ba f.bid.length bc] 28))
    generalize w.alloc (.cells #[.int .u8 f.ask, .int .u8 f.who, .int .u32 f.seq, .int .u64 f.tok, .slice sa f.sec.length sc, .slice ba f.bid.length bc] 28) = w1 at kq bF ⊢
    generalize w.heap.size = gbF at bF ⊢
    replace hf := hf.keep kq
    replace kk := kk.trans kq
    clear kq
    have bF_0 := bF.cell_ (i := 0) rfl
    have bF_1 := bF.cell_ (i := 1) rfl
    have bF_2 := bF.cell_ (i := 2) rfl
    have bF_3 := bF.cell_ (i := 3) rfl
    have bF_4 := bF.cell_ (i := 4) rfl
    have bF_5 := bF.cell_ (i := 5) rfl
    have hq := refMay_f (Frm.mk f sa sc ba bc) w1 hf
    unfold Frm.val at hq
    simp only at hq
    rw [HM.out] at hq
    go_wp2_with fail
    refine hq.mono ?_
    rintro e w2 ⟨rfl, kq⟩
    clear hq
    replace hf := hf.keep kq
    replace bF := bF.keep kq
    replace kk := kk.trans kq
    clear kq
    clear bF_0 bF_1 bF_2 bF_3 bF_4 bF_5
    go_wp2_with fail
    refine bodyPost_ret (results_tmp2 rfl _ _ _) rfl ?_
    exact ⟨none, 0, rfl, Fr.empty _ _ _ _, kk⟩
  | true =>
    obtain ⟨g1, g2, g3, g4, g5⟩ := mayF_facts hmay
    have LL : Hid (L = bytesF f ∧ r = 0) := by
      rw [hmay, if_pos rfl] at hv
      cases hv
      exact Lib.hid ⟨rfl, rfl⟩
    have LE := Lib.hid (And.intro (le_one la) (le_one lw))
    have HM := Lib.hid hmay
    obtain ⟨X0, hX0⟩ : ∃ X, X = [(f.ask : Int), (f.who : Int)] := ⟨_, rfl⟩
    obtain ⟨X1, hX1⟩ : ∃ X, X = X0 ++ le f.seq 4 := ⟨_, rfl⟩
    obtain ⟨X2, hX2⟩ : ∃ X, X = X1 ++ le f.tok 8 := ⟨_, rfl⟩
    obtain ⟨X3, hX3⟩ : ∃ X, X = X2 ++ putBy (f.sec.take 65535) := ⟨_, rfl⟩
    obtain ⟨X4, hX4⟩ : ∃ X, X = X3 ++ putL (f.bid.take 255) := ⟨_, rfl⟩
    have e0 : X0.length = 2 := by rw [hX0]; rfl
    have e1 : X1.length = 6 := by rw [hX1, List.length_append, length_le, e0]
    have e2 : X2.length = 14 := by rw [hX2, List.length_append, length_le, e1]
    have e3 : X3.length ≤ 100 := by rw [hX3, List.length_append, length_putBy', List.length_take, e2]; omega
    have hL : L = X4 := by
      rw [LL.out.1, hX4, hX3, hX2, hX1, hX0, show f.sec.take 65535 = f.sec from List.take_of_length_le (by omega), show f.bid.take 255 = f.bid from List.take_of_length_le (by omega)]
      unfold bytesF
      rw [LE.out.1, LE.out.2]
      simp only [List.append_assoc, List.cons_append, List.nil_append]
    have hr0 := LL.out.2
    subst hr0
    rw [hL]
    have E0 := Lib.hid e0
    have E1 := Lib.hid e1
    have E2 := Lib.hid e2
    have E3 := Lib.hid e3
    have H0 := Lib.hid hX0
    have H1 := Lib.hid hX1
    have H2 := Lib.hid hX2
    have H3 := Lib.hid hX3
    have H4 := Lib.hid hX4
    clear e0 e1 e2 e3 hX0 hX1 hX2 hX3 hX4 hL LL LE hmay hv g1 g2 g3 g4 g5 la lw hq2
    go_enter Tryz.func9, Tryz.ntmps9
    go_upto_region 1 with fail
    have kq : Keep w (w.alloc (.cells #[.int .u8 f.ask, .int .u8 f.who, .int .u32 f.seq, .int .u64 f.tok, .slice sa f.sec.length sc, .slice ba f.bid.length bc] 28)) := Keep.alloc1 _ _
    have bF := Blk.new w 28 [.int .u8 f.ask, .int .u8 f.who, .int .u32 f.seq, .int .u64 f.tok, .slice sa f.sec.length sc, .slice ba f.bid.length bc]
    change Code.wp _ _ _ _ (w.alloc (.cells #[.int .u8 f.ask, .int .u8 f.who, .int .u32 f.seq, .int .u64 f.tok, .slice sa f.sec.length sc, .slice ba f.bid.length bc] 28))
    generalize w.alloc (.cells #[.int .u8 f.ask, .int .u8 f.who, .int .u32 f.seq, .int .u64 f.tok, .slice sa f.sec.length sc, .slice ba f.bid.length bc] 28) = w1 at kq bF ⊢
    generalize w.heap.size = gbF at bF ⊢
    replace hf := hf.keep kq
    replace kk := kk.trans kq
    clear kq
    have bF_0 := bF.cell_ (i := 0) rfl
    have bF_1 := bF.cell_ (i := 1) rfl
    have bF_2 := bF.cell_ (i := 2) rfl
    have bF_3 := bF.cell_ (i := 3) rfl
    have bF_4 := bF.cell_ (i := 4) rfl
    have bF_5 := bF.cell_ (i := 5) rfl
    have hq := refMay_f (Frm.mk f sa sc ba bc) w1 hf
    unfold Frm.val at hq
    simp only at hq
    rw [HM.out] at hq
    go_wp2_with fail
    refine hq.mono ?_
    rintro e w2 ⟨rfl, kq⟩
    clear hq
    replace hf := hf.keep kq
    replace bF := bF.keep kq
    replace kk := kk.trans kq
    clear kq
    clear bF_0 bF_1 bF_2 bF_3 bF_4 bF_5
    have bF_0 := bF.cell_ (i := 0) rfl
    have bF_1 := bF.cell_ (i := 1) rfl
    have bF_2 := bF.cell_ (i := 2) rfl
    have bF_3 := bF.cell_ (i := 3) rfl
    have bF_4 := bF.cell_ (i := 4) rfl
    have bF_5 := bF.cell_ (i := 5) rfl
    go_upto_region 4 with fail
    have kq : Keep w2 (w2.alloc (.cells #[.int .u8 f.ask, .int .u8 f.who] 5)) := Keep.alloc1 _ _
    have r0 : Rd (w2.alloc (.cells #[.int .u8 f.ask, .int .u8 f.who] 5)) (some ⟨w2.heap.size, 0, none⟩) (cs .u8 X0) := by rw [H0.out]; exact (Blk.new w2 5 [.int .u8 f.ask, .int .u8 f.who]).rd
    change Code.wp _ _ _ _ (w2.alloc (.cells #[.int .u8 f.ask, .int .u8 f.who] 5))
    generalize w2.alloc (.cells #[.int .u8 f.ask, .int .u8 f.who] 5) = v0 at kq r0 ⊢
    generalize w2.heap.size = g0 at r0 ⊢
    clear bF_0 bF_1 bF_2 bF_3 bF_4 bF_5
    replace hf := hf.keep kq
    replace bF := bF.keep kq
    replace kk := kk.trans kq
    clear kq
    have bF_0 := bF.cell_ (i := 0) rfl
    have bF_1 := bF.cell_ (i := 1) rfl
    have bF_2 := bF.cell_ (i := 2) rfl
    have bF_3 := bF.cell_ (i := 3) rfl
    have bF_4 := bF.cell_ (i := 4) rfl
    have bF_5 := bF.cell_ (i := 5) rfl
    have hq := (show Calls Tryz.prog 34 #[.slice (some ⟨g0, 0, none⟩) 2 2, .int .u64 (f.seq : Int), .int .i64 4] v0 (RowsC (X0 ++ le f.seq 4) v0) by have h := refPut_r (some ⟨g0, 0, none⟩) 2 X0 f.seq 4 v0 r0 (by rw [E0.out]; decide) (by decide); rw [E0.out] at h; exact h)
    unfold RowsC at hq
    rw [← H1.out, E1.out] at hq
    go_wp2_with fail
    refine hq.mono ?_
    rintro e w3 ⟨A1, c1, rfl, f1, kq⟩
    clear hq
    have r1 := f1.rd
    clear f1 r0
    replace hf := hf.keep kq
    replace bF := bF.keep kq
    replace kk := kk.trans kq
    clear kq
    clear bF_0 bF_1 bF_2 bF_3 bF_4 bF_5
    have bF_0 := bF.cell_ (i := 0) rfl
    have bF_1 := bF.cell_ (i := 1) rfl
    have bF_2 := bF.cell_ (i := 2) rfl
    have bF_3 := bF.cell_ (i := 3) rfl
    have bF_4 := bF.cell_ (i := 4) rfl
    have bF_5 := bF.cell_ (i := 5) rfl
    have hq := (show Calls Tryz.prog 34 #[.slice A1 6 c1, .int .u64 (f.tok : Int), .int .i64 8] w3 (RowsC (X1 ++ le f.tok 8) w3) by have h := refPut_r A1 c1 X1 f.tok 8 w3 r1 (by rw [E1.out]; decide) (by decide); rw [E1.out] at h; exact h)
    unfold RowsC at hq
    rw [← H2.out, E2.out] at hq
    go_wp2_with fail
    refine hq.mono ?_
    rintro e w4 ⟨A2, c2, rfl, f2, kq⟩
    clear hq
    have r2 := f2.rd
    clear f2 r1
    replace hf := hf.keep kq
    replace bF := bF.keep kq
    replace kk := kk.trans kq
    clear kq
    clear bF_0 bF_1 bF_2 bF_3 bF_4 bF_5
    have bF_0 := bF.cell_ (i := 0) rfl
    have bF_1 := bF.cell_ (i := 1) rfl
    have bF_2 := bF.cell_ (i := 2) rfl
    have bF_3 := bF.cell_ (i := 3) rfl
    have bF_4 := bF.cell_ (i := 4) rfl
    have bF_5 := bF.cell_ (i := 5) rfl
    have hq := (show Calls Tryz.prog 35 #[.slice A2 14 c2, .slice sa f.sec.length sc] w4 (RowsC (X2 ++ putBy (f.sec.take 65535)) w4) by have h := refPutBytes_f A2 c2 X2 sa sc f.sec w4 r2 (by rw [E2.out]; decide) hf.s.rd hf.s.inn.cap (by unfold Len; have := hf.s.inn.capI; simp only at this; omega); rw [E2.out] at h; exact h)
    unfold RowsC at hq
    rw [← H3.out] at hq
    go_wp2_with fail
    refine hq.mono ?_
    rintro e w5 ⟨A3, c3, rfl, f3, kq⟩
    clear hq
    have r3 := f3.rd
    clear f3 r2
    replace hf := hf.keep kq
    replace bF := bF.keep kq
    replace kk := kk.trans kq
    clear kq
    clear bF_0 bF_1 bF_2 bF_3 bF_4 bF_5
    have bF_0 := bF.cell_ (i := 0) rfl
    have bF_1 := bF.cell_ (i := 1) rfl
    have bF_2 := bF.cell_ (i := 2) rfl
    have bF_3 := bF.cell_ (i := 3) rfl
    have bF_4 := bF.cell_ (i := 4) rfl
    have bF_5 := bF.cell_ (i := 5) rfl
    have hwb := kk.size
    have hq := refPutList_f A3 c3 X3 ba bc f.bid w5 r3 (by have := E3.out; omega) hf.b.rd hf.b.inn.cap (by unfold Len; have := hf.b.inn.capI; simp only at this; omega)
    unfold RowsC at hq
    rw [← H4.out] at hq
    go_wp2_with fail
    refine hq.mono ?_
    rintro e w6 ⟨A4, c4, rfl, f4, kq⟩
    clear hq
    replace f4 := Fr.mono f4 hwb
    replace hf := hf.keep kq
    replace bF := bF.keep kq
    replace kk := kk.trans kq
    clear kq
    clear bF_0 bF_1 bF_2 bF_3 bF_4 bF_5
    go_wp2_with fail
    refine bodyPost_ret (results_tmp2 rfl _ _ _) rfl ?_
    exact ⟨A4, c4, rfl, f4, kk⟩
end Go.Proofs.YtnjjeanbopclhaaGreatDoor

namespace Go.Proofs.YtnjjeanbopclhaaGreatDoor
open Go.RowKit

set_option maxRecDepth 100000 in
set_option maxHeartbeats 16000000 in
/-- salesroomref21.PutReply -/
theorem refPutR_f (r : Rpl) (w : World) (hr : r.Ok w) {L : List Int} {x : Int} (hv : putRV r.v = (L, x)) :
    Calls Tryz.prog 11 #[r.val] w fun e w' => ∃ A c, e = .returned (.tuple #[.slice A L.length c, .int .i64 x]) ∧ Fr 5 w' w.heap.size A L.length c (cs .u8 L) ∧ Keep w w' := by
  have lb := hr.b.len.le
  have lc := hr.c.len.le
  have hq1 := hr.seq
  have hq2 := hr.ph
  have kk : Keep w w := Keep.refl _
  obtain ⟨r, ba, bc, ca, cc⟩ := r
  unfold Rpl.val
  simp only at lb lc hq1 hq2 hv ⊢
  unfold putRV at hv
  cases hmay : mayR r with
  | false =>
    rw [hmay, if_neg (by decide)] at hv
    cases hv
    have HM := Lib.hid hmay
    clear hmay
    go_enter Tryz.func11, Tryz.ntmps11
    go_upto_region 1 with fail
    have kq : Keep w (w.alloc (.cells #[.int .i64 r.e, .int .u32 r.seq, .int .u64 r.tok, .int .u8 r.ph, .int .u64 r.tm, .bool r.has, .slice ba r.bid.length bc, .int .i64 r.item, .int .i64 r.pays, .slice ca r.cert.length cc] 32)) := Keep.alloc1 _ _
    have bF := Blk.new w 32 [.int .i64 r.e, .int .u32 r.seq, .int .u64 r.tok, .int .u8 r.ph, .int .u64 r.tm, .bool r.has, .slice ba r.bid.length bc, .int .i64 r.item, .int .i64 r.pays, .slice ca r.cert.length cc]
    change Code.wp _ _ _ _ (w.alloc (.cells #[.int .i64 r.e, .int .u32 r.seq, .int .u64 r.tok, .int .u8 r.ph, .int .u64 r.tm, .bool r.has, .slice ba r.bid.length bc, .int .i64 r.item, .int .i64 r.pays, .slice ca r.cert.length cc] 32))
    generalize w.alloc (.cells #[.int .i64 r.e, .int .u32 r.seq, .int .u64 r.tok, .int .u8 r.ph, .int .u64 r.tm, .bool r.has, .slice ba r.bid.length bc, .int .i64 r.item, .int .i64 r.pays, .slice ca r.cert.length cc] 32) = w1 at kq bF ⊢
    generalize w.heap.size = gbF at bF ⊢
    replace hr := hr.keep kq
    replace kk := kk.trans kq
    clear kq
    have bF_0 := bF.cell_ (i := 0) rfl
    have bF_1 := bF.cell_ (i := 1) rfl
    have bF_2 := bF.cell_ (i := 2) rfl
    have bF_3 := bF.cell_ (i := 3) rfl
    have bF_4 := bF.cell_ (i := 4) rfl
    have bF_5 := bF.cell_ (i := 5) rfl
    have bF_6 := bF.cell_ (i := 6) rfl
    have bF_7 := bF.cell_ (i := 7) rfl
    have bF_8 := bF.cell_ (i := 8) rfl
    have bF_9 := bF.cell_ (i := 9) rfl
    have hq := refMayR_f (Rpl.mk r ba bc ca cc) w1 hr
    unfold Rpl.val at hq
    simp only at hq
    rw [HM.out] at hq
    go_wp2_with fail
    refine hq.mono ?_
    rintro e w2 ⟨rfl, kq⟩
    clear hq
    replace hr := hr.keep kq
    replace bF := bF.keep kq
    replace kk := kk.trans kq
    clear kq
    clear bF_0 bF_1 bF_2 bF_3 bF_4 bF_5 bF_6 bF_7 bF_8 bF_9
    go_wp2_with fail
    refine bodyPost_ret (results_tmp2 rfl _ _ _) rfl ?_
    exact ⟨none, 0, rfl, Fr.empty _ _ _ _, kk⟩
  | true =>
    obtain ⟨g1, g2, g3, g4, g5, g6, g7, g8, g9, g10, g11⟩ := mayR_facts hmay
    have LL : Hid (L = bytesR r ∧ x = 0) := by
      rw [hmay, if_pos rfl] at hv
      cases hv
      exact Lib.hid ⟨rfl, rfl⟩
    have HM := Lib.hid hmay
    have zE := small_u8 (i := r.e) (by omega)
    have zI := item_u8 (i := r.item) (by omega)
    have zP := small_u64 (i := r.pays) (by omega)
    have zS := u32_u64 hq1
    obtain ⟨pn, hpn⟩ : ∃ pn : Nat, pn = r.pays.toNat := ⟨_, rfl⟩
    rw [← hpn] at zP
    obtain ⟨it, hit⟩ : ∃ it : Int, it = (itemN r.item : Int) := ⟨_, rfl⟩
    rw [← hit] at zI
    obtain ⟨hs, hhs⟩ : ∃ hs : Int, hs = (hasN r.has : Int) := ⟨_, rfl⟩
    obtain ⟨X0, hX0⟩ : ∃ X, X = [r.e] := ⟨_, rfl⟩
    obtain ⟨X1, hX1⟩ : ∃ X, X = X0 ++ le r.seq 4 := ⟨_, rfl⟩
    obtain ⟨X2, hX2⟩ : ∃ X, X = X1 ++ le r.tok 8 := ⟨_, rfl⟩
    obtain ⟨X3, hX3⟩ : ∃ X, X = X2 ++ [(r.ph : Int)] := ⟨_, rfl⟩
    obtain ⟨X4, hX4⟩ : ∃ X, X = X3 ++ le r.tm 8 := ⟨_, rfl⟩
    obtain ⟨X5, hX5⟩ : ∃ X, X = X4 ++ [hs] := ⟨_, rfl⟩
    obtain ⟨X6, hX6⟩ : ∃ X, X = X5 ++ putL (r.bid.take 255) := ⟨_, rfl⟩
    obtain ⟨X7, hX7⟩ : ∃ X, X = X6 ++ [it] := ⟨_, rfl⟩
    obtain ⟨X8, hX8⟩ : ∃ X, X = X7 ++ le pn 4 := ⟨_, rfl⟩
    obtain ⟨X9, hX9⟩ : ∃ X, X = X8 ++ putBy (r.cert.take 65535) := ⟨_, rfl⟩
    have e0 : X0.length = 1 := by rw [hX0]; rfl
    have e1 : X1.length = 5 := by rw [hX1, List.length_append, length_le, e0]
    have e2 : X2.length = 13 := by rw [hX2, List.length_append, length_le, e1]
    have e3 : X3.length = 14 := by rw [hX3, List.length_append, e2]; rfl
    have e4 : X4.length = 22 := by rw [hX4, List.length_append, length_le, e3]
    have e5 : X5.length = 23 := by rw [hX5, List.length_append, e4]; rfl
    have e6 : X6.length ≤ 100 := by rw [hX6, List.length_append, length_putL, List.length_take, e5]; omega
    have e7 : X7.length = X6.length + 1 := by rw [hX7, List.length_append]; rfl
    have e8 : X8.length = X6.length + 5 := by rw [hX8, List.length_append, length_le, e7]
    have hL : L = X9 := by
      have l1 := le_one (n := r.e.toNat) (by omega)
      have l2 := le_one (n := r.ph) hq2
      have l3 := le_one (n := hasN r.has) (by unfold hasN; split <;> omega)
      have l4 := le_one (n := itemN r.item) (by unfold itemN; split <;> omega)
      rw [Int.toNat_of_nonneg g1] at l1
      rw [LL.out.1, hX9, hX8, hX7, hX6, hX5, hX4, hX3, hX2, hX1, hX0, show r.cert.take 65535 = r.cert from List.take_of_length_le (by omega), show r.bid.take 255 = r.bid from List.take_of_length_le (by omega)]
      unfold bytesR
      rw [l1, l2, l3, l4, hpn, hit, hhs]
      simp only [List.append_assoc, List.cons_append, List.nil_append]
    have hx0 := LL.out.2
    subst hx0
    rw [hL]
    have hI : (r.item < 0 ∧ it = 255) ∨ 0 ≤ r.item := by
      rw [hit]
      unfold itemN
      by_cases h : r.item < 0
      · exact .inl ⟨h, by rw [if_pos h]; rfl⟩
      · exact .inr (by omega)
    have hH : (r.has = true ∧ hs = 1) ∨ (r.has = false ∧ hs = 0) := by
      rw [hhs]
      cases r.has
      · exact .inr ⟨rfl, rfl⟩
      · exact .inl ⟨rfl, rfl⟩
    have hi1 : 0 ≤ it ∧ it < 256 := by
      rw [hit]
      unfold itemN
      split <;> omega
    have E0 := Lib.hid e0
    have E1 := Lib.hid e1
    have E2 := Lib.hid e2
    have E3 := Lib.hid e3
    have E4 := Lib.hid e4
    have E5 := Lib.hid e5
    have E6 := Lib.hid e6
    have E7 := Lib.hid e7
    have E8 := Lib.hid e8
    have H0 := Lib.hid hX0
    have H1 := Lib.hid hX1
    have H2 := Lib.hid hX2
    have H3 := Lib.hid hX3
    have H4 := Lib.hid hX4
    have H5 := Lib.hid hX5
    have H6 := Lib.hid hX6
    have H7 := Lib.hid hX7
    have H8 := Lib.hid hX8
    have H9 := Lib.hid hX9
    replace hI := Lib.hid hI
    replace hH := Lib.hid hH
    clear e0 e1 e2 e3 e4 e5 e6 e7 e8 hX0 hX1 hX2 hX3 hX4 hX5 hX6 hX7 hX8 hX9 hL LL hmay hv g1 g2 g3 g4 g5 g6 g7 g8 g9 g10 g11 hq1 hq2 hpn hit hhs hi1
    go_enter Tryz.func11, Tryz.ntmps11
    go_upto_region 1 with fail
    have kq : Keep w (w.alloc (.cells #[.int .i64 r.e, .int .u32 r.seq, .int .u64 r.tok, .int .u8 r.ph, .int .u64 r.tm, .bool r.has, .slice ba r.bid.length bc, .int .i64 r.item, .int .i64 r.pays, .slice ca r.cert.length cc] 32)) := Keep.alloc1 _ _
    have bF := Blk.new w 32 [.int .i64 r.e, .int .u32 r.seq, .int .u64 r.tok, .int .u8 r.ph, .int .u64 r.tm, .bool r.has, .slice ba r.bid.length bc, .int .i64 r.item, .int .i64 r.pays, .slice ca r.cert.length cc]
    change Code.wp _ _ _ _ (w.alloc (.cells #[.int .i64 r.e, .int .u32 r.seq, .int .u64 r.tok, .int .u8 r.ph, .int .u64 r.tm, .bool r.has, .slice ba r.bid.length bc, .int .i64 r.item, .int .i64 r.pays, .slice ca r.cert.length cc] 32))
    generalize w.alloc (.cells #[.int .i64 r.e, .int .u32 r.seq, .int .u64 r.tok, .int .u8 r.ph, .int .u64 r.tm, .bool r.has, .slice ba r.bid.length bc, .int .i64 r.item, .int .i64 r.pays, .slice ca r.cert.length cc] 32) = w1 at kq bF ⊢
    generalize w.heap.size = gbF at bF ⊢
    replace hr := hr.keep kq
    replace kk := kk.trans kq
    clear kq
    have bF_0 := bF.cell_ (i := 0) rfl
    have bF_1 := bF.cell_ (i := 1) rfl
    have bF_2 := bF.cell_ (i := 2) rfl
    have bF_3 := bF.cell_ (i := 3) rfl
    have bF_4 := bF.cell_ (i := 4) rfl
    have bF_5 := bF.cell_ (i := 5) rfl
    have bF_6 := bF.cell_ (i := 6) rfl
    have bF_7 := bF.cell_ (i := 7) rfl
    have bF_8 := bF.cell_ (i := 8) rfl
    have bF_9 := bF.cell_ (i := 9) rfl
    have hq := refMayR_f (Rpl.mk r ba bc ca cc) w1 hr
    unfold Rpl.val at hq
    simp only at hq
    rw [HM.out] at hq
    go_wp2_with fail
    refine hq.mono ?_
    rintro e w2 ⟨rfl, kq⟩
    clear hq
    replace hr := hr.keep kq
    replace bF := bF.keep kq
    replace kk := kk.trans kq
    clear kq
    clear bF_0 bF_1 bF_2 bF_3 bF_4 bF_5 bF_6 bF_7 bF_8 bF_9
    have kb := kk
    clear kk
    have kz := Keep.refl w2
    have bz := bF.keep kz
    have c0 := bz.cell_ (i := 0) rfl
    have c1 := bz.cell_ (i := 1) rfl
    have c2 := bz.cell_ (i := 2) rfl
    have c3 := bz.cell_ (i := 3) rfl
    have c4 := bz.cell_ (i := 4) rfl
    have c5 := bz.cell_ (i := 5) rfl
    have c6 := bz.cell_ (i := 6) rfl
    have c7 := bz.cell_ (i := 7) rfl
    have c8 := bz.cell_ (i := 8) rfl
    have c9 := bz.cell_ (i := 9) rfl
    clear bz
    go_upto_region 4 with fail
    have kn : Keep w2 (w2.alloc (.cells #[.int .u8 r.e] 5)) := Keep.alloc1 _ _
    have r0 : Rd (w2.alloc (.cells #[.int .u8 r.e] 5)) (some ⟨w2.heap.size, 0, none⟩) (cs .u8 X0) := by rw [H0.out]; exact Rd.one _ _ _
    change Code.wp _ _ _ _ (w2.alloc (.cells #[.int .u8 r.e] 5))
    generalize w2.alloc (.cells #[.int .u8 r.e] 5) = v0 at kn r0 ⊢
    skip
    replace kz := kz.trans kn
    clear kn
    clear c0 c1 c2 c3 c4 c5 c6 c7 c8 c9
    have bz := bF.keep kz
    have c0 := bz.cell_ (i := 0) rfl
    have c1 := bz.cell_ (i := 1) rfl
    have c2 := bz.cell_ (i := 2) rfl
    have c3 := bz.cell_ (i := 3) rfl
    have c4 := bz.cell_ (i := 4) rfl
    have c5 := bz.cell_ (i := 5) rfl
    have c6 := bz.cell_ (i := 6) rfl
    have c7 := bz.cell_ (i := 7) rfl
    have c8 := bz.cell_ (i := 8) rfl
    have c9 := bz.cell_ (i := 9) rfl
    clear bz
    have hq : Calls Tryz.prog 34 #[.slice (some ⟨w2.heap.size, 0, none⟩) 1 1, .int .u64 (r.seq : Int), .int .i64 4] v0 (RowsC (X0 ++ le r.seq 4) v0) := by
      have h := refPut_r (some ⟨w2.heap.size, 0, none⟩) 1 X0 r.seq 4 v0 r0 (by rw [E0.out]; decide) (by decide)
      rw [E0.out] at h
      exact h
    unfold RowsC at hq
    rw [← H1.out, E1.out] at hq
    go_wp2_with fail
    refine hq.mono ?_
    rintro e v1 ⟨A1, c1', rfl, f1, kq⟩
    clear hq
    replace f1 := Fr.mono f1 kz.size
    replace kz := kz.trans kq
    clear kq
    clear r0
    clear c0 c1 c2 c3 c4 c5 c6 c7 c8 c9
    have bz := bF.keep kz
    have c0 := bz.cell_ (i := 0) rfl
    have c1 := bz.cell_ (i := 1) rfl
    have c2 := bz.cell_ (i := 2) rfl
    have c3 := bz.cell_ (i := 3) rfl
    have c4 := bz.cell_ (i := 4) rfl
    have c5 := bz.cell_ (i := 5) rfl
    have c6 := bz.cell_ (i := 6) rfl
    have c7 := bz.cell_ (i := 7) rfl
    have c8 := bz.cell_ (i := 8) rfl
    have c9 := bz.cell_ (i := 9) rfl
    clear bz
    have hq : Calls Tryz.prog 34 #[.slice A1 5 c1', .int .u64 (r.tok : Int), .int .i64 8] v1 (RowsC (X1 ++ le r.tok 8) v1) := by
      have h := refPut_r A1 c1' X1 r.tok 8 v1 f1.rd (by rw [E1.out]; decide) (by decide)
      rw [E1.out] at h
      exact h
    unfold RowsC at hq
    rw [← H2.out, E2.out] at hq
    go_wp2_with fail
    refine hq.mono ?_
    rintro e v2 ⟨A2, c2', rfl, f2, kq⟩
    clear hq
    replace f2 := Fr.mono f2 kz.size
    replace kz := kz.trans kq
    clear kq
    clear f1
    clear c0 c1 c2 c3 c4 c5 c6 c7 c8 c9
    have bz := bF.keep kz
    have c0 := bz.cell_ (i := 0) rfl
    have c1 := bz.cell_ (i := 1) rfl
    have c2 := bz.cell_ (i := 2) rfl
    have c3 := bz.cell_ (i := 3) rfl
    have c4 := bz.cell_ (i := 4) rfl
    have c5 := bz.cell_ (i := 5) rfl
    have c6 := bz.cell_ (i := 6) rfl
    have c7 := bz.cell_ (i := 7) rfl
    have c8 := bz.cell_ (i := 8) rfl
    have c9 := bz.cell_ (i := 9) rfl
    clear bz
    go_wp2_with (at_builtin; refine wpList_append_fr _ rfl _ _ 25 rfl w2.heap.size 5 (.int .u8 0) 1 Tryz.underlying25 infoByte rfl A2 13 c2' _ rfl (f2.keep (Keep.alloc1 _ _)) (some ⟨v2.heap.size, 0, none⟩) 1 1 [.int .u8 (r.ph : Int)] rfl rfl (Rd.one _ _ _) (one_int _ _) ?d1 ?d2 ?d3 ?_)
    case d1 => unfold maxLen; omega
    case d2 => omega
    case d3 => exact (kz.alloc _).size
    intro A3 c3' v3 happ
    replace kz := happ.keep (kz.alloc _) (f2.keep (Keep.alloc1 _ _))
    have f3 := happ.fr
    rw [← cs_one, ← cs_append, ← H3.out] at f3
    clear happ f2
    clear c0 c1 c2 c3 c4 c5 c6 c7 c8 c9
    have bz := bF.keep kz
    have c0 := bz.cell_ (i := 0) rfl
    have c1 := bz.cell_ (i := 1) rfl
    have c2 := bz.cell_ (i := 2) rfl
    have c3 := bz.cell_ (i := 3) rfl
    have c4 := bz.cell_ (i := 4) rfl
    have c5 := bz.cell_ (i := 5) rfl
    have c6 := bz.cell_ (i := 6) rfl
    have c7 := bz.cell_ (i := 7) rfl
    have c8 := bz.cell_ (i := 8) rfl
    have c9 := bz.cell_ (i := 9) rfl
    clear bz
    have hq : Calls Tryz.prog 34 #[.slice A3 14 c3', .int .u64 (r.tm : Int), .int .i64 8] v3 (RowsC (X3 ++ le r.tm 8) v3) := by
      have h := refPut_r A3 c3' X3 r.tm 8 v3 f3.rd (by rw [E3.out]; decide) (by decide)
      rw [E3.out] at h
      exact h
    unfold RowsC at hq
    rw [← H4.out, E4.out] at hq
    go_wp2_with fail
    refine hq.mono ?_
    rintro e v4 ⟨A4, c4', rfl, f4, kq⟩
    clear hq
    replace f4 := Fr.mono f4 kz.size
    replace kz := kz.trans kq
    clear kq
    clear f3
    clear c0 c1 c2 c3 c4 c5 c6 c7 c8 c9
    have bz := bF.keep kz
    have c0 := bz.cell_ (i := 0) rfl
    have c1 := bz.cell_ (i := 1) rfl
    have c2 := bz.cell_ (i := 2) rfl
    have c3 := bz.cell_ (i := 3) rfl
    have c4 := bz.cell_ (i := 4) rfl
    have c5 := bz.cell_ (i := 5) rfl
    have c6 := bz.cell_ (i := 6) rfl
    have c7 := bz.cell_ (i := 7) rfl
    have c8 := bz.cell_ (i := 8) rfl
    have c9 := bz.cell_ (i := 9) rfl
    clear bz
    rcases hH.out with ⟨q1, rfl⟩ | ⟨q1, rfl⟩
    · rw [q1] at c5
      replace q1 := Lib.hid q1
      rcases hI.out with ⟨q2, rfl⟩ | q2
      · have d1 : decide (0 ≤ r.item) = false := decide_eq_false (by omega)
        have d2 : (0 ≤ r.item) = False := eq_false (by omega)
        replace q2 := Lib.hid q2
        go_upto_region 11 with fail
        clear c0 c1 c2 c3 c4 c5 c6 c7 c8 c9
        have HS : ∀ v, Keep w2 v → (fun v => v.cell? ⟨gbF, 6, none⟩ = some (.slice ba r.bid.length bc)) v := fun v k => (bF.keep k).cell_ (i := 6) rfl
        refine wp_region_noPanic ?_
        refine wp_region_held_drew (S := (fun v => v.cell? ⟨gbF, 6, none⟩ = some (.slice ba r.bid.length bc))) (by kernel_rfl) (HS _ kz.drew) (fun hS => ?_)
        replace kz := kz.drew
        replace f4 := f4.keep (Keep.refl v4).drew
        generalize v4.drew = u0 at hS kz f4 ⊢
        refine wpAnyH_take (i := 0) (v := ?_) rfl (by kernel_rfl) (by kernel_rfl) (by kernel_rfl) (fun _ _ _ h => h) (Or.inl ⟨by rfl, ?_⟩) hS ?_
        rotate_left
        · (intro w hSw; (try dsimp only at hSw); go_simp; (first | done | with_reducible rfl))
        change wpAnyH _ _ _ _ _ _ _ (Act.put _ (some 34) _) _
        simp only [Act.put, List.setIfInBounds_toArray, List.set_cons_zero, List.set_cons_succ]
        refine wpAnyH_take (i := 1) (v := ?_) rfl (by kernel_rfl) (by kernel_rfl) (by kernel_rfl) (fun _ _ _ h => h) (Or.inl ⟨by rfl, ?_⟩) hS ?_
        rotate_left
        · (intro w hSw; (try dsimp only at hSw); go_simp; (first | done | with_reducible rfl))
        change wpAnyH _ _ _ _ _ _ _ (Act.put _ (some 35) _) _
        simp only [Act.put, List.setIfInBounds_toArray, List.set_cons_zero, List.set_cons_succ]
        refine wpAnyH_take (i := 4) (v := ?_) rfl (by kernel_rfl) (by kernel_rfl) (by kernel_rfl) (fun _ _ _ h => h) (Or.inl ⟨by rfl, ?_⟩) hS ?_
        rotate_left
        · (intro w hSw; (try dsimp only at hSw); go_simp; (first | done | with_reducible rfl))
        change wpAnyH _ _ _ _ _ _ _ (Act.put _ (some 38) _) _
        simp only [Act.put, List.setIfInBounds_toArray, List.set_cons_zero, List.set_cons_succ]
        refine wpAnyH_take (i := 5) (v := ?_) rfl (by kernel_rfl) (by kernel_rfl) (by kernel_rfl) (fun _ _ _ h => h) (Or.inl ⟨by rfl, ?_⟩) hS ?_
        rotate_left
        · (intro w hSw; (try dsimp only at hSw); go_simp; (first | done | with_reducible rfl))
        change wpAnyH _ _ _ _ _ _ _ (Act.put _ (some 39) _) _
        simp only [Act.put, List.setIfInBounds_toArray, List.set_cons_zero, List.set_cons_succ]
        refine wpAnyH_ready (rs := [2]) (by kernel_rfl) (by simp) ?_
        refine AllReadyH.cons rfl (fun K hK => ?_) AllReadyH.nil
        go_simp
        have kn : Keep u0 (u0.alloc (.cells #[.int .u8 1] 5)) := Keep.alloc1 _ _
        refine hK.out _ _ (HS _ (kz.trans kn)) (fun hS => ?_)
        clear hK K
        try simp only [Act.put, List.setIfInBounds_toArray, List.set_cons_zero, List.set_cons_succ]
        refine wpAnyH_ready (rs := [3]) (by kernel_rfl) (by simp) ?_
        refine AllReadyH.cons rfl (fun K hK => ?_) AllReadyH.nil
        rw [if_pos (by rfl)]
        refine wp_append_fr _ (.tmp 34) (.tmp 36) 25 rfl w2.heap.size 5 (.int .u8 0) 1 Tryz.underlying25 infoByte rfl A4 22 c4' _ rfl (f4.keep kn) (some ⟨u0.heap.size, 0, none⟩) 1 1 [.int .u8 1] rfl rfl (Rd.one _ _ _) (one_int _ _) ?g1 ?g2 ?g3 ?_
        case g1 => have := E6.out; unfold maxLen; omega
        case g2 => have := E6.out; omega
        case g3 => exact (kz.trans kn).size
        intro A5 c5' u5 happ
        replace kz := happ.keep (kz.trans kn) (f4.keep kn)
        have f5 := happ.fr
        rw [← cs_one, ← cs_append, ← H5.out] at f5
        clear happ f4 kn
        refine hK.out _ _ (HS _ kz) (fun hS => ?_)
        clear hK K
        change wpAnyH _ _ _ _ _ _ _ (Act.put _ (some 37) _) _
        try simp only [Act.put, List.setIfInBounds_toArray, List.set_cons_zero, List.set_cons_succ]
        refine wpAnyH_ready (rs := [6]) (by kernel_rfl) (by simp) ?_
        refine AllReadyH.cons rfl (fun K hK => ?_) AllReadyH.nil
        go_simp
        have hq : Calls Tryz.prog 36 #[.slice A5 23 c5', .slice ba r.bid.length bc] u5 (RowsC (X5 ++ putL (r.bid.take 255)) u5) := by
          have h := refPutList_f A5 c5' X5 ba bc r.bid u5 f5.rd (by rw [E5.out]; decide) (hr.keep kz).b.rd hr.b.inn.cap (by unfold Len; have := hr.b.inn.capI; simp only at this; omega)
          rw [E5.out] at h
          exact h
        unfold RowsC at hq
        rw [← H6.out] at hq
        refine hq.mono ?_
        rintro e u6 ⟨A6, c6', rfl, f6, kq⟩
        clear hq
        replace f6 := Fr.mono f6 kz.size
        replace kz := kz.trans kq
        clear kq f5
        go_wp2_with fail
        refine hK.out _ _ (HS _ kz) (fun hS => ?_)
        clear hK K
        try simp only [Act.put, List.setIfInBounds_toArray, List.set_cons_zero, List.set_cons_succ]
        refine wpAnyH_take (i := 7) (v := ?_) rfl (by kernel_rfl) (by kernel_rfl) (by kernel_rfl) (fun _ _ _ h => h) (Or.inl ⟨by rfl, ?_⟩) hS ?_
        rotate_left
        · (intro w hSw; (try dsimp only at hSw); go_simp; (first | done | with_reducible rfl))
        change wpAnyH _ _ _ _ _ _ _ (Act.put _ (some 4) _) _
        simp only [Act.put, List.setIfInBounds_toArray, List.set_cons_zero, List.set_cons_succ]
        refine wpAnyH_done (by kernel_rfl) ?_ _
        refine NoPanic.normal ?_
        clear HS hS
        have bz := bF.keep kz
        have c0 := bz.cell_ (i := 0) rfl
        have c1 := bz.cell_ (i := 1) rfl
        have c2 := bz.cell_ (i := 2) rfl
        have c3 := bz.cell_ (i := 3) rfl
        have c4 := bz.cell_ (i := 4) rfl
        have c5 := bz.cell_ (i := 5) rfl
        rw [q1.out] at c5
        have c6 := bz.cell_ (i := 6) rfl
        have c7 := bz.cell_ (i := 7) rfl
        have c8 := bz.cell_ (i := 8) rfl
        have c9 := bz.cell_ (i := 9) rfl
        clear bz
        go_upto_region 15 with fail
        clear c0 c1 c2 c3 c4 c5 c6 c7 c8 c9
        have HS : ∀ v, Keep w2 v → (fun v => v.cell? ⟨gbF, 8, none⟩ = some (.int .i64 r.pays)) v := fun v k => (bF.keep k).cell_ (i := 8) rfl
        refine wp_region_noPanic ?_
        refine wp_region_held_drew (S := (fun v => v.cell? ⟨gbF, 8, none⟩ = some (.int .i64 r.pays))) (by kernel_rfl) (HS _ kz.drew) (fun hS => ?_)
        replace kz := kz.drew
        replace f6 := f6.keep (Keep.refl u6).drew
        generalize u6.drew = u0 at hS kz f6 ⊢
        refine wpAnyH_take (i := 0) (v := ?_) rfl (by kernel_rfl) (by kernel_rfl) (by kernel_rfl) (fun _ _ _ h => h) (Or.inl ⟨by rfl, ?_⟩) hS ?_
        rotate_left
        · (intro w hSw; (try dsimp only at hSw); go_simp; (first | done | with_reducible rfl))
        change wpAnyH _ _ _ _ _ _ _ (Act.put _ (some 47) _) _
        simp only [Act.put, List.setIfInBounds_toArray, List.set_cons_zero, List.set_cons_succ]
        refine wpAnyH_take (i := 1) (v := ?_) rfl (by kernel_rfl) (by kernel_rfl) (by kernel_rfl) (fun _ _ _ h => h) (Or.inl ⟨by rfl, ?_⟩) hS ?_
        rotate_left
        · (intro w hSw; (try dsimp only at hSw); go_simp; (first | done | with_reducible rfl))
        change wpAnyH _ _ _ _ _ _ _ (Act.put _ (some 48) _) _
        simp only [Act.put, List.setIfInBounds_toArray, List.set_cons_zero, List.set_cons_succ]
        refine wpAnyH_take (i := 4) (v := ?_) rfl (by kernel_rfl) (by kernel_rfl) (by kernel_rfl) (fun _ _ _ h => h) (Or.inl ⟨by rfl, ?_⟩) hS ?_
        rotate_left
        · (intro w hSw; (try dsimp only at hSw); go_simp; (first | done | with_reducible rfl))
        change wpAnyH _ _ _ _ _ _ _ (Act.put _ (some 51) _) _
        simp only [Act.put, List.setIfInBounds_toArray, List.set_cons_zero, List.set_cons_succ]
        refine wpAnyH_take (i := 5) (v := ?_) rfl (by kernel_rfl) (by kernel_rfl) (by kernel_rfl) (fun _ _ _ h => h) (Or.inl ⟨by rfl, ?_⟩) hS ?_
        rotate_left
        · (intro w hSw; (try dsimp only at hSw); go_simp; (first | done | with_reducible rfl))
        change wpAnyH _ _ _ _ _ _ _ (Act.put _ (some 52) _) _
        simp only [Act.put, List.setIfInBounds_toArray, List.set_cons_zero, List.set_cons_succ]
        refine wpAnyH_take (i := 6) (v := ?_) rfl (by kernel_rfl) (by kernel_rfl) (by kernel_rfl) (fun _ _ _ h => h) (Or.inl ⟨by rfl, ?_⟩) hS ?_
        rotate_left
        · (intro w hSw; (try dsimp only at hSw); go_simp; (first | done | with_reducible rfl))
        change wpAnyH _ _ _ _ _ _ _ (Act.put _ (some 53) _) _
        simp only [Act.put, List.setIfInBounds_toArray, List.set_cons_zero, List.set_cons_succ]
        refine wpAnyH_ready (rs := [2]) (by kernel_rfl) (by simp) ?_
        refine AllReadyH.cons rfl (fun K hK => ?_) AllReadyH.nil
        go_simp
        have kn : Keep u0 (u0.alloc (.cells #[.int .u8 255] 5)) := Keep.alloc1 _ _
        refine hK.out _ _ (HS _ (kz.trans kn)) (fun hS => ?_)
        clear hK K
        try simp only [Act.put, List.setIfInBounds_toArray, List.set_cons_zero, List.set_cons_succ]
        refine wpAnyH_ready (rs := [3]) (by kernel_rfl) (by simp) ?_
        refine AllReadyH.cons rfl (fun K hK => ?_) AllReadyH.nil
        rw [if_pos (by rfl)]
        refine wp_append_fr _ (.tmp 47) (.tmp 49) 25 rfl w2.heap.size 5 (.int .u8 0) 1 Tryz.underlying25 infoByte rfl A6 X6.length c6' _ rfl (f6.keep kn) (some ⟨u0.heap.size, 0, none⟩) 1 1 [.int .u8 255] rfl rfl (Rd.one _ _ _) (one_int _ _) ?g1 ?g2 ?g3 ?_
        case g1 => have := E6.out; unfold maxLen; omega
        case g2 => have := E6.out; omega
        case g3 => exact (kz.trans kn).size
        intro A7 c7' u7 happ
        replace kz := happ.keep (kz.trans kn) (f6.keep kn)
        have f7 := happ.fr
        rw [← cs_one, ← cs_append, ← H7.out] at f7
        clear happ f6 kn
        refine hK.out _ _ (HS _ kz) (fun hS => ?_)
        clear hK K
        change wpAnyH _ _ _ _ _ _ _ (Act.put _ (some 50) _) _
        try simp only [Act.put, List.setIfInBounds_toArray, List.set_cons_zero, List.set_cons_succ]
        refine wpAnyH_ready (rs := [7]) (by kernel_rfl) (by simp) ?_
        refine AllReadyH.cons rfl (fun K hK => ?_) AllReadyH.nil
        go_simp
        have hq : Calls Tryz.prog 34 #[.slice A7 (X6.length + 1) c7', .int .u64 (pn : Int), .int .i64 4] u7 (RowsC (X7 ++ le pn 4) u7) := by
          have h := refPut_r A7 c7' X7 pn 4 u7 f7.rd (by have := E7.out; have := E6.out; omega) (by decide)
          rw [E7.out] at h
          exact h
        unfold RowsC at hq
        rw [← H8.out, E8.out] at hq
        refine hq.mono ?_
        rintro e u8 ⟨A8, c8', rfl, f8, kq⟩
        clear hq
        replace f8 := Fr.mono f8 kz.size
        replace kz := kz.trans kq
        clear kq f7
        go_wp2_with fail
        refine hK.out _ _ (HS _ kz) (fun hS => ?_)
        clear hK K
        try simp only [Act.put, List.setIfInBounds_toArray, List.set_cons_zero, List.set_cons_succ]
        refine wpAnyH_take (i := 8) (v := ?_) rfl (by kernel_rfl) (by kernel_rfl) (by kernel_rfl) (fun _ _ _ h => h) (Or.inl ⟨by rfl, ?_⟩) hS ?_
        rotate_left
        · (intro w hSw; (try dsimp only at hSw); go_simp; (first | done | with_reducible rfl))
        change wpAnyH _ _ _ _ _ _ _ (Act.put _ (some 4) _) _
        simp only [Act.put, List.setIfInBounds_toArray, List.set_cons_zero, List.set_cons_succ]
        refine wpAnyH_done (by kernel_rfl) ?_ _
        refine NoPanic.normal ?_
        clear HS hS
        have bz := bF.keep kz
        have c0 := bz.cell_ (i := 0) rfl
        have c1 := bz.cell_ (i := 1) rfl
        have c2 := bz.cell_ (i := 2) rfl
        have c3 := bz.cell_ (i := 3) rfl
        have c4 := bz.cell_ (i := 4) rfl
        have c5 := bz.cell_ (i := 5) rfl
        rw [q1.out] at c5
        have c6 := bz.cell_ (i := 6) rfl
        have c7 := bz.cell_ (i := 7) rfl
        have c8 := bz.cell_ (i := 8) rfl
        have c9 := bz.cell_ (i := 9) rfl
        clear bz
        have hq : Calls Tryz.prog 35 #[.slice A8 (X6.length + 5) c8', .slice ca r.cert.length cc] u8 (RowsC (X8 ++ putBy (r.cert.take 65535)) u8) := by
          have h := refPutBytes_f A8 c8' X8 ca cc r.cert u8 f8.rd (by have := E8.out; have := E6.out; omega) (hr.keep kz).c.rd hr.c.inn.cap (by unfold Len; have := hr.c.inn.capI; simp only at this; omega)
          rw [E8.out] at h
          exact h
        unfold RowsC at hq
        rw [← H9.out] at hq
        go_wp2_with fail
        refine hq.mono ?_
        rintro e v9 ⟨A9, c9', rfl, f9, kq⟩
        clear hq
        replace f9 := Fr.mono (Fr.mono f9 kz.size) kb.size
        replace kz := kz.trans kq
        clear c0 c1 c2 c3 c4 c5 c6 c7 c8 c9
        go_wp2_with fail
        refine bodyPost_ret (results_tmp2 rfl _ _ _) rfl ?_
        exact ⟨A9, c9', rfl, f9, kb.trans kz⟩
      · have d1 : decide (0 ≤ r.item) = true := decide_eq_true q2
        have d2 : (0 ≤ r.item) = True := eq_true q2
        replace q2 := Lib.hid q2
        go_upto_region 11 with fail
        clear c0 c1 c2 c3 c4 c5 c6 c7 c8 c9
        have HS : ∀ v, Keep w2 v → (fun v => v.cell? ⟨gbF, 6, none⟩ = some (.slice ba r.bid.length bc)) v := fun v k => (bF.keep k).cell_ (i := 6) rfl
        refine wp_region_noPanic ?_
        refine wp_region_held_drew (S := (fun v => v.cell? ⟨gbF, 6, none⟩ = some (.slice ba r.bid.length bc))) (by kernel_rfl) (HS _ kz.drew) (fun hS => ?_)
        replace kz := kz.drew
        replace f4 := f4.keep (Keep.refl v4).drew
        generalize v4.drew = u0 at hS kz f4 ⊢
        refine wpAnyH_take (i := 0) (v := ?_) rfl (by kernel_rfl) (by kernel_rfl) (by kernel_rfl) (fun _ _ _ h => h) (Or.inl ⟨by rfl, ?_⟩) hS ?_
        rotate_left
        · (intro w hSw; (try dsimp only at hSw); go_simp; (first | done | with_reducible rfl))
        change wpAnyH _ _ _ _ _ _ _ (Act.put _ (some 34) _) _
        simp only [Act.put, List.setIfInBounds_toArray, List.set_cons_zero, List.set_cons_succ]
        refine wpAnyH_take (i := 1) (v := ?_) rfl (by kernel_rfl) (by kernel_rfl) (by kernel_rfl) (fun _ _ _ h => h) (Or.inl ⟨by rfl, ?_⟩) hS ?_
        rotate_left
        · (intro w hSw; (try dsimp only at hSw); go_simp; (first | done | with_reducible rfl))
        change wpAnyH _ _ _ _ _ _ _ (Act.put _ (some 35) _) _
        simp only [Act.put, List.setIfInBounds_toArray, List.set_cons_zero, List.set_cons_succ]
        refine wpAnyH_take (i := 4) (v := ?_) rfl (by kernel_rfl) (by kernel_rfl) (by kernel_rfl) (fun _ _ _ h => h) (Or.inl ⟨by rfl, ?_⟩) hS ?_
        rotate_left
        · (intro w hSw; (try dsimp only at hSw); go_simp; (first | done | with_reducible rfl))
        change wpAnyH _ _ _ _ _ _ _ (Act.put _ (some 38) _) _
        simp only [Act.put, List.setIfInBounds_toArray, List.set_cons_zero, List.set_cons_succ]
        refine wpAnyH_take (i := 5) (v := ?_) rfl (by kernel_rfl) (by kernel_rfl) (by kernel_rfl) (fun _ _ _ h => h) (Or.inl ⟨by rfl, ?_⟩) hS ?_
        rotate_left
        · (intro w hSw; (try dsimp only at hSw); go_simp; (first | done | with_reducible rfl))
        change wpAnyH _ _ _ _ _ _ _ (Act.put _ (some 39) _) _
        simp only [Act.put, List.setIfInBounds_toArray, List.set_cons_zero, List.set_cons_succ]
        refine wpAnyH_ready (rs := [2]) (by kernel_rfl) (by simp) ?_
        refine AllReadyH.cons rfl (fun K hK => ?_) AllReadyH.nil
        go_simp
        have kn : Keep u0 (u0.alloc (.cells #[.int .u8 1] 5)) := Keep.alloc1 _ _
        refine hK.out _ _ (HS _ (kz.trans kn)) (fun hS => ?_)
        clear hK K
        try simp only [Act.put, List.setIfInBounds_toArray, List.set_cons_zero, List.set_cons_succ]
        refine wpAnyH_ready (rs := [3]) (by kernel_rfl) (by simp) ?_
        refine AllReadyH.cons rfl (fun K hK => ?_) AllReadyH.nil
        rw [if_pos (by rfl)]
        refine wp_append_fr _ (.tmp 34) (.tmp 36) 25 rfl w2.heap.size 5 (.int .u8 0) 1 Tryz.underlying25 infoByte rfl A4 22 c4' _ rfl (f4.keep kn) (some ⟨u0.heap.size, 0, none⟩) 1 1 [.int .u8 1] rfl rfl (Rd.one _ _ _) (one_int _ _) ?g1 ?g2 ?g3 ?_
        case g1 => have := E6.out; unfold maxLen; omega
        case g2 => have := E6.out; omega
        case g3 => exact (kz.trans kn).size
        intro A5 c5' u5 happ
        replace kz := happ.keep (kz.trans kn) (f4.keep kn)
        have f5 := happ.fr
        rw [← cs_one, ← cs_append, ← H5.out] at f5
        clear happ f4 kn
        refine hK.out _ _ (HS _ kz) (fun hS => ?_)
        clear hK K
        change wpAnyH _ _ _ _ _ _ _ (Act.put _ (some 37) _) _
        try simp only [Act.put, List.setIfInBounds_toArray, List.set_cons_zero, List.set_cons_succ]
        refine wpAnyH_ready (rs := [6]) (by kernel_rfl) (by simp) ?_
        refine AllReadyH.cons rfl (fun K hK => ?_) AllReadyH.nil
        go_simp
        have hq : Calls Tryz.prog 36 #[.slice A5 23 c5', .slice ba r.bid.length bc] u5 (RowsC (X5 ++ putL (r.bid.take 255)) u5) := by
          have h := refPutList_f A5 c5' X5 ba bc r.bid u5 f5.rd (by rw [E5.out]; decide) (hr.keep kz).b.rd hr.b.inn.cap (by unfold Len; have := hr.b.inn.capI; simp only at this; omega)
          rw [E5.out] at h
          exact h
        unfold RowsC at hq
        rw [← H6.out] at hq
        refine hq.mono ?_
        rintro e u6 ⟨A6, c6', rfl, f6, kq⟩
        clear hq
        replace f6 := Fr.mono f6 kz.size
        replace kz := kz.trans kq
        clear kq f5
        go_wp2_with fail
        refine hK.out _ _ (HS _ kz) (fun hS => ?_)
        clear hK K
        try simp only [Act.put, List.setIfInBounds_toArray, List.set_cons_zero, List.set_cons_succ]
        refine wpAnyH_take (i := 7) (v := ?_) rfl (by kernel_rfl) (by kernel_rfl) (by kernel_rfl) (fun _ _ _ h => h) (Or.inl ⟨by rfl, ?_⟩) hS ?_
        rotate_left
        · (intro w hSw; (try dsimp only at hSw); go_simp; (first | done | with_reducible rfl))
        change wpAnyH _ _ _ _ _ _ _ (Act.put _ (some 4) _) _
        simp only [Act.put, List.setIfInBounds_toArray, List.set_cons_zero, List.set_cons_succ]
        refine wpAnyH_done (by kernel_rfl) ?_ _
        refine NoPanic.normal ?_
        clear HS hS
        have bz := bF.keep kz
        have c0 := bz.cell_ (i := 0) rfl
        have c1 := bz.cell_ (i := 1) rfl
        have c2 := bz.cell_ (i := 2) rfl
        have c3 := bz.cell_ (i := 3) rfl
        have c4 := bz.cell_ (i := 4) rfl
        have c5 := bz.cell_ (i := 5) rfl
        rw [q1.out] at c5
        have c6 := bz.cell_ (i := 6) rfl
        have c7 := bz.cell_ (i := 7) rfl
        have c8 := bz.cell_ (i := 8) rfl
        have c9 := bz.cell_ (i := 9) rfl
        clear bz
        go_upto_region 15 with fail
        clear c0 c1 c2 c3 c4 c5 c6 c7 c8 c9
        have HS : ∀ v, Keep w2 v → (fun v => v.cell? ⟨gbF, 8, none⟩ = some (.int .i64 r.pays)) v := fun v k => (bF.keep k).cell_ (i := 8) rfl
        refine wp_region_noPanic ?_
        refine wp_region_held_drew (S := (fun v => v.cell? ⟨gbF, 8, none⟩ = some (.int .i64 r.pays))) (by kernel_rfl) (HS _ kz.drew) (fun hS => ?_)
        replace kz := kz.drew
        replace f6 := f6.keep (Keep.refl u6).drew
        generalize u6.drew = u0 at hS kz f6 ⊢
        refine wpAnyH_take (i := 0) (v := ?_) rfl (by kernel_rfl) (by kernel_rfl) (by kernel_rfl) (fun _ _ _ h => h) (Or.inl ⟨by rfl, ?_⟩) hS ?_
        rotate_left
        · (intro w hSw; (try dsimp only at hSw); go_simp; (first | done | with_reducible rfl))
        change wpAnyH _ _ _ _ _ _ _ (Act.put _ (some 47) _) _
        simp only [Act.put, List.setIfInBounds_toArray, List.set_cons_zero, List.set_cons_succ]
        refine wpAnyH_take (i := 1) (v := ?_) rfl (by kernel_rfl) (by kernel_rfl) (by kernel_rfl) (fun _ _ _ h => h) (Or.inl ⟨by rfl, ?_⟩) hS ?_
        rotate_left
        · (intro w hSw; (try dsimp only at hSw); go_simp; (first | done | with_reducible rfl))
        change wpAnyH _ _ _ _ _ _ _ (Act.put _ (some 48) _) _
        simp only [Act.put, List.setIfInBounds_toArray, List.set_cons_zero, List.set_cons_succ]
        refine wpAnyH_take (i := 4) (v := ?_) rfl (by kernel_rfl) (by kernel_rfl) (by kernel_rfl) (fun _ _ _ h => h) (Or.inl ⟨by rfl, ?_⟩) hS ?_
        rotate_left
        · (intro w hSw; (try dsimp only at hSw); go_simp; (first | done | with_reducible rfl))
        change wpAnyH _ _ _ _ _ _ _ (Act.put _ (some 51) _) _
        simp only [Act.put, List.setIfInBounds_toArray, List.set_cons_zero, List.set_cons_succ]
        refine wpAnyH_take (i := 5) (v := ?_) rfl (by kernel_rfl) (by kernel_rfl) (by kernel_rfl) (fun _ _ _ h => h) (Or.inl ⟨by rfl, ?_⟩) hS ?_
        rotate_left
        · (intro w hSw; (try dsimp only at hSw); go_simp; (first | done | with_reducible rfl))
        change wpAnyH _ _ _ _ _ _ _ (Act.put _ (some 52) _) _
        simp only [Act.put, List.setIfInBounds_toArray, List.set_cons_zero, List.set_cons_succ]
        refine wpAnyH_take (i := 6) (v := ?_) rfl (by kernel_rfl) (by kernel_rfl) (by kernel_rfl) (fun _ _ _ h => h) (Or.inl ⟨by rfl, ?_⟩) hS ?_
        rotate_left
        · (intro w hSw; (try dsimp only at hSw); go_simp; (first | done | with_reducible rfl))
        change wpAnyH _ _ _ _ _ _ _ (Act.put _ (some 53) _) _
        simp only [Act.put, List.setIfInBounds_toArray, List.set_cons_zero, List.set_cons_succ]
        refine wpAnyH_ready (rs := [2]) (by kernel_rfl) (by simp) ?_
        refine AllReadyH.cons rfl (fun K hK => ?_) AllReadyH.nil
        go_simp
        have kn : Keep u0 (u0.alloc (.cells #[.int .u8 it] 5)) := Keep.alloc1 _ _
        refine hK.out _ _ (HS _ (kz.trans kn)) (fun hS => ?_)
        clear hK K
        try simp only [Act.put, List.setIfInBounds_toArray, List.set_cons_zero, List.set_cons_succ]
        refine wpAnyH_ready (rs := [3]) (by kernel_rfl) (by simp) ?_
        refine AllReadyH.cons rfl (fun K hK => ?_) AllReadyH.nil
        rw [if_pos (by rfl)]
        refine wp_append_fr _ (.tmp 47) (.tmp 49) 25 rfl w2.heap.size 5 (.int .u8 0) 1 Tryz.underlying25 infoByte rfl A6 X6.length c6' _ rfl (f6.keep kn) (some ⟨u0.heap.size, 0, none⟩) 1 1 [.int .u8 it] rfl rfl (Rd.one _ _ _) (one_int _ _) ?g1 ?g2 ?g3 ?_
        case g1 => have := E6.out; unfold maxLen; omega
        case g2 => have := E6.out; omega
        case g3 => exact (kz.trans kn).size
        intro A7 c7' u7 happ
        replace kz := happ.keep (kz.trans kn) (f6.keep kn)
        have f7 := happ.fr
        rw [← cs_one, ← cs_append, ← H7.out] at f7
        clear happ f6 kn
        refine hK.out _ _ (HS _ kz) (fun hS => ?_)
        clear hK K
        change wpAnyH _ _ _ _ _ _ _ (Act.put _ (some 50) _) _
        try simp only [Act.put, List.setIfInBounds_toArray, List.set_cons_zero, List.set_cons_succ]
        refine wpAnyH_ready (rs := [7]) (by kernel_rfl) (by simp) ?_
        refine AllReadyH.cons rfl (fun K hK => ?_) AllReadyH.nil
        go_simp
        have hq : Calls Tryz.prog 34 #[.slice A7 (X6.length + 1) c7', .int .u64 (pn : Int), .int .i64 4] u7 (RowsC (X7 ++ le pn 4) u7) := by
          have h := refPut_r A7 c7' X7 pn 4 u7 f7.rd (by have := E7.out; have := E6.out; omega) (by decide)
          rw [E7.out] at h
          exact h
        unfold RowsC at hq
        rw [← H8.out, E8.out] at hq
        refine hq.mono ?_
        rintro e u8 ⟨A8, c8', rfl, f8, kq⟩
        clear hq
        replace f8 := Fr.mono f8 kz.size
        replace kz := kz.trans kq
        clear kq f7
        go_wp2_with fail
        refine hK.out _ _ (HS _ kz) (fun hS => ?_)
        clear hK K
        try simp only [Act.put, List.setIfInBounds_toArray, List.set_cons_zero, List.set_cons_succ]
        refine wpAnyH_take (i := 8) (v := ?_) rfl (by kernel_rfl) (by kernel_rfl) (by kernel_rfl) (fun _ _ _ h => h) (Or.inl ⟨by rfl, ?_⟩) hS ?_
        rotate_left
        · (intro w hSw; (try dsimp only at hSw); go_simp; (first | done | with_reducible rfl))
        change wpAnyH _ _ _ _ _ _ _ (Act.put _ (some 4) _) _
        simp only [Act.put, List.setIfInBounds_toArray, List.set_cons_zero, List.set_cons_succ]
        refine wpAnyH_done (by kernel_rfl) ?_ _
        refine NoPanic.normal ?_
        clear HS hS
        have bz := bF.keep kz
        have c0 := bz.cell_ (i := 0) rfl
        have c1 := bz.cell_ (i := 1) rfl
        have c2 := bz.cell_ (i := 2) rfl
        have c3 := bz.cell_ (i := 3) rfl
        have c4 := bz.cell_ (i := 4) rfl
        have c5 := bz.cell_ (i := 5) rfl
        rw [q1.out] at c5
        have c6 := bz.cell_ (i := 6) rfl
        have c7 := bz.cell_ (i := 7) rfl
        have c8 := bz.cell_ (i := 8) rfl
        have c9 := bz.cell_ (i := 9) rfl
        clear bz
        have hq : Calls Tryz.prog 35 #[.slice A8 (X6.length + 5) c8', .slice ca r.cert.length cc] u8 (RowsC (X8 ++ putBy (r.cert.take 65535)) u8) := by
          have h := refPutBytes_f A8 c8' X8 ca cc r.cert u8 f8.rd (by have := E8.out; have := E6.out; omega) (hr.keep kz).c.rd hr.c.inn.cap (by unfold Len; have := hr.c.inn.capI; simp only at this; omega)
          rw [E8.out] at h
          exact h
        unfold RowsC at hq
        rw [← H9.out] at hq
        go_wp2_with fail
        refine hq.mono ?_
        rintro e v9 ⟨A9, c9', rfl, f9, kq⟩
        clear hq
        replace f9 := Fr.mono (Fr.mono f9 kz.size) kb.size
        replace kz := kz.trans kq
        clear c0 c1 c2 c3 c4 c5 c6 c7 c8 c9
        go_wp2_with fail
        refine bodyPost_ret (results_tmp2 rfl _ _ _) rfl ?_
        exact ⟨A9, c9', rfl, f9, kb.trans kz⟩
    · rw [q1] at c5
      replace q1 := Lib.hid q1
      rcases hI.out with ⟨q2, rfl⟩ | q2
      · have d1 : decide (0 ≤ r.item) = false := decide_eq_false (by omega)
        have d2 : (0 ≤ r.item) = False := eq_false (by omega)
        replace q2 := Lib.hid q2
        go_upto_region 11 with fail
        clear c0 c1 c2 c3 c4 c5 c6 c7 c8 c9
        have HS : ∀ v, Keep w2 v → (fun v => v.cell? ⟨gbF, 6, none⟩ = some (.slice ba r.bid.length bc)) v := fun v k => (bF.keep k).cell_ (i := 6) rfl
        refine wp_region_noPanic ?_
        refine wp_region_held_drew (S := (fun v => v.cell? ⟨gbF, 6, none⟩ = some (.slice ba r.bid.length bc))) (by kernel_rfl) (HS _ kz.drew) (fun hS => ?_)
        replace kz := kz.drew
        replace f4 := f4.keep (Keep.refl v4).drew
        generalize v4.drew = u0 at hS kz f4 ⊢
        refine wpAnyH_take (i := 0) (v := ?_) rfl (by kernel_rfl) (by kernel_rfl) (by kernel_rfl) (fun _ _ _ h => h) (Or.inl ⟨by rfl, ?_⟩) hS ?_
        rotate_left
        · (intro w hSw; (try dsimp only at hSw); go_simp; (first | done | with_reducible rfl))
        change wpAnyH _ _ _ _ _ _ _ (Act.put _ (some 34) _) _
        simp only [Act.put, List.setIfInBounds_toArray, List.set_cons_zero, List.set_cons_succ]
        refine wpAnyH_take (i := 1) (v := ?_) rfl (by kernel_rfl) (by kernel_rfl) (by kernel_rfl) (fun _ _ _ h => h) (Or.inl ⟨by rfl, ?_⟩) hS ?_
        rotate_left
        · (intro w hSw; (try dsimp only at hSw); go_simp; (first | done | with_reducible rfl))
        change wpAnyH _ _ _ _ _ _ _ (Act.put _ (some 35) _) _
        simp only [Act.put, List.setIfInBounds_toArray, List.set_cons_zero, List.set_cons_succ]
        refine wpAnyH_take (i := 4) (v := ?_) rfl (by kernel_rfl) (by kernel_rfl) (by kernel_rfl) (fun _ _ _ h => h) (Or.inl ⟨by rfl, ?_⟩) hS ?_
        rotate_left
        · (intro w hSw; (try dsimp only at hSw); go_simp; (first | done | with_reducible rfl))
        change wpAnyH _ _ _ _ _ _ _ (Act.put _ (some 38) _) _
        simp only [Act.put, List.setIfInBounds_toArray, List.set_cons_zero, List.set_cons_succ]
        refine wpAnyH_take (i := 5) (v := ?_) rfl (by kernel_rfl) (by kernel_rfl) (by kernel_rfl) (fun _ _ _ h => h) (Or.inl ⟨by rfl, ?_⟩) hS ?_
        rotate_left
        · (intro w hSw; (try dsimp only at hSw); go_simp; (first | done | with_reducible rfl))
        change wpAnyH _ _ _ _ _ _ _ (Act.put _ (some 39) _) _
        simp only [Act.put, List.setIfInBounds_toArray, List.set_cons_zero, List.set_cons_succ]
        refine wpAnyH_ready (rs := [2]) (by kernel_rfl) (by simp) ?_
        refine AllReadyH.cons rfl (fun K hK => ?_) AllReadyH.nil
        go_simp
        have kn : Keep u0 (u0.alloc (.cells #[.int .u8 0] 5)) := Keep.alloc1 _ _
        refine hK.out _ _ (HS _ (kz.trans kn)) (fun hS => ?_)
        clear hK K
        try simp only [Act.put, List.setIfInBounds_toArray, List.set_cons_zero, List.set_cons_succ]
        refine wpAnyH_ready (rs := [3]) (by kernel_rfl) (by simp) ?_
        refine AllReadyH.cons rfl (fun K hK => ?_) AllReadyH.nil
        rw [if_pos (by rfl)]
        refine wp_append_fr _ (.tmp 34) (.tmp 36) 25 rfl w2.heap.size 5 (.int .u8 0) 1 Tryz.underlying25 infoByte rfl A4 22 c4' _ rfl (f4.keep kn) (some ⟨u0.heap.size, 0, none⟩) 1 1 [.int .u8 0] rfl rfl (Rd.one _ _ _) (one_int _ _) ?g1 ?g2 ?g3 ?_
        case g1 => have := E6.out; unfold maxLen; omega
        case g2 => have := E6.out; omega
        case g3 => exact (kz.trans kn).size
        intro A5 c5' u5 happ
        replace kz := happ.keep (kz.trans kn) (f4.keep kn)
        have f5 := happ.fr
        rw [← cs_one, ← cs_append, ← H5.out] at f5
        clear happ f4 kn
        refine hK.out _ _ (HS _ kz) (fun hS => ?_)
        clear hK K
        change wpAnyH _ _ _ _ _ _ _ (Act.put _ (some 37) _) _
        try simp only [Act.put, List.setIfInBounds_toArray, List.set_cons_zero, List.set_cons_succ]
        refine wpAnyH_ready (rs := [6]) (by kernel_rfl) (by simp) ?_
        refine AllReadyH.cons rfl (fun K hK => ?_) AllReadyH.nil
        go_simp
        have hq : Calls Tryz.prog 36 #[.slice A5 23 c5', .slice ba r.bid.length bc] u5 (RowsC (X5 ++ putL (r.bid.take 255)) u5) := by
          have h := refPutList_f A5 c5' X5 ba bc r.bid u5 f5.rd (by rw [E5.out]; decide) (hr.keep kz).b.rd hr.b.inn.cap (by unfold Len; have := hr.b.inn.capI; simp only at this; omega)
          rw [E5.out] at h
          exact h
        unfold RowsC at hq
        rw [← H6.out] at hq
        refine hq.mono ?_
        rintro e u6 ⟨A6, c6', rfl, f6, kq⟩
        clear hq
        replace f6 := Fr.mono f6 kz.size
        replace kz := kz.trans kq
        clear kq f5
        go_wp2_with fail
        refine hK.out _ _ (HS _ kz) (fun hS => ?_)
        clear hK K
        try simp only [Act.put, List.setIfInBounds_toArray, List.set_cons_zero, List.set_cons_succ]
        refine wpAnyH_take (i := 7) (v := ?_) rfl (by kernel_rfl) (by kernel_rfl) (by kernel_rfl) (fun _ _ _ h => h) (Or.inl ⟨by rfl, ?_⟩) hS ?_
        rotate_left
        · (intro w hSw; (try dsimp only at hSw); go_simp; (first | done | with_reducible rfl))
        change wpAnyH _ _ _ _ _ _ _ (Act.put _ (some 4) _) _
        simp only [Act.put, List.setIfInBounds_toArray, List.set_cons_zero, List.set_cons_succ]
        refine wpAnyH_done (by kernel_rfl) ?_ _
        refine NoPanic.normal ?_
        clear HS hS
        have bz := bF.keep kz
        have c0 := bz.cell_ (i := 0) rfl
        have c1 := bz.cell_ (i := 1) rfl
        have c2 := bz.cell_ (i := 2) rfl
        have c3 := bz.cell_ (i := 3) rfl
        have c4 := bz.cell_ (i := 4) rfl
        have c5 := bz.cell_ (i := 5) rfl
        rw [q1.out] at c5
        have c6 := bz.cell_ (i := 6) rfl
        have c7 := bz.cell_ (i := 7) rfl
        have c8 := bz.cell_ (i := 8) rfl
        have c9 := bz.cell_ (i := 9) rfl
        clear bz
        go_upto_region 15 with fail
        clear c0 c1 c2 c3 c4 c5 c6 c7 c8 c9
        have HS : ∀ v, Keep w2 v → (fun v => v.cell? ⟨gbF, 8, none⟩ = some (.int .i64 r.pays)) v := fun v k => (bF.keep k).cell_ (i := 8) rfl
        refine wp_region_noPanic ?_
        refine wp_region_held_drew (S := (fun v => v.cell? ⟨gbF, 8, none⟩ = some (.int .i64 r.pays))) (by kernel_rfl) (HS _ kz.drew) (fun hS => ?_)
        replace kz := kz.drew
        replace f6 := f6.keep (Keep.refl u6).drew
        generalize u6.drew = u0 at hS kz f6 ⊢
        refine wpAnyH_take (i := 0) (v := ?_) rfl (by kernel_rfl) (by kernel_rfl) (by kernel_rfl) (fun _ _ _ h => h) (Or.inl ⟨by rfl, ?_⟩) hS ?_
        rotate_left
        · (intro w hSw; (try dsimp only at hSw); go_simp; (first | done | with_reducible rfl))
        change wpAnyH _ _ _ _ _ _ _ (Act.put _ (some 47) _) _
        simp only [Act.put, List.setIfInBounds_toArray, List.set_cons_zero, List.set_cons_succ]
        refine wpAnyH_take (i := 1) (v := ?_) rfl (by kernel_rfl) (by kernel_rfl) (by kernel_rfl) (fun _ _ _ h => h) (Or.inl ⟨by rfl, ?_⟩) hS ?_
        rotate_left
        · (intro w hSw; (try dsimp only at hSw); go_simp; (first | done | with_reducible rfl))
        change wpAnyH _ _ _ _ _ _ _ (Act.put _ (some 48) _) _
        simp only [Act.put, List.setIfInBounds_toArray, List.set_cons_zero, List.set_cons_succ]
        refine wpAnyH_take (i := 4) (v := ?_) rfl (by kernel_rfl) (by kernel_rfl) (by kernel_rfl) (fun _ _ _ h => h) (Or.inl ⟨by rfl, ?_⟩) hS ?_
        rotate_left
        · (intro w hSw; (try dsimp only at hSw); go_simp; (first | done | with_reducible rfl))
        change wpAnyH _ _ _ _ _ _ _ (Act.put _ (some 51) _) _
        simp only [Act.put, List.setIfInBounds_toArray, List.set_cons_zero, List.set_cons_succ]
        refine wpAnyH_take (i := 5) (v := ?_) rfl (by kernel_rfl) (by kernel_rfl) (by kernel_rfl) (fun _ _ _ h => h) (Or.inl ⟨by rfl, ?_⟩) hS ?_
        rotate_left
        · (intro w hSw; (try dsimp only at hSw); go_simp; (first | done | with_reducible rfl))
        change wpAnyH _ _ _ _ _ _ _ (Act.put _ (some 52) _) _
        simp only [Act.put, List.setIfInBounds_toArray, List.set_cons_zero, List.set_cons_succ]
        refine wpAnyH_take (i := 6) (v := ?_) rfl (by kernel_rfl) (by kernel_rfl) (by kernel_rfl) (fun _ _ _ h => h) (Or.inl ⟨by rfl, ?_⟩) hS ?_
        rotate_left
        · (intro w hSw; (try dsimp only at hSw); go_simp; (first | done | with_reducible rfl))
        change wpAnyH _ _ _ _ _ _ _ (Act.put _ (some 53) _) _
        simp only [Act.put, List.setIfInBounds_toArray, List.set_cons_zero, List.set_cons_succ]
        refine wpAnyH_ready (rs := [2]) (by kernel_rfl) (by simp) ?_
        refine AllReadyH.cons rfl (fun K hK => ?_) AllReadyH.nil
        go_simp
        have kn : Keep u0 (u0.alloc (.cells #[.int .u8 255] 5)) := Keep.alloc1 _ _
        refine hK.out _ _ (HS _ (kz.trans kn)) (fun hS => ?_)
        clear hK K
        try simp only [Act.put, List.setIfInBounds_toArray, List.set_cons_zero, List.set_cons_succ]
        refine wpAnyH_ready (rs := [3]) (by kernel_rfl) (by simp) ?_
        refine AllReadyH.cons rfl (fun K hK => ?_) AllReadyH.nil
        rw [if_pos (by rfl)]
        refine wp_append_fr _ (.tmp 47) (.tmp 49) 25 rfl w2.heap.size 5 (.int .u8 0) 1 Tryz.underlying25 infoByte rfl A6 X6.length c6' _ rfl (f6.keep kn) (some ⟨u0.heap.size, 0, none⟩) 1 1 [.int .u8 255] rfl rfl (Rd.one _ _ _) (one_int _ _) ?g1 ?g2 ?g3 ?_
        case g1 => have := E6.out; unfold maxLen; omega
        case g2 => have := E6.out; omega
        case g3 => exact (kz.trans kn).size
        intro A7 c7' u7 happ
        replace kz := happ.keep (kz.trans kn) (f6.keep kn)
        have f7 := happ.fr
        rw [← cs_one, ← cs_append, ← H7.out] at f7
        clear happ f6 kn
        refine hK.out _ _ (HS _ kz) (fun hS => ?_)
        clear hK K
        change wpAnyH _ _ _ _ _ _ _ (Act.put _ (some 50) _) _
        try simp only [Act.put, List.setIfInBounds_toArray, List.set_cons_zero, List.set_cons_succ]
        refine wpAnyH_ready (rs := [7]) (by kernel_rfl) (by simp) ?_
        refine AllReadyH.cons rfl (fun K hK => ?_) AllReadyH.nil
        go_simp
        have hq : Calls Tryz.prog 34 #[.slice A7 (X6.length + 1) c7', .int .u64 (pn : Int), .int .i64 4] u7 (RowsC (X7 ++ le pn 4) u7) := by
          have h := refPut_r A7 c7' X7 pn 4 u7 f7.rd (by have := E7.out; have := E6.out; omega) (by decide)
          rw [E7.out] at h
          exact h
        unfold RowsC at hq
        rw [← H8.out, E8.out] at hq
        refine hq.mono ?_
        rintro e u8 ⟨A8, c8', rfl, f8, kq⟩
        clear hq
        replace f8 := Fr.mono f8 kz.size
        replace kz := kz.trans kq
        clear kq f7
        go_wp2_with fail
        refine hK.out _ _ (HS _ kz) (fun hS => ?_)
        clear hK K
        try simp only [Act.put, List.setIfInBounds_toArray, List.set_cons_zero, List.set_cons_succ]
        refine wpAnyH_take (i := 8) (v := ?_) rfl (by kernel_rfl) (by kernel_rfl) (by kernel_rfl) (fun _ _ _ h => h) (Or.inl ⟨by rfl, ?_⟩) hS ?_
        rotate_left
        · (intro w hSw; (try dsimp only at hSw); go_simp; (first | done | with_reducible rfl))
        change wpAnyH _ _ _ _ _ _ _ (Act.put _ (some 4) _) _
        simp only [Act.put, List.setIfInBounds_toArray, List.set_cons_zero, List.set_cons_succ]
        refine wpAnyH_done (by kernel_rfl) ?_ _
        refine NoPanic.normal ?_
        clear HS hS
        have bz := bF.keep kz
        have c0 := bz.cell_ (i := 0) rfl
        have c1 := bz.cell_ (i := 1) rfl
        have c2 := bz.cell_ (i := 2) rfl
        have c3 := bz.cell_ (i := 3) rfl
        have c4 := bz.cell_ (i := 4) rfl
        have c5 := bz.cell_ (i := 5) rfl
        rw [q1.out] at c5
        have c6 := bz.cell_ (i := 6) rfl
        have c7 := bz.cell_ (i := 7) rfl
        have c8 := bz.cell_ (i := 8) rfl
        have c9 := bz.cell_ (i := 9) rfl
        clear bz
        have hq : Calls Tryz.prog 35 #[.slice A8 (X6.length + 5) c8', .slice ca r.cert.length cc] u8 (RowsC (X8 ++ putBy (r.cert.take 65535)) u8) := by
          have h := refPutBytes_f A8 c8' X8 ca cc r.cert u8 f8.rd (by have := E8.out; have := E6.out; omega) (hr.keep kz).c.rd hr.c.inn.cap (by unfold Len; have := hr.c.inn.capI; simp only at this; omega)
          rw [E8.out] at h
          exact h
        unfold RowsC at hq
        rw [← H9.out] at hq
        go_wp2_with fail
        refine hq.mono ?_
        rintro e v9 ⟨A9, c9', rfl, f9, kq⟩
        clear hq
        replace f9 := Fr.mono (Fr.mono f9 kz.size) kb.size
        replace kz := kz.trans kq
        clear c0 c1 c2 c3 c4 c5 c6 c7 c8 c9
        go_wp2_with fail
        refine bodyPost_ret (results_tmp2 rfl _ _ _) rfl ?_
        exact ⟨A9, c9', rfl, f9, kb.trans kz⟩
      · have d1 : decide (0 ≤ r.item) = true := decide_eq_true q2
        have d2 : (0 ≤ r.item) = True := eq_true q2
        replace q2 := Lib.hid q2
        go_upto_region 11 with fail
        clear c0 c1 c2 c3 c4 c5 c6 c7 c8 c9
        have HS : ∀ v, Keep w2 v → (fun v => v.cell? ⟨gbF, 6, none⟩ = some (.slice ba r.bid.length bc)) v := fun v k => (bF.keep k).cell_ (i := 6) rfl
        refine wp_region_noPanic ?_
        refine wp_region_held_drew (S := (fun v => v.cell? ⟨gbF, 6, none⟩ = some (.slice ba r.bid.length bc))) (by kernel_rfl) (HS _ kz.drew) (fun hS => ?_)
        replace kz := kz.drew
        replace f4 := f4.keep (Keep.refl v4).drew
        generalize v4.drew = u0 at hS kz f4 ⊢
        refine wpAnyH_take (i := 0) (v := ?_) rfl (by kernel_rfl) (by kernel_rfl) (by kernel_rfl) (fun _ _ _ h => h) (Or.inl ⟨by rfl, ?_⟩) hS ?_
        rotate_left
        · (intro w hSw; (try dsimp only at hSw); go_simp; (first | done | with_reducible rfl))
        change wpAnyH _ _ _ _ _ _ _ (Act.put _ (some 34) _) _
        simp only [Act.put, List.setIfInBounds_toArray, List.set_cons_zero, List.set_cons_succ]
        refine wpAnyH_take (i := 1) (v := ?_) rfl (by kernel_rfl) (by kernel_rfl) (by kernel_rfl) (fun _ _ _ h => h) (Or.inl ⟨by rfl, ?_⟩) hS ?_
        rotate_left
        · (intro w hSw; (try dsimp only at hSw); go_simp; (first | done | with_reducible rfl))
        change wpAnyH _ _ _ _ _ _ _ (Act.put _ (some 35) _) _
        simp only [Act.put, List.setIfInBounds_toArray, List.set_cons_zero, List.set_cons_succ]
        refine wpAnyH_take (i := 4) (v := ?_) rfl (by kernel_rfl) (by kernel_rfl) (by kernel_rfl) (fun _ _ _ h => h) (Or.inl ⟨by rfl, ?_⟩) hS ?_
        rotate_left
        · (intro w hSw; (try dsimp only at hSw); go_simp; (first | done | with_reducible rfl))
        change wpAnyH _ _ _ _ _ _ _ (Act.put _ (some 38) _) _
        simp only [Act.put, List.setIfInBounds_toArray, List.set_cons_zero, List.set_cons_succ]
        refine wpAnyH_take (i := 5) (v := ?_) rfl (by kernel_rfl) (by kernel_rfl) (by kernel_rfl) (fun _ _ _ h => h) (Or.inl ⟨by rfl, ?_⟩) hS ?_
        rotate_left
        · (intro w hSw; (try dsimp only at hSw); go_simp; (first | done | with_reducible rfl))
        change wpAnyH _ _ _ _ _ _ _ (Act.put _ (some 39) _) _
        simp only [Act.put, List.setIfInBounds_toArray, List.set_cons_zero, List.set_cons_succ]
        refine wpAnyH_ready (rs := [2]) (by kernel_rfl) (by simp) ?_
        refine AllReadyH.cons rfl (fun K hK => ?_) AllReadyH.nil
        go_simp
        have kn : Keep u0 (u0.alloc (.cells #[.int .u8 0] 5)) := Keep.alloc1 _ _
        refine hK.out _ _ (HS _ (kz.trans kn)) (fun hS => ?_)
        clear hK K
        try simp only [Act.put, List.setIfInBounds_toArray, List.set_cons_zero, List.set_cons_succ]
        refine wpAnyH_ready (rs := [3]) (by kernel_rfl) (by simp) ?_
        refine AllReadyH.cons rfl (fun K hK => ?_) AllReadyH.nil
        rw [if_pos (by rfl)]
        refine wp_append_fr _ (.tmp 34) (.tmp 36) 25 rfl w2.heap.size 5 (.int .u8 0) 1 Tryz.underlying25 infoByte rfl A4 22 c4' _ rfl (f4.keep kn) (some ⟨u0.heap.size, 0, none⟩) 1 1 [.int .u8 0] rfl rfl (Rd.one _ _ _) (one_int _ _) ?g1 ?g2 ?g3 ?_
        case g1 => have := E6.out; unfold maxLen; omega
        case g2 => have := E6.out; omega
        case g3 => exact (kz.trans kn).size
        intro A5 c5' u5 happ
        replace kz := happ.keep (kz.trans kn) (f4.keep kn)
        have f5 := happ.fr
        rw [← cs_one, ← cs_append, ← H5.out] at f5
        clear happ f4 kn
        refine hK.out _ _ (HS _ kz) (fun hS => ?_)
        clear hK K
        change wpAnyH _ _ _ _ _ _ _ (Act.put _ (some 37) _) _
        try simp only [Act.put, List.setIfInBounds_toArray, List.set_cons_zero, List.set_cons_succ]
        refine wpAnyH_ready (rs := [6]) (by kernel_rfl) (by simp) ?_
        refine AllReadyH.cons rfl (fun K hK => ?_) AllReadyH.nil
        go_simp
        have hq : Calls Tryz.prog 36 #[.slice A5 23 c5', .slice ba r.bid.length bc] u5 (RowsC (X5 ++ putL (r.bid.take 255)) u5) := by
          have h := refPutList_f A5 c5' X5 ba bc r.bid u5 f5.rd (by rw [E5.out]; decide) (hr.keep kz).b.rd hr.b.inn.cap (by unfold Len; have := hr.b.inn.capI; simp only at this; omega)
          rw [E5.out] at h
          exact h
        unfold RowsC at hq
        rw [← H6.out] at hq
        refine hq.mono ?_
        rintro e u6 ⟨A6, c6', rfl, f6, kq⟩
        clear hq
        replace f6 := Fr.mono f6 kz.size
        replace kz := kz.trans kq
        clear kq f5
        go_wp2_with fail
        refine hK.out _ _ (HS _ kz) (fun hS => ?_)
        clear hK K
        try simp only [Act.put, List.setIfInBounds_toArray, List.set_cons_zero, List.set_cons_succ]
        refine wpAnyH_take (i := 7) (v := ?_) rfl (by kernel_rfl) (by kernel_rfl) (by kernel_rfl) (fun _ _ _ h => h) (Or.inl ⟨by rfl, ?_⟩) hS ?_
        rotate_left
        · (intro w hSw; (try dsimp only at hSw); go_simp; (first | done | with_reducible rfl))
        change wpAnyH _ _ _ _ _ _ _ (Act.put _ (some 4) _) _
        simp only [Act.put, List.setIfInBounds_toArray, List.set_cons_zero, List.set_cons_succ]
        refine wpAnyH_done (by kernel_rfl) ?_ _
        refine NoPanic.normal ?_
        clear HS hS
        have bz := bF.keep kz
        have c0 := bz.cell_ (i := 0) rfl
        have c1 := bz.cell_ (i := 1) rfl
        have c2 := bz.cell_ (i := 2) rfl
        have c3 := bz.cell_ (i := 3) rfl
        have c4 := bz.cell_ (i := 4) rfl
        have c5 := bz.cell_ (i := 5) rfl
        rw [q1.out] at c5
        have c6 := bz.cell_ (i := 6) rfl
        have c7 := bz.cell_ (i := 7) rfl
        have c8 := bz.cell_ (i := 8) rfl
        have c9 := bz.cell_ (i := 9) rfl
        clear bz
        go_upto_region 15 with fail
        clear c0 c1 c2 c3 c4 c5 c6 c7 c8 c9
        have HS : ∀ v, Keep w2 v → (fun v => v.cell? ⟨gbF, 8, none⟩ = some (.int .i64 r.pays)) v := fun v k => (bF.keep k).cell_ (i := 8) rfl
        refine wp_region_noPanic ?_
        refine wp_region_held_drew (S := (fun v => v.cell? ⟨gbF, 8, none⟩ = some (.int .i64 r.pays))) (by kernel_rfl) (HS _ kz.drew) (fun hS => ?_)
        replace kz := kz.drew
        replace f6 := f6.keep (Keep.refl u6).drew
        generalize u6.drew = u0 at hS kz f6 ⊢
        refine wpAnyH_take (i := 0) (v := ?_) rfl (by kernel_rfl) (by kernel_rfl) (by kernel_rfl) (fun _ _ _ h => h) (Or.inl ⟨by rfl, ?_⟩) hS ?_
        rotate_left
        · (intro w hSw; (try dsimp only at hSw); go_simp; (first | done | with_reducible rfl))
        change wpAnyH _ _ _ _ _ _ _ (Act.put _ (some 47) _) _
        simp only [Act.put, List.setIfInBounds_toArray, List.set_cons_zero, List.set_cons_succ]
        refine wpAnyH_take (i := 1) (v := ?_) rfl (by kernel_rfl) (by kernel_rfl) (by kernel_rfl) (fun _ _ _ h => h) (Or.inl ⟨by rfl, ?_⟩) hS ?_
        rotate_left
        · (intro w hSw; (try dsimp only at hSw); go_simp; (first | done | with_reducible rfl))
        change wpAnyH _ _ _ _ _ _ _ (Act.put _ (some 48) _) _
        simp only [Act.put, List.setIfInBounds_toArray, List.set_cons_zero, List.set_cons_succ]
        refine wpAnyH_take (i := 4) (v := ?_) rfl (by kernel_rfl) (by kernel_rfl) (by kernel_rfl) (fun _ _ _ h => h) (Or.inl ⟨by rfl, ?_⟩) hS ?_
        rotate_left
        · (intro w hSw; (try dsimp only at hSw); go_simp; (first | done | with_reducible rfl))
        change wpAnyH _ _ _ _ _ _ _ (Act.put _ (some 51) _) _
        simp only [Act.put, List.setIfInBounds_toArray, List.set_cons_zero, List.set_cons_succ]
        refine wpAnyH_take (i := 5) (v := ?_) rfl (by kernel_rfl) (by kernel_rfl) (by kernel_rfl) (fun _ _ _ h => h) (Or.inl ⟨by rfl, ?_⟩) hS ?_
        rotate_left
        · (intro w hSw; (try dsimp only at hSw); go_simp; (first | done | with_reducible rfl))
        change wpAnyH _ _ _ _ _ _ _ (Act.put _ (some 52) _) _
        simp only [Act.put, List.setIfInBounds_toArray, List.set_cons_zero, List.set_cons_succ]
        refine wpAnyH_take (i := 6) (v := ?_) rfl (by kernel_rfl) (by kernel_rfl) (by kernel_rfl) (fun _ _ _ h => h) (Or.inl ⟨by rfl, ?_⟩) hS ?_
        rotate_left
        · (intro w hSw; (try dsimp only at hSw); go_simp; (first | done | with_reducible rfl))
        change wpAnyH _ _ _ _ _ _ _ (Act.put _ (some 53) _) _
        simp only [Act.put, List.setIfInBounds_toArray, List.set_cons_zero, List.set_cons_succ]
        refine wpAnyH_ready (rs := [2]) (by kernel_rfl) (by simp) ?_
        refine AllReadyH.cons rfl (fun K hK => ?_) AllReadyH.nil
        go_simp
        have kn : Keep u0 (u0.alloc (.cells #[.int .u8 it] 5)) := Keep.alloc1 _ _
        refine hK.out _ _ (HS _ (kz.trans kn)) (fun hS => ?_)
        clear hK K
        try simp only [Act.put, List.setIfInBounds_toArray, List.set_cons_zero, List.set_cons_succ]
        refine wpAnyH_ready (rs := [3]) (by kernel_rfl) (by simp) ?_
        refine AllReadyH.cons rfl (fun K hK => ?_) AllReadyH.nil
        rw [if_pos (by rfl)]
        refine wp_append_fr _ (.tmp 47) (.tmp 49) 25 rfl w2.heap.size 5 (.int .u8 0) 1 Tryz.underlying25 infoByte rfl A6 X6.length c6' _ rfl (f6.keep kn) (some ⟨u0.heap.size, 0, none⟩) 1 1 [.int .u8 it] rfl rfl (Rd.one _ _ _) (one_int _ _) ?g1 ?g2 ?g3 ?_
        case g1 => have := E6.out; unfold maxLen; omega
        case g2 => have := E6.out; omega
        case g3 => exact (kz.trans kn).size
        intro A7 c7' u7 happ
        replace kz := happ.keep (kz.trans kn) (f6.keep kn)
        have f7 := happ.fr
        rw [← cs_one, ← cs_append, ← H7.out] at f7
        clear happ f6 kn
        refine hK.out _ _ (HS _ kz) (fun hS => ?_)
        clear hK K
        change wpAnyH _ _ _ _ _ _ _ (Act.put _ (some 50) _) _
        try simp only [Act.put, List.setIfInBounds_toArray, List.set_cons_zero, List.set_cons_succ]
        refine wpAnyH_ready (rs := [7]) (by kernel_rfl) (by simp) ?_
        refine AllReadyH.cons rfl (fun K hK => ?_) AllReadyH.nil
        go_simp
        have hq : Calls Tryz.prog 34 #[.slice A7 (X6.length + 1) c7', .int .u64 (pn : Int), .int .i64 4] u7 (RowsC (X7 ++ le pn 4) u7) := by
          have h := refPut_r A7 c7' X7 pn 4 u7 f7.rd (by have := E7.out; have := E6.out; omega) (by decide)
          rw [E7.out] at h
          exact h
        unfold RowsC at hq
        rw [← H8.out, E8.out] at hq
        refine hq.mono ?_
        rintro e u8 ⟨A8, c8', rfl, f8, kq⟩
        clear hq
        replace f8 := Fr.mono f8 kz.size
        replace kz := kz.trans kq
        clear kq f7
        go_wp2_with fail
        refine hK.out _ _ (HS _ kz) (fun hS => ?_)
        clear hK K
        try simp only [Act.put, List.setIfInBounds_toArray, List.set_cons_zero, List.set_cons_succ]
        refine wpAnyH_take (i := 8) (v := ?_) rfl (by kernel_rfl) (by kernel_rfl) (by kernel_rfl) (fun _ _ _ h => h) (Or.inl ⟨by rfl, ?_⟩) hS ?_
        rotate_left
        · (intro w hSw; (try dsimp only at hSw); go_simp; (first | done | with_reducible rfl))
        change wpAnyH _ _ _ _ _ _ _ (Act.put _ (some 4) _) _
        simp only [Act.put, List.setIfInBounds_toArray, List.set_cons_zero, List.set_cons_succ]
        refine wpAnyH_done (by kernel_rfl) ?_ _
        refine NoPanic.normal ?_
        clear HS hS
        have bz := bF.keep kz
        have c0 := bz.cell_ (i := 0) rfl
        have c1 := bz.cell_ (i := 1) rfl
        have c2 := bz.cell_ (i := 2) rfl
        have c3 := bz.cell_ (i := 3) rfl
        have c4 := bz.cell_ (i := 4) rfl
        have c5 := bz.cell_ (i := 5) rfl
        rw [q1.out] at c5
        have c6 := bz.cell_ (i := 6) rfl
        have c7 := bz.cell_ (i := 7) rfl
        have c8 := bz.cell_ (i := 8) rfl
        have c9 := bz.cell_ (i := 9) rfl
        clear bz
        have hq : Calls Tryz.prog 35 #[.slice A8 (X6.length + 5) c8', .slice ca r.cert.length cc] u8 (RowsC (X8 ++ putBy (r.cert.take 65535)) u8) := by
          have h := refPutBytes_f A8 c8' X8 ca cc r.cert u8 f8.rd (by have := E8.out; have := E6.out; omega) (hr.keep kz).c.rd hr.c.inn.cap (by unfold Len; have := hr.c.inn.capI; simp only at this; omega)
          rw [E8.out] at h
          exact h
        unfold RowsC at hq
        rw [← H9.out] at hq
        go_wp2_with fail
        refine hq.mono ?_
        rintro e v9 ⟨A9, c9', rfl, f9, kq⟩
        clear hq
        replace f9 := Fr.mono (Fr.mono f9 kz.size) kb.size
        replace kz := kz.trans kq
        clear c0 c1 c2 c3 c4 c5 c6 c7 c8 c9
        go_wp2_with fail
        refine bodyPost_ret (results_tmp2 rfl _ _ _) rfl ?_
        exact ⟨A9, c9', rfl, f9, kb.trans kz⟩
end Go.Proofs.YtnjjeanbopclhaaGreatDoor
