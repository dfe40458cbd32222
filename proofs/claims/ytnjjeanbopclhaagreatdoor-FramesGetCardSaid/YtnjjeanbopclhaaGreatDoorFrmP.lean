/-
  PLAIN LAWS on frames and replies (no program in sight): their bytes, what bytes are read as; what is put is read, and what is read is put. Conditions: those that each theorem states.
-/
import Derived.Test.YtnjjeanbopclhaaGreatDoorNumQ
namespace Go.Proofs.YtnjjeanbopclhaaGreatDoor

/-- A frame's values. -/
structure FV where
  ask : Nat
  who : Nat
  seq : Nat
  tok : Nat
  sec : List Int
  bid : List Int
/-- A reply's values. -/
structure RV where
  e : Int
  seq : Nat
  tok : Nat
  ph : Nat
  tm : Nat
  has : Bool
  bid : List Int
  item : Int
  pays : Int
  cert : List Int
def zeroF : FV := ⟨0, 0, 0, 0, [], []⟩
def zeroR : RV := ⟨0, 0, 0, 0, 0, false, [], 0, 0, []⟩
/-- May a bid be? -/
def bidOk (l : List Int) : Bool := decide (1 ≤ l.length) && decide (l.length ≤ 8) && within 1000000 l
/-- May a frame be? -/
def mayF (f : FV) : Bool :=
  decide (1 ≤ f.ask) && decide (f.ask ≤ 10) && (decide (f.ask = 2 ∨ f.ask = 3) == decide (f.seq ≠ 0)) && (decide (f.ask ≠ 1 ∧ f.ask ≠ 10) || decide (f.tok = 0)) &&
    (decide (f.ask = 1) == decide (0 < f.sec.length)) && decide (f.sec.length ≤ 16) && (if f.ask = 2 then bidOk f.bid else decide (f.bid.length = 0))
def bytesF (f : FV) : List Int := le f.ask 1 ++ (le f.who 1 ++ (le f.seq 4 ++ (le f.tok 8 ++ (putBy f.sec ++ putL f.bid))))
def putFV (f : FV) : List Int × Int := if mayF f = true then (bytesF f, 0) else ([], 1)
/-- May a reply be? -/
def mayR (r : RV) : Bool :=
  decide (0 ≤ r.e) && decide (r.e ≤ 12) && decide (r.ph ≤ 3) && decide (r.tm ≤ 1099511627776) && decide (-1 ≤ r.item) && decide (r.item < 8) && decide (0 ≤ r.pays) && decide (r.pays ≤ 2000000) && decide (r.cert.length ≤ 1024) &&
    (if r.has = true then bidOk r.bid else decide (r.bid.length = 0))
def hasN (b : Bool) : Nat := if b then 1 else 0
def itemN (i : Int) : Nat := if i < 0 then 255 else i.toNat
def bytesR (r : RV) : List Int :=
  le r.e.toNat 1 ++ (le r.seq 4 ++ (le r.tok 8 ++ (le r.ph 1 ++ (le r.tm 8 ++ (le (hasN r.has) 1 ++ (putL r.bid ++ (le (itemN r.item) 1 ++ (le r.pays.toNat 4 ++ putBy r.cert))))))))
def putRV (r : RV) : List Int × Int := if mayR r = true then (bytesR r, 0) else ([], 1)

/-- A number is read. -/
def rdN (k : Nat) (xs : List Int) : Option (Nat × List Int) := if xs.length < k then none else some (val (xs.take k), xs.drop k)
def rdL (xs : List Int) : Option (List Int × List Int) := match getL xs with | none => none | some l => some (l, xs.drop (1 + 4 * l.length))
def rdB (xs : List Int) : Option (List Int × List Int) := match getBy xs with | none => none | some l => some (l, xs.drop (2 + l.length))
/-- A frame is read. -/
def readF (xs : List Int) : Option (FV × List Int) :=
  (rdN 1 xs).bind fun a => (rdN 1 a.2).bind fun b => (rdN 4 b.2).bind fun c => (rdN 8 c.2).bind fun d => (rdB d.2).bind fun s => (rdL s.2).bind fun l =>
    some (⟨a.1, b.1, c.1, d.1, s.1, l.1⟩, l.2)
def itemV (n : Nat) : Int := if n = 255 then -1 else (n : Int)
/-- A reply is read: the reply, the byte that says whether it has a bid, what is left. -/
def readR (xs : List Int) : Option (RV × Nat × List Int) :=
  (rdN 1 xs).bind fun a => (rdN 4 a.2).bind fun b => (rdN 8 b.2).bind fun c => (rdN 1 c.2).bind fun d => (rdN 8 d.2).bind fun t => (rdN 1 t.2).bind fun h => (rdL h.2).bind fun l => (rdN 1 l.2).bind fun i => (rdN 4 i.2).bind fun p => (rdB p.2).bind fun s =>
    some (⟨(a.1 : Int), b.1, c.1, d.1, t.1, h.1 == 1, l.1, itemV i.1, (p.1 : Int), s.1⟩, h.1, s.2)
/-- frames.Get -/
def getFV (xs : List Int) : FV × Int :=
  if 256 < xs.length then (zeroF, 3) else match readF xs with
    | none => (zeroF, 4)
    | some (f, rest) => if rest = [] ∧ mayF f = true then (f, 0) else (zeroF, 4)
/-- frames.GetReply -/
def getRV (xs : List Int) : RV × Int :=
  if 4096 < xs.length then (zeroR, 3) else match readR xs with
    | none => (zeroR, 4)
    | some (r, h, rest) => if rest = [] ∧ h ≤ 1 ∧ mayR r = true then (r, 0) else (zeroR, 4)

/-- What fits into its bytes. -/
structure FitF (f : FV) : Prop where
  ask : f.ask < 256
  who : f.who < 256
  seq : f.seq < 4294967296
  tok : f.tok < 18446744073709551616
  sec : f.sec.length ≤ 65535
  bid : f.bid.length ≤ 255
  low : ∀ x ∈ f.bid, 0 ≤ x ∧ x < 4294967296
structure FitR (r : RV) : Prop where
  e : 0 ≤ r.e ∧ r.e < 256
  seq : r.seq < 4294967296
  tok : r.tok < 18446744073709551616
  ph : r.ph < 256
  tm : r.tm < 18446744073709551616
  bid : r.bid.length ≤ 255
  low : ∀ x ∈ r.bid, 0 ≤ x ∧ x < 4294967296
  item : -1 ≤ r.item ∧ r.item < 255
  pays : 0 ≤ r.pays ∧ r.pays < 4294967296
  cert : r.cert.length ≤ 65535

theorem rdN_le (n k : Nat) (r : List Int) (h : n < 256 ^ k) : rdN k (le n k ++ r) = some (n, r) := by
  unfold rdN
  rw [if_neg (by rw [List.length_append, length_le]; omega), List.take_left' (by simp), List.drop_left' (by simp), val_le, Nat.mod_eq_of_lt h]
theorem rdL_put (l r : List Int) (h : l.length ≤ 255) (hl : ∀ x ∈ l, 0 ≤ x ∧ x < 4294967296) : rdL (putL l ++ r) = some (l, r) := by
  unfold rdL
  rw [getL_put l r h, low_id hl]
  simp only
  rw [List.drop_left' (by rw [length_putL])]
theorem length_putBy' (l : List Int) : (putBy l).length = 2 + l.length := by rw [putBy, List.length_append, length_le]
theorem rdB_put (l r : List Int) (h : l.length ≤ 65535) : rdB (putBy l ++ r) = some (l, r) := by
  unfold rdB
  rw [getBy_put l r h]
  simp only
  rw [List.drop_left' (by rw [length_putBy'])]
theorem readF_put {f : FV} (h : FitF f) (r : List Int) : readF (bytesF f ++ r) = some (f, r) := by
  unfold readF bytesF
  simp only [List.append_assoc]
  rw [rdN_le _ _ _ (by have := h.ask; omega)]
  simp only [Option.bind_some]
  rw [rdN_le _ _ _ (by have := h.who; omega)]
  simp only [Option.bind_some]
  rw [rdN_le _ _ _ (by have := h.seq; omega)]
  simp only [Option.bind_some]
  rw [rdN_le _ _ _ (by have := h.tok; omega)]
  simp only [Option.bind_some]
  rw [rdB_put _ _ h.sec]
  simp only [Option.bind_some]
  rw [rdL_put _ _ h.bid h.low]
  rfl
theorem hasN_eq (b : Bool) : (hasN b == 1) = b := by cases b <;> rfl
theorem itemV_N {i : Int} (h : -1 ≤ i ∧ i < 255) : itemV (itemN i) = i := by
  unfold itemV itemN
  split
  · simp
    omega
  · rw [if_neg (by omega)]
    omega
theorem itemN_V {n : Nat} (h : n < 256) : itemN (itemV n) = n := by
  unfold itemV itemN
  by_cases e : n = 255
  · subst e
    rfl
  · rw [if_neg e, if_neg (by omega)]
    omega
theorem readR_put {x : RV} (h : FitR x) (r : List Int) : readR (bytesR x ++ r) = some (x, hasN x.has, r) := by
  unfold readR bytesR
  have h1 := h.e
  have h2 := h.item
  have h3 := h.pays
  have h4 : hasN x.has < 256 := by unfold hasN; split <;> omega
  have h5 : itemN x.item < 256 := by unfold itemN; split <;> omega
  simp only [List.append_assoc]
  rw [rdN_le _ _ _ (by omega)]
  simp only [Option.bind_some]
  rw [rdN_le _ _ _ (by have := h.seq; omega)]
  simp only [Option.bind_some]
  rw [rdN_le _ _ _ (by have := h.tok; omega)]
  simp only [Option.bind_some]
  rw [rdN_le _ _ _ (by have := h.ph; omega)]
  simp only [Option.bind_some]
  rw [rdN_le _ _ _ (by have := h.tm; omega)]
  simp only [Option.bind_some]
  rw [rdN_le _ _ _ (by omega)]
  simp only [Option.bind_some]
  rw [rdL_put _ _ h.bid h.low]
  simp only [Option.bind_some]
  rw [rdN_le _ _ _ (by omega)]
  simp only [Option.bind_some]
  rw [rdN_le _ _ _ (by omega)]
  simp only [Option.bind_some]
  rw [rdB_put _ _ h.cert]
  simp only [Option.bind_some, hasN_eq, itemV_N h2, Int.toNat_of_nonneg h1.1, Int.toNat_of_nonneg h3.1]

/-- What is read is put. -/
theorem rdN_some {k n : Nat} {xs ys : List Int} (hb : Bytes xs) (h : rdN k xs = some (n, ys)) : le n k ++ ys = xs ∧ n < 256 ^ k ∧ Bytes ys ∧ k ≤ xs.length := by
  unfold rdN at h
  split at h
  · cases h
  · rename_i hl
    cases h
    have ht : (xs.take k).length = k := by rw [List.length_take]; omega
    have h1 := le_val (hb.take k)
    have h2 := val_lt (hb.take k)
    rw [ht] at h1 h2
    exact ⟨by rw [h1, List.take_append_drop], h2, hb.drop k, by omega⟩
theorem rdB_some {l xs ys : List Int} (hb : Bytes xs) (h : rdB xs = some (l, ys)) : putBy l ++ ys = xs ∧ l.length ≤ 65535 ∧ Bytes ys ∧ 2 + l.length ≤ xs.length ∧ ys = xs.drop (2 + l.length) ∧ getBy xs = some l := by
  unfold rdB at h
  split at h
  · cases h
  · rename_i hg
    cases h
    obtain ⟨h1, h2, h3⟩ := getBy_some hb hg
    exact ⟨by rw [h3, List.take_append_drop], h1, hb.drop _, h2, rfl, hg⟩
theorem num4_range {xs : List Int} (hb : Bytes xs) (i : Nat) : 0 ≤ num4 xs i ∧ num4 xs i < 4294967296 := by
  unfold num4
  have h := val_lt ((hb.drop (1 + 4 * i)).take 4)
  have h2 : ((xs.drop (1 + 4 * i)).take 4).length ≤ 4 := by rw [List.length_take]; omega
  have h3 : 256 ^ ((xs.drop (1 + 4 * i)).take 4).length ≤ 256 ^ 4 := Nat.pow_le_pow_right (by decide) h2
  have h4 : (256 : Nat) ^ 4 = 4294967296 := by decide
  omega
theorem getL_low {xs l : List Int} (hb : Bytes xs) (h : getL xs = some l) : ∀ x ∈ l, 0 ≤ x ∧ x < 4294967296 := by
  unfold getL at h
  split at h
  · cases h
  · cases h
    intro x hx
    obtain ⟨i, _, rfl⟩ := List.mem_map.1 hx
    exact num4_range hb i
theorem rdL_some {l xs ys : List Int} (hb : Bytes xs) (h : rdL xs = some (l, ys)) : putL l ++ ys = xs ∧ l.length ≤ 255 ∧ (∀ x ∈ l, 0 ≤ x ∧ x < 4294967296) ∧ Bytes ys ∧ 1 + 4 * l.length ≤ xs.length ∧ ys = xs.drop (1 + 4 * l.length) ∧ getL xs = some l := by
  unfold rdL at h
  split at h
  · cases h
  · rename_i hg
    cases h
    obtain ⟨h1, h2, h3⟩ := getL_some hb hg
    exact ⟨by rw [h3, List.take_append_drop], h1, getL_low hb hg, hb.drop _, h2, rfl, hg⟩
theorem readF_some {xs rest : List Int} {f : FV} (hb : Bytes xs) (h : readF xs = some (f, rest)) : bytesF f ++ rest = xs ∧ FitF f := by
  unfold readF at h
  obtain ⟨⟨a, x1⟩, e1, h⟩ := Option.bind_eq_some_iff.1 h
  obtain ⟨⟨b, x2⟩, e2, h⟩ := Option.bind_eq_some_iff.1 h
  obtain ⟨⟨c, x3⟩, e3, h⟩ := Option.bind_eq_some_iff.1 h
  obtain ⟨⟨d, x4⟩, e4, h⟩ := Option.bind_eq_some_iff.1 h
  obtain ⟨⟨s, x5⟩, e5, h⟩ := Option.bind_eq_some_iff.1 h
  obtain ⟨⟨l, x6⟩, e6, h⟩ := Option.bind_eq_some_iff.1 h
  cases h
  obtain ⟨p1, q1, b1, _⟩ := rdN_some hb e1
  obtain ⟨p2, q2, b2, _⟩ := rdN_some b1 e2
  obtain ⟨p3, q3, b3, _⟩ := rdN_some b2 e3
  obtain ⟨p4, q4, b4, _⟩ := rdN_some b3 e4
  obtain ⟨p5, q5, b5, _⟩ := rdB_some b4 e5
  obtain ⟨p6, q6, r6, b6, _⟩ := rdL_some b5 e6
  refine ⟨?_, by simpa using q1, by simpa using q2, q3, q4, q5, q6, r6⟩
  unfold bytesF
  simp only [List.append_assoc]
  rw [p6, p5, p4, p3, p2, p1]
theorem readR_some {xs rest : List Int} {x : RV} {n : Nat} (hb : Bytes xs) (h : readR xs = some (x, n, rest)) (hn : n ≤ 1) : bytesR x ++ rest = xs ∧ (-1 ≤ x.item ∧ x.item < 255 → FitR x) := by
  unfold readR at h
  obtain ⟨⟨a, x1⟩, e1, h⟩ := Option.bind_eq_some_iff.1 h
  obtain ⟨⟨b, x2⟩, e2, h⟩ := Option.bind_eq_some_iff.1 h
  obtain ⟨⟨c, x3⟩, e3, h⟩ := Option.bind_eq_some_iff.1 h
  obtain ⟨⟨d, x4⟩, e4, h⟩ := Option.bind_eq_some_iff.1 h
  obtain ⟨⟨t, x5⟩, e5, h⟩ := Option.bind_eq_some_iff.1 h
  obtain ⟨⟨m, x6⟩, e6, h⟩ := Option.bind_eq_some_iff.1 h
  obtain ⟨⟨l, x7⟩, e7, h⟩ := Option.bind_eq_some_iff.1 h
  obtain ⟨⟨i, x8⟩, e8, h⟩ := Option.bind_eq_some_iff.1 h
  obtain ⟨⟨p, x9⟩, e9, h⟩ := Option.bind_eq_some_iff.1 h
  obtain ⟨⟨s, x10⟩, e10, h⟩ := Option.bind_eq_some_iff.1 h
  cases h
  obtain ⟨p1, q1, b1, _⟩ := rdN_some hb e1
  obtain ⟨p2, q2, b2, _⟩ := rdN_some b1 e2
  obtain ⟨p3, q3, b3, _⟩ := rdN_some b2 e3
  obtain ⟨p4, q4, b4, _⟩ := rdN_some b3 e4
  obtain ⟨p5, q5, b5, _⟩ := rdN_some b4 e5
  obtain ⟨p6, q6, b6, _⟩ := rdN_some b5 e6
  obtain ⟨p7, q7, r7, b7, _⟩ := rdL_some b6 e7
  obtain ⟨p8, q8, b8, _⟩ := rdN_some b7 e8
  obtain ⟨p9, q9, b9, _⟩ := rdN_some b8 e9
  obtain ⟨p10, q10, b10, _⟩ := rdB_some b9 e10
  have hm : hasN (m == 1) = m := by
    rcases (show m = 0 ∨ m = 1 by omega) with rfl | rfl <;> rfl
  refine ⟨?_, fun hi => ⟨⟨by simp, by simp at q1 ⊢; omega⟩, q2, q3, by simpa using q4, q5, q7, r7, hi, ⟨by simp, by simp at q9 ⊢; omega⟩, q10⟩⟩
  unfold bytesR
  simp only [List.append_assoc, hm, itemN_V (show i < 256 by simpa using q8), Int.toNat_natCast]
  rw [p10, p9, p8, p7, p6, p5, p4, p3, p2, p1]

theorem within_low {l : List Int} (h : within 1000000 l = true) : ∀ x ∈ l, 0 ≤ x ∧ x < 4294967296 := by
  intro x hx
  unfold within at h
  rw [List.all_eq_true] at h
  have := h x hx
  simp only [Bool.and_eq_true, decide_eq_true_eq] at this
  omega
theorem bidOk_facts {l : List Int} (h : bidOk l = true) : 1 ≤ l.length ∧ l.length ≤ 8 ∧ ∀ x ∈ l, 0 ≤ x ∧ x < 4294967296 := by
  unfold bidOk at h
  simp only [Bool.and_eq_true, decide_eq_true_eq] at h
  exact ⟨h.1.1, h.1.2, within_low h.2⟩
theorem mayF_facts {f : FV} (h : mayF f = true) : 1 ≤ f.ask ∧ f.ask ≤ 10 ∧ f.sec.length ≤ 16 ∧ f.bid.length ≤ 8 ∧ ∀ x ∈ f.bid, 0 ≤ x ∧ x < 4294967296 := by
  unfold mayF at h
  simp only [Bool.and_eq_true, decide_eq_true_eq] at h
  obtain ⟨⟨⟨⟨⟨⟨h1, h2⟩, _⟩, _⟩, _⟩, h6⟩, h7⟩ := h
  refine ⟨h1, h2, h6, ?_⟩
  split at h7
  · obtain ⟨_, b, c⟩ := bidOk_facts h7
    exact ⟨b, c⟩
  · simp only [decide_eq_true_eq] at h7
    obtain hz := List.eq_nil_of_length_eq_zero h7
    rw [hz]
    exact ⟨by simp, fun x h => by cases h⟩
theorem mayF_fit {f : FV} (h : mayF f = true) (h1 : f.who < 256) (h2 : f.seq < 4294967296) (h3 : f.tok < 18446744073709551616) : FitF f := by
  obtain ⟨a, b, c, d, e⟩ := mayF_facts h
  exact ⟨by omega, h1, h2, h3, by omega, by omega, e⟩
theorem mayR_facts {r : RV} (h : mayR r = true) : 0 ≤ r.e ∧ r.e ≤ 12 ∧ r.ph ≤ 3 ∧ r.tm ≤ 1099511627776 ∧ -1 ≤ r.item ∧ r.item < 8 ∧ 0 ≤ r.pays ∧ r.pays ≤ 2000000 ∧ r.cert.length ≤ 1024 ∧ r.bid.length ≤ 8 ∧ ∀ x ∈ r.bid, 0 ≤ x ∧ x < 4294967296 := by
  unfold mayR at h
  simp only [Bool.and_eq_true, decide_eq_true_eq] at h
  obtain ⟨⟨⟨⟨⟨⟨⟨⟨⟨h1, h2⟩, h3⟩, h4⟩, h5⟩, h6⟩, h7⟩, h8⟩, h9⟩, h10⟩ := h
  refine ⟨h1, h2, h3, h4, h5, h6, h7, h8, h9, ?_⟩
  split at h10
  · obtain ⟨_, b, c⟩ := bidOk_facts h10
    exact ⟨b, c⟩
  · simp only [decide_eq_true_eq] at h10
    obtain hz := List.eq_nil_of_length_eq_zero h10
    rw [hz]
    exact ⟨by simp, fun x h => by cases h⟩
theorem mayR_fit {r : RV} (h : mayR r = true) (h1 : r.seq < 4294967296) (h2 : r.tok < 18446744073709551616) : FitR r := by
  obtain ⟨a, b, c, d, e, f, g, i, j, k, l⟩ := mayR_facts h
  exact ⟨⟨a, by omega⟩, h1, h2, by omega, by omega, by omega, l, ⟨e, by omega⟩, ⟨g, by omega⟩, by omega⟩
theorem length_bytesF (f : FV) : (bytesF f).length = 17 + f.sec.length + 4 * f.bid.length := by
  unfold bytesF
  simp only [List.length_append, length_le, length_putBy', length_putL]
  omega
theorem length_bytesR (r : RV) : (bytesR r).length = 31 + 4 * r.bid.length + r.cert.length := by
  unfold bytesR
  simp only [List.length_append, length_le, length_putBy', length_putL]
  omega
theorem bytes_putBy {l : List Int} (h : Bytes l) : Bytes (putBy l) := (bytes_le _ _).append h
theorem bytes_bytesF {f : FV} (h : Bytes f.sec) : Bytes (bytesF f) :=
  (bytes_le _ _).append ((bytes_le _ _).append ((bytes_le _ _).append ((bytes_le _ _).append ((bytes_putBy h).append (bytes_putL _)))))
theorem bytes_bytesR {r : RV} (h : Bytes r.cert) : Bytes (bytesR r) :=
  (bytes_le _ _).append ((bytes_le _ _).append ((bytes_le _ _).append ((bytes_le _ _).append ((bytes_le _ _).append ((bytes_le _ _).append ((bytes_putL _).append ((bytes_le _ _).append ((bytes_le _ _).append (bytes_putBy h)))))))))

/-- What is put is got. -/
theorem getF_put {f : FV} (h : mayF f = true) (hf : FitF f) : getFV (bytesF f) = (f, 0) := by
  obtain ⟨_, _, c, d, _⟩ := mayF_facts h
  have hr := readF_put hf []
  rw [List.append_nil] at hr
  unfold getFV
  rw [if_neg (by rw [length_bytesF]; omega), hr]
  simp only
  rw [if_pos ⟨trivial, h⟩]
/-- With a byte more it is none. -/
theorem getF_more {f : FV} (h : mayF f = true) (hf : FitF f) : getFV (bytesF f ++ [0]) = (zeroF, 4) := by
  obtain ⟨_, _, c, d, _⟩ := mayF_facts h
  unfold getFV
  rw [if_neg (by rw [List.length_append, length_bytesF]; simp; omega), readF_put hf [0]]
  simp only
  rw [if_neg (fun h => by cases h.1)]
/-- With a byte less. -/
theorem getF_less {f : FV} (h : mayF f = true) (hf : FitF f) (hb : Bytes f.sec) : getFV ((bytesF f).take ((bytesF f).length - 1)) = (zeroF, 4) := by
  obtain ⟨_, _, c, d, _⟩ := mayF_facts h
  have hl := length_bytesF f
  unfold getFV
  rw [if_neg (by rw [List.length_take]; omega)]
  cases hr : readF ((bytesF f).take ((bytesF f).length - 1)) with
  | none => rfl
  | some q =>
    obtain ⟨g, rest⟩ := q
    simp only
    rw [if_neg]
    rintro ⟨rfl, _⟩
    obtain ⟨h1, h2⟩ := readF_some ((bytes_bytesF hb).take _) hr
    rw [List.append_nil] at h1
    have h3 : bytesF g ++ (bytesF f).drop ((bytesF f).length - 1) = bytesF f := by rw [h1, List.take_append_drop]
    have h4 := readF_put h2 ((bytesF f).drop ((bytesF f).length - 1))
    have h5 := readF_put hf []
    rw [h3] at h4
    rw [List.append_nil, h4] at h5
    injection h5 with h5
    injection h5 with _ h5
    have := congrArg List.length h5
    rw [List.length_drop] at this
    simp at this
    omega
theorem getR_put {r : RV} (h : mayR r = true) (hf : FitR r) : getRV (bytesR r) = (r, 0) := by
  obtain ⟨_, _, _, _, _, _, _, _, j, k, _⟩ := mayR_facts h
  have hr := readR_put hf []
  rw [List.append_nil] at hr
  unfold getRV
  rw [if_neg (by rw [length_bytesR]; omega), hr]
  simp only
  rw [if_pos ⟨trivial, by unfold hasN; split <;> omega, h⟩]
theorem getR_more {r : RV} (h : mayR r = true) (hf : FitR r) : getRV (bytesR r ++ [0]) = (zeroR, 4) := by
  obtain ⟨_, _, _, _, _, _, _, _, j, k, _⟩ := mayR_facts h
  unfold getRV
  rw [if_neg (by rw [List.length_append, length_bytesR]; simp; omega), readR_put hf [0]]
  simp only
  rw [if_neg (fun h => by cases h.1)]
/-- What is got is put. -/
theorem putF_get {xs : List Int} {f : FV} (hb : Bytes xs) (h : getFV xs = (f, 0)) : mayF f = true ∧ bytesF f = xs ∧ FitF f := by
  unfold getFV at h
  split at h
  · cases h
  · cases hr : readF xs with
    | none =>
      rw [hr] at h
      cases h
    | some q =>
      obtain ⟨g, rest⟩ := q
      rw [hr] at h
      simp only at h
      split at h
      · rename_i hk
        cases h
        obtain ⟨h1, h2⟩ := readF_some hb hr
        rw [hk.1, List.append_nil] at h1
        exact ⟨hk.2, h1, h2⟩
      · cases h
theorem putR_get {xs : List Int} {r : RV} (hb : Bytes xs) (h : getRV xs = (r, 0)) : mayR r = true ∧ bytesR r = xs ∧ FitR r := by
  unfold getRV at h
  split at h
  · cases h
  · cases hr : readR xs with
    | none =>
      rw [hr] at h
      cases h
    | some q =>
      obtain ⟨g, n, rest⟩ := q
      rw [hr] at h
      simp only at h
      split at h
      · rename_i hk
        cases h
        obtain ⟨h1, h2⟩ := readR_some hb hr hk.2.1
        rw [hk.1, List.append_nil] at h1
        obtain ⟨_, _, _, _, e, f, _⟩ := mayR_facts hk.2.2
        exact ⟨hk.2.2, h1, h2 ⟨e, by omega⟩⟩
      · cases h
/-- The answers of Get: what is refused is none. -/
theorem getF_err {xs : List Int} {f : FV} {e : Int} (h : getFV xs = (f, e)) (he : e ≠ 0) : f = zeroF := by
  unfold getFV at h
  split at h
  · cases h
    rfl
  · split at h
    · cases h
      rfl
    · split at h
      · cases h
        exact absurd rfl he
      · cases h
        rfl
/-- Unlike ones have unlike bytes. -/
theorem bytesF_inj {f g : FV} (hf : FitF f) (hg : FitF g) (h : bytesF f = bytesF g) : f = g := by
  have h1 := readF_put hf []
  have h2 := readF_put hg []
  rw [h, h2] at h1
  exact (congrArg Prod.fst (Option.some.inj h1)).symm
theorem bytesR_inj {f g : RV} (hf : FitR f) (hg : FitR g) (h : bytesR f = bytesR g) : f = g := by
  have h1 := readR_put hf []
  have h2 := readR_put hg []
  rw [h, h2] at h1
  exact (congrArg Prod.fst (Option.some.inj h1)).symm
end Go.Proofs.YtnjjeanbopclhaaGreatDoor
