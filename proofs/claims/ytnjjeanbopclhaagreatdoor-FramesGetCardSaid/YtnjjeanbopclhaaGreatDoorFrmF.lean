/-
  CONTRACTS for the package frames: the functions inside Get and GetReply, which read. Conditions: the reader and the cells that they captured are blocks of their own; the bytes read as a list in memory that was there before.
-/
import Derived.Test.YtnjjeanbopclhaaGreatDoorFrmE
namespace Go.Proofs.YtnjjeanbopclhaaGreatDoor
open Go.RowKit

theorem wrapU8 {a : Nat} (h : a < 256) : IntKind.u8.wrap (a : Int) = a := by
  show (a : Int) % 256 = a
  omega
theorem wrapU32 {a : Nat} (h : a < 4294967296) : IntKind.u32.wrap (a : Int) = a := by
  show (a : Int) % 4294967296 = a
  omega
theorem wrapI64 {a : Nat} (h : a < 4294967296) : IntKind.i64.wrap (a : Int) = a := by
  simp only [IntKind.wrap_i64]
  omega
theorem rdN_lt {k n : Nat} {xs ys : List Int} (hb : Bytes xs) (h : rdN k xs = some (n, ys)) : n < 256 ^ k := (rdN_some hb h).2.1
theorem Rest.far {w0 w : World} {g : Nat} {xs : List Int} (h : Rest w0 w g xs) {p : Addr} (hp : p.block ≠ g) (u : Value) : Rest w0 (w.setCell p u) g xs := by
  obtain ⟨A, c, bb, r⟩ := h
  exact ⟨A, c, bb.far hp u, r⟩
theorem Fr.turned {e : TypeId} {w a b : World} {A : Option Addr} {n c : Nat} {vs : List Value} {S : Nat → Prop} (h : Fr e a w.heap.size A n c vs) (t : But S a b) (hS : ∀ k, S k → k < w.heap.size) : Fr e b w.heap.size A n c vs :=
  h.but t fun k hk hs => by
    have h1 := (h.own_ge hk).1
    have h2 := hS k hs
    omega

/-- What the way of Get leaves. -/
def WayF (xs : List Int) (g gf : Nat) (w0 w : World) (e : Ending) (w' : World) : Prop :=
  But (fun k => k = g ∨ k = gf) w w' ∧ Keep w0 w' ∧
  match readF xs with
  | none => e = shortP ∧ (∃ L, L.length = 6 ∧ Blk w' gf 28 L)
  | some q => e = .returned (.tuple #[]) ∧ ∃ sa ba, Blk w' gf 28 [.int .u8 q.1.ask, .int .u8 q.1.who, .int .u32 q.1.seq, .int .u64 q.1.tok, .slice sa q.1.sec.length q.1.sec.length, .slice ba q.1.bid.length q.1.bid.length] ∧ Fr 5 w' w.heap.size sa q.1.sec.length q.1.sec.length (cs .u8 q.1.sec) ∧ Fr 3 w' w.heap.size ba q.1.bid.length q.1.bid.length (cs .i64 q.1.bid) ∧ Rest w0 w' g q.2

set_option maxRecDepth 100000 in
set_option maxHeartbeats 8000000 in
theorem wayF_f (w0 w : World) (k0 : Keep w0 w) (g gf : Nat) (xs : List Int) (hg : w0.heap.size ≤ g) (hgf : w0.heap.size ≤ gf) (hne : gf ≠ g) (hr : Rest w0 w g xs) (bf : Blk w gf 28 [.int .u8 0, .int .u8 0, .int .u32 0, .int .u64 0, .slice none 0 0, .slice none 0 0]) :
    Calls Tryz.prog 70 #[.pointer (some ⟨g, 0, none⟩), .pointer (some ⟨gf, 0, none⟩)] w (WayF xs g gf w0 w) := by
  have tt : But (fun k => k = g ∨ k = gf) w w := But.refl _ _
  have kw := k0
  have lg := hr.lt
  have lf := bf.lt
  have hX0 := Lib.hid hr.bytes
  have hS : ∀ k, (fun k => k = g ∨ k = gf) k → k < w.heap.size := fun k h => by rcases h with rfl | rfl <;> assumption
  have hS := Lib.hid hS
  go_enter Tryz.func70, Tryz.ntmps70
  have hq := num_f w0 w kw g xs 1 hg hr (by decide) (by decide)
  have hBy := hr.bytes
  go_wp2_with fail
  refine hq.mono ?_
  intro e w1 hp
  clear hq
  unfold ReadN at hp
  cases hx : rdN 1 xs with
  | none =>
    rw [hx] at hp
    obtain ⟨rfl, tq⟩ := hp
    have tS := tq.t.mono (T := (fun k => k = g ∨ k = gf)) fun _ h => Or.inl h
    replace bf := bf.but tq.t hne
    replace tt := tt.trans tS
    replace kw := tq.k
    clear tS tq
    refine ⟨rfl, ?_⟩
    have hz : readF xs = none := by
      unfold readF
      rw [hx]
      rfl
    unfold WayF
    rw [hz]
    exact ⟨tt, kw, rfl, ⟨_, rfl, bf⟩⟩
  | some qq =>
    obtain ⟨a, ya⟩ := qq
    rw [hx] at hp
    obtain ⟨rfl, hr', tq⟩ := hp
    have Ba := rdN_lt hBy hx
    have Za := wrapU8 (by simpa using Ba)
    have Ya := wrapI64 (a := a) (by simp at Ba; omega)
    clear Ba
    have Ea := Lib.hid hx
    clear hx hBy
    clear hr
    have hr := hr'
    clear hr'
    have tS := tq.t.mono (T := (fun k => k = g ∨ k = gf)) fun _ h => Or.inl h
    replace bf := bf.but tq.t hne
    replace tt := tt.trans tS
    replace kw := tq.k
    clear tS tq
    have hq := num_f w0 w1 kw g ya 1 hg hr (by decide) (by decide)
    have hBy := hr.bytes
    go_wp2_with fail
    refine hq.mono ?_
    intro e w2 hp
    clear hq
    unfold ReadN at hp
    cases hx : rdN 1 ya with
    | none =>
      rw [hx] at hp
      obtain ⟨rfl, tq⟩ := hp
      have tS := tq.t.mono (T := (fun k => k = g ∨ k = gf)) fun _ h => Or.inl h
      replace bf := bf.but tq.t hne
      replace tt := tt.trans tS
      replace kw := tq.k
      clear tS tq
      refine ⟨rfl, ?_⟩
      have hz : readF xs = none := by
        unfold readF
        rw [show rdN 1 xs = some (a, ya) from Ea.out, Option.bind_some]
        simp only []
        rw [hx]
        rfl
      unfold WayF
      rw [hz]
      exact ⟨tt, kw, rfl, ⟨_, rfl, bf⟩⟩
    | some qq =>
      obtain ⟨b, yb⟩ := qq
      rw [hx] at hp
      obtain ⟨rfl, hr', tq⟩ := hp
      have Bb := rdN_lt hBy hx
      have Zb := wrapU8 (by simpa using Bb)
      have Yb := wrapI64 (a := b) (by simp at Bb; omega)
      clear Bb
      have Eb := Lib.hid hx
      clear hx hBy
      clear hr
      have hr := hr'
      clear hr'
      have tS := tq.t.mono (T := (fun k => k = g ∨ k = gf)) fun _ h => Or.inl h
      replace bf := bf.but tq.t hne
      replace tt := tt.trans tS
      replace kw := tq.k
      clear tS tq
      have C0 := bf.cell_ (i := 0) rfl
      have D0 := bf.frozen 0
      have C1 := bf.cell_ (i := 1) rfl
      have D1 := bf.frozen 1
      go_upto_region 1 with fail
      have tS := But.refl (fun k => k = g ∨ k = gf) w2
      replace bf := bf.set_ 0 (.int .u8 a)
      replace hr := hr.far (p := ⟨gf, 0, none⟩) hne (.int .u8 a)
      replace tS := tS.setCell (p := ⟨gf, 0, none⟩) (.inr rfl) (.int .u8 a)
      replace kw := kw.setCell (p := ⟨gf, 0, none⟩) hgf (.int .u8 a)
      replace bf := bf.set_ 1 (.int .u8 b)
      replace hr := hr.far (p := ⟨gf, 1, none⟩) hne (.int .u8 b)
      replace tS := tS.setCell (p := ⟨gf, 1, none⟩) (.inr rfl) (.int .u8 b)
      replace kw := kw.setCell (p := ⟨gf, 1, none⟩) hgf (.int .u8 b)
      replace tt := tt.trans tS
      clear tS C0 D0 C1 D1
      generalize World.setCell _ _ _ = w3 at bf hr tt kw  ⊢
      replace bf : Blk w3 gf 28 [.int .u8 a, .int .u8 b, .int .u32 0, .int .u64 0, .slice none 0 0, .slice none 0 0] := bf
      have hq := num_f w0 w3 kw g yb 4 hg hr (by decide) (by decide)
      have hBy := hr.bytes
      go_wp2_with fail
      refine hq.mono ?_
      intro e w4 hp
      clear hq
      unfold ReadN at hp
      cases hx : rdN 4 yb with
      | none =>
        rw [hx] at hp
        obtain ⟨rfl, tq⟩ := hp
        have tS := tq.t.mono (T := (fun k => k = g ∨ k = gf)) fun _ h => Or.inl h
        replace bf := bf.but tq.t hne
        replace tt := tt.trans tS
        replace kw := tq.k
        clear tS tq
        refine ⟨rfl, ?_⟩
        have hz : readF xs = none := by
          unfold readF
          rw [show rdN 1 xs = some (a, ya) from Ea.out, Option.bind_some]
          simp only []
          rw [show rdN 1 ya = some (b, yb) from Eb.out, Option.bind_some]
          simp only []
          rw [hx]
          rfl
        unfold WayF
        rw [hz]
        exact ⟨tt, kw, rfl, ⟨_, rfl, bf⟩⟩
      | some qq =>
        obtain ⟨c, yc⟩ := qq
        rw [hx] at hp
        obtain ⟨rfl, hr', tq⟩ := hp
        have Bc := rdN_lt hBy hx
        have Zc := wrapU32 (by simpa using Bc)
        have Yc := wrapI64 (a := c) (by simp at Bc; omega)
        clear Bc
        have Ec := Lib.hid hx
        clear hx hBy
        clear hr
        have hr := hr'
        clear hr'
        have tS := tq.t.mono (T := (fun k => k = g ∨ k = gf)) fun _ h => Or.inl h
        replace bf := bf.but tq.t hne
        replace tt := tt.trans tS
        replace kw := tq.k
        clear tS tq
        have hq := num_f w0 w4 kw g yc 8 hg hr (by decide) (by decide)
        have hBy := hr.bytes
        go_wp2_with fail
        refine hq.mono ?_
        intro e w5 hp
        clear hq
        unfold ReadN at hp
        cases hx : rdN 8 yc with
        | none =>
          rw [hx] at hp
          obtain ⟨rfl, tq⟩ := hp
          have tS := tq.t.mono (T := (fun k => k = g ∨ k = gf)) fun _ h => Or.inl h
          replace bf := bf.but tq.t hne
          replace tt := tt.trans tS
          replace kw := tq.k
          clear tS tq
          refine ⟨rfl, ?_⟩
          have hz : readF xs = none := by
            unfold readF
            rw [show rdN 1 xs = some (a, ya) from Ea.out, Option.bind_some]
            simp only []
            rw [show rdN 1 ya = some (b, yb) from Eb.out, Option.bind_some]
            simp only []
            rw [show rdN 4 yb = some (c, yc) from Ec.out, Option.bind_some]
            simp only []
            rw [hx]
            rfl
          unfold WayF
          rw [hz]
          exact ⟨tt, kw, rfl, ⟨_, rfl, bf⟩⟩
        | some qq =>
          obtain ⟨d, yd⟩ := qq
          rw [hx] at hp
          obtain ⟨rfl, hr', tq⟩ := hp
          have Bd := rdN_lt hBy hx
          clear Bd
          have Ed := Lib.hid hx
          clear hx hBy
          clear hr
          have hr := hr'
          clear hr'
          have tS := tq.t.mono (T := (fun k => k = g ∨ k = gf)) fun _ h => Or.inl h
          replace bf := bf.but tq.t hne
          replace tt := tt.trans tS
          replace kw := tq.k
          clear tS tq
          have C2 := bf.cell_ (i := 2) rfl
          have D2 := bf.frozen 2
          have C3 := bf.cell_ (i := 3) rfl
          have D3 := bf.frozen 3
          go_upto_region 2 with fail
          have tS := But.refl (fun k => k = g ∨ k = gf) w5
          replace bf := bf.set_ 2 (.int .u32 c)
          replace hr := hr.far (p := ⟨gf, 2, none⟩) hne (.int .u32 c)
          replace tS := tS.setCell (p := ⟨gf, 2, none⟩) (.inr rfl) (.int .u32 c)
          replace kw := kw.setCell (p := ⟨gf, 2, none⟩) hgf (.int .u32 c)
          replace bf := bf.set_ 3 (.int .u64 d)
          replace hr := hr.far (p := ⟨gf, 3, none⟩) hne (.int .u64 d)
          replace tS := tS.setCell (p := ⟨gf, 3, none⟩) (.inr rfl) (.int .u64 d)
          replace kw := kw.setCell (p := ⟨gf, 3, none⟩) hgf (.int .u64 d)
          replace tt := tt.trans tS
          clear tS C2 D2 C3 D3
          generalize World.setCell _ _ _ = w6 at bf hr tt kw  ⊢
          replace bf : Blk w6 gf 28 [.int .u8 a, .int .u8 b, .int .u32 c, .int .u64 d, .slice none 0 0, .slice none 0 0] := bf
          have hq := bytes21_f w0 w6 kw g yd hg hr
          have hBy := hr.bytes
          go_wp2_with fail
          refine hq.mono ?_
          intro e w7 hp
          clear hq
          unfold ReadB at hp
          cases hx : rdB yd with
          | none =>
            rw [hx] at hp
            obtain ⟨rfl, tq⟩ := hp
            have tS := tq.t.mono (T := (fun k => k = g ∨ k = gf)) fun _ h => Or.inl h
            replace bf := bf.but tq.t hne
            replace tt := tt.trans tS
            replace kw := tq.k
            clear tS tq
            refine ⟨rfl, ?_⟩
            have hz : readF xs = none := by
              unfold readF
              rw [show rdN 1 xs = some (a, ya) from Ea.out, Option.bind_some]
              simp only []
              rw [show rdN 1 ya = some (b, yb) from Eb.out, Option.bind_some]
              simp only []
              rw [show rdN 4 yb = some (c, yc) from Ec.out, Option.bind_some]
              simp only []
              rw [show rdN 8 yc = some (d, yd) from Ed.out, Option.bind_some]
              simp only []
              rw [hx]
              rfl
            unfold WayF
            rw [hz]
            exact ⟨tt, kw, rfl, ⟨_, rfl, bf⟩⟩
          | some qq =>
            obtain ⟨s, ys⟩ := qq
            rw [hx] at hp
            obtain ⟨As, rfl, Fs, hr', tq⟩ := hp
            replace Fs := Fs.mono tt.size
            have Es := Lib.hid hx
            clear hx hBy
            clear hr
            have hr := hr'
            clear hr'
            have tS := tq.t.mono (T := (fun k => k = g ∨ k = gf)) fun _ h => Or.inl h
            replace bf := bf.but tq.t hne
            replace tt := tt.trans tS
            replace kw := tq.k
            clear tS tq
            have C4 := bf.cell_ (i := 4) rfl
            have D4 := bf.frozen 4
            go_upto_region 3 with fail
            have tS := But.refl (fun k => k = g ∨ k = gf) w7
            replace bf := bf.set_ 4 (.slice As s.length s.length)
            replace hr := hr.far (p := ⟨gf, 4, none⟩) hne (.slice As s.length s.length)
            replace tS := tS.setCell (p := ⟨gf, 4, none⟩) (.inr rfl) (.slice As s.length s.length)
            replace kw := kw.setCell (p := ⟨gf, 4, none⟩) hgf (.slice As s.length s.length)
            replace Fs := Fs.turned tS hS.out
            replace tt := tt.trans tS
            clear tS C4 D4
            generalize World.setCell _ _ _ = w8 at bf hr tt kw Fs ⊢
            replace bf : Blk w8 gf 28 [.int .u8 a, .int .u8 b, .int .u32 c, .int .u64 d, .slice As s.length s.length, .slice none 0 0] := bf
            have hq := list21_f w0 w8 kw g ys hg hr
            have hBy := hr.bytes
            go_wp2_with fail
            refine hq.mono ?_
            intro e w9 hp
            clear hq
            unfold ReadL at hp
            cases hx : rdL ys with
            | none =>
              rw [hx] at hp
              obtain ⟨rfl, tq⟩ := hp
              have tS := tq.t.mono (T := (fun k => k = g ∨ k = gf)) fun _ h => Or.inl h
              replace bf := bf.but tq.t hne
              replace tt := tt.trans tS
              replace kw := tq.k
              replace Fs := Fs.turned tS hS.out
              clear tS tq
              refine ⟨rfl, ?_⟩
              have hz : readF xs = none := by
                unfold readF
                rw [show rdN 1 xs = some (a, ya) from Ea.out, Option.bind_some]
                simp only []
                rw [show rdN 1 ya = some (b, yb) from Eb.out, Option.bind_some]
                simp only []
                rw [show rdN 4 yb = some (c, yc) from Ec.out, Option.bind_some]
                simp only []
                rw [show rdN 8 yc = some (d, yd) from Ed.out, Option.bind_some]
                simp only []
                rw [show rdB yd = some (s, ys) from Es.out, Option.bind_some]
                simp only []
                rw [hx]
                rfl
              unfold WayF
              rw [hz]
              exact ⟨tt, kw, rfl, ⟨_, rfl, bf⟩⟩
            | some qq =>
              obtain ⟨l, yl⟩ := qq
              rw [hx] at hp
              obtain ⟨Al, rfl, Fl, hr', tq⟩ := hp
              replace Fl := Fl.mono tt.size
              have El := Lib.hid hx
              clear hx hBy
              clear hr
              have hr := hr'
              clear hr'
              have tS := tq.t.mono (T := (fun k => k = g ∨ k = gf)) fun _ h => Or.inl h
              replace bf := bf.but tq.t hne
              replace tt := tt.trans tS
              replace kw := tq.k
              replace Fs := Fs.turned tS hS.out
              clear tS tq
              have C5 := bf.cell_ (i := 5) rfl
              have D5 := bf.frozen 5
              go_wp2_with fail
              go_end0
              have tS := But.refl (fun k => k = g ∨ k = gf) w9
              replace bf := bf.set_ 5 (.slice Al l.length l.length)
              replace hr := hr.far (p := ⟨gf, 5, none⟩) hne (.slice Al l.length l.length)
              replace tS := tS.setCell (p := ⟨gf, 5, none⟩) (.inr rfl) (.slice Al l.length l.length)
              replace kw := kw.setCell (p := ⟨gf, 5, none⟩) hgf (.slice Al l.length l.length)
              replace Fs := Fs.turned tS hS.out
              replace Fl := Fl.turned tS hS.out
              replace tt := tt.trans tS
              clear tS C5 D5
              have hz : readF xs = some (⟨a, b, c, d, s, l⟩, yl) := by
                unfold readF
                rw [show rdN 1 xs = some (a, ya) from Ea.out, Option.bind_some]
                simp only []
                rw [show rdN 1 ya = some (b, yb) from Eb.out, Option.bind_some]
                simp only []
                rw [show rdN 4 yb = some (c, yc) from Ec.out, Option.bind_some]
                simp only []
                rw [show rdN 8 yc = some (d, yd) from Ed.out, Option.bind_some]
                simp only []
                rw [show rdB yd = some (s, ys) from Es.out, Option.bind_some]
                simp only []
                rw [show rdL ys = some (l, yl) from El.out, Option.bind_some]
              unfold WayF
              rw [hz]
              exact ⟨tt, kw, rfl, As, Al, bf, Fs, Fl, hr⟩
end Go.Proofs.YtnjjeanbopclhaaGreatDoor
