/-
  CONTRACTS for the package frames: the function inside GetReply, which reads. Conditions: the reader and the cells that it captured are blocks of their own; the bytes read as a list in memory that was there before.
-/
import Derived.Test.YtnjjeanbopclhaaGreatDoorFrmF
namespace Go.Proofs.YtnjjeanbopclhaaGreatDoor
open Go.RowKit

/-- What the way of GetReply leaves. -/
def WayR (xs : List Int) (g gf gh : Nat) (w0 w : World) (e : Ending) (w' : World) : Prop :=
  But (fun k => k = g ∨ k = gf ∨ k = gh) w w' ∧ Keep w0 w' ∧
  match readR xs with
  | none => e = shortP ∧ (∃ L, L.length = 10 ∧ Blk w' gf 32 L) ∧ (∃ n : Nat, Blk w' gh 24 [.int .u64 n])
  | some q => e = .returned (.tuple #[]) ∧ ∃ ba ca, Blk w' gf 32 [.int .i64 q.1.e, .int .u32 q.1.seq, .int .u64 q.1.tok, .int .u8 q.1.ph, .int .u64 q.1.tm, .bool false, .slice ba q.1.bid.length q.1.bid.length, .int .i64 q.1.item, .int .i64 q.1.pays, .slice ca q.1.cert.length q.1.cert.length] ∧ Fr 3 w' w.heap.size ba q.1.bid.length q.1.bid.length (cs .i64 q.1.bid) ∧ Fr 5 w' w.heap.size ca q.1.cert.length q.1.cert.length (cs .u8 q.1.cert) ∧ Rest w0 w' g q.2.2 ∧ Blk w' gh 24 [.int .u64 q.2.1]

set_option maxRecDepth 100000 in
set_option maxHeartbeats 8000000 in
theorem wayR_f (w0 w : World) (k0 : Keep w0 w) (g gf gh : Nat) (xs : List Int) (hg : w0.heap.size ≤ g) (hgf : w0.heap.size ≤ gf) (hgh : w0.heap.size ≤ gh) (hne : gf ≠ g) (hn1 : gh ≠ g) (hn2 : gh ≠ gf) (hr : Rest w0 w g xs) (bf : Blk w gf 32 [.int .i64 0, .int .u32 0, .int .u64 0, .int .u8 0, .int .u64 0, .bool false, .slice none 0 0, .int .i64 0, .int .i64 0, .slice none 0 0]) (bh : Blk w gh 24 [.int .u64 0]) :
    Calls Tryz.prog 77 #[.pointer (some ⟨g, 0, none⟩), .pointer (some ⟨gf, 0, none⟩), .pointer (some ⟨gh, 0, none⟩)] w (WayR xs g gf gh w0 w) := by
  have tt : But (fun k => k = g ∨ k = gf ∨ k = gh) w w := But.refl _ _
  have kw := k0
  have lg := hr.lt
  have lf := bf.lt
  have hX0 := Lib.hid hr.bytes
  have lh := bh.lt
  have hn3 := Ne.symm hn2
  have hS : ∀ k, (fun k => k = g ∨ k = gf ∨ k = gh) k → k < w.heap.size := fun k h => by rcases h with rfl | rfl | rfl <;> assumption
  have hS := Lib.hid hS
  go_enter Tryz.func77, Tryz.ntmps77
  have hq := num_f w0 w kw g xs 1 hg hr (by decide) (by decide)
  have hBy := hr.bytes
  go_wp2_with fail
  refine hq.mono ?_
  intro e w1 hp
  clear hq
  unfold ReadN at hp
  cases hx : rdN 1 xs with
  | none =>
    rw [hx] at hp
    obtain ⟨rfl, tq⟩ := hp
    have tS := tq.t.mono (T := (fun k => k = g ∨ k = gf ∨ k = gh)) fun _ h => Or.inl h
    replace bf := bf.but tq.t hne
    replace tt := tt.trans tS
    replace kw := tq.k
    replace bh := bh.but tq.t hn1
    clear tS tq
    refine ⟨rfl, ?_⟩
    have hz : readR xs = none := by
      unfold readR
      rw [hx]
      rfl
    unfold WayR
    rw [hz]
    exact ⟨tt, kw, rfl, ⟨_, rfl, bf⟩, ⟨_, bh⟩⟩
  | some qq =>
    obtain ⟨a, ya⟩ := qq
    rw [hx] at hp
    obtain ⟨rfl, hr', tq⟩ := hp
    have Ba := rdN_lt hBy hx
    have Za := wrapU8 (by simpa using Ba)
    have Ya := wrapI64 (a := a) (by simp at Ba; omega)
    clear Ba
    have Ea := Lib.hid hx
    clear hx hBy
    clear hr
    have hr := hr'
    clear hr'
    have tS := tq.t.mono (T := (fun k => k = g ∨ k = gf ∨ k = gh)) fun _ h => Or.inl h
    replace bf := bf.but tq.t hne
    replace tt := tt.trans tS
    replace kw := tq.k
    replace bh := bh.but tq.t hn1
    clear tS tq
    have hq := num_f w0 w1 kw g ya 4 hg hr (by decide) (by decide)
    have hBy := hr.bytes
    go_wp2_with fail
    refine hq.mono ?_
    intro e w2 hp
    clear hq
    unfold ReadN at hp
    cases hx : rdN 4 ya with
    | none =>
      rw [hx] at hp
      obtain ⟨rfl, tq⟩ := hp
      have tS := tq.t.mono (T := (fun k => k = g ∨ k = gf ∨ k = gh)) fun _ h => Or.inl h
      replace bf := bf.but tq.t hne
      replace tt := tt.trans tS
      replace kw := tq.k
      replace bh := bh.but tq.t hn1
      clear tS tq
      refine ⟨rfl, ?_⟩
      have hz : readR xs = none := by
        unfold readR
        rw [show rdN 1 xs = some (a, ya) from Ea.out, Option.bind_some]
        simp only []
        rw [hx]
        rfl
      unfold WayR
      rw [hz]
      exact ⟨tt, kw, rfl, ⟨_, rfl, bf⟩, ⟨_, bh⟩⟩
    | some qq =>
      obtain ⟨b, yb⟩ := qq
      rw [hx] at hp
      obtain ⟨rfl, hr', tq⟩ := hp
      have Bb := rdN_lt hBy hx
      have Zb := wrapU32 (by simpa using Bb)
      have Yb := wrapI64 (a := b) (by simp at Bb; omega)
      clear Bb
      have Eb := Lib.hid hx
      clear hx hBy
      clear hr
      have hr := hr'
      clear hr'
      have tS := tq.t.mono (T := (fun k => k = g ∨ k = gf ∨ k = gh)) fun _ h => Or.inl h
      replace bf := bf.but tq.t hne
      replace tt := tt.trans tS
      replace kw := tq.k
      replace bh := bh.but tq.t hn1
      clear tS tq
      have hq := num_f w0 w2 kw g yb 8 hg hr (by decide) (by decide)
      have hBy := hr.bytes
      go_wp2_with fail
      refine hq.mono ?_
      intro e w3 hp
      clear hq
      unfold ReadN at hp
      cases hx : rdN 8 yb with
      | none =>
        rw [hx] at hp
        obtain ⟨rfl, tq⟩ := hp
        have tS := tq.t.mono (T := (fun k => k = g ∨ k = gf ∨ k = gh)) fun _ h => Or.inl h
        replace bf := bf.but tq.t hne
        replace tt := tt.trans tS
        replace kw := tq.k
        replace bh := bh.but tq.t hn1
        clear tS tq
        refine ⟨rfl, ?_⟩
        have hz : readR xs = none := by
          unfold readR
          rw [show rdN 1 xs = some (a, ya) from Ea.out, Option.bind_some]
          simp only []
          rw [show rdN 4 ya = some (b, yb) from Eb.out, Option.bind_some]
          simp only []
          rw [hx]
          rfl
        unfold WayR
        rw [hz]
        exact ⟨tt, kw, rfl, ⟨_, rfl, bf⟩, ⟨_, bh⟩⟩
      | some qq =>
        obtain ⟨c, yc⟩ := qq
        rw [hx] at hp
        obtain ⟨rfl, hr', tq⟩ := hp
        have Bc := rdN_lt hBy hx
        clear Bc
        have Ec := Lib.hid hx
        clear hx hBy
        clear hr
        have hr := hr'
        clear hr'
        have tS := tq.t.mono (T := (fun k => k = g ∨ k = gf ∨ k = gh)) fun _ h => Or.inl h
        replace bf := bf.but tq.t hne
        replace tt := tt.trans tS
        replace kw := tq.k
        replace bh := bh.but tq.t hn1
        clear tS tq
        have C0 := bf.cell_ (i := 0) rfl
        have D0 := bf.frozen 0
        have C1 := bf.cell_ (i := 1) rfl
        have D1 := bf.frozen 1
        have C2 := bf.cell_ (i := 2) rfl
        have D2 := bf.frozen 2
        go_upto_region 1 with fail
        have tS := But.refl (fun k => k = g ∨ k = gf ∨ k = gh) w3
        replace bf := bf.set_ 0 (.int .i64 a)
        replace hr := hr.far (p := ⟨gf, 0, none⟩) hne (.int .i64 a)
        replace tS := tS.setCell (p := ⟨gf, 0, none⟩) (.inr (.inl rfl)) (.int .i64 a)
        replace kw := kw.setCell (p := ⟨gf, 0, none⟩) hgf (.int .i64 a)
        replace bh := bh.far (p := ⟨gf, 0, none⟩) hn3 (.int .i64 a)
        replace bf := bf.set_ 1 (.int .u32 b)
        replace hr := hr.far (p := ⟨gf, 1, none⟩) hne (.int .u32 b)
        replace tS := tS.setCell (p := ⟨gf, 1, none⟩) (.inr (.inl rfl)) (.int .u32 b)
        replace kw := kw.setCell (p := ⟨gf, 1, none⟩) hgf (.int .u32 b)
        replace bh := bh.far (p := ⟨gf, 1, none⟩) hn3 (.int .u32 b)
        replace bf := bf.set_ 2 (.int .u64 c)
        replace hr := hr.far (p := ⟨gf, 2, none⟩) hne (.int .u64 c)
        replace tS := tS.setCell (p := ⟨gf, 2, none⟩) (.inr (.inl rfl)) (.int .u64 c)
        replace kw := kw.setCell (p := ⟨gf, 2, none⟩) hgf (.int .u64 c)
        replace bh := bh.far (p := ⟨gf, 2, none⟩) hn3 (.int .u64 c)
        replace tt := tt.trans tS
        clear tS C0 D0 C1 D1 C2 D2
        generalize World.setCell _ _ _ = w4 at bf hr tt kw bh  ⊢
        replace bf : Blk w4 gf 32 [.int .i64 a, .int .u32 b, .int .u64 c, .int .u8 0, .int .u64 0, .bool false, .slice none 0 0, .int .i64 0, .int .i64 0, .slice none 0 0] := bf
        have hq := num_f w0 w4 kw g yc 1 hg hr (by decide) (by decide)
        have hBy := hr.bytes
        go_wp2_with fail
        refine hq.mono ?_
        intro e w5 hp
        clear hq
        unfold ReadN at hp
        cases hx : rdN 1 yc with
        | none =>
          rw [hx] at hp
          obtain ⟨rfl, tq⟩ := hp
          have tS := tq.t.mono (T := (fun k => k = g ∨ k = gf ∨ k = gh)) fun _ h => Or.inl h
          replace bf := bf.but tq.t hne
          replace tt := tt.trans tS
          replace kw := tq.k
          replace bh := bh.but tq.t hn1
          clear tS tq
          refine ⟨rfl, ?_⟩
          have hz : readR xs = none := by
            unfold readR
            rw [show rdN 1 xs = some (a, ya) from Ea.out, Option.bind_some]
            simp only []
            rw [show rdN 4 ya = some (b, yb) from Eb.out, Option.bind_some]
            simp only []
            rw [show rdN 8 yb = some (c, yc) from Ec.out, Option.bind_some]
            simp only []
            rw [hx]
            rfl
          unfold WayR
          rw [hz]
          exact ⟨tt, kw, rfl, ⟨_, rfl, bf⟩, ⟨_, bh⟩⟩
        | some qq =>
          obtain ⟨d, yd⟩ := qq
          rw [hx] at hp
          obtain ⟨rfl, hr', tq⟩ := hp
          have Bd := rdN_lt hBy hx
          have Zd := wrapU8 (by simpa using Bd)
          have Yd := wrapI64 (a := d) (by simp at Bd; omega)
          clear Bd
          have Ed := Lib.hid hx
          clear hx hBy
          clear hr
          have hr := hr'
          clear hr'
          have tS := tq.t.mono (T := (fun k => k = g ∨ k = gf ∨ k = gh)) fun _ h => Or.inl h
          replace bf := bf.but tq.t hne
          replace tt := tt.trans tS
          replace kw := tq.k
          replace bh := bh.but tq.t hn1
          clear tS tq
          have hq := num_f w0 w5 kw g yd 8 hg hr (by decide) (by decide)
          have hBy := hr.bytes
          go_wp2_with fail
          refine hq.mono ?_
          intro e w6 hp
          clear hq
          unfold ReadN at hp
          cases hx : rdN 8 yd with
          | none =>
            rw [hx] at hp
            obtain ⟨rfl, tq⟩ := hp
            have tS := tq.t.mono (T := (fun k => k = g ∨ k = gf ∨ k = gh)) fun _ h => Or.inl h
            replace bf := bf.but tq.t hne
            replace tt := tt.trans tS
            replace kw := tq.k
            replace bh := bh.but tq.t hn1
            clear tS tq
            refine ⟨rfl, ?_⟩
            have hz : readR xs = none := by
              unfold readR
              rw [show rdN 1 xs = some (a, ya) from Ea.out, Option.bind_some]
              simp only []
              rw [show rdN 4 ya = some (b, yb) from Eb.out, Option.bind_some]
              simp only []
              rw [show rdN 8 yb = some (c, yc) from Ec.out, Option.bind_some]
              simp only []
              rw [show rdN 1 yc = some (d, yd) from Ed.out, Option.bind_some]
              simp only []
              rw [hx]
              rfl
            unfold WayR
            rw [hz]
            exact ⟨tt, kw, rfl, ⟨_, rfl, bf⟩, ⟨_, bh⟩⟩
          | some qq =>
            obtain ⟨t, yt⟩ := qq
            rw [hx] at hp
            obtain ⟨rfl, hr', tq⟩ := hp
            have Bt := rdN_lt hBy hx
            clear Bt
            have Et := Lib.hid hx
            clear hx hBy
            clear hr
            have hr := hr'
            clear hr'
            have tS := tq.t.mono (T := (fun k => k = g ∨ k = gf ∨ k = gh)) fun _ h => Or.inl h
            replace bf := bf.but tq.t hne
            replace tt := tt.trans tS
            replace kw := tq.k
            replace bh := bh.but tq.t hn1
            clear tS tq
            have hq := num_f w0 w6 kw g yt 1 hg hr (by decide) (by decide)
            have hBy := hr.bytes
            go_wp2_with fail
            refine hq.mono ?_
            intro e w7 hp
            clear hq
            unfold ReadN at hp
            cases hx : rdN 1 yt with
            | none =>
              rw [hx] at hp
              obtain ⟨rfl, tq⟩ := hp
              have tS := tq.t.mono (T := (fun k => k = g ∨ k = gf ∨ k = gh)) fun _ h => Or.inl h
              replace bf := bf.but tq.t hne
              replace tt := tt.trans tS
              replace kw := tq.k
              replace bh := bh.but tq.t hn1
              clear tS tq
              refine ⟨rfl, ?_⟩
              have hz : readR xs = none := by
                unfold readR
                rw [show rdN 1 xs = some (a, ya) from Ea.out, Option.bind_some]
                simp only []
                rw [show rdN 4 ya = some (b, yb) from Eb.out, Option.bind_some]
                simp only []
                rw [show rdN 8 yb = some (c, yc) from Ec.out, Option.bind_some]
                simp only []
                rw [show rdN 1 yc = some (d, yd) from Ed.out, Option.bind_some]
                simp only []
                rw [show rdN 8 yd = some (t, yt) from Et.out, Option.bind_some]
                simp only []
                rw [hx]
                rfl
              unfold WayR
              rw [hz]
              exact ⟨tt, kw, rfl, ⟨_, rfl, bf⟩, ⟨_, bh⟩⟩
            | some qq =>
              obtain ⟨h, yh⟩ := qq
              rw [hx] at hp
              obtain ⟨rfl, hr', tq⟩ := hp
              have Bh := rdN_lt hBy hx
              have Zh := wrapU8 (by simpa using Bh)
              have Yh := wrapI64 (a := h) (by simp at Bh; omega)
              clear Bh
              have Eh := Lib.hid hx
              clear hx hBy
              clear hr
              have hr := hr'
              clear hr'
              have tS := tq.t.mono (T := (fun k => k = g ∨ k = gf ∨ k = gh)) fun _ h => Or.inl h
              replace bf := bf.but tq.t hne
              replace tt := tt.trans tS
              replace kw := tq.k
              replace bh := bh.but tq.t hn1
              clear tS tq
              have C3 := bf.cell_ (i := 3) rfl
              have D3 := bf.frozen 3
              have C4 := bf.cell_ (i := 4) rfl
              have D4 := bf.frozen 4
              have C_h := bh.cell_ (i := 0) rfl
              have D_h := bh.frozen 0
              go_upto_region 2 with fail
              have tS := But.refl (fun k => k = g ∨ k = gf ∨ k = gh) w7
              replace bf := bf.set_ 3 (.int .u8 d)
              replace hr := hr.far (p := ⟨gf, 3, none⟩) hne (.int .u8 d)
              replace tS := tS.setCell (p := ⟨gf, 3, none⟩) (.inr (.inl rfl)) (.int .u8 d)
              replace kw := kw.setCell (p := ⟨gf, 3, none⟩) hgf (.int .u8 d)
              replace bh := bh.far (p := ⟨gf, 3, none⟩) hn3 (.int .u8 d)
              replace bf := bf.set_ 4 (.int .u64 t)
              replace hr := hr.far (p := ⟨gf, 4, none⟩) hne (.int .u64 t)
              replace tS := tS.setCell (p := ⟨gf, 4, none⟩) (.inr (.inl rfl)) (.int .u64 t)
              replace kw := kw.setCell (p := ⟨gf, 4, none⟩) hgf (.int .u64 t)
              replace bh := bh.far (p := ⟨gf, 4, none⟩) hn3 (.int .u64 t)
              replace bf := bf.far (p := ⟨gh, 0, none⟩) hn2 (.int .u64 h)
              replace hr := hr.far (p := ⟨gh, 0, none⟩) hn1 (.int .u64 h)
              replace tS := tS.setCell (p := ⟨gh, 0, none⟩) (.inr (.inr rfl)) (.int .u64 h)
              replace kw := kw.setCell (p := ⟨gh, 0, none⟩) hgh (.int .u64 h)
              replace bh := bh.set_ 0 (.int .u64 h)
              replace tt := tt.trans tS
              clear tS C3 D3 C4 D4 C_h D_h
              generalize World.setCell _ _ _ = w8 at bf hr tt kw bh  ⊢
              replace bf : Blk w8 gf 32 [.int .i64 a, .int .u32 b, .int .u64 c, .int .u8 d, .int .u64 t, .bool false, .slice none 0 0, .int .i64 0, .int .i64 0, .slice none 0 0] := bf
              have hq := list21_f w0 w8 kw g yh hg hr
              have hBy := hr.bytes
              go_wp2_with fail
              refine hq.mono ?_
              intro e w9 hp
              clear hq
              unfold ReadL at hp
              cases hx : rdL yh with
              | none =>
                rw [hx] at hp
                obtain ⟨rfl, tq⟩ := hp
                have tS := tq.t.mono (T := (fun k => k = g ∨ k = gf ∨ k = gh)) fun _ h => Or.inl h
                replace bf := bf.but tq.t hne
                replace tt := tt.trans tS
                replace kw := tq.k
                replace bh := bh.but tq.t hn1
                clear tS tq
                refine ⟨rfl, ?_⟩
                have hz : readR xs = none := by
                  unfold readR
                  rw [show rdN 1 xs = some (a, ya) from Ea.out, Option.bind_some]
                  simp only []
                  rw [show rdN 4 ya = some (b, yb) from Eb.out, Option.bind_some]
                  simp only []
                  rw [show rdN 8 yb = some (c, yc) from Ec.out, Option.bind_some]
                  simp only []
                  rw [show rdN 1 yc = some (d, yd) from Ed.out, Option.bind_some]
                  simp only []
                  rw [show rdN 8 yd = some (t, yt) from Et.out, Option.bind_some]
                  simp only []
                  rw [show rdN 1 yt = some (h, yh) from Eh.out, Option.bind_some]
                  simp only []
                  rw [hx]
                  rfl
                unfold WayR
                rw [hz]
                exact ⟨tt, kw, rfl, ⟨_, rfl, bf⟩, ⟨_, bh⟩⟩
              | some qq =>
                obtain ⟨l, yl⟩ := qq
                rw [hx] at hp
                obtain ⟨Al, rfl, Fl, hr', tq⟩ := hp
                replace Fl := Fl.mono tt.size
                have El := Lib.hid hx
                clear hx hBy
                clear hr
                have hr := hr'
                clear hr'
                have tS := tq.t.mono (T := (fun k => k = g ∨ k = gf ∨ k = gh)) fun _ h => Or.inl h
                replace bf := bf.but tq.t hne
                replace tt := tt.trans tS
                replace kw := tq.k
                replace bh := bh.but tq.t hn1
                clear tS tq
                have C6 := bf.cell_ (i := 6) rfl
                have D6 := bf.frozen 6
                go_upto_region 3 with fail
                have tS := But.refl (fun k => k = g ∨ k = gf ∨ k = gh) w9
                replace bf := bf.set_ 6 (.slice Al l.length l.length)
                replace hr := hr.far (p := ⟨gf, 6, none⟩) hne (.slice Al l.length l.length)
                replace tS := tS.setCell (p := ⟨gf, 6, none⟩) (.inr (.inl rfl)) (.slice Al l.length l.length)
                replace kw := kw.setCell (p := ⟨gf, 6, none⟩) hgf (.slice Al l.length l.length)
                replace bh := bh.far (p := ⟨gf, 6, none⟩) hn3 (.slice Al l.length l.length)
                replace Fl := Fl.turned tS hS.out
                replace tt := tt.trans tS
                clear tS C6 D6
                generalize World.setCell _ _ _ = w10 at bf hr tt kw bh Fl ⊢
                replace bf : Blk w10 gf 32 [.int .i64 a, .int .u32 b, .int .u64 c, .int .u8 d, .int .u64 t, .bool false, .slice Al l.length l.length, .int .i64 0, .int .i64 0, .slice none 0 0] := bf
                have hq := num_f w0 w10 kw g yl 1 hg hr (by decide) (by decide)
                have hBy := hr.bytes
                go_wp2_with fail
                refine hq.mono ?_
                intro e w11 hp
                clear hq
                unfold ReadN at hp
                cases hx : rdN 1 yl with
                | none =>
                  rw [hx] at hp
                  obtain ⟨rfl, tq⟩ := hp
                  have tS := tq.t.mono (T := (fun k => k = g ∨ k = gf ∨ k = gh)) fun _ h => Or.inl h
                  replace bf := bf.but tq.t hne
                  replace tt := tt.trans tS
                  replace kw := tq.k
                  replace bh := bh.but tq.t hn1
                  replace Fl := Fl.turned tS hS.out
                  clear tS tq
                  refine ⟨rfl, ?_⟩
                  have hz : readR xs = none := by
                    unfold readR
                    rw [show rdN 1 xs = some (a, ya) from Ea.out, Option.bind_some]
                    simp only []
                    rw [show rdN 4 ya = some (b, yb) from Eb.out, Option.bind_some]
                    simp only []
                    rw [show rdN 8 yb = some (c, yc) from Ec.out, Option.bind_some]
                    simp only []
                    rw [show rdN 1 yc = some (d, yd) from Ed.out, Option.bind_some]
                    simp only []
                    rw [show rdN 8 yd = some (t, yt) from Et.out, Option.bind_some]
                    simp only []
                    rw [show rdN 1 yt = some (h, yh) from Eh.out, Option.bind_some]
                    simp only []
                    rw [show rdL yh = some (l, yl) from El.out, Option.bind_some]
                    simp only []
                    rw [hx]
                    rfl
                  unfold WayR
                  rw [hz]
                  exact ⟨tt, kw, rfl, ⟨_, rfl, bf⟩, ⟨_, bh⟩⟩
                | some qq =>
                  obtain ⟨i, yi⟩ := qq
                  rw [hx] at hp
                  obtain ⟨rfl, hr', tq⟩ := hp
                  have Bi := rdN_lt hBy hx
                  have Zi := wrapU8 (by simpa using Bi)
                  have Yi := wrapI64 (a := i) (by simp at Bi; omega)
                  clear Bi
                  have Ei := Lib.hid hx
                  clear hx hBy
                  clear hr
                  have hr := hr'
                  clear hr'
                  have tS := tq.t.mono (T := (fun k => k = g ∨ k = gf ∨ k = gh)) fun _ h => Or.inl h
                  replace bf := bf.but tq.t hne
                  replace tt := tt.trans tS
                  replace kw := tq.k
                  replace bh := bh.but tq.t hn1
                  replace Fl := Fl.turned tS hS.out
                  clear tS tq
                  have C7 := bf.cell_ (i := 7) rfl
                  have D7 := bf.frozen 7
                  go_upto_region 4 with fail
                  have tS := But.refl (fun k => k = g ∨ k = gf ∨ k = gh) w11
                  replace bf := bf.set_ 7 (.int .i64 i)
                  replace hr := hr.far (p := ⟨gf, 7, none⟩) hne (.int .i64 i)
                  replace tS := tS.setCell (p := ⟨gf, 7, none⟩) (.inr (.inl rfl)) (.int .i64 i)
                  replace kw := kw.setCell (p := ⟨gf, 7, none⟩) hgf (.int .i64 i)
                  replace bh := bh.far (p := ⟨gf, 7, none⟩) hn3 (.int .i64 i)
                  replace Fl := Fl.turned tS hS.out
                  replace tt := tt.trans tS
                  clear tS C7 D7
                  generalize World.setCell _ _ _ = w12 at bf hr tt kw bh Fl ⊢
                  replace bf : Blk w12 gf 32 [.int .i64 a, .int .u32 b, .int .u64 c, .int .u8 d, .int .u64 t, .bool false, .slice Al l.length l.length, .int .i64 i, .int .i64 0, .slice none 0 0] := bf
                  have cI := bf.cell_ (i := 7) rfl
                  by_cases h255 : i = 255
                  · have hI : ((i : Int) == 255) = true := by rw [h255]; rfl
                    have HI := Lib.hid (show itemV i = -1 by unfold itemV; rw [if_pos h255])
                    clear h255
                    have fI := bf.frozen 7
                    go_upto_region 6 with fail
                    replace bf := bf.set_ 7 (.int .i64 (-1))
                    replace hr := hr.far (p := ⟨gf, 7, none⟩) hne (.int .i64 (-1))
                    have tS := (But.refl (fun k => k = g ∨ k = gf ∨ k = gh) w12).setCell (p := ⟨gf, 7, none⟩) (.inr (.inl rfl)) (.int .i64 (-1))
                    replace tt := tt.trans tS
                    replace kw := kw.setCell (p := ⟨gf, 7, none⟩) hgf (.int .i64 (-1))
                    replace bh := bh.far (p := ⟨gf, 7, none⟩) hn3 (.int .i64 (-1))
                    replace Fl := Fl.turned tS hS.out
                    generalize World.setCell _ _ _ = w13 at bf hr tt kw bh Fl ⊢
                    clear tS cI fI
                    replace bf : Blk w13 gf 32 [.int .i64 a, .int .u32 b, .int .u64 c, .int .u8 d, .int .u64 t, .bool false, .slice Al l.length l.length, .int .i64 (-1), .int .i64 0, .slice none 0 0] := bf
                    have hq := num_f w0 w13 kw g yi 4 hg hr (by decide) (by decide)
                    have hBy := hr.bytes
                    go_wp2_with fail
                    refine hq.mono ?_
                    intro e w14 hp
                    clear hq
                    unfold ReadN at hp
                    cases hx : rdN 4 yi with
                    | none =>
                      rw [hx] at hp
                      obtain ⟨rfl, tq⟩ := hp
                      have tS := tq.t.mono (T := (fun k => k = g ∨ k = gf ∨ k = gh)) fun _ h => Or.inl h
                      replace bf := bf.but tq.t hne
                      replace tt := tt.trans tS
                      replace kw := tq.k
                      replace bh := bh.but tq.t hn1
                      replace Fl := Fl.turned tS hS.out
                      clear tS tq
                      refine ⟨rfl, ?_⟩
                      have hz : readR xs = none := by
                        unfold readR
                        rw [show rdN 1 xs = some (a, ya) from Ea.out, Option.bind_some]
                        simp only []
                        rw [show rdN 4 ya = some (b, yb) from Eb.out, Option.bind_some]
                        simp only []
                        rw [show rdN 8 yb = some (c, yc) from Ec.out, Option.bind_some]
                        simp only []
                        rw [show rdN 1 yc = some (d, yd) from Ed.out, Option.bind_some]
                        simp only []
                        rw [show rdN 8 yd = some (t, yt) from Et.out, Option.bind_some]
                        simp only []
                        rw [show rdN 1 yt = some (h, yh) from Eh.out, Option.bind_some]
                        simp only []
                        rw [show rdL yh = some (l, yl) from El.out, Option.bind_some]
                        simp only []
                        rw [show rdN 1 yl = some (i, yi) from Ei.out, Option.bind_some]
                        simp only []
                        rw [hx]
                        rfl
                      unfold WayR
                      rw [hz]
                      exact ⟨tt, kw, rfl, ⟨_, rfl, bf⟩, ⟨_, bh⟩⟩
                    | some qq =>
                      obtain ⟨p, yp⟩ := qq
                      rw [hx] at hp
                      obtain ⟨rfl, hr', tq⟩ := hp
                      have Bp := rdN_lt hBy hx
                      have Zp := wrapU32 (by simpa using Bp)
                      have Yp := wrapI64 (a := p) (by simp at Bp; omega)
                      clear Bp
                      have Ep := Lib.hid hx
                      clear hx hBy
                      clear hr
                      have hr := hr'
                      clear hr'
                      have tS := tq.t.mono (T := (fun k => k = g ∨ k = gf ∨ k = gh)) fun _ h => Or.inl h
                      replace bf := bf.but tq.t hne
                      replace tt := tt.trans tS
                      replace kw := tq.k
                      replace bh := bh.but tq.t hn1
                      replace Fl := Fl.turned tS hS.out
                      clear tS tq
                      have C8 := bf.cell_ (i := 8) rfl
                      have D8 := bf.frozen 8
                      go_upto_region 7 with fail
                      have tS := But.refl (fun k => k = g ∨ k = gf ∨ k = gh) w14
                      replace bf := bf.set_ 8 (.int .i64 p)
                      replace hr := hr.far (p := ⟨gf, 8, none⟩) hne (.int .i64 p)
                      replace tS := tS.setCell (p := ⟨gf, 8, none⟩) (.inr (.inl rfl)) (.int .i64 p)
                      replace kw := kw.setCell (p := ⟨gf, 8, none⟩) hgf (.int .i64 p)
                      replace bh := bh.far (p := ⟨gf, 8, none⟩) hn3 (.int .i64 p)
                      replace Fl := Fl.turned tS hS.out
                      replace tt := tt.trans tS
                      clear tS C8 D8
                      generalize World.setCell _ _ _ = w15 at bf hr tt kw bh Fl ⊢
                      replace bf : Blk w15 gf 32 [.int .i64 a, .int .u32 b, .int .u64 c, .int .u8 d, .int .u64 t, .bool false, .slice Al l.length l.length, .int .i64 (-1), .int .i64 p, .slice none 0 0] := bf
                      have hq := bytes21_f w0 w15 kw g yp hg hr
                      have hBy := hr.bytes
                      go_wp2_with fail
                      refine hq.mono ?_
                      intro e w16 hp
                      clear hq
                      unfold ReadB at hp
                      cases hx : rdB yp with
                      | none =>
                        rw [hx] at hp
                        obtain ⟨rfl, tq⟩ := hp
                        have tS := tq.t.mono (T := (fun k => k = g ∨ k = gf ∨ k = gh)) fun _ h => Or.inl h
                        replace bf := bf.but tq.t hne
                        replace tt := tt.trans tS
                        replace kw := tq.k
                        replace bh := bh.but tq.t hn1
                        replace Fl := Fl.turned tS hS.out
                        clear tS tq
                        refine ⟨rfl, ?_⟩
                        have hz : readR xs = none := by
                          unfold readR
                          rw [show rdN 1 xs = some (a, ya) from Ea.out, Option.bind_some]
                          simp only []
                          rw [show rdN 4 ya = some (b, yb) from Eb.out, Option.bind_some]
                          simp only []
                          rw [show rdN 8 yb = some (c, yc) from Ec.out, Option.bind_some]
                          simp only []
                          rw [show rdN 1 yc = some (d, yd) from Ed.out, Option.bind_some]
                          simp only []
                          rw [show rdN 8 yd = some (t, yt) from Et.out, Option.bind_some]
                          simp only []
                          rw [show rdN 1 yt = some (h, yh) from Eh.out, Option.bind_some]
                          simp only []
                          rw [show rdL yh = some (l, yl) from El.out, Option.bind_some]
                          simp only []
                          rw [show rdN 1 yl = some (i, yi) from Ei.out, Option.bind_some]
                          simp only []
                          rw [show rdN 4 yi = some (p, yp) from Ep.out, Option.bind_some]
                          simp only []
                          rw [hx]
                          rfl
                        unfold WayR
                        rw [hz]
                        exact ⟨tt, kw, rfl, ⟨_, rfl, bf⟩, ⟨_, bh⟩⟩
                      | some qq =>
                        obtain ⟨s, ys⟩ := qq
                        rw [hx] at hp
                        obtain ⟨As, rfl, Fs, hr', tq⟩ := hp
                        replace Fs := Fs.mono tt.size
                        have Es := Lib.hid hx
                        clear hx hBy
                        clear hr
                        have hr := hr'
                        clear hr'
                        have tS := tq.t.mono (T := (fun k => k = g ∨ k = gf ∨ k = gh)) fun _ h => Or.inl h
                        replace bf := bf.but tq.t hne
                        replace tt := tt.trans tS
                        replace kw := tq.k
                        replace bh := bh.but tq.t hn1
                        replace Fl := Fl.turned tS hS.out
                        clear tS tq
                        have C9 := bf.cell_ (i := 9) rfl
                        have D9 := bf.frozen 9
                        go_wp2_with fail
                        go_end0
                        have tS := But.refl (fun k => k = g ∨ k = gf ∨ k = gh) w16
                        replace bf := bf.set_ 9 (.slice As s.length s.length)
                        replace hr := hr.far (p := ⟨gf, 9, none⟩) hne (.slice As s.length s.length)
                        replace tS := tS.setCell (p := ⟨gf, 9, none⟩) (.inr (.inl rfl)) (.slice As s.length s.length)
                        replace kw := kw.setCell (p := ⟨gf, 9, none⟩) hgf (.slice As s.length s.length)
                        replace bh := bh.far (p := ⟨gf, 9, none⟩) hn3 (.slice As s.length s.length)
                        replace Fl := Fl.turned tS hS.out
                        replace Fs := Fs.turned tS hS.out
                        replace tt := tt.trans tS
                        clear tS C9 D9
                        have hz : readR xs = some (⟨(a : Int), b, c, d, t, h == 1, l, itemV i, (p : Int), s⟩, h, ys) := by
                          unfold readR
                          rw [show rdN 1 xs = some (a, ya) from Ea.out, Option.bind_some]
                          simp only []
                          rw [show rdN 4 ya = some (b, yb) from Eb.out, Option.bind_some]
                          simp only []
                          rw [show rdN 8 yb = some (c, yc) from Ec.out, Option.bind_some]
                          simp only []
                          rw [show rdN 1 yc = some (d, yd) from Ed.out, Option.bind_some]
                          simp only []
                          rw [show rdN 8 yd = some (t, yt) from Et.out, Option.bind_some]
                          simp only []
                          rw [show rdN 1 yt = some (h, yh) from Eh.out, Option.bind_some]
                          simp only []
                          rw [show rdL yh = some (l, yl) from El.out, Option.bind_some]
                          simp only []
                          rw [show rdN 1 yl = some (i, yi) from Ei.out, Option.bind_some]
                          simp only []
                          rw [show rdN 4 yi = some (p, yp) from Ep.out, Option.bind_some]
                          simp only []
                          rw [show rdB yp = some (s, ys) from Es.out, Option.bind_some]
                        rw [HI.out] at hz
                        unfold WayR
                        rw [hz]
                        exact ⟨tt, kw, rfl, Al, As, bf, Fl, Fs, hr, bh⟩
                  · have hI : ((i : Int) == 255) = false := by simp; omega
                    have HI := Lib.hid (show itemV i = (i : Int) by unfold itemV; rw [if_neg h255])
                    clear h255
                    have hq := num_f w0 w12 kw g yi 4 hg hr (by decide) (by decide)
                    have hBy := hr.bytes
                    go_wp2_with fail
                    refine hq.mono ?_
                    intro e w17 hp
                    clear hq
                    unfold ReadN at hp
                    cases hx : rdN 4 yi with
                    | none =>
                      rw [hx] at hp
                      obtain ⟨rfl, tq⟩ := hp
                      have tS := tq.t.mono (T := (fun k => k = g ∨ k = gf ∨ k = gh)) fun _ h => Or.inl h
                      replace bf := bf.but tq.t hne
                      replace tt := tt.trans tS
                      replace kw := tq.k
                      replace bh := bh.but tq.t hn1
                      replace Fl := Fl.turned tS hS.out
                      clear tS tq
                      refine ⟨rfl, ?_⟩
                      have hz : readR xs = none := by
                        unfold readR
                        rw [show rdN 1 xs = some (a, ya) from Ea.out, Option.bind_some]
                        simp only []
                        rw [show rdN 4 ya = some (b, yb) from Eb.out, Option.bind_some]
                        simp only []
                        rw [show rdN 8 yb = some (c, yc) from Ec.out, Option.bind_some]
                        simp only []
                        rw [show rdN 1 yc = some (d, yd) from Ed.out, Option.bind_some]
                        simp only []
                        rw [show rdN 8 yd = some (t, yt) from Et.out, Option.bind_some]
                        simp only []
                        rw [show rdN 1 yt = some (h, yh) from Eh.out, Option.bind_some]
                        simp only []
                        rw [show rdL yh = some (l, yl) from El.out, Option.bind_some]
                        simp only []
                        rw [show rdN 1 yl = some (i, yi) from Ei.out, Option.bind_some]
                        simp only []
                        rw [hx]
                        rfl
                      unfold WayR
                      rw [hz]
                      exact ⟨tt, kw, rfl, ⟨_, rfl, bf⟩, ⟨_, bh⟩⟩
                    | some qq =>
                      obtain ⟨p, yp⟩ := qq
                      rw [hx] at hp
                      obtain ⟨rfl, hr', tq⟩ := hp
                      have Bp := rdN_lt hBy hx
                      have Zp := wrapU32 (by simpa using Bp)
                      have Yp := wrapI64 (a := p) (by simp at Bp; omega)
                      clear Bp
                      have Ep := Lib.hid hx
                      clear hx hBy
                      clear hr
                      have hr := hr'
                      clear hr'
                      have tS := tq.t.mono (T := (fun k => k = g ∨ k = gf ∨ k = gh)) fun _ h => Or.inl h
                      replace bf := bf.but tq.t hne
                      replace tt := tt.trans tS
                      replace kw := tq.k
                      replace bh := bh.but tq.t hn1
                      replace Fl := Fl.turned tS hS.out
                      clear tS tq
                      have C8 := bf.cell_ (i := 8) rfl
                      have D8 := bf.frozen 8
                      go_upto_region 7 with fail
                      have tS := But.refl (fun k => k = g ∨ k = gf ∨ k = gh) w17
                      replace bf := bf.set_ 8 (.int .i64 p)
                      replace hr := hr.far (p := ⟨gf, 8, none⟩) hne (.int .i64 p)
                      replace tS := tS.setCell (p := ⟨gf, 8, none⟩) (.inr (.inl rfl)) (.int .i64 p)
                      replace kw := kw.setCell (p := ⟨gf, 8, none⟩) hgf (.int .i64 p)
                      replace bh := bh.far (p := ⟨gf, 8, none⟩) hn3 (.int .i64 p)
                      replace Fl := Fl.turned tS hS.out
                      replace tt := tt.trans tS
                      clear tS C8 D8
                      generalize World.setCell _ _ _ = w18 at bf hr tt kw bh Fl ⊢
                      replace bf : Blk w18 gf 32 [.int .i64 a, .int .u32 b, .int .u64 c, .int .u8 d, .int .u64 t, .bool false, .slice Al l.length l.length, .int .i64 i, .int .i64 p, .slice none 0 0] := bf
                      have hq := bytes21_f w0 w18 kw g yp hg hr
                      have hBy := hr.bytes
                      go_wp2_with fail
                      refine hq.mono ?_
                      intro e w19 hp
                      clear hq
                      unfold ReadB at hp
                      cases hx : rdB yp with
                      | none =>
                        rw [hx] at hp
                        obtain ⟨rfl, tq⟩ := hp
                        have tS := tq.t.mono (T := (fun k => k = g ∨ k = gf ∨ k = gh)) fun _ h => Or.inl h
                        replace bf := bf.but tq.t hne
                        replace tt := tt.trans tS
                        replace kw := tq.k
                        replace bh := bh.but tq.t hn1
                        replace Fl := Fl.turned tS hS.out
                        clear tS tq
                        refine ⟨rfl, ?_⟩
                        have hz : readR xs = none := by
                          unfold readR
                          rw [show rdN 1 xs = some (a, ya) from Ea.out, Option.bind_some]
                          simp only []
                          rw [show rdN 4 ya = some (b, yb) from Eb.out, Option.bind_some]
                          simp only []
                          rw [show rdN 8 yb = some (c, yc) from Ec.out, Option.bind_some]
                          simp only []
                          rw [show rdN 1 yc = some (d, yd) from Ed.out, Option.bind_some]
                          simp only []
                          rw [show rdN 8 yd = some (t, yt) from Et.out, Option.bind_some]
                          simp only []
                          rw [show rdN 1 yt = some (h, yh) from Eh.out, Option.bind_some]
                          simp only []
                          rw [show rdL yh = some (l, yl) from El.out, Option.bind_some]
                          simp only []
                          rw [show rdN 1 yl = some (i, yi) from Ei.out, Option.bind_some]
                          simp only []
                          rw [show rdN 4 yi = some (p, yp) from Ep.out, Option.bind_some]
                          simp only []
                          rw [hx]
                          rfl
                        unfold WayR
                        rw [hz]
                        exact ⟨tt, kw, rfl, ⟨_, rfl, bf⟩, ⟨_, bh⟩⟩
                      | some qq =>
                        obtain ⟨s, ys⟩ := qq
                        rw [hx] at hp
                        obtain ⟨As, rfl, Fs, hr', tq⟩ := hp
                        replace Fs := Fs.mono tt.size
                        have Es := Lib.hid hx
                        clear hx hBy
                        clear hr
                        have hr := hr'
                        clear hr'
                        have tS := tq.t.mono (T := (fun k => k = g ∨ k = gf ∨ k = gh)) fun _ h => Or.inl h
                        replace bf := bf.but tq.t hne
                        replace tt := tt.trans tS
                        replace kw := tq.k
                        replace bh := bh.but tq.t hn1
                        replace Fl := Fl.turned tS hS.out
                        clear tS tq
                        have C9 := bf.cell_ (i := 9) rfl
                        have D9 := bf.frozen 9
                        go_wp2_with fail
                        go_end0
                        have tS := But.refl (fun k => k = g ∨ k = gf ∨ k = gh) w19
                        replace bf := bf.set_ 9 (.slice As s.length s.length)
                        replace hr := hr.far (p := ⟨gf, 9, none⟩) hne (.slice As s.length s.length)
                        replace tS := tS.setCell (p := ⟨gf, 9, none⟩) (.inr (.inl rfl)) (.slice As s.length s.length)
                        replace kw := kw.setCell (p := ⟨gf, 9, none⟩) hgf (.slice As s.length s.length)
                        replace bh := bh.far (p := ⟨gf, 9, none⟩) hn3 (.slice As s.length s.length)
                        replace Fl := Fl.turned tS hS.out
                        replace Fs := Fs.turned tS hS.out
                        replace tt := tt.trans tS
                        clear tS C9 D9
                        have hz : readR xs = some (⟨(a : Int), b, c, d, t, h == 1, l, itemV i, (p : Int), s⟩, h, ys) := by
                          unfold readR
                          rw [show rdN 1 xs = some (a, ya) from Ea.out, Option.bind_some]
                          simp only []
                          rw [show rdN 4 ya = some (b, yb) from Eb.out, Option.bind_some]
                          simp only []
                          rw [show rdN 8 yb = some (c, yc) from Ec.out, Option.bind_some]
                          simp only []
                          rw [show rdN 1 yc = some (d, yd) from Ed.out, Option.bind_some]
                          simp only []
                          rw [show rdN 8 yd = some (t, yt) from Et.out, Option.bind_some]
                          simp only []
                          rw [show rdN 1 yt = some (h, yh) from Eh.out, Option.bind_some]
                          simp only []
                          rw [show rdL yh = some (l, yl) from El.out, Option.bind_some]
                          simp only []
                          rw [show rdN 1 yl = some (i, yi) from Ei.out, Option.bind_some]
                          simp only []
                          rw [show rdN 4 yi = some (p, yp) from Ep.out, Option.bind_some]
                          simp only []
                          rw [show rdB yp = some (s, ys) from Es.out, Option.bind_some]
                        rw [HI.out] at hz
                        unfold WayR
                        rw [hz]
                        exact ⟨tt, kw, rfl, Al, As, bf, Fl, Fs, hr, bh⟩
end Go.Proofs.YtnjjeanbopclhaaGreatDoor
