/- Parsers: Parse and States, programs that come in, the example, walked. No condition. -/
import Derived.Test.YtonnlcjkgpahoaaPqJ
import Derived.Test.YtonnlcjkgpahoaaHdL
import Derived.Test.YtonnlcjkgpahoaaRead
import Derived.Test.YtonnlcjkgpahoaaPqF
namespace Go.Proofs.Ytonnlcjkgpahoaa
open Go.RowKit

/-- what Parse leaves -/
def ParseP (W : World) (R : Pg.Env × List Int × Int) (e : Ending) (w' : World) : Prop := ∃ (ev : Pg.EV) (vs : List Value), e = .returned (.tuple #[ev.val, .int .i64 R.2.2]) ∧ Ext W w' ∧ OwnE W.heap.size w' ev vs R.1
/-- what States leaves -/
def StatesP (W : World) (R : Pg.Env × List Int × Int) (e : Ending) (w' : World) : Prop := ∃ sv : Value, e = .returned sv ∧ Ext W w' ∧ w'.ownsRow W.heap.size 3 1 sv R.2.1.length (i64s R.2.1)
theorem parse_ret {W W' : World} {ev : Pg.EV} {vs : List Value} {E : Pg.Env} {ent : List Int} {er : Int} (hx : Ext W W') (ho : OwnE W.heap.size W' ev vs E) : ParseP W (E, ent, er) (.returned (.tuple #[ev.val, .int .i64 er])) W' := ⟨ev, vs, rfl, hx, ho⟩
set_option maxRecDepth 8000 in
set_option maxHeartbeats 2000000 in
theorem pparse_any {W : World} {p : Pg.PV} {P : Pg.Prog} {ss : List Ps.St} (hq : Ps.IsQ W p P ss) (hcp : En.CapP P) {da : Option Addr} {dc : Nat} {l : List Int} (hsrc : Src W (.slice da l.length dc) 1 l.length (u8s l)) (hby : Io.Bytes l) (hl : l.length ≤ 140737488355328) :
    Calls Try.prog 25 #[p.val, .slice da l.length dc] W (ParseP W (Ps.parse P ss l)) := by
  obtain ⟨s, a1, a2, a3, a4, a5, a6, a7, a8, m1, m2, n3, m3, n4, m4, n5, m5, n6, m6, n7, m7, m8, hf⟩ := hq.1.form
  obtain ⟨rfl, hhs, hmd, _, hl1, hl2, _⟩ := hf
  have hss := hq.2
  dsimp only at hss
  obtain ⟨a6', m6', e6, hl6, hc6⟩ := hss.slice
  simp only [Value.slice.injEq] at e6
  obtain ⟨rfl, rfl, rfl⟩ := e6
  unfold maxLen at hc6
  obtain ⟨⟨RE, RL, RF⟩, hR⟩ : ∃ z, z = Ps.parse P ss l := ⟨_, rfl⟩
  rw [← hR]
  have HRUN : Hid (∀ w, Ext W w → Calls Try.prog 54 #[.agg #[.string s, .slice a1 P.hs.length m1, .slice a2 P.md.length m2, .slice a3 n3 m3, .slice a4 n4 m4, .slice a5 n5 m5, .slice a6 ss.length m6, .slice a7 n7 m7, .slice a8 P.dp.length m8], .slice da l.length dc] w (RunP w (RE, RL, RF))) := Lib.hid (fun w hx => by have h := prun_any (hq.ext hx) hcp (hsrc.ext hx) hby hl; rw [← hR] at h; exact h)
  have bx := alloc_heap W (.cells #[.string s, .slice a1 P.hs.length m1, .slice a2 P.md.length m2, .slice a3 n3 m3, .slice a4 n4 m4, .slice a5 n5 m5, .slice a6 ss.length m6, .slice a7 n7 m7, .slice a8 P.dp.length m8] 31)
  have pc0 := alw (cell_of (o := 0) bx)
  have pc1 := alw (cell_of (o := 1) bx)
  have pc2 := alw (cell_of (o := 2) bx)
  have pc3 := alw (cell_of (o := 3) bx)
  have pc4 := alw (cell_of (o := 4) bx)
  have pc5 := alw (cell_of (o := 5) bx)
  have pc6 := alw (cell_of (o := 6) bx)
  have pc7 := alw (cell_of (o := 7) bx)
  have pc8 := alw (cell_of (o := 8) bx)
  clear bx
  have br := alloc_heap (W.alloc (.cells #[.string s, .slice a1 P.hs.length m1, .slice a2 P.md.length m2, .slice a3 n3 m3, .slice a4 n4 m4, .slice a5 n5 m5, .slice a6 ss.length m6, .slice a7 n7 m7, .slice a8 P.dp.length m8] 31)) (.cells #[.slice none 0 0, .slice none 0 0, .slice none 0 0, .slice none 0 0] 37)
  rw [World.size_alloc] at br
  have rc0 := alw (cell_of (o := 0) br)
  have rc1 := alw (cell_of (o := 1) br)
  have rc2 := alw (cell_of (o := 2) br)
  have rc3 := alw (cell_of (o := 3) br)
  have rf0 := alwF (o := 0) br
  have rf1 := alwF (o := 1) br
  have rf2 := alwF (o := 2) br
  have rf3 := alwF (o := 3) br
  have BRX := Lib.hid br
  clear br
  clear hq hcp hhs hmd hss hR hsrc hby
  dsimp only [Pg.PV.val]
  go_enter Try.func25, Try.ntmps25
  go_wp2_with fail
  refine (HRUN.out _ grows).mono ?_
  rintro e w1 ⟨ev, vs, sv, rfl, x1, o1, st1⟩
  dsimp only at o1 st1
  obtain ⟨y0, y1, y2, y3, z0, z1, z2, z3, hg⟩ := o1.isE.form
  obtain ⟨rfl, _, _, _, _, _, _, _, _⟩ := hg
  dsimp only [Pg.EV.val]
  obtain ⟨oas, csv, rfl⟩ := own_slice st1
  have hle1 := x1.le
  simp only [World.size_alloc] at hle1
  have s1 := Step.mk x1
  have be := alloc_heap w1 (.cells #[.slice y0 RE.va.length z0, .slice y1 RE.fi.length z1, .slice y2 RE.me.length z2, .slice y3 RE.pl.length z3] 37)
  have qc0 := alw (cell_of (o := 0) be)
  have qc1 := alw (cell_of (o := 1) be)
  have qc2 := alw (cell_of (o := 2) be)
  have qc3 := alw (cell_of (o := 3) be)
  have XB : Hid (Ext W (w1.alloc (.cells #[.slice y0 RE.va.length z0, .slice y1 RE.fi.length z1, .slice y2 RE.me.length z2, .slice y3 RE.pl.length z3] 37))) := Lib.hid grows
  have OB := Lib.hid ((o1.ext ((Ext.refl w1).alloc (.cells #[.slice y0 RE.va.length z0, .slice y1 RE.fi.length z1, .slice y2 RE.me.length z2, .slice y3 RE.pl.length z3] 37))).base (show W.heap.size ≤ _ by simp only [World.size_alloc]; omega))
  have SB := Lib.hid (own_base (own_ext st1 ((Ext.refl w1).alloc (.cells #[.slice y0 RE.va.length z0, .slice y1 RE.fi.length z1, .slice y2 RE.me.length z2, .slice y3 RE.pl.length z3] 37))) (show W.heap.size ≤ _ by simp only [World.size_alloc]; omega))
  have KB := Lib.hid (show (w1.alloc (.cells #[.slice y0 RE.va.length z0, .slice y1 RE.fi.length z1, .slice y2 RE.me.length z2, .slice y3 RE.pl.length z3] 37)).heap[W.heap.size + 1]? = some (.cells #[.slice none 0 0, .slice none 0 0, .slice none 0 0, .slice none 0 0] 37 (0, 0)) from alwB BRX.out _)
  clear be x1 o1 st1
  go_wp2_with fail
  obtain ⟨tz1, tz2⟩ := tower4 (.slice y0 RE.va.length z0) (.slice y1 RE.fi.length z1) (.slice y2 RE.me.length z2) (.slice y3 RE.pl.length z3) KB.out
  obtain ⟨wz, hwz⟩ : ∃ z, z = (((((w1.alloc (.cells #[.slice y0 RE.va.length z0, .slice y1 RE.fi.length z1, .slice y2 RE.me.length z2, .slice y3 RE.pl.length z3] 37)).setCell ⟨W.heap.size + 1, 0, none⟩ (.slice y0 RE.va.length z0)).setCell ⟨W.heap.size + 1, 1, none⟩ (.slice y1 RE.fi.length z1)).setCell ⟨W.heap.size + 1, 2, none⟩ (.slice y2 RE.me.length z2)).setCell ⟨W.heap.size + 1, 3, none⟩ (.slice y3 RE.pl.length z3)) := ⟨_, rfl⟩
  rw [← hwz] at tz1 tz2 ⊢
  have c0 : wz.cell? ⟨W.heap.size + 1, 0, none⟩ = some (.slice y0 RE.va.length z0) := cell_of tz2
  have c1 : wz.cell? ⟨W.heap.size + 1, 1, none⟩ = some (.slice y1 RE.fi.length z1) := cell_of tz2
  have c2 : wz.cell? ⟨W.heap.size + 1, 2, none⟩ = some (.slice y2 RE.me.length z2) := cell_of tz2
  have c3 : wz.cell? ⟨W.heap.size + 1, 3, none⟩ = some (.slice y3 RE.pl.length z3) := cell_of tz2
  exact bodyPost_ret (v := .tuple #[.agg #[.slice y0 RE.va.length z0, .slice y1 RE.fi.length z1, .slice y2 RE.me.length z2, .slice y3 RE.pl.length z3], .int .i64 RF]) (by simp [results, Try.results25, go_sem, c0, c1, c2, c3]) rfl (parse_ret (ev := ⟨.slice y0 RE.va.length z0, .slice y1 RE.fi.length z1, .slice y2 RE.me.length z2, .slice y3 RE.pl.length z3⟩) (XB.out.mod tz1 (fun q hq => by rw [hq]; omega)) (OwnE.box OB.out tz1 KB.out))
set_option maxRecDepth 8000 in
set_option maxHeartbeats 2000000 in
theorem rparse_any {W : World} {p : Pg.PV} {P : Pg.Prog} {ss : List Ps.St} (hq : Ps.IsQ W p P ss) (hcp : En.CapP P) {da : Option Addr} {dc : Nat} {l : List Int} (hsrc : Src W (.slice da l.length dc) 1 l.length (u8s l)) (hby : Io.Bytes l) (hl : l.length ≤ 140737488355328) :
    Calls Try.prog 26 #[p.val, .slice da l.length dc] W (ParseP W (Ps.parse P ss l)) := by
  obtain ⟨s, a1, a2, a3, a4, a5, a6, a7, a8, m1, m2, n3, m3, n4, m4, n5, m5, n6, m6, n7, m7, m8, hf⟩ := hq.1.form
  obtain ⟨rfl, hhs, hmd, _, hl1, hl2, _⟩ := hf
  have hss := hq.2
  dsimp only at hss
  obtain ⟨a6', m6', e6, hl6, hc6⟩ := hss.slice
  simp only [Value.slice.injEq] at e6
  obtain ⟨rfl, rfl, rfl⟩ := e6
  unfold maxLen at hc6
  obtain ⟨⟨RE, RL, RF⟩, hR⟩ : ∃ z, z = Ps.parse P ss l := ⟨_, rfl⟩
  rw [← hR]
  have HRUN : Hid (∀ w, Ext W w → Calls Try.prog 55 #[.agg #[.string s, .slice a1 P.hs.length m1, .slice a2 P.md.length m2, .slice a3 n3 m3, .slice a4 n4 m4, .slice a5 n5 m5, .slice a6 ss.length m6, .slice a7 n7 m7, .slice a8 P.dp.length m8], .slice da l.length dc] w (RunP w (RE, RL, RF))) := Lib.hid (fun w hx => by have h := rrun_any (hq.ext hx) hcp (hsrc.ext hx) hby hl; rw [← hR] at h; exact h)
  have bx := alloc_heap W (.cells #[.string s, .slice a1 P.hs.length m1, .slice a2 P.md.length m2, .slice a3 n3 m3, .slice a4 n4 m4, .slice a5 n5 m5, .slice a6 ss.length m6, .slice a7 n7 m7, .slice a8 P.dp.length m8] 31)
  have pc0 := alw (cell_of (o := 0) bx)
  have pc1 := alw (cell_of (o := 1) bx)
  have pc2 := alw (cell_of (o := 2) bx)
  have pc3 := alw (cell_of (o := 3) bx)
  have pc4 := alw (cell_of (o := 4) bx)
  have pc5 := alw (cell_of (o := 5) bx)
  have pc6 := alw (cell_of (o := 6) bx)
  have pc7 := alw (cell_of (o := 7) bx)
  have pc8 := alw (cell_of (o := 8) bx)
  clear bx
  have br := alloc_heap (W.alloc (.cells #[.string s, .slice a1 P.hs.length m1, .slice a2 P.md.length m2, .slice a3 n3 m3, .slice a4 n4 m4, .slice a5 n5 m5, .slice a6 ss.length m6, .slice a7 n7 m7, .slice a8 P.dp.length m8] 31)) (.cells #[.slice none 0 0, .slice none 0 0, .slice none 0 0, .slice none 0 0] 37)
  rw [World.size_alloc] at br
  have rc0 := alw (cell_of (o := 0) br)
  have rc1 := alw (cell_of (o := 1) br)
  have rc2 := alw (cell_of (o := 2) br)
  have rc3 := alw (cell_of (o := 3) br)
  have rf0 := alwF (o := 0) br
  have rf1 := alwF (o := 1) br
  have rf2 := alwF (o := 2) br
  have rf3 := alwF (o := 3) br
  have BRX := Lib.hid br
  clear br
  clear hq hcp hhs hmd hss hR hsrc hby
  dsimp only [Pg.PV.val]
  go_enter Try.func26, Try.ntmps26
  go_wp2_with fail
  refine (HRUN.out _ grows).mono ?_
  rintro e w1 ⟨ev, vs, sv, rfl, x1, o1, st1⟩
  dsimp only at o1 st1
  obtain ⟨y0, y1, y2, y3, z0, z1, z2, z3, hg⟩ := o1.isE.form
  obtain ⟨rfl, _, _, _, _, _, _, _, _⟩ := hg
  dsimp only [Pg.EV.val]
  obtain ⟨oas, csv, rfl⟩ := own_slice st1
  have hle1 := x1.le
  simp only [World.size_alloc] at hle1
  have s1 := Step.mk x1
  have be := alloc_heap w1 (.cells #[.slice y0 RE.va.length z0, .slice y1 RE.fi.length z1, .slice y2 RE.me.length z2, .slice y3 RE.pl.length z3] 37)
  have qc0 := alw (cell_of (o := 0) be)
  have qc1 := alw (cell_of (o := 1) be)
  have qc2 := alw (cell_of (o := 2) be)
  have qc3 := alw (cell_of (o := 3) be)
  have XB : Hid (Ext W (w1.alloc (.cells #[.slice y0 RE.va.length z0, .slice y1 RE.fi.length z1, .slice y2 RE.me.length z2, .slice y3 RE.pl.length z3] 37))) := Lib.hid grows
  have OB := Lib.hid ((o1.ext ((Ext.refl w1).alloc (.cells #[.slice y0 RE.va.length z0, .slice y1 RE.fi.length z1, .slice y2 RE.me.length z2, .slice y3 RE.pl.length z3] 37))).base (show W.heap.size ≤ _ by simp only [World.size_alloc]; omega))
  have SB := Lib.hid (own_base (own_ext st1 ((Ext.refl w1).alloc (.cells #[.slice y0 RE.va.length z0, .slice y1 RE.fi.length z1, .slice y2 RE.me.length z2, .slice y3 RE.pl.length z3] 37))) (show W.heap.size ≤ _ by simp only [World.size_alloc]; omega))
  have KB := Lib.hid (show (w1.alloc (.cells #[.slice y0 RE.va.length z0, .slice y1 RE.fi.length z1, .slice y2 RE.me.length z2, .slice y3 RE.pl.length z3] 37)).heap[W.heap.size + 1]? = some (.cells #[.slice none 0 0, .slice none 0 0, .slice none 0 0, .slice none 0 0] 37 (0, 0)) from alwB BRX.out _)
  clear be x1 o1 st1
  go_wp2_with fail
  obtain ⟨tz1, tz2⟩ := tower4 (.slice y0 RE.va.length z0) (.slice y1 RE.fi.length z1) (.slice y2 RE.me.length z2) (.slice y3 RE.pl.length z3) KB.out
  obtain ⟨wz, hwz⟩ : ∃ z, z = (((((w1.alloc (.cells #[.slice y0 RE.va.length z0, .slice y1 RE.fi.length z1, .slice y2 RE.me.length z2, .slice y3 RE.pl.length z3] 37)).setCell ⟨W.heap.size + 1, 0, none⟩ (.slice y0 RE.va.length z0)).setCell ⟨W.heap.size + 1, 1, none⟩ (.slice y1 RE.fi.length z1)).setCell ⟨W.heap.size + 1, 2, none⟩ (.slice y2 RE.me.length z2)).setCell ⟨W.heap.size + 1, 3, none⟩ (.slice y3 RE.pl.length z3)) := ⟨_, rfl⟩
  rw [← hwz] at tz1 tz2 ⊢
  have c0 : wz.cell? ⟨W.heap.size + 1, 0, none⟩ = some (.slice y0 RE.va.length z0) := cell_of tz2
  have c1 : wz.cell? ⟨W.heap.size + 1, 1, none⟩ = some (.slice y1 RE.fi.length z1) := cell_of tz2
  have c2 : wz.cell? ⟨W.heap.size + 1, 2, none⟩ = some (.slice y2 RE.me.length z2) := cell_of tz2
  have c3 : wz.cell? ⟨W.heap.size + 1, 3, none⟩ = some (.slice y3 RE.pl.length z3) := cell_of tz2
  exact bodyPost_ret (v := .tuple #[.agg #[.slice y0 RE.va.length z0, .slice y1 RE.fi.length z1, .slice y2 RE.me.length z2, .slice y3 RE.pl.length z3], .int .i64 RF]) (by simp [results, Try.results26, go_sem, c0, c1, c2, c3]) rfl (parse_ret (ev := ⟨.slice y0 RE.va.length z0, .slice y1 RE.fi.length z1, .slice y2 RE.me.length z2, .slice y3 RE.pl.length z3⟩) (XB.out.mod tz1 (fun q hq => by rw [hq]; omega)) (OwnE.box OB.out tz1 KB.out))
set_option maxRecDepth 8000 in
set_option maxHeartbeats 2000000 in
theorem pstates_any {W : World} {p : Pg.PV} {P : Pg.Prog} {ss : List Ps.St} (hq : Ps.IsQ W p P ss) (hcp : En.CapP P) {da : Option Addr} {dc : Nat} {l : List Int} (hsrc : Src W (.slice da l.length dc) 1 l.length (u8s l)) (hby : Io.Bytes l) (hl : l.length ≤ 140737488355328) :
    Calls Try.prog 29 #[p.val, .slice da l.length dc] W (StatesP W (Ps.parse P ss l)) := by
  obtain ⟨s, a1, a2, a3, a4, a5, a6, a7, a8, m1, m2, n3, m3, n4, m4, n5, m5, n6, m6, n7, m7, m8, hf⟩ := hq.1.form
  obtain ⟨rfl, hhs, hmd, _, hl1, hl2, _⟩ := hf
  have hss := hq.2
  dsimp only at hss
  obtain ⟨a6', m6', e6, hl6, hc6⟩ := hss.slice
  simp only [Value.slice.injEq] at e6
  obtain ⟨rfl, rfl, rfl⟩ := e6
  unfold maxLen at hc6
  obtain ⟨⟨RE, RL, RF⟩, hR⟩ : ∃ z, z = Ps.parse P ss l := ⟨_, rfl⟩
  rw [← hR]
  have HRUN : Hid (∀ w, Ext W w → Calls Try.prog 54 #[.agg #[.string s, .slice a1 P.hs.length m1, .slice a2 P.md.length m2, .slice a3 n3 m3, .slice a4 n4 m4, .slice a5 n5 m5, .slice a6 ss.length m6, .slice a7 n7 m7, .slice a8 P.dp.length m8], .slice da l.length dc] w (RunP w (RE, RL, RF))) := Lib.hid (fun w hx => by have h := prun_any (hq.ext hx) hcp (hsrc.ext hx) hby hl; rw [← hR] at h; exact h)
  have bx := alloc_heap W (.cells #[.string s, .slice a1 P.hs.length m1, .slice a2 P.md.length m2, .slice a3 n3 m3, .slice a4 n4 m4, .slice a5 n5 m5, .slice a6 ss.length m6, .slice a7 n7 m7, .slice a8 P.dp.length m8] 31)
  have pc0 := alw (cell_of (o := 0) bx)
  have pc1 := alw (cell_of (o := 1) bx)
  have pc2 := alw (cell_of (o := 2) bx)
  have pc3 := alw (cell_of (o := 3) bx)
  have pc4 := alw (cell_of (o := 4) bx)
  have pc5 := alw (cell_of (o := 5) bx)
  have pc6 := alw (cell_of (o := 6) bx)
  have pc7 := alw (cell_of (o := 7) bx)
  have pc8 := alw (cell_of (o := 8) bx)
  clear bx
  clear hq hcp hhs hmd hss hR hsrc hby
  dsimp only [Pg.PV.val]
  go_enter Try.func29, Try.ntmps29
  go_wp2_with fail
  refine (HRUN.out _ grows).mono ?_
  rintro e w1 ⟨ev, vs, sv, rfl, x1, o1, st1⟩
  dsimp only at o1 st1
  obtain ⟨y0, y1, y2, y3, z0, z1, z2, z3, hg⟩ := o1.isE.form
  obtain ⟨rfl, _, _, _, _, _, _, _, _⟩ := hg
  dsimp only [Pg.EV.val]
  obtain ⟨oas, csv, rfl⟩ := own_slice st1
  have hle1 := x1.le
  simp only [World.size_alloc] at hle1
  have s1 := Step.mk x1
  have be := alloc_heap w1 (.cells #[.slice y0 RE.va.length z0, .slice y1 RE.fi.length z1, .slice y2 RE.me.length z2, .slice y3 RE.pl.length z3] 37)
  have qc0 := alw (cell_of (o := 0) be)
  have qc1 := alw (cell_of (o := 1) be)
  have qc2 := alw (cell_of (o := 2) be)
  have qc3 := alw (cell_of (o := 3) be)
  have XB : Hid (Ext W (w1.alloc (.cells #[.slice y0 RE.va.length z0, .slice y1 RE.fi.length z1, .slice y2 RE.me.length z2, .slice y3 RE.pl.length z3] 37))) := Lib.hid grows
  have OB := Lib.hid ((o1.ext ((Ext.refl w1).alloc (.cells #[.slice y0 RE.va.length z0, .slice y1 RE.fi.length z1, .slice y2 RE.me.length z2, .slice y3 RE.pl.length z3] 37))).base (show W.heap.size ≤ _ by simp only [World.size_alloc]; omega))
  have SB := Lib.hid (own_base (own_ext st1 ((Ext.refl w1).alloc (.cells #[.slice y0 RE.va.length z0, .slice y1 RE.fi.length z1, .slice y2 RE.me.length z2, .slice y3 RE.pl.length z3] 37))) (show W.heap.size ≤ _ by simp only [World.size_alloc]; omega))
  clear be x1 o1 st1
  go_wp2_with fail
  go_ret
  exact ⟨_, rfl, XB.out, SB.out⟩
set_option maxRecDepth 8000 in
set_option maxHeartbeats 2000000 in
theorem rstates_any {W : World} {p : Pg.PV} {P : Pg.Prog} {ss : List Ps.St} (hq : Ps.IsQ W p P ss) (hcp : En.CapP P) {da : Option Addr} {dc : Nat} {l : List Int} (hsrc : Src W (.slice da l.length dc) 1 l.length (u8s l)) (hby : Io.Bytes l) (hl : l.length ≤ 140737488355328) :
    Calls Try.prog 30 #[p.val, .slice da l.length dc] W (StatesP W (Ps.parse P ss l)) := by
  obtain ⟨s, a1, a2, a3, a4, a5, a6, a7, a8, m1, m2, n3, m3, n4, m4, n5, m5, n6, m6, n7, m7, m8, hf⟩ := hq.1.form
  obtain ⟨rfl, hhs, hmd, _, hl1, hl2, _⟩ := hf
  have hss := hq.2
  dsimp only at hss
  obtain ⟨a6', m6', e6, hl6, hc6⟩ := hss.slice
  simp only [Value.slice.injEq] at e6
  obtain ⟨rfl, rfl, rfl⟩ := e6
  unfold maxLen at hc6
  obtain ⟨⟨RE, RL, RF⟩, hR⟩ : ∃ z, z = Ps.parse P ss l := ⟨_, rfl⟩
  rw [← hR]
  have HRUN : Hid (∀ w, Ext W w → Calls Try.prog 55 #[.agg #[.string s, .slice a1 P.hs.length m1, .slice a2 P.md.length m2, .slice a3 n3 m3, .slice a4 n4 m4, .slice a5 n5 m5, .slice a6 ss.length m6, .slice a7 n7 m7, .slice a8 P.dp.length m8], .slice da l.length dc] w (RunP w (RE, RL, RF))) := Lib.hid (fun w hx => by have h := rrun_any (hq.ext hx) hcp (hsrc.ext hx) hby hl; rw [← hR] at h; exact h)
  have bx := alloc_heap W (.cells #[.string s, .slice a1 P.hs.length m1, .slice a2 P.md.length m2, .slice a3 n3 m3, .slice a4 n4 m4, .slice a5 n5 m5, .slice a6 ss.length m6, .slice a7 n7 m7, .slice a8 P.dp.length m8] 31)
  have pc0 := alw (cell_of (o := 0) bx)
  have pc1 := alw (cell_of (o := 1) bx)
  have pc2 := alw (cell_of (o := 2) bx)
  have pc3 := alw (cell_of (o := 3) bx)
  have pc4 := alw (cell_of (o := 4) bx)
  have pc5 := alw (cell_of (o := 5) bx)
  have pc6 := alw (cell_of (o := 6) bx)
  have pc7 := alw (cell_of (o := 7) bx)
  have pc8 := alw (cell_of (o := 8) bx)
  clear bx
  clear hq hcp hhs hmd hss hR hsrc hby
  dsimp only [Pg.PV.val]
  go_enter Try.func30, Try.ntmps30
  go_wp2_with fail
  refine (HRUN.out _ grows).mono ?_
  rintro e w1 ⟨ev, vs, sv, rfl, x1, o1, st1⟩
  dsimp only at o1 st1
  obtain ⟨y0, y1, y2, y3, z0, z1, z2, z3, hg⟩ := o1.isE.form
  obtain ⟨rfl, _, _, _, _, _, _, _, _⟩ := hg
  dsimp only [Pg.EV.val]
  obtain ⟨oas, csv, rfl⟩ := own_slice st1
  have hle1 := x1.le
  simp only [World.size_alloc] at hle1
  have s1 := Step.mk x1
  have be := alloc_heap w1 (.cells #[.slice y0 RE.va.length z0, .slice y1 RE.fi.length z1, .slice y2 RE.me.length z2, .slice y3 RE.pl.length z3] 37)
  have qc0 := alw (cell_of (o := 0) be)
  have qc1 := alw (cell_of (o := 1) be)
  have qc2 := alw (cell_of (o := 2) be)
  have qc3 := alw (cell_of (o := 3) be)
  have XB : Hid (Ext W (w1.alloc (.cells #[.slice y0 RE.va.length z0, .slice y1 RE.fi.length z1, .slice y2 RE.me.length z2, .slice y3 RE.pl.length z3] 37))) := Lib.hid grows
  have OB := Lib.hid ((o1.ext ((Ext.refl w1).alloc (.cells #[.slice y0 RE.va.length z0, .slice y1 RE.fi.length z1, .slice y2 RE.me.length z2, .slice y3 RE.pl.length z3] 37))).base (show W.heap.size ≤ _ by simp only [World.size_alloc]; omega))
  have SB := Lib.hid (own_base (own_ext st1 ((Ext.refl w1).alloc (.cells #[.slice y0 RE.va.length z0, .slice y1 RE.fi.length z1, .slice y2 RE.me.length z2, .slice y3 RE.pl.length z3] 37))) (show W.heap.size ≤ _ by simp only [World.size_alloc]; omega))
  clear be x1 o1 st1
  go_wp2_with fail
  go_ret
  exact ⟨_, rfl, XB.out, SB.out⟩
end Go.Proofs.Ytonnlcjkgpahoaa
namespace Go.Proofs.Ytonnlcjkgpahoaa
open Go.RowKit

def Pg.CapP (p : Pg.PV) : Prop := ∃ a n c, p.c8 = .slice a n c ∧ n ≤ c ∧ c ≤ 9223372036854775807
theorem ns_rows {k : IntKind} {w : World} {v : Value} {ds : List Int} {p : Int → Prop} (h : Rows w 1 (fun _ cs d => cs = [.int k d] ∧ p d) v ds) : (Ns k w v ds ∧ ∀ x ∈ ds, p x) ∧ ∃ a n c, v = .slice a n c ∧ n ≤ c ∧ c ≤ maxLen := by
  rcases h with ⟨rfl, rfl⟩ | ⟨ad, c, rfl, h2, h3, h5, h4⟩
  · exact ⟨⟨⟨⟨rfl, (by simp), .inl ⟨rfl, rfl⟩⟩, Nat.zero_le _⟩, by simp⟩, _, _, _, rfl, Nat.le_refl _, Nat.zero_le _⟩
  · refine ⟨⟨⟨⟨by simp, by intro u hu; simp at hu; obtain ⟨x, _, rfl⟩ := hu; rfl, .inr ⟨ad, c, rfl, fun j u hj => ?_⟩⟩, Nat.le_trans h2 h3⟩, fun x hx => ?_⟩, _, _, _, rfl, h2, h3⟩
    · rw [List.getElem?_map] at hj
      cases hd : ds[j]? with
      | none => rw [hd] at hj; simp at hj
      | some d =>
        rw [hd] at hj
        simp only [Option.map_some, Option.some.injEq] at hj
        subst hj
        obtain ⟨cs, _, ⟨rfl, _⟩, hc⟩ := h4 j d hd
        have h6 := hc 0 _ rfl
        have h7 := h5 (by intro e; subst e; simp at hd)
        rw [h7]
        rw [show (⟨ad.block, ad.off, none⟩ : Addr).add j = ⟨ad.block, ad.off + j * 1 + 0, none⟩ by simp [Addr.add]]
        exact h6
    · obtain ⟨i, hi⟩ := List.mem_iff_getElem?.1 hx
      obtain ⟨_, _, ⟨_, hp⟩, _⟩ := h4 i x hi
      exact hp
theorem bs_rows {w : World} {v : Value} {ds : List Bool} (h : Rows w 1 (fun _ cs d => cs = [.bool d]) v ds) : Bs w v ds := by
  rcases h with ⟨rfl, rfl⟩ | ⟨ad, c, rfl, h2, h3, h5, h4⟩
  · exact ⟨⟨rfl, (by simp), .inl ⟨rfl, rfl⟩⟩, Nat.zero_le _⟩
  · refine ⟨⟨by simp, by intro u hu; rw [List.mem_map] at hu; obtain ⟨x, _, rfl⟩ := hu; rfl, .inr ⟨ad, c, rfl, fun j u hj => ?_⟩⟩, Nat.le_trans h2 h3⟩
    rw [List.getElem?_map] at hj
    cases hd : ds[j]? with
    | none => rw [hd] at hj; simp at hj
    | some d =>
      rw [hd] at hj
      simp only [Option.map_some, Option.some.injEq] at hj
      subst hj
      obtain ⟨cs, _, rfl, hc⟩ := h4 j d hd
      have h6 := hc 0 _ rfl
      have h7 := h5 (by intro e; subst e; simp at hd)
      rw [h7]
      rw [show (⟨ad.block, ad.off, none⟩ : Addr).add j = ⟨ad.block, ad.off + j * 1 + 0, none⟩ by simp [Addr.add]]
      exact h6
theorem wf_u32r {x : Int} (h : (Lit.int .u32 x).wf = true) : U32 x := by
  simp [Lit.wf, IntKind.min, IntKind.max, IntKind.bits, IntKind.signed] at h; unfold U32; omega
theorem rd_sl {P : Program} {W : World} {t e : TypeId} {cs : List Value} (hu : P.underlying t = some (.slice e)) (h : Rd P W t cs) : ∃ a n c, cs = [.slice a n c] := by
  rcases h.slice hu with rfl | ⟨a, len, cap, rfl, _⟩
  · exact ⟨_, _, _, rfl⟩
  · exact ⟨_, _, _, rfl⟩
set_option maxRecDepth 100000 in
theorem rd_u32s {W : World} {cs : List Value} (h : Rd Try.prog W 34 cs) : ∃ v l, cs = [v] ∧ Ns .u32 W v l ∧ ∀ x ∈ l, U32 x := by
  obtain ⟨v, l, h1, h2⟩ := Rd.rows (R := fun _ cs (d : Int) => cs = [.int .u32 d] ∧ U32 d) Try.underlying34 (show Try.prog.cellsOf 64 = 1 by kernel_rfl) (by decide) (fun row _ hr => by
    obtain ⟨n, h3, h4⟩ := Rd.int Try.underlying64 hr
    exact ⟨n, h3, wf_u32r h4⟩) h
  exact ⟨v, l, h1, (ns_rows h2).1⟩
set_option maxRecDepth 100000 in
theorem rd_ints {W : World} {cs : List Value} (h : Rd Try.prog W 29 cs) : ∃ v l, cs = [v] ∧ Ns .i64 W v l ∧ ∃ a n c, v = .slice a n c ∧ n ≤ c ∧ c ≤ maxLen := by
  obtain ⟨v, l, h1, h2⟩ := Rd.rows (R := fun _ cs (d : Int) => cs = [.int .i64 d] ∧ True) Try.underlying29 (show Try.prog.cellsOf 3 = 1 by kernel_rfl) (by decide) (fun row _ hr => by
    obtain ⟨n, h3, _⟩ := Rd.int Try.underlying3 hr
    exact ⟨n, h3, trivial⟩) h
  exact ⟨v, l, h1, (ns_rows h2).1.1, (ns_rows h2).2⟩
set_option maxRecDepth 100000 in
theorem rd_bytes {W : World} {cs : List Value} (h : Rd Try.prog W 35 cs) : ∃ v l, cs = [v] ∧ Ns .u8 W v l ∧ Io.Bytes l := by
  obtain ⟨v, l, h1, h2⟩ := Rd.rows (R := fun _ cs (d : Int) => cs = [.int .u8 d] ∧ (0 ≤ d ∧ d ≤ 255)) Try.underlying35 (show Try.prog.cellsOf 5 = 1 by kernel_rfl) (by decide) (fun row _ hr => by
    obtain ⟨n, h3, h4⟩ := Rd.int Try.underlying5 hr
    exact ⟨n, h3, wf_u8 h4⟩) h
  exact ⟨v, l, h1, (ns_rows h2).1⟩
set_option maxRecDepth 100000 in
theorem rd_bools {W : World} {cs : List Value} (h : Rd Try.prog W 32 cs) : ∃ v l, cs = [v] ∧ Bs W v l := by
  obtain ⟨v, l, h1, h2⟩ := Rd.rows (R := fun _ cs (d : Bool) => cs = [.bool d]) Try.underlying32 (show Try.prog.cellsOf 4 = 1 by kernel_rfl) (by decide) (fun row _ hr => Rd.bool Try.underlying4 hr) h
  exact ⟨v, l, h1, bs_rows h2⟩
set_option maxRecDepth 100000 in
theorem rd_table {W : World} {cs : List Value} (h : Rd Try.prog W 33 cs) : ∃ v l, cs = [v] ∧ Rows W 1 RowR v l :=
  Rd.rows Try.underlying33 (show Try.prog.cellsOf 34 = 1 by kernel_rfl) (by decide) (fun row _ hr => by
    obtain ⟨v, l, h1, h2, h3⟩ := rd_u32s hr
    exact ⟨l, v, h1, h2, h3⟩) h
set_option maxRecDepth 100000 in
theorem env_take {v : Value} {W : World} {base : Nat} {r : Reach} {H : Type} {enc : TypeId × Value → H} {d : DataW H} {ps : List MemPlace}
    (ok : Value.okWide Try.prog W r base 37 v) (h : DataW.Trod enc Try.prog W 0 (fun _ => true) true 37 v d ps) : ∃ (e : Pg.EV) (E : Pg.Env), v = e.val ∧ Pg.IsE W e E := by
  have hc : Try.prog.cellsOf 37 = 4 := by kernel_rfl
  have z0 : Try.prog.cellsOf 32 = 1 := by kernel_rfl
  have z1 : Try.prog.cellsOf 33 = 1 := by kernel_rfl
  have z2 : Try.prog.cellsOf 34 = 1 := by kernel_rfl
  have z3 : Try.prog.cellsOf 35 = 1 := by kernel_rfl
  obtain ⟨l, rfl, hl⟩ := ok_struct Try.underlying37 ok
  rw [hc] at hl
  have hrd := Rd.of h
  simp only [Value.cells, List.toList_toArray] at hrd
  obtain ⟨_, hr⟩ := Rd.struct Try.underlying37 hrd
  match l, hl with
  | [c0, c1, c2, c3], _ =>
    have r0 := hr 0 _ rfl
    have r1 := hr 1 _ rfl
    have r2 := hr 2 _ rfl
    have r3 := hr 3 _ rfl
    simp [z0, z1, z2, z3] at r0 r1 r2 r3
    obtain ⟨v0, l0, e0, g0⟩ := rd_bools r0
    obtain ⟨v1, l1, e1, g1⟩ := rd_table r1
    obtain ⟨v2, l2, e2, g2⟩ := rd_u32s r2
    obtain ⟨v3, l3, e3, g3⟩ := rd_bytes r3
    simp at e0 e1 e2 e3
    subst e0; subst e1; subst e2; subst e3
    exact ⟨⟨c0, c1, c2, c3⟩, ⟨l0, l1, l2, l3⟩, rfl, g0, g1, g2, g3⟩
set_option maxRecDepth 100000 in
theorem rd_case {W : World} {row : List Value} (hl : row.length = 3) (h : Rd Try.prog W 115 row) : ∃ d, Ps.CaseR W row d := by
  have z0 : Try.prog.cellsOf 64 = 1 := by kernel_rfl
  have z1 : Try.prog.cellsOf 3 = 1 := by kernel_rfl
  obtain ⟨_, hr⟩ := Rd.struct Try.underlying115 h
  match row, hl with
  | [c0, c1, c2], _ =>
    have r0 := hr 0 _ rfl
    have r1 := hr 1 _ rfl
    have r2 := hr 2 _ rfl
    simp [z0, z1] at r0 r1 r2
    obtain ⟨a, ha, wa⟩ := Rd.int Try.underlying64 r0
    obtain ⟨b, hb, wb⟩ := Rd.int Try.underlying64 r1
    obtain ⟨c, hc, _⟩ := Rd.int Try.underlying3 r2
    simp at ha hb hc
    subst ha; subst hb; subst hc
    exact ⟨⟨a, b, c⟩, rfl, wf_u32r wa, wf_u32r wb⟩
set_option maxRecDepth 100000 in
theorem rd_state {W : World} {row : List Value} (hl : row.length = 7) (h : Rd Try.prog W 61 row) : ∃ d, Ps.StR W row d := by
  have z0 : Try.prog.cellsOf 9 = 1 := by kernel_rfl
  have z1 : Try.prog.cellsOf 29 = 1 := by kernel_rfl
  have z2 : Try.prog.cellsOf 4 = 1 := by kernel_rfl
  have z3 : Try.prog.cellsOf 58 = 2 := by kernel_rfl
  have z4 : Try.prog.cellsOf 59 = 1 := by kernel_rfl
  have z5 : Try.prog.cellsOf 3 = 1 := by kernel_rfl
  obtain ⟨_, hr⟩ := Rd.struct Try.underlying61 h
  match row, hl with
  | [c0, c1, c2, c3, c4, c5, c6], _ =>
    have r0 := hr 0 _ rfl
    have r1 := hr 1 _ rfl
    have r2 := hr 2 _ rfl
    have r3 := hr 3 _ rfl
    have r4 := hr 4 _ rfl
    have r5 := hr 5 _ rfl
    simp [z0, z1, z2, z3, z4, z5] at r0 r1 r2 r3 r4 r5
    obtain ⟨s, e0, ws⟩ := Rd.string Try.underlying9 r0
    obtain ⟨v1, ex, e1, g1, _⟩ := rd_ints r1
    obtain ⟨b, e2⟩ := Rd.bool Try.underlying4 r2
    obtain ⟨_, hr3⟩ := Rd.struct Try.underlying58 r3
    have q0 := hr3 0 _ rfl
    have q1 := hr3 1 _ rfl
    simp [z5] at q0 q1
    obtain ⟨x, e3, _⟩ := Rd.int Try.underlying3 q0
    obtain ⟨y, e4, _⟩ := Rd.int Try.underlying3 q1
    obtain ⟨v4, cs, e5, g4⟩ := Rd.rows (R := Ps.CaseR) Try.underlying59 (show Try.prog.cellsOf 115 = 3 by kernel_rfl) (by decide) (fun row hl hr => rd_case hl hr) r4
    obtain ⟨z, e6, _⟩ := Rd.int Try.underlying3 r5
    simp at e0 e1 e2 e3 e4 e5 e6
    subst e0; subst e1; subst e2; subst e3; subst e4; subst e5; subst e6
    exact ⟨⟨s, ex, b, x, y, cs, z⟩, _, _, rfl, ws, g1, g4⟩
set_option maxRecDepth 100000 in
theorem qprog_take {v : Value} {W : World} {base : Nat} {r : Reach} {H : Type} {enc : TypeId × Value → H} {d : DataW H} {ps : List MemPlace}
    (ok : Value.okWide Try.prog W r base 31 v) (h : DataW.Trod enc Try.prog W 0 (fun _ => true) true 31 v d ps) : ∃ (p : Pg.PV) (P : Pg.Prog) (ss : List Ps.St), v = p.val ∧ Ps.IsQ W p P ss := by
  have hc : Try.prog.cellsOf 31 = 9 := by kernel_rfl
  have z0 : Try.prog.cellsOf 9 = 1 := by kernel_rfl
  have z1 : Try.prog.cellsOf 22 = 1 := by kernel_rfl
  have z2 : Try.prog.cellsOf 23 = 1 := by kernel_rfl
  have z3 : Try.prog.cellsOf 24 = 1 := by kernel_rfl
  have z4 : Try.prog.cellsOf 25 = 1 := by kernel_rfl
  have z5 : Try.prog.cellsOf 26 = 1 := by kernel_rfl
  have z6 : Try.prog.cellsOf 27 = 1 := by kernel_rfl
  have z7 : Try.prog.cellsOf 28 = 1 := by kernel_rfl
  have z8 : Try.prog.cellsOf 29 = 1 := by kernel_rfl
  obtain ⟨l, rfl, hl⟩ := ok_struct Try.underlying31 ok
  rw [hc] at hl
  have hrd := Rd.of h
  simp only [Value.cells, List.toList_toArray] at hrd
  obtain ⟨_, hr⟩ := Rd.struct Try.underlying31 hrd
  match l, hl with
  | [c0, c1, c2, c3, c4, c5, c6, c7, c8], _ =>
    have r0 := hr 0 _ rfl
    have r1 := hr 1 _ rfl
    have r2 := hr 2 _ rfl
    have r3 := hr 3 _ rfl
    have r4 := hr 4 _ rfl
    have r5 := hr 5 _ rfl
    have r6 := hr 6 _ rfl
    have r7 := hr 7 _ rfl
    have r8 := hr 8 _ rfl
    simp [z0, z1, z2, z3, z4, z5, z6, z7, z8] at r0 r1 r2 r3 r4 r5 r6 r7 r8
    obtain ⟨s, e0, _⟩ := Rd.string Try.underlying9 r0
    obtain ⟨v1, hs, e1, g1⟩ := Rd.rows (R := Hd.HdrR) Try.underlying22 (show Try.prog.cellsOf 72 = 2 by kernel_rfl) (by decide) (fun row hl hr => rd_header hl hr) r1
    obtain ⟨v2, md, e2, g2⟩ := rd_fields r2
    obtain ⟨a3, n3, c3, h3⟩ := rd_sl Try.underlying24 r3
    obtain ⟨a4, n4, c4, h4⟩ := rd_sl Try.underlying25 r4
    obtain ⟨a5, n5, c5, h5⟩ := rd_sl Try.underlying26 r5
    obtain ⟨v6, ss, h6, g6⟩ := Rd.rows (R := Ps.StR) Try.underlying27 (show Try.prog.cellsOf 61 = 7 by kernel_rfl) (by decide) (fun row hl hr => rd_state hl hr) r6
    obtain ⟨a6, n6, e6, _, _⟩ := g6.slice
    obtain ⟨a7, n7, c7, h7⟩ := rd_sl Try.underlying28 r7
    obtain ⟨v8, dp, e8, g8, a8, n8, k8, e8', q1, q2⟩ := rd_ints r8
    simp at e0 e1 e2 e8 h3 h4 h5 h6 h7
    subst e0; subst e1; subst e2; subst e8; subst h3; subst h4; subst h5; subst h6; subst h7
    subst e6
    exact ⟨⟨_, c1, c2, _, _, _, _, _, c8⟩, ⟨hs, md, dp⟩, ss, rfl, ⟨⟨s, rfl⟩, g1, g2, ⟨_, _, _, rfl⟩, ⟨_, _, _, rfl⟩, ⟨_, _, _, rfl⟩, ⟨_, _, _, rfl⟩, ⟨_, _, _, rfl⟩, g8⟩, g6⟩
namespace Ps
def okQ (P : Pg.Prog) (ss : List St) : Bool := decide (P.hs.length ≤ 10) && (decide (ss.length ≤ 16) && (decide (P.md.length ≤ 16) && (((List.range P.hs.length).all fun h => decide ((P.hs.getD h (⟨#[]⟩, [])).2.length ≤ 16) && Hd.small (P.hs.getD h (⟨#[]⟩, []))) && ((List.range ss.length).all fun k => decide ((ss.getD k st0).ex.length ≤ 8) && (decide ((ss.getD k st0).cs.length ≤ 12) && decide ((ss.getD k st0).nm.size ≤ 100))))))
theorem okQ_cap {P : Pg.Prog} {ss : List St} (h : okQ P ss = true) : En.CapP P := by
  unfold okQ at h
  simp only [Bool.and_eq_true, decide_eq_true_eq, List.all_eq_true, List.mem_range] at h
  obtain ⟨h1, _, h2, h3, _⟩ := h
  refine ⟨by omega, by omega, fun x hx => ?_⟩
  obtain ⟨j, hj, rfl⟩ := List.mem_iff_getElem.1 hx
  have := (h3 j hj).1
  rw [List.getD_eq_getElem?_getD, List.getElem?_eq_getElem hj, Option.getD_some] at this
  omega
end Ps
set_option maxRecDepth 8000 in
set_option maxHeartbeats 4000000 in
theorem qtoolarge_any {W : World} {p : Pg.PV} {P : Pg.Prog} {ss : List Ps.St} (hq : Ps.IsQ W p P ss) : Calls Try.prog 21 #[p.val] W (Rets W (.bool (!Ps.okQ P ss))) := by
  obtain ⟨s, a1, a2, a3, a4, a5, a6, a7, a8, m1, m2, n3, m3, n4, m4, n5, m5, n6, m6, n7, m7, m8, hf⟩ := hq.1.form
  obtain ⟨rfl, hhs, hmd, _, hl1, hl2, _⟩ := hf
  have hss := hq.2
  dsimp only at hss
  obtain ⟨a6', m6', e6, hl6, hc6⟩ := hss.slice
  simp only [Value.slice.injEq] at e6
  obtain ⟨rfl, rfl, rfl⟩ := e6
  unfold maxLen at hc6
  dsimp only [Pg.PV.val]
  have bx := alloc_heap W (.cells #[.string s, .slice a1 P.hs.length m1, .slice a2 P.md.length m2, .slice a3 n3 m3, .slice a4 n4 m4, .slice a5 n5 m5, .slice a6 ss.length m6, .slice a7 n7 m7, .slice a8 P.dp.length m8] 31)
  have pc1 := alw (cell_of (o := 1) bx)
  have pc2 := alw (cell_of (o := 2) bx)
  have pc6 := alw (cell_of (o := 6) bx)
  clear bx
  have HHS := Lib.hid hhs
  have HSS := Lib.hid hss
  clear hq hhs hmd hss
  by_cases h1 : P.hs.length ≤ 10
  · have g1 : decide ((10 : Int) < (P.hs.length : Int)) = false := decide_eq_false (by omega)
    by_cases h2 : ss.length ≤ 16
    · have g2 : decide ((16 : Int) < (ss.length : Int)) = false := decide_eq_false (by omega)
      by_cases h3 : P.md.length ≤ 16
      · have g3 : decide ((16 : Int) < (P.md.length : Int)) = false := decide_eq_false (by omega)
        have HR : Hid (Ps.okQ P ss = (((List.range P.hs.length).all fun h => decide ((P.hs.getD h (⟨#[]⟩, [])).2.length ≤ 16) && Hd.small (P.hs.getD h (⟨#[]⟩, []))) && ((List.range ss.length).all fun k => decide ((ss.getD k Ps.st0).ex.length ≤ 8) && (decide ((ss.getD k Ps.st0).cs.length ≤ 12) && decide ((ss.getD k Ps.st0).nm.size ≤ 100))))) := Lib.hid (by unfold Ps.okQ; rw [decide_eq_true h1, decide_eq_true h2, decide_eq_true h3]; rfl)
        go_enter Try.func21, Try.ntmps21
        go_wp2_with fail
        go_loopw [3] (fun i wr => ∃ k : Nat, k ≤ P.hs.length ∧ i = .int .i64 k ∧ Ext (W.alloc (.cells #[.string s, .slice a1 P.hs.length m1, .slice a2 P.md.length m2, .slice a3 n3 m3, .slice a4 n4 m4, .slice a5 n5 m5, .slice a6 ss.length m6, .slice a7 n7 m7, .slice a8 P.dp.length m8] 31)) wr ∧ Hid (∀ j, j < k → (decide ((P.hs.getD j (⟨#[]⟩, [])).2.length ≤ 16) && Hd.small (P.hs.getD j (⟨#[]⟩, []))) = true)) (fun i _ => P.hs.length - (intOf i).toNat)
        case atStart => exact ⟨0, Nat.zero_le _, rfl, Ext.refl _, Lib.hid (by intro j hj; omega)⟩
        case round =>
          obtain ⟨k, hk, rfl, hx, HZ⟩ := hrel
          have sx := Step.mk hx
          by_cases hlt : k < P.hs.length
          · obtain ⟨⟨hn, fs⟩, hhk⟩ : ∃ x, P.hs[k]? = some x := ⟨_, List.getElem?_eq_getElem (by omega)⟩
            obtain ⟨bh, oh, hoh, _, _⟩ := Rows.at HHS.out (by omega)
            subst hoh
            obtain ⟨fa, fc, q0, q1, hnm, qf, qc, qm⟩ := hdrs_at HHS.out k hn fs hhk rfl
            have HGH := Lib.hid (show P.hs.getD k (⟨#[]⟩, []) = (hn, fs) by rw [List.getD_eq_getElem?_getD, hhk]; rfl)
            obtain ⟨sb, hsb⟩ : ∃ z, z = Hd.small (hn, fs) := ⟨_, rfl⟩
            have HSM : Hid (∀ w, Ext W w → Calls Try.prog 49 #[.agg #[.string hn, .slice fa fs.length fc]] w (Rets w (.bool sb))) := Lib.hid (fun w hx => by have h := rsmall_any (hn, fs) (qf.ext hx) hnm; rw [← hsb] at h; exact h)
            have HSB := Lib.hid hsb.symm
            unfold maxLen at qm
            clear hhk qf hsb hnm
            by_cases hle : fs.length ≤ 16
            · have g4 : decide ((16 : Int) < (fs.length : Int)) = false := decide_eq_false (by omega)
              cases sb with
              | true =>
                go_wp2_with fail
                refine (HSM.out _ grows).mono ?_
                rintro e w4 ⟨rfl, xw4⟩
                have sw4 := Step.mk xw4
                go_wp2_with fail
                go_roundw
                case rel =>
                  refine ⟨k + 1, by omega, by go_num, grows, Lib.hid (fun j hj => ?_)⟩
                  rcases Nat.lt_or_ge j k with h1 | h1
                  · exact HZ.out j h1
                  · obtain rfl : j = k := by omega
                    rw [HGH.out, HSB.out]; dsimp only; rw [decide_eq_true hle]; rfl
                case measure => simp [intOf]; omega
              | false =>
                go_wp2_with fail
                refine (HSM.out _ grows).mono ?_
                rintro e w4 ⟨rfl, xw4⟩
                have sw4 := Step.mk xw4
                go_wp2_with fail
                go_ret
                exact ⟨ret_bool (by rw [HR.out, Pg.all_no hlt (by rw [HGH.out, HSB.out, Bool.and_false])]; rfl), grows⟩
            · have g4 : decide ((16 : Int) < (fs.length : Int)) = true := decide_eq_true (by omega)
              go_wp2_with fail
              go_ret
              exact ⟨ret_bool (by rw [HR.out, Pg.all_no hlt (by rw [HGH.out]; dsimp only; rw [decide_eq_false hle]; rfl)]; rfl), grows⟩
          · obtain rfl : k = P.hs.length := by omega
            have HR2 : Hid (Ps.okQ P ss = ((List.range ss.length).all fun k => decide ((ss.getD k Ps.st0).ex.length ≤ 8) && (decide ((ss.getD k Ps.st0).cs.length ≤ 12) && decide ((ss.getD k Ps.st0).nm.size ≤ 100)))) := Lib.hid (by rw [HR.out, Pg.all_yes HZ.out]; rfl)
            obtain ⟨wq, rfl⟩ : ∃ z : World, z = wr := ⟨_, rfl⟩
            clear HZ
            go_wp2_with fail
            go_loopw [4] (fun i wr => ∃ k : Nat, k ≤ ss.length ∧ i = .int .i64 k ∧ Ext wq wr ∧ Hid (∀ j, j < k → (decide ((ss.getD j Ps.st0).ex.length ≤ 8) && (decide ((ss.getD j Ps.st0).cs.length ≤ 12) && decide ((ss.getD j Ps.st0).nm.size ≤ 100))) = true)) (fun i _ => ss.length - (intOf i).toNat)
            case atStart => exact ⟨0, Nat.zero_le _, rfl, Ext.refl _, Lib.hid (by intro j hj; omega)⟩
            case round =>
              obtain ⟨k, hk, rfl, hx, HZ⟩ := hrel
              have sx := Step.mk hx
              by_cases hlt : k < ss.length
              · obtain ⟨x, hxk⟩ : ∃ x, ss[k]? = some x := ⟨_, List.getElem?_eq_getElem (by omega)⟩
                obtain ⟨ab, ao, rfl, _, _⟩ := Rows.at HSS.out (by omega)
                obtain ⟨ea, ec, ca, cc, hnm, hex, hcs, hcl, hcm, g0', g1', g2', g3', g4', g5', g6'⟩ := st_at HSS.out k x hxk rfl
                have u0 := alw g0'
                have u1 := alw g1'
                have u5 := alw g5'
                have HGS := Lib.hid (show ss.getD k Ps.st0 = x by rw [List.getD_eq_getElem?_getD, hxk]; rfl)
                have hem := hex.2
                unfold maxLen at hem hnm
                clear hxk hex hcs g0' g1' g2' g3' g4' g5' g6'
                by_cases e1 : x.ex.length ≤ 8
                · have t1 : decide ((8 : Int) < (x.ex.length : Int)) = false := decide_eq_false (by omega)
                  by_cases e2 : x.cs.length ≤ 12
                  · have t2 : decide ((12 : Int) < (x.cs.length : Int)) = false := decide_eq_false (by omega)
                    by_cases e3 : x.nm.size ≤ 100
                    · have t3 : decide ((100 : Int) < (x.nm.size : Int)) = false := decide_eq_false (by omega)
                      go_wp2_with fail
                      go_roundw
                      case rel =>
                        refine ⟨k + 1, by omega, by go_num, grows, Lib.hid (fun j hj => ?_)⟩
                        rcases Nat.lt_or_ge j k with h1 | h1
                        · exact HZ.out j h1
                        · obtain rfl : j = k := by omega
                          rw [HGS.out, decide_eq_true e1, decide_eq_true e2, decide_eq_true e3]; rfl
                      case measure => simp [intOf]; omega
                    · have t3 : decide ((100 : Int) < (x.nm.size : Int)) = true := decide_eq_true (by omega)
                      go_wp2_with fail
                      go_ret
                      exact ⟨ret_bool (by rw [HR2.out, Pg.all_no hlt (by rw [HGS.out, decide_eq_false e3, Bool.and_false, Bool.and_false])]; rfl), grows⟩
                  · have t2 : decide ((12 : Int) < (x.cs.length : Int)) = true := decide_eq_true (by omega)
                    go_wp2_with fail
                    go_ret
                    exact ⟨ret_bool (by rw [HR2.out, Pg.all_no hlt (by rw [HGS.out, decide_eq_false e2, Bool.false_and, Bool.and_false])]; rfl), grows⟩
                · have t1 : decide ((8 : Int) < (x.ex.length : Int)) = true := decide_eq_true (by omega)
                  go_wp2_with fail
                  go_ret
                  exact ⟨ret_bool (by rw [HR2.out, Pg.all_no hlt (by rw [HGS.out, decide_eq_false e1]; rfl)]; rfl), grows⟩
              · obtain rfl : k = ss.length := by omega
                go_wp2_with fail
                go_ret
                exact ⟨ret_bool (by rw [HR2.out, Pg.all_yes HZ.out]; rfl), grows⟩
      · have g3 : decide ((16 : Int) < (P.md.length : Int)) = true := decide_eq_true (by omega)
        have HR : Hid (Ps.okQ P ss = false) := Lib.hid (by unfold Ps.okQ; rw [decide_eq_false h3]; simp)
        go_enter Try.func21, Try.ntmps21
        go_wp2_with fail
        go_ret
        exact ⟨ret_bool (by rw [HR.out]; rfl), grows⟩
    · have g2 : decide ((16 : Int) < (ss.length : Int)) = true := decide_eq_true (by omega)
      have HR : Hid (Ps.okQ P ss = false) := Lib.hid (by unfold Ps.okQ; rw [decide_eq_false h2]; simp)
      go_enter Try.func21, Try.ntmps21
      go_wp2_with fail
      go_ret
      exact ⟨ret_bool (by rw [HR.out]; rfl), grows⟩
  · have g1 : decide ((10 : Int) < (P.hs.length : Int)) = true := decide_eq_true (by omega)
    have HR : Hid (Ps.okQ P ss = false) := Lib.hid (by unfold Ps.okQ; rw [decide_eq_false h1]; simp)
    go_enter Try.func21, Try.ntmps21
    go_wp2_with fail
    go_ret
    exact ⟨ret_bool (by rw [HR.out]; rfl), grows⟩
set_option maxRecDepth 8000 in
set_option maxHeartbeats 1000000 in
theorem eqints_any {W : World} {v u : Value} {a b : List Int} (ha : Ns .i64 W v a) (hb : Ns .i64 W u b) :
    Calls Try.prog 28 #[v, u] W (Rets W (.bool (decide (a = b)))) := by
  obtain ⟨oa, ca, rfl⟩ := ns_slice ha
  obtain ⟨ob, cb, rfl⟩ := ns_slice hb
  have ma := ha.2
  have mb := hb.2
  unfold maxLen at ma mb
  have HA := Lib.hid ha
  have HB := Lib.hid hb
  clear ha hb
  by_cases hl : a.length = b.length
  · have hle : a.length ≤ b.length := by omega
    have hge : b.length ≤ a.length := by omega
    have hne : ((a.length : Int) != (b.length : Int)) = false := by simp [hl]
    have HL := Lib.hid hl
    clear hl
    go_enter Try.func28, Try.ntmps28
    go_wp2_with fail
    go_loopw [5] (fun i wr => ∃ k : Nat, k ≤ a.length ∧ i = .int .i64 k ∧ Ext W wr ∧ Hid (∀ j, j < k → a.getD j 0 = b.getD j 0)) (fun i _ => a.length - (intOf i).toNat)
    case atStart => exact ⟨0, Nat.zero_le _, rfl, Ext.refl _, Lib.hid (by intro j hj; omega)⟩
    case round =>
      obtain ⟨k, hk, rfl, hx, HZ⟩ := hrel
      have sx := Step.mk hx
      by_cases hlt : k < a.length
      · have hlt2 : k < b.length := by omega
        obtain ⟨x, hxk⟩ : ∃ x, a[k]? = some x := ⟨_, List.getElem?_eq_getElem hlt⟩
        obtain ⟨y, hyk⟩ : ∃ y, b[k]? = some y := ⟨_, List.getElem?_eq_getElem hlt2⟩
        obtain ⟨b1, o1, rfl, c1⟩ := ns_at HA.out (by omega)
        obtain ⟨b2, o2, rfl, c2⟩ := ns_at HB.out (by omega)
        have f1 := c1 k x hxk
        have f2 := c2 k y hyk
        have hga : a.getD k 0 = x := by rw [List.getD_eq_getElem?_getD, hxk]; rfl
        have hgb : b.getD k 0 = y := by rw [List.getD_eq_getElem?_getD, hyk]; rfl
        have HGA := Lib.hid hga
        have HGB := Lib.hid hgb
        clear c1 c2 hxk hyk hga hgb
        by_cases hxy : x = y
        · have hb1 : (x != y) = false := by simp [hxy]
          have HXY := Lib.hid hxy
          clear hxy
          go_wp2_with fail
          refine wp_region_later (by kernel_rfl) (by kernel_rfl) (Ext.refl _) ?_
          repeat (go_big_quiet_step (fail))
          refine wpQuiet_nil ?_
          intro w1 hxw1
          have sw1 := Step.mk hxw1
          go_wp2_with fail
          go_roundw
          case rel =>
            refine ⟨k + 1, by omega, by go_num, by exact hx.trans hxw1, Lib.hid (fun j hj => ?_)⟩
            rcases Nat.lt_or_ge j k with h1 | h1
            · exact HZ.out j h1
            · obtain rfl : j = k := by omega
              rw [HGA.out, HGB.out, HXY.out]
          case measure => simp [intOf]; omega
        · have hb1 : (x != y) = true := by simp [hxy]
          have HXY := Lib.hid hxy
          clear hxy
          go_wp2_with fail
          refine wp_region_later (by kernel_rfl) (by kernel_rfl) (Ext.refl _) ?_
          repeat (go_big_quiet_step (fail))
          refine wpQuiet_nil ?_
          intro w1 hxw1
          have sw1 := Step.mk hxw1
          go_wp2_with fail
          go_ret
          exact ⟨ret_bool (decide_eq_false (fun e => HXY.out (by rw [← HGA.out, ← HGB.out, e]))).symm, grows⟩
      · obtain rfl : k = a.length := by omega
        go_wp2_with fail
        go_ret
        exact ⟨ret_bool (decide_eq_true (Rg.eq_of HL.out HZ.out)).symm, grows⟩
  · have hne : ((a.length : Int) != (b.length : Int)) = true := by simp; omega
    have HL := Lib.hid hl
    clear hl
    go_enter Try.func28, Try.ntmps28
    go_wp2_with fail
    go_ret
    exact ⟨ret_bool (decide_eq_false (fun e => HL.out (by rw [e]))).symm, grows⟩
end Go.Proofs.Ytonnlcjkgpahoaa
namespace Go.Proofs.Ytonnlcjkgpahoaa
open Go.RowKit

theorem rows_one {α : Type} {w : World} {B sz : Nat} {t : TypeId} {f : Nat × Nat} {R : World → List Value → α → Prop} {a : α} (u : List Value) (hu : u.length = sz) (ha : R w u a) (hb : w.heap[B]? = some (.cells u.toArray t f)) :
    Rows w sz R (.slice (some ⟨B, 0, none⟩) 1 1) [a] :=
  .inr ⟨⟨B, 0, none⟩, 1, rfl, Nat.le_refl _, by unfold maxLen; omega, fun _ => rfl, fun i d hi => by
    match i, hi with
    | 0, hi =>
      simp only [List.getElem?_cons_zero, Option.some.injEq] at hi
      subst hi
      refine ⟨u, hu, ha, fun j x hj => ?_⟩
      rw [cell_of hb, List.getElem?_toArray, Nat.zero_add, Nat.zero_mul, Nat.zero_add, hj]
    | i + 1, hi => simp at hi⟩
/-- two of something, in a block of sz cells each -/
theorem rows_two {α : Type} {w : World} {B sz : Nat} {t : TypeId} {f : Nat × Nat} {R : World → List Value → α → Prop} {a b : α} (u v : List Value) (hu : u.length = sz) (hv : v.length = sz) (ha : R w u a) (hb' : R w v b) (hb : w.heap[B]? = some (.cells (u ++ v).toArray t f)) :
    Rows w sz R (.slice (some ⟨B, 0, none⟩) 2 2) [a, b] :=
  .inr ⟨⟨B, 0, none⟩, 2, rfl, Nat.le_refl _, by unfold maxLen; omega, fun _ => rfl, fun i d hi => by
    match i, hi with
    | 0, hi =>
      simp only [List.getElem?_cons_zero, Option.some.injEq] at hi
      subst hi
      refine ⟨u, hu, ha, fun j x hj => ?_⟩
      rw [cell_of hb, List.getElem?_toArray, Nat.zero_add, Nat.zero_mul, Nat.zero_add, List.getElem?_append_left (List.getElem?_eq_some_iff.1 hj).1, hj]
    | 1, hi =>
      simp only [List.getElem?_cons_succ, List.getElem?_cons_zero, Option.some.injEq] at hi
      subst hi
      refine ⟨v, hv, hb', fun j x hj => ?_⟩
      rw [cell_of hb, List.getElem?_toArray, List.getElem?_append_right (by omega), ← hj]
      congr 1; dsimp only; omega
    | i + 2, hi => simp at hi⟩
namespace Ps
def p0 : Pg.Prog := ⟨[(⟨#[104]⟩, [(⟨#[97]⟩, 8)])], [], []⟩
def ss0 : List St := [⟨⟨#[115]⟩, [0], true, 0, 0, [⟨1, 255, 1⟩], -2⟩, ⟨⟨#[116]⟩, [], false, 0, 0, [], -1⟩]
def pz : Pg.Prog := ⟨[], [], []⟩
def e9 : Pg.Env := ⟨[true], [[1]], [], [9]⟩
def en : Pg.Env := ⟨[false], [[0]], [], []⟩
theorem w_chk : chk p0 ss0 = (0, 0, 0) := by decide +kernel
theorem w_chk0 : chk pz [] = (-1, -1, 8) := by decide +kernel
theorem w_19 : parse p0 ss0 [1, 9] = (e9, [0, 1], 0) := by kernel_rfl
theorem w_2 : parse p0 ss0 [2] = (en, [0], 15) := by kernel_rfl
theorem w_0 : parse p0 ss0 [] = (en, [0], 3) := by kernel_rfl
theorem w_e : En.eqB e9 e9 = true := by decide +kernel
theorem c_p0 : En.CapP p0 := okQ_cap (ss := ss0) (by decide +kernel)
end Ps
set_option maxRecDepth 8000 in
set_option maxHeartbeats 2000000 in
theorem pexample_any (W : World) : Calls Try.prog 50 #[] W fun e W' => ∃ p : Pg.PV, e = .returned p.val ∧ Ext W W' ∧ Ps.IsQ W' p Ps.p0 Ps.ss0 := by
  go_enter Try.func50, Try.ntmps50
  go_wp2_with fail
  refine bodyPost_ret (v := .agg #[.string ⟨#[]⟩, .slice (some ⟨W.heap.size + 1 + 1, 0, none⟩) 1 1, .slice none 0 0, .slice none 0 0, .slice none 0 0, .slice none 0 0, .slice (some ⟨W.heap.size + 1 + 1 + 1 + 1 + 1 + 1, 0, none⟩) 2 2, .slice none 0 0, .slice none 0 0]) (by simp [results, Try.results50, go_sem]) rfl ⟨⟨.string ⟨#[]⟩, .slice (some ⟨W.heap.size + 1 + 1, 0, none⟩) 1 1, .slice none 0 0, .slice none 0 0, .slice none 0 0, .slice none 0 0, .slice (some ⟨W.heap.size + 1 + 1 + 1 + 1 + 1 + 1, 0, none⟩) 2 2, .slice none 0 0, .slice none 0 0⟩, rfl, grows, ?_⟩
  have h1 := alloc_heap (W.alloc (.cells #[.string ⟨#[]⟩, .slice (some ⟨W.heap.size + 1 + 1, 0, none⟩) 1 1, .slice none 0 0, .slice none 0 0, .slice none 0 0, .slice none 0 0, .slice (some ⟨W.heap.size + 1 + 1 + 1 + 1 + 1 + 1, 0, none⟩) 2 2, .slice none 0 0, .slice none 0 0] 31)) (.cells #[.string ⟨#[97]⟩, .int .i64 8] 84)
  rw [World.size_alloc] at h1
  have k1 := ((((((Ext.refl _).alloc (.cells #[.string ⟨#[104]⟩, .slice (some ⟨W.heap.size + 1, 0, none⟩) 1 1] 72)).alloc (.cells #[.string ⟨#[]⟩, .slice (some ⟨W.heap.size + 1 + 1, 0, none⟩) 1 1, .slice none 0 0, .slice none 0 0, .slice none 0 0, .slice none 0 0, .slice (some ⟨W.heap.size + 1 + 1 + 1 + 1 + 1 + 1, 0, none⟩) 2 2, .slice none 0 0, .slice none 0 0] 31)).alloc (.cells #[.int .i64 0] 3)).alloc (.cells #[.int .u32 1, .int .u32 255, .int .i64 1] 115)).alloc (.cells #[.string ⟨#[115]⟩, .slice (some ⟨W.heap.size + 1 + 1 + 1 + 1, 0, none⟩) 1 1, .bool true, .int .i64 0, .int .i64 0, .slice (some ⟨W.heap.size + 1 + 1 + 1 + 1 + 1, 0, none⟩) 1 1, .int .i64 (-2), .string ⟨#[116]⟩, .slice none 0 0, .bool false, .int .i64 0, .int .i64 0, .slice none 0 0, .int .i64 (-1)] 61)).heap h1
  have h2 := alloc_heap ((W.alloc (.cells #[.string ⟨#[]⟩, .slice (some ⟨W.heap.size + 1 + 1, 0, none⟩) 1 1, .slice none 0 0, .slice none 0 0, .slice none 0 0, .slice none 0 0, .slice (some ⟨W.heap.size + 1 + 1 + 1 + 1 + 1 + 1, 0, none⟩) 2 2, .slice none 0 0, .slice none 0 0] 31)).alloc (.cells #[.string ⟨#[97]⟩, .int .i64 8] 84)) (.cells #[.string ⟨#[104]⟩, .slice (some ⟨W.heap.size + 1, 0, none⟩) 1 1] 72)
  rw [World.size_alloc, World.size_alloc] at h2
  have k2 := (((((Ext.refl _).alloc (.cells #[.string ⟨#[]⟩, .slice (some ⟨W.heap.size + 1 + 1, 0, none⟩) 1 1, .slice none 0 0, .slice none 0 0, .slice none 0 0, .slice none 0 0, .slice (some ⟨W.heap.size + 1 + 1 + 1 + 1 + 1 + 1, 0, none⟩) 2 2, .slice none 0 0, .slice none 0 0] 31)).alloc (.cells #[.int .i64 0] 3)).alloc (.cells #[.int .u32 1, .int .u32 255, .int .i64 1] 115)).alloc (.cells #[.string ⟨#[115]⟩, .slice (some ⟨W.heap.size + 1 + 1 + 1 + 1, 0, none⟩) 1 1, .bool true, .int .i64 0, .int .i64 0, .slice (some ⟨W.heap.size + 1 + 1 + 1 + 1 + 1, 0, none⟩) 1 1, .int .i64 (-2), .string ⟨#[116]⟩, .slice none 0 0, .bool false, .int .i64 0, .int .i64 0, .slice none 0 0, .int .i64 (-1)] 61)).heap h2
  have h4 := alloc_heap ((((W.alloc (.cells #[.string ⟨#[]⟩, .slice (some ⟨W.heap.size + 1 + 1, 0, none⟩) 1 1, .slice none 0 0, .slice none 0 0, .slice none 0 0, .slice none 0 0, .slice (some ⟨W.heap.size + 1 + 1 + 1 + 1 + 1 + 1, 0, none⟩) 2 2, .slice none 0 0, .slice none 0 0] 31)).alloc (.cells #[.string ⟨#[97]⟩, .int .i64 8] 84)).alloc (.cells #[.string ⟨#[104]⟩, .slice (some ⟨W.heap.size + 1, 0, none⟩) 1 1] 72)).alloc (.cells #[.string ⟨#[]⟩, .slice (some ⟨W.heap.size + 1 + 1, 0, none⟩) 1 1, .slice none 0 0, .slice none 0 0, .slice none 0 0, .slice none 0 0, .slice (some ⟨W.heap.size + 1 + 1 + 1 + 1 + 1 + 1, 0, none⟩) 2 2, .slice none 0 0, .slice none 0 0] 31)) (.cells #[.int .i64 0] 3)
  rw [World.size_alloc, World.size_alloc, World.size_alloc, World.size_alloc] at h4
  have k4 := (((Ext.refl _).alloc (.cells #[.int .u32 1, .int .u32 255, .int .i64 1] 115)).alloc (.cells #[.string ⟨#[115]⟩, .slice (some ⟨W.heap.size + 1 + 1 + 1 + 1, 0, none⟩) 1 1, .bool true, .int .i64 0, .int .i64 0, .slice (some ⟨W.heap.size + 1 + 1 + 1 + 1 + 1, 0, none⟩) 1 1, .int .i64 (-2), .string ⟨#[116]⟩, .slice none 0 0, .bool false, .int .i64 0, .int .i64 0, .slice none 0 0, .int .i64 (-1)] 61)).heap h4
  have h5 := alloc_heap (((((W.alloc (.cells #[.string ⟨#[]⟩, .slice (some ⟨W.heap.size + 1 + 1, 0, none⟩) 1 1, .slice none 0 0, .slice none 0 0, .slice none 0 0, .slice none 0 0, .slice (some ⟨W.heap.size + 1 + 1 + 1 + 1 + 1 + 1, 0, none⟩) 2 2, .slice none 0 0, .slice none 0 0] 31)).alloc (.cells #[.string ⟨#[97]⟩, .int .i64 8] 84)).alloc (.cells #[.string ⟨#[104]⟩, .slice (some ⟨W.heap.size + 1, 0, none⟩) 1 1] 72)).alloc (.cells #[.string ⟨#[]⟩, .slice (some ⟨W.heap.size + 1 + 1, 0, none⟩) 1 1, .slice none 0 0, .slice none 0 0, .slice none 0 0, .slice none 0 0, .slice (some ⟨W.heap.size + 1 + 1 + 1 + 1 + 1 + 1, 0, none⟩) 2 2, .slice none 0 0, .slice none 0 0] 31)).alloc (.cells #[.int .i64 0] 3)) (.cells #[.int .u32 1, .int .u32 255, .int .i64 1] 115)
  rw [World.size_alloc, World.size_alloc, World.size_alloc, World.size_alloc, World.size_alloc] at h5
  have k5 := ((Ext.refl _).alloc (.cells #[.string ⟨#[115]⟩, .slice (some ⟨W.heap.size + 1 + 1 + 1 + 1, 0, none⟩) 1 1, .bool true, .int .i64 0, .int .i64 0, .slice (some ⟨W.heap.size + 1 + 1 + 1 + 1 + 1, 0, none⟩) 1 1, .int .i64 (-2), .string ⟨#[116]⟩, .slice none 0 0, .bool false, .int .i64 0, .int .i64 0, .slice none 0 0, .int .i64 (-1)] 61)).heap h5
  have h6 := alloc_heap ((((((W.alloc (.cells #[.string ⟨#[]⟩, .slice (some ⟨W.heap.size + 1 + 1, 0, none⟩) 1 1, .slice none 0 0, .slice none 0 0, .slice none 0 0, .slice none 0 0, .slice (some ⟨W.heap.size + 1 + 1 + 1 + 1 + 1 + 1, 0, none⟩) 2 2, .slice none 0 0, .slice none 0 0] 31)).alloc (.cells #[.string ⟨#[97]⟩, .int .i64 8] 84)).alloc (.cells #[.string ⟨#[104]⟩, .slice (some ⟨W.heap.size + 1, 0, none⟩) 1 1] 72)).alloc (.cells #[.string ⟨#[]⟩, .slice (some ⟨W.heap.size + 1 + 1, 0, none⟩) 1 1, .slice none 0 0, .slice none 0 0, .slice none 0 0, .slice none 0 0, .slice (some ⟨W.heap.size + 1 + 1 + 1 + 1 + 1 + 1, 0, none⟩) 2 2, .slice none 0 0, .slice none 0 0] 31)).alloc (.cells #[.int .i64 0] 3)).alloc (.cells #[.int .u32 1, .int .u32 255, .int .i64 1] 115)) (.cells #[.string ⟨#[115]⟩, .slice (some ⟨W.heap.size + 1 + 1 + 1 + 1, 0, none⟩) 1 1, .bool true, .int .i64 0, .int .i64 0, .slice (some ⟨W.heap.size + 1 + 1 + 1 + 1 + 1, 0, none⟩) 1 1, .int .i64 (-2), .string ⟨#[116]⟩, .slice none 0 0, .bool false, .int .i64 0, .int .i64 0, .slice none 0 0, .int .i64 (-1)] 61)
  rw [World.size_alloc, World.size_alloc, World.size_alloc, World.size_alloc, World.size_alloc, World.size_alloc] at h6
  have k6 := (Ext.refl _).heap h6
  have r1 : Hd.Flds (((((((W.alloc (.cells #[.string ⟨#[]⟩, .slice (some ⟨W.heap.size + 1 + 1, 0, none⟩) 1 1, .slice none 0 0, .slice none 0 0, .slice none 0 0, .slice none 0 0, .slice (some ⟨W.heap.size + 1 + 1 + 1 + 1 + 1 + 1, 0, none⟩) 2 2, .slice none 0 0, .slice none 0 0] 31)).alloc (.cells #[.string ⟨#[97]⟩, .int .i64 8] 84)).alloc (.cells #[.string ⟨#[104]⟩, .slice (some ⟨W.heap.size + 1, 0, none⟩) 1 1] 72)).alloc (.cells #[.string ⟨#[]⟩, .slice (some ⟨W.heap.size + 1 + 1, 0, none⟩) 1 1, .slice none 0 0, .slice none 0 0, .slice none 0 0, .slice none 0 0, .slice (some ⟨W.heap.size + 1 + 1 + 1 + 1 + 1 + 1, 0, none⟩) 2 2, .slice none 0 0, .slice none 0 0] 31)).alloc (.cells #[.int .i64 0] 3)).alloc (.cells #[.int .u32 1, .int .u32 255, .int .i64 1] 115)).alloc (.cells #[.string ⟨#[115]⟩, .slice (some ⟨W.heap.size + 1 + 1 + 1 + 1, 0, none⟩) 1 1, .bool true, .int .i64 0, .int .i64 0, .slice (some ⟨W.heap.size + 1 + 1 + 1 + 1 + 1, 0, none⟩) 1 1, .int .i64 (-2), .string ⟨#[116]⟩, .slice none 0 0, .bool false, .int .i64 0, .int .i64 0, .slice none 0 0, .int .i64 (-1)] 61)) (.slice (some ⟨W.heap.size + 1, 0, none⟩) 1 1) [(⟨#[97]⟩, 8)] := rows_one [.string ⟨#[97]⟩, .int .i64 8] rfl ⟨rfl, by decide, by decide, by decide⟩ k1
  have r4 : Ns .i64 (((((((W.alloc (.cells #[.string ⟨#[]⟩, .slice (some ⟨W.heap.size + 1 + 1, 0, none⟩) 1 1, .slice none 0 0, .slice none 0 0, .slice none 0 0, .slice none 0 0, .slice (some ⟨W.heap.size + 1 + 1 + 1 + 1 + 1 + 1, 0, none⟩) 2 2, .slice none 0 0, .slice none 0 0] 31)).alloc (.cells #[.string ⟨#[97]⟩, .int .i64 8] 84)).alloc (.cells #[.string ⟨#[104]⟩, .slice (some ⟨W.heap.size + 1, 0, none⟩) 1 1] 72)).alloc (.cells #[.string ⟨#[]⟩, .slice (some ⟨W.heap.size + 1 + 1, 0, none⟩) 1 1, .slice none 0 0, .slice none 0 0, .slice none 0 0, .slice none 0 0, .slice (some ⟨W.heap.size + 1 + 1 + 1 + 1 + 1 + 1, 0, none⟩) 2 2, .slice none 0 0, .slice none 0 0] 31)).alloc (.cells #[.int .i64 0] 3)).alloc (.cells #[.int .u32 1, .int .u32 255, .int .i64 1] 115)).alloc (.cells #[.string ⟨#[115]⟩, .slice (some ⟨W.heap.size + 1 + 1 + 1 + 1, 0, none⟩) 1 1, .bool true, .int .i64 0, .int .i64 0, .slice (some ⟨W.heap.size + 1 + 1 + 1 + 1 + 1, 0, none⟩) 1 1, .int .i64 (-2), .string ⟨#[116]⟩, .slice none 0 0, .bool false, .int .i64 0, .int .i64 0, .slice none 0 0, .int .i64 (-1)] 61)) (.slice (some ⟨W.heap.size + 1 + 1 + 1 + 1, 0, none⟩) 1 1) [0] := ⟨src_box k4 rfl, by decide⟩
  have r5 : Ps.Cases (((((((W.alloc (.cells #[.string ⟨#[]⟩, .slice (some ⟨W.heap.size + 1 + 1, 0, none⟩) 1 1, .slice none 0 0, .slice none 0 0, .slice none 0 0, .slice none 0 0, .slice (some ⟨W.heap.size + 1 + 1 + 1 + 1 + 1 + 1, 0, none⟩) 2 2, .slice none 0 0, .slice none 0 0] 31)).alloc (.cells #[.string ⟨#[97]⟩, .int .i64 8] 84)).alloc (.cells #[.string ⟨#[104]⟩, .slice (some ⟨W.heap.size + 1, 0, none⟩) 1 1] 72)).alloc (.cells #[.string ⟨#[]⟩, .slice (some ⟨W.heap.size + 1 + 1, 0, none⟩) 1 1, .slice none 0 0, .slice none 0 0, .slice none 0 0, .slice none 0 0, .slice (some ⟨W.heap.size + 1 + 1 + 1 + 1 + 1 + 1, 0, none⟩) 2 2, .slice none 0 0, .slice none 0 0] 31)).alloc (.cells #[.int .i64 0] 3)).alloc (.cells #[.int .u32 1, .int .u32 255, .int .i64 1] 115)).alloc (.cells #[.string ⟨#[115]⟩, .slice (some ⟨W.heap.size + 1 + 1 + 1 + 1, 0, none⟩) 1 1, .bool true, .int .i64 0, .int .i64 0, .slice (some ⟨W.heap.size + 1 + 1 + 1 + 1 + 1, 0, none⟩) 1 1, .int .i64 (-2), .string ⟨#[116]⟩, .slice none 0 0, .bool false, .int .i64 0, .int .i64 0, .slice none 0 0, .int .i64 (-1)] 61)) (.slice (some ⟨W.heap.size + 1 + 1 + 1 + 1 + 1, 0, none⟩) 1 1) [⟨1, 255, 1⟩] := rows_one [.int .u32 1, .int .u32 255, .int .i64 1] rfl ⟨rfl, ⟨by decide, by decide⟩, ⟨by decide, by decide⟩⟩ k5
  have r6 : Rows (((((((W.alloc (.cells #[.string ⟨#[]⟩, .slice (some ⟨W.heap.size + 1 + 1, 0, none⟩) 1 1, .slice none 0 0, .slice none 0 0, .slice none 0 0, .slice none 0 0, .slice (some ⟨W.heap.size + 1 + 1 + 1 + 1 + 1 + 1, 0, none⟩) 2 2, .slice none 0 0, .slice none 0 0] 31)).alloc (.cells #[.string ⟨#[97]⟩, .int .i64 8] 84)).alloc (.cells #[.string ⟨#[104]⟩, .slice (some ⟨W.heap.size + 1, 0, none⟩) 1 1] 72)).alloc (.cells #[.string ⟨#[]⟩, .slice (some ⟨W.heap.size + 1 + 1, 0, none⟩) 1 1, .slice none 0 0, .slice none 0 0, .slice none 0 0, .slice none 0 0, .slice (some ⟨W.heap.size + 1 + 1 + 1 + 1 + 1 + 1, 0, none⟩) 2 2, .slice none 0 0, .slice none 0 0] 31)).alloc (.cells #[.int .i64 0] 3)).alloc (.cells #[.int .u32 1, .int .u32 255, .int .i64 1] 115)).alloc (.cells #[.string ⟨#[115]⟩, .slice (some ⟨W.heap.size + 1 + 1 + 1 + 1, 0, none⟩) 1 1, .bool true, .int .i64 0, .int .i64 0, .slice (some ⟨W.heap.size + 1 + 1 + 1 + 1 + 1, 0, none⟩) 1 1, .int .i64 (-2), .string ⟨#[116]⟩, .slice none 0 0, .bool false, .int .i64 0, .int .i64 0, .slice none 0 0, .int .i64 (-1)] 61)) 7 Ps.StR (.slice (some ⟨W.heap.size + 1 + 1 + 1 + 1 + 1 + 1, 0, none⟩) 2 2) Ps.ss0 := rows_two [.string ⟨#[115]⟩, .slice (some ⟨W.heap.size + 1 + 1 + 1 + 1, 0, none⟩) 1 1, .bool true, .int .i64 0, .int .i64 0, .slice (some ⟨W.heap.size + 1 + 1 + 1 + 1 + 1, 0, none⟩) 1 1, .int .i64 (-2)] [.string ⟨#[116]⟩, .slice none 0 0, .bool false, .int .i64 0, .int .i64 0, .slice none 0 0, .int .i64 (-1)] rfl rfl ⟨_, _, rfl, by decide, r4, r5⟩ ⟨_, _, rfl, by decide, ⟨⟨rfl, by simp, .inl ⟨rfl, rfl⟩⟩, Nat.zero_le _⟩, .inl ⟨rfl, rfl⟩⟩ k6
  exact ⟨⟨⟨_, rfl⟩, rows_one [.string ⟨#[104]⟩, .slice (some ⟨W.heap.size + 1, 0, none⟩) 1 1] rfl ⟨_, rfl, by decide, r1⟩ k2, .inl ⟨rfl, rfl⟩, ⟨_, _, _, rfl⟩, ⟨_, _, _, rfl⟩, ⟨_, _, _, rfl⟩, ⟨_, _, _, rfl⟩, ⟨_, _, _, rfl⟩, ⟨⟨rfl, by simp [Ps.p0], .inl ⟨rfl, rfl⟩⟩, Nat.zero_le _⟩⟩, r6⟩
theorem src_lit (w : World) (t : TypeId) (xs : List Value) (h1 : ∀ u ∈ xs, u.oneCell' = true) : Src (w.alloc (.cells xs.toArray t)) (.slice (some ⟨w.heap.size, 0, none⟩) xs.length xs.length) 1 xs.length xs := by
  refine ⟨by simp, h1, .inr ⟨_, _, rfl, fun j u hj => ?_⟩⟩
  rw [add_mk, cell_of (alloc_heap w _), List.getElem?_toArray, Nat.zero_add]; exact hj
set_option maxRecDepth 8000 in
set_option maxHeartbeats 4000000 in
theorem pworks_any (W : World) : Calls Try.prog 22 #[] W (Rets W (.bool true)) := by
  go_enter Try.func22, Try.ntmps22
  go_wp2_with fail
  refine (pexample_any _).mono ?_
  rintro e w1 ⟨p, rfl, x1, hq⟩
  have s1 := Step.mk x1
  obtain ⟨s, a1, a2, a3, a4, a5, a6, a7, a8, m1, m2, n3, m3, n4, m4, n5, m5, n6, m6, n7, m7, m8, hf⟩ := hq.1.form
  obtain ⟨rfl, hhs, hmd, _, hl1, hl2, _⟩ := hf
  have hss := hq.2
  dsimp only at hss
  obtain ⟨a6', m6', e6, hl6, hc6⟩ := hss.slice
  simp only [Value.slice.injEq] at e6
  obtain ⟨rfl, rfl, rfl⟩ := e6
  unfold maxLen at hc6
  have HP1 : Hid (∀ w, Ext w1 w → ∀ (da : Option Addr) (dc : Nat), Src w (.slice da 2 dc) 1 2 (u8s [1, 9]) → Calls Try.prog 25 #[.agg #[.string s, .slice a1 Ps.p0.hs.length m1, .slice a2 Ps.p0.md.length m2, .slice a3 n3 m3, .slice a4 n4 m4, .slice a5 n5 m5, .slice a6 Ps.ss0.length m6, .slice a7 n7 m7, .slice a8 Ps.p0.dp.length m8], .slice da 2 dc] w (ParseP w (Ps.e9, [0, 1], 0))) := Lib.hid (fun w hx da dc hs => by have h := pparse_any (hq.ext hx) Ps.c_p0 (l := [1, 9]) hs (by intro b hb; simp at hb; omega) (by decide); rw [Ps.w_19] at h; exact h)
  have HP2 : Hid (∀ w, Ext w1 w → ∀ (da : Option Addr) (dc : Nat), Src w (.slice da 1 dc) 1 1 (u8s [2]) → Calls Try.prog 25 #[.agg #[.string s, .slice a1 Ps.p0.hs.length m1, .slice a2 Ps.p0.md.length m2, .slice a3 n3 m3, .slice a4 n4 m4, .slice a5 n5 m5, .slice a6 Ps.ss0.length m6, .slice a7 n7 m7, .slice a8 Ps.p0.dp.length m8], .slice da 1 dc] w (ParseP w (Ps.en, [0], 15))) := Lib.hid (fun w hx da dc hs => by have h := pparse_any (hq.ext hx) Ps.c_p0 (l := [2]) hs (by intro b hb; simp at hb; omega) (by decide); rw [Ps.w_2] at h; exact h)
  have HP3 : Hid (∀ w, Ext w1 w → ∀ (da : Option Addr) (dc : Nat), Src w (.slice da 0 dc) 1 0 (u8s []) → Calls Try.prog 25 #[.agg #[.string s, .slice a1 Ps.p0.hs.length m1, .slice a2 Ps.p0.md.length m2, .slice a3 n3 m3, .slice a4 n4 m4, .slice a5 n5 m5, .slice a6 Ps.ss0.length m6, .slice a7 n7 m7, .slice a8 Ps.p0.dp.length m8], .slice da 0 dc] w (ParseP w (Ps.en, [0], 3))) := Lib.hid (fun w hx da dc hs => by have h := pparse_any (hq.ext hx) Ps.c_p0 (l := []) hs (by exact by simp [Io.Bytes]) (by decide); rw [Ps.w_0] at h; exact h)
  have HST : Hid (∀ w, Ext w1 w → ∀ (da : Option Addr) (dc : Nat), Src w (.slice da 2 dc) 1 2 (u8s [1, 9]) → Calls Try.prog 29 #[.agg #[.string s, .slice a1 Ps.p0.hs.length m1, .slice a2 Ps.p0.md.length m2, .slice a3 n3 m3, .slice a4 n4 m4, .slice a5 n5 m5, .slice a6 Ps.ss0.length m6, .slice a7 n7 m7, .slice a8 Ps.p0.dp.length m8], .slice da 2 dc] w (StatesP w (Ps.e9, [0, 1], 0))) := Lib.hid (fun w hx da dc hs => by have h := pstates_any (hq.ext hx) Ps.c_p0 (l := [1, 9]) hs (by intro b hb; simp at hb; omega) (by decide); rw [Ps.w_19] at h; exact h)
  have HCK : Hid (∀ w, Ext w1 w → Calls Try.prog 23 #[.agg #[.string s, .slice a1 Ps.p0.hs.length m1, .slice a2 Ps.p0.md.length m2, .slice a3 n3 m3, .slice a4 n4 m4, .slice a5 n5 m5, .slice a6 Ps.ss0.length m6, .slice a7 n7 m7, .slice a8 Ps.p0.dp.length m8]] w (Rets w (.tuple #[.int .i64 0, .int .i64 0, .int .i64 0]))) := Lib.hid (fun w hx => by have h := pcheck_any (hq.ext hx); rw [Ps.w_chk] at h; exact h)
  have HCZ : Hid (∀ w, Calls Try.prog 23 #[.agg #[.string ⟨#[]⟩, .slice none 0 0, .slice none 0 0, .slice none 0 0, .slice none 0 0, .slice none 0 0, .slice none 0 0, .slice none 0 0, .slice none 0 0]] w (Rets w (.tuple #[.int .i64 (-1), .int .i64 (-1), .int .i64 8]))) := Lib.hid (fun w => by
    have hz : Ps.IsQ w ⟨.string ⟨#[]⟩, .slice none 0 0, .slice none 0 0, .slice none 0 0, .slice none 0 0, .slice none 0 0, .slice none 0 0, .slice none 0 0, .slice none 0 0⟩ Ps.pz [] := ⟨⟨⟨_, rfl⟩, .inl ⟨rfl, rfl⟩, .inl ⟨rfl, rfl⟩, ⟨_, _, _, rfl⟩, ⟨_, _, _, rfl⟩, ⟨_, _, _, rfl⟩, ⟨_, _, _, rfl⟩, ⟨_, _, _, rfl⟩, ⟨⟨rfl, by simp [Ps.pz], .inl ⟨rfl, rfl⟩⟩, Nat.zero_le _⟩⟩, .inl ⟨rfl, rfl⟩⟩
    have h := pcheck_any hz; rw [Ps.w_chk0] at h; exact h)
  have HEQ : Hid (∀ w (u v : Pg.EV), Pg.IsE w u Ps.e9 → Pg.IsE w v Ps.e9 → Calls Try.prog 27 #[u.val, v.val] w (Rets w (.bool true))) := Lib.hid (fun w u v hu hv => by have h := refeequal_any hu hv; rw [Ps.w_e] at h; exact h)
  have HEI : Hid (∀ w (u v : Value), Ns .i64 w u [0, 1] → Ns .i64 w v [0, 1] → Calls Try.prog 28 #[u, v] w (Rets w (.bool true))) := Lib.hid (fun w u v hu hv => by have h := eqints_any hu hv; rw [decide_eq_true rfl] at h; exact h)
  have bx := alloc_heap w1 (.cells #[.string s, .slice a1 Ps.p0.hs.length m1, .slice a2 Ps.p0.md.length m2, .slice a3 n3 m3, .slice a4 n4 m4, .slice a5 n5 m5, .slice a6 Ps.ss0.length m6, .slice a7 n7 m7, .slice a8 Ps.p0.dp.length m8] 31)
  have pc0 := alw (cell_of (o := 0) bx)
  have pc1 := alw (cell_of (o := 1) bx)
  have pc2 := alw (cell_of (o := 2) bx)
  have pc3 := alw (cell_of (o := 3) bx)
  have pc4 := alw (cell_of (o := 4) bx)
  have pc5 := alw (cell_of (o := 5) bx)
  have pc6 := alw (cell_of (o := 6) bx)
  have pc7 := alw (cell_of (o := 7) bx)
  have pc8 := alw (cell_of (o := 8) bx)
  clear bx hq hhs hmd hss x1
  dsimp only [Pg.PV.val]
  go_wp2_with fail
  have S2 : Hid (Src ((w1.alloc (.cells #[.string s, .slice a1 Ps.p0.hs.length m1, .slice a2 Ps.p0.md.length m2, .slice a3 n3 m3, .slice a4 n4 m4, .slice a5 n5 m5, .slice a6 Ps.ss0.length m6, .slice a7 n7 m7, .slice a8 Ps.p0.dp.length m8] 31)).alloc (.cells #[.int .u8 1, .int .u8 9] 5)) (.slice (some ⟨w1.heap.size + 1, 0, none⟩) 2 2) 1 2 (u8s [1, 9])) := Lib.hid (by have h := src_lit (w1.alloc (.cells #[.string s, .slice a1 Ps.p0.hs.length m1, .slice a2 Ps.p0.md.length m2, .slice a3 n3 m3, .slice a4 n4 m4, .slice a5 n5 m5, .slice a6 Ps.ss0.length m6, .slice a7 n7 m7, .slice a8 Ps.p0.dp.length m8] 31)) 5 [.int .u8 1, .int .u8 9] (by simp [Value.oneCell']); rw [World.size_alloc] at h; exact h)
  refine (HP1.out _ grows _ _ S2.out).mono ?_
  rintro e w2 ⟨ev2, vs2, rfl, x2, o2⟩
  dsimp only at o2
  have I2 := Lib.hid o2.isE
  obtain ⟨y20, y21, y22, y23, z20, z21, z22, z23, hg⟩ := o2.isE.form
  obtain ⟨rfl, _, _, _, _, _, _, _, _⟩ := hg
  dsimp only [Pg.EV.val]
  have s2 := Step.mk x2
  have be := alloc_heap w2 (.cells #[.slice y20 Ps.e9.va.length z20, .slice y21 Ps.e9.fi.length z21, .slice y22 Ps.e9.me.length z22, .slice y23 Ps.e9.pl.length z23] 37)
  have qc20 := alw (cell_of (o := 0) be)
  have qc21 := alw (cell_of (o := 1) be)
  have qc22 := alw (cell_of (o := 2) be)
  have qc23 := alw (cell_of (o := 3) be)
  clear be x2 o2
  go_wp2_with fail
  have S3 : Hid (Src ((w2.alloc (.cells #[.slice y20 Ps.e9.va.length z20, .slice y21 Ps.e9.fi.length z21, .slice y22 Ps.e9.me.length z22, .slice y23 Ps.e9.pl.length z23] 37)).alloc (.cells #[.int .u8 2] 5)) (.slice (some ⟨w2.heap.size + 1, 0, none⟩) 1 1) 1 1 (u8s [2])) := Lib.hid (by have h := src_lit (w2.alloc (.cells #[.slice y20 Ps.e9.va.length z20, .slice y21 Ps.e9.fi.length z21, .slice y22 Ps.e9.me.length z22, .slice y23 Ps.e9.pl.length z23] 37)) 5 [.int .u8 2] (by simp [Value.oneCell']); rw [World.size_alloc] at h; exact h)
  refine (HP2.out _ grows _ _ S3.out).mono ?_
  rintro e w3 ⟨ev3, vs3, rfl, x3, o3⟩
  dsimp only at o3
  have I3 := Lib.hid o3.isE
  obtain ⟨y30, y31, y32, y33, z30, z31, z32, z33, hg⟩ := o3.isE.form
  obtain ⟨rfl, _, _, _, _, _, _, _, _⟩ := hg
  dsimp only [Pg.EV.val]
  have s3 := Step.mk x3
  have be := alloc_heap w3 (.cells #[.slice y30 Ps.en.va.length z30, .slice y31 Ps.en.fi.length z31, .slice y32 Ps.en.me.length z32, .slice y33 Ps.en.pl.length z33] 37)
  have qc30 := alw (cell_of (o := 0) be)
  have qc31 := alw (cell_of (o := 1) be)
  have qc32 := alw (cell_of (o := 2) be)
  have qc33 := alw (cell_of (o := 3) be)
  clear be x3 o3
  go_wp2_with fail
  refine (HP3.out _ grows _ _ ⟨rfl, (by simp [u8s]), .inl ⟨rfl, rfl⟩⟩).mono ?_
  rintro e w4 ⟨ev4, vs4, rfl, x4, o4⟩
  dsimp only at o4
  have I4 := Lib.hid o4.isE
  obtain ⟨y40, y41, y42, y43, z40, z41, z42, z43, hg⟩ := o4.isE.form
  obtain ⟨rfl, _, _, _, _, _, _, _, _⟩ := hg
  dsimp only [Pg.EV.val]
  have s4 := Step.mk x4
  have be := alloc_heap w4 (.cells #[.slice y40 Ps.en.va.length z40, .slice y41 Ps.en.fi.length z41, .slice y42 Ps.en.me.length z42, .slice y43 Ps.en.pl.length z43] 37)
  have qc40 := alw (cell_of (o := 0) be)
  have qc41 := alw (cell_of (o := 1) be)
  have qc42 := alw (cell_of (o := 2) be)
  have qc43 := alw (cell_of (o := 3) be)
  clear be x4 o4
  go_wp2_with fail
  refine (HCK.out _ grows).mono ?_
  rintro e w5 ⟨rfl, x5⟩
  have s5 := Step.mk x5
  clear x5
  go_wp2_with fail
  refine (HCZ.out _).mono ?_
  rintro e w9 ⟨rfl, x9⟩
  have s9 := Step.mk x9
  clear x9
  go_wp2_with fail
  have h0 := alloc_heap w9 (.cells #[.bool true] 4)
  have k0 := ((((Ext.refl _).alloc (.cells #[.int .u32 1] 64)).alloc (.cells #[.slice (some ⟨w9.heap.size + 1, 0, none⟩) 1 1] 34)).alloc (.cells #[.int .u8 9] 5)).heap h0
  have h1 := alloc_heap (w9.alloc (.cells #[.bool true] 4)) (.cells #[.int .u32 1] 64)
  rw [World.size_alloc] at h1
  have k1 := (((Ext.refl _).alloc (.cells #[.slice (some ⟨w9.heap.size + 1, 0, none⟩) 1 1] 34)).alloc (.cells #[.int .u8 9] 5)).heap h1
  have h2 := alloc_heap ((w9.alloc (.cells #[.bool true] 4)).alloc (.cells #[.int .u32 1] 64)) (.cells #[.slice (some ⟨w9.heap.size + 1, 0, none⟩) 1 1] 34)
  rw [World.size_alloc, World.size_alloc] at h2
  have k2 := ((Ext.refl _).alloc (.cells #[.int .u8 9] 5)).heap h2
  have h3 := alloc_heap (((w9.alloc (.cells #[.bool true] 4)).alloc (.cells #[.int .u32 1] 64)).alloc (.cells #[.slice (some ⟨w9.heap.size + 1, 0, none⟩) 1 1] 34)) (.cells #[.int .u8 9] 5)
  rw [World.size_alloc, World.size_alloc, World.size_alloc] at h3
  have k3 := (Ext.refl _).heap h3
  have IL : Pg.IsE ((((w9.alloc (.cells #[.bool true] 4)).alloc (.cells #[.int .u32 1] 64)).alloc (.cells #[.slice (some ⟨w9.heap.size + 1, 0, none⟩) 1 1] 34)).alloc (.cells #[.int .u8 9] 5)) ⟨.slice (some ⟨w9.heap.size, 0, none⟩) 1 1, .slice (some ⟨w9.heap.size + 1 + 1, 0, none⟩) 1 1, .slice none 0 0, .slice (some ⟨w9.heap.size + 1 + 1 + 1, 0, none⟩) 1 1⟩ Ps.e9 := ⟨⟨src_box k0 rfl, by decide⟩, rows_one [.slice (some ⟨w9.heap.size + 1, 0, none⟩) 1 1] rfl ⟨_, rfl, ⟨src_box k1 rfl, by decide⟩, by intro x hx; simp at hx; subst hx; exact ⟨by decide, by decide⟩⟩ k2, ⟨⟨⟨rfl, by simp [Ps.e9], .inl ⟨rfl, rfl⟩⟩, Nat.zero_le _⟩, by simp [Ps.e9]⟩, ⟨⟨src_box k3 rfl, by decide⟩, by intro b hb; simp [Ps.e9] at hb; omega⟩⟩
  refine (HEQ.out _ ⟨.slice y20 Ps.e9.va.length z20, .slice y21 Ps.e9.fi.length z21, .slice y22 Ps.e9.me.length z22, .slice y23 Ps.e9.pl.length z23⟩ ⟨.slice (some ⟨w9.heap.size, 0, none⟩) 1 1, .slice (some ⟨w9.heap.size + 1 + 1, 0, none⟩) 1 1, .slice none 0 0, .slice (some ⟨w9.heap.size + 1 + 1 + 1, 0, none⟩) 1 1⟩ (I2.out.ext grows) IL).mono ?_
  rintro e w10 ⟨rfl, x10⟩
  have s10 := Step.mk x10
  clear x10 IL h0 h1 h2 h3 k0 k1 k2 k3
  go_wp2_with fail
  have S10 : Hid (Src (w10.alloc (.cells #[.int .u8 1, .int .u8 9] 5)) (.slice (some ⟨w10.heap.size, 0, none⟩) 2 2) 1 2 (u8s [1, 9])) := Lib.hid (by have h := src_lit w10 5 [.int .u8 1, .int .u8 9] (by simp [Value.oneCell']); exact h)
  refine (HST.out _ grows _ _ S10.out).mono ?_
  rintro e w11 ⟨sv, rfl, x11, o11⟩
  dsimp only at o11
  obtain ⟨oas, csv, rfl⟩ := own_slice o11
  have s11 := Step.mk x11
  have N11 : Hid (Ns .i64 w11 (.slice oas 2 csv) [0, 1]) := Lib.hid ⟨own_src o11 (i64s_one _), by decide⟩
  clear x11 o11
  go_wp2_with fail
  have S11 : Hid (Src (w11.alloc (.cells #[.int .i64 0, .int .i64 1] 3)) (.slice (some ⟨w11.heap.size, 0, none⟩) 2 2) 1 2 (i64s [0, 1])) := Lib.hid (by have h := src_lit w11 3 [.int .i64 0, .int .i64 1] (by simp [Value.oneCell']); exact h)
  refine (HEI.out _ _ _ (N11.out.ext grows) ⟨S11.out, by decide⟩).mono ?_
  rintro e w12 ⟨rfl, x12⟩
  have s12 := Step.mk x12
  clear x12
  go_wp2_with fail
  go_ret
  exact ⟨rfl, grows⟩
end Go.Proofs.Ytonnlcjkgpahoaa
