/- Parsers: the headers of a state read, walked (the reference). No condition. -/
import Derived.Test.YtonnlcjkgpahoaaPqG
import Derived.Test.YtonnlcjkgpahoaaPqE
import Derived.Test.YtonnlcjkgpahoaaHd7
import Derived.Test.YtonnlcjkgpahoaaPqD
namespace Go.Proofs.Ytonnlcjkgpahoaa
open Go.RowKit

theorem OwnE.putH2 {B C : Nat} {w : World} {e : Pg.EV} {vs : List Value} {E : Pg.Env} (h : OwnE C w e vs E) (hB : B ≤ C) {g n c G m d i j k q : Nat} {l : List Int} (e0 : e.c0 = .slice (some ⟨g, 0, none⟩) n c) (e1 : e.c1 = .slice (some ⟨G, 0, none⟩) m d)
    (hi : i < E.fi.length) (hu : w.ownsRow B 64 1 (.slice (some ⟨q, 0, none⟩) j k) l.length (l.map (.int .u32))) (hq : q < C) (hU : ∀ x ∈ l, U32 x) :
    OwnE B ((w.setCell ⟨g, i, none⟩ (.bool true)).setCell ⟨G, i, none⟩ (.slice (some ⟨q, 0, none⟩) j k)) e (vs.set i (.slice (some ⟨q, 0, none⟩) j k)) (Ps.setH E i l) := by
  have ho := own_setNe (p := ⟨g, i, none⟩) hu (own_apart h.va hu (by decide) (by rw [e0]; rfl)) (.bool true)
  refine OwnE.setRow ((h.base hB).setVa e0 i true) e1 hi ho hU (fun a u hu e2 => ?_) (fun e2 => by have h1 : C ≤ q := own_ge h.me e2; omega)
  obtain ⟨r, hr⟩ : ∃ r, E.fi[a]? = some r := ⟨_, List.getElem?_eq_getElem (by rw [← h.fi.1]; exact (List.getElem?_eq_some_iff.1 hu).1)⟩
  have h1 : C ≤ q := own_ge (h.fi.2.2.1 a u r hu hr).1 e2
  omega
set_option maxRecDepth 8000 in
set_option maxHeartbeats 8000000 in
theorem rextract_any {W : World} {p : Pg.PV} {P : Pg.Prog} {ss : List Ps.St} (hq : Ps.IsQ W p P ss) (hcp : En.CapP P) (x : Ps.St) {ea ca : Option Addr} {ec cc : Nat} (hex : Ns .i64 W (.slice ea x.ex.length ec) x.ex) (hxl : x.ex.length ≤ 4) (hin : ∀ (j : Nat) (h : Int), x.ex[j]? = some h → 0 ≤ h ∧ h < P.hs.length) {B0 : Nat} {e : Pg.EV} {vs : List Value} {E : Pg.Env} (he : OwnE B0 W e vs E) (hB0 : B0 ≤ W.heap.size) (hsh : Ps.Shp P E)
    {base pos xc : Nat} {xa : Option Addr} {l : List Int} (hor : W.ownsRow base 5 1 (.slice xa l.length xc) l.length (u8s l)) (hby : Io.Bytes l) (hl : l.length ≤ 140737488355328) (hp : pos ≤ 8 * l.length) :
    Calls Try.prog 88 #[p.val, .agg #[.string x.nm, .slice ea x.ex.length ec, .bool x.sel, .int .i64 x.h, .int .i64 x.f, .slice ca x.cs.length cc, .int .i64 x.df], e.val, .agg #[.slice xa l.length xc, .int .i64 pos]] W fun u w' => ∃ e' : Pg.EV, u = .returned (.tuple #[e'.val, .agg #[.slice xa l.length xc, .int .i64 ((Ps.exAll P l x.ex E pos).2.2 : Nat)], .int .i64 (Ps.exAll P l x.ex E pos).1]) ∧ Ext W w' ∧ ∃ vs', OwnE B0 w' e' vs' (Ps.exAll P l x.ex E pos).2.1 := by
  obtain ⟨s, a1, a2, a3, a4, a5, a6, a7, a8, m1, m2, n3, m3, n4, m4, n5, m5, n6, m6, n7, m7, m8, hf⟩ := hq.1.form
  obtain ⟨rfl, hhs, hmd, _, hl1, hl2, _⟩ := hf
  have hss := hq.2
  dsimp only at hss
  obtain ⟨a6', m6', e6, hl6, hc6⟩ := hss.slice
  simp only [Value.slice.injEq] at e6
  obtain ⟨rfl, rfl, rfl⟩ := e6
  unfold maxLen at hc6
  obtain ⟨b0, b1, b2, b3, d0, d1, d2, d3, hg⟩ := he.isE.form
  obtain ⟨rfl, _, _, _, _, _, _, _, _⟩ := hg
  have hexm := hex.2
  unfold maxLen at hexm
  have HSH := Lib.hid hsh
  have HCP := Lib.hid hcp
  have HHS := Lib.hid hhs
  have HEX := Lib.hid hex
  have HIN := Lib.hid hin
  have HOR := Lib.hid hor
  have HBY := Lib.hid hby
  obtain ⟨We, hWe⟩ : ∃ z, z = ((((((W.alloc (.cells #[.string s, .slice a1 P.hs.length m1, .slice a2 P.md.length m2, .slice a3 n3 m3, .slice a4 n4 m4, .slice a5 n5 m5, .slice a6 ss.length m6, .slice a7 n7 m7, .slice a8 P.dp.length m8] 31)).alloc (.cells #[.string x.nm, .slice ea x.ex.length ec, .bool x.sel, .int .i64 x.h, .int .i64 x.f, .slice ca x.cs.length cc, .int .i64 x.df] 61)).alloc (.cells #[.slice b0 E.va.length d0, .slice b1 E.fi.length d1, .slice b2 E.me.length d2, .slice b3 E.pl.length d3] 37)).alloc (.cells #[.slice xa l.length xc, .int .i64 pos] 124)).alloc (.cells #[.slice none 0 0, .slice none 0 0, .slice none 0 0, .slice none 0 0] 37)).alloc (.cells #[.slice none 0 0, .int .i64 0] 124)) := ⟨_, rfl⟩
  have hB0 : We.heap[W.heap.size]? = some (.cells #[.string s, .slice a1 P.hs.length m1, .slice a2 P.md.length m2, .slice a3 n3 m3, .slice a4 n4 m4, .slice a5 n5 m5, .slice a6 ss.length m6, .slice a7 n7 m7, .slice a8 P.dp.length m8] 31 (0, 0)) := by
    have h := alloc_heap W (.cells #[.string s, .slice a1 P.hs.length m1, .slice a2 P.md.length m2, .slice a3 n3 m3, .slice a4 n4 m4, .slice a5 n5 m5, .slice a6 ss.length m6, .slice a7 n7 m7, .slice a8 P.dp.length m8] 31)
    rw [hWe]; exact ((((((Ext.refl (W.alloc (.cells #[.string s, .slice a1 P.hs.length m1, .slice a2 P.md.length m2, .slice a3 n3 m3, .slice a4 n4 m4, .slice a5 n5 m5, .slice a6 ss.length m6, .slice a7 n7 m7, .slice a8 P.dp.length m8] 31))).alloc (.cells #[.string x.nm, .slice ea x.ex.length ec, .bool x.sel, .int .i64 x.h, .int .i64 x.f, .slice ca x.cs.length cc, .int .i64 x.df] 61)).alloc (.cells #[.slice b0 E.va.length d0, .slice b1 E.fi.length d1, .slice b2 E.me.length d2, .slice b3 E.pl.length d3] 37)).alloc (.cells #[.slice xa l.length xc, .int .i64 pos] 124)).alloc (.cells #[.slice none 0 0, .slice none 0 0, .slice none 0 0, .slice none 0 0] 37)).alloc (.cells #[.slice none 0 0, .int .i64 0] 124)).heap h
  have hB1 : We.heap[W.heap.size + 1]? = some (.cells #[.string x.nm, .slice ea x.ex.length ec, .bool x.sel, .int .i64 x.h, .int .i64 x.f, .slice ca x.cs.length cc, .int .i64 x.df] 61 (0, 0)) := by
    have h := alloc_heap (W.alloc (.cells #[.string s, .slice a1 P.hs.length m1, .slice a2 P.md.length m2, .slice a3 n3 m3, .slice a4 n4 m4, .slice a5 n5 m5, .slice a6 ss.length m6, .slice a7 n7 m7, .slice a8 P.dp.length m8] 31)) (.cells #[.string x.nm, .slice ea x.ex.length ec, .bool x.sel, .int .i64 x.h, .int .i64 x.f, .slice ca x.cs.length cc, .int .i64 x.df] 61)
    rw [World.size_alloc] at h
    rw [hWe]; exact (((((Ext.refl ((W.alloc (.cells #[.string s, .slice a1 P.hs.length m1, .slice a2 P.md.length m2, .slice a3 n3 m3, .slice a4 n4 m4, .slice a5 n5 m5, .slice a6 ss.length m6, .slice a7 n7 m7, .slice a8 P.dp.length m8] 31)).alloc (.cells #[.string x.nm, .slice ea x.ex.length ec, .bool x.sel, .int .i64 x.h, .int .i64 x.f, .slice ca x.cs.length cc, .int .i64 x.df] 61))).alloc (.cells #[.slice b0 E.va.length d0, .slice b1 E.fi.length d1, .slice b2 E.me.length d2, .slice b3 E.pl.length d3] 37)).alloc (.cells #[.slice xa l.length xc, .int .i64 pos] 124)).alloc (.cells #[.slice none 0 0, .slice none 0 0, .slice none 0 0, .slice none 0 0] 37)).alloc (.cells #[.slice none 0 0, .int .i64 0] 124)).heap h
  have hB2 : We.heap[W.heap.size + 1 + 1]? = some (.cells #[.slice b0 E.va.length d0, .slice b1 E.fi.length d1, .slice b2 E.me.length d2, .slice b3 E.pl.length d3] 37 (0, 0)) := by
    have h := alloc_heap ((W.alloc (.cells #[.string s, .slice a1 P.hs.length m1, .slice a2 P.md.length m2, .slice a3 n3 m3, .slice a4 n4 m4, .slice a5 n5 m5, .slice a6 ss.length m6, .slice a7 n7 m7, .slice a8 P.dp.length m8] 31)).alloc (.cells #[.string x.nm, .slice ea x.ex.length ec, .bool x.sel, .int .i64 x.h, .int .i64 x.f, .slice ca x.cs.length cc, .int .i64 x.df] 61)) (.cells #[.slice b0 E.va.length d0, .slice b1 E.fi.length d1, .slice b2 E.me.length d2, .slice b3 E.pl.length d3] 37)
    rw [World.size_alloc, World.size_alloc] at h
    rw [hWe]; exact ((((Ext.refl (((W.alloc (.cells #[.string s, .slice a1 P.hs.length m1, .slice a2 P.md.length m2, .slice a3 n3 m3, .slice a4 n4 m4, .slice a5 n5 m5, .slice a6 ss.length m6, .slice a7 n7 m7, .slice a8 P.dp.length m8] 31)).alloc (.cells #[.string x.nm, .slice ea x.ex.length ec, .bool x.sel, .int .i64 x.h, .int .i64 x.f, .slice ca x.cs.length cc, .int .i64 x.df] 61)).alloc (.cells #[.slice b0 E.va.length d0, .slice b1 E.fi.length d1, .slice b2 E.me.length d2, .slice b3 E.pl.length d3] 37))).alloc (.cells #[.slice xa l.length xc, .int .i64 pos] 124)).alloc (.cells #[.slice none 0 0, .slice none 0 0, .slice none 0 0, .slice none 0 0] 37)).alloc (.cells #[.slice none 0 0, .int .i64 0] 124)).heap h
  have hB3 : We.heap[W.heap.size + 1 + 1 + 1]? = some (.cells #[.slice xa l.length xc, .int .i64 pos] 124 (0, 0)) := by
    have h := alloc_heap (((W.alloc (.cells #[.string s, .slice a1 P.hs.length m1, .slice a2 P.md.length m2, .slice a3 n3 m3, .slice a4 n4 m4, .slice a5 n5 m5, .slice a6 ss.length m6, .slice a7 n7 m7, .slice a8 P.dp.length m8] 31)).alloc (.cells #[.string x.nm, .slice ea x.ex.length ec, .bool x.sel, .int .i64 x.h, .int .i64 x.f, .slice ca x.cs.length cc, .int .i64 x.df] 61)).alloc (.cells #[.slice b0 E.va.length d0, .slice b1 E.fi.length d1, .slice b2 E.me.length d2, .slice b3 E.pl.length d3] 37)) (.cells #[.slice xa l.length xc, .int .i64 pos] 124)
    rw [World.size_alloc, World.size_alloc, World.size_alloc] at h
    rw [hWe]; exact (((Ext.refl ((((W.alloc (.cells #[.string s, .slice a1 P.hs.length m1, .slice a2 P.md.length m2, .slice a3 n3 m3, .slice a4 n4 m4, .slice a5 n5 m5, .slice a6 ss.length m6, .slice a7 n7 m7, .slice a8 P.dp.length m8] 31)).alloc (.cells #[.string x.nm, .slice ea x.ex.length ec, .bool x.sel, .int .i64 x.h, .int .i64 x.f, .slice ca x.cs.length cc, .int .i64 x.df] 61)).alloc (.cells #[.slice b0 E.va.length d0, .slice b1 E.fi.length d1, .slice b2 E.me.length d2, .slice b3 E.pl.length d3] 37)).alloc (.cells #[.slice xa l.length xc, .int .i64 pos] 124))).alloc (.cells #[.slice none 0 0, .slice none 0 0, .slice none 0 0, .slice none 0 0] 37)).alloc (.cells #[.slice none 0 0, .int .i64 0] 124)).heap h
  have hB4 : We.heap[W.heap.size + 1 + 1 + 1 + 1]? = some (.cells #[.slice none 0 0, .slice none 0 0, .slice none 0 0, .slice none 0 0] 37 (0, 0)) := by
    have h := alloc_heap ((((W.alloc (.cells #[.string s, .slice a1 P.hs.length m1, .slice a2 P.md.length m2, .slice a3 n3 m3, .slice a4 n4 m4, .slice a5 n5 m5, .slice a6 ss.length m6, .slice a7 n7 m7, .slice a8 P.dp.length m8] 31)).alloc (.cells #[.string x.nm, .slice ea x.ex.length ec, .bool x.sel, .int .i64 x.h, .int .i64 x.f, .slice ca x.cs.length cc, .int .i64 x.df] 61)).alloc (.cells #[.slice b0 E.va.length d0, .slice b1 E.fi.length d1, .slice b2 E.me.length d2, .slice b3 E.pl.length d3] 37)).alloc (.cells #[.slice xa l.length xc, .int .i64 pos] 124)) (.cells #[.slice none 0 0, .slice none 0 0, .slice none 0 0, .slice none 0 0] 37)
    rw [World.size_alloc, World.size_alloc, World.size_alloc, World.size_alloc] at h
    rw [hWe]; exact ((Ext.refl (((((W.alloc (.cells #[.string s, .slice a1 P.hs.length m1, .slice a2 P.md.length m2, .slice a3 n3 m3, .slice a4 n4 m4, .slice a5 n5 m5, .slice a6 ss.length m6, .slice a7 n7 m7, .slice a8 P.dp.length m8] 31)).alloc (.cells #[.string x.nm, .slice ea x.ex.length ec, .bool x.sel, .int .i64 x.h, .int .i64 x.f, .slice ca x.cs.length cc, .int .i64 x.df] 61)).alloc (.cells #[.slice b0 E.va.length d0, .slice b1 E.fi.length d1, .slice b2 E.me.length d2, .slice b3 E.pl.length d3] 37)).alloc (.cells #[.slice xa l.length xc, .int .i64 pos] 124)).alloc (.cells #[.slice none 0 0, .slice none 0 0, .slice none 0 0, .slice none 0 0] 37))).alloc (.cells #[.slice none 0 0, .int .i64 0] 124)).heap h
  have hB5 : We.heap[W.heap.size + 1 + 1 + 1 + 1 + 1]? = some (.cells #[.slice none 0 0, .int .i64 0] 124 (0, 0)) := by
    have h := alloc_heap (((((W.alloc (.cells #[.string s, .slice a1 P.hs.length m1, .slice a2 P.md.length m2, .slice a3 n3 m3, .slice a4 n4 m4, .slice a5 n5 m5, .slice a6 ss.length m6, .slice a7 n7 m7, .slice a8 P.dp.length m8] 31)).alloc (.cells #[.string x.nm, .slice ea x.ex.length ec, .bool x.sel, .int .i64 x.h, .int .i64 x.f, .slice ca x.cs.length cc, .int .i64 x.df] 61)).alloc (.cells #[.slice b0 E.va.length d0, .slice b1 E.fi.length d1, .slice b2 E.me.length d2, .slice b3 E.pl.length d3] 37)).alloc (.cells #[.slice xa l.length xc, .int .i64 pos] 124)).alloc (.cells #[.slice none 0 0, .slice none 0 0, .slice none 0 0, .slice none 0 0] 37)) (.cells #[.slice none 0 0, .int .i64 0] 124)
    rw [World.size_alloc, World.size_alloc, World.size_alloc, World.size_alloc, World.size_alloc] at h
    rw [hWe]; exact (Ext.refl ((((((W.alloc (.cells #[.string s, .slice a1 P.hs.length m1, .slice a2 P.md.length m2, .slice a3 n3 m3, .slice a4 n4 m4, .slice a5 n5 m5, .slice a6 ss.length m6, .slice a7 n7 m7, .slice a8 P.dp.length m8] 31)).alloc (.cells #[.string x.nm, .slice ea x.ex.length ec, .bool x.sel, .int .i64 x.h, .int .i64 x.f, .slice ca x.cs.length cc, .int .i64 x.df] 61)).alloc (.cells #[.slice b0 E.va.length d0, .slice b1 E.fi.length d1, .slice b2 E.me.length d2, .slice b3 E.pl.length d3] 37)).alloc (.cells #[.slice xa l.length xc, .int .i64 pos] 124)).alloc (.cells #[.slice none 0 0, .slice none 0 0, .slice none 0 0, .slice none 0 0] 37)).alloc (.cells #[.slice none 0 0, .int .i64 0] 124))).heap h
  have hXE : Ext W We := by rw [hWe]; exact (((((((Ext.refl W).alloc (.cells #[.string s, .slice a1 P.hs.length m1, .slice a2 P.md.length m2, .slice a3 n3 m3, .slice a4 n4 m4, .slice a5 n5 m5, .slice a6 ss.length m6, .slice a7 n7 m7, .slice a8 P.dp.length m8] 31)).alloc (.cells #[.string x.nm, .slice ea x.ex.length ec, .bool x.sel, .int .i64 x.h, .int .i64 x.f, .slice ca x.cs.length cc, .int .i64 x.df] 61)).alloc (.cells #[.slice b0 E.va.length d0, .slice b1 E.fi.length d1, .slice b2 E.me.length d2, .slice b3 E.pl.length d3] 37)).alloc (.cells #[.slice xa l.length xc, .int .i64 pos] 124)).alloc (.cells #[.slice none 0 0, .slice none 0 0, .slice none 0 0, .slice none 0 0] 37)).alloc (.cells #[.slice none 0 0, .int .i64 0] 124))
  have hse : We.heap.size = W.heap.size + 6 := by rw [hWe]; simp
  have HWE := Lib.hid hWe.symm
  have HIE := Lib.hid (he.ext hXE)
  have HXE := Lib.hid hXE
  have HP := Lib.hid hp
  have HB0 := Lib.hid hB0
  have HB1 := Lib.hid hB1
  have HB2 := Lib.hid hB2
  have HB3 := Lib.hid hB3
  have HB4 := Lib.hid hB4
  have HB5 := Lib.hid hB5
  obtain ⟨R, hR⟩ : ∃ z, z = Ps.exAll P l x.ex E pos := ⟨_, rfl⟩
  rw [← hR]
  have HR := Lib.hid hR
  dsimp only [Pg.PV.val, Pg.EV.val]
  clear hq hhs hmd hss hex hin he hsh hR hcp hor hby hWe hXE hB0 hB1 hB2 hB3 hB4 hB5 hp
  go_enter Try.func88, Try.ntmps88
  go_upto_region 1 with (fail)
  rw [HWE.out]
  go_wp2_with fail
  go_loopw [11] (fun z wr => ∃ k : Nat, k ≤ x.ex.length ∧ z = .int .i64 k ∧ Hid (∃ (e' : Pg.EV) (vs' : List Value) (E' : Pg.Env) (pos' : Nat), Ext W wr ∧ W.heap.size + 6 ≤ wr.heap.size ∧ (wr.heap[W.heap.size]? = some (.cells #[.string s, .slice a1 P.hs.length m1, .slice a2 P.md.length m2, .slice a3 n3 m3, .slice a4 n4 m4, .slice a5 n5 m5, .slice a6 ss.length m6, .slice a7 n7 m7, .slice a8 P.dp.length m8] 31 (0, 0)) ∧ wr.heap[W.heap.size + 1]? = some (.cells #[.string x.nm, .slice ea x.ex.length ec, .bool x.sel, .int .i64 x.h, .int .i64 x.f, .slice ca x.cs.length cc, .int .i64 x.df] 61 (0, 0)) ∧ wr.heap[W.heap.size + 1 + 1]? = some (.cells #[e'.c0, e'.c1, e'.c2, e'.c3] 37 (0, 0)) ∧ wr.heap[W.heap.size + 1 + 1 + 1]? = some (.cells #[.slice xa l.length xc, .int .i64 pos'] 124 (0, 0)) ∧ wr.heap[W.heap.size + 1 + 1 + 1 + 1]? = some (.cells #[.slice none 0 0, .slice none 0 0, .slice none 0 0, .slice none 0 0] 37 (0, 0)) ∧ wr.heap[W.heap.size + 1 + 1 + 1 + 1 + 1]? = some (.cells #[.slice none 0 0, .int .i64 0] 124 (0, 0))) ∧ OwnE B0 wr e' vs' E' ∧ Ps.Shp P E' ∧ R = Ps.exAll P l (x.ex.drop k) E' pos' ∧ pos' ≤ 8 * l.length)) (fun z _ => x.ex.length - (intOf z).toNat)
  case atStart => exact ⟨0, Nat.zero_le _, rfl, Lib.hid ⟨_, vs, E, pos, HXE.out, by omega, ⟨HB0.out, HB1.out, HB2.out, HB3.out, HB4.out, HB5.out⟩, HIE.out, HSH.out, HR.out, HP.out⟩⟩
  case round =>
    obtain ⟨k, hk, rfl, HI⟩ := hrel
    obtain ⟨e', vs', E', pos', hx, hlw, ⟨k0, k1, k2, k3, k4, k5⟩, hie, hsp, hres, hpp⟩ := HI.out
    obtain ⟨wo, rfl⟩ : ∃ wo : World, wo = wr := ⟨_, rfl⟩
    obtain ⟨g0, g1, g2, g3, t0, t1, t2, t3, hgf⟩ := hie.isE.form
    obtain ⟨rfl, _, _, _, _, _, _, _, _⟩ := hgf
    dsimp only at k2
    have sx := Step.mk hx
    have K0 := Lib.hid k0
    have K1 := Lib.hid k1
    have K2 := Lib.hid k2
    have K3 := Lib.hid k3
    have K4 := Lib.hid k4
    have K5 := Lib.hid k5
    have IE := Lib.hid hie
    have SP := Lib.hid hsp
    have HRES := Lib.hid hres
    have HX := Lib.hid hx
    have HPP := Lib.hid hpp
    have xc1 := alw (cell_of (o := 1) k1)
    clear HI hx k0 k1 k2 k3 k4 k5 hie hsp hres hpp
    by_cases hlt : k < x.ex.length
    · obtain ⟨h, hy⟩ : ∃ y, x.ex[k]? = some y := ⟨_, List.getElem?_eq_getElem (by omega)⟩
      obtain ⟨hh0, hh1⟩ := HIN.out k h hy
      obtain ⟨m, rfl⟩ := Int.eq_ofNat_of_zero_le hh0
      obtain ⟨eb, eo, rfl, n1⟩ := ns_at HEX.out (by omega)
      have r1 := n1 k _ hy
      have HY := Lib.hid hy
      obtain ⟨⟨hn, fs⟩, hg⟩ : ∃ g, P.hs[m]? = some g := ⟨_, List.getElem?_eq_getElem (by omega)⟩
      obtain ⟨bh, oh, rfl, _, _⟩ := Rows.at HHS.out (by omega)
      obtain ⟨fa, fc, q0, q1, hnm, hfl, _, _⟩ := hdrs_at HHS.out m hn fs hg rfl
      have HHD : Hid (Ps.hd P (m : Int) = (hn, fs)) := Lib.hid (Ps.hd_of (by rw [Int.toNat_natCast]; exact hg))
      obtain ⟨er, her⟩ : ∃ z, z = Hd.rE (hn, fs) l pos' := ⟨_, rfl⟩
      obtain ⟨rv, hrv⟩ : ∃ z, z = Hd.rV (hn, fs) l pos' := ⟨_, rfl⟩
      obtain ⟨rp, hrp⟩ : ∃ z, z = Hd.rP (hn, fs) l pos' := ⟨_, rfl⟩
      have HREAD : Hid (∀ w, Ext wo w → Calls Try.prog 105 #[.agg #[.string hn, .slice fa fs.length fc], .agg #[.slice xa l.length xc, .int .i64 pos']] w (fun e w' => ∃ u, e = .returned (.tuple #[.agg #[.slice xa l.length xc, .int .i64 (rp : Nat)], u, .int .i64 er]) ∧ Ext w w' ∧ w'.ownsRow w.heap.size 64 1 u rv.length (u32s rv))) := Lib.hid (fun w hxw => by
        have h := rhread_any (hn, fs) (v := .slice fa fs.length fc) (hfl.ext (HX.out.trans hxw)) hnm (own_ext HOR.out (HX.out.trans hxw)) HBY.out hl HPP.out
        rw [← her, ← hrv, ← hrp] at h; exact h)
      have HER := Lib.hid her
      have HRV := Lib.hid hrv
      have HRP := Lib.hid hrp
      have d1 : wo.cell? ⟨W.heap.size, 1, none⟩ = some (.slice (some ⟨bh, oh, none⟩) P.hs.length m1) := cell_of K0.out
      have d2 : wo.cell? ⟨W.heap.size + 1 + 1 + 1, 0, none⟩ = some (.slice xa l.length xc) := cell_of K3.out
      have d3 : wo.cell? ⟨W.heap.size + 1 + 1 + 1, 1, none⟩ = some (.int .i64 pos') := cell_of K3.out
      have d4 := q0 wo
      have d5 := q1 wo
      have D1 := Lib.hid d1
      have D2 := Lib.hid d2
      have D3 := Lib.hid d3
      have D4 := Lib.hid d4
      have D5 := Lib.hid d5
      have j1 := World.new_ne wo _ d1
      have j2 := World.new_ne wo _ d2
      have j4 := World.new_ne wo _ d4
      clear her hrv hrp hy hg hfl hnm q0 q1 n1
      go_wp2_with fail
      go_cut [13, 14, 15] (fun s t u wx => ∃ B : Nat, s = .pointer (some ⟨B, 0, none⟩) ∧ u = .int .i64 er ∧ Ext wo wx ∧ wo.heap.size ≤ B ∧ wx.heap[B]? = some (.cells #[.slice xa l.length xc, .int .i64 (rp : Nat)] 124 (0, 0)) ∧ wx.ownsRow wo.heap.size 64 1 t rv.length (u32s rv))
      case first =>
        go_region_held3 (fun w' => w'.cell? ⟨W.heap.size, 1, none⟩ = some (.slice (some ⟨bh, oh, none⟩) P.hs.length m1) ∧ w'.cell? ⟨W.heap.size + 1 + 1 + 1, 0, none⟩ = some (.slice xa l.length xc) ∧ w'.cell? ⟨W.heap.size + 1 + 1 + 1, 1, none⟩ = some (.int .i64 pos') ∧ w'.cell? ⟨bh, oh + m * 2, none⟩ = some (.string hn) ∧ w'.cell? ⟨bh, oh + m * 2 + 1, none⟩ = some (.slice fa fs.length fc)) (go_keep)
          (first | (go_at_call 105; refine (HREAD.out _ (by first | exact (Ext.refl _).drew | exact ((Ext.refl _).drew).alloc _)).mono ?_; rintro e w5 ⟨uz, rfl, hy, ho5⟩; have hz : Ext wo w5 := (by first | exact ((Ext.refl wo).drew).trans hy | exact (((Ext.refl wo).drew).alloc _).trans hy); have ho6 := own_base ho5 (show wo.heap.size ≤ _ by first | exact ((Ext.refl wo).drew).le | exact (((Ext.refl wo).drew).alloc (.cells #[.slice none 0 0, .int .i64 0] 124)).le); have q0 := hz.cell D1.out; have q1 := hz.cell D2.out; have q2 := hz.cell D3.out; have q8 := hz.cell D4.out; have q9 := hz.cell D5.out; try (have q3 : w5.heap[wo.heap.size]? = some (.cells #[.slice none 0 0, .int .i64 0] 124 (0, 0)) := hy.heap (alloc_heap wo.drew (.cells #[.slice none 0 0, .int .i64 0] 124)); have q4 : w5.cell? ⟨wo.heap.size, 0, none⟩ = some (.slice none 0 0) := cell_of q3; have q5 : w5.cell? ⟨wo.heap.size, 1, none⟩ = some (.int .i64 0) := cell_of q3; have q6 : w5.frozen? ⟨wo.heap.size, 0, none⟩ = false := free_of q3; have q7 : w5.frozen? ⟨wo.heap.size, 1, none⟩ = false := free_of q3)))
        all_goals (try go_wp2_with fail)
        all_goals go_meet
        · exact ⟨w5.heap.size, rfl, rfl, hz.alloc _, hz.le, alloc_heap _ _, own_ext ho6 ((Ext.refl _).alloc _)⟩
        · obtain ⟨y1, y2⟩ := set2 (a' := .slice xa l.length xc) (b' := .int .i64 ((rp : Nat) : Int)) q3
          exact ⟨wo.heap.size, rfl, rfl, hz.mod y2 (fun q hq => by rw [hq]; exact Nat.le_refl _), Nat.le_refl _, y1, own_mod ho6 y2 (own_not ho6 q3 (by decide))⟩
      case rest =>
        obtain ⟨B, rfl, rfl, hx5, hB, b5, ho⟩ := hcut
        obtain ⟨wd, rfl⟩ : ∃ z : World, z = wc := ⟨_, rfl⟩
        have kb0 := hx5.heap K0.out
        have kb1 := hx5.heap K1.out
        have kb2 := hx5.heap K2.out
        have kb3 := hx5.heap K3.out
        have kb4 := hx5.heap K4.out
        have kb5 := hx5.heap K5.out
        have hxd := HX.out.trans hx5
        have XD := Lib.hid hxd
        have sd := Step.mk hxd
        have hld := hx5.le
        by_cases hz : er = 0
        · subst hz
          have hrne : rv ≠ [] := by rw [HRV.out]; exact Ps.rV_ne HER.out.symm
          obtain ⟨q, uc, rfl, _, _, _, _, _, _⟩ := own_cell ho (by intro e; exact hrne (List.map_eq_nil_iff.1 e))
          have v50 : wd.cell? ⟨B, 0, none⟩ = some (.slice xa l.length xc) := cell_of b5
          have v51 : wd.cell? ⟨B, 1, none⟩ = some (.int .i64 ((rp : Nat) : Int)) := cell_of b5
          have v30 : wd.cell? ⟨W.heap.size + 1 + 1 + 1, 0, none⟩ = some (.slice xa l.length xc) := cell_of kb3
          have v31 : wd.cell? ⟨W.heap.size + 1 + 1 + 1, 1, none⟩ = some (.int .i64 pos') := cell_of kb3
          have f30 : wd.frozen? ⟨W.heap.size + 1 + 1 + 1, 0, none⟩ = false := free_of kb3
          have f31 : wd.frozen? ⟨W.heap.size + 1 + 1 + 1, 1, none⟩ = false := free_of kb3
          obtain ⟨sy1, sy2⟩ := set2 (a' := .slice xa l.length xc) (b' := .int .i64 ((rp : Nat) : Int)) kb3
          obtain ⟨wm, hwm⟩ : ∃ z, z = ((wd.setCell ⟨W.heap.size + 1 + 1 + 1, 0, none⟩ (.slice xa l.length xc)).setCell ⟨W.heap.size + 1 + 1 + 1, 1, none⟩ (.int .i64 ((rp : Nat) : Int))) := ⟨_, rfl⟩
          rw [← hwm] at sy1 sy2
          have hom := own_mod ho sy2 (own_not ho kb3 (by decide))
          have mb0 := sy2.heap kb0 (by omega)
          have mb1 := sy2.heap kb1 (by omega)
          have mb2 := sy2.heap kb2 (by omega)
          have mb4 := sy2.heap kb4 (by omega)
          have mb5 := sy2.heap kb5 (by omega)
          have HXM := Lib.hid (hxd.mod sy2 (fun q hq => by rw [hq]; omega))
          have hlm := sy2.size
          have HWM := Lib.hid hwm
          have MB0 := Lib.hid mb0
          have MB1 := Lib.hid mb1
          have MB2 := Lib.hid mb2
          have MB4 := Lib.hid mb4
          have MB5 := Lib.hid mb5
          have MB3 := Lib.hid sy1
          have hoe := (IE.out.ext hx5).beside sy2 kb3 (by decide) (by decide) (by decide) (by decide)
          have IEM := Lib.hid hoe
          clear hoe
          have HOM := Lib.hid hom
          have v20 : wm.cell? ⟨W.heap.size + 1 + 1, 0, none⟩ = some (.slice g0 E'.va.length t0) := cell_of mb2
          have v21 : wm.cell? ⟨W.heap.size + 1 + 1, 1, none⟩ = some (.slice g1 E'.fi.length t1) := cell_of mb2
          have v22 : wm.cell? ⟨W.heap.size + 1 + 1, 2, none⟩ = some (.slice g2 E'.me.length t2) := cell_of mb2
          have v23 : wm.cell? ⟨W.heap.size + 1 + 1, 3, none⟩ = some (.slice g3 E'.pl.length t3) := cell_of mb2
          have hqm : q < wm.heap.size := own_lt hom rfl
          clear hwm hom hxd b5 ho kb0 kb1 kb2 kb3 kb4 kb5 mb0 mb1 mb2 mb4 mb5 sy1 sy2 hrne r1 j1 j2 j4 d1 d2 d3 d4 d5
          go_upto_region 9 with (fail)
          rw [← HWM.out]
          go_wp2_with fail
          refine (refclone_any IEM.out.isE (SP.out.cap HCP.out)).mono ?_
          rintro e w6 ⟨ev, vs6, rfl, x6, o6⟩
          obtain ⟨y0, y1, y2, y3, z0, z1, z2, z3, hgf⟩ := o6.isE.form
          obtain ⟨rfl, _, _, _, _, _, _, _, _⟩ := hgf
          dsimp only [Pg.EV.val]
          have s6 := Step.mk (HXM.out.trans x6)
          have nb2 := x6.heap MB2.out
          have v60 : w6.cell? ⟨W.heap.size + 1 + 1, 0, none⟩ = some (.slice g0 E'.va.length t0) := cell_of nb2
          have f60 : w6.frozen? ⟨W.heap.size + 1 + 1, 0, none⟩ = false := free_of nb2
          have v61 : w6.cell? ⟨W.heap.size + 1 + 1, 1, none⟩ = some (.slice g1 E'.fi.length t1) := cell_of nb2
          have f61 : w6.frozen? ⟨W.heap.size + 1 + 1, 1, none⟩ = false := free_of nb2
          have v62 : w6.cell? ⟨W.heap.size + 1 + 1, 2, none⟩ = some (.slice g2 E'.me.length t2) := cell_of nb2
          have f62 : w6.frozen? ⟨W.heap.size + 1 + 1, 2, none⟩ = false := free_of nb2
          have v63 : w6.cell? ⟨W.heap.size + 1 + 1, 3, none⟩ = some (.slice g3 E'.pl.length t3) := cell_of nb2
          have f63 : w6.frozen? ⟨W.heap.size + 1 + 1, 3, none⟩ = false := free_of nb2
          obtain ⟨tw1, tw2⟩ := tower4 (.slice y0 E'.va.length z0) (.slice y1 E'.fi.length z1) (.slice y2 E'.me.length z2) (.slice y3 E'.pl.length z3) nb2
          obtain ⟨wn, hwn⟩ : ∃ z, z = ((((w6.setCell ⟨W.heap.size + 1 + 1, 0, none⟩ (.slice y0 E'.va.length z0)).setCell ⟨W.heap.size + 1 + 1, 1, none⟩ (.slice y1 E'.fi.length z1)).setCell ⟨W.heap.size + 1 + 1, 2, none⟩ (.slice y2 E'.me.length z2)).setCell ⟨W.heap.size + 1 + 1, 3, none⟩ (.slice y3 E'.pl.length z3)) := ⟨_, rfl⟩
          rw [← hwn] at tw1 tw2
          have on := o6.box tw1 nb2
          have hqn := own_mod (own_ext HOM.out x6) tw1 (own_not (own_ext HOM.out x6) nb2 (by decide))
          have nd0 := tw1.heap (x6.heap MB0.out) (by omega)
          have nd1 := tw1.heap (x6.heap MB1.out) (by omega)
          have nd3 := tw1.heap (x6.heap MB3.out) (by omega)
          have nd4 := tw1.heap (x6.heap MB4.out) (by omega)
          have nd5 := tw1.heap (x6.heap MB5.out) (by omega)
          have ND0 := Lib.hid nd0
          have ND1 := Lib.hid nd1
          have ND3 := Lib.hid nd3
          have ND4 := Lib.hid nd4
          have ND5 := Lib.hid nd5
          have ND2 := Lib.hid tw2
          have hln : wm.heap.size ≤ wn.heap.size := Nat.le_trans x6.le tw1.size
          have XN := Lib.hid ((HXM.out.trans x6).mod tw1 (fun q hq => by rw [hq]; omega))
          have HWN := Lib.hid hwn
          have ON := Lib.hid on
          have QN := Lib.hid hqn
          have X6 := Lib.hid x6
          have eva := SP.out.va
          have efi := SP.out.fi
          obtain ⟨bv, hbv⟩ : ∃ y, (E'.va.map Value.bool)[m]? = some y := ⟨_, List.getElem?_eq_getElem (by simp; omega)⟩
          obtain ⟨uv, huv⟩ : ∃ y, vs6[m]? = some y := ⟨_, List.getElem?_eq_getElem (by rw [on.fi.1]; omega)⟩
          obtain ⟨g, c0, ee0, va1, va2, ga, _, _, _, _⟩ := own_at on.va hbv
          obtain ⟨G, c1, ee1, fi1, fi2, Ga, _, _, _, _⟩ := own_at on.fi.2.1 huv
          simp only [Value.slice.injEq, true_and] at ee0 ee1
          obtain ⟨rfl, rfl⟩ := ee0
          obtain ⟨rfl, rfl⟩ := ee1
          have hgG : g ≠ G := fun e1 => own_apart ON.out.va ON.out.fi.2.1 (by decide) (k := g) rfl (by rw [e1]; rfl)
          have hmva : m < E'.va.length := by omega
          have hmfi : m < E'.fi.length := by omega
          have n20 : wn.cell? ⟨W.heap.size + 1 + 1, 0, none⟩ = some (.slice (some ⟨g, 0, none⟩) E'.va.length z0) := cell_of tw2
          have va1' := va1 wn
          have va2' := va2 wn
          obtain ⟨wv, hwv⟩ : ∃ z, z = wn.setCell ⟨g, m, none⟩ (.bool true) := ⟨_, rfl⟩
          have HWV := Lib.hid hwv
          have n21 : wv.cell? ⟨W.heap.size + 1 + 1, 1, none⟩ = some (.slice (some ⟨G, 0, none⟩) E'.fi.length z1) := by rw [hwv]; exact (World.cell?_setCell_far wn ⟨g, m, none⟩ ⟨W.heap.size + 1 + 1, 1, none⟩ (.bool true) (by show g ≠ W.heap.size + 1 + 1; omega)).trans (cell_of tw2)
          have fi1' : wv.cell? ⟨G, m, none⟩ = some uv := by rw [hwv]; exact (World.cell?_setCell_far wn ⟨g, m, none⟩ ⟨G, m, none⟩ (.bool true) hgG).trans (fi1 wn)
          have fi2' : wv.frozen? ⟨G, m, none⟩ = false := by rw [hwv]; exact (World.frozen?_setCell wn ⟨g, m, none⟩ ⟨G, m, none⟩ (.bool true)).trans (fi2 wn)
          clear hwn on hqn tw1 tw2 nd0 nd1 nd3 nd4 nd5 nb2 eva efi hbv huv fi1 fi2 va1 va2 hwv x6 o6 hx5
          go_upto_region 10 with (fail)
          rw [← HWN.out]
          go_upto_region 11 with (fail)
          rw [← HWV.out]
          go_wp2_with fail
          go_roundw
          case rel =>
            rw [HWV.out]
            have hmd : Mod (fun k => k = g ∨ k = G) wn ((wn.setCell ⟨g, m, none⟩ (.bool true)).setCell ⟨G, m, none⟩ (.slice (some ⟨q, 0, none⟩) rv.length uc)) := ((Mod.refl _ wn).setCell (p := ⟨g, m, none⟩) (.inl (.inl rfl)) _).setCell (p := ⟨G, m, none⟩) (.inl (.inr rfl)) _
            have hlf := hmd.size
            have hwx := HX.out.le
            refine ⟨k + 1, by omega, by go_num, Lib.hid ⟨⟨.slice (some ⟨g, 0, none⟩) E'.va.length z0, .slice (some ⟨G, 0, none⟩) E'.fi.length z1, .slice y2 E'.me.length z2, .slice y3 E'.pl.length z3⟩, vs6.set m (.slice (some ⟨q, 0, none⟩) rv.length uc), Ps.setH E' m rv, rp, XN.out.mod hmd (fun k hk => by rcases hk with h | h <;> omega), by omega, ⟨hmd.heap ND0.out (fun h => by rcases h with h | h <;> omega), hmd.heap ND1.out (fun h => by rcases h with h | h <;> omega), hmd.heap ND2.out (fun h => by rcases h with h | h <;> omega), hmd.heap ND3.out (fun h => by rcases h with h | h <;> omega), hmd.heap ND4.out (fun h => by rcases h with h | h <;> omega), hmd.heap ND5.out (fun h => by rcases h with h | h <;> omega)⟩, OwnE.putH2 (ON.out) (by omega) rfl rfl hmfi (own_base QN.out (by omega)) hqm (by rw [HRV.out]; exact Ps.rV_u32 _ _ _), SP.out.set m (by rw [HRV.out]; exact Ps.rV_12 _ _ _), ?_, ?_⟩⟩
            · rw [HRES.out, Ps.exAll_ok HY.out (by rw [HHD.out]; exact HER.out.symm), HHD.out, Int.toNat_natCast, ← HRV.out, ← HRP.out]
            · rw [HRP.out]; exact Ps.rP_bd _ _ _ HPP.out
          case measure => simp [intOf]; omega
        · have z1 : (er != 0) = true := bne_iff_ne.2 hz
          have hz2 : Hd.rE (hn, fs) l pos' ≠ 0 := by rw [← HER.out]; exact hz
          have HR2 : Hid (R = (er, E', pos')) := Lib.hid (by rw [HRES.out, Ps.exAll_no HY.out (by rw [HHD.out]; exact hz2), HHD.out, HER.out])
          have v20 : wd.cell? ⟨W.heap.size + 1 + 1, 0, none⟩ = some (.slice g0 E'.va.length t0) := cell_of kb2
          have v21 : wd.cell? ⟨W.heap.size + 1 + 1, 1, none⟩ = some (.slice g1 E'.fi.length t1) := cell_of kb2
          have v22 : wd.cell? ⟨W.heap.size + 1 + 1, 2, none⟩ = some (.slice g2 E'.me.length t2) := cell_of kb2
          have v23 : wd.cell? ⟨W.heap.size + 1 + 1, 3, none⟩ = some (.slice g3 E'.pl.length t3) := cell_of kb2
          have v30 : wd.cell? ⟨W.heap.size + 1 + 1 + 1, 0, none⟩ = some (.slice xa l.length xc) := cell_of kb3
          have v31 : wd.cell? ⟨W.heap.size + 1 + 1 + 1, 1, none⟩ = some (.int .i64 pos') := cell_of kb3
          have v40 : wd.cell? ⟨W.heap.size + 1 + 1 + 1 + 1, 0, none⟩ = some (.slice none 0 0) := cell_of kb4
          have f40 : wd.frozen? ⟨W.heap.size + 1 + 1 + 1 + 1, 0, none⟩ = false := free_of kb4
          have v41 : wd.cell? ⟨W.heap.size + 1 + 1 + 1 + 1, 1, none⟩ = some (.slice none 0 0) := cell_of kb4
          have f41 : wd.frozen? ⟨W.heap.size + 1 + 1 + 1 + 1, 1, none⟩ = false := free_of kb4
          have v42 : wd.cell? ⟨W.heap.size + 1 + 1 + 1 + 1, 2, none⟩ = some (.slice none 0 0) := cell_of kb4
          have f42 : wd.frozen? ⟨W.heap.size + 1 + 1 + 1 + 1, 2, none⟩ = false := free_of kb4
          have v43 : wd.cell? ⟨W.heap.size + 1 + 1 + 1 + 1, 3, none⟩ = some (.slice none 0 0) := cell_of kb4
          have f43 : wd.frozen? ⟨W.heap.size + 1 + 1 + 1 + 1, 3, none⟩ = false := free_of kb4
          have v50 : wd.cell? ⟨W.heap.size + 1 + 1 + 1 + 1 + 1, 0, none⟩ = some (.slice none 0 0) := cell_of kb5
          have f50 : wd.frozen? ⟨W.heap.size + 1 + 1 + 1 + 1 + 1, 0, none⟩ = false := free_of kb5
          have v51 : wd.cell? ⟨W.heap.size + 1 + 1 + 1 + 1 + 1, 1, none⟩ = some (.int .i64 0) := cell_of kb5
          have f51 : wd.frozen? ⟨W.heap.size + 1 + 1 + 1 + 1 + 1, 1, none⟩ = false := free_of kb5
          have KD4 := Lib.hid kb4
          have KD5 := Lib.hid kb5
          have OD := Lib.hid (IE.out.ext hx5)
          clear hz hz2 hx5 hxd b5 ho kb0 kb1 kb2 kb3 kb4 kb5 r1 j1 j2 j4 d1 d2 d3 d4 d5
          go_wp2_with fail
          go_region
          all_goals (try go_wp2_with fail)
          obtain ⟨tw1, tw2⟩ := tower4 (.slice g0 E'.va.length t0) (.slice g1 E'.fi.length t1) (.slice g2 E'.me.length t2) (.slice g3 E'.pl.length t3) KD4.out
          have ta5 := tw1.heap KD5.out (by omega)
          obtain ⟨sy1, sy2⟩ := set2 (a' := .slice xa l.length xc) (b' := .int .i64 (pos' : Int)) ta5
          have ta4 := sy2.heap tw2 (by omega)
          obtain ⟨wy, hwy⟩ : ∃ z, z = ((((((wd.setCell ⟨W.heap.size + 1 + 1 + 1 + 1, 0, none⟩ (.slice g0 E'.va.length t0)).setCell ⟨W.heap.size + 1 + 1 + 1 + 1, 1, none⟩ (.slice g1 E'.fi.length t1)).setCell ⟨W.heap.size + 1 + 1 + 1 + 1, 2, none⟩ (.slice g2 E'.me.length t2)).setCell ⟨W.heap.size + 1 + 1 + 1 + 1, 3, none⟩ (.slice g3 E'.pl.length t3)).setCell ⟨W.heap.size + 1 + 1 + 1 + 1 + 1, 0, none⟩ (.slice xa l.length xc)).setCell ⟨W.heap.size + 1 + 1 + 1 + 1 + 1, 1, none⟩ (.int .i64 (pos' : Int))) := ⟨_, rfl⟩
          rw [← hwy] at sy1 sy2 ta4 ⊢
          have sy3 : wy.drew.heap[W.heap.size + 1 + 1 + 1 + 1 + 1]? = some (.cells #[.slice xa l.length xc, .int .i64 (pos' : Int)] 124 (0, 0)) := sy1
          have ta6 : wy.drew.heap[W.heap.size + 1 + 1 + 1 + 1]? = some (.cells #[.slice g0 E'.va.length t0, .slice g1 E'.fi.length t1, .slice g2 E'.me.length t2, .slice g3 E'.pl.length t3] 37 (0, 0)) := ta4
          have c40 : wy.drew.cell? ⟨W.heap.size + 1 + 1 + 1 + 1, 0, none⟩ = some (.slice g0 E'.va.length t0) := cell_of ta6
          have c41 : wy.drew.cell? ⟨W.heap.size + 1 + 1 + 1 + 1, 1, none⟩ = some (.slice g1 E'.fi.length t1) := cell_of ta6
          have c42 : wy.drew.cell? ⟨W.heap.size + 1 + 1 + 1 + 1, 2, none⟩ = some (.slice g2 E'.me.length t2) := cell_of ta6
          have c43 : wy.drew.cell? ⟨W.heap.size + 1 + 1 + 1 + 1, 3, none⟩ = some (.slice g3 E'.pl.length t3) := cell_of ta6
          have c50 : wy.drew.cell? ⟨W.heap.size + 1 + 1 + 1 + 1 + 1, 0, none⟩ = some (.slice xa l.length xc) := cell_of sy3
          have c51 : wy.drew.cell? ⟨W.heap.size + 1 + 1 + 1 + 1 + 1, 1, none⟩ = some (.int .i64 (pos' : Int)) := cell_of sy3
          have hoz := ((OD.out.box tw1 KD4.out).beside sy2 ta5 (by decide) (by decide) (by decide) (by decide)).ext ((Ext.refl wy).drew)
          have hxz := ((XD.out.mod tw1 (fun q hq => by rw [hq]; omega)).mod sy2 (fun q hq => by rw [hq]; omega)).drew
          exact bodyPost_ret (v := .tuple #[.agg #[.slice g0 E'.va.length t0, .slice g1 E'.fi.length t1, .slice g2 E'.me.length t2, .slice g3 E'.pl.length t3], .agg #[.slice xa l.length xc, .int .i64 (pos' : Int)], .int .i64 er]) (by simp [results, Try.results88, go_sem, c40, c41, c42, c43, c50, c51]) rfl ⟨⟨.slice g0 E'.va.length t0, .slice g1 E'.fi.length t1, .slice g2 E'.me.length t2, .slice g3 E'.pl.length t3⟩, by rw [HR2.out], hxz, vs', by rw [HR2.out]; exact hoz⟩
    · obtain rfl : k = x.ex.length := by omega
      have HR2 : Hid (R = (0, E', pos')) := Lib.hid (HRES.out.trans Ps.exAll_end)
      have kb2 := K2.out
      have kb3 := K3.out
      have kb4 := K4.out
      have kb5 := K5.out
      have v20 : wo.cell? ⟨W.heap.size + 1 + 1, 0, none⟩ = some (.slice g0 E'.va.length t0) := cell_of kb2
      have v21 : wo.cell? ⟨W.heap.size + 1 + 1, 1, none⟩ = some (.slice g1 E'.fi.length t1) := cell_of kb2
      have v22 : wo.cell? ⟨W.heap.size + 1 + 1, 2, none⟩ = some (.slice g2 E'.me.length t2) := cell_of kb2
      have v23 : wo.cell? ⟨W.heap.size + 1 + 1, 3, none⟩ = some (.slice g3 E'.pl.length t3) := cell_of kb2
      have v30 : wo.cell? ⟨W.heap.size + 1 + 1 + 1, 0, none⟩ = some (.slice xa l.length xc) := cell_of kb3
      have v31 : wo.cell? ⟨W.heap.size + 1 + 1 + 1, 1, none⟩ = some (.int .i64 pos') := cell_of kb3
      have v40 : wo.cell? ⟨W.heap.size + 1 + 1 + 1 + 1, 0, none⟩ = some (.slice none 0 0) := cell_of kb4
      have f40 : wo.frozen? ⟨W.heap.size + 1 + 1 + 1 + 1, 0, none⟩ = false := free_of kb4
      have v41 : wo.cell? ⟨W.heap.size + 1 + 1 + 1 + 1, 1, none⟩ = some (.slice none 0 0) := cell_of kb4
      have f41 : wo.frozen? ⟨W.heap.size + 1 + 1 + 1 + 1, 1, none⟩ = false := free_of kb4
      have v42 : wo.cell? ⟨W.heap.size + 1 + 1 + 1 + 1, 2, none⟩ = some (.slice none 0 0) := cell_of kb4
      have f42 : wo.frozen? ⟨W.heap.size + 1 + 1 + 1 + 1, 2, none⟩ = false := free_of kb4
      have v43 : wo.cell? ⟨W.heap.size + 1 + 1 + 1 + 1, 3, none⟩ = some (.slice none 0 0) := cell_of kb4
      have f43 : wo.frozen? ⟨W.heap.size + 1 + 1 + 1 + 1, 3, none⟩ = false := free_of kb4
      have v50 : wo.cell? ⟨W.heap.size + 1 + 1 + 1 + 1 + 1, 0, none⟩ = some (.slice none 0 0) := cell_of kb5
      have f50 : wo.frozen? ⟨W.heap.size + 1 + 1 + 1 + 1 + 1, 0, none⟩ = false := free_of kb5
      have v51 : wo.cell? ⟨W.heap.size + 1 + 1 + 1 + 1 + 1, 1, none⟩ = some (.int .i64 0) := cell_of kb5
      have f51 : wo.frozen? ⟨W.heap.size + 1 + 1 + 1 + 1 + 1, 1, none⟩ = false := free_of kb5
      have KD4 := Lib.hid kb4
      have KD5 := Lib.hid kb5
      have OD := Lib.hid IE.out
      clear kb2 kb3 kb4 kb5
      go_wp2_with fail
      go_region
      all_goals (try go_wp2_with fail)
      obtain ⟨tw1, tw2⟩ := tower4 (.slice g0 E'.va.length t0) (.slice g1 E'.fi.length t1) (.slice g2 E'.me.length t2) (.slice g3 E'.pl.length t3) KD4.out
      have ta5 := tw1.heap KD5.out (by omega)
      obtain ⟨sy1, sy2⟩ := set2 (a' := .slice xa l.length xc) (b' := .int .i64 (pos' : Int)) ta5
      have ta4 := sy2.heap tw2 (by omega)
      obtain ⟨wy, hwy⟩ : ∃ z, z = ((((((wo.setCell ⟨W.heap.size + 1 + 1 + 1 + 1, 0, none⟩ (.slice g0 E'.va.length t0)).setCell ⟨W.heap.size + 1 + 1 + 1 + 1, 1, none⟩ (.slice g1 E'.fi.length t1)).setCell ⟨W.heap.size + 1 + 1 + 1 + 1, 2, none⟩ (.slice g2 E'.me.length t2)).setCell ⟨W.heap.size + 1 + 1 + 1 + 1, 3, none⟩ (.slice g3 E'.pl.length t3)).setCell ⟨W.heap.size + 1 + 1 + 1 + 1 + 1, 0, none⟩ (.slice xa l.length xc)).setCell ⟨W.heap.size + 1 + 1 + 1 + 1 + 1, 1, none⟩ (.int .i64 (pos' : Int))) := ⟨_, rfl⟩
      rw [← hwy] at sy1 sy2 ta4 ⊢
      have sy3 : wy.drew.heap[W.heap.size + 1 + 1 + 1 + 1 + 1]? = some (.cells #[.slice xa l.length xc, .int .i64 (pos' : Int)] 124 (0, 0)) := sy1
      have ta6 : wy.drew.heap[W.heap.size + 1 + 1 + 1 + 1]? = some (.cells #[.slice g0 E'.va.length t0, .slice g1 E'.fi.length t1, .slice g2 E'.me.length t2, .slice g3 E'.pl.length t3] 37 (0, 0)) := ta4
      have c40 : wy.drew.cell? ⟨W.heap.size + 1 + 1 + 1 + 1, 0, none⟩ = some (.slice g0 E'.va.length t0) := cell_of ta6
      have c41 : wy.drew.cell? ⟨W.heap.size + 1 + 1 + 1 + 1, 1, none⟩ = some (.slice g1 E'.fi.length t1) := cell_of ta6
      have c42 : wy.drew.cell? ⟨W.heap.size + 1 + 1 + 1 + 1, 2, none⟩ = some (.slice g2 E'.me.length t2) := cell_of ta6
      have c43 : wy.drew.cell? ⟨W.heap.size + 1 + 1 + 1 + 1, 3, none⟩ = some (.slice g3 E'.pl.length t3) := cell_of ta6
      have c50 : wy.drew.cell? ⟨W.heap.size + 1 + 1 + 1 + 1 + 1, 0, none⟩ = some (.slice xa l.length xc) := cell_of sy3
      have c51 : wy.drew.cell? ⟨W.heap.size + 1 + 1 + 1 + 1 + 1, 1, none⟩ = some (.int .i64 (pos' : Int)) := cell_of sy3
      have hoz := ((OD.out.box tw1 KD4.out).beside sy2 ta5 (by decide) (by decide) (by decide) (by decide)).ext ((Ext.refl wy).drew)
      have hxz := ((HX.out.mod tw1 (fun q hq => by rw [hq]; omega)).mod sy2 (fun q hq => by rw [hq]; omega)).drew
      exact bodyPost_ret (v := .tuple #[.agg #[.slice g0 E'.va.length t0, .slice g1 E'.fi.length t1, .slice g2 E'.me.length t2, .slice g3 E'.pl.length t3], .agg #[.slice xa l.length xc, .int .i64 (pos' : Int)], .int .i64 0]) (by simp [results, Try.results88, go_sem, c40, c41, c42, c43, c50, c51]) rfl ⟨⟨.slice g0 E'.va.length t0, .slice g1 E'.fi.length t1, .slice g2 E'.me.length t2, .slice g3 E'.pl.length t3⟩, by rw [HR2.out], hxz, vs', by rw [HR2.out]; exact hoz⟩
end Go.Proofs.Ytonnlcjkgpahoaa
