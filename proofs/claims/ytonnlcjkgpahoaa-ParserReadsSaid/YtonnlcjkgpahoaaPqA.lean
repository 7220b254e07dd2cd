/- Programs and environments: Width, Check and their references, walked. No condition. -/
import Derived.Test.YtonnlcjkgpahoaaHd4
import Derived.Test.YtonnlcjkgpahoaaHdL
namespace Go.Proofs.Ytonnlcjkgpahoaa
open Go.RowKit

/-- a slice of integers of kind k, and how long it may be -/
def Ns (k : IntKind) (w : World) (v : Value) (l : List Int) : Prop := Src w v 1 l.length (l.map (.int k)) ∧ l.length ≤ maxLen
def Bs (w : World) (v : Value) (l : List Bool) : Prop := Src w v 1 l.length (l.map .bool) ∧ l.length ≤ maxLen
theorem Ns.ext {k : IntKind} {w w' : World} {v : Value} {l : List Int} (h : Ns k w v l) (hx : Ext w w') : Ns k w' v l := ⟨h.1.ext hx, h.2⟩
theorem Bs.ext {w w' : World} {v : Value} {l : List Bool} (h : Bs w v l) (hx : Ext w w') : Bs w' v l := ⟨h.1.ext hx, h.2⟩
def U32 (x : Int) : Prop := 0 ≤ x ∧ x < 4294967296
/-- a row of values: the cell that holds it -/
def RowR (w : World) (cs : List Value) (l : List Int) : Prop := ∃ v, cs = [v] ∧ Ns .u32 w v l ∧ ∀ x ∈ l, U32 x
theorem RowR.ext {w w' : World} {cs : List Value} {l : List Int} (h : RowR w cs l) (hx : Ext w w') : RowR w' cs l := by
  obtain ⟨v, h1, h2, h3⟩ := h; exact ⟨v, h1, h2.ext hx, h3⟩
namespace Pg
structure Env where
  va : List Bool
  fi : List (List Int)
  me : List Int
  pl : List Int
structure EV where
  c0 : Value
  c1 : Value
  c2 : Value
  c3 : Value
def IsE (w : World) (e : EV) (E : Env) : Prop := Bs w e.c0 E.va ∧ Rows w 1 RowR e.c1 E.fi ∧ (Ns .u32 w e.c2 E.me ∧ ∀ x ∈ E.me, U32 x) ∧ (Ns .u8 w e.c3 E.pl ∧ Io.Bytes E.pl)
theorem IsE.ext {w w' : World} {e : EV} {E : Env} (h : IsE w e E) (hx : Ext w w') : IsE w' e E :=
  ⟨h.1.ext hx, h.2.1.ext (fun _ _ h => h.ext hx) hx, ⟨h.2.2.1.1.ext hx, h.2.2.1.2⟩, ⟨h.2.2.2.1.ext hx, h.2.2.2.2⟩⟩
abbrev EV.val (e : EV) : Value := .agg #[e.c0, e.c1, e.c2, e.c3]
structure Prog where
  hs : List Hd.Hdr
  md : List Hd.Fld
  dp : List Int
structure PV where
  c0 : Value
  c1 : Value
  c2 : Value
  c3 : Value
  c4 : Value
  c5 : Value
  c6 : Value
  c7 : Value
  c8 : Value
abbrev PV.val (p : PV) : Value := .agg #[p.c0, p.c1, p.c2, p.c3, p.c4, p.c5, p.c6, p.c7, p.c8]
def Sl (v : Value) : Prop := ∃ a n c, v = .slice a n c
def IsP (w : World) (p : PV) (P : Prog) : Prop := (∃ s, p.c0 = .string s) ∧ Rows w 2 Hd.HdrR p.c1 P.hs ∧ Hd.Flds w p.c2 P.md ∧ Sl p.c3 ∧ Sl p.c4 ∧ Sl p.c5 ∧ Sl p.c6 ∧ Sl p.c7 ∧ Ns .i64 w p.c8 P.dp
theorem IsP.ext {w w' : World} {p : PV} {P : Prog} (h : IsP w p P) (hx : Ext w w') : IsP w' p P := by
  obtain ⟨h0, h1, h2, h3, h4, h5, h6, h7, h8⟩ := h
  exact ⟨h0, h1.ext (fun _ _ h => h.ext hx) hx, h2.ext hx, h3, h4, h5, h6, h7, h8.ext hx⟩
/-- the fields of a header, or the metadata -/
def hdrAt (hs : List Hd.Hdr) (h : Int) : Hd.Hdr := if 0 ≤ h then hs.getD h.toNat (⟨#[]⟩, []) else (⟨#[]⟩, [])
def fldAt (fs : List Hd.Fld) (f : Int) : Hd.Fld := if 0 ≤ f then fs.getD f.toNat (⟨#[]⟩, 0) else (⟨#[]⟩, 0)
def flds (P : Prog) (h : Int) : List Hd.Fld := if h = -1 then P.md else (hdrAt P.hs h).2
def wid (P : Prog) (h f : Int) : Int := if Bv.ok (fldAt (flds P h) f).2 then (fldAt (flds P h) f).2 else 0
def shB (P : Prog) (E : Env) : Bool := decide (E.va.length = P.hs.length) && decide (E.fi.length = P.hs.length) && decide (E.me.length = P.md.length) && (List.range E.fi.length).all fun h => decide ((E.fi.getD h []).length = (P.hs.getD h (⟨#[]⟩, [])).2.length)
def fitB (P : Prog) (h : Int) (l : List Int) : Bool := (List.range l.length).all fun i => decide (l.getD i 0 ≤ Bv.mask (wid P h i))
def zeroB (l : List Int) : Bool := (List.range l.length).all fun i => l.getD i 0 == 0
def fitsB (P : Prog) (E : Env) : Bool := (List.range E.fi.length).all fun h => fitB P h (E.fi.getD h [])
def cleanB (E : Env) : Bool := (List.range E.fi.length).all fun h => E.va.getD h false || zeroB (E.fi.getD h [])
def chkE (P : Prog) (E : Env) : Int := if shB P E then (if fitB P (-1) E.me then (if fitsB P E then (if cleanB E then 0 else 5) else 9) else 9) else 2
theorem all_no {p : Nat → Bool} {n k : Nat} (hk : k < n) (h : p k = false) : (List.range n).all p = false := by
  rw [← Bool.not_eq_true, List.all_eq_true]
  intro ha
  have := ha k (List.mem_range.2 hk)
  rw [h] at this; cases this
theorem all_yes {p : Nat → Bool} {n : Nat} (h : ∀ j, j < n → p j = true) : (List.range n).all p = true :=
  List.all_eq_true.2 fun j hj => h j (List.mem_range.1 hj)
end Pg
end Go.Proofs.Ytonnlcjkgpahoaa
namespace Go.Proofs.Ytonnlcjkgpahoaa
open Go.RowKit

namespace Pg
theorem fldAt_in {fs : List Hd.Fld} {k : Nat} {nm : ByteArray} {x : Int} (h : fs[k]? = some (nm, x)) : fldAt fs k = (nm, x) := by
  unfold fldAt; rw [if_pos (by omega), Int.toNat_natCast, List.getD_eq_getElem?_getD, h]; rfl
theorem fldAt_out {fs : List Hd.Fld} {i : Int} (h : i < 0 ∨ (fs.length : Int) ≤ i) : fldAt fs i = (⟨#[]⟩, 0) := by
  unfold fldAt
  by_cases h0 : 0 ≤ i
  · rw [if_pos h0, List.getD_eq_getElem?_getD, List.getElem?_eq_none (by omega)]; rfl
  · rw [if_neg h0]
theorem hdrAt_in {hs : List Hd.Hdr} {k : Nat} {h : Hd.Hdr} (e : hs[k]? = some h) : hdrAt hs k = h := by
  unfold hdrAt; rw [if_pos (by omega), Int.toNat_natCast, List.getD_eq_getElem?_getD, e]; rfl
theorem hdrAt_out {hs : List Hd.Hdr} {i : Int} (h : i < 0 ∨ (hs.length : Int) ≤ i) : hdrAt hs i = (⟨#[]⟩, []) := by
  unfold hdrAt
  by_cases h0 : 0 ≤ i
  · rw [if_pos h0, List.getD_eq_getElem?_getD, List.getElem?_eq_none (by omega)]; rfl
  · rw [if_neg h0]
end Pg

set_option maxRecDepth 8000 in
theorem atField_any {W : World} {v : Value} {fs : List Hd.Fld} (hs : Hd.Flds W v fs) (i : Int) :
    Calls Try.prog 101 #[v, .int .i64 i] W (Rets W (.agg #[.string (Pg.fldAt fs i).1, .int .i64 (Pg.fldAt fs i).2])) := by
  obtain ⟨oa, c, rfl, hlc, hcm⟩ := hs.slice
  unfold maxLen at hcm
  by_cases hin : 0 ≤ i ∧ i < fs.length
  · obtain ⟨h0, h1⟩ := hin
    obtain ⟨k, rfl⟩ := Int.eq_ofNat_of_zero_le h0
    have hlt : k < fs.length := by omega
    obtain ⟨⟨nk, x⟩, hxk⟩ : ∃ x, fs[k]? = some x := ⟨_, List.getElem?_eq_getElem hlt⟩
    obtain ⟨b, o, hoa, _, _⟩ := Rows.at hs (by omega)
    subst hoa
    obtain ⟨f0, f1, hns, hx1, hx2⟩ := flds_at hs k nk x hxk rfl
    rw [Pg.fldAt_in hxk]
    clear hxk hs
    go_enter Try.func101, Try.ntmps101
    go_wp2_with fail
    exact bodyPost_ret (v := .agg #[.string nk, .int .i64 x]) (by simp [results, Try.results101, go_sem]) rfl ⟨rfl, ((Ext.refl W).alloc _).alloc _⟩
  · have hout : i < 0 ∨ (fs.length : Int) ≤ i := by omega
    rw [Pg.fldAt_out hout]
    clear hs hin
    rcases (show i < 0 ∨ (0 ≤ i ∧ (fs.length : Int) ≤ i) by omega) with h0 | ⟨h0, h1⟩
    all_goals
      clear hout
      go_enter Try.func101, Try.ntmps101
      go_wp2_with fail
      exact bodyPost_ret (v := .agg #[.string ⟨#[]⟩, .int .i64 0]) (by simp [results, Try.results101, go_sem]) rfl ⟨rfl, ((Ext.refl W).alloc _).alloc _⟩

theorem hdrs_at {w : World} {b o n c : Nat} {hs : List Hd.Hdr} {oa : Option Addr} (h : Rows w 2 Hd.HdrR (.slice oa n c) hs) (k : Nat) (nm : ByteArray) (fs : List Hd.Fld) (hk : hs[k]? = some (nm, fs)) (hoa : oa = some ⟨b, o, none⟩) :
    ∃ fa fc, (∀ w' [Grows w w'], w'.cell? ⟨b, o + k * 2, none⟩ = some (.string nm)) ∧ (∀ w' [Grows w w'], w'.cell? ⟨b, o + k * 2 + 1, none⟩ = some (.slice fa fs.length fc)) ∧ nm.size ≤ maxLen ∧ Hd.Flds w (.slice fa fs.length fc) fs ∧ fs.length ≤ fc ∧ fc ≤ maxLen := by
  have hlt := (List.getElem?_eq_some_iff.1 hk).1
  obtain ⟨b', o', hb, hn, hc⟩ := Rows.at h (by omega)
  rw [hb] at hoa
  simp only [Option.some.injEq, Addr.mk.injEq, and_true] at hoa
  obtain ⟨rfl, rfl⟩ := hoa
  obtain ⟨cs, _, ⟨fv, rfl, h1, h2⟩, hcs⟩ := hc k _ hk
  obtain ⟨fa, fc, rfl, h3, h4⟩ := h2.slice
  exact ⟨fa, fc, alw (hcs 0 _ rfl), alw (hcs 1 _ rfl), h1, h2, h3, h4⟩

set_option maxRecDepth 8000 in
theorem atHeader_any {W : World} {v : Value} {hs : List Hd.Hdr} (hr : Rows W 2 Hd.HdrR v hs) (i : Int) :
    ∃ u, Hd.Flds W u (Pg.hdrAt hs i).2 ∧ ∀ w, Ext W w → Calls Try.prog 112 #[v, .int .i64 i] w (Rets w (.agg #[.string (Pg.hdrAt hs i).1, u])) := by
  obtain ⟨oa, c, rfl, hlc, hcm⟩ := hr.slice
  unfold maxLen at hcm
  by_cases hin : 0 ≤ i ∧ i < hs.length
  · obtain ⟨h0, h1⟩ := hin
    obtain ⟨k, rfl⟩ := Int.eq_ofNat_of_zero_le h0
    have hlt : k < hs.length := by omega
    obtain ⟨⟨nk, fs⟩, hxk⟩ : ∃ x, hs[k]? = some x := ⟨_, List.getElem?_eq_getElem hlt⟩
    obtain ⟨b, o, hoa, _, _⟩ := Rows.at hr (by omega)
    subst hoa
    obtain ⟨fa, fc, f0, f1, hns, hf, _, _⟩ := hdrs_at hr k nk fs hxk rfl
    rw [Pg.hdrAt_in hxk]
    refine ⟨_, hf, fun w hx => ?_⟩
    have sx : Step W w := ⟨hx⟩
    clear hxk hr hf
    go_enter Try.func112, Try.ntmps112
    go_wp2_with fail
    exact bodyPost_ret (v := .agg #[.string nk, .slice fa fs.length fc]) (by simp [results, Try.results112, go_sem]) rfl ⟨rfl, ((Ext.refl w).alloc _).alloc _⟩
  · have hout : i < 0 ∨ (hs.length : Int) ≤ i := by omega
    rw [Pg.hdrAt_out hout]
    refine ⟨_, Hd.flds_nil W, fun w hx => ?_⟩
    clear hr hin hx
    rcases (show i < 0 ∨ (0 ≤ i ∧ (hs.length : Int) ≤ i) by omega) with h0 | ⟨h0, h1⟩
    all_goals
      clear hout
      go_enter Try.func112, Try.ntmps112
      go_wp2_with fail
      exact bodyPost_ret (v := .agg #[.string ⟨#[]⟩, .slice none 0 0]) (by simp [results, Try.results112, go_sem]) rfl ⟨rfl, ((Ext.refl w).alloc _).alloc _⟩

namespace Pg
/-- the nine values of a program -/
structure Form (w : World) (p : PV) (P : Prog) (s : ByteArray) (a1 a2 a3 a4 a5 a6 a7 a8 : Option Addr) (m1 m2 n3 m3 n4 m4 n5 m5 n6 m6 n7 m7 m8 : Nat) : Prop where
  e : p = ⟨.string s, .slice a1 P.hs.length m1, .slice a2 P.md.length m2, .slice a3 n3 m3, .slice a4 n4 m4, .slice a5 n5 m5, .slice a6 n6 m6, .slice a7 n7 m7, .slice a8 P.dp.length m8⟩
  hs : Rows w 2 Hd.HdrR (.slice a1 P.hs.length m1) P.hs
  md : Hd.Flds w (.slice a2 P.md.length m2) P.md
  dp : Ns .i64 w (.slice a8 P.dp.length m8) P.dp
  l1 : P.hs.length ≤ m1 ∧ m1 ≤ 9223372036854775807
  l2 : P.md.length ≤ m2 ∧ m2 ≤ 9223372036854775807
  l8 : P.dp.length ≤ 9223372036854775807
theorem IsP.form {w : World} {p : PV} {P : Prog} (h : IsP w p P) : ∃ s a1 a2 a3 a4 a5 a6 a7 a8 m1 m2 n3 m3 n4 m4 n5 m5 n6 m6 n7 m7 m8, Form w p P s a1 a2 a3 a4 a5 a6 a7 a8 m1 m2 n3 m3 n4 m4 n5 m5 n6 m6 n7 m7 m8 := by
  obtain ⟨c0, c1, c2, c3, c4, c5, c6, c7, c8⟩ := p
  obtain ⟨⟨s, h0⟩, h1, h2, ⟨a3, n3, m3, h3⟩, ⟨a4, n4, m4, h4⟩, ⟨a5, n5, m5, h5⟩, ⟨a6, n6, m6, h6⟩, ⟨a7, n7, m7, h7⟩, h8⟩ := h
  dsimp only at h0 h1 h2 h3 h4 h5 h6 h7 h8
  subst h0 h3 h4 h5 h6 h7
  obtain ⟨a1, m1, rfl, l1, l1'⟩ := h1.slice
  obtain ⟨a2, m2, rfl, l2, l2'⟩ := h2.slice
  obtain ⟨a8, m8, rfl, _⟩ := h8.1.slice
  have := h8.2
  unfold maxLen at l1' l2' this
  exact ⟨s, a1, a2, a3, a4, a5, a6, a7, a8, m1, m2, n3, m3, n4, m4, n5, m5, n6, m6, n7, m7, m8, ⟨rfl, h1, h2, h8, ⟨l1, by omega⟩, ⟨l2, by omega⟩, by omega⟩⟩
end Pg

theorem field_hdr (s : ByteArray) (a : Option Addr) (n c : Nat) (w : World) : (Instr.field 72 (.agg #[.string s, .slice a n c]) 1).run Try.prog w = .ok (.slice a n c) w := by kernel_rfl
theorem field_fld (s : ByteArray) (x : Int) (w : World) : (Instr.field 84 (.agg #[.string s, .int .i64 x]) 1).run Try.prog w = .ok (.int .i64 x) w := by kernel_rfl

set_option maxRecDepth 8000 in
theorem fields_any {W : World} {p : Pg.PV} {P : Pg.Prog} (hp : Pg.IsP W p P) (i : Int) :
    ∃ u, Hd.Flds W u (Pg.flds P i) ∧ ∀ w, Ext W w → Calls Try.prog 102 #[p.val, .int .i64 i] w (Rets w u) := by
  obtain ⟨s, a1, a2, a3, a4, a5, a6, a7, a8, m1, m2, n3, m3, n4, m4, n5, m5, n6, m6, n7, m7, m8, hf⟩ := hp.form
  obtain ⟨rfl, hhs, hmd, _, _, _, _⟩ := hf
  by_cases hi : i = -1
  · refine ⟨_, by unfold Pg.flds; rw [if_pos hi]; exact hmd, fun w hx => ?_⟩
    subst hi
    dsimp only [Pg.PV.val]
    have bb := alloc_heap w (.cells #[.string s, .slice a1 P.hs.length m1, .slice a2 P.md.length m2, .slice a3 n3 m3, .slice a4 n4 m4, .slice a5 n5 m5, .slice a6 n6 m6, .slice a7 n7 m7, .slice a8 P.dp.length m8] 31)
    have k2 := alw (cell_of (o := 2) bb)
    clear bb hp hhs hmd hx
    go_enter Try.func102, Try.ntmps102
    go_wp2_with fail
    go_ret
    exact ⟨rfl, grows⟩
  · obtain ⟨u, hu, hc⟩ := atHeader_any hhs i
    obtain ⟨ua, uc, rfl, _, _⟩ := hu.slice
    refine ⟨_, by unfold Pg.flds; rw [if_neg hi]; exact hu, fun w hx => ?_⟩
    have hib : (i == -1) = false := by rw [beq_eq_false_iff_ne]; exact hi
    dsimp only [Pg.PV.val]
    have bb := alloc_heap w (.cells #[.string s, .slice a1 P.hs.length m1, .slice a2 P.md.length m2, .slice a3 n3 m3, .slice a4 n4 m4, .slice a5 n5 m5, .slice a6 n6 m6, .slice a7 n7 m7, .slice a8 P.dp.length m8] 31)
    have k1 := alw (cell_of (o := 1) bb)
    have HC := Lib.hid hc
    have HX := Lib.hid hx
    have hfh := field_hdr
    clear bb hp hhs hmd hu hc hi hx
    go_enter Try.func102, Try.ntmps102
    go_wp2_with fail
    refine (HC.out _ (HX.out.trans grows)).mono ?_
    rintro e w1 ⟨rfl, x1⟩
    have s1 := Step.mk x1
    go_wp2_with fail
    go_ret
    exact ⟨rfl, grows⟩
theorem mask_zero {w : Int} : (Bv.mask w == 0) = !(Bv.ok w) := by
  cases h : Bv.ok w
  · simp [Bv.mask, h]
  · have h1 := Bv.ok_iff.1 h
    have h2 : (1 : Int) < Bv.pw w := by
      have := Bv.pw_lt (a := 0) (b := w) (by decide) (by omega)
      simpa [Bv.pw] using this
    simp [Bv.mask, h]; omega
set_option maxRecDepth 8000 in
theorem width_any {W : World} {p : Pg.PV} {P : Pg.Prog} (hp : Pg.IsP W p P) (h f : Int) :
    Calls Try.prog 77 #[p.val, .agg #[.int .i64 h, .int .i64 f]] W (Rets W (.int .i64 (Pg.wid P h f))) := by
  obtain ⟨u, hu, hc⟩ := fields_any hp h
  obtain ⟨ua, uc, rfl, _, _⟩ := hu.slice
  have HP := Lib.hid hp
  obtain ⟨s, a1, a2, a3, a4, a5, a6, a7, a8, m1, m2, n3, m3, n4, m4, n5, m5, n6, m6, n7, m7, m8, hf⟩ := hp.form
  obtain ⟨rfl, hhs, hmd, _, _, _, _⟩ := hf
  have HC := Lib.hid hc
  have HU := Lib.hid hu
  dsimp only [Pg.PV.val] at HC ⊢
  have bb := alloc_heap W (.cells #[.string s, .slice a1 P.hs.length m1, .slice a2 P.md.length m2, .slice a3 n3 m3, .slice a4 n4 m4, .slice a5 n5 m5, .slice a6 n6 m6, .slice a7 n7 m7, .slice a8 P.dp.length m8] 31)
  have k0 := alw (cell_of (o := 0) bb)
  have k1 := alw (cell_of (o := 1) bb)
  have k2 := alw (cell_of (o := 2) bb)
  have k3 := alw (cell_of (o := 3) bb)
  have k4 := alw (cell_of (o := 4) bb)
  have k5 := alw (cell_of (o := 5) bb)
  have k6 := alw (cell_of (o := 6) bb)
  have k7 := alw (cell_of (o := 7) bb)
  have k8 := alw (cell_of (o := 8) bb)
  have b2 := alloc_heap (W.alloc (.cells #[.string s, .slice a1 P.hs.length m1, .slice a2 P.md.length m2, .slice a3 n3 m3, .slice a4 n4 m4, .slice a5 n5 m5, .slice a6 n6 m6, .slice a7 n7 m7, .slice a8 P.dp.length m8] 31)) (.cells #[.int .i64 h, .int .i64 f] 58)
  rw [World.size_alloc] at b2
  have j0 := alw (cell_of (o := 0) b2)
  have j1 := alw (cell_of (o := 1) b2)
  obtain ⟨x, hx⟩ : ∃ x, x = (Pg.fldAt (Pg.flds P h) f).2 := ⟨_, rfl⟩
  have HXE := Lib.hid hx
  have hm := mask_zero (w := x)
  have hff := field_fld
  clear bb b2 hp hhs hmd hu hc hx
  cases hk : Bv.ok x
  all_goals
    rw [hk] at hm
    have HK := Lib.hid hk
    clear hk
    go_enter Try.func77, Try.ntmps77
    go_wp2_with fail
    refine wp_region_later (W := (W.alloc (.cells #[.string s, .slice a1 P.hs.length m1, .slice a2 P.md.length m2, .slice a3 n3 m3, .slice a4 n4 m4, .slice a5 n5 m5, .slice a6 n6 m6, .slice a7 n7 m7, .slice a8 P.dp.length m8] 31)).alloc (.cells #[.int .i64 h, .int .i64 f] 58)) (by kernel_rfl) (by kernel_rfl) (Ext.refl _) ?_
    repeat (go_big_quiet_step (first
      | (go_at_call 102; exact Rets.later_at (HC.out _ grows))
      | (go_at_call 101; exact Rets.later_at (atField_any (Hd.Flds.ext HU.out grows) _))))
    refine wpQuiet_nil ?_
    intro w3 hx3
    have s3 := Step.mk hx3
    rw [← HXE.out]
    go_wp2_with fail
    refine (mask_any x w3).mono ?_
    rintro e w4 ⟨rfl, x4⟩
    have s4 : Step w3 w4 := ⟨x4⟩
    go_wp2_with fail
    go_ret
    exact ⟨by unfold Pg.wid; rw [← HXE.out, HK.out]; rfl, grows⟩
end Go.Proofs.Ytonnlcjkgpahoaa
namespace Go.Proofs.Ytonnlcjkgpahoaa
open Go.RowKit

namespace Pg
theorem wid_out {P : Prog} {h f : Int} {fs : List Hd.Fld} (e : flds P h = fs) (hf : f < 0 ∨ (fs.length : Int) ≤ f) : wid P h f = 0 := by
  unfold wid; rw [e, fldAt_out hf]; rfl
theorem wid_in {P : Prog} {h : Int} {k : Nat} {fs : List Hd.Fld} {nm : ByteArray} {x : Int} (e : flds P h = fs) (hk : fs[k]? = some (nm, x)) : wid P h k = if Bv.ok x then x else 0 := by
  unfold wid; rw [e, fldAt_in hk]
end Pg

set_option maxRecDepth 8000 in
set_option maxHeartbeats 1000000 in
theorem rwidth_any {W : World} {p : Pg.PV} {P : Pg.Prog} (hp : Pg.IsP W p P) (h f : Int) :
    Calls Try.prog 59 #[p.val, .agg #[.int .i64 h, .int .i64 f]] W (Rets W (.int .i64 (Pg.wid P h f))) := by
  obtain ⟨s, a1, a2, a3, a4, a5, a6, a7, a8, m1, m2, n3, m3, n4, m4, n5, m5, n6, m6, n7, m7, m8, hf⟩ := hp.form
  obtain ⟨rfl, hhs, hmd, _, hl1, hl2, _⟩ := hf
  dsimp only [Pg.PV.val]
  have bb := alloc_heap W (.cells #[.string s, .slice a1 P.hs.length m1, .slice a2 P.md.length m2, .slice a3 n3 m3, .slice a4 n4 m4, .slice a5 n5 m5, .slice a6 n6 m6, .slice a7 n7 m7, .slice a8 P.dp.length m8] 31)
  have k1 := alw (cell_of (o := 1) bb)
  have k2 := alw (cell_of (o := 2) bb)
  have b2 := alloc_heap (W.alloc (.cells #[.string s, .slice a1 P.hs.length m1, .slice a2 P.md.length m2, .slice a3 n3 m3, .slice a4 n4 m4, .slice a5 n5 m5, .slice a6 n6 m6, .slice a7 n7 m7, .slice a8 P.dp.length m8] 31)) (.cells #[.int .i64 h, .int .i64 f] 58)
  rw [World.size_alloc] at b2
  have j0 := alw (cell_of (o := 0) b2)
  have j1 := alw (cell_of (o := 1) b2)
  clear bb b2 hp
  by_cases h0 : 0 ≤ h
  · by_cases h1 : h < P.hs.length
    · obtain ⟨q, rfl⟩ := Int.eq_ofNat_of_zero_le h0
      obtain ⟨⟨hn, fs⟩, hxk⟩ : ∃ x, P.hs[q]? = some x := ⟨_, List.getElem?_eq_getElem (by omega)⟩
      obtain ⟨b, o, hoa, _, _⟩ := Rows.at hhs (by omega)
      subst hoa
      obtain ⟨fa, fc, f0, f1, hns, hfl, hfc, hfm⟩ := hdrs_at hhs q hn fs hxk rfl
      have he : Pg.flds P q = fs := by unfold Pg.flds; rw [if_neg (by omega), Pg.hdrAt_in hxk]
      have HE := Lib.hid he
      have HFL := Lib.hid hfl
      unfold maxLen at hfm
      clear hxk hhs hmd he hfl
      by_cases hf0 : 0 ≤ f ∧ f < fs.length
      · obtain ⟨g0, g1⟩ := hf0
        obtain ⟨k, rfl⟩ := Int.eq_ofNat_of_zero_le g0
        obtain ⟨⟨nk, x⟩, hxk⟩ : ∃ x, fs[k]? = some x := ⟨_, List.getElem?_eq_getElem (by omega)⟩
        obtain ⟨b', o', hoa, _, _⟩ := Rows.at HFL.out (by omega)
        subst hoa
        obtain ⟨e0, e1, _, hx1, hx2⟩ := flds_at HFL.out k nk x hxk rfl
        have HWI := Lib.hid (Pg.wid_in HE.out hxk)
        clear hxk
        rcases (show x < 1 ∨ (1 ≤ x ∧ 32 < x) ∨ (1 ≤ x ∧ x ≤ 32) by omega) with hx | ⟨hx, hy⟩ | ⟨hx, hy⟩
        · have HR := Lib.hid (HWI.out.trans (if_neg (by rw [Bv.not_ok (by omega)]; decide)))
          go_enter Try.func59, Try.ntmps59
          go_wp2_with fail
          go_ret
          exact ⟨ret_int (by rw [HR.out]), grows⟩
        · have HR := Lib.hid (HWI.out.trans (if_neg (by rw [Bv.not_ok (by omega)]; decide)))
          go_enter Try.func59, Try.ntmps59
          go_wp2_with fail
          go_ret
          exact ⟨ret_int (by rw [HR.out]), grows⟩
        · have HR := Lib.hid (HWI.out.trans (if_pos (Bv.ok_of hx hy)))
          go_enter Try.func59, Try.ntmps59
          go_wp2_with fail
          go_ret
          exact ⟨ret_int (by rw [HR.out]), grows⟩
      · have HR := Lib.hid (Pg.wid_out HE.out (f := f) (by omega))
        rcases (show f < 0 ∨ (0 ≤ f ∧ (fs.length : Int) ≤ f) by omega) with g0 | ⟨g0, g1⟩
        all_goals
          clear hf0
          go_enter Try.func59, Try.ntmps59
          go_wp2_with fail
          go_ret
          exact ⟨ret_int (by rw [HR.out]), grows⟩
    · have h2 : (P.hs.length : Int) ≤ h := by omega
      have hr : Pg.wid P h f = 0 := by
        refine Pg.wid_out (fs := []) (by unfold Pg.flds; rw [if_neg (by omega), Pg.hdrAt_out (.inr h2)]) ?_
        simp; omega
      have HR := Lib.hid hr
      clear hr hhs hmd
      go_enter Try.func59, Try.ntmps59
      go_wp2_with fail
      go_ret
      exact ⟨ret_int (by rw [HR.out]), grows⟩
  · by_cases hm1 : h = -1
    · subst hm1
      have he : Pg.flds P (-1) = P.md := by unfold Pg.flds; rw [if_pos rfl]
      have HE := Lib.hid he
      have HFL := Lib.hid hmd
      clear hhs hmd he h0
      by_cases hf0 : 0 ≤ f ∧ f < P.md.length
      · obtain ⟨g0, g1⟩ := hf0
        obtain ⟨k, rfl⟩ := Int.eq_ofNat_of_zero_le g0
        obtain ⟨⟨nk, x⟩, hxk⟩ : ∃ x, P.md[k]? = some x := ⟨_, List.getElem?_eq_getElem (by omega)⟩
        obtain ⟨b', o', hoa, _, _⟩ := Rows.at HFL.out (by omega)
        subst hoa
        obtain ⟨e0, e1, _, hx1, hx2⟩ := flds_at HFL.out k nk x hxk rfl
        have HWI := Lib.hid (Pg.wid_in HE.out hxk)
        clear hxk
        rcases (show x < 1 ∨ (1 ≤ x ∧ 32 < x) ∨ (1 ≤ x ∧ x ≤ 32) by omega) with hx | ⟨hx, hy⟩ | ⟨hx, hy⟩
        · have HR := Lib.hid (HWI.out.trans (if_neg (by rw [Bv.not_ok (by omega)]; decide)))
          go_enter Try.func59, Try.ntmps59
          go_wp2_with fail
          go_ret
          exact ⟨ret_int (by rw [HR.out]), grows⟩
        · have HR := Lib.hid (HWI.out.trans (if_neg (by rw [Bv.not_ok (by omega)]; decide)))
          go_enter Try.func59, Try.ntmps59
          go_wp2_with fail
          go_ret
          exact ⟨ret_int (by rw [HR.out]), grows⟩
        · have HR := Lib.hid (HWI.out.trans (if_pos (Bv.ok_of hx hy)))
          go_enter Try.func59, Try.ntmps59
          go_wp2_with fail
          go_ret
          exact ⟨ret_int (by rw [HR.out]), grows⟩
      · have HR := Lib.hid (Pg.wid_out HE.out (f := f) (by omega))
        rcases (show f < 0 ∨ (0 ≤ f ∧ (P.md.length : Int) ≤ f) by omega) with g0 | ⟨g0, g1⟩
        all_goals
          clear hf0
          go_enter Try.func59, Try.ntmps59
          go_wp2_with fail
          go_ret
          exact ⟨ret_int (by rw [HR.out]), grows⟩
    · have h2 : h < -1 := by omega
      have hr : Pg.wid P h f = 0 := by
        refine Pg.wid_out (fs := []) (by unfold Pg.flds; rw [if_neg hm1, Pg.hdrAt_out (.inl (by omega))]) ?_
        simp; omega
      have HR := Lib.hid hr
      clear hr hhs hmd hm1 h0
      go_enter Try.func59, Try.ntmps59
      go_wp2_with fail
      go_ret
      exact ⟨ret_int (by rw [HR.out]), grows⟩

end Go.Proofs.Ytonnlcjkgpahoaa
namespace Go.Proofs.Ytonnlcjkgpahoaa
open Go.RowKit

theorem u32_get {l : List Int} {k : Nat} {x : Int} (h : l[k]? = some x) : (l.map (Value.int .u32))[k]? = some (.int .u32 x) := by simp [h]
theorem bool_get {l : List Bool} {k : Nat} {x : Bool} (h : l[k]? = some x) : (l.map Value.bool)[k]? = some (.bool x) := by simp [h]
/-- an element of a slice that is not empty -/
theorem ns_at {k : IntKind} {w : World} {oa : Option Addr} {n c : Nat} {l : List Int} (h : Ns k w (.slice oa n c) l) (hl : 0 < l.length) : ∃ b o, oa = some ⟨b, o, none⟩ ∧ ∀ j x, l[j]? = some x → ∀ w' [Grows w w'], w'.cell? ⟨b, o + j, none⟩ = some (.int k x) := by
  cases oa with
  | none =>
    rcases h.1.2.2 with ⟨_, h0⟩ | ⟨_, _, h0, _⟩
    · omega
    · simp at h0
  | some ad =>
    obtain ⟨ea, _, ca⟩ := h.1.at hl
    obtain ⟨ab, ao, asp⟩ := ad
    simp only [Addr.mk.injEq, true_and] at ea
    subst ea
    exact ⟨ab, ao, rfl, fun j x hj => alw (ca j _ (by simp [hj]))⟩
theorem bs_at {w : World} {oa : Option Addr} {n c : Nat} {l : List Bool} (h : Bs w (.slice oa n c) l) (hl : 0 < l.length) : ∃ b o, oa = some ⟨b, o, none⟩ ∧ ∀ j x, l[j]? = some x → ∀ w' [Grows w w'], w'.cell? ⟨b, o + j, none⟩ = some (.bool x) := by
  cases oa with
  | none =>
    rcases h.1.2.2 with ⟨_, h0⟩ | ⟨_, _, h0, _⟩
    · omega
    · simp at h0
  | some ad =>
    obtain ⟨ea, _, ca⟩ := h.1.at hl
    obtain ⟨ab, ao, asp⟩ := ad
    simp only [Addr.mk.injEq, true_and] at ea
    subst ea
    exact ⟨ab, ao, rfl, fun j x hj => alw (ca j _ (by simp [hj]))⟩
theorem ns_slice {k : IntKind} {w : World} {v : Value} {l : List Int} (h : Ns k w v l) : ∃ oa c, v = .slice oa l.length c := by
  obtain ⟨oa, c, rfl, _⟩ := h.1.slice; exact ⟨oa, c, rfl⟩
theorem bs_slice {w : World} {v : Value} {l : List Bool} (h : Bs w v l) : ∃ oa c, v = .slice oa l.length c := by
  obtain ⟨oa, c, rfl, _⟩ := h.1.slice; exact ⟨oa, c, rfl⟩
/-- a row of a table of values -/
theorem rows_at {w : World} {b o n c : Nat} {m : List (List Int)} {oa : Option Addr} (h : Rows w 1 RowR (.slice oa n c) m) (k : Nat) (l : List Int) (hk : m[k]? = some l) (hoa : oa = some ⟨b, o, none⟩) :
    ∃ la lc, (∀ w' [Grows w w'], w'.cell? ⟨b, o + k, none⟩ = some (.slice la l.length lc)) ∧ Ns .u32 w (.slice la l.length lc) l ∧ ∀ x ∈ l, U32 x := by
  have hlt := (List.getElem?_eq_some_iff.1 hk).1
  obtain ⟨b', o', hb, hn, hc⟩ := Rows.at h (by omega)
  rw [hb] at hoa
  simp only [Option.some.injEq, Addr.mk.injEq, and_true] at hoa
  obtain ⟨rfl, rfl⟩ := hoa
  obtain ⟨cs, _, ⟨v, rfl, h1, h2⟩, hcs⟩ := hc k _ hk
  obtain ⟨la, lc, rfl⟩ := ns_slice h1
  refine ⟨la, lc, ?_, h1, h2⟩
  have := hcs 0 _ rfl
  rw [Nat.mul_one, Nat.add_zero] at this
  exact alw this

set_option maxRecDepth 8000 in
theorem nz_any (x : Int) (W : World) : Calls Try.prog 110 #[.int .u32 x] W fun e W' => e = .returned (.bool (x != 0)) ∧ W = W' := by
  go_enter Try.func110, Try.ntmps110
  go_wp2
  go_ret
  exact ⟨rfl, rfl⟩
set_option maxRecDepth 8000 in
theorem indexNz_any {W : World} {v : Value} {l : List Int} (h : Ns .u32 W v l) :
    Calls Try.prog 118 #[v, .func (.func 110) #[] #[]] W fun e W' => (∃ r : Int, e = .returned (.int .i64 r) ∧ (decide (0 ≤ r) = !(Pg.zeroB l))) ∧ W = W' := by
  obtain ⟨oa, c, rfl⟩ := ns_slice h
  have hm := h.2
  unfold maxLen at hm
  have H := Lib.hid h
  clear h
  go_enter Try.func118, Try.ntmps118
  go_wp2_with fail
  go_loop [8] (fun i => ∃ k : Nat, k ≤ l.length ∧ i = .int .i64 k ∧ Hid (∀ j, j < k → (l.getD j 0 == 0) = true)) (fun i => l.length - (intOf i).toNat)
  case atStart => exact ⟨0, Nat.zero_le _, rfl, Lib.hid (by intro j hj; omega)⟩
  case round =>
    obtain ⟨k, hk, rfl, HZ⟩ := hrel
    by_cases hlt : k < l.length
    · obtain ⟨x, hx⟩ : ∃ x, l[k]? = some x := ⟨_, List.getElem?_eq_getElem hlt⟩
      obtain ⟨b, o, rfl, hc⟩ := ns_at H.out (by omega)
      have f1 := hc k x hx
      have hg : l.getD k 0 = x := by rw [List.getD_eq_getElem?_getD, hx]; rfl
      have HG := Lib.hid hg
      clear hc hx hg
      by_cases h0 : x = 0
      · have h0b : (x != 0) = false := by simp [h0]
        have H0 := Lib.hid h0
        clear h0
        go_wp2_with (go_at_call 110; refine (nz_any _ _).mono ?_; rintro e w1 ⟨rfl, rfl⟩; rw [h0b])
        go_round
        case rel =>
          refine ⟨k + 1, by omega, by go_num, Lib.hid (fun j hj => ?_)⟩
          rcases Nat.lt_or_ge j k with h1 | h1
          · exact HZ.out j h1
          · obtain rfl : j = k := by omega
            rw [HG.out, H0.out]; rfl
        case measure => simp [intOf]; omega
      · have h0b : (x != 0) = true := by simp [h0]
        have H0 := Lib.hid h0
        clear h0
        go_wp2_with (go_at_call 110; refine (nz_any _ _).mono ?_; rintro e w1 ⟨rfl, rfl⟩; rw [h0b])
        go_ret
        refine ⟨⟨_, rfl, ?_⟩, rfl⟩
        have hz : Pg.zeroB l = false := Pg.all_no hlt (by rw [HG.out]; simpa using H0.out)
        rw [hz]; simp
    · obtain rfl : k = l.length := by omega
      go_wp2_with fail
      go_ret
      refine ⟨⟨_, rfl, ?_⟩, rfl⟩
      have hz : Pg.zeroB l = true := Pg.all_yes HZ.out
      rw [hz]; decide
set_option maxRecDepth 8000 in
theorem containsNz_any {W : World} {v : Value} {l : List Int} (h : Ns .u32 W v l) :
    Calls Try.prog 109 #[v, .func (.func 110) #[] #[]] W fun e W' => e = .returned (.bool (!(Pg.zeroB l))) ∧ W = W' := by
  go_enter Try.func109, Try.ntmps109
  go_wp2_with fail
  refine (indexNz_any h).mono ?_
  rintro e w1 ⟨⟨r, rfl, hr⟩, rfl⟩
  have HR := Lib.hid hr
  clear hr
  go_wp2_with fail
  go_ret
  exact ⟨ret_bool HR.out, rfl⟩
set_option maxRecDepth 8000 in
theorem zero_any {W : World} {v : Value} {l : List Int} (h : Ns .u32 W v l) :
    Calls Try.prog 98 #[v] W fun e W' => e = .returned (.bool (Pg.zeroB l)) ∧ W = W' := by
  obtain ⟨oa, c, rfl⟩ := ns_slice h
  have H := Lib.hid h
  clear h
  go_enter Try.func98, Try.ntmps98
  go_wp2_with fail
  refine (containsNz_any H.out).mono ?_
  rintro e w1 ⟨rfl, rfl⟩
  go_wp2_with fail
  go_ret
  exact ⟨by first | rfl | exact ret_bool (by simp), rfl⟩

set_option maxRecDepth 8000 in
set_option maxHeartbeats 1000000 in
theorem fit_any {W : World} {p : Pg.PV} {P : Pg.Prog} (hp : Pg.IsP W p P) (h : Int) {v : Value} {l : List Int} (hl : Ns .u32 W v l) (hu : ∀ x ∈ l, U32 x) :
    Calls Try.prog 97 #[p.val, .int .i64 h, v] W (Rets W (.bool (Pg.fitB P h l))) := by
  obtain ⟨oa, c, rfl⟩ := ns_slice hl
  have hm := hl.2
  unfold maxLen at hm
  have HL := Lib.hid hl
  have HU := Lib.hid hu
  have HP := Lib.hid hp
  obtain ⟨s, a1, a2, a3, a4, a5, a6, a7, a8, m1, m2, n3, m3, n4, m4, n5, m5, n6, m6, n7, m7, m8, hf⟩ := hp.form
  obtain ⟨rfl, _, _, _, _, _, _⟩ := hf
  have HWD : Hid (∀ w, Ext W w → ∀ f : Int, Calls Try.prog 77 #[.agg #[.string s, .slice a1 P.hs.length m1, .slice a2 P.md.length m2, .slice a3 n3 m3, .slice a4 n4 m4, .slice a5 n5 m5, .slice a6 n6 m6, .slice a7 n7 m7, .slice a8 P.dp.length m8], .agg #[.int .i64 h, .int .i64 f]] w (Rets w (.int .i64 (Pg.wid P h f)))) := Lib.hid (fun w hx f => width_any (HP.out.ext hx) h f)
  dsimp only [Pg.PV.val]
  have bb := alloc_heap W (.cells #[.string s, .slice a1 P.hs.length m1, .slice a2 P.md.length m2, .slice a3 n3 m3, .slice a4 n4 m4, .slice a5 n5 m5, .slice a6 n6 m6, .slice a7 n7 m7, .slice a8 P.dp.length m8] 31)
  have k0 := alw (cell_of (o := 0) bb)
  have k1 := alw (cell_of (o := 1) bb)
  have k2 := alw (cell_of (o := 2) bb)
  have k3 := alw (cell_of (o := 3) bb)
  have k4 := alw (cell_of (o := 4) bb)
  have k5 := alw (cell_of (o := 5) bb)
  have k6 := alw (cell_of (o := 6) bb)
  have k7 := alw (cell_of (o := 7) bb)
  have k8 := alw (cell_of (o := 8) bb)
  clear bb hp hl hu
  go_enter Try.func97, Try.ntmps97
  go_wp2_with fail
  go_loopw [11] (fun i wr => ∃ k : Nat, k ≤ l.length ∧ i = .int .i64 k ∧ Ext (W.alloc (.cells #[.string s, .slice a1 P.hs.length m1, .slice a2 P.md.length m2, .slice a3 n3 m3, .slice a4 n4 m4, .slice a5 n5 m5, .slice a6 n6 m6, .slice a7 n7 m7, .slice a8 P.dp.length m8] 31)) wr ∧ Hid (∀ j, j < k → decide (l.getD j 0 ≤ Bv.mask (Pg.wid P h j)) = true)) (fun i _ => l.length - (intOf i).toNat)
  case atStart => exact ⟨0, Nat.zero_le _, rfl, Ext.refl _, Lib.hid (by intro j hj; omega)⟩
  case round =>
    obtain ⟨k, hk, rfl, hx, HZ⟩ := hrel
    have sx := Step.mk hx
    by_cases hlt : k < l.length
    · obtain ⟨x, hxk⟩ : ∃ x, l[k]? = some x := ⟨_, List.getElem?_eq_getElem hlt⟩
      obtain ⟨b, o, rfl, hc⟩ := ns_at HL.out (by omega)
      have f1 := hc k x hxk
      have hg : l.getD k 0 = x := by rw [List.getD_eq_getElem?_getD, hxk]; rfl
      have HG := Lib.hid hg
      clear hc hxk hg
      go_wp2_with fail
      refine (HWD.out _ (grows (a := W)) _).mono ?_
      rintro e w1 ⟨rfl, x1⟩
      have s1 := Step.mk x1
      go_wp2_with fail
      refine (mask_any _ w1).mono ?_
      rintro e w2 ⟨rfl, x2⟩
      have s2 := Step.mk x2
      obtain ⟨y, hy⟩ : ∃ y, y = Bv.mask (Pg.wid P h k) := ⟨_, rfl⟩
      rw [← hy]
      have HY := Lib.hid hy
      clear hy
      by_cases hle : x ≤ y
      · go_wp2_with fail
        go_roundw
        case rel =>
          refine ⟨k + 1, by omega, by go_num, by exact (hx.trans x1).trans x2, Lib.hid (fun j hj => ?_)⟩
          rcases Nat.lt_or_ge j k with h1 | h1
          · exact HZ.out j h1
          · obtain rfl : j = k := by omega
            rw [HG.out, ← HY.out]; simpa using hle
        case measure => simp [intOf]; omega
      · have hgt : y < x := by omega
        go_wp2_with fail
        go_ret
        exact ⟨ret_bool (by rw [show Pg.fitB P h l = false from Pg.all_no hlt (by rw [HG.out, ← HY.out]; simp; omega)]), grows⟩
    · obtain rfl : k = l.length := by omega
      go_wp2_with fail
      go_ret
      exact ⟨ret_bool (by rw [show Pg.fitB P h l = true from Pg.all_yes HZ.out]), grows⟩
end Go.Proofs.Ytonnlcjkgpahoaa
namespace Go.Proofs.Ytonnlcjkgpahoaa
open Go.RowKit

namespace Pg
/-- the four values of an environment -/
structure EForm (w : World) (e : EV) (E : Env) (b0 b1 b2 b3 : Option Addr) (d0 d1 d2 d3 : Nat) : Prop where
  e : e = ⟨.slice b0 E.va.length d0, .slice b1 E.fi.length d1, .slice b2 E.me.length d2, .slice b3 E.pl.length d3⟩
  va : Bs w (.slice b0 E.va.length d0) E.va
  fi : Rows w 1 RowR (.slice b1 E.fi.length d1) E.fi
  me : Ns .u32 w (.slice b2 E.me.length d2) E.me ∧ ∀ x ∈ E.me, U32 x
  pl : Ns .u8 w (.slice b3 E.pl.length d3) E.pl ∧ Io.Bytes E.pl
  l0 : E.va.length ≤ 9223372036854775807
  l1 : E.fi.length ≤ 9223372036854775807
  l2 : E.me.length ≤ 9223372036854775807
  l3 : E.pl.length ≤ 9223372036854775807
theorem IsE.form {w : World} {e : EV} {E : Env} (h : IsE w e E) : ∃ b0 b1 b2 b3 d0 d1 d2 d3, EForm w e E b0 b1 b2 b3 d0 d1 d2 d3 := by
  obtain ⟨c0, c1, c2, c3⟩ := e
  obtain ⟨h0, h1, h2, h3⟩ := h
  dsimp only at h0 h1 h2 h3
  obtain ⟨b0, d0, rfl⟩ := bs_slice h0
  obtain ⟨b1, d1, rfl, l1, l1'⟩ := h1.slice
  obtain ⟨b2, d2, rfl⟩ := ns_slice h2.1
  obtain ⟨b3, d3, rfl⟩ := ns_slice h3.1
  have z0 := h0.2
  have z2 := h2.1.2
  have z3 := h3.1.2
  unfold maxLen at l1' z0 z2 z3
  exact ⟨b0, b1, b2, b3, d0, d1, d2, d3, ⟨rfl, h0, h1, h2, h3, by omega, by omega, by omega, by omega⟩⟩
end Pg

set_option maxRecDepth 8000 in
set_option maxHeartbeats 1000000 in
theorem shaped_any {W : World} {p : Pg.PV} {P : Pg.Prog} {e : Pg.EV} {E : Pg.Env} (hp : Pg.IsP W p P) (he : Pg.IsE W e E) :
    Calls Try.prog 96 #[p.val, e.val] W (Rets W (.bool (Pg.shB P E))) := by
  obtain ⟨s, a1, a2, a3, a4, a5, a6, a7, a8, m1, m2, n3, m3, n4, m4, n5, m5, n6, m6, n7, m7, m8, hf⟩ := hp.form
  obtain ⟨rfl, hhs, hmd, _, hl1, hl2, _⟩ := hf
  obtain ⟨b0, b1, b2, b3, d0, d1, d2, d3, hg⟩ := he.form
  obtain ⟨rfl, hva, hfi, hme, hpl, g0, g1, g2, g3⟩ := hg
  dsimp only [Pg.PV.val, Pg.EV.val]
  have bb := alloc_heap W (.cells #[.string s, .slice a1 P.hs.length m1, .slice a2 P.md.length m2, .slice a3 n3 m3, .slice a4 n4 m4, .slice a5 n5 m5, .slice a6 n6 m6, .slice a7 n7 m7, .slice a8 P.dp.length m8] 31)
  have k0 := alw (cell_of (o := 0) bb)
  have k1 := alw (cell_of (o := 1) bb)
  have k2 := alw (cell_of (o := 2) bb)
  have k3 := alw (cell_of (o := 3) bb)
  have k4 := alw (cell_of (o := 4) bb)
  have k5 := alw (cell_of (o := 5) bb)
  have k6 := alw (cell_of (o := 6) bb)
  have k7 := alw (cell_of (o := 7) bb)
  have k8 := alw (cell_of (o := 8) bb)
  have be := alloc_heap (W.alloc (.cells #[.string s, .slice a1 P.hs.length m1, .slice a2 P.md.length m2, .slice a3 n3 m3, .slice a4 n4 m4, .slice a5 n5 m5, .slice a6 n6 m6, .slice a7 n7 m7, .slice a8 P.dp.length m8] 31)) (.cells #[.slice b0 E.va.length d0, .slice b1 E.fi.length d1, .slice b2 E.me.length d2, .slice b3 E.pl.length d3] 37)
  rw [World.size_alloc] at be
  have j0 := alw (cell_of (o := 0) be)
  have j1 := alw (cell_of (o := 1) be)
  have j2 := alw (cell_of (o := 2) be)
  have j3 := alw (cell_of (o := 3) be)
  have HHS := Lib.hid hhs
  have HFI := Lib.hid hfi
  clear bb be hp he hhs hmd hva hfi hme hpl k0 k3 k4 k5 k6 k7 k8 j3
  by_cases h1 : E.va.length = P.hs.length
  · have h1b : ((E.va.length : Int) != P.hs.length) = false := by simp [h1]
    by_cases h2 : E.fi.length = P.hs.length
    · have h2b : ((E.fi.length : Int) != P.hs.length) = false := by simp [h2]
      by_cases h3 : E.me.length = P.md.length
      · have h3b : ((E.me.length : Int) != P.md.length) = false := by simp [h3]
        have hr : Pg.shB P E = (List.range E.fi.length).all fun h => decide ((E.fi.getD h []).length = (P.hs.getD h (⟨#[]⟩, [])).2.length) := by unfold Pg.shB; rw [decide_eq_true h1, decide_eq_true h2, decide_eq_true h3]; rfl
        have HR := Lib.hid hr
        have hle : E.fi.length ≤ P.hs.length := by omega
        have hge : P.hs.length ≤ E.fi.length := by omega
        have H2 := Lib.hid h2
        clear h1 h2 h3 hr
        go_enter Try.func96, Try.ntmps96
        go_wp2_with fail
        go_loopw [35] (fun i wr => ∃ k : Nat, k ≤ E.fi.length ∧ i = .int .i64 k ∧ Ext ((W.alloc (.cells #[.string s, .slice a1 P.hs.length m1, .slice a2 P.md.length m2, .slice a3 n3 m3, .slice a4 n4 m4, .slice a5 n5 m5, .slice a6 n6 m6, .slice a7 n7 m7, .slice a8 P.dp.length m8] 31)).alloc (.cells #[.slice b0 E.va.length d0, .slice b1 E.fi.length d1, .slice b2 E.me.length d2, .slice b3 E.pl.length d3] 37)) wr ∧ Hid (∀ j, j < k → decide ((E.fi.getD j []).length = (P.hs.getD j (⟨#[]⟩, [])).2.length) = true)) (fun i _ => E.fi.length - (intOf i).toNat)
        case atStart => exact ⟨0, Nat.zero_le _, rfl, Ext.refl _, Lib.hid (by intro j hj; omega)⟩
        case round =>
          obtain ⟨k, hk, rfl, hx, HZ⟩ := hrel
          have sx := Step.mk hx
          by_cases hlt : k < E.fi.length
          · obtain ⟨l, hlk⟩ : ∃ x, E.fi[k]? = some x := ⟨_, List.getElem?_eq_getElem hlt⟩
            obtain ⟨⟨hn, fs⟩, hhk⟩ : ∃ x, P.hs[k]? = some x := ⟨_, List.getElem?_eq_getElem (by omega)⟩
            obtain ⟨ba, oa, hoa, _, _⟩ := Rows.at HFI.out (by omega)
            subst hoa
            obtain ⟨bh, oh, hoh, _, _⟩ := Rows.at HHS.out (by omega)
            subst hoh
            obtain ⟨la, lc, p0, pl, _⟩ := rows_at HFI.out k l hlk rfl
            obtain ⟨fa, fc, q0, q1, _, qf, qc, qm⟩ := hdrs_at HHS.out k hn fs hhk rfl
            have hgl : E.fi.getD k [] = l := by rw [List.getD_eq_getElem?_getD, hlk]; rfl
            have hgh : P.hs.getD k (⟨#[]⟩, []) = (hn, fs) := by rw [List.getD_eq_getElem?_getD, hhk]; rfl
            have HGL := Lib.hid hgl
            have HGH := Lib.hid hgh
            have hlm := pl.2
            unfold maxLen at hlm qm
            have hk2 : k < P.hs.length := by omega
            clear hlk hhk hgl hgh pl qf
            by_cases heq : l.length = fs.length
            · have heb : ((l.length : Int) != fs.length) = false := by simp [heq]
              have HEQ := Lib.hid heq
              clear heq
              go_wp2_with fail
              go_roundw
              case rel =>
                refine ⟨k + 1, by omega, by go_num, by exact hx, Lib.hid (fun j hj => ?_)⟩
                rcases Nat.lt_or_ge j k with h1 | h1
                · exact HZ.out j h1
                · obtain rfl : j = k := by omega
                  rw [HGL.out, HGH.out]; simpa using HEQ.out
              case measure => simp [intOf]; omega
            · have heb : ((l.length : Int) != fs.length) = true := by simp; omega
              have HEQ := Lib.hid heq
              clear heq
              go_wp2_with fail
              go_ret
              exact ⟨ret_bool (by rw [HR.out, Pg.all_no hlt (by rw [HGL.out, HGH.out]; simpa using HEQ.out)]), grows⟩
          · obtain rfl : k = E.fi.length := by omega
            go_wp2_with fail
            go_ret
            exact ⟨ret_bool (by rw [HR.out, Pg.all_yes HZ.out]), grows⟩
      · have h3b : ((E.me.length : Int) != P.md.length) = true := by simp; omega
        have HR : Hid (Pg.shB P E = false) := Lib.hid (by unfold Pg.shB; rw [decide_eq_false h3]; simp)
        clear h1 h2 h3
        go_enter Try.func96, Try.ntmps96
        go_wp2_with fail
        go_ret
        exact ⟨ret_bool (by rw [HR.out]), grows⟩
    · have h2b : ((E.fi.length : Int) != P.hs.length) = true := by simp; omega
      have HR : Hid (Pg.shB P E = false) := Lib.hid (by unfold Pg.shB; rw [decide_eq_false h2]; simp)
      clear h1 h2
      go_enter Try.func96, Try.ntmps96
      go_wp2_with fail
      go_ret
      exact ⟨ret_bool (by rw [HR.out]), grows⟩
  · have h1b : ((E.va.length : Int) != P.hs.length) = true := by simp; omega
    have HR : Hid (Pg.shB P E = false) := Lib.hid (by unfold Pg.shB; rw [decide_eq_false h1]; simp)
    clear h1
    go_enter Try.func96, Try.ntmps96
    go_wp2_with fail
    go_ret
    exact ⟨ret_bool (by rw [HR.out]), grows⟩

set_option maxRecDepth 8000 in
set_option maxHeartbeats 1000000 in
theorem rshaped_any {W : World} {p : Pg.PV} {P : Pg.Prog} {e : Pg.EV} {E : Pg.Env} (hp : Pg.IsP W p P) (he : Pg.IsE W e E) :
    Calls Try.prog 57 #[p.val, e.val] W (Rets W (.bool (Pg.shB P E))) := by
  obtain ⟨s, a1, a2, a3, a4, a5, a6, a7, a8, m1, m2, n3, m3, n4, m4, n5, m5, n6, m6, n7, m7, m8, hf⟩ := hp.form
  obtain ⟨rfl, hhs, hmd, _, hl1, hl2, _⟩ := hf
  obtain ⟨b0, b1, b2, b3, d0, d1, d2, d3, hg⟩ := he.form
  obtain ⟨rfl, hva, hfi, hme, hpl, g0, g1, g2, g3⟩ := hg
  dsimp only [Pg.PV.val, Pg.EV.val]
  have bb := alloc_heap W (.cells #[.string s, .slice a1 P.hs.length m1, .slice a2 P.md.length m2, .slice a3 n3 m3, .slice a4 n4 m4, .slice a5 n5 m5, .slice a6 n6 m6, .slice a7 n7 m7, .slice a8 P.dp.length m8] 31)
  have k0 := alw (cell_of (o := 0) bb)
  have k1 := alw (cell_of (o := 1) bb)
  have k2 := alw (cell_of (o := 2) bb)
  have k3 := alw (cell_of (o := 3) bb)
  have k4 := alw (cell_of (o := 4) bb)
  have k5 := alw (cell_of (o := 5) bb)
  have k6 := alw (cell_of (o := 6) bb)
  have k7 := alw (cell_of (o := 7) bb)
  have k8 := alw (cell_of (o := 8) bb)
  have be := alloc_heap (W.alloc (.cells #[.string s, .slice a1 P.hs.length m1, .slice a2 P.md.length m2, .slice a3 n3 m3, .slice a4 n4 m4, .slice a5 n5 m5, .slice a6 n6 m6, .slice a7 n7 m7, .slice a8 P.dp.length m8] 31)) (.cells #[.slice b0 E.va.length d0, .slice b1 E.fi.length d1, .slice b2 E.me.length d2, .slice b3 E.pl.length d3] 37)
  rw [World.size_alloc] at be
  have j0 := alw (cell_of (o := 0) be)
  have j1 := alw (cell_of (o := 1) be)
  have j2 := alw (cell_of (o := 2) be)
  have j3 := alw (cell_of (o := 3) be)
  have HHS := Lib.hid hhs
  have HFI := Lib.hid hfi
  clear bb be hp he hhs hmd hva hfi hme hpl k0 k3 k4 k5 k6 k7 k8 j3
  by_cases h1 : E.va.length = P.hs.length
  · have h1b : ((E.va.length : Int) != P.hs.length) = false := by simp [h1]
    by_cases h2 : E.fi.length = P.hs.length
    · have h2b : ((E.fi.length : Int) != P.hs.length) = false := by simp [h2]
      by_cases h3 : E.me.length = P.md.length
      · have h3b : ((E.me.length : Int) != P.md.length) = false := by simp [h3]
        have hr : Pg.shB P E = (List.range E.fi.length).all fun h => decide ((E.fi.getD h []).length = (P.hs.getD h (⟨#[]⟩, [])).2.length) := by unfold Pg.shB; rw [decide_eq_true h1, decide_eq_true h2, decide_eq_true h3]; rfl
        have HR := Lib.hid hr
        have hle : E.fi.length ≤ P.hs.length := by omega
        have hge : P.hs.length ≤ E.fi.length := by omega
        have H2 := Lib.hid h2
        clear h1 h2 h3 hr
        go_enter Try.func57, Try.ntmps57
        go_wp2_with fail
        go_loopw [5] (fun i wr => ∃ k : Nat, k ≤ E.fi.length ∧ i = .int .i64 k ∧ Ext ((W.alloc (.cells #[.string s, .slice a1 P.hs.length m1, .slice a2 P.md.length m2, .slice a3 n3 m3, .slice a4 n4 m4, .slice a5 n5 m5, .slice a6 n6 m6, .slice a7 n7 m7, .slice a8 P.dp.length m8] 31)).alloc (.cells #[.slice b0 E.va.length d0, .slice b1 E.fi.length d1, .slice b2 E.me.length d2, .slice b3 E.pl.length d3] 37)) wr ∧ Hid (∀ j, j < k → decide ((E.fi.getD j []).length = (P.hs.getD j (⟨#[]⟩, [])).2.length) = true)) (fun i _ => E.fi.length - (intOf i).toNat)
        case atStart => exact ⟨0, Nat.zero_le _, rfl, Ext.refl _, Lib.hid (by intro j hj; omega)⟩
        case round =>
          obtain ⟨k, hk, rfl, hx, HZ⟩ := hrel
          have sx := Step.mk hx
          by_cases hlt : k < E.fi.length
          · obtain ⟨l, hlk⟩ : ∃ x, E.fi[k]? = some x := ⟨_, List.getElem?_eq_getElem hlt⟩
            obtain ⟨⟨hn, fs⟩, hhk⟩ : ∃ x, P.hs[k]? = some x := ⟨_, List.getElem?_eq_getElem (by omega)⟩
            obtain ⟨ba, oa, hoa, _, _⟩ := Rows.at HFI.out (by omega)
            subst hoa
            obtain ⟨bh, oh, hoh, _, _⟩ := Rows.at HHS.out (by omega)
            subst hoh
            obtain ⟨la, lc, p0, pl, _⟩ := rows_at HFI.out k l hlk rfl
            obtain ⟨fa, fc, q0, q1, _, qf, qc, qm⟩ := hdrs_at HHS.out k hn fs hhk rfl
            have hgl : E.fi.getD k [] = l := by rw [List.getD_eq_getElem?_getD, hlk]; rfl
            have hgh : P.hs.getD k (⟨#[]⟩, []) = (hn, fs) := by rw [List.getD_eq_getElem?_getD, hhk]; rfl
            have HGL := Lib.hid hgl
            have HGH := Lib.hid hgh
            have hlm := pl.2
            unfold maxLen at hlm qm
            have hk2 : k < P.hs.length := by omega
            clear hlk hhk hgl hgh pl qf
            by_cases heq : l.length = fs.length
            · have heb : ((l.length : Int) != fs.length) = false := by simp [heq]
              have HEQ := Lib.hid heq
              clear heq
              go_wp2_with fail
              refine wp_region_later (W := wr) (by kernel_rfl) (by kernel_rfl) (Ext.refl _) ?_
              repeat (go_big_quiet_step (fail))
              refine wpQuiet_nil ?_
              intro w2 hx2
              have s2 := Step.mk hx2
              go_wp2_with fail
              go_roundw
              case rel =>
                refine ⟨k + 1, by omega, by go_num, by exact (hx.trans hx2), Lib.hid (fun j hj => ?_)⟩
                rcases Nat.lt_or_ge j k with h1 | h1
                · exact HZ.out j h1
                · obtain rfl : j = k := by omega
                  rw [HGL.out, HGH.out]; simpa using HEQ.out
              case measure => simp [intOf]; omega
            · have heb : ((l.length : Int) != fs.length) = true := by simp; omega
              have HEQ := Lib.hid heq
              clear heq
              go_wp2_with fail
              refine wp_region_later (W := wr) (by kernel_rfl) (by kernel_rfl) (Ext.refl _) ?_
              repeat (go_big_quiet_step (fail))
              refine wpQuiet_nil ?_
              intro w2 hx2
              have s2 := Step.mk hx2
              go_wp2_with fail
              go_ret
              exact ⟨ret_bool (by rw [HR.out, Pg.all_no hlt (by rw [HGL.out, HGH.out]; simpa using HEQ.out)]), grows⟩
          · obtain rfl : k = E.fi.length := by omega
            go_wp2_with fail
            go_ret
            exact ⟨ret_bool (by rw [HR.out, Pg.all_yes HZ.out]), grows⟩
      · have h3b : ((E.me.length : Int) != P.md.length) = true := by simp; omega
        have HR : Hid (Pg.shB P E = false) := Lib.hid (by unfold Pg.shB; rw [decide_eq_false h3]; simp)
        clear h1 h2 h3
        go_enter Try.func57, Try.ntmps57
        go_wp2_with fail
        go_ret
        exact ⟨ret_bool (by rw [HR.out]), grows⟩
    · have h2b : ((E.fi.length : Int) != P.hs.length) = true := by simp; omega
      have HR : Hid (Pg.shB P E = false) := Lib.hid (by unfold Pg.shB; rw [decide_eq_false h2]; simp)
      clear h1 h2
      go_enter Try.func57, Try.ntmps57
      go_wp2_with fail
      go_ret
      exact ⟨ret_bool (by rw [HR.out]), grows⟩
  · have h1b : ((E.va.length : Int) != P.hs.length) = true := by simp; omega
    have HR : Hid (Pg.shB P E = false) := Lib.hid (by unfold Pg.shB; rw [decide_eq_false h1]; simp)
    clear h1
    go_enter Try.func57, Try.ntmps57
    go_wp2_with fail
    go_ret
    exact ⟨ret_bool (by rw [HR.out]), grows⟩
end Go.Proofs.Ytonnlcjkgpahoaa
namespace Go.Proofs.Ytonnlcjkgpahoaa
open Go.RowKit

namespace Pg
theorem wid_bd (P : Prog) (h f : Int) : 0 ≤ wid P h f ∧ wid P h f ≤ 32 := by
  unfold wid; split
  · rename_i hk; have := Bv.ok_iff.1 hk; omega
  · omega
theorem mask_fits {v w : Int} (h0 : 0 ≤ v) (w0 : 0 ≤ w) (w1 : w ≤ 32) : decide (v ≤ Bv.mask w) = decide (v < Bv.pw w) := by
  unfold Bv.mask
  by_cases hk : 1 ≤ w
  · rw [if_pos (Bv.ok_of hk w1)]
    rw [decide_eq_decide]; omega
  · rw [if_neg (by rw [Bv.not_ok (by omega)]; decide)]
    obtain rfl : w = 0 := by omega
    rw [decide_eq_decide]
    simp [Bv.pw]; omega
end Pg
set_option maxRecDepth 8000 in
theorem rfits12_any {W : World} (v w : Int) (h0 : 0 ≤ v) (h1 : v < 4294967296) (w0 : 0 ≤ w) (w1 : w ≤ 32) :
    Calls Try.prog 58 #[.int .u32 v, .int .i64 w] W fun e W' => e = .returned (.bool (decide (v ≤ Bv.mask w))) ∧ W = W' := by
  rw [Pg.mask_fits h0 w0 w1]
  obtain ⟨n, rfl⟩ := Int.eq_ofNat_of_zero_le w0
  go_enter Try.func58, Try.ntmps58
  go_wp2_with fail
  go_loop [5, 6] (fun t i => ∃ k : Nat, k ≤ n ∧ i = .int .i64 k ∧ t = .int .u64 (2 ^ k)) (fun _ i => n - (intOf i).toNat)
  case atStart => exact ⟨0, Nat.zero_le _, rfl, rfl⟩
  case round =>
    obtain ⟨k, hk, rfl, rfl⟩ := hrel
    by_cases hlt : k < n
    · have hp : (2 : Int) ^ k ≤ 2 ^ 31 := by exact_mod_cast Nat.pow_le_pow_right (by decide : 0 < 2) (show k ≤ 31 by omega)
      have hp0 : (0 : Int) < 2 ^ k := Int.pow_pos (by decide)
      have hps : (2 : Int) ^ (k + 1) = 2 * 2 ^ k := by rw [Int.pow_succ]; omega
      have HPS := Lib.hid hps
      clear hps
      obtain ⟨y, hy⟩ : ∃ y, y = (2 : Int) ^ k := ⟨_, rfl⟩
      rw [← hy] at hp hp0 HPS ⊢
      have hp2 : y ≤ 2147483648 := by omega
      clear hy hp
      go_wp2_with fail
      go_round
      case rel => exact ⟨k + 1, by omega, by go_num, by rw [HPS.out]⟩
      case measure => simp [intOf]; omega
    · obtain rfl : k = n := by omega
      have hp0 : (0 : Int) < 2 ^ k := Int.pow_pos (by decide)
      have hpw : Bv.pw (k : Int) = 2 ^ k := by simp [Bv.pw]
      have HPW := Lib.hid hpw
      obtain ⟨y, hy⟩ : ∃ y, y = (2 : Int) ^ k := ⟨_, rfl⟩
      rw [← hy] at hp0 HPW ⊢
      clear hpw hy
      go_wp2_with fail
      go_ret
      exact ⟨by rw [HPW.out]; rfl, rfl⟩
end Go.Proofs.Ytonnlcjkgpahoaa
