/- Programs and environments: their data. No condition. -/
import Derived.Test.YtonnlcjkgpahoaaHd4
import Derived.Test.YtonnlcjkgpahoaaHdL
namespace Go.Proofs.Ytonnlcjkgpahoaa
open Go.RowKit

/-- a slice of integers of kind k, and how long it may be -/
def Ns (k : IntKind) (w : World) (v : Value) (l : List Int) : Prop := Src w v 1 l.length (l.map (.int k)) ∧ l.length ≤ maxLen
def Bs (w : World) (v : Value) (l : List Bool) : Prop := Src w v 1 l.length (l.map .bool) ∧ l.length ≤ maxLen
theorem Ns.ext {k : IntKind} {w w' : World} {v : Value} {l : List Int} (h : Ns k w v l) (hx : Ext w w') : Ns k w' v l := ⟨h.1.ext hx, h.2⟩
theorem Bs.ext {w w' : World} {v : Value} {l : List Bool} (h : Bs w v l) (hx : Ext w w') : Bs w' v l := ⟨h.1.ext hx, h.2⟩
def U32 (x : Int) : Prop := 0 ≤ x ∧ x < 4294967296
/-- a row of values: the cell that holds it -/
def RowR (w : World) (cs : List Value) (l : List Int) : Prop := ∃ v, cs = [v] ∧ Ns .u32 w v l ∧ ∀ x ∈ l, U32 x
theorem RowR.ext {w w' : World} {cs : List Value} {l : List Int} (h : RowR w cs l) (hx : Ext w w') : RowR w' cs l := by
  obtain ⟨v, h1, h2, h3⟩ := h; exact ⟨v, h1, h2.ext hx, h3⟩
namespace Pg
structure Env where
  va : List Bool
  fi : List (List Int)
  me : List Int
  pl : List Int
structure EV where
  c0 : Value
  c1 : Value
  c2 : Value
  c3 : Value
def IsE (w : World) (e : EV) (E : Env) : Prop := Bs w e.c0 E.va ∧ Rows w 1 RowR e.c1 E.fi ∧ (Ns .u32 w e.c2 E.me ∧ ∀ x ∈ E.me, U32 x) ∧ (Ns .u8 w e.c3 E.pl ∧ Io.Bytes E.pl)
theorem IsE.ext {w w' : World} {e : EV} {E : Env} (h : IsE w e E) (hx : Ext w w') : IsE w' e E :=
  ⟨h.1.ext hx, h.2.1.ext (fun _ _ h => h.ext hx) hx, ⟨h.2.2.1.1.ext hx, h.2.2.1.2⟩, ⟨h.2.2.2.1.ext hx, h.2.2.2.2⟩⟩
abbrev EV.val (e : EV) : Value := .agg #[e.c0, e.c1, e.c2, e.c3]
structure Prog where
  hs : List Hd.Hdr
  md : List Hd.Fld
  dp : List Int
structure PV where
  c0 : Value
  c1 : Value
  c2 : Value
  c3 : Value
  c4 : Value
  c5 : Value
  c6 : Value
  c7 : Value
  c8 : Value
abbrev PV.val (p : PV) : Value := .agg #[p.c0, p.c1, p.c2, p.c3, p.c4, p.c5, p.c6, p.c7, p.c8]
def Sl (v : Value) : Prop := ∃ a n c, v = .slice a n c
def IsP (w : World) (p : PV) (P : Prog) : Prop := (∃ s, p.c0 = .string s) ∧ Rows w 2 Hd.HdrR p.c1 P.hs ∧ Hd.Flds w p.c2 P.md ∧ Sl p.c3 ∧ Sl p.c4 ∧ Sl p.c5 ∧ Sl p.c6 ∧ Sl p.c7 ∧ Ns .i64 w p.c8 P.dp
theorem IsP.ext {w w' : World} {p : PV} {P : Prog} (h : IsP w p P) (hx : Ext w w') : IsP w' p P := by
  obtain ⟨h0, h1, h2, h3, h4, h5, h6, h7, h8⟩ := h
  exact ⟨h0, h1.ext (fun _ _ h => h.ext hx) hx, h2.ext hx, h3, h4, h5, h6, h7, h8.ext hx⟩
/-- the fields of a header, or the metadata -/
def hdrAt (hs : List Hd.Hdr) (h : Int) : Hd.Hdr := if 0 ≤ h then hs.getD h.toNat (⟨#[]⟩, []) else (⟨#[]⟩, [])
def fldAt (fs : List Hd.Fld) (f : Int) : Hd.Fld := if 0 ≤ f then fs.getD f.toNat (⟨#[]⟩, 0) else (⟨#[]⟩, 0)
def flds (P : Prog) (h : Int) : List Hd.Fld := if h = -1 then P.md else (hdrAt P.hs h).2
def wid (P : Prog) (h f : Int) : Int := if Bv.ok (fldAt (flds P h) f).2 then (fldAt (flds P h) f).2 else 0
def shB (P : Prog) (E : Env) : Bool := decide (E.va.length = P.hs.length) && decide (E.fi.length = P.hs.length) && decide (E.me.length = P.md.length) && (List.range E.fi.length).all fun h => decide ((E.fi.getD h []).length = (P.hs.getD h (⟨#[]⟩, [])).2.length)
def fitB (P : Prog) (h : Int) (l : List Int) : Bool := (List.range l.length).all fun i => decide (l.getD i 0 ≤ Bv.mask (wid P h i))
def zeroB (l : List Int) : Bool := (List.range l.length).all fun i => l.getD i 0 == 0
def fitsB (P : Prog) (E : Env) : Bool := (List.range E.fi.length).all fun h => fitB P h (E.fi.getD h [])
def cleanB (E : Env) : Bool := (List.range E.fi.length).all fun h => E.va.getD h false || zeroB (E.fi.getD h [])
def chkE (P : Prog) (E : Env) : Int := if shB P E then (if fitB P (-1) E.me then (if fitsB P E then (if cleanB E then 0 else 5) else 9) else 9) else 2
theorem all_no {p : Nat → Bool} {n k : Nat} (hk : k < n) (h : p k = false) : (List.range n).all p = false := by
  rw [← Bool.not_eq_true, List.all_eq_true]
  intro ha
  have := ha k (List.mem_range.2 hk)
  rw [h] at this; cases this
theorem all_yes {p : Nat → Bool} {n : Nat} (h : ∀ j, j < n → p j = true) : (List.range n).all p = true :=
  List.all_eq_true.2 fun j hj => h j (List.mem_range.1 hj)
end Pg
end Go.Proofs.Ytonnlcjkgpahoaa
