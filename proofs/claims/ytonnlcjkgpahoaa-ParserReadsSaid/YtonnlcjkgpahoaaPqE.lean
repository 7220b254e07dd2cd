/- Parsers: plain definitions; states checked, walked. No condition. -/
import Derived.Test.YtonnlcjkgpahoaaPqA
import Derived.Test.YtonnlcjkgpahoaaHd5
import Derived.Test.YtonnlcjkgpahoaaIoL6
import Derived.Test.YtonnlcjkgpahoaaPqD
import Derived.Test.YtonnlcjkgpahoaaPqB
import Derived.Test.YtonnlcjkgpahoaaStep
import Derived.Test.YtonnlcjkgpahoaaBvW
namespace Go.Proofs.Ytonnlcjkgpahoaa
open Go.RowKit

namespace Ps
structure Case where
  v : Int
  m : Int
  nx : Int
structure St where
  nm : ByteArray
  ex : List Int
  sel : Bool
  h : Int
  f : Int
  cs : List Case
  df : Int
def CaseR (_w : World) (cs : List Value) (d : Case) : Prop := cs = [.int .u32 d.v, .int .u32 d.m, .int .i64 d.nx] ∧ U32 d.v ∧ U32 d.m
abbrev Cases (w : World) (v : Value) (l : List Case) : Prop := Rows w 3 CaseR v l
def StR (w : World) (cs : List Value) (d : St) : Prop := ∃ ev cv, cs = [.string d.nm, ev, .bool d.sel, .int .i64 d.h, .int .i64 d.f, cv, .int .i64 d.df] ∧ d.nm.size ≤ maxLen ∧ Ns .i64 w ev d.ex ∧ Cases w cv d.cs
theorem StR.ext {w w' : World} {cs : List Value} {d : St} (h : StR w cs d) (hx : Ext w w') : StR w' cs d := by
  obtain ⟨ev, cv, h1, h2, h3, h4⟩ := h
  exact ⟨ev, cv, h1, h2, h3.ext hx, h4.ext (fun _ _ h => h) hx⟩
/-- a program with its states -/
def IsQ (w : World) (p : Pg.PV) (P : Pg.Prog) (ss : List St) : Prop := Pg.IsP w p P ∧ Rows w 7 StR p.c6 ss
theorem IsQ.ext {w w' : World} {p : Pg.PV} {P : Pg.Prog} {ss : List St} (h : IsQ w p P ss) (hx : Ext w w') : IsQ w' p P ss := ⟨h.1.ext hx, h.2.ext (fun _ _ h => h.ext hx) hx⟩
/-- the first of n that is not 0 -/
def fb (p : Nat → Int) (n : Nat) : Option Nat := (List.range n).find? fun i => p i != 0
theorem fb_none {p : Nat → Int} {n : Nat} (h : ∀ j, j < n → p j = 0) : fb p n = none := by
  unfold fb; rw [List.find?_eq_none]; intro x hx
  rw [h x (List.mem_range.1 hx)]; decide
theorem fb_some {p : Nat → Int} {n k : Nat} (hk : k < n) (h : ∀ j, j < k → p j = 0) (hp : p k ≠ 0) : fb p n = some k := by
  unfold fb
  have e : List.range n = List.range k ++ (k :: (List.range (n - k - 1)).map (· + (k + 1))) := by
    rw [show n = k + (1 + (n - k - 1)) by omega, List.range_add, List.range_add]
    simp [Nat.add_comm, Nat.add_left_comm]
  rw [e, List.find?_append]
  have e1 : (List.range k).find? (fun i => p i != 0) = none := fb_none h
  rw [e1, Option.none_or, List.find?_cons_of_pos (by simpa using hp)]
theorem fb_spec {p : Nat → Int} {n : Nat} (h : fb p n = none) : ∀ j, j < n → p j = 0 := by
  intro j hj
  unfold fb at h; rw [List.find?_eq_none] at h
  have := h j (List.mem_range.2 hj)
  simpa using this
def st0 : St := ⟨⟨#[]⟩, [], false, 0, 0, [], 0⟩
def c0 : Case := ⟨0, 0, 0⟩
def leads (n : Nat) (s x : Int) : Bool := (x == -1) || (x == -2) || (decide (s < x) && decide (x < n))
/-- what is wrong with a case: w the width, s the state, n the number of states -/
def caseE (w : Int) (n : Nat) (s : Int) (c : Case) : Int :=
  if Bv.fits c.v w && Bv.fits c.m w then (if bits BinOp.and IntKind.u32 c.v c.m = c.v then (if leads n s c.nx then 0 else 14) else 5) else 9
def exB (n : Nat) (ex : List Int) : Bool := (List.range ex.length).all fun i => decide (0 ≤ ex.getD i 0) && decide (ex.getD i 0 < n)
/-- the first case that is wrong, and what is wrong with it -/
def csE (w : Int) (n s : Nat) (cs : List Case) : Int × Int :=
  match fb (fun i => caseE w n s (cs.getD i c0)) cs.length with
  | some i => (i, caseE w n s (cs.getD i c0))
  | none => (-1, 0)
theorem csE_none {w : Int} {n s : Nat} {cs : List Case} (h : ∀ j, j < cs.length → caseE w n s (cs.getD j c0) = 0) : csE w n s cs = (-1, 0) := by
  unfold csE; rw [fb_none h]
theorem csE_some {w : Int} {n s k : Nat} {cs : List Case} (hk : k < cs.length) (h : ∀ j, j < k → caseE w n s (cs.getD j c0) = 0) (hp : caseE w n s (cs.getD k c0) ≠ 0) : csE w n s cs = ((k : Int), caseE w n s (cs.getD k c0)) := by
  unfold csE; rw [fb_some hk h hp]
/-- what is wrong inside a state: where, and what -/
def stE (P : Pg.Prog) (n : Nat) (s : Nat) (x : St) : Int × Int :=
  if decide (4 < x.ex.length) || decide (8 < x.cs.length) then (-1, 12) else
  if !(exB P.hs.length x.ex) then (-1, 8) else
  if x.sel && (Pg.wid P x.h x.f == 0) then (-1, 8) else
  if !x.sel && decide (0 < x.cs.length) then (-1, 11) else
  if (csE (Pg.wid P x.h x.f) n s x.cs).2 = 0 then (if leads n s x.df then (0, 0) else (-1, 14)) else csE (Pg.wid P x.h x.f) n s x.cs
def dup (ss : List St) (s : Nat) : Bool := (ss.take s).any fun y => Hd.same y.nm (ss.getD s st0).nm
/-- what is wrong with state s -/
def allE (P : Pg.Prog) (ss : List St) (s : Nat) : Int × Int :=
  if !(Id.ok (ss.getD s st0).nm) then (-1, 6) else if dup ss s then (-1, 7) else stE P ss.length s (ss.getD s st0)
def chk (P : Pg.Prog) (ss : List St) : Int × Int × Int :=
  if ss.length = 0 then (-1, -1, 8) else if 12 < ss.length then (-1, -1, 12) else
  match fb (fun s => (allE P ss s).2) ss.length with
  | some s => (s, allE P ss s)
  | none => (0, 0, 0)
/-- what no parse can start with -/
def bad (P : Pg.Prog) (ss : List St) (n : Nat) : Int :=
  if (chk P ss).2.2 = 0 then (if (List.range P.hs.length).all (fun i => Hd.chk (P.hs.getD i (⟨#[]⟩, [])) == 0) then (if 512 < n then 4 else 0) else 2) else 2
/-- the state behind x, where the select value is g -/
def hit (g : Int) (c : Case) : Bool := bits BinOp.and IntKind.u32 g c.m == c.v
def nxt (x : St) (g : Int) : Int := if x.sel then (match x.cs.find? (hit g) with | some c => c.nx | none => x.df) else x.df
theorem bit32 {a : Nat} (h : a < 4294967296) {i : Nat} (hi : 32 ≤ i) : a.testBit i = false :=
  Nat.testBit_lt_two_pow (Nat.lt_of_lt_of_le h (by have := Nat.pow_le_pow_right (n := 2) (by decide) hi; omega))
theorem compl_bit {b i : Nat} (hb : b < 4294967296) : (4294967295 - b).testBit i = (decide (i < 32) && !b.testBit i) := by
  rw [show 4294967295 - b = 2 ^ 32 - (b + 1) by omega, Nat.testBit_two_pow_sub_succ (by omega)]
theorem andNot_zero {v m : Int} (hv : U32 v) (hm : U32 m) : bits BinOp.andNot IntKind.u32 v m = 0 ↔ bits BinOp.and IntKind.u32 v m = v := by
  rw [u32_andNot _ _ hv.1 hv.2 hm.1 hm.2, u32_and _ _ hv.1 hv.2 hm.1 hm.2]
  obtain ⟨a, rfl⟩ := Int.eq_ofNat_of_zero_le hv.1
  obtain ⟨b, rfl⟩ := Int.eq_ofNat_of_zero_le hm.1
  have ha : a < 4294967296 := by have := hv.2; omega
  have hb : b < 4294967296 := by have := hm.2; omega
  rw [Int.toNat_natCast, Int.toNat_natCast]
  constructor
  · intro h
    have h' : a &&& (4294967295 - b) = 0 := by exact_mod_cast h
    have : a &&& b = a := by
      apply Nat.eq_of_testBit_eq
      intro i
      have h1 : (a &&& (4294967295 - b)).testBit i = false := by rw [h']; exact Nat.zero_testBit i
      rw [Nat.testBit_and, compl_bit hb] at h1
      rw [Nat.testBit_and]
      by_cases hi : i < 32
      · rw [decide_eq_true hi, Bool.true_and] at h1
        cases x : a.testBit i <;> cases y : b.testBit i <;> simp_all
      · rw [bit32 ha (by omega)]; rfl
    exact_mod_cast this
  · intro h
    have h' : a &&& b = a := by exact_mod_cast h
    have : a &&& (4294967295 - b) = 0 := by
      apply Nat.eq_of_testBit_eq
      intro i
      have h1 : (a &&& b).testBit i = a.testBit i := by rw [h']
      rw [Nat.testBit_and] at h1
      rw [Nat.testBit_and, compl_bit hb, Nat.zero_testBit]
      cases x : a.testBit i <;> cases y : b.testBit i <;> simp_all
    exact_mod_cast this
/-- the package's test of a select case, and the reference's -/
theorem hit_xor {g : Int} {c : Case} (hg : U32 g) (hv : U32 c.v) (hm : U32 c.m) (h : bits BinOp.and IntKind.u32 c.v c.m = c.v) :
    (bits BinOp.and IntKind.u32 (bits BinOp.xor IntKind.u32 g c.v) c.m == 0) = hit g c := by
  unfold hit
  obtain ⟨v, m, nx⟩ := c
  dsimp only at hv hm h ⊢
  rw [u32_and _ _ hv.1 hv.2 hm.1 hm.2] at h
  rw [u32_and _ _ hg.1 hg.2 hm.1 hm.2, u32_xor _ _ hg.1 hg.2 hv.1 hv.2]
  obtain ⟨x, rfl⟩ := Int.eq_ofNat_of_zero_le hg.1
  obtain ⟨a, rfl⟩ := Int.eq_ofNat_of_zero_le hv.1
  obtain ⟨b, rfl⟩ := Int.eq_ofNat_of_zero_le hm.1
  have hx : x < 2 ^ 32 := by have := hg.2; omega
  have ha : a < 2 ^ 32 := by have := hv.2; omega
  rw [Int.toNat_natCast, Int.toNat_natCast] at h
  rw [Int.toNat_natCast, Int.toNat_natCast, Int.toNat_natCast]
  have hxa : x ^^^ a < 2 ^ 32 := Nat.xor_lt_two_pow hx ha
  rw [u32_and _ _ (by omega) (by omega) hm.1 hm.2, Int.toNat_natCast, Int.toNat_natCast]
  have h' : a &&& b = a := by exact_mod_cast h
  rw [Bool.eq_iff_iff, beq_iff_eq, beq_iff_eq]
  constructor
  · intro h1
    have h2 : (x ^^^ a) &&& b = 0 := by exact_mod_cast h1
    have : x &&& b = a := by
      apply Nat.eq_of_testBit_eq
      intro i
      have e1 : ((x ^^^ a) &&& b).testBit i = false := by rw [h2]; exact Nat.zero_testBit i
      have e2 : (a &&& b).testBit i = a.testBit i := by rw [h']
      rw [Nat.testBit_and, Nat.testBit_xor] at e1
      rw [Nat.testBit_and] at e2 ⊢
      cases p : x.testBit i <;> cases q : a.testBit i <;> cases r : b.testBit i <;> simp_all
    exact_mod_cast this
  · intro h1
    have h2 : x &&& b = a := by exact_mod_cast h1
    have : (x ^^^ a) &&& b = 0 := by
      apply Nat.eq_of_testBit_eq
      intro i
      have e1 : (x &&& b).testBit i = a.testBit i := by rw [h2]
      rw [Nat.testBit_and] at e1
      rw [Nat.testBit_and, Nat.testBit_xor, Nat.zero_testBit]
      cases p : x.testBit i <;> cases q : a.testBit i <;> cases r : b.testBit i <;> simp_all
    exact_mod_cast this
end Ps
end Go.Proofs.Ytonnlcjkgpahoaa
namespace Go.Proofs.Ytonnlcjkgpahoaa
open Go.RowKit

namespace Ps
def hd (P : Pg.Prog) (h : Int) : Hd.Hdr := P.hs.getD h.toNat (⟨#[]⟩, [])
def setH (E : Pg.Env) (k : Nat) (vs : List Int) : Pg.Env := ⟨E.va.set k true, E.fi.set k vs, E.me, E.pl⟩
/-- the headers of a state, read from a position on: what goes wrong, the environment, the position -/
def exAll (P : Pg.Prog) (l : List Int) : List Int → Pg.Env → Nat → Int × Pg.Env × Nat
  | [], E, pos => (0, E, pos)
  | h :: r, E, pos => if Hd.rE (hd P h) l pos = 0 then exAll P l r (setH E h.toNat (Hd.rV (hd P h) l pos)) (Hd.rP (hd P h) l pos) else (Hd.rE (hd P h) l pos, E, pos)
/-- the run: the environment, the states entered, the error -/
def go (P : Pg.Prog) (ss : List St) (l : List Int) : Nat → Int → Pg.Env → Nat → List Int → Pg.Env × List Int × Int
  | 0, _, E, _, ent => (E, ent, -1)
  | n + 1, s, E, pos, ent =>
    if 0 ≤ s then
      if (exAll P l (ss.getD s.toNat st0).ex E pos).1 = 0 then
        go P ss l n (nxt (ss.getD s.toNat st0) (En.get (exAll P l (ss.getD s.toNat st0).ex E pos).2.1 (ss.getD s.toNat st0).h (ss.getD s.toNat st0).f))
          (exAll P l (ss.getD s.toNat st0).ex E pos).2.1 (exAll P l (ss.getD s.toNat st0).ex E pos).2.2 (ent ++ [s])
      else (En.new P, ent ++ [s], (exAll P l (ss.getD s.toNat st0).ex E pos).1)
    else if s = -2 then (En.new P, ent, 15) else (⟨E.va, E.fi, E.me, l.drop (pos / 8)⟩, ent, 0)
def parse (P : Pg.Prog) (ss : List St) (l : List Int) : Pg.Env × List Int × Int :=
  if bad P ss l.length = 0 then go P ss l (ss.length + 1) 0 (En.new P) 0 [] else (En.new P, [], bad P ss l.length)
theorem exAll_ok {P : Pg.Prog} {l ex : List Int} {E : Pg.Env} {pos i : Nat} {h : Int} (hi : ex[i]? = some h) (h0 : Hd.rE (hd P h) l pos = 0) :
    exAll P l (ex.drop i) E pos = exAll P l (ex.drop (i + 1)) (setH E h.toNat (Hd.rV (hd P h) l pos)) (Hd.rP (hd P h) l pos) := by
  obtain ⟨hl, rfl⟩ := List.getElem?_eq_some_iff.1 hi
  rw [List.drop_eq_getElem_cons hl]
  show (if Hd.rE (hd P ex[i]) l pos = 0 then _ else _) = _
  rw [if_pos h0]
theorem exAll_no {P : Pg.Prog} {l ex : List Int} {E : Pg.Env} {pos i : Nat} {h : Int} (hi : ex[i]? = some h) (h0 : Hd.rE (hd P h) l pos ≠ 0) :
    exAll P l (ex.drop i) E pos = (Hd.rE (hd P h) l pos, E, pos) := by
  obtain ⟨hl, rfl⟩ := List.getElem?_eq_some_iff.1 hi
  rw [List.drop_eq_getElem_cons hl]
  show (if Hd.rE (hd P ex[i]) l pos = 0 then _ else _) = _
  rw [if_neg h0]
theorem exAll_end {P : Pg.Prog} {l ex : List Int} {E : Pg.Env} {pos : Nat} : exAll P l (ex.drop ex.length) E pos = (0, E, pos) := by
  rw [List.drop_length]; rfl
/-- the shape that a run keeps -/
structure Shp (P : Pg.Prog) (E : Pg.Env) : Prop where
  va : E.va.length = P.hs.length
  fi : E.fi.length = P.hs.length
  me : E.me = List.replicate P.md.length 0
  pl : E.pl = []
  row : ∀ r ∈ E.fi, r.length ≤ 1000000
theorem rV_12 (h : Hd.Hdr) (l : List Int) (pos : Nat) : (Hd.rV h l pos).length ≤ 12 := by
  unfold Hd.rV
  split
  · rename_i h0
    rw [Hd.vals_len, Hd.wds_len]
    unfold Hd.rE at h0
    by_cases hc : Hd.chk h = 0
    · exact (Hd.chk_ok hc).2.2.1
    · rw [if_neg hc] at h0; exact absurd h0 hc
  · simp
theorem vals_u32 (l : List Int) : ∀ (ws : List Int) (pos : Nat), Hd.Wd ws → ∀ x ∈ Hd.vals l ws pos, U32 x
  | [], _, _, x, hx => by simp [Hd.vals] at hx
  | w :: ws, pos, h, x, hx => by
    simp only [Hd.vals, List.mem_cons] at hx
    rcases hx with rfl | hx
    · exact ⟨(Io.val_bd _ _ _).1, Io.val_lt32 _ _ _ (by have := h w (by simp); omega)⟩
    · exact vals_u32 l ws _ (fun n hn => h n (by simp [hn])) x hx
theorem rV_u32 (h : Hd.Hdr) (l : List Int) (pos : Nat) : ∀ x ∈ Hd.rV h l pos, U32 x := by
  unfold Hd.rV
  split
  · rename_i h0
    unfold Hd.rE at h0
    by_cases hc : Hd.chk h = 0
    · exact vals_u32 l _ _ (Hd.chk_ok hc).2.2.2.1
    · rw [if_neg hc] at h0; exact absurd h0 hc
  · simp
theorem Shp.new {P : Pg.Prog} (h : En.CapP P) : Shp P (En.new P) :=
  ⟨by simp [En.new], En.newF_len P, rfl, rfl, fun r hr => by
    obtain ⟨g, hg, rfl⟩ := List.mem_map.1 hr
    rw [List.length_replicate]; exact h.2.2 g hg⟩
theorem Shp.set {P : Pg.Prog} {E : Pg.Env} (h : Shp P E) (k : Nat) {vs : List Int} (hv : vs.length ≤ 12) : Shp P (setH E k vs) :=
  ⟨by simp [setH, h.va], by simp [setH, h.fi], h.me, h.pl, fun r hr => by
    rcases List.mem_or_eq_of_mem_set hr with hr | rfl
    · exact h.row r hr
    · omega⟩
theorem Shp.cap {P : Pg.Prog} {E : Pg.Env} (h : Shp P E) (c : En.CapP P) : En.CapE E :=
  ⟨by rw [h.va]; exact c.1, by rw [h.fi]; exact c.1, by rw [h.me, List.length_replicate]; exact c.2.1, by rw [h.pl]; simp, h.row⟩
theorem rP_bd (h : Hd.Hdr) (l : List Int) (pos : Nat) (hp : pos ≤ 8 * l.length) : Hd.rP h l pos ≤ 8 * l.length := by
  unfold Hd.rP
  split
  · rename_i h0
    unfold Hd.rE at h0
    by_cases hc : Hd.chk h = 0
    · rw [if_pos hc] at h0
      by_cases h1 : 8 * (l.length : Int) - pos < Hd.tot (Hd.wds h.2)
      · rw [if_pos h1] at h0; omega
      · have := Hd.tot_bd (Hd.chk_ok hc).2.2.2.1; omega
    · rw [if_neg hc] at h0; exact absurd h0 hc
  · exact hp
theorem rP_8 (h : Hd.Hdr) (l : List Int) (pos : Nat) (hp : pos % 8 = 0) : Hd.rP h l pos % 8 = 0 := by
  unfold Hd.rP
  split
  · rename_i h0
    unfold Hd.rE at h0
    by_cases hc : Hd.chk h = 0
    · have h1 := (Hd.chk_ok hc).2.2.2.2
      have := Hd.tot_bd (Hd.chk_ok hc).2.2.2.1; omega
    · rw [if_neg hc] at h0; exact absurd h0 hc
  · exact hp
theorem ex_keep {P : Pg.Prog} {l : List Int} : ∀ (ex : List Int) (E : Pg.Env) (pos : Nat), Shp P E → pos ≤ 8 * l.length → pos % 8 = 0 → Shp P (exAll P l ex E pos).2.1 ∧ (exAll P l ex E pos).2.2 ≤ 8 * l.length ∧ (exAll P l ex E pos).2.2 % 8 = 0
  | [], _, _, h1, h2, h3 => ⟨h1, h2, h3⟩
  | h :: r, E, pos, h1, h2, h3 => by
    unfold exAll
    split
    · exact ex_keep r _ _ (h1.set _ (rV_12 _ _ _)) (rP_bd _ _ _ h2) (rP_8 _ _ _ h3)
    · exact ⟨h1, h2, h3⟩
theorem go_read {P : Pg.Prog} {ss : List St} {l ent : List Int} {n k : Nat} {E : Pg.Env} {pos : Nat} {x : St} (hk : ss[k]? = some x) (h0 : (exAll P l x.ex E pos).1 = 0) :
    go P ss l (n + 1) k E pos ent = go P ss l n (nxt x (En.get (exAll P l x.ex E pos).2.1 x.h x.f)) (exAll P l x.ex E pos).2.1 (exAll P l x.ex E pos).2.2 (ent ++ [(k : Int)]) := by
  have e : ss.getD ((k : Int)).toNat st0 = x := by rw [Int.toNat_natCast, List.getD_eq_getElem?_getD, hk]; rfl
  rw [go, if_pos (Int.natCast_nonneg k), e, if_pos h0]
theorem go_err {P : Pg.Prog} {ss : List St} {l ent : List Int} {n k : Nat} {E : Pg.Env} {pos : Nat} {x : St} (hk : ss[k]? = some x) (h0 : (exAll P l x.ex E pos).1 ≠ 0) :
    go P ss l (n + 1) k E pos ent = (En.new P, ent ++ [(k : Int)], (exAll P l x.ex E pos).1) := by
  have e : ss.getD ((k : Int)).toNat st0 = x := by rw [Int.toNat_natCast, List.getD_eq_getElem?_getD, hk]; rfl
  rw [go, if_pos (Int.natCast_nonneg k), e, if_neg h0]
theorem go_rej {P : Pg.Prog} {ss : List St} {l ent : List Int} {n : Nat} {E : Pg.Env} {pos : Nat} : go P ss l (n + 1) (-2) E pos ent = (En.new P, ent, 15) := rfl
theorem go_acc {P : Pg.Prog} {ss : List St} {l ent : List Int} {n : Nat} {E : Pg.Env} {pos : Nat} : go P ss l (n + 1) (-1) E pos ent = (⟨E.va, E.fi, E.me, l.drop (pos / 8)⟩, ent, 0) := rfl
theorem leads_or {n : Nat} {s x : Int} (h : leads n s x = true) : x = -1 ∨ x = -2 ∨ (s < x ∧ x < n) := by
  unfold leads at h
  simp only [Bool.or_eq_true, beq_iff_eq, Bool.and_eq_true, decide_eq_true_eq] at h
  rcases h with (h | h) | h
  · exact .inl h
  · exact .inr (.inl h)
  · exact .inr (.inr h)
theorem fb_zero {p : Nat → Int} {n k : Nat} (h : fb p n = some k) : k < n ∧ p k ≠ 0 := by
  unfold fb at h
  have h1 := List.find?_some h
  exact ⟨List.mem_range.1 (List.mem_of_find?_eq_some h), by simpa using h1⟩
theorem csE_ok {w : Int} {n s : Nat} {cs : List Case} (h : (csE w n s cs).2 = 0) : ∀ j, j < cs.length → caseE w n s (cs.getD j c0) = 0 := by
  unfold csE at h
  cases hf : fb (fun i => caseE w n s (cs.getD i c0)) cs.length with
  | none => exact fb_spec hf
  | some k => rw [hf] at h; exact absurd h (fb_zero hf).2
theorem caseE_ok {w : Int} {n : Nat} {s : Int} {c : Case} (h : caseE w n s c = 0) : bits BinOp.and IntKind.u32 c.v c.m = c.v ∧ leads n s c.nx = true := by
  unfold caseE at h
  split at h
  · split at h
    · rename_i h1
      split at h
      · rename_i h2; exact ⟨h1, h2⟩
      · cases h
    · cases h
  · cases h
/-- what a program keeps to when no error is found -/
structure StOk (P : Pg.Prog) (n k : Nat) (x : St) : Prop where
  exl : x.ex.length ≤ 4
  csl : x.cs.length ≤ 8
  ex : ∀ (j : Nat) (h : Int), x.ex[j]? = some h → 0 ≤ h ∧ h < P.hs.length
  cs : ∀ (j : Nat) (c : Case), x.cs[j]? = some c → bits BinOp.and IntKind.u32 c.v c.m = c.v ∧ leads n k c.nx = true
  df : leads n k x.df = true
structure GoodP (P : Pg.Prog) (ss : List St) : Prop where
  pos : 0 < ss.length
  le : ss.length ≤ 12
  hdr : ∀ (k : Nat) (h : Hd.Hdr), P.hs[k]? = some h → Hd.chk h = 0
  st : ∀ (k : Nat) (x : St), ss[k]? = some x → StOk P ss.length k x
theorem stE_ok {P : Pg.Prog} {n k : Nat} {x : St} (h : (stE P n k x).2 = 0) : StOk P n k x := by
  unfold stE at h
  split at h
  · exact absurd h (by decide)
  · rename_i h1
    simp only [Bool.or_eq_true, decide_eq_true_eq, not_or, Nat.not_lt] at h1
    split at h
    · exact absurd h (by decide)
    · rename_i h2
      split at h
      · exact absurd h (by decide)
      · split at h
        · exact absurd h (by decide)
        · split at h
          · rename_i h5
            split at h
            · rename_i h6
              refine ⟨h1.1, h1.2, fun j y hy => ?_, fun j c hc => ?_, h6⟩
              · simp only [Bool.not_eq_true', Bool.not_eq_false] at h2
                unfold exB at h2
                rw [List.all_eq_true] at h2
                have h7 := h2 j (List.mem_range.2 (List.getElem?_eq_some_iff.1 hy).1)
                rw [List.getD_eq_getElem?_getD, hy] at h7
                simpa using h7
              · have h7 := csE_ok h5 j (List.getElem?_eq_some_iff.1 hc).1
                rw [List.getD_eq_getElem?_getD, hc] at h7
                exact caseE_ok h7
            · exact absurd h (by decide)
          · rename_i h5; exact absurd h h5
theorem allE_ok {P : Pg.Prog} {ss : List St} {k : Nat} {x : St} (hx : ss[k]? = some x) (h : (allE P ss k).2 = 0) : StOk P ss.length k x := by
  unfold allE at h
  rw [List.getD_eq_getElem?_getD, hx] at h
  split at h
  · exact absurd h (by decide)
  · split at h
    · exact absurd h (by decide)
    · exact stE_ok h
theorem chk_good' {P : Pg.Prog} {ss : List St} (h : (chk P ss).2.2 = 0) : 0 < ss.length ∧ ss.length ≤ 12 ∧ ∀ (k : Nat) (x : St), ss[k]? = some x → StOk P ss.length k x := by
  unfold chk at h
  split at h
  · exact absurd h (by decide)
  · rename_i h1
    split at h
    · exact absurd h (by decide)
    · rename_i h2
      cases hf : fb (fun s => (allE P ss s).2) ss.length with
      | none => exact ⟨by omega, by omega, fun k x hx => allE_ok hx (fb_spec hf k (List.getElem?_eq_some_iff.1 hx).1)⟩
      | some k => rw [hf] at h; exact absurd h (fb_zero hf).2
theorem bad_ok {P : Pg.Prog} {ss : List St} {n : Nat} (h : bad P ss n = 0) : GoodP P ss ∧ n ≤ 512 := by
  unfold bad at h
  split at h
  · rename_i h1
    obtain ⟨a1, a2, a3⟩ := chk_good' h1
    split at h
    · rename_i h2
      split at h
      · exact absurd h (by decide)
      · refine ⟨⟨a1, a2, fun k g hg => ?_, a3⟩, by omega⟩
        rw [List.all_eq_true] at h2
        have h7 := h2 k (List.mem_range.2 (List.getElem?_eq_some_iff.1 hg).1)
        rw [List.getD_eq_getElem?_getD, hg] at h7
        simpa using h7
    · exact absurd h (by decide)
  · exact absurd h (by decide)
theorem hit_at {g : Int} {cs : List Case} {i : Nat} {c : Case} (hz : ∀ j d, j < i → cs[j]? = some d → hit g d = false) (hc : cs[i]? = some c) (hh : hit g c = true) : cs.find? (hit g) = some c := by
  obtain ⟨hl, rfl⟩ := List.getElem?_eq_some_iff.1 hc
  have e : cs.find? (hit g) = (cs.take i ++ (cs[i] :: cs.drop (i + 1))).find? (hit g) := by rw [← List.drop_eq_getElem_cons hl, List.take_append_drop]
  rw [e, List.find?_append]
  have e1 : (cs.take i).find? (hit g) = none := by
    rw [List.find?_eq_none]
    intro d hd
    obtain ⟨j, hj, rfl⟩ := List.mem_iff_getElem.1 hd
    rw [List.length_take] at hj
    rw [List.getElem_take, hz j _ (by omega) (List.getElem?_eq_getElem (by omega))]
    exact Bool.false_ne_true
  rw [e1, Option.none_or, List.find?_cons_of_pos hh]
theorem hit_none {g : Int} {cs : List Case} (hz : ∀ j d, j < cs.length → cs[j]? = some d → hit g d = false) : cs.find? (hit g) = none := by
  rw [List.find?_eq_none]
  intro d hd
  obtain ⟨j, hj, rfl⟩ := List.mem_iff_getElem.1 hd
  rw [hz j _ hj (List.getElem?_eq_getElem hj)]
  exact Bool.false_ne_true
theorem nxt_off {x : St} {g : Int} (h : x.sel = false) : nxt x g = x.df := by unfold nxt; rw [h]; rfl
theorem nxt_hit {x : St} {g : Int} {i : Nat} {c : Case} (h : x.sel = true) (hz : ∀ j d, j < i → x.cs[j]? = some d → hit g d = false) (hc : x.cs[i]? = some c) (hh : hit g c = true) : nxt x g = c.nx := by
  unfold nxt; rw [h, if_pos rfl, hit_at hz hc hh]
theorem nxt_none {x : St} {g : Int} (h : x.sel = true) (hz : ∀ j d, j < x.cs.length → x.cs[j]? = some d → hit g d = false) : nxt x g = x.df := by
  unfold nxt; rw [h, if_pos rfl, hit_none hz]
theorem StOk.next {P : Pg.Prog} {n k : Nat} {x : St} (h : StOk P n k x) (g : Int) : leads n k (nxt x g) = true := by
  unfold nxt
  split
  · split
    · rename_i c hc
      obtain ⟨j, hj, e⟩ := List.mem_iff_getElem.1 (List.mem_of_find?_eq_some hc)
      exact (h.cs j c (by rw [← e]; exact List.getElem?_eq_getElem hj)).2
    · exact h.df
  · exact h.df
end Ps
end Go.Proofs.Ytonnlcjkgpahoaa
namespace Go.Proofs.Ytonnlcjkgpahoaa
open Go.RowKit

namespace Ps
theorem leads_acc (n : Nat) (s : Int) : leads n s (-1) = true := by simp [leads]
theorem leads_rej (n : Nat) (s : Int) : leads n s (-2) = true := by simp [leads]
theorem leads_st {n : Nat} {s x : Int} (h1 : ¬ x = -1) (h2 : ¬ x = -2) : leads n s x = (decide (s < x) && decide (x < n)) := by
  unfold leads; rw [beq_eq_false_iff_ne.2 h1, beq_eq_false_iff_ne.2 h2]; rfl
end Ps
theorem st_at {w : World} {b o n c : Nat} {ss : List Ps.St} {oa : Option Addr} (h : Rows w 7 Ps.StR (.slice oa n c) ss) (k : Nat) (x : Ps.St) (hk : ss[k]? = some x) (hoa : oa = some ⟨b, o, none⟩) :
    ∃ ea ec ca cc, x.nm.size ≤ maxLen ∧ Ns .i64 w (.slice ea x.ex.length ec) x.ex ∧ Ps.Cases w (.slice ca x.cs.length cc) x.cs ∧ x.cs.length ≤ cc ∧ cc ≤ maxLen ∧
      w.cell? ⟨b, o + k * 7, none⟩ = some (.string x.nm) ∧ w.cell? ⟨b, o + k * 7 + 1, none⟩ = some (.slice ea x.ex.length ec) ∧ w.cell? ⟨b, o + k * 7 + 2, none⟩ = some (.bool x.sel) ∧
      w.cell? ⟨b, o + k * 7 + 3, none⟩ = some (.int .i64 x.h) ∧ w.cell? ⟨b, o + k * 7 + 4, none⟩ = some (.int .i64 x.f) ∧ w.cell? ⟨b, o + k * 7 + 5, none⟩ = some (.slice ca x.cs.length cc) ∧ w.cell? ⟨b, o + k * 7 + 6, none⟩ = some (.int .i64 x.df) := by
  obtain ⟨b', o', e, _, h4⟩ := h.at (by have := (List.getElem?_eq_some_iff.1 hk).1; omega)
  rw [hoa] at e
  simp only [Option.some.injEq, Addr.mk.injEq, and_true] at e
  obtain ⟨rfl, rfl⟩ := e
  obtain ⟨cs, _, ⟨ev, cv, rfl, h1, h2, h3⟩, hc⟩ := h4 k x hk
  obtain ⟨ea, ec, rfl⟩ := ns_slice h2
  obtain ⟨ca, cc, rfl, k1, k2⟩ := h3.slice
  exact ⟨ea, ec, ca, cc, h1, h2, h3, k1, k2, hc 0 _ rfl, hc 1 _ rfl, hc 2 _ rfl, hc 3 _ rfl, hc 4 _ rfl, hc 5 _ rfl, hc 6 _ rfl⟩
theorem case_at {w : World} {b o n c : Nat} {cs : List Ps.Case} {oa : Option Addr} (h : Ps.Cases w (.slice oa n c) cs) (k : Nat) (x : Ps.Case) (hk : cs[k]? = some x) (hoa : oa = some ⟨b, o, none⟩) :
    U32 x.v ∧ U32 x.m ∧ w.cell? ⟨b, o + k * 3, none⟩ = some (.int .u32 x.v) ∧ w.cell? ⟨b, o + k * 3 + 1, none⟩ = some (.int .u32 x.m) ∧ w.cell? ⟨b, o + k * 3 + 2, none⟩ = some (.int .i64 x.nx) := by
  obtain ⟨b', o', e, _, h4⟩ := Rows.at h (by have := (List.getElem?_eq_some_iff.1 hk).1; omega)
  rw [hoa] at e
  simp only [Option.some.injEq, Addr.mk.injEq, and_true] at e
  obtain ⟨rfl, rfl⟩ := e
  obtain ⟨cc, _, ⟨rfl, h1, h2⟩, hc⟩ := h4 k x hk
  exact ⟨h1, h2, hc 0 _ rfl, hc 1 _ rfl, hc 2 _ rfl⟩
set_option maxRecDepth 8000 in
set_option maxHeartbeats 1000000 in
theorem leads_any {W : World} {p : Pg.PV} {P : Pg.Prog} {ss : List Ps.St} (hq : Ps.IsQ W p P ss) (st x : Int) : Calls Try.prog 79 #[p.val, .int .i64 st, .int .i64 x] W (Rets W (.bool (Ps.leads ss.length st x))) := by
  obtain ⟨s, a1, a2, a3, a4, a5, a6, a7, a8, m1, m2, n3, m3, n4, m4, n5, m5, n6, m6, n7, m7, m8, hf⟩ := hq.1.form
  obtain ⟨rfl, hhs, hmd, _, hl1, hl2, _⟩ := hf
  have hss := hq.2
  dsimp only at hss
  obtain ⟨a6', m6', e6, hl6, hc6⟩ := hss.slice
  simp only [Value.slice.injEq] at e6
  obtain ⟨rfl, rfl, rfl⟩ := e6
  unfold maxLen at hc6
  dsimp only [Pg.PV.val]
  have be := alloc_heap W (.cells #[.string s, .slice a1 P.hs.length m1, .slice a2 P.md.length m2, .slice a3 n3 m3, .slice a4 n4 m4, .slice a5 n5 m5, .slice a6 ss.length m6, .slice a7 n7 m7, .slice a8 P.dp.length m8] 31)
  have k6 := alw (cell_of (o := 6) be)
  clear be
  clear hq hhs hmd hss
  by_cases h1 : x = -1
  · subst h1
    rw [Ps.leads_acc]
    go_enter Try.func79, Try.ntmps79
    go_wp2_with fail
    go_ret
    exact ⟨ret_bool (by rfl), grows⟩
  · have f1 : (x == -1) = false := beq_eq_false_iff_ne.2 h1
    by_cases h2 : x = -2
    · subst h2
      rw [Ps.leads_rej]
      go_enter Try.func79, Try.ntmps79
      go_wp2_with fail
      go_ret
      exact ⟨ret_bool (by rfl), grows⟩
    · have f2 : (x == -2) = false := beq_eq_false_iff_ne.2 h2
      rw [Ps.leads_st h1 h2]
      by_cases h3 : st < x
      · have d1 : decide (st < x) = true := decide_eq_true (by omega)
        rw [d1, Bool.true_and]
        go_enter Try.func79, Try.ntmps79
        go_wp2_with fail
        go_ret
        exact ⟨ret_bool (by rfl), grows⟩
      · have d1 : decide (st < x) = false := decide_eq_false (by omega)
        rw [d1, Bool.false_and]
        go_enter Try.func79, Try.ntmps79
        go_wp2_with fail
        go_ret
        exact ⟨ret_bool (by rfl), grows⟩
set_option maxRecDepth 8000 in
set_option maxHeartbeats 1000000 in
theorem rnext_any {W : World} {p : Pg.PV} {P : Pg.Prog} {ss : List Ps.St} (hq : Ps.IsQ W p P ss) (st x : Int) : Calls Try.prog 81 #[p.val, .int .i64 st, .int .i64 x] W (Rets W (.bool (Ps.leads ss.length st x))) := by
  obtain ⟨s, a1, a2, a3, a4, a5, a6, a7, a8, m1, m2, n3, m3, n4, m4, n5, m5, n6, m6, n7, m7, m8, hf⟩ := hq.1.form
  obtain ⟨rfl, hhs, hmd, _, hl1, hl2, _⟩ := hf
  have hss := hq.2
  dsimp only at hss
  obtain ⟨a6', m6', e6, hl6, hc6⟩ := hss.slice
  simp only [Value.slice.injEq] at e6
  obtain ⟨rfl, rfl, rfl⟩ := e6
  unfold maxLen at hc6
  dsimp only [Pg.PV.val]
  have be := alloc_heap W (.cells #[.string s, .slice a1 P.hs.length m1, .slice a2 P.md.length m2, .slice a3 n3 m3, .slice a4 n4 m4, .slice a5 n5 m5, .slice a6 ss.length m6, .slice a7 n7 m7, .slice a8 P.dp.length m8] 31)
  have k6 := alw (cell_of (o := 6) be)
  clear be
  clear hq hhs hmd hss
  by_cases h1 : x = -1
  · subst h1
    rw [Ps.leads_acc]
    go_enter Try.func81, Try.ntmps81
    go_wp2_with fail
    go_ret
    exact ⟨ret_bool (by rfl), grows⟩
  · have f1 : (x == -1) = false := beq_eq_false_iff_ne.2 h1
    by_cases h2 : x = -2
    · subst h2
      rw [Ps.leads_rej]
      go_enter Try.func81, Try.ntmps81
      go_wp2_with fail
      go_ret
      exact ⟨ret_bool (by rfl), grows⟩
    · have f2 : (x == -2) = false := beq_eq_false_iff_ne.2 h2
      rw [Ps.leads_st h1 h2]
      by_cases h3 : st < x
      · have d1 : decide (st < x) = true := decide_eq_true (by omega)
        rw [d1, Bool.true_and]
        go_enter Try.func81, Try.ntmps81
        go_wp2_with fail
        go_ret
        exact ⟨ret_bool (by rfl), grows⟩
      · have d1 : decide (st < x) = false := decide_eq_false (by omega)
        rw [d1, Bool.false_and]
        go_enter Try.func81, Try.ntmps81
        go_wp2_with fail
        go_ret
        exact ⟨ret_bool (by rfl), grows⟩
end Go.Proofs.Ytonnlcjkgpahoaa
namespace Go.Proofs.Ytonnlcjkgpahoaa
open Go.RowKit

theorem ret_two {R : Int × Int} {a b : Int} (h : R = (a, b)) : Ending.returned (.tuple #[.int .i64 a, .int .i64 b]) = .returned (.tuple #[.int .i64 R.1, .int .i64 R.2]) := by rw [h]
set_option maxRecDepth 8000 in
set_option maxHeartbeats 2000000 in
theorem ccase_any {W : World} {p : Pg.PV} {P : Pg.Prog} {ss : List Ps.St} (hq : Ps.IsQ W p P ss) (k : Nat) (x : Ps.St) (hk : ss[k]? = some x) (c : Ps.Case) (hv : U32 c.v) (hm : U32 c.m) : Calls Try.prog 78 #[p.val, .int .i64 k, .agg #[.int .u32 c.v, .int .u32 c.m, .int .i64 c.nx]] W (Rets W (.int .i64 (Ps.caseE (Pg.wid P x.h x.f) ss.length k c))) := by
  obtain ⟨s, a1, a2, a3, a4, a5, a6, a7, a8, m1, m2, n3, m3, n4, m4, n5, m5, n6, m6, n7, m7, m8, hf⟩ := hq.1.form
  obtain ⟨rfl, hhs, hmd, _, hl1, hl2, _⟩ := hf
  have hss := hq.2
  dsimp only at hss
  obtain ⟨a6', m6', e6, hl6, hc6⟩ := hss.slice
  simp only [Value.slice.injEq] at e6
  obtain ⟨rfl, rfl, rfl⟩ := e6
  unfold maxLen at hc6
  obtain ⟨ab, ao, rfl, _, _⟩ := hss.at (by have := (List.getElem?_eq_some_iff.1 hk).1; omega)
  have hkl : k < ss.length := (List.getElem?_eq_some_iff.1 hk).1
  obtain ⟨ea, ec, ca, cc, hnm, hex, hcs, hcl, hcm, g0, g1, g2, g3, g4, g5, g6⟩ := st_at hss k x hk rfl
  obtain ⟨wd, hwd⟩ : ∃ z, z = Pg.wid P x.h x.f := ⟨_, rfl⟩
  obtain ⟨fv, hfv⟩ : ∃ z, z = Bv.fits c.v wd := ⟨_, rfl⟩
  obtain ⟨fm, hfm⟩ : ∃ z, z = Bv.fits c.m wd := ⟨_, rfl⟩
  obtain ⟨lb, hlb⟩ : ∃ z, z = Ps.leads ss.length k c.nx := ⟨_, rfl⟩
  have HW : Hid (∀ w, Ext W w → Calls Try.prog 77 #[.agg #[.string s, .slice a1 P.hs.length m1, .slice a2 P.md.length m2, .slice a3 n3 m3, .slice a4 n4 m4, .slice a5 n5 m5, .slice (some ⟨ab, ao, none⟩) ss.length m6, .slice a7 n7 m7, .slice a8 P.dp.length m8], .agg #[.int .i64 x.h, .int .i64 x.f]] w (Rets w (.int .i64 wd))) := Lib.hid (fun w hx => by have h := width_any (hq.1.ext hx) x.h x.f; rw [← hwd] at h; exact h)
  have HL : Hid (∀ w, Ext W w → Calls Try.prog 79 #[.agg #[.string s, .slice a1 P.hs.length m1, .slice a2 P.md.length m2, .slice a3 n3 m3, .slice a4 n4 m4, .slice a5 n5 m5, .slice (some ⟨ab, ao, none⟩) ss.length m6, .slice a7 n7 m7, .slice a8 P.dp.length m8], .int .i64 k, .int .i64 c.nx] w (Rets w (.bool lb))) := Lib.hid (fun w hx => by have h := leads_any (hq.ext hx) k c.nx; rw [← hlb] at h; exact h)
  have HFV : Hid (∀ w, Calls Try.prog 100 #[.int .u32 c.v, .int .i64 wd] w (Rets w (.bool fv))) := Lib.hid (fun w => by have h := fits_any c.v wd w; rw [← hfv] at h; exact h)
  have HFM : Hid (∀ w, Calls Try.prog 100 #[.int .u32 c.m, .int .i64 wd] w (Rets w (.bool fm))) := Lib.hid (fun w => by have h := fits_any c.m wd w; rw [← hfm] at h; exact h)
  have HE : Hid (Ps.caseE wd ss.length k c = if fv && fm then (if bits BinOp.and IntKind.u32 c.v c.m = c.v then (if lb then 0 else 14) else 5) else 9) := Lib.hid (by unfold Ps.caseE; rw [← hfv, ← hfm, ← hlb])
  have hz := Ps.andNot_zero hv hm
  rw [← hwd]
  obtain ⟨E, hE⟩ : ∃ z, z = Ps.caseE wd ss.length k c := ⟨_, rfl⟩
  rw [← hE] at HE ⊢
  clear hwd hfv hfm hlb hE
  have y0 := alw g3
  have y1 := alw g4
  have bx := alloc_heap W (.cells #[.string s, .slice a1 P.hs.length m1, .slice a2 P.md.length m2, .slice a3 n3 m3, .slice a4 n4 m4, .slice a5 n5 m5, .slice (some ⟨ab, ao, none⟩) ss.length m6, .slice a7 n7 m7, .slice a8 P.dp.length m8] 31)
  have pc0 := alw (cell_of (o := 0) bx)
  have pc1 := alw (cell_of (o := 1) bx)
  have pc2 := alw (cell_of (o := 2) bx)
  have pc3 := alw (cell_of (o := 3) bx)
  have pc4 := alw (cell_of (o := 4) bx)
  have pc5 := alw (cell_of (o := 5) bx)
  have pc6 := alw (cell_of (o := 6) bx)
  have pc7 := alw (cell_of (o := 7) bx)
  have pc8 := alw (cell_of (o := 8) bx)
  clear bx
  have bx := alloc_heap (W.alloc (.cells #[.string s, .slice a1 P.hs.length m1, .slice a2 P.md.length m2, .slice a3 n3 m3, .slice a4 n4 m4, .slice a5 n5 m5, .slice (some ⟨ab, ao, none⟩) ss.length m6, .slice a7 n7 m7, .slice a8 P.dp.length m8] 31)) (.cells #[.int .u32 c.v, .int .u32 c.m, .int .i64 c.nx] 115)
  rw [World.size_alloc] at bx
  have cc0 := alw (cell_of (o := 0) bx)
  have cc1 := alw (cell_of (o := 1) bx)
  have cc2 := alw (cell_of (o := 2) bx)
  clear bx
  dsimp only [Pg.PV.val]
  clear hq hhs hmd hss hk hex hcs g0 g1 g2 g3 g4 g5 g6
  cases fv with
  | false =>
    go_enter Try.func78, Try.ntmps78
    go_wp2_with fail
    refine Rel.region (W := ((W.alloc (.cells #[.string s, .slice a1 P.hs.length m1, .slice a2 P.md.length m2, .slice a3 n3 m3, .slice a4 n4 m4, .slice a5 n5 m5, .slice (some ⟨ab, ao, none⟩) ss.length m6, .slice a7 n7 m7, .slice a8 P.dp.length m8] 31)).alloc (.cells #[.int .u32 c.v, .int .u32 c.m, .int .i64 c.nx] 115))) (Rel.tab [(7, fun v _ => v = .int .i64 wd)]) (Rel.tab_lasts (by intro p hp v w w' hr hx; simp only [List.mem_cons, List.not_mem_nil, or_false] at hp; subst hp; exact hr)) (by kernel_rfl) (by kernel_rfl) (Ext.refl _) ?_
    refine Rel.chunk 7 rfl rfl rfl ?_
    simp only [List.take_succ_cons, List.take_zero, List.drop_succ_cons, List.drop_zero, Nat.reduceAdd]
    repeat (go_big_quiet_step (fail))
    refine wpQuiet_nil ?_
    refine Rel.callG (fun v _ => v = .int .i64 wd) rfl rfl rfl Try.func77 (by nofun) (by decide) #[.agg #[.string s, .slice a1 P.hs.length m1, .slice a2 P.md.length m2, .slice a3 n3 m3, .slice a4 n4 m4, .slice a5 n5 m5, .slice (some ⟨ab, ao, none⟩) ss.length m6, .slice a7 n7 m7, .slice a8 P.dp.length m8], .agg #[.int .i64 x.h, .int .i64 x.f]] rfl (fun w hx _ => by refine (HW.out w ((grows (a := W) (b := ((W.alloc (.cells #[.string s, .slice a1 P.hs.length m1, .slice a2 P.md.length m2, .slice a3 n3 m3, .slice a4 n4 m4, .slice a5 n5 m5, .slice (some ⟨ab, ao, none⟩) ss.length m6, .slice a7 n7 m7, .slice a8 P.dp.length m8] 31)).alloc (.cells #[.int .u32 c.v, .int .u32 c.m, .int .i64 c.nx] 115)))).trans hx)).mono ?_; rintro e w9 ⟨he, hx9⟩; exact ⟨_, he, hx9, rfl⟩) ?_
    intro v7 wq7 _ _ r7
    subst r7
    simp only [Act.put, List.setIfInBounds_toArray, List.set_cons_succ, List.set_cons_zero]
    refine Rel.chunk 1 rfl rfl rfl ?_
    simp only [List.take_succ_cons, List.take_zero, List.drop_succ_cons, List.drop_zero, Nat.reduceAdd]
    repeat (go_big_quiet_step (fail))
    refine wpQuiet_nil ?_
    refine Rel.fin ?_
    intro w3 x3 _
    have s3 := Step.mk x3
    go_wp2_with fail
    refine (HFV.out _).mono ?_
    rintro e w4 ⟨rfl, xw4⟩
    have sw4 := Step.mk xw4
    go_wp2_with fail
    go_ret
    exact ⟨ret_int (by rw [HE.out]; rfl), grows⟩
  | true =>
    cases fm with
    | false =>
      go_enter Try.func78, Try.ntmps78
      go_wp2_with fail
      refine Rel.region (W := ((W.alloc (.cells #[.string s, .slice a1 P.hs.length m1, .slice a2 P.md.length m2, .slice a3 n3 m3, .slice a4 n4 m4, .slice a5 n5 m5, .slice (some ⟨ab, ao, none⟩) ss.length m6, .slice a7 n7 m7, .slice a8 P.dp.length m8] 31)).alloc (.cells #[.int .u32 c.v, .int .u32 c.m, .int .i64 c.nx] 115))) (Rel.tab [(7, fun v _ => v = .int .i64 wd)]) (Rel.tab_lasts (by intro p hp v w w' hr hx; simp only [List.mem_cons, List.not_mem_nil, or_false] at hp; subst hp; exact hr)) (by kernel_rfl) (by kernel_rfl) (Ext.refl _) ?_
      refine Rel.chunk 7 rfl rfl rfl ?_
      simp only [List.take_succ_cons, List.take_zero, List.drop_succ_cons, List.drop_zero, Nat.reduceAdd]
      repeat (go_big_quiet_step (fail))
      refine wpQuiet_nil ?_
      refine Rel.callG (fun v _ => v = .int .i64 wd) rfl rfl rfl Try.func77 (by nofun) (by decide) #[.agg #[.string s, .slice a1 P.hs.length m1, .slice a2 P.md.length m2, .slice a3 n3 m3, .slice a4 n4 m4, .slice a5 n5 m5, .slice (some ⟨ab, ao, none⟩) ss.length m6, .slice a7 n7 m7, .slice a8 P.dp.length m8], .agg #[.int .i64 x.h, .int .i64 x.f]] rfl (fun w hx _ => by refine (HW.out w ((grows (a := W) (b := ((W.alloc (.cells #[.string s, .slice a1 P.hs.length m1, .slice a2 P.md.length m2, .slice a3 n3 m3, .slice a4 n4 m4, .slice a5 n5 m5, .slice (some ⟨ab, ao, none⟩) ss.length m6, .slice a7 n7 m7, .slice a8 P.dp.length m8] 31)).alloc (.cells #[.int .u32 c.v, .int .u32 c.m, .int .i64 c.nx] 115)))).trans hx)).mono ?_; rintro e w9 ⟨he, hx9⟩; exact ⟨_, he, hx9, rfl⟩) ?_
      intro v7 wq7 _ _ r7
      subst r7
      simp only [Act.put, List.setIfInBounds_toArray, List.set_cons_succ, List.set_cons_zero]
      refine Rel.chunk 1 rfl rfl rfl ?_
      simp only [List.take_succ_cons, List.take_zero, List.drop_succ_cons, List.drop_zero, Nat.reduceAdd]
      repeat (go_big_quiet_step (fail))
      refine wpQuiet_nil ?_
      refine Rel.fin ?_
      intro w3 x3 _
      have s3 := Step.mk x3
      go_wp2_with fail
      refine (HFV.out _).mono ?_
      rintro e w4 ⟨rfl, xw4⟩
      have sw4 := Step.mk xw4
      go_wp2_with fail
      refine (HFM.out _).mono ?_
      rintro e w5 ⟨rfl, xw5⟩
      have sw5 := Step.mk xw5
      go_wp2_with fail
      go_ret
      exact ⟨ret_int (by rw [HE.out]; rfl), grows⟩
    | true =>
      by_cases hsy : bits BinOp.and IntKind.u32 c.v c.m = c.v
      · have z1 : (bits BinOp.andNot IntKind.u32 c.v c.m != 0) = false := by rw [hz.2 hsy]; rfl
        have z2 : bits BinOp.andNot IntKind.u32 c.v c.m = 0 := hz.2 hsy
        have HSY := Lib.hid hsy
        clear hsy hz
        cases lb with
        | false =>
          go_enter Try.func78, Try.ntmps78
          go_wp2_with fail
          refine Rel.region (W := ((W.alloc (.cells #[.string s, .slice a1 P.hs.length m1, .slice a2 P.md.length m2, .slice a3 n3 m3, .slice a4 n4 m4, .slice a5 n5 m5, .slice (some ⟨ab, ao, none⟩) ss.length m6, .slice a7 n7 m7, .slice a8 P.dp.length m8] 31)).alloc (.cells #[.int .u32 c.v, .int .u32 c.m, .int .i64 c.nx] 115))) (Rel.tab [(7, fun v _ => v = .int .i64 wd)]) (Rel.tab_lasts (by intro p hp v w w' hr hx; simp only [List.mem_cons, List.not_mem_nil, or_false] at hp; subst hp; exact hr)) (by kernel_rfl) (by kernel_rfl) (Ext.refl _) ?_
          refine Rel.chunk 7 rfl rfl rfl ?_
          simp only [List.take_succ_cons, List.take_zero, List.drop_succ_cons, List.drop_zero, Nat.reduceAdd]
          repeat (go_big_quiet_step (fail))
          refine wpQuiet_nil ?_
          refine Rel.callG (fun v _ => v = .int .i64 wd) rfl rfl rfl Try.func77 (by nofun) (by decide) #[.agg #[.string s, .slice a1 P.hs.length m1, .slice a2 P.md.length m2, .slice a3 n3 m3, .slice a4 n4 m4, .slice a5 n5 m5, .slice (some ⟨ab, ao, none⟩) ss.length m6, .slice a7 n7 m7, .slice a8 P.dp.length m8], .agg #[.int .i64 x.h, .int .i64 x.f]] rfl (fun w hx _ => by refine (HW.out w ((grows (a := W) (b := ((W.alloc (.cells #[.string s, .slice a1 P.hs.length m1, .slice a2 P.md.length m2, .slice a3 n3 m3, .slice a4 n4 m4, .slice a5 n5 m5, .slice (some ⟨ab, ao, none⟩) ss.length m6, .slice a7 n7 m7, .slice a8 P.dp.length m8] 31)).alloc (.cells #[.int .u32 c.v, .int .u32 c.m, .int .i64 c.nx] 115)))).trans hx)).mono ?_; rintro e w9 ⟨he, hx9⟩; exact ⟨_, he, hx9, rfl⟩) ?_
          intro v7 wq7 _ _ r7
          subst r7
          simp only [Act.put, List.setIfInBounds_toArray, List.set_cons_succ, List.set_cons_zero]
          refine Rel.chunk 1 rfl rfl rfl ?_
          simp only [List.take_succ_cons, List.take_zero, List.drop_succ_cons, List.drop_zero, Nat.reduceAdd]
          repeat (go_big_quiet_step (fail))
          refine wpQuiet_nil ?_
          refine Rel.fin ?_
          intro w3 x3 _
          have s3 := Step.mk x3
          go_wp2_with fail
          refine (HFV.out _).mono ?_
          rintro e w4 ⟨rfl, xw4⟩
          have sw4 := Step.mk xw4
          go_wp2_with fail
          refine (HFM.out _).mono ?_
          rintro e w5 ⟨rfl, xw5⟩
          have sw5 := Step.mk xw5
          go_wp2_with fail
          refine (HL.out _ grows).mono ?_
          rintro e w6 ⟨rfl, xw6⟩
          have sw6 := Step.mk xw6
          go_wp2_with fail
          go_ret
          exact ⟨ret_int (by rw [HE.out, if_pos HSY.out]; rfl), grows⟩
        | true =>
          go_enter Try.func78, Try.ntmps78
          go_wp2_with fail
          refine Rel.region (W := ((W.alloc (.cells #[.string s, .slice a1 P.hs.length m1, .slice a2 P.md.length m2, .slice a3 n3 m3, .slice a4 n4 m4, .slice a5 n5 m5, .slice (some ⟨ab, ao, none⟩) ss.length m6, .slice a7 n7 m7, .slice a8 P.dp.length m8] 31)).alloc (.cells #[.int .u32 c.v, .int .u32 c.m, .int .i64 c.nx] 115))) (Rel.tab [(7, fun v _ => v = .int .i64 wd)]) (Rel.tab_lasts (by intro p hp v w w' hr hx; simp only [List.mem_cons, List.not_mem_nil, or_false] at hp; subst hp; exact hr)) (by kernel_rfl) (by kernel_rfl) (Ext.refl _) ?_
          refine Rel.chunk 7 rfl rfl rfl ?_
          simp only [List.take_succ_cons, List.take_zero, List.drop_succ_cons, List.drop_zero, Nat.reduceAdd]
          repeat (go_big_quiet_step (fail))
          refine wpQuiet_nil ?_
          refine Rel.callG (fun v _ => v = .int .i64 wd) rfl rfl rfl Try.func77 (by nofun) (by decide) #[.agg #[.string s, .slice a1 P.hs.length m1, .slice a2 P.md.length m2, .slice a3 n3 m3, .slice a4 n4 m4, .slice a5 n5 m5, .slice (some ⟨ab, ao, none⟩) ss.length m6, .slice a7 n7 m7, .slice a8 P.dp.length m8], .agg #[.int .i64 x.h, .int .i64 x.f]] rfl (fun w hx _ => by refine (HW.out w ((grows (a := W) (b := ((W.alloc (.cells #[.string s, .slice a1 P.hs.length m1, .slice a2 P.md.length m2, .slice a3 n3 m3, .slice a4 n4 m4, .slice a5 n5 m5, .slice (some ⟨ab, ao, none⟩) ss.length m6, .slice a7 n7 m7, .slice a8 P.dp.length m8] 31)).alloc (.cells #[.int .u32 c.v, .int .u32 c.m, .int .i64 c.nx] 115)))).trans hx)).mono ?_; rintro e w9 ⟨he, hx9⟩; exact ⟨_, he, hx9, rfl⟩) ?_
          intro v7 wq7 _ _ r7
          subst r7
          simp only [Act.put, List.setIfInBounds_toArray, List.set_cons_succ, List.set_cons_zero]
          refine Rel.chunk 1 rfl rfl rfl ?_
          simp only [List.take_succ_cons, List.take_zero, List.drop_succ_cons, List.drop_zero, Nat.reduceAdd]
          repeat (go_big_quiet_step (fail))
          refine wpQuiet_nil ?_
          refine Rel.fin ?_
          intro w3 x3 _
          have s3 := Step.mk x3
          go_wp2_with fail
          refine (HFV.out _).mono ?_
          rintro e w4 ⟨rfl, xw4⟩
          have sw4 := Step.mk xw4
          go_wp2_with fail
          refine (HFM.out _).mono ?_
          rintro e w5 ⟨rfl, xw5⟩
          have sw5 := Step.mk xw5
          go_wp2_with fail
          refine (HL.out _ grows).mono ?_
          rintro e w6 ⟨rfl, xw6⟩
          have sw6 := Step.mk xw6
          go_wp2_with fail
          go_ret
          exact ⟨ret_int (by rw [HE.out, if_pos HSY.out]; rfl), grows⟩
      · have z1 : (bits BinOp.andNot IntKind.u32 c.v c.m != 0) = true := bne_iff_ne.2 (fun e => hsy (hz.1 e))
        have HSY := Lib.hid hsy
        clear hsy hz
        go_enter Try.func78, Try.ntmps78
        go_wp2_with fail
        refine Rel.region (W := ((W.alloc (.cells #[.string s, .slice a1 P.hs.length m1, .slice a2 P.md.length m2, .slice a3 n3 m3, .slice a4 n4 m4, .slice a5 n5 m5, .slice (some ⟨ab, ao, none⟩) ss.length m6, .slice a7 n7 m7, .slice a8 P.dp.length m8] 31)).alloc (.cells #[.int .u32 c.v, .int .u32 c.m, .int .i64 c.nx] 115))) (Rel.tab [(7, fun v _ => v = .int .i64 wd)]) (Rel.tab_lasts (by intro p hp v w w' hr hx; simp only [List.mem_cons, List.not_mem_nil, or_false] at hp; subst hp; exact hr)) (by kernel_rfl) (by kernel_rfl) (Ext.refl _) ?_
        refine Rel.chunk 7 rfl rfl rfl ?_
        simp only [List.take_succ_cons, List.take_zero, List.drop_succ_cons, List.drop_zero, Nat.reduceAdd]
        repeat (go_big_quiet_step (fail))
        refine wpQuiet_nil ?_
        refine Rel.callG (fun v _ => v = .int .i64 wd) rfl rfl rfl Try.func77 (by nofun) (by decide) #[.agg #[.string s, .slice a1 P.hs.length m1, .slice a2 P.md.length m2, .slice a3 n3 m3, .slice a4 n4 m4, .slice a5 n5 m5, .slice (some ⟨ab, ao, none⟩) ss.length m6, .slice a7 n7 m7, .slice a8 P.dp.length m8], .agg #[.int .i64 x.h, .int .i64 x.f]] rfl (fun w hx _ => by refine (HW.out w ((grows (a := W) (b := ((W.alloc (.cells #[.string s, .slice a1 P.hs.length m1, .slice a2 P.md.length m2, .slice a3 n3 m3, .slice a4 n4 m4, .slice a5 n5 m5, .slice (some ⟨ab, ao, none⟩) ss.length m6, .slice a7 n7 m7, .slice a8 P.dp.length m8] 31)).alloc (.cells #[.int .u32 c.v, .int .u32 c.m, .int .i64 c.nx] 115)))).trans hx)).mono ?_; rintro e w9 ⟨he, hx9⟩; exact ⟨_, he, hx9, rfl⟩) ?_
        intro v7 wq7 _ _ r7
        subst r7
        simp only [Act.put, List.setIfInBounds_toArray, List.set_cons_succ, List.set_cons_zero]
        refine Rel.chunk 1 rfl rfl rfl ?_
        simp only [List.take_succ_cons, List.take_zero, List.drop_succ_cons, List.drop_zero, Nat.reduceAdd]
        repeat (go_big_quiet_step (fail))
        refine wpQuiet_nil ?_
        refine Rel.fin ?_
        intro w3 x3 _
        have s3 := Step.mk x3
        go_wp2_with fail
        refine (HFV.out _).mono ?_
        rintro e w4 ⟨rfl, xw4⟩
        have sw4 := Step.mk xw4
        go_wp2_with fail
        refine (HFM.out _).mono ?_
        rintro e w5 ⟨rfl, xw5⟩
        have sw5 := Step.mk xw5
        go_wp2_with fail
        go_ret
        exact ⟨ret_int (by rw [HE.out, if_neg HSY.out]; rfl), grows⟩
set_option maxRecDepth 8000 in
set_option maxHeartbeats 4000000 in
theorem rcases_any {W : World} {p : Pg.PV} {P : Pg.Prog} {ss : List Ps.St} (hq : Ps.IsQ W p P ss) (k : Nat) (x : Ps.St) (hk : ss[k]? = some x) (hw : x.cs.length = 0 ∨ Bv.ok (Pg.wid P x.h x.f) = true) : Calls Try.prog 80 #[p.val, .int .i64 k] W (Rets W (.tuple #[.int .i64 (Ps.csE (Pg.wid P x.h x.f) ss.length k x.cs).1, .int .i64 (Ps.csE (Pg.wid P x.h x.f) ss.length k x.cs).2])) := by
  obtain ⟨s, a1, a2, a3, a4, a5, a6, a7, a8, m1, m2, n3, m3, n4, m4, n5, m5, n6, m6, n7, m7, m8, hf⟩ := hq.1.form
  obtain ⟨rfl, hhs, hmd, _, hl1, hl2, _⟩ := hf
  have hss := hq.2
  dsimp only at hss
  obtain ⟨a6', m6', e6, hl6, hc6⟩ := hss.slice
  simp only [Value.slice.injEq] at e6
  obtain ⟨rfl, rfl, rfl⟩ := e6
  unfold maxLen at hc6
  obtain ⟨ab, ao, rfl, _, _⟩ := hss.at (by have := (List.getElem?_eq_some_iff.1 hk).1; omega)
  have hkl : k < ss.length := (List.getElem?_eq_some_iff.1 hk).1
  obtain ⟨ea, ec, ca, cc, hnm, hex, hcs, hcl, hcm, g0, g1, g2, g3, g4, g5, g6⟩ := st_at hss k x hk rfl
  have hwb := Pg.wid_bd P x.h x.f
  obtain ⟨wd, hwd⟩ : ∃ z, z = Pg.wid P x.h x.f := ⟨_, rfl⟩
  have HW : Hid (∀ w, Ext W w → Calls Try.prog 59 #[.agg #[.string s, .slice a1 P.hs.length m1, .slice a2 P.md.length m2, .slice a3 n3 m3, .slice a4 n4 m4, .slice a5 n5 m5, .slice (some ⟨ab, ao, none⟩) ss.length m6, .slice a7 n7 m7, .slice a8 P.dp.length m8], .agg #[.int .i64 x.h, .int .i64 x.f]] w (Rets w (.int .i64 wd))) := Lib.hid (fun w hx => by have h := rwidth_any (hq.1.ext hx) x.h x.f; rw [← hwd] at h; exact h)
  have HL : Hid (∀ w, Ext W w → ∀ z : Int, Calls Try.prog 81 #[.agg #[.string s, .slice a1 P.hs.length m1, .slice a2 P.md.length m2, .slice a3 n3 m3, .slice a4 n4 m4, .slice a5 n5 m5, .slice (some ⟨ab, ao, none⟩) ss.length m6, .slice a7 n7 m7, .slice a8 P.dp.length m8], .int .i64 k, .int .i64 z] w (Rets w (.bool (Ps.leads ss.length k z)))) := Lib.hid (fun w hx z => by have h := rnext_any (hq.ext hx) k z; exact h)
  rw [← hwd] at hwb hw ⊢
  have HFT : Hid (Bv.ok wd = true → ∀ v : Int, U32 v → ∀ w, Calls Try.prog 58 #[.int .u32 v, .int .i64 wd] w (Rets w (.bool (Bv.fits v wd)))) := Lib.hid (fun ho v hv w => by
    have h := Rets.of_eq (rfits12_any (W := w) v wd hv.1 hv.2 hwb.1 hwb.2)
    rw [show decide (v ≤ Bv.mask wd) = Bv.fits v wd by unfold Bv.fits Bv.mask; rw [if_pos ho, ho, Bool.true_and, decide_eq_decide]; omega] at h
    exact h)
  have HOW := Lib.hid hw
  obtain ⟨R, hR⟩ : ∃ z, z = Ps.csE wd ss.length k x.cs := ⟨_, rfl⟩
  rw [← hR]
  have HR := Lib.hid hR
  have HCS := Lib.hid hcs
  clear hwd hwb hw hR
  have y0 := alw g0
  have y1 := alw g1
  have y2 := alw g2
  have y3 := alw g3
  have y4 := alw g4
  have y5 := alw g5
  have y6 := alw g6
  have bx := alloc_heap W (.cells #[.string s, .slice a1 P.hs.length m1, .slice a2 P.md.length m2, .slice a3 n3 m3, .slice a4 n4 m4, .slice a5 n5 m5, .slice (some ⟨ab, ao, none⟩) ss.length m6, .slice a7 n7 m7, .slice a8 P.dp.length m8] 31)
  have pc0 := alw (cell_of (o := 0) bx)
  have pc1 := alw (cell_of (o := 1) bx)
  have pc2 := alw (cell_of (o := 2) bx)
  have pc3 := alw (cell_of (o := 3) bx)
  have pc4 := alw (cell_of (o := 4) bx)
  have pc5 := alw (cell_of (o := 5) bx)
  have pc6 := alw (cell_of (o := 6) bx)
  have pc7 := alw (cell_of (o := 7) bx)
  have pc8 := alw (cell_of (o := 8) bx)
  clear bx
  have bx := alloc_heap (W.alloc (.cells #[.string s, .slice a1 P.hs.length m1, .slice a2 P.md.length m2, .slice a3 n3 m3, .slice a4 n4 m4, .slice a5 n5 m5, .slice (some ⟨ab, ao, none⟩) ss.length m6, .slice a7 n7 m7, .slice a8 P.dp.length m8] 31)) (.cells #[.string x.nm, .slice ea x.ex.length ec, .bool x.sel, .int .i64 x.h, .int .i64 x.f, .slice ca x.cs.length cc, .int .i64 x.df] 61)
  rw [World.size_alloc] at bx
  have xc0 := alw (cell_of (o := 0) bx)
  have xc1 := alw (cell_of (o := 1) bx)
  have xc2 := alw (cell_of (o := 2) bx)
  have xc3 := alw (cell_of (o := 3) bx)
  have xc4 := alw (cell_of (o := 4) bx)
  have xc5 := alw (cell_of (o := 5) bx)
  have xc6 := alw (cell_of (o := 6) bx)
  clear bx
  dsimp only [Pg.PV.val]
  unfold maxLen at hcm
  clear hq hhs hmd hss hk hex hcs hnm g0 g1 g2 g3 g4 g5 g6
  go_enter Try.func80, Try.ntmps80
  go_wp2_with fail
  refine (HW.out _ grows).mono ?_
  rintro e w3 ⟨rfl, xw3⟩
  have sw3 := Step.mk xw3
  go_wp2_with fail
  go_loopw [8] (fun q wr => ∃ i : Nat, i ≤ x.cs.length ∧ q = .int .i64 i ∧ Ext w3 wr ∧ Hid (∀ j, j < i → Ps.caseE wd ss.length k (x.cs.getD j Ps.c0) = 0)) (fun q _ => x.cs.length - (intOf q).toNat)
  case atStart => exact ⟨0, Nat.zero_le _, rfl, Ext.refl _, Lib.hid (by intro j hj; omega)⟩
  case round =>
    obtain ⟨i, hi, rfl, hx, HZ⟩ := hrel
    have sx := Step.mk hx
    by_cases hlt : i < x.cs.length
    · have ho : Bv.ok wd = true := by rcases HOW.out with h | h; (· omega); (· exact h)
      obtain ⟨⟨c1, c2, c3⟩, hci⟩ : ∃ c, x.cs[i]? = some c := ⟨_, List.getElem?_eq_getElem (by omega)⟩
      obtain ⟨cb, co, rfl, _, _⟩ := Rows.at HCS.out (by omega)
      obtain ⟨hv, hm, u0, u1, u2⟩ := case_at HCS.out i _ hci rfl
      have t0 := alw u0
      have t1 := alw u1
      have t2 := alw u2
      have HGC := Lib.hid (show x.cs.getD i Ps.c0 = ⟨c1, c2, c3⟩ by rw [List.getD_eq_getElem?_getD, hci]; rfl)
      dsimp only at hv hm t0 t1 t2
      clear u0 u1 u2 hci
      have F1 := Lib.hid (HFT.out ho c1 hv)
      have F2 := Lib.hid (HFT.out ho c2 hm)
      obtain ⟨fv, hfv⟩ : ∃ z, z = Bv.fits c1 wd := ⟨_, rfl⟩
      obtain ⟨fm, hfm⟩ : ∃ z, z = Bv.fits c2 wd := ⟨_, rfl⟩
      obtain ⟨lb, hlb⟩ : ∃ z, z = Ps.leads ss.length k c3 := ⟨_, rfl⟩
      have HE : Hid (Ps.caseE wd ss.length k (x.cs.getD i Ps.c0) = if fv && fm then (if bits BinOp.and IntKind.u32 c1 c2 = c1 then (if lb then 0 else 14) else 5) else 9) := Lib.hid (by rw [HGC.out]; unfold Ps.caseE; rw [← hfv, ← hfm, ← hlb])
      have HL3 : Hid (∀ w, Ext W w → Calls Try.prog 81 #[.agg #[.string s, .slice a1 P.hs.length m1, .slice a2 P.md.length m2, .slice a3 n3 m3, .slice a4 n4 m4, .slice a5 n5 m5, .slice (some ⟨ab, ao, none⟩) ss.length m6, .slice a7 n7 m7, .slice a8 P.dp.length m8], .int .i64 k, .int .i64 c3] w (Rets w (.bool lb))) := Lib.hid (fun w hx => by have h := HL.out w hx c3; rw [← hlb] at h; exact h)
      rw [← hfv] at F1
      rw [← hfm] at F2
      have bx := alloc_heap wr (.cells #[.int .u32 c1, .int .u32 c2, .int .i64 c3] 115)
      have dc0 := alw (cell_of (o := 0) bx)
      have dc1 := alw (cell_of (o := 1) bx)
      have dc2 := alw (cell_of (o := 2) bx)
      clear bx
      clear hfv hfm hlb ho hv hm
      cases fv with
      | false =>
        go_wp2_with fail
        refine (F1.out _).mono ?_
        rintro e w5 ⟨rfl, xw5⟩
        have sw5 := Step.mk xw5
        go_wp2_with fail
        go_ret2
        exact ⟨ret_two (by rw [HR.out, Ps.csE_some hlt HZ.out (by rw [HE.out]; simp), HE.out]; rfl), grows⟩
      | true =>
        cases fm with
        | false =>
          go_wp2_with fail
          refine (F1.out _).mono ?_
          rintro e w5 ⟨rfl, xw5⟩
          have sw5 := Step.mk xw5
          go_wp2_with fail
          refine (F2.out _).mono ?_
          rintro e w6 ⟨rfl, xw6⟩
          have sw6 := Step.mk xw6
          go_wp2_with fail
          go_ret2
          exact ⟨ret_two (by rw [HR.out, Ps.csE_some hlt HZ.out (by rw [HE.out]; simp), HE.out]; rfl), grows⟩
        | true =>
          by_cases hsy : bits BinOp.and IntKind.u32 c1 c2 = c1
          · have z1 : (bits BinOp.and IntKind.u32 c1 c2 != c1) = false := by rw [bne_eq_false_iff_eq]; exact hsy
            have HSY := Lib.hid hsy
            clear hsy
            cases lb with
            | false =>
              go_wp2_with fail
              refine (F1.out _).mono ?_
              rintro e w5 ⟨rfl, xw5⟩
              have sw5 := Step.mk xw5
              go_wp2_with fail
              refine (F2.out _).mono ?_
              rintro e w6 ⟨rfl, xw6⟩
              have sw6 := Step.mk xw6
              go_wp2_with fail
              refine (HL3.out _ grows).mono ?_
              rintro e w7 ⟨rfl, xw7⟩
              have sw7 := Step.mk xw7
              go_wp2_with fail
              go_ret2
              exact ⟨ret_two (by rw [HR.out, Ps.csE_some hlt HZ.out (by rw [HE.out, if_pos HSY.out]; decide), HE.out, if_pos HSY.out]; rfl), grows⟩
            | true =>
              have HQ0 : Hid (Ps.caseE wd ss.length k (x.cs.getD i Ps.c0) = 0) := Lib.hid (by rw [HE.out, if_pos HSY.out]; rfl)
              go_wp2_with fail
              refine (F1.out _).mono ?_
              rintro e w5 ⟨rfl, xw5⟩
              have sw5 := Step.mk xw5
              go_wp2_with fail
              refine (F2.out _).mono ?_
              rintro e w6 ⟨rfl, xw6⟩
              have sw6 := Step.mk xw6
              go_wp2_with fail
              refine (HL3.out _ grows).mono ?_
              rintro e w7 ⟨rfl, xw7⟩
              have sw7 := Step.mk xw7
              go_wp2_with fail
              go_roundw
              case rel =>
                refine ⟨i + 1, by omega, by go_num, grows, Lib.hid (fun j hj => ?_)⟩
                rcases Nat.lt_or_ge j i with h1 | h1
                · exact HZ.out j h1
                · obtain rfl : j = i := by omega
                  exact HQ0.out
              case measure => simp [intOf]; omega
          · have z1 : (bits BinOp.and IntKind.u32 c1 c2 != c1) = true := bne_iff_ne.2 hsy
            have HSY := Lib.hid hsy
            clear hsy
            go_wp2_with fail
            refine (F1.out _).mono ?_
            rintro e w5 ⟨rfl, xw5⟩
            have sw5 := Step.mk xw5
            go_wp2_with fail
            refine (F2.out _).mono ?_
            rintro e w6 ⟨rfl, xw6⟩
            have sw6 := Step.mk xw6
            go_wp2_with fail
            go_ret2
            exact ⟨ret_two (by rw [HR.out, Ps.csE_some hlt HZ.out (by rw [HE.out, if_neg HSY.out]; decide), HE.out, if_neg HSY.out]; rfl), grows⟩
    · obtain rfl : i = x.cs.length := by omega
      go_wp2_with fail
      go_ret2
      exact ⟨ret_two (by rw [HR.out, Ps.csE_none HZ.out]), grows⟩
end Go.Proofs.Ytonnlcjkgpahoaa
namespace Go.Proofs.Ytonnlcjkgpahoaa
open Go.RowKit

namespace Ps
theorem stE_lim {P : Pg.Prog} {n s : Nat} {x : St} (h : 4 < x.ex.length ∨ 8 < x.cs.length) : stE P n s x = (-1, 12) := by
  unfold stE; rw [if_pos (by simpa using h)]
theorem stE_lim' {P : Pg.Prog} {n s : Nat} {x : St} (h1 : ¬ 4 < x.ex.length) (h2 : ¬ 8 < x.cs.length) : stE P n s x = if !(exB P.hs.length x.ex) then (-1, 8) else
  if x.sel && (Pg.wid P x.h x.f == 0) then (-1, 8) else
  if !x.sel && decide (0 < x.cs.length) then (-1, 11) else
  if (csE (Pg.wid P x.h x.f) n s x.cs).2 = 0 then (if leads n s x.df then (0, 0) else (-1, 14)) else csE (Pg.wid P x.h x.f) n s x.cs := by
  unfold stE; rw [if_neg (by simpa using ⟨Nat.not_lt.1 h1, Nat.not_lt.1 h2⟩)]
theorem exB_no {n : Nat} {ex : List Int} {k : Nat} {y : Int} (hk : ex[k]? = some y) (h : y < 0 ∨ (n : Int) ≤ y) : exB n ex = false := by
  refine Pg.all_no (List.getElem?_eq_some_iff.1 hk).1 ?_
  rw [List.getD_eq_getElem?_getD, hk]
  show (decide (0 ≤ y) && decide (y < n)) = false
  rcases h with h | h
  · rw [decide_eq_false (by omega)]; rfl
  · rw [decide_eq_false (p := y < n) (by omega), Bool.and_false]
theorem exB_yes {n : Nat} {ex : List Int} (h : ∀ j, j < ex.length → (decide (0 ≤ ex.getD j 0) && decide (ex.getD j 0 < n)) = true) : exB n ex = true := Pg.all_yes h
end Ps
set_option maxRecDepth 8000 in
set_option maxHeartbeats 8000000 in
theorem cstate_any {W : World} {p : Pg.PV} {P : Pg.Prog} {ss : List Ps.St} (hq : Ps.IsQ W p P ss) (k : Nat) (x : Ps.St) (hk : ss[k]? = some x) : Calls Try.prog 52 #[p.val, .int .i64 k] W (Rets W (.tuple #[.int .i64 (Ps.stE P ss.length k x).1, .int .i64 (Ps.stE P ss.length k x).2])) := by
  obtain ⟨s, a1, a2, a3, a4, a5, a6, a7, a8, m1, m2, n3, m3, n4, m4, n5, m5, n6, m6, n7, m7, m8, hf⟩ := hq.1.form
  obtain ⟨rfl, hhs, hmd, _, hl1, hl2, _⟩ := hf
  have hss := hq.2
  dsimp only at hss
  obtain ⟨a6', m6', e6, hl6, hc6⟩ := hss.slice
  simp only [Value.slice.injEq] at e6
  obtain ⟨rfl, rfl, rfl⟩ := e6
  unfold maxLen at hc6
  obtain ⟨ab, ao, rfl, _, _⟩ := hss.at (by have := (List.getElem?_eq_some_iff.1 hk).1; omega)
  have hkl : k < ss.length := (List.getElem?_eq_some_iff.1 hk).1
  obtain ⟨ea, ec, ca, cc, hnm, hex, hcs, hcl, hcm, g0, g1, g2, g3, g4, g5, g6⟩ := st_at hss k x hk rfl
  obtain ⟨wd, hwd⟩ : ∃ z, z = Pg.wid P x.h x.f := ⟨_, rfl⟩
  have HWD : Hid (Pg.wid P x.h x.f = wd) := Lib.hid hwd.symm
  obtain ⟨lb, hlb⟩ : ∃ z, z = Ps.leads ss.length k x.df := ⟨_, rfl⟩
  have HW : Hid (∀ w, Ext W w → Calls Try.prog 77 #[.agg #[.string s, .slice a1 P.hs.length m1, .slice a2 P.md.length m2, .slice a3 n3 m3, .slice a4 n4 m4, .slice a5 n5 m5, .slice (some ⟨ab, ao, none⟩) ss.length m6, .slice a7 n7 m7, .slice a8 P.dp.length m8], .agg #[.int .i64 x.h, .int .i64 x.f]] w (Rets w (.int .i64 wd))) := Lib.hid (fun w hx => by have h := width_any (hq.1.ext hx) x.h x.f; rw [← hwd] at h; exact h)
  have HLD : Hid (∀ w, Ext W w → Calls Try.prog 79 #[.agg #[.string s, .slice a1 P.hs.length m1, .slice a2 P.md.length m2, .slice a3 n3 m3, .slice a4 n4 m4, .slice a5 n5 m5, .slice (some ⟨ab, ao, none⟩) ss.length m6, .slice a7 n7 m7, .slice a8 P.dp.length m8], .int .i64 k, .int .i64 x.df] w (Rets w (.bool lb))) := Lib.hid (fun w hx => by have h := leads_any (hq.ext hx) k x.df; rw [← hlb] at h; exact h)
  obtain ⟨R, hR⟩ : ∃ z, z = Ps.stE P ss.length k x := ⟨_, rfl⟩
  rw [← hR]
  have HQ := Lib.hid hq
  have HK := Lib.hid hk
  have HCS := Lib.hid hcs
  have HLB := Lib.hid hlb
  have y0 := alw g0
  have y1 := alw g1
  have y2 := alw g2
  have y3 := alw g3
  have y4 := alw g4
  have y5 := alw g5
  have y6 := alw g6
  have bx := alloc_heap W (.cells #[.string s, .slice a1 P.hs.length m1, .slice a2 P.md.length m2, .slice a3 n3 m3, .slice a4 n4 m4, .slice a5 n5 m5, .slice (some ⟨ab, ao, none⟩) ss.length m6, .slice a7 n7 m7, .slice a8 P.dp.length m8] 31)
  have pc0 := alw (cell_of (o := 0) bx)
  have pc1 := alw (cell_of (o := 1) bx)
  have pc2 := alw (cell_of (o := 2) bx)
  have pc3 := alw (cell_of (o := 3) bx)
  have pc4 := alw (cell_of (o := 4) bx)
  have pc5 := alw (cell_of (o := 5) bx)
  have pc6 := alw (cell_of (o := 6) bx)
  have pc7 := alw (cell_of (o := 7) bx)
  have pc8 := alw (cell_of (o := 8) bx)
  clear bx
  have bx := alloc_heap (W.alloc (.cells #[.string s, .slice a1 P.hs.length m1, .slice a2 P.md.length m2, .slice a3 n3 m3, .slice a4 n4 m4, .slice a5 n5 m5, .slice (some ⟨ab, ao, none⟩) ss.length m6, .slice a7 n7 m7, .slice a8 P.dp.length m8] 31)) (.cells #[.string x.nm, .slice ea x.ex.length ec, .bool x.sel, .int .i64 x.h, .int .i64 x.f, .slice ca x.cs.length cc, .int .i64 x.df] 61)
  rw [World.size_alloc] at bx
  have xc0 := alw (cell_of (o := 0) bx)
  have xc1 := alw (cell_of (o := 1) bx)
  have xc2 := alw (cell_of (o := 2) bx)
  have xc3 := alw (cell_of (o := 3) bx)
  have xc4 := alw (cell_of (o := 4) bx)
  have xc5 := alw (cell_of (o := 5) bx)
  have xc6 := alw (cell_of (o := 6) bx)
  clear bx
  have hexm := hex.2
  unfold maxLen at hcm hexm
  have HEX := Lib.hid hex
  dsimp only [Pg.PV.val]
  clear hq hhs hmd hss hk hex hcs hnm g0 g1 g2 g3 g4 g5 g6 hwd hlb
  by_cases h1 : 4 < x.ex.length
  · have HR := Lib.hid (hR.trans (Ps.stE_lim (.inl h1)))
    have d1 : decide ((4 : Int) < (x.ex.length : Int)) = true := decide_eq_true (by omega)
    clear hR
    go_enter Try.func52, Try.ntmps52
    go_wp2_with fail
    go_ret2
    exact ⟨ret_two (by rw [HR.out]), grows⟩
  · have d1 : decide ((4 : Int) < (x.ex.length : Int)) = false := decide_eq_false (by omega)
    by_cases h2 : 8 < x.cs.length
    · have HR := Lib.hid (hR.trans (Ps.stE_lim (.inr h2)))
      have d2 : decide ((8 : Int) < (x.cs.length : Int)) = true := decide_eq_true (by omega)
      clear hR
      go_enter Try.func52, Try.ntmps52
      go_wp2_with fail
      go_ret2
      exact ⟨ret_two (by rw [HR.out]), grows⟩
    · have d2 : decide ((8 : Int) < (x.cs.length : Int)) = false := decide_eq_false (by omega)
      have HR0 := Lib.hid (hR.trans (Ps.stE_lim' h1 h2))
      clear hR
      go_enter Try.func52, Try.ntmps52
      go_wp2_with fail
      go_loopw [30] (fun q wr => ∃ i : Nat, i ≤ x.ex.length ∧ q = .int .i64 i ∧ Ext (((W.alloc (.cells #[.string s, .slice a1 P.hs.length m1, .slice a2 P.md.length m2, .slice a3 n3 m3, .slice a4 n4 m4, .slice a5 n5 m5, .slice (some ⟨ab, ao, none⟩) ss.length m6, .slice a7 n7 m7, .slice a8 P.dp.length m8] 31))).alloc (.cells #[.string x.nm, .slice ea x.ex.length ec, .bool x.sel, .int .i64 x.h, .int .i64 x.f, .slice ca x.cs.length cc, .int .i64 x.df] 61)) wr ∧ Hid (∀ j, j < i → (decide (0 ≤ x.ex.getD j 0) && decide (x.ex.getD j 0 < P.hs.length)) = true)) (fun q _ => x.ex.length - (intOf q).toNat)
      case atStart => exact ⟨0, Nat.zero_le _, rfl, Ext.refl _, Lib.hid (by intro j hj; omega)⟩
      case round =>
        obtain ⟨i, hi, rfl, hx, HZ⟩ := hrel
        have sx := Step.mk hx
        by_cases hlt : i < x.ex.length
        · obtain ⟨y, hy⟩ : ∃ y, x.ex[i]? = some y := ⟨_, List.getElem?_eq_getElem (by omega)⟩
          obtain ⟨eb, eo, rfl, n1⟩ := ns_at HEX.out (by omega)
          have r1 := n1 i y hy
          have HY := Lib.hid hy
          clear n1 hy
          by_cases hy0 : y < 0
          · have e1 : decide (y < 0) = true := decide_eq_true hy0
            have HR : Hid (R = (-1, 8)) := Lib.hid (by rw [HR0.out, Ps.exB_no HY.out (.inl hy0)]; rfl)
            go_wp2_with fail
            go_ret2
            exact ⟨ret_two (by rw [HR.out]), grows⟩
          · have e1 : decide (y < 0) = false := decide_eq_false hy0
            by_cases hyn : (P.hs.length : Int) ≤ y
            · have e2 : decide ((P.hs.length : Int) ≤ y) = true := decide_eq_true hyn
              have HR : Hid (R = (-1, 8)) := Lib.hid (by rw [HR0.out, Ps.exB_no HY.out (.inr hyn)]; rfl)
              go_wp2_with fail
              go_ret2
              exact ⟨ret_two (by rw [HR.out]), grows⟩
            · have e2 : decide ((P.hs.length : Int) ≤ y) = false := decide_eq_false hyn
              go_wp2_with fail
              go_roundw
              case rel =>
                refine ⟨i + 1, by omega, by go_num, by exact hx, Lib.hid (fun j hj => ?_)⟩
                rcases Nat.lt_or_ge j i with h1 | h1
                · exact HZ.out j h1
                · obtain rfl : j = i := by omega
                  rw [List.getD_eq_getElem?_getD, HY.out]
                  show (decide (0 ≤ y) && decide (y < P.hs.length)) = true
                  rw [decide_eq_true (by omega), decide_eq_true (by omega)]; rfl
              case measure => simp [intOf]; omega
        · obtain rfl : i = x.ex.length := by omega
          have HYES : Hid (Ps.exB P.hs.length x.ex = true) := Lib.hid (Ps.exB_yes HZ.out)
          cases hsl : x.sel with
          | true =>
            by_cases hw0 : wd = 0
            · subst hw0
              have HR : Hid (R = (-1, 8)) := Lib.hid (by rw [HR0.out, HYES.out, hsl, HWD.out]; rfl)
              go_wp2_with fail
              refine (HW.out _ grows).mono ?_
              rintro e w4 ⟨rfl, xw4⟩
              have sw4 := Step.mk xw4
              go_wp2_with fail
              go_ret2
              exact ⟨ret_two (by rw [HR.out]), grows⟩
            · have w0 : (wd == 0) = false := beq_eq_false_iff_ne.2 hw0
              have HR : Hid (R = if (Ps.csE wd ss.length k x.cs).2 = 0 then (if lb then (0, 0) else (-1, 14)) else Ps.csE wd ss.length k x.cs) := Lib.hid (by rw [HR0.out, HYES.out, hsl, HWD.out, w0, HLB.out]; rfl)
              go_wp2_with fail
              refine (HW.out _ grows).mono ?_
              rintro e w4 ⟨rfl, xw4⟩
              have sw4 := Step.mk xw4
              go_wp2_with fail
              go_loopw [67] (fun q wr => ∃ i : Nat, i ≤ x.cs.length ∧ q = .int .i64 i ∧ Ext w4 wr ∧ Hid (∀ j, j < i → Ps.caseE wd ss.length k (x.cs.getD j Ps.c0) = 0)) (fun q _ => x.cs.length - (intOf q).toNat)
              case atStart => exact ⟨0, Nat.zero_le _, rfl, grows, Lib.hid (by intro j hj; omega)⟩
              case round =>
                obtain ⟨i, hi, rfl, hx, HZ⟩ := hrel
                have sx := Step.mk hx
                by_cases hlt : i < x.cs.length
                · obtain ⟨⟨c1, c2, c3⟩, hci⟩ : ∃ c, x.cs[i]? = some c := ⟨_, List.getElem?_eq_getElem (by omega)⟩
                  obtain ⟨cb, co, rfl, _, _⟩ := Rows.at HCS.out (by omega)
                  obtain ⟨hv, hm, u0, u1, u2⟩ := case_at HCS.out i _ hci rfl
                  have t0 := alw u0
                  have t1 := alw u1
                  have t2 := alw u2
                  have HGC := Lib.hid (show x.cs.getD i Ps.c0 = ⟨c1, c2, c3⟩ by rw [List.getD_eq_getElem?_getD, hci]; rfl)
                  dsimp only at hv hm t0 t1 t2
                  clear u0 u1 u2 hci
                  obtain ⟨ce, hce⟩ : ∃ z, z = Ps.caseE wd ss.length k ⟨c1, c2, c3⟩ := ⟨_, rfl⟩
                  have HCC : Hid (∀ w, Ext W w → Calls Try.prog 78 #[.agg #[.string s, .slice a1 P.hs.length m1, .slice a2 P.md.length m2, .slice a3 n3 m3, .slice a4 n4 m4, .slice a5 n5 m5, .slice (some ⟨ab, ao, none⟩) ss.length m6, .slice a7 n7 m7, .slice a8 P.dp.length m8], .int .i64 k, .agg #[.int .u32 c1, .int .u32 c2, .int .i64 c3]] w (Rets w (.int .i64 ce))) := Lib.hid (fun w hx => by have h := ccase_any (HQ.out.ext hx) k x HK.out ⟨c1, c2, c3⟩ hv hm; rw [HWD.out, ← hce] at h; exact h)
                  have HE : Hid (Ps.caseE wd ss.length k (x.cs.getD i Ps.c0) = ce) := Lib.hid (by rw [HGC.out, hce])
                  have bx := alloc_heap wr (.cells #[.int .u32 c1, .int .u32 c2, .int .i64 c3] 115)
                  have dc0 := alw (cell_of (o := 0) bx)
                  have dc1 := alw (cell_of (o := 1) bx)
                  have dc2 := alw (cell_of (o := 2) bx)
                  clear bx
                  clear hce hv hm HGC
                  by_cases hc0 : ce = 0
                  · subst hc0
                    go_wp2_with fail
                    refine (HCC.out _ grows).mono ?_
                    rintro e w5 ⟨rfl, xw5⟩
                    have sw5 := Step.mk xw5
                    go_wp2_with fail
                    go_roundw
                    case rel =>
                      refine ⟨i + 1, by omega, by go_num, grows, Lib.hid (fun j hj => ?_)⟩
                      rcases Nat.lt_or_ge j i with h1 | h1
                      · exact HZ.out j h1
                      · obtain rfl : j = i := by omega
                        exact HE.out
                    case measure => simp [intOf]; omega
                  · have z1 : (ce != 0) = true := bne_iff_ne.2 hc0
                    have HC0 := Lib.hid hc0
                    clear hc0
                    go_wp2_with fail
                    refine (HCC.out _ grows).mono ?_
                    rintro e w5 ⟨rfl, xw5⟩
                    have sw5 := Step.mk xw5
                    go_wp2_with fail
                    go_ret2
                    exact ⟨ret_two (by rw [HR.out, Ps.csE_some hlt HZ.out (by rw [HE.out]; exact HC0.out), HE.out, if_neg HC0.out]), grows⟩
                · obtain rfl : i = x.cs.length := by omega
                  have HN : Hid (R = if lb then (0, 0) else (-1, 14)) := Lib.hid (by rw [HR.out, Ps.csE_none HZ.out, if_pos rfl])
                  cases lb with
                  | false =>
                    go_wp2_with fail
                    refine (HLD.out _ grows).mono ?_
                    rintro e w5 ⟨rfl, xw5⟩
                    have sw5 := Step.mk xw5
                    go_wp2_with fail
                    go_ret2
                    exact ⟨ret_two (by rw [HN.out]; rfl), grows⟩
                  | true =>
                    go_wp2_with fail
                    refine (HLD.out _ grows).mono ?_
                    rintro e w5 ⟨rfl, xw5⟩
                    have sw5 := Step.mk xw5
                    go_wp2_with fail
                    go_ret2
                    exact ⟨ret_two (by rw [HN.out]; rfl), grows⟩
          | false =>
            by_cases hc : 0 < x.cs.length
            · have e3 : decide ((0 : Int) < (x.cs.length : Int)) = true := decide_eq_true (by omega)
              have HR : Hid (R = (-1, 11)) := Lib.hid (by rw [HR0.out, HYES.out, hsl, decide_eq_true hc]; rfl)
              go_wp2_with fail
              go_ret2
              exact ⟨ret_two (by rw [HR.out]), grows⟩
            · have e3 : decide ((0 : Int) < (x.cs.length : Int)) = false := decide_eq_false (by omega)
              have HR : Hid (R = if (Ps.csE wd ss.length k x.cs).2 = 0 then (if lb then (0, 0) else (-1, 14)) else Ps.csE wd ss.length k x.cs) := Lib.hid (by rw [HR0.out, HYES.out, hsl, HWD.out, decide_eq_false hc, HLB.out]; rfl)
              go_wp2_with fail
              go_loopw [67] (fun q wr => ∃ i : Nat, i ≤ x.cs.length ∧ q = .int .i64 i ∧ Ext (((W.alloc (.cells #[.string s, .slice a1 P.hs.length m1, .slice a2 P.md.length m2, .slice a3 n3 m3, .slice a4 n4 m4, .slice a5 n5 m5, .slice (some ⟨ab, ao, none⟩) ss.length m6, .slice a7 n7 m7, .slice a8 P.dp.length m8] 31))).alloc (.cells #[.string x.nm, .slice ea x.ex.length ec, .bool x.sel, .int .i64 x.h, .int .i64 x.f, .slice ca x.cs.length cc, .int .i64 x.df] 61)) wr ∧ Hid (∀ j, j < i → Ps.caseE wd ss.length k (x.cs.getD j Ps.c0) = 0)) (fun q _ => x.cs.length - (intOf q).toNat)
              case atStart => exact ⟨0, Nat.zero_le _, rfl, grows, Lib.hid (by intro j hj; omega)⟩
              case round =>
                obtain ⟨i, hi, rfl, hx, HZ⟩ := hrel
                have sx := Step.mk hx
                by_cases hlt : i < x.cs.length
                · exact absurd hlt (by omega)
                · obtain rfl : i = x.cs.length := by omega
                  have HN : Hid (R = if lb then (0, 0) else (-1, 14)) := Lib.hid (by rw [HR.out, Ps.csE_none HZ.out, if_pos rfl])
                  cases lb with
                  | false =>
                    go_wp2_with fail
                    refine (HLD.out _ grows).mono ?_
                    rintro e w5 ⟨rfl, xw5⟩
                    have sw5 := Step.mk xw5
                    go_wp2_with fail
                    go_ret2
                    exact ⟨ret_two (by rw [HN.out]; rfl), grows⟩
                  | true =>
                    go_wp2_with fail
                    refine (HLD.out _ grows).mono ?_
                    rintro e w5 ⟨rfl, xw5⟩
                    have sw5 := Step.mk xw5
                    go_wp2_with fail
                    go_ret2
                    exact ⟨ret_two (by rw [HN.out]; rfl), grows⟩
end Go.Proofs.Ytonnlcjkgpahoaa
