/- Actions, calls, tables, control flow, entries: what the checks say of them: plain definitions. Programs whole in memory: their forms; the small functions of expressions, walked. Expressions: the widths of nodes, walked. Expressions: combine, check, Check, walked. Expressions: check and Check, walked. No condition. -/
import Derived.Test.YtkiafiaodockbaaGreatKqAC
set_option maxRecDepth 8000
set_option maxHeartbeats 16000000
namespace Go.Proofs.YtkiafiaodockbaaGreat
open Go.RowKit
namespace Tj
/-- the first error of a list -/
def firstE {α : Type} (f : α → Int) : List α → Int
 | [] => 0
 | x :: xs => if f x ≠ 0 then f x else firstE f xs
theorem firstE_append {α : Type} {f : α → Int} : ∀ {l m : List α}, (∀ x ∈ l, f x = 0) → firstE f (l ++ m) = firstE f m
 | [], _, _ => rfl
 | x :: l, m, h => by
  show (if f x ≠ 0 then f x else firstE f (l ++ m)) = _
  rw [if_neg (by simp [h x (by simp)])]
  exact firstE_append (fun y hy => h y (by simp [hy]))
theorem firstE_zero {α : Type} {f : α → Int} {l : List α} (h : ∀ (j : Nat) (x : α), l[j]? = some x → f x = 0) : firstE f l = 0 := by
 have := firstE_append (f := f) (l := l) (m := []) (fun x hx => by
  obtain ⟨j, hj, rfl⟩ := List.mem_iff_getElem.1 hx
  exact h j _ (gE hj))
 rw [List.append_nil] at this
 rw [this]; rfl
theorem firstE_at {α : Type} {f : α → Int} {l : List α} {k : Nat} {x : α} (hk : l[k]? = some x) (h : ∀ j y, j < k → l[j]? = some y → f y = 0) (hx : f x ≠ 0) : firstE f l = f x := by
 obtain ⟨hlt, e⟩ := List.getElem?_eq_some_iff.1 hk
 have h1 : l = l.take k ++ (x :: l.drop (k + 1)) := by
  rw [← e, List.getElem_cons_drop, List.take_append_drop]
 rw [h1, firstE_append (fun y hy => by
  obtain ⟨j, hj, rfl⟩ := List.mem_iff_getElem.1 hy
  have hj2 : j < k := by rw [List.length_take] at hj; omega
  refine h j _ hj2 ?_
  rw [List.getElem_take, gE (by omega)])]
 show (if f x ≠ 0 then f x else _) = _
 rw [if_pos hx]
theorem firstE_ok {α : Type} {f : α → Int} : ∀ {l : List α}, firstE f l = 0 → ∀ x ∈ l, f x = 0
 | [], _, _, h => by cases h
 | y :: l, h, x, hx => by
  unfold firstE at h
  by_cases h0 : f y ≠ 0
  ·rw [if_pos h0] at h; exact absurd h h0
  ·rw [if_neg h0] at h
   rcases List.mem_cons.1 hx with rfl | hx
   ·simpa using h0
   ·exact firstE_ok h x hx
/-- an expression that must have width w -/
def valE (P : Pg.Prog) (ps : List Hd.Fld) (l : List EN) (w : Int) : Int := if (xchk P ps l).2 = 0 ∧ (xchk P ps l).1 ≠ w then 10 else (xchk P ps l).2
def stmE (F : FP) (ps : List Hd.Fld) (s : Stm) : Int :=
 if s.k = 1 then (match fld F.P s.dh s.df with | some f => valE F.P ps s.va f.2 | none => 8)
 else if s.k = 2 ∨ s.k = 3 then (if s.hd < 0 ∨ (F.P.hs.length : Int) ≤ s.hd then 8 else 0)
 else if s.k = 4 then (match at? F.rs s.rg, fld F.P s.dh s.df with
  | some r, some f => if (xchk F.P ps s.ix).2 ≠ 0 then (xchk F.P ps s.ix).2 else if f.2 ≠ r.w then 10 else 0
  | _, _ => 8)
 else if s.k = 5 then (match at? F.rs s.rg with
  | some r => if (xchk F.P ps s.ix).2 ≠ 0 then (xchk F.P ps s.ix).2 else valE F.P ps s.va r.w
  | none => 8)
 else 11
def declE (a : Act) : Int := if Id.ok a.nm then (if 4 < a.ps.length ∨ 12 < a.bd.length then 12 else Hd.fE [] a.ps) else 6
def actE (F : FP) (a : Act) : Int := if declE a ≠ 0 then declE a else firstE (stmE F a.ps) a.bd
/-- the arguments of a call, one by one -/
def argsE (ps : List Hd.Fld) (ar : List Int) : Int := if (List.range ar.length).all (fun i => Bv.fits (ar.getD i 0) (ps.getD i (⟨#[]⟩, 0)).2) then 0 else 9
def callE (F : FP) (c : Call) : Int := match at? F.ac c.a with
 | some a => if c.ar.length ≠ a.ps.length then 2 else argsE a.ps c.ar
 | none => 8
def kwid (F : FP) (k : Key) : Int := Pg.wid F.P k.h k.f
def keyE (F : FP) (k : Key) : Int := if kwid F k = 0 then 8 else if k.k = 1 ∨ k.k = 2 ∨ k.k = 3 then 0 else 11
def lpms (ks : List Key) : Nat := (ks.filter fun k => k.k == 2).length
def kbits (F : FP) (ks : List Key) : Int := (ks.map (kwid F)).sum
def keysE (F : FP) (t : Tab) : Int := if firstE (keyE F) t.ks ≠ 0 then firstE (keyE F) t.ks else if 1 < lpms t.ks then 7 else if 64 < kbits F t.ks then 10 else 0
/-- action k of a table: none (8), or there before (7) -/
def tactE (F : FP) (ac : List Int) (k : Nat) : Int := if ac.getD k 0 < 0 ∨ (F.ac.length : Int) ≤ ac.getD k 0 then 8 else if (ac.take k).any (· == ac.getD k 0) then 7 else 0
def tactsE (F : FP) (t : Tab) : Int := if firstE (tactE F t.ac) (List.range t.ac.length) ≠ 0 then firstE (tactE F t.ac) (List.range t.ac.length) else if t.ac.any (· == t.df.a) then callE F t.df else 8
def tabE (F : FP) (t : Tab) : Int :=
 if Id.ok t.nm then (if 6 < t.ks.length ∨ 16 < t.ac.length then 12 else if t.sz < 1 ∨ 256 < t.sz then 9 else if keysE F t ≠ 0 then keysE F t else tactsE F t) else 6
/-- the tables that a list of nodes applies -/
def apl (x : CN) : Bool := x.k == 1 || x.k == 3
def usedBy (l : List CN) : List Int := (l.filter apl).map (·.t)
def nodeE (F : FP) (used : List Int) (x : CN) : Int :=
 if x.k = 1 ∨ x.k = 3 then (if x.t < 0 ∨ (F.ts.length : Int) ≤ x.t then 8 else if used.any (· == x.t) then 7 else if x.k = 1 ∧ 0 < x.th + x.el then 5 else 0)
 else if x.k = 2 then (if (xchk F.P [] x.c).2 ≠ 0 then (xchk F.P [] x.c).2 else if (xchk F.P [] x.c).1 ≠ 1 then 10 else 0)
 else 11
/-- the first error of a list of nodes, in preorder; 'pre' stands ahead -/
def scanE (F : FP) : List CN → List CN → Int
 | _, [] => 0
 | pre, x :: l => if nodeE F (usedBy pre) x ≠ 0 then nodeE F (usedBy pre) x else scanE F (pre ++ [x]) l
def ctlE (F : FP) : Int := if 24 < F.cs.length then 12 else if 6 < F.nest then 14 else scanE F [] F.cs
theorem scanE_cons (F : FP) (pre : List CN) (x : CN) (l : List CN) : scanE F pre (x :: l) = if nodeE F (usedBy pre) x ≠ 0 then nodeE F (usedBy pre) x else scanE F (pre ++ [x]) l := rfl
/-- what stands ahead has the name -/
def rep (ns : List ByteArray) (i : Nat) : Bool := (ns.take i).any fun y => Hd.same y (ns.getD i ⟨#[]⟩)
/-- a list of named things: the first error, of the thing or of its name -/
def namedE {α : Type} (nm : α → ByteArray) (f : α → Int) (l : List α) : Int :=
 firstE (fun i => match l[i]? with | some x => if f x ≠ 0 then f x else if rep (l.map nm) i then 7 else 0 | none => 0) (List.range l.length)
def metaN : ByteArray := ⟨#[109, 101, 116, 97]⟩
def limE (F : FP) : Int := if Id.ok F.nm then (if 8 < F.P.hs.length then 12 else if 4 < F.rs.length then 12 else if 16 < F.ac.length then 12 else if 12 < F.ts.length then 12 else 0) else 6
def hdE (h : Hd.Hdr) : Int := if Hd.chk h ≠ 0 then Hd.chk h else if Hd.same h.1 metaN then 6 else 0
def mfE (f : Hd.Fld) : Int := if Id.ok f.1 then (if f.2 < 1 ∨ 32 < f.2 then 10 else 0) else 6
def std : List Hd.Fld := [(⟨#[105, 110]⟩, 8), (⟨#[111, 117, 116]⟩, 8), (⟨#[100, 114, 111, 112]⟩, 1)]
def stdE (md : List Hd.Fld) (i : Nat) : Int := match md[i]?, std[i]? with | some f, some g => if Hd.same f.1 g.1 && f.2 == g.2 then 0 else 5 | _, _ => 5
def metE (md : List Hd.Fld) : Int := if 12 < md.length then 12 else if namedE (·.1) mfE md ≠ 0 then namedE (·.1) mfE md else firstE (stdE md) [0, 1, 2]
def orE (a b : Int) : Int := if a ≠ 0 then a else b
/-- the first error of a program -/
def chkF (F : FP) : Int := orE (limE F) (orE (namedE (·.1) hdE F.P.hs) (orE (metE F.P.md) (orE (namedE (·.nm) Rg.chk F.rs) (orE (namedE (·.nm) (actE F) F.ac) (orE (namedE (·.nm) (tabE F) F.ts)
 (orE (Ps.chk F.P F.ss).2.2 (orE (ctlE F) (Dp.chk F.P).2)))))))
end Tj
namespace Tj
/-- the nine values of a program -/
structure Form (w : World) (p : Pg.PV) (F : FP) (a1 a2 a3 a4 a5 a6 a7 a8 : Option Addr) (m1 m2 m3 m4 m5 m6 n7 m7 m8 : Nat) : Prop where
 e : p = ⟨.string F.nm, .slice a1 F.P.hs.length m1, .slice a2 F.P.md.length m2, .slice a3 F.rs.length m3, .slice a4 F.ac.length m4, .slice a5 F.ts.length m5, .slice a6 F.ss.length m6, .slice a7 n7 m7, .slice a8 F.P.dp.length m8⟩
 nm : F.nm.size ≤ maxLen
 hs : Rows w 2 Hd.HdrR (.slice a1 F.P.hs.length m1) F.P.hs
 md : Hd.Flds w (.slice a2 F.P.md.length m2) F.P.md
 rs : Rows w 3 Rg.RegR (.slice a3 F.rs.length m3) F.rs
 ac : Acts w (.slice a4 F.ac.length m4) F.ac
 ts : Tabs w (.slice a5 F.ts.length m5) F.ts
 ss : Rows w 7 Ps.StR (.slice a6 F.ss.length m6) F.ss
 ct : ∃ n, Ctl n w (.slice a7 n7 m7) F.cs F.nest n7
 dp : Is w (.slice a8 F.P.dp.length m8) F.P.dp
 l1 : F.P.hs.length ≤ m1 ∧ m1 ≤ 9223372036854775807
 l2 : F.P.md.length ≤ m2 ∧ m2 ≤ 9223372036854775807
 l3 : F.rs.length ≤ m3 ∧ m3 ≤ 9223372036854775807
 l4 : F.ac.length ≤ m4 ∧ m4 ≤ 9223372036854775807
 l5 : F.ts.length ≤ m5 ∧ m5 ≤ 9223372036854775807
 l6 : F.ss.length ≤ m6 ∧ m6 ≤ 9223372036854775807
 l7 : n7 ≤ m7 ∧ m7 ≤ 9223372036854775807
 l8 : F.P.dp.length ≤ 9223372036854775807
theorem Ctl.slice : ∀ {n : Nat} {w : World} {v : Value} {l : List CN} {d m : Nat}, Ctl n w v l d m → ∃ oa c, v = .slice oa m c ∧ m ≤ c ∧ c ≤ maxLen
 | 0, _, _, _, _, _, h => h.elim
 | n + 1, w, v, l, d, m, h => by
  rw [ctl_succ] at h
  obtain ⟨ns, h1, _, _, rfl⟩ := h
  exact h1.slice
theorem IsF.form {w : World} {p : Pg.PV} {F : FP} (h : IsF w p F) : ∃ a1 a2 a3 a4 a5 a6 a7 a8 m1 m2 m3 m4 m5 m6 n7 m7 m8, Form w p F a1 a2 a3 a4 a5 a6 a7 a8 m1 m2 m3 m4 m5 m6 n7 m7 m8 := by
 obtain ⟨c0, c1, c2, c3, c4, c5, c6, c7, c8⟩ := p
 obtain ⟨⟨h0, h0n⟩, ⟨⟨_, h1, h2, _, _, _, _, _, h8⟩, h6⟩, h3, h4, h5, ⟨n, m, h7⟩, h9⟩ := h
 dsimp only at h0 h1 h2 h3 h4 h5 h6 h7 h8
 subst h0
 obtain ⟨a1, m1, rfl, l1, l1'⟩ := h1.slice
 obtain ⟨a2, m2, rfl, l2, l2'⟩ := h2.slice
 obtain ⟨a3, m3, rfl, l3, l3'⟩ := h3.slice
 obtain ⟨a4, m4, rfl, l4, l4'⟩ := h4.slice
 obtain ⟨a5, m5, rfl, l5, l5'⟩ := h5.slice
 obtain ⟨a6, m6, rfl, l6, l6'⟩ := h6.slice
 obtain ⟨a7, m7, rfl, l7, l7'⟩ := h7.slice
 obtain ⟨a8, m8, rfl, _⟩ := h8.1.slice
 have := h8.2
 unfold maxLen at l1' l2' l3' l4' l5' l6' l7' this
 exact ⟨a1, a2, a3, a4, a5, a6, a7, a8, m1, m2, m3, m4, m5, m6, m, m7, m8, ⟨rfl, h0n, h1, h2, h3, h4, h5, h6, ⟨n, h7⟩, ⟨h8, h9⟩, ⟨l1, by omega⟩, ⟨l2, by omega⟩, ⟨l3, by omega⟩, ⟨l4, by omega⟩, ⟨l5, by omega⟩, ⟨l6, by omega⟩, ⟨l7, by omega⟩, by omega⟩⟩
/-- a scope: a program and parameters -/
abbrev scv (p : Pg.PV) (pv : Value) : Value := .agg #[p.c0, p.c1, p.c2, p.c3, p.c4, p.c5, p.c6, p.c7, p.c8, pv]
def fldV : Option Hd.Fld → Value
 | some f => .agg #[.string f.1, .int .i64 f.2]
 | none => .agg #[.string ⟨#[]⟩, .int .i64 0]
theorem ens_at {w : World} {b o n c : Nat} {l : List EN} {oa : Option Addr} (h : Exp w (.slice oa n c) l) (k : Nat) (x : EN) (hk : l[k]? = some x) (hoa : oa = some ⟨b, o, none⟩) :
 w.cell? ⟨b, o + k * 3, none⟩ = some (.int .i64 x.op) ∧ w.cell? ⟨b, o + k * 3 + 1, none⟩ = some (.int .i64 x.n) ∧ w.cell? ⟨b, o + k * 3 + 2, none⟩ = some (.int .i64 x.w) ∧ B64 x.op ∧ B64 x.n ∧ B64 x.w := by
 obtain ⟨b', o', e, _, h4⟩ := h.at (by have := (List.getElem?_eq_some_iff.1 hk).1; omega)
 rw [hoa] at e
 simp only [Option.some.injEq, Addr.mk.injEq, and_true] at e
 obtain ⟨rfl, rfl⟩ := e
 obtain ⟨cs, _, ⟨rfl, h1, h2, h3⟩, hc⟩ := h4 k x hk
 exact ⟨hc 0 _ rfl, hc 1 _ rfl, hc 2 _ rfl, h1, h2, h3⟩
end Tj
theorem arity_any (op : Int) (W : World) : Calls Tryz.prog 147 #[.int .i64 op] W fun e W' => e = .returned (.int .i64 (Tj.arity op)) ∧ W = W' := by
 by_cases h0 : 1 ≤ op ∧ op ≤ 17
 ·obtain ⟨h1, h2⟩ := h0
  have h3 : op = 1 ∨ op = 2 ∨ op = 3 ∨ op = 4 ∨ op = 5 ∨ op = 6 ∨ op = 7 ∨ op = 8 ∨ op = 9 ∨ op = 10 ∨ op = 11 ∨ op = 12 ∨ op = 13 ∨ op = 14 ∨ op = 15 ∨ op = 16 ∨ op = 17 := by omega
  clear h1 h2
  rcases h3 with rfl | rfl | rfl | rfl | rfl | rfl | rfl | rfl | rfl | rfl | rfl | rfl | rfl | rfl | rfl | rfl | rfl
  all_goals
   go_enter Tryz.func147, Tryz.ntmps147
   go_wp2
   go_ret
   exact ⟨rfl, rfl⟩
 ·have e : Tj.arity op = -1 := by unfold Tj.arity; repeat (first | rw [if_neg (by omega)])
  rw [e]
  have f1 : (op == 1) = false := bF (by omega)
  have f2 : (op == 2) = false := bF (by omega)
  have f3 : (op == 3) = false := bF (by omega)
  have f4 : (op == 4) = false := bF (by omega)
  have f5 : (op == 5) = false := bF (by omega)
  have f6 : (op == 6) = false := bF (by omega)
  have f7 : (op == 7) = false := bF (by omega)
  have f8 : (op == 8) = false := bF (by omega)
  have f9 : (op == 9) = false := bF (by omega)
  have f10 : (op == 10) = false := bF (by omega)
  have f11 : (op == 11) = false := bF (by omega)
  have f12 : (op == 12) = false := bF (by omega)
  have f13 : (op == 13) = false := bF (by omega)
  have f14 : (op == 14) = false := bF (by omega)
  have f15 : (op == 15) = false := bF (by omega)
  have f16 : (op == 16) = false := bF (by omega)
  have f17 : (op == 17) = false := bF (by omega)
  clear h0 e
  go_enter Tryz.func147, Tryz.ntmps147
  go_wp2_with fail
  go_ret
  exact ⟨rfl, rfl⟩
theorem wide_any (x : Int) (W : World) : Calls Tryz.prog 172 #[.int .i64 x] W fun e W' => e = .returned (.tuple #[.int .i64 (Tj.wide x).1, .int .i64 (Tj.wide x).2]) ∧ W = W' := by
 by_cases h1 : x < 1
 ·have e : Tj.wide x = (0, 10) := by unfold Tj.wide; rw [if_pos (.inl h1)]
  rw [e]
  have d1 : decide (x < 1) = true := dTt (by omega)
  clear e
  go_enter Tryz.func172, Tryz.ntmps172
  go_wp2_with fail
  go_ret2
  exact ⟨rfl, rfl⟩
 ·by_cases h2 : 32 < x
  ·have e : Tj.wide x = (0, 10) := by unfold Tj.wide; rw [if_pos (.inr h2)]
   rw [e]
   have d1 : decide (x < 1) = false := dF (by omega)
   have d2 : decide (32 < x) = true := dTt (by omega)
   clear e
   go_enter Tryz.func172, Tryz.ntmps172
   go_wp2_with fail
   go_ret2
   exact ⟨rfl, rfl⟩
  ·have e : Tj.wide x = (x, 0) := by unfold Tj.wide; rw [if_neg (by omega)]
   rw [e]
   have d1 : decide (x < 1) = false := dF (by omega)
   have d2 : decide (32 < x) = false := dF (by omega)
   clear e
   go_enter Tryz.func172, Tryz.ntmps172
   go_wp2_with fail
   go_ret2
   exact ⟨rfl, rfl⟩
abbrev Yq3 (F : Tj.FP) (a1 : Option Addr) (m1 : Nat) (a2 : Option Addr) (m2 : Nat) (a3 : Option Addr) (m3 : Nat) (a4 : Option Addr) (m4 : Nat) (a5 : Option Addr) (m5 : Nat) (a6 : Option Addr) (m6 : Nat) (a7 : Option Addr) (m7 : Nat) (n7 : Nat) (a8 : Option Addr) (m8 : Nat) (pa : Option Addr) (pc : Nat) (ps_length : Nat) : Array Value := #[.string F.nm, .slice a1 F.P.hs.length m1, .slice a2 F.P.md.length m2, .slice a3 F.rs.length m3, .slice a4 F.ac.length m4, .slice a5 F.ts.length m5, .slice a6 F.ss.length m6, .slice a7 n7 m7, .slice a8 F.P.dp.length m8, .slice pa ps_length pc]
theorem sfield_any {W : World} {p : Pg.PV} {F : Tj.FP} (hF : Tj.IsF W p F) {pv : Value} {ps : List Hd.Fld} (hps : Hd.Flds W pv ps) (h i : Int) : Calls Tryz.prog 173 #[Tj.scv p pv, .int .i64 h, .int .i64 i] W (Rets W (.tuple #[Tj.fldV (Tj.fld F.P h i), .bool (Tj.fld F.P h i).isSome])) := by
 obtain ⟨a1, a2, a3, a4, a5, a6, a7, a8, m1, m2, m3, m4, m5, m6, n7, m7, m8, hf⟩ := hF.form
 obtain ⟨rfl, hnm, hhs, hmd, hrs, has, hts, hss, hct, hdp, l1, l2, l3, l4, l5, l6, l7, l8⟩ := hf
 obtain ⟨pa, pc, rfl, lp, lp'⟩ := hps.slice
 unfold maxLen at lp'
 obtain ⟨R, hR⟩ : ∃ z, z = Tj.fld F.P h i := ⟨_, rfl⟩
 rw [← hR]
 dsimp only [Tj.scv]
 have bx := aH W (.cells (Yq3 F a1 m1 a2 m2 a3 m3 a4 m4 a5 m5 a6 m6 a7 m7 n7 a8 m8 pa pc ps.length) 165)
 have k0 := alw (cQ 0 bx)
 have k1 := alw (cQ 1 bx)
 have k2 := alw (cQ 2 bx)
 have k3 := alw (cQ 3 bx)
 have k4 := alw (cQ 4 bx)
 have k5 := alw (cQ 5 bx)
 have k6 := alw (cQ 6 bx)
 have k7 := alw (cQ 7 bx)
 have k8 := alw (cQ 8 bx)
 have k9 := alw (cQ 9 bx)
 clear bx
 clear hps
 unfold Tj.fld at hR
 by_cases hh : h = -1
 ·subst hh
  have hfl : Tj.fls F.P (-1) = some F.P.md := by unfold Tj.fls; rw [if_pos rfl]
  by_cases hi0 : i < 0
  ·have HE : Hid (R = none) := Lh (by rw [hR, hfl]; exact Tj.at_none (.inl hi0))
   have d1 : decide (i < 0) = true := dTt (by omega)
   clear hR hfl
   clear hF hnm hhs hmd hrs has hts hss hct hdp
   go_enter Tryz.func173, Tryz.ntmps173
   go_wp2_with fail
   exact bodyPost_ret (v := .tuple #[.agg #[.string ⟨#[]⟩, .int .i64 0], .bool false]) (by simp [results, Tryz.results173, go_sem]) rfl ⟨by rw [HE.out]; rfl, grows⟩
  ·by_cases hi1 : (F.P.md.length : Int) ≤ i
   ·have HE : Hid (R = none) := Lh (by rw [hR, hfl]; exact Tj.at_none (.inr hi1))
    have d1 : decide (i < 0) = false := dF (by omega)
    have d2 : decide ((F.P.md.length : Int) ≤ i) = true := dTt (by omega)
    clear hR hfl
    clear hF hnm hhs hmd hrs has hts hss hct hdp
    go_enter Tryz.func173, Tryz.ntmps173
    go_wp2_with fail
    exact bodyPost_ret (v := .tuple #[.agg #[.string ⟨#[]⟩, .int .i64 0], .bool false]) (by simp [results, Tryz.results173, go_sem]) rfl ⟨by rw [HE.out]; rfl, grows⟩
   ·obtain ⟨k, rfl⟩ := Int.eq_ofNat_of_zero_le (show 0 ≤ i by omega)
    have hkl : k < F.P.md.length := by omega
    obtain ⟨⟨nk, xk⟩, hxk⟩ : ∃ x, F.P.md[k]? = some x := ⟨_, gE hkl⟩
    have HE : Hid (R = some (nk, xk)) := Lh (by rw [hR, hfl]; show Tj.at? _ _ = _; unfold Tj.at?; rw [if_pos (by omega), Int.toNat_natCast]; exact hxk)
    obtain ⟨fb, fo, rfl, _, _⟩ := Rows.at hmd (by omega)
    obtain ⟨u0, u1, _⟩ := flds_at hmd k nk xk hxk rfl
    have d1 : decide ((k : Int) < 0) = false := dF (by omega)
    have d2 : decide ((F.P.md.length : Int) ≤ (k : Int)) = false := dF (by omega)
    clear hR hfl hxk
    clear hF hnm hhs hmd hrs has hts hss hct hdp
    go_enter Tryz.func173, Tryz.ntmps173
    go_wp2_with fail
    exact bodyPost_ret (v := .tuple #[.agg #[.string nk, .int .i64 xk], .bool true]) (by simp [results, Tryz.results173, go_sem]) rfl ⟨by rw [HE.out]; rfl, grows⟩
 ·have e1 : (h != -1) = true := nT hh
  by_cases h0 : h < 0
  ·have HE : Hid (R = none) := Lh (by rw [hR]; unfold Tj.fls; rw [if_neg hh, Tj.at_none (.inl h0)]; rfl)
   have d0 : decide (h < 0) = true := dTt (by omega)
   clear hR
   clear hF hnm hhs hmd hrs has hts hss hct hdp
   go_enter Tryz.func173, Tryz.ntmps173
   go_wp2_with fail
   exact bodyPost_ret (v := .tuple #[.agg #[.string ⟨#[]⟩, .int .i64 0], .bool false]) (by simp [results, Tryz.results173, go_sem]) rfl ⟨by rw [HE.out]; rfl, grows⟩
  ·by_cases h1 : (F.P.hs.length : Int) ≤ h
   ·have HE : Hid (R = none) := Lh (by rw [hR]; unfold Tj.fls; rw [if_neg hh, Tj.at_none (.inr h1)]; rfl)
    have d0 : decide (h < 0) = false := dF (by omega)
    have d3 : decide ((F.P.hs.length : Int) ≤ h) = true := dTt (by omega)
    clear hR
    clear hF hnm hhs hmd hrs has hts hss hct hdp
    go_enter Tryz.func173, Tryz.ntmps173
    go_wp2_with fail
    exact bodyPost_ret (v := .tuple #[.agg #[.string ⟨#[]⟩, .int .i64 0], .bool false]) (by simp [results, Tryz.results173, go_sem]) rfl ⟨by rw [HE.out]; rfl, grows⟩
   ·obtain ⟨q, rfl⟩ := Int.eq_ofNat_of_zero_le (show 0 ≤ h by omega)
    have hql : q < F.P.hs.length := by omega
    obtain ⟨⟨hn, fs⟩, hxq⟩ : ∃ x, F.P.hs[q]? = some x := ⟨_, gE hql⟩
    have hfl : Tj.fls F.P q = some fs := by unfold Tj.fls; rw [if_neg (by omega)]; unfold Tj.at?; rw [if_pos (by omega), Int.toNat_natCast, hxq]; rfl
    obtain ⟨hb, ho, rfl, _, _⟩ := Rows.at hhs (by omega)
    obtain ⟨fa, fc, v0, v1, _, hfs, lf, lf'⟩ := hdrs_at hhs q hn fs hxq rfl
    unfold maxLen at lf'
    have d0 : decide ((q : Int) < 0) = false := dF (by omega)
    have d3 : decide ((F.P.hs.length : Int) ≤ (q : Int)) = false := dF (by omega)
    clear hxq hh h0 h1
    by_cases hi0 : i < 0
    ·have HE : Hid (R = none) := Lh (by rw [hR, hfl]; exact Tj.at_none (.inl hi0))
     have d1 : decide (i < 0) = true := dTt (by omega)
     clear hR hfl
     clear hF hnm hhs hmd hrs has hts hss hct hdp
     clear hfs
     go_enter Tryz.func173, Tryz.ntmps173
     go_wp2_with fail
     exact bodyPost_ret (v := .tuple #[.agg #[.string ⟨#[]⟩, .int .i64 0], .bool false]) (by simp [results, Tryz.results173, go_sem]) rfl ⟨by rw [HE.out]; rfl, grows⟩
    ·by_cases hi1 : (fs.length : Int) ≤ i
     ·have HE : Hid (R = none) := Lh (by rw [hR, hfl]; exact Tj.at_none (.inr hi1))
      have d1 : decide (i < 0) = false := dF (by omega)
      have d2 : decide ((fs.length : Int) ≤ i) = true := dTt (by omega)
      clear hR hfl
      clear hF hnm hhs hmd hrs has hts hss hct hdp
      clear hfs
      go_enter Tryz.func173, Tryz.ntmps173
      go_wp2_with fail
      exact bodyPost_ret (v := .tuple #[.agg #[.string ⟨#[]⟩, .int .i64 0], .bool false]) (by simp [results, Tryz.results173, go_sem]) rfl ⟨by rw [HE.out]; rfl, grows⟩
     ·obtain ⟨k, rfl⟩ := Int.eq_ofNat_of_zero_le (show 0 ≤ i by omega)
      have hkl : k < fs.length := by omega
      obtain ⟨⟨nk, xk⟩, hxk⟩ : ∃ x, fs[k]? = some x := ⟨_, gE hkl⟩
      have HE : Hid (R = some (nk, xk)) := Lh (by rw [hR, hfl]; show Tj.at? _ _ = _; unfold Tj.at?; rw [if_pos (by omega), Int.toNat_natCast]; exact hxk)
      obtain ⟨fb, fo, rfl, _, _⟩ := Rows.at hfs (by omega)
      obtain ⟨u0, u1, _⟩ := flds_at hfs k nk xk hxk rfl
      have d1 : decide ((k : Int) < 0) = false := dF (by omega)
      have d2 : decide ((fs.length : Int) ≤ (k : Int)) = false := dF (by omega)
      clear hR hfl hxk
      clear hF hnm hhs hmd hrs has hts hss hct hdp
      clear hfs
      go_enter Tryz.func173, Tryz.ntmps173
      go_wp2_with fail
      exact bodyPost_ret (v := .tuple #[.agg #[.string nk, .int .i64 xk], .bool true]) (by simp [results, Tryz.results173, go_sem]) rfl ⟨by rw [HE.out]; rfl, grows⟩
theorem prim_any {W : World} {p : Pg.PV} {F : Tj.FP} (hF : Tj.IsF W p F) {pv : Value} {ps : List Hd.Fld} (hps : Hd.Flds W pv ps) (n : Tj.EN) : Calls Tryz.prog 148 #[Tj.scv p pv, .agg #[.int .i64 n.op, .int .i64 n.n, .int .i64 n.w]] W (Rets W (.tuple #[.int .i64 (Tj.prim F.P ps n).1, .int .i64 (Tj.prim F.P ps n).2])) := by
 obtain ⟨no, nn, nw⟩ := n
 dsimp only
 have HFD := Lh (fun (w : World) (hx : Ext W w) => sfield_any (hF.ext hx) (hps.ext hx) nn nw)
 obtain ⟨a1, a2, a3, a4, a5, a6, a7, a8, m1, m2, m3, m4, m5, m6, n7, m7, m8, hf⟩ := hF.form
 obtain ⟨rfl, hnm, hhs, hmd, hrs, has, hts, hss, hct, hdp, l1, l2, l3, l4, l5, l6, l7, l8⟩ := hf
 obtain ⟨pa, pc, rfl, lp, lp'⟩ := hps.slice
 unfold maxLen at lp'
 obtain ⟨R, hR⟩ : ∃ z, z = Tj.prim F.P ps ⟨no, nn, nw⟩ := ⟨_, rfl⟩
 rw [← hR]
 dsimp only [Tj.scv] at HFD ⊢
 have bx := aH W (.cells (Yq3 F a1 m1 a2 m2 a3 m3 a4 m4 a5 m5 a6 m6 a7 m7 n7 a8 m8 pa pc ps.length) 165)
 have k0 := alw (cQ 0 bx)
 have k1 := alw (cQ 1 bx)
 have k2 := alw (cQ 2 bx)
 have k3 := alw (cQ 3 bx)
 have k4 := alw (cQ 4 bx)
 have k5 := alw (cQ 5 bx)
 have k6 := alw (cQ 6 bx)
 have k7 := alw (cQ 7 bx)
 have k8 := alw (cQ 8 bx)
 have k9 := alw (cQ 9 bx)
 clear bx
 have bx := aH (W.alloc (.cells (Yq3 F a1 m1 a2 m2 a3 m3 a4 m4 a5 m5 a6 m6 a7 m7 n7 a8 m8 pa pc ps.length) 165)) (.cells #[.int .i64 no, .int .i64 nn, .int .i64 nw] 85)
 rw [szA] at bx
 have j0 := alw (cQ 0 bx)
 have j1 := alw (cQ 1 bx)
 have j2 := alw (cQ 2 bx)
 clear bx
 clear hF hnm hhs hmd hrs has hts hss hct hdp
 unfold Tj.prim at hR
 dsimp only at hR
 by_cases h1 : no = 1
 ·rw [if_pos h1] at hR
  have q1 : (no == 1) = true := bT (by omega)
  by_cases hw : nw < 1 ∨ 32 < nw
  ·have HE : Hid (R = (0, 10)) := Lh (by rw [hR, if_pos hw])
   have HW : Hid (Tj.wide nw = (0, 10)) := Lh (by unfold Tj.wide; rw [if_pos hw])
   clear hR hw h1 hps HFD
   go_enter Tryz.func148, Tryz.ntmps148
   go_wp2_with fail
   refine (wide_any nw _).mono ?_
   rintro e w2 ⟨rfl, rfl⟩
   rw [HW.out]
   go_wp2_with fail
   refine wp_region_later (W := ((W.alloc (.cells (Yq3 F a1 m1 a2 m2 a3 m3 a4 m4 a5 m5 a6 m6 a7 m7 n7 a8 m8 pa pc ps.length) 165)).alloc (.cells #[.int .i64 no, .int .i64 nn, .int .i64 nw] 85))) (by kernel_rfl) (by kernel_rfl) grows ?_
   repeat (go_big_quiet_step (fail))
   refine wpQuiet_nil ?_
   intro w3 hx3
   have s3 := Sm hx3
   go_wp2_with fail
   go_ret2
   exact ⟨ret_two (by rw [HE.out]), grows⟩
  ·have HW : Hid (Tj.wide nw = (nw, 0)) := Lh (by unfold Tj.wide; rw [if_neg hw])
   rw [if_neg hw] at hR
   have hmb : 0 ≤ Bv.mask nw ∧ Bv.mask nw < 4294967296 := Bv.mask_bd _
   by_cases hn : nn < 0
   ·have HE : Hid (R = (0, 9)) := Lh (by rw [hR, if_pos (.inl hn)])
    have d1 : decide (nn < 0) = true := dTt (by omega)
    clear hR hw h1 hps HFD
    go_enter Tryz.func148, Tryz.ntmps148
    go_wp2_with fail
    refine (wide_any nw _).mono ?_
    rintro e w2 ⟨rfl, rfl⟩
    rw [HW.out]
    go_wp2_with fail
    refine wp_region_later (W := ((W.alloc (.cells (Yq3 F a1 m1 a2 m2 a3 m3 a4 m4 a5 m5 a6 m6 a7 m7 n7 a8 m8 pa pc ps.length) 165)).alloc (.cells #[.int .i64 no, .int .i64 nn, .int .i64 nw] 85))) (by kernel_rfl) (by kernel_rfl) grows ?_
    repeat (go_big_quiet_step (fail))
    refine wpQuiet_nil ?_
    intro w3 hx3
    have s3 := Sm hx3
    go_wp2_with fail
    go_ret2
    exact ⟨ret_two (by rw [HE.out]), grows⟩
   ·have d1 : decide (nn < 0) = false := dF (by omega)
    by_cases hm : Bv.mask nw < nn
    ·have HE : Hid (R = (0, 9)) := Lh (by rw [hR, if_pos (.inr hm)])
     have d2 : decide (Bv.mask nw < nn) = true := dTt (by omega)
     clear hR hw h1 hps HFD
     go_enter Tryz.func148, Tryz.ntmps148
     go_wp2_with fail
     refine (wide_any nw _).mono ?_
     rintro e w2 ⟨rfl, rfl⟩
     rw [HW.out]
     go_wp2_with fail
     refine wp_region_later (W := ((W.alloc (.cells (Yq3 F a1 m1 a2 m2 a3 m3 a4 m4 a5 m5 a6 m6 a7 m7 n7 a8 m8 pa pc ps.length) 165)).alloc (.cells #[.int .i64 no, .int .i64 nn, .int .i64 nw] 85))) (by kernel_rfl) (by kernel_rfl) grows ?_
     repeat (go_big_quiet_step (first | (go_at_call 72; exact Rets.later_at (mask_any _ _)) | fail))
     refine wpQuiet_nil ?_
     intro w3 hx3
     have s3 := Sm hx3
     go_wp2_with fail
     go_ret2
     exact ⟨ret_two (by rw [HE.out]), grows⟩
    ·have HE : Hid (R = (nw, 0)) := Lh (by rw [hR, if_neg (by omega)])
     have d2 : decide (Bv.mask nw < nn) = false := dF (by omega)
     clear hR hw h1 hps HFD
     go_enter Tryz.func148, Tryz.ntmps148
     go_wp2_with fail
     refine (wide_any nw _).mono ?_
     rintro e w2 ⟨rfl, rfl⟩
     rw [HW.out]
     go_wp2_with fail
     refine wp_region_later (W := ((W.alloc (.cells (Yq3 F a1 m1 a2 m2 a3 m3 a4 m4 a5 m5 a6 m6 a7 m7 n7 a8 m8 pa pc ps.length) 165)).alloc (.cells #[.int .i64 no, .int .i64 nn, .int .i64 nw] 85))) (by kernel_rfl) (by kernel_rfl) grows ?_
     repeat (go_big_quiet_step (first | (go_at_call 72; exact Rets.later_at (mask_any _ _)) | fail))
     refine wpQuiet_nil ?_
     intro w3 hx3
     have s3 := Sm hx3
     go_wp2_with fail
     go_ret2
     exact ⟨ret_two (by rw [HE.out]), grows⟩
 ·rw [if_neg h1] at hR
  have q1 : (no == 1) = false := bF (by omega)
  by_cases h2 : no = 2
  ·rw [if_pos h2] at hR
   have q2 : (no == 2) = true := bT (by omega)
   obtain ⟨o, ho⟩ : ∃ z, z = Tj.fld F.P nn nw := ⟨_, rfl⟩
   rw [← ho] at hR HFD
   have hfld := field_fld
   cases o with
   | none =>
    have HE : Hid (R = (0, 8)) := Lh hR
    clear hR ho h1 h2 hps
    go_enter Tryz.func148, Tryz.ntmps148
    go_wp2_with fail
    refine via (HFD.out _ grows) fun w3 xw3 sw3 => ?_
    dsimp only [Tj.fldV, Option.isSome]
    go_wp2_with fail
    go_ret2
    exact ⟨ret_two (by rw [HE.out]), grows⟩
   | some fx =>
    obtain ⟨fn, fw⟩ := fx
    have HE : Hid (R = Tj.wide fw) := Lh hR
    clear hR ho h1 h2 hps
    go_enter Tryz.func148, Tryz.ntmps148
    go_wp2_with fail
    refine via (HFD.out _ grows) fun w3 xw3 sw3 => ?_
    dsimp only [Tj.fldV, Option.isSome]
    go_wp2_with fail
    refine (wide_any fw _).mono ?_
    rintro e w4 ⟨rfl, rfl⟩
    go_wp2_with fail
    go_ret2
    exact ⟨ret_two (by rw [HE.out]), grows⟩
  ·rw [if_neg h2] at hR
   have q2 : (no == 2) = false := bF (by omega)
   by_cases h3 : no = 3
   ·rw [if_pos h3] at hR
    have q3 : (no == 3) = true := bT (by omega)
    by_cases hi0 : nn < 0
    ·have HE : Hid (R = (0, 8)) := Lh (by rw [hR, Tj.at_none (.inl hi0)])
     have d1 : decide (nn < 0) = true := dTt (by omega)
     clear hR h1 h2 h3 hps HFD
     go_enter Tryz.func148, Tryz.ntmps148
     go_wp2_with fail
     go_ret2
     exact ⟨ret_two (by rw [HE.out]), grows⟩
    ·have d1 : decide (nn < 0) = false := dF (by omega)
     by_cases hi1 : (ps.length : Int) ≤ nn
     ·have HE : Hid (R = (0, 8)) := Lh (by rw [hR, Tj.at_none (.inr hi1)])
      have d2 : decide ((ps.length : Int) ≤ nn) = true := dTt (by omega)
      clear hR h1 h2 h3 hps HFD
      go_enter Tryz.func148, Tryz.ntmps148
      go_wp2_with fail
      go_ret2
      exact ⟨ret_two (by rw [HE.out]), grows⟩
     ·have d2 : decide ((ps.length : Int) ≤ nn) = false := dF (by omega)
      obtain ⟨⟨xn, xw⟩, e1, e2⟩ := Tj.at_some (l := ps) (i := nn) (by omega) (by omega)
      have HE : Hid (R = Tj.wide xw) := Lh (by rw [hR, e1])
      obtain ⟨fb, fo, rfl, _, _⟩ := Rows.at hps (by omega)
      obtain ⟨u0, u1, _⟩ := flds_at hps _ xn xw e2 rfl
      obtain ⟨k, rfl⟩ := Int.eq_ofNat_of_zero_le (show 0 ≤ nn by omega)
      rw [Int.toNat_natCast] at u0 u1
      clear hR h1 h2 h3 hps HFD e1 e2
      have hkl : k < ps.length := by omega
      go_enter Tryz.func148, Tryz.ntmps148
      go_wp2_with fail
      refine (wide_any xw _).mono ?_
      rintro e w4 ⟨rfl, rfl⟩
      go_wp2_with fail
      go_ret2
      exact ⟨ret_two (by rw [HE.out]), grows⟩
   ·rw [if_neg h3] at hR
    have q3 : (no == 3) = false := bF (by omega)
    by_cases hi0 : nn < 0
    ·have HE : Hid (R = (0, 8)) := Lh (by rw [hR, if_pos (.inl hi0)])
     have d1 : decide (nn < 0) = true := dTt (by omega)
     clear hR h1 h2 h3 hps HFD
     go_enter Tryz.func148, Tryz.ntmps148
     go_wp2_with fail
     go_ret2
     exact ⟨ret_two (by rw [HE.out]), grows⟩
    ·have d1 : decide (nn < 0) = false := dF (by omega)
     by_cases hi1 : (F.P.hs.length : Int) ≤ nn
     ·have HE : Hid (R = (0, 8)) := Lh (by rw [hR, if_pos (.inr hi1)])
      have d2 : decide ((F.P.hs.length : Int) ≤ nn) = true := dTt (by omega)
      clear hR h1 h2 h3 hps HFD
      go_enter Tryz.func148, Tryz.ntmps148
      go_wp2_with fail
      go_ret2
      exact ⟨ret_two (by rw [HE.out]), grows⟩
     ·have d2 : decide ((F.P.hs.length : Int) ≤ nn) = false := dF (by omega)
      have HE : Hid (R = (1, 0)) := Lh (by rw [hR, if_neg (by omega)])
      clear hR h1 h2 h3 hps HFD
      go_enter Tryz.func148, Tryz.ntmps148
      go_wp2_with fail
      go_ret2
      exact ⟨ret_two (by rw [HE.out]), grows⟩
namespace Tj
theorem comb_ok {n : EN} {a b c : Int} (ha : 1 ≤ a ∧ a ≤ 32) (hb : n.op = 17 → 1 ≤ b ∧ b ≤ 32) (h : (comb n a b c).2 = 0) : 1 ≤ (comb n a b c).1 ∧ (comb n a b c).1 ≤ 32 := by
 unfold comb at h ⊢
 by_cases h8 : n.op = 8
 ·rw [if_pos h8] at h ⊢
  by_cases g1 : n.n < 0
  ·rw [if_pos g1] at h; exact absurd h (by decide)
  ·rw [if_neg g1] at h ⊢
   by_cases g2 : n.w < 1 ∨ 32 < n.w
   ·rw [if_pos g2] at h; exact absurd h (by decide)
   ·rw [if_neg g2] at h ⊢
    by_cases g3 : a - n.w < n.n
    ·rw [if_pos g3] at h; exact absurd h (by decide)
    ·rw [if_neg g3]; dsimp only; omega
 ·rw [if_neg h8] at h ⊢
  by_cases h14 : n.op = 14
  ·rw [if_pos h14] at h ⊢
   unfold wide at h ⊢
   by_cases g2 : a + b < 1 ∨ 32 < a + b
   ·rw [if_pos g2] at h; exact absurd h (by decide)
   ·rw [if_neg g2]; dsimp only; omega
  ·rw [if_neg h14] at h ⊢
   by_cases h17 : n.op = 17
   ·rw [if_pos h17] at h ⊢
    by_cases g2 : a ≠ 1 ∨ b ≠ c
    ·rw [if_pos g2] at h; exact absurd h (by decide)
    ·rw [if_neg g2]; exact hb h17
   ·rw [if_neg h17] at h ⊢
    by_cases g1 : (n.op = 6 ∨ n.op = 7) ∧ (n.n < 0 ∨ 31 < n.n)
    ·rw [if_pos g1] at h; exact absurd h (by decide)
    ·rw [if_neg g1] at h ⊢
     by_cases g2 : arity n.op = 2 ∧ a ≠ b
     ·rw [if_pos g2] at h; exact absurd h (by decide)
     ·rw [if_neg g2]
      by_cases g3 : n.op = 15 ∨ n.op = 16
      ·rw [if_pos g3]; decide
      ·rw [if_neg g3]; exact ha
theorem prim_ok {P : Pg.Prog} {ps : List Hd.Fld} {n : EN} (h : (prim P ps n).2 = 0) : 1 ≤ (prim P ps n).1 ∧ (prim P ps n).1 ≤ 32 := by
 unfold prim wide at h ⊢
 split at h
 ·rename_i h1
  rw [if_pos h1]
  split at h
  ·cases h
  ·rename_i h2
   rw [if_neg h2]
   split at h
   ·cases h
   ·rename_i h3
    rw [if_neg h3]; dsimp only; omega
 ·rename_i h1
  rw [if_neg h1]
  split at h
  ·rename_i h2
   rw [if_pos h2]
   cases hf : fld P n.n n.w with
   | none => rw [hf] at h; cases h
   | some f =>
    rw [hf] at h
    dsimp only at h ⊢
    split at h
    ·cases h
    ·rename_i h3; rw [if_neg h3]; dsimp only; omega
  ·rename_i h2
   rw [if_neg h2]
   split at h
   ·rename_i h3
    rw [if_pos h3]
    cases hf : at? ps n.n with
    | none => rw [hf] at h; cases h
    | some f =>
     rw [hf] at h
     dsimp only at h ⊢
     split at h
     ·cases h
     ·rename_i h3; rw [if_neg h3]; dsimp only; omega
   ·rename_i h3
    rw [if_neg h3]
    split at h
    ·cases h
    ·rename_i h4; rw [if_neg h4]; dsimp only; omega
theorem subs_all {f : Nat → Int × Nat × Int} {Q : Int → Prop} (hf : ∀ p, (f p).2.2 = 0 → Q (f p).1) {k p : Nat} (h : (subs f k p).2.2 = 0) : ∀ x ∈ (subs f k p).1, Q x := by
 induction k with
 | zero => intro x hx; cases hx
 | succ k ih =>
  unfold subs at h ⊢
  by_cases h1 : (subs f k p).2.2 ≠ 0
  ·rw [if_pos h1] at h; exact absurd h h1
  ·rw [if_neg h1] at h ⊢
   by_cases h2 : (f (subs f k p).2.1).2.2 ≠ 0
   ·rw [if_pos h2] at h; exact absurd h h2
   ·rw [if_neg h2]
    intro x hx
    rcases List.mem_append.1 hx with hx | hx
    ·exact ih (by simpa using h1) x hx
    ·obtain rfl := List.mem_singleton.1 hx
     exact hf _ (by simpa using h2)
theorem sub_wd {P : Pg.Prog} {ps : List Hd.Fld} {l : List EN} : ∀ (m p : Nat), (sub P ps l m p).2.2 = 0 → 1 ≤ (sub P ps l m p).1 ∧ (sub P ps l m p).1 ≤ 32
 | 0, p, h => by simp [sub] at h
 | m + 1, p, h => by
  unfold sub at h ⊢
  cases hl : l[p]? with
  | none => rw [hl] at h; simp at h
  | some n =>
   rw [hl] at h
   dsimp only at h ⊢
   by_cases h1 : arity n.op < 0
   ·rw [if_pos h1] at h; simp at h
   ·rw [if_neg h1] at h ⊢
    by_cases h2 : arity n.op = 0
    ·rw [if_pos h2] at h ⊢; exact prim_ok h
    ·rw [if_neg h2] at h ⊢
     by_cases h3 : (subs (sub P ps l m) (arity n.op).toNat (p + 1)).2.2 ≠ 0
     ·rw [if_pos h3] at h; exact absurd h h3
     ·rw [if_neg h3] at h ⊢
      have h3' : (subs (sub P ps l m) (arity n.op).toNat (p + 1)).2.2 = 0 := by simpa using h3
      have hall := subs_all (Q := fun x => 1 ≤ x ∧ x ≤ 32) (fun q hq => sub_wd m q hq) h3'
      have hlen := subs_len h3'
      refine comb_ok ?_ (fun h17 => ?_) h
      ·have := arity_cases n.op
       have hpos : 0 < (subs (sub P ps l m) (arity n.op).toNat (p + 1)).1.length := by rw [hlen]; omega
       rw [List.getD_eq_getElem?_getD, gE hpos]
       exact hall _ (List.getElem_mem hpos)
      ·have ha : arity n.op = 3 := by rw [h17]; rfl
       have hpos : 1 < (subs (sub P ps l m) (arity n.op).toNat (p + 1)).1.length := by rw [hlen, ha]; decide
       rw [List.getD_eq_getElem?_getD, gE hpos]
       exact hall _ (List.getElem_mem hpos)
end Tj
theorem comb_any (n : Tj.EN) (a b c : Int) (ha : 0 ≤ a ∧ a ≤ 64) (hb : 0 ≤ b ∧ b ≤ 64) (W : World) : Calls Tryz.prog 149 #[.agg #[.int .i64 n.op, .int .i64 n.n, .int .i64 n.w], .agg #[.int .i64 a, .int .i64 b, .int .i64 c]] W (Rets W (.tuple #[.int .i64 (Tj.comb n a b c).1, .int .i64 (Tj.comb n a b c).2])) := by
 obtain ⟨no, nn, nw⟩ := n
 dsimp only
 obtain ⟨R, hR⟩ : ∃ z, z = Tj.comb ⟨no, nn, nw⟩ a b c := ⟨_, rfl⟩
 rw [← hR]
 have bx := aH W (.cells #[.int .i64 no, .int .i64 nn, .int .i64 nw] 85)
 have k0 := alw (cQ 0 bx)
 have k1 := alw (cQ 1 bx)
 have k2 := alw (cQ 2 bx)
 clear bx
 have bx := aH (W.alloc (.cells #[.int .i64 no, .int .i64 nn, .int .i64 nw] 85)) (.cells #[.int .i64 a, .int .i64 b, .int .i64 c] 243)
 rw [szA] at bx
 have j0 := alw (cQ 0 bx)
 have j1 := alw (cQ 1 bx)
 have j2 := alw (cQ 2 bx)
 clear bx
 unfold Tj.comb at hR
 dsimp only at hR
 by_cases h8 : no = 8
 ·subst h8
  rw [if_pos rfl] at hR
  by_cases hn : nn < 0
  ·have HE : Hid (R = (0, 9)) := Lh (by rw [hR, if_pos hn])
   have d1 : decide (nn < 0) = true := dTt (by omega)
   clear hR hn
   go_enter Tryz.func149, Tryz.ntmps149
   go_wp2_with fail
   go_ret2
   exact ⟨ret_two (by rw [HE.out]), grows⟩
  ·rw [if_neg hn] at hR
   have d1 : decide (nn < 0) = false := dF (by omega)
   by_cases hw : nw < 1 ∨ 32 < nw
   ·have HE : Hid (R = (0, 10)) := Lh (by rw [hR, if_pos hw])
    have HW : Hid (Tj.wide nw = (0, 10)) := Lh (by unfold Tj.wide; rw [if_pos hw])
    clear hR hw
    go_enter Tryz.func149, Tryz.ntmps149
    go_wp2_with fail
    refine (wide_any nw _).mono ?_
    rintro e w2 ⟨rfl, rfl⟩
    rw [HW.out]
    go_wp2_with fail
    go_ret2
    exact ⟨ret_two (by rw [HE.out]), grows⟩
   ·have HW : Hid (Tj.wide nw = (nw, 0)) := Lh (by unfold Tj.wide; rw [if_neg hw])
    rw [if_neg hw] at hR
    by_cases hl : a - nw < nn
    ·have HE : Hid (R = (0, 10)) := Lh (by rw [hR, if_pos hl])
     have d2 : decide (a - nw < nn) = true := dTt (by omega)
     clear hR
     go_enter Tryz.func149, Tryz.ntmps149
     go_wp2_with fail
     refine (wide_any nw _).mono ?_
     rintro e w2 ⟨rfl, rfl⟩
     rw [HW.out]
     go_wp2_with fail
     go_ret2
     exact ⟨ret_two (by rw [HE.out]), grows⟩
    ·have HE : Hid (R = (nw, 0)) := Lh (by rw [hR, if_neg hl])
     have d2 : decide (a - nw < nn) = false := dF (by omega)
     clear hR
     go_enter Tryz.func149, Tryz.ntmps149
     go_wp2_with fail
     refine (wide_any nw _).mono ?_
     rintro e w2 ⟨rfl, rfl⟩
     rw [HW.out]
     go_wp2_with fail
     go_ret2
     exact ⟨ret_two (by rw [HE.out]), grows⟩
 ·rw [if_neg h8] at hR
  have q8 : (no == 8) = false := bF (by omega)
  by_cases h14 : no = 14
  ·subst h14
   have HE : Hid (R = Tj.wide (a + b)) := Lh (by rw [hR, if_pos rfl])
   clear hR h8
   go_enter Tryz.func149, Tryz.ntmps149
   go_wp2_with fail
   refine (wide_any (a + b) _).mono ?_
   rintro e w2 ⟨rfl, rfl⟩
   go_wp2_with fail
   go_ret2
   exact ⟨ret_two (by rw [HE.out]), grows⟩
  ·rw [if_neg h14] at hR
   have q14 : (no == 14) = false := bF (by omega)
   by_cases h17 : no = 17
   ·subst h17
    rw [if_pos rfl] at hR
    by_cases h1 : a = 1
    ·by_cases hbc : b = c
     ·have HE : Hid (R = (b, 0)) := Lh (by rw [hR, if_neg (by omega)])
      have e1 : (a != 1) = false := by rw [h1]; rfl
      have e2 : (b != c) = false := by rw [hbc]; exact bne_self_eq_false c
      clear hR h1 hbc
      go_enter Tryz.func149, Tryz.ntmps149
      go_wp2_with fail
      go_ret2
      exact ⟨ret_two (by rw [HE.out]), grows⟩
     ·have HE : Hid (R = (0, 10)) := Lh (by rw [hR, if_pos (.inr hbc)])
      have e1 : (a != 1) = false := by rw [h1]; rfl
      have e2 : (b != c) = true := nT hbc
      clear hR h1 hbc
      go_enter Tryz.func149, Tryz.ntmps149
      go_wp2_with fail
      go_ret2
      exact ⟨ret_two (by rw [HE.out]), grows⟩
    ·have HE : Hid (R = (0, 10)) := Lh (by rw [hR, if_pos (.inl h1)])
     have e1 : (a != 1) = true := nT h1
     clear hR h1
     go_enter Tryz.func149, Tryz.ntmps149
     go_wp2_with fail
     go_ret2
     exact ⟨ret_two (by rw [HE.out]), grows⟩
   ·rw [if_neg h17] at hR
    have q17 : (no == 17) = false := bF (by omega)
    have tail : ∀ (R : Int × Int), R = (if Tj.arity no = 2 ∧ a ≠ b then ((0 : Int), (10 : Int)) else if no = 15 ∨ no = 16 then (1, 0) else (a, 0)) →
     ((Tj.arity no == 2) = true ∧ (a != b) = true ∧ R = (0, 10)) ∨ ((Tj.arity no == 2) = true ∧ (a != b) = false ∧ R = (if no = 15 ∨ no = 16 then (1, 0) else (a, 0))) ∨ ((Tj.arity no == 2) = false ∧ R = (if no = 15 ∨ no = 16 then (1, 0) else (a, 0))) := by
     intro R h
     by_cases g1 : Tj.arity no = 2
     ·by_cases g2 : a = b
      ·exact .inr (.inl ⟨bT g1, by rw [g2]; exact bne_self_eq_false b, by rw [h, if_neg (by intro h; exact h.2 g2)]⟩)
      ·exact .inl ⟨bT g1, nT g2, by rw [h, if_pos ⟨g1, g2⟩]⟩
     ·exact .inr (.inr ⟨bF g1, by rw [h, if_neg (by intro h; exact g1 h.1)]⟩)
    obtain ⟨ar, har⟩ : ∃ z, z = Tj.arity no := ⟨_, rfl⟩
    have HAR := Lh har
    by_cases h67 : no = 6 ∨ no = 7
    ·by_cases hn : nn < 0
     ·have HE : Hid (R = (0, 9)) := Lh (by rw [hR, if_pos ⟨h67, .inl hn⟩])
      have d1 : decide (nn < 0) = true := dTt (by omega)
      clear hR hn tail har HAR
      rcases h67 with rfl | rfl
      all_goals
       go_enter Tryz.func149, Tryz.ntmps149
       go_wp2_with fail
       go_ret2
       exact ⟨ret_two (by rw [HE.out]), grows⟩
     ·have d1 : decide (nn < 0) = false := dF (by omega)
      by_cases hn2 : 31 < nn
      ·have HE : Hid (R = (0, 9)) := Lh (by rw [hR, if_pos ⟨h67, .inr hn2⟩])
       have d2 : decide (31 < nn) = true := dTt (by omega)
       clear hR hn tail har HAR
       rcases h67 with rfl | rfl
       all_goals
        go_enter Tryz.func149, Tryz.ntmps149
        go_wp2_with fail
        go_ret2
        exact ⟨ret_two (by rw [HE.out]), grows⟩
      ·have d2 : decide (31 < nn) = false := dF (by omega)
       have HE : Hid (R = (a, 0)) := Lh (by rw [hR, if_neg (by omega), if_neg (by rintro ⟨h, _⟩; rcases h67 with rfl | rfl <;> cases h), if_neg (by omega)])
       clear hR hn hn2 tail har HAR
       rcases h67 with rfl | rfl
       all_goals
        go_enter Tryz.func149, Tryz.ntmps149
        go_wp2_with fail
        refine (arity_any _ _).mono ?_
        rintro e wa ⟨rfl, rfl⟩
        rw [show Tj.arity _ = 1 from rfl]
        go_wp2_with fail
        go_ret2
        exact ⟨ret_two (by rw [HE.out]), grows⟩
    ·rw [if_neg (by intro h; exact h67 h.1)] at hR
     have q6 : (no == 6) = false := bF (by omega)
     have q7 : (no == 7) = false := bF (by omega)
     clear h67
     rcases tail R hR with ⟨t1, t2, HE⟩ | ⟨t1, t2, HE⟩ | ⟨t1, HE⟩
     ·rw [← har] at t1
      have HE := Lh HE
      clear hR tail har
      go_enter Tryz.func149, Tryz.ntmps149
      go_wp2_with fail
      refine (arity_any no _).mono ?_
      rintro e wa ⟨rfl, rfl⟩
      rw [← HAR.out]
      go_wp2_with fail
      go_ret2
      exact ⟨ret_two (by rw [HE.out]), grows⟩
     ·rw [← har] at t1
      by_cases h15 : no = 15
      ·rw [if_pos (.inl h15)] at HE
       have HE := Lh HE
       have q15 : (no == 15) = true := bT (by omega)
       clear hR tail har h15
       go_enter Tryz.func149, Tryz.ntmps149
       go_wp2_with fail
       refine (arity_any no _).mono ?_
       rintro e wa ⟨rfl, rfl⟩
       rw [← HAR.out]
       go_wp2_with fail
       go_ret2
       exact ⟨ret_two (by rw [HE.out]), grows⟩
      ·have q15 : (no == 15) = false := bF (by omega)
       by_cases h16 : no = 16
       ·rw [if_pos (.inr h16)] at HE
        have HE := Lh HE
        have q16 : (no == 16) = true := bT (by omega)
        clear hR tail har h16
        go_enter Tryz.func149, Tryz.ntmps149
        go_wp2_with fail
        refine (arity_any no _).mono ?_
        rintro e wa ⟨rfl, rfl⟩
        rw [← HAR.out]
        go_wp2_with fail
        go_ret2
        exact ⟨ret_two (by rw [HE.out]), grows⟩
       ·rw [if_neg (by omega)] at HE
        have HE := Lh HE
        have q16 : (no == 16) = false := bF (by omega)
        clear hR tail har
        go_enter Tryz.func149, Tryz.ntmps149
        go_wp2_with fail
        refine (arity_any no _).mono ?_
        rintro e wa ⟨rfl, rfl⟩
        rw [← HAR.out]
        go_wp2_with fail
        go_ret2
        exact ⟨ret_two (by rw [HE.out]), grows⟩
     ·rw [← har] at t1
      by_cases h15 : no = 15
      ·rw [if_pos (.inl h15)] at HE
       have HE := Lh HE
       have q15 : (no == 15) = true := bT (by omega)
       clear hR tail har h15
       go_enter Tryz.func149, Tryz.ntmps149
       go_wp2_with fail
       refine (arity_any no _).mono ?_
       rintro e wa ⟨rfl, rfl⟩
       rw [← HAR.out]
       go_wp2_with fail
       go_ret2
       exact ⟨ret_two (by rw [HE.out]), grows⟩
      ·have q15 : (no == 15) = false := bF (by omega)
       by_cases h16 : no = 16
       ·rw [if_pos (.inr h16)] at HE
        have HE := Lh HE
        have q16 : (no == 16) = true := bT (by omega)
        clear hR tail har h16
        go_enter Tryz.func149, Tryz.ntmps149
        go_wp2_with fail
        refine (arity_any no _).mono ?_
        rintro e wa ⟨rfl, rfl⟩
        rw [← HAR.out]
        go_wp2_with fail
        go_ret2
        exact ⟨ret_two (by rw [HE.out]), grows⟩
       ·rw [if_neg (by omega)] at HE
        have HE := Lh HE
        have q16 : (no == 16) = false := bF (by omega)
        clear hR tail har
        go_enter Tryz.func149, Tryz.ntmps149
        go_wp2_with fail
        refine (arity_any no _).mono ?_
        rintro e wa ⟨rfl, rfl⟩
        rw [← HAR.out]
        go_wp2_with fail
        go_ret2
        exact ⟨ret_two (by rw [HE.out]), grows⟩
namespace Tj
theorem subs_le {f : Nat → Int × Nat × Int} {N : Nat} (hf : ∀ p, (f p).2.2 = 0 → (f p).2.1 ≤ N) {k p : Nat} (hp : p ≤ N) (h : (subs f k p).2.2 = 0) : (subs f k p).2.1 ≤ N := by
 cases k with
 | zero => exact hp
 | succ k =>
  unfold subs at h ⊢
  by_cases h1 : (subs f k p).2.2 ≠ 0
  ·rw [if_pos h1] at h; exact absurd h h1
  ·rw [if_neg h1] at h ⊢
   by_cases h2 : (f (subs f k p).2.1).2.2 ≠ 0
   ·rw [if_pos h2] at h; exact absurd h h2
   ·rw [if_neg h2]; exact hf _ (by simpa using h2)
theorem sub_le {P : Pg.Prog} {ps : List Hd.Fld} {l : List EN} : ∀ (m p : Nat), (sub P ps l m p).2.2 = 0 → (sub P ps l m p).2.1 ≤ l.length
 | 0, p, h => by simp [sub] at h
 | m + 1, p, h => by
  unfold sub at h ⊢
  cases hl : l[p]? with
  | none => rw [hl] at h; simp at h
  | some n =>
   have hlt := (List.getElem?_eq_some_iff.1 hl).1
   rw [hl] at h
   dsimp only at h ⊢
   by_cases h1 : arity n.op < 0
   ·rw [if_pos h1] at h; simp at h
   ·rw [if_neg h1] at h ⊢
    by_cases h2 : arity n.op = 0
    ·rw [if_pos h2]; exact hlt
    ·rw [if_neg h2] at h ⊢
     by_cases h3 : (subs (sub P ps l m) (arity n.op).toNat (p + 1)).2.2 ≠ 0
     ·rw [if_pos h3] at h; exact absurd h h3
     ·rw [if_neg h3]
      exact subs_le (fun q hq => sub_le m q hq) (by omega) (by simpa using h3)
theorem subs_err {f : Nat → Int × Nat × Int} {k p : Nat} {j : Nat} (hj : j ≤ k) (h : (subs f j p).2.2 ≠ 0) : (subs f k p).2.2 = (subs f j p).2.2 := by
 induction k with
 | zero => obtain rfl : j = 0 := by omega
           rfl
 | succ k ih =>
  rcases Nat.lt_or_ge k j with h1 | h1
  ·obtain rfl : j = k + 1 := by omega
   rfl
  ·have := ih h1
   show (if (subs f k p).2.2 ≠ 0 then subs f k p else _).2.2 = _
   rw [if_pos (by rw [this]; exact h), this]
theorem subs_next {f : Nat → Int × Nat × Int} {k p : Nat} (h : (subs f k p).2.2 = 0) (h2 : (f (subs f k p).2.1).2.2 = 0) : subs f (k + 1) p = ((subs f k p).1 ++ [(f (subs f k p).2.1).1], (f (subs f k p).2.1).2.1, 0) := by
 show (if (subs f k p).2.2 ≠ 0 then _ else if (f (subs f k p).2.1).2.2 ≠ 0 then _ else _) = _
 rw [if_neg (by simp [h]), if_neg (by simp [h2])]
theorem subs_bad {f : Nat → Int × Nat × Int} {k p : Nat} (h : (subs f k p).2.2 = 0) (h2 : (f (subs f k p).2.1).2.2 ≠ 0) : (subs f (k + 1) p).2.2 = (f (subs f k p).2.1).2.2 := by
 show (if (subs f k p).2.2 ≠ 0 then _ else if (f (subs f k p).2.1).2.2 ≠ 0 then _ else _ : List Int × Nat × Int).2.2 = _
 rw [if_neg (by simp [h]), if_pos h2]
theorem snoc_getD {l : List Int} {x : Int} {j : Nat} : (l ++ [x]).getD j 0 = if j = l.length then x else l.getD j 0 := by
 rw [List.getD_eq_getElem?_getD, List.getD_eq_getElem?_getD]
 rcases Nat.lt_trichotomy j l.length with h | h | h
 ·rw [if_neg (by omega), List.getElem?_append_left h]
 ·rw [if_pos h, h, List.getElem?_append_right (Nat.le_refl _)]; simp
 ·rw [if_neg (by omega), List.getElem?_eq_none_iff.2 (by simp; omega), List.getElem?_eq_none_iff.2 (by omega)]
theorem getD_bd {l : List Int} (h : ∀ x ∈ l, 1 ≤ x ∧ x ≤ 32) (j : Nat) : 0 ≤ l.getD j 0 ∧ l.getD j 0 ≤ 64 := by
 rw [List.getD_eq_getElem?_getD]
 cases e : l[j]? with
 | none => decide
 | some x => have := h x (List.mem_of_getElem? e); show 0 ≤ x ∧ x ≤ 64; omega
/-- the three widths so far -/
def ar3 (l : List Int) : Array Value := #[.int .i64 (l.getD 0 0), .int .i64 (l.getD 1 0), .int .i64 (l.getD 2 0)]
theorem ar3_set {l : List Int} {x : Int} (h : l.length < 3) : (ar3 l).setIfInBounds l.length (.int .i64 x) = ar3 (l ++ [x]) := by
 unfold ar3
 rw [snoc_getD, snoc_getD, snoc_getD]
 rcases (show l.length = 0 ∨ l.length = 1 ∨ l.length = 2 by omega) with e | e | e <;> rw [e] <;> simp
end Tj
theorem ret_three' {R : Int × Nat × Int} {a b c : Int} (h1 : R.1 = a) (h2 : (R.2.1 : Int) = b) (h3 : R.2.2 = c) : Ending.returned (.tuple #[.int .i64 a, .int .i64 b, .int .i64 c]) = .returned (.tuple #[.int .i64 R.1, .int .i64 R.2.1, .int .i64 R.2.2]) := by rw [← h1, ← h2, ← h3]
theorem xsub_any {W : World} {p : Pg.PV} {F : Tj.FP} (hF : Tj.IsF W p F) {pv : Value} {ps : List Hd.Fld} (hps : Hd.Flds W pv ps) {nv : Value} {l : List Tj.EN} (hl : Tj.Exp W nv l) (h24 : l.length ≤ 24) : ∀ (m q : Nat), l.length < q + m → ∀ w, Ext W w → Calls Tryz.prog 137 #[Tj.scv p pv, nv, .int .i64 q] w (Rets w (.tuple #[.int .i64 (Tj.sub F.P ps l m q).1, .int .i64 (Tj.sub F.P ps l m q).2.1, .int .i64 (Tj.sub F.P ps l m q).2.2])) := by
 intro m
 induction m with
 | zero =>
  intro q hq w hx
  obtain ⟨a1, a2, a3, a4, a5, a6, a7, a8, m1, m2, m3, m4, m5, m6, n7, m7, m8, hf⟩ := hF.form
  obtain ⟨rfl, hnm, hhs, hmd, hrs, has, hts, hss, hct, hdp, l1, l2, l3, l4, l5, l6, l7, l8⟩ := hf
  obtain ⟨pa, pc, rfl, lp, lp'⟩ := hps.slice
  unfold maxLen at lp'
  obtain ⟨na, nc, rfl, ln, ln'⟩ := hl.slice
  have HE : Hid (Tj.sub F.P ps l 0 q = (0, 0, 3)) := Lh rfl
  have d1 : decide ((l.length : Int) ≤ (q : Int)) = true := dTt (by omega)
  obtain ⟨R, hR⟩ : ∃ z, z = Tj.sub F.P ps l 0 q := ⟨_, rfl⟩
  rw [← hR] at HE ⊢
  dsimp only [Tj.scv]
  clear hR hps hl
  clear hF hnm hhs hmd hrs has hts hss hct hdp
  go_enter Tryz.func137, Tryz.ntmps137
  go_wp2_with fail
  go_ret3
  exact ⟨ret_three' (by first | (rw [HE.out]; done) | (rw [HE.out]; rfl; done) | (simp [HE.out]; done)) (by first | (rw [HE.out]; done) | (rw [HE.out]; rfl; done) | (simp [HE.out]; done)) (by first | (rw [HE.out]; done) | (rw [HE.out]; rfl; done) | (simp [HE.out]; done)), grows⟩
 | succ m ih =>
  intro q hq w hx
  have HIH := Lh ih
  have HPR : Hid (∀ (n : Tj.EN) (w : World), Ext W w → Calls Tryz.prog 148 #[Tj.scv p pv, .agg #[.int .i64 n.op, .int .i64 n.n, .int .i64 n.w]] w (Rets w (.tuple #[.int .i64 (Tj.prim F.P ps n).1, .int .i64 (Tj.prim F.P ps n).2]))) := Lh (fun n w hx => prim_any (hF.ext hx) (hps.ext hx) n)
  clear ih
  obtain ⟨a1, a2, a3, a4, a5, a6, a7, a8, m1, m2, m3, m4, m5, m6, n7, m7, m8, hf⟩ := hF.form
  obtain ⟨rfl, hnm, hhs, hmd, hrs, has, hts, hss, hct, hdp, l1, l2, l3, l4, l5, l6, l7, l8⟩ := hf
  obtain ⟨pa, pc, rfl, lp, lp'⟩ := hps.slice
  unfold maxLen at lp'
  obtain ⟨na, nc, rfl, ln, ln'⟩ := hl.slice
  unfold maxLen at ln'
  obtain ⟨R, hR⟩ : ∃ z, z = Tj.sub F.P ps l (m + 1) q := ⟨_, rfl⟩
  rw [← hR]
  unfold Tj.sub at hR
  dsimp only [Tj.scv] at HPR HIH ⊢
  by_cases hlt : q < l.length
  ·obtain ⟨n, hn⟩ : ∃ n, l[q]? = some n := ⟨_, gE hlt⟩
   rw [hn] at hR
   dsimp only at hR
   obtain ⟨nb, no, rfl, _, _⟩ := Rows.at hl (by omega)
   obtain ⟨u0, u1, u2, _, _, _⟩ := Tj.ens_at hl q n hn rfl
   have sw := Sm hx
   have y0 := alw u0
   have y1 := alw u1
   have y2 := alw u2
   have d1 : decide ((l.length : Int) ≤ (q : Int)) = false := dF (by omega)
   have bx := aH w (.cells (Yq3 F a1 m1 a2 m2 a3 m3 a4 m4 a5 m5 a6 m6 a7 m7 n7 a8 m8 pa pc ps.length) 165)
   have k0 := alw (cQ 0 bx)
   have k1 := alw (cQ 1 bx)
   have k2 := alw (cQ 2 bx)
   have k3 := alw (cQ 3 bx)
   have k4 := alw (cQ 4 bx)
   have k5 := alw (cQ 5 bx)
   have k6 := alw (cQ 6 bx)
   have k7 := alw (cQ 7 bx)
   have k8 := alw (cQ 8 bx)
   have k9 := alw (cQ 9 bx)
   clear bx
   clear u0 u1 u2 hn hps hl
   clear hF hnm hhs hmd hrs has hts hss hct hdp
   by_cases h1 : Tj.arity n.op < 0
   ·rw [if_pos h1] at hR
    have HE := Lh hR
    have e1 : decide (Tj.arity n.op < 0) = true := dTt (by omega)
    clear hR h1
    go_enter Tryz.func137, Tryz.ntmps137
    go_wp2_with fail
    refine (arity_any _ _).mono ?_
    rintro e wa ⟨rfl, rfl⟩
    go_wp2_with fail
    go_ret3
    exact ⟨ret_three' (by first | (rw [HE.out]; done) | (rw [HE.out]; rfl; done) | (simp [HE.out]; done)) (by first | (rw [HE.out]; done) | (rw [HE.out]; rfl; done) | (simp [HE.out]; done)) (by first | (rw [HE.out]; done) | (rw [HE.out]; rfl; done) | (simp [HE.out]; done)), grows⟩
   ·rw [if_neg h1] at hR
    by_cases h2 : Tj.arity n.op = 0
    ·rw [if_pos h2] at hR
     have HE := Lh hR
     have H2 := Lh h2
     clear hR h1 h2
     go_enter Tryz.func137, Tryz.ntmps137
     go_wp2_with fail
     refine (arity_any _ _).mono ?_
     rintro e wa ⟨rfl, rfl⟩
     rw [H2.out]
     go_wp2_with fail
     refine wp_region_later (W := (w.alloc (.cells (Yq3 F a1 m1 a2 m2 a3 m3 a4 m4 a5 m5 a6 m6 a7 m7 n7 a8 m8 pa pc ps.length) 165))) (by kernel_rfl) (by kernel_rfl) grows ?_
     repeat (go_big_quiet_step (first | (go_at_call 148; exact Rets.later_at (HPR.out n _ grows)) | fail))
     refine wpQuiet_nil ?_
     intro w3 hxw3
     have sw3 := Sm hxw3
     go_wp2_with fail
     go_ret3
     exact ⟨ret_three' (by first | (rw [HE.out]; done) | (rw [HE.out]; rfl; done) | (simp [HE.out]; done)) (by first | (rw [HE.out]; done) | (rw [HE.out]; rfl; done) | (simp [HE.out]; done)) (by first | (rw [HE.out]; done) | (rw [HE.out]; rfl; done) | (simp [HE.out]; done)), grows⟩
    ·rw [if_neg h2] at hR
     obtain ⟨k, hk, k1, k3⟩ : ∃ k : Nat, Tj.arity n.op = k ∧ 1 ≤ k ∧ k ≤ 3 := by
      rcases Tj.arity_cases n.op with h | h | h | h | h
      ·omega
      ·omega
      ·exact ⟨1, by omega, by omega, by omega⟩
      ·exact ⟨2, by omega, by omega, by omega⟩
      ·exact ⟨3, by omega, by omega, by omega⟩
     rw [hk, Int.toNat_natCast] at hR
     have HK := Lh hk
     have e1 : decide ((k : Int) < 0) = false := dF (by omega)
     have e2 : ((k : Int) == 0) = false := bF (by omega)
     clear h1 h2 hk
     have HE := Lh hR
     clear hR
     go_enter Tryz.func137, Tryz.ntmps137
     go_wp2_with fail
     refine (arity_any _ _).mono ?_
     rintro e wa ⟨rfl, rfl⟩
     rw [HK.out]
     go_wp2_with fail
     go_loopw [7, 44] (fun nx c wr => ∃ i : Nat, i ≤ k ∧ c = .int .i64 i ∧ ∃ x : Nat, nx = .int .i64 x ∧ x ≤ l.length + 1 ∧ Hid ((Tj.subs (Tj.sub F.P ps l m) i (q + 1)).2.2 = 0 ∧ x = (Tj.subs (Tj.sub F.P ps l m) i (q + 1)).2.1 ∧ Ext w wr ∧ Ext (w.alloc (.cells (Yq3 F a1 m1 a2 m2 a3 m3 a4 m4 a5 m5 a6 m6 a7 m7 n7 a8 m8 pa pc ps.length) 165)) wr ∧ wr.heap[w.heap.size + 1]? = some (.cells (Tj.ar3 (Tj.subs (Tj.sub F.P ps l m) i (q + 1)).1) 243 (0, 0)))) (fun _ c _ => k - (intOf c).toNat)
     case atStart => exact ⟨0, Nat.zero_le _, rfl, q + 1, by go_num, by omega, Lh ⟨rfl, rfl, grows, grows, by have h := aH (w.alloc (.cells (Yq3 F a1 m1 a2 m2 a3 m3 a4 m4 a5 m5 a6 m6 a7 m7 n7 a8 m8 pa pc ps.length) 165)) (.cells #[.int .i64 0, .int .i64 0, .int .i64 0] 243); rw [szA] at h; exact h⟩⟩
     case round =>
      obtain ⟨i, hi, rfl, x, rfl, hx1, HR⟩ := hrel
      obtain ⟨hz, hxe, hew, hew1, hcell⟩ := HR.out
      have hge := Tj.subs_ge (fun p hp => Tj.sub_gt m p hp) hz
      have hwl := Tj.subs_len hz
      rw [← hxe] at hge
      have swr : Step (w.alloc (.cells (Yq3 F a1 m1 a2 m2 a3 m3 a4 m4 a5 m5 a6 m6 a7 m7 n7 a8 m8 pa pc ps.length) 165)) wr := Sm hew1
      have HC := Lh (HIH.out x (by omega) wr (hx.trans hew))
      have HX0 := Lh (hx.trans hew)
      have HWR := Lh hew
      have HZ := Lh hz
      have HXE := Lh hxe
      have hall := Tj.subs_all (Q := fun y => 1 ≤ y ∧ y ≤ 32) (fun p hp => Tj.sub_wd m p hp) hz
      obtain ⟨ws, hws⟩ : ∃ z, z = (Tj.subs (Tj.sub F.P ps l m) i (q + 1)).1 := ⟨_, rfl⟩
      rw [← hws] at hcell hwl hall
      have HWS := Lh hws
      have HAL := Lh hall
      clear HR hz hxe hew hew1 hws hx hall
      by_cases hik : i < k
      ·have hi3 : i < 3 := by omega
       have z1 : decide ((i : Int) < (k : Int)) = true := dTt (by omega)
       obtain ⟨r, hr⟩ : ∃ z, z = Tj.sub F.P ps l m x := ⟨_, rfl⟩
       rw [← hr] at HC
       have HRR := Lh hr
       obtain ⟨r1, r2, r3⟩ := r
       dsimp only at HC
       clear hr
       by_cases h0 : r3 = 0
       ·subst h0
        go_wp2_with fail
        refine HC.out.mono ?_
        rintro e w4 ⟨rfl, x4⟩
        have s4 := Sm x4
        have hc4 := alwB hcell w4
        have c4 : w4.cell? ⟨w.heap.size + 1, i, none⟩ = some (.int .i64 (ws.getD i 0)) := by
         rw [cell_of hc4]; unfold Tj.ar3
         rcases (show i = 0 ∨ i = 1 ∨ i = 2 by omega) with rfl | rfl | rfl <;> rfl
        have f4 : w4.frozen? ⟨w.heap.size + 1, i, none⟩ = false := free_of hc4
        go_wp2_with fail
        go_roundw
        case rel =>
         have hs : Tj.subs (Tj.sub F.P ps l m) (i + 1) (q + 1) = (ws ++ [r1], r2, 0) := by rw [Tj.subs_next HZ.out (by rw [← HXE.out, ← HRR.out]), ← HXE.out, ← HRR.out, ← HWS.out]
         have hle := Tj.sub_le (P := F.P) (ps := ps) (l := l) m x (by rw [← HRR.out])
         rw [← HRR.out] at hle
         dsimp only at hle
         have e := Tj.ar3_set (l := ws) (x := r1) (by omega)
         rw [hwl] at e
         exact ⟨i + 1, by omega, by go_num, r2, rfl, by omega, Lh ⟨by rw [hs], by rw [hs], (HWR.out.trans x4).setCell (by show w.heap.size ≤ w.heap.size + 1; omega) _, (swr.out.trans x4).setCell (by rw [szA]; exact Nat.le_refl _) _, by rw [setCell_heap hc4, e, hs]⟩⟩
        case measure => simp [intOf]; omega
       ·have z2 : (r3 != 0) = true := nT h0
        go_wp2_with fail
        refine HC.out.mono ?_
        rintro e w4 ⟨rfl, x4⟩
        have s4 := Sm x4
        have hc4 := alwB hcell w4
        have c4 : w4.cell? ⟨w.heap.size + 1, i, none⟩ = some (.int .i64 (ws.getD i 0)) := by
         rw [cell_of hc4]; unfold Tj.ar3
         rcases (show i = 0 ∨ i = 1 ∨ i = 2 by omega) with rfl | rfl | rfl <;> rfl
        have f4 : w4.frozen? ⟨w.heap.size + 1, i, none⟩ = false := free_of hc4
        go_wp2_with fail
        have hs : (Tj.subs (Tj.sub F.P ps l m) (i + 1) (q + 1)).2.2 = r3 := by rw [Tj.subs_bad HZ.out (by rw [← HXE.out, ← HRR.out]; exact h0), ← HXE.out, ← HRR.out]
        have hs2 := Tj.subs_err (f := Tj.sub F.P ps l m) (p := q + 1) (show i + 1 ≤ k by omega) (by rw [hs]; exact h0)
        have HE2 : R = (0, 0, r3) := by rw [HE.out, hs2, hs, if_pos h0]
        go_ret3
        exact ⟨ret_three' (by rw [HE2]) (by rw [HE2]; rfl) (by rw [HE2]), (HWR.out.trans x4).setCell (by show w.heap.size ≤ w.heap.size + 1; omega) _⟩
      ·obtain rfl : i = k := by omega
       have z1 : decide ((i : Int) < (i : Int)) = false := dF (by omega)
       have t0 : ∀ w' [Grows wr w'], w'.cell? ⟨w.heap.size + 1, 0, none⟩ = some (.int .i64 (ws.getD 0 0)) := alw (cell_of hcell)
       have t1 : ∀ w' [Grows wr w'], w'.cell? ⟨w.heap.size + 1, 1, none⟩ = some (.int .i64 (ws.getD 1 0)) := alw (cell_of hcell)
       have t2 : ∀ w' [Grows wr w'], w'.cell? ⟨w.heap.size + 1, 2, none⟩ = some (.int .i64 (ws.getD 2 0)) := alw (cell_of hcell)
       have HCB := Lh (fun w => comb_any n (ws.getD 0 0) (ws.getD 1 0) (ws.getD 2 0) (Tj.getD_bd HAL.out 0) (Tj.getD_bd HAL.out 1) w)
       have HE2 : Hid (R = ((Tj.comb n (ws.getD 0 0) (ws.getD 1 0) (ws.getD 2 0)).1, x, (Tj.comb n (ws.getD 0 0) (ws.getD 1 0) (ws.getD 2 0)).2)) := Lh (by rw [HE.out, if_neg (by simp [HZ.out]), ← HWS.out, ← HXE.out])
       obtain ⟨⟨g1, g2⟩, hg⟩ : ∃ z, z = Tj.comb n (ws.getD 0 0) (ws.getD 1 0) (ws.getD 2 0) := ⟨_, rfl⟩
       rw [← hg] at HCB HE2
       dsimp only at HCB HE2
       clear hg HE hcell
       go_wp2_with fail
       refine wp_region_later (W := wr) (by kernel_rfl) (by kernel_rfl) grows ?_
       repeat (go_big_quiet_step (first | (go_at_call 149; exact Rets.later_at (HCB.out _)) | fail))
       refine wpQuiet_nil ?_
       intro w6 hxw6
       have sw6 := Sm hxw6
       go_wp2_with fail
       go_ret3
       exact ⟨ret_three' (by rw [HE2.out]) (by rw [HE2.out]) (by rw [HE2.out]), HWR.out.trans grows⟩
  ·have HE : Hid (R = (0, 0, 3)) := Lh (by rw [hR, List.getElem?_eq_none_iff.2 (by omega)])
   have d1 : decide ((l.length : Int) ≤ (q : Int)) = true := dTt (by omega)
   clear hR hps hl
   clear hF hnm hhs hmd hrs has hts hss hct hdp
   go_enter Tryz.func137, Tryz.ntmps137
   go_wp2_with fail
   go_ret3
   exact ⟨ret_three' (by first | (rw [HE.out]; done) | (rw [HE.out]; rfl; done) | (simp [HE.out]; done)) (by first | (rw [HE.out]; done) | (rw [HE.out]; rfl; done) | (simp [HE.out]; done)) (by first | (rw [HE.out]; done) | (rw [HE.out]; rfl; done) | (simp [HE.out]; done)), grows⟩
theorem xcheck_any {W : World} {p : Pg.PV} {F : Tj.FP} (hF : Tj.IsF W p F) {pv : Value} {ps : List Hd.Fld} (hps : Hd.Flds W pv ps) {nv : Value} {l : List Tj.EN} (hl : Tj.Exp W nv l) : Calls Tryz.prog 111 #[nv, Tj.scv p pv] W (Rets W (.tuple #[.int .i64 (Tj.xchk F.P ps l).1, .int .i64 (Tj.xchk F.P ps l).2])) := by
 have HSUB : Hid (l.length ≤ 24 → ∀ w, Ext W w → Calls Tryz.prog 137 #[Tj.scv p pv, nv, .int .i64 0] w (Rets w (.tuple #[.int .i64 (Tj.sub F.P ps l (l.length + 1) 0).1, .int .i64 (Tj.sub F.P ps l (l.length + 1) 0).2.1, .int .i64 (Tj.sub F.P ps l (l.length + 1) 0).2.2]))) := Lh (fun h24 w hx => xsub_any hF hps hl h24 (l.length + 1) 0 (by omega) w hx)
 obtain ⟨a1, a2, a3, a4, a5, a6, a7, a8, m1, m2, m3, m4, m5, m6, n7, m7, m8, hf⟩ := hF.form
 obtain ⟨rfl, hnm, hhs, hmd, hrs, has, hts, hss, hct, hdp, l1, l2, l3, l4, l5, l6, l7, l8⟩ := hf
 obtain ⟨pa, pc, rfl, lp, lp'⟩ := hps.slice
 unfold maxLen at lp'
 obtain ⟨na, nc, rfl, ln, ln'⟩ := hl.slice
 unfold maxLen at ln'
 obtain ⟨R, hR⟩ : ∃ z, z = Tj.xchk F.P ps l := ⟨_, rfl⟩
 rw [← hR]
 unfold Tj.xchk at hR
 dsimp only [Tj.scv] at HSUB ⊢
 have bx := aH W (.cells (Yq3 F a1 m1 a2 m2 a3 m3 a4 m4 a5 m5 a6 m6 a7 m7 n7 a8 m8 pa pc ps.length) 165)
 have k0 := alw (cQ 0 bx)
 have k1 := alw (cQ 1 bx)
 have k2 := alw (cQ 2 bx)
 have k3 := alw (cQ 3 bx)
 have k4 := alw (cQ 4 bx)
 have k5 := alw (cQ 5 bx)
 have k6 := alw (cQ 6 bx)
 have k7 := alw (cQ 7 bx)
 have k8 := alw (cQ 8 bx)
 have k9 := alw (cQ 9 bx)
 clear bx
 clear hps hl
 clear hF hnm hhs hmd hrs has hts hss hct hdp
 by_cases h24 : 24 < l.length
 ·have HE : Hid (R = (0, 12)) := Lh (by rw [hR, if_pos h24])
  have d1 : decide ((24 : Int) < (l.length : Int)) = true := dTt (by omega)
  clear hR HSUB
  go_enter Tryz.func111, Tryz.ntmps111
  go_wp2_with fail
  go_ret2
  exact ⟨ret_two (by rw [HE.out]), grows⟩
 ·rw [if_neg h24] at hR
  have d1 : decide ((24 : Int) < (l.length : Int)) = false := dF (by omega)
  have HS := Lh (HSUB.out (by omega))
  obtain ⟨⟨r1, r2, r3⟩, hr⟩ : ∃ z, z = Tj.sub F.P ps l (l.length + 1) 0 := ⟨_, rfl⟩
  rw [← hr] at HS hR
  dsimp only at HS hR
  clear HSUB hr
  by_cases h3 : r3 = 0
  ·subst h3
   rw [if_neg (by simp)] at hR
   by_cases hlt : r2 < l.length
   ·have HE : Hid (R = (0, 4)) := Lh (by rw [hR, if_pos hlt])
    have d2 : decide ((r2 : Int) < (l.length : Int)) = true := dTt (by omega)
    clear hR
    go_enter Tryz.func111, Tryz.ntmps111
    go_wp2_with fail
    refine via (HS.out _ grows) fun w2 xw2 sw2 => ?_
    go_wp2_with fail
    go_ret2
    exact ⟨ret_two (by rw [HE.out]), grows⟩
   ·have HE : Hid (R = (r1, 0)) := Lh (by rw [hR, if_neg hlt])
    have d2 : decide ((r2 : Int) < (l.length : Int)) = false := dF (by omega)
    clear hR
    go_enter Tryz.func111, Tryz.ntmps111
    go_wp2_with fail
    refine via (HS.out _ grows) fun w2 xw2 sw2 => ?_
    go_wp2_with fail
    go_ret2
    exact ⟨ret_two (by rw [HE.out]), grows⟩
  ·have HE : Hid (R = (0, r3)) := Lh (by rw [hR, if_pos h3])
   have z1 : (r3 != 0) = true := nT h3
   clear hR h3
   go_enter Tryz.func111, Tryz.ntmps111
   go_wp2_with fail
   refine via (HS.out _ grows) fun w2 xw2 sw2 => ?_
   go_wp2_with fail
   go_ret2
   exact ⟨ret_two (by rw [HE.out]), grows⟩
end Go.Proofs.YtkiafiaodockbaaGreat
