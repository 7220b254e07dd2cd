/- Tries of prefixes: the law's step for any act, the acts read, what a round keeps. No condition. -/
import Derived.Test.YteefchbpojcklaaLp20
namespace Go.Proofs.Yteefchbpojcklaa
open Go.RowKit

structure Lp.Ac where
  d : Int
  v : Nat
  n : Int
  x : Int
def Lp.AcR (_ : World) (cs : List Value) (t : Lp.Ac) : Prop := cs = [.int .i64 t.d, .int .u32 t.v, .int .i64 t.n, .int .i64 t.x] ∧ t.v < 4294967296
theorem u32_nat {a : Int} (h : (Lit.int .u32 a).wf = true) : ∃ n : Nat, a = n ∧ n < 4294967296 := by
  have h3 : 0 ≤ a ∧ a < 4294967296 := by simp [Lit.wf, IntKind.min, IntKind.max, IntKind.bits, IntKind.signed] at h; omega
  obtain ⟨h1, h2⟩ := h3
  obtain ⟨n, rfl⟩ := Int.eq_ofNat_of_zero_le h1
  exact ⟨n, rfl, by omega⟩
set_option maxRecDepth 100000 in
theorem rd_ac {W : World} {cs : List Value} (hl : cs.length = 4) (h : Rd Try.prog W 25 cs) : ∃ t, Lp.AcR W cs t := by
  have z0 : Try.prog.cellsOf 23 = 1 := by kernel_rfl
  have z1 : Try.prog.cellsOf 3 = 1 := by kernel_rfl
  obtain ⟨_, hr⟩ := Rd.struct Try.underlying25 h
  match cs, hl with
  | [c0, c1, c2, c3], _ =>
    have r0 := hr 0 _ rfl
    have r1 := hr 1 _ rfl
    have r2 := hr 2 _ rfl
    have r3 := hr 3 _ rfl
    simp [z0, z1] at r0 r1 r2 r3
    obtain ⟨d, e0, _⟩ := Rd.int Try.underlying3 r0
    obtain ⟨v, e1, h1⟩ := Rd.int Try.underlying23 r1
    obtain ⟨n, e2, _⟩ := Rd.int Try.underlying3 r2
    obtain ⟨x, e3, _⟩ := Rd.int Try.underlying3 r3
    simp at e0 e1 e2 e3
    subst e0; subst e1; subst e2; subst e3
    obtain ⟨v', rfl, hv⟩ := u32_nat h1
    exact ⟨⟨d, v', n, x⟩, rfl, hv⟩
set_option maxRecDepth 100000 in
theorem ac_take {v : Value} {W : World} {base : Nat} {r : Reach} {H : Type} {enc : TypeId × Value → H} {d : DataW H} {ps : List MemPlace}
    (ok : Value.okWide Try.prog W r base 25 v) (h : DataW.Trod enc Try.prog W 0 (fun _ => true) true 25 v d ps) : ∃ t : Lp.Ac, v = .agg #[.int .i64 t.d, .int .u32 t.v, .int .i64 t.n, .int .i64 t.x] ∧ t.v < 4294967296 := by
  have hc : Try.prog.cellsOf 25 = 4 := by kernel_rfl
  obtain ⟨l, rfl, hl⟩ := ok_struct Try.underlying25 ok
  rw [hc] at hl
  have hrd := Rd.of h
  simp only [Value.cells, List.toList_toArray] at hrd
  obtain ⟨t, rfl, h2⟩ := rd_ac hl hrd
  exact ⟨t, rfl, h2⟩
set_option maxRecDepth 100000 in
theorem acs_take {v : Value} {W : World} {H : Type} {enc : TypeId × Value → H} {d : DataW H} {ps : List MemPlace} {base : Nat} {r : Reach} (ok : Value.okWide Try.prog W r base 22 v)
    (h : DataW.Trod enc Try.prog W 0 (fun _ => true) true 22 v d ps) : ∃ l, Rows W 4 Lp.AcR v l := by
  obtain ⟨a, n, c, rfl⟩ := Go.WideShapes.okWide_slice Try.underlying22 ok
  have hrd := Rd.of h
  simp only [Value.cells, List.toList_toArray] at hrd
  obtain ⟨u, l, h1, h2⟩ := Rd.rows (R := Lp.AcR) Try.underlying22 (show Try.prog.cellsOf 25 = 4 by kernel_rfl) (by decide) (fun row hl hr => rd_ac hl hr) hrd
  simp at h1
  subst h1
  exact ⟨l, h2⟩
theorem step_any {W0 W : World} {g w : Nat} {T : Lp.Tr} {la : Option Addr} {lc : Nat} {L : List Lp.Item} (h : Ag W0 W g w T (.slice la L.length lc) L) (hl : L.length ≤ 1000) (d : Int) (v : Nat) (hv : v < 4294967296) (n x : Int) :
    Calls Try.prog 16 #[.pointer (some ⟨g, 0, none⟩), .agg #[.int .i64 w, .slice la L.length lc], .agg #[.int .i64 d, .int .u32 v, .int .i64 n, .int .i64 x]] W (StepP W0 W g w L) := by
  by_cases h0 : d = 0
  · subst h0; exact step_ins h hl v hv n x
  · by_cases h1 : d = 1
    · subst h1; exact step_del h hl v hv n x
    · by_cases h2 : d = 2
      · subst h2; exact step_get h v hv n x
      · exact step_look h v hv d n x h0 h1 h2
theorem Ag.ext' {W0 W W' : World} {g w : Nat} {T : Lp.Tr} {sl : Value} {L : List Lp.Item} (h : Ag W0 W g w T sl L) (hx : Ext W W') : Ag W0 W' g w T sl L := ⟨h.is.ext hx, h.bl, own_ext h.own hx, h.eq, h.ext.trans hx⟩
theorem Ag.put {W0 W W' : World} {g w q : Nat} {T : Lp.Tr} {sl : Value} {L : List Lp.Item} {c : Array Value} (h : Ag W0 W g w T sl L) (md : Mod (· = q) W W') (hb : W.heap[q]? = some (.cells c 32 (0, 0))) (hq : W0.heap.size ≤ q) : Ag W0 W' g w T sl L :=
  ⟨h.is.box md hb (by decide) (by decide), h.bl, own_mod_at h.own md hb (by decide), h.eq, h.ext.mod md (fun r hr => by rw [hr]; exact hq)⟩
/-- what a round keeps: the trie and the reference in its box agree -/
def RInv (W0 : World) (g w g7 k : Nat) (W : World) : Prop :=
  ∃ (T : Lp.Tr) (la : Option Addr) (lc : Nat) (L : List Lp.Item), Ag W0 W g w T (.slice la L.length lc) L ∧ W.heap[g7]? = some (.cells #[.int .i64 w, .slice la L.length lc] 32 (0, 0)) ∧ L.length ≤ k
theorem RInv.ext {W0 W W' : World} {g w g7 k : Nat} (h : RInv W0 g w g7 k W) (hx : Ext W W') : RInv W0 g w g7 k W' := by
  obtain ⟨T, la, lc, L, h1, h2, h3⟩ := h
  exact ⟨T, la, lc, L, h1.ext' hx, hx.heap h2, h3⟩
/-- the box written anew -/
theorem RInv.put {W0 W W' : World} {g w g7 k : Nat} {T : Lp.Tr} {la : Option Addr} {lc : Nat} {L : List Lp.Item} {c : Array Value} (h : Ag W0 W g w T (.slice la L.length lc) L) (hb : W.heap[g7]? = some (.cells c 32 (0, 0))) (hg : W0.heap.size ≤ g7) (hk : L.length ≤ k)
    (md : Mod (· = g7) W W') (hb' : W'.heap[g7]? = some (.cells #[.int .i64 w, .slice la L.length lc] 32 (0, 0))) : RInv W0 g w g7 k W' :=
  ⟨T, la, lc, L, ⟨h.is.box md hb (by decide) (by decide), h.bl, own_mod_at h.own md hb (by decide), h.eq, h.ext.mod md (fun q hq => by rw [hq]; exact hg)⟩, hb', hk⟩
end Go.Proofs.Yteefchbpojcklaa
