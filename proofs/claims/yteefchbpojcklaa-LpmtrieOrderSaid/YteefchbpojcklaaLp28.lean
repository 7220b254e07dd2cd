/- Tries of prefixes: what the law Order keeps, in memory. No condition. -/
import Derived.Test.YteefchbpojcklaaLp27
namespace Go.Proofs.Yteefchbpojcklaa
open Go.RowKit

def acC (a : Lp.Ac) : List Value := [.int .i64 a.d, .int .u32 a.v, .int .i64 a.n, .int .i64 a.x]
def acsC (D : List Lp.Ac) : List Value := D.flatMap acC
theorem acsC_snoc (D : List Lp.Ac) (a : Lp.Ac) : acsC (D ++ [a]) = acsC D ++ acC a := by simp [acsC]
theorem info_act : (Try.prog.info? 25).map (fun i => (i.zero, i.size, i.bytes)) = some (some (.agg #[.int .i64 0, .int .u32 0, .int .i64 0, .int .i64 0]), 4, 32) := by kernel_rfl
theorem src_act (w : World) (a : Lp.Ac) : Src (w.alloc (.cells #[.int .i64 a.d, .int .u32 a.v, .int .i64 a.n, .int .i64 a.x] 25)) (.slice (some ⟨w.heap.size, 0, none⟩) 1 1) 4 1 (acC a) :=
  ⟨rfl, by simp [acC, Value.oneCell'], .inr ⟨_, 1, rfl, fun j u hj => by rw [add_mk, Nat.zero_add, cell_of (alloc_heap _ _)]; simpa [acC] using hj⟩⟩
/-- another tree outlives a change of the one -/
theorem IsT.side {W W' : World} {ga gb w : Nat} {Ta Ta' Tb : Lp.Tr} (h : IsT W gb w Tb) (hT : Ta.In W) (d : Did W ga w Ta Ta' W') (dis : ∀ i ∈ Tb.blocks, i ∉ Ta.blocks) : IsT W' gb w Tb ∧ ∀ i ∈ Tb.blocks, i ∉ Ta'.blocks :=
  ⟨⟨d.other hT h.hd (by decide), h.tr.congr (fun i hi => d.md.block i (h.tr.lt hi) (dis i hi)), h.nd, h.ne, h.lo, h.hi⟩, fun i hi h1 => (d.bl i h1).elim (dis i hi) (fun h2 => by have := h.tr.lt hi; omega)⟩
theorem Did.row {W W' : World} {g w : Nat} {T T' : Lp.Tr} {B n sz : Nat} {e : TypeId} {v : Value} {xs : List Value} (h : Did W g w T T' W') (hT : T.In W) (ho : W.ownsRow B e sz v n xs) (he : e ≠ 66) : W'.ownsRow B e sz v n xs := by
  refine ⟨ho.1, ho.2.imp id ?_⟩
  rintro ⟨q, cap, cur, h1, h2, h3, h4⟩
  exact ⟨q, cap, cur, h1, h2, h.other hT h3 he, h4⟩
/-- where the law Order stands: trie a agrees with the reference, trie b lies beside it, the list of the insertions done is our own -/
structure OI (W0 W : World) (ga gb g11 w : Nat) (Ta Tb : Lp.Tr) (la : Option Addr) (lc : Nat) (L : List Lp.Item) (dv : Value) (D : List Lp.Ac) : Prop where
  ag : Ag W0 W ga w Ta (.slice la L.length lc) L
  ib : IsT W gb w Tb
  bb : ∀ i ∈ Tb.blocks, W0.heap.size ≤ i
  dis : ∀ i ∈ Tb.blocks, i ∉ Ta.blocks
  bx : W.heap[g11]? = some (.cells #[.int .i64 w, .slice la L.length lc] 32 (0, 0))
  ow : W.ownsRow W0.heap.size 25 4 dv D.length (acsC D)
theorem OI.ext {W0 W W' : World} {ga gb g11 w : Nat} {Ta Tb : Lp.Tr} {la : Option Addr} {lc : Nat} {L : List Lp.Item} {dv : Value} {D : List Lp.Ac} (h : OI W0 W ga gb g11 w Ta Tb la lc L dv D) (hx : Ext W W') : OI W0 W' ga gb g11 w Ta Tb la lc L dv D :=
  ⟨h.ag.ext' hx, h.ib.ext hx, h.bb, h.dis, hx.heap h.bx, own_ext h.ow hx⟩
/-- an insertion into a, and the reference's box written anew -/
theorem OI.next {W0 wx wy wz : World} {ga gb g11 w : Nat} {Ta Ta' Tb : Lp.Tr} {la la' : Option Addr} {lc lc' : Nat} {L L' : List Lp.Item} {dv : Value} {D : List Lp.Ac} (h : OI W0 wx ga gb g11 w Ta Tb la lc L dv D) (hg : W0.heap.size ≤ g11)
    (ho : OwnI wx 0 (.slice la' L'.length lc') L') (d : Did wx ga w Ta Ta' wy) (hi : Lp.items w Ta' 0 0 = L') (md : Mod (· = g11) wy wz) (hb : wz.heap[g11]? = some (.cells #[.int .i64 w, .slice la' L'.length lc'] 32 (0, 0))) :
    OI W0 wz ga gb g11 w Ta' Tb la' lc' L' dv D := by
  have hT := h.ag.is.tr
  obtain ⟨i1, i2⟩ := h.ib.side hT d h.dis
  obtain ⟨x1, b1⟩ := d.since h.ag.ext h.ag.bl
  have hb1 := d.other hT h.bx (by decide)
  exact ⟨⟨d.is.box md hb1 (by decide) (by decide), b1, own_mod_at (d.own hT ho) md hb1 (by decide), hi, x1.mod md (fun q hq => by rw [hq]; exact hg)⟩, i1.box md hb1 (by decide) (by decide), h.bb, i2, hb, own_mod_at (d.row hT h.ow (by decide)) md hb1 (by decide)⟩
/-- a change of b -/
theorem OI.other {W0 W W' : World} {ga gb g11 w : Nat} {Ta Tb Tb' : Lp.Tr} {la : Option Addr} {lc : Nat} {L : List Lp.Item} {dv : Value} {D : List Lp.Ac} (h : OI W0 W ga gb g11 w Ta Tb la lc L dv D) (d : Did W gb w Tb Tb' W') : OI W0 W' ga gb g11 w Ta Tb' la lc L dv D := by
  have hT := h.ib.tr
  obtain ⟨i1, i2⟩ := h.ag.is.side hT d (fun i hi h2 => h.dis i h2 hi)
  obtain ⟨x1, b1⟩ := d.since h.ag.ext h.bb
  exact ⟨⟨i1, h.ag.bl, d.own hT h.ag.own, h.ag.eq, x1⟩, d.is, b1, fun i hi h2 => i2 i h2 hi, d.other hT h.bx (by decide), d.row hT h.ow (by decide)⟩
/-- an act put behind the list of those done -/
theorem OI.push {W0 W W' : World} {ga gb g11 w : Nat} {Ta Tb : Lp.Tr} {la : Option Addr} {lc : Nat} {L : List Lp.Item} {dv dv' : Value} {D : List Lp.Ac} {a : Lp.Ac} (h : OI W0 W ga gb g11 w Ta Tb la lc L dv D)
    (hg : W.grownBy W' dv.ownBlock) (ho : W'.ownsRow W0.heap.size 25 4 dv' (D.length + 1) (acsC D ++ acC a)) : OI W0 W' ga gb g11 w Ta Tb la lc L dv' (D ++ [a]) := by
  have ho' : W'.ownsRow W0.heap.size 25 4 dv' (D ++ [a]).length (acsC (D ++ [a])) := by rw [acsC_snoc, List.length_append, List.length_singleton]; exact ho
  rcases h.ow.2 with ⟨h1, _⟩ | ⟨q, cap, cur, h1, h2, h3, _⟩
  · rw [h1] at hg
    have hx : Ext W W' := grown_ext hg
    have k := h.ext hx
    exact ⟨k.ag, k.ib, k.bb, k.dis, k.bx, ho'⟩
  · rw [h1] at hg
    have md : Mod (· = q) W W' := by
      have m := grown_mod hg
      refine ⟨m.os, m.tape, m.output, m.size, fun i hi hs => m.block i hi (fun e => hs ?_)⟩
      simpa [Value.ownBlock] using e
    have hne : g11 ≠ q := fun e => by
      have := h.bx
      rw [e, h3] at this
      simp only [Option.some.injEq, Obj.cells.injEq] at this
      exact absurd this.2.1 (by decide)
    exact ⟨⟨h.ag.is.box md h3 (by decide) (by decide), h.ag.bl, own_mod_at h.ag.own md h3 (by decide), h.ag.eq, h.ag.ext.mod md (fun r hr => by rw [hr]; exact h2)⟩, h.ib.box md h3 (by decide) (by decide), h.bb, h.dis, md.heap h.bx hne, ho'⟩
end Go.Proofs.Yteefchbpojcklaa
