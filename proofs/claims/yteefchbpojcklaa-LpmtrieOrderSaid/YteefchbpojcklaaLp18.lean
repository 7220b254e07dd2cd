/- Tries of prefixes: the law's step, walked. No condition. -/
import Derived.Test.YteefchbpojcklaaLp17
import Derived.Deep.RegionHeldLaw
namespace Go.Proofs.Yteefchbpojcklaa
open Go.RowKit

theorem Lp.Tr.In.typ {w : World} : ∀ {t : Lp.Tr}, t.In w → ∀ i ∈ t.blocks, ∃ c, w.heap[i]? = some (.cells c 66 (0, 0))
  | .nil, _, i, hi => by simp [Lp.Tr.blocks] at hi
  | .node b l r st x, ⟨h0, hl, hr⟩, i, hi => by
    simp only [Lp.Tr.blocks, List.mem_cons, List.mem_append] at hi
    rcases hi with rfl | hi | hi
    · exact ⟨_, h0⟩
    · exact hl.typ i hi
    · exact hr.typ i hi
/-- a trie outlives a change of a block of another type -/
theorem IsT.box {W W' : World} {g w b : Nat} {T : Lp.Tr} {c : Array Value} {t : TypeId} (h : IsT W g w T) (m : Mod (· = b) W W') (hb : W.heap[b]? = some (.cells c t (0, 0))) (h1 : t ≠ 66) (h2 : t ≠ 61) : IsT W' g w T := by
  refine ⟨m.heap h.hd (fun e => ?_), h.tr.congr (fun i hi => m.block i (h.tr.lt hi) (fun e => ?_)), h.nd, h.ne, h.lo, h.hi⟩
  · have := h.hd
    rw [e, hb] at this
    simp only [Option.some.injEq, Obj.cells.injEq] at this
    exact h2 this.2.1
  · obtain ⟨c', hc'⟩ := h.tr.typ i hi
    rw [e, hb] at hc'
    simp only [Option.some.injEq, Obj.cells.injEq] at hc'
    exact h1 hc'.2.1
/-- a block that is no node outlives a change of the tree -/
theorem Did.other {W W' : World} {g w b : Nat} {T T' : Lp.Tr} {c : Array Value} {t : TypeId} (h : Did W g w T T' W') (hT : T.In W) (hb : W.heap[b]? = some (.cells c t (0, 0))) (h1 : t ≠ 66) : W'.heap[b]? = some (.cells c t (0, 0)) := by
  refine h.md.heap hb (fun e => ?_)
  obtain ⟨c', hc'⟩ := hT.typ b e
  rw [hb] at hc'
  simp only [Option.some.injEq, Obj.cells.injEq] at hc'
  exact h1 hc'.2.1
theorem Did.own {W W' : World} {g w : Nat} {T T' : Lp.Tr} {B : Nat} {v : Value} {l : List Lp.Item} (h : Did W g w T T' W') (hT : T.In W) (ho : OwnI W B v l) : OwnI W' B v l := by
  refine ⟨ho.1, ho.2.imp id ?_⟩
  rintro ⟨q, cap, cur, h1, h2, h3, h4⟩
  exact ⟨q, cap, cur, h1, h2, h.other hT h3 (by decide), h4⟩
/-- every block that is no node is as it was -/
def Keep (W W' : World) : Prop := ∀ (b : Nat) (c : Array Value) (t : TypeId), t ≠ 66 → W.heap[b]? = some (.cells c t (0, 0)) → W'.heap[b]? = some (.cells c t (0, 0))
theorem Ext.keep {W W' : World} (h : Ext W W') : Keep W W' := fun _ _ _ _ hb => h.heap hb
theorem Did.keep {W wa w3 w6 : World} {g w q : Nat} {T T' : Lp.Tr} (x : Ext W wa) (d : Did wa g w T T' w3) (hT : T.In wa) (md : Mod (· = q) w3 w6) (hq : W.heap.size ≤ q) : Keep W w6 := fun b c t ht hb => by
  have hlt := (Array.getElem?_eq_some_iff.1 hb).1
  exact md.heap (d.other hT (x.heap hb) ht) (by omega)
/-- what a step leaves -/
def StepP (W0 W : World) (g w : Nat) (L : List Lp.Item) (e : Ending) (W' : World) : Prop :=
  ∃ (T' : Lp.Tr) (la' : Option Addr) (lc' : Nat) (L' : List Lp.Item), e = .returned (.tuple #[.agg #[.int .i64 w, .slice la' L'.length lc'], .bool true]) ∧ Ag W0 W' g w T' (.slice la' L'.length lc') L' ∧ L'.length ≤ L.length + 1 ∧ Keep W W'
set_option maxRecDepth 8000 in
set_option maxHeartbeats 4000000 in
theorem step_ins {W0 W : World} {g w : Nat} {T : Lp.Tr} {la : Option Addr} {lc : Nat} {L : List Lp.Item} (h : Ag W0 W g w T (.slice la L.length lc) L) (hl : L.length ≤ 1000) (v : Nat) (hv : v < 4294967296) (n x : Int) :
    Calls Try.prog 16 #[.pointer (some ⟨g, 0, none⟩), .agg #[.int .i64 w, .slice la L.length lc], .agg #[.int .i64 0, .int .u32 v, .int .i64 n, .int .i64 x]] W (StepP W0 W g w L) := by
  obtain ⟨_, _, he, hlc, hla⟩ := h.form
  simp only [Value.slice.injEq, true_and] at he
  obtain ⟨rfl, rfl⟩ := he
  have H := Lib.hid h
  have hinl : (Lp.insLL L w v n x).length ≤ L.length + 1 := by unfold Lp.insLL; split; (· rw [Lp.ins_len]; exact Nat.le_refl _); (· omega)
  have HINS : Hid (∀ w', Ext W w' → Calls Try.prog 12 #[.pointer (some ⟨g, 0, none⟩), .int .u32 v, .int .i64 n, .int .i64 x] w' (fun e W' => ∃ T', e = .returned (.int .i64 (Lp.insLE L w v n)) ∧ Did w' g w T T' W' ∧ Lp.items w T' 0 0 = Lp.insLL L w v n x)) := Lib.hid (fun w' hx => by
    have h1 := insert_any (h.is.ext hx) v hv n x
    refine h1.mono ?_
    rintro e W' ⟨T', rfl, h2, h3⟩
    refine ⟨T', ?_, h2, ?_⟩
    · rw [← h.eq, Lp.insLE_items]
    · rw [← h.eq]; exact Lp.insLL_items h3)
  have HI : Hid (∀ w', Ext W w' → Calls Try.prog 11 #[.agg #[.int .i64 w, .slice la L.length lc], .int .u32 v, .int .i64 n, .int .i64 x] w' (InsQ w' L w v n x)) := Lib.hid (fun w' hx => r9insert_any h.is.lo h.is.hi (own_ext h.own hx) hla hl v hv n x)
  have hlt := fun i hi => h.is.tr.lt (i := i) hi
  have b4 := alloc_heap W (.cells #[.int .i64 w, .slice la L.length lc] 32)
  have b5 := alloc_heap (W.alloc (.cells #[.int .i64 w, .slice la L.length lc] 32)) (.cells #[.int .i64 0, .int .u32 v, .int .i64 n, .int .i64 x] 25)
  have b6 := alloc_heap ((W.alloc (.cells #[.int .i64 w, .slice la L.length lc] 32)).alloc (.cells #[.int .i64 0, .int .u32 v, .int .i64 n, .int .i64 x] 25)) (.cells #[.int .i64 0, .slice none 0 0] 32)
  rw [World.size_alloc] at b5 b6
  rw [World.size_alloc] at b6
  have p40 := alw (cell_of (o := 0) b4)
  have p41 := alw (cell_of (o := 1) b4)
  have p50 := alw (cell_of (o := 0) b5)
  have p51 := alw (cell_of (o := 1) b5)
  have p52 := alw (cell_of (o := 2) b5)
  have p53 := alw (cell_of (o := 3) b5)
  have HB5 := Lib.hid b5
  have HB6 := Lib.hid b6
  have HLT := Lib.hid hlt
  clear b4 b5 b6 h hlt
  obtain ⟨eE, hE⟩ : ∃ z, z = Lp.insLE L w v n := ⟨_, rfl⟩
  obtain ⟨L1, hL1⟩ : ∃ z, z = Lp.insLL L w v n x := ⟨_, rfl⟩
  unfold InsQ at HI
  rw [← hE, ← hL1] at HI HINS
  rw [← hL1] at hinl
  clear hE hL1
  go_enter Try.func16, Try.ntmps16
  go_wp2_with fail
  refine (HI.out _ grows).mono ?_
  rintro e w1 ⟨la1, lc1, rfl, x1, o1⟩
  have s1 := Step.mk x1
  have X1 := Lib.hid x1
  have O1 := Lib.hid o1
  clear x1 o1
  go_upto_region 4 with (fail)
  have hz1 : W.heap.size + 3 ≤ w1.heap.size := by have := X1.out.le; simp only [World.size_alloc] at this; omega
  have hk8 := alloc_heap w1 (.cells #[.int .i64 w, .slice la1 L1.length lc1] 32)
  have xa : Ext w1 (w1.alloc (.cells #[.int .i64 w, .slice la1 L1.length lc1] 32)) := (Ext.refl _).alloc _
  obtain ⟨gb, hgb⟩ : ∃ z, z = w1.heap.size := ⟨_, rfl⟩
  obtain ⟨wa, hwa⟩ : ∃ z, z = w1.alloc (.cells #[.int .i64 w, .slice la1 L1.length lc1] 32) := ⟨_, rfl⟩
  rw [← hwa] at hk8 xa ⊢
  rw [← hgb] at hk8 ⊢
  have xWa : Ext W wa := (show Ext W w1 from grows).trans xa
  have XWA := Lib.hid xWa
  have K8 := Lib.hid hk8
  have K5 : Hid (wa.heap[W.heap.size + 1]? = _) := Lib.hid (xa.heap (X1.out.heap (((Ext.refl _).alloc _).heap HB5.out)))
  have K6 : Hid (wa.heap[W.heap.size + 1 + 1]? = _) := Lib.hid (xa.heap (X1.out.heap HB6.out))
  have OA := Lib.hid (own_ext O1.out xa)
  have hgn : gb ≠ W.heap.size + 1 + 1 := by omega
  have hgn2 : W.heap.size + 1 + 1 ≠ gb := by omega
  clear hgb hwa xWa xa s1 p40 p41 p50 p51 p52 p53
  have p0 : wa.cell? ⟨gb, 0, none⟩ = some (.int .i64 w) := cell_of (o := 0) hk8
  have p1 : wa.cell? ⟨gb, 1, none⟩ = some (.slice la1 L1.length lc1) := cell_of (o := 1) hk8
  have p2 : wa.cell? ⟨W.heap.size + 1, 1, none⟩ = some (.int .u32 v) := cell_of (o := 1) K5.out
  have p3 : wa.cell? ⟨W.heap.size + 1, 2, none⟩ = some (.int .i64 n) := cell_of (o := 2) K5.out
  have p4 : wa.cell? ⟨W.heap.size + 1, 3, none⟩ = some (.int .i64 x) := cell_of (o := 3) K5.out
  clear hk8
  go_region_held_law (fun w' => w'.cell? ⟨gb, 0, none⟩ = some (.int .i64 w) ∧ w'.cell? ⟨gb, 1, none⟩ = some (.slice la1 L1.length lc1) ∧ w'.cell? ⟨W.heap.size + 1, 1, none⟩ = some (.int .u32 v) ∧ w'.cell? ⟨W.heap.size + 1, 2, none⟩ = some (.int .i64 n) ∧ w'.cell? ⟨W.heap.size + 1, 3, none⟩ = some (.int .i64 x)) (go_keep) (first | (go_at_call 12; go_loud (refine (HINS.out _ (XWA.out.trans ((Ext.refl wa).drew))).mono ?_; rintro e w3 ⟨T', rfl, d3, i3⟩; have hin := (H.out.is.ext (XWA.out.trans ((Ext.refl wa).drew))).tr; have k8 := d3.other hin K8.out (by decide); have k5 := d3.other hin K5.out (by decide); have k6 := d3.other hin K6.out (by decide); have r0 : w3.cell? ⟨gb, 0, none⟩ = some (.int .i64 w) := cell_of (o := 0) k8; have r1 : w3.cell? ⟨gb, 1, none⟩ = some (.slice la1 L1.length lc1) := cell_of (o := 1) k8; have r2 : w3.cell? ⟨W.heap.size + 1, 1, none⟩ = some (.int .u32 v) := cell_of (o := 1) k5; have r3 : w3.cell? ⟨W.heap.size + 1, 2, none⟩ = some (.int .i64 n) := cell_of (o := 2) k5; have r4 : w3.cell? ⟨W.heap.size + 1, 3, none⟩ = some (.int .i64 x) := cell_of (o := 3) k5; have g0 := cell_of (o := 0) k6; have g1 := cell_of (o := 1) k6; have f0 := free_of (o := 0) k6; have f1 := free_of (o := 1) k6; have K6' := Lib.hid k6; have D3 := Lib.hid d3; have I3 := Lib.hid i3; clear hin k8 k5 k6 d3 i3)))
  obtain ⟨md, hb⟩ := set2c (.int .i64 w) (.slice la1 L1.length lc1) K6'.out
  have hin := (H.out.is.ext (XWA.out.trans ((Ext.refl wa).drew))).tr
  have iT := D3.out.is.box md K6'.out (by decide) (by decide)
  have oL := own_mod_at (D3.out.own hin (own_ext OA.out ((Ext.refl wa).drew))) md K6'.out (by decide)
  obtain ⟨x3, b3⟩ := D3.out.since ((H.out.ext.trans XWA.out).trans ((Ext.refl wa).drew)) H.out.bl
  have x6 := x3.mod md (fun q hq => by rw [hq]; have := H.out.ext.le; omega)
  have HAG : Hid (Ag W0 ((w3.setCell ⟨W.heap.size + 1 + 1, 0, none⟩ (.int .i64 w)).setCell ⟨W.heap.size + 1 + 1, 1, none⟩ (.slice la1 L1.length lc1)) g w T' (.slice la1 L1.length lc1) L1 ∧ Keep W ((w3.setCell ⟨W.heap.size + 1 + 1, 0, none⟩ (.int .i64 w)).setCell ⟨W.heap.size + 1 + 1, 1, none⟩ (.slice la1 L1.length lc1))) := Lib.hid ⟨⟨iT, b3, oL, I3.out, x6⟩, Did.keep (XWA.out.trans ((Ext.refl wa).drew)) D3.out hin md (by omega)⟩
  have HB6 := Lib.hid hb
  clear md hb hin iT oL x3 b3 x6
  go_wp2_with fail
  have hb6 := HB6.out
  have ag := HAG.out
  obtain ⟨w6, h6⟩ : ∃ z, z = (w3.setCell ⟨W.heap.size + 1 + 1, 0, none⟩ (.int .i64 w)).setCell ⟨W.heap.size + 1 + 1, 1, none⟩ (.slice la1 L1.length lc1) := ⟨_, rfl⟩
  rw [← h6] at hb6 ag ⊢
  have k0 := cell_of (o := 0) hb6
  have k1 := cell_of (o := 1) hb6
  exact bodyPost_ret (v := .tuple #[.agg #[.int .i64 w, .slice la1 L1.length lc1], .bool true]) (by simp [results, Try.results16, go_sem, k0, k1]) rfl ⟨T', la1, lc1, L1, rfl, ag.1, hinl, ag.2⟩
end Go.Proofs.Yteefchbpojcklaa
