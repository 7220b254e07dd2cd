/- Tries of prefixes: the law's step, the other three acts, walked. No condition. -/
import Derived.Test.YteefchbpojcklaaLp18
namespace Go.Proofs.Yteefchbpojcklaa
open Go.RowKit

set_option maxRecDepth 8000 in
set_option maxHeartbeats 4000000 in
theorem step_del {W0 W : World} {g w : Nat} {T : Lp.Tr} {la : Option Addr} {lc : Nat} {L : List Lp.Item} (h : Ag W0 W g w T (.slice la L.length lc) L) (hl : L.length ≤ 1000) (v : Nat) (hv : v < 4294967296) (n x : Int) :
    Calls Try.prog 16 #[.pointer (some ⟨g, 0, none⟩), .agg #[.int .i64 w, .slice la L.length lc], .agg #[.int .i64 1, .int .u32 v, .int .i64 n, .int .i64 x]] W (StepP W0 W g w L) := by
  obtain ⟨_, _, he, hlc, hla⟩ := h.form
  simp only [Value.slice.injEq, true_and] at he
  obtain ⟨rfl, rfl⟩ := he
  have H := Lib.hid h
  have hinl : (delL L w v n).length ≤ L.length + 1 := by
    unfold delL
    split
    · rw [List.length_append, List.length_take, List.length_drop]; omega
    · omega
  have HINS : Hid (∀ w', Ext W w' → Calls Try.prog 14 #[.pointer (some ⟨g, 0, none⟩), .int .u32 v, .int .i64 n] w' (fun e W' => ∃ T', e = .returned (.bool (decide (0 ≤ Lp.fndI L w v n))) ∧ Did w' g w T T' W' ∧ Lp.items w T' 0 0 = delL L w v n)) := Lib.hid (fun w' hx => by
    have h1 := delete_any (h.is.ext hx) v hv n
    refine h1.mono ?_
    rintro e W' ⟨T', rfl, h2, h3⟩
    have h4 := delL_items h3
    rw [h.eq] at h4
    exact ⟨T', by rw [h4.2], h2, h4.1⟩)
  have HI : Hid (∀ w', Ext W w' → Calls Try.prog 30 #[.agg #[.int .i64 w, .slice la L.length lc], .int .u32 v, .int .i64 n] w' (fun e W' => ∃ la' lc', e = .returned (.tuple #[.agg #[.int .i64 w, .slice la' (delL L w v n).length lc'], .bool (decide (0 ≤ Lp.fndI L w v n))]) ∧ Ext w' W' ∧ OwnI W' 0 (.slice la' (delL L w v n).length lc') (delL L w v n))) := Lib.hid (fun w' hx => r9delete_any h.is.lo h.is.hi (own_ext h.own hx) hl v hv n)
  have hlt := fun i hi => h.is.tr.lt (i := i) hi
  have b4 := alloc_heap W (.cells #[.int .i64 w, .slice la L.length lc] 32)
  have b5 := alloc_heap (W.alloc (.cells #[.int .i64 w, .slice la L.length lc] 32)) (.cells #[.int .i64 1, .int .u32 v, .int .i64 n, .int .i64 x] 25)
  have b6 := alloc_heap ((W.alloc (.cells #[.int .i64 w, .slice la L.length lc] 32)).alloc (.cells #[.int .i64 1, .int .u32 v, .int .i64 n, .int .i64 x] 25)) (.cells #[.int .i64 0, .slice none 0 0] 32)
  rw [World.size_alloc] at b5 b6
  rw [World.size_alloc] at b6
  have p40 := alw (cell_of (o := 0) b4)
  have p41 := alw (cell_of (o := 1) b4)
  have p50 := alw (cell_of (o := 0) b5)
  have p51 := alw (cell_of (o := 1) b5)
  have p52 := alw (cell_of (o := 2) b5)
  have p53 := alw (cell_of (o := 3) b5)
  have HB5 := Lib.hid b5
  have HB6 := Lib.hid b6
  have HLT := Lib.hid hlt
  clear b4 b5 b6 h hlt
  obtain ⟨eE, hE⟩ : ∃ z, z = decide (0 ≤ Lp.fndI L w v n) := ⟨_, rfl⟩
  obtain ⟨L1, hL1⟩ : ∃ z, z = delL L w v n := ⟨_, rfl⟩
  rw [← hE, ← hL1] at HI HINS
  rw [← hL1] at hinl
  clear hE hL1
  go_enter Try.func16, Try.ntmps16
  go_wp2_with fail
  refine (HI.out _ grows).mono ?_
  rintro e w1 ⟨la1, lc1, rfl, x1, o1⟩
  have s1 := Step.mk x1
  have X1 := Lib.hid x1
  have O1 := Lib.hid o1
  clear x1 o1
  go_upto_region 7 with (fail)
  have hz1 : W.heap.size + 3 ≤ w1.heap.size := by have := X1.out.le; simp only [World.size_alloc] at this; omega
  have hk8 := alloc_heap w1 (.cells #[.int .i64 w, .slice la1 L1.length lc1] 32)
  have xa : Ext w1 (w1.alloc (.cells #[.int .i64 w, .slice la1 L1.length lc1] 32)) := (Ext.refl _).alloc _
  obtain ⟨gb, hgb⟩ : ∃ z, z = w1.heap.size := ⟨_, rfl⟩
  obtain ⟨wa, hwa⟩ : ∃ z, z = w1.alloc (.cells #[.int .i64 w, .slice la1 L1.length lc1] 32) := ⟨_, rfl⟩
  rw [← hwa] at hk8 xa ⊢
  rw [← hgb] at hk8 ⊢
  have xWa : Ext W wa := (show Ext W w1 from grows).trans xa
  have XWA := Lib.hid xWa
  have K8 := Lib.hid hk8
  have K5 : Hid (wa.heap[W.heap.size + 1]? = _) := Lib.hid (xa.heap (X1.out.heap (((Ext.refl _).alloc _).heap HB5.out)))
  have K6 : Hid (wa.heap[W.heap.size + 1 + 1]? = _) := Lib.hid (xa.heap (X1.out.heap HB6.out))
  have OA := Lib.hid (own_ext O1.out xa)
  have hgn : gb ≠ W.heap.size + 1 + 1 := by omega
  have hgn2 : W.heap.size + 1 + 1 ≠ gb := by omega
  clear hgb hwa xWa xa s1 p40 p41 p50 p51 p52 p53
  have p0 : wa.cell? ⟨gb, 0, none⟩ = some (.int .i64 w) := cell_of (o := 0) hk8
  have p1 : wa.cell? ⟨gb, 1, none⟩ = some (.slice la1 L1.length lc1) := cell_of (o := 1) hk8
  have p2 : wa.cell? ⟨W.heap.size + 1, 1, none⟩ = some (.int .u32 v) := cell_of (o := 1) K5.out
  have p3 : wa.cell? ⟨W.heap.size + 1, 2, none⟩ = some (.int .i64 n) := cell_of (o := 2) K5.out
  have p4 : wa.cell? ⟨W.heap.size + 1, 3, none⟩ = some (.int .i64 x) := cell_of (o := 3) K5.out
  clear hk8
  go_region_held_law (fun w' => w'.cell? ⟨gb, 0, none⟩ = some (.int .i64 w) ∧ w'.cell? ⟨gb, 1, none⟩ = some (.slice la1 L1.length lc1) ∧ w'.cell? ⟨W.heap.size + 1, 1, none⟩ = some (.int .u32 v) ∧ w'.cell? ⟨W.heap.size + 1, 2, none⟩ = some (.int .i64 n)) (go_keep) (first | (go_at_call 14; go_loud (refine (HINS.out _ (XWA.out.trans ((Ext.refl wa).drew))).mono ?_; rintro e w3 ⟨T', rfl, d3, i3⟩; have hin := (H.out.is.ext (XWA.out.trans ((Ext.refl wa).drew))).tr; have k8 := d3.other hin K8.out (by decide); have k5 := d3.other hin K5.out (by decide); have k6 := d3.other hin K6.out (by decide); have r0 : w3.cell? ⟨gb, 0, none⟩ = some (.int .i64 w) := cell_of (o := 0) k8; have r1 : w3.cell? ⟨gb, 1, none⟩ = some (.slice la1 L1.length lc1) := cell_of (o := 1) k8; have r2 : w3.cell? ⟨W.heap.size + 1, 1, none⟩ = some (.int .u32 v) := cell_of (o := 1) k5; have r3 : w3.cell? ⟨W.heap.size + 1, 2, none⟩ = some (.int .i64 n) := cell_of (o := 2) k5; have r4 : w3.cell? ⟨W.heap.size + 1, 3, none⟩ = some (.int .i64 x) := cell_of (o := 3) k5; have g0 := cell_of (o := 0) k6; have g1 := cell_of (o := 1) k6; have f0 := free_of (o := 0) k6; have f1 := free_of (o := 1) k6; have K6' := Lib.hid k6; have D3 := Lib.hid d3; have I3 := Lib.hid i3; clear hin k8 k5 k6 d3 i3)))
  obtain ⟨md, hb⟩ := set2c (.int .i64 w) (.slice la1 L1.length lc1) K6'.out
  have hin := (H.out.is.ext (XWA.out.trans ((Ext.refl wa).drew))).tr
  have iT := D3.out.is.box md K6'.out (by decide) (by decide)
  have oL := own_mod_at (D3.out.own hin (own_ext OA.out ((Ext.refl wa).drew))) md K6'.out (by decide)
  obtain ⟨x3, b3⟩ := D3.out.since ((H.out.ext.trans XWA.out).trans ((Ext.refl wa).drew)) H.out.bl
  have x6 := x3.mod md (fun q hq => by rw [hq]; have := H.out.ext.le; omega)
  have HAG : Hid (Ag W0 ((w3.setCell ⟨W.heap.size + 1 + 1, 0, none⟩ (.int .i64 w)).setCell ⟨W.heap.size + 1 + 1, 1, none⟩ (.slice la1 L1.length lc1)) g w T' (.slice la1 L1.length lc1) L1 ∧ Keep W ((w3.setCell ⟨W.heap.size + 1 + 1, 0, none⟩ (.int .i64 w)).setCell ⟨W.heap.size + 1 + 1, 1, none⟩ (.slice la1 L1.length lc1))) := Lib.hid ⟨⟨iT, b3, oL, I3.out, x6⟩, Did.keep (XWA.out.trans ((Ext.refl wa).drew)) D3.out hin md (by omega)⟩
  have HB6 := Lib.hid hb
  clear md hb hin iT oL x3 b3 x6
  go_wp2_with fail
  have hb6 := HB6.out
  have ag := HAG.out
  obtain ⟨w6, h6⟩ : ∃ z, z = (w3.setCell ⟨W.heap.size + 1 + 1, 0, none⟩ (.int .i64 w)).setCell ⟨W.heap.size + 1 + 1, 1, none⟩ (.slice la1 L1.length lc1) := ⟨_, rfl⟩
  rw [← h6] at hb6 ag ⊢
  have k0 := cell_of (o := 0) hb6
  have k1 := cell_of (o := 1) hb6
  exact bodyPost_ret (v := .tuple #[.agg #[.int .i64 w, .slice la1 L1.length lc1], .bool true]) (by simp [results, Try.results16, go_sem, k0, k1]) rfl ⟨T', la1, lc1, L1, rfl, ag.1, hinl, ag.2⟩
set_option maxRecDepth 8000 in
set_option maxHeartbeats 4000000 in
theorem step_get {W0 W : World} {g w : Nat} {T : Lp.Tr} {la : Option Addr} {lc : Nat} {L : List Lp.Item} (h : Ag W0 W g w T (.slice la L.length lc) L) (v : Nat) (hv : v < 4294967296) (n x : Int) :
    Calls Try.prog 16 #[.pointer (some ⟨g, 0, none⟩), .agg #[.int .i64 w, .slice la L.length lc], .agg #[.int .i64 2, .int .u32 v, .int .i64 n, .int .i64 x]] W (StepP W0 W g w L) := by
  have H := Lib.hid h
  have HR : Hid (∀ w', Ext W w' → Calls Try.prog 13 #[.agg #[.int .i64 w, .slice la L.length lc], .int .u32 v, .int .i64 n] w' (Rets w' (.tuple #[.int .i64 (Lp.gv (Lp.getL L w v n)), .bool (Lp.getL L w v n).isSome]))) := Lib.hid (fun w' hx => r9get_any h.is.lo h.is.hi (items_ext h.own.rows hx) v hv n)
  have HG : Hid (∀ w', Ext W w' → Calls Try.prog 31 #[.pointer (some ⟨g, 0, none⟩), .int .u32 v, .int .i64 n] w' (Rets w' (.tuple #[.int .i64 (Lp.gv (Lp.getL L w v n)), .bool (Lp.getL L w v n).isSome]))) := Lib.hid (fun w' hx => by have h1 := get_any (h.is.ext hx) v hv n; rw [← Lp.getL_items, h.eq] at h1; exact h1)
  obtain ⟨o, ho⟩ : ∃ z, z = Lp.gv (Lp.getL L w v n) := ⟨_, rfl⟩
  obtain ⟨k, hk⟩ : ∃ z, z = (Lp.getL L w v n).isSome := ⟨_, rfl⟩
  rw [← ho, ← hk] at HR HG
  clear ho hk
  have b4 := alloc_heap W (.cells #[.int .i64 w, .slice la L.length lc] 32)
  have b5 := alloc_heap (W.alloc (.cells #[.int .i64 w, .slice la L.length lc] 32)) (.cells #[.int .i64 2, .int .u32 v, .int .i64 n, .int .i64 x] 25)
  have b6 := alloc_heap ((W.alloc (.cells #[.int .i64 w, .slice la L.length lc] 32)).alloc (.cells #[.int .i64 2, .int .u32 v, .int .i64 n, .int .i64 x] 25)) (.cells #[.int .i64 0, .slice none 0 0] 32)
  rw [World.size_alloc] at b5 b6
  rw [World.size_alloc] at b6
  have p40 := alw (cell_of (o := 0) b4)
  have p41 := alw (cell_of (o := 1) b4)
  have p50 := alw (cell_of (o := 0) b5)
  have p51 := alw (cell_of (o := 1) b5)
  have p52 := alw (cell_of (o := 2) b5)
  have p53 := alw (cell_of (o := 3) b5)
  have p60 := alw (cell_of (o := 0) b6)
  have p61 := alw (cell_of (o := 1) b6)
  have f60 := alwF (o := 0) b6
  have f61 := alwF (o := 1) b6
  have HB6 := Lib.hid b6
  clear b4 b5 b6
  clear h
  go_enter Try.func16, Try.ntmps16
  go_wp2_with fail
  refine (HR.out _ grows).mono ?_
  rintro e w1 ⟨rfl, x1⟩
  have s1 := Step.mk x1
  clear x1
  go_wp2_with fail
  refine (HG.out _ grows).mono ?_
  rintro e w2 ⟨rfl, x2⟩
  have s2 := Step.mk x2
  clear x2
  have k6 : w2.heap[W.heap.size + 1 + 1]? = _ := Ext.heap (show Ext _ w2 from grows) HB6.out
  have xW2 : Ext W w2 := grows
  obtain ⟨md, hb⟩ := set2c (.int .i64 w) (.slice la L.length lc) k6
  have x6 := xW2.mod md (fun q hq => by rw [hq]; omega)
  have HAG : Hid (Ag W0 ((w2.setCell ⟨W.heap.size + 1 + 1, 0, none⟩ (.int .i64 w)).setCell ⟨W.heap.size + 1 + 1, 1, none⟩ (.slice la L.length lc)) g w T (.slice la L.length lc) L ∧ Keep W ((w2.setCell ⟨W.heap.size + 1 + 1, 0, none⟩ (.int .i64 w)).setCell ⟨W.heap.size + 1 + 1, 1, none⟩ (.slice la L.length lc))) := Lib.hid ⟨⟨H.out.is.ext x6, H.out.bl, own_ext H.out.own x6, H.out.eq, H.out.ext.trans x6⟩, x6.keep⟩
  have HB := Lib.hid hb
  clear md hb x6 k6 xW2
  go_wp2_with fail
  have hb6 := HB.out
  have ag := HAG.out
  obtain ⟨w6, h6⟩ : ∃ z, z = (w2.setCell ⟨W.heap.size + 1 + 1, 0, none⟩ (.int .i64 w)).setCell ⟨W.heap.size + 1 + 1, 1, none⟩ (.slice la L.length lc) := ⟨_, rfl⟩
  rw [← h6] at hb6 ag ⊢
  have k0 := cell_of (o := 0) hb6
  have k1 := cell_of (o := 1) hb6
  exact bodyPost_ret (v := .tuple #[.agg #[.int .i64 w, .slice la L.length lc], .bool true]) (by simp [results, Try.results16, go_sem, k0, k1]) rfl ⟨T, la, lc, L, rfl, ag.1, by omega, ag.2⟩
set_option maxRecDepth 8000 in
set_option maxHeartbeats 4000000 in
theorem step_look {W0 W : World} {g w : Nat} {T : Lp.Tr} {la : Option Addr} {lc : Nat} {L : List Lp.Item} (h : Ag W0 W g w T (.slice la L.length lc) L) (v : Nat) (hv : v < 4294967296) (d n x : Int) (hd0 : d ≠ 0) (hd1 : d ≠ 1) (hd2 : d ≠ 2) :
    Calls Try.prog 16 #[.pointer (some ⟨g, 0, none⟩), .agg #[.int .i64 w, .slice la L.length lc], .agg #[.int .i64 d, .int .u32 v, .int .i64 n, .int .i64 x]] W (StepP W0 W g w L) := by
  have H := Lib.hid h
  have HR : Hid (∀ w', Ext W w' → Calls Try.prog 32 #[.agg #[.int .i64 w, .slice la L.length lc], .int .u32 v] w' (Rets w' (.tuple #[.int .i64 (Lp.lkA (Lp.lkL L w v (w + 1))), .int .i64 (Lp.lkN (Lp.lkL L w v (w + 1))), .bool (Lp.lkL L w v (w + 1)).isSome]))) := Lib.hid (fun w' hx => r9lookup_any h.is.lo h.is.hi (items_ext h.own.rows hx) v hv)
  have HG : Hid (∀ w', Ext W w' → Calls Try.prog 19 #[.pointer (some ⟨g, 0, none⟩), .int .u32 v] w' (Rets w' (.tuple #[.int .i64 (Lp.lkA (Lp.lkL L w v (w + 1))), .int .i64 (Lp.lkN (Lp.lkL L w v (w + 1))), .bool (Lp.lkL L w v (w + 1)).isSome]))) := Lib.hid (fun w' hx => by have h1 := lookup_any (h.is.ext hx) v hv; rw [← Lp.look_items, h.eq] at h1; exact h1)
  obtain ⟨o, ho⟩ : ∃ z, z = Lp.lkA (Lp.lkL L w v (w + 1)) := ⟨_, rfl⟩
  obtain ⟨o2, ho2⟩ : ∃ z : Int, z = (Lp.lkN (Lp.lkL L w v (w + 1)) : Nat) := ⟨_, rfl⟩
  obtain ⟨k, hk⟩ : ∃ z, z = (Lp.lkL L w v (w + 1)).isSome := ⟨_, rfl⟩
  rw [← ho, ← ho2, ← hk] at HR HG
  have z0 : (d == 0) = false := beq_eq_false_iff_ne.2 hd0
  have z1 : (d == 1) = false := beq_eq_false_iff_ne.2 hd1
  have z2 : (d == 2) = false := beq_eq_false_iff_ne.2 hd2
  clear ho ho2 hk hd0 hd1 hd2
  have b4 := alloc_heap W (.cells #[.int .i64 w, .slice la L.length lc] 32)
  have b5 := alloc_heap (W.alloc (.cells #[.int .i64 w, .slice la L.length lc] 32)) (.cells #[.int .i64 d, .int .u32 v, .int .i64 n, .int .i64 x] 25)
  have b6 := alloc_heap ((W.alloc (.cells #[.int .i64 w, .slice la L.length lc] 32)).alloc (.cells #[.int .i64 d, .int .u32 v, .int .i64 n, .int .i64 x] 25)) (.cells #[.int .i64 0, .slice none 0 0] 32)
  rw [World.size_alloc] at b5 b6
  rw [World.size_alloc] at b6
  have p40 := alw (cell_of (o := 0) b4)
  have p41 := alw (cell_of (o := 1) b4)
  have p50 := alw (cell_of (o := 0) b5)
  have p51 := alw (cell_of (o := 1) b5)
  have p52 := alw (cell_of (o := 2) b5)
  have p53 := alw (cell_of (o := 3) b5)
  have p60 := alw (cell_of (o := 0) b6)
  have p61 := alw (cell_of (o := 1) b6)
  have f60 := alwF (o := 0) b6
  have f61 := alwF (o := 1) b6
  have HB6 := Lib.hid b6
  clear b4 b5 b6
  clear h
  go_enter Try.func16, Try.ntmps16
  go_wp2_with fail
  refine (HR.out _ grows).mono ?_
  rintro e w1 ⟨rfl, x1⟩
  have s1 := Step.mk x1
  clear x1
  go_wp2_with fail
  refine (HG.out _ grows).mono ?_
  rintro e w2 ⟨rfl, x2⟩
  have s2 := Step.mk x2
  clear x2
  have k6 : w2.heap[W.heap.size + 1 + 1]? = _ := Ext.heap (show Ext _ w2 from grows) HB6.out
  have xW2 : Ext W w2 := grows
  obtain ⟨md, hb⟩ := set2c (.int .i64 w) (.slice la L.length lc) k6
  have x6 := xW2.mod md (fun q hq => by rw [hq]; omega)
  have HAG : Hid (Ag W0 ((w2.setCell ⟨W.heap.size + 1 + 1, 0, none⟩ (.int .i64 w)).setCell ⟨W.heap.size + 1 + 1, 1, none⟩ (.slice la L.length lc)) g w T (.slice la L.length lc) L ∧ Keep W ((w2.setCell ⟨W.heap.size + 1 + 1, 0, none⟩ (.int .i64 w)).setCell ⟨W.heap.size + 1 + 1, 1, none⟩ (.slice la L.length lc))) := Lib.hid ⟨⟨H.out.is.ext x6, H.out.bl, own_ext H.out.own x6, H.out.eq, H.out.ext.trans x6⟩, x6.keep⟩
  have HB := Lib.hid hb
  clear md hb x6 k6 xW2
  go_wp2_with fail
  have hb6 := HB.out
  have ag := HAG.out
  obtain ⟨w6, h6⟩ : ∃ z, z = (w2.setCell ⟨W.heap.size + 1 + 1, 0, none⟩ (.int .i64 w)).setCell ⟨W.heap.size + 1 + 1, 1, none⟩ (.slice la L.length lc) := ⟨_, rfl⟩
  rw [← h6] at hb6 ag ⊢
  have k0 := cell_of (o := 0) hb6
  have k1 := cell_of (o := 1) hb6
  exact bodyPost_ret (v := .tuple #[.agg #[.int .i64 w, .slice la L.length lc], .bool true]) (by simp [results, Try.results16, go_sem, k0, k1]) rfl ⟨T, la, lc, L, rfl, ag.1, by omega, ag.2⟩
end Go.Proofs.Yteefchbpojcklaa
