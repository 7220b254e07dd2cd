/- The initial configuration: EmptyConfig, walked. The operations of a store: what they do, plainly. Indexes of a store, in memory; reindex, walked. A store in memory; load, walked. No condition. -/
import Derived.Test.YthmokhkkdgnbhaaGreatJqAL
set_option maxRecDepth 8000
set_option maxHeartbeats 16000000
namespace Go.Proofs.YthmokhkkdgnbhaaGreat
open Go.RowKit
/-- a store into one cell; the new world's equation comes hidden -/
theorem wpList_store_cellH {P : Program} {ops : Array Oper} {rest : List Oper} {o : Oper} {a : Act} {w : World} {Q : Exit → Act → World → Prop} (hgd : o.guard = none) (ty : TypeId) (x y : Operand) (ho : o.op = .store ty x y)
 (b k : Nat) (old v : Value) (hx : a.eval x = .pointer (some ⟨b, k, none⟩)) (hy : a.eval y = v) (hi : (P.info? ty).map (·.size) = some 1) (h1 : v.oneCell' = true) (hc : w.cell? ⟨b, k, none⟩ = some old) (hf : w.frozen? ⟨b, k, none⟩ = false)
 (h : ∀ w', Hid (w' = w.setCell ⟨b, k, none⟩ v) → wpList P ops Q rest (a.put o.dst undef) w') : wpList P ops Q (o :: rest) a w :=
 wpList_store_cell hgd ty x y ho b k old v hx hy hi h1 hc hf (fun w' hw => h w' (Lh hw))
namespace Tj
/-- the initial configuration of a program -/
def empty (F : FP) : Cfg := ⟨F.ts.map (fun _ => []), F.ts.map (fun _ => 1), F.ts.map (·.df), Rg.new F.rs⟩
theorem Kp.setCell {Ts : List TypeId} {w : World} {g o : Nat} {v : Value} {c : Array Value} {t0 : TypeId} {f0 : Nat × Nat} (hg : w.heap[g]? = some (.cells c t0 f0)) (h0 : t0 ∉ Ts) : Kp Ts w (w.setCell ⟨g, o, none⟩ v) :=
 Kp.box (g := g) (Mod.setCell (S := fun k => k = g) (p := ⟨g, o, none⟩) (Mod.refl _ _) (.inl rfl) _) hg h0
theorem heap_set {w : World} {g b o : Nat} {v : Value} {ob : Obj} (h : w.heap[b]? = some ob) (hne : b ≠ g) : (w.setCell ⟨g, o, none⟩ v).heap[b]? = some ob :=
 (Mod.setCell (S := fun k => k = g) (p := ⟨g, o, none⟩) (Mod.refl _ w) (.inl rfl) v).heap h hne
/-- a configuration that stays while no block of its kinds is changed -/
def CfgS (w : World) (v : Value) (C : Cfg) : Prop := ∀ w', Kp CfT w w' → CfgV w' v C
theorem CfgS.now {w : World} {v : Value} {C : Cfg} (h : CfgS w v C) : CfgV w v C := h w (Kp.refl _ _)
theorem CfgS.kp {w w' : World} {v : Value} {C : Cfg} (h : CfgS w v C) (k : Kp CfT w w') : CfgS w' v C := fun w2 h2 => h w2 (k.trans h2)
theorem CfgS.ext {w w' : World} {v : Value} {C : Cfg} (h : CfgS w v C) (k : Ext w w') : CfgS w' v C := h.kp (Kp.ext k)
theorem CfgO.cfgS {B : Nat} {w : World} {v0 v1 v2 v3 : Value} {vs : List Value} {C : Cfg} (h : CfgO B w v0 v1 v2 v3 vs C) : CfgS w (.agg #[v0, v1, v2, v3]) C := fun _ k => (h.kp k).cfg
end Tj
theorem tab_kp {Ts : List TypeId} {B : Nat} {w w' : World} {v : Value} {vs : List Value} {ls : List (List Int)} (h : Tab B w v vs ls) (k : Kp Ts w w') (h1 : 61 ∈ Ts) (h2 : 118 ∈ Ts) : Tab B w' v vs ls := by
 obtain ⟨a, b, c, d⟩ := h
 exact ⟨a, own_kp b k h1, fun i u l p q => ⟨own_kp (c i u l p q).1 k h2, (c i u l p q).2⟩, d⟩
abbrev Yq17 (x : Tj.Tab) (ka : Option Addr) (kc : Nat) (aa : Option Addr) (cc : Nat) (ga : Option Addr) (gc : Nat) : Array Value := #[.string x.nm, .slice ka x.ks.length kc, .slice aa x.ac.length cc, .int .i64 x.df.a, .slice ga x.df.ar.length gc, .int .i64 x.sz]
theorem emptyc_any {W : World} {p : Pg.PV} {F : Tj.FP} (hF : Tj.IsF W p F) (hrl : F.rs.length ≤ 8) (htl : F.ts.length ≤ 1073741824) (hdf : ∀ t ∈ F.ts, t.df.ar.length ≤ 1073741824) : Calls Tryz.prog 18 #[p.val] W (fun e w' => ∃ v, e = .returned v ∧ Ext W w' ∧ Tj.CfgS w' v (Tj.empty F)) := by
 obtain ⟨a1, a2, a3, a4, a5, a6, a7, a8, m1, m2, m3, m4, m5, m6, n7, m7, m8, hf⟩ := hF.form
 obtain ⟨rfl, hnm, hhs, hmd, hrs, has, hts, hss, hct, hdp, l1, l2, l3, l4, l5, l6, l7, l8⟩ := hf
 have HNW : Hid (∀ w, Ext W w → Calls Tryz.prog 58 #[.agg (Yq0 F a1 m1 a2 m2 a3 m3 a4 m4 a5 m5 a6 m6 a7 m7 n7 a8 m8)] w (TabP w (Rg.new F.rs))) := Lh (fun w hx => new_any (Rows.ext hrs (fun _ _ h => Rg.RegR.ext h hx) hx) hrl)
 have HB6 : Hid (∀ x ∈ F.ts, Tj.B64 x.df.a) := Lh (fun x hx => by
  obtain ⟨i, hi⟩ := List.getElem?_of_mem hx
  rcases hts with ⟨_, h0⟩ | ⟨ad, c, _, _, _, _, h4⟩
  ·rw [h0] at hx; simp at hx
  ·obtain ⟨cs, _, ⟨_, _, _, _, _, h6, _⟩, _⟩ := h4 i x hi; exact h6.1)
 have HDF := Lh hdf
 have HTS := Lh hts
 dsimp only [Pg.PV.val]
 have bx := aH W (.cells (Yq0 F a1 m1 a2 m2 a3 m3 a4 m4 a5 m5 a6 m6 a7 m7 n7 a8 m8) 31)
 have k0 := alw (cQ 0 bx)
 have k1 := alw (cQ 1 bx)
 have k2 := alw (cQ 2 bx)
 have k3 := alw (cQ 3 bx)
 have k4 := alw (cQ 4 bx)
 have k5 := alw (cQ 5 bx)
 have k6 := alw (cQ 6 bx)
 have k7 := alw (cQ 7 bx)
 have k8 := alw (cQ 8 bx)
 clear bx
 clear hF hnm hhs hmd hrs has hts hss hct hdp hdf
 go_enter Tryz.func18, Tryz.ntmps18
 go_wp2_with fail
 refine (HNW.out _ grows).mono ?_
 rintro e w3 ⟨v3, vs3, rfl, x3, htab⟩
 have s3 := Sm x3
 have XW3 := Lh (grows (a := W) (b := w3))
 have hrg : Rows w3 1 RowR v3 (Rg.new F.rs) := htab.rows
 obtain ⟨ra, rc, rfl, _⟩ := hrg.slice
 have HTB := Lh htab
 clear x3 htab hrg
 go_wp2_with fail
 go_loopw [12] (fun q wr => ∃ k : Nat, k ≤ F.ts.length ∧ q = .int .i64 k ∧ ∃ va vc vb vd ve vf, Hid (Ext w3 wr ∧ wr.heap[w3.heap.size]? = some (.cells #[.slice va k vc, .slice vb k vd, .slice ve k vf, .slice ra (Rg.new F.rs).length rc] 45 (0, 0)) ∧ wr.ownsRow w3.heap.size 68 1 (.slice va k vc) k (List.replicate k (.slice none 0 0)) ∧ wr.ownsRow w3.heap.size 3 1 (.slice vb k vd) k (List.replicate k (.int .i64 1)) ∧
  ∃ css, Tj.OLc w3.heap.size 63 2 (Tj.CallO w3.heap.size) wr (.slice ve k vf) ((F.ts.map (·.df)).take k) css)) (fun q _ => F.ts.length - (intOf q).toNat)
 case atStart => exact ⟨0, Nat.zero_le _, rfl, none, 0, none, 0, none, 0, Lh ⟨grows, aH _ _, World.ownsRow_nil _ _ _ _, World.ownsRow_nil _ _ _ _, _, Tj.OLc.start _ _ _ _ _⟩⟩
 case round =>
  obtain ⟨k, hk, rfl, va, vc, vb, vd, ve, vf, HZ⟩ := hrel
  obtain ⟨xr, hbd, o0, o1, css, o2⟩ := HZ.out
  have HBD := Lh hbd
  have XR := Lh xr
  have O0 := Lh o0
  have O1 := Lh o1
  have O2 := Lh o2
  have sx := Sm xr
  clear xr hbd o0 o1 o2 HZ
  by_cases hlt : k < F.ts.length
  ·obtain ⟨x, hx⟩ : ∃ x, F.ts[k]? = some x := ⟨_, gE hlt⟩
   obtain ⟨b, o, rfl, _, _⟩ := Rows.at HTS.out (by omega)
   obtain ⟨ka, kc, aa, cc, ga, gc, _, _, _, _, hua, g0, g1, g2, g3, g4, g5⟩ := tabs_at HTS.out k x hx rfl
   have HCR : Hid (∀ w, Ext w3 w → Calls Tryz.prog 59 #[.agg #[.int .i64 x.df.a, .slice ga x.df.ar.length gc]] w (Tj.OwnP w Tj.CallO x.df)) := Lh (fun w hw => ccall_own (cs := [.int .i64 x.df.a, .slice ga x.df.ar.length gc]) ⟨_, rfl, (HB6.out x (List.mem_of_getElem? hx)), hua.ext (XW3.out.trans hw)⟩ (HDF.out x (List.mem_of_getElem? hx)))
   have y0 := alw g0
   have y1 := alw g1
   have y2 := alw g2
   have y3 := alw g3
   have y4 := alw g4
   have y5 := alw g5
   have HTK : Hid ((F.ts.map (·.df)).take (k + 1) = (F.ts.map (·.df)).take k ++ [x.df]) := Lh (take_succ_get (by rw [List.getElem?_map, hx]; rfl))
   have hle := XR.out.le
   have hbl := lt_of_block HBD.out
   have n0 := alw (cQ 0 HBD.out)
   clear hx hua g0 g1 g2 g3 g4 g5
   have HBX := Lh (aH wr (.cells (Yq17 x ka kc aa cc ga gc) 108))
   have hs0 := src_one (wr.alloc (.cells (Yq17 x ka kc aa cc ga gc) 108)) (.slice none 0 0) 68 rfl
   rw [szA] at hs0
   have HS0 := Lh hs0
   clear hs0
   have HO0 := Lh (own_now O0.out (w := ((wr.alloc (.cells (Yq17 x ka kc aa cc ga gc) 108)).alloc (.cells #[.slice none 0 0] 68))))
   go_wp2_with (at_builtin; refine wpList_append_fresh rfl (.tmp 17) (.tmp 18) 41 rfl w3.heap.size 68 (.slice none 0 0) 1 24 Tryz.underlying41 cinf_Rows rfl (by decide) (.slice va k vc) (k) ((List.replicate k (.slice none 0 0))) rfl HO0.out _ 1 [.slice none 0 0] rfl HS0.out ?d1 ?d2 ?d3 ?_)
   case d1 => unfold maxLen; omega
   case d2 => omega
   case d3 => (try simp only [szA]); omega
   intro v' w4 hown hgr hfr
   obtain ⟨o3, c3, rfl⟩ := own_slice hown
   have hb4 := grown_at hgr HO0.out ((grows (a := wr) (b := ((wr.alloc (.cells (Yq17 x ka kc aa cc ga gc) 108)).alloc (.cells #[.slice none 0 0] 68)))).heap HBD.out) (by decide)
   have hx4 := grown_at hgr HO0.out ((grows (a := (wr.alloc (.cells (Yq17 x ka kc aa cc ga gc) 108))) (b := ((wr.alloc (.cells (Yq17 x ka kc aa cc ga gc) 108)).alloc (.cells #[.slice none 0 0] 68)))).heap HBX.out) (by decide)
   have k4 : Kp [3, 63, 118, 209] wr w4 := (Kp.ext (grows (a := wr) (b := ((wr.alloc (.cells (Yq17 x ka kc aa cc ga gc) 108)).alloc (.cells #[.slice none 0 0] 68))))).trans (Kp.grown hgr HO0.out (by decide))
   have xx4 := (XR.out.trans (grows (a := wr) (b := ((wr.alloc (.cells (Yq17 x ka kc aa cc ga gc) 108)).alloc (.cells #[.slice none 0 0] 68))))).mod (grown_mod hgr) (fun q hq => row_ge HO0.out hq.symm)
   have hs4 : wr.heap.size < w4.heap.size := by have := (grown_mod hgr).size; simp only [szA] at this; omega
   have HB4 := Lh hb4
   have c40 := cQ 0 hb4
   have f40 := free_of (o := 0) hb4
   have HX4 := Lh hx4
   have K4 := Lh k4
   have XX4 := Lh xx4
   have HO4 := Lh hown
   clear hgr hfr hown hb4 hx4 k4 xx4
   go_wp2_with (refine wpList_store_cellH rfl 41 (.tmp 20) (.tmp 19) rfl w3.heap.size 0 (.slice va k vc) (.slice o3 (k + 1) c3) rfl rfl (by kernel_rfl) rfl c40 f40 ?_)
   intro w5 hw5
   have hw5 := hw5.out
   have HB5 : Hid (w5.heap[w3.heap.size]? = some (.cells #[.slice o3 (k + 1) c3, .slice vb k vd, .slice ve k vf, .slice ra (Rg.new F.rs).length rc] 45 (0, 0))) := Lh (by rw [hw5]; exact setCell_heap HB4.out)
   have HX5 : Hid (w5.heap[wr.heap.size]? = some (.cells (Yq17 x ka kc aa cc ga gc) 108 (0, 0))) := Lh (by rw [hw5]; exact Tj.heap_set HX4.out (by omega))
   have K5 : Hid (Kp [3, 63, 118, 209] wr w5) := Lh (K4.out.trans (by rw [hw5]; exact Tj.Kp.setCell HB4.out (by decide)))
   have X5 : Hid (Ext w3 w5) := Lh (by rw [hw5]; exact XX4.out.setCell (Nat.le_refl _) _)
   have O05 : Hid (w5.ownsRow w3.heap.size 68 1 (.slice o3 (k + 1) c3) (k + 1) (List.replicate (k + 1) (.slice none 0 0))) := Lh (by rw [List.replicate_succ', hw5]; exact own_kp (Ts := [68]) HO4.out (Tj.Kp.setCell HB4.out (by decide)) (by decide))
   have hs5 : wr.heap.size < w5.heap.size := by rw [hw5]; simpa using hs4
   clear hw5 c40 f40 n0 hs4 HB4 HX4 K4 XX4 HO4 HO0 HS0
   have sx5 := Sm X5.out
   have n1 := alw (cQ 1 HB5.out)
   have HS1 := Lh (src_one w5 (.int .i64 1) 3 rfl)
   have HO1 := Lh (own_now (own_kp O1.out K5.out (by decide)) (w := (w5.alloc (.cells #[.int .i64 1] 3))))
   have hle5 := X5.out.le
   go_wp2_with (at_builtin; refine wpList_append_fresh rfl (.tmp 22) (.tmp 23) 29 rfl w3.heap.size 3 (.int .i64 0) 1 8 Tryz.underlying29 cinf_int rfl (by decide) (.slice vb k vd) (k) ((List.replicate k (.int .i64 1))) rfl HO1.out _ 1 [.int .i64 1] rfl HS1.out ?d1 ?d2 ?d3 ?_)
   case d1 => unfold maxLen; omega
   case d2 => omega
   case d3 => (try simp only [szA]); omega
   intro v' w6 hown hgr hfr
   obtain ⟨o4, c4, rfl⟩ := own_slice hown
   have hb6 := grown_at hgr HO1.out ((grows (a := w5) (b := (w5.alloc (.cells #[.int .i64 1] 3)))).heap HB5.out) (by decide)
   have hx6 := grown_at hgr HO1.out ((grows (a := w5) (b := (w5.alloc (.cells #[.int .i64 1] 3)))).heap HX5.out) (by decide)
   have k6 : Kp [68, 63, 118, 209] w5 w6 := (Kp.ext (grows (a := w5) (b := (w5.alloc (.cells #[.int .i64 1] 3))))).trans (Kp.grown hgr HO1.out (by decide))
   have xx6 := (X5.out.trans (grows (a := w5) (b := (w5.alloc (.cells #[.int .i64 1] 3))))).mod (grown_mod hgr) (fun q hq => row_ge HO1.out hq.symm)
   have hs6 : wr.heap.size < w6.heap.size := by have := (grown_mod hgr).size; simp only [szA] at this; omega
   have HB6' := Lh hb6
   have c61 := cQ 1 hb6
   have f61 := free_of (o := 1) hb6
   have HX6 := Lh hx6
   have K6 := Lh k6
   have XX6 := Lh xx6
   have HO6 := Lh hown
   clear hgr hfr hown hb6 hx6 k6 xx6
   go_wp2_with (refine wpList_store_cellH rfl 29 (.tmp 25) (.tmp 24) rfl w3.heap.size 1 (.slice vb k vd) (.slice o4 (k + 1) c4) rfl rfl (by kernel_rfl) rfl c61 f61 ?_)
   intro w7 hw7
   have hw7 := hw7.out
   have HB7 : Hid (w7.heap[w3.heap.size]? = some (.cells #[.slice o3 (k + 1) c3, .slice o4 (k + 1) c4, .slice ve k vf, .slice ra (Rg.new F.rs).length rc] 45 (0, 0))) := Lh (by rw [hw7]; exact setCell_heap HB6'.out)
   have HX7 : Hid (w7.heap[wr.heap.size]? = some (.cells (Yq17 x ka kc aa cc ga gc) 108 (0, 0))) := Lh (by rw [hw7]; exact Tj.heap_set HX6.out (by omega))
   have K7 : Hid (Kp [68, 63, 118, 209] w5 w7) := Lh (K6.out.trans (by rw [hw7]; exact Tj.Kp.setCell HB6'.out (by decide)))
   have X7 : Hid (Ext w3 w7) := Lh (by rw [hw7]; exact XX6.out.setCell (Nat.le_refl _) _)
   have O17 : Hid (w7.ownsRow w3.heap.size 3 1 (.slice o4 (k + 1) c4) (k + 1) (List.replicate (k + 1) (.int .i64 1))) := Lh (by rw [List.replicate_succ', hw7]; exact own_kp (Ts := [3]) HO6.out (Tj.Kp.setCell HB6'.out (by decide)) (by decide))
   have O07 := Lh (own_kp O05.out K7.out (by decide))
   have O27 : Hid (Tj.OLc w3.heap.size 63 2 (Tj.CallO w3.heap.size) w7 (.slice ve k vf) ((F.ts.map (·.df)).take k) css) := Lh (by
    obtain ⟨a1, a2, a3, a4, a5⟩ := O2.out
    have hk : Kp [63, 118, 209] wr w7 := (K5.out.sub (by decide)).trans (K7.out.sub (by decide))
    exact ⟨a1, a2, a3, own_kp a4 hk (by decide), fun i cs d p q => (a5 i cs d p q).kp (hk.sub (by decide))⟩)
   clear hw7 c61 f61 n1 hs6 hs5 HB6' HX6 K6 XX6 HO6 HO1 HS1 HB5 HX5 K5 X5 O05 K7 sx5
   have sx7 := Sm X7.out
   have n2 := alw (cQ 2 HB7.out)
   have m3 := alw (cQ 3 HX7.out)
   have m4 := alw (cQ 4 HX7.out)
   have hle7 := X7.out.le
   go_upto_region 7 with (fail)
   refine Rel.region_tail (W := w7) 6 (Rel.tab [(4, fun v w => ∃ cs : List Value, v = .agg cs.toArray ∧ Tj.CallO w7.heap.size w cs x.df), (5, fun v w => ∃ (g : Nat) (cs : List Value), v = .slice (some ⟨g, 0, none⟩) 1 1 ∧ w.heap[g]? = some (.cells cs.toArray 63 (0, 0)) ∧ Tj.CallO w7.heap.size w cs x.df)]) (Rel.tab_lasts (by intro p hp v w w' hr hx; simp only [List.mem_cons, List.not_mem_nil, or_false] at hp; rcases hp with rfl | rfl; (· obtain ⟨cs, h1, h2⟩ := hr; exact ⟨cs, h1, h2.ext hx⟩); (· obtain ⟨g, cs, h1, h2, h3⟩ := hr; exact ⟨g, cs, h1, hx.heap h2, h3.ext hx⟩))) (by kernel_rfl) (by kernel_rfl) (eR _) ?_
   simp only [tkS, tkZ]
   refine Rel.chunkT 4 rfl rfl rfl ?_
   simp only [tkS, tkZ, dpS, dpZ, Nat.reduceAdd]
   repeat (go_big_quiet_step (fail))
   refine wpQuiet_nil ?_
   refine Rel.callG _ rfl rfl rfl Tryz.func59 (by nofun) (by decide) #[.agg #[.int .i64 x.df.a, .slice ga x.df.ar.length gc]] rfl (fun w hx _ => by refine (HCR.out w (X7.out.trans hx)).mono ?_; rintro e w9 ⟨cs, h1, h2, h3⟩; exact ⟨_, h1, h2, cs, rfl, h3.low hx.le⟩) ?_
   intro u3 v3 _ _ r3
   obtain ⟨cs3, rfl, ua, uc, rfl, _, _⟩ := r3
   simp only [Act.put, stA, stS, stZ]
   refine Rel.call (fun v w => ∃ (g : Nat) (cs : List Value), v = .slice (some ⟨g, 0, none⟩) 1 1 ∧ w.heap[g]? = some (.cells cs.toArray 63 (0, 0)) ∧ Tj.CallO w7.heap.size w cs x.df) rfl rfl rfl (fun w hx hf => Rel.made (v := .slice (some ⟨w.heap.size, 0, none⟩) 1 1) (ob := .cells #[.int .i64 x.df.a, .slice ua x.df.ar.length uc] 63 (0, 0)) (by kernel_rfl) (by obtain ⟨cs, h1, h2⟩ := (hf 4 (by kernel_rfl)).2 rfl; exact ⟨w.heap.size, cs, rfl, by rw [← agg_inj h1]; exact heap_alloc_new w _, h2.ext ((eR w).alloc _)⟩)) ?_
   intro u4 v4 _ _ r4
   obtain ⟨g4, cs4, rfl, _, h4⟩ := r4
   clear h4
   simp only [Act.put, stA, stS, stZ]
   refine Rel.fin ?_
   intro w8 x8 hf8
   obtain ⟨g4', cs5, e4, hg4, ho4⟩ := (hf8 5).2 rfl
   simp only [Value.slice.injEq, Option.some.injEq, Addr.mk.injEq, and_true] at e4
   subst e4
   have HO4 := Lh (ho4.low (C := w3.heap.size) hle7)
   obtain ⟨a5, c5, rfl, _, _⟩ := ho4
   have HG4 := Lh hg4
   have s8 := Sm x8
   have X8 := Lh x8
   have hle8 := x8.le
   clear hf8 hg4 x8
   have HS1 := Lh (src_at HG4.out (by simp [Value.oneCell']))
   have hl2 : ((F.ts.map (·.df)).take k).length = k := by rw [List.length_take, List.length_map]; omega
   have ho1 := own_now O27.out.2.2.2.1 (w := w8)
   rw [hl2] at ho1
   have HO1 := Lh ho1
   clear ho1 hl2
   go_wp2_with (at_builtin; refine wpList_append_fresh rfl (.tmp 27) (.tmp 31) 42 rfl w3.heap.size 63 (.agg #[.int .i64 0, .slice none 0 0]) 2 32 Tryz.underlying42 cinf_Call rfl (by decide) (.slice ve k vf) (k) (css.flatten) rfl HO1.out _ 1 [.int .i64 x.df.a, .slice a5 x.df.ar.length c5] rfl HS1.out ?d1 ?d2 ?d3 ?_)
   case d1 => unfold maxLen; omega
   case d2 => omega
   case d3 => (try simp only [szA]); omega
   intro v' w' hown hgr hfr
   obtain ⟨o5, c5', rfl⟩ := own_slice hown
   have hk8 : Kp Tj.Leaf w8 w' := Kp.grown hgr HO1.out (by decide)
   have hkp : Kp Tj.Leaf w7 w' := (Kp.ext X8.out).trans hk8
   have hb9 := grown_at hgr HO1.out (X8.out.heap HB7.out) (by decide)
   have HN := Lh (Tj.OLc.push O27.out (fun _ _ h => h.kp hkp) (by rw [List.length_take, List.length_map, Nat.min_eq_left hk]; exact hown) (HO4.out.kp hk8) rfl (by simp [Value.oneCell']))
   have HX9 := Lh ((X7.out.trans X8.out).mod (grown_mod hgr) (fun q hq => row_ge HO1.out hq.symm))
   have HKC : Hid (Kp [68, 3] w7 w') := Lh ((Kp.ext X8.out).trans (Kp.grown hgr HO1.out (by decide)))
   have HB9 := Lh hb9
   have c80 := cQ 2 hb9
   have f80 := free_of (o := 2) hb9
   clear hgr hown hfr hb9 hkp hk8
   go_wp2_with fail
   go_roundw
   case rel =>
    have hkb : Kp (Tj.CfT) w' (w'.setCell ⟨w3.heap.size, 2, none⟩ (.slice o5 (k + 1) c5')) := Tj.Kp.setCell HB9.out (by decide)
    refine ⟨k + 1, by omega, by go_num, o3, c3, o4, c4, o5, c5', Lh ⟨HX9.out.setCell (Nat.le_refl _) _, setCell_heap HB9.out, own_kp (own_kp O07.out HKC.out (by decide)) hkb (by decide), own_kp (own_kp O17.out HKC.out (by decide)) hkb (by decide), css ++ [[.int .i64 x.df.a, .slice a5 x.df.ar.length c5]], ?_⟩⟩
    rw [HTK.out]
    obtain ⟨a1, a2, a3, a4, a5⟩ := HN.out
    exact ⟨a1, a2, a3, own_kp a4 hkb (by decide), fun i cs d p q => (a5 i cs d p q).kp (hkb.sub (by decide))⟩
   case measure => simp [intOf]; omega
  ·obtain rfl : k = F.ts.length := by omega
   have hrq := alwB (aH (W.alloc (.cells (Yq0 F a1 m1 a2 m2 a3 m3 a4 m4 a5 m5 a6 m6 a7 m7 n7 a8 m8) 31)) (.cells (Yq5 ) 45)) wr
   rw [szA] at hrq
   have HRQ := Lh hrq
   have hle0 := XR.out.le
   have XWR := Lh (grows (a := W) (b := wr))
   have d0 := cQ 0 HBD.out
   have d1 := cQ 1 HBD.out
   have d2 := cQ 2 HBD.out
   have d3 := cQ 3 HBD.out
   have hmp : (F.ts.map (·.df)).take F.ts.length = F.ts.map (·.df) := by rw [List.take_of_length_le]; simp
   clear hrq
   go_wp2_with (refine wpList_store_box rfl 45 (.tmp 2) (.tmp 35) rfl (W.heap.size + 1) #[.slice va F.ts.length vc, .slice vb F.ts.length vd, .slice ve F.ts.length vf, .slice ra (Rg.new F.rs).length rc] rfl rfl 45 (Yq5 ) HRQ.out (by kernel_rfl) rfl (by simp [Value.oneCell']) ?_)
   intro wf hmf hbf
   have HMF := Lh hmf
   have q0 := cQ 0 hbf
   have q1 := cQ 1 hbf
   have q2 := cQ 2 hbf
   have q3 := cQ 3 hbf
   clear hmf hbf
   go_wp2_with fail
   refine bodyPost_ret (v := .agg #[.slice va F.ts.length vc, .slice vb F.ts.length vd, .slice ve F.ts.length vf, .slice ra (Rg.new F.rs).length rc]) (by simp [results, Tryz.results18, go_sem, q0, q1, q2, q3]) rfl ⟨_, rfl, XWR.out.mod HMF.out (fun q hq => by omega), ?_⟩
   intro w2 hk2
   have kf : Kp Tj.CfT wr w2 := (Kp.box HMF.out HRQ.out (by decide)).trans hk2
   refine ⟨_, _, _, _, rfl, ?_, ?_, ?_, ?_⟩
   ·refine rows_flat (B := w3.heap.size) (e := 68) (f := fun _ => [.slice none 0 0]) (fun _ => rfl) (fun rs hr => ?_) ?_
    ·obtain ⟨t, _, rfl⟩ := List.mem_map.1 hr
     exact ⟨_, rfl, .inl ⟨rfl, rfl⟩⟩
    ·have h := own_kp O0.out kf (by decide)
     have e1 : (Tj.empty F).rows.flatMap (fun _ => [Value.slice none 0 0]) = (List.replicate F.ts.length (Value.slice none 0 0)) := by simp [Tj.empty, List.map_const', List.flatMap_replicate, List.flatten_replicate_singleton]
     have e2 : (Tj.empty F).rows.length = F.ts.length := by simp [Tj.empty]
     rw [e1, e2]; exact h
   ·have h := own_kp O1.out kf (by decide)
    have e1 : (Tj.empty F).nx.map (Value.int .i64) = (List.replicate F.ts.length (.int .i64 1)) := by simp [Tj.empty, List.map_const']
    have e2 : (Tj.empty F).nx.length = F.ts.length := by simp [Tj.empty]
    refine ⟨⟨?_, by rw [e2]; unfold maxLen; omega⟩, fun y hy => ?_⟩
    ·rw [e1, e2]; exact own_src h (fun u hu => by rw [List.eq_of_mem_replicate hu]; rfl)
    ·obtain ⟨t, _, rfl⟩ := List.mem_map.1 hy
     constructor <;> decide
   ·have h := O2.out
    rw [hmp] at h
    obtain ⟨a1, a2, a3, a4, a5⟩ := h
    have h2 : Tj.ClsO w3.heap.size w2 (.slice ve F.ts.length vf) (F.ts.map (·.df)) := ⟨css, a1, a2, a3, own_kp a4 kf (by decide), fun i cs d p q => (a5 i cs d p q).kp (kf.sub (by decide))⟩
    exact Tj.OL.rows h2 (fun _ _ h => h.call)
   ·exact (tab_kp HTB.out ((Kp.ext XR.out).trans kf) (by decide) (by decide)).rows
namespace Tj
structure TOp where
 k : Int
 t : Int
 id : Int
 e : Ent
 c : Call
/-- where a number stands last -/
def posI : List Int → Nat → Option Nat → Int → Option Nat
 | [], _, a, _ => a
 | x :: l, k, a, id => posI l (k + 1) (if x = id then some k else a) id
theorem posI_snoc : ∀ (l : List Int) (x : Int) (k : Nat) (a : Option Nat) (id : Int), posI (l ++ [x]) k a id = if x = id then some (k + l.length) else posI l k a id
 | [], _, _, _, _ => rfl
 | y :: l, x, k, a, id => by
  show posI (l ++ [x]) (k + 1) (if y = id then some k else a) id = _
  rw [posI_snoc l x (k + 1), List.length_cons, show k + 1 + l.length = k + (l.length + 1) by omega]; rfl
theorem posI_hit : ∀ {l : List Int} {k : Nat} {a : Option Nat} {id : Int} {i : Nat}, posI l k a id = some i → a = some i ∨ (k ≤ i ∧ l[i - k]? = some id)
 | [], _, _, _, _, h => .inl h
 | x :: l, k, a, id, i, h => by
  rcases posI_hit (l := l) h with h1 | ⟨h1, h2⟩
  ·by_cases e : x = id
   ·rw [if_pos e] at h1; injection h1 with h1; subst h1; exact .inr ⟨Nat.le_refl _, by simp [e]⟩
   ·rw [if_neg e] at h1; exact .inl h1
  ·refine .inr ⟨by omega, ?_⟩
   rw [show i - k = (i - (k + 1)) + 1 by omega, List.getElem?_cons_succ]; exact h2
/-- where a row stands, by its number -/
def pos (rs : List Rw) (id : Int) : Option Nat := posI (rs.map (·.id)) 0 none id
theorem pos_snoc (rs : List Rw) (r : Rw) (id : Int) : pos (rs ++ [r]) id = if r.id = id then some rs.length else pos rs id := by
 unfold pos; rw [List.map_append, List.map_cons, List.map_nil, posI_snoc, List.length_map, Nat.zero_add]
theorem pos_take {rs : List Rw} {k : Nat} {r : Rw} (h : rs[k]? = some r) (id : Int) : pos (rs.take (k + 1)) id = if r.id = id then some k else pos (rs.take k) id := by
 rw [take_succ_get h, pos_snoc, List.length_take, Nat.min_eq_left (Nat.le_of_lt (List.getElem?_eq_some_iff.1 h).1)]
theorem pos_hit {rs : List Rw} {id : Int} {i : Nat} (h : pos rs id = some i) : ∃ r, rs[i]? = some r ∧ r.id = id := by
 rcases posI_hit h with h1 | ⟨_, h2⟩
 ·cases h1
 ·rw [Nat.sub_zero, List.getElem?_map] at h2
  obtain ⟨r, h3, h4⟩ := Option.map_eq_some_iff.1 h2
  exact ⟨r, h3, h4⟩
theorem pos_set {rs : List Rw} {i : Nat} {r r' : Rw} (h : rs[i]? = some r) (he : r'.id = r.id) (id : Int) : pos (rs.set i r') id = pos rs id := by
 unfold pos
 rw [List.map_set, he]
 congr 1
 refine List.ext_getElem? fun j => ?_
 rw [List.getElem?_set]
 by_cases e : i = j
 ·subst e
  rw [if_pos rfl, if_pos (by rw [List.length_map]; exact (List.getElem?_eq_some_iff.1 h).1), List.getElem?_map, h]; rfl
 ·rw [if_neg e]
def rowsAt (C : Cfg) (t : Int) : List Rw := C.rows.getD t.toNat []
def nxAt (C : Cfg) (t : Int) : Int := C.nx.getD t.toNat 0
def noT (C : Cfg) (t : Int) : Prop := t < 0 ∨ (C.rows.length : Int) ≤ t
instance (C : Cfg) (t : Int) : Decidable (noT C t) := by unfold noT; exact inferInstance
/-- an insertion -/
def insE (F : FP) (C : Cfg) (t : Int) (x : Ent) : Int :=
 if noT C t then 8 else if entE F t x ≠ 0 then entE F t x else if (rowsAt C t).any (fun r => sameK r.e x) then 7
 else if (tabAt F t).sz ≤ (rowsAt C t).length ∨ 1073741824 ≤ nxAt C t then 13 else 0
def insC (C : Cfg) (t : Int) (x : Ent) : Cfg := { C with rows := C.rows.set t.toNat (rowsAt C t ++ [⟨nxAt C t, x⟩]), nx := C.nx.set t.toNat (nxAt C t + 1) }
/-- a row is looked for: its place, or an error -/
def rowP (C : Cfg) (t id : Int) : Option Nat := if noT C t then none else pos (rowsAt C t) id
def modE (F : FP) (C : Cfg) (t id : Int) (c : Call) : Int := if rowP C t id = none then 8 else tcallE F t c
def modC (C : Cfg) (t id : Int) (c : Call) : Cfg := match rowP C t id with
 | none => C
 | some i => { C with rows := C.rows.set t.toNat ((rowsAt C t).modify i (fun r => { r with e := { r.e with cl := c } })) }
def delE (C : Cfg) (t id : Int) : Int := if rowP C t id = none then 8 else 0
def delC (C : Cfg) (t id : Int) : Cfg := match rowP C t id with
 | none => C
 | some i => { C with rows := C.rows.set t.toNat ((rowsAt C t).eraseIdx i) }
def sdfE (F : FP) (C : Cfg) (t : Int) (c : Call) : Int := if noT C t then 8 else tcallE F t c
def sdfC (C : Cfg) (t : Int) (c : Call) : Cfg := { C with df := C.df.set t.toNat c }
/-- one operation -/
def opE (F : FP) (C : Cfg) (o : TOp) : Int := if o.k = 1 then insE F C o.t o.e else if o.k = 2 then modE F C o.t o.id o.c else if o.k = 3 then delE C o.t o.id else if o.k = 4 then sdfE F C o.t o.c else 11
def opC (C : Cfg) (o : TOp) : Cfg := if o.k = 1 then insC C o.t o.e else if o.k = 2 then modC C o.t o.id o.c else if o.k = 3 then delC C o.t o.id else if o.k = 4 then sdfC C o.t o.c else C
/-- operations in turn: the first error, and where it leaves -/
def runsE (F : FP) : Cfg → List TOp → Int
 | _, [] => 0
 | C, o :: l => if opE F C o ≠ 0 then opE F C o else runsE F (opC C o) l
def runsC : Cfg → List TOp → Cfg
 | C, [] => C
 | C, o :: l => runsC (opC C o) l
/-- a transaction -/
def txnE (F : FP) (C : Cfg) (l : List TOp) : Int := if cfgE F C ≠ 0 then cfgE F C else if 64 < l.length then 12 else runsE F C l
theorem runsC_snoc : ∀ (l : List TOp) (C : Cfg) (o : TOp), runsC C (l ++ [o]) = opC (runsC C l) o
 | [], _, _ => rfl
 | x :: l, C, o => runsC_snoc l (opC C x) o
theorem runsE_snoc {F : FP} : ∀ (l : List TOp) (C : Cfg) (o : TOp), runsE F C l = 0 → runsE F C (l ++ [o]) = opE F (runsC C l) o
 | [], C, o, _ => by show (if opE F C o ≠ 0 then opE F C o else 0) = opE F C o; by_cases h : opE F C o = 0 <;> simp [h]
 | x :: l, C, o, h => by
  have h0 : runsE F C (x :: l) = if opE F C x ≠ 0 then opE F C x else runsE F (opC C x) l := rfl
  rw [h0] at h
  by_cases hx : opE F C x = 0
  ·rw [if_neg (by simp [hx])] at h
   show (if opE F C x ≠ 0 then opE F C x else runsE F (opC C x) (l ++ [o])) = opE F (runsC (opC C x) l) o
   rw [if_neg (by simp [hx])]; exact runsE_snoc l (opC C x) o h
  ·rw [if_pos hx] at h; exact absurd h hx
theorem runsE_stop {F : FP} : ∀ (l m : List TOp) (C : Cfg), runsE F C l ≠ 0 → runsE F C (l ++ m) = runsE F C l
 | [], _, _, h => absurd rfl h
 | x :: l, m, C, h => by
  have h0 : ∀ l, runsE F C (x :: l) = if opE F C x ≠ 0 then opE F C x else runsE F (opC C x) l := fun _ => rfl
  rw [List.cons_append, h0, h0]
  rw [h0] at h
  by_cases hx : opE F C x = 0
  ·rw [if_neg (by simp [hx])] at h ⊢
   rw [if_neg (by simp [hx])]; exact runsE_stop l m (opC C x) h
  ·rw [if_pos hx, if_pos hx]
/-- what a store's configuration keeps -/
structure Inv (F : FP) (C : Cfg) : Prop where
 nt : C.rows.length = F.ts.length
 nn : C.nx.length = F.ts.length
 nd : C.df.length = F.ts.length
 cb : CB C
theorem insC_inv {F : FP} {C : Cfg} {t : Int} {x : Ent} (h : Inv F C) (hx : x.ks.length ≤ 1073741824 ∧ x.cl.ar.length ≤ 1073741824) (hr : (rowsAt C t).length < 1073741824) : Inv F (insC C t x) := by
 obtain ⟨h1, h2, h3, ⟨b0, b1, b2, b3, b4, b5, b6⟩⟩ := h
 refine ⟨by simp [insC, h1], by simp [insC, h2], h3, ⟨by simpa [insC] using b0, fun rs hrs => ?_, by simpa [insC] using b2, b3, b4, b5, b6⟩⟩
 rcases List.mem_or_eq_of_mem_set hrs with h | rfl
 ·exact b1 rs h
 ·have hall : ∀ r ∈ rowsAt C t, r.e.ks.length ≤ 1073741824 ∧ r.e.cl.ar.length ≤ 1073741824 := fun r hr => by
   unfold rowsAt at hr
   rw [List.getD_eq_getElem?_getD] at hr
   cases hg : C.rows[t.toNat]? with
   | none => rw [hg] at hr; cases hr
   | some rs => rw [hg] at hr; exact (b1 rs (List.mem_of_getElem? hg)).2 r hr
  refine ⟨by simp only [List.length_append, List.length_singleton]; omega, fun r hr => ?_⟩
  rcases List.mem_append.1 hr with h | h
  ·exact hall r h
  ·simp only [List.mem_singleton] at h; subst h; exact hx
theorem setR_inv {F : FP} {C : Cfg} {t : Nat} {rs : List Rw} (h : Inv F C) (hr : rs.length ≤ 1073741824 ∧ ∀ r ∈ rs, r.e.ks.length ≤ 1073741824 ∧ r.e.cl.ar.length ≤ 1073741824) : Inv F { C with rows := C.rows.set t rs } := by
 obtain ⟨h1, h2, h3, ⟨b0, b1, b2, b3, b4, b5, b6⟩⟩ := h
 refine ⟨by simp [h1], h2, h3, ⟨by simpa using b0, fun rs' hrs => ?_, b2, b3, b4, b5, b6⟩⟩
 rcases List.mem_or_eq_of_mem_set hrs with h | rfl
 ·exact b1 rs' h
 ·exact hr
theorem rowsAt_cb {F : FP} {C : Cfg} (h : Inv F C) (t : Int) : (rowsAt C t).length ≤ 1073741824 ∧ ∀ r ∈ rowsAt C t, r.e.ks.length ≤ 1073741824 ∧ r.e.cl.ar.length ≤ 1073741824 := by
 unfold rowsAt
 rw [List.getD_eq_getElem?_getD]
 cases hg : C.rows[t.toNat]? with
 | none => exact ⟨Nat.zero_le _, fun r hr => by cases hr⟩
 | some rs => exact h.cb.r1 rs (List.mem_of_getElem? hg)
theorem modC_inv {F : FP} {C : Cfg} {t id : Int} {c : Call} (h : Inv F C) (hc : c.ar.length ≤ 1073741824) : Inv F (modC C t id c) := by
 unfold modC
 cases hp : rowP C t id with
 | none => exact h
 | some i =>
  have hb := rowsAt_cb h t
  refine setR_inv h ⟨by rw [List.length_modify]; exact hb.1, fun r hr => ?_⟩
  obtain ⟨j, hj⟩ := List.getElem?_of_mem hr
  rw [List.getElem?_modify] at hj
  obtain ⟨r0, h0, h1⟩ := Option.map_eq_some_iff.1 hj
  have h2 := hb.2 r0 (List.mem_of_getElem? h0)
  split at h1 <;> subst h1
  ·exact ⟨h2.1, hc⟩
  ·exact h2
theorem delC_inv {F : FP} {C : Cfg} {t id : Int} (h : Inv F C) : Inv F (delC C t id) := by
 unfold delC
 cases hp : rowP C t id with
 | none => exact h
 | some i =>
  have hb := rowsAt_cb h t
  exact setR_inv h ⟨Nat.le_trans (List.length_eraseIdx_le _ _) hb.1, fun r hr => hb.2 r (List.mem_of_mem_eraseIdx hr)⟩
theorem sdfC_inv {F : FP} {C : Cfg} {t : Int} {c : Call} (h : Inv F C) (hc : c.ar.length ≤ 1073741824) : Inv F (sdfC C t c) := by
 obtain ⟨h1, h2, h3, ⟨b0, b1, b2, b3, b4, b5, b6⟩⟩ := h
 refine ⟨h1, h2, by simp [sdfC, h3], ⟨b0, b1, b2, by simpa [sdfC] using b3, fun c' hc' => ?_, b5, b6⟩⟩
 rcases List.mem_or_eq_of_mem_set hc' with h | rfl
 ·exact b4 c' h
 ·exact hc
/-- sizes: what a right table, call or entry says of them -/
theorem tabI_sz {F : FP} {t : Int} (h : tabI F t = 0) : (tabAt F t).sz ≤ 256 ∧ (tabAt F t).ks.length ≤ 6 := by
 unfold tabI at h
 unfold tabAt
 cases hx : at? F.ts t with
 | none => rw [hx] at h; simp at h
 | some x =>
  rw [hx] at h
  simp only [tabE] at h
  simp only [Option.getD_some]
  split at h
  ·split at h
   ·simp at h
   ·split at h
    ·simp at h
    ·exact ⟨by omega, by omega⟩
  ·simp at h
theorem callE_sz {F : FP} (hz : Sz F) {c : Call} (h : callE F c = 0) : c.ar.length ≤ 1073741824 := by
 unfold callE at h
 cases hx : at? F.ac c.a with
 | none => rw [hx] at h; simp at h
 | some a =>
  rw [hx] at h
  simp only at h
  by_cases hl : c.ar.length = a.ps.length
  ·rw [hl]
   have : a ∈ F.ac := by
    unfold at? at hx
    split at hx
    ·exact List.mem_of_getElem? hx
    ·cases hx
   exact (hz.aa a this).1
  ·rw [if_pos hl] at h; simp at h
theorem tcallE_sz {F : FP} (hz : Sz F) {t : Int} {c : Call} (h : tcallE F t c = 0) : c.ar.length ≤ 1073741824 := by
 unfold tcallE at h
 split at h
 ·exact callE_sz hz h
 ·simp at h
theorem entE_sz {F : FP} (hz : Sz F) {t : Int} {x : Ent} (h : entE F t x = 0) : tabI F t = 0 ∧ x.ks.length ≤ 6 ∧ x.cl.ar.length ≤ 1073741824 := by
 unfold entE at h
 by_cases h1 : tabI F t = 0
 ·have h6 := (tabI_sz h1).2
  rw [if_neg (by simp [h1])] at h
  by_cases h2 : x.ks.length = (tabAt F t).ks.length
  ·rw [if_neg (by simp [h2])] at h
   refine ⟨h1, by omega, ?_⟩
   split at h
   ·rename_i h3; exact absurd h h3
   ·split at h
    ·simp at h
    ·split at h
     ·simp at h
     ·split at h
      ·exact callE_sz hz h
      ·simp at h
  ·rw [if_pos h2] at h; simp at h
 ·rw [if_pos h1] at h; exact absurd h h1
theorem opC_inv {F : FP} (hz : Sz F) {C : Cfg} {o : TOp} (h : Inv F C) (he : opE F C o = 0) : Inv F (opC C o) := by
 unfold opE at he
 unfold opC
 split at he
 ·rename_i h1; rw [if_pos h1]
  unfold insE at he
  split at he
  ·simp at he
  ·split at he
   ·rename_i h2; exact absurd he h2
   ·rename_i h2
    have h3 := entE_sz hz (Decidable.not_not.1 h2)
    split at he
    ·simp at he
    ·split at he
     ·simp at he
     ·rename_i h4
      have h5 := (tabI_sz h3.1).1
      exact insC_inv h ⟨by omega, h3.2.2⟩ (by omega)
 ·rename_i h1; rw [if_neg h1]
  split at he
  ·rename_i h2; rw [if_pos h2]
   unfold modE at he
   split at he
   ·simp at he
   ·exact modC_inv h (tcallE_sz hz he)
  ·rename_i h2; rw [if_neg h2]
   split at he
   ·rename_i h3; rw [if_pos h3]; exact delC_inv h
   ·rename_i h3; rw [if_neg h3]
    split at he
    ·rename_i h4; rw [if_pos h4]
     unfold sdfE at he
     split at he
     ·simp at he
     ·exact sdfC_inv h (tcallE_sz hz he)
    ·simp at he
end Tj
open Go.Maps
open Go.WideMaps
/-- maps stay as they are -/
def MapsKept (w w' : World) : Prop := ∀ (k : Nat) (es : Array MapEntry) (c : Nat), w.heap[k]? = some (.map es c) → w'.heap[k]? = some (.map es c)
theorem MapsKept.ext {a b : World} (h : Ext a b) : MapsKept a b := fun _ _ _ hk => h.heap hk
theorem MapsKept.box {a b : World} {g : Nat} {c : Array Value} {t0 : TypeId} {f0 : Nat × Nat} (h : Mod (· = g) a b) (hg : a.heap[g]? = some (.cells c t0 f0)) : MapsKept a b := fun k es n hk => h.heap hk (fun e => by
 subst e; rw [hg] at hk; cases hk)
theorem Kp.map {Ts : List TypeId} {a b : World} {g : Nat} {es : Array MapEntry} {n : Nat} (h : Mod (· = g) a b) (hg : a.heap[g]? = some (.map es n)) : Kp Ts a b := Kp.mod h (fun k cur t f hk h1 => by
 subst hk; rw [hg] at h1; cases h1)
theorem own_put {w : World} {B sz n g c j : Nat} {e : TypeId} {xs : List Value} {u : Value} (h : w.ownsRow B e sz (.slice (some ⟨g, 0, none⟩) n c) n xs) (hj : j < xs.length) : (w.setCell ⟨g, j, none⟩ u).ownsRow B e sz (.slice (some ⟨g, 0, none⟩) n c) n (xs.set j u) := by
 have _ := hj
 obtain ⟨h1, h2⟩ := h
 refine ⟨by rw [List.length_set]; exact h1, ?_⟩
 rcases h2 with ⟨h2, _⟩ | ⟨g', cap, cur, h2, hb, hg, hc, hm, hs, ht⟩
 ·cases h2
 ·simp only [Value.slice.injEq, Option.some.injEq, Addr.mk.injEq, and_true, true_and] at h2
  obtain ⟨rfl, rfl⟩ := h2
  refine .inr ⟨g, c, cur.setIfInBounds j u, rfl, hb, setCell_heap hg, hc, hm, by simpa using hs, ?_⟩
  rw [Array.toList_setIfInBounds, List.take_set, ht]
theorem flatten_set {sz : Nat} : ∀ {xss : List (List Value)} {i j : Nat} {cs : List Value} {u : Value}, (∀ x ∈ xss, x.length = sz) → xss[i]? = some cs → j < sz → xss.flatten.set (i * sz + j) u = (xss.set i (cs.set j u)).flatten
 | [], _, _, _, _, _, h, _ => by simp at h
 | x :: l, 0, j, cs, u, hl, h, hj => by
  simp only [List.getElem?_cons_zero, Option.some.injEq] at h
  subst h
  rw [List.flatten_cons, stZ, List.flatten_cons, Nat.zero_mul, Nat.zero_add, List.set_append_left _ _ (by rw [hl x (by simp)]; exact hj)]
 | x :: l, i + 1, j, cs, u, hl, h, hj => by
  simp only [List.getElem?_cons_succ] at h
  have hx := hl x (by simp)
  rw [List.flatten_cons, stS, List.flatten_cons, List.set_append_right _ _ (by rw [hx, Nat.succ_mul]; omega), hx, show (i + 1) * sz + j - sz = i * sz + j by rw [Nat.succ_mul]; omega, flatten_set (fun y hy => hl y (by simp [hy])) h hj]
theorem own_get {w : World} {B g n c j : Nat} {e : TypeId} {sz : Nat} {xs : List Value} {u : Value} (h : w.ownsRow B e sz (.slice (some ⟨g, 0, none⟩) n c) n xs) (hj : xs[j]? = some u) : w.cell? ⟨g, j, none⟩ = some u := by
 have h4 := h.cells (g := g) rfl _ _ hj
 rw [add_mk, Nat.zero_add] at h4; exact h4
theorem own_obj {w : World} {B g n c : Nat} {e : TypeId} {sz : Nat} {xs : List Value} (h : w.ownsRow B e sz (.slice (some ⟨g, 0, none⟩) n c) n xs) : ∃ cur, w.heap[g]? = some (.cells cur e (0, 0)) := row_heap h rfl
theorem own_cons {w : World} {B n : Nat} {e : TypeId} {sz : Nat} {v : Value} {xs : List Value} (h : w.ownsRow B e sz v n xs) (hn : 0 < n) : ∃ g c, v = .slice (some ⟨g, 0, none⟩) n c ∧ n ≤ c := by
 rcases h.2 with ⟨_, h2⟩ | ⟨g, cap, cur, h2, _, _, h3, _⟩
 ·omega
 ·exact ⟨g, cap, h2, h3⟩
namespace Tj
/-- the map at B of at most n entries holds f -/
def IxM (w : World) (B n : Nat) (f : Int → Option Nat) : Prop := ∃ D : DataW Unit, w.ownsMap Tryz.prog 3 (plainElem Tryz.prog 3) B n D ∧ IsMap D ∧ ∀ s : Int, B64 s → (f s = none → ∀ z, D.atKey (.int .i64 s) z = z) ∧ ∀ i, f s = some i → ∀ z, D.atKey (.int .i64 s) z = .lit (.int .i64 (i : Nat))
theorem IxM.kept {w w' : World} {B n : Nat} {f : Int → Option Nat} (h : IxM w B n f) (k : MapsKept w w') : IxM w' B n f := by
 obtain ⟨D, ⟨es, cl, hb, r⟩, h2⟩ := h
 exact ⟨D, ⟨es, cl, k _ _ _ hb, r⟩, h2⟩
theorem IxM.lt {w : World} {B n : Nat} {f : Int → Option Nat} (h : IxM w B n f) : B < w.heap.size := by
 obtain ⟨D, h1, _⟩ := h; exact h1.lt
theorem IxM.obj {w : World} {B n : Nat} {f : Int → Option Nat} (h : IxM w B n f) : ∃ es c, w.heap[B]? = some (.map es c) := by
 obtain ⟨D, ⟨es, cl, hb, _⟩, _⟩ := h; exact ⟨es, cl, hb⟩
theorem IxM.mod {w w' : World} {B n : Nat} {f : Int → Option Nat} {S : Nat → Prop} (h : IxM w B n f) (hm : Mod S w w') (hs : ¬ S B) : IxM w' B n f := by
 obtain ⟨D, ⟨es, cl, hb, r⟩, h2⟩ := h
 exact ⟨D, ⟨es, cl, hm.heap hb hs, r⟩, h2⟩
theorem IxM.start (w : World) : IxM (w.alloc (.map #[] 0)) w.heap.size 0 (fun _ => none) :=
 ⟨_, World.ownsMap_made w _ _ _, isMap_empty, fun s _ => ⟨fun _ _ => rfl, fun i h => by cases h⟩⟩
theorem zero_i64 (w : World) : (zeroValue 3).run Tryz.prog w = .ok (.int .i64 0) w := by kernel_rfl
theorem ix_law : Keyed Tryz.prog 3 := int_keyed Tryz.underlying3
theorem IxM.look {w : World} {B n : Nat} {f : Int → Option Nat} (h : IxM w B n f) {s : Int} (hs : B64 s) : (Instr.lookup 239 (.map (some B)) (.int .i64 s) true).run Tryz.prog w = .ok (.tuple #[.int .i64 (((f s).getD 0 : Nat) : Int), .bool (f s).isSome]) w := by
 obtain ⟨D, ⟨es, cl, hb, F, _, rfl⟩, _, h2⟩ := h
 obtain ⟨g1, g2⟩ := h2 s hs
 rcases Maps.fit_look true ix_law Tryz.underlying239 (zero_i64 w) hb F (keyOf_int_mk Tryz.underlying3 (wf_b64 hs)) with ⟨hrun, _, hat⟩ | ⟨e0, y, _, _, hrun, hRv, hat, _⟩
 ·cases hf : f s with
  | none => rw [hrun]; rfl
  | some i =>
   have := g2 i hf (.lit (.bool true))
   rw [hat] at this; cases this
 ·obtain ⟨a, ha, hy, _⟩ := plainElem_int_inv Tryz.underlying3 hRv
  cases hf : f s with
  | none =>
   have := g1 hf (.lit (.bool true))
   rw [hat, hy] at this; cases this
  | some i =>
   have := g2 i hf (.lit (.bool true))
   rw [hat, hy] at this
   simp only [DataW.lit.injEq, Lit.int.injEq, true_and] at this
   rw [hrun, ha, this]; rfl
theorem IxM.put {w' : World} {B n : Nat} {f g : Int → Option Nat} {D : DataW Unit} {x : Int} {i : Nat} (hx : B64 x) (h2 : ∀ s : Int, B64 s → (f s = none → ∀ z, D.atKey (.int .i64 s) z = z) ∧ ∀ i, f s = some i → ∀ z, D.atKey (.int .i64 s) z = .lit (.int .i64 (i : Nat))) (hD : IsMap D)
 (h : w'.ownsMap Tryz.prog 3 (plainElem Tryz.prog 3) B n (D.put (.int .i64 x) (.lit (.int .i64 (i : Nat))))) (hg : ∀ s, g s = if x = s then some i else f s) : IxM w' B n g := by
 refine ⟨_, h, hD.put _ _, fun s hs => ?_⟩
 rw [hg]
 by_cases e : x = s
 ·subst e
  rw [if_pos rfl]
  refine ⟨fun h => (by cases h), fun j hj z => ?_⟩
  injection hj with hj; subst hj
  rw [atKey_put_same hD (ix_law.key (keyOf_int_mk Tryz.underlying3 (wf_b64 hx)))]
 ·have hne : (Lit.int .i64 s) ≠ .int .i64 x := fun h => e (by simpa using h.symm)
  rw [if_neg e]
  exact ⟨fun hn z => by rw [atKey_put_other hne]; exact (h2 s hs).1 hn z, fun j hj z => by rw [atKey_put_other hne]; exact (h2 s hs).2 j hj z⟩
theorem rwsO_at {B : Nat} {w : World} {b o n c : Nat} {l : List Rw} (h : RwsO B w (.slice (some ⟨b, o, none⟩) n c) l) (k : Nat) (x : Rw) (hk : l[k]? = some x) :
 ∃ ka kc ga gc, B64 x.id ∧ w.cell? ⟨b, o + k * 5, none⟩ = some (.int .i64 x.id) ∧ w.cell? ⟨b, o + k * 5 + 1, none⟩ = some (.slice ka x.e.ks.length kc) ∧ w.cell? ⟨b, o + k * 5 + 2, none⟩ = some (.int .i64 x.e.pr) ∧ w.cell? ⟨b, o + k * 5 + 3, none⟩ = some (.int .i64 x.e.cl.a) ∧ w.cell? ⟨b, o + k * 5 + 4, none⟩ = some (.slice ga x.e.cl.ar.length gc) := by
 obtain ⟨b', o', e, _, h4⟩ := h.rws.at (by have := (List.getElem?_eq_some_iff.1 hk).1; omega)
 simp only [Option.some.injEq, Addr.mk.injEq, and_true] at e
 obtain ⟨rfl, rfl⟩ := e
 obtain ⟨cs, _, ⟨es, rfl, h1, ka, kc, ga, gc, rfl, _, _, _⟩, hc⟩ := h4 k x hk
 exact ⟨ka, kc, ga, gc, h1, hc 0 _ rfl, hc 1 _ rfl, hc 2 _ rfl, hc 3 _ rfl, hc 4 _ rfl⟩
end Tj
/-- what reindex leaves -/
def RixP (w : World) (ixv : Value) (n t : Nat) (ms : List Value) (rs : List Tj.Rw) (e : Ending) (w' : World) : Prop := e = .returned (.tuple #[]) ∧ Mod (fun k => ixv.ownBlock = some k) w w' ∧ ∃ b, w.heap.size ≤ b ∧ w'.ownsRow 0 239 1 ixv n (ms.set t (.map (some b))) ∧ Tj.IxM w' b rs.length (Tj.pos rs)
theorem reindex_any {w : World} {sp n t : Nat} {v0 v1 v2 v3 ixv : Value} {q : Pg.PV} {vs ms : List Value} {rows : List (List Tj.Rw)} {rs : List Tj.Rw} (hb : w.heap[sp]? = some (.cells #[v0, v1, v2, v3, q.c0, q.c1, q.c2, q.c3, q.c4, q.c5, q.c6, q.c7, q.c8, ixv, .bool true] 143)) (hR : Tj.RI 0 w v0 n vs rows) (ht : rows[t]? = some rs) (htn : t < n) (hix : w.ownsRow 0 239 1 ixv n ms) (hl : rs.length ≤ 1073741824) (hnn : n ≤ 1073741824) :
 Calls Tryz.prog 107 #[.pointer (some ⟨sp, 0, none⟩), .int .i64 t] w (RixP w ixv n t ms rs) := by
 obtain ⟨ib, ic, rfl, hic⟩ := own_cons hix (by omega)
 obtain ⟨rb, rc, rfl, hrc⟩ := own_cons hR.r0 (by omega)
 obtain ⟨rv, hrv⟩ : ∃ x, vs[t]? = some x := ⟨_, gE (by rw [hR.rl]; exact htn)⟩
 have hrs := hR.r1 t rv rs hrv ht
 obtain ⟨ra, rcc, rfl, _, _⟩ := Tj.OL.one hrs
 obtain ⟨icur, hiob⟩ := own_obj hix
 obtain ⟨rcur, hrob⟩ := own_obj hR.r0
 have hmsl : ms.length = n := by have := hix.1; omega
 have HB := Lh hb
 have HIX := Lh hix
 have HIO := Lh hiob
 have HRO := Lh hrob
 have HRG := Lh (own_get hR.r0 hrv)
 have HRS := Lh hrs
 have hwn : ib < w.heap.size := lt_of_block hiob
 have k0 := alw (cQ 0 hb)
 have k13 := alw (cQ 13 hb)
 have hmm := @run_makeMap Tryz.prog
 obtain ⟨m, hm⟩ : ∃ u, ms[t]? = some u := ⟨_, gE (by omega)⟩
 have im := alw (own_get hix hm)
 have fim : (w.alloc (.map #[] 0)).frozen? ⟨ib, t, none⟩ = false := free_of ((grows (a := w) (b := (w.alloc (.map #[] 0)))).heap hiob)
 clear hix hR hb hrs hiob hrob
 go_enter Tryz.func107, Tryz.ntmps107
 have hq0 : ¬ ((n : Int) ≤ t) := by omega
 go_wp2_with (refine wpList_store_cellH rfl 239 (.tmp 12) (.tmp 11) rfl ib t m (.map (some w.heap.size)) rfl rfl (by kernel_rfl) rfl (im _) fim ?_)
 intro w1 hw1
 have hw1 := hw1.out
 have M1 : Hid (Mod (· = ib) w w1) := Lh (by rw [hw1]; exact (Mod.setCell (S := fun k => k = ib) (p := ⟨ib, t, none⟩) (Mod.refl _ w) (.inl rfl) _).alloc _)
 have O1 : Hid (w1.ownsRow 0 239 1 (.slice (some ⟨ib, 0, none⟩) n ic) n (ms.set t (.map (some w.heap.size)))) := Lh (by rw [hw1]; exact own_now (own_put HIX.out (by rw [hmsl]; exact htn)))
 have I1 : Hid (Tj.IxM w1 w.heap.size 0 (Tj.pos (rs.take 0))) := Lh (by rw [hw1]; have h := Tj.IxM.start (w.setCell ⟨ib, t, none⟩ (.map (some w.heap.size))); rw [show (w.setCell ⟨ib, t, none⟩ (.map (some w.heap.size))).heap.size = w.heap.size by simp] at h; exact h)
 clear hw1 k0 k13 im fim
 have hnb : sp ≠ ib := ne_of_type HB.out HIO.out (by decide)
 have hnr : rb ≠ ib := ne_of_type HRO.out HIO.out (by decide)
 have hb1 := M1.out.heap HB.out hnb
 have k0 := alw (cQ 0 hb1)
 have g0 := alw (show w1.cell? ⟨rb, t, none⟩ = _ by
  have h := HRG.out
  have e := M1.out.heap HRO.out hnr
  rw [cell_of HRO.out] at h; rw [cell_of e]; exact h)
 clear hb1
 go_wp2_with fail
 go_loopw [22] (fun c wr => ∃ k : Nat, k ≤ rs.length ∧ c = .int .i64 k ∧ Hid (Mod (· = ib) w wr ∧ w.heap.size < wr.heap.size ∧ wr.ownsRow 0 239 1 (.slice (some ⟨ib, 0, none⟩) n ic) n (ms.set t (.map (some w.heap.size))) ∧ Tj.IxM wr w.heap.size k (Tj.pos (rs.take k)))) (fun c _ => rs.length - (intOf c).toNat)
 case atStart => exact ⟨0, Nat.zero_le _, rfl, Lh ⟨M1.out, I1.out.lt, O1.out, I1.out⟩⟩
 case round =>
  obtain ⟨k, hk, rfl, HZ⟩ := hrel
  obtain ⟨hmr, hsr, hor, hir⟩ := HZ.out
  have MR := Lh hmr
  have OR := Lh hor
  have IR := Lh hir
  clear hmr hor hir HZ k0 g0
  by_cases hlt : k < rs.length
  ·obtain ⟨r, hx⟩ : ∃ x, rs[k]? = some x := ⟨_, gE hlt⟩
   have hrsr := Tj.RwsO.kp HRS.out (Kp.box MR.out HIO.out (by decide))
   have hsrc := hrsr
   obtain ⟨cb, co, hce, _⟩ := own_cons hsrc.choose_spec.2.2.2.1 (by omega)
   simp only [Value.slice.injEq, true_and] at hce
   obtain ⟨rfl, rfl⟩ := hce
   obtain ⟨ka, kc, ga, gc, hid, y0, y1, y2, y3, y4⟩ := Tj.rwsO_at hrsr k r hx
   rw [Nat.zero_add] at y0 y1 y2 y3 y4
   have z0 := alw y0
   have z1 := alw y1
   have z2 := alw y2
   have z3 := alw y3
   have z4 := alw y4
   have hbr := MR.out.heap HB.out hnb
   have k13 := alw (cQ 13 hbr)
   have mt := alw (own_get OR.out (show (ms.set t (Value.map (some w.heap.size)))[t]? = some (.map (some w.heap.size)) by rw [List.getElem?_set_self (by omega)]))
   have HID := Lh hid
   have HPT := Lh (Tj.pos_take hx)
   have bx := aH wr (.cells (Yq15 r ka kc ga gc) 151)
   have rw0 := alw (cQ 0 bx)
   have rw1 := alw (cQ 1 bx)
   have rw2 := alw (cQ 2 bx)
   have rw3 := alw (cQ 3 bx)
   have rw4 := alw (cQ 4 bx)
   clear bx
   clear hx hrsr hsrc y0 y1 y2 y3 y4 hbr hid
   go_wp2_with fail
   refine wp_region_later_tail 10 (by kernel_rfl) (by kernel_rfl) (eR _) ?_
   simp only [tkS, tkZ, dpS, dpZ]
   repeat (go_big_quiet_step (fail))
   refine wpQuiet_nil ?_
   intro w2 x2
   have X2 := Lh ((grows (a := wr) (b := wr.alloc (.cells (Yq15 r ka kc ga gc) 151))).trans x2)
   obtain ⟨D, hD0, hD1, hD2⟩ := IR.out.kept (MapsKept.ext X2.out)
   have HD0 := Lh hD0
   have HD1 := Lh hD1
   have HD2 := Lh hD2
   have HKY := Lh (keyOf_int_mk Tryz.underlying3 (wf_b64 HID.out))
   clear x2 hD0 hD1 hD2
   go_wp2_with (first | (at_mapUpdate; refine wpList_mapUpdate_own _ rfl _ _ _ 239 rfl 3 3 Tj.ix_law Tryz.underlying239 _ w.heap.size k _ rfl HD0.out (by unfold maxLen; omega) _ _ _ rfl rfl HKY.out _ [] (plainElem_int Tryz.underlying3 (wf_b64 (x := (k : Int)) ⟨by omega, by omega⟩)) ?_) | fail)
   intro w3 hown3 hg3
   have hm3 := grown_mod hg3
   have HM3 : Hid (Mod (· = w.heap.size) w2 w3) := Lh (hm3.mono (fun i _ h => by simpa using h))
   have HI3 : Hid (Tj.IxM w3 w.heap.size (k + 1) (Tj.pos (rs.take (k + 1)))) := Lh (Tj.IxM.put HID.out HD2.out HD1.out hown3 HPT.out)
   clear hown3 hg3 hm3
   go_wp2_with fail
   go_roundw
   case rel =>
    obtain ⟨es, cc, hmo⟩ := (IR.out.kept (MapsKept.ext X2.out)).obj
    exact ⟨k + 1, by omega, by go_num, Lh ⟨(MR.out.trans (Mod.of_ext X2.out)).comp HM3.out (fun i hi h => by omega), Nat.lt_of_lt_of_le hsr (Nat.le_trans X2.out.le HM3.out.size), own_kp (Ts := [239]) (own_ext OR.out X2.out) (Kp.map HM3.out hmo) (by decide), HI3.out⟩⟩
   case measure => simp [intOf]; omega
  ·obtain rfl : k = rs.length := by omega
   have hI := IR.out
   rw [List.take_length] at hI
   go_wp2_with fail
   refine bodyPost_ret (v := .tuple #[]) (by simp [results, Tryz.results107, go_sem]) rfl ?_
   exact ⟨rfl, MR.out.mono (fun i _ h => by simp [Value.ownBlock, h]), w.heap.size, Nat.le_refl _, OR.out, hI⟩
namespace Tj
theorem CfgO.low {B D : Nat} {w : World} {v0 v1 v2 v3 : Value} {vs : List Value} {C : Cfg} (h : CfgO B w v0 v1 v2 v3 vs C) (hc : D ≤ B) : CfgO D w v0 v1 v2 v3 vs C :=
 ⟨h.rows.low hc, ⟨own_base h.nx.1 hc, h.nx.2⟩, OL.low h.df hc (fun _ _ h => h.low hc), OL.low h.rg hc (fun _ _ h => h.low hc)⟩
theorem CfgO.form {B : Nat} {w : World} {v0 v1 v2 v3 : Value} {vs : List Value} {C : Cfg} (h : CfgO B w v0 v1 v2 v3 vs C) : ∃ r0 c0 r1 c1 r2 c2 r3 c3, v0 = .slice r0 C.rows.length c0 ∧ v1 = .slice r1 C.nx.length c1 ∧ v2 = .slice r2 C.df.length c2 ∧ v3 = .slice r3 C.rg.length c3 := by
 obtain ⟨r0, c0, e0, _⟩ := own_form h.rows.r0
 obtain ⟨r1, c1, e1, _⟩ := own_form h.nx.1
 obtain ⟨r2, c2, e2, _⟩ := OL.one h.df
 obtain ⟨r3, c3, e3, _⟩ := OL.one h.rg
 exact ⟨r0, c0, r1, c1, r2, c2, r3, c3, e0, e1, e2, e3⟩
theorem val_inj {p q : Pg.PV} (h : p.val = q.val) : p = q := by
 obtain ⟨p0, p1, p2, p3, p4, p5, p6, p7, p8⟩ := p
 obtain ⟨q0, q1, q2, q3, q4, q5, q6, q7, q8⟩ := q
 simp only [Pg.PV.val, Value.agg.injEq, Array.mk.injEq, List.cons.injEq, and_true] at h
 obtain ⟨rfl, rfl, rfl, rfl, rfl, rfl, rfl, rfl, rfl⟩ := h
 rfl
/-- the values of a store's variables -/
structure SV where
 v0 : Value
 v1 : Value
 v2 : Value
 v3 : Value
 ix : Value
 q : Pg.PV
abbrev SV.obj (V : SV) : Obj := .cells #[V.v0, V.v1, V.v2, V.v3, V.q.c0, V.q.c1, V.q.c2, V.q.c3, V.q.c4, V.q.c5, V.q.c6, V.q.c7, V.q.c8, V.ix, .bool true] 143 (0, 0)
/-- a store's own memory: its blocks that may change are in S, its program's lie from lo to hi -/
structure StO (S : Nat → Prop) (lo hi : Nat) (w : World) (V : SV) (vs ms : List Value) (F : FP) (C : Cfg) (fs : Nat → Nat × (Int → Option Nat)) : Prop where
 cfg : CfgO 0 w V.v0 V.v1 V.v2 V.v3 vs C
 pr : Held lo hi w (fun w => IsG w V.q F)
 sp : ∀ k, S k → k < lo ∨ hi ≤ k
 ix : w.ownsRow 0 239 1 V.ix C.rows.length ms
 mm : ∀ i, i < C.rows.length → ∃ b, ms[i]? = some (.map (some b)) ∧ IxM w b (fs i).1 (fs i).2
 mj : ∀ (i j b : Nat), ms[i]? = some (.map (some b)) → ms[j]? = some (.map (some b)) → i = j
 s0 : ∀ k, V.v0.ownBlock = some k → S k
 s1 : ∀ k, V.v1.ownBlock = some k → S k
 s2 : ∀ k, V.v2.ownBlock = some k → S k
 si : ∀ k, V.ix.ownBlock = some k → S k
 sr : ∀ (i : Nat) (v : Value) (k : Nat), vs[i]? = some v → v.ownBlock = some k → S k
 sm : ∀ (i b : Nat), ms[i]? = some (.map (some b)) → S b
 inv : Inv F C
 sz : Sz F
/-- the index that the rows make -/
def ixs (C : Cfg) (i : Nat) : Nat × (Int → Option Nat) := ((C.rows.getD i []).length, pos (C.rows.getD i []))
theorem ixs_at {C : Cfg} {i : Nat} {rs : List Rw} (h : C.rows[i]? = some rs) : ixs C i = (rs.length, pos rs) := by unfold ixs; rw [List.getD_eq_getElem?_getD, h]; rfl
/-- a store at sp -/
def St (S : Nat → Prop) (lo hi sp : Nat) (V : SV) (w : World) (F : FP) (C : Cfg) : Prop := w.heap[sp]? = some V.obj ∧ (∀ k, S k → k < w.heap.size ∧ k ≠ sp) ∧ ∃ vs ms, StO S lo hi w V vs ms F C (ixs C)
/-- a store made anew -/
def Loaded (W : World) (F : FP) (C : Cfg) (w' : World) (sp : Nat) : Prop := ∃ S lo hi V, W.heap.size ≤ sp ∧ W.heap.size ≤ lo ∧ (∀ k, S k → W.heap.size ≤ k ∧ k < w'.heap.size) ∧ St S lo hi sp V w' F C
def LoadP (W : World) (F : FP) (C : Cfg) (e : Ending) (w' : World) : Prop := ∃ sp, e = .returned (.pointer (some ⟨sp, 0, none⟩)) ∧ Ext W w' ∧ Loaded W F C w' sp
/-- the indexes of the first k tables are laid -/
structure LdI (w1 : World) (ib n : Nat) (rows : List (List Rw)) (k : Nat) (ms : List Value) (w : World) : Prop where
 m : Mod (· = ib) w1 w
 o : w.ownsRow 0 239 1 (.slice (some ⟨ib, 0, none⟩) n n) n ms
 mm : ∀ (i : Nat) (rs : List Rw), i < k → rows[i]? = some rs → ∃ b, ms[i]? = some (.map (some b)) ∧ IxM w b rs.length (pos rs)
 mj : ∀ (i j b : Nat), ms[i]? = some (.map (some b)) → ms[j]? = some (.map (some b)) → i = j
 mb : ∀ (i b : Nat), ms[i]? = some (.map (some b)) → w1.heap.size ≤ b ∧ b < w.heap.size
theorem LdI.step {w1 : World} {ib n : Nat} {rows : List (List Rw)} {k : Nat} {ms : List Value} {w w' : World} {rs : List Rw} (h : LdI w1 ib n rows k ms w) (hib : ib < w1.heap.size) (hk : k < n) (hr : rows[k]? = some rs) {e : Ending} (hp : RixP w (.slice (some ⟨ib, 0, none⟩) n n) n k ms rs e w') :
 e = .returned (.tuple #[]) ∧ ∃ ms', LdI w1 ib n rows (k + 1) ms' w' := by
 obtain ⟨he, hm, b, hb, ho, hi⟩ := hp
 have hm' : Mod (· = ib) w w' := hm.mono (fun i _ h => by simpa [Value.ownBlock, eq_comm] using h)
 have hl : ms.length = n := by have := h.o.1; omega
 have get : ∀ {i : Nat} {c : Nat}, (ms.set k (Value.map (some b)))[i]? = some (.map (some c)) → (i = k ∧ c = b) ∨ (i ≠ k ∧ ms[i]? = some (.map (some c))) := by
  intro i c hi
  by_cases e : k = i
  ·subst e
   rw [List.getElem?_set_self (by omega)] at hi
   simp only [Option.some.injEq, Value.map.injEq] at hi
   exact .inl ⟨rfl, hi.symm⟩
  ·rw [List.getElem?_set_ne e] at hi
   exact .inr ⟨fun h => e h.symm, hi⟩
 refine ⟨he, _, h.m.trans hm', ho, fun i rs' hi' hr' => ?_, fun i j c hi' hj' => ?_, fun i c hi' => ?_⟩
 ·by_cases e : i = k
  ·subst e
   rw [hr] at hr'; simp only [Option.some.injEq] at hr'; subst hr'
   exact ⟨b, by rw [List.getElem?_set_self (by omega)], hi⟩
  ·obtain ⟨c, h1, h2⟩ := h.mm i rs' (by omega) hr'
   refine ⟨c, by rw [List.getElem?_set_ne (fun h => e h.symm)]; exact h1, h2.mod hm' (fun hc => ?_)⟩
   have := (h.mb i c h1).1
   omega
 ·rcases get hi' with ⟨rfl, rfl⟩ | ⟨h1, h2⟩ <;> rcases get hj' with ⟨h3, h4⟩ | ⟨h3, h4⟩
  ·exact h3.symm
  ·have := (h.mb j c h4).2; omega
  ·have := (h.mb i c h2).2; omega
  ·exact h.mj i j c h2 h4
 ·rcases get hi' with ⟨rfl, rfl⟩ | ⟨h1, h2⟩
  ·exact ⟨Nat.le_trans h.m.size hb, hi.lt⟩
  ·have := h.mb i c h2; exact ⟨this.1, Nat.lt_of_lt_of_le this.2 hm'.size⟩
end Tj
theorem info_ix : (Tryz.prog.info? 239).map (fun i => (i.zero, i.size, i.bytes)) = some (some (.map none), 1, 8) := by kernel_rfl
theorem mk_ix (n : Nat) (h : n ≤ 1073741824) (w : World) : (Instr.makeSlice 141 (.int .i64 (n : Int)) (.int .i64 (n : Int))).run Tryz.prog w = .ok (.slice (some ⟨w.heap.size, 0, none⟩) n n) (w.alloc (.cells (madeCells #[.map none] n) 239)) :=
 run_make_row' _ _ _ 8 Tryz.underlying141 info_ix rfl _ _ n (by omega) (by omega) w
abbrev Yq20 (e0 : Option Addr) (d0 : Nat) (C : Tj.Cfg) (e1 : Option Addr) (d1 : Nat) (e2 : Option Addr) (d2 : Nat) (e3 : Option Addr) (d3 : Nat) (F : Tj.FP) (b1 : Option Addr) (y1 : Nat) (b2 : Option Addr) (y2 : Nat) (b3 : Option Addr) (y3 : Nat) (b4 : Option Addr) (y4 : Nat) (b5 : Option Addr) (y5 : Nat) (b6 : Option Addr) (y6 : Nat) (b7 : Option Addr) (y7 : Nat) (yl : Nat) (b8 : Option Addr) (y8 : Nat) : Array Value := #[.slice e0 C.rows.length d0, .slice e1 C.nx.length d1, .slice e2 C.df.length d2, .slice e3 C.rg.length d3, .string F.nm, .slice b1 F.P.hs.length y1, .slice b2 F.P.md.length y2, .slice b3 F.rs.length y3, .slice b4 F.ac.length y4, .slice b5 F.ts.length y5, .slice b6 F.ss.length y6, .slice b7 yl y7, .slice b8 F.P.dp.length y8, .slice none 0 0, .bool true]
theorem load_any {W : World} {p : Pg.PV} {F : Tj.FP} (hG : Tj.IsG W p F) (hz : Tj.Sz F) {cv : Value} {C : Tj.Cfg} (hC : Tj.CfgV W cv C) (hI : Tj.Inv F C) : Calls Tryz.prog 61 #[p.val, cv] W (Tj.LoadP W F C) := by
 have HPC := Lh (fun (w : World) (hx : Ext W w) => pclone_any (hG.ext hx) hz)
 have HCC := Lh (fun (w : World) (hx : Ext W w) => cconfig_any (hC.ext hx) hI.cb)
 have HI := Lh hI
 have HSZ := Lh hz
 have hnb : C.rows.length ≤ 1073741824 := hI.cb.r0
 obtain ⟨hF, _⟩ := hG
 obtain ⟨a1, a2, a3, a4, a5, a6, a7, a8, m1, m2, m3, m4, m5, m6, n7, m7, m8, hf⟩ := hF.form
 obtain ⟨rfl, hnm, hhs, hmd, hrs, has, hts, hss, hct, hdp, l1, l2, l3, l4, l5, l6, l7, l8⟩ := hf
 obtain ⟨r0, c0, r1, c1, r2, c2, r3, c3, rfl, _, _, _, _⟩ := hC.form
 dsimp only [Pg.PV.val] at *
 clear hF hnm hhs hmd hrs has hts hss hct hdp hC hI hz
 have bx := aH W (.cells (Yq0 F a1 m1 a2 m2 a3 m3 a4 m4 a5 m5 a6 m6 a7 m7 n7 a8 m8) 31)
 have k0 := alw (cQ 0 bx)
 have k1 := alw (cQ 1 bx)
 have k2 := alw (cQ 2 bx)
 have k3 := alw (cQ 3 bx)
 have k4 := alw (cQ 4 bx)
 have k5 := alw (cQ 5 bx)
 have k6 := alw (cQ 6 bx)
 have k7 := alw (cQ 7 bx)
 have k8 := alw (cQ 8 bx)
 clear bx
 have bx := aH (W.alloc (.cells (Yq0 F a1 m1 a2 m2 a3 m3 a4 m4 a5 m5 a6 m6 a7 m7 n7 a8 m8) 31)) (.cells (Yq7 r0 c0 C r1 c1 r2 c2 r3 c3) 45)
 rw [szA] at bx
 have cc0 := alw (cQ 0 bx)
 have cc1 := alw (cQ 1 bx)
 have cc2 := alw (cQ 2 bx)
 have cc3 := alw (cQ 3 bx)
 clear bx
 have hmk := mk_ix C.rows.length hnb
 go_enter Tryz.func61, Tryz.ntmps61
 go_wp2_with fail
 refine Rel.region_tail (W := ((W.alloc (.cells (Yq0 F a1 m1 a2 m2 a3 m3 a4 m4 a5 m5 a6 m6 a7 m7 n7 a8 m8) 31)).alloc (.cells (Yq7 r0 c0 C r1 c1 r2 c2 r3 c3) 45))) 3 (Rel.tab [(1, fun v w => ∃ v0 v1 v2 v3 vs, v = .agg #[v0, v1, v2, v3] ∧ Tj.CfgO ((W.alloc (.cells (Yq0 F a1 m1 a2 m2 a3 m3 a4 m4 a5 m5 a6 m6 a7 m7 n7 a8 m8) 31)).alloc (.cells (Yq7 r0 c0 C r1 c1 r2 c2 r3 c3) 45)).heap.size w v0 v1 v2 v3 vs C)]) (Rel.tab_lasts (by intro p hp v w w' hr hx; simp only [List.mem_cons, List.not_mem_nil, or_false] at hp; subst hp; obtain ⟨v0, v1, v2, v3, vs, h1, h2⟩ := hr; exact ⟨v0, v1, v2, v3, vs, h1, h2.kp (Kp.ext hx)⟩)) (by kernel_rfl) (by kernel_rfl) (eR _) ?_
 simp only [tkS, tkZ]
 refine Rel.chunkT 1 rfl rfl rfl ?_
 simp only [tkS, tkZ, dpS, dpZ, Nat.reduceAdd]
 repeat (go_big_quiet_step (fail))
 refine wpQuiet_nil ?_
 refine Rel.callG _ rfl rfl rfl Tryz.func62 (by nofun) (by decide) #[.agg (Yq7 r0 c0 C r1 c1 r2 c2 r3 c3)] rfl (fun w hx _ => by refine (HCC.out w ((grows (a := W) (b := ((W.alloc (.cells (Yq0 F a1 m1 a2 m2 a3 m3 a4 m4 a5 m5 a6 m6 a7 m7 n7 a8 m8) 31)).alloc (.cells (Yq7 r0 c0 C r1 c1 r2 c2 r3 c3) 45)))).trans hx)).mono ?_; rintro e w9 ⟨v0, v1, v2, v3, vs, h1, h2, h3⟩; exact ⟨_, h1, h2, v0, v1, v2, v3, vs, rfl, h3.low hx.le⟩) ?_
 intro u1 vc1 _ _ r1
 obtain ⟨v0, v1, v2, v3, vs0, rfl, rcf⟩ := r1
 obtain ⟨e0, d0, e1, d1, e2, d2, e3, d3, rfl, rfl, rfl, rfl⟩ := rcf.form
 clear rcf
 simp only [Act.put, stA, stS, stZ]
 refine Rel.chunkT 1 rfl rfl rfl ?_
 simp only [tkS, tkZ, dpS, dpZ, Nat.reduceAdd]
 repeat (go_big_quiet_step (fail))
 refine wpQuiet_nil ?_
 refine Rel.fin ?_
 intro w7 x7 hf7
 obtain ⟨_, _, _, _, vs, hveq, hcf⟩ := (hf7 1).2 rfl
 simp only [Value.agg.injEq, Array.mk.injEq, List.cons.injEq, and_true] at hveq
 obtain ⟨rfl, rfl, rfl, rfl⟩ := hveq
 have HCF := Lh hcf
 have s7 := Sm x7
 have hle7 := x7.le
 simp only [szA] at hle7
 clear hf7 hcf x7
 go_wp2_with fail
 refine (HPC.out _ grows).mono ?_
 rintro e w8 ⟨pv, rfl, x8, hown⟩
 obtain ⟨q, rfl, hq⟩ := hown.now
 have HHD : Hid (Held w7.heap.size w8.heap.size w8 (fun w => Tj.IsG w q F)) := Lh (Own.held (hown.imp (fun w' h => by
  obtain ⟨q', h1, h2⟩ := h
  rw [Tj.val_inj h1]; exact h2)))
 obtain ⟨b1, b2, b3, b4, b5, b6, b7, b8, y1, y2, y3, y4, y5, y6, yl, y7, y8, hqf⟩ := hq.1.form
 obtain ⟨rfl, _⟩ := hqf
 dsimp only [Pg.PV.val] at *
 clear hown hq
 have X8 := Lh x8
 have s8 := Sm x8
 have hle8 := x8.le
 clear x8
 have HB9 := Lh (aH w8 (.cells (Yq20 e0 d0 C e1 d1 e2 d2 e3 d3 F b1 y1 b2 y2 b3 y3 b4 y4 b5 y5 b6 y6 b7 y7 yl b8 y8) 143))
 have m13 := alw (cQ 13 HB9.out)
 have m0 := alw (cQ 0 HB9.out)
 have fm : ((w8.alloc (.cells (Yq20 e0 d0 C e1 d1 e2 d2 e3 d3 F b1 y1 b2 y2 b3 y3 b4 y4 b5 y5 b6 y6 b7 y7 yl b8 y8) 143)).alloc (.cells (madeCells #[.map none] C.rows.length) 239)).frozen? ⟨w8.heap.size, 13, none⟩ = false := free_of ((grows (a := (w8.alloc (.cells (Yq20 e0 d0 C e1 d1 e2 d2 e3 d3 F b1 y1 b2 y2 b3 y3 b4 y4 b5 y5 b6 y6 b7 y7 yl b8 y8) 143))) (b := ((w8.alloc (.cells (Yq20 e0 d0 C e1 d1 e2 d2 e3 d3 F b1 y1 b2 y2 b3 y3 b4 y4 b5 y5 b6 y6 b7 y7 yl b8 y8) 143)).alloc (.cells (madeCells #[.map none] C.rows.length) 239)))).heap HB9.out)
 go_wp2_with (refine wpList_store_cellH rfl 141 (.tmp 22) (.tmp 20) rfl w8.heap.size 13 (.slice none 0 0) (.slice (some ⟨w8.heap.size + 1, 0, none⟩) C.rows.length C.rows.length) rfl (by simp [go_sem]) (by kernel_rfl) rfl (m13 _) fm ?_)
 intro w11 hw11
 have hw11 := hw11.out
 have HB11 : Hid (w11.heap[w8.heap.size]? = some (.cells #[.slice e0 C.rows.length d0, .slice e1 C.nx.length d1, .slice e2 C.df.length d2, .slice e3 C.rg.length d3, .string F.nm, .slice b1 F.P.hs.length y1, .slice b2 F.P.md.length y2, .slice b3 F.rs.length y3, .slice b4 F.ac.length y4, .slice b5 F.ts.length y5, .slice b6 F.ss.length y6, .slice b7 yl y7, .slice b8 F.P.dp.length y8, .slice (some ⟨w8.heap.size + 1, 0, none⟩) C.rows.length C.rows.length, .bool true] 143 (0, 0))) := Lh (by
  rw [hw11]; exact (grows (a := w8.alloc (.cells #[.slice e0 C.rows.length d0, .slice e1 C.nx.length d1, .slice e2 C.df.length d2, .slice e3 C.rg.length d3, .string F.nm, .slice b1 F.P.hs.length y1, .slice b2 F.P.md.length y2, .slice b3 F.rs.length y3, .slice b4 F.ac.length y4, .slice b5 F.ts.length y5, .slice b6 F.ss.length y6, .slice b7 yl y7, .slice b8 F.P.dp.length y8, .slice (some ⟨w8.heap.size + 1, 0, none⟩) C.rows.length C.rows.length, .bool true] 143))).heap (aH w8 (.cells #[.slice e0 C.rows.length d0, .slice e1 C.nx.length d1, .slice e2 C.df.length d2, .slice e3 C.rg.length d3, .string F.nm, .slice b1 F.P.hs.length y1, .slice b2 F.P.md.length y2, .slice b3 F.rs.length y3, .slice b4 F.ac.length y4, .slice b5 F.ts.length y5, .slice b6 F.ss.length y6, .slice b7 yl y7, .slice b8 F.P.dp.length y8, .slice (some ⟨w8.heap.size + 1, 0, none⟩) C.rows.length C.rows.length, .bool true] 143)))
 have X811 : Hid (Ext w8 w11) := Lh (by rw [hw11]; exact grows)
 have XW11 : Hid (Ext W w11) := Lh ((grows (a := W) (b := w8)).trans X811.out)
 have hsz11 : w11.heap.size = w8.heap.size + 2 := by rw [hw11]; simp
 have HIX : Hid (w11.ownsRow 0 239 1 (.slice (some ⟨w8.heap.size + 1, 0, none⟩) C.rows.length C.rows.length) C.rows.length (List.replicate C.rows.length (.map none))) := Lh (by
  have h : ((w8.alloc (.cells #[.slice e0 C.rows.length d0, .slice e1 C.nx.length d1, .slice e2 C.df.length d2, .slice e3 C.rg.length d3, .string F.nm, .slice b1 F.P.hs.length y1, .slice b2 F.P.md.length y2, .slice b3 F.rs.length y3, .slice b4 F.ac.length y4, .slice b5 F.ts.length y5, .slice b6 F.ss.length y6, .slice b7 yl y7, .slice b8 F.P.dp.length y8, .slice (some ⟨w8.heap.size + 1, 0, none⟩) C.rows.length C.rows.length, .bool true] 143)).alloc (.cells (madeCells #[.map none] C.rows.length) 239)).ownsRow 0 239 1 (.slice (some ⟨(w8.alloc (.cells #[.slice e0 C.rows.length d0, .slice e1 C.nx.length d1, .slice e2 C.df.length d2, .slice e3 C.rg.length d3, .string F.nm, .slice b1 F.P.hs.length y1, .slice b2 F.P.md.length y2, .slice b3 F.rs.length y3, .slice b4 F.ac.length y4, .slice b5 F.ts.length y5, .slice b6 F.ss.length y6, .slice b7 yl y7, .slice b8 F.P.dp.length y8, .slice (some ⟨w8.heap.size + 1, 0, none⟩) C.rows.length C.rows.length, .bool true] 143)).heap.size, 0, none⟩) C.rows.length C.rows.length) C.rows.length (List.replicate C.rows.length (.map none)) :=
   ⟨by simp, .inr ⟨_, C.rows.length, _, rfl, Nat.zero_le _, aH _ _, Nat.le_refl _, by unfold maxLen; omega, by simp [size_madeCells], by rw [toList_madeCells_one]; simp⟩⟩
  rw [szA] at h
  rw [hw11]; exact h)
 have HC11 : Hid (Tj.CfgO ((W.alloc (.cells (Yq0 F a1 m1 a2 m2 a3 m3 a4 m4 a5 m5 a6 m6 a7 m7 n7 a8 m8) 31)).alloc (.cells (Yq7 r0 c0 C r1 c1 r2 c2 r3 c3) 45)).heap.size w11 (.slice e0 C.rows.length d0) (.slice e1 C.nx.length d1) (.slice e2 C.df.length d2) (.slice e3 C.rg.length d3) vs C) := Lh ((HCF.out.kp (Kp.ext (grows (a := w7) (b := w8)))).kp (Kp.ext X811.out))
 have HH11 : Hid (Held w7.heap.size w8.heap.size w11 (fun w => Tj.IsG w ⟨.string F.nm, .slice b1 F.P.hs.length y1, .slice b2 F.P.md.length y2, .slice b3 F.rs.length y3, .slice b4 F.ac.length y4, .slice b5 F.ts.length y5, .slice b6 F.ss.length y6, .slice b7 yl y7, .slice b8 F.P.dp.length y8⟩ F)) := Lh (HHD.out.ext X811.out)
 clear hw11 fm m13 m0 HB9
 have s11 : Step W w11 := ⟨XW11.out⟩
 have p0 := alw (cQ 0 HB11.out)
 go_wp2_with fail
 go_loopw [29] (fun c wr => ∃ k : Nat, k ≤ C.rows.length ∧ c = .int .i64 k ∧ Hid (∃ ms, Tj.LdI w11 (w8.heap.size + 1) C.rows.length C.rows k ms wr)) (fun c _ => C.rows.length - (intOf c).toNat)
 case atStart =>
  refine ⟨0, Nat.zero_le _, rfl, Lh ⟨_, ⟨Mod.of_ext grows, own_now HIX.out, fun i rs hi => by omega, fun i j b hi => ?_, fun i b hi => ?_⟩⟩⟩
  ·have := List.mem_of_getElem? hi; rw [List.mem_replicate] at this; simp at this
  ·have := List.mem_of_getElem? hi; rw [List.mem_replicate] at this; simp at this
 case round =>
  obtain ⟨k, hk, rfl, HZ⟩ := hrel
  obtain ⟨ms, hld⟩ := HZ.out
  have HLD := Lh hld
  clear hld HZ p0
  by_cases hlt : k < C.rows.length
  ·obtain ⟨rs, hx⟩ : ∃ x, C.rows[k]? = some x := ⟨_, gE hlt⟩
   have hrl := (HI.out.cb.r1 rs (List.mem_of_getElem? hx)).1
   obtain ⟨ic, hio⟩ := own_obj HIX.out
   have HKP : Hid (Kp Tj.CfT w11 wr) := Lh (Kp.box HLD.out.m hio (by decide))
   have hbr := HLD.out.m.heap HB11.out (by omega)
   have HRX : Hid (∀ w, Ext wr w → Calls Tryz.prog 107 #[.pointer (some ⟨w8.heap.size, 0, none⟩), .int .i64 k] w (RixP w (.slice (some ⟨w8.heap.size + 1, 0, none⟩) C.rows.length C.rows.length) C.rows.length k ms rs)) := Lh (fun w hw =>
    reindex_any (w := w) (sp := w8.heap.size) (n := C.rows.length) (t := k) (q := ⟨.string F.nm, .slice b1 F.P.hs.length y1, .slice b2 F.P.md.length y2, .slice b3 F.rs.length y3, .slice b4 F.ac.length y4, .slice b5 F.ts.length y5, .slice b6 F.ss.length y6, .slice b7 yl y7, .slice b8 F.P.dp.length y8⟩) (hw.heap hbr) (((HC11.out.rows.low (Nat.zero_le _)).kp HKP.out).kp (Kp.ext hw)) hx hlt (own_ext HLD.out.o hw) hrl hnb)
   have HX := Lh hx
   clear hx hio hbr
   go_wp2_with fail
   refine (HRX.out _ grows).mono ?_
   intro e w12 hpost
   obtain ⟨rfl, ms', hld'⟩ := Tj.LdI.step HLD.out (by omega) hlt HX.out hpost
   have HLD' := Lh hld'
   clear hld' hpost
   go_wp2_with fail
   go_roundw
   case rel => exact ⟨k + 1, by omega, by go_num, Lh ⟨ms', HLD'.out⟩⟩
   case measure => simp [intOf]; omega
  ·obtain rfl : k = C.rows.length := by omega
   go_wp2_with fail
   go_ret
   have hmr := HLD.out.m
   obtain ⟨ic, hio⟩ := own_obj HIX.out
   have hkp : Kp Tj.CfT w11 wr := Kp.box hmr hio (by decide)
   have hcr := HC11.out.kp hkp
   have hW := XW11.out.le
   refine ⟨w8.heap.size, rfl, XW11.out.mod hmr (fun q hq => by have := grows_le (a := W) (b := w8); omega), fun k => W.heap.size ≤ k ∧ k < wr.heap.size ∧ k ≠ w8.heap.size ∧ (k < w7.heap.size ∨ w8.heap.size ≤ k), w7.heap.size, w8.heap.size, ⟨.slice e0 C.rows.length d0, .slice e1 C.nx.length d1, .slice e2 C.df.length d2, .slice e3 C.rg.length d3, .slice (some ⟨w8.heap.size + 1, 0, none⟩) C.rows.length C.rows.length, ⟨.string F.nm, .slice b1 F.P.hs.length y1, .slice b2 F.P.md.length y2, .slice b3 F.rs.length y3, .slice b4 F.ac.length y4, .slice b5 F.ts.length y5, .slice b6 F.ss.length y6, .slice b7 yl y7, .slice b8 F.P.dp.length y8⟩⟩, grows_le (a := W) (b := w8), grows_le (a := W) (b := w7), fun k hk => ⟨hk.1, hk.2.1⟩, hmr.heap HB11.out (by omega), fun k hk => ⟨hk.2.1, hk.2.2.1⟩, vs, ms, ?_⟩
   have hw1 := hmr.size
   have hin : ∀ {k : Nat}, ((W.alloc (.cells (Yq0 F a1 m1 a2 m2 a3 m3 a4 m4 a5 m5 a6 m6 a7 m7 n7 a8 m8) 31)).alloc (.cells (Yq7 r0 c0 C r1 c1 r2 c2 r3 c3) 45)).heap.size ≤ k → k < w7.heap.size → W.heap.size ≤ k ∧ k < wr.heap.size ∧ k ≠ w8.heap.size ∧ (k < w7.heap.size ∨ w8.heap.size ≤ k) := fun h1 h2 => by
    simp only [szA] at h1; exact ⟨by omega, by omega, by omega, .inl h2⟩
   refine ⟨hcr.low (Nat.zero_le _), HH11.out.mod hmr (fun k hk => .inr (by omega)), fun k hk => hk.2.2.2, HLD.out.o, fun i hi => by rw [Tj.ixs_at (gE hi)]; exact HLD.out.mm i _ hi (gE hi), HLD.out.mj, fun k hk => ?_, fun k hk => ?_, fun k hk => ?_, fun k hk => ?_, fun i v k hi hk => ?_, fun i b hi => ?_, HI.out, HSZ.out⟩
   ·exact hin (row_ge HCF.out.rows.r0 hk) (row_lt HCF.out.rows.r0 hk)
   ·exact hin (row_ge HCF.out.nx.1 hk) (row_lt HCF.out.nx.1 hk)
   ·exact hin (Tj.OL.block HCF.out.df hk).1 (Tj.OL.block HCF.out.df hk).2
   ·simp only [Value.ownBlock, Option.some.injEq] at hk
    subst hk
    exact ⟨by have := grows_le (a := W) (b := w8); omega, by omega, by omega, .inr (by omega)⟩
   ·obtain ⟨rs, hr⟩ := HCF.out.rows.ro i v hi
    have := Tj.OL.block (HCF.out.rows.r1 i v rs hi hr) hk
    exact hin this.1 this.2
   ·have := HLD.out.mb i b hi
    exact ⟨by omega, this.2, by omega, .inr (by omega)⟩
end Go.Proofs.YthmokhkkdgnbhaaGreat
