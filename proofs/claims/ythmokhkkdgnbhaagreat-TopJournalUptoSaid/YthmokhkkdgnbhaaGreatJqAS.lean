/- The log: Len, Bytes, Config, walked. The log: Commit's closure, walked. The log: Commit, walked. The log: replay, walked. Lists of transactions: their bytes and what they do, plainly. Open, walked. The equality functions of lists of integers and of calls, walked on equal data. The reference's SameKey and Equal of entries, walked on equal data. The reference's EqualRows and Equal of configurations, walked on equal data. The reference's Equal of configurations, walked on equal data. No condition. -/
import Derived.Test.YthmokhkkdgnbhaaGreatJqAR
import Derived.BigQuiet
set_option maxRecDepth 8000
set_option maxHeartbeats 16000000
namespace Go.Proofs.YthmokhkkdgnbhaaGreat
open Go.RowKit
theorem jlen_any {W0 w : World} {g : Nat} {p : Pg.PV} {F : Tj.FP} {C : Tj.Cfg} {bs : List Int} {n : Nat} (h : LogM W0 w g p F C bs n) : Calls Tryz.prog 12 #[.pointer (some ⟨g, 0, none⟩)] w (Rets w (.int .i64 (n : Int))) := by
 obtain ⟨hx, hgW, hG, d0, d1, d2, d3, rv, hb, ⟨hcs, hone⟩, ho, hby⟩ := h
 obtain ⟨y0, y1, y2, y3, y4, y5, y6, y7, y8⟩ := p
 have k15 := alw (cQ 15 hb)
 have e0 : ∀ w', (binOp .eql 37 (.pointer (some ⟨g, 0, none⟩)) (.pointer none)).run Tryz.prog w' = .ok (.bool false) w' := fun _ => rfl
 clear hx hgW hG hb hcs hone ho hby
 go_enter Tryz.func12, Tryz.ntmps12
 go_wp2_with fail
 go_ret
 exact ⟨rfl, eR _⟩
theorem mk_byt (n : Nat) (h : n ≤ 1073741824) (w : World) : (Instr.makeSlice 48 (.int .i64 (n : Int)) (.int .i64 (n : Int))).run Tryz.prog w = .ok (.slice (some ⟨w.heap.size, 0, none⟩) n n) (w.alloc (.cells (madeCells #[.int .u8 0] n) 5)) :=
 run_make_row' _ _ _ 1 Tryz.underlying48 cinf_byt rfl _ _ n (by omega) (by omega) w
theorem jbytes_any {W0 w : World} {g : Nat} {p : Pg.PV} {F : Tj.FP} {C : Tj.Cfg} {bs : List Int} {n : Nat} (h : LogM W0 w g p F C bs n) (hl : bs.length ≤ 1073741824) : Calls Tryz.prog 8 #[.pointer (some ⟨g, 0, none⟩)] w (RowP w 5 1 bs.length (u8s bs)) := by
 obtain ⟨hx, hgW, hG, d0, d1, d2, d3, rv, hb, ⟨hcs, hone⟩, ho, hby⟩ := h
 obtain ⟨y0, y1, y2, y3, y4, y5, y6, y7, y8⟩ := p
 obtain ⟨ra, rc, rfl⟩ := own_slice ho
 have k14 := alw (cQ 14 hb)
 have HS := Lh (own_src ho (u8s_one bs))
 have hmk := mk_byt bs.length hl
 have e0 : ∀ w', (binOp .eql 37 (.pointer (some ⟨g, 0, none⟩)) (.pointer none)).run Tryz.prog w' = .ok (.bool false) w' := fun _ => rfl
 clear hx hgW hG hb hcs hone ho hby
 have HG5 := Lh (aH w (.cells (madeCells #[.int .u8 0] bs.length) 5))
 have HSRC5 := Lh (HS.out.ext ((eR w).alloc (.cells (madeCells #[.int .u8 0] bs.length) 5)))
 have HSZ := Lh (size_madeCells #[.int .u8 0] bs.length)
 go_enter Tryz.func8, Tryz.ntmps8
 go_wp2_with (refine wpList_copy_full rfl (.tmp 12) (.tmp 16) 48 48 5 1 w.heap.size bs.length (.slice ra bs.length rc) (u8s bs) (madeCells #[.int .u8 0] bs.length) 5 rfl Tryz.underlying48 (by kernel_rfl) rfl rfl HSRC5.out HG5.out (by rw [HSZ.out]; simp) ?_)
 intro w6 hm6 hb6
 have HX6 := Lh (((eR w).alloc (.cells (madeCells #[.int .u8 0] bs.length) 5)).mod hm6 (fun i hi => by omega))
 have HO6 : Hid (w6.ownsRow w.heap.size 5 1 (.slice (some ⟨w.heap.size, 0, none⟩) bs.length bs.length) bs.length (u8s bs)) := Lh ⟨by rw [u8s_len, Nat.mul_one], .inr ⟨w.heap.size, bs.length, _, rfl, Nat.le_refl _, hb6, Nat.le_refl _, by unfold maxLen; omega, by simp [u8s_len], by rw [Nat.mul_one]; exact List.take_of_length_le (by rw [u8s_len]; exact Nat.le_refl _)⟩⟩
 clear hm6 hb6
 go_wp2_with fail
 go_ret
 exact ⟨_, rfl, HX6.out, HO6.out⟩
namespace Jn
/-- what a log says of its configuration -/
def conf (F : Tj.FP) (C : Tj.Cfg) : Tj.Cfg := if Tj.cfgE F C = 0 then C else ⟨[], [], [], []⟩
theorem CfgS_nil (w : World) : Tj.CfgS w (.agg (Yq5 )) ⟨[], [], [], []⟩ := fun w' _ => ⟨_, _, _, _, rfl, .inl ⟨rfl, rfl⟩, ⟨⟨⟨rfl, by simp, .inl ⟨rfl, rfl⟩⟩, by simp⟩, fun x hx => by cases hx⟩, .inl ⟨rfl, rfl⟩, .inl ⟨rfl, rfl⟩⟩
end Jn
theorem jconfig_any {W0 wq : World} {g : Nat} {p : Pg.PV} {F : Tj.FP} {C : Tj.Cfg} {bs : List Int} {n : Nat} (h : LogM W0 wq g p F C bs n) (hz : Tj.Sz F) (hI : Tj.Inv F C) : Calls Tryz.prog 7 #[.pointer (some ⟨g, 0, none⟩)] wq (fun e w' => ∃ d0 d1 d2 d3, e = .returned (.agg #[d0, d1, d2, d3]) ∧ Ext wq w' ∧ Tj.CfgS w' (.agg #[d0, d1, d2, d3]) (Jn.conf F C)) := by
 obtain ⟨hx, hgW, hG, d0, d1, d2, d3, rv, hb, ⟨hcs, hone⟩, ho, hby⟩ := h
 obtain ⟨y0, y1, y2, y3, y4, y5, y6, y7, y8⟩ := p
 have HLD := Lh (fun (w : World) (hw : Ext wq w) => sload_any (p := ⟨y0, y1, y2, y3, y4, y5, y6, y7, y8⟩) (hG.ext (hx.trans hw)) hz (hcs.now.ext hw) hI)
 have k0 := alw (cQ 0 hb)
 have k1 := alw (cQ 1 hb)
 have k2 := alw (cQ 2 hb)
 have k3 := alw (cQ 3 hb)
 have k4 := alw (cQ 4 hb)
 have k5 := alw (cQ 5 hb)
 have k6 := alw (cQ 6 hb)
 have k7 := alw (cQ 7 hb)
 have k8 := alw (cQ 8 hb)
 have k9 := alw (cQ 9 hb)
 have k10 := alw (cQ 10 hb)
 have k11 := alw (cQ 11 hb)
 have k12 := alw (cQ 12 hb)
 have k13 := alw (cQ 13 hb)
 have e0 : ∀ w', (binOp .eql 37 (.pointer (some ⟨g, 0, none⟩)) (.pointer none)).run Tryz.prog w' = .ok (.bool false) w' := fun _ => rfl
 have HRQ := Lh (aH wq (.cells (Yq5 ) 45))
 clear hx hgW hG hb hcs hone ho hby
 by_cases hz0 : Tj.cfgE F C = 0
 ·have HZ := Lh hz0
  have HCO : Hid (Jn.conf F C = C) := Lh (by unfold Jn.conf; rw [if_pos hz0])
  rw [HCO.out]
  clear hz0
  go_enter Tryz.func7, Tryz.ntmps7
  go_wp2_with fail
  refine Rel.region_tail (W := (wq.alloc (.cells (Yq5 ) 45))) 13 (Rel.tab [(8, fun v w => ∃ sp, v = .tuple #[.pointer (some ⟨sp, 0, none⟩), .int .i64 0] ∧ ∃ S lo hi V, Tj.St S lo hi sp V w F C)]) (Rel.tab_lasts (by intro p hp v w w' hr hx; simp only [List.mem_cons, List.not_mem_nil, or_false] at hp; subst hp; obtain ⟨sp, h1, S, lo, hi, V, h2⟩ := hr; exact ⟨sp, h1, S, lo, hi, V, h2.ext hx⟩)) (by kernel_rfl) (by kernel_rfl) (eR _) ?_
  simp only [tkS, tkZ]
  refine Rel.chunkT 8 rfl rfl rfl ?_
  simp only [tkS, tkZ, dpS, dpZ, Nat.reduceAdd]
  repeat (go_big_quiet_step (fail))
  refine wpQuiet_nil ?_
  refine Rel.callG _ rfl rfl rfl Tryz.func19 (by nofun) (by decide) #[.agg #[y0, y1, y2, y3, y4, y5, y6, y7, y8], .agg #[d0, d1, d2, d3]] rfl (fun w hx _ => by refine (HLD.out w ((grows (a := wq) (b := wq.alloc (.cells (Yq5 ) 45))).trans hx)).mono ?_; rintro e w9 ⟨h1, ⟨h2, _⟩ | ⟨_, sp, h3, S, lo, hi, V, _, _, _, h4⟩⟩; (· exact absurd HZ.out h2); exact ⟨_, h3, h1, sp, rfl, S, lo, hi, V, h4⟩) ?_
  intro u1 vq _ _ r1
  obtain ⟨sp, rfl, rq⟩ := r1
  clear rq
  simp only [Act.put, stA, stS, stZ]
  refine Rel.chunkT 4 rfl rfl rfl ?_
  simp only [tkS, tkZ, dpS, dpZ, Nat.reduceAdd]
  repeat (go_big_quiet_step (fail))
  refine wpQuiet_nil ?_
  refine Rel.fin ?_
  intro w7 x7 hf7
  obtain ⟨sp', hveq, S, lo, hi, V, hst⟩ := (hf7 8).2 rfl
  simp only [Value.tuple.injEq, Array.mk.injEq, List.cons.injEq, Value.pointer.injEq, Option.some.injEq, Addr.mk.injEq, and_true] at hveq
  subst hveq
  have HST := Lh hst
  have hrq := x7.heap HRQ.out
  have HRB7 := Lh hrq
  have HX7 := Lh ((grows (a := wq) (b := wq.alloc (.cells (Yq5 ) 45))).trans x7)
  clear hf7 hst hrq x7
  go_wp2_with fail
  refine (sconf_any HST.out).mono ?_
  rintro e w8 ⟨v0, v1, v2, v3, vs, rfl, x8, hco⟩
  obtain ⟨e0', c0', e1, c1, e2, c2, e3, c3, rfl, rfl, rfl, rfl⟩ := hco.form
  have HCF := Lh hco
  have HRB8 := Lh (x8.heap HRB7.out)
  have HX8 := Lh (HX7.out.trans x8)
  clear hco x8
  go_wp2_with (refine wpList_store_box rfl 45 (.tmp 2) (.tmp 31) rfl wq.heap.size #[.slice e0' C.rows.length c0', .slice e1 C.nx.length c1, .slice e2 C.df.length c2, .slice e3 C.rg.length c3] rfl rfl 45 (Yq5 ) HRB8.out (by kernel_rfl) rfl (by simp [Value.oneCell']) ?_)
  intro wf hmf hbf
  have q0 := cQ 0 hbf
  have q1 := cQ 1 hbf
  have q2 := cQ 2 hbf
  have q3 := cQ 3 hbf
  have HXF := Lh (HX8.out.mod hmf (fun i hi => by omega))
  have HCS : Hid (Tj.CfgS wf (.agg #[.slice e0' C.rows.length c0', .slice e1 C.nx.length c1, .slice e2 C.df.length c2, .slice e3 C.rg.length c3]) C) := Lh (fun w' k => ((HCF.out.kp (Kp.box hmf HRB8.out (by decide))).kp k).cfg)
  clear hmf hbf
  go_wp2_with fail
  exact bodyPost_ret (v := .agg #[.slice e0' C.rows.length c0', .slice e1 C.nx.length c1, .slice e2 C.df.length c2, .slice e3 C.rg.length c3]) (by simp [results, Tryz.results7, go_sem, q0, q1, q2, q3]) rfl ⟨_, _, _, _, rfl, HXF.out, HCS.out⟩
 ·have HCO : Hid (Jn.conf F C = ⟨[], [], [], []⟩) := Lh (by unfold Jn.conf; rw [if_neg hz0])
  rw [HCO.out]
  obtain ⟨ce, hce⟩ : ∃ z, z = Tj.cfgE F C := ⟨_, rfl⟩
  have HLB : Hid (∀ w, Ext wq w → Calls Tryz.prog 19 #[.agg #[y0, y1, y2, y3, y4, y5, y6, y7, y8], .agg #[d0, d1, d2, d3]] w (Rets w (.tuple #[.pointer none, .int .i64 ce]))) := Lh (fun w hw => (HLD.out w hw).mono (by
   rintro e w9 ⟨h1, ⟨_, h2⟩ | ⟨h2, _⟩⟩
   ·exact ⟨by rw [h2, hce], h1⟩
   ·exact absurd h2 hz0))
  have z1 : (ce != 0) = true := nT (by rw [hce]; exact hz0)
  clear hz0 hce HLD
  go_enter Tryz.func7, Tryz.ntmps7
  go_wp2_with fail
  refine wp_region_later (W := wq.alloc (.cells (Yq5 ) 45)) (by kernel_rfl) (by kernel_rfl) (eR _) ?_
  repeat (go_big_quiet_step (first | (go_at_call 19; exact Rets.later_at (HLB.out _ grows)) | fail))
  refine wpQuiet_nil ?_
  intro w7 x7
  have HRB8 := Lh (x7.heap HRQ.out)
  have HX8 := Lh ((grows (a := wq) (b := wq.alloc (.cells (Yq5 ) 45))).trans x7)
  clear x7
  go_wp2_with (refine wpList_store_box rfl 45 (.tmp 2) (.tmp 29) rfl wq.heap.size (Yq5 ) rfl rfl 45 (Yq5 ) HRB8.out (by kernel_rfl) rfl (by simp [Value.oneCell']) ?_)
  intro wf hmf hbf
  have q0 := cQ 0 hbf
  have q1 := cQ 1 hbf
  have q2 := cQ 2 hbf
  have q3 := cQ 3 hbf
  have HXF := Lh (HX8.out.mod hmf (fun i hi => by omega))
  clear hmf hbf
  go_wp2_with fail
  exact bodyPost_ret (v := .agg (Yq5 )) (by simp [results, Tryz.results7, go_sem, q0, q1, q2, q3]) rfl ⟨_, _, _, _, rfl, HXF.out, Jn.CfgS_nil _⟩
theorem st_one {w : World} {b o : Nat} {c : Array Value} {t : TypeId} {v : Value} (h1 : v.oneCell' = true) (hb : w.heap[b]? = some (.cells c t (0, 0))) (ho : o < c.size) : (store ⟨b, o, none⟩ v).run Tryz.prog w = .ok () (w.setCell ⟨b, o, none⟩ v) := by
 have hst := run_store Tryz.prog w ⟨b, o, none⟩ v .plain h1
 have hc : w.cell? ⟨b, o, none⟩ = some c[o] := by rw [cell_of hb]; exact Array.getElem?_eq_getElem ho
 rw [hc] at hst
 simpa [free_of (o := o) hb] using hst
/-- four cells stored -/
theorem st_four {w : World} {g o : Nat} {c : Array Value} {t : TypeId} {d0 d1 d2 d3 : Value} (hd : (#[d0, d1, d2, d3] : Array Value).all (·.oneCell') = true) (hb : w.heap[g]? = some (.cells c t (0, 0))) (ho : o + 4 ≤ c.size) :
 ∃ w1 w2 w3 w4, (store ⟨g, o, none⟩ d0).run Tryz.prog w = .ok () w1 ∧ (store ⟨g, o + 1, none⟩ d1).run Tryz.prog w1 = .ok () w2 ∧ (store ⟨g, o + 2, none⟩ d2).run Tryz.prog w2 = .ok () w3 ∧ (store ⟨g, o + 3, none⟩ d3).run Tryz.prog w3 = .ok () w4 ∧
  Mod (· = g) w w4 ∧ w4.heap[g]? = some (.cells ((((c.setIfInBounds o d0).setIfInBounds (o + 1) d1).setIfInBounds (o + 2) d2).setIfInBounds (o + 3) d3) t (0, 0)) := by
 obtain ⟨o0, o1, o2, o3⟩ : d0.oneCell' = true ∧ d1.oneCell' = true ∧ d2.oneCell' = true ∧ d3.oneCell' = true := by simpa using hd
 have b1 := setCell_heap (o := o) (v := d0) hb
 have b2 := setCell_heap (o := o + 1) (v := d1) b1
 have b3 := setCell_heap (o := o + 2) (v := d2) b2
 have b4 := setCell_heap (o := o + 3) (v := d3) b3
 exact ⟨_, _, _, _, st_one o0 hb (by omega), st_one o1 b1 (by simp; omega), st_one o2 b2 (by simp; omega), st_one o3 b3 (by simp; omega),
  Mod.setCell (S := fun k => k = g) (p := ⟨g, o + 3, none⟩) (Mod.setCell (S := fun k => k = g) (p := ⟨g, o + 2, none⟩) (Mod.setCell (S := fun k => k = g) (p := ⟨g, o + 1, none⟩) (Mod.setCell (S := fun k => k = g) (p := ⟨g, o, none⟩) (Mod.refl _ _) (.inl rfl) _) (.inl rfl) _) (.inl rfl) _) (.inl rfl) _, b4⟩
theorem jc1_ok {w : World} {q0 q1 q2 : Nat} (h : w.heap[q1]? = some (.cells #[.int .i64 0] 38 (0, 0))) : CallsD Tryz.prog 21 #[.pointer (some ⟨q1, 0, none⟩), .pointer (some ⟨q2, 0, none⟩), .pointer (some ⟨q0, 0, none⟩)] .returning w fun e u' w' => u' = .returning ∧ e = .returned (.tuple #[]) ∧ w' = w := by
 have k0 := alw (cQ 0 h)
 refine callsD_of_wp Tryz.func21 rfl ?_
 show Code.wp _ _ _ { tmps := #[.pointer (some ⟨q1, 0, none⟩), .pointer (some ⟨q2, 0, none⟩), .pointer (some ⟨q0, 0, none⟩), undef, undef, undef, undef, undef, undef], defers := [] } _
 go_wp2_with fail
 exact ⟨rfl, .tuple #[], by simp [results, Tryz.results21, go_sem], rfl, rfl⟩
theorem jc1_bad {w : World} {q0 q1 q2 g : Nat} {er : Int} {x0 x1 x2 x3 d0 d1 d2 d3 y0 y1 y2 y3 y4 y5 y6 y7 y8 rv nv : Value} (h : w.heap[q1]? = some (.cells #[.int .i64 er] 38 (0, 0))) (he : er ≠ 0)
 (h2 : w.heap[q2]? = some (.cells #[d0, d1, d2, d3] 45 (0, 0))) (h0 : w.heap[q0]? = some (.cells #[.pointer (some ⟨g, 0, none⟩)] 37 (0, 0))) (hb : w.heap[g]? = some (.cells #[.bool true, y0, y1, y2, y3, y4, y5, y6, y7, y8, x0, x1, x2, x3, rv, nv] 75 (0, 0))) (hd : (#[d0, d1, d2, d3] : Array Value).all (·.oneCell') = true) :
 CallsD Tryz.prog 21 #[.pointer (some ⟨q1, 0, none⟩), .pointer (some ⟨q2, 0, none⟩), .pointer (some ⟨q0, 0, none⟩)] .returning w fun e u' w' => u' = .returning ∧ e = .returned (.tuple #[]) ∧ Mod (· = g) w w' ∧ w'.heap[g]? = some (.cells #[.bool true, y0, y1, y2, y3, y4, y5, y6, y7, y8, d0, d1, d2, d3, rv, nv] 75 (0, 0)) := by
 have k0 := alw (cQ 0 h)
 have k3 := alw (cQ 0 h0)
 have kd0 := alw (cQ 0 h2)
 have kd1 := alw (cQ 1 h2)
 have kd2 := alw (cQ 2 h2)
 have kd3 := alw (cQ 3 h2)
 obtain ⟨w1, w2, w3, w4, r0, r1, r2, r3, hm4, hb4⟩ := st_four (o := 10) hd hb (by simp)
 have HM4 := Lh hm4
 have HB4 := Lh hb4
 have z1 : (er != 0) = true := nT he
 clear h h2 h0 hb he hm4 hb4
 refine callsD_of_wp Tryz.func21 rfl ?_
 show Code.wp _ _ _ { tmps := #[.pointer (some ⟨q1, 0, none⟩), .pointer (some ⟨q2, 0, none⟩), .pointer (some ⟨q0, 0, none⟩), undef, undef, undef, undef, undef, undef], defers := [] } _
 go_wp2_with fail
 exact ⟨rfl, .tuple #[], by simp [results, Tryz.results21, go_sem], rfl, HM4.out, HB4.out⟩
/-- the blocks that a log's change may touch -/
abbrev KL : List TypeId := [67, 209, 118, 45, 68, 3, 63, 151, 61]
def SL (W0 w : World) (k : Nat) : Prop := W0.heap.size ≤ k ∧ ∀ c t f, w.heap[k]? = some (.cells c t f) → t ∉ KL
theorem SL.kp {W0 w w' : World} (h : Mod (SL W0 w) w w') : Kp KL w w' := Kp.mod h (fun _ cur t f hS hk => hS.2 cur t f hk)
theorem SL.of {W0 w : World} {k : Nat} {c : Array Value} {t : TypeId} {f : Nat × Nat} (hg : w.heap[k]? = some (.cells c t f)) (h : W0.heap.size ≤ k) (ht : t ∉ KL) : SL W0 w k := ⟨h, fun c' t' f' h' => by
 rw [hg] at h'; simp only [Option.some.injEq, Obj.cells.injEq] at h'; obtain ⟨_, rfl, _⟩ := h'; exact ht⟩
/-- what a commit leaves -/
def CommP (W0 w : World) (g : Nat) (p : Pg.PV) (F : Tj.FP) (C : Tj.Cfg) (bs : List Int) (n : Nat) (l : List Tj.TOp) (e : Ending) (w' : World) : Prop := ∃ (idv : Value) (at_ : Int), e = .returned (.tuple #[idv, .int .i64 at_, .int .i64 (Tj.txnE F C l)]) ∧ Mod (SL W0 w) w w' ∧
 (Tj.txnE F C l ≠ 0 → LogM W0 w' g p F C bs n) ∧ (Tj.txnE F C l = 0 → LogM W0 w' g p F (Tj.runsC C l) (bs ++ Cs.fr (Jn.enc l)) (n + 1))
theorem Cs.fr_bytes {l : List Int} (h : Io.Bytes l) (hl : l.length ≤ 1073741824) : Io.Bytes (Cs.fr l) :=
 Jn.bytes_app (Jn.bytes_app (Cs.wd_bytes ⟨by omega, by omega⟩) h) (Cs.wd_bytes (Cs.fn_u32 _))
abbrev Yq21 (s0 : Option Addr) (t0 : Nat) (C : Tj.Cfg) (s1 : Option Addr) (t1 : Nat) (s2 : Option Addr) (t2 : Nat) (s3 : Option Addr) (t3 : Nat) : Array Value := #[.slice s0 C.rows.length t0, .slice s1 C.nx.length t1, .slice s2 C.df.length t2, .slice s3 C.rg.length t3]
theorem jcommit_any {W0 w : World} {g : Nat} {p : Pg.PV} {F : Tj.FP} {C : Tj.Cfg} {bs : List Int} {n : Nat} (h : LogM W0 w g p F C bs n) (hz : Tj.Sz F) (hI : Tj.Inv F C) (hn : n ≤ 1000000) (hbl : bs.length ≤ 536870912)
 {lv : Value} {l : List Tj.TOp} (hl : ∀ w', Mod (SL W0 w) w w' → Rows w' 9 Tj.TOpR lv l) : Calls Tryz.prog 9 #[.pointer (some ⟨g, 0, none⟩), lv] w (CommP W0 w g p F C bs n l) := by
 obtain ⟨hx, hgW, hG, d0, d1, d2, d3, rv, hb, ⟨hcs, hone⟩, ho, hby⟩ := h
 obtain ⟨y0, y1, y2, y3, y4, y5, y6, y7, y8⟩ := p
 obtain ⟨la, lc, rfl, _⟩ := (hl w (Mod.refl _ _)).slice
 obtain ⟨ra, rc, rfl⟩ := own_slice ho
 obtain ⟨s0, t0, s1, t1, s2, t2, s3, t3, hde, _⟩ := hcs.now.form
 simp only [Value.agg.injEq, Array.mk.injEq, List.cons.injEq, and_true] at hde
 obtain ⟨rfl, rfl, rfl, rfl⟩ := hde
 have HAP : Hid (∀ w', Ext w w' → Calls Tryz.prog 22 #[.agg #[y0, y1, y2, y3, y4, y5, y6, y7, y8], .agg (Yq21 s0 t0 C s1 t1 s2 t2 s3 t3), .slice la l.length lc] w' (ApP w' F C l)) := Lh (fun w' hw => tapply_any (p := ⟨y0, y1, y2, y3, y4, y5, y6, y7, y8⟩) (hG.ext (hx.trans hw)) hz (hcs.now.ext hw) hI (hl w' (Mod.of_ext hw)))
 have HL := Lh hl
 have HX := Lh hx
 have HG := Lh hG
 have HCS := Lh hcs
 have HONE := Lh hone
 have HO := Lh ho
 have HBY := Lh hby
 have HSZ := Lh hz
 have HINV := Lh hI
 have HB := Lh hb
 have hgl := lt_of_block hb
 have hmf : ∀ (fn : Fn) (first cap : Array Value) (w : World), (Instr.makeFunc fn first cap).run Tryz.prog w = .ok (.func fn first cap) w := fun _ _ _ _ => rfl
 have e0 : ∀ w', (binOp .eql 37 (.pointer (some ⟨g, 0, none⟩)) (.pointer none)).run Tryz.prog w' = .ok (.bool false) w' := fun _ => rfl
 have kg0 := alw (cQ 0 hb)
 have kg10 := alw (cQ 10 hb)
 have kg11 := alw (cQ 11 hb)
 have kg12 := alw (cQ 12 hb)
 have kg13 := alw (cQ 13 hb)
 have ba := aH w (.cells #[.pointer (some ⟨g, 0, none⟩)] 37)
 have a0 := alw (cQ 0 ba)
 have xa : Ext w (((w.alloc (.cells #[.pointer (some ⟨g, 0, none⟩)] 37)).alloc (.cells #[.int .i64 0] 38)).alloc (.cells (Yq21 s0 t0 C s1 t1 s2 t2 s3 t3) 45)) := grows
 have bA : (((w.alloc (.cells #[.pointer (some ⟨g, 0, none⟩)] 37)).alloc (.cells #[.int .i64 0] 38)).alloc (.cells (Yq21 s0 t0 C s1 t1 s2 t2 s3 t3) 45)).heap[w.heap.size]? = some (.cells #[.pointer (some ⟨g, 0, none⟩)] 37 (0, 0)) := (grows (a := w.alloc (.cells #[.pointer (some ⟨g, 0, none⟩)] 37)) (b := (((w.alloc (.cells #[.pointer (some ⟨g, 0, none⟩)] 37)).alloc (.cells #[.int .i64 0] 38)).alloc (.cells (Yq21 s0 t0 C s1 t1 s2 t2 s3 t3) 45)))).heap ba
 have bB : (((w.alloc (.cells #[.pointer (some ⟨g, 0, none⟩)] 37)).alloc (.cells #[.int .i64 0] 38)).alloc (.cells (Yq21 s0 t0 C s1 t1 s2 t2 s3 t3) 45)).heap[w.heap.size + 1]? = some (.cells #[.int .i64 0] 38 (0, 0)) := by
  have h := (grows (a := (w.alloc (.cells #[.pointer (some ⟨g, 0, none⟩)] 37)).alloc (.cells #[.int .i64 0] 38)) (b := (((w.alloc (.cells #[.pointer (some ⟨g, 0, none⟩)] 37)).alloc (.cells #[.int .i64 0] 38)).alloc (.cells (Yq21 s0 t0 C s1 t1 s2 t2 s3 t3) 45)))).heap (aH (w.alloc (.cells #[.pointer (some ⟨g, 0, none⟩)] 37)) (.cells #[.int .i64 0] 38))
  rw [szA] at h; exact h
 have bC : (((w.alloc (.cells #[.pointer (some ⟨g, 0, none⟩)] 37)).alloc (.cells #[.int .i64 0] 38)).alloc (.cells (Yq21 s0 t0 C s1 t1 s2 t2 s3 t3) 45)).heap[w.heap.size + 1 + 1]? = some (.cells (Yq21 s0 t0 C s1 t1 s2 t2 s3 t3) 45 (0, 0)) := by
  have h := aH ((w.alloc (.cells #[.pointer (some ⟨g, 0, none⟩)] 37)).alloc (.cells #[.int .i64 0] 38)) (.cells (Yq21 s0 t0 C s1 t1 s2 t2 s3 t3) 45)
  rw [szA, szA] at h; exact h
 have bG := xa.heap hb
 clear hl hx hG hcs hone ho hby hz hI hb ba
 go_enter_defers Tryz.func9, Tryz.ntmps9
 go_wp2_with fail
 obtain ⟨wa, hwa⟩ : ∃ z, z = (((w.alloc (.cells #[.pointer (some ⟨g, 0, none⟩)] 37)).alloc (.cells #[.int .i64 0] 38)).alloc (.cells (Yq21 s0 t0 C s1 t1 s2 t2 s3 t3) 45)) := ⟨_, rfl⟩
 rw [← hwa] at xa bA bB bC bG ⊢
 have HXA := Lh xa
 have HBA := Lh bA
 have HBB := Lh bB
 have HBC := Lh bC
 have HBG := Lh bG
 clear xa bA bB bC bG hwa a0 kg0 kg10 kg11 kg12 kg13
 obtain ⟨CC, hCC⟩ : ∃ z : World → Prop, z = (fun w' => w'.cell? ⟨w.heap.size, 0, none⟩ = some (.pointer (some ⟨g, 0, none⟩)) ∧ w'.cell? ⟨g, 1, none⟩ = some (y0) ∧ w'.cell? ⟨g, 2, none⟩ = some (y1) ∧ w'.cell? ⟨g, 3, none⟩ = some (y2) ∧ w'.cell? ⟨g, 4, none⟩ = some (y3) ∧ w'.cell? ⟨g, 5, none⟩ = some (y4) ∧ w'.cell? ⟨g, 6, none⟩ = some (y5) ∧ w'.cell? ⟨g, 7, none⟩ = some (y6) ∧ w'.cell? ⟨g, 8, none⟩ = some (y7) ∧ w'.cell? ⟨g, 9, none⟩ = some (y8) ∧ w'.cell? ⟨g, 10, none⟩ = some (.slice s0 C.rows.length t0) ∧ w'.cell? ⟨g, 11, none⟩ = some (.slice s1 C.nx.length t1) ∧ w'.cell? ⟨g, 12, none⟩ = some (.slice s2 C.df.length t2) ∧ w'.cell? ⟨g, 13, none⟩ = some (.slice s3 C.rg.length t3)) := ⟨_, rfl⟩
 have HCC := Lh hCC
 clear hCC
 refine RelD.region CC 18 (by kernel_rfl) ?_
 have cq0 : ∀ y : Wh CC, y.val.cell? ⟨w.heap.size, 0, none⟩ = some (.pointer (some ⟨g, 0, none⟩)) := fun y => by have h := Eq.mp (congrFun HCC.out y.val) y.out; exact h.1
 have cq1 : ∀ y : Wh CC, y.val.cell? ⟨g, 1, none⟩ = some (y0) := fun y => by have h := Eq.mp (congrFun HCC.out y.val) y.out; exact h.2.1
 have cq2 : ∀ y : Wh CC, y.val.cell? ⟨g, 2, none⟩ = some (y1) := fun y => by have h := Eq.mp (congrFun HCC.out y.val) y.out; exact h.2.2.1
 have cq3 : ∀ y : Wh CC, y.val.cell? ⟨g, 3, none⟩ = some (y2) := fun y => by have h := Eq.mp (congrFun HCC.out y.val) y.out; exact h.2.2.2.1
 have cq4 : ∀ y : Wh CC, y.val.cell? ⟨g, 4, none⟩ = some (y3) := fun y => by have h := Eq.mp (congrFun HCC.out y.val) y.out; exact h.2.2.2.2.1
 have cq5 : ∀ y : Wh CC, y.val.cell? ⟨g, 5, none⟩ = some (y4) := fun y => by have h := Eq.mp (congrFun HCC.out y.val) y.out; exact h.2.2.2.2.2.1
 have cq6 : ∀ y : Wh CC, y.val.cell? ⟨g, 6, none⟩ = some (y5) := fun y => by have h := Eq.mp (congrFun HCC.out y.val) y.out; exact h.2.2.2.2.2.2.1
 have cq7 : ∀ y : Wh CC, y.val.cell? ⟨g, 7, none⟩ = some (y6) := fun y => by have h := Eq.mp (congrFun HCC.out y.val) y.out; exact h.2.2.2.2.2.2.2.1
 have cq8 : ∀ y : Wh CC, y.val.cell? ⟨g, 8, none⟩ = some (y7) := fun y => by have h := Eq.mp (congrFun HCC.out y.val) y.out; exact h.2.2.2.2.2.2.2.2.1
 have cq9 : ∀ y : Wh CC, y.val.cell? ⟨g, 9, none⟩ = some (y8) := fun y => by have h := Eq.mp (congrFun HCC.out y.val) y.out; exact h.2.2.2.2.2.2.2.2.2.1
 have cq10 : ∀ y : Wh CC, y.val.cell? ⟨g, 10, none⟩ = some (.slice s0 C.rows.length t0) := fun y => by have h := Eq.mp (congrFun HCC.out y.val) y.out; exact h.2.2.2.2.2.2.2.2.2.2.1
 have cq11 : ∀ y : Wh CC, y.val.cell? ⟨g, 11, none⟩ = some (.slice s1 C.nx.length t1) := fun y => by have h := Eq.mp (congrFun HCC.out y.val) y.out; exact h.2.2.2.2.2.2.2.2.2.2.2.1
 have cq12 : ∀ y : Wh CC, y.val.cell? ⟨g, 12, none⟩ = some (.slice s2 C.df.length t2) := fun y => by have h := Eq.mp (congrFun HCC.out y.val) y.out; exact h.2.2.2.2.2.2.2.2.2.2.2.2.1
 have cq13 : ∀ y : Wh CC, y.val.cell? ⟨g, 13, none⟩ = some (.slice s3 C.rg.length t3) := fun y => by have h := Eq.mp (congrFun HCC.out y.val) y.out; exact h.2.2.2.2.2.2.2.2.2.2.2.2.2
 have HCa : Hid (CC wa.drew) := Lh (by rw [HCC.out]; exact ⟨cQ 0 HBA.out, cQ 1 HBG.out, cQ 2 HBG.out, cQ 3 HBG.out, cQ 4 HBG.out, cQ 5 HBG.out, cQ 6 HBG.out, cQ 7 HBG.out, cQ 8 HBG.out, cQ 9 HBG.out, cQ 10 HBG.out, cQ 11 HBG.out, cQ 12 HBG.out, cQ 13 HBG.out⟩)
 have hNE : Nonempty (Wh CC) := ⟨⟨_, HCa.out⟩⟩
 have hNT : Nonempty (Wh (fun _ : World => True)) := ⟨⟨wa, trivial⟩⟩
 refine RelD.chunkL (k' := 10) 10 12 (by kernel_rfl) rfl (by kernel_rfl) HCa.out ?_
 simp only [dpZ, tkS, tkZ]
 repeat (go_big_quiet_step (fail))
 refine wpQuiet_nil ?_
 refine RelD.realL (k' := 11) 11 (by kernel_rfl) rfl (by kernel_rfl) ?_
 simp only [dpZ, dpS, tkS, tkZ]
 go_wp2_with fail
 obtain ⟨R, hR⟩ : ∃ z, z = Tj.txnE F C l := ⟨_, rfl⟩
 refine (HAP.out _ (HXA.out.trans ((eR wa).drew))).mono ?_
 rintro e w3 ⟨x3, e0', e1, e2, e3, idv, at_, rfl, hone3, hcf⟩
 rw [← hR] at hcf ⊢
 have x3' : Ext wa w3 := ((eR wa).drew).trans x3
 have HX3 := Lh (HXA.out.trans x3')
 have HBA3 := Lh (x3'.heap HBA.out)
 have HBB3 := Lh (x3'.heap HBB.out)
 have HBC3 := Lh (x3'.heap HBC.out)
 have HBG3 := Lh (x3'.heap HBG.out)
 have HC3 : Hid (CC w3) := Lh (by rw [HCC.out]; exact ⟨cQ 0 HBA3.out, cQ 1 HBG3.out, cQ 2 HBG3.out, cQ 3 HBG3.out, cQ 4 HBG3.out, cQ 5 HBG3.out, cQ 6 HBG3.out, cQ 7 HBG3.out, cQ 8 HBG3.out, cQ 9 HBG3.out, cQ 10 HBG3.out, cQ 11 HBG3.out, cQ 12 HBG3.out, cQ 13 HBG3.out⟩)
 obtain ⟨w41, w42, w43, w4, r0, r1, r2, r3, hm4, hb4⟩ := st_four (g := g) (o := 10) hone3 HBG3.out (by simp)
 have HM4 := Lh hm4
 have HBG4 : Hid (w4.heap[g]? = some (.cells #[.bool true, y0, y1, y2, y3, y4, y5, y6, y7, y8, e0', e1, e2, e3, .slice ra bs.length rc, .int .i64 (n : Int)] 75 (0, 0))) := Lh hb4
 have HBA4 := Lh (hm4.heap HBA3.out (by omega))
 have HBB4 := Lh (hm4.heap HBB3.out (by omega))
 have HBC4 := Lh (hm4.heap HBC3.out (by omega))
 have HCF := Lh hcf
 have HR := Lh hR
 have HONE3 := Lh hone3
 have z0 : w4.cell? ⟨w.heap.size + 1, 0, none⟩ = some (.int .i64 0) := cQ 0 HBB4.out
 have zf : w4.frozen? ⟨w.heap.size + 1, 0, none⟩ = false := free_of HBB4.out
 clear x3 x3' hm4 hb4 hcf hR hone3
 go_wp2_with fail
 refine RelD.next_mk (fun _ => HC3.out) ?_
 refine RelD.chunkL (k' := 13) 2 9 (by kernel_rfl) rfl (by kernel_rfl) HC3.out ?_
 simp only [dpZ, dpS, tkS, tkZ]
 repeat (go_big_quiet_step (fail))
 refine wpQuiet_nil ?_
 refine RelD.oneT 13 8 rfl (by kernel_rfl) (fun _ => HC3.out) ?_
 simp only [dpZ, dpS, tkS, tkZ]
 repeat (go_big_quiet_step (fail))
 refine wpQuiet_nil ?_
 refine RelD.oneT 14 7 rfl (by kernel_rfl) (fun _ => HC3.out) ?_
 simp only [dpZ, dpS, tkS, tkZ]
 repeat (go_big_quiet_step (fail))
 refine wpQuiet_nil ?_
 refine RelD.oneT 15 6 rfl (by kernel_rfl) (fun _ => HC3.out) ?_
 simp only [dpZ, dpS, tkS, tkZ]
 repeat (go_big_quiet_step (fail))
 refine wpQuiet_nil ?_
 refine RelD.actL 16 5 rfl (by kernel_rfl) ?_
 simp only [dpZ, dpS, tkS, tkZ]
 go_wp2_with fail
 refine RelD.next_mk (fun _ => HC3.out) ?_
 refine RelD.actL 17 4 rfl (by kernel_rfl) ?_
 simp only [dpZ, dpS, tkS, tkZ]
 go_wp2_with fail
 refine RelD.next_mk (fun _ => HC3.out) ?_
 refine RelD.actL 18 3 rfl (by kernel_rfl) ?_
 simp only [dpZ, dpS, tkS, tkZ]
 go_wp2_with fail
 refine RelD.next_mk (fun h => absurd h (by decide)) ?_
 refine RelD.actL 19 2 rfl (by kernel_rfl) ?_
 simp only [dpZ, dpS, tkS, tkZ]
 go_wp2_with fail
 refine RelD.next_mk (fun h => absurd h (by decide)) ?_
 refine RelD.actL 20 1 rfl (by kernel_rfl) ?_
 simp only [dpZ, dpS, tkS, tkZ]
 go_wp2_with fail
 refine RelD.next_mk (fun h => absurd h (by decide)) ?_
 refine RelD.actL 21 0 rfl (by kernel_rfl) ?_
 simp only [dpZ, dpS, tkS, tkZ]
 go_wp2_with fail
 refine RelD.next_mk (fun h => absurd h (by decide)) ?_
 refine RelD.endL (by kernel_rfl) ?_
 obtain ⟨w5, hw5⟩ : ∃ z, z = w4.setCell ⟨w.heap.size + 1, 0, none⟩ (.int .i64 R) := ⟨_, rfl⟩
 have hm5 : Mod (· = w.heap.size + 1) w4 w5 := by rw [hw5]; exact Mod.setCell (S := fun k => k = w.heap.size + 1) (p := ⟨w.heap.size + 1, 0, none⟩) (Mod.refl _ _) (.inl rfl) _
 have HBB5 : Hid (w5.heap[w.heap.size + 1]? = some (.cells #[.int .i64 R] 38 (0, 0))) := Lh (by rw [hw5]; exact setCell_heap HBB4.out)
 rw [← hw5]
 have HBA5 := Lh (hm5.heap HBA4.out (by omega))
 have HBC5 := Lh (hm5.heap HBC4.out (by omega))
 have HBG5 := Lh (hm5.heap HBG4.out (by omega))
 have HM5 := Lh hm5
 have kr := alw (cQ 0 HBB5.out)
 clear hm5 hw5 r0 r1 r2 r3 z0 zf
 by_cases h0 : R = 0
 ·subst h0
  obtain ⟨hc0, h64, hr0, hok⟩ := Jn.txn_ok HSZ.out HINV.out HR.out.symm
  obtain ⟨vs, hco⟩ := HCF.out rfl
  have HMG5 : Hid (Mod (· = g) w w5) := Lh (((Mod.of_ext HX3.out).trans HM4.out).over HM5.out (fun i hi => by omega))
  have HMS5 : Hid (Mod (SL W0 w) w w5) := Lh (HMG5.out.mono (fun k _ hk => by subst hk; exact SL.of HB.out hgW (by decide)))
  have HRN : Hid (∀ k, (Value.slice ra bs.length rc).ownBlock = some k → k ≠ g ∧ SL W0 w k) := Lh (fun k hk => by
   obtain ⟨cur, h5⟩ := row_heap HO.out hk
   refine ⟨fun e => ?_, SL.of h5 (row_ge HO.out hk) (by decide)⟩
   subst e
   rw [HB.out] at h5; simp only [Option.some.injEq, Obj.cells.injEq] at h5; exact absurd h5.2.1 (by decide))
  have HO5 := Lh (own_mod HO.out HMG5.out (fun k hk e => (HRN.out k hk).1 e))
  have HEN : Hid (∀ w', Ext w5 w' → Calls Tryz.prog 24 #[.slice la l.length lc] w' (fun e w2 => ∃ ov, e = .returned ov ∧ Ext w' w2 ∧ w2.ownsRow w'.heap.size 5 1 ov (Jn.enc l).length (u8s (Jn.enc l)))) := Lh (fun w' hw => encode_any (HL.out w' (HMS5.out.trans (Mod.of_ext hw))) h64 hok)
  have HEB := Lh (Jn.enc_bytes h64 hok)
  have hel := Jn.enc_len h64 hok
  have HCO := Lh hco
  have HRO := Lh hr0
  clear hc0 hok hco hr0 h64
  go_wp2_with fail
  obtain ⟨DD, hDD⟩ : ∃ z : World → Prop, z = (fun w' => w'.cell? ⟨w.heap.size, 0, none⟩ = some (.pointer (some ⟨g, 0, none⟩)) ∧ w'.cell? ⟨g, 14, none⟩ = some (.slice ra bs.length rc)) := ⟨_, rfl⟩
  have HDD := Lh hDD
  clear hDD
  refine RelD.region DD 11 (by kernel_rfl) ?_
  have dq0 : ∀ y : Wh DD, y.val.cell? ⟨w.heap.size, 0, none⟩ = some (.pointer (some ⟨g, 0, none⟩)) := fun y => by have h := Eq.mp (congrFun HDD.out y.val) y.out; exact h.1
  have dq1 : ∀ y : Wh DD, y.val.cell? ⟨g, 14, none⟩ = some (.slice ra bs.length rc) := fun y => by have h := Eq.mp (congrFun HDD.out y.val) y.out; exact h.2
  have HDa : Hid (DD w5.drew) := Lh (by rw [HDD.out]; exact ⟨cQ 0 HBA5.out, cQ 14 HBG5.out⟩)
  have hND : Nonempty (Wh DD) := ⟨⟨_, HDa.out⟩⟩
  refine RelD.chunkL (k' := 6) 6 6 (by kernel_rfl) rfl (by kernel_rfl) HDa.out ?_
  simp only [dpZ, tkS, tkZ]
  repeat (go_big_quiet_step (fail))
  refine wpQuiet_nil ?_
  refine RelD.realL (k' := 7) 5 (by kernel_rfl) rfl (by kernel_rfl) ?_
  simp only [dpZ, dpS, tkS, tkZ]
  go_wp2_with fail
  refine (HEN.out _ ((eR w5).drew)).mono ?_
  rintro e w6 ⟨ov, rfl, x6, o6⟩
  have hb6 := Byt.of_own o6 HEB.out
  obtain ⟨va, vc, rfl⟩ := own_slice o6
  have X6 : Hid (Ext w5 w6) := Lh (((eR w5).drew).trans x6)
  have HFR : Hid (Calls Tryz.prog 23 #[.slice va (Jn.enc l).length vc] w6 (RowP w6 5 1 ((Jn.enc l).length + 8) (u8s (Cs.fr (Jn.enc l))))) := Lh (frame_any hb6 (by omega))
  have HD6 : Hid (DD w6) := Lh (by rw [HDD.out]; exact ⟨cQ 0 (X6.out.heap HBA5.out), cQ 14 (X6.out.heap HBG5.out)⟩)
  clear x6 o6 hb6
  go_wp2_with fail
  refine RelD.next_mk (fun _ => HD6.out) ?_
  refine RelD.realL (k' := 8) 4 (by kernel_rfl) rfl (by kernel_rfl) ?_
  simp only [dpZ, dpS, tkS, tkZ]
  go_wp2_with fail
  refine HFR.out.mono ?_
  rintro e w7 ⟨fv, rfl, x7, o7⟩
  obtain ⟨fa, fc, rfl⟩ := own_slice o7
  have X7 : Hid (Ext w5 w7) := Lh (X6.out.trans x7)
  have HA7 := Lh (X7.out.heap HBA5.out)
  have HG7 := Lh (X7.out.heap HBG5.out)
  have HQ7 := Lh (X7.out.heap HBB5.out)
  have HD7 : Hid (DD w7) := Lh (by rw [HDD.out]; exact ⟨cQ 0 HA7.out, cQ 14 HG7.out⟩)
  have HS7 := Lh (own_src o7 (u8s_one _))
  have HO7 := Lh (own_ext HO5.out X7.out)
  have hle7 : W0.heap.size ≤ w7.heap.size := by have h1 := HX.out.le; have h2 := HMG5.out.size; have h3 := X7.out.le; omega
  clear x7 o7
  go_wp2_with fail
  refine RelD.next_mk (fun _ => HD7.out) ?_
  refine RelD.realL (k' := 9) 3 (by kernel_rfl) rfl (by kernel_rfl) ?_
  simp only [dpZ, dpS, tkS, tkZ]
  go_wp2_with (at_builtin; refine wpList_append_fresh rfl (.tmp 48) (.tmp 51) 48 rfl W0.heap.size 5 (.int .u8 0) 1 1 Tryz.underlying48 cinf_byt rfl (by decide) (.slice ra bs.length rc) bs.length (u8s bs) rfl HO7.out _ ((Jn.enc l).length + 8) (u8s (Cs.fr (Jn.enc l))) rfl HS7.out (by unfold maxLen; omega) (by omega) hle7 ?_)
  intro v' w8 hown hgr hfr
  have HMR8 : Hid (Mod (fun k => (Value.slice ra bs.length rc).ownBlock = some k) w7 w8) := Lh ((grown_mod hgr).mono (fun _ _ h => h.symm))
  have HK8 : Hid (Kp Tj.CfT w7 w8) := Lh (Kp.grown hgr HO7.out (by decide))
  have HA8 := Lh (grown_at hgr HO7.out HA7.out (by decide))
  have HG8 := Lh (grown_at hgr HO7.out HG7.out (by decide))
  have HQ8 := Lh (grown_at hgr HO7.out HQ7.out (by decide))
  have HO8 := Lh hown
  have HD8 : Hid (DD w8) := Lh (by rw [HDD.out]; exact ⟨cQ 0 HA8.out, cQ 14 HG8.out⟩)
  have z14 : w8.cell? ⟨g, 14, none⟩ = some (.slice ra bs.length rc) := cQ 14 HG8.out
  have zf : w8.frozen? ⟨g, 14, none⟩ = false := free_of HG8.out
  obtain ⟨na, nc, rfl⟩ := own_slice hown
  clear hown hgr hfr
  go_wp2_with fail
  refine RelD.next_mk (fun _ => HD8.out) ?_
  refine RelD.realL (k' := 10) 2 (by kernel_rfl) rfl (by kernel_rfl) ?_
  simp only [dpZ, dpS, tkS, tkZ]
  go_wp2_with fail
  refine RelD.next_mk (fun _ => HD8.out) ?_
  refine RelD.realL (k' := 11) 1 (by kernel_rfl) rfl (by kernel_rfl) ?_
  simp only [dpZ, dpS, tkS, tkZ]
  go_wp2_with fail
  refine RelD.next_mk (fun _ => HD8.out) ?_
  refine RelD.realL (k' := 12) 0 (by kernel_rfl) rfl (by kernel_rfl) ?_
  simp only [dpZ, dpS, tkS, tkZ]
  go_wp2_with fail
  refine RelD.next_mk (fun h => absurd h (by decide)) ?_
  refine RelD.doneL (by kernel_rfl) (by kernel_rfl) ?_
  obtain ⟨w9, hw9⟩ : ∃ z, z = w8.setCell ⟨g, 14, none⟩ (.slice na (bs.length + ((Jn.enc l).length + 8)) nc) := ⟨_, rfl⟩
  have hm9 : Mod (· = g) w8 w9 := by rw [hw9]; exact Mod.setCell (S := fun k => k = g) (p := ⟨g, 14, none⟩) (Mod.refl _ _) (.inl rfl) _
  have HG9 : Hid (w9.heap[g]? = some (.cells #[.bool true, y0, y1, y2, y3, y4, y5, y6, y7, y8, e0', e1, e2, e3, .slice na (bs.length + ((Jn.enc l).length + 8)) nc, .int .i64 (n : Int)] 75 (0, 0))) := Lh (by rw [hw9]; exact setCell_heap HG8.out)
  rw [← hw9]
  have HM9 := Lh hm9
  have HA9 := Lh (hm9.heap HA8.out (by omega))
  have HQ9 := Lh (hm9.heap HQ8.out (by omega))
  have ka := alw (cQ 0 HA9.out)
  have k15 := alw (cQ 15 HG9.out)
  have f15 : w9.frozen? ⟨g, 15, none⟩ = false := free_of HG9.out
  have hm10 : Mod (· = g) w9 (w9.setCell ⟨g, 15, none⟩ (.int .i64 ((n : Int) + 1))) := Mod.setCell (S := fun k => k = g) (p := ⟨g, 15, none⟩) (Mod.refl _ _) (.inl rfl) _
  have HG10 : Hid ((w9.setCell ⟨g, 15, none⟩ (.int .i64 ((n : Int) + 1))).heap[g]? = some (.cells #[.bool true, y0, y1, y2, y3, y4, y5, y6, y7, y8, e0', e1, e2, e3, .slice na (bs.length + ((Jn.enc l).length + 8)) nc, .int .i64 ((n : Int) + 1)] 75 (0, 0))) := Lh (setCell_heap HG9.out)
  have HQ10 := Lh (hm10.heap HQ9.out (by omega))
  have HM10 := Lh hm10
  have zq : (w9.setCell ⟨g, 15, none⟩ (.int .i64 ((n : Int) + 1))).cell? ⟨w.heap.size + 1, 0, none⟩ = some (.int .i64 0) := cQ 0 HQ10.out
  have fq : (w9.setCell ⟨g, 15, none⟩ (.int .i64 ((n : Int) + 1))).frozen? ⟨w.heap.size + 1, 0, none⟩ = false := free_of HQ10.out
  clear hw9 hm9 hm10 z14 zf
  go_wp2_with fail
  obtain ⟨w11, hw11⟩ : ∃ z, z = (w9.setCell ⟨g, 15, none⟩ (.int .i64 ((n : Int) + 1))).setCell ⟨w.heap.size + 1, 0, none⟩ (.int .i64 0) := ⟨_, rfl⟩
  have hm11 : Mod (· = w.heap.size + 1) (w9.setCell ⟨g, 15, none⟩ (.int .i64 ((n : Int) + 1))) w11 := by rw [hw11]; exact Mod.setCell (S := fun k => k = w.heap.size + 1) (p := ⟨w.heap.size + 1, 0, none⟩) (Mod.refl _ _) (.inl rfl) _
  have g1 : w11.heap[w.heap.size + 1]? = some (.cells #[.int .i64 0] 38 (0, 0)) := by rw [hw11]; exact setCell_heap HQ10.out
  rw [← hw11]
  have ce1 := cQ 0 g1
  have FIN : Hid (CommP W0 w g ⟨y0, y1, y2, y3, y4, y5, y6, y7, y8⟩ F C bs n l (.returned (.tuple #[idv, .int .i64 0, .int .i64 0])) w11) := Lh (by
   have hg1 : SL W0 w g := SL.of HB.out hgW (by decide)
   have hms : Mod (SL W0 w) w w11 := (((((HMS5.out.trans (Mod.of_ext X7.out)).trans (HMR8.out.mono (fun k _ hk => (HRN.out k hk).2))).trans (HM9.out.mono (fun k _ hk => by rw [hk]; exact hg1))).trans (HM10.out.mono (fun k _ hk => by rw [hk]; exact hg1)))).over hm11 (fun i hi => by omega)
   have hk : Kp Tj.CfT w3 w11 := (((((Kp.box HM4.out HBG3.out (by decide)).trans (Kp.box HM5.out HBB4.out (by decide))).trans (Kp.ext X7.out)).trans HK8.out).trans (Kp.box HM9.out HG8.out (by decide))).trans ((Kp.box HM10.out HG9.out (by decide)).trans (Kp.box hm11 HQ10.out (by decide)))
   have hk8 : Kp [5] w8 w11 := (Kp.box HM9.out HG8.out (by decide)).trans ((Kp.box HM10.out HG9.out (by decide)).trans (Kp.box hm11 HQ10.out (by decide)))
   have ho : w11.ownsRow W0.heap.size 5 1 (.slice na (bs.length + ((Jn.enc l).length + 8)) nc) (bs ++ Cs.fr (Jn.enc l)).length (u8s (bs ++ Cs.fr (Jn.enc l))) := by
    rw [List.length_append, Cs.fr_len, u8s_app]
    exact own_kp HO8.out hk8 (by simp)
   refine ⟨_, _, by rw [← HR.out], hms, fun h => absurd HR.out.symm h, fun _ => ⟨HX.out.mod hms (fun i hi => hi.1), hgW, HG.out, _, _, _, _, _, hm11.heap HG10.out (by omega), ⟨(HCO.out.cfgS).kp hk, HONE3.out⟩, ho, Jn.bytes_app HBY.out (Cs.fr_bytes HEB.out (by omega))⟩⟩)
  clear hw11 hm11
  refine leaves_cons (f := 21) (args := #[.pointer (some ⟨w.heap.size + 1, 0, none⟩), .pointer (some ⟨w.heap.size + 1 + 1, 0, none⟩), .pointer (some ⟨w.heap.size, 0, none⟩)]) (by simp) (by simp [go_sem]) ?_
  refine (jc1_ok (q0 := w.heap.size) (q2 := w.heap.size + 1 + 1) g1).mono ?_
  rintro e u' w'' ⟨rfl, rfl, rfl⟩
  simp [Leaves, settle, results, Tryz.results9, go_sem, ce1]
  exact FIN.out
 ·have z1 : (R != 0) = true := nT h0
  have HNZ := Lh h0
  clear h0
  go_wp2_with fail
  obtain ⟨DD, hDD⟩ : ∃ z : World → Prop, z = (fun w' => w'.cell? ⟨w.heap.size + 1, 0, none⟩ = some (.int .i64 R)) := ⟨_, rfl⟩
  have HDD := Lh hDD
  clear hDD
  refine RelD.region DD 4 (by kernel_rfl) ?_
  have dq0 : ∀ y : Wh DD, y.val.cell? ⟨w.heap.size + 1, 0, none⟩ = some (.int .i64 R) := fun y => by have h := Eq.mp (congrFun HDD.out y.val) y.out; exact h
  have HDa : Hid (DD w5.drew) := Lh (by rw [HDD.out]; exact cQ 0 HBB5.out)
  have hND : Nonempty (Wh DD) := ⟨⟨_, HDa.out⟩⟩
  refine RelD.chunkL (k' := 4) 4 1 (by kernel_rfl) rfl (by kernel_rfl) HDa.out ?_
  simp only [dpZ, tkS, tkZ]
  repeat (go_big_quiet_step (fail))
  refine wpQuiet_nil ?_
  refine RelD.realL (k' := 5) 0 (by kernel_rfl) rfl (by kernel_rfl) ?_
  simp only [dpZ, dpS, tkS, tkZ]
  have z0 : w5.drew.cell? ⟨w.heap.size + 1, 0, none⟩ = some (.int .i64 R) := cQ 0 HBB5.out
  have zf : w5.drew.frozen? ⟨w.heap.size + 1, 0, none⟩ = false := free_of HBB5.out
  go_wp2_with fail
  refine RelD.next_mk (fun h => absurd h (by decide)) ?_
  refine RelD.doneL (by kernel_rfl) (by kernel_rfl) ?_
  obtain ⟨w6, hw6⟩ : ∃ z, z = (w5.setCell ⟨w.heap.size + 1, 0, none⟩ (.int .i64 R)).drew := ⟨_, rfl⟩
  have hm6 : Mod (· = w.heap.size + 1) w5 w6 := by rw [hw6]; exact (Mod.setCell (S := fun k => k = w.heap.size + 1) (p := ⟨w.heap.size + 1, 0, none⟩) (Mod.refl _ _) (.inl rfl) _).drew
  have g1 : w6.heap[w.heap.size + 1]? = some (.cells #[.int .i64 R] 38 (0, 0)) := by rw [hw6]; exact setCell_heap HBB5.out
  rw [← hw6]
  have gA := hm6.heap HBA5.out (by omega)
  have gC := hm6.heap HBC5.out (by omega)
  have gG := hm6.heap HBG5.out (by omega)
  have HMG6 : Hid (Mod (· = g) w w6) := Lh ((((Mod.of_ext HX3.out).trans HM4.out).over HM5.out (fun i hi => by omega)).over hm6 (fun i hi => by omega))
  have hcd := jc1_bad g1 HNZ.out gC gA gG HONE.out
  have HG1 := Lh g1
  clear hw6 hm6 g1 gA gC gG z0 zf
  go_wp2_with fail
  refine leaves_cons (f := 21) (args := #[.pointer (some ⟨w.heap.size + 1, 0, none⟩), .pointer (some ⟨w.heap.size + 1 + 1, 0, none⟩), .pointer (some ⟨w.heap.size, 0, none⟩)]) (by simp) (by simp [go_sem]) ?_
  refine hcd.mono ?_
  rintro e u' w'' ⟨rfl, rfl, hm, hgf⟩
  have ce1 := cQ 0 (hm.heap HG1.out (by omega))
  have FIN : Hid (CommP W0 w g ⟨y0, y1, y2, y3, y4, y5, y6, y7, y8⟩ F C bs n l (.returned (.tuple #[.slice none 0 0, .int .i64 at_, .int .i64 R])) w'') := Lh (by
   have hmg := HMG6.out.trans hm
   have hms : Mod (SL W0 w) w w'' := hmg.mono (fun k _ hk => by subst hk; exact SL.of HB.out hgW (by decide))
   refine ⟨_, _, by rw [← HR.out], hms, fun _ => ⟨HX.out.mod hmg (fun i hi => by rw [hi]; exact hgW), hgW, HG.out, _, _, _, _, _, hgf, ⟨HCS.out.kp ((SL.kp hms).sub (by decide)), HONE.out⟩, own_mod HO.out hmg (fun k hk e => ?_), HBY.out⟩, fun h => absurd (HR.out.trans h) HNZ.out⟩
   subst e
   obtain ⟨cur, h5⟩ := row_heap HO.out hk
   rw [HB.out] at h5; simp only [Option.some.injEq, Obj.cells.injEq] at h5; exact absurd h5.2.1 (by decide))
  clear hm hcd hgf
  simp [Leaves, settle, results, Tryz.results9, go_sem, ce1]
  exact FIN.out
theorem jreplay_any {W0 w : World} {g : Nat} {p : Pg.PV} {F : Tj.FP} {C : Tj.Cfg} {bs : List Int} {n : Nat} (h : LogM W0 w g p F C bs n) (hz : Tj.Sz F) (hI : Tj.Inv F C) (hn : n ≤ 1000000) (hbl : bs.length ≤ 536870912)
 {v : Value} {l : List Tj.TOp} (hv : Byt w v (Jn.enc l)) (h64 : l.length ≤ 64) (hok : ∀ o ∈ l, Jn.ok o ∧ Jn.us o) (ht : Tj.txnE F C l = 0) :
 Calls Tryz.prog 30 #[.pointer (some ⟨g, 0, none⟩), v] w (fun e w' => e = .returned (.int .i64 0) ∧ Mod (fun k => W0.heap.size ≤ k) w w' ∧ LogM W0 w' g p F (Tj.runsC C l) (bs ++ Cs.fr (Jn.enc (l.map Jn.norm))) (n + 1)) := by
 have HDE : Hid (Calls Tryz.prog 72 #[v] w (DecP w (l.map Jn.norm))) := Lh (decode_any hv h64 hok)
 have HCM : Hid (∀ w1 va vc, Ext w w1 → Jn.OpsO w.heap.size w1 (.slice va (l.map Jn.norm).length vc) (l.map Jn.norm) → Calls Tryz.prog 9 #[.pointer (some ⟨g, 0, none⟩), .slice va (l.map Jn.norm).length vc] w1 (CommP W0 w1 g p F C bs n (l.map Jn.norm))) := Lh (fun w1 va vc hx ho => jcommit_any (h.ext hx) hz hI hn hbl (fun w' hm => (ho.kp ((SL.kp hm).sub (by decide))).rows))
 have hT : Tj.txnE F C (l.map Jn.norm) = 0 := by rw [Jn.norm_txn (fun o ho => (hok o ho).1)]; exact ht
 have hR : Tj.runsC C (l.map Jn.norm) = Tj.runsC C l := (Jn.norm_runs (F := F) l C (fun o ho => (hok o ho).1)).2
 have HT := Lh hT
 have HRR := Lh hR
 obtain ⟨a, c, rfl, _, _⟩ := hv.pre
 clear h hz hI hv hok ht hT hR
 go_enter Tryz.func30, Tryz.ntmps30
 go_wp2_with fail
 refine HDE.out.mono ?_
 rintro e w1 ⟨va, vc, rfl, x1, o1⟩
 have HC1 := Lh (HCM.out w1 va vc x1 o1)
 have HX1 := Lh x1
 obtain ⟨m, hm⟩ : ∃ z, z = (l.map Jn.norm).length := ⟨_, rfl⟩
 rw [← hm] at HC1 ⊢
 clear x1 o1 hm HCM
 go_wp2_with fail
 refine HC1.out.mono ?_
 rintro e w2 ⟨idv, at_, rfl, hms, _, hlg⟩
 have hlg := hlg HT.out
 rw [HRR.out] at hlg
 have HLG := Lh hlg
 have HMS : Hid (Mod (fun k => W0.heap.size ≤ k) w w2) := Lh ((Mod.of_ext HX1.out).trans (hms.mono (fun k _ hk => hk.1)))
 rw [HT.out]
 clear hms hlg
 go_wp2_with fail
 go_ret
 exact ⟨rfl, HMS.out, HLG.out⟩
namespace Jn
open Tj
/-- the bytes of transactions; what they lead to -/
def bsOf (T : List (List TOp)) : List Int := T.flatMap (fun l => Cs.fr (enc l))
def cfgOf (F : FP) (T : List (List TOp)) : Cfg := T.foldl runsC (empty F)
/-- transactions that all succeed, from C on -/
def Good (F : FP) : Cfg → List (List TOp) → Prop
 | _, [] => True
 | C, l :: T => (txnE F C l = 0 ∧ ∀ o ∈ l, us o) ∧ Good F (runsC C l) T
theorem good_at {F : FP} (hz : Sz F) : ∀ (T : List (List TOp)) (C : Cfg) (j : Nat), Inv F C → Good F C T → Inv F ((T.take j).foldl runsC C) ∧ ∀ l, T[j]? = some l → txnE F ((T.take j).foldl runsC C) l = 0 ∧ ∀ o ∈ l, us o
 | [], C, j, hI, _ => ⟨by simpa using hI, fun l h => by simp at h⟩
 | x :: T, C, 0, hI, h => ⟨hI, fun l hl => by simp at hl; subst hl; exact h.1⟩
 | x :: T, C, j + 1, hI, h => by
  have h2 := txn_ok hz hI h.1.1
  exact good_at hz T (runsC C x) j (runs_inv hz x C hI h2.2.2.1) h.2
theorem good_snoc {F : FP} : ∀ (T : List (List TOp)) (C : Cfg) (l : List TOp), Good F C T → txnE F (T.foldl runsC C) l = 0 → (∀ o ∈ l, us o) → Good F C (T ++ [l])
 | [], _, _, _, h1, h2 => ⟨⟨h1, h2⟩, trivial⟩
 | _ :: T, _, l, h, h1, h2 => ⟨h.1, good_snoc T _ l h.2 h1 h2⟩
theorem bs_nil : bsOf [] = [] := rfl
theorem bs_app (a b : List (List TOp)) : bsOf (a ++ b) = bsOf a ++ bsOf b := List.flatMap_append
theorem bs_one (l : List TOp) : bsOf [l] = Cs.fr (enc l) := by simp [bsOf]
theorem bs_take {T : List (List TOp)} {j : Nat} {l : List TOp} (h : T[j]? = some l) : bsOf (T.take (j + 1)) = bsOf (T.take j) ++ Cs.fr (enc l) := by
 rw [take_succ_get h, bs_app, bs_one]
theorem cfg_take {F : FP} {T : List (List TOp)} {j : Nat} {l : List TOp} (h : T[j]? = some l) : cfgOf F (T.take (j + 1)) = runsC (cfgOf F (T.take j)) l := by
 unfold cfgOf; rw [take_succ_get h, List.foldl_append]; rfl
theorem bs_split {T : List (List TOp)} (j : Nat) : bsOf T = bsOf (T.take j) ++ bsOf (T.drop j) := by rw [← bs_app, List.take_append_drop]
/-- what stands behind the first j records, in the first k bytes -/
theorem bs_rest {T : List (List TOp)} {j k : Nat} : ((bsOf T).take k).drop (bsOf (T.take j)).length = (bsOf (T.drop j)).take (k - (bsOf (T.take j)).length) := by
 rw [bs_split (T := T) j, List.drop_take, List.drop_left]
theorem bs_cons {T : List (List TOp)} {j : Nat} {l : List TOp} (h : T[j]? = some l) : bsOf (T.drop j) = Cs.fr (enc l) ++ bsOf (T.drop (j + 1)) := by
 have hlt := (List.getElem?_eq_some_iff.1 h).1
 rw [List.drop_eq_getElem_cons hlt, (List.getElem?_eq_some_iff.1 h).2]; rfl
theorem bs_len {T : List (List TOp)} (h : ∀ l ∈ T, (enc l).length ≤ 300000) : (bsOf T).length ≤ T.length * 300008 :=
 flat_len (f := fun l => Cs.fr (enc l)) (fun l hl => by rw [Cs.fr_len]; have := h l hl; omega)
theorem good_enc {F : FP} (hz : Sz F) {T : List (List TOp)} {C : Cfg} (hI : Inv F C) (h : Good F C T) : ∀ l ∈ T, (enc l).length ≤ 300000 ∧ l.length ≤ 64 ∧ ∀ o ∈ l, ok o ∧ us o := fun l hl => by
 obtain ⟨j, hj⟩ := List.getElem?_of_mem hl
 obtain ⟨h1, h2⟩ := good_at hz T C j hI h
 obtain ⟨h3, h4⟩ := h2 l hj
 obtain ⟨_, h5, _, h6⟩ := txn_ok hz h1 h3
 exact ⟨enc_len h5 h6, h5, fun o ho => ⟨h6 o ho, h4 o ho⟩⟩
/-- a record that is cut -/
theorem fr_cut {l : List Int} {m : Nat} {r : List Int} (hl : l.length ≤ 1073741824) (hm : m < (Cs.fr l).length) : ((Cs.fr l ++ r).take m).length < 8 ∨ (((Cs.fr l ++ r).take m).length : Int) - 8 < Cs.nm (((Cs.fr l ++ r).take m).take 4) := by
 have h1 : (Cs.fr l ++ r).take m = (Cs.fr l).take m := List.take_append_of_le_length (Nat.le_of_lt hm)
 rw [h1, List.length_take, Nat.min_eq_left (Nat.le_of_lt hm)]
 rw [Cs.fr_len] at hm
 by_cases h8 : m < 8
 ·exact .inl h8
 ·right
  have h2 : ((Cs.fr l).take m).take 4 = Cs.wd l.length := by
   rw [List.take_take, Nat.min_eq_left (by omega)]; rfl
  rw [h2, Cs.nm_wd ⟨by omega, by omega⟩]; omega
end Jn
namespace Jn
theorem eOp_norm {o : Tj.TOp} (h : ok o) : eOp (norm o) = eOp o := by
 obtain ⟨_, h⟩ := h
 rcases h with ⟨hk, _⟩ | ⟨hk, _⟩ | ⟨hk, _⟩ | ⟨hk, _⟩ <;> simp [norm, eOp, hk]
theorem enc_norm {l : List Tj.TOp} (h : ∀ o ∈ l, ok o) : enc (l.map norm) = enc l := by
 unfold enc
 rw [List.length_map]
 congr 1
 induction l with
 | nil => rfl
 | cons x l ih =>
  rw [List.map_cons, List.flatMap_cons, List.flatMap_cons, eOp_norm (h x (List.mem_cons_self ..)), ih (fun o ho => h o (List.mem_cons_of_mem _ ho))]
end Jn
/-- what opening leaves */ -/
def OpenP (W : World) (F : Tj.FP) (T : List (List Tj.TOp)) (k : Nat) (e : Ending) (w' : World) : Prop := ∃ (g : Nat) (q : Pg.PV) (W0 : World) (j u : Nat) (bs : List Int), e = .returned (.tuple #[.pointer (some ⟨g, 0, none⟩), .int .i64 (u : Int), .int .i64 0]) ∧ Ext W w' ∧ Ext W W0 ∧
 LogM W0 w' g q F (Jn.cfgOf F (T.take j)) bs j ∧ j ≤ T.length ∧ u ≤ k ∧ (k = (Jn.bsOf T).length → j = T.length) ∧ u = (Jn.bsOf (T.take j)).length
theorem jopen_any {W : World} {p : Pg.PV} {F : Tj.FP} (hG : Tj.IsG W p F) (hz : Tj.Sz F) (hc : Tj.chkF F = 0) {T : List (List Tj.TOp)} (hT : Jn.Good F (Tj.empty F) T) (hT10 : T.length ≤ 10) {v : Value} {k : Nat} (hk : k ≤ (Jn.bsOf T).length) (hv : Byt W v ((Jn.bsOf T).take k)) :
 Calls Tryz.prog 11 #[p.val, v] W (OpenP W F T k) := by
 have hLk : ((Jn.bsOf T).take k).length = k := by rw [List.length_take]; omega
 obtain ⟨a, c, rfl, hc1, hc2⟩ := hv.pre
 have HH : Hid (∀ u : Nat, u ≤ k → ∃ o, (∀ w, (Instr.sliceAt 48 (.slice a k c) (some (.int .i64 (u : Int))) none none).run Tryz.prog w = .ok (.slice o (k - u) (c - u)) w) ∧ Byt W (.slice o (k - u) (c - u)) (((Jn.bsOf T).take k).drop u)) := Lh (fun u hu => by
  have h := hv.hi (s := u) (by rw [hLk]; exact hu)
  rw [hLk] at h; exact h)
 rw [hLk] at hc1 ⊢
 have HLK := Lh hLk
 have HNW : Hid (∀ w, Ext W w → Calls Tryz.prog 6 #[p.val] w (fun e w' => ∃ g q W0, e = .returned (.tuple #[.pointer (some ⟨g, 0, none⟩), .int .i64 0]) ∧ Ext w w' ∧ Ext w W0 ∧ LogM W0 w' g q F (Tj.empty F) [] 0)) := Lh (fun w hx => (jnew_any (hG.ext hx) hz).mono (by
  rintro e w' ⟨hx, ⟨h, _⟩ | ⟨_, g, q, W0, h1, h2, h3⟩⟩
  ·exact absurd hc h
  ·exact ⟨g, q, W0, h1, hx, h2, h3⟩))
 have hI0 := Jn.empty_inv hz hc
 have HGA : Hid (∀ j, Tj.Inv F (Jn.cfgOf F (T.take j)) ∧ ∀ l, T[j]? = some l → Tj.txnE F (Jn.cfgOf F (T.take j)) l = 0 ∧ ∀ o ∈ l, Jn.us o) := Lh (fun j => Jn.good_at hz T (Tj.empty F) j hI0 hT)
 have HGE := Lh (Jn.good_enc hz hI0 hT)
 have HSZ := Lh hz
 have HKB := Lh hk
 have hkm : k ≤ 9223372036854775807 := by omega
 obtain ⟨hF, _⟩ := hG
 obtain ⟨a1, a2, a3, a4, a5, a6, a7, a8, m1, m2, m3, m4, m5, m6, n7, m7, m8, hf⟩ := hF.form
 obtain ⟨rfl, hnm, hhs, hmd, hrs, has, hts, hss, hct, hdp, l1, l2, l3, l4, l5, l6, l7, l8⟩ := hf
 dsimp only [Pg.PV.val] at *
 clear hF hnm hhs hmd hrs has hts hss hct hdp hz hc hT hI0 hv hLk hk
 have bx := aH W (.cells (Yq0 F a1 m1 a2 m2 a3 m3 a4 m4 a5 m5 a6 m6 a7 m7 n7 a8 m8) 31)
 have k0 := alw (cQ 0 bx)
 have k1 := alw (cQ 1 bx)
 have k2 := alw (cQ 2 bx)
 have k3 := alw (cQ 3 bx)
 have k4 := alw (cQ 4 bx)
 have k5 := alw (cQ 5 bx)
 have k6 := alw (cQ 6 bx)
 have k7 := alw (cQ 7 bx)
 have k8 := alw (cQ 8 bx)
 clear bx
 go_enter Tryz.func11, Tryz.ntmps11
 go_wp2_with fail
 refine (HNW.out _ grows).mono ?_
 rintro e w3 ⟨g, q, W0, rfl, x3, x0, hlg⟩
 have HX3 := Lh ((grows (a := W) (b := W.alloc (.cells (Yq0 F a1 m1 a2 m2 a3 m3 a4 m4 a5 m5 a6 m6 a7 m7 n7 a8 m8) 31))).trans x3)
 have HX0 := Lh ((grows (a := W) (b := W.alloc (.cells (Yq0 F a1 m1 a2 m2 a3 m3 a4 m4 a5 m5 a6 m6 a7 m7 n7 a8 m8) 31))).trans x0)
 have HLG := Lh hlg
 clear x3 x0 hlg
 go_wp2_with fail
 go_loopw [4, 5] (fun pv qv wr => pv = .pointer (some ⟨g, 0, none⟩) ∧ ∃ j u : Nat, j ≤ T.length ∧ u ≤ k ∧ qv = .int .i64 (u : Int) ∧ Hid (∃ bs : List Int, LogM W0 wr g q F (Jn.cfgOf F (T.take j)) bs j ∧ bs.length ≤ j * 300008 ∧ Ext W wr ∧ u = (Jn.bsOf (T.take j)).length)) (fun _ qv _ => k - (intOf qv).toNat)
 case atStart => exact ⟨rfl, 0, 0, Nat.zero_le _, Nat.zero_le _, rfl, Lh ⟨[], HLG.out, by simp, HX3.out, rfl⟩⟩
 case round =>
  obtain ⟨rfl, j, u, hj, hu, rfl, HQ⟩ := hrel
  obtain ⟨bs, hlg, hbl, hxr, hue⟩ := HQ.out
  have HL := Lh hlg
  have HXR := Lh hxr
  have sR : Step W wr := Sm hxr
  have HUE := Lh hue
  have hbl2 : bs.length ≤ 3000080 := by omega
  have HBL := Lh hbl
  clear hlg hxr hue hbl HQ
  by_cases hlt : u < k
  ·obtain ⟨o, q1, b1⟩ := HH.out u hu
   have b2 := b1
   rw [show ((Jn.bsOf T).take k).drop u = (Jn.bsOf (T.drop j)).take (k - u) by rw [HUE.out]; exact Jn.bs_rest] at b2
   obtain ⟨a1', c1', e1', _⟩ := b1.pre
   have hrl : (((Jn.bsOf T).take k).drop u).length = k - u := by rw [List.length_drop, HLK.out]
   have hjl : j < T.length := by
    rcases Nat.lt_or_ge j T.length with h | h
    ·exact h
    ·exfalso
     rw [show ((Jn.bsOf T).take k).drop u = (Jn.bsOf (T.drop j)).take (k - u) by rw [HUE.out]; exact Jn.bs_rest, List.drop_eq_nil_of_le h, Jn.bs_nil] at hrl
     simp at hrl; omega
   obtain ⟨x, hx⟩ : ∃ x, T[j]? = some x := ⟨_, gE hjl⟩
   obtain ⟨hel, h64, hok⟩ := HGE.out x (List.mem_of_getElem? hx)
   obtain ⟨hinv, hga⟩ := HGA.out j
   obtain ⟨htx, _⟩ := hga x hx
   rw [Jn.bs_cons hx] at b2
   by_cases hm : (Cs.fr (Jn.enc x)).length ≤ k - u
   ·rw [show (Cs.fr (Jn.enc x) ++ Jn.bsOf (T.drop (j + 1))).take (k - u) = Cs.fr (Jn.enc x) ++ (Jn.bsOf (T.drop (j + 1))).take (k - u - (Cs.fr (Jn.enc x)).length) by rw [List.take_append, List.take_of_length_le hm]] at b2
    rw [Cs.fr_len] at hm
    have HUF := Lh (fun (w : World) (hw : Ext W w) => unframe_any (b2.ext hw) (by omega))
    have HRP : Hid (∀ w vb, Ext wr w → Byt w vb (Jn.enc x) → Calls Tryz.prog 30 #[.pointer (some ⟨g, 0, none⟩), vb] w (fun e w' => e = .returned (.int .i64 0) ∧ Mod (fun k => W0.heap.size ≤ k) w w' ∧ LogM W0 w' g q F (Tj.runsC (Jn.cfgOf F (T.take j)) x) (bs ++ Cs.fr (Jn.enc (x.map Jn.norm))) (j + 1))) := Lh (fun w vb hw hb => jreplay_any (HL.out.ext hw) HSZ.out hinv (by omega) (by omega) hb h64 hok htx)
    have HEB := Lh (Jn.enc_bytes h64 (fun o ho => (hok o ho).1))
    have HNX : Hid (Jn.cfgOf F (T.take (j + 1)) = Tj.runsC (Jn.cfgOf F (T.take j)) x ∧ (Jn.bsOf (T.take (j + 1))).length = u + ((Jn.enc x).length + 8) ∧ (bs ++ Cs.fr (Jn.enc (x.map Jn.norm))).length ≤ (j + 1) * 300008) := Lh ⟨Jn.cfg_take hx, by rw [Jn.bs_take hx, List.length_append, Cs.fr_len, HUE.out], by
     rw [Jn.enc_norm (fun o ho => (hok o ho).1), List.length_append, Cs.fr_len]; have := HBL.out; omega⟩
    clear b1 b2 e1' hrl hx hok hga htx hinv
    obtain ⟨N, hN⟩ : ∃ z, z = (Jn.enc x).length + 8 := ⟨_, rfl⟩
    have hN1 : 8 ≤ N := by omega
    have hN2 : u + N ≤ k := by omega
    rw [← hN] at HUF HNX
    clear hm
    go_wp2_with fail
    refine (HUF.out _ grows).mono ?_
    rintro e w5 ⟨vb, rfl, x5, o5⟩
    have HB5 := Lh (Byt.of_own o5 HEB.out)
    have HX5 := Lh x5
    obtain ⟨ba, bc, rfl⟩ := own_slice o5
    clear x5 o5 hN
    go_wp2_with fail
    refine (HRP.out w5 _ HX5.out HB5.out).mono ?_
    rintro e w6 ⟨rfl, hm6, hl6⟩
    have HX6 : Hid (Ext W w6) := Lh ((HXR.out.trans HX5.out).mod hm6 (fun i hi => Nat.le_trans HX0.out.le hi))
    rw [← HNX.out.1] at hl6
    have HL6 := Lh hl6
    clear hm6 hl6
    go_wp2_with fail
    go_roundw
    case rel => exact ⟨rfl, j + 1, u + N, by omega, hN2, by go_num, Lh ⟨_, HL6.out, HNX.out.2.2, HX6.out, HNX.out.2.1.symm⟩⟩
    case measure => simp [intOf]; omega
   ·have HUF : Hid (∀ w, Ext W w → Calls Tryz.prog 29 #[.slice o (k - u) (c - u)] w (fun e w' => e = .returned (.tuple #[.slice none 0 0, .int .i64 0, .int .i64 3]) ∧ Ext w w')) := Lh (fun w hw => unframe_short (b2.ext hw) (Jn.fr_cut (by omega) (by omega)))
    have HFIN : Hid (k = (Jn.bsOf T).length → j = T.length) := Lh (fun h => by
     exfalso
     have h2 := congrArg List.length (Jn.bs_split (T := T) j)
     rw [List.length_append, ← HUE.out, Jn.bs_cons hx, List.length_append] at h2
     omega)
    clear b1 b2 e1' hrl hx hok hga htx hinv hm
    go_wp2_with fail
    refine (HUF.out _ grows).mono ?_
    rintro e w5 ⟨rfl, x5⟩
    have HX5 := Lh (HXR.out.trans x5)
    have HL5 := Lh (HL.out.ext x5)
    clear x5
    go_wp2_with fail
    exact bodyPost_ret (v := .tuple #[.pointer (some ⟨g, 0, none⟩), .int .i64 (u : Int), .int .i64 0]) (by simp [results, Tryz.results11, go_sem]) rfl ⟨g, q, W0, j, u, bs, rfl, HX5.out, HX0.out, HL5.out, hj, hu, HFIN.out, HUE.out⟩
  ·have HFIN : Hid (k = (Jn.bsOf T).length → j = T.length) := Lh (fun h => by
    rcases Nat.lt_or_ge j T.length with hlj | hlj
    ·exfalso
     obtain ⟨x, hx⟩ : ∃ x, T[j]? = some x := ⟨_, gE hlj⟩
     have h2 := congrArg List.length (Jn.bs_split (T := T) j)
     rw [List.length_append, ← HUE.out, Jn.bs_cons hx, List.length_append, Cs.fr_len] at h2
     omega
    ·omega)
   go_wp2_with fail
   exact bodyPost_ret (v := .tuple #[.pointer (some ⟨g, 0, none⟩), .int .i64 (u : Int), .int .i64 0]) (by simp [results, Tryz.results11, go_sem]) rfl ⟨g, q, W0, j, u, bs, rfl, HXR.out, HX0.out, HL.out, hj, hu, HFIN.out, HUE.out⟩
theorem Is.at {w : World} {a : Option Addr} {n c : Nat} {l : List Int} (h : Tj.Is w (.slice a n c) l) (hl : 0 < l.length) : ∃ b o, a = some ⟨b, o, none⟩ ∧ ∀ (j : Nat) (x : Int), l[j]? = some x → w.cell? ⟨b, o + j, none⟩ = some (.int .i64 x) := by
 obtain ⟨⟨hs, _⟩, _⟩ := h
 rcases hs.2.2 with ⟨_, h0⟩ | ⟨ad, c2, e2, _⟩
 ·omega
 ·simp only [Value.slice.injEq] at e2
  obtain ⟨rfl, rfl, _⟩ := e2
  obtain ⟨e3, _, h4⟩ := Src.at hs hl
  exact ⟨ad.block, ad.off, by rw [← e3], fun j x hj => h4 j _ (by simp [hj])⟩
theorem eqints_any {W : World} {a b : Option Addr} {c d : Nat} {l : List Int} (ha : Tj.Is W (.slice a l.length c) l) (hb : Tj.Is W (.slice b l.length d) l) (hl : l.length ≤ 1073741824) : Calls Tryz.prog 25 #[.slice a l.length c, .slice b l.length d] W (Rets W (.bool true)) := by
 have HA := Lh ha
 have HB := Lh hb
 clear ha hb
 go_enter Tryz.func25, Tryz.ntmps25
 go_wp2_with fail
 go_loopw [5] (fun q wr => ∃ k : Nat, k ≤ l.length ∧ q = .int .i64 k ∧ Hid (Ext W wr)) (fun q _ => l.length - (intOf q).toNat)
 case atStart => exact ⟨0, Nat.zero_le _, rfl, Lh (eR _)⟩
 case round =>
  obtain ⟨k, hk, rfl, HX⟩ := hrel
  have sx := Sm HX.out
  by_cases hlt : k < l.length
  ·obtain ⟨x, hx⟩ : ∃ x, l[k]? = some x := ⟨_, gE hlt⟩
   obtain ⟨p1, o1, rfl, hat⟩ := Is.at HA.out (by omega)
   obtain ⟨p2, o2, rfl, hbt⟩ := Is.at HB.out (by omega)
   have y0 := alw (hat k x hx)
   have y1 := alw (hbt k x hx)
   have ql : ¬ ((l.length : Int) ≤ k) := by omega
   clear hx hat hbt
   go_wp2_with fail
   refine wp_region_later (W := wr) (by kernel_rfl) (by kernel_rfl) (eR _) ?_
   repeat (go_big_quiet_step (fail))
   refine wpQuiet_nil ?_
   intro w9 hx9
   have s9 := Sm hx9
   have HX9 := Lh (HX.out.trans hx9)
   clear hx9
   go_wp2_with fail
   go_roundw
   case rel => exact ⟨k + 1, by omega, by go_num, HX9⟩
   case measure => simp [intOf]; omega
  ·obtain rfl : k = l.length := by omega
   go_wp2_with fail
   go_ret
   exact ⟨rfl, HX.out⟩
theorem eqcalls_any {W : World} {a b : Option Addr} {c d : Nat} {x : Tj.Call} (ha : Tj.Us W (.slice a x.ar.length c) x.ar) (hb : Tj.Us W (.slice b x.ar.length d) x.ar) (hl : x.ar.length ≤ 1073741824) : Calls Tryz.prog 28 #[.agg #[.int .i64 x.a, .slice a x.ar.length c], .agg #[.int .i64 x.a, .slice b x.ar.length d]] W (Rets W (.bool true)) := by
 have HA := Lh ha
 have HB := Lh hb
 have b1 := aH W (.cells #[.int .i64 x.a, .slice a x.ar.length c] 63)
 have k0 := alw (cQ 0 b1)
 have k1 := alw (cQ 1 b1)
 have b2 := aH (W.alloc (.cells #[.int .i64 x.a, .slice a x.ar.length c] 63)) (.cells #[.int .i64 x.a, .slice b x.ar.length d] 63)
 rw [szA] at b2
 have j0 := alw (cQ 0 b2)
 have j1 := alw (cQ 1 b2)
 clear ha hb b1 b2
 go_enter Tryz.func28, Tryz.ntmps28
 go_wp2_with fail
 go_loopw [5] (fun q wr => ∃ k : Nat, k ≤ x.ar.length ∧ q = .int .i64 k ∧ Hid (Ext ((W.alloc (.cells #[.int .i64 x.a, .slice a x.ar.length c] 63)).alloc (.cells #[.int .i64 x.a, .slice b x.ar.length d] 63)) wr)) (fun q _ => x.ar.length - (intOf q).toNat)
 case atStart => exact ⟨0, Nat.zero_le _, rfl, Lh (eR _)⟩
 case round =>
  obtain ⟨k, hk, rfl, HX⟩ := hrel
  have sx := Sm HX.out
  have HXW : Hid (Ext W wr) := Lh ((grows (a := W) (b := ((W.alloc (.cells #[.int .i64 x.a, .slice a x.ar.length c] 63)).alloc (.cells #[.int .i64 x.a, .slice b x.ar.length d] 63)))).trans HX.out)
  have sw := Sm HXW.out
  by_cases hlt : k < x.ar.length
  ·obtain ⟨u, hx⟩ : ∃ u, x.ar[k]? = some u := ⟨_, gE hlt⟩
   obtain ⟨p1, o1, rfl, hat⟩ := Us.at HA.out (by omega)
   obtain ⟨p2, o2, rfl, hbt⟩ := Us.at HB.out (by omega)
   have y0 := alw (hat k u hx)
   have y1 := alw (hbt k u hx)
   have ql : ¬ ((x.ar.length : Int) ≤ k) := by omega
   clear hx hat hbt
   go_wp2_with fail
   refine wp_region_later (W := wr) (by kernel_rfl) (by kernel_rfl) (eR _) ?_
   repeat (go_big_quiet_step (fail))
   refine wpQuiet_nil ?_
   intro w9 hx9
   have s9 := Sm hx9
   have HX9 := Lh (HX.out.trans hx9)
   clear hx9
   go_wp2_with fail
   go_roundw
   case rel => exact ⟨k + 1, by omega, by go_num, HX9⟩
   case measure => simp [intOf]; omega
  ·obtain rfl : k = x.ar.length := by omega
   go_wp2_with fail
   go_ret
   exact ⟨rfl, HXW.out⟩
abbrev Yq22 (kb : Option Addr) (kd : Nat) (x : Tj.Ent) (gb : Option Addr) (gd : Nat) : Array Value := #[.slice kb x.ks.length kd, .int .i64 x.pr, .int .i64 x.cl.a, .slice gb x.cl.ar.length gd]
theorem refkey_any {W : World} {ka kb ga gb : Option Addr} {kc kd gc gd : Nat} {x : Tj.Ent} (ha : Tj.KMs W (.slice ka x.ks.length kc) x.ks) (hb : Tj.KMs W (.slice kb x.ks.length kd) x.ks) (hl : x.ks.length ≤ 1073741824) : Calls Tryz.prog 118 #[.agg (Yq11 ka kc x ga gc), .agg (Yq22 kb kd x gb gd)] W (Rets W (.bool true)) := by
 have HA := Lh ha
 have HB := Lh hb
 clear ha hb
 have b1 := aH W (.cells (Yq11 ka kc x ga gc) 65)
 have k0 := alw (cQ 0 b1)
 have k1 := alw (cQ 1 b1)
 have k2 := alw (cQ 2 b1)
 have k3 := alw (cQ 3 b1)
 have b2 := aH (W.alloc (.cells (Yq11 ka kc x ga gc) 65)) (.cells (Yq22 kb kd x gb gd) 65)
 rw [szA] at b2
 have j0 := alw (cQ 0 b2)
 have j1 := alw (cQ 1 b2)
 have j2 := alw (cQ 2 b2)
 have j3 := alw (cQ 3 b2)
 clear b1 b2
 go_enter Tryz.func118, Tryz.ntmps118
 go_wp2_with fail
 go_loopw [5] (fun q wr => ∃ k : Nat, k ≤ x.ks.length ∧ q = .int .i64 k ∧ Hid (Ext ((W.alloc (.cells (Yq11 ka kc x ga gc) 65)).alloc (.cells (Yq22 kb kd x gb gd) 65)) wr)) (fun q _ => x.ks.length - (intOf q).toNat)
 case atStart => exact ⟨0, Nat.zero_le _, rfl, Lh (eR _)⟩
 case round =>
  obtain ⟨k, hk, rfl, HX⟩ := hrel
  have sx := Sm HX.out
  have HXW : Hid (Ext W wr) := Lh ((grows (a := W) (b := ((W.alloc (.cells (Yq11 ka kc x ga gc) 65)).alloc (.cells (Yq22 kb kd x gb gd) 65)))).trans HX.out)
  have sw := Sm HXW.out
  by_cases hlt : k < x.ks.length
  ·obtain ⟨⟨kv, km⟩, hx⟩ : ∃ u, x.ks[k]? = some u := ⟨_, gE hlt⟩
   obtain ⟨p1, o1, rfl, _, hat⟩ := Rows.at HA.out (by omega)
   obtain ⟨p2, o2, rfl, _, hbt⟩ := Rows.at HB.out (by omega)
   obtain ⟨cs1, _, ⟨rfl, _⟩, hc1⟩ := hat k _ hx
   obtain ⟨cs2, _, ⟨rfl, _⟩, hc2⟩ := hbt k _ hx
   have t0 := hc1 0 _ rfl
   rw [Nat.add_zero] at t0
   have y0 := alw t0
   have y1 := alw (hc1 1 _ rfl)
   have u0 := hc2 0 _ rfl
   rw [Nat.add_zero] at u0
   have y2 := alw u0
   have y3 := alw (hc2 1 _ rfl)
   have ql : ¬ ((x.ks.length : Int) ≤ k) := by omega
   clear hx hat hbt hc1 hc2 t0 u0
   go_wp2_with fail
   refine wp_region_later (W := wr) (by kernel_rfl) (by kernel_rfl) (eR _) ?_
   repeat (go_big_quiet_step (fail))
   refine wpQuiet_nil ?_
   intro w9 hx9
   have s9 := Sm hx9
   have HX9 := Lh (HX.out.trans hx9)
   clear hx9
   go_wp2_with fail
   go_roundw
   case rel => exact ⟨k + 1, by omega, by go_num, HX9⟩
   case measure => simp [intOf]; omega
  ·obtain rfl : k = x.ks.length := by omega
   go_wp2_with fail
   go_ret
   exact ⟨rfl, HXW.out⟩
theorem refent_any {W : World} {ka kb ga gb : Option Addr} {kc kd gc gd : Nat} {x : Tj.Ent} (ha : Tj.KMs W (.slice ka x.ks.length kc) x.ks) (hb : Tj.KMs W (.slice kb x.ks.length kd) x.ks) (hc : Tj.Us W (.slice ga x.cl.ar.length gc) x.cl.ar) (hd : Tj.Us W (.slice gb x.cl.ar.length gd) x.cl.ar) (hl : x.ks.length ≤ 1073741824) (hl2 : x.cl.ar.length ≤ 1073741824) : Calls Tryz.prog 69 #[.agg (Yq11 ka kc x ga gc), .agg (Yq22 kb kd x gb gd)] W (Rets W (.bool true)) := by
 have HK : Hid (∀ w, Ext W w → Calls Tryz.prog 118 #[.agg (Yq11 ka kc x ga gc), .agg (Yq22 kb kd x gb gd)] w (Rets w (.bool true))) := Lh (fun w hw => refkey_any (ha.ext hw) (hb.ext hw) hl)
 have HC := Lh (fun (w : World) (hw : Ext W w) => eqcalls_any (hc.ext hw) (hd.ext hw) hl2)
 clear ha hb hc hd
 have b1 := aH W (.cells (Yq11 ka kc x ga gc) 65)
 have k0 := alw (cQ 0 b1)
 have k1 := alw (cQ 1 b1)
 have k2 := alw (cQ 2 b1)
 have k3 := alw (cQ 3 b1)
 have b2 := aH (W.alloc (.cells (Yq11 ka kc x ga gc) 65)) (.cells (Yq22 kb kd x gb gd) 65)
 rw [szA] at b2
 have j0 := alw (cQ 0 b2)
 have j1 := alw (cQ 1 b2)
 have j2 := alw (cQ 2 b2)
 have j3 := alw (cQ 3 b2)
 clear b1 b2
 go_enter Tryz.func69, Tryz.ntmps69
 go_wp2_with fail
 refine via (HK.out _ grows) fun w1 x1 s1 => ?_
 go_wp2_with fail
 refine via (HC.out _ grows) fun w2 x2 s2 => ?_
 go_wp2_with fail
 go_ret
 exact ⟨rfl, grows⟩
theorem refrows_any {W : World} {a b : Option Addr} {c d : Nat} {rs : List Tj.Rw} (ha : Tj.Rws W (.slice a rs.length c) rs) (hb : Tj.Rws W (.slice b rs.length d) rs) (hl : rs.length ≤ 1073741824) (hr : ∀ r ∈ rs, r.e.ks.length ≤ 1073741824 ∧ r.e.cl.ar.length ≤ 1073741824) : Calls Tryz.prog 27 #[.slice a rs.length c, .slice b rs.length d] W (Rets W (.bool true)) := by
 have HA := Lh ha
 have HB := Lh hb
 have HR := Lh hr
 clear ha hb hr
 go_enter Tryz.func27, Tryz.ntmps27
 go_wp2_with fail
 go_loopw [5] (fun q wr => ∃ k : Nat, k ≤ rs.length ∧ q = .int .i64 k ∧ Hid (Ext W wr)) (fun q _ => rs.length - (intOf q).toNat)
 case atStart => exact ⟨0, Nat.zero_le _, rfl, Lh (eR _)⟩
 case round =>
  obtain ⟨k, hk, rfl, HX⟩ := hrel
  have sx := Sm HX.out
  by_cases hlt : k < rs.length
  ·obtain ⟨r, hx⟩ : ∃ u, rs[k]? = some u := ⟨_, gE hlt⟩
   obtain ⟨hk1, hk2⟩ := HR.out r (List.mem_of_getElem? hx)
   obtain ⟨p1, o1, rfl, _, hat⟩ := Rows.at HA.out (by omega)
   obtain ⟨p2, o2, rfl, _, hbt⟩ := Rows.at HB.out (by omega)
   obtain ⟨cs1, _, ⟨es1, rfl, _, ka, kc, ga, gc, rfl, _, hka, hga⟩, hc1⟩ := hat k _ hx
   obtain ⟨cs2, _, ⟨es2, rfl, _, kb, kd, gb, gd, rfl, _, hkb, hgb⟩, hc2⟩ := hbt k _ hx
   have t0 := hc1 0 _ rfl
   rw [Nat.add_zero] at t0
   have y0 := alw t0
   clear t0
   have t1 := hc1 1 _ rfl
   have y1 := alw t1
   clear t1
   have t2 := hc1 2 _ rfl
   have y2 := alw t2
   clear t2
   have t3 := hc1 3 _ rfl
   have y3 := alw t3
   clear t3
   have t4 := hc1 4 _ rfl
   have y4 := alw t4
   clear t4
   have t0 := hc2 0 _ rfl
   rw [Nat.add_zero] at t0
   have z0 := alw t0
   clear t0
   have t1 := hc2 1 _ rfl
   have z1 := alw t1
   clear t1
   have t2 := hc2 2 _ rfl
   have z2 := alw t2
   clear t2
   have t3 := hc2 3 _ rfl
   have z3 := alw t3
   clear t3
   have t4 := hc2 4 _ rfl
   have z4 := alw t4
   clear t4
   have HE := Lh (fun (w : World) (hw : Ext W w) => refent_any (hka.ext hw) (hkb.ext hw) (hga.ext hw) (hgb.ext hw) hk1 hk2)
   have ql : ¬ ((rs.length : Int) ≤ k) := by omega
   clear hx hat hbt hc1 hc2 hka hkb hga hgb
   go_wp2_with fail
   refine wp_region_later (W := wr) (by kernel_rfl) (by kernel_rfl) (eR _) ?_
   repeat (go_big_quiet_step (first | (go_at_call 69; exact Rets.later_at (HE.out _ grows)) | fail))
   refine wpQuiet_nil ?_
   intro w9 hx9
   have s9 := Sm hx9
   have HX9 := Lh (HX.out.trans hx9)
   clear hx9
   go_wp2_with fail
   go_roundw
   case rel => exact ⟨k + 1, by omega, by go_num, HX9⟩
   case measure => simp [intOf]; omega
  ·obtain rfl : k = rs.length := by omega
   go_wp2_with fail
   go_ret
   exact ⟨rfl, HX.out⟩
theorem refcfg_any {W : World} {va vb : Value} {C : Tj.Cfg} (ha : Tj.CfgV W va C) (hb : Tj.CfgV W vb C) (hcb : Tj.CB C) : Calls Tryz.prog 10 #[va, vb] W (Rets W (.bool true)) := by
 obtain ⟨r0, c0, r1, c1, r2, c2, r3, c3, rfl, ha0, ha1, ha2, ha3⟩ := ha.form
 obtain ⟨s0, d0, s1, d1, s2, d2, s3, d3, rfl, hb0, hb1, hb2, hb3⟩ := hb.form
 obtain ⟨g0, g1, g2, g3, g4, _, _⟩ := hcb
 have HI := Lh (fun (w : World) (hw : Ext W w) => eqints_any (ha1.ext hw) (hb1.ext hw) g2)
 have HG := Lh (fun (w : World) (hw : Ext W w) => by
  have h := refequal_any (W := w) (ha3.ext (fun _ _ h => h.ext hw) hw) (hb3.ext (fun _ _ h => h.ext hw) hw)
  rw [dTt rfl] at h; exact h)
 have HA0 := Lh ha0
 have HB0 := Lh hb0
 have HA2 := Lh ha2
 have HB2 := Lh hb2
 have HG1 := Lh g1
 have HG4 := Lh g4
 clear ha hb ha0 ha1 ha2 ha3 hb0 hb1 hb2 hb3 g1 g4
 have b1 := aH W (.cells (Yq7 r0 c0 C r1 c1 r2 c2 r3 c3) 45)
 have k0 := alw (cQ 0 b1)
 have k1 := alw (cQ 1 b1)
 have k2 := alw (cQ 2 b1)
 have k3 := alw (cQ 3 b1)
 have b2 := aH (W.alloc (.cells (Yq7 r0 c0 C r1 c1 r2 c2 r3 c3) 45)) (.cells #[.slice s0 C.rows.length d0, .slice s1 C.nx.length d1, .slice s2 C.df.length d2, .slice s3 C.rg.length d3] 45)
 rw [szA] at b2
 have j0 := alw (cQ 0 b2)
 have j1 := alw (cQ 1 b2)
 have j2 := alw (cQ 2 b2)
 have j3 := alw (cQ 3 b2)
 clear b1 b2
 go_enter Tryz.func10, Tryz.ntmps10
 go_wp2_with fail
 refine via (HI.out _ grows) fun w1 x1 t1 => ?_
 go_wp2_with fail
 refine via (HG.out _ grows) fun w2 x2 t2 => ?_
 go_wp2_with fail
 go_loopw [5] (fun q wr => ∃ k : Nat, k ≤ C.rows.length ∧ q = .int .i64 k ∧ Hid (Ext w2 wr)) (fun q _ => C.rows.length - (intOf q).toNat)
 case atStart => exact ⟨0, Nat.zero_le _, rfl, Lh (eR _)⟩
 case round =>
  obtain ⟨k, hk, rfl, HX⟩ := hrel
  have sx := Sm HX.out
  by_cases hlt : k < C.rows.length
  ·obtain ⟨rs, hx⟩ : ∃ u, C.rows[k]? = some u := ⟨_, gE hlt⟩
   obtain ⟨m1, m2⟩ := HG1.out rs (List.mem_of_getElem? hx)
   obtain ⟨p1, o1, rfl, _, hat⟩ := Rows.at HA0.out (by omega)
   obtain ⟨p2, o2, rfl, _, hbt⟩ := Rows.at HB0.out (by omega)
   obtain ⟨cs1, _, ⟨v1, rfl, hw1⟩, hc1⟩ := hat k _ hx
   obtain ⟨cs2, _, ⟨v2, rfl, hw2⟩, hc2⟩ := hbt k _ hx
   obtain ⟨a1, e1, rfl, _⟩ := Rows.slice hw1
   obtain ⟨a2, e2, rfl, _⟩ := Rows.slice hw2
   have u0 := hc1 0 _ rfl
   rw [Nat.mul_one, Nat.add_zero] at u0
   have y0 := alw u0
   have u1 := hc2 0 _ rfl
   rw [Nat.mul_one, Nat.add_zero] at u1
   have y1 := alw u1
   have HE := Lh (fun (w : World) (hw : Ext W w) => refrows_any (Tj.Rws.ext hw1 hw) (Tj.Rws.ext hw2 hw) m1 m2)
   have ql : ¬ ((C.rows.length : Int) ≤ k) := by omega
   clear hx hat hbt hc1 hc2 hw1 hw2 u0 u1
   go_wp2_with fail
   refine wp_region_later (W := wr) (by kernel_rfl) (by kernel_rfl) (eR _) ?_
   repeat (go_big_quiet_step (first | (go_at_call 27; exact Rets.later_at (HE.out _ grows)) | fail))
   refine wpQuiet_nil ?_
   intro w9 hx9
   have s9 := Sm hx9
   have HX9 := Lh (HX.out.trans hx9)
   clear hx9
   go_wp2_with fail
   go_roundw
   case rel => exact ⟨k + 1, by omega, by go_num, HX9⟩
   case measure => simp [intOf]; omega
  ·obtain rfl : k = C.rows.length := by omega
   go_wp2_with fail
   go_loopw [6] (fun q wz => ∃ k : Nat, k ≤ C.df.length ∧ q = .int .i64 k ∧ Hid (Ext wr wz)) (fun q _ => C.df.length - (intOf q).toNat)
   case atStart => exact ⟨0, Nat.zero_le _, rfl, Lh (eR _)⟩
   case round =>
    obtain ⟨k, hk2, rfl, HX2⟩ := hrel
    have sz := Sm HX2.out
    by_cases hlt2 : k < C.df.length
    ·obtain ⟨x, hx⟩ : ∃ u, C.df[k]? = some u := ⟨_, gE hlt2⟩
     have m3 := HG4.out x (List.mem_of_getElem? hx)
     obtain ⟨p1, o1, rfl, _, hat⟩ := Rows.at HA2.out (by omega)
     obtain ⟨p2, o2, rfl, _, hbt⟩ := Rows.at HB2.out (by omega)
     obtain ⟨cs1, _, ⟨v1, rfl, _, hw1⟩, hc1⟩ := hat k _ hx
     obtain ⟨cs2, _, ⟨v2, rfl, _, hw2⟩, hc2⟩ := hbt k _ hx
     obtain ⟨a1, e1, rfl⟩ := ns_slice hw1.1
     obtain ⟨a2, e2, rfl⟩ := ns_slice hw2.1
     have u0 := hc1 0 _ rfl
     rw [Nat.add_zero] at u0
     have y0 := alw u0
     have y1 := alw (hc1 1 _ rfl)
     have u1 := hc2 0 _ rfl
     rw [Nat.add_zero] at u1
     have y2 := alw u1
     have y3 := alw (hc2 1 _ rfl)
     have HE := Lh (fun (w : World) (hw : Ext W w) => eqcalls_any (hw1.ext hw) (hw2.ext hw) m3)
     have ql : ¬ ((C.df.length : Int) ≤ k) := by omega
     clear hx hat hbt hc1 hc2 hw1 hw2 u0 u1
     go_wp2_with fail
     refine wp_region_later (W := wr) (by kernel_rfl) (by kernel_rfl) (eR _) ?_
     repeat (go_big_quiet_step (first | (go_at_call 28; exact Rets.later_at (HE.out _ grows)) | fail))
     refine wpQuiet_nil ?_
     intro w9 hx9
     have s9 := Sm hx9
     have HX9 := Lh (HX2.out.trans hx9)
     clear hx9
     go_wp2_with fail
     go_roundw
     case rel => exact ⟨k + 1, by omega, by go_num, HX9⟩
     case measure => simp [intOf]; omega
    ·obtain rfl : k = C.df.length := by omega
     go_wp2_with fail
     go_ret
     exact ⟨rfl, grows⟩
end Go.Proofs.YthmokhkkdgnbhaaGreat
