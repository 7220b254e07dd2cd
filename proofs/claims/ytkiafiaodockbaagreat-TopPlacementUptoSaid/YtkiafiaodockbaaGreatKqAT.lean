/- A job is made: placement.newJob, walked. What no placement can meet: job.obstacle, walked. Memory of the search: what the stages use. The search: job.search, walked. The placement: placement.Place, walked. No condition. -/
import Derived.Test.YtkiafiaodockbaaGreatKqAS
import Derived.BigQuiet
import Derived.Deep.MidRow
import Derived.ScopeJumps
import Derived.WalkMore
set_option maxRecDepth 8000
set_option maxHeartbeats 16000000
namespace Go.Proofs.YtkiafiaodockbaaGreat
open Go.RowKit
theorem zero_unit (w : World) : (zeroValue 111).run Tryz.prog w = .ok (.agg #[.int .i64 0, .slice none 0 0, .slice none 0 0]) w := by kernel_rfl
theorem cinf_res : (Tryz.prog.info? 73).map (fun i => (i.zero, i.size, i.bytes)) = some (some (.agg #[.int .i64 0, .int .i64 0]), 2, 16) := by kernel_rfl
namespace Pl
def coC (x : Int × Int) : List Value := [.int .i64 x.1, .int .i64 x.2]
/-- what newJob returns -/
def NewP (W : World) (F : Tj.FP) (C : Chip) (us : List Un) (e : Ending) (w' : World) : Prop := ∃ g, e = .returned (.pointer (some ⟨g, 0, none⟩)) ∧ Ext W w' ∧ JobM w' F C us g
theorem src_res (w : World) (x y : Int) : Src (w.alloc (.cells #[.int .i64 x, .int .i64 y] 73)) (.slice (some ⟨w.heap.size, 0, none⟩) 1 1) 2 1 (coC (x, y)) :=
 ⟨rfl, fun v hv => by
  simp only [coC, List.mem_cons, List.not_mem_nil, or_false] at hv
  rcases hv with rfl | rfl <;> rfl, .inr ⟨_, 1, rfl, fun j v hj => by
  match j with
  | 0 => simp [coC] at hj; subst hj; simp [Addr.add]
  | 1 => simp [coC] at hj; subst hj; simp [Addr.add]
  | j + 2 => simp [coC] at hj⟩⟩
end Pl
set_option maxRecDepth 100000 in
abbrev Yq17 (s0 : Int) (s1 : Int) (s2 : Int) (s3 : Int) (s4 : Int) (s5 : Int) (s6 : Int) (s7 : Int) (ua : Option Addr) (uc : Nat) (us_length : Nat) : Array Value := #[.int .i64 s0, .int .i64 s1, .int .i64 s2, .int .i64 s3, .int .i64 s4, .int .i64 s5, .int .i64 s6, .int .i64 s7, .slice ua us_length uc, .slice none 0 0, .slice none 0 0]
theorem newjob_any {W : World} {p : Pg.PV} {F : Tj.FP} (hG : Tj.IsG W p F) (hc : Tj.chkF F = 0) {oc7 : Option Addr} {m c7 : Nat} (hp : p.c7 = .slice oc7 m c7) (C : Pl.Chip) : Calls Tryz.prog 13 #[p.val, .agg (Pl.chL C).toArray] W (Pl.NewP W F C (Pl.unF F m)) := by
 have hF := hG.1
 have hB := Pl.bd_of hc
 have hUF := Pl.uf_of hF hB hp
 obtain ⟨us, hus⟩ : ∃ us, us = Pl.unF F m := ⟨_, rfl⟩
 have HUB : Hid (∀ w, Ext W w → Calls Tryz.prog 25 #[p.val] w (Pl.BldP w us)) := Lh (fun w hx => by rw [hus]; exact ubuild_any (hG.ext hx) hB hp)
 rw [← hus] at hUF ⊢
 have HDB0 : Hid (∀ w, Ext W w → ∀ v, Pl.Units w v us → Calls Tryz.prog 26 #[p.val, v] w (Pl.DepP w F us)) := Lh (fun w hx v hv => dbuild_any (hF.ext hx) hB hv hUF)
 have HUC0 : Hid (∀ w, Ext W w → ∀ (u : Pl.Un) (ca ga : Option Addr) (cn cc gn gc : Nat), Calls Tryz.prog 27 #[p.val, .agg #[.int .i64 u.tb, .slice ca cn cc, .slice ga gn gc]] w (Rets w (.agg #[.int .i64 (Pl.ucost F u).1, .int .i64 (Pl.ucost F u).2]))) := Lh (fun w hx u ca ga cn cc gn gc => ucost_any (hG.ext hx) hc u ca ga cn cc gn gc)
 have hle := hUF.le
 clear hus hUF hp
 unfold Pl.BldP at HUB
 unfold Pl.DepP at HDB0
 obtain ⟨a1, a2, a3, a4, a5, a6, a7, a8, m1, m2, m3, m4, m5, m6, n7, m7, m8, hf⟩ := hF.form
 obtain ⟨rfl, hnm, hhs, hmd, hrs, has, hts, hss, hct, hdp, l1, l2, l3, l4, l5, l6, l7, l8⟩ := hf
 dsimp only [Pg.PV.val] at HUB HDB0 HUC0 ⊢
 obtain ⟨s0, s1, s2, s3, s4, s5, s6, s7⟩ := C
 show Calls Tryz.prog 13 #[.agg (Yq0 F a1 m1 a2 m2 a3 m3 a4 m4 a5 m5 a6 m6 a7 m7 n7 a8 m8), .agg (Yq7 s0 s1 s2 s3 s4 s5 s6 s7)] W _
 have bx := aH W (.cells (Yq0 F a1 m1 a2 m2 a3 m3 a4 m4 a5 m5 a6 m6 a7 m7 n7 a8 m8) 31)
 have k0 := alw (cQ 0 bx)
 have k1 := alw (cQ 1 bx)
 have k2 := alw (cQ 2 bx)
 have k3 := alw (cQ 3 bx)
 have k4 := alw (cQ 4 bx)
 have k5 := alw (cQ 5 bx)
 have k6 := alw (cQ 6 bx)
 have k7 := alw (cQ 7 bx)
 have k8 := alw (cQ 8 bx)
 clear bx
 have HPB : Hid (∀ w, Ext (W.alloc (.cells (Yq0 F a1 m1 a2 m2 a3 m3 a4 m4 a5 m5 a6 m6 a7 m7 n7 a8 m8) 31)) w → w.heap[W.heap.size]? = some (.cells (Yq0 F a1 m1 a2 m2 a3 m3 a4 m4 a5 m5 a6 m6 a7 m7 n7 a8 m8) 31 (0, 0))) := Lh (fun w hx => hx.heap (aH W (.cells (Yq0 F a1 m1 a2 m2 a3 m3 a4 m4 a5 m5 a6 m6 a7 m7 n7 a8 m8) 31)))
 have bx := aH (W.alloc (.cells (Yq0 F a1 m1 a2 m2 a3 m3 a4 m4 a5 m5 a6 m6 a7 m7 n7 a8 m8) 31)) (.cells (Yq7 s0 s1 s2 s3 s4 s5 s6 s7) 33)
 rw [szA] at bx
 have j0 := alw (cQ 0 bx)
 have j1 := alw (cQ 1 bx)
 have j2 := alw (cQ 2 bx)
 have j3 := alw (cQ 3 bx)
 have j4 := alw (cQ 4 bx)
 have j5 := alw (cQ 5 bx)
 have j6 := alw (cQ 6 bx)
 have j7 := alw (cQ 7 bx)
 clear bx
 clear hF hG hc hB hnm hhs hmd hrs has hts hss hct hdp
 have hz := zero_unit
 go_enter Tryz.func13, Tryz.ntmps13
 go_upto_region 1 with (fail)
 refine Rel.region_tail (W := ((W.alloc (.cells (Yq0 F a1 m1 a2 m2 a3 m3 a4 m4 a5 m5 a6 m6 a7 m7 n7 a8 m8) 31)).alloc (.cells (Yq7 s0 s1 s2 s3 s4 s5 s6 s7) 33))) 3 (Rel.tab [(2, fun v w => ∃ ua uc, v = .slice ua us.length uc ∧ Pl.Units w v us)]) (Rel.tab_lasts (by intro p hp v w w' hr hx; simp only [List.mem_cons, List.not_mem_nil, or_false] at hp; rcases hp with rfl; obtain ⟨ua, uc, h1, h2⟩ := hr; exact ⟨ua, uc, h1, h2.ext hx⟩)) (by kernel_rfl) (by kernel_rfl) (eR _) ?_
 simp only [tkS, tkZ]
 refine Rel.chunkT 2 rfl rfl rfl ?_
 simp only [tkS, tkZ, dpS, dpZ, Nat.reduceAdd]
 repeat (go_big_quiet_step (fail))
 refine wpQuiet_nil ?_
 refine Rel.callG _ rfl rfl rfl Tryz.func25 (by nofun) (by decide) #[.agg (Yq0 F a1 m1 a2 m2 a3 m3 a4 m4 a5 m5 a6 m6 a7 m7 n7 a8 m8)] rfl (fun w hx _ => by refine (HUB.out w ((grows (a := W) (b := ((W.alloc (.cells (Yq0 F a1 m1 a2 m2 a3 m3 a4 m4 a5 m5 a6 m6 a7 m7 n7 a8 m8) 31)).alloc (.cells (Yq7 s0 s1 s2 s3 s4 s5 s6 s7) 33)))).trans hx)).mono ?_; rintro e w9 ⟨ua, uc, h1, h2, h3⟩; exact ⟨_, h1, h2, ua, uc, rfl, h3⟩) ?_
 intro u1 vf1 _ _ r1
 obtain ⟨ua, uc, rfl, _⟩ := r1
 simp only [Act.put, stA, stS, stZ]
 refine Rel.fin ?_
 intro w7 x7 hf7
 obtain ⟨ua', uc', hue, hu⟩ := (hf7 2).2 rfl
 simp only [Value.slice.injEq, true_and] at hue
 obtain ⟨rfl, rfl⟩ := hue
 have HU7 := Lh hu
 have s7x := Sm x7
 have HX7 : Hid (Ext W w7) := Lh grows
 have HPB7 : Hid (w7.heap[W.heap.size]? = some (.cells (Yq0 F a1 m1 a2 m2 a3 m3 a4 m4 a5 m5 a6 m6 a7 m7 n7 a8 m8) 31 (0, 0))) := Lh (HPB.out w7 grows)
 have HX7J : Hid (Ext W (w7.alloc (.cells (Yq17 s0 s1 s2 s3 s4 s5 s6 s7 ua uc us.length) 71))) := Lh grows
 have HDB : Hid (∀ w, Ext (w7.alloc (.cells (Yq17 s0 s1 s2 s3 s4 s5 s6 s7 ua uc us.length) 71)) w → Calls Tryz.prog 26 #[.agg (Yq0 F a1 m1 a2 m2 a3 m3 a4 m4 a5 m5 a6 m6 a7 m7 n7 a8 m8), .slice ua us.length uc] w (fun e w' => ∃ oa c, e = .returned (.slice oa us.length c) ∧ Ext w w' ∧ Rows w' 1 Pl.RowI (.slice oa us.length c) (Pl.mat us.length (Pl.dep F us)) ∧ ∀ (S : Nat → Prop) (w9 : World), Mod S w' w9 → (∀ b, S b → b < w.heap.size ∨ w'.heap.size ≤ b) → Rows w9 1 Pl.RowI (.slice oa us.length c) (Pl.mat us.length (Pl.dep F us)))) := Lh (fun w hx => HDB0.out w (HX7J.out.trans hx) _ (HU7.out.ext (((eR w7).alloc _).trans hx)))
 clear hf7 hu x7 HUB HDB0
 have hjb := aH w7 (.cells (Yq17 s0 s1 s2 s3 s4 s5 s6 s7 ua uc us.length) 71)
 have HJB := Lh hjb
 have f0 := alw (cQ 8 hjb)
 clear hjb
 go_upto_region 2 with (fail)
 refine Rel.region_tail (W := (w7.alloc (.cells (Yq17 s0 s1 s2 s3 s4 s5 s6 s7 ua uc us.length) 71))) 7 (Rel.tab [(6, fun v w => ∃ oa oc, v = .slice oa us.length oc ∧ (∀ (S : Nat → Prop) (w9 : World), Mod S w w9 → (∀ b, S b → b < (w7.alloc (.cells (Yq17 s0 s1 s2 s3 s4 s5 s6 s7 ua uc us.length) 71)).heap.size ∨ w.heap.size ≤ b) → Pl.Dm w9 oa oc us.length (Pl.dep F us)))]) (Rel.tab_lasts (by intro p hp v w w' hr hx; simp only [List.mem_cons, List.not_mem_nil, or_false] at hp; rcases hp with rfl; obtain ⟨oa, oc, h1, h2⟩ := hr; exact ⟨oa, oc, h1, fun S w9 hm hs => h2 S w9 ((Mod.of_ext hx).trans hm) (fun b hb => (hs b hb).imp id (fun h => Nat.le_trans hx.size h))⟩)) (by kernel_rfl) (by kernel_rfl) (eR _) ?_
 simp only [tkS, tkZ]
 refine Rel.chunkT 6 rfl rfl rfl ?_
 simp only [tkS, tkZ, dpS, dpZ, Nat.reduceAdd]
 repeat (go_big_quiet_step (fail))
 refine wpQuiet_nil ?_
 refine Rel.callG _ rfl rfl rfl Tryz.func26 (by nofun) (by decide) #[.agg (Yq0 F a1 m1 a2 m2 a3 m3 a4 m4 a5 m5 a6 m6 a7 m7 n7 a8 m8), .slice ua us.length uc] rfl (fun w hx _ => by refine (HDB.out w hx).mono ?_; rintro e w9 ⟨oa, oc, h1, h2, _, h4⟩; exact ⟨_, h1, h2, oa, oc, rfl, fun S w9 hm hs => h4 S w9 hm (fun b hb => (hs b hb).imp (fun h => Nat.lt_of_lt_of_le h hx.size) id)⟩) ?_
 intro u2 vf2 _ _ r2
 obtain ⟨oa, oc, rfl, _⟩ := r2
 simp only [Act.put, stA, stS, stZ]
 refine Rel.fin ?_
 intro w8 x8 hf8
 obtain ⟨oa', oc', hoe, hk⟩ := (hf8 6).2 rfl
 simp only [Value.slice.injEq, true_and] at hoe
 obtain ⟨rfl, rfl⟩ := hoe
 have HK := Lh hk
 have s8 := Sm x8
 have hjb8 := x8.heap HJB.out
 have g10 : w8.cell? ⟨w7.heap.size, 10, none⟩ = some (.slice none 0 0) := cQ 10 hjb8
 have fr10 : w8.frozen? ⟨w7.heap.size, 10, none⟩ = false := free_of hjb8
 have HX8 : Hid (Ext W w8) := Lh (HX7J.out.trans x8)
 have HX78 : Hid (Ext w7 w8) := Lh (((eR w7).alloc _).trans x8)
 have h78 := lt_of_block hjb8
 have HI0 : Hid (∃ ca cc, Hid (Mod (fun b => b = w7.heap.size ∨ w8.heap.size ≤ b) w8 (w8.setCell ⟨w7.heap.size, 10, none⟩ (.slice oa us.length oc)) ∧ (w8.setCell ⟨w7.heap.size, 10, none⟩ (.slice oa us.length oc)).heap[w7.heap.size]? = some (.cells #[.int .i64 s0, .int .i64 s1, .int .i64 s2, .int .i64 s3, .int .i64 s4, .int .i64 s5, .int .i64 s6, .int .i64 s7, .slice ua us.length uc, .slice ca 0 cc, .slice oa us.length oc] 71 (0, 0)) ∧ (w8.setCell ⟨w7.heap.size, 10, none⟩ (.slice oa us.length oc)).ownsRow w8.heap.size 73 2 (.slice ca 0 cc) 0 (((us.take 0).map (Pl.ucost F)).flatMap Pl.coC))) := Lh ⟨none, 0, Lh ⟨Pl.mod_cell.mono (fun b _ hb => .inl hb), setCell_heap hjb8, World.ownsRow_nil _ _ _ _⟩⟩
 clear hf8 hk hjb8 HDB x8 f0 HJB HX7J
 go_wp2_with (refine wpList_store_cellK rfl 69 (.tmp 21) (.tmp 19) rfl w7.heap.size 10 _ (.slice oa us.length oc) rfl rfl (by kernel_rfl) rfl g10 fr10 ?_)
 intro w9 hw9
 rw [← hw9.out] at HI0
 clear hw9 g10 fr10
 have p8 : w9.cell? ⟨w7.heap.size, 8, none⟩ = some (.slice ua us.length uc) := by obtain ⟨_, _, h⟩ := HI0.out; exact cQ 8 h.out.2.1
 go_wp2_with fail
 clear p8
 go_loopw [27] (fun q wr => ∃ k : Nat, k ≤ us.length ∧ q = .int .i64 k ∧ ∃ ca cc, Hid (Mod (fun b => b = w7.heap.size ∨ w8.heap.size ≤ b) w8 wr ∧ wr.heap[w7.heap.size]? = some (.cells #[.int .i64 s0, .int .i64 s1, .int .i64 s2, .int .i64 s3, .int .i64 s4, .int .i64 s5, .int .i64 s6, .int .i64 s7, .slice ua us.length uc, .slice ca k cc, .slice oa us.length oc] 71 (0, 0)) ∧ wr.ownsRow w8.heap.size 73 2 (.slice ca k cc) k (((us.take k).map (Pl.ucost F)).flatMap Pl.coC))) (fun q _ => us.length - (intOf q).toNat)
 case atStart => exact ⟨0, Nat.zero_le _, rfl, HI0.out⟩
 case round =>
  clear HI0
  obtain ⟨k, hk, rfl, ca, cc, HI⟩ := hrel
  have HXR : Hid (Ext w7 wr) := Lh (Pl.mod_low HX78.out HI.out.1 (fun b hb => by rcases hb with rfl | hb <;> omega))
  have HXW : Hid (Ext W wr) := Lh (HX7.out.trans HXR.out)
  have sxr : Step w7 wr := ⟨HXR.out⟩
  by_cases hlt : k < us.length
  ·obtain ⟨x, hx⟩ : ∃ y, us[k]? = some y := ⟨_, gE hlt⟩
   obtain ⟨ub, uo, rfl, _, _⟩ := Rows.at HU7.out (by omega)
   obtain ⟨c1, c2, g1, g2, _, _, e0, e1, e2⟩ := Pl.units_at HU7.out k x hx rfl
   have y0 := alw e0
   have y1 := alw e1
   have y2 := alw e2
   obtain ⟨tb, htb⟩ : ∃ t, t = x.tb := ⟨_, rfl⟩
   have HC : Hid (∀ w, Ext wr w → Calls Tryz.prog 27 #[.agg (Yq0 F a1 m1 a2 m2 a3 m3 a4 m4 a5 m5 a6 m6 a7 m7 n7 a8 m8), .agg #[.int .i64 tb, .slice c1 x.cd.length c2, .slice g1 x.gs.length g2]] w (Rets w (.agg #[.int .i64 (Pl.ucost F x).1, .int .i64 (Pl.ucost F x).2]))) := Lh (fun w hxx => by rw [htb]; exact HUC0.out w (HXW.out.trans hxx) x c1 g1 _ c2 _ g2)
   have HSN : Hid ((us.take (k + 1)).map (Pl.ucost F) = (us.take k).map (Pl.ucost F) ++ [((Pl.ucost F x).1, (Pl.ucost F x).2)]) := Lh (by rw [List.take_add_one, hx, List.map_append]; rfl)
   obtain ⟨r1, hr1⟩ : ∃ r, r = (Pl.ucost F x).1 := ⟨_, rfl⟩
   obtain ⟨r2, hr2⟩ : ∃ r, r = (Pl.ucost F x).2 := ⟨_, rfl⟩
   rw [← hr1, ← hr2] at HC HSN
   rw [← htb] at y0
   have p9 := alw (cQ 9 HI.out.2.1)
   have p8 := alw (cQ 8 HI.out.2.1)
   have bx := aH wr (.cells #[.int .i64 tb, .slice c1 x.cd.length c2, .slice g1 x.gs.length g2] 111)
   have qk0 := alw (cQ 0 bx)
   have qk1 := alw (cQ 1 bx)
   have qk2 := alw (cQ 2 bx)
   clear bx
   have hgw := lt_of_block HI.out.2.1
   have h8w := HI.out.1.size
   clear hx e0 e1 e2 hr1 hr2 htb
   go_wp2_with fail
   have hqb := aH wr (.cells #[.int .i64 tb, .slice c1 x.cd.length c2, .slice g1 x.gs.length g2] 111)
   have HQB := Lh hqb
   have HPBR : Hid (wr.heap[W.heap.size]? = some (.cells (Yq0 F a1 m1 a2 m2 a3 m3 a4 m4 a5 m5 a6 m6 a7 m7 n7 a8 m8) 31 (0, 0))) := Lh (HPB.out wr ((grows (a := (W.alloc (.cells (Yq0 F a1 m1 a2 m2 a3 m3 a4 m4 a5 m5 a6 m6 a7 m7 n7 a8 m8) 31))) (b := w7)).trans HXR.out))
   clear hqb
   obtain ⟨CC, hCC⟩ : ∃ z : World → Prop, z = (fun w' => w'.cell? ⟨w7.heap.size, 9, none⟩ = some (.slice ca k cc) ∧ w'.cell? ⟨W.heap.size, 0, none⟩ = some (.string F.nm) ∧ w'.cell? ⟨W.heap.size, 1, none⟩ = some (.slice a1 F.P.hs.length m1) ∧ w'.cell? ⟨W.heap.size, 2, none⟩ = some (.slice a2 F.P.md.length m2) ∧ w'.cell? ⟨W.heap.size, 3, none⟩ = some (.slice a3 F.rs.length m3) ∧ w'.cell? ⟨W.heap.size, 4, none⟩ = some (.slice a4 F.ac.length m4) ∧ w'.cell? ⟨W.heap.size, 5, none⟩ = some (.slice a5 F.ts.length m5) ∧ w'.cell? ⟨W.heap.size, 6, none⟩ = some (.slice a6 F.ss.length m6) ∧ w'.cell? ⟨W.heap.size, 7, none⟩ = some (.slice a7 n7 m7) ∧ w'.cell? ⟨W.heap.size, 8, none⟩ = some (.slice a8 F.P.dp.length m8) ∧ w'.cell? ⟨wr.heap.size, 0, none⟩ = some (.int .i64 tb) ∧ w'.cell? ⟨wr.heap.size, 1, none⟩ = some (.slice c1 x.cd.length c2) ∧ w'.cell? ⟨wr.heap.size, 2, none⟩ = some (.slice g1 x.gs.length g2)) := ⟨_, rfl⟩
   have HCC := Lh hCC
   clear hCC
   refine RelD.region CC 12 (by kernel_rfl) ?_
   have cq0 : ∀ y : Wh CC, y.val.cell? ⟨w7.heap.size, 9, none⟩ = some (.slice ca k cc) := fun y => by have h := Eq.mp (congrFun HCC.out y.val) y.out; exact h.1
   have cq1 : ∀ y : Wh CC, y.val.cell? ⟨W.heap.size, 0, none⟩ = some (.string F.nm) := fun y => by have h := Eq.mp (congrFun HCC.out y.val) y.out; exact h.2.1
   have cq2 : ∀ y : Wh CC, y.val.cell? ⟨W.heap.size, 1, none⟩ = some (.slice a1 F.P.hs.length m1) := fun y => by have h := Eq.mp (congrFun HCC.out y.val) y.out; exact h.2.2.1
   have cq3 : ∀ y : Wh CC, y.val.cell? ⟨W.heap.size, 2, none⟩ = some (.slice a2 F.P.md.length m2) := fun y => by have h := Eq.mp (congrFun HCC.out y.val) y.out; exact h.2.2.2.1
   have cq4 : ∀ y : Wh CC, y.val.cell? ⟨W.heap.size, 3, none⟩ = some (.slice a3 F.rs.length m3) := fun y => by have h := Eq.mp (congrFun HCC.out y.val) y.out; exact h.2.2.2.2.1
   have cq5 : ∀ y : Wh CC, y.val.cell? ⟨W.heap.size, 4, none⟩ = some (.slice a4 F.ac.length m4) := fun y => by have h := Eq.mp (congrFun HCC.out y.val) y.out; exact h.2.2.2.2.2.1
   have cq6 : ∀ y : Wh CC, y.val.cell? ⟨W.heap.size, 5, none⟩ = some (.slice a5 F.ts.length m5) := fun y => by have h := Eq.mp (congrFun HCC.out y.val) y.out; exact h.2.2.2.2.2.2.1
   have cq7 : ∀ y : Wh CC, y.val.cell? ⟨W.heap.size, 6, none⟩ = some (.slice a6 F.ss.length m6) := fun y => by have h := Eq.mp (congrFun HCC.out y.val) y.out; exact h.2.2.2.2.2.2.2.1
   have cq8 : ∀ y : Wh CC, y.val.cell? ⟨W.heap.size, 7, none⟩ = some (.slice a7 n7 m7) := fun y => by have h := Eq.mp (congrFun HCC.out y.val) y.out; exact h.2.2.2.2.2.2.2.2.1
   have cq9 : ∀ y : Wh CC, y.val.cell? ⟨W.heap.size, 8, none⟩ = some (.slice a8 F.P.dp.length m8) := fun y => by have h := Eq.mp (congrFun HCC.out y.val) y.out; exact h.2.2.2.2.2.2.2.2.2.1
   have cq10 : ∀ y : Wh CC, y.val.cell? ⟨wr.heap.size, 0, none⟩ = some (.int .i64 tb) := fun y => by have h := Eq.mp (congrFun HCC.out y.val) y.out; exact h.2.2.2.2.2.2.2.2.2.2.1
   have cq11 : ∀ y : Wh CC, y.val.cell? ⟨wr.heap.size, 1, none⟩ = some (.slice c1 x.cd.length c2) := fun y => by have h := Eq.mp (congrFun HCC.out y.val) y.out; exact h.2.2.2.2.2.2.2.2.2.2.2.1
   have cq12 : ∀ y : Wh CC, y.val.cell? ⟨wr.heap.size, 2, none⟩ = some (.slice g1 x.gs.length g2) := fun y => by have h := Eq.mp (congrFun HCC.out y.val) y.out; exact h.2.2.2.2.2.2.2.2.2.2.2.2
   have HC2 : Hid (CC (wr.alloc (.cells #[.int .i64 tb, .slice c1 x.cd.length c2, .slice g1 x.gs.length g2] 111)).drew) := Lh (by rw [HCC.out]; exact ⟨p9 _, k0 _, k1 _, k2 _, k3 _, k4 _, k5 _, k6 _, k7 _, k8 _, qk0 _, qk1 _, qk2 _⟩)
   have hNE : Nonempty (Wh CC) := ⟨⟨_, HC2.out⟩⟩
   refine RelD.chunkL (k' := 7) 7 6 (by kernel_rfl) rfl (by kernel_rfl) HC2.out ?_
   simp only [dpZ, tkS, tkZ]
   repeat (go_big_quiet_step (fail))
   refine wpQuiet_nil ?_
   refine RelD.realL (k' := 8) 5 (by kernel_rfl) rfl (by kernel_rfl) ?_
   simp only [dpZ, dpS, tkS, tkZ]
   go_wp2_with fail
   refine via (HC.out _ grows) fun w5 x5 sw5 => ?_
   have HX5 : Hid (Ext wr w5) := Lh grows
   have HC3 : Hid (CC w5) := Lh (by rw [HCC.out]; exact ⟨p9 _, k0 _, k1 _, k2 _, k3 _, k4 _, k5 _, k6 _, k7 _, k8 _, qk0 _, qk1 _, qk2 _⟩)
   go_wp2_with fail
   refine RelD.next_mk (fun _ => HC3.out) ?_
   refine RelD.realL (k' := 9) 4 (by kernel_rfl) rfl (by kernel_rfl) ?_
   simp only [dpZ, dpS, tkS, tkZ]
   go_wp2_with fail
   have HC4 : Hid (CC (w5.alloc (.cells #[.int .i64 r1, .int .i64 r2] 73))) := Lh (by rw [HCC.out]; exact ⟨p9 _, k0 _, k1 _, k2 _, k3 _, k4 _, k5 _, k6 _, k7 _, k8 _, qk0 _, qk1 _, qk2 _⟩)
   refine RelD.next_mk (fun _ => HC4.out) ?_
   refine RelD.realL (k' := 10) 3 (by kernel_rfl) rfl (by kernel_rfl) ?_
   simp only [dpZ, dpS, tkS, tkZ]
   have HS1 := Lh (Pl.src_res w5 r1 r2)
   have HXS : Hid (Ext wr (w5.alloc (.cells #[.int .i64 r1, .int .i64 r2] 73))) := Lh grows
   have HXU : Hid (Ext (wr.alloc (.cells #[.int .i64 tb, .slice c1 x.cd.length c2, .slice g1 x.gs.length g2] 111)) (w5.alloc (.cells #[.int .i64 r1, .int .i64 r2] 73))) := Lh grows
   have HOX := Lh (own_ext HI.out.2.2 HXS.out)
   have hsz := HXS.out.size
   have HJ5 := Lh (HXS.out.heap HI.out.2.1)
   have HP5 := Lh (HXS.out.heap HPBR.out)
   have HQ5 := Lh (HXU.out.heap HQB.out)
   have hWw := HXW.out.size
   clear p9 p8
   go_wp2_with (at_builtin; refine wpList_append_fresh rfl (.tmp 35) (.tmp 39) 68 rfl w8.heap.size 73 (.agg #[.int .i64 0, .int .i64 0]) 2 16 Tryz.underlying68 cinf_res rfl (by decide) (.slice ca k cc) k _ rfl HOX.out _ 1 _ rfl HS1.out (by unfold maxLen; omega) (by omega) (by omega) ?_)
   intro v' w6 hown hgr hfr
   obtain ⟨ca', cc', rfl⟩ := own_slice hown
   have hJ6 := (grown_mod hgr).heap HJ5.out (fun e => by have := (HOX.out.lt _ e.symm).1; omega)
   have hP6 := (grown_mod hgr).heap HP5.out (fun e => by have := (HOX.out.lt _ e.symm).1; have := HX8.out.size; have := HX78.out.size; have := HX7.out.size; have := lt_of_block HPB7.out; omega)
   have hQ6 := (grown_mod hgr).heap HQ5.out (fun e => by have := (HI.out.2.2.lt _ e.symm).2; omega)
   have HM6 : Hid (Mod (fun b => b = w7.heap.size ∨ w8.heap.size ≤ b) w8 w6) := Lh ((HI.out.1.trans (Mod.of_ext HXS.out)).trans ((grown_mod hgr).mono (fun b _ hb => .inr (HOX.out.lt b hb.symm).1)))
   have HO6 := Lh hown
   have HC6 : Hid (CC w6) := Lh (by rw [HCC.out]; exact ⟨cQ 9 hJ6, cQ 0 hP6, cQ 1 hP6, cQ 2 hP6, cQ 3 hP6, cQ 4 hP6, cQ 5 hP6, cQ 6 hP6, cQ 7 hP6, cQ 8 hP6, cQ 0 hQ6, cQ 1 hQ6, cQ 2 hQ6⟩)
   have c9 : w6.cell? ⟨w7.heap.size, 9, none⟩ = some (.slice ca k cc) := cQ 9 hJ6
   have fr9 : w6.frozen? ⟨w7.heap.size, 9, none⟩ = false := free_of hJ6
   have HN : Hid (∃ ca cc, Hid (Mod (fun b => b = w7.heap.size ∨ w8.heap.size ≤ b) w8 (w6.setCell ⟨w7.heap.size, 9, none⟩ (.slice ca' (k + 1) cc')) ∧ (w6.setCell ⟨w7.heap.size, 9, none⟩ (.slice ca' (k + 1) cc')).heap[w7.heap.size]? = some (.cells #[.int .i64 s0, .int .i64 s1, .int .i64 s2, .int .i64 s3, .int .i64 s4, .int .i64 s5, .int .i64 s6, .int .i64 s7, .slice (some ⟨ub, uo, none⟩) us.length uc, .slice ca (k + 1) cc, .slice oa us.length oc] 71 (0, 0)) ∧ (w6.setCell ⟨w7.heap.size, 9, none⟩ (.slice ca' (k + 1) cc')).ownsRow w8.heap.size 73 2 (.slice ca (k + 1) cc) (k + 1) (((us.take (k + 1)).map (Pl.ucost F)).flatMap Pl.coC))) := Lh ⟨ca', cc', Lh ⟨HM6.out.trans (Pl.mod_cell.mono (fun b _ hb => .inl hb)), setCell_heap hJ6, by
    rw [HSN.out, List.flatMap_append, List.map_take, List.flatMap_singleton]
    exact own_mod HO6.out Pl.mod_cell (fun b hb e => by have := (HO6.out.lt b hb).1; omega)⟩⟩
   clear hown hgr hfr hJ6 hP6 hQ6
   go_wp2_with fail
   refine RelD.next_mk (fun _ => HC6.out) ?_
   refine RelD.realL (k' := 11) 2 (by kernel_rfl) rfl (by kernel_rfl) ?_
   simp only [dpZ, dpS, tkS, tkZ]
   go_wp2_with fail
   refine RelD.next_mk (fun _ => HC6.out) ?_
   refine RelD.realL (k' := 12) 1 (by kernel_rfl) rfl (by kernel_rfl) ?_
   simp only [dpZ, dpS, tkS, tkZ]
   go_wp2_with fail
   refine RelD.next_mk (fun _ => HC6.out) ?_
   refine RelD.realL (k' := 13) 0 (by kernel_rfl) rfl (by kernel_rfl) ?_
   simp only [dpZ, dpS, tkS, tkZ]
   go_wp2_with (refine wpList_store_cellK rfl 68 (.tmp 42) (.tmp 40) rfl w7.heap.size 9 _ (.slice ca' (k + 1) cc') rfl rfl (by kernel_rfl) rfl c9 fr9 ?_)
   intro w9 hw9
   rw [← hw9.out] at HN
   clear hw9 c9 fr9
   go_wp2_with fail
   refine RelD.next_mk (fun h => absurd h (by decide)) ?_
   refine RelD.doneL (by kernel_rfl) (by kernel_rfl) ?_
   go_wp2_with fail
   go_roundw
   case rel => exact ⟨k + 1, by omega, by go_num, HN.out⟩
   case measure => simp [intOf]; omega
  ·obtain rfl : k = us.length := by omega
   have HF : Hid (Pl.NewP W F ⟨s0, s1, s2, s3, s4, s5, s6, s7⟩ us (.returned (.pointer (some ⟨w7.heap.size, 0, none⟩))) wr) := Lh (by
    obtain ⟨h1, h2, h3⟩ := HI.out
    rw [List.take_length] at h3
    refine ⟨_, rfl, HXW.out, ua, uc, ca, cc, oa, oc, h2, HU7.out.ext HXR.out, ?_, HK.out _ _ h1 (fun b hb => by
     rcases hb with rfl | hb
     ·left; rw [szA]; omega
     ·exact .inr hb)⟩
    exact (show (us.map (Pl.ucost F)).length = us.length by simp) ▸ rows_flat (f := Pl.coC) (fun _ => rfl) (fun d _ => rfl) ((show (us.map (Pl.ucost F)).length = us.length by simp).symm ▸ h3))
   go_wp2_with fail
   go_ret
   exact HF.out
namespace Pl
/-- what obstacle returns -/
def ObsP (W : World) (x : Int) (e : Ending) (w' : World) : Prop := ∃ a m c, e = .returned (.tuple #[.int .i64 x, .slice a m c]) ∧ Ext W w'
theorem obs_18 {F : Tj.FP} {C : Chip} {us : List Un} {i : Nat} (hi : i < us.length) (h : heavy F C us i = true) : obsE F C us = 18 := by
 unfold obsE
 rw [if_pos (List.any_eq_true.2 ⟨i, List.mem_range.2 hi, h⟩)]
theorem obs_not {F : Tj.FP} {C : Chip} {us : List Un} (h : ∀ i, i < us.length → heavy F C us i = false) : obsE F C us = if (ear (dep F us) us.length).any (fun s => decide (C.S ≤ s)) then 17 else 0 := by
 unfold obsE
 rw [if_neg]
 intro e
 obtain ⟨i, h1, h2⟩ := List.any_eq_true.1 e
 rw [h i (List.mem_range.1 h1)] at h2; cases h2
theorem any_at {l : List Int} {P : Int → Bool} {i : Nat} (hi : i < l.length) (h : P (l.getD i 0) = true) : l.any P = true := by
 rw [List.getD_eq_getElem?_getD, gE hi] at h
 exact List.any_eq_true.2 ⟨_, List.getElem_mem hi, h⟩
theorem any_none {l : List Int} {P : Int → Bool} (h : ∀ i, i < l.length → P (l.getD i 0) = false) : l.any P = false := by
 rw [Bool.eq_false_iff]
 intro e
 obtain ⟨x, h1, h2⟩ := List.any_eq_true.1 e
 obtain ⟨i, hi, rfl⟩ := List.getElem_of_mem h1
 have := h i hi
 rw [List.getD_eq_getElem?_getD, gE hi] at this
 rw [show (some l[i]).getD 0 = l[i] from rfl, h2] at this; cases this
end Pl
theorem obstacle_any {W : World} {F : Tj.FP} {C : Pl.Chip} {us : List Pl.Un} {g : Nat} (hB : Pl.Bd F) (h : Pl.JobM W F C us g) (hn : us.length ≤ 1000) :
 Calls Tryz.prog 14 #[.pointer (some ⟨g, 0, none⟩)] W (Pl.ObsP W (Pl.obsE F C us)) := by
 have HAD : Hid (∀ w, Ext W w → ∀ i : Nat, i < us.length → Calls Tryz.prog 28 #[.pointer (some ⟨g, 0, none⟩), .agg #[.int .i64 0, .int .i64 0, .int .i64 0, .int .i64 0], .int .i64 i] w (Rets w (.agg #[.int .i64 (Pl.adU F us ⟨0, 0, 0, 0⟩ i).t, .int .i64 (Pl.adU F us ⟨0, 0, 0, 0⟩ i).g, .int .i64 (Pl.adU F us ⟨0, 0, 0, 0⟩ i).r, .int .i64 (Pl.adU F us ⟨0, 0, 0, 0⟩ i).c]))) := Lh (fun w hx i hi => jadd_any (u := ⟨0, 0, 0, 0⟩) hB (h.ext hx) ⟨⟨by decide, by decide⟩, ⟨by decide, by decide⟩, ⟨by decide, by decide⟩, ⟨by decide, by decide⟩⟩ hi hn)
 have HWI : Hid (∀ w (u : Pl.Us), Calls Tryz.prog 18 #[.agg #[.int .i64 u.t, .int .i64 u.g, .int .i64 u.r, .int .i64 u.c], .agg (Pl.chL C).toArray] w (Rets w (.bool (Pl.wiU C u)))) := Lh (fun w u => within_any u C w)
 obtain ⟨s0, s1, s2, s3, s4, s5, s6, s7⟩ := C
 obtain ⟨ua, uc, ca, cc, oa, oc, hb, _, _, hd⟩ := h
 unfold Pl.chL at HWI
 dsimp only at HWI hb
 have HEA := Lh (fun (w : World) (hx : Ext W w) => earliest_any (hd.ext hx) (Pl.dep_012 F us) hn)
 have HCP := Lh (fun (w : World) (hx : Ext W w) => cpath_any (hd.ext hx) (Pl.dep_012 F us) hn)
 have b0 := alw (cQ 0 hb)
 have b1 := alw (cQ 1 hb)
 have b2 := alw (cQ 2 hb)
 have b3 := alw (cQ 3 hb)
 have b4 := alw (cQ 4 hb)
 have b5 := alw (cQ 5 hb)
 have b6 := alw (cQ 6 hb)
 have b7 := alw (cQ 7 hb)
 have b8 := alw (cQ 8 hb)
 have b10 := alw (cQ 10 hb)
 have HOB := Lh (fun i (hi : i < us.length) h2 => Pl.obs_18 (F := F) (C := ⟨s0, s1, s2, s3, s4, s5, s6, s7⟩) hi h2)
 have HON := Lh (Pl.obs_not (F := F) (C := ⟨s0, s1, s2, s3, s4, s5, s6, s7⟩) (us := us))
 have HHV : Hid (∀ i, Pl.heavy F ⟨s0, s1, s2, s3, s4, s5, s6, s7⟩ us i = !Pl.wiU ⟨s0, s1, s2, s3, s4, s5, s6, s7⟩ (Pl.adU F us ⟨0, 0, 0, 0⟩ i)) := Lh (fun i => rfl)
 obtain ⟨R, hR⟩ : ∃ R, R = Pl.obsE F ⟨s0, s1, s2, s3, s4, s5, s6, s7⟩ us := ⟨_, rfl⟩
 rw [← hR] at HON ⊢
 have HR := Lh hR
 have hel := Pl.ear_len (Pl.dep F us) us.length
 obtain ⟨n, hnn⟩ : ∃ n, us.length = n := ⟨_, rfl⟩
 rw [hnn] at HAD HEA HCP HOB HON hel hn b8 b10
 have hz := zero_use
 clear hb hd hR hnn
 go_enter Tryz.func14, Tryz.ntmps14
 go_wp2_with fail
 go_loopw [12] (fun q wr => ∃ i : Nat, i ≤ n ∧ q = .int .i64 i ∧ Hid (∀ j, j < i → Pl.heavy F ⟨s0, s1, s2, s3, s4, s5, s6, s7⟩ us j = false) ∧ Hid (Ext W wr)) (fun q _ => n - (intOf q).toNat)
 case atStart => exact ⟨0, Nat.zero_le _, rfl, Lh (fun j hj => by omega), Lh (eR _)⟩
 case round =>
  obtain ⟨i, hi, rfl, HP, HX⟩ := hrel
  have sx : Step W wr := ⟨HX.out⟩
  by_cases hik : i < n
  ·have HC1 := Lh (fun w (hxx : Ext wr w) => HAD.out w (HX.out.trans hxx) i hik)
   have hv := HHV.out i
   obtain ⟨u, hu⟩ : ∃ u, u = Pl.adU F us ⟨0, 0, 0, 0⟩ i := ⟨_, rfl⟩
   rw [← hu] at HC1 hv
   obtain ⟨u1, u2, u3, u4⟩ := u
   have HC2 := Lh (fun w => HWI.out w ⟨u1, u2, u3, u4⟩)
   dsimp only at HC1 HC2
   obtain ⟨b, hb⟩ : ∃ b, b = Pl.wiU ⟨s0, s1, s2, s3, s4, s5, s6, s7⟩ ⟨u1, u2, u3, u4⟩ := ⟨_, rfl⟩
   rw [← hb] at HC2 hv
   have HV := Lh hv
   clear hu hb hv
   go_wp2_with fail
   refine wp_region_later (W := wr) (by kernel_rfl) (by kernel_rfl) grows ?_
   repeat (go_big_quiet_step (first | (go_at_call 28; with_reducible exact Rets.later_at (HC1.out _ grows)) | (go_at_call 18; with_reducible exact Rets.later_at (HC2.out _)) | fail))
   refine wpQuiet_nil ?_
   intro w5 hx5
   have sw5 := Sm hx5
   rcases b with _ | _
   ·have HE : Hid (R = 18) := Lh (by rw [HR.out]; exact HOB.out i hik (by rw [HV.out]; rfl))
    go_wp2_with fail
    exact bodyPost_ret (v := .tuple #[.int .i64 18, .slice (some ⟨w5.heap.size, 0, none⟩) 1 1]) (by simp [results, Tryz.results14, go_sem]) rfl ⟨_, _, _, by rw [HE.out], grows⟩
   ·have HN : Hid (∀ j, j < i + 1 → Pl.heavy F ⟨s0, s1, s2, s3, s4, s5, s6, s7⟩ us j = false) := Lh (fun j hj => by
     rcases (show j < i ∨ j = i by omega) with h | rfl
     ·exact HP.out j h
     ·rw [HV.out]; rfl)
    have HX5 : Hid (Ext W w5) := Lh (HX.out.trans hx5)
    go_wp2_with fail
    go_roundw
    case rel => exact ⟨i + 1, by omega, by go_num, HN, HX5⟩
    case measure => simp [intOf]; omega
  ·obtain rfl : n = i := by omega
   have HRE : Hid (R = if (Pl.ear (Pl.dep F us) n).any (fun s => decide (s0 ≤ s)) then 17 else 0) := Lh (HON.out (fun j hj => HP.out j hj))
   obtain ⟨w1, rfl⟩ : ∃ w1 : World, w1 = wr := ⟨_, rfl⟩
   go_wp2_with fail
   refine (HEA.out w1 HX.out).mono ?_
   rintro e w3 ⟨rfl, x3, hrow⟩
   have sw3 := Sm x3
   have HROW := Lh hrow
   obtain ⟨L, hL⟩ : ∃ L, L = Pl.ear (Pl.dep F us) n := ⟨_, rfl⟩
   rw [← hL] at HRE HROW hel
   clear hrow hL x3
   go_wp2_with fail
   go_loopw [34] (fun q wr => ∃ i : Nat, i ≤ n ∧ q = .int .i64 i ∧ Hid (∀ j, j < i → decide (s0 ≤ L.getD j 0) = false) ∧ Hid (Ext w3 wr)) (fun q _ => n - (intOf q).toNat)
   case atStart => exact ⟨0, Nat.zero_le _, rfl, Lh (fun j hj => by omega), Lh (eR _)⟩
   case round =>
    obtain ⟨i, hi, rfl, HP2, HX2⟩ := hrel
    have sx2 : Step w3 wr := ⟨HX2.out⟩
    by_cases hik : i < n
    ·have c0 := alw (HROW.out.cell (a := i) (by omega))
     obtain ⟨x, hx⟩ : ∃ x, x = L.getD i 0 := ⟨_, rfl⟩
     rw [← hx] at c0
     have HXX := Lh hx
     clear hx
     by_cases hs : s0 ≤ x
     ·have z1 : decide (s0 ≤ x) = true := dTt hs
      have HE : Hid (R = 17) := Lh (by rw [HRE.out, if_pos (Pl.any_at (i := i) (by omega) (by rw [← HXX.out]; exact z1))])
      go_wp2_with fail
      refine (HCP.out wr grows).mono ?_
      rintro e w7 ⟨⟨a7, m7, c7, rfl⟩, x7⟩
      have s7' := Sm x7
      go_wp2_with fail
      exact bodyPost_ret (v := .tuple #[.int .i64 17, .slice a7 m7 c7]) (by simp [results, Tryz.results14, go_sem]) rfl ⟨_, _, _, by rw [HE.out], grows⟩
     ·have z1 : decide (s0 ≤ x) = false := dF hs
      have HN : Hid (∀ j, j < i + 1 → decide (s0 ≤ L.getD j 0) = false) := Lh (fun j hj => by
       rcases (show j < i ∨ j = i by omega) with h | rfl
       ·exact HP2.out j h
       ·rw [← HXX.out]; exact z1)
      go_wp2_with fail
      go_roundw
      case rel => exact ⟨i + 1, by omega, by go_num, HN, HX2⟩
      case measure => simp [intOf]; omega
    ·obtain rfl : n = i := by omega
     have HE : Hid (R = 0) := Lh (by rw [HRE.out, Pl.any_none (fun j hj => HP2.out j (by omega))]; rfl)
     go_wp2_with fail
     exact bodyPost_ret (v := .tuple #[.int .i64 0, .slice none 0 0]) (by simp [results, Tryz.results14, go_sem]) rfl ⟨_, _, _, by rw [HE.out], grows⟩
abbrev Yq2  : Array Value := #[.int .i64 0, .int .i64 0, .int .i64 0, .int .i64 0, .int .i64 0, .int .i64 0, .int .i64 0, .int .i64 0, .int .i64 0, .int .i64 0, .int .i64 0, .int .i64 0, .int .i64 0, .int .i64 0, .int .i64 0, .int .i64 0, .int .i64 0, .int .i64 0, .int .i64 0, .int .i64 0, .int .i64 0, .int .i64 0, .int .i64 0, .int .i64 0, .int .i64 0, .int .i64 0, .int .i64 0, .int .i64 0, .int .i64 0, .int .i64 0, .int .i64 0, .int .i64 0, .int .i64 0, .int .i64 0, .int .i64 0, .int .i64 0, .int .i64 0, .int .i64 0, .int .i64 0, .int .i64 0, .int .i64 0, .int .i64 0, .int .i64 0, .int .i64 0, .int .i64 0, .int .i64 0, .int .i64 0, .int .i64 0, .int .i64 0, .int .i64 0, .int .i64 0, .int .i64 0, .int .i64 0, .int .i64 0, .int .i64 0, .int .i64 0, .int .i64 0, .int .i64 0, .int .i64 0, .int .i64 0, .int .i64 0, .int .i64 0, .int .i64 0, .int .i64 0]
theorem zero_u16 (w : World) : (zeroValue 115).run Tryz.prog w = .ok (.agg (Yq2 )) w := by kernel_rfl
/-- a scope with one label: the first run may use what is known of the pass -/
theorem wp_scope_label {P : Program} {a : Act} {w : World} {Q : Exit → Act → World → Prop} {c rest : Code} (l : Nat) (J : Act → World → Prop) (μ : Act → World → Nat) (hf : findLabel c l = some (.seq .skip rest))
 (pass : ∀ a w, J a w → rest.wp P (Exit.jump l (fun a' w' => J a' w' ∧ μ a' w' < μ a w) Q) a w)
 (first : (∀ a w, J a w → rest.wp P (Exit.jump l J Q) a w) → c.wp P (Exit.jump l J Q) a w) : (Code.scope c).wp P Q a w :=
 have pass' : ∀ a w, J a w → (Code.seq .skip rest).wp P (Exit.jump l (fun a' w' => J a' w' ∧ μ a' w' < μ a w) Q) a w := fun a w hj => wp_seq (wp_skip (pass a w hj))
 wp_scope_jumps l J μ hf (first (fun a w hj => Code.wp_mono (fun e a' w' h => by
  cases e with
  | goto l' => exact ⟨h.1, h.2.1⟩
  | _ => exact h) (pass a w hj))) pass'
namespace Pl
/-- what each stage uses, in memory -/
def UsM (w : World) (b : Nat) (U : Nat → Us) : Prop := (∃ cs, w.heap[b]? = some (.cells cs 115 (0, 0))) ∧ ∀ t, t < 16 → w.cell? ⟨b, t * 4, none⟩ = some (.int .i64 (U t).t) ∧ w.cell? ⟨b, t * 4 + 1, none⟩ = some (.int .i64 (U t).g) ∧ w.cell? ⟨b, t * 4 + 2, none⟩ = some (.int .i64 (U t).r) ∧ w.cell? ⟨b, t * 4 + 3, none⟩ = some (.int .i64 (U t).c)
theorem UsM.mod {S : Nat → Prop} {w w' : World} {b : Nat} {U : Nat → Us} (h : UsM w b U) (hm : Mod S w w') (hs : ¬ S b) : UsM w' b U := by
 obtain ⟨⟨cs, hb⟩, hc⟩ := h
 have hb' := hm.heap hb hs
 refine ⟨⟨cs, hb'⟩, fun t ht => ?_⟩
 have g := hc t ht
 rw [cell_of hb, cell_of hb, cell_of hb, cell_of hb] at g
 rw [cell_of hb', cell_of hb', cell_of hb', cell_of hb']
 exact g
theorem UsM.ext {w w' : World} {b : Nat} {U : Nat → Us} (h : UsM w b U) (hx : Ext w w') : UsM w' b U := h.mod (S := fun _ => False) (Mod.of_ext hx) (fun h => h)
theorem UsM.there {w : World} {b : Nat} {U : Nat → Us} (h : UsM w b U) {t : Nat} (ht : t < 16) : w.there b (t * 4) 4 := fun j hj => by
 obtain ⟨⟨cs, hb⟩, hc⟩ := h
 obtain ⟨g0, g1, g2, g3⟩ := hc t ht
 refine ⟨?_, free_of hb⟩
 rcases (show j = 0 ∨ j = 1 ∨ j = 2 ∨ j = 3 by omega) with rfl | rfl | rfl | rfl
 ·rw [Nat.add_zero, g0]; rfl
 ·rw [g1]; rfl
 ·rw [g2]; rfl
 ·rw [g3]; rfl
theorem UsM.set {w : World} {b : Nat} {U : Nat → Us} (h : UsM w b U) {t : Nat} (ht : t < 16) (v : Us) : UsM (w.setCells b (t * 4) [.int .i64 v.t, .int .i64 v.g, .int .i64 v.r, .int .i64 v.c]) b (fun x => if x = t then v else U x) ∧ Mod (fun q => q = b) w (w.setCells b (t * 4) [.int .i64 v.t, .int .i64 v.g, .int .i64 v.r, .int .i64 v.c]) := by
 have hth := h.there ht
 obtain ⟨⟨cs, hb⟩, hc⟩ := h
 have h1 := setCell_heap (o := t * 4) (v := Value.int .i64 v.t) hb
 have h2 := setCell_heap (o := t * 4 + 1) (v := Value.int .i64 v.g) h1
 have h3 := setCell_heap (o := t * 4 + 1 + 1) (v := Value.int .i64 v.r) h2
 have h4 := setCell_heap (o := t * 4 + 1 + 1 + 1) (v := Value.int .i64 v.c) h3
 have hin := World.cell?_setCells_in b [.int .i64 v.t, .int .i64 v.g, .int .i64 v.r, .int .i64 v.c] (t * 4) w (fun j hj => (hth j hj).1)
 refine ⟨⟨⟨_, h4⟩, fun x hx => ?_⟩, (((mod_cell.trans mod_cell).trans mod_cell).trans mod_cell)⟩
 by_cases e : x = t
 ·subst e
  dsimp only
  rw [if_pos rfl]
  exact ⟨hin 0 (by simp), hin 1 (by simp), hin 2 (by simp), hin 3 (by simp)⟩
 ·dsimp only
  rw [if_neg e]
  have ho : ∀ i, i < 4 → (w.setCells b (t * 4) [.int .i64 v.t, .int .i64 v.g, .int .i64 v.r, .int .i64 v.c]).cell? ⟨b, x * 4 + i, none⟩ = w.cell? ⟨b, x * 4 + i, none⟩ := fun i hi => World.cell?_setCells_out b _ _ _ _ (fun _ _ => by
   show x * 4 + i < t * 4 ∨ t * 4 + 4 ≤ x * 4 + i
   omega)
  have g := hc x hx
  exact ⟨(ho 0 (by decide)).trans g.1, (ho 1 (by decide)).trans g.2.1, (ho 2 (by decide)).trans g.2.2.1, (ho 3 (by decide)).trans g.2.2.2⟩
theorem UsM.start {w : World} {b : Nat} (h : w.heap[b]? = some (.cells (Yq2 ) 115 (0, 0))) : UsM w b (fun _ => ⟨0, 0, 0, 0⟩) := by
 have h2 : w.heap[b]? = some (.cells (List.replicate 64 (Value.int .i64 0)).toArray 115 (0, 0)) := h
 have hc : ∀ i, i < 64 → w.cell? ⟨b, i, none⟩ = some (.int .i64 0) := fun i hi => by
  rw [cell_of h2, List.getElem?_toArray, List.getElem?_replicate, if_pos hi]
 exact ⟨⟨_, h⟩, fun t ht => ⟨hc _ (by omega), hc _ (by omega), hc _ (by omega), hc _ (by omega)⟩⟩
theorem UsM.congr {w : World} {b : Nat} {U V : Nat → Us} (h : UsM w b U) (e : ∀ t, t < 16 → U t = V t) : UsM w b V := ⟨h.1, fun t ht => by rw [← e t ht]; exact h.2 t ht⟩
/-- the first places of a row of one's own, as they are read -/
theorem RowB.take {w : World} {g k : Nat} {L : List Int} (h : RowB w g L) (hk : k ≤ L.length) (hm : L.length ≤ maxLen) : Ns .i64 w (.slice (some ⟨g, 0, none⟩) (L.take k).length L.length) (L.take k) := by
 have hl : (L.take k).length = k := by rw [List.length_take]; omega
 refine ⟨⟨by simp, fun v hv => ?_, .inr ⟨⟨g, 0, none⟩, L.length, rfl, fun j v hj => ?_⟩⟩, by rw [hl]; omega⟩
 ·obtain ⟨x, _, rfl⟩ := List.mem_map.1 hv; rfl
 ·rw [List.getElem?_map, List.getElem?_take] at hj
  split at hj
  ·rename_i hjk
   rw [gE (by omega)] at hj
   simp only [Option.map_some, Option.some.injEq] at hj
   subst hj
   rw [Addr.add_mid, Nat.zero_add, h.cell (a := j) (by omega), List.getD_eq_getElem?_getD, gE (by omega)]; rfl
  ·cases hj
end Pl
namespace Pl
/-- the slots that do not matter -/
structure Fr where
 u10 : Value
 u11 : Value
 u12 : Value
 u13 : Value
 u14 : Value
 u15 : Value
 u16 : Value
 u17 : Value
 u18 : Value
 u19 : Value
 u20 : Value
 u21 : Value
 u22 : Value
 u23 : Value
 u24 : Value
 u25 : Value
 u26 : Value
 u27 : Value
 u28 : Value
 u29 : Value
 u30 : Value
 u31 : Value
 u32 : Value
 u33 : Value
 u34 : Value
 u35 : Value
 u36 : Value
 u37 : Value
 u38 : Value
 u39 : Value
 u40 : Value
 u41 : Value
 u42 : Value
 u43 : Value
 u44 : Value
 u45 : Value
 u46 : Value
 u47 : Value
 u48 : Value
 u49 : Value
 u50 : Value
 u51 : Value
 u52 : Value
 u53 : Value
 u54 : Value
 u55 : Value
 u56 : Value
 u57 : Value
 u58 : Value
 u59 : Value
 u60 : Value
 u61 : Value
 u62 : Value
 u63 : Value
 u64 : Value
 u65 : Value
 u66 : Value
 u67 : Value
 u68 : Value
 u69 : Value
 u70 : Value
 u71 : Value
 u72 : Value
 u73 : Value
 u74 : Value
 u75 : Value
 u76 : Value
 u77 : Value
 u78 : Value
 u79 : Value
 u80 : Value
 u81 : Value
 u82 : Value
 u83 : Value
 u84 : Value
 u85 : Value
 u86 : Value
 u87 : Value
 u88 : Value
 u89 : Value
 u90 : Value
end Pl
namespace Pl
/-- what the search returns -/
def SchP (W : World) (J : Job) (B : Int) (e : Ending) (w' : World) : Prop := Ext W w' ∧
 ((∃ (rb : Nat) (σ : List Int) (st : Int), e = .returned (.agg #[.int .i64 1, .slice (some ⟨rb, 0, none⟩) J.n J.n, .int .i64 st, .int .i64 0, .slice none 0 0]) ∧ RowB w' rb σ ∧ Val J σ ∧ ∀ τ, Val J τ → prec τ σ = false) ∨
  (∃ st : Int, e = .returned (.agg #[.int .i64 2, .slice none 0 0, .int .i64 st, .int .i64 13, .slice none 0 0]) ∧ ∀ τ, ¬ Val J τ) ∨
  (∃ st : Int, e = .returned (.agg #[.int .i64 3, .slice none 0 0, .int .i64 st, .int .i64 19, .slice none 0 0]) ∧ (J.n = 1 → B < J.S)))
theorem chip_S {C : Chip} (h : chipE C = 0) : 1 ≤ C.S ∧ C.S ≤ 16 := by
 unfold chipE at h
 split at h
 ·cases h
 ·omega
theorem usb_take {F : Tj.FP} {C : Chip} {us : List Un} {σ : List Int} {k : Nat} {t : Int} (hk : k ≤ 1000) : UsB 1000000 (Pl.us (job F C us) (σ.take k) t) := (us_bd F C us (σ.take k) t).up (by rw [List.length_take]; omega)
/-- the search's state in memory -/
structure SI (W : World) (J : Job) (B : Nat) (σ : List Int) (k s st : Nat) (w : World) : Prop where
 inv : Inv J σ k s
 x : Ext W w
 box : w.heap[W.heap.size]? = some (.cells (Yq12 ) 46 (0, 0))
 used : UsM w (W.heap.size + 1) (fun t => us J (σ.take k) t)
 row : RowB w (W.heap.size + 1 + 1) σ
 sb : st ≤ B
 one : J.n = 1 → k = 0 → st = s
theorem mu_put {B st st' n k : Nat} (h : st ≤ st') (h2 : st' < B) : (B - (st' + 1)) * (n + 2) + (k + 1) < (B - st) * (n + 2) + k := by
 have h1 : (B - (st' + 1) + 1) * (n + 2) ≤ (B - st) * (n + 2) := Nat.mul_le_mul_right _ (by omega)
 rw [Nat.succ_mul] at h1
 omega
theorem mu_back {B st st' n k : Nat} (h : st ≤ st') : (B - st') * (n + 2) + k < (B - st) * (n + 2) + (k + 1) := by
 have h1 : (B - st') * (n + 2) ≤ (B - st) * (n + 2) := Nat.mul_le_mul_right _ (by omega)
 omega
/-- a store of several cells; the new world's equation comes hidden -/
theorem wpList_store_midH {P : Program} {ops : Array Oper} {rest : List Oper} {op : Oper} {a : Act} {w : World} {Q : Exit → Act → World → Prop} (hgd : op.guard = none) (ty : TypeId) (x y : Operand) (ho : op.op = .store ty x y)
 (b o : Nat) (cells : Array Value) (hx : a.eval x = .pointer (some ⟨b, o, none⟩)) (hy : a.eval y = .agg cells)
 (ht : w.there b o cells.size) (hi : (P.info? ty).map (·.size) = some cells.size) (h1 : cells.all (·.oneCell') = true)
 (h : ∀ w', Hid (w' = w.setCells b o cells.toList) → wpList P ops Q rest (a.put op.dst undef) w') : wpList P ops Q (op :: rest) a w :=
 wpList_store_mid hgd ty x y ho b o cells hx hy ht hi h1 (h _ (Lh rfl))
theorem SI.put {W w w5 w6 w7 : World} {J : Job} {B k s st : Nat} {σ : List Int} {v : Us} (I : SI W J B σ k s st w) (x5 : Ext w w5) (hk : k < J.n) (hs : (s : Int) < J.S) (hS : J.S ≤ 16) (hst : st + 1 ≤ B) (hv : v = J.ad (us J (σ.take k) s) k) (hw : J.wi v = true) (hf : fol J σ k s = true)
 (e6 : w6 = w5.setCells (W.heap.size + 1) (s * 4) [.int .i64 v.t, .int .i64 v.g, .int .i64 v.r, .int .i64 v.c]) (e7 : w7 = w6.setCell ⟨W.heap.size + 1 + 1, k, none⟩ (.int .i64 s)) : SI W J B (σ.set k (s : Int)) (k + 1) 0 (st + 1) w7 := by
 have hl := I.inv.len
 have hset := (I.used.ext x5).set (t := s) (by omega) v
 rw [← e6] at hset
 have r6 := hset.2.heap (x5.heap I.row) (by omega)
 have r7 := RowB.set (a := k) r6 (s : Int)
 rw [← e7] at r7
 have m7 : Mod (fun q => q = W.heap.size + 1 + 1) w6 w7 := by rw [e7]; exact mod_cell
 refine ⟨I.inv.put hk hs (by rw [← hv]; exact hw) hf, mod_low (mod_low (I.x.trans x5) hset.2 (fun q hq => by omega)) m7 (fun q hq => by omega), m7.heap (hset.2.heap (x5.heap I.box) (by omega)) (by omega), (hset.1.mod m7 (by omega)).congr (fun t ht => ?_), r7, hst, fun _ h => by omega⟩
 rw [us_step (σ.set k (s : Int)) k (by rw [List.length_set]; omega), getD_set (by omega), if_pos rfl, take_set]
 by_cases e : t = s
 ·subst e; rw [if_pos rfl, if_pos rfl, hv]
 ·rw [if_neg e, if_neg (by omega)]
theorem SI.stage {W w : World} {J : Job} {B k s st : Nat} {σ : List Int} (I : SI W J B σ (k + 1) s st w) (hS : J.S ≤ 16) : ∃ q : Nat, q < 16 ∧ σ.getD k 0 = (q : Int) := by
 have h := I.inv.rg k (by omega)
 exact ⟨(σ.getD k 0).toNat, by omega, by omega⟩
theorem SI.back {W w w5 w6 : World} {J : Job} {B k s st q : Nat} {σ : List Int} {v : Us} (hok : J.Ok) (I : SI W J B σ (k + 1) s st w) (x5 : Ext w w5) (hk : k + 1 < J.n) (hs : (s : Int) = J.S) (hq : q < 16) (hx : σ.getD k 0 = (q : Int)) (hv : v = us J (σ.take k) q)
 (e6 : w6 = w5.setCells (W.heap.size + 1) (q * 4) [.int .i64 v.t, .int .i64 v.g, .int .i64 v.r, .int .i64 v.c]) : SI W J B σ k (q + 1) st w6 := by
 have hl := I.inv.len
 have hset := (I.used.ext x5).set (t := q) hq v
 rw [← e6] at hset
 have hb := Inv.back hok (by have := I.inv; rw [hs] at this; exact this) hk
 rw [hx] at hb
 refine ⟨hb, mod_low (I.x.trans x5) hset.2 (fun q hq => by omega), hset.2.heap (x5.heap I.box) (by omega), hset.1.congr (fun t ht => ?_), hset.2.heap (x5.heap I.row) (by omega), I.sb, fun h1 h2 => by omega⟩
 by_cases e : t = q
 ·subst e; rw [if_pos rfl, hv]
 ·rw [if_neg e, us_step σ k (by omega), if_neg (by rw [hx]; omega)]
end Pl
set_option maxRecDepth 100000 in
theorem search_any {W : World} {F : Tj.FP} {C : Pl.Chip} {us : List Pl.Un} {g B : Nat} (hB : Pl.Bd F) (hc : Pl.chipE C = 0) (h : Pl.JobM W F C us g) (hn : us.length ≤ 1000) (hb : B ≤ 1048576) :
 Calls Tryz.prog 15 #[.pointer (some ⟨g, 0, none⟩), .int .i64 B] W (Pl.SchP W (Pl.job F C us) B) := by
 have hok := Pl.job_ok (F := F) (us := us) hc
 obtain ⟨hS1, hS16⟩ := Pl.chip_S hc
 have hzu := zero_u16
 have hz := zero_use
 have hmi := mk_i us.length (by omega)
 have HJ := Lh h
 obtain ⟨ua, uc, ca, cc, oa, oc, hjb, _, _, _⟩ := h
 have b0 := alw (cQ 0 hjb)
 have b1 := alw (cQ 1 hjb)
 have b2 := alw (cQ 2 hjb)
 have b3 := alw (cQ 3 hjb)
 have b4 := alw (cQ 4 hjb)
 have b5 := alw (cQ 5 hjb)
 have b6 := alw (cQ 6 hjb)
 have b7 := alw (cQ 7 hjb)
 have b8 := alw (cQ 8 hjb)
 clear hjb
 go_enter Tryz.func15, Tryz.ntmps15
 go_wp2_with fail
 refine wp_scope_label 0 (fun a' w' => ∃ (σ : List Int) (k s st : Nat) (u : Pl.Fr), a' = { tmps := #[.pointer (some ⟨g, 0, none⟩), .int .i64 B, undef, undef, .pointer (some ⟨W.heap.size, 0, none⟩), .pointer (some ⟨W.heap.size + 1, 0, none⟩), .slice (some ⟨W.heap.size + 1 + 1, 0, none⟩) us.length us.length, .int .i64 k, .int .i64 s, .int .i64 st, u.u10, u.u11, u.u12, u.u13, u.u14, u.u15, u.u16, u.u17, u.u18, u.u19, u.u20, u.u21, u.u22, u.u23, u.u24, u.u25, u.u26, u.u27, u.u28, u.u29, u.u30, u.u31, u.u32, u.u33, u.u34, u.u35, u.u36, u.u37, u.u38, u.u39, u.u40, u.u41, u.u42, u.u43, u.u44, u.u45, u.u46, u.u47, u.u48, u.u49, u.u50, u.u51, u.u52, u.u53, u.u54, u.u55, u.u56, u.u57, u.u58, u.u59, u.u60, u.u61, u.u62, u.u63, u.u64, u.u65, u.u66, u.u67, u.u68, u.u69, u.u70, u.u71, u.u72, u.u73, u.u74, u.u75, u.u76, u.u77, u.u78, u.u79, u.u80, u.u81, u.u82, u.u83, u.u84, u.u85, u.u86, u.u87, u.u88, u.u89, u.u90], defers := [] } ∧ Hid (Pl.SI W (Pl.job F C us) B σ k s st w')) (fun a' _ => (B - (intOf (a'.tmps.getD 9 undef)).toNat) * (us.length + 2) + (intOf (a'.tmps.getD 7 undef)).toNat) rfl ?_ ?_
 ·rintro a' w' ⟨σ, k, s, st, u, rfl, HI⟩
  have hkn := HI.out.inv.kn
  by_cases hke : k = us.length
  ·have z1 : ((k : Int) == (us.length : Int)) = true := by simp [hke]
   have z2 : (k == us.length) = true := by simp [hke]
   have HBX := Lh HI.out.box
   have HXW := Lh HI.out.x
   have sx : Step W w' := ⟨HXW.out⟩
   go_upto_region 5 with (fail)
   go_wp2_with (refine wpList_store_box rfl 46 (.tmp 4) (.tmp 26) rfl W.heap.size #[.int .i64 1, .slice (some ⟨W.heap.size + 1 + 1, 0, none⟩) us.length us.length, .int .i64 st, .int .i64 0, .slice none 0 0] rfl rfl 46 (Yq12 ) HBX.out (by kernel_rfl) rfl (by simp [Value.oneCell']) ?_)
   intro w9 hm hb
   have q0 := cQ 0 hb
   have q1 := cQ 1 hb
   have q2 := cQ 2 hb
   have q3 := cQ 3 hb
   have q4 := cQ 4 hb
   have HXF : Hid (Ext W w9) := Lh (Pl.mod_low HXW.out hm (fun q hq => by omega))
   have HM := Lh hm
   clear hm hb
   go_wp2_with fail
   simp only [Exit.jump]
   refine bodyPost_ret (v := .agg #[.int .i64 1, .slice (some ⟨W.heap.size + 1 + 1, 0, none⟩) us.length us.length, .int .i64 st, .int .i64 0, .slice none 0 0]) (by simp [results, Tryz.results15, go_sem, q0, q1, q2, q3, q4]) rfl ⟨HXF.out, ?_⟩
   have hinv : Pl.Inv (Pl.job F C us) σ (Pl.job F C us).n s := by have := HI.out.inv; rw [hke] at this; exact this
   exact .inl ⟨_, σ, _, rfl, HM.out.heap HI.out.row (by omega), hinv.val, fun τ hv => hinv.first hv⟩
  ·have hk : k < us.length := by have : k ≤ us.length := hkn; omega
   have z1 : ((k : Int) == (us.length : Int)) = false := by simp; omega
   have z2 : (k == us.length) = false := by simp; omega
   have sx0 : Step W w' := ⟨HI.out.x⟩
   go_wp2_with fail
   go_loopw [7, 8, 9] (fun s7 s8 s9 wr => s7 = .int .i64 k ∧ ∃ s' st' : Nat, s8 = .int .i64 s' ∧ s9 = .int .i64 st' ∧ st ≤ st' ∧ Hid (Pl.SI W (Pl.job F C us) B σ k s' st' wr)) (fun _ q _ _ => 16 - (intOf q).toNat)
   case atStart => exact ⟨rfl, s, st, rfl, rfl, Nat.le_refl _, HI⟩
   case round =>
    clear HI
    obtain ⟨rfl, s', st', rfl, rfl, hst, HI⟩ := hrel
    have HXW := Lh HI.out.x
    have sx : Step W wr := ⟨HXW.out⟩
    have hsS : (s' : Int) ≤ C.S := HI.out.inv.sS
    by_cases hs : (s' : Int) < C.S
    ·have z3 : decide ((s' : Int) < C.S) = true := dTt hs
     by_cases hsb : st' = B
     ·have z4 : ((st' : Int) == (B : Int)) = true := by simp [hsb]
      have z5 : (st' == B) = true := by simp [hsb]
      have HBX := Lh HI.out.box
      go_upto_region 9 with (fail)
      go_wp2_with (refine wpList_store_box rfl 46 (.tmp 4) (.tmp 40) rfl W.heap.size #[.int .i64 3, .slice none 0 0, .int .i64 B, .int .i64 19, .slice none 0 0] rfl rfl 46 (Yq12 ) HBX.out (by kernel_rfl) rfl (by simp [Value.oneCell']) ?_)
      intro w9 hm hb
      have q0 := cQ 0 hb
      have q1 := cQ 1 hb
      have q2 := cQ 2 hb
      have q3 := cQ 3 hb
      have q4 := cQ 4 hb
      have HXF : Hid (Ext W w9) := Lh (Pl.mod_low HXW.out hm (fun q hq => by omega))
      have HM := Lh hm
      clear hm hb
      go_wp2_with fail
      simp only [Exit.jump]
      refine bodyPost_ret (v := .agg #[.int .i64 3, .slice none 0 0, .int .i64 B, .int .i64 19, .slice none 0 0]) (by simp [results, Tryz.results15, go_sem, q0, q1, q2, q3, q4]) rfl ⟨HXF.out, ?_⟩
      refine .inr (.inr ⟨_, rfl, fun h1 => ?_⟩)
      have h1' : us.length = 1 := h1
      have := HI.out.one h1 (by omega)
      show (B : Int) < C.S
      omega
     ·have z4 : ((st' : Int) == (B : Int)) = false := by simp; omega
      have z5 : (st' == B) = false := by simp; omega
      have hsb2 := HI.out.sb
      have hs16 : s' < 16 := by omega
      obtain ⟨e0, e1, e2, e3⟩ := HI.out.used.2 s' hs16
      dsimp only at e0 e1 e2 e3
      have hub := Pl.usb_take (F := F) (C := C) (us := us) (σ := σ) (t := (s' : Int)) (show k ≤ 1000 by omega)
      have HUE : Hid (∀ t : Int, Pl.us (Pl.job F C us) (σ.take k) t = Pl.us (Pl.job F C us) (σ.take k) t) := Lh (fun t => rfl)
      obtain ⟨v, hv⟩ : ∃ v, v = Pl.us (Pl.job F C us) (σ.take k) (s' : Int) := ⟨_, rfl⟩
      rw [← hv] at e0 e1 e2 e3 hub
      have HV := Lh hv
      have y0 := alw e0
      have y1 := alw e1
      have y2 := alw e2
      have y3 := alw e3
      have HAC := Lh (jadd_any hB (HJ.out.ext HXW.out) hub hk hn)
      have hrow := HI.out.row
      have HFC0 := Lh (fun w (hx : Ext wr w) => jfollows_any (HJ.out.ext (HXW.out.trans hx)) (hx.heap hrow) HI.out.inv.len hk (s' : Int) hn)
      obtain ⟨⟨n1, n2, n3, n4⟩, hnv⟩ : ∃ r, r = Pl.adU F us v k := ⟨_, rfl⟩
      rw [← hnv] at HAC
      dsimp only at HAC
      have HNV := Lh hnv
      have HWC0 : ∀ w, Calls Tryz.prog 18 #[.agg #[.int .i64 n1, .int .i64 n2, .int .i64 n3, .int .i64 n4], .agg #[.int .i64 C.S, .int .i64 C.t, .int .i64 C.g, .int .i64 C.r, .int .i64 C.c, .int .i64 C.c8, .int .i64 C.c16, .int .i64 C.c32]] w (Rets w (.bool (Pl.wiU C ⟨n1, n2, n3, n4⟩))) := fun w => within_any ⟨n1, n2, n3, n4⟩ C w
      obtain ⟨b, hbb⟩ : ∃ b, b = Pl.wiU C ⟨n1, n2, n3, n4⟩ := ⟨_, rfl⟩
      obtain ⟨fl, hfl⟩ : ∃ b, b = Pl.fol (Pl.job F C us) σ k (s' : Int) := ⟨_, rfl⟩
      rw [← hbb] at HWC0
      rw [← hfl] at HFC0
      have HWC := Lh HWC0
      have HBB := Lh hbb
      have HFL := Lh hfl
      clear hnv hbb hfl HWC0 e0 e1 e2 e3 hv hub hrow
      go_wp2_with fail
      refine HAC.out.mono ?_
      rintro e w3 ⟨rfl, x3⟩
      have sw3 := Sm x3
      have HFC := HFC0
      have hqd := aH w3 (.cells #[.int .i64 n1, .int .i64 n2, .int .i64 n3, .int .i64 n4] 75)
      have d0 := alw (cQ 0 hqd)
      have d1 := alw (cQ 1 hqd)
      have d2 := alw (cQ 2 hqd)
      have d3 := alw (cQ 3 hqd)
      have HXN : Hid (Ext wr (w3.alloc (.cells #[.int .i64 n1, .int .i64 n2, .int .i64 n3, .int .i64 n4] 75))) := Lh grows
      clear hqd
      go_wp2_with fail
      rcases b with _ | _
      ·refine wp_region_later (W := (w3.alloc (.cells #[.int .i64 n1, .int .i64 n2, .int .i64 n3, .int .i64 n4] 75))) (by kernel_rfl) (by kernel_rfl) grows ?_
       repeat (go_big_quiet_step (first | (go_at_call 18; with_reducible exact Rets.later_at (HWC.out _)) | (go_at_call 31; with_reducible exact Rets.later_at (HFC.out _ grows)) | fail))
       refine wpQuiet_nil ?_
       intro w5 hx5
       have sw5 : Step (w3.alloc (.cells #[.int .i64 n1, .int .i64 n2, .int .i64 n3, .int .i64 n4] 75)) w5 := Sm hx5
       have HX5 : Hid (Ext wr w5) := Lh (HXN.out.trans hx5)
       have HN : Hid (Pl.SI W (Pl.job F C us) B σ k (s' + 1) (st' + 1) w5) := Lh ⟨by
        have h := HI.out.inv.fail hok hk hs (.inl (by show Pl.wiU C (Pl.adU F us (Pl.us (Pl.job F C us) (σ.take k) s') k) = false; rw [← HV.out, ← HNV.out, ← HBB.out]))
        exact h, HXW.out.trans HX5.out, HX5.out.heap HI.out.box, HI.out.used.ext HX5.out, HX5.out.heap HI.out.row, by omega, fun h1 h2 => by have := HI.out.one h1 h2; omega⟩
       go_wp2_with fail
       go_roundw
       case rel => exact ⟨rfl, s' + 1, st' + 1, by go_num, by go_num, by omega, HN⟩
       case measure => simp [intOf]; omega
      ·rcases fl with _ | _
       ·refine wp_region_later (W := (w3.alloc (.cells #[.int .i64 n1, .int .i64 n2, .int .i64 n3, .int .i64 n4] 75))) (by kernel_rfl) (by kernel_rfl) grows ?_
        repeat (go_big_quiet_step (first | (go_at_call 18; with_reducible exact Rets.later_at (HWC.out _)) | (go_at_call 31; with_reducible exact Rets.later_at (HFC.out _ grows)) | fail))
        refine wpQuiet_nil ?_
        intro w5 hx5
        have sw5 : Step (w3.alloc (.cells #[.int .i64 n1, .int .i64 n2, .int .i64 n3, .int .i64 n4] 75)) w5 := Sm hx5
        have HX5 : Hid (Ext wr w5) := Lh (HXN.out.trans hx5)
        have HN : Hid (Pl.SI W (Pl.job F C us) B σ k (s' + 1) (st' + 1) w5) := Lh ⟨by
         have h := HI.out.inv.fail hok hk hs (.inr HFL.out.symm)
         exact h, HXW.out.trans HX5.out, HX5.out.heap HI.out.box, HI.out.used.ext HX5.out, HX5.out.heap HI.out.row, by omega, fun h1 h2 => by have := HI.out.one h1 h2; omega⟩
        go_wp2_with fail
        go_roundw
        case rel => exact ⟨rfl, s' + 1, st' + 1, by go_num, by go_num, by omega, HN⟩
        case measure => simp [intOf]; omega
       ·refine wp_region_later (W := (w3.alloc (.cells #[.int .i64 n1, .int .i64 n2, .int .i64 n3, .int .i64 n4] 75))) (by kernel_rfl) (by kernel_rfl) grows ?_
        repeat (go_big_quiet_step (first | (go_at_call 18; with_reducible exact Rets.later_at (HWC.out _)) | (go_at_call 31; with_reducible exact Rets.later_at (HFC.out _ grows)) | fail))
        refine wpQuiet_nil ?_
        intro w5 hx5
        have sw5 : Step (w3.alloc (.cells #[.int .i64 n1, .int .i64 n2, .int .i64 n3, .int .i64 n4] 75)) w5 := Sm hx5
        have HX5 : Hid (Ext wr w5) := Lh (HXN.out.trans hx5)
        have HPUT : Hid (∀ w6 w7, w6 = w5.setCells (W.heap.size + 1) (s' * 4) [.int .i64 n1, .int .i64 n2, .int .i64 n3, .int .i64 n4] → w7 = w6.setCell ⟨W.heap.size + 1 + 1, k, none⟩ (.int .i64 s') → Pl.SI W (Pl.job F C us) B (σ.set k (s' : Int)) (k + 1) 0 (st' + 1) w7) := Lh (fun w6 w7 h6 h7 => HI.out.put (v := ⟨n1, n2, n3, n4⟩) HX5.out hk hs hS16 (by omega) (by rw [HNV.out, HV.out]; rfl) HBB.out.symm HFL.out.symm h6 h7)
        have HTH := Lh ((HI.out.used.ext HX5.out).there hs16)
        have HRW : Hid (∀ w6, w6 = w5.setCells (W.heap.size + 1) (s' * 4) [.int .i64 n1, .int .i64 n2, .int .i64 n3, .int .i64 n4] → Pl.RowB w6 (W.heap.size + 1 + 1) σ) := Lh (fun w6 h6 => by rw [h6]; exact ((HI.out.used.ext HX5.out).set hs16 ⟨n1, n2, n3, n4⟩).2.heap (HX5.out.heap HI.out.row) (by omega))
        have hkl : k < σ.length := by have : σ.length = us.length := HI.out.inv.len; omega
        go_upto_region 13 with (fail)
        go_wp2_with (refine Pl.wpList_store_midH rfl 75 (.tmp 64) (.tmp 63) rfl (W.heap.size + 1) (s' * 4) #[.int .i64 n1, .int .i64 n2, .int .i64 n3, .int .i64 n4] (by simp [go_sem]) rfl HTH.out (by kernel_rfl) (by simp [Value.oneCell']) ?_)
        intro w6 hw6
        have cy := (HRW.out w6 hw6.out).cell hkl
        have fy : w6.frozen? ⟨W.heap.size + 1 + 1, k, none⟩ = false := free_of (HRW.out w6 hw6.out)
        obtain ⟨y, hy⟩ : ∃ y, y = σ.getD k 0 := ⟨_, rfl⟩
        rw [← hy] at cy
        clear hy
        go_wp2_with (refine wpList_store_cellK rfl 3 (.tmp 68) (.tmp 67) rfl (W.heap.size + 1 + 1) k (.int .i64 y) (.int .i64 s') rfl rfl (by kernel_rfl) rfl cy fy ?_)
        intro w7 hw7
        have HN := Lh (HPUT.out w6 w7 hw6.out hw7.out)
        clear HPUT HRW HTH
        go_wp2_with fail
        go_step3
        show 0 = 0 ∧ _
        exact ⟨rfl, ⟨σ.set k (s' : Int), k + 1, 0, st' + 1, ⟨_, _, _, _, _, _, _, _, _, _, _, _, _, _, _, _, _, _, _, _, _, _, _, _, _, _, _, _, _, _, _, _, _, _, _, _, _, _, _, _, _, _, _, _, _, _, _, _, _, _, _, _, _, _, _, _, _, _, _, _, _, _, _, _, _, _, _, _, _, _, _, _, _, _, _, _, _, _, _, _, _⟩, rfl, HN⟩, Pl.mu_put hst (by omega)⟩
    ·have z3 : decide ((s' : Int) < C.S) = false := dF hs
     have HSS : Hid ((s' : Int) = C.S) := Lh (by omega)
     by_cases hk0 : k = 0
     ·subst hk0
      have HBX := Lh HI.out.box
      have HNO : Hid (∀ τ, ¬ Pl.Val (Pl.job F C us) τ) := Lh (fun τ => (by have h := HI.out.inv; rw [HSS.out] at h; exact h.none (by show 0 < us.length; omega) τ))
      go_wp2_with fail
      refine via (infeas_any 13 _ none 0 0 _) fun w5 x5 sw5 => ?_
      have HB5 := Lh (x5.heap HBX.out)
      have HX5 : Hid (Ext W w5) := Lh (HXW.out.trans x5)
      go_wp2_with (refine wpList_store_box rfl 46 (.tmp 4) (.tmp 74) rfl W.heap.size #[.int .i64 2, .slice none 0 0, (.int .i64 (st' : Int)), .int .i64 13, .slice none 0 0] rfl rfl 46 (Yq12 ) HB5.out (by kernel_rfl) rfl (by simp [Value.oneCell']) ?_)
      intro w9 hm hb
      have q0 := cQ 0 hb
      have q1 := cQ 1 hb
      have q2 := cQ 2 hb
      have q3 := cQ 3 hb
      have q4 := cQ 4 hb
      have HXF : Hid (Ext W w9) := Lh (Pl.mod_low HX5.out hm (fun q hq => by omega))
      have HM := Lh hm
      clear hm hb
      go_wp2_with fail
      simp only [Exit.jump]
      refine bodyPost_ret (v := .agg #[.int .i64 2, .slice none 0 0, (.int .i64 (st' : Int)), .int .i64 13, .slice none 0 0]) (by simp [results, Tryz.results15, go_sem, q0, q1, q2, q3, q4]) rfl ⟨HXF.out, ?_⟩
      exact .inr (.inl ⟨_, rfl, HNO.out⟩)
     ·obtain ⟨k', rfl⟩ : ∃ q, k = q + 1 := ⟨k - 1, by omega⟩
      obtain ⟨q, hq16, hqx⟩ := HI.out.stage hS16
      have hkl : k' < σ.length := by have : σ.length = us.length := HI.out.inv.len; omega
      have cx := HI.out.row.cell (a := k') hkl
      rw [hqx] at cx
      have y0 := alw cx
      have z4 : ((k' : Int) + 1 == 0) = false := by simp; omega
      obtain ⟨v, hv⟩ : ∃ v, v = Pl.us (Pl.job F C us) (σ.take k') (q : Int) := ⟨_, rfl⟩
      have HUG : Hid (∀ w, Ext wr w → Calls Tryz.prog 17 #[.pointer (some ⟨g, 0, none⟩), .slice (some ⟨W.heap.size + 1 + 1, 0, none⟩) k' us.length, .int .i64 (q : Int)] w (Rets w (.agg #[.int .i64 v.t, .int .i64 v.g, .int .i64 v.r, .int .i64 v.c]))) := Lh (fun w hx => by
       have hlen : σ.length = us.length := HI.out.inv.len
       have h := jusage_any (C := C) hB (HJ.out.ext (HXW.out.trans hx)) (Pl.RowB.take (k := k') (hx.heap HI.out.row) (by omega) (Nat.le_trans (show σ.length ≤ 1000 by omega) (by decide))) (by rw [List.length_take]; omega) (q : Int) hn
       rw [← hv, List.length_take, hlen, Nat.min_eq_left (by omega)] at h
       exact h)
      have HBK : Hid (∀ w5 w6, Ext wr w5 → w6 = w5.setCells (W.heap.size + 1) (q * 4) [.int .i64 v.t, .int .i64 v.g, .int .i64 v.r, .int .i64 v.c] → Pl.SI W (Pl.job F C us) B σ k' (q + 1) st' w6) := Lh (fun w5 w6 h5 h6 => HI.out.back hok h5 (by show k' + 1 < us.length; omega) HSS.out hq16 hqx hv h6)
      have HTH : Hid (∀ w, Ext wr w → w.there (W.heap.size + 1) (q * 4) 4) := Lh (fun w hx => (HI.out.used.ext hx).there hq16)
      obtain ⟨m1, m2, m3, m4⟩ := v
      dsimp only at HUG HBK
      clear hv cx hqx
      go_wp2_with fail
      refine via (HUG.out _ grows) fun w5 x5 sw5 => ?_
      have HT5 := Lh (HTH.out w5 x5)
      go_wp2_with (refine Pl.wpList_store_midH rfl 75 (.tmp 88) (.tmp 87) rfl (W.heap.size + 1) (q * 4) #[.int .i64 m1, .int .i64 m2, .int .i64 m3, .int .i64 m4] (by simp [go_sem]) rfl HT5.out (by kernel_rfl) (by simp [Value.oneCell']) ?_)
      intro w6 hw6
      have HN := Lh (HBK.out w5 w6 x5 hw6.out)
      clear HBK HTH HT5 HUG
      go_wp2_with fail
      go_step3
      show 0 = 0 ∧ _
      exact ⟨rfl, ⟨σ, k', q + 1, st', ⟨_, _, _, _, _, _, _, _, _, _, _, _, _, _, _, _, _, _, _, _, _, _, _, _, _, _, _, _, _, _, _, _, _, _, _, _, _, _, _, _, _, _, _, _, _, _, _, _, _, _, _, _, _, _, _, _, _, _, _, _, _, _, _, _, _, _, _, _, _, _, _, _, _, _, _, _, _, _, _, _, _⟩, rfl, HN⟩, Pl.mu_back hst⟩
 ·intro HPASS
  have HP := Lh HPASS
  clear HPASS
  go_wp2_with fail
  go_step3
  rename_i hK
  have HI0 : Hid (Pl.SI W (Pl.job F C us) B (List.replicate us.length 0) 0 0 0 (((W.alloc (.cells (Yq12 ) 46)).alloc (.cells (Yq2 ) 115)).alloc (.cells (madeCells #[.int .i64 0] us.length) 3))) := Lh ⟨Pl.Inv.start hok (by show 0 ≤ C.S; omega) (by simp; rfl), grows, grows.heap (aH W _), (Pl.UsM.start (by have := aH (W.alloc (.cells (Yq12 ) 46)) (.cells (Yq2 ) 115); rw [szA] at this; exact this)).ext grows, by have := aH ((W.alloc (.cells (Yq12 ) 46)).alloc (.cells (Yq2 ) 115)) (.cells (madeCells #[.int .i64 0] us.length) 3); rw [szA, szA, Pl.made_zero] at this; rw [Pl.made_zero]; exact this, Nat.zero_le _, fun _ _ => rfl⟩
  refine hK _ _ ?_
  refine HP.out _ _ ?_
  exact ⟨List.replicate us.length 0, 0, 0, 0, ⟨_, _, _, _, _, _, _, _, _, _, _, _, _, _, _, _, _, _, _, _, _, _, _, _, _, _, _, _, _, _, _, _, _, _, _, _, _, _, _, _, _, _, _, _, _, _, _, _, _, _, _, _, _, _, _, _, _, _, _, _, _, _, _, _, _, _, _, _, _, _, _, _, _, _, _, _, _, _, _, _, _⟩, rfl, HI0⟩
namespace Pl
/-- a valid assignment -/
def Good (F : Tj.FP) (C : Chip) (us : List Un) (σ : List Int) : Prop := Tj.chkF F = 0 ∧ chipE C = 0 ∧ Val (job F C us) σ
/-- what Place returns -/
def PlaP (W : World) (F : Tj.FP) (C : Chip) (us : List Un) (B : Nat) (e : Ending) (w' : World) : Prop := Ext W w' ∧
 ((∃ (rb : Nat) (σ : List Int) (st : Int), e = .returned (.agg #[.int .i64 1, .slice (some ⟨rb, 0, none⟩) us.length us.length, .int .i64 st, .int .i64 0, .slice none 0 0]) ∧ RowB w' rb σ ∧ Good F C us σ ∧ ∀ τ, Good F C us τ → prec τ σ = false) ∨
  (∃ (st er : Int) (a : Option Addr) (k c : Nat), e = .returned (.agg #[.int .i64 2, .slice none 0 0, .int .i64 st, .int .i64 er, .slice a k c]) ∧ er ≠ 0 ∧ (∀ τ, ¬ Good F C us τ) ∧ (Tj.chkF F = 0 → chipE C = 0 → obsE F C us ≠ 0 → er = obsE F C us)) ∨
  (∃ st : Int, e = .returned (.agg #[.int .i64 3, .slice none 0 0, .int .i64 st, .int .i64 19, .slice none 0 0]) ∧ obsE F C us = 0 ∧ (us.length = 1 → ((min B 1048576 : Nat) : Int) < C.S)))
end Pl
theorem place_any {W : World} {p : Pg.PV} {F : Tj.FP} (hG : Tj.IsG W p F) {oc7 : Option Addr} {m c7 : Nat} (hp : p.c7 = .slice oc7 m c7) (C : Pl.Chip) (B : Nat) : Calls Tryz.prog 6 #[p.val, .agg (Pl.chL C).toArray, .int .i64 B] W (Pl.PlaP W F C (Pl.unF F m) B) := by
 have hF := hG.1
 have HCK := Lh (fun (w : World) (hx : Ext W w) => pcheck2_any (hG.ext hx))
 have HNJ : Hid (Tj.chkF F = 0 → ∀ w, Ext W w → Calls Tryz.prog 13 #[p.val, .agg (Pl.chL C).toArray] w (Pl.NewP w F C (Pl.unF F m))) := Lh (fun hc w hx => newjob_any (hG.ext hx) hc hp C)
 have HCC : Hid (∀ w, Calls Tryz.prog 12 #[.agg (Pl.chL C).toArray] w (Rets w (.int .i64 (Pl.chipE C)))) := Lh (chip_any C)
 have HIN : Hid (∀ (er st : Int) (a : Option Addr) (m c : Nat) (w : World), Calls Tryz.prog 11 #[.int .i64 er, .int .i64 st, .slice a m c] w (Rets w (.agg #[.int .i64 2, .slice none 0 0, .int .i64 st, .int .i64 er, .slice a m c]))) := Lh infeas_any
 have HBD := Lh (fun hc => Pl.bd_of (F := F) hc)
 have HUF := Lh (fun hc => Pl.uf_of hF (Pl.bd_of hc) hp)
 obtain ⟨us, hus⟩ : ∃ us, us = (Pl.unF F m) := ⟨_, rfl⟩
 rw [← hus] at HNJ HUF ⊢
 obtain ⟨a1, a2, a3, a4, a5, a6, a7, a8, m1, m2, m3, m4, m5, m6, n7, m7, m8, hf⟩ := hF.form
 obtain ⟨rfl, hnm, hhs, hmd, hrs, has, hts, hss, hct, hdp, l1, l2, l3, l4, l5, l6, l7, l8⟩ := hf
 obtain ⟨s0, s1, s2, s3, s4, s5, s6, s7⟩ := C
 unfold Pl.chL at HNJ HCC ⊢
 dsimp only [Pg.PV.val] at HCK HNJ HCC ⊢
 unfold DiagP at HCK
 have bx := aH W (.cells (Yq0 F a1 m1 a2 m2 a3 m3 a4 m4 a5 m5 a6 m6 a7 m7 n7 a8 m8) 31)
 have k0 := alw (cQ 0 bx)
 have k1 := alw (cQ 1 bx)
 have k2 := alw (cQ 2 bx)
 have k3 := alw (cQ 3 bx)
 have k4 := alw (cQ 4 bx)
 have k5 := alw (cQ 5 bx)
 have k6 := alw (cQ 6 bx)
 have k7 := alw (cQ 7 bx)
 have k8 := alw (cQ 8 bx)
 clear bx
 have bx := aH (W.alloc (.cells (Yq0 F a1 m1 a2 m2 a3 m3 a4 m4 a5 m5 a6 m6 a7 m7 n7 a8 m8) 31)) (.cells (Yq7 s0 s1 s2 s3 s4 s5 s6 s7) 33)
 rw [szA] at bx
 have c0 := alw (cQ 0 bx)
 have c1 := alw (cQ 1 bx)
 have c2 := alw (cQ 2 bx)
 have c3 := alw (cQ 3 bx)
 have c4 := alw (cQ 4 bx)
 have c5 := alw (cQ 5 bx)
 have c6 := alw (cQ 6 bx)
 have c7 := alw (cQ 7 bx)
 clear bx
 clear hF hG hp hus hnm hhs hmd hrs has hts hss hct hdp
 have HBX : Hid (∀ w, Ext (((W.alloc (.cells (Yq0 F a1 m1 a2 m2 a3 m3 a4 m4 a5 m5 a6 m6 a7 m7 n7 a8 m8) 31)).alloc (.cells (Yq7 s0 s1 s2 s3 s4 s5 s6 s7) 33)).alloc (.cells (Yq12 ) 46)) w → w.heap[W.heap.size + 1 + 1]? = some (.cells (Yq12 ) 46 (0, 0))) := Lh (fun w hx => by
  have h := aH ((W.alloc (.cells (Yq0 F a1 m1 a2 m2 a3 m3 a4 m4 a5 m5 a6 m6 a7 m7 n7 a8 m8) 31)).alloc (.cells (Yq7 s0 s1 s2 s3 s4 s5 s6 s7) 33)) (.cells (Yq12 ) 46)
  rw [szA, szA] at h
  exact hx.heap h)
 obtain ⟨x0, hx0⟩ : ∃ z, z = Tj.chkF F := ⟨_, rfl⟩
 obtain ⟨x1, hx1⟩ : ∃ z, z = Pl.chipE ⟨s0, s1, s2, s3, s4, s5, s6, s7⟩ := ⟨_, rfl⟩
 rw [← hx0] at HCK HNJ HBD HUF
 rw [← hx1] at HCC
 have HX0 := Lh hx0
 have HX1 := Lh hx1
 clear hx0 hx1
 go_enter Tryz.func6, Tryz.ntmps6
 go_wp2_with fail
 refine (HCK.out _ grows).mono ?_
 rintro e w3 ⟨d1, d2, d3, rfl, x3⟩
 have sw3 := Sm x3
 by_cases h0 : x0 = 0
 ·subst h0
  go_wp2_with fail
  refine via (HCC.out _) fun w4 x4 sw4 => ?_
  by_cases h1 : x1 = 0
  ·subst h1
   have z0 : decide ((B : Int) < 0) = false := dF (by omega)
   go_wp2_with fail
   refine (HNJ.out trivial _ grows).mono ?_
   rintro e w5 ⟨g, rfl, x5, hj⟩
   have sw5 := Sm x5
   have HUF0 := Lh (HUF.out trivial)
   have hn : us.length ≤ 1000 := by have := HUF0.out.le; omega
   have HOB := Lh (fun (w : World) (hx : Ext w5 w) => obstacle_any (HBD.out trivial) (hj.ext hx) hn)
   have HSE : Hid (∀ (b : Nat) w, b ≤ 1048576 → Ext w5 w → Calls Tryz.prog 15 #[.pointer (some ⟨g, 0, none⟩), .int .i64 b] w (Pl.SchP w (Pl.job F ⟨s0, s1, s2, s3, s4, s5, s6, s7⟩ us) b)) := Lh (fun b w hb hx => search_any (HBD.out trivial) HX1.out.symm (hj.ext hx) hn hb)
   have HON : Hid (Pl.obsE F ⟨s0, s1, s2, s3, s4, s5, s6, s7⟩ us ≠ 0 → ∀ τ, ¬ Pl.Val (Pl.job F ⟨s0, s1, s2, s3, s4, s5, s6, s7⟩ us) τ) := Lh (fun h => Pl.obs_none HX1.out.symm h)
   obtain ⟨x2, hx2⟩ : ∃ z, z = Pl.obsE F ⟨s0, s1, s2, s3, s4, s5, s6, s7⟩ us := ⟨_, rfl⟩
   rw [← hx2] at HOB HON
   have HX2 := Lh hx2
   clear hx2 x5 hj HNJ HCC HCK HBD HUF HUF0
   unfold Pl.ObsP at HOB
   go_wp2_with fail
   refine (HOB.out _ grows).mono ?_
   rintro e w6 ⟨oa, om, oc, rfl, x6⟩
   have sw6 := Sm x6
   clear x6
   by_cases h2 : x2 = 0
   ·subst h2
    have HSE2 := Lh (HSE.out (min B 1048576) w6 (Nat.min_le_right _ _) grows)
    have hmn : ((min B 1048576 : Nat) : Int) = min (B : Int) 1048576 := by omega
    have HJN : Hid ((Pl.job F ⟨s0, s1, s2, s3, s4, s5, s6, s7⟩ us).n = us.length) := Lh rfl
    have hse := HSE2.out
    rw [hmn] at hse
    have HSE3 := Lh hse
    clear hse HSE HSE2
    go_wp2_with fail
    refine HSE3.out.mono ?_
    rintro e w7 ⟨x7, h | h | h⟩
    ·obtain ⟨rb, σ, st, rfl, hr, hv, hf⟩ := h
     have sw7 := Sm x7
     have hgd : Pl.Good F ⟨s0, s1, s2, s3, s4, s5, s6, s7⟩ us σ := ⟨HX0.out.symm, HX1.out.symm, hv⟩
     have HGD := Lh hgd
     have HFS : Hid (∀ τ, Pl.Good F ⟨s0, s1, s2, s3, s4, s5, s6, s7⟩ us τ → Pl.prec τ σ = false) := Lh (fun τ h => hf τ h.2.2)
     have HRR := Lh hr
     clear hgd hf hv
     simp only [HJN.out]
     have HBw7 := Lh (HBX.out w7 grows)
     have HXw7 : Hid (Ext W w7) := Lh grows
     go_wp2_with (refine wpList_store_box rfl 46 (.tmp 6) (.tmp 45) rfl (W.heap.size + 1 + 1) #[.int .i64 1, .slice (some ⟨rb, 0, none⟩) us.length us.length, .int .i64 st, .int .i64 0, .slice none 0 0] rfl rfl 46 (Yq12 ) HBw7.out (by kernel_rfl) rfl (by simp [Value.oneCell']) ?_)
     intro w9 hm hb
     have q0 := cQ 0 hb
     have q1 := cQ 1 hb
     have q2 := cQ 2 hb
     have q3 := cQ 3 hb
     have q4 := cQ 4 hb
     have HXF : Hid (Ext W w9) := Lh (Pl.mod_low HXw7.out hm (fun q hq => by omega))
     have HM := Lh hm
     clear hm hb
     go_wp2_with fail
     refine bodyPost_ret (v := .agg #[.int .i64 1, .slice (some ⟨rb, 0, none⟩) us.length us.length, .int .i64 st, .int .i64 0, .slice none 0 0]) (by simp [results, Tryz.results6, go_sem, q0, q1, q2, q3, q4]) rfl ⟨HXF.out, .inl ⟨_, σ, _, rfl, HM.out.heap HRR.out (fun e => by have h1 := HRR.out; unfold Pl.RowB at h1; rw [e, HBw7.out] at h1; simp at h1), HGD.out, HFS.out⟩⟩
    ·obtain ⟨st, rfl, hno⟩ := h
     have sw7 := Sm x7
     have HNO : Hid (∀ τ, ¬ Pl.Good F ⟨s0, s1, s2, s3, s4, s5, s6, s7⟩ us τ) := Lh (fun τ h => hno τ h.2.2)
     clear hno
     have HBw7 := Lh (HBX.out w7 grows)
     have HXw7 : Hid (Ext W w7) := Lh grows
     go_wp2_with (refine wpList_store_box rfl 46 (.tmp 6) (.tmp 45) rfl (W.heap.size + 1 + 1) #[.int .i64 2, .slice none 0 0, .int .i64 st, .int .i64 13, .slice none 0 0] rfl rfl 46 (Yq12 ) HBw7.out (by kernel_rfl) rfl (by simp [Value.oneCell']) ?_)
     intro w9 hm hb
     have q0 := cQ 0 hb
     have q1 := cQ 1 hb
     have q2 := cQ 2 hb
     have q3 := cQ 3 hb
     have q4 := cQ 4 hb
     have HXF : Hid (Ext W w9) := Lh (Pl.mod_low HXw7.out hm (fun q hq => by omega))
     have HM := Lh hm
     clear hm hb
     go_wp2_with fail
     refine bodyPost_ret (v := .agg #[.int .i64 2, .slice none 0 0, .int .i64 st, .int .i64 13, .slice none 0 0]) (by simp [results, Tryz.results6, go_sem, q0, q1, q2, q3, q4]) rfl ⟨HXF.out, .inr (.inl ⟨_, _, _, _, _, rfl, (by decide), HNO.out, fun _ _ h => absurd HX2.out.symm h⟩)⟩
    ·obtain ⟨st, rfl, hno⟩ := h
     have sw7 := Sm x7
     have HNO : Hid (us.length = 1 → ((min B 1048576 : Nat) : Int) < s0) := Lh (fun h => by rw [hmn]; exact hno h)
     clear hno
     have HBw7 := Lh (HBX.out w7 grows)
     have HXw7 : Hid (Ext W w7) := Lh grows
     go_wp2_with (refine wpList_store_box rfl 46 (.tmp 6) (.tmp 45) rfl (W.heap.size + 1 + 1) #[.int .i64 3, .slice none 0 0, .int .i64 st, .int .i64 19, .slice none 0 0] rfl rfl 46 (Yq12 ) HBw7.out (by kernel_rfl) rfl (by simp [Value.oneCell']) ?_)
     intro w9 hm hb
     have q0 := cQ 0 hb
     have q1 := cQ 1 hb
     have q2 := cQ 2 hb
     have q3 := cQ 3 hb
     have q4 := cQ 4 hb
     have HXF : Hid (Ext W w9) := Lh (Pl.mod_low HXw7.out hm (fun q hq => by omega))
     have HM := Lh hm
     clear hm hb
     go_wp2_with fail
     refine bodyPost_ret (v := .agg #[.int .i64 3, .slice none 0 0, .int .i64 st, .int .i64 19, .slice none 0 0]) (by simp [results, Tryz.results6, go_sem, q0, q1, q2, q3, q4]) rfl ⟨HXF.out, .inr (.inr ⟨_, rfl, HX2.out.symm, HNO.out⟩)⟩
   ·have z2 : (x2 != 0) = true := nT h2
    go_wp2_with fail
    refine via (HIN.out (x2) 0 oa om oc _) fun w7 x7 sw7 => ?_
    have HBw7 := Lh (HBX.out w7 grows)
    have HXw7 : Hid (Ext W w7) := Lh grows
    go_wp2_with (refine wpList_store_box rfl 46 (.tmp 6) (.tmp 41) rfl (W.heap.size + 1 + 1) #[.int .i64 2, .slice none 0 0, .int .i64 0, .int .i64 (x2), .slice oa om oc] rfl rfl 46 (Yq12 ) HBw7.out (by kernel_rfl) rfl (by simp [Value.oneCell']) ?_)
    intro w9 hm hb
    have q0 := cQ 0 hb
    have q1 := cQ 1 hb
    have q2 := cQ 2 hb
    have q3 := cQ 3 hb
    have q4 := cQ 4 hb
    have HXF : Hid (Ext W w9) := Lh (Pl.mod_low HXw7.out hm (fun q hq => by omega))
    have HM := Lh hm
    clear hm hb
    go_wp2_with fail
    refine bodyPost_ret (v := .agg #[.int .i64 2, .slice none 0 0, .int .i64 0, .int .i64 (x2), .slice oa om oc]) (by simp [results, Tryz.results6, go_sem, q0, q1, q2, q3, q4]) rfl ⟨HXF.out, .inr (.inl ⟨_, _, _, _, _, rfl, h2, fun τ h => HON.out h2 τ h.2.2, fun _ _ _ => HX2.out⟩)⟩
  ·have z1 : (x1 != 0) = true := nT h1
   go_wp2_with fail
   refine via (HIN.out (x1) 0 none 0 0 _) fun w7 x7 sw7 => ?_
   have HBw7 := Lh (HBX.out w7 grows)
   have HXw7 : Hid (Ext W w7) := Lh grows
   go_wp2_with (refine wpList_store_box rfl 46 (.tmp 6) (.tmp 25) rfl (W.heap.size + 1 + 1) #[.int .i64 2, .slice none 0 0, .int .i64 0, .int .i64 (x1), .slice none 0 0] rfl rfl 46 (Yq12 ) HBw7.out (by kernel_rfl) rfl (by simp [Value.oneCell']) ?_)
   intro w9 hm hb
   have q0 := cQ 0 hb
   have q1 := cQ 1 hb
   have q2 := cQ 2 hb
   have q3 := cQ 3 hb
   have q4 := cQ 4 hb
   have HXF : Hid (Ext W w9) := Lh (Pl.mod_low HXw7.out hm (fun q hq => by omega))
   have HM := Lh hm
   clear hm hb
   go_wp2_with fail
   refine bodyPost_ret (v := .agg #[.int .i64 2, .slice none 0 0, .int .i64 0, .int .i64 (x1), .slice none 0 0]) (by simp [results, Tryz.results6, go_sem, q0, q1, q2, q3, q4]) rfl ⟨HXF.out, .inr (.inl ⟨_, _, _, _, _, rfl, h1, fun τ h => h1 (by rw [HX1.out]; exact h.2.1), fun _ h => absurd (by rw [HX1.out]; exact h) h1⟩)⟩
 ·have z0 : (x0 != 0) = true := nT h0
  go_wp2_with fail
  refine via (HIN.out (x0) 0 none 0 0 _) fun w7 x7 sw7 => ?_
  have HBw7 := Lh (HBX.out w7 grows)
  have HXw7 : Hid (Ext W w7) := Lh grows
  go_wp2_with (refine wpList_store_box rfl 46 (.tmp 6) (.tmp 19) rfl (W.heap.size + 1 + 1) #[.int .i64 2, .slice none 0 0, .int .i64 0, .int .i64 (x0), .slice none 0 0] rfl rfl 46 (Yq12 ) HBw7.out (by kernel_rfl) rfl (by simp [Value.oneCell']) ?_)
  intro w9 hm hb
  have q0 := cQ 0 hb
  have q1 := cQ 1 hb
  have q2 := cQ 2 hb
  have q3 := cQ 3 hb
  have q4 := cQ 4 hb
  have HXF : Hid (Ext W w9) := Lh (Pl.mod_low HXw7.out hm (fun q hq => by omega))
  have HM := Lh hm
  clear hm hb
  go_wp2_with fail
  refine bodyPost_ret (v := .agg #[.int .i64 2, .slice none 0 0, .int .i64 0, .int .i64 (x0), .slice none 0 0]) (by simp [results, Tryz.results6, go_sem, q0, q1, q2, q3, q4]) rfl ⟨HXF.out, .inr (.inl ⟨_, _, _, _, _, rfl, h0, fun τ h => h0 (by rw [HX0.out]; exact h.1), fun h => absurd (by rw [HX0.out]; exact h) h0⟩)⟩
end Go.Proofs.YtkiafiaodockbaaGreat
