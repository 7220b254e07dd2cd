/- The dependencies of units: deps.Build, walked. The matrix read: deps.kind, EarliestStages, Satisfied, walked. Which units must follow which: deps.follows, walked. No condition. -/
import Derived.Test.YtkiafiaodockbaaGreatKqAP
import Derived.BigQuiet
import Derived.BigRegion
import Derived.Deep.CutRange
import Derived.RegionTactic
import Derived.WalkMore
set_option maxRecDepth 8000
set_option maxHeartbeats 16000000
namespace Go.Proofs.YtkiafiaodockbaaGreat
open Go.RowKit
theorem cinf_si : (Tryz.prog.info? 29).map (fun i => (i.zero, i.size, i.bytes)) = some (some (.slice none 0 0), 1, 24) := by kernel_rfl
theorem cinf_i : (Tryz.prog.info? 3).map (fun i => (i.zero, i.size, i.bytes)) = some (some (.int .i64 0), 1, 8) := by kernel_rfl
theorem mk_si (n : Nat) (h : n ≤ 1073741824) (w : World) : (Instr.makeSlice 69 (.int .i64 (n : Int)) (.int .i64 (n : Int))).run Tryz.prog w = .ok (.slice (some ⟨w.heap.size, 0, none⟩) n n) (w.alloc (.cells (madeCells #[.slice none 0 0] n) 29)) :=
 run_make_row' _ _ _ 24 Tryz.underlying69 cinf_si rfl _ _ n (by omega) (by omega) w
theorem mk_i (n : Nat) (h : n ≤ 1073741824) (w : World) : (Instr.makeSlice 29 (.int .i64 (n : Int)) (.int .i64 (n : Int))).run Tryz.prog w = .ok (.slice (some ⟨w.heap.size, 0, none⟩) n n) (w.alloc (.cells (madeCells #[.int .i64 0] n) 3)) :=
 run_make_row' _ _ _ 8 Tryz.underlying29 cinf_i rfl _ _ n (by omega) (by omega) w
namespace Pl
/-- what deps.Build returns: the matrix -/
def DepP (W : World) (F : Tj.FP) (us : List Un) (e : Ending) (w' : World) : Prop := ∃ oa c, e = .returned (.slice oa us.length c) ∧ Ext W w' ∧ Rows w' 1 RowI (.slice oa us.length c) (mat us.length (dep F us)) ∧ ∀ (S : Nat → Prop) (w9 : World), Mod S w' w9 → (∀ b, S b → b < W.heap.size ∨ w'.heap.size ≤ b) → Rows w9 1 RowI (.slice oa us.length c) (mat us.length (dep F us))
end Pl
set_option maxRecDepth 100000 in
theorem dbuild_any {W : World} {p : Pg.PV} {F : Tj.FP} (hF : Tj.IsF W p F) (hB : Pl.Bd F) {v : Value} {us : List Pl.Un} (hu : Pl.Units W v us) (hf : Pl.UF F us) : Calls Tryz.prog 26 #[p.val, v] W (Pl.DepP W F us) := by
 have HRD : Hid (∀ w, Ext W w → ∀ (x : Pl.Un) (ca ga : Option Addr) (cc gn gc : Nat), Tj.Exp w (.slice ca x.cd.length cc) x.cd → x.cd.length ≤ 1000 → Calls Tryz.prog 60 #[p.val, .agg #[.int .i64 x.tb, .slice ca x.cd.length cc, .slice ga gn gc]] w (Pl.SetP w (Pl.rdL F x))) := Lh (fun w hx x ca ga cc gn gc h1 h2 => ureads_any (hF.ext hx) hB x.tb x.cd x.gs ca ga cc gn gc h1 h2)
 have HWR : Hid (∀ w, Ext W w → ∀ (x : Pl.Un) (ca ga : Option Addr) (cn cc gn gc : Nat), Calls Tryz.prog 61 #[p.val, .agg #[.int .i64 x.tb, .slice ca cn cc, .slice ga gn gc]] w (Pl.SetP w (Pl.wrL F x))) := Lh (fun w hx x ca ga cn cc gn gc => uwrites_any (hF.ext hx) hB x.tb x.cd x.gs ca ga cn cc gn gc)
 obtain ⟨ua, uc, rfl, hl1, hl2⟩ := hu.slice
 unfold maxLen at hl2
 have HU := Lh hu
 have HUF := Lh hf
 have hle := hf.le
 obtain ⟨a1, a2, a3, a4, a5, a6, a7, a8, m1, m2, m3, m4, m5, m6, n7, m7, m8, hf⟩ := hF.form
 obtain ⟨rfl, hnm, hhs, hmd, hrs, has, hts, hss, hct, hdp, l1, l2, l3, l4, l5, l6, l7, l8⟩ := hf
 dsimp only [Pg.PV.val] at HRD HWR ⊢
 have bx := aH W (.cells (Yq0 F a1 m1 a2 m2 a3 m3 a4 m4 a5 m5 a6 m6 a7 m7 n7 a8 m8) 31)
 have k0 := alw (cQ 0 bx)
 have k1 := alw (cQ 1 bx)
 have k2 := alw (cQ 2 bx)
 have k3 := alw (cQ 3 bx)
 have k4 := alw (cQ 4 bx)
 have k5 := alw (cQ 5 bx)
 have k6 := alw (cQ 6 bx)
 have k7 := alw (cQ 7 bx)
 have k8 := alw (cQ 8 bx)
 clear bx
 obtain ⟨n, hn⟩ : ∃ n, n = us.length := ⟨_, rfl⟩
 have HN := Lh hn
 have hmk := mk_si n (by omega)
 have hmi := mk_i n (by omega)
 have ha1 := aH (W.alloc (.cells (Yq0 F a1 m1 a2 m2 a3 m3 a4 m4 a5 m5 a6 m6 a7 m7 n7 a8 m8) 31)) (.cells (madeCells #[.slice none 0 0] n) 29)
 rw [szA] at ha1
 have ha2 := aH ((W.alloc (.cells (Yq0 F a1 m1 a2 m2 a3 m3 a4 m4 a5 m5 a6 m6 a7 m7 n7 a8 m8) 31)).alloc (.cells (madeCells #[.slice none 0 0] n) 29)) (.cells (madeCells #[.slice none 0 0] n) 29)
 rw [szA, szA] at ha2
 have HA1 := Lh ((grows (a := (W.alloc (.cells (Yq0 F a1 m1 a2 m2 a3 m3 a4 m4 a5 m5 a6 m6 a7 m7 n7 a8 m8) 31)).alloc (.cells (madeCells #[.slice none 0 0] n) 29)) (b := (((W.alloc (.cells (Yq0 F a1 m1 a2 m2 a3 m3 a4 m4 a5 m5 a6 m6 a7 m7 n7 a8 m8) 31)).alloc (.cells (madeCells #[.slice none 0 0] n) 29)).alloc (.cells (madeCells #[.slice none 0 0] n) 29)).drew)).heap ha1)
 have HA2 := Lh ((grows (a := ((W.alloc (.cells (Yq0 F a1 m1 a2 m2 a3 m3 a4 m4 a5 m5 a6 m6 a7 m7 n7 a8 m8) 31)).alloc (.cells (madeCells #[.slice none 0 0] n) 29)).alloc (.cells (madeCells #[.slice none 0 0] n) 29)) (b := (((W.alloc (.cells (Yq0 F a1 m1 a2 m2 a3 m3 a4 m4 a5 m5 a6 m6 a7 m7 n7 a8 m8) 31)).alloc (.cells (madeCells #[.slice none 0 0] n) 29)).alloc (.cells (madeCells #[.slice none 0 0] n) 29)).drew)).heap ha2)
 rw [← hn] at hl1 hle
 have hul : us.length = n := hn.symm
 rw [hul]
 clear hF hnm hhs hmd hrs has hts hss hct hdp hB hu hf hn ha1 ha2
 go_enter Tryz.func26, Tryz.ntmps26
 go_wp2_with fail
 go_step3
 go_upto_region 2 with (fail)
 go_cut [6, 7] from 15 to 18 (fun s6 s7 wx => ∃ rb wb : Nat, s6 = .slice (some ⟨rb, 0, none⟩) n n ∧ s7 = .slice (some ⟨wb, 0, none⟩) n n ∧ Hid (Ext (W.alloc (.cells (Yq0 F a1 m1 a2 m2 a3 m3 a4 m4 a5 m5 a6 m6 a7 m7 n7 a8 m8) 31)) wx ∧ rb ≠ wb ∧ W.heap.size + 1 ≤ rb ∧ W.heap.size + 1 ≤ wb ∧ wx.heap[rb]? = some (.cells (madeCells #[.slice none 0 0] n) 29 (0, 0)) ∧ wx.heap[wb]? = some (.cells (madeCells #[.slice none 0 0] n) 29 (0, 0))))
 case first =>
  go_region
  all_goals
   go_wp2_with fail
   go_meet
  all_goals first | exact ⟨_, _, rfl, rfl, Lh ⟨grows, by omega, by omega, by omega, HA1.out, HA2.out⟩⟩ | exact ⟨_, _, rfl, rfl, Lh ⟨grows, by omega, by omega, by omega, HA2.out, HA1.out⟩⟩
 case rest =>
  obtain ⟨rb, wb, rfl, rfl, HC⟩ := hcut
  have lrb := lt_of_block HC.out.2.2.2.2.1
  have lwb := lt_of_block HC.out.2.2.2.2.2
  have HD0 : Hid (Pl.DB1 (W.alloc (.cells (Yq0 F a1 m1 a2 m2 a3 m3 a4 m4 a5 m5 a6 m6 a7 m7 n7 a8 m8) 31)) F us rb wb wc.heap.size n (fun _ => .slice none 0 0) (fun _ => .slice none 0 0) (fun _ => 0) 0 (wc.alloc (.cells (madeCells #[.slice none 0 0] n) 29))) := Lh (by
   obtain ⟨c1, c2, c3, c4, c5, c6⟩ := HC.out
   have hs := c1.size
   have x0 : Ext wc (wc.alloc (.cells (madeCells #[.slice none 0 0] n) 29)) := (eR wc).alloc _
   refine ⟨c1.trans x0, ⟨by rw [szA]; exact c3, by rw [szA]; exact c4, hs⟩, ⟨c2, by omega, by omega⟩, ?_, ?_, ?_, fun j hj => by omega, fun j hj => by omega, fun j hj => by omega, fun i j hi => by omega, fun i j hi => by omega⟩
   ·rw [← Pl.made_fill]; exact x0.heap c5
   ·rw [← Pl.made_fill]; exact x0.heap c6
   ·rw [← Pl.made_fill]; exact aH wc _)
  clear HC
  go_wp2_with fail
  go_loopw [23] (fun q wr => ∃ k : Nat, k ≤ n ∧ q = .int .i64 k ∧ ∃ (R V : Nat → Value) (gf : Nat → Nat), Hid (Pl.DB1 (W.alloc (.cells (Yq0 F a1 m1 a2 m2 a3 m3 a4 m4 a5 m5 a6 m6 a7 m7 n7 a8 m8) 31)) F us rb wb wc.heap.size n R V gf k wr)) (fun q _ => n - (intOf q).toNat)
  case atStart => exact ⟨0, Nat.zero_le _, rfl, _, _, _, HD0⟩
  case round =>
   obtain ⟨k, hk, rfl, R, V, gf, HZ⟩ := hrel
   by_cases hlt : k < n
   ·obtain ⟨x, hx⟩ : ∃ y, us[k]? = some y := ⟨_, gE (by omega)⟩
    have hgd : us.getD k Pl.un0 = x := by rw [List.getD_eq_getElem?_getD, hx]; rfl
    have hcdl := HUF.out.cd x (List.mem_of_getElem? hx)
    obtain ⟨ub, uo, rfl, _, _⟩ := Rows.at HU.out (by omega)
    obtain ⟨ca, cc, ga, gc, hcd, hgs, e0, e1, e2⟩ := Pl.units_at HU.out k x hx rfl
    have sx : Step (W.alloc (.cells (Yq0 F a1 m1 a2 m2 a3 m3 a4 m4 a5 m5 a6 m6 a7 m7 n7 a8 m8) 31)) wr := ⟨HZ.out.x⟩
    have y0 := alw e0
    have y1 := alw e1
    have y2 := alw e2
    have bub := aH wr (.cells #[.int .i64 x.tb, .slice ca x.cd.length cc, .slice ga x.gs.length gc] 111)
    have HUB := Lh bub
    have ub0 := alw (cQ 0 bub)
    have ub1 := alw (cQ 1 bub)
    have ub2 := alw (cQ 2 bub)
    have HCD := Lh hcd
    have HGD := Lh hgd
    have HXW : Hid (Ext W wr) := Lh grows
    have HPB : Hid (wr.heap[W.heap.size]? = some (.cells (Yq0 F a1 m1 a2 m2 a3 m3 a4 m4 a5 m5 a6 m6 a7 m7 n7 a8 m8) 31 (0, 0))) := Lh (HZ.out.x.heap (aH W _))
    obtain ⟨lo1, lo2, lo3⟩ := HZ.out.lo
    rw [szA] at lo1 lo2 lo3
    have lr := lt_of_block HZ.out.hr
    have lw := lt_of_block HZ.out.hw
    have ld := lt_of_block HZ.out.hd
    obtain ⟨n1, n2, n3⟩ := HZ.out.ne
    clear hx hgd hcd hgs e0 e1 e2 bub
    go_wp2_with fail
    obtain ⟨CC, hCC⟩ : ∃ z : World → Prop, z = (fun w' => w'.cell? ⟨W.heap.size, 0, none⟩ = some (.string F.nm) ∧ w'.cell? ⟨W.heap.size, 1, none⟩ = some (.slice a1 F.P.hs.length m1) ∧ w'.cell? ⟨W.heap.size, 2, none⟩ = some (.slice a2 F.P.md.length m2) ∧ w'.cell? ⟨W.heap.size, 3, none⟩ = some (.slice a3 F.rs.length m3) ∧ w'.cell? ⟨W.heap.size, 4, none⟩ = some (.slice a4 F.ac.length m4) ∧ w'.cell? ⟨W.heap.size, 5, none⟩ = some (.slice a5 F.ts.length m5) ∧ w'.cell? ⟨W.heap.size, 6, none⟩ = some (.slice a6 F.ss.length m6) ∧ w'.cell? ⟨W.heap.size, 7, none⟩ = some (.slice a7 n7 m7) ∧ w'.cell? ⟨W.heap.size, 8, none⟩ = some (.slice a8 F.P.dp.length m8) ∧ w'.cell? ⟨wr.heap.size, 0, none⟩ = some (.int .i64 x.tb) ∧ w'.cell? ⟨wr.heap.size, 1, none⟩ = some (.slice ca x.cd.length cc) ∧ w'.cell? ⟨wr.heap.size, 2, none⟩ = some (.slice ga x.gs.length gc)) := ⟨_, rfl⟩
    have HCC := Lh hCC
    clear hCC
    refine RelD.region CC 13 (by kernel_rfl) ?_
    have cq0 : ∀ y : Wh CC, y.val.cell? ⟨W.heap.size, 0, none⟩ = some (.string F.nm) := fun y => by have h := Eq.mp (congrFun HCC.out y.val) y.out; exact h.1
    have cq1 : ∀ y : Wh CC, y.val.cell? ⟨W.heap.size, 1, none⟩ = some (.slice a1 F.P.hs.length m1) := fun y => by have h := Eq.mp (congrFun HCC.out y.val) y.out; exact h.2.1
    have cq2 : ∀ y : Wh CC, y.val.cell? ⟨W.heap.size, 2, none⟩ = some (.slice a2 F.P.md.length m2) := fun y => by have h := Eq.mp (congrFun HCC.out y.val) y.out; exact h.2.2.1
    have cq3 : ∀ y : Wh CC, y.val.cell? ⟨W.heap.size, 3, none⟩ = some (.slice a3 F.rs.length m3) := fun y => by have h := Eq.mp (congrFun HCC.out y.val) y.out; exact h.2.2.2.1
    have cq4 : ∀ y : Wh CC, y.val.cell? ⟨W.heap.size, 4, none⟩ = some (.slice a4 F.ac.length m4) := fun y => by have h := Eq.mp (congrFun HCC.out y.val) y.out; exact h.2.2.2.2.1
    have cq5 : ∀ y : Wh CC, y.val.cell? ⟨W.heap.size, 5, none⟩ = some (.slice a5 F.ts.length m5) := fun y => by have h := Eq.mp (congrFun HCC.out y.val) y.out; exact h.2.2.2.2.2.1
    have cq6 : ∀ y : Wh CC, y.val.cell? ⟨W.heap.size, 6, none⟩ = some (.slice a6 F.ss.length m6) := fun y => by have h := Eq.mp (congrFun HCC.out y.val) y.out; exact h.2.2.2.2.2.2.1
    have cq7 : ∀ y : Wh CC, y.val.cell? ⟨W.heap.size, 7, none⟩ = some (.slice a7 n7 m7) := fun y => by have h := Eq.mp (congrFun HCC.out y.val) y.out; exact h.2.2.2.2.2.2.2.1
    have cq8 : ∀ y : Wh CC, y.val.cell? ⟨W.heap.size, 8, none⟩ = some (.slice a8 F.P.dp.length m8) := fun y => by have h := Eq.mp (congrFun HCC.out y.val) y.out; exact h.2.2.2.2.2.2.2.2.1
    have cq9 : ∀ y : Wh CC, y.val.cell? ⟨wr.heap.size, 0, none⟩ = some (.int .i64 x.tb) := fun y => by have h := Eq.mp (congrFun HCC.out y.val) y.out; exact h.2.2.2.2.2.2.2.2.2.1
    have cq10 : ∀ y : Wh CC, y.val.cell? ⟨wr.heap.size, 1, none⟩ = some (.slice ca x.cd.length cc) := fun y => by have h := Eq.mp (congrFun HCC.out y.val) y.out; exact h.2.2.2.2.2.2.2.2.2.2.1
    have cq11 : ∀ y : Wh CC, y.val.cell? ⟨wr.heap.size, 2, none⟩ = some (.slice ga x.gs.length gc) := fun y => by have h := Eq.mp (congrFun HCC.out y.val) y.out; exact h.2.2.2.2.2.2.2.2.2.2.2
    have HA : Hid (CC (wr.alloc (.cells #[.int .i64 x.tb, .slice ca x.cd.length cc, .slice ga x.gs.length gc] 111)).drew) := Lh (by rw [HCC.out]; exact ⟨cQ 0 ((grows (a := wr) (b := (wr.alloc (.cells #[.int .i64 x.tb, .slice ca x.cd.length cc, .slice ga x.gs.length gc] 111)).drew)).heap HPB.out), cQ 1 ((grows (a := wr) (b := (wr.alloc (.cells #[.int .i64 x.tb, .slice ca x.cd.length cc, .slice ga x.gs.length gc] 111)).drew)).heap HPB.out), cQ 2 ((grows (a := wr) (b := (wr.alloc (.cells #[.int .i64 x.tb, .slice ca x.cd.length cc, .slice ga x.gs.length gc] 111)).drew)).heap HPB.out), cQ 3 ((grows (a := wr) (b := (wr.alloc (.cells #[.int .i64 x.tb, .slice ca x.cd.length cc, .slice ga x.gs.length gc] 111)).drew)).heap HPB.out), cQ 4 ((grows (a := wr) (b := (wr.alloc (.cells #[.int .i64 x.tb, .slice ca x.cd.length cc, .slice ga x.gs.length gc] 111)).drew)).heap HPB.out), cQ 5 ((grows (a := wr) (b := (wr.alloc (.cells #[.int .i64 x.tb, .slice ca x.cd.length cc, .slice ga x.gs.length gc] 111)).drew)).heap HPB.out), cQ 6 ((grows (a := wr) (b := (wr.alloc (.cells #[.int .i64 x.tb, .slice ca x.cd.length cc, .slice ga x.gs.length gc] 111)).drew)).heap HPB.out), cQ 7 ((grows (a := wr) (b := (wr.alloc (.cells #[.int .i64 x.tb, .slice ca x.cd.length cc, .slice ga x.gs.length gc] 111)).drew)).heap HPB.out), cQ 8 ((grows (a := wr) (b := (wr.alloc (.cells #[.int .i64 x.tb, .slice ca x.cd.length cc, .slice ga x.gs.length gc] 111)).drew)).heap HPB.out), cQ 0 ((grows (a := (wr.alloc (.cells #[.int .i64 x.tb, .slice ca x.cd.length cc, .slice ga x.gs.length gc] 111))) (b := (wr.alloc (.cells #[.int .i64 x.tb, .slice ca x.cd.length cc, .slice ga x.gs.length gc] 111)).drew)).heap HUB.out), cQ 1 ((grows (a := (wr.alloc (.cells #[.int .i64 x.tb, .slice ca x.cd.length cc, .slice ga x.gs.length gc] 111))) (b := (wr.alloc (.cells #[.int .i64 x.tb, .slice ca x.cd.length cc, .slice ga x.gs.length gc] 111)).drew)).heap HUB.out), cQ 2 ((grows (a := (wr.alloc (.cells #[.int .i64 x.tb, .slice ca x.cd.length cc, .slice ga x.gs.length gc] 111))) (b := (wr.alloc (.cells #[.int .i64 x.tb, .slice ca x.cd.length cc, .slice ga x.gs.length gc] 111)).drew)).heap HUB.out)⟩)
    have hNE : Nonempty (Wh CC) := ⟨⟨_, HA.out⟩⟩
    refine RelD.oneL 0 13 rfl (by kernel_rfl) HA.out ?_
    simp only [dpZ, tkS, tkZ]
    repeat (go_big_quiet_step (fail))
    refine wpQuiet_nil ?_
    refine RelD.oneL 1 12 rfl (by kernel_rfl) HA.out ?_
    simp only [dpZ, dpS, tkS, tkZ]
    repeat (go_big_quiet_step (fail))
    refine wpQuiet_nil ?_
    refine RelD.oneL 2 11 rfl (by kernel_rfl) HA.out ?_
    simp only [dpZ, dpS, tkS, tkZ]
    repeat (go_big_quiet_step (fail))
    refine wpQuiet_nil ?_
    refine RelD.oneL 3 10 rfl (by kernel_rfl) HA.out ?_
    simp only [dpZ, dpS, tkS, tkZ]
    repeat (go_big_quiet_step (fail))
    refine wpQuiet_nil ?_
    refine RelD.oneL 4 9 rfl (by kernel_rfl) HA.out ?_
    simp only [dpZ, dpS, tkS, tkZ]
    repeat (go_big_quiet_step (fail))
    refine wpQuiet_nil ?_
    refine RelD.oneL 5 8 rfl (by kernel_rfl) HA.out ?_
    simp only [dpZ, dpS, tkS, tkZ]
    repeat (go_big_quiet_step (fail))
    refine wpQuiet_nil ?_
    refine RelD.oneL 7 7 rfl (by kernel_rfl) HA.out ?_
    simp only [dpZ, dpS, tkS, tkZ]
    repeat (go_big_quiet_step (fail))
    refine wpQuiet_nil ?_
    refine RelD.oneL 8 6 rfl (by kernel_rfl) HA.out ?_
    simp only [dpZ, dpS, tkS, tkZ]
    repeat (go_big_quiet_step (fail))
    refine wpQuiet_nil ?_
    refine RelD.actL 6 5 rfl (by kernel_rfl) ?_
    simp only [dpZ, dpS, tkS, tkZ]
    go_wp2_with fail
    refine (HRD.out (wr.alloc (.cells #[.int .i64 x.tb, .slice ca x.cd.length cc, .slice ga x.gs.length gc] 111)).drew (HXW.out.trans grows) x ca ga cc x.gs.length gc (HCD.out.ext (HXW.out.trans grows)) (by omega)).mono ?_
    rintro e w3 ⟨v3, l3, rfl, hs3, _, ho3, hx3⟩
    obtain ⟨da3, dc3, rfl⟩ := own_slice ho3
    have HX3 : Hid (Ext (wr.alloc (.cells #[.int .i64 x.tb, .slice ca x.cd.length cc, .slice ga x.gs.length gc] 111)) w3) := Lh ((grows (a := (wr.alloc (.cells #[.int .i64 x.tb, .slice ca x.cd.length cc, .slice ga x.gs.length gc] 111))) (b := (wr.alloc (.cells #[.int .i64 x.tb, .slice ca x.cd.length cc, .slice ga x.gs.length gc] 111)).drew)).trans hx3)
    have HR3 : Hid (Pl.RowS w3 wr.heap.size (.slice da3 l3.length dc3) (Pl.rdL F x)) := Lh ⟨l3, hs3, own_base ho3 (by show wr.heap.size ≤ (wr.alloc (.cells #[.int .i64 x.tb, .slice ca x.cd.length cc, .slice ga x.gs.length gc] 111)).heap.size; rw [szA]; omega)⟩
    have HPB3 := Lh (((grows (a := wr) (b := (wr.alloc (.cells #[.int .i64 x.tb, .slice ca x.cd.length cc, .slice ga x.gs.length gc] 111)))).trans HX3.out).heap HPB.out)
    have HUB3 := Lh (HX3.out.heap HUB.out)
    have HC3 : Hid (CC w3) := Lh (by rw [HCC.out]; exact ⟨cQ 0 (HPB3.out), cQ 1 (HPB3.out), cQ 2 (HPB3.out), cQ 3 (HPB3.out), cQ 4 (HPB3.out), cQ 5 (HPB3.out), cQ 6 (HPB3.out), cQ 7 (HPB3.out), cQ 8 (HPB3.out), cQ 0 (HUB3.out), cQ 1 (HUB3.out), cQ 2 (HUB3.out)⟩)
    clear hs3 ho3 hx3
    go_wp2_with fail
    refine RelD.next_mk (fun _ => HC3.out) ?_
    refine RelD.actL 9 4 rfl (by kernel_rfl) ?_
    simp only [dpZ, dpS, tkS, tkZ]
    go_wp2_with fail
    refine (HWR.out w3 (HXW.out.trans ((grows (a := wr) (b := (wr.alloc (.cells #[.int .i64 x.tb, .slice ca x.cd.length cc, .slice ga x.gs.length gc] 111)))).trans HX3.out)) x ca ga x.cd.length cc x.gs.length gc).mono ?_
    rintro e w4 ⟨v4, l4, rfl, hs4, _, ho4, hx4⟩
    obtain ⟨da4, dc4, rfl⟩ := own_slice ho4
    have HX4 : Hid (Ext (wr.alloc (.cells #[.int .i64 x.tb, .slice ca x.cd.length cc, .slice ga x.gs.length gc] 111)) w4) := Lh (HX3.out.trans hx4)
    have HR4 : Hid (Pl.RowS w4 wr.heap.size (.slice da4 l4.length dc4) (Pl.wrL F x)) := Lh ⟨l4, hs4, own_base ho4 (by have := HX3.out.size; rw [szA] at this; omega)⟩
    have HR34 := Lh (HR3.out.ext hx4)
    have HPB4 := Lh (hx4.heap HPB3.out)
    have HUB4 := Lh (hx4.heap HUB3.out)
    have HXR4 : Hid (Ext wr w4) := Lh ((grows (a := wr) (b := (wr.alloc (.cells #[.int .i64 x.tb, .slice ca x.cd.length cc, .slice ga x.gs.length gc] 111)))).trans HX4.out)
    have HC4 : Hid (CC w4) := Lh (by rw [HCC.out]; exact ⟨cQ 0 (HPB4.out), cQ 1 (HPB4.out), cQ 2 (HPB4.out), cQ 3 (HPB4.out), cQ 4 (HPB4.out), cQ 5 (HPB4.out), cQ 6 (HPB4.out), cQ 7 (HPB4.out), cQ 8 (HPB4.out), cQ 0 (HUB4.out), cQ 1 (HUB4.out), cQ 2 (HUB4.out)⟩)
    have hrb4 := HXR4.out.heap HZ.out.hr
    have hwb4 := HXR4.out.heap HZ.out.hw
    have hdb4 := HXR4.out.heap HZ.out.hd
    have cr4 : w4.cell? ⟨rb, k, none⟩ = some (.slice none 0 0) := by rw [cell_of hrb4]; exact Pl.fillL_new R hlt
    have fr4 : w4.frozen? ⟨rb, k, none⟩ = false := free_of hrb4
    have HWB4 := Lh hwb4
    have HDB4 := Lh hdb4
    have hs44 := HXR4.out.size
    clear hs4 ho4 hx4 hrb4 hwb4 hdb4
    go_wp2_with fail
    refine RelD.next_mk (fun _ => HC4.out) ?_
    refine RelD.actL 10 3 rfl (by kernel_rfl) ?_
    simp only [dpZ, dpS, tkS, tkZ]
    go_wp2_with fail
    refine RelD.next_mk (fun _ => HC4.out) ?_
    refine RelD.actL 11 2 rfl (by kernel_rfl) ?_
    simp only [dpZ, dpS, tkS, tkZ]
    go_wp2_with (refine wpList_store_cellK rfl 29 (.tmp 38) (.tmp 34) rfl rb k (.slice none 0 0) (.slice da3 l3.length dc3) rfl rfl (by kernel_rfl) rfl cr4 fr4 ?_)
    intro w5 hw5
    have hm5 : Mod (fun j => j = rb) w4 w5 := by rw [hw5.out]; exact Pl.mod_cell
    have HPB5 := Lh (hm5.heap HPB4.out (by omega))
    have HUB5 := Lh (hm5.heap HUB4.out (by omega))
    have HWB5 := Lh (hm5.heap HWB4.out (by omega))
    have HDB5 := Lh (hm5.heap HDB4.out (by omega))
    have HC5 : Hid (CC w5) := Lh (by rw [HCC.out]; exact ⟨cQ 0 (HPB5.out), cQ 1 (HPB5.out), cQ 2 (HPB5.out), cQ 3 (HPB5.out), cQ 4 (HPB5.out), cQ 5 (HPB5.out), cQ 6 (HPB5.out), cQ 7 (HPB5.out), cQ 8 (HPB5.out), cQ 0 (HUB5.out), cQ 1 (HUB5.out), cQ 2 (HUB5.out)⟩)
    have cw5 : w5.cell? ⟨wb, k, none⟩ = some (.slice none 0 0) := by rw [cell_of HWB5.out]; exact Pl.fillL_new V hlt
    have fw5 : w5.frozen? ⟨wb, k, none⟩ = false := free_of HWB5.out
    clear hm5 cr4 fr4
    go_wp2_with fail
    refine RelD.next_mk (fun _ => HC5.out) ?_
    refine RelD.actL 12 1 rfl (by kernel_rfl) ?_
    simp only [dpZ, dpS, tkS, tkZ]
    go_wp2_with fail
    refine RelD.next_mk (fun _ => HC5.out) ?_
    refine RelD.actL 13 0 rfl (by kernel_rfl) ?_
    simp only [dpZ, dpS, tkS, tkZ]
    go_wp2_with (refine wpList_store_cellK rfl 29 (.tmp 39) (.tmp 37) rfl wb k (.slice none 0 0) (.slice da4 l4.length dc4) rfl rfl (by kernel_rfl) rfl cw5 fw5 ?_)
    intro w6 hw6
    have hm6 : Mod (fun j => j = wb) w5 w6 := by rw [hw6.out]; exact Pl.mod_cell
    have HDB6 := Lh (hm6.heap HDB5.out (by omega))
    have hsz6 : w6.heap.size = w4.heap.size := by rw [hw6.out, hw5.out]; simp
    have cd7 : (w6.alloc (.cells (madeCells #[.int .i64 0] n) 3)).cell? ⟨wc.heap.size, k, none⟩ = some (.slice none 0 0) := by rw [cell_of ((grows (a := w6)).heap HDB6.out)]; exact Pl.fillL_new _ hlt
    have fd7 : (w6.alloc (.cells (madeCells #[.int .i64 0] n) 3)).frozen? ⟨wc.heap.size, k, none⟩ = false := free_of ((grows (a := w6)).heap HDB6.out)
    have HSZ6 := Lh hsz6
    clear hm6 cw5 fw5 hsz6
    go_wp2_with fail
    refine RelD.next_mk (fun h => absurd h (by decide)) ?_
    refine RelD.endL (by kernel_rfl) ?_
    go_wp2_with (refine wpList_store_cellK rfl 29 (.tmp 44) (.tmp 43) rfl wc.heap.size k (.slice none 0 0) (.slice (some ⟨w6.heap.size, 0, none⟩) n n) rfl rfl (by kernel_rfl) rfl cd7 fd7 ?_)
    intro w8 hw8
    have HN8 : Hid (Pl.DB1 (W.alloc (.cells (Yq0 F a1 m1 a2 m2 a3 m3 a4 m4 a5 m5 a6 m6 a7 m7 n7 a8 m8) 31)) F us rb wb wc.heap.size n (Pl.upd R k (.slice da3 l3.length dc3)) (Pl.upd V k (.slice da4 l4.length dc4)) (Pl.upd gf k w4.heap.size) (k + 1) w8) := Lh (by
     have h := Pl.DB1.next HZ.out hlt HXR4.out (v3 := .slice da3 l3.length dc3) (v4 := .slice da4 l4.length dc4) (by rw [HGD.out]; exact HR34.out) (by rw [HGD.out]; exact HR4.out)
     rw [← hw5.out, ← hw6.out, ← Pl.made_zero] at h
     unfold Pl.rowV at h
     rw [hw8.out, HSZ6.out]
     exact h)
    clear hw5 hw6 hw8 cd7 fd7
    go_wp2_with fail
    go_roundw
    case rel => exact ⟨k + 1, by omega, by go_num, _, _, _, HN8⟩
    case measure => simp [intOf]; omega
   ·obtain rfl : n = k := by omega
    have HD2 : Hid (∃ M, Pl.DB2 (W.alloc (.cells (Yq0 F a1 m1 a2 m2 a3 m3 a4 m4 a5 m5 a6 m6 a7 m7 n7 a8 m8) 31)) F us rb wb wc.heap.size n R V gf M wr ∧ Pl.MI n (Pl.dep F us) 0 0 M) := Lh ⟨_, Pl.DB2.start HZ.out, Pl.MI.start _ _⟩
    obtain ⟨wo, rfl⟩ : ∃ wo : World, wo = wr := ⟨_, rfl⟩
    clear HZ HD0
    go_wp2_with fail
    go_step3
    go_wp2_with fail
    go_loopw [47] (fun q wr => ∃ i : Nat, i ≤ n ∧ q = .int .i64 i ∧ Hid (∃ M, Pl.DB2 (W.alloc (.cells (Yq0 F a1 m1 a2 m2 a3 m3 a4 m4 a5 m5 a6 m6 a7 m7 n7 a8 m8) 31)) F us rb wb wc.heap.size n R V gf M wr ∧ Pl.MI n (Pl.dep F us) i 0 M)) (fun q _ => n - (intOf q).toNat)
    case atStart => exact ⟨0, Nat.zero_le _, rfl, HD2⟩
    case round =>
     obtain ⟨i, hi1, rfl, HI⟩ := hrel
     by_cases hi : i < n
     ·obtain ⟨wi, rfl⟩ : ∃ wo : World, wo = wr := ⟨_, rfl⟩
      go_wp2_with fail
      go_loopw [51] (fun q wr => ∃ j : Nat, j ≤ n ∧ q = .int .i64 j ∧ Hid (∃ M, Pl.DB2 (W.alloc (.cells (Yq0 F a1 m1 a2 m2 a3 m3 a4 m4 a5 m5 a6 m6 a7 m7 n7 a8 m8) 31)) F us rb wb wc.heap.size n R V gf M wr ∧ Pl.MI n (Pl.dep F us) i j M)) (fun q _ => n - (intOf q).toNat)
      case atStart => exact ⟨0, Nat.zero_le _, rfl, HI⟩
      case round =>
       obtain ⟨j, hj, rfl, HY⟩ := hrel
       by_cases hjt : j < n
       ·obtain ⟨M, hdm, hmi⟩ := HY.out
        have HDM := Lh hdm
        have HMI := Lh hmi
        have sy : Step (W.alloc (.cells (Yq0 F a1 m1 a2 m2 a3 m3 a4 m4 a5 m5 a6 m6 a7 m7 n7 a8 m8) 31)) wr := ⟨hdm.x⟩
        have cdi : ∀ w [Grows wr w], w.cell? ⟨wc.heap.size, i, none⟩ = some (.slice (some ⟨gf i, 0, none⟩) n n) := alw (by rw [cell_of hdm.hd]; exact Pl.fillL_at (fun j => Pl.rowV n (gf j)) hi (Nat.le_refl _))
        have crj := alw (show wr.cell? ⟨rb, j, none⟩ = some (R j) by rw [cell_of hdm.hr]; exact Pl.fillL_at R hjt (Nat.le_refl _))
        have cri := alw (show wr.cell? ⟨rb, i, none⟩ = some (R i) by rw [cell_of hdm.hr]; exact Pl.fillL_at R hi (Nat.le_refl _))
        have cvj := alw (show wr.cell? ⟨wb, j, none⟩ = some (V j) by rw [cell_of hdm.hw]; exact Pl.fillL_at V hjt (Nat.le_refl _))
        have cvi := alw (show wr.cell? ⟨wb, i, none⟩ = some (V i) by rw [cell_of hdm.hw]; exact Pl.fillL_at V hi (Nat.le_refl _))
        clear hdm hmi HY
        by_cases hji : j ≤ i
        ·have z1 : decide ((j : Int) ≤ (i : Int)) = true := dTt (by omega)
         have z2 : decide (j ≤ i) = true := dTt hji
         have HS : Hid (∃ M, Pl.DB2 (W.alloc (.cells (Yq0 F a1 m1 a2 m2 a3 m3 a4 m4 a5 m5 a6 m6 a7 m7 n7 a8 m8) 31)) F us rb wb wc.heap.size n R V gf M wr ∧ Pl.MI n (Pl.dep F us) i (j + 1) M) := Lh ⟨M, HDM.out, HMI.out.keep (by unfold Pl.dep; rw [if_neg (by omega)])⟩
         go_wp2_with fail
         go_roundw
         case rel => exact ⟨j + 1, by omega, by go_num, HS⟩
         case measure => simp [intOf]; omega
        ·have z1 : decide ((j : Int) ≤ (i : Int)) = false := dF (by omega)
         have z2 : decide (j ≤ i) = false := dF hji
         have HEX : Hid (∀ w, Ext W w → Calls Tryz.prog 62 #[.slice ua n uc, .int .i64 i, .int .i64 j] w (Rets w (.bool (Pl.excl (us.getD i Pl.un0) (us.getD j Pl.un0))))) := Lh (fun w hx => by
          have h := exclusive_any (HU.out.ext hx) (i := i) (j := j) (by omega) (by omega)
          rw [hul] at h; exact h)
         obtain ⟨x, hx⟩ : ∃ y, us[j]? = some y := ⟨_, gE (by omega)⟩
         have hgd : us.getD j Pl.un0 = x := by rw [List.getD_eq_getElem?_getD, hx]; rfl
         obtain ⟨ub, uo, rfl, _, _⟩ := Rows.at HU.out (by omega)
         obtain ⟨ca, cc, ga, gc, hcd, hgs, e0, e1, e2⟩ := Pl.units_at HU.out j x hx rfl
         have y0 := alw e0
         have y1 := alw e1
         have y2 := alw e2
         have HGR : Hid (∀ w, Ext W w → Calls Tryz.prog 63 #[.agg #[.int .i64 x.tb, .slice ca x.cd.length cc, .slice ga x.gs.length gc], .int .i64 i] w (Rets w (.bool (Pl.grd (us.getD j Pl.un0) i)))) := Lh (fun w hx => by rw [hgd]; exact guarded_any (Pl.gus_ext hgs hx) x.tb i)
         have HCM : Hid (∀ (v1 v2 : Value) (l1 l2 : List Int) w, Ext wr w → Pl.RowS wr (W.alloc (.cells (Yq0 F a1 m1 a2 m2 a3 m3 a4 m4 a5 m5 a6 m6 a7 m7 n7 a8 m8) 31)).heap.size v1 l1 → Pl.RowS wr (W.alloc (.cells (Yq0 F a1 m1 a2 m2 a3 m3 a4 m4 a5 m5 a6 m6 a7 m7 n7 a8 m8) 31)).heap.size v2 l2 → Calls Tryz.prog 64 #[v1, v2] w (Rets w (.bool (Pl.comm l1 l2)))) := Lh (fun v1 v2 l1 l2 w hx h1 h2 => by
          obtain ⟨a1, ha1, ho1⟩ := h1.ext hx
          obtain ⟨a2, ha2, ho2⟩ := h2.ext hx
          rw [← Pl.comm_same ha1 ha2]
          exact (common_any ho1 ho2).mono (fun e w' h => ⟨h.1, by rw [h.2]; exact eR _⟩))
         have hrj := HDM.out.rr j hjt
         have hvj := HDM.out.vv j hjt
         have hri := HDM.out.rr i hi
         have hvi := HDM.out.vv i hi
         have HC1 : Hid (∀ w, Ext wr w → Calls Tryz.prog 64 #[R j, V i] w (Rets w (.bool (Pl.comm (Pl.rdL F (us.getD j Pl.un0)) (Pl.wrL F (us.getD i Pl.un0)))))) := Lh (fun w hx => HCM.out _ _ _ _ w hx hrj hvi)
         have HC2 : Hid (∀ w, Ext wr w → Calls Tryz.prog 64 #[V j, V i] w (Rets w (.bool (Pl.comm (Pl.wrL F (us.getD j Pl.un0)) (Pl.wrL F (us.getD i Pl.un0)))))) := Lh (fun w hx => HCM.out _ _ _ _ w hx hvj hvi)
         have HC3 : Hid (∀ w, Ext wr w → Calls Tryz.prog 64 #[V j, R i] w (Rets w (.bool (Pl.comm (Pl.wrL F (us.getD j Pl.un0)) (Pl.rdL F (us.getD i Pl.un0)))))) := Lh (fun w hx => HCM.out _ _ _ _ w hx hvj hri)
         obtain ⟨ex, hex⟩ : ∃ z, z = Pl.excl (us.getD i Pl.un0) (us.getD j Pl.un0) := ⟨_, rfl⟩
         obtain ⟨gr, hgr⟩ : ∃ z, z = Pl.grd (us.getD j Pl.un0) i := ⟨_, rfl⟩
         obtain ⟨c1, hc1⟩ : ∃ z, z = Pl.comm (Pl.rdL F (us.getD j Pl.un0)) (Pl.wrL F (us.getD i Pl.un0)) := ⟨_, rfl⟩
         obtain ⟨c2, hc2⟩ : ∃ z, z = Pl.comm (Pl.wrL F (us.getD j Pl.un0)) (Pl.wrL F (us.getD i Pl.un0)) := ⟨_, rfl⟩
         obtain ⟨c3, hc3⟩ : ∃ z, z = Pl.comm (Pl.wrL F (us.getD j Pl.un0)) (Pl.rdL F (us.getD i Pl.un0)) := ⟨_, rfl⟩
         have HDP : Hid (Pl.dep F us i j = if ex then 0 else if gr || (c1 || c2) then 2 else if c3 then 1 else 0) := Lh (by unfold Pl.dep Pl.depP; rw [if_pos (by omega), hex, hgr, hc1, hc2, hc3])
         rw [← hex] at HEX
         rw [← hgr] at HGR
         rw [← hc1] at HC1
         rw [← hc2] at HC2
         rw [← hc3] at HC3
         clear hex hgr hc1 hc2 hc3 hrj hvj hri hvi hx hgd hcd hgs e0 e1 e2 HCM
         cases ex with
         | true =>
          go_wp2_with fail
          refine via (HEX.out _ grows) fun w3 x3 s3 => ?_
          have HS : Hid (∃ M, Pl.DB2 (W.alloc (.cells (Yq0 F a1 m1 a2 m2 a3 m3 a4 m4 a5 m5 a6 m6 a7 m7 n7 a8 m8) 31)) F us rb wb wc.heap.size n R V gf M w3 ∧ Pl.MI n (Pl.dep F us) i (j + 1) M) := Lh ⟨M, HDM.out.ext grows, HMI.out.keep (by rw [HDP.out]; rfl)⟩
          by_cases hje : j + 1 = n
          ·have ze : decide ((j : Int) = (n : Int) - 1) = true := dTt (by omega)
           have ze2 : ((j : Int) == (n : Int) - 1) = true := bT (by omega)
           have HO := Lh (HS.out.imp (fun M h => (⟨h.1, Pl.MI.line (by have h2 := h.2; rw [hje] at h2; exact h2)⟩ : _ ∧ Pl.MI n (Pl.dep F us) (i + 1) 0 M)))
           go_wp2_with fail
           go_roundw
           case rel => exact ⟨i + 1, by omega, by go_num, HO⟩
           case measure => simp [intOf]; omega
          ·have ze : decide ((j : Int) = (n : Int) - 1) = false := dF (by omega)
           have ze2 : ((j : Int) == (n : Int) - 1) = false := bF (by omega)
           go_wp2_with fail
           go_roundw
           case rel => exact ⟨j + 1, by omega, by go_num, HS⟩
           case measure => simp [intOf]; omega
         | false =>
          go_wp2_with fail
          refine via (HEX.out _ grows) fun w3 x3 s3 => ?_
          cases gr with
          | true =>
           go_wp2_with fail
           refine wp_region_later (W := w3) (by kernel_rfl) (by kernel_rfl) grows ?_
           repeat (go_big_quiet_step (first | (go_at_call 63; exact Rets.later_at (HGR.out _ grows)) | fail))
           refine wpQuiet_nil ?_
           intro w9 hx9
           have s9 := Sm hx9
           have hdw := HDM.out.ext (grows (a := wr) (b := w9))
           have hy2 := (hdw.dd i hi).1
           have cy : w9.cell? ⟨gf i, j, none⟩ = some (.int .i64 ((M i).getD j 0)) := by
            rw [cell_of hy2, List.getElem?_toArray, List.getElem?_map, List.getD_eq_getElem?_getD, gE (by rw [hdw.ml i hi]; exact hjt)]; rfl
           have fy : w9.frozen? ⟨gf i, j, none⟩ = false := free_of hy2
           have HDW := Lh hdw
           clear hdw hy2
           go_wp2_with (refine wpList_store_cellK rfl 3 (.tmp 96) (.const (.int .i64 2)) rfl (gf i) j (.int .i64 ((M i).getD j 0)) (.int .i64 2) rfl rfl (by kernel_rfl) rfl cy fy ?_)
           intro wz hwz
           have HS : Hid (∃ M, Pl.DB2 (W.alloc (.cells (Yq0 F a1 m1 a2 m2 a3 m3 a4 m4 a5 m5 a6 m6 a7 m7 n7 a8 m8) 31)) F us rb wb wc.heap.size n R V gf M wz ∧ Pl.MI n (Pl.dep F us) i (j + 1) M) := Lh ⟨_, by rw [hwz.out]; exact HDW.out.set (j := j) hi 2, Pl.MI.set HMI.out (HDW.out.ml i hi) hjt (by rw [HDP.out]; rfl)⟩
           clear hwz cy fy
           by_cases hje : j + 1 = n
           ·have ze : decide ((j : Int) = (n : Int) - 1) = true := dTt (by omega)
            have ze2 : ((j : Int) == (n : Int) - 1) = true := bT (by omega)
            have HO := Lh (HS.out.imp (fun M h => (⟨h.1, Pl.MI.line (by have h2 := h.2; rw [hje] at h2; exact h2)⟩ : _ ∧ Pl.MI n (Pl.dep F us) (i + 1) 0 M)))
            go_wp2_with fail
            go_roundw
            case rel => exact ⟨i + 1, by omega, by go_num, HO⟩
            case measure => simp [intOf]; omega
           ·have ze : decide ((j : Int) = (n : Int) - 1) = false := dF (by omega)
            have ze2 : ((j : Int) == (n : Int) - 1) = false := bF (by omega)
            go_wp2_with fail
            go_roundw
            case rel => exact ⟨j + 1, by omega, by go_num, HS⟩
            case measure => simp [intOf]; omega
          | false =>
           cases c1 with
           | true =>
            go_wp2_with fail
            refine wp_region_later (W := w3) (by kernel_rfl) (by kernel_rfl) grows ?_
            repeat (go_big_quiet_step (first | (go_at_call 63; exact Rets.later_at (HGR.out _ grows)) | (go_at_call 64; with_reducible exact Rets.later_at (HC1.out _ grows)) | fail))
            refine wpQuiet_nil ?_
            intro w9 hx9
            have s9 := Sm hx9
            have hdw := HDM.out.ext (grows (a := wr) (b := w9))
            have hy2 := (hdw.dd i hi).1
            have cy : w9.cell? ⟨gf i, j, none⟩ = some (.int .i64 ((M i).getD j 0)) := by
             rw [cell_of hy2, List.getElem?_toArray, List.getElem?_map, List.getD_eq_getElem?_getD, gE (by rw [hdw.ml i hi]; exact hjt)]; rfl
            have fy : w9.frozen? ⟨gf i, j, none⟩ = false := free_of hy2
            have HDW := Lh hdw
            clear hdw hy2
            go_wp2_with (refine wpList_store_cellK rfl 3 (.tmp 96) (.const (.int .i64 2)) rfl (gf i) j (.int .i64 ((M i).getD j 0)) (.int .i64 2) rfl rfl (by kernel_rfl) rfl cy fy ?_)
            intro wz hwz
            have HS : Hid (∃ M, Pl.DB2 (W.alloc (.cells (Yq0 F a1 m1 a2 m2 a3 m3 a4 m4 a5 m5 a6 m6 a7 m7 n7 a8 m8) 31)) F us rb wb wc.heap.size n R V gf M wz ∧ Pl.MI n (Pl.dep F us) i (j + 1) M) := Lh ⟨_, by rw [hwz.out]; exact HDW.out.set (j := j) hi 2, Pl.MI.set HMI.out (HDW.out.ml i hi) hjt (by rw [HDP.out]; rfl)⟩
            clear hwz cy fy
            by_cases hje : j + 1 = n
            ·have ze : decide ((j : Int) = (n : Int) - 1) = true := dTt (by omega)
             have ze2 : ((j : Int) == (n : Int) - 1) = true := bT (by omega)
             have HO := Lh (HS.out.imp (fun M h => (⟨h.1, Pl.MI.line (by have h2 := h.2; rw [hje] at h2; exact h2)⟩ : _ ∧ Pl.MI n (Pl.dep F us) (i + 1) 0 M)))
             go_wp2_with fail
             go_roundw
             case rel => exact ⟨i + 1, by omega, by go_num, HO⟩
             case measure => simp [intOf]; omega
            ·have ze : decide ((j : Int) = (n : Int) - 1) = false := dF (by omega)
             have ze2 : ((j : Int) == (n : Int) - 1) = false := bF (by omega)
             go_wp2_with fail
             go_roundw
             case rel => exact ⟨j + 1, by omega, by go_num, HS⟩
             case measure => simp [intOf]; omega
           | false =>
            cases c2 with
            | true =>
             go_wp2_with fail
             refine wp_region_later (W := w3) (by kernel_rfl) (by kernel_rfl) grows ?_
             repeat (go_big_quiet_step (first | (go_at_call 63; exact Rets.later_at (HGR.out _ grows)) | (go_at_call 64; with_reducible exact Rets.later_at (HC1.out _ grows)) | (go_at_call 64; with_reducible exact Rets.later_at (HC2.out _ grows)) | fail))
             refine wpQuiet_nil ?_
             intro w9 hx9
             have s9 := Sm hx9
             have hdw := HDM.out.ext (grows (a := wr) (b := w9))
             have hy2 := (hdw.dd i hi).1
             have cy : w9.cell? ⟨gf i, j, none⟩ = some (.int .i64 ((M i).getD j 0)) := by
              rw [cell_of hy2, List.getElem?_toArray, List.getElem?_map, List.getD_eq_getElem?_getD, gE (by rw [hdw.ml i hi]; exact hjt)]; rfl
             have fy : w9.frozen? ⟨gf i, j, none⟩ = false := free_of hy2
             have HDW := Lh hdw
             clear hdw hy2
             go_wp2_with (refine wpList_store_cellK rfl 3 (.tmp 96) (.const (.int .i64 2)) rfl (gf i) j (.int .i64 ((M i).getD j 0)) (.int .i64 2) rfl rfl (by kernel_rfl) rfl cy fy ?_)
             intro wz hwz
             have HS : Hid (∃ M, Pl.DB2 (W.alloc (.cells (Yq0 F a1 m1 a2 m2 a3 m3 a4 m4 a5 m5 a6 m6 a7 m7 n7 a8 m8) 31)) F us rb wb wc.heap.size n R V gf M wz ∧ Pl.MI n (Pl.dep F us) i (j + 1) M) := Lh ⟨_, by rw [hwz.out]; exact HDW.out.set (j := j) hi 2, Pl.MI.set HMI.out (HDW.out.ml i hi) hjt (by rw [HDP.out]; rfl)⟩
             clear hwz cy fy
             by_cases hje : j + 1 = n
             ·have ze : decide ((j : Int) = (n : Int) - 1) = true := dTt (by omega)
              have ze2 : ((j : Int) == (n : Int) - 1) = true := bT (by omega)
              have HO := Lh (HS.out.imp (fun M h => (⟨h.1, Pl.MI.line (by have h2 := h.2; rw [hje] at h2; exact h2)⟩ : _ ∧ Pl.MI n (Pl.dep F us) (i + 1) 0 M)))
              go_wp2_with fail
              go_roundw
              case rel => exact ⟨i + 1, by omega, by go_num, HO⟩
              case measure => simp [intOf]; omega
             ·have ze : decide ((j : Int) = (n : Int) - 1) = false := dF (by omega)
              have ze2 : ((j : Int) == (n : Int) - 1) = false := bF (by omega)
              go_wp2_with fail
              go_roundw
              case rel => exact ⟨j + 1, by omega, by go_num, HS⟩
              case measure => simp [intOf]; omega
            | false =>
             go_wp2_with fail
             refine wp_region_later (W := w3) (by kernel_rfl) (by kernel_rfl) grows ?_
             repeat (go_big_quiet_step (first | (go_at_call 63; exact Rets.later_at (HGR.out _ grows)) | (go_at_call 64; with_reducible exact Rets.later_at (HC1.out _ grows)) | (go_at_call 64; with_reducible exact Rets.later_at (HC2.out _ grows)) | fail))
             refine wpQuiet_nil ?_
             intro w9 hx9
             have s9 := Sm hx9
             go_wp2_with fail
             refine wp_region_later (W := w9) (by kernel_rfl) (by kernel_rfl) grows ?_
             repeat (go_big_quiet_step (first | (go_at_call 64; with_reducible exact Rets.later_at (HC3.out _ grows)) | fail))
             refine wpQuiet_nil ?_
             intro wA hxA
             have sA := Sm hxA
             cases c3 with
             | true =>
              have hdw := HDM.out.ext (grows (a := wr) (b := wA))
              have hy2 := (hdw.dd i hi).1
              have cy : wA.cell? ⟨gf i, j, none⟩ = some (.int .i64 ((M i).getD j 0)) := by
               rw [cell_of hy2, List.getElem?_toArray, List.getElem?_map, List.getD_eq_getElem?_getD, gE (by rw [hdw.ml i hi]; exact hjt)]; rfl
              have fy : wA.frozen? ⟨gf i, j, none⟩ = false := free_of hy2
              have HDW := Lh hdw
              clear hdw hy2
              go_wp2_with (refine wpList_store_cellK rfl 3 (.tmp 112) (.const (.int .i64 1)) rfl (gf i) j (.int .i64 ((M i).getD j 0)) (.int .i64 1) rfl rfl (by kernel_rfl) rfl cy fy ?_)
              intro wz hwz
              have HS : Hid (∃ M, Pl.DB2 (W.alloc (.cells (Yq0 F a1 m1 a2 m2 a3 m3 a4 m4 a5 m5 a6 m6 a7 m7 n7 a8 m8) 31)) F us rb wb wc.heap.size n R V gf M wz ∧ Pl.MI n (Pl.dep F us) i (j + 1) M) := Lh ⟨_, by rw [hwz.out]; exact HDW.out.set (j := j) hi 1, Pl.MI.set HMI.out (HDW.out.ml i hi) hjt (by rw [HDP.out]; rfl)⟩
              clear hwz cy fy
              by_cases hje : j + 1 = n
              ·have ze : decide ((j : Int) = (n : Int) - 1) = true := dTt (by omega)
               have ze2 : ((j : Int) == (n : Int) - 1) = true := bT (by omega)
               have HO := Lh (HS.out.imp (fun M h => (⟨h.1, Pl.MI.line (by have h2 := h.2; rw [hje] at h2; exact h2)⟩ : _ ∧ Pl.MI n (Pl.dep F us) (i + 1) 0 M)))
               go_wp2_with fail
               go_roundw
               case rel => exact ⟨i + 1, by omega, by go_num, HO⟩
               case measure => simp [intOf]; omega
              ·have ze : decide ((j : Int) = (n : Int) - 1) = false := dF (by omega)
               have ze2 : ((j : Int) == (n : Int) - 1) = false := bF (by omega)
               go_wp2_with fail
               go_roundw
               case rel => exact ⟨j + 1, by omega, by go_num, HS⟩
               case measure => simp [intOf]; omega
             | false =>
              have HS : Hid (∃ M, Pl.DB2 (W.alloc (.cells (Yq0 F a1 m1 a2 m2 a3 m3 a4 m4 a5 m5 a6 m6 a7 m7 n7 a8 m8) 31)) F us rb wb wc.heap.size n R V gf M wA ∧ Pl.MI n (Pl.dep F us) i (j + 1) M) := Lh ⟨M, HDM.out.ext grows, HMI.out.keep (by rw [HDP.out]; rfl)⟩
              by_cases hje : j + 1 = n
              ·have ze : decide ((j : Int) = (n : Int) - 1) = true := dTt (by omega)
               have ze2 : ((j : Int) == (n : Int) - 1) = true := bT (by omega)
               have HO := Lh (HS.out.imp (fun M h => (⟨h.1, Pl.MI.line (by have h2 := h.2; rw [hje] at h2; exact h2)⟩ : _ ∧ Pl.MI n (Pl.dep F us) (i + 1) 0 M)))
               go_wp2_with fail
               go_roundw
               case rel => exact ⟨i + 1, by omega, by go_num, HO⟩
               case measure => simp [intOf]; omega
              ·have ze : decide ((j : Int) = (n : Int) - 1) = false := dF (by omega)
               have ze2 : ((j : Int) == (n : Int) - 1) = false := bF (by omega)
               go_wp2_with fail
               go_roundw
               case rel => exact ⟨j + 1, by omega, by go_num, HS⟩
               case measure => simp [intOf]; omega
       ·obtain rfl : n = j := by omega
        have HO := Lh (HY.out.imp (fun M h => (⟨h.1, Pl.MI.line h.2⟩ : _ ∧ Pl.MI n (Pl.dep F us) (i + 1) 0 M)))
        go_wp2_with fail
        go_roundw
        case rel => exact ⟨i + 1, by omega, by go_num, HO⟩
        case measure => simp [intOf]; omega
     ·obtain rfl : n = i := by omega
      have HF : Hid (Pl.DepP W F us (.returned (.slice (some ⟨wc.heap.size, 0, none⟩) n n)) wr) := Lh (by
       obtain ⟨M, hd, hm⟩ := HI.out
       have hr := hd.done (by unfold maxLen; omega) hm
       have hml : (Pl.mat n (Pl.dep F us)).length = n := by simp [Pl.mat]
       rw [hml] at hr
       unfold Pl.DepP
       rw [hul]
       refine ⟨_, _, rfl, (grows (a := W) (b := (W.alloc (.cells (Yq0 F a1 m1 a2 m2 a3 m3 a4 m4 a5 m5 a6 m6 a7 m7 n7 a8 m8) 31)))).trans hd.x, hr, fun S w9 hk hs => ?_⟩
       have hr9 := hd.keep (by unfold maxLen; omega) hm hk (fun b hb => by have := hs b hb; rw [szA]; omega)
       rw [hml] at hr9
       exact hr9)
      go_wp2_with fail
      go_ret
      exact HF.out
namespace Pl
theorem mat_len (n : Nat) (dp : Nat → Nat → Int) : (mat n dp).length = n := by simp [mat]
/-- a matrix of n rows in memory -/
def Dm (w : World) (oa : Option Addr) (c n : Nat) (dp : Nat → Nat → Int) : Prop := Rows w 1 RowI (.slice oa n c) (mat n dp)
theorem Dm.ext {w w' : World} {oa : Option Addr} {c n : Nat} {dp : Nat → Nat → Int} (h : Dm w oa c n dp) (hx : Ext w w') : Dm w' oa c n dp :=
 Rows.ext (w' := w') h (fun cs r g => by obtain ⟨rv, g1, g2⟩ := g; exact ⟨rv, g1, Rows.ext (w' := w') g2 (fun _ _ h => h) hx⟩) hx
theorem Dm.at {w : World} {oa : Option Addr} {c n i j : Nat} {dp : Nat → Nat → Int} (h : Dm w oa c n dp) (hi : i < n) (hj : j < n) : ∃ b o rb ro rc, oa = some ⟨b, o, none⟩ ∧ w.cell? ⟨b, o + i, none⟩ = some (.slice (some ⟨rb, ro, none⟩) n rc) ∧ w.cell? ⟨rb, ro + j, none⟩ = some (.int .i64 (dp i j)) := by
 obtain ⟨b, o, e, _, h4⟩ := Rows.at h (by rw [mat_len]; omega)
 have hm : (mat n dp)[i]? = some ((List.range n).map (fun j => dp i j)) := by
  unfold mat
  rw [List.getElem?_map, List.getElem?_range hi]; rfl
 obtain ⟨cs, _, ⟨rv, rfl, hr⟩, hc⟩ := h4 i _ hm
 have hrl : ((List.range n).map (fun j => dp i j)).length = n := by simp
 obtain ⟨ra, rc, rfl, _⟩ := hr.slice
 have hj2 : ((List.range n).map (fun j => dp i j))[j]? = some (dp i j) := by rw [List.getElem?_map, List.getElem?_range hj]; rfl
 obtain ⟨rb, ro, rfl, hcj⟩ := ir_at hr hj2
 have h0 := hc 0 _ rfl
 rw [Nat.mul_one, Nat.add_zero, hrl] at h0
 exact ⟨b, o, rb, ro, rc, e, h0, hcj⟩
/-- only 0, 1 and 2 -/
def D012 (dp : Nat → Nat → Int) : Prop := ∀ i j, dp i j = 0 ∨ dp i j = 1 ∨ dp i j = 2
theorem dep_012 (F : Tj.FP) (us : List Un) : D012 (dep F us) := fun i j => by
 unfold dep depP
 split
 ·split
  ·exact .inl rfl
  ·split
   ·exact .inr (.inr rfl)
   ·split
    ·exact .inr (.inl rfl)
    ·exact .inl rfl
 ·exact .inl rfl
/-- ears, and how great they are -/
theorem ear_snoc (dp : Nat → Nat → Int) (j : Nat) : ear dp (j + 1) = ear dp j ++ [(List.range j).foldl (earP dp (ear dp j) j) 0] := rfl
theorem foldl_bd {f : Int → Nat → Int} {b : Int} : ∀ (l : List Nat) (x : Int), 0 ≤ x ∧ x ≤ b → (∀ i ∈ l, ∀ y, 0 ≤ y ∧ y ≤ b → 0 ≤ f y i ∧ f y i ≤ b) → 0 ≤ l.foldl f x ∧ l.foldl f x ≤ b
 | [], _, h, _ => h
 | i :: l, x, h, hf => foldl_bd l (f x i) (hf i List.mem_cons_self x h) (fun j hj => hf j (List.mem_cons_of_mem _ hj))
theorem ear_bd (dp : Nat → Nat → Int) : ∀ (n i : Nat), 0 ≤ (ear dp n).getD i 0 ∧ (ear dp n).getD i 0 ≤ n
 | 0, i => by show 0 ≤ ([] : List Int).getD i 0 ∧ _; simp [ear]
 | n + 1, i => by
  rw [ear_snoc]
  by_cases h : i < n
  ·rw [List.getD_eq_getElem?_getD, List.getElem?_append_left (by rw [ear_len]; exact h), ← List.getD_eq_getElem?_getD]
   have := ear_bd dp n i
   omega
  ·by_cases e : i = n
   ·subst e
    rw [List.getD_eq_getElem?_getD, List.getElem?_append_right (by rw [ear_len]; exact Nat.le_refl _), ear_len, Nat.sub_self]
    show 0 ≤ (List.range i).foldl _ 0 ∧ (List.range i).foldl _ 0 ≤ _
    refine foldl_bd _ _ (by omega) (fun q _ y hy => ?_)
    have := ear_bd dp i q
    unfold earP
    split
    ·omega
    ·split <;> omega
   ·rw [List.getD_eq_getElem?_getD, List.getElem?_eq_none (by simp [ear_len]; omega)]
    exact ⟨Int.le_refl _, by show (0 : Int) ≤ _; omega⟩
/-- the row while unit j is reckoned against the first i -/
structure EarI (dp : Nat → Nat → Int) (n j i : Nat) (L : List Int) : Prop where
 len : L.length = n
 old : ∀ a, a < j → L.getD a 0 = (ear dp j).getD a 0
 cur : j < n → L.getD j 0 = (List.range i).foldl (earP dp (ear dp j) j) 0
 new : ∀ a, j < a → L.getD a 0 = 0
theorem EarI.start (dp : Nat → Nat → Int) (n : Nat) : EarI dp n 0 0 (List.replicate n 0) :=
 ⟨by simp, fun a h => by omega, fun h => by rw [List.getD_eq_getElem?_getD, List.getElem?_replicate, if_pos h]; rfl, fun a _ => by
  rw [List.getD_eq_getElem?_getD, List.getElem?_replicate]; split <;> rfl⟩
theorem EarI.keep {dp : Nat → Nat → Int} {n j i : Nat} {L : List Int} (h : EarI dp n j i L) (hz : dp i j = 0) : EarI dp n j (i + 1) L :=
 ⟨h.len, h.old, fun hj => by rw [h.cur hj, List.range_succ, List.foldl_append]; show _ = earP dp (ear dp j) j _ i; unfold earP; rw [hz]; rfl, h.new⟩
theorem EarI.set {dp : Nat → Nat → Int} {n j i : Nat} {L : List Int} (h : EarI dp n j i L) (hj : j < n) {y : Int} (hy : earP dp (ear dp j) j (L.getD j 0) i = y) : EarI dp n j (i + 1) (L.set j y) := by
 have hl := h.len
 have hg : ∀ a, (L.set j y).getD a 0 = if a = j then y else L.getD a 0 := fun a => getD_set (by omega)
 refine ⟨by rw [List.length_set]; exact hl, fun a ha => by rw [hg, if_neg (by omega)]; exact h.old a ha, fun _ => ?_, fun a ha => by rw [hg, if_neg (by omega)]; exact h.new a ha⟩
 rw [hg, if_pos rfl, List.range_succ, List.foldl_append]
 show y = earP dp (ear dp j) j _ i
 rw [← h.cur hj, hy]
theorem EarI.line {dp : Nat → Nat → Int} {n j : Nat} {L : List Int} (h : EarI dp n j j L) (hj : j < n) : EarI dp n (j + 1) 0 L := by
 refine ⟨h.len, fun a ha => ?_, fun hj2 => by rw [h.new (j + 1) (by omega)]; rfl, fun a ha => h.new a (by omega)⟩
 rw [ear_snoc]
 by_cases e : a = j
 ·subst e
  rw [h.cur hj, List.getD_eq_getElem?_getD (l := _ ++ _), List.getElem?_append_right (by rw [ear_len]; exact Nat.le_refl _), ear_len, Nat.sub_self]; rfl
 ·rw [h.old a (by omega), List.getD_eq_getElem?_getD (l := _ ++ _), List.getElem?_append_left (by rw [ear_len]; omega), ← List.getD_eq_getElem?_getD]
theorem EarI.done {dp : Nat → Nat → Int} {n : Nat} {L : List Int} (h : EarI dp n n 0 L) : L = ear dp n := by
 refine List.ext_getElem? fun a => ?_
 by_cases ha : a < n
 ·have h1 := h.old a ha
  rw [List.getD_eq_getElem?_getD, List.getD_eq_getElem?_getD, gE (by rw [h.len]; exact ha), gE (by rw [ear_len]; exact ha)] at h1
  rw [gE (by rw [h.len]; exact ha), gE (by rw [ear_len]; exact ha)]
  simpa using h1
 ·rw [List.getElem?_eq_none (by rw [h.len]; omega), List.getElem?_eq_none (by rw [ear_len]; omega)]
/-- a block of ints -/
def RowB (w : World) (g : Nat) (L : List Int) : Prop := w.heap[g]? = some (.cells (L.map (Value.int .i64)).toArray 3 (0, 0))
theorem RowB.cell {w : World} {g a : Nat} {L : List Int} (h : RowB w g L) (ha : a < L.length) : w.cell? ⟨g, a, none⟩ = some (.int .i64 (L.getD a 0)) := by
 rw [cell_of h, List.getElem?_toArray, List.getElem?_map, List.getD_eq_getElem?_getD, gE ha]; rfl
theorem RowB.set {w : World} {g a : Nat} {L : List Int} (h : RowB w g L) (y : Int) : RowB (w.setCell ⟨g, a, none⟩ (.int .i64 y)) g (L.set a y) := by
 have hs := setCell_heap (o := a) (v := Value.int .i64 y) h
 rw [stA, ← List.map_set] at hs
 exact hs
theorem RowB.own {w : World} {g B : Nat} {L : List Int} (h : RowB w g L) (hB : B ≤ g) (hm : L.length ≤ maxLen) : w.ownsRow B 3 1 (.slice (some ⟨g, 0, none⟩) L.length L.length) L.length (L.map (Value.int .i64)) :=
 ⟨by simp, .inr ⟨g, L.length, _, rfl, hB, h, Nat.le_refl _, hm, by simp, by rw [Nat.mul_one]; exact List.take_of_length_le (by simp)⟩⟩
end Pl
theorem dkind_any {W : World} {oa : Option Addr} {c n : Nat} {dp : Nat → Nat → Int} (h : Pl.Dm W oa c n dp) (hd : Pl.D012 dp) {i j : Nat} (hij : i < j) (hj : j < n) : Calls Tryz.prog 32 #[.slice oa n c, .int .i64 i, .int .i64 j] W (Rets W (.int .i64 (dp i j))) := by
 obtain ⟨b, o, rb, ro, rc, rfl, c0, c1⟩ := h.at (i := i) (j := j) (by omega) hj
 have hd0 := hd i j
 obtain ⟨y, hy⟩ : ∃ y, y = dp i j := ⟨_, rfl⟩
 rw [← hy] at c1 hd0 ⊢
 have q0 := alw c0
 have q1 := alw c1
 have z1 : decide ((j : Int) ≤ (i : Int)) = false := dF (by omega)
 have z2 : decide (j ≤ i) = false := dF (by omega)
 have z3 : decide ((n : Int) ≤ (j : Int)) = false := dF (by omega)
 have z4 : decide (n ≤ j) = false := dF (by omega)
 clear h hd hy c0 c1
 rcases hd0 with rfl | rfl | rfl
 all_goals
  go_enter Tryz.func32, Tryz.ntmps32
  go_wp2_with fail
  go_ret
  exact ⟨rfl, grows⟩
theorem earliest_any {W : World} {oa : Option Addr} {c n : Nat} {dp : Nat → Nat → Int} (h : Pl.Dm W oa c n dp) (hd : Pl.D012 dp) (hn : n ≤ 1000) : Calls Tryz.prog 29 #[.slice oa n c] W (fun e w' => e = .returned (.slice (some ⟨W.heap.size, 0, none⟩) n n) ∧ Ext W w' ∧ Pl.RowB w' W.heap.size (Pl.ear dp n)) := by
 have HKD : Hid (∀ w, Ext W w → ∀ i j : Nat, i < j → j < n → Calls Tryz.prog 32 #[.slice oa n c, .int .i64 i, .int .i64 j] w (Rets w (.int .i64 (dp i j)))) := Lh (fun w hx i j h1 h2 => dkind_any (h.ext hx) hd h1 h2)
 have HD := Lh hd
 have hmi := mk_i n (by omega)
 have HI0 : Hid (∃ L, Pl.EarI dp n 0 0 L ∧ Ext W (W.alloc (.cells (madeCells #[.int .i64 0] n) 3)) ∧ Pl.RowB (W.alloc (.cells (madeCells #[.int .i64 0] n) 3)) W.heap.size L) := Lh ⟨_, Pl.EarI.start dp n, grows, by unfold Pl.RowB; rw [← Pl.made_zero]; exact aH W _⟩
 clear h hd
 go_enter Tryz.func29, Tryz.ntmps29
 go_wp2_with fail
 go_loopw [11] (fun q wr => ∃ j : Nat, j ≤ n ∧ q = .int .i64 j ∧ Hid (∃ L, Pl.EarI dp n j 0 L ∧ Ext W wr ∧ Pl.RowB wr W.heap.size L)) (fun q _ => n - (intOf q).toNat)
 case atStart => exact ⟨0, Nat.zero_le _, rfl, HI0⟩
 case round =>
  obtain ⟨j, hj, rfl, HZ⟩ := hrel
  obtain ⟨wo, rfl⟩ : ∃ wo : World, wo = wr := ⟨_, rfl⟩
  by_cases hjt : j < n
  ·go_wp2_with fail
   go_loopw [15] (fun q wr => ∃ i : Nat, i ≤ j ∧ q = .int .i64 i ∧ Hid (∃ L, Pl.EarI dp n j i L ∧ Ext W wr ∧ Pl.RowB wr W.heap.size L)) (fun q _ => j - (intOf q).toNat)
   case atStart => exact ⟨0, Nat.zero_le _, rfl, HZ⟩
   case round =>
    obtain ⟨i, hi, rfl, HY⟩ := hrel
    by_cases hij : i < j
    ·obtain ⟨L, hL⟩ := HY.out
     have HL := Lh hL
     have sx : Step W wr := ⟨hL.2.1⟩
     have hlen := hL.1.len
     have cj := alw (hL.2.2.cell (a := j) (by omega))
     have ci := alw (hL.2.2.cell (a := i) (by omega))
     have hbi := Pl.ear_bd dp j i
     rw [← hL.1.old i hij] at hbi
     obtain ⟨aj, haj⟩ : ∃ z, z = L.getD j 0 := ⟨_, rfl⟩
     obtain ⟨ai, hai⟩ : ∃ z, z = L.getD i 0 := ⟨_, rfl⟩
     rw [← haj] at cj
     rw [← hai] at ci hbi
     have HAJ := Lh haj
     have HAI := Lh hai
     clear haj hai
     obtain ⟨hb1, hb2⟩ := hbi
     have HKC := Lh (HKD.out wr hL.2.1 i j hij hjt)
     have hdd := HD.out i j
     obtain ⟨y, hy⟩ : ∃ y, y = dp i j := ⟨_, rfl⟩
     rw [← hy] at HKC hdd
     clear hL HY
     rcases hdd with rfl | rfl | rfl
     ·have HK : Hid (dp i j = 0) := Lh hy.symm
      clear hy
      go_wp2_with fail
      refine HKC.out.mono ?_
      rintro e w3 ⟨rfl, x3⟩
      have s3 := Sm x3
      have HN : Hid (∃ L, Pl.EarI dp n j (i + 1) L ∧ Ext W w3 ∧ Pl.RowB w3 W.heap.size L) := Lh ⟨L, HL.out.1.keep HK.out, HL.out.2.1.trans x3, x3.heap HL.out.2.2⟩
      go_wp2_with fail
      go_roundw
      case rel => exact ⟨i + 1, by omega, by go_num, HN⟩
      case measure => simp [intOf]; omega
     ·have HK : Hid (dp i j = 1) := Lh hy.symm
      clear hy
      go_wp2_with fail
      refine HKC.out.mono ?_
      rintro e w3 ⟨rfl, x3⟩
      have s3 := Sm x3
      clear x3
      go_wp2_with fail
      refine wp_region_later_tail (W := w3) 12 (by kernel_rfl) (by kernel_rfl) grows ?_
      simp only [tkS, tkZ, dpS, dpZ]
      repeat (go_big_quiet_step (fail))
      refine wpQuiet_nil ?_
      intro w5 hx5
      have s5 := Sm hx5
      have hb5 := (grows (a := wr) (b := w5)).heap HL.out.2.2
      have cy : w5.cell? ⟨W.heap.size, j, none⟩ = some (.int .i64 aj) := (cj w5)
      have fy : w5.frozen? ⟨W.heap.size, j, none⟩ = false := free_of hb5
      have HB5 : Hid (Pl.RowB w5 W.heap.size L) := Lh hb5
      have HX5 : Hid (Ext W w5) := Lh (HL.out.2.1.trans (grows (a := wr) (b := w5)))
      clear hb5
      go_wp2_with (refine wpList_store_cellK rfl 3 (.tmp 50) (.tmp 49) rfl W.heap.size j (.int .i64 aj) (.int .i64 (max aj ai)) rfl rfl (by kernel_rfl) rfl cy fy ?_)
      intro w6 hw6
      have HN : Hid (∃ L, Pl.EarI dp n j (i + 1) L ∧ Ext W w6 ∧ Pl.RowB w6 W.heap.size L) := Lh ⟨L.set j (max aj ai), HL.out.1.set (by omega) (by unfold Pl.earP; rw [← HL.out.1.old i hij, HK.out, ← HAJ.out, ← HAI.out]; rfl), by rw [hw6.out]; exact HX5.out.setCell (Nat.le_refl _) _, by rw [hw6.out]; exact HB5.out.set _⟩
      clear hw6 cy fy
      go_wp2_with fail
      go_roundw
      case rel => exact ⟨i + 1, by omega, by go_num, HN⟩
      case measure => simp [intOf]; omega
     ·have HK : Hid (dp i j = 2) := Lh hy.symm
      clear hy
      go_wp2_with fail
      refine HKC.out.mono ?_
      rintro e w3 ⟨rfl, x3⟩
      have s3 := Sm x3
      clear x3
      go_wp2_with fail
      refine wp_region_later_tail (W := w3) 13 (by kernel_rfl) (by kernel_rfl) grows ?_
      simp only [tkS, tkZ, dpS, dpZ]
      repeat (go_big_quiet_step (fail))
      refine wpQuiet_nil ?_
      intro w5 hx5
      have s5 := Sm hx5
      have hb5 := (grows (a := wr) (b := w5)).heap HL.out.2.2
      have cy : w5.cell? ⟨W.heap.size, j, none⟩ = some (.int .i64 aj) := (cj w5)
      have fy : w5.frozen? ⟨W.heap.size, j, none⟩ = false := free_of hb5
      have HB5 : Hid (Pl.RowB w5 W.heap.size L) := Lh hb5
      have HX5 : Hid (Ext W w5) := Lh (HL.out.2.1.trans (grows (a := wr) (b := w5)))
      clear hb5
      go_wp2_with (refine wpList_store_cellK rfl 3 (.tmp 36) (.tmp 35) rfl W.heap.size j (.int .i64 aj) (.int .i64 (max aj (ai + 1))) rfl rfl (by kernel_rfl) rfl cy fy ?_)
      intro w6 hw6
      have HN : Hid (∃ L, Pl.EarI dp n j (i + 1) L ∧ Ext W w6 ∧ Pl.RowB w6 W.heap.size L) := Lh ⟨L.set j (max aj (ai + 1)), HL.out.1.set (by omega) (by unfold Pl.earP; rw [← HL.out.1.old i hij, HK.out, ← HAJ.out, ← HAI.out]; rfl), by rw [hw6.out]; exact HX5.out.setCell (Nat.le_refl _) _, by rw [hw6.out]; exact HB5.out.set _⟩
      clear hw6 cy fy
      go_wp2_with fail
      go_roundw
      case rel => exact ⟨i + 1, by omega, by go_num, HN⟩
      case measure => simp [intOf]; omega
    ·obtain rfl : j = i := by omega
     have HO : Hid (∃ L, Pl.EarI dp n (j + 1) 0 L ∧ Ext W wr ∧ Pl.RowB wr W.heap.size L) := Lh (HY.out.imp (fun L h => ⟨h.1.line hjt, h.2⟩))
     go_wp2_with fail
     go_roundw
     case rel => exact ⟨j + 1, by omega, by go_num, HO⟩
     case measure => simp [intOf]; omega
  ·obtain rfl : n = j := by omega
   have HF : Hid (Ext W wo ∧ Pl.RowB wo W.heap.size (Pl.ear dp n)) := Lh (by
    obtain ⟨L, h1, h2, h3⟩ := HZ.out
    rw [← h1.done]; exact ⟨h2, h3⟩)
   go_wp2_with fail
   go_ret
   exact ⟨rfl, HF.out.1, HF.out.2⟩
theorem cinf_sb : (Tryz.prog.info? 156).map (fun i => (i.zero, i.size, i.bytes)) = some (some (.slice none 0 0), 1, 24) := by kernel_rfl
theorem cinf_b : (Tryz.prog.info? 4).map (fun i => (i.zero, i.size, i.bytes)) = some (some (.bool false), 1, 1) := by kernel_rfl
theorem mk_sb (n : Nat) (h : n ≤ 1073741824) (w : World) : (Instr.makeSlice 154 (.int .i64 (n : Int)) (.int .i64 (n : Int))).run Tryz.prog w = .ok (.slice (some ⟨w.heap.size, 0, none⟩) n n) (w.alloc (.cells (madeCells #[.slice none 0 0] n) 156)) :=
 run_make_row' _ _ _ 24 Tryz.underlying154 cinf_sb rfl _ _ n (by omega) (by omega) w
theorem mk_b (n : Nat) (h : n ≤ 1073741824) (w : World) : (Instr.makeSlice 156 (.int .i64 (n : Int)) (.int .i64 (n : Int))).run Tryz.prog w = .ok (.slice (some ⟨w.heap.size, 0, none⟩) n n) (w.alloc (.cells (madeCells #[.bool false] n) 4)) :=
 run_make_row' _ _ _ 1 Tryz.underlying156 cinf_b rfl _ _ n (by omega) (by omega) w
namespace Pl
theorem made_false (n : Nat) : madeCells #[.bool false] n = ((List.replicate n false).map Value.bool).toArray := by
 apply Array.toList_inj.1
 rw [toList_madeCells_one]; simp
/-- a block of truth values -/
def RowT (w : World) (g : Nat) (L : List Bool) : Prop := w.heap[g]? = some (.cells (L.map Value.bool).toArray 4 (0, 0))
theorem RowT.cell {w : World} {g a : Nat} {L : List Bool} (h : RowT w g L) (ha : a < L.length) : w.cell? ⟨g, a, none⟩ = some (.bool (L.getD a false)) := by
 rw [cell_of h, List.getElem?_toArray, List.getElem?_map, List.getD_eq_getElem?_getD, gE ha]; rfl
theorem RowT.set {w : World} {g a : Nat} {L : List Bool} (h : RowT w g L) (y : Bool) : RowT (w.setCell ⟨g, a, none⟩ (.bool y)) g (L.set a y) := by
 have hs := setCell_heap (o := a) (v := Value.bool y) h
 rw [stA, ← List.map_set] at hs
 exact hs
theorem getD_setT {L : List Bool} {a b : Nat} {y : Bool} (h : (L.set a y).getD b false = true) : (b = a ∧ y = true) ∨ L.getD b false = true := by
 rw [List.getD_eq_getElem?_getD, List.getElem?_set] at h
 by_cases e : a = b
 ·subst e
  rw [if_pos rfl] at h
  by_cases hl : a < L.length
  ·rw [if_pos hl] at h; exact .inl ⟨rfl, by simpa using h⟩
  ·rw [if_neg hl] at h; cases h
 ·rw [if_neg e, ← List.getD_eq_getElem?_getD] at h; exact .inr h
/-- one matrix of truth values: the first k of its n rows are made; P says what a true place means -/
structure BM (W : World) (b n : Nat) (gf : Nat → Nat) (A : Nat → List Bool) (P : Nat → Nat → Prop) (k : Nat) (w : World) : Prop where
 lo : W.heap.size ≤ b
 hb : w.heap[b]? = some (.cells (fillL n (fun j => rowV n (gf j)) k).toArray 156 (0, 0))
 rr : ∀ j, j < k → RowT w (gf j) (A j) ∧ W.heap.size ≤ gf j ∧ (A j).length = n
 ij : ∀ i j, i < k → j < k → gf i = gf j → i = j
 pr : ∀ j a, j < k → (A j).getD a false = true → P j a
theorem BM.mod {S : Nat → Prop} {W w w' : World} {b n k : Nat} {gf : Nat → Nat} {A : Nat → List Bool} {P : Nat → Nat → Prop} (h : BM W b n gf A P k w) (hm : Mod S w w') (hs : ¬ S b) (hr : ∀ j, j < k → ¬ S (gf j)) : BM W b n gf A P k w' :=
 ⟨h.lo, hm.heap h.hb hs, fun j hj => ⟨hm.heap (h.rr j hj).1 (hr j hj), (h.rr j hj).2⟩, h.ij, h.pr⟩
theorem BM.ext {W w w' : World} {b n k : Nat} {gf : Nat → Nat} {A : Nat → List Bool} {P : Nat → Nat → Prop} (h : BM W b n gf A P k w) (hx : Ext w w') : BM W b n gf A P k w' :=
 h.mod (S := fun _ => False) (Mod.of_ext hx) (fun h => h) (fun _ _ h => h)
theorem BM.row {W w : World} {b n k j : Nat} {gf : Nat → Nat} {A : Nat → List Bool} {P : Nat → Nat → Prop} (h : BM W b n gf A P k w) (hk : k ≤ n) (hj : j < k) : w.cell? ⟨b, j, none⟩ = some (.slice (some ⟨gf j, 0, none⟩) n n) := by
 rw [cell_of h.hb]; exact fillL_at (fun j => rowV n (gf j)) hj hk
/-- a further row is put -/
theorem BM.next {W w w4 : World} {b n k g : Nat} {gf : Nat → Nat} {A : Nat → List Bool} {P : Nat → Nat → Prop} (h : BM W b n gf A P k w) (hk : k < n) (hx : Ext w w4) (hg : RowT w4 g (List.replicate n false)) (hn : w.heap.size ≤ g) (hW : W.heap.size ≤ w.heap.size) : BM W b n (upd gf k g) (upd A k (List.replicate n false)) P (k + 1) (w4.setCell ⟨b, k, none⟩ (rowV n g)) := by
 have h4 := h.ext hx
 have hm : Mod (fun j => j = b) w4 (w4.setCell ⟨b, k, none⟩ (rowV n g)) := mod_cell
 have hgb : g ≠ b := heap_ne hg h4.hb (by decide)
 refine ⟨h.lo, ?_, fun j hj => ?_, fun i j hi hj e => ?_, fun j a hj ha => ?_⟩
 ·have hs := setCell_heap (o := k) (v := rowV n g) h4.hb
  rw [fillL_set _ _ hk] at hs
  rw [show (fun j => rowV n (upd gf k g j)) = upd (fun j => rowV n (gf j)) k (rowV n g) from by funext j; unfold upd; split <;> rfl]
  exact hs
 ·by_cases e : j = k
  ·subst e; rw [upd_same, upd_same]; exact ⟨hm.heap hg hgb, by omega, by simp⟩
  ·rw [upd_ne _ _ e, upd_ne _ _ e]
   have hj2 := h4.rr j (by omega)
   exact ⟨hm.heap hj2.1 (heap_ne hj2.1 h4.hb (by decide)), hj2.2⟩
 ·unfold upd at e
  by_cases ei : i = k <;> by_cases ej : j = k
  ·omega
  ·rw [if_pos ei, if_neg ej] at e
   have := lt_of_block (h.rr j (by omega)).1; omega
  ·rw [if_neg ei, if_pos ej] at e
   have := lt_of_block (h.rr i (by omega)).1; omega
  ·rw [if_neg ei, if_neg ej] at e; exact h.ij i j (by omega) (by omega) e
 ·by_cases e : j = k
  ·subst e
   rw [upd_same, List.getD_eq_getElem?_getD, List.getElem?_replicate] at ha
   split at ha <;> cases ha
  ·rw [upd_ne _ _ e] at ha; exact h.pr j a (by omega) ha
/-- one place is set -/
theorem BM.set {W w : World} {b n k i j : Nat} {gf : Nat → Nat} {A : Nat → List Bool} {P : Nat → Nat → Prop} (h : BM W b n gf A P k w) (hi : i < k) (y : Bool) (hy : y = true → P i j) : BM W b n gf (upd A i ((A i).set j y)) P k (w.setCell ⟨gf i, j, none⟩ (.bool y)) := by
 have hm : Mod (fun q => q = gf i) w (w.setCell ⟨gf i, j, none⟩ (.bool y)) := mod_cell
 obtain ⟨d1, d2, d3⟩ := h.rr i hi
 refine ⟨h.lo, hm.heap h.hb (heap_ne h.hb d1 (by decide)), fun a ha => ?_, h.ij, fun a c ha hc => ?_⟩
 ·by_cases e : a = i
  ·subst e; rw [upd_same]; exact ⟨d1.set y, d2, by rw [List.length_set]; exact d3⟩
  ·rw [upd_ne _ _ e]
   have h2 := h.rr a ha
   exact ⟨hm.heap h2.1 (fun e2 => e (h.ij a i ha hi e2)), h2.2⟩
 ·by_cases e : a = i
  ·subst e
   rw [upd_same] at hc
   rcases getD_setT hc with ⟨rfl, h3⟩ | h3
   ·exact hy h3
   ·exact h.pr a c ha h3
  ·rw [upd_ne _ _ e] at hc; exact h.pr a c ha hc
/-- two matrices, apart -/
structure FB (W : World) (ra oa n : Nat) (gr go : Nat → Nat) (A B : Nat → List Bool) (k : Nat) (w : World) : Prop where
 x : Ext W w
 r : BM W ra n gr A (fun a b => a ≤ b) k w
 o : BM W oa n go B (fun a b => a < b) k w
 ne : ra ≠ oa
 ap : ∀ i j, i < k → j < k → gr i ≠ go j
theorem FB.ext {W w w' : World} {ra oa n k : Nat} {gr go : Nat → Nat} {A B : Nat → List Bool} (h : FB W ra oa n gr go A B k w) (hx : Ext w w') : FB W ra oa n gr go A B k w' := ⟨h.x.trans hx, h.r.ext hx, h.o.ext hx, h.ne, h.ap⟩
theorem FB.setR {W w : World} {ra oa n k i j : Nat} {gr go : Nat → Nat} {A B : Nat → List Bool} (h : FB W ra oa n gr go A B k w) (hi : i < k) (y : Bool) (hy : y = true → i ≤ j) : FB W ra oa n gr go (upd A i ((A i).set j y)) B k (w.setCell ⟨gr i, j, none⟩ (.bool y)) := by
 have hm : Mod (fun q => q = gr i) w (w.setCell ⟨gr i, j, none⟩ (.bool y)) := mod_cell
 exact ⟨mod_low h.x hm (fun q hq => by have := (h.r.rr i hi).2.1; omega), h.r.set hi y hy, h.o.mod hm (heap_ne h.o.hb (h.r.rr i hi).1 (by decide)) (fun a ha e => h.ap i a hi ha e.symm), h.ne, h.ap⟩
theorem FB.setO {W w : World} {ra oa n k i j : Nat} {gr go : Nat → Nat} {A B : Nat → List Bool} (h : FB W ra oa n gr go A B k w) (hi : i < k) (y : Bool) (hy : y = true → i < j) : FB W ra oa n gr go A (upd B i ((B i).set j y)) k (w.setCell ⟨go i, j, none⟩ (.bool y)) := by
 have hm : Mod (fun q => q = go i) w (w.setCell ⟨go i, j, none⟩ (.bool y)) := mod_cell
 exact ⟨mod_low h.x hm (fun q hq => by have := (h.o.rr i hi).2.1; omega), h.r.mod hm (heap_ne h.r.hb (h.o.rr i hi).1 (by decide)) (fun a ha e => h.ap a i ha hi e), h.o.set hi y hy, h.ne, h.ap⟩
theorem FB.next {W w w4 : World} {ra oa n k g1 g2 : Nat} {gr go : Nat → Nat} {A B : Nat → List Bool} (h : FB W ra oa n gr go A B k w) (hk : k < n) (hx : Ext w w4) (h1 : RowT w4 g1 (List.replicate n false)) (h2 : RowT w4 g2 (List.replicate n false)) (n1 : w.heap.size ≤ g1) (n2 : w.heap.size ≤ g2) (hne : g1 ≠ g2) :
 FB W ra oa n (upd gr k g1) (upd go k g2) (upd A k (List.replicate n false)) (upd B k (List.replicate n false)) (k + 1) ((w4.setCell ⟨ra, k, none⟩ (rowV n g1)).setCell ⟨oa, k, none⟩ (rowV n g2)) := by
 have hW := h.x.size
 have m1 : Mod (fun q => q = ra) w4 (w4.setCell ⟨ra, k, none⟩ (rowV n g1)) := mod_cell
 have m2 : Mod (fun q => q = oa) (w4.setCell ⟨ra, k, none⟩ (rowV n g1)) ((w4.setCell ⟨ra, k, none⟩ (rowV n g1)).setCell ⟨oa, k, none⟩ (rowV n g2)) := mod_cell
 have o4 := h.o.ext hx
 have r4 := h.r.ext hx
 have r5 := h.r.next hk hx h1 n1 hW
 have hle : w4.heap.size ≤ (w4.setCell ⟨ra, k, none⟩ (rowV n g1)).heap.size := m1.size
 have o5 := o4.mod m1 (fun e => h.ne e.symm) (fun j hj e => heap_ne (o4.rr j hj).1 r4.hb (by decide) e)
 have hlo1 := h.r.lo
 have hlo2 := h.o.lo
 have g25 : RowT (w4.setCell ⟨ra, k, none⟩ (rowV n g1)) g2 (List.replicate n false) := m1.heap h2 (heap_ne h2 r4.hb (by decide))
 have o6 : BM W oa n (upd go k g2) (upd B k (List.replicate n false)) (fun a b => a < b) (k + 1) ((w4.setCell ⟨ra, k, none⟩ (rowV n g1)).setCell ⟨oa, k, none⟩ (rowV n g2)) := by
  have hm2 := m2
  refine ⟨h.o.lo, ?_, fun j hj => ?_, fun i j hi hj e => ?_, fun j a hj ha => ?_⟩
  ·have hs := setCell_heap (o := k) (v := rowV n g2) o5.hb
   rw [fillL_set _ _ hk] at hs
   rw [show (fun j => rowV n (upd go k g2 j)) = upd (fun j => rowV n (go j)) k (rowV n g2) from by funext j; unfold upd; split <;> rfl]
   exact hs
  ·by_cases e : j = k
   ·subst e; rw [upd_same, upd_same]; exact ⟨m2.heap g25 (heap_ne g25 o5.hb (by decide)), by omega, by simp⟩
   ·rw [upd_ne _ _ e, upd_ne _ _ e]
    have hj2 := o5.rr j (by omega)
    exact ⟨m2.heap hj2.1 (heap_ne hj2.1 o5.hb (by decide)), hj2.2⟩
  ·unfold upd at e
   by_cases ei : i = k <;> by_cases ej : j = k
   ·omega
   ·rw [if_pos ei, if_neg ej] at e
    have := lt_of_block (h.o.rr j (by omega)).1; omega
   ·rw [if_neg ei, if_pos ej] at e
    have := lt_of_block (h.o.rr i (by omega)).1; omega
   ·rw [if_neg ei, if_neg ej] at e; exact h.o.ij i j (by omega) (by omega) e
  ·by_cases e : j = k
   ·subst e
    rw [upd_same, List.getD_eq_getElem?_getD, List.getElem?_replicate] at ha
    split at ha <;> cases ha
   ·rw [upd_ne _ _ e] at ha; exact h.o.pr j a (by omega) ha
 refine ⟨mod_low (h.x.trans hx) ((m1.mono (fun q _ hq => (.inl hq : q = ra ∨ q = oa))).trans (m2.mono (fun q _ hq => .inr hq))) (fun q hq => by omega), r5.mod m2 (fun e => h.ne e) (fun j hj e => heap_ne (r5.rr j hj).1 o5.hb (by decide) e), o6, h.ne, fun i j hi hj => ?_⟩
 have hg : ∀ i, i < k → gr i < w.heap.size := fun i hi => lt_of_block (h.r.rr i hi).1
 have hg2 : ∀ i, i < k → go i < w.heap.size := fun i hi => lt_of_block (h.o.rr i hi).1
 unfold upd
 by_cases ei : i = k <;> by_cases ej : j = k
 ·rw [if_pos ei, if_pos ej]; exact hne
 ·rw [if_pos ei, if_neg ej]; have := hg2 j (by omega); omega
 ·rw [if_neg ei, if_pos ej]; have := hg i (by omega); omega
 ·rw [if_neg ei, if_neg ej]; exact h.ap i j (by omega) (by omega)
/-- what follows returns -/
def FolP (W : World) (n : Nat) (e : Ending) (w' : World) : Prop := ∃ oa go B, e = .returned (.slice (some ⟨oa, 0, none⟩) n n) ∧ Ext W w' ∧ BM W oa n go B (fun a b => a < b) n w'
end Pl
end Go.Proofs.YtkiafiaodockbaaGreat
