/- Programs checked: registers, actions, tables, flow, walked. Programs checked: Check, walked. Configurations checked: checkCall, checkTable, walked. Configurations checked: checkTable, walked. Configurations checked: Check, walked. No condition. -/
import Derived.Test.YthmokhkkdgnbhaaGreatJqAH
import Derived.Defers
import Derived.Laws.Pointers
import Derived.Recover
set_option maxRecDepth 8000
set_option maxHeartbeats 16000000
namespace Go.Proofs.YthmokhkkdgnbhaaGreat
open Go.RowKit
theorem nm_bad {α : Type} {nm : α → ByteArray} {f : α → Int} {l : List α} {k : Nat} {x : α} {z : Int} (hx : l[k]? = some x) (hz : ∀ j, j < k → Tj.namedG nm f l j = 0) (e : f x = z) (hy : z ≠ 0) : Tj.namedE nm f l = z :=
 Tj.namedE_bad hx hz (by rw [e, if_pos hy]) hy
theorem nm_rep {α : Type} {nm : α → ByteArray} {f : α → Int} {l : List α} {k : Nat} {x : α} {z : Int} (hx : l[k]? = some x) (hz : ∀ j, j < k → Tj.namedG nm f l j = 0) (e : f x = 0) (hr : Tj.rep (l.map nm) k = true) (hy : z ≠ 0) (hzy : z = 7) : Tj.namedE nm f l = z :=
 Tj.namedE_bad hx hz (by rw [if_neg (by simp [e]), if_pos hr, hzy]) hy
theorem nm_good {α : Type} {nm : α → ByteArray} {f : α → Int} {l : List α} {k : Nat} {x : α} (hx : l[k]? = some x) (e : f x = 0) (hr : Tj.rep (l.map nm) k = false) : Tj.namedG nm f l k = 0 := by
 rw [Tj.namedG_at hx, if_neg (by simp [e]), if_neg (by rw [hr]; decide)]
theorem or_l {a b z : Int} (h : a = z) (hz : z ≠ 0) : Tj.orE a b = z := by unfold Tj.orE; rw [if_pos (by rw [h]; exact hz), h]
theorem or_r {a b z : Int} (h : a = 0) (hb : b = z) : Tj.orE a b = z := by unfold Tj.orE; rw [if_neg (by simp [h]), hb]
theorem act_at {F : Tj.FP} {k : Nat} {a : Tj.Act} (h : F.ac[k]? = some a) : Tj.actI F k = Tj.actE F a := by
 unfold Tj.actI Tj.at?; rw [if_pos (by omega), Int.toNat_natCast, h]
theorem tab_at {F : Tj.FP} {k : Nat} {a : Tj.Tab} (h : F.ts[k]? = some a) : Tj.tabI F k = Tj.tabE F a := by
 unfold Tj.tabI Tj.at?; rw [if_pos (by omega), Int.toNat_natCast, h]
theorem cobjects_any {W : World} {p : Pg.PV} {F : Tj.FP} (hF : Tj.IsF W p F) (b1 : F.rs.length ≤ 4) (b2 : F.ac.length ≤ 16) (b3 : F.ts.length ≤ 12) : Calls Tryz.prog 43 #[p.val] W (Thr W (Tj.orE (Tj.namedE (fun r : Rg.Reg => r.nm) Rg.chk F.rs) (Tj.orE (Tj.namedE (fun r : Tj.Act => r.nm) (Tj.actE F) F.ac) (Tj.namedE (fun r : Tj.Tab => r.nm) (Tj.tabE F) F.ts)))) := by
 have HAC : Hid (∀ (i : Int) w, Ext W w → Calls Tryz.prog 91 #[p.val, .int .i64 i] w (AtP w (Tj.actI F i))) := Lh (fun i w hx => acheck_any (hF.ext hx) i)
 have HTC : Hid (∀ (i : Int) w, Ext W w → Calls Tryz.prog 94 #[p.val, .int .i64 i] w (AtP w (Tj.tabI F i))) := Lh (fun i w hx => tcheck_any (hF.ext hx) i)
 obtain ⟨a1, a2, a3, a4, a5, a6, a7, a8, m1, m2, m3, m4, m5, m6, n7, m7, m8, hf⟩ := hF.form
 obtain ⟨rfl, hnm, hhs, hmd, hrs, has, hts, hss, hct, hdp, l1, l2, l3, l4, l5, l6, l7, l8⟩ := hf
 obtain ⟨R, hR⟩ : ∃ z, z = Tj.orE (Tj.namedE (fun r : Rg.Reg => r.nm) Rg.chk F.rs) (Tj.orE (Tj.namedE (fun r : Tj.Act => r.nm) (Tj.actE F) F.ac) (Tj.namedE (fun r : Tj.Tab => r.nm) (Tj.tabE F) F.ts)) := ⟨_, rfl⟩
 rw [← hR]
 dsimp only [Pg.PV.val] at HAC HTC ⊢
 have HRS := Lh hrs
 have HR := Lh hR
 have HNS0 : Hid (∀ w, Ext W w → Calls Tryz.prog 86 #[.slice a3 F.rs.length m3, .func (.func 87) #[] #[]] w (StsP w (F.rs.map (fun r : Rg.Reg => r.nm)))) := Lh (fun w hx => namesRegister_any (hrs.ext (fun _ _ h => h) hx) (by omega))
 have hml0 : (F.rs.map (fun r : Rg.Reg => r.nm)).length = F.rs.length := List.length_map _
 have HNS1 := Lh (fun (w : World) (hx : Ext W w) => namesAction_any (Tj.Acts.ext has hx) (by omega))
 have hml1 : (F.ac.map (fun r : Tj.Act => r.nm)).length = F.ac.length := List.length_map _
 have HNS2 := Lh (fun (w : World) (hx : Ext W w) => namesTable_any (Tj.Tabs.ext hts hx) (by omega))
 have hml2 : (F.ts.map (fun r : Tj.Tab => r.nm)).length = F.ts.length := List.length_map _
 have bx := aH W (.cells (Yq0 F a1 m1 a2 m2 a3 m3 a4 m4 a5 m5 a6 m6 a7 m7 n7 a8 m8) 31)
 have k0 := alw (cQ 0 bx)
 have k1 := alw (cQ 1 bx)
 have k2 := alw (cQ 2 bx)
 have k3 := alw (cQ 3 bx)
 have k4 := alw (cQ 4 bx)
 have k5 := alw (cQ 5 bx)
 have k6 := alw (cQ 6 bx)
 have k7 := alw (cQ 7 bx)
 have k8 := alw (cQ 8 bx)
 clear bx
 clear hF hnm hhs hmd hrs has hts hss hct hdp
 clear hR
 go_enter Tryz.func43, Tryz.ntmps43
 go_wp2_with fail
 refine (HNS0.out _ grows).mono ?_
 rintro e w2 ⟨na, nc, rfl, xw2, hst, hnc⟩
 have HST0 := Lh hst
 have sw2 := Sm xw2
 rw [hml0] at HST0 hnc
 rw [hml0]
 have HNC0 := Lh hnc
 clear hst
 go_wp2_with fail
 go_loopw [17] (fun q wr => ∃ k : Nat, k ≤ F.rs.length ∧ q = .int .i64 k ∧ Hid (Ext w2 wr ∧ ∀ j, j < k → Tj.namedG (fun r : Rg.Reg => r.nm) Rg.chk F.rs j = 0)) (fun q _ => F.rs.length - (intOf q).toNat)
 case atStart => exact ⟨0, Nat.zero_le _, rfl, Lh ⟨eR _, by intro j hj; omega⟩⟩
 case round =>
  obtain ⟨k, hk, rfl, HZ⟩ := hrel
  have sx : Step w2 wr := ⟨HZ.out.1⟩
  by_cases hlt : k < F.rs.length
  ·obtain ⟨⟨hn, fw, fs⟩, hx⟩ : ∃ x, F.rs[k]? = some x := ⟨_, gE hlt⟩
   obtain ⟨b, o, rfl, _, _⟩ := Rows.at HRS.out (by omega)
   obtain ⟨u0, u1, u2, hns, _⟩ := regs_at HRS.out k _ hx rfl
   dsimp only at u0 u1 u2 hns
   have HNS := Lh hns
   have bx := aH wr (.cells #[.string hn, .int .i64 fw, .int .i64 fs] 98)
   have mm0 := alw (cQ 0 bx)
   have mm1 := alw (cQ 1 bx)
   have mm2 := alw (cQ 2 bx)
   clear bx
   clear hns
   have HX := Lh hx
   have HRP := Lh (fun (w : World) (hx : Ext w2 w) => by
    have h := repeated_any (W := w) (oa := na) (c := nc) (l := (F.rs.map (fun r : Rg.Reg => r.nm))) (by rw [hml0]; exact HST0.out.ext hx) (by rw [hml0]; exact HNC0.out) k (by rw [hml0]; exact hlt)
    rw [hml0] at h; exact h)
   obtain ⟨rp, hrp⟩ : ∃ z, z = Tj.rep (F.rs.map (fun r : Rg.Reg => r.nm)) k := ⟨_, rfl⟩
   rw [← hrp] at HRP
   have HRE := Lh hrp
   clear hx hrp
   go_wp2_with fail
   refine (rcheck_any ⟨hn, fw, fs⟩ HNS.out _).mono ?_
   rintro e w5 ⟨rfl, x5⟩
   obtain ⟨ce, hce⟩ : ∃ z, z = Rg.chk ⟨hn, fw, fs⟩ := ⟨_, rfl⟩
   rw [← hce]
   have HCE := Lh hce
   clear hce
   have s5 := Sm x5
   go_wp2_with fail
   refine (require_any _ _ _ _ _).mono ?_
   rintro e wb0 ⟨xwb0, hz0 | hz0⟩
   rotate_left
   ·obtain ⟨hz0, a, b, c, rfl⟩ := hz0
    have swb0 := Sm xwb0
    exact ⟨rfl, thr_bad (by rw [HR.out]; exact or_l (nm_bad HX.out HZ.out.2 (HCE.out.symm) hz0) hz0) grows hz0⟩
   obtain ⟨hz0, rfl⟩ := hz0
   have swb0 := Sm xwb0
   have HG0 := Lh hz0
   clear hz0
   go_wp2_with fail
   refine via (HRP.out _ grows) fun w8 x8 s8 => ?_
   go_wp2_with fail
   refine (when_hid _ _ _).mono ?_
   rintro e wa1 ⟨z1, hw1, rfl, xwa1⟩
   have swa1 := Sm xwa1
   have HW1 := Lh hw1
   clear hw1
   go_wp2_with fail
   refine (require_any _ _ _ _ _).mono ?_
   rintro e wb1 ⟨xwb1, hz1 | hz1⟩
   rotate_left
   ·obtain ⟨hz1, a, b, c, rfl⟩ := hz1
    have swb1 := Sm xwb1
    exact ⟨rfl, thr_bad (by rw [HR.out]; exact or_l (nm_rep HX.out HZ.out.2 ((HCE.out.symm).trans HG0.out) (by rw [← HRE.out]; exact (wn HW1.out hz1).1) hz1 (wn HW1.out hz1).2) hz1) grows hz1⟩
   obtain ⟨hz1, rfl⟩ := hz1
   have swb1 := Sm xwb1
   have HG1 := Lh hz1
   clear hz1
   go_wp2_with fail
   go_roundw
   case rel =>
    refine ⟨k + 1, by omega, by go_num, Lh ⟨grows, fun j hj => ?_⟩⟩
    rcases Nat.lt_or_ge j k with h1 | h1
    ·exact HZ.out.2 j h1
    ·obtain rfl : j = k := by omega
     exact nm_good HX.out ((HCE.out.symm).trans HG0.out) (by rw [← HRE.out]; exact wz HW1.out HG1.out (by decide))
   case measure => simp [intOf]; omega
  ·obtain rfl : k = F.rs.length := by omega
   have HP0 : Hid (Tj.namedE (fun r : Rg.Reg => r.nm) Rg.chk F.rs = 0) := Lh (Tj.namedE_zero HZ.out.2)
   have hp0 := HP0.out
   obtain ⟨w20, hw0⟩ : ∃ z : World, z = wr := ⟨_, rfl⟩
   subst hw0
   clear hp0 HZ
   go_wp2_with fail
   refine (HNS1.out _ grows).mono ?_
   rintro e w22 ⟨na, nc, rfl, xw22, hst, hnc⟩
   have HST1 := Lh hst
   have sw22 := Sm xw22
   rw [hml1] at HST1 hnc
   rw [hml1]
   have HNC1 := Lh hnc
   clear hst
   go_wp2_with fail
   go_loopw [39] (fun q wr => ∃ k : Nat, k ≤ F.ac.length ∧ q = .int .i64 k ∧ Hid (Ext w22 wr ∧ ∀ j, j < k → Tj.namedG (fun r : Tj.Act => r.nm) (Tj.actE F) F.ac j = 0)) (fun q _ => F.ac.length - (intOf q).toNat)
   case atStart => exact ⟨0, Nat.zero_le _, rfl, Lh ⟨eR _, by intro j hj; omega⟩⟩
   case round =>
    obtain ⟨k, hk, rfl, HZ⟩ := hrel
    have sx : Step w22 wr := ⟨HZ.out.1⟩
    by_cases hlt : k < F.ac.length
    ·obtain ⟨x, hx⟩ : ∃ x, F.ac[k]? = some x := ⟨_, gE hlt⟩
     have HX := Lh hx
     have HRP := Lh (fun (w : World) (hx : Ext w22 w) => by
      have h := repeated_any (W := w) (oa := na) (c := nc) (l := (F.ac.map (fun r : Tj.Act => r.nm))) (by rw [hml1]; exact HST1.out.ext hx) (by rw [hml1]; exact HNC1.out) k (by rw [hml1]; exact hlt)
      rw [hml1] at h; exact h)
     obtain ⟨rp, hrp⟩ : ∃ z, z = Tj.rep (F.ac.map (fun r : Tj.Act => r.nm)) k := ⟨_, rfl⟩
     rw [← hrp] at HRP
     have HRE := Lh hrp
     clear hx hrp
     go_wp2_with fail
     refine (HAC.out (k : Int) _ grows).mono ?_
     rintro e w5 ⟨i5, rfl, x5⟩
     obtain ⟨ce, hce⟩ : ∃ z, z = Tj.actI F k := ⟨_, rfl⟩
     rw [← hce]
     have HCE := Lh hce
     clear hce
     have s5 := Sm x5
     go_wp2_with fail
     refine (require_any _ _ _ _ _).mono ?_
     rintro e wb3 ⟨xwb3, hz3 | hz3⟩
     rotate_left
     ·obtain ⟨hz3, a, b, c, rfl⟩ := hz3
      have swb3 := Sm xwb3
      exact ⟨rfl, thr_bad (by rw [HR.out]; exact or_r HP0.out (or_l (nm_bad HX.out HZ.out.2 ((act_at HX.out).symm.trans HCE.out.symm) hz3) hz3)) grows hz3⟩
     obtain ⟨hz3, rfl⟩ := hz3
     have swb3 := Sm xwb3
     have HG3 := Lh hz3
     clear hz3
     go_wp2_with fail
     refine via (HRP.out _ grows) fun w8 x8 s8 => ?_
     go_wp2_with fail
     refine (when_hid _ _ _).mono ?_
     rintro e wa4 ⟨z4, hw4, rfl, xwa4⟩
     have swa4 := Sm xwa4
     have HW4 := Lh hw4
     clear hw4
     go_wp2_with fail
     refine (require_any _ _ _ _ _).mono ?_
     rintro e wb4 ⟨xwb4, hz4 | hz4⟩
     rotate_left
     ·obtain ⟨hz4, a, b, c, rfl⟩ := hz4
      have swb4 := Sm xwb4
      exact ⟨rfl, thr_bad (by rw [HR.out]; exact or_r HP0.out (or_l (nm_rep HX.out HZ.out.2 (((act_at HX.out).symm.trans HCE.out.symm).trans HG3.out) (by rw [← HRE.out]; exact (wn HW4.out hz4).1) hz4 (wn HW4.out hz4).2) hz4)) grows hz4⟩
     obtain ⟨hz4, rfl⟩ := hz4
     have swb4 := Sm xwb4
     have HG4 := Lh hz4
     clear hz4
     go_wp2_with fail
     go_roundw
     case rel =>
      refine ⟨k + 1, by omega, by go_num, Lh ⟨grows, fun j hj => ?_⟩⟩
      rcases Nat.lt_or_ge j k with h1 | h1
      ·exact HZ.out.2 j h1
      ·obtain rfl : j = k := by omega
       exact nm_good HX.out (((act_at HX.out).symm.trans HCE.out.symm).trans HG3.out) (by rw [← HRE.out]; exact wz HW4.out HG4.out (by decide))
     case measure => simp [intOf]; omega
    ·obtain rfl : k = F.ac.length := by omega
     have HP1 : Hid (Tj.namedE (fun r : Tj.Act => r.nm) (Tj.actE F) F.ac = 0) := Lh (Tj.namedE_zero HZ.out.2)
     have hp1 := HP1.out
     obtain ⟨w40, hw1⟩ : ∃ z : World, z = wr := ⟨_, rfl⟩
     subst hw1
     clear hp1 HZ
     go_wp2_with fail
     refine (HNS2.out _ grows).mono ?_
     rintro e w42 ⟨na, nc, rfl, xw42, hst, hnc⟩
     have HST2 := Lh hst
     have sw42 := Sm xw42
     rw [hml2] at HST2 hnc
     rw [hml2]
     have HNC2 := Lh hnc
     clear hst
     go_wp2_with fail
     go_loopw [65] (fun q wr => ∃ k : Nat, k ≤ F.ts.length ∧ q = .int .i64 k ∧ Hid (Ext w42 wr ∧ ∀ j, j < k → Tj.namedG (fun r : Tj.Tab => r.nm) (Tj.tabE F) F.ts j = 0)) (fun q _ => F.ts.length - (intOf q).toNat)
     case atStart => exact ⟨0, Nat.zero_le _, rfl, Lh ⟨eR _, by intro j hj; omega⟩⟩
     case round =>
      obtain ⟨k, hk, rfl, HZ⟩ := hrel
      have sx : Step w42 wr := ⟨HZ.out.1⟩
      by_cases hlt : k < F.ts.length
      ·obtain ⟨x, hx⟩ : ∃ x, F.ts[k]? = some x := ⟨_, gE hlt⟩
       have HX := Lh hx
       have HRP := Lh (fun (w : World) (hx : Ext w42 w) => by
        have h := repeated_any (W := w) (oa := na) (c := nc) (l := (F.ts.map (fun r : Tj.Tab => r.nm))) (by rw [hml2]; exact HST2.out.ext hx) (by rw [hml2]; exact HNC2.out) k (by rw [hml2]; exact hlt)
        rw [hml2] at h; exact h)
       obtain ⟨rp, hrp⟩ : ∃ z, z = Tj.rep (F.ts.map (fun r : Tj.Tab => r.nm)) k := ⟨_, rfl⟩
       rw [← hrp] at HRP
       have HRE := Lh hrp
       clear hx hrp
       go_wp2_with fail
       refine (HTC.out (k : Int) _ grows).mono ?_
       rintro e w5 ⟨i5, rfl, x5⟩
       obtain ⟨ce, hce⟩ : ∃ z, z = Tj.tabI F k := ⟨_, rfl⟩
       rw [← hce]
       have HCE := Lh hce
       clear hce
       have s5 := Sm x5
       go_wp2_with fail
       refine (require_any _ _ _ _ _).mono ?_
       rintro e wb6 ⟨xwb6, hz6 | hz6⟩
       rotate_left
       ·obtain ⟨hz6, a, b, c, rfl⟩ := hz6
        have swb6 := Sm xwb6
        exact ⟨rfl, thr_bad (by rw [HR.out]; exact or_r HP0.out (or_r HP1.out (nm_bad HX.out HZ.out.2 ((tab_at HX.out).symm.trans HCE.out.symm) hz6))) grows hz6⟩
       obtain ⟨hz6, rfl⟩ := hz6
       have swb6 := Sm xwb6
       have HG6 := Lh hz6
       clear hz6
       go_wp2_with fail
       refine via (HRP.out _ grows) fun w8 x8 s8 => ?_
       go_wp2_with fail
       refine (when_hid _ _ _).mono ?_
       rintro e wa7 ⟨z7, hw7, rfl, xwa7⟩
       have swa7 := Sm xwa7
       have HW7 := Lh hw7
       clear hw7
       go_wp2_with fail
       refine (require_any _ _ _ _ _).mono ?_
       rintro e wb7 ⟨xwb7, hz7 | hz7⟩
       rotate_left
       ·obtain ⟨hz7, a, b, c, rfl⟩ := hz7
        have swb7 := Sm xwb7
        exact ⟨rfl, thr_bad (by rw [HR.out]; exact or_r HP0.out (or_r HP1.out (nm_rep HX.out HZ.out.2 (((tab_at HX.out).symm.trans HCE.out.symm).trans HG6.out) (by rw [← HRE.out]; exact (wn HW7.out hz7).1) hz7 (wn HW7.out hz7).2))) grows hz7⟩
       obtain ⟨hz7, rfl⟩ := hz7
       have swb7 := Sm xwb7
       have HG7 := Lh hz7
       clear hz7
       go_wp2_with fail
       go_roundw
       case rel =>
        refine ⟨k + 1, by omega, by go_num, Lh ⟨grows, fun j hj => ?_⟩⟩
        rcases Nat.lt_or_ge j k with h1 | h1
        ·exact HZ.out.2 j h1
        ·obtain rfl : j = k := by omega
         exact nm_good HX.out (((tab_at HX.out).symm.trans HCE.out.symm).trans HG6.out) (by rw [← HRE.out]; exact wz HW7.out HG7.out (by decide))
       case measure => simp [intOf]; omega
      ·obtain rfl : k = F.ts.length := by omega
       have HP2 : Hid (Tj.namedE (fun r : Tj.Tab => r.nm) (Tj.tabE F) F.ts = 0) := Lh (Tj.namedE_zero HZ.out.2)
       go_wp2_with fail
       first | go_end0 | skip
       exact thr_ok (by rw [HR.out]; exact or_r HP0.out (or_r HP1.out HP2.out)) grows (by first | rfl | trivial)
theorem cflow_any {W : World} {p : Pg.PV} {F : Tj.FP} (hG : Tj.IsG W p F) : Calls Tryz.prog 44 #[p.val] W (Thr W (Tj.orE (Ps.chk F.P F.ss).2.2 (Tj.orE (Tj.ctlE F) (Dp.chk F.P).2))) := by
 have HPC := Lh (fun (w : World) (hx : Ext W w) => pcheck_any (hG.1.ext hx).2.1)
 have HCC := Lh (fun (w : World) (hx : Ext W w) => ccheck_any (hG.ext hx))
 have HDC := Lh (fun (w : World) (hx : Ext W w) => dcheck_any (hG.1.ext hx).2.1.1 hG.2.2)
 obtain ⟨hF, _⟩ := hG
 obtain ⟨a1, a2, a3, a4, a5, a6, a7, a8, m1, m2, m3, m4, m5, m6, n7, m7, m8, hf⟩ := hF.form
 obtain ⟨rfl, hnm, hhs, hmd, hrs, has, hts, hss, hct, hdp, l1, l2, l3, l4, l5, l6, l7, l8⟩ := hf
 obtain ⟨R, hR⟩ : ∃ z, z = Tj.orE (Ps.chk F.P F.ss).2.2 (Tj.orE (Tj.ctlE F) (Dp.chk F.P).2) := ⟨_, rfl⟩
 rw [← hR]
 dsimp only [Pg.PV.val] at HPC HCC HDC ⊢
 have HR := Lh hR
 obtain ⟨⟨p1, p2, p3⟩, hp⟩ : ∃ z, z = Ps.chk F.P F.ss := ⟨_, rfl⟩
 obtain ⟨ce, hce⟩ : ∃ z, z = Tj.ctlE F := ⟨_, rfl⟩
 unfold Dp.chkV at HDC
 obtain ⟨⟨d1, d2⟩, hd⟩ : ∃ z, z = Dp.chk F.P := ⟨_, rfl⟩
 rw [← hp] at HPC HR
 rw [← hce] at HCC HR
 rw [← hd] at HDC HR
 dsimp only at HPC HDC HR
 have bx := aH W (.cells (Yq0 F a1 m1 a2 m2 a3 m3 a4 m4 a5 m5 a6 m6 a7 m7 n7 a8 m8) 31)
 have k0 := alw (cQ 0 bx)
 have k1 := alw (cQ 1 bx)
 have k2 := alw (cQ 2 bx)
 have k3 := alw (cQ 3 bx)
 have k4 := alw (cQ 4 bx)
 have k5 := alw (cQ 5 bx)
 have k6 := alw (cQ 6 bx)
 have k7 := alw (cQ 7 bx)
 have k8 := alw (cQ 8 bx)
 clear bx
 clear hF hnm hhs hmd hrs has hts hss hct hdp
 clear hR hp hce hd
 go_enter Tryz.func44, Tryz.ntmps44
 go_wp2_with fail
 refine via (HPC.out _ grows) fun w2 xw2 sw2 => ?_
 go_wp2_with fail
 refine (require_any _ _ _ _ _).mono ?_
 rintro e wb0 ⟨xwb0, hz0 | hz0⟩
 rotate_left
 ·obtain ⟨hz0, a, b, c, rfl⟩ := hz0
  have swb0 := Sm xwb0
  exact ⟨rfl, thr_bad (by rw [HR.out]; exact or_l rfl hz0) grows hz0⟩
 obtain ⟨hz0, rfl⟩ := hz0
 have swb0 := Sm xwb0
 have HG0 := Lh hz0
 clear hz0
 go_wp2_with fail
 refine (HCC.out _ grows).mono ?_
 rintro e w3 ⟨i3, rfl, x3⟩
 have s3 := Sm x3
 go_wp2_with fail
 refine (require_any _ _ _ _ _).mono ?_
 rintro e wb1 ⟨xwb1, hz1 | hz1⟩
 rotate_left
 ·obtain ⟨hz1, a, b, c, rfl⟩ := hz1
  have swb1 := Sm xwb1
  exact ⟨rfl, thr_bad (by rw [HR.out]; exact or_r HG0.out (or_l rfl hz1)) grows hz1⟩
 obtain ⟨hz1, rfl⟩ := hz1
 have swb1 := Sm xwb1
 have HG1 := Lh hz1
 clear hz1
 go_wp2_with fail
 refine via (HDC.out _ grows) fun w4 xw4 sw4 => ?_
 go_wp2_with fail
 refine (require_any _ _ _ _ _).mono ?_
 rintro e wb2 ⟨xwb2, hz2 | hz2⟩
 rotate_left
 ·obtain ⟨hz2, a, b, c, rfl⟩ := hz2
  have swb2 := Sm xwb2
  exact ⟨rfl, thr_bad (by rw [HR.out]; exact or_r HG0.out (or_r HG1.out rfl)) grows hz2⟩
 obtain ⟨hz2, rfl⟩ := hz2
 have swb2 := Sm xwb2
 have HG2 := Lh hz2
 clear hz2
 go_wp2_with fail
 first | go_end0 | skip
 exact thr_ok (by rw [HR.out]; exact or_r HG0.out (or_r HG1.out HG2.out)) grows (by first | rfl | trivial)
theorem assert_fail (x a b c : Int) (w : World) : (Instr.typeAssert (.iface 120 (.agg #[.int .i64 x, .int .i64 a, .int .i64 b, .int .i64 c])) 20 120 true).run Tryz.prog w = .ok (.tuple #[.agg #[.int .i64 x, .int .i64 a, .int .i64 b, .int .i64 c], .bool true]) w := by kernel_rfl
theorem caught_any (q : Nat) (x a b c : Int) (older : List PanicEntry) (w : World) (y0 y1 y2 y3 : Int) (hq : w.heap[q]? = some (.cells #[.int .i64 y0, .int .i64 y1, .int .i64 y2, .int .i64 y3] 70 (0, 0))) :
 CallsD Tryz.prog 39 #[.pointer (some ⟨q, 0, none⟩)] (.panicking ({ v := .iface 120 (.agg #[.int .i64 x, .int .i64 a, .int .i64 b, .int .i64 c]), recovered := false } :: older)) w fun e u' w' =>
  e = .returned (.tuple #[]) ∧ u' = .panicking ({ v := .iface 120 (.agg #[.int .i64 x, .int .i64 a, .int .i64 b, .int .i64 c]), recovered := true } :: older) ∧ (∀ W0 : World, Ext W0 w → W0.heap.size ≤ q → Ext W0 w') ∧ w'.heap[q]? = some (.cells #[.int .i64 x, .int .i64 a, .int .i64 b, .int .i64 c] 70 (0, 0)) := by
 refine callsD_of_wpS Tryz.func39 rfl fun c₀ cs hu => ?_
 apply wpS_seq
 apply wpS_region
 simp [wpOpsS, go_sem, recoverD, hu, Tryz.ntmps39, Exit.thenS]
 have ht : (#[Value.pointer (some ⟨q, 0, none⟩)] ++ (((Array.replicate 15 undef).setIfInBounds 3 (.iface 120 (.agg #[.int .i64 x, .int .i64 a, .int .i64 b, .int .i64 c]))).setIfInBounds 0 (.iface 120 (.agg #[.int .i64 x, .int .i64 a, .int .i64 b, .int .i64 c])))) = #[.pointer (some ⟨q, 0, none⟩), .iface 120 (.agg #[.int .i64 x, .int .i64 a, .int .i64 b, .int .i64 c]), undef, undef, .iface 120 (.agg #[.int .i64 x, .int .i64 a, .int .i64 b, .int .i64 c]), undef, undef, undef, undef, undef, undef, undef, undef, undef, undef, undef] := rfl
 rw [ht]
 clear ht
 have hta := assert_fail x a b c
 refine wpS_of_wp ?_
 have q0 := alw (cQ 0 hq)
 have q1 := alw (cQ 1 hq)
 have q2 := alw (cQ 2 hq)
 have q3 := alw (cQ 3 hq)
 have f0 := alwF (o := 0) hq
 have f1 := alwF (o := 1) hq
 have f2 := alwF (o := 2) hq
 have f3 := alwF (o := 3) hq
 have hqs : q < w.heap.size := lt_of_block hq
 have n1 : ¬ q = w.heap.size := by omega
 have n2 : ¬ w.heap.size = q := by omega
 go_wp2_with fail
 refine ⟨rfl, _, rfl, .tuple #[], by simp [results, Tryz.results39, go_sem], by first | rfl | trivial, by first | rfl | trivial, fun W0 h hq0 => ((((h.setCell hq0 _).setCell hq0 _).setCell hq0 _).setCell hq0 _).alloc _, ((eR _).alloc _).heap ?_⟩
 rw [setCell_heap (setCell_heap (setCell_heap (setCell_heap hq)))]; rfl
theorem idle_any (q : Nat) (w : World) : CallsD Tryz.prog 39 #[.pointer (some ⟨q, 0, none⟩)] .returning w fun e u' w' => e = .returned (.tuple #[]) ∧ u' = .returning ∧ w' = w := by
 refine callsD_of_wpS Tryz.func39 rfl fun c₀ cs hu => ?_
 apply wpS_seq
 apply wpS_region
 simp [wpOpsS, go_sem, recoverD, hu, Tryz.ntmps39, Exit.thenS]
 refine wpS_of_wp ?_
 go_wp2_with fail
 refine ⟨rfl, .returning, ?_, .tuple #[], by simp [results, Tryz.results39, go_sem], by first | rfl | trivial, by first | rfl | trivial, by first | rfl | trivial⟩
 cases c₀
 simp_all
/-- a diagnostic with the code x -/
def DiagP (W : World) (x : Int) (e : Ending) (w' : World) : Prop := ∃ a b c : Int, e = .returned (.agg #[.int .i64 x, .int .i64 a, .int .i64 b, .int .i64 c]) ∧ Ext W w'
namespace Tj
theorem limE_ok {F : FP} (h : limE F = 0) : F.P.hs.length ≤ 8 ∧ F.rs.length ≤ 4 ∧ F.ac.length ≤ 16 ∧ F.ts.length ≤ 12 := by
 unfold limE at h
 by_cases h0 : Id.ok F.nm = true
 ·rw [if_pos h0] at h
  by_cases h1 : 8 < F.P.hs.length
  ·rw [if_pos h1] at h; exact absurd h (by decide)
  ·rw [if_neg h1] at h
   by_cases h2 : 4 < F.rs.length
   ·rw [if_pos h2] at h; exact absurd h (by decide)
   ·rw [if_neg h2] at h
    by_cases h3 : 16 < F.ac.length
    ·rw [if_pos h3] at h; exact absurd h (by decide)
    ·rw [if_neg h3] at h
     by_cases h4 : 12 < F.ts.length
     ·rw [if_pos h4] at h; exact absurd h (by decide)
     ·omega
 ·rw [if_neg h0] at h; exact absurd h (by decide)
theorem orE_assoc (a b c : Int) : orE (orE a b) c = orE a (orE b c) := by
 unfold orE
 by_cases h : a ≠ 0
 ·rw [if_pos h, if_pos h, if_pos h]
 ·rw [if_neg h, if_neg h]
end Tj
theorem pcheck2_any {W : World} {p : Pg.PV} {F : Tj.FP} (hG : Tj.IsG W p F) : Calls Tryz.prog 16 #[p.val] W (DiagP W (Tj.chkF F)) := by
 obtain ⟨v1, hv1⟩ : ∃ z, z = Tj.limE F := ⟨_, rfl⟩
 obtain ⟨v2, hv2⟩ : ∃ z, z = Tj.namedE (·.1) Tj.hdE F.P.hs := ⟨_, rfl⟩
 obtain ⟨v3, hv3⟩ : ∃ z, z = Tj.metE F.P.md := ⟨_, rfl⟩
 obtain ⟨v4, hv4⟩ : ∃ z, z = Tj.orE (Tj.namedE (fun r : Rg.Reg => r.nm) Rg.chk F.rs) (Tj.orE (Tj.namedE (fun r : Tj.Act => r.nm) (Tj.actE F) F.ac) (Tj.namedE (fun r : Tj.Tab => r.nm) (Tj.tabE F) F.ts)) := ⟨_, rfl⟩
 obtain ⟨v5, hv5⟩ : ∃ z, z = Tj.orE (Ps.chk F.P F.ss).2.2 (Tj.orE (Tj.ctlE F) (Dp.chk F.P).2) := ⟨_, rfl⟩
 have H1 : Hid (∀ w, Ext W w → Calls Tryz.prog 40 #[p.val] w (Thr w v1)) := Lh (fun w hx => by rw [hv1]; exact climits_any (hG.1.ext hx))
 have H2 : Hid (v1 = 0 → ∀ w, Ext W w → Calls Tryz.prog 41 #[p.val] w (Thr w v2)) := Lh (fun h w hx => by rw [hv2]; exact cheaders_any (hG.1.ext hx) (Tj.limE_ok (by rw [← hv1]; exact h)).1)
 have H3 : Hid (∀ w, Ext W w → Calls Tryz.prog 42 #[p.val] w (Thr w v3)) := Lh (fun w hx => by rw [hv3]; exact cmeta_any (hG.1.ext hx))
 have H4 : Hid (v1 = 0 → ∀ w, Ext W w → Calls Tryz.prog 43 #[p.val] w (Thr w v4)) := Lh (fun h w hx => by
  have hl := Tj.limE_ok (F := F) (by rw [← hv1]; exact h)
  rw [hv4]; exact cobjects_any (hG.1.ext hx) hl.2.1 hl.2.2.1 hl.2.2.2)
 have H5 : Hid (∀ w, Ext W w → Calls Tryz.prog 44 #[p.val] w (Thr w v5)) := Lh (fun w hx => by rw [hv5]; exact cflow_any (hG.ext hx))
 have hch : Tj.chkF F = Tj.orE v1 (Tj.orE v2 (Tj.orE v3 (Tj.orE v4 v5))) := by
  rw [hv1, hv2, hv3, hv4, hv5]
  unfold Tj.chkF
  rw [Tj.orE_assoc, Tj.orE_assoc]
 obtain ⟨hF, _⟩ := hG
 obtain ⟨a1, a2, a3, a4, a5, a6, a7, a8, m1, m2, m3, m4, m5, m6, n7, m7, m8, hf⟩ := hF.form
 obtain ⟨rfl, hnm, hhs, hmd, hrs, has, hts, hss, hct, hdp, l1, l2, l3, l4, l5, l6, l7, l8⟩ := hf
 obtain ⟨R, hR⟩ : ∃ z, z = Tj.chkF F := ⟨_, rfl⟩
 rw [← hR]
 have HR := Lh (hR.trans hch)
 dsimp only [Pg.PV.val] at H1 H2 H3 H4 H5 ⊢
 have hmf : ∀ (fn : Fn) (first cap : Array Value) (w : World), (Instr.makeFunc fn first cap).run Tryz.prog w = .ok (.func fn first cap) w := fun _ _ _ _ => rfl
 have bx := aH W (.cells (Yq0 F a1 m1 a2 m2 a3 m3 a4 m4 a5 m5 a6 m6 a7 m7 n7 a8 m8) 31)
 have k0 := alw (cQ 0 bx)
 have k1 := alw (cQ 1 bx)
 have k2 := alw (cQ 2 bx)
 have k3 := alw (cQ 3 bx)
 have k4 := alw (cQ 4 bx)
 have k5 := alw (cQ 5 bx)
 have k6 := alw (cQ 6 bx)
 have k7 := alw (cQ 7 bx)
 have k8 := alw (cQ 8 bx)
 clear bx
 have bd := aH (W.alloc (.cells (Yq0 F a1 m1 a2 m2 a3 m3 a4 m4 a5 m5 a6 m6 a7 m7 n7 a8 m8) 31)) (.cells #[.int .i64 0, .int .i64 0, .int .i64 0, .int .i64 0] 70)
 rw [szA] at bd
 have BD := Lh bd
 clear hF hnm hhs hmd hrs has hts hss hct hdp
 clear bd hR hch hv1 hv2 hv3 hv4 hv5
 go_enter_defers Tryz.func16, Tryz.ntmps16
 go_wp2_with fail
 refine ((H1.out) _ grows).mono ?_
 rintro e wv1 ⟨xv1, h1 | h1⟩
 rotate_left
 ·obtain ⟨h1, a, b, c, rfl⟩ := h1
  have hR : R = v1 := by rw [HR.out]; exact or_l rfl h1
  have sv := Sm xv1
  have hq := alwB BD.out wv1
  have hxw : Ext W wv1 := grows
  have HQ := Lh hq
  have HXW := Lh hxw
  refine leaves_cons (f := 39) (args := #[.pointer (some ⟨W.heap.size + 1, 0, none⟩)]) (by simp) (by simp [go_sem]) ?_
  refine (caught_any (W.heap.size + 1) _ a b c [] wv1 0 0 0 0 HQ.out).mono ?_
  rintro e u' w'' ⟨rfl, rfl, hx, hcell⟩
  have c0 := cQ 0 hcell
  have c1 := cQ 1 hcell
  have c2 := cQ 2 hcell
  have c3 := cQ 3 hcell
  have HX := Lh (hx W HXW.out (by omega))
  have HRR := Lh hR
  clear hx hcell hq hxw hR
  have fin : DiagP W R (.returned (.agg #[.int .i64 v1, .int .i64 a, .int .i64 b, .int .i64 c])) w'' := ⟨a, b, c, by rw [HRR.out], HX.out⟩
  have FIN := Lh fin
  clear fin
  simp [Leaves, settle, results, Tryz.results16, go_sem, c0, c1, c2, c3]
  exact FIN.out
 obtain ⟨h1, rfl⟩ := h1
 have s1 := Sm xv1
 have HZ1 := Lh h1
 clear h1
 go_wp2_with fail
 refine ((H2.out HZ1.out) _ grows).mono ?_
 rintro e wv2 ⟨xv2, h2 | h2⟩
 rotate_left
 ·obtain ⟨h2, a, b, c, rfl⟩ := h2
  have hR : R = v2 := by rw [HR.out]; exact or_r HZ1.out (or_l rfl h2)
  have sv := Sm xv2
  have hq := alwB BD.out wv2
  have hxw : Ext W wv2 := grows
  have HQ := Lh hq
  have HXW := Lh hxw
  refine leaves_cons (f := 39) (args := #[.pointer (some ⟨W.heap.size + 1, 0, none⟩)]) (by simp) (by simp [go_sem]) ?_
  refine (caught_any (W.heap.size + 1) _ a b c [] wv2 0 0 0 0 HQ.out).mono ?_
  rintro e u' w'' ⟨rfl, rfl, hx, hcell⟩
  have c0 := cQ 0 hcell
  have c1 := cQ 1 hcell
  have c2 := cQ 2 hcell
  have c3 := cQ 3 hcell
  have HX := Lh (hx W HXW.out (by omega))
  have HRR := Lh hR
  clear hx hcell hq hxw hR
  have fin : DiagP W R (.returned (.agg #[.int .i64 v2, .int .i64 a, .int .i64 b, .int .i64 c])) w'' := ⟨a, b, c, by rw [HRR.out], HX.out⟩
  have FIN := Lh fin
  clear fin
  simp [Leaves, settle, results, Tryz.results16, go_sem, c0, c1, c2, c3]
  exact FIN.out
 obtain ⟨h2, rfl⟩ := h2
 have s2 := Sm xv2
 have HZ2 := Lh h2
 clear h2
 go_wp2_with fail
 refine ((H3.out) _ grows).mono ?_
 rintro e wv3 ⟨xv3, h3 | h3⟩
 rotate_left
 ·obtain ⟨h3, a, b, c, rfl⟩ := h3
  have hR : R = v3 := by rw [HR.out]; exact or_r HZ1.out (or_r HZ2.out (or_l rfl h3))
  have sv := Sm xv3
  have hq := alwB BD.out wv3
  have hxw : Ext W wv3 := grows
  have HQ := Lh hq
  have HXW := Lh hxw
  refine leaves_cons (f := 39) (args := #[.pointer (some ⟨W.heap.size + 1, 0, none⟩)]) (by simp) (by simp [go_sem]) ?_
  refine (caught_any (W.heap.size + 1) _ a b c [] wv3 0 0 0 0 HQ.out).mono ?_
  rintro e u' w'' ⟨rfl, rfl, hx, hcell⟩
  have c0 := cQ 0 hcell
  have c1 := cQ 1 hcell
  have c2 := cQ 2 hcell
  have c3 := cQ 3 hcell
  have HX := Lh (hx W HXW.out (by omega))
  have HRR := Lh hR
  clear hx hcell hq hxw hR
  have fin : DiagP W R (.returned (.agg #[.int .i64 v3, .int .i64 a, .int .i64 b, .int .i64 c])) w'' := ⟨a, b, c, by rw [HRR.out], HX.out⟩
  have FIN := Lh fin
  clear fin
  simp [Leaves, settle, results, Tryz.results16, go_sem, c0, c1, c2, c3]
  exact FIN.out
 obtain ⟨h3, rfl⟩ := h3
 have s3 := Sm xv3
 have HZ3 := Lh h3
 clear h3
 go_wp2_with fail
 refine ((H4.out HZ1.out) _ grows).mono ?_
 rintro e wv4 ⟨xv4, h4 | h4⟩
 rotate_left
 ·obtain ⟨h4, a, b, c, rfl⟩ := h4
  have hR : R = v4 := by rw [HR.out]; exact or_r HZ1.out (or_r HZ2.out (or_r HZ3.out (or_l rfl h4)))
  have sv := Sm xv4
  have hq := alwB BD.out wv4
  have hxw : Ext W wv4 := grows
  have HQ := Lh hq
  have HXW := Lh hxw
  refine leaves_cons (f := 39) (args := #[.pointer (some ⟨W.heap.size + 1, 0, none⟩)]) (by simp) (by simp [go_sem]) ?_
  refine (caught_any (W.heap.size + 1) _ a b c [] wv4 0 0 0 0 HQ.out).mono ?_
  rintro e u' w'' ⟨rfl, rfl, hx, hcell⟩
  have c0 := cQ 0 hcell
  have c1 := cQ 1 hcell
  have c2 := cQ 2 hcell
  have c3 := cQ 3 hcell
  have HX := Lh (hx W HXW.out (by omega))
  have HRR := Lh hR
  clear hx hcell hq hxw hR
  have fin : DiagP W R (.returned (.agg #[.int .i64 v4, .int .i64 a, .int .i64 b, .int .i64 c])) w'' := ⟨a, b, c, by rw [HRR.out], HX.out⟩
  have FIN := Lh fin
  clear fin
  simp [Leaves, settle, results, Tryz.results16, go_sem, c0, c1, c2, c3]
  exact FIN.out
 obtain ⟨h4, rfl⟩ := h4
 have s4 := Sm xv4
 have HZ4 := Lh h4
 clear h4
 go_wp2_with fail
 refine ((H5.out) _ grows).mono ?_
 rintro e wv5 ⟨xv5, h5 | h5⟩
 rotate_left
 ·obtain ⟨h5, a, b, c, rfl⟩ := h5
  have hR : R = v5 := by rw [HR.out]; exact or_r HZ1.out (or_r HZ2.out (or_r HZ3.out (or_r HZ4.out rfl)))
  have sv := Sm xv5
  have hq := alwB BD.out wv5
  have hxw : Ext W wv5 := grows
  have HQ := Lh hq
  have HXW := Lh hxw
  refine leaves_cons (f := 39) (args := #[.pointer (some ⟨W.heap.size + 1, 0, none⟩)]) (by simp) (by simp [go_sem]) ?_
  refine (caught_any (W.heap.size + 1) _ a b c [] wv5 0 0 0 0 HQ.out).mono ?_
  rintro e u' w'' ⟨rfl, rfl, hx, hcell⟩
  have c0 := cQ 0 hcell
  have c1 := cQ 1 hcell
  have c2 := cQ 2 hcell
  have c3 := cQ 3 hcell
  have HX := Lh (hx W HXW.out (by omega))
  have HRR := Lh hR
  clear hx hcell hq hxw hR
  have fin : DiagP W R (.returned (.agg #[.int .i64 v5, .int .i64 a, .int .i64 b, .int .i64 c])) w'' := ⟨a, b, c, by rw [HRR.out], HX.out⟩
  have FIN := Lh fin
  clear fin
  simp [Leaves, settle, results, Tryz.results16, go_sem, c0, c1, c2, c3]
  exact FIN.out
 obtain ⟨h5, rfl⟩ := h5
 have s5 := Sm xv5
 have HZ5 := Lh h5
 clear h5
 have hq5 := alwB BD.out wv5
 have q0 := cQ 0 hq5
 have q1 := cQ 1 hq5
 have q2 := cQ 2 hq5
 have q3 := cQ 3 hq5
 have f0 := free_of (o := 0) hq5
 have f1 := free_of (o := 1) hq5
 have f2 := free_of (o := 2) hq5
 have f3 := free_of (o := 3) hq5
 have HQ5 := Lh hq5
 have HX5 : Hid (Ext W wv5) := Lh grows
 clear hq5
 go_wp2_with fail
 obtain ⟨wz, hwz⟩ : ∃ z, z = ((((wv5.setCell ⟨W.heap.size + 1, 0, none⟩ (.int .i64 0)).setCell ⟨W.heap.size + 1, 1, none⟩ (.int .i64 0)).setCell ⟨W.heap.size + 1, 2, none⟩ (.int .i64 0)).setCell ⟨W.heap.size + 1, 3, none⟩ (.int .i64 0)) := ⟨_, rfl⟩
 have hz : wz.heap[W.heap.size + 1]? = some (.cells #[.int .i64 0, .int .i64 0, .int .i64 0, .int .i64 0] 70 (0, 0)) := by rw [hwz, setCell_heap (setCell_heap (setCell_heap (setCell_heap HQ5.out)))]; rfl
 have HXZ : Hid (Ext W wz) := Lh (by rw [hwz]; exact (((HX5.out.setCell (by show W.heap.size ≤ W.heap.size + 1; omega) _).setCell (by show W.heap.size ≤ W.heap.size + 1; omega) _).setCell (by show W.heap.size ≤ W.heap.size + 1; omega) _).setCell (by show W.heap.size ≤ W.heap.size + 1; omega) _)
 rw [← hwz]
 have c0 := cQ 0 hz
 have c1 := cQ 1 hz
 have c2 := cQ 2 hz
 have c3 := cQ 3 hz
 clear hwz hz q0 q1 q2 q3 f0 f1 f2 f3
 have FIN : Hid (DiagP W R (.returned (.agg #[.int .i64 0, .int .i64 0, .int .i64 0, .int .i64 0])) wz) := Lh ⟨0, 0, 0, by
  have e : R = 0 := by rw [HR.out]; exact or_r HZ1.out (or_r HZ2.out (or_r HZ3.out (or_r HZ4.out HZ5.out)))
  rw [e], HXZ.out⟩
 refine leaves_cons (f := 39) (args := #[.pointer (some ⟨W.heap.size + 1, 0, none⟩)]) (by simp) (by simp [go_sem]) ?_
 refine (idle_any (W.heap.size + 1) _).mono ?_
 rintro e u' w'' ⟨rfl, rfl, rfl⟩
 simp [Leaves, settle, results, Tryz.results16, go_sem, c0, c1, c2, c3]
 exact FIN.out
namespace Tj
/-- a call that a table may make -/
def tcallE (F : FP) (t : Int) (c : Call) : Int := if allow F t c.a then callE F c else 8
/-- the rows' numbers rise -/
def lastI : Int → List Rw → Option Int
 | n, [] => some n
 | n, r :: l => if r.id ≤ n then none else lastI r.id l
/-- what is wrong with row i: its entry, or that its key was there before (7) -/
def rowE (F : FP) (t : Int) (rs : List Rw) (i : Nat) : Int := match rs[i]? with
 | some r => if entE F t r.e ≠ 0 then entE F t r.e else if (rs.take i).any (fun x => sameK x.e r.e) then 7 else 0
 | none => 0
def ctabE (F : FP) (t : Int) (rs : List Rw) (nx : Int) (d : Call) : Int :=
 if (tabAt F t).sz < rs.length then 12 else match lastI 0 rs with
  | none => 14
  | some n => if nx ≤ n ∨ nx < 1 ∨ 1073741824 < nx then 14 else if firstE (rowE F t rs) (List.range rs.length) ≠ 0 then firstE (rowE F t rs) (List.range rs.length) else tcallE F t d
theorem lastI_at : ∀ {l : List Rw} {n : Int} {k : Nat} {m : Int} {r : Rw}, lastI n (l.take k) = some m → l[k]? = some r → lastI n (l.take (k + 1)) = if r.id ≤ m then none else some r.id
 | [], _, _, _, _, _, h => by cases h
 | x :: l, n, 0, m, r, h, hr => by
  have e : x = r := by simpa using hr
  subst e
  have e : n = m := by simpa [lastI] using h
  subst e
  simp [lastI]
 | x :: l, n, k + 1, m, r, h, hr => by
  rw [tkS] at h ⊢
  unfold lastI at h ⊢
  by_cases h1 : x.id ≤ n
  ·rw [if_pos h1] at h; cases h
  ·rw [if_neg h1] at h ⊢
   exact lastI_at h (by simpa using hr)
theorem lastI_stop : ∀ {l : List Rw} {n : Int} {k : Nat}, lastI n (l.take k) = none → lastI n l = none
 | [], _, _, h => by simpa using h
 | x :: l, n, 0, h => by simp [lastI] at h
 | x :: l, n, k + 1, h => by
  rw [tkS] at h
  unfold lastI at h ⊢
  by_cases h1 : x.id ≤ n
  ·rw [if_pos h1]
  ·rw [if_neg h1] at h ⊢; exact lastI_stop h
end Tj
theorem tcall_any {W : World} {p : Pg.PV} {F : Tj.FP} (hF : Tj.IsF W p F) (t : Int) (c : Tj.Call) {av : Value} (hav : Tj.Us W av c.ar) : Calls Tryz.prog 144 #[p.val, .int .i64 t, .agg #[.int .i64 c.a, av]] W (Rets W (.int .i64 (Tj.tcallE F t c))) := by
 have HAL : Hid (∀ w, Ext W w → Calls Tryz.prog 174 #[p.val, .int .i64 t, .int .i64 c.a] w (Rets w (.bool (Tj.allow F t c.a)))) := Lh (fun w hx => tallow_any (hF.ext hx) t _)
 have HCC := Lh (fun (w : World) (hx : Ext W w) => ccall_any (hF.ext hx) c (hav.ext hx))
 obtain ⟨a1, a2, a3, a4, a5, a6, a7, a8, m1, m2, m3, m4, m5, m6, n7, m7, m8, hf⟩ := hF.form
 obtain ⟨rfl, hnm, hhs, hmd, hrs, has, hts, hss, hct, hdp, l1, l2, l3, l4, l5, l6, l7, l8⟩ := hf
 obtain ⟨ga, gc, rfl⟩ := ns_slice hav.1
 obtain ⟨ca, ar⟩ := c
 obtain ⟨R, hR⟩ : ∃ z, z = Tj.tcallE F t ⟨ca, ar⟩ := ⟨_, rfl⟩
 dsimp only [Pg.PV.val] at *
 rw [← hR]
 unfold Tj.tcallE at hR
 dsimp only at hR
 obtain ⟨al, hal⟩ : ∃ z, z = Tj.allow F t ca := ⟨_, rfl⟩
 obtain ⟨ce, hce⟩ : ∃ z, z = Tj.callE F ⟨ca, ar⟩ := ⟨_, rfl⟩
 rw [← hal] at HAL hR
 rw [← hce] at HCC hR
 have bx := aH W (.cells (Yq0 F a1 m1 a2 m2 a3 m3 a4 m4 a5 m5 a6 m6 a7 m7 n7 a8 m8) 31)
 have k0 := alw (cQ 0 bx)
 have k1 := alw (cQ 1 bx)
 have k2 := alw (cQ 2 bx)
 have k3 := alw (cQ 3 bx)
 have k4 := alw (cQ 4 bx)
 have k5 := alw (cQ 5 bx)
 have k6 := alw (cQ 6 bx)
 have k7 := alw (cQ 7 bx)
 have k8 := alw (cQ 8 bx)
 clear bx
 have bx := aH (W.alloc (.cells (Yq0 F a1 m1 a2 m2 a3 m3 a4 m4 a5 m5 a6 m6 a7 m7 n7 a8 m8) 31)) (.cells #[.int .i64 ca, .slice ga ar.length gc] 63)
 rw [szA] at bx
 have j0 := alw (cQ 0 bx)
 have j1 := alw (cQ 1 bx)
 clear bx
 clear hF hnm hhs hmd hrs has hts hss hct hdp
 have HE := Lh hR
 clear hav hR hal hce
 cases al with
 | true =>
  go_enter Tryz.func144, Tryz.ntmps144
  go_wp2_with fail
  refine via (HAL.out _ grows) fun w7 xw7 sw7 => ?_
  go_wp2_with fail
  refine via (HCC.out _ grows) fun w8 xw8 sw8 => ?_
  go_wp2_with fail
  go_ret
  exact ⟨ret_int (by rw [HE.out]; rfl), grows⟩
 | false =>
  go_enter Tryz.func144, Tryz.ntmps144
  go_wp2_with fail
  refine via (HAL.out _ grows) fun w7 xw7 sw7 => ?_
  go_wp2_with fail
  go_ret
  exact ⟨ret_int (by rw [HE.out]; rfl), grows⟩
theorem rws_at {w : World} {b o n c : Nat} {l : List Tj.Rw} {oa : Option Addr} (h : Tj.Rws w (.slice oa n c) l) (k : Nat) (x : Tj.Rw) (hk : l[k]? = some x) (hoa : oa = some ⟨b, o, none⟩) :
 ∃ ka kc ga gc, Tj.EntV w (.agg #[.slice ka x.e.ks.length kc, .int .i64 x.e.pr, .int .i64 x.e.cl.a, .slice ga x.e.cl.ar.length gc]) x.e ∧ Tj.B64 x.id ∧
  w.cell? ⟨b, o + k * 5, none⟩ = some (.int .i64 x.id) ∧ w.cell? ⟨b, o + k * 5 + 1, none⟩ = some (.slice ka x.e.ks.length kc) ∧ w.cell? ⟨b, o + k * 5 + 2, none⟩ = some (.int .i64 x.e.pr) ∧
  w.cell? ⟨b, o + k * 5 + 3, none⟩ = some (.int .i64 x.e.cl.a) ∧ w.cell? ⟨b, o + k * 5 + 4, none⟩ = some (.slice ga x.e.cl.ar.length gc) := by
 obtain ⟨b', o', e, _, h4⟩ := h.at (by have := (List.getElem?_eq_some_iff.1 hk).1; omega)
 rw [hoa] at e
 simp only [Option.some.injEq, Addr.mk.injEq, and_true] at e
 obtain ⟨rfl, rfl⟩ := e
 obtain ⟨cs, _, ⟨es, rfl, h1, h2⟩, hc⟩ := h4 k x hk
 have h3 := h2
 obtain ⟨ka, kc, ga, gc, rfl, _⟩ := h3
 exact ⟨ka, kc, ga, gc, ⟨_, rfl, h2⟩, h1, hc 0 _ rfl, hc 1 _ rfl, hc 2 _ rfl, hc 3 _ rfl, hc 4 _ rfl⟩
abbrev Yq15 (r : Tj.Rw) (ka : Option Addr) (kc : Nat) (ga : Option Addr) (gc : Nat) : Array Value := #[.int .i64 r.id, .slice ka r.e.ks.length kc, .int .i64 r.e.pr, .int .i64 r.e.cl.a, .slice ga r.e.cl.ar.length gc]
theorem rowsame1_any {W : World} {r : Tj.Rw} {e : Tj.Ent} {ka ga la ha : Option Addr} {kc gc lc hc : Nat} (hr : Tj.EntV W (.agg #[.slice ka r.e.ks.length kc, .int .i64 r.e.pr, .int .i64 r.e.cl.a, .slice ga r.e.cl.ar.length gc]) r.e) (he : Tj.EntV W (.agg #[.slice la e.ks.length lc, .int .i64 e.pr, .int .i64 e.cl.a, .slice ha e.cl.ar.length hc]) e) (q : Nat)
 (h0 : W.cell? ⟨q, 1, none⟩ = some (.slice la e.ks.length lc)) (h1 : W.cell? ⟨q, 2, none⟩ = some (.int .i64 e.pr)) (h2 : W.cell? ⟨q, 3, none⟩ = some (.int .i64 e.cl.a)) (h3 : W.cell? ⟨q, 4, none⟩ = some (.slice ha e.cl.ar.length hc)) :
 Calls Tryz.prog 143 #[.agg (Yq15 r ka kc ga gc), .pointer (some ⟨q, 0, none⟩)] W (Rets W (.bool (Tj.sameK r.e e))) := by
 have HSK := Lh (fun (w : World) (hx : Ext W w) => samek_any (hr.ext hx) (he.ext hx))
 have v0 := alw h0
 have v1 := alw h1
 have v2 := alw h2
 have v3 := alw h3
 obtain ⟨R, hR⟩ : ∃ z, z = Tj.sameK r.e e := ⟨_, rfl⟩
 rw [← hR] at HSK ⊢
 have bx := aH W (.cells (Yq15 r ka kc ga gc) 151)
 have k0 := alw (cQ 0 bx)
 have k1 := alw (cQ 1 bx)
 have k2 := alw (cQ 2 bx)
 have k3 := alw (cQ 3 bx)
 have k4 := alw (cQ 4 bx)
 clear bx
 clear hr he h0 h1 h2 h3 hR
 go_enter Tryz.func143, Tryz.ntmps143
 go_wp2_with fail
 refine via (HSK.out _ grows) fun w3 xw3 sw3 => ?_
 go_wp2_with fail
 go_ret
 exact ⟨rfl, grows⟩
theorem idxR1_any {W : World} {pa la ha : Option Addr} {pc lc hc : Nat} {l : List Tj.Rw} {e : Tj.Ent} (h : Tj.Rws W (.slice pa l.length pc) l) (he : Tj.EntV W (.agg #[.slice la e.ks.length lc, .int .i64 e.pr, .int .i64 e.cl.a, .slice ha e.cl.ar.length hc]) e) (q : Nat) (h0 : W.cell? ⟨q, 1, none⟩ = some (.slice la e.ks.length lc)) (h1 : W.cell? ⟨q, 2, none⟩ = some (.int .i64 e.pr)) (h2 : W.cell? ⟨q, 3, none⟩ = some (.int .i64 e.cl.a)) (h3 : W.cell? ⟨q, 4, none⟩ = some (.slice ha e.cl.ar.length hc)) :
 Calls Tryz.prog 175 #[.slice pa l.length pc, .func (.func 143) #[] #[.pointer (some ⟨q, 0, none⟩)]] W fun e' W' => (∃ r : Int, e' = .returned (.int .i64 r) ∧ decide (0 ≤ r) = l.any (fun x => Tj.sameK x.e e)) ∧ Ext W W' := by
 obtain ⟨_, _, e0, hlc, hcm⟩ := h.slice
 simp only [Value.slice.injEq] at e0
 obtain ⟨rfl, _, rfl⟩ := e0
 unfold maxLen at hcm
 have H := Lh h
 have HV : Hid (∀ (w : World) (r : Tj.Rw) (ka ga : Option Addr) (kc gc : Nat), Ext W w → Tj.EntV w (.agg #[.slice ka r.e.ks.length kc, .int .i64 r.e.pr, .int .i64 r.e.cl.a, .slice ga r.e.cl.ar.length gc]) r.e → Calls Tryz.prog 143 #[.agg (Yq15 r ka kc ga gc), .pointer (some ⟨q, 0, none⟩)] w (Rets w (.bool (Tj.sameK r.e e)))) := Lh (fun w r ka ga kc gc hx hr => rowsame1_any hr (he.ext hx) q (hx.cell h0) (hx.cell h1) (hx.cell h2) (hx.cell h3))
 clear h he h0 h1 h2 h3
 go_enter Tryz.func175, Tryz.ntmps175
 go_wp2_with fail
 go_loopw [8] (fun i wr => ∃ k : Nat, k ≤ l.length ∧ i = .int .i64 k ∧ Hid (Ext W wr ∧ ∀ (j : Nat) y, j < k → l[j]? = some y → Tj.sameK y.e e = false)) (fun i _ => l.length - (intOf i).toNat)
 case atStart => exact ⟨0, Nat.zero_le _, rfl, Lh ⟨eR _, by intro j y hj; omega⟩⟩
 case round =>
  obtain ⟨k, hk, rfl, HZ⟩ := hrel
  have sx := Sm HZ.out.1
  by_cases hlt : k < l.length
  ·obtain ⟨x, hx⟩ : ∃ x, l[k]? = some x := ⟨_, gE hlt⟩
   obtain ⟨b, o, rfl, _, _⟩ := Rows.at H.out (by omega)
   obtain ⟨ka, kc, ga, gc, hev, _, g0, g1, g2, g3, g4⟩ := rws_at H.out k x hx rfl
   have y0 := alw g0
   have y1 := alw g1
   have y2 := alw g2
   have y3 := alw g3
   have y4 := alw g4
   have HX := Lh hx
   have HC := Lh (fun (w : World) (h : Ext W w) => HV.out w x ka ga kc gc h (hev.ext h))
   obtain ⟨sk, hsk⟩ : ∃ z, z = Tj.sameK x.e e := ⟨_, rfl⟩
   rw [← hsk] at HC
   have HS := Lh hsk
   clear hx hev g0 g1 g2 g3 g4 hsk
   cases sk with
   | false =>
    go_wp2_with fail
    refine via (HC.out _ grows) fun w5 xw5 sw5 => ?_
    go_wp2_with fail
    go_roundw
    case rel =>
     refine ⟨k + 1, by omega, by go_num, Lh ⟨grows, fun j y hj hy => ?_⟩⟩
     rcases Nat.lt_or_ge j k with h1 | h1
     ·exact HZ.out.2 j y h1 hy
     ·obtain rfl : j = k := by omega
      rw [HX.out] at hy
      obtain rfl := Option.some.inj hy
      exact HS.out.symm
    case measure => simp [intOf]; omega
   | true =>
    go_wp2_with fail
    refine via (HC.out _ grows) fun w5 xw5 sw5 => ?_
    go_wp2_with fail
    go_ret
    refine ⟨⟨_, rfl, ?_⟩, grows⟩
    have hz : l.any (fun x => Tj.sameK x.e e) = true := List.any_eq_true.2 ⟨_, List.mem_of_getElem? HX.out, HS.out.symm⟩
    rw [hz]; simp
  ·obtain rfl : k = l.length := by omega
   go_wp2_with fail
   go_ret
   refine ⟨⟨_, rfl, ?_⟩, grows⟩
   have hz : l.any (fun x => Tj.sameK x.e e) = false := by
    rw [← Bool.not_eq_true, List.any_eq_true]
    rintro ⟨y, hy, he⟩
    obtain ⟨j, hj, rfl⟩ := List.mem_iff_getElem.1 hy
    rw [HZ.out.2 j _ hj (gE hj)] at he
    cases he
   rw [hz]; decide
theorem contR1_any {W : World} {pa la ha : Option Addr} {pc lc hc : Nat} {l : List Tj.Rw} {e : Tj.Ent} (h : Tj.Rws W (.slice pa l.length pc) l) (he : Tj.EntV W (.agg #[.slice la e.ks.length lc, .int .i64 e.pr, .int .i64 e.cl.a, .slice ha e.cl.ar.length hc]) e) (q : Nat) (h0 : W.cell? ⟨q, 1, none⟩ = some (.slice la e.ks.length lc)) (h1 : W.cell? ⟨q, 2, none⟩ = some (.int .i64 e.pr)) (h2 : W.cell? ⟨q, 3, none⟩ = some (.int .i64 e.cl.a)) (h3 : W.cell? ⟨q, 4, none⟩ = some (.slice ha e.cl.ar.length hc)) :
 Calls Tryz.prog 142 #[.slice pa l.length pc, .func (.func 143) #[] #[.pointer (some ⟨q, 0, none⟩)]] W (Rets W (.bool (l.any (fun x => Tj.sameK x.e e)))) := by
 have HC := Lh (idxR1_any h he q h0 h1 h2 h3)
 clear h he h0 h1 h2 h3
 go_enter Tryz.func142, Tryz.ntmps142
 go_wp2_with fail
 refine HC.out.mono ?_
 rintro e w1 ⟨⟨r, rfl, hr⟩, x1⟩
 have s1 := Sm x1
 have HR := Lh hr
 clear hr
 go_wp2_with fail
 go_ret
 exact ⟨ret_bool (by rw [← HR.out]), grows⟩
theorem rowsame2_any {W : World} {r : Tj.Rw} {e : Tj.Ent} {ka ga la ha : Option Addr} {kc gc lc hc : Nat} (hr : Tj.EntV W (.agg #[.slice ka r.e.ks.length kc, .int .i64 r.e.pr, .int .i64 r.e.cl.a, .slice ga r.e.cl.ar.length gc]) r.e) (he : Tj.EntV W (.agg #[.slice la e.ks.length lc, .int .i64 e.pr, .int .i64 e.cl.a, .slice ha e.cl.ar.length hc]) e) (q : Nat)
 (h0 : W.cell? ⟨q, 0, none⟩ = some (.slice la e.ks.length lc)) (h1 : W.cell? ⟨q, 1, none⟩ = some (.int .i64 e.pr)) (h2 : W.cell? ⟨q, 2, none⟩ = some (.int .i64 e.cl.a)) (h3 : W.cell? ⟨q, 3, none⟩ = some (.slice ha e.cl.ar.length hc)) :
 Calls Tryz.prog 178 #[.agg (Yq15 r ka kc ga gc), .pointer (some ⟨q, 0, none⟩)] W (Rets W (.bool (Tj.sameK r.e e))) := by
 have HSK := Lh (fun (w : World) (hx : Ext W w) => samek_any (hr.ext hx) (he.ext hx))
 have v0 := alw h0
 have v1 := alw h1
 have v2 := alw h2
 have v3 := alw h3
 obtain ⟨R, hR⟩ : ∃ z, z = Tj.sameK r.e e := ⟨_, rfl⟩
 rw [← hR] at HSK ⊢
 have bx := aH W (.cells (Yq15 r ka kc ga gc) 151)
 have k0 := alw (cQ 0 bx)
 have k1 := alw (cQ 1 bx)
 have k2 := alw (cQ 2 bx)
 have k3 := alw (cQ 3 bx)
 have k4 := alw (cQ 4 bx)
 clear bx
 clear hr he h0 h1 h2 h3 hR
 go_enter Tryz.func178, Tryz.ntmps178
 go_wp2_with fail
 refine via (HSK.out _ grows) fun w3 xw3 sw3 => ?_
 go_wp2_with fail
 go_ret
 exact ⟨rfl, grows⟩
theorem idxR0_any {W : World} {pa la ha : Option Addr} {pc lc hc : Nat} {l : List Tj.Rw} {e : Tj.Ent} (h : Tj.Rws W (.slice pa l.length pc) l) (he : Tj.EntV W (.agg #[.slice la e.ks.length lc, .int .i64 e.pr, .int .i64 e.cl.a, .slice ha e.cl.ar.length hc]) e) (q : Nat) (h0 : W.cell? ⟨q, 0, none⟩ = some (.slice la e.ks.length lc)) (h1 : W.cell? ⟨q, 1, none⟩ = some (.int .i64 e.pr)) (h2 : W.cell? ⟨q, 2, none⟩ = some (.int .i64 e.cl.a)) (h3 : W.cell? ⟨q, 3, none⟩ = some (.slice ha e.cl.ar.length hc)) :
 Calls Tryz.prog 175 #[.slice pa l.length pc, .func (.func 178) #[] #[.pointer (some ⟨q, 0, none⟩)]] W fun e' W' => (∃ r : Int, e' = .returned (.int .i64 r) ∧ decide (0 ≤ r) = l.any (fun x => Tj.sameK x.e e)) ∧ Ext W W' := by
 obtain ⟨_, _, e0, hlc, hcm⟩ := h.slice
 simp only [Value.slice.injEq] at e0
 obtain ⟨rfl, _, rfl⟩ := e0
 unfold maxLen at hcm
 have H := Lh h
 have HV : Hid (∀ (w : World) (r : Tj.Rw) (ka ga : Option Addr) (kc gc : Nat), Ext W w → Tj.EntV w (.agg #[.slice ka r.e.ks.length kc, .int .i64 r.e.pr, .int .i64 r.e.cl.a, .slice ga r.e.cl.ar.length gc]) r.e → Calls Tryz.prog 178 #[.agg (Yq15 r ka kc ga gc), .pointer (some ⟨q, 0, none⟩)] w (Rets w (.bool (Tj.sameK r.e e)))) := Lh (fun w r ka ga kc gc hx hr => rowsame2_any hr (he.ext hx) q (hx.cell h0) (hx.cell h1) (hx.cell h2) (hx.cell h3))
 clear h he h0 h1 h2 h3
 go_enter Tryz.func175, Tryz.ntmps175
 go_wp2_with fail
 go_loopw [8] (fun i wr => ∃ k : Nat, k ≤ l.length ∧ i = .int .i64 k ∧ Hid (Ext W wr ∧ ∀ (j : Nat) y, j < k → l[j]? = some y → Tj.sameK y.e e = false)) (fun i _ => l.length - (intOf i).toNat)
 case atStart => exact ⟨0, Nat.zero_le _, rfl, Lh ⟨eR _, by intro j y hj; omega⟩⟩
 case round =>
  obtain ⟨k, hk, rfl, HZ⟩ := hrel
  have sx := Sm HZ.out.1
  by_cases hlt : k < l.length
  ·obtain ⟨x, hx⟩ : ∃ x, l[k]? = some x := ⟨_, gE hlt⟩
   obtain ⟨b, o, rfl, _, _⟩ := Rows.at H.out (by omega)
   obtain ⟨ka, kc, ga, gc, hev, _, g0, g1, g2, g3, g4⟩ := rws_at H.out k x hx rfl
   have y0 := alw g0
   have y1 := alw g1
   have y2 := alw g2
   have y3 := alw g3
   have y4 := alw g4
   have HX := Lh hx
   have HC := Lh (fun (w : World) (h : Ext W w) => HV.out w x ka ga kc gc h (hev.ext h))
   obtain ⟨sk, hsk⟩ : ∃ z, z = Tj.sameK x.e e := ⟨_, rfl⟩
   rw [← hsk] at HC
   have HS := Lh hsk
   clear hx hev g0 g1 g2 g3 g4 hsk
   cases sk with
   | false =>
    go_wp2_with fail
    refine via (HC.out _ grows) fun w5 xw5 sw5 => ?_
    go_wp2_with fail
    go_roundw
    case rel =>
     refine ⟨k + 1, by omega, by go_num, Lh ⟨grows, fun j y hj hy => ?_⟩⟩
     rcases Nat.lt_or_ge j k with h1 | h1
     ·exact HZ.out.2 j y h1 hy
     ·obtain rfl : j = k := by omega
      rw [HX.out] at hy
      obtain rfl := Option.some.inj hy
      exact HS.out.symm
    case measure => simp [intOf]; omega
   | true =>
    go_wp2_with fail
    refine via (HC.out _ grows) fun w5 xw5 sw5 => ?_
    go_wp2_with fail
    go_ret
    refine ⟨⟨_, rfl, ?_⟩, grows⟩
    have hz : l.any (fun x => Tj.sameK x.e e) = true := List.any_eq_true.2 ⟨_, List.mem_of_getElem? HX.out, HS.out.symm⟩
    rw [hz]; simp
  ·obtain rfl : k = l.length := by omega
   go_wp2_with fail
   go_ret
   refine ⟨⟨_, rfl, ?_⟩, grows⟩
   have hz : l.any (fun x => Tj.sameK x.e e) = false := by
    rw [← Bool.not_eq_true, List.any_eq_true]
    rintro ⟨y, hy, he⟩
    obtain ⟨j, hj, rfl⟩ := List.mem_iff_getElem.1 hy
    rw [HZ.out.2 j _ hj (gE hj)] at he
    cases he
   rw [hz]; decide
theorem contR0_any {W : World} {pa la ha : Option Addr} {pc lc hc : Nat} {l : List Tj.Rw} {e : Tj.Ent} (h : Tj.Rws W (.slice pa l.length pc) l) (he : Tj.EntV W (.agg #[.slice la e.ks.length lc, .int .i64 e.pr, .int .i64 e.cl.a, .slice ha e.cl.ar.length hc]) e) (q : Nat) (h0 : W.cell? ⟨q, 0, none⟩ = some (.slice la e.ks.length lc)) (h1 : W.cell? ⟨q, 1, none⟩ = some (.int .i64 e.pr)) (h2 : W.cell? ⟨q, 2, none⟩ = some (.int .i64 e.cl.a)) (h3 : W.cell? ⟨q, 3, none⟩ = some (.slice ha e.cl.ar.length hc)) :
 Calls Tryz.prog 142 #[.slice pa l.length pc, .func (.func 178) #[] #[.pointer (some ⟨q, 0, none⟩)]] W (Rets W (.bool (l.any (fun x => Tj.sameK x.e e)))) := by
 have HC := Lh (idxR0_any h he q h0 h1 h2 h3)
 clear h he h0 h1 h2 h3
 go_enter Tryz.func142, Tryz.ntmps142
 go_wp2_with fail
 refine HC.out.mono ?_
 rintro e w1 ⟨⟨r, rfl, hr⟩, x1⟩
 have s1 := Sm x1
 have HR := Lh hr
 clear hr
 go_wp2_with fail
 go_ret
 exact ⟨ret_bool (by rw [← HR.out]), grows⟩
namespace Tj
theorem rowE_at {F : FP} {t : Int} {rs : List Rw} {i : Nat} {r : Rw} (h : rs[i]? = some r) : rowE F t rs i = if entE F t r.e ≠ 0 then entE F t r.e else if (rs.take i).any (fun x => sameK x.e r.e) then 7 else 0 := by
 unfold rowE; rw [h]
end Tj
theorem ctab_any {W : World} {p : Pg.PV} {F : Tj.FP} (hF : Tj.IsF W p F) (q : Nat) (hqt : q < F.ts.length) {rv : Value} {rs : List Tj.Rw} (hrs : Tj.Rws W rv rs) (nx : Int) (d : Tj.Call) {dv : Value} (hd : Tj.Us W dv d.ar) :
 Calls Tryz.prog 105 #[p.val, .int .i64 q, rv, .int .i64 nx, .agg #[.int .i64 d.a, dv]] W (Rets W (.int .i64 (Tj.ctabE F q rs nx d))) := by
 have HEN : Hid (∀ (e : Tj.Ent) (ev : Value) w, Ext W w → Tj.EntV w ev e → Calls Tryz.prog 141 #[p.val, .int .i64 q, ev] w (Rets w (.int .i64 (Tj.entE F q e)))) := Lh (fun e ev w hx he => echeck_any (hF.ext hx) q he)
 have HTC := Lh (fun (w : World) (hx : Ext W w) => tcall_any (hF.ext hx) q d (hd.ext hx))
 obtain ⟨p0, F0, hFF⟩ : ∃ (p0 : Pg.PV) (F0 : Tj.FP), Tj.IsF W p0 F0 := ⟨p, F, hF⟩
 obtain ⟨a1, a2, a3, a4, a5, a6, a7, a8, m1, m2, m3, m4, m5, m6, n7, m7, m8, hf⟩ := hF.form
 obtain ⟨rfl, hnm, hhs, hmd, hregs, has, hts, hss, hct, hdp, l1, l2, l3, l4, l5, l6, l7, l8⟩ := hf
 clear hFF
 obtain ⟨ra, rc, rfl, hrl, hrm⟩ := hrs.slice
 unfold maxLen at hrm
 obtain ⟨ga, gc, rfl⟩ := ns_slice hd.1
 obtain ⟨ca, ar⟩ := d
 obtain ⟨x, hq⟩ : ∃ x, F.ts[q]? = some x := ⟨_, gE hqt⟩
 obtain ⟨tb, tq, rfl, _, _⟩ := Rows.at hts (by omega)
 obtain ⟨ka0, kc0, aa, cc, va, vc, _, ⟨_, hsz⟩, _, _, _, g0, g1, g2, g3, g4, g5⟩ := tabs_at hts q x hq rfl
 have ysz := alw g5
 obtain ⟨R, hR⟩ : ∃ z, z = Tj.ctabE F q rs nx ⟨ca, ar⟩ := ⟨_, rfl⟩
 dsimp only [Pg.PV.val] at *
 rw [← hR]
 have hta : Tj.tabAt F (q : Int) = x := by unfold Tj.tabAt Tj.at?; rw [if_pos (by omega), Int.toNat_natCast, hq]; rfl
 unfold Tj.ctabE at hR
 rw [hta] at hR
 obtain ⟨sz, hsz2⟩ : ∃ z, z = x.sz := ⟨_, rfl⟩
 rw [← hsz2] at ysz hR hsz
 have HRS := Lh hrs
 obtain ⟨te, hte⟩ : ∃ z, z = Tj.tcallE F q ⟨ca, ar⟩ := ⟨_, rfl⟩
 rw [← hte] at HTC hR
 have bx := aH W (.cells (Yq3 F a1 m1 a2 m2 a3 m3 a4 m4 tb tq m5 a6 m6 a7 m7 n7 a8 m8) 31)
 have k0 := alw (cQ 0 bx)
 have k1 := alw (cQ 1 bx)
 have k2 := alw (cQ 2 bx)
 have k3 := alw (cQ 3 bx)
 have k4 := alw (cQ 4 bx)
 have k5 := alw (cQ 5 bx)
 have k6 := alw (cQ 6 bx)
 have k7 := alw (cQ 7 bx)
 have k8 := alw (cQ 8 bx)
 clear bx
 have bx := aH (W.alloc (.cells (Yq3 F a1 m1 a2 m2 a3 m3 a4 m4 tb tq m5 a6 m6 a7 m7 n7 a8 m8) 31)) (.cells #[.int .i64 ca, .slice ga ar.length gc] 63)
 rw [szA] at bx
 have cb0 := alw (cQ 0 bx)
 have cb1 := alw (cQ 1 bx)
 clear bx
 clear hF hnm hhs hmd hregs has hts hss hct hdp hrs hd hq g0 g1 g2 g3 g4 g5 hta hsz2 hte
 by_cases hl : sz < rs.length
 ·have HE : Hid (R = 12) := Lh (by rw [hR, if_pos hl])
  have d1 : decide (sz < (rs.length : Int)) = true := dTt (by omega)
  clear hR
  go_enter Tryz.func105, Tryz.ntmps105
  go_wp2_with fail
  go_ret
  exact ⟨ret_int (by rw [HE.out]), grows⟩
 ·rw [if_neg hl] at hR
  have d1 : decide (sz < (rs.length : Int)) = false := dF (by omega)
  have HR := Lh hR
  clear hR
  go_enter Tryz.func105, Tryz.ntmps105
  go_wp2_with fail
  go_loopw [11, 28] (fun u c wr => ∃ k : Nat, k ≤ rs.length ∧ c = .int .i64 k ∧ ∃ n : Int, u = .int .i64 n ∧ Hid (Ext ((W.alloc (.cells (Yq3 F a1 m1 a2 m2 a3 m3 a4 m4 tb tq m5 a6 m6 a7 m7 n7 a8 m8) 31)).alloc (.cells #[.int .i64 ca, .slice ga ar.length gc] 63)) wr ∧ Tj.lastI 0 (rs.take k) = some n)) (fun _ c _ => rs.length - (intOf c).toNat)
  case atStart => exact ⟨0, Nat.zero_le _, rfl, 0, rfl, Lh ⟨eR _, rfl⟩⟩
  case round =>
   obtain ⟨k, hk, rfl, n, rfl, HZ⟩ := hrel
   have sx : Step ((W.alloc (.cells (Yq3 F a1 m1 a2 m2 a3 m3 a4 m4 tb tq m5 a6 m6 a7 m7 n7 a8 m8) 31)).alloc (.cells #[.int .i64 ca, .slice ga ar.length gc] 63)) wr := ⟨HZ.out.1⟩
   by_cases hlt : k < rs.length
   ·obtain ⟨r, hx⟩ : ∃ x, rs[k]? = some x := ⟨_, gE hlt⟩
    obtain ⟨b, o, rfl, _, _⟩ := Rows.at HRS.out (by omega)
    obtain ⟨ka, kc, ga2, gc2, hev, hid, g0, g1, g2, g3, g4⟩ := rws_at HRS.out k r hx rfl
    have y0 := alw g0
    have y1 := alw g1
    have y2 := alw g2
    have y3 := alw g3
    have y4 := alw g4
    have HL := Lh (Tj.lastI_at HZ.out.2 hx)
    have bx := aH wr (.cells #[.int .i64 r.id, .slice ka r.e.ks.length kc, .int .i64 r.e.pr, .int .i64 r.e.cl.a, .slice ga2 r.e.cl.ar.length gc2] 151)
    have rw0 := alw (cQ 0 bx)
    have rw1 := alw (cQ 1 bx)
    have rw2 := alw (cQ 2 bx)
    have rw3 := alw (cQ 3 bx)
    have rw4 := alw (cQ 4 bx)
    clear bx
    clear hx hev hid g0 g1 g2 g3 g4
    by_cases hle : r.id ≤ n
    ·have d2 : decide (r.id ≤ n) = true := dTt (by omega)
     have HE : Hid (R = 14) := Lh (by rw [HR.out, Tj.lastI_stop (by rw [HL.out, if_pos hle])])
     clear hle
     go_wp2_with fail
     go_ret
     exact ⟨ret_int (by rw [HE.out]), grows⟩
    ·have d2 : decide (r.id ≤ n) = false := dF (by omega)
     have HL2 : Hid (Tj.lastI 0 (rs.take (k + 1)) = some r.id) := Lh (by rw [HL.out, if_neg hle])
     clear hle
     go_wp2_with fail
     go_roundw
     case rel => exact ⟨k + 1, by omega, by go_num, r.id, rfl, Lh ⟨grows, HL2.out⟩⟩
     case measure => simp [intOf]; omega
   ·obtain rfl : k = rs.length := by omega
    have hla : Tj.lastI 0 rs = some n := by have h := HZ.out.2; rw [List.take_length] at h; exact h
    have hR2 : R = if nx ≤ n ∨ nx < 1 ∨ 1073741824 < nx then 14 else if Tj.firstE (Tj.rowE F q rs) (List.range rs.length) ≠ 0 then Tj.firstE (Tj.rowE F q rs) (List.range rs.length) else te := by rw [HR.out, hla]
    clear hla
    by_cases h1 : nx ≤ n
    ·have HE : Hid (R = 14) := Lh (by rw [hR2, if_pos (.inl h1)])
     have d2 : decide (nx ≤ n) = true := dTt (by omega)
     clear hR2
     go_wp2_with fail
     go_ret
     exact ⟨ret_int (by rw [HE.out]), grows⟩
    ·have d2 : decide (nx ≤ n) = false := dF (by omega)
     by_cases h2 : nx < 1
     ·have HE : Hid (R = 14) := Lh (by rw [hR2, if_pos (.inr (.inl h2))])
      have d3 : decide (nx < 1) = true := dTt (by omega)
      clear hR2
      go_wp2_with fail
      go_ret
      exact ⟨ret_int (by rw [HE.out]), grows⟩
     ·have d3 : decide (nx < 1) = false := dF (by omega)
      by_cases h3 : 1073741824 < nx
      ·have HE : Hid (R = 14) := Lh (by rw [hR2, if_pos (.inr (.inr h3))])
       have d4 : decide (1073741824 < nx) = true := dTt (by omega)
       clear hR2
       go_wp2_with fail
       go_ret
       exact ⟨ret_int (by rw [HE.out]), grows⟩
      ·have d4 : decide (1073741824 < nx) = false := dF (by omega)
       rw [if_neg (by omega)] at hR2
       have HR2 := Lh hR2
       clear hR2
       obtain ⟨w4, hw4⟩ : ∃ z : World, z = wr := ⟨_, rfl⟩
       have HW4 : Hid (Ext ((W.alloc (.cells (Yq3 F a1 m1 a2 m2 a3 m3 a4 m4 tb tq m5 a6 m6 a7 m7 n7 a8 m8) 31)).alloc (.cells #[.int .i64 ca, .slice ga ar.length gc] 63)) w4) := Lh (by rw [hw4]; exact HZ.out.1)
       subst hw4
       clear HZ
       go_wp2_with fail
       go_loopw [52] (fun c wr => ∃ k : Nat, k ≤ rs.length ∧ c = .int .i64 k ∧ Hid (Ext w4 wr ∧ ∀ j, j < k → Tj.rowE F q rs j = 0)) (fun c _ => rs.length - (intOf c).toNat)
       case atStart => exact ⟨0, Nat.zero_le _, rfl, Lh ⟨grows, by intro j hj; omega⟩⟩
       case round =>
        obtain ⟨k, hk, rfl, HZ⟩ := hrel
        have sx4 : Step ((W.alloc (.cells (Yq3 F a1 m1 a2 m2 a3 m3 a4 m4 tb tq m5 a6 m6 a7 m7 n7 a8 m8) 31)).alloc (.cells #[.int .i64 ca, .slice ga ar.length gc] 63)) w4 := ⟨HW4.out⟩
        have sx5 : Step w4 wr := ⟨HZ.out.1⟩
        by_cases hlt : k < rs.length
        ·obtain ⟨r, hx⟩ : ∃ x, rs[k]? = some x := ⟨_, gE hlt⟩
         obtain ⟨b, o, rfl, _, _⟩ := Rows.at HRS.out (by omega)
         obtain ⟨ka, kc, ga2, gc2, hev, hid, g0, g1, g2, g3, g4⟩ := rws_at HRS.out k r hx rfl
         have y0 := alw g0
         have y1 := alw g1
         have y2 := alw g2
         have y3 := alw g3
         have y4 := alw g4
         have HX := Lh hx
         have HRE := Lh (Tj.rowE_at (F := F) (t := q) hx)
         have brw := aH wr (.cells #[.int .i64 r.id, .slice ka r.e.ks.length kc, .int .i64 r.e.pr, .int .i64 r.e.cl.a, .slice ga2 r.e.cl.ar.length gc2] 151)
         have rw0 := alw (cQ 0 brw)
         have rw1 := alw (cQ 1 brw)
         have rw2 := alw (cQ 2 brw)
         have rw3 := alw (cQ 3 brw)
         have rw4 := alw (cQ 4 brw)
         have HEC : Hid (∀ w, Ext W w → Calls Tryz.prog 141 #[.agg (Yq3 F a1 m1 a2 m2 a3 m3 a4 m4 tb tq m5 a6 m6 a7 m7 n7 a8 m8), .int .i64 q, .agg #[.slice ka r.e.ks.length kc, .int .i64 r.e.pr, .int .i64 r.e.cl.a, .slice ga2 r.e.cl.ar.length gc2]] w (Rets w (.int .i64 (Tj.entE F q r.e)))) := Lh (fun w h => HEN.out r.e _ w h (hev.ext h))
         have hkl : (rs.take k).length = k := by rw [List.length_take]; omega
         have HCT := Lh (fun (w : World) (hw : Ext (wr.alloc (.cells #[.int .i64 r.id, .slice ka r.e.ks.length kc, .int .i64 r.e.pr, .int .i64 r.e.cl.a, .slice ga2 r.e.cl.ar.length gc2] 151)) w) => by
          have hxw : Ext W w := (grows (a := W) (b := wr.alloc (.cells #[.int .i64 r.id, .slice ka r.e.ks.length kc, .int .i64 r.e.pr, .int .i64 r.e.cl.a, .slice ga2 r.e.cl.ar.length gc2] 151))).trans hw
          have e := contR1_any (W := w) (pa := some ⟨b, o, none⟩) (pc := rc) (l := rs.take k) (e := r.e) (Tj.Rws.ext (Rows.take HRS.out (by omega)) hxw) (hev.ext hxw) wr.heap.size (cQ 1 (hw.heap brw)) (cQ 2 (hw.heap brw)) (cQ 3 (hw.heap brw)) (cQ 4 (hw.heap brw))
          rw [hkl] at e; exact e)
         have hkc : (k : Int) ≤ rc := by omega
         obtain ⟨ee, hee⟩ : ∃ z, z = Tj.entE F q r.e := ⟨_, rfl⟩
         obtain ⟨an, han⟩ : ∃ z, z = (rs.take k).any (fun x => Tj.sameK x.e r.e) := ⟨_, rfl⟩
         rw [← hee] at HEC HRE
         rw [← han] at HCT HRE
         have hmf : ∀ (fn : Fn) (first cap : Array Value) (w : World), (Instr.makeFunc fn first cap).run Tryz.prog w = .ok (.func fn first cap) w := fun _ _ _ _ => rfl
         clear hx hev hid g0 g1 g2 g3 g4 brw hkl hee han
         by_cases hz : ee = 0
         ·subst hz
          cases an with
          | false =>
           have HRE0 : Hid (Tj.rowE F q rs k = 0) := Lh (by rw [HRE.out]; rfl)
           go_wp2_with fail
           refine via (HEC.out _ grows) fun w7 xw7 sw7 => ?_
           go_wp2_with fail
           refine via (HCT.out _ grows) fun w8 xw8 sw8 => ?_
           go_wp2_with fail
           go_roundw
           case rel =>
            refine ⟨k + 1, by omega, by go_num, Lh ⟨grows, fun j hj => ?_⟩⟩
            rcases Nat.lt_or_ge j k with h1 | h1
            ·exact HZ.out.2 j h1
            ·obtain rfl : j = k := by omega
             exact HRE0.out
           case measure => simp [intOf]; omega
          | true =>
           have HE : Hid (R = 7) := Lh (by
            have e7 : Tj.rowE F q rs k = 7 := by rw [HRE.out]; rfl
            have e := rangeE_at hlt HZ.out.2 (by rw [e7]; decide)
            rw [HR2.out, if_pos (by rw [e, e7]; decide), e, e7])
           go_wp2_with fail
           refine via (HEC.out _ grows) fun w7 xw7 sw7 => ?_
           go_wp2_with fail
           refine via (HCT.out _ grows) fun w8 xw8 sw8 => ?_
           go_wp2_with fail
           go_ret
           exact ⟨ret_int (by rw [HE.out]), grows⟩
         ·have z1 : (ee != 0) = true := nT hz
          have HE : Hid (R = ee) := Lh (by
           have e7 : Tj.rowE F q rs k = ee := by rw [HRE.out, if_pos hz]
           have e := rangeE_at hlt HZ.out.2 (by rw [e7]; exact hz)
           rw [HR2.out, if_pos (by rw [e, e7]; exact hz), e, e7])
          clear hz
          go_wp2_with fail
          refine via (HEC.out _ grows) fun w7 xw7 sw7 => ?_
          go_wp2_with fail
          go_ret
          exact ⟨ret_int (by rw [HE.out]), grows⟩
        ·obtain rfl : k = rs.length := by omega
         have HE : Hid (R = te) := Lh (by rw [HR2.out, if_neg (by rw [rangeE_zero HZ.out.2]; simp)])
         go_wp2_with fail
         refine via (HTC.out _ grows) fun w7 xw7 sw7 => ?_
         go_wp2_with fail
         go_ret
         exact ⟨ret_int (by rw [HE.out]), grows⟩
theorem crows_at {w : World} {b o n c : Nat} {l : List (List Tj.Rw)} {oa : Option Addr} (h : Rows w 1 Tj.RwsR (.slice oa n c) l) (k : Nat) (x : List Tj.Rw) (hk : l[k]? = some x) (hoa : oa = some ⟨b, o, none⟩) :
 ∃ ra rc, Tj.Rws w (.slice ra x.length rc) x ∧ w.cell? ⟨b, o + k, none⟩ = some (.slice ra x.length rc) := by
 obtain ⟨b', o', e, _, h4⟩ := h.at (by have := (List.getElem?_eq_some_iff.1 hk).1; omega)
 rw [hoa] at e
 simp only [Option.some.injEq, Addr.mk.injEq, and_true] at e
 obtain ⟨rfl, rfl⟩ := e
 obtain ⟨cs, _, ⟨v, rfl, h1⟩, hc⟩ := h4 k x hk
 obtain ⟨ra, rc, rfl, _⟩ := h1.slice
 have := hc 0 _ rfl
 rw [Nat.mul_one, Nat.add_zero] at this
 exact ⟨ra, rc, h1, this⟩
theorem cls_at {w : World} {b o n c : Nat} {l : List Tj.Call} {oa : Option Addr} (h : Tj.Cls w (.slice oa n c) l) (k : Nat) (x : Tj.Call) (hk : l[k]? = some x) (hoa : oa = some ⟨b, o, none⟩) :
 ∃ ga gc, Tj.Us w (.slice ga x.ar.length gc) x.ar ∧ Tj.B64 x.a ∧ w.cell? ⟨b, o + k * 2, none⟩ = some (.int .i64 x.a) ∧ w.cell? ⟨b, o + k * 2 + 1, none⟩ = some (.slice ga x.ar.length gc) := by
 obtain ⟨b', o', e, _, h4⟩ := h.at (by have := (List.getElem?_eq_some_iff.1 hk).1; omega)
 rw [hoa] at e
 simp only [Option.some.injEq, Addr.mk.injEq, and_true] at e
 obtain ⟨rfl, rfl⟩ := e
 obtain ⟨cs, _, ⟨av, rfl, h1, h2⟩, hc⟩ := h4 k x hk
 obtain ⟨ga, gc, rfl⟩ := ns_slice h2.1
 exact ⟨ga, gc, h2, h1, hc 0 _ rfl, hc 1 _ rfl⟩
namespace Tj
def ctE (F : FP) (C : Cfg) (t : Nat) : Int := ctabE F t (C.rows.getD t []) (C.nx.getD t 0) (C.df.getD t ⟨0, []⟩)
/-- what is wrong with a configuration -/
def cfgE (F : FP) (C : Cfg) : Int :=
 if chkF F ≠ 0 then chkF F else if C.rows.length ≠ F.ts.length ∨ C.nx.length ≠ F.ts.length ∨ C.df.length ≠ F.ts.length then 2
 else if firstE (ctE F C) (List.range F.ts.length) ≠ 0 then firstE (ctE F C) (List.range F.ts.length) else Rg.cc F.rs C.rg
end Tj
abbrev Yq7 (r0 : Option Addr) (c0 : Nat) (C : Tj.Cfg) (r1 : Option Addr) (c1 : Nat) (r2 : Option Addr) (c2 : Nat) (r3 : Option Addr) (c3 : Nat) : Array Value := #[.slice r0 C.rows.length c0, .slice r1 C.nx.length c1, .slice r2 C.df.length c2, .slice r3 C.rg.length c3]
namespace Tj
theorem CfgV.form {w : World} {v : Value} {C : Cfg} (h : CfgV w v C) : ∃ r0 c0 r1 c1 r2 c2 r3 c3, v = .agg (Yq7 r0 c0 C r1 c1 r2 c2 r3 c3) ∧
 Rows w 1 RwsR (.slice r0 C.rows.length c0) C.rows ∧ Is w (.slice r1 C.nx.length c1) C.nx ∧ Cls w (.slice r2 C.df.length c2) C.df ∧ Rows w 1 RowR (.slice r3 C.rg.length c3) C.rg := by
 obtain ⟨v0, v1, v2, v3, rfl, h0, h1, h2, h3⟩ := h
 obtain ⟨r0, c0, rfl, _⟩ := h0.slice
 obtain ⟨r1, c1, rfl⟩ := ns_slice h1.1
 obtain ⟨r2, c2, rfl, _⟩ := h2.slice
 obtain ⟨r3, c3, rfl, _⟩ := h3.slice
 exact ⟨r0, c0, r1, c1, r2, c2, r3, c3, rfl, h0, h1, h2, h3⟩
end Tj
theorem scheck_any {W : World} {p : Pg.PV} {F : Tj.FP} (hG : Tj.IsG W p F) {cv : Value} {C : Tj.Cfg} (hC : Tj.CfgV W cv C) : Calls Tryz.prog 60 #[p.val, cv] W (Rets W (.int .i64 (Tj.cfgE F C))) := by
 have HPC := Lh (fun (w : World) (hx : Ext W w) => pcheck2_any (hG.ext hx))
 have HTB : Hid (∀ (q : Nat) (rv dv : Value) (rs : List Tj.Rw) (nx : Int) (d : Tj.Call) w, q < F.ts.length → Ext W w → Tj.Rws w rv rs → Tj.Us w dv d.ar → Calls Tryz.prog 105 #[p.val, .int .i64 q, rv, .int .i64 nx, .agg #[.int .i64 d.a, dv]] w (Rets w (.int .i64 (Tj.ctabE F q rs nx d)))) := Lh (fun q rv dv rs nx d w hq hx h1 h2 => ctab_any (hG.1.ext hx) q hq h1 nx d h2)
 obtain ⟨hF, _⟩ := hG
 obtain ⟨a1, a2, a3, a4, a5, a6, a7, a8, m1, m2, m3, m4, m5, m6, n7, m7, m8, hf⟩ := hF.form
 obtain ⟨rfl, hnm, hhs, hmd, hrs, has, hts, hss, hct, hdp, l1, l2, l3, l4, l5, l6, l7, l8⟩ := hf
 have HCC : Hid (∀ (v : Value) w, Ext W w → Rows w 1 RowR v C.rg → Calls Tryz.prog 106 #[.agg (Yq0 F a1 m1 a2 m2 a3 m3 a4 m4 a5 m5 a6 m6 a7 m7 n7 a8 m8), v] w (Rets w (.int .i64 (Rg.cc F.rs C.rg)))) := Lh (fun v w hx h => cc_any (W := w) (Rows.ext hrs (fun _ _ h => Rg.RegR.ext h hx) hx) h)
 obtain ⟨r0, c0, r1, c1, r2, c2, r3, c3, rfl, h0, h1, h2, h3⟩ := hC.form
 obtain ⟨R, hR⟩ : ∃ z, z = Tj.cfgE F C := ⟨_, rfl⟩
 dsimp only [Pg.PV.val] at *
 rw [← hR]
 unfold Tj.cfgE at hR
 obtain ⟨pe, hpe⟩ : ∃ z, z = Tj.chkF F := ⟨_, rfl⟩
 rw [← hpe] at HPC hR
 obtain ⟨rc, hrc⟩ : ∃ z, z = Rg.cc F.rs C.rg := ⟨_, rfl⟩
 rw [← hrc] at HCC hR
 have H0 := Lh h0
 have H1 := Lh h1
 have H2 := Lh h2
 have H3 := Lh h3
 have bx := aH W (.cells (Yq0 F a1 m1 a2 m2 a3 m3 a4 m4 a5 m5 a6 m6 a7 m7 n7 a8 m8) 31)
 have k0 := alw (cQ 0 bx)
 have k1 := alw (cQ 1 bx)
 have k2 := alw (cQ 2 bx)
 have k3 := alw (cQ 3 bx)
 have k4 := alw (cQ 4 bx)
 have k5 := alw (cQ 5 bx)
 have k6 := alw (cQ 6 bx)
 have k7 := alw (cQ 7 bx)
 have k8 := alw (cQ 8 bx)
 clear bx
 have bx := aH (W.alloc (.cells (Yq0 F a1 m1 a2 m2 a3 m3 a4 m4 a5 m5 a6 m6 a7 m7 n7 a8 m8) 31)) (.cells (Yq7 r0 c0 C r1 c1 r2 c2 r3 c3) 45)
 rw [szA] at bx
 have j0 := alw (cQ 0 bx)
 have j1 := alw (cQ 1 bx)
 have j2 := alw (cQ 2 bx)
 have j3 := alw (cQ 3 bx)
 clear bx
 clear hF hnm hhs hmd hrs has hts hss hct hdp
 clear h0 h1 h2 h3 hC hpe hrc
 by_cases hp0 : pe = 0
 ·subst hp0
  rw [if_neg (by simp)] at hR
  by_cases hl0 : C.rows.length = F.ts.length
  ·have e0 : ((C.rows.length : Int) != (F.ts.length : Int)) = false := by rw [hl0]; exact bne_self_eq_false _
   by_cases hl1 : C.nx.length = F.ts.length
   ·have e1 : ((C.nx.length : Int) != (F.ts.length : Int)) = false := by rw [hl1]; exact bne_self_eq_false _
    by_cases hl2 : C.df.length = F.ts.length
    ·have e2 : ((C.df.length : Int) != (F.ts.length : Int)) = false := by rw [hl2]; exact bne_self_eq_false _
     rw [if_neg (by simp [hl0, hl1, hl2])] at hR
     have HR := Lh hR
     have L0 := Lh hl0
     have L1 := Lh hl1
     have L2 := Lh hl2
     clear hR hl0 hl1 hl2
     go_enter Tryz.func60, Tryz.ntmps60
     go_wp2_with fail
     refine (HPC.out _ grows).mono ?_
     rintro e w3 ⟨d1, d2, d3, rfl, x3⟩
     have s3 := Sm x3
     go_wp2_with fail
     go_loopw [39] (fun q wr => ∃ k : Nat, k ≤ F.ts.length ∧ q = .int .i64 k ∧ Hid (Ext w3 wr ∧ ∀ j, j < k → Tj.ctE F C j = 0)) (fun q _ => F.ts.length - (intOf q).toNat)
     case atStart => exact ⟨0, Nat.zero_le _, rfl, Lh ⟨grows, by intro j hj; omega⟩⟩
     case round =>
      obtain ⟨k, hk, rfl, HZ⟩ := hrel
      have sx : Step w3 wr := ⟨HZ.out.1⟩
      by_cases hlt : k < F.ts.length
      ·have hk0 : k < C.rows.length := by rw [L0.out]; exact hlt
       have hk1 : k < C.nx.length := by rw [L1.out]; exact hlt
       have hk2 : k < C.df.length := by rw [L2.out]; exact hlt
       obtain ⟨rs, hx0⟩ : ∃ x, C.rows[k]? = some x := ⟨_, gE hk0⟩
       obtain ⟨nx, hx1⟩ : ∃ x, C.nx[k]? = some x := ⟨_, gE hk1⟩
       obtain ⟨⟨da, dr⟩, hx2⟩ : ∃ x, C.df[k]? = some x := ⟨_, gE hk2⟩
       obtain ⟨b0, o0, rfl, _, _⟩ := Rows.at H0.out (by omega)
       obtain ⟨b1, o1, rfl, hc1⟩ := ns_at H1.out.1 (by omega)
       obtain ⟨b2, o2, rfl, _, _⟩ := Rows.at H2.out (by omega)
       obtain ⟨ra, rcc, hrws, g0⟩ := crows_at H0.out k rs hx0 rfl
       have y1 := hc1 k nx hx1
       obtain ⟨ga, gc, hus, _, g1, g2⟩ := cls_at H2.out k _ hx2 rfl
       dsimp only at hus g1 g2
       have y0 := alw g0
       have y2 := alw g1
       have y3 := alw g2
       have hct : Tj.ctE F C k = Tj.ctabE F k rs nx ⟨da, dr⟩ := by unfold Tj.ctE; rw [List.getD_eq_getElem?_getD, List.getD_eq_getElem?_getD, List.getD_eq_getElem?_getD, hx0, hx1, hx2]; rfl
       obtain ⟨te, hte⟩ : ∃ z, z = Tj.ctabE F k rs nx ⟨da, dr⟩ := ⟨_, rfl⟩
       have HCT := Lh (fun (w : World) (hx : Ext W w) => by
        have h := HTB.out k _ _ rs nx ⟨da, dr⟩ w hlt hx (hrws.ext hx) (hus.ext hx)
        rw [← hte] at h; exact h)
       rw [← hte] at hct
       have HTE := Lh hct
       have q0 : ¬ ((C.rows.length : Int) ≤ k) := by omega
       have q1 : ¬ ((C.nx.length : Int) ≤ k) := by omega
       have q2 : ¬ ((C.df.length : Int) ≤ k) := by omega
       clear hx0 hx1 hx2 hc1 hrws hus g0 g1 g2 hte hct
       by_cases hz : te = 0
       ·subst hz
        go_wp2_with fail
        refine wp_region_later (W := wr) (by kernel_rfl) (by kernel_rfl) (eR _) ?_
        repeat (go_big_quiet_step (first | (go_at_call 105; exact Rets.later_at (HCT.out _ grows)) | fail))
        refine wpQuiet_nil ?_
        intro w9 hx9
        have s9 := Sm hx9
        go_wp2_with fail
        go_roundw
        case rel =>
         refine ⟨k + 1, by omega, by go_num, Lh ⟨grows, fun j hj => ?_⟩⟩
         rcases Nat.lt_or_ge j k with h1 | h1
         ·exact HZ.out.2 j h1
         ·obtain rfl : j = k := by omega
          exact HTE.out
        case measure => simp [intOf]; omega
       ·have z1 : (te != 0) = true := nT hz
        have HE : Hid (R = te) := Lh (by
         have e := rangeE_at hlt HZ.out.2 (by rw [HTE.out]; exact hz)
         rw [HR.out, if_pos (by rw [e, HTE.out]; exact hz), e, HTE.out])
        clear hz
        go_wp2_with fail
        refine wp_region_later (W := wr) (by kernel_rfl) (by kernel_rfl) (eR _) ?_
        repeat (go_big_quiet_step (first | (go_at_call 105; exact Rets.later_at (HCT.out _ grows)) | fail))
        refine wpQuiet_nil ?_
        intro w9 hx9
        have s9 := Sm hx9
        go_wp2_with fail
        go_ret
        exact ⟨ret_int (by rw [HE.out]), grows⟩
      ·obtain rfl : k = F.ts.length := by omega
       have HE : Hid (R = rc) := Lh (by rw [HR.out, if_neg (by rw [rangeE_zero HZ.out.2]; simp)])
       go_wp2_with fail
       refine via (HCC.out _ _ grows (Rows.ext H3.out (fun _ _ h => h.ext grows) grows)) fun w7 x7 s7 => ?_
       go_wp2_with fail
       go_ret
       exact ⟨ret_int (by rw [HE.out]), grows⟩
    ·have e2 : ((C.df.length : Int) != (F.ts.length : Int)) = true := nT (by omega)
     have HE : Hid (R = 2) := Lh (by rw [hR, if_pos (.inr (.inr hl2))])
     clear hR hl0 hl1 hl2
     go_enter Tryz.func60, Tryz.ntmps60
     go_wp2_with fail
     refine (HPC.out _ grows).mono ?_
     rintro e w3 ⟨d1, d2, d3, rfl, x3⟩
     have s3 := Sm x3
     go_wp2_with fail
     go_ret
     exact ⟨ret_int (by rw [HE.out]), grows⟩
   ·have e1 : ((C.nx.length : Int) != (F.ts.length : Int)) = true := nT (by omega)
    have HE : Hid (R = 2) := Lh (by rw [hR, if_pos (.inr (.inl hl1))])
    clear hR hl0 hl1
    go_enter Tryz.func60, Tryz.ntmps60
    go_wp2_with fail
    refine (HPC.out _ grows).mono ?_
    rintro e w3 ⟨d1, d2, d3, rfl, x3⟩
    have s3 := Sm x3
    go_wp2_with fail
    go_ret
    exact ⟨ret_int (by rw [HE.out]), grows⟩
  ·have e0 : ((C.rows.length : Int) != (F.ts.length : Int)) = true := nT (by omega)
   have HE : Hid (R = 2) := Lh (by rw [hR, if_pos (.inl hl0)])
   clear hR hl0
   go_enter Tryz.func60, Tryz.ntmps60
   go_wp2_with fail
   refine (HPC.out _ grows).mono ?_
   rintro e w3 ⟨d1, d2, d3, rfl, x3⟩
   have s3 := Sm x3
   go_wp2_with fail
   go_ret
   exact ⟨ret_int (by rw [HE.out]), grows⟩
 ·have z0 : (pe != 0) = true := nT hp0
  have HE : Hid (R = pe) := Lh (by rw [hR, if_pos hp0])
  clear hR hp0
  go_enter Tryz.func60, Tryz.ntmps60
  go_wp2_with fail
  refine (HPC.out _ grows).mono ?_
  rintro e w3 ⟨d1, d2, d3, rfl, x3⟩
  have s3 := Sm x3
  go_wp2_with fail
  go_ret
  exact ⟨ret_int (by rw [HE.out]), grows⟩
end Go.Proofs.YthmokhkkdgnbhaaGreat
