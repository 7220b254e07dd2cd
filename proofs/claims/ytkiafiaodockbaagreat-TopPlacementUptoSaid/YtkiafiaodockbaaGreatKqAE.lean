/- Actions: width, value, statement, walked. Actions: declaration, walked. Actions: Check, CheckCall, walked. No condition. -/
import Derived.Test.YtkiafiaodockbaaGreatKqAD
set_option maxRecDepth 8000
set_option maxHeartbeats 16000000
namespace Go.Proofs.YtkiafiaodockbaaGreat
open Go.RowKit
namespace Tj
def wdV : Option Hd.Fld → Value
 | some f => .tuple #[.int .i64 f.2, .bool true]
 | none => .tuple #[.int .i64 0, .bool false]
end Tj
abbrev Yq0 (F : Tj.FP) (a1 : Option Addr) (m1 : Nat) (a2 : Option Addr) (m2 : Nat) (a3 : Option Addr) (m3 : Nat) (a4 : Option Addr) (m4 : Nat) (a5 : Option Addr) (m5 : Nat) (a6 : Option Addr) (m6 : Nat) (a7 : Option Addr) (m7 : Nat) (n7 : Nat) (a8 : Option Addr) (m8 : Nat) : Array Value := #[.string F.nm, .slice a1 F.P.hs.length m1, .slice a2 F.P.md.length m2, .slice a3 F.rs.length m3, .slice a4 F.ac.length m4, .slice a5 F.ts.length m5, .slice a6 F.ss.length m6, .slice a7 n7 m7, .slice a8 F.P.dp.length m8]
abbrev Yq14 (sk : Int) (sh : Int) (sf : Int) (sr : Int) (sd : Int) (xa : Option Addr) (xc : Nat) (ix_length : Nat) (va : Option Addr) (vc : Nat) (vl_length : Nat) : Array Value := #[.int .i64 sk, .int .i64 sh, .int .i64 sf, .int .i64 sr, .int .i64 sd, .slice xa ix_length xc, .slice va vl_length vc]
theorem awidth_any {W : World} {p : Pg.PV} {F : Tj.FP} (hF : Tj.IsF W p F) (h i : Int) : Calls Tryz.prog 109 #[p.val, .agg #[.int .i64 h, .int .i64 i]] W (Rets W (Tj.wdV (Tj.fld F.P h i))) := by
 obtain ⟨a1, a2, a3, a4, a5, a6, a7, a8, m1, m2, m3, m4, m5, m6, n7, m7, m8, hf⟩ := hF.form
 obtain ⟨rfl, hnm, hhs, hmd, hrs, has, hts, hss, hct, hdp, l1, l2, l3, l4, l5, l6, l7, l8⟩ := hf
 obtain ⟨R, hR⟩ : ∃ z, z = Tj.fld F.P h i := ⟨_, rfl⟩
 rw [← hR]
 dsimp only [Pg.PV.val]
 have bx := aH W (.cells (Yq0 F a1 m1 a2 m2 a3 m3 a4 m4 a5 m5 a6 m6 a7 m7 n7 a8 m8) 31)
 have k0 := alw (cQ 0 bx)
 have k1 := alw (cQ 1 bx)
 have k2 := alw (cQ 2 bx)
 have k3 := alw (cQ 3 bx)
 have k4 := alw (cQ 4 bx)
 have k5 := alw (cQ 5 bx)
 have k6 := alw (cQ 6 bx)
 have k7 := alw (cQ 7 bx)
 have k8 := alw (cQ 8 bx)
 clear bx
 have bx := aH (W.alloc (.cells (Yq0 F a1 m1 a2 m2 a3 m3 a4 m4 a5 m5 a6 m6 a7 m7 n7 a8 m8) 31)) (.cells #[.int .i64 h, .int .i64 i] 88)
 rw [szA] at bx
 have j0 := alw (cQ 0 bx)
 have j1 := alw (cQ 1 bx)
 clear bx
 unfold Tj.fld at hR
 by_cases hh : h = -1
 ·subst hh
  have hfl : Tj.fls F.P (-1) = some F.P.md := by unfold Tj.fls; rw [if_pos rfl]
  by_cases hi0 : i < 0
  ·have HE : Hid (R = none) := Lh (by rw [hR, hfl]; exact Tj.at_none (.inl hi0))
   have d1 : decide (i < 0) = true := dTt (by omega)
   clear hR hfl
   clear hF hnm hhs hmd hrs has hts hss hct hdp
   go_enter Tryz.func109, Tryz.ntmps109
   go_wp2_with fail
   go_ret2
   exact ⟨by rw [HE.out]; rfl, grows⟩
  ·by_cases hi1 : (F.P.md.length : Int) ≤ i
   ·have HE : Hid (R = none) := Lh (by rw [hR, hfl]; exact Tj.at_none (.inr hi1))
    have d1 : decide (i < 0) = false := dF (by omega)
    have d2 : decide ((F.P.md.length : Int) ≤ i) = true := dTt (by omega)
    clear hR hfl
    clear hF hnm hhs hmd hrs has hts hss hct hdp
    go_enter Tryz.func109, Tryz.ntmps109
    go_wp2_with fail
    go_ret2
    exact ⟨by rw [HE.out]; rfl, grows⟩
   ·obtain ⟨k, rfl⟩ := Int.eq_ofNat_of_zero_le (show 0 ≤ i by omega)
    have hkl : k < F.P.md.length := by omega
    obtain ⟨⟨nk, xk⟩, hxk⟩ : ∃ x, F.P.md[k]? = some x := ⟨_, gE hkl⟩
    have HE : Hid (R = some (nk, xk)) := Lh (by rw [hR, hfl]; show Tj.at? _ _ = _; unfold Tj.at?; rw [if_pos (by omega), Int.toNat_natCast]; exact hxk)
    obtain ⟨fb, fo, rfl, _, _⟩ := Rows.at hmd (by omega)
    obtain ⟨u0, u1, _⟩ := flds_at hmd k nk xk hxk rfl
    have d1 : decide ((k : Int) < 0) = false := dF (by omega)
    have d2 : decide ((F.P.md.length : Int) ≤ (k : Int)) = false := dF (by omega)
    clear hR hfl hxk
    clear hF hnm hhs hmd hrs has hts hss hct hdp
    go_enter Tryz.func109, Tryz.ntmps109
    go_wp2_with fail
    go_ret2
    exact ⟨by rw [HE.out]; rfl, grows⟩
 ·have e1 : (h != -1) = true := nT hh
  by_cases h0 : h < 0
  ·have HE : Hid (R = none) := Lh (by rw [hR]; unfold Tj.fls; rw [if_neg hh, Tj.at_none (.inl h0)]; rfl)
   have d0 : decide (h < 0) = true := dTt (by omega)
   clear hR
   clear hF hnm hhs hmd hrs has hts hss hct hdp
   go_enter Tryz.func109, Tryz.ntmps109
   go_wp2_with fail
   go_ret2
   exact ⟨by rw [HE.out]; rfl, grows⟩
  ·by_cases h1 : (F.P.hs.length : Int) ≤ h
   ·have HE : Hid (R = none) := Lh (by rw [hR]; unfold Tj.fls; rw [if_neg hh, Tj.at_none (.inr h1)]; rfl)
    have d0 : decide (h < 0) = false := dF (by omega)
    have d3 : decide ((F.P.hs.length : Int) ≤ h) = true := dTt (by omega)
    clear hR
    clear hF hnm hhs hmd hrs has hts hss hct hdp
    go_enter Tryz.func109, Tryz.ntmps109
    go_wp2_with fail
    go_ret2
    exact ⟨by rw [HE.out]; rfl, grows⟩
   ·obtain ⟨q, rfl⟩ := Int.eq_ofNat_of_zero_le (show 0 ≤ h by omega)
    have hql : q < F.P.hs.length := by omega
    obtain ⟨⟨hn, fs⟩, hxq⟩ : ∃ x, F.P.hs[q]? = some x := ⟨_, gE hql⟩
    have hfl : Tj.fls F.P q = some fs := by unfold Tj.fls; rw [if_neg (by omega)]; unfold Tj.at?; rw [if_pos (by omega), Int.toNat_natCast, hxq]; rfl
    obtain ⟨hb, ho, rfl, _, _⟩ := Rows.at hhs (by omega)
    obtain ⟨fa, fc, v0, v1, _, hfs, lf, lf'⟩ := hdrs_at hhs q hn fs hxq rfl
    unfold maxLen at lf'
    have d0 : decide ((q : Int) < 0) = false := dF (by omega)
    have d3 : decide ((F.P.hs.length : Int) ≤ (q : Int)) = false := dF (by omega)
    clear hxq hh h0 h1
    by_cases hi0 : i < 0
    ·have HE : Hid (R = none) := Lh (by rw [hR, hfl]; exact Tj.at_none (.inl hi0))
     have d1 : decide (i < 0) = true := dTt (by omega)
     clear hR hfl
     clear hF hnm hhs hmd hrs has hts hss hct hdp
     clear hfs
     go_enter Tryz.func109, Tryz.ntmps109
     go_wp2_with fail
     go_ret2
     exact ⟨by rw [HE.out]; rfl, grows⟩
    ·by_cases hi1 : (fs.length : Int) ≤ i
     ·have HE : Hid (R = none) := Lh (by rw [hR, hfl]; exact Tj.at_none (.inr hi1))
      have d1 : decide (i < 0) = false := dF (by omega)
      have d2 : decide ((fs.length : Int) ≤ i) = true := dTt (by omega)
      clear hR hfl
      clear hF hnm hhs hmd hrs has hts hss hct hdp
      clear hfs
      go_enter Tryz.func109, Tryz.ntmps109
      go_wp2_with fail
      go_ret2
      exact ⟨by rw [HE.out]; rfl, grows⟩
     ·obtain ⟨k, rfl⟩ := Int.eq_ofNat_of_zero_le (show 0 ≤ i by omega)
      have hkl : k < fs.length := by omega
      obtain ⟨⟨nk, xk⟩, hxk⟩ : ∃ x, fs[k]? = some x := ⟨_, gE hkl⟩
      have HE : Hid (R = some (nk, xk)) := Lh (by rw [hR, hfl]; show Tj.at? _ _ = _; unfold Tj.at?; rw [if_pos (by omega), Int.toNat_natCast]; exact hxk)
      obtain ⟨fb, fo, rfl, _, _⟩ := Rows.at hfs (by omega)
      obtain ⟨u0, u1, _⟩ := flds_at hfs k nk xk hxk rfl
      have d1 : decide ((k : Int) < 0) = false := dF (by omega)
      have d2 : decide ((fs.length : Int) ≤ (k : Int)) = false := dF (by omega)
      clear hR hfl hxk
      clear hF hnm hhs hmd hrs has hts hss hct hdp
      clear hfs
      go_enter Tryz.func109, Tryz.ntmps109
      go_wp2_with fail
      go_ret2
      exact ⟨by rw [HE.out]; rfl, grows⟩
theorem value_any {W : World} {p : Pg.PV} {F : Tj.FP} (hF : Tj.IsF W p F) {pv : Value} {ps : List Hd.Fld} (hps : Hd.Flds W pv ps) {nv : Value} {l : List Tj.EN} (hl : Tj.Exp W nv l) (x : Int) : Calls Tryz.prog 110 #[Tj.scv p pv, nv, .int .i64 x] W (Rets W (.int .i64 (Tj.valE F.P ps l x))) := by
 have HCK := Lh (fun (w : World) (hx : Ext W w) => xcheck_any (hF.ext hx) (hps.ext hx) (hl.ext hx))
 obtain ⟨a1, a2, a3, a4, a5, a6, a7, a8, m1, m2, m3, m4, m5, m6, n7, m7, m8, hf⟩ := hF.form
 obtain ⟨rfl, hnm, hhs, hmd, hrs, has, hts, hss, hct, hdp, l1, l2, l3, l4, l5, l6, l7, l8⟩ := hf
 obtain ⟨pa, pc, rfl, lp, lp'⟩ := hps.slice
 unfold maxLen at lp'
 obtain ⟨na, nc, rfl, ln, ln'⟩ := hl.slice
 obtain ⟨R, hR⟩ : ∃ z, z = Tj.valE F.P ps l x := ⟨_, rfl⟩
 rw [← hR]
 unfold Tj.valE at hR
 dsimp only [Tj.scv] at HCK ⊢
 have bx := aH W (.cells (Yq3 F a1 m1 a2 m2 a3 m3 a4 m4 a5 m5 a6 m6 a7 m7 n7 a8 m8 pa pc ps.length) 167)
 have k0 := alw (cQ 0 bx)
 have k1 := alw (cQ 1 bx)
 have k2 := alw (cQ 2 bx)
 have k3 := alw (cQ 3 bx)
 have k4 := alw (cQ 4 bx)
 have k5 := alw (cQ 5 bx)
 have k6 := alw (cQ 6 bx)
 have k7 := alw (cQ 7 bx)
 have k8 := alw (cQ 8 bx)
 have k9 := alw (cQ 9 bx)
 clear bx
 clear hps hl
 clear hF hnm hhs hmd hrs has hts hss hct hdp
 obtain ⟨⟨g, e⟩, hr⟩ : ∃ z, z = Tj.xchk F.P ps l := ⟨_, rfl⟩
 rw [← hr] at HCK hR
 dsimp only at HCK hR
 clear hr
 by_cases h0 : e = 0
 ·subst h0
  by_cases h1 : g = x
  ·subst h1
   have HE : Hid (R = 0) := Lh (by rw [hR, if_neg (by simp)])
   have z1 : (g != g) = false := bne_self_eq_false g
   clear hR
   go_enter Tryz.func110, Tryz.ntmps110
   go_wp2_with fail
   refine via (HCK.out _ grows) fun w2 xw2 sw2 => ?_
   go_wp2_with fail
   go_ret
   exact ⟨ret_int (by rw [HE.out]), grows⟩
  ·have HE : Hid (R = 10) := Lh (by rw [hR, if_pos ⟨rfl, h1⟩])
   have z1 : (g != x) = true := nT h1
   clear hR h1
   go_enter Tryz.func110, Tryz.ntmps110
   go_wp2_with fail
   refine via (HCK.out _ grows) fun w2 xw2 sw2 => ?_
   go_wp2_with fail
   go_ret
   exact ⟨ret_int (by rw [HE.out]), grows⟩
 ·have HE : Hid (R = e) := Lh (by rw [hR, if_neg (fun h => h0 h.1)])
  have z1 : (e == 0) = false := bF h0
  clear hR h0
  go_enter Tryz.func110, Tryz.ntmps110
  go_wp2_with fail
  refine via (HCK.out _ grows) fun w2 xw2 sw2 => ?_
  go_wp2_with fail
  go_ret
  exact ⟨ret_int (by rw [HE.out]), grows⟩
theorem stm_any {W : World} {p : Pg.PV} {F : Tj.FP} (hF : Tj.IsF W p F) {pv : Value} {ps : List Hd.Fld} (hps : Hd.Flds W pv ps) (s : Tj.Stm) {xv vv : Value} (hxx : Tj.Exp W xv s.ix) (hvv : Tj.Exp W vv s.va) : Calls Tryz.prog 75 #[Tj.scv p pv, .agg #[.int .i64 s.k, .int .i64 s.dh, .int .i64 s.df, .int .i64 s.rg, .int .i64 s.hd, xv, vv]] W (Rets W (.int .i64 (Tj.stmE F ps s))) := by
 have HCK := Lh (fun (w : World) (hx : Ext W w) => xcheck_any (hF.ext hx) (hps.ext hx) (hxx.ext hx))
 have HV : Hid (∀ x w, Ext W w → Calls Tryz.prog 110 #[Tj.scv p pv, vv, .int .i64 x] w (Rets w (.int .i64 (Tj.valE F.P ps s.va x)))) := Lh (fun x w hx => value_any (hF.ext hx) (hps.ext hx) (hvv.ext hx) x)
 have HWD := Lh (fun (w : World) (hx : Ext W w) => awidth_any (hF.ext hx) s.dh s.df)
 obtain ⟨a1, a2, a3, a4, a5, a6, a7, a8, m1, m2, m3, m4, m5, m6, n7, m7, m8, hf⟩ := hF.form
 obtain ⟨rfl, hnm, hhs, hmd, hrs, has, hts, hss, hct, hdp, l1, l2, l3, l4, l5, l6, l7, l8⟩ := hf
 obtain ⟨pa, pc, rfl, lp, lp'⟩ := hps.slice
 unfold maxLen at lp'
 obtain ⟨xa, xc, rfl, ln, ln'⟩ := hxx.slice
 obtain ⟨va, vc, rfl, lv, lv'⟩ := hvv.slice
 obtain ⟨sk, sh, sf, sr, sd, ix, vl⟩ := s
 obtain ⟨R, hR⟩ : ∃ z, z = Tj.stmE F ps ⟨sk, sh, sf, sr, sd, ix, vl⟩ := ⟨_, rfl⟩
 rw [← hR]
 unfold Tj.stmE at hR
 dsimp only [Tj.scv, Pg.PV.val] at HCK HV HWD hR ⊢
 have bx := aH W (.cells (Yq3 F a1 m1 a2 m2 a3 m3 a4 m4 a5 m5 a6 m6 a7 m7 n7 a8 m8 pa pc ps.length) 167)
 have k0 := alw (cQ 0 bx)
 have k1 := alw (cQ 1 bx)
 have k2 := alw (cQ 2 bx)
 have k3 := alw (cQ 3 bx)
 have k4 := alw (cQ 4 bx)
 have k5 := alw (cQ 5 bx)
 have k6 := alw (cQ 6 bx)
 have k7 := alw (cQ 7 bx)
 have k8 := alw (cQ 8 bx)
 have k9 := alw (cQ 9 bx)
 clear bx
 have bx := aH (W.alloc (.cells (Yq3 F a1 m1 a2 m2 a3 m3 a4 m4 a5 m5 a6 m6 a7 m7 n7 a8 m8 pa pc ps.length) 167)) (.cells (Yq14 sk sh sf sr sd xa xc ix.length va vc vl.length) 90)
 rw [szA] at bx
 have j0 := alw (cQ 0 bx)
 have j1 := alw (cQ 1 bx)
 have j2 := alw (cQ 2 bx)
 have j3 := alw (cQ 3 bx)
 have j4 := alw (cQ 4 bx)
 have j5 := alw (cQ 5 bx)
 have j6 := alw (cQ 6 bx)
 clear bx
 have bx := aH ((W.alloc (.cells (Yq3 F a1 m1 a2 m2 a3 m3 a4 m4 a5 m5 a6 m6 a7 m7 n7 a8 m8 pa pc ps.length) 167)).alloc (.cells (Yq14 sk sh sf sr sd xa xc ix.length va vc vl.length) 90)) (.cells (Yq0 F a1 m1 a2 m2 a3 m3 a4 m4 a5 m5 a6 m6 a7 m7 n7 a8 m8) 31)
 rw [szA, szA] at bx
 have i0 := alw (cQ 0 bx)
 have i1 := alw (cQ 1 bx)
 have i2 := alw (cQ 2 bx)
 have i3 := alw (cQ 3 bx)
 have i4 := alw (cQ 4 bx)
 have i5 := alw (cQ 5 bx)
 have i6 := alw (cQ 6 bx)
 have i7 := alw (cQ 7 bx)
 have i8 := alw (cQ 8 bx)
 clear bx
 clear hps hxx hvv hF hnm hhs hmd has hts hss hct hdp
 obtain ⟨o, ho⟩ : ∃ z, z = Tj.fld F.P sh sf := ⟨_, rfl⟩
 rw [← ho] at HWD hR
 clear ho
 by_cases h1 : sk = 1
 ·subst h1
  rw [if_pos rfl] at hR
  clear HCK hrs
  cases o with
  | none =>
   have HE := Lh hR
   clear hR HV
   dsimp only [Tj.wdV] at HWD
   by_cases hr0 : 0 ≤ sr
   ·have d1 : decide (0 ≤ sr) = true := dTt (by omega)
    go_enter Tryz.func75, Tryz.ntmps75
    go_wp2_with fail
    refine via (HWD.out _ grows) fun w4 xw4 sw4 => ?_
    go_wp2_with fail
    go_ret
    exact ⟨ret_int (by rw [HE.out]), grows⟩
   ·have d1 : decide (0 ≤ sr) = false := dF (by omega)
    go_enter Tryz.func75, Tryz.ntmps75
    go_wp2_with fail
    refine via (HWD.out _ grows) fun w4 xw4 sw4 => ?_
    go_wp2_with fail
    go_ret
    exact ⟨ret_int (by rw [HE.out]), grows⟩
  | some fx =>
   have HE := Lh hR
   obtain ⟨fn, fw⟩ := fx
   clear hR
   dsimp only [Tj.wdV] at HWD HE
   by_cases hr0 : 0 ≤ sr
   ·have d1 : decide (0 ≤ sr) = true := dTt (by omega)
    go_enter Tryz.func75, Tryz.ntmps75
    go_wp2_with fail
    refine via (HWD.out _ grows) fun w4 xw4 sw4 => ?_
    go_wp2_with fail
    refine via (HV.out fw _ grows) fun w5 xw5 sw5 => ?_
    go_wp2_with fail
    go_ret
    exact ⟨ret_int (by rw [HE.out]), grows⟩
   ·have d1 : decide (0 ≤ sr) = false := dF (by omega)
    go_enter Tryz.func75, Tryz.ntmps75
    go_wp2_with fail
    refine via (HWD.out _ grows) fun w4 xw4 sw4 => ?_
    go_wp2_with fail
    refine via (HV.out fw _ grows) fun w5 xw5 sw5 => ?_
    go_wp2_with fail
    go_ret
    exact ⟨ret_int (by rw [HE.out]), grows⟩
 ·rw [if_neg h1] at hR
  have q1 : (sk == 1) = false := bF (by omega)
  by_cases h23 : sk = 2 ∨ sk = 3
  ·rw [if_pos h23] at hR
   have HO : Hid (∃ a b, Tj.wdV o = .tuple #[.int .i64 a, .bool b]) := Lh (by cases o with | none => exact ⟨_, _, rfl⟩ | some x => exact ⟨_, _, rfl⟩)
   obtain ⟨oa, ob, ho⟩ := HO.out
   rw [ho] at HWD
   clear HO ho HCK HV hrs
   by_cases hd0 : sd < 0
   ·have HE : Hid (R = 8) := Lh (by rw [hR, if_pos (.inl hd0)])
    have e1 : decide (sd < 0) = true := dTt (by omega)
    clear hR hd0 h1
    rcases h23 with rfl | rfl
    all_goals
     by_cases hr0 : 0 ≤ sr
     ·have d1 : decide (0 ≤ sr) = true := dTt (by omega)
      go_enter Tryz.func75, Tryz.ntmps75
      go_wp2_with fail
      refine via (HWD.out _ grows) fun w4 xw4 sw4 => ?_
      go_wp2_with fail
      go_ret
      exact ⟨ret_int (by rw [HE.out]), grows⟩
     ·have d1 : decide (0 ≤ sr) = false := dF (by omega)
      go_enter Tryz.func75, Tryz.ntmps75
      go_wp2_with fail
      refine via (HWD.out _ grows) fun w4 xw4 sw4 => ?_
      go_wp2_with fail
      go_ret
      exact ⟨ret_int (by rw [HE.out]), grows⟩
   ·have e1 : decide (sd < 0) = false := dF (by omega)
    by_cases hd1 : (F.P.hs.length : Int) ≤ sd
    ·have HE : Hid (R = 8) := Lh (by rw [hR, if_pos (.inr hd1)])
     have e2 : decide ((F.P.hs.length : Int) ≤ sd) = true := dTt (by omega)
     clear hR hd0 hd1 h1
     rcases h23 with rfl | rfl
     all_goals
      by_cases hr0 : 0 ≤ sr
      ·have d1 : decide (0 ≤ sr) = true := dTt (by omega)
       go_enter Tryz.func75, Tryz.ntmps75
       go_wp2_with fail
       refine via (HWD.out _ grows) fun w4 xw4 sw4 => ?_
       go_wp2_with fail
       go_ret
       exact ⟨ret_int (by rw [HE.out]), grows⟩
      ·have d1 : decide (0 ≤ sr) = false := dF (by omega)
       go_enter Tryz.func75, Tryz.ntmps75
       go_wp2_with fail
       refine via (HWD.out _ grows) fun w4 xw4 sw4 => ?_
       go_wp2_with fail
       go_ret
       exact ⟨ret_int (by rw [HE.out]), grows⟩
    ·have HE : Hid (R = 0) := Lh (by rw [hR, if_neg (by omega)])
     have e2 : decide ((F.P.hs.length : Int) ≤ sd) = false := dF (by omega)
     clear hR hd0 hd1 h1
     rcases h23 with rfl | rfl
     all_goals
      by_cases hr0 : 0 ≤ sr
      ·have d1 : decide (0 ≤ sr) = true := dTt (by omega)
       go_enter Tryz.func75, Tryz.ntmps75
       go_wp2_with fail
       refine via (HWD.out _ grows) fun w4 xw4 sw4 => ?_
       go_wp2_with fail
       go_ret
       exact ⟨ret_int (by rw [HE.out]), grows⟩
      ·have d1 : decide (0 ≤ sr) = false := dF (by omega)
       go_enter Tryz.func75, Tryz.ntmps75
       go_wp2_with fail
       refine via (HWD.out _ grows) fun w4 xw4 sw4 => ?_
       go_wp2_with fail
       go_ret
       exact ⟨ret_int (by rw [HE.out]), grows⟩
  ·rw [if_neg h23] at hR
   have q2 : (sk == 2) = false := bF (by omega)
   have q3 : (sk == 3) = false := bF (by omega)
   clear h23
   by_cases h4 : sk = 4
   ·subst h4
    rw [if_pos rfl] at hR
    by_cases hr0 : 0 ≤ sr
    ·have d1 : decide (0 ≤ sr) = true := dTt (by omega)
     by_cases hr1 : sr < F.rs.length
     ·
      obtain ⟨q, rfl⟩ := Int.eq_ofNat_of_zero_le hr0
      obtain ⟨rb, ro, rfl, _, _⟩ := Rows.at hrs (by omega)
      obtain ⟨⟨rn, rw_, rz⟩, hq⟩ : ∃ r, F.rs[q]? = some r := ⟨_, gE (by omega)⟩
      obtain ⟨g0, g1, g2, _⟩ := regs_at hrs q _ hq rfl
      dsimp only at g0 g1 g2
      have hat : Tj.at? F.rs (q : Int) = some ⟨rn, rw_, rz⟩ := by unfold Tj.at?; rw [if_pos (by omega), Int.toNat_natCast]; exact hq
      rw [hat] at hR
      try dsimp only at hR
      clear hq hat hr0 hrs
      have d2 : decide ((q : Int) < (F.rs.length : Int)) = true := dTt (by omega)
      cases o with
      | none =>
       have HE := Lh hR
       clear hR HV HCK
       dsimp only [Tj.wdV] at HWD
       go_enter Tryz.func75, Tryz.ntmps75
       go_wp2_with fail
       refine via (HWD.out _ grows) fun w4 xw4 sw4 => ?_
       go_wp2_with fail
       go_ret
       exact ⟨ret_int (by rw [HE.out]), grows⟩
      | some fx =>
       obtain ⟨fn, fw⟩ := fx
       obtain ⟨⟨xw, xe⟩, hxr⟩ : ∃ z, z = Tj.xchk F.P ps ix := ⟨_, rfl⟩
       rw [← hxr] at HCK hR
       dsimp only [Tj.wdV] at HWD HCK hR
       clear hxr HV
       by_cases hx0 : xe = 0
       ·subst hx0
        rw [if_neg (by simp)] at hR
        by_cases hw : fw = rw_
        ·subst hw
         have HE : Hid (R = 0) := Lh (by rw [hR, if_neg (by simp)])
         have z1 : (fw != fw) = false := bne_self_eq_false fw
         clear hR
         go_enter Tryz.func75, Tryz.ntmps75
         go_wp2_with fail
         refine via (HWD.out _ grows) fun w4 xw4 sw4 => ?_
         go_wp2_with fail
         refine via (HCK.out _ grows) fun w5 xw5 sw5 => ?_
         go_wp2_with fail
         go_ret
         exact ⟨ret_int (by rw [HE.out]), grows⟩
        ·have HE : Hid (R = 10) := Lh (by rw [hR, if_pos hw])
         have z1 : (fw != rw_) = true := nT hw
         clear hR hw
         go_enter Tryz.func75, Tryz.ntmps75
         go_wp2_with fail
         refine via (HWD.out _ grows) fun w4 xw4 sw4 => ?_
         go_wp2_with fail
         refine via (HCK.out _ grows) fun w5 xw5 sw5 => ?_
         go_wp2_with fail
         go_ret
         exact ⟨ret_int (by rw [HE.out]), grows⟩
       ·have HE : Hid (R = xe) := Lh (by rw [hR, if_pos hx0])
        have z1 : (xe != 0) = true := nT hx0
        clear hR hx0
        go_enter Tryz.func75, Tryz.ntmps75
        go_wp2_with fail
        refine via (HWD.out _ grows) fun w4 xw4 sw4 => ?_
        go_wp2_with fail
        refine via (HCK.out _ grows) fun w5 xw5 sw5 => ?_
        go_wp2_with fail
        go_ret
        exact ⟨ret_int (by rw [HE.out]), grows⟩
     ·have HE : Hid (R = 8) := Lh (by rw [hR, Tj.at_none (.inr (by omega))])
      have d2 : decide (sr < (F.rs.length : Int)) = false := dF (by omega)
      have HO : Hid (∃ a b, Tj.wdV o = .tuple #[.int .i64 a, .bool b]) := Lh (by cases o with | none => exact ⟨_, _, rfl⟩ | some x => exact ⟨_, _, rfl⟩)
      obtain ⟨oa, ob, ho⟩ := HO.out
      rw [ho] at HWD
      clear HO ho HCK HV hrs hR hr1
      go_enter Tryz.func75, Tryz.ntmps75
      go_wp2_with fail
      refine via (HWD.out _ grows) fun w4 xw4 sw4 => ?_
      go_wp2_with fail
      go_ret
      exact ⟨ret_int (by rw [HE.out]), grows⟩
    ·have HE : Hid (R = 8) := Lh (by rw [hR, Tj.at_none (.inl (by omega))])
     have d1 : decide (0 ≤ sr) = false := dF (by omega)
     have HO : Hid (∃ a b, Tj.wdV o = .tuple #[.int .i64 a, .bool b]) := Lh (by cases o with | none => exact ⟨_, _, rfl⟩ | some x => exact ⟨_, _, rfl⟩)
     obtain ⟨oa, ob, ho⟩ := HO.out
     rw [ho] at HWD
     clear HO ho HCK HV hrs hR hr0
     go_enter Tryz.func75, Tryz.ntmps75
     go_wp2_with fail
     refine via (HWD.out _ grows) fun w4 xw4 sw4 => ?_
     go_wp2_with fail
     go_ret
     exact ⟨ret_int (by rw [HE.out]), grows⟩
   ·rw [if_neg h4] at hR
    have q4 : (sk == 4) = false := bF (by omega)
    have HO : Hid (∃ a b, Tj.wdV o = .tuple #[.int .i64 a, .bool b]) := Lh (by cases o with | none => exact ⟨_, _, rfl⟩ | some x => exact ⟨_, _, rfl⟩)
    obtain ⟨oa, ob, ho⟩ := HO.out
    rw [ho] at HWD
    clear HO ho h1 h4
    by_cases h5 : sk = 5
    ·subst h5
     rw [if_pos rfl] at hR
     by_cases hr0 : 0 ≤ sr
     ·have d1 : decide (0 ≤ sr) = true := dTt (by omega)
      by_cases hr1 : sr < F.rs.length
      ·
       obtain ⟨q, rfl⟩ := Int.eq_ofNat_of_zero_le hr0
       obtain ⟨rb, ro, rfl, _, _⟩ := Rows.at hrs (by omega)
       obtain ⟨⟨rn, rw_, rz⟩, hq⟩ : ∃ r, F.rs[q]? = some r := ⟨_, gE (by omega)⟩
       obtain ⟨g0, g1, g2, _⟩ := regs_at hrs q _ hq rfl
       dsimp only at g0 g1 g2
       have hat : Tj.at? F.rs (q : Int) = some ⟨rn, rw_, rz⟩ := by unfold Tj.at?; rw [if_pos (by omega), Int.toNat_natCast]; exact hq
       rw [hat] at hR
       try dsimp only at hR
       clear hq hat hr0 hrs
       have d2 : decide ((q : Int) < (F.rs.length : Int)) = true := dTt (by omega)
       obtain ⟨⟨xw, xe⟩, hxr⟩ : ∃ z, z = Tj.xchk F.P ps ix := ⟨_, rfl⟩
       rw [← hxr] at HCK hR
       dsimp only at HCK hR
       clear hxr
       by_cases hx0 : xe = 0
       ·subst hx0
        rw [if_neg (by simp)] at hR
        have HE := Lh hR
        clear hR
        go_enter Tryz.func75, Tryz.ntmps75
        go_wp2_with fail
        refine via (HWD.out _ grows) fun w4 xw4 sw4 => ?_
        go_wp2_with fail
        refine via (HCK.out _ grows) fun w5 xw5 sw5 => ?_
        go_wp2_with fail
        refine wp_region_later (W := (((W.alloc (.cells #[.string F.nm, .slice a1 F.P.hs.length m1, .slice a2 F.P.md.length m2, .slice (some ⟨rb, ro, none⟩) F.rs.length m3, .slice a4 F.ac.length m4, .slice a5 F.ts.length m5, .slice a6 F.ss.length m6, .slice a7 n7 m7, .slice a8 F.P.dp.length m8, .slice pa ps.length pc] 167)).alloc (.cells #[.int .i64 5, .int .i64 sh, .int .i64 sf, .int .i64 (q : Int), .int .i64 sd, .slice xa ix.length xc, .slice va vl.length vc] 90)).alloc (.cells #[.string F.nm, .slice a1 F.P.hs.length m1, .slice a2 F.P.md.length m2, .slice (some ⟨rb, ro, none⟩) F.rs.length m3, .slice a4 F.ac.length m4, .slice a5 F.ts.length m5, .slice a6 F.ss.length m6, .slice a7 n7 m7, .slice a8 F.P.dp.length m8] 31))) (by kernel_rfl) (by kernel_rfl) grows ?_
        repeat (go_big_quiet_step (first | (go_at_call 110; exact Rets.later_at (HV.out rw_ _ grows)) | fail))
        refine wpQuiet_nil ?_
        intro w9 hx9
        have s9 := Sm hx9
        go_wp2_with fail
        go_ret
        exact ⟨ret_int (by rw [HE.out]), grows⟩
       ·have HE : Hid (R = xe) := Lh (by rw [hR, if_pos hx0])
        have z1 : (xe != 0) = true := nT hx0
        clear hR hx0 HV
        go_enter Tryz.func75, Tryz.ntmps75
        go_wp2_with fail
        refine via (HWD.out _ grows) fun w4 xw4 sw4 => ?_
        go_wp2_with fail
        refine via (HCK.out _ grows) fun w5 xw5 sw5 => ?_
        go_wp2_with fail
        go_ret
        exact ⟨ret_int (by rw [HE.out]), grows⟩
      ·have HE : Hid (R = 8) := Lh (by rw [hR, Tj.at_none (.inr (by omega))])
       have d2 : decide (sr < (F.rs.length : Int)) = false := dF (by omega)
       clear HCK HV hrs hR hr1
       go_enter Tryz.func75, Tryz.ntmps75
       go_wp2_with fail
       refine via (HWD.out _ grows) fun w4 xw4 sw4 => ?_
       go_wp2_with fail
       go_ret
       exact ⟨ret_int (by rw [HE.out]), grows⟩
     ·have HE : Hid (R = 8) := Lh (by rw [hR, Tj.at_none (.inl (by omega))])
      have d1 : decide (0 ≤ sr) = false := dF (by omega)
      clear HCK HV hrs hR hr0
      go_enter Tryz.func75, Tryz.ntmps75
      go_wp2_with fail
      refine via (HWD.out _ grows) fun w4 xw4 sw4 => ?_
      go_wp2_with fail
      go_ret
      exact ⟨ret_int (by rw [HE.out]), grows⟩
    ·have HE : Hid (R = 11) := Lh (by rw [hR, if_neg h5])
     have q5 : (sk == 5) = false := bF (by omega)
     clear hR h5 HCK HV hrs
     by_cases hr0 : 0 ≤ sr
     ·have d1 : decide (0 ≤ sr) = true := dTt (by omega)
      go_enter Tryz.func75, Tryz.ntmps75
      go_wp2_with fail
      refine via (HWD.out _ grows) fun w4 xw4 sw4 => ?_
      go_wp2_with fail
      go_ret
      exact ⟨ret_int (by rw [HE.out]), grows⟩
     ·have d1 : decide (0 ≤ sr) = false := dF (by omega)
      go_enter Tryz.func75, Tryz.ntmps75
      go_wp2_with fail
      refine via (HWD.out _ grows) fun w4 xw4 sw4 => ?_
      go_wp2_with fail
      go_ret
      exact ⟨ret_int (by rw [HE.out]), grows⟩
theorem Rows.take {α : Type} {w : World} {sz : Nat} {R : World → List Value → α → Prop} {oa : Option Addr} {n c : Nat} {ds : List α} (h : Rows w sz R (.slice oa n c) ds) {j : Nat} (hj : j ≤ ds.length) : Rows w sz R (.slice oa (ds.take j).length c) (ds.take j) := by
 rcases h with ⟨h, rfl⟩ | ⟨ad, c', h1, h2, h3, h5, h4⟩
 ·simp only [Value.slice.injEq] at h
  obtain ⟨rfl, rfl, rfl⟩ := h
  exact .inl ⟨by simp, by simp⟩
 ·simp only [Value.slice.injEq] at h1
  obtain ⟨rfl, rfl, rfl⟩ := h1
  refine .inr ⟨ad, c, rfl, by rw [List.length_take]; omega, h3, fun hne => h5 (fun h0 => hne (by rw [h0]; simp)), fun i d hi => h4 i d ?_⟩
  rw [List.getElem?_take] at hi
  split at hi
  ·exact hi
  ·cases hi
theorem decl1_any (gn nm : ByteArray) (gw : Int) (q : Nat) (W : World) (hq : W.cell? ⟨q, 0, none⟩ = some (.string nm)) : Calls Tryz.prog 108 #[.agg #[.string gn, .int .i64 gw], .pointer (some ⟨q, 0, none⟩)] W (Rets W (.bool (Hd.same gn nm))) := by
 have y := alw hq
 have bx := aH W (.cells #[.string gn, .int .i64 gw] 79)
 have k0 := alw (cQ 0 bx)
 have k1 := alw (cQ 1 bx)
 clear bx
 clear hq
 go_enter Tryz.func108, Tryz.ntmps108
 go_wp2_with fail
 go_ret
 exact ⟨ret_bool rfl, grows⟩
theorem idxF_any {W : World} {pa : Option Addr} {pc : Nat} {l : List Hd.Fld} (h : Hd.Flds W (.slice pa l.length pc) l) (nm : ByteArray) (q : Nat) (hq : W.cell? ⟨q, 0, none⟩ = some (.string nm)) :
 Calls Tryz.prog 136 #[.slice pa l.length pc, .func (.func 108) #[] #[.pointer (some ⟨q, 0, none⟩)]] W fun e W' => (∃ r : Int, e = .returned (.int .i64 r) ∧ decide (0 ≤ r) = l.any (fun g => Hd.same g.1 nm)) ∧ Ext W W' := by
 obtain ⟨_, _, e0, hlc, hcm⟩ := h.slice
 simp only [Value.slice.injEq] at e0
 obtain ⟨rfl, _, rfl⟩ := e0
 unfold maxLen at hcm
 have HQ : Hid (∀ w [Grows W w], w.cell? ⟨q, 0, none⟩ = some (.string nm)) := Lh (fun w _ => alw hq w)
 have H := Lh h
 clear h hq
 go_enter Tryz.func136, Tryz.ntmps136
 go_wp2_with fail
 go_loopw [8] (fun i wr => ∃ k : Nat, k ≤ l.length ∧ i = .int .i64 k ∧ Hid (Ext W wr ∧ ∀ j y, j < k → l[j]? = some y → Hd.same y.1 nm = false)) (fun i _ => l.length - (intOf i).toNat)
 case atStart => exact ⟨0, Nat.zero_le _, rfl, Lh ⟨eR _, by intro j y hj; omega⟩⟩
 case round =>
  obtain ⟨k, hk, rfl, HZ⟩ := hrel
  have sx := Sm HZ.out.1
  by_cases hlt : k < l.length
  ·obtain ⟨⟨gn, gw⟩, hx⟩ : ∃ x, l[k]? = some x := ⟨_, gE hlt⟩
   obtain ⟨b, o, rfl, _, _⟩ := Rows.at H.out (by omega)
   obtain ⟨u0, u1, _⟩ := flds_at H.out k gn gw hx rfl
   have HX := Lh hx
   clear hx
   cases hs : Hd.same gn nm with
   | false =>
    have HS := Lh hs
    clear hs
    go_wp2_with (first | (go_at_call 108; refine (decl1_any _ nm _ q _ (HQ.out _)).mono ?_; rintro e w5 ⟨rfl, x5⟩; rw [HS.out]) | fail)
    have s5 := Sm x5
    go_roundw
    case rel =>
     refine ⟨k + 1, by omega, by go_num, Lh ⟨grows, fun j y hj hy => ?_⟩⟩
     rcases Nat.lt_or_ge j k with h1 | h1
     ·exact HZ.out.2 j y h1 hy
     ·obtain rfl : j = k := by omega
      rw [HX.out] at hy
      obtain rfl := Option.some.inj hy
      exact HS.out
    case measure => simp [intOf]; omega
   | true =>
    have HS := Lh hs
    clear hs
    go_wp2_with (first | (go_at_call 108; refine (decl1_any _ nm _ q _ (HQ.out _)).mono ?_; rintro e w5 ⟨rfl, x5⟩; rw [HS.out]) | fail)
    have s5 := Sm x5
    go_ret
    refine ⟨⟨_, rfl, ?_⟩, grows⟩
    have hz : l.any (fun g => Hd.same g.1 nm) = true := List.any_eq_true.2 ⟨_, List.mem_of_getElem? HX.out, HS.out⟩
    rw [hz]; simp
  ·obtain rfl : k = l.length := by omega
   go_wp2_with fail
   go_ret
   refine ⟨⟨_, rfl, ?_⟩, grows⟩
   have hz : l.any (fun g => Hd.same g.1 nm) = false := by
    rw [← Bool.not_eq_true, List.any_eq_true]
    rintro ⟨y, hy, he⟩
    obtain ⟨j, hj, rfl⟩ := List.mem_iff_getElem.1 hy
    rw [HZ.out.2 j _ hj (gE hj)] at he
    cases he
   rw [hz]; decide
theorem contF_any {W : World} {pa : Option Addr} {pc : Nat} {l : List Hd.Fld} (h : Hd.Flds W (.slice pa l.length pc) l) (nm : ByteArray) (q : Nat) (hq : W.cell? ⟨q, 0, none⟩ = some (.string nm)) :
 Calls Tryz.prog 107 #[.slice pa l.length pc, .func (.func 108) #[] #[.pointer (some ⟨q, 0, none⟩)]] W (Rets W (.bool (l.any (fun g => Hd.same g.1 nm)))) := by
 have HC := Lh (idxF_any h nm q hq)
 clear h hq
 go_enter Tryz.func107, Tryz.ntmps107
 go_wp2_with fail
 refine HC.out.mono ?_
 rintro e w1 ⟨⟨r, rfl, hr⟩, x1⟩
 have s1 := Sm x1
 have HR := Lh hr
 clear hr
 go_wp2_with fail
 go_ret
 exact ⟨ret_bool (by rw [← HR.out]), grows⟩
namespace Tj
theorem decl_fe {a : Act} (h1 : Id.ok a.nm = true) (h2 : a.ps.length ≤ 4) (h3 : a.bd.length ≤ 12) : declE a = Hd.fE [] a.ps := by
 unfold declE; rw [if_pos h1, if_neg (by omega)]
end Tj
theorem decl_any {W : World} (a : Tj.Act) {pv : Value} (hn : a.nm.size ≤ maxLen) (hps : Hd.Flds W pv a.ps) (ba : Option Addr) (bc : Nat) : Calls Tryz.prog 74 #[.agg #[.string a.nm, pv, .slice ba a.bd.length bc]] W (Rets W (.int .i64 (Tj.declE a))) := by
 obtain ⟨nm, ps, bd⟩ := a
 dsimp only at hn hps ⊢
 obtain ⟨pa, pc, rfl, hlc, hcm⟩ := hps.slice
 unfold maxLen at hcm
 obtain ⟨R, hR⟩ : ∃ z, z = Tj.declE ⟨nm, ps, bd⟩ := ⟨_, rfl⟩
 rw [← hR]
 have HS := Lh hps
 have HN := Lh hn
 have bx := aH W (.cells #[.string nm, .slice pa ps.length pc, .slice ba bd.length bc] 54)
 have k0 := alw (cQ 0 bx)
 have k1 := alw (cQ 1 bx)
 have k2 := alw (cQ 2 bx)
 clear bx
 have hmf : ∀ (fn : Fn) (first cap : Array Value) (w : World), (Instr.makeFunc fn first cap).run Tryz.prog w = .ok (.func fn first cap) w := fun _ _ _ _ => rfl
 clear hps hn
 cases hok : Id.ok nm with
 | false =>
  have HE : Hid (R = 6) := Lh (by rw [hR]; unfold Tj.declE; rw [if_neg (by rw [hok]; decide)])
  have HO := Lh hok
  clear hR hok
  go_enter Tryz.func74, Tryz.ntmps74
  go_wp2_with (first | (go_at_call 68; refine (ident_any _ _ HN.out).mono ?_; rintro e w1 ⟨rfl, rfl⟩; rw [HO.out]) | fail)
  go_ret
  exact ⟨ret_int (by rw [HE.out]), grows⟩
 | true =>
  have HO := Lh hok
  by_cases h4 : 4 < ps.length
  ·have HE : Hid (R = 12) := Lh (by rw [hR]; unfold Tj.declE; rw [if_pos hok, if_pos (.inl h4)])
   have d1 : decide ((4 : Int) < (ps.length : Int)) = true := dTt (by omega)
   clear hR hok
   go_enter Tryz.func74, Tryz.ntmps74
   go_wp2_with (first | (go_at_call 68; refine (ident_any _ _ HN.out).mono ?_; rintro e w1 ⟨rfl, rfl⟩; rw [HO.out]) | fail)
   go_ret
   exact ⟨ret_int (by rw [HE.out]), grows⟩
  ·have d1 : decide ((4 : Int) < (ps.length : Int)) = false := dF (by omega)
   by_cases h12 : 12 < bd.length
   ·have HE : Hid (R = 12) := Lh (by rw [hR]; unfold Tj.declE; rw [if_pos hok, if_pos (.inr h12)])
    have d2 : decide ((12 : Int) < (bd.length : Int)) = true := dTt (by omega)
    clear hR hok
    go_enter Tryz.func74, Tryz.ntmps74
    go_wp2_with (first | (go_at_call 68; refine (ident_any _ _ HN.out).mono ?_; rintro e w1 ⟨rfl, rfl⟩; rw [HO.out]) | fail)
    go_ret
    exact ⟨ret_int (by rw [HE.out]), grows⟩
   ·have d2 : decide ((12 : Int) < (bd.length : Int)) = false := dF (by omega)
    have HE : Hid (R = Hd.fE [] ps) := Lh (by rw [hR]; exact Tj.decl_fe hok (by show ps.length ≤ 4; omega) (by show bd.length ≤ 12; omega))
    clear hR hok
    go_enter Tryz.func74, Tryz.ntmps74
    go_wp2_with (first | (go_at_call 68; refine (ident_any _ _ HN.out).mono ?_; rintro e w1 ⟨rfl, rfl⟩; rw [HO.out]) | fail)
    go_loopw [24] (fun i wr => ∃ k : Nat, k ≤ ps.length ∧ i = .int .i64 k ∧ Hid (Ext (W.alloc (.cells #[.string nm, .slice pa ps.length pc, .slice ba bd.length bc] 54)) wr ∧ Hd.fE (ps.take k) (ps.drop k) = Hd.fE [] ps)) (fun i _ => ps.length - (intOf i).toNat)
    case atStart => exact ⟨0, Nat.zero_le _, rfl, Lh ⟨eR _, rfl⟩⟩
    case round =>
     obtain ⟨k, hk, rfl, HI⟩ := hrel
     have sx : Step (W.alloc (.cells #[.string nm, .slice pa ps.length pc, .slice ba bd.length bc] 54)) wr := ⟨HI.out.1⟩
     by_cases hlt : k < ps.length
     ·obtain ⟨⟨nk, x⟩, hxk⟩ : ∃ x, ps[k]? = some x := ⟨_, gE hlt⟩
      obtain ⟨b, o, rfl, _, _⟩ := Rows.at HS.out (by omega)
      obtain ⟨f0, f1, hns, hx1, hx2⟩ := flds_at HS.out k nk x hxk rfl
      have HK := Lh hxk
      have HNS := Lh hns
      have bf := aH wr (.cells #[.string nk, .int .i64 x] 79)
      have g0 := alw (cQ 0 bf)
      have g1 := alw (cQ 1 bf)
      have HG := Lh g0
      clear hxk bf hns
      cases hik : Id.ok nk with
      | false =>
       have HIK := Lh hik
       have HE2 : Hid (R = 6) := Lh (by rw [HE.out, Hd.fE_name HK.out hik HI.out.2])
       clear hik
       go_wp2_with (first | (go_at_call 68; refine (ident_any _ _ HNS.out).mono ?_; rintro e w1 ⟨rfl, rfl⟩; rw [HIK.out]) | fail)
       go_ret
       exact ⟨ret_int (by rw [HE2.out]), grows⟩
      | true =>
       have HIK := Lh hik
       clear hik
       by_cases hw1 : x < 1
       ·have HE2 : Hid (R = 10) := Lh (by rw [HE.out, Hd.fE_width HK.out HIK.out (.inl hw1) HI.out.2])
        have c1 : decide (x < 1) = true := dTt (by omega)
        clear hw1
        go_wp2_with (first | (go_at_call 68; refine (ident_any _ _ HNS.out).mono ?_; rintro e w1 ⟨rfl, rfl⟩; rw [HIK.out]) | fail)
        go_ret
        exact ⟨ret_int (by rw [HE2.out]), grows⟩
       ·have c1 : decide (x < 1) = false := dF (by omega)
        by_cases hw2 : 32 < x
        ·have HE2 : Hid (R = 10) := Lh (by rw [HE.out, Hd.fE_width HK.out HIK.out (.inr hw2) HI.out.2])
         have c2 : decide (32 < x) = true := dTt (by omega)
         clear hw2
         go_wp2_with (first | (go_at_call 68; refine (ident_any _ _ HNS.out).mono ?_; rintro e w1 ⟨rfl, rfl⟩; rw [HIK.out]) | fail)
         go_ret
         exact ⟨ret_int (by rw [HE2.out]), grows⟩
        ·have c2 : decide (32 < x) = false := dF (by omega)
         have HWD : Hid (¬ (x < 1 ∨ 32 < x)) := Lh (by omega)
         clear hw1 hw2
         have HT := Lh (Rows.take HS.out (show k ≤ ps.length by omega))
         have hkl : (ps.take k).length = k := by rw [List.length_take]; omega
         rw [hkl] at HT
         have HCT := Lh (fun (w : World) (hx : Ext (wr.alloc (.cells #[.string nk, .int .i64 x] 79)) w) => by
          have e := contF_any (l := ps.take k) (pa := some ⟨b, o, none⟩) (pc := pc) (W := w) (by rw [hkl]; exact Hd.Flds.ext HT.out ((grows (a := W) (b := wr.alloc (.cells #[.string nk, .int .i64 x] 79))).trans hx)) nk wr.heap.size (by have s := Sm hx; exact HG.out w)
          rw [hkl] at e; exact e)
         have hkc : (k : Int) ≤ pc := by omega
         obtain ⟨an, han⟩ : ∃ z, z = (ps.take k).any (fun g => Hd.same g.1 nk) := ⟨_, rfl⟩
         rw [← han] at HCT
         have HAN := Lh han
         clear han hkl
         cases an with
         | true =>
          have HE2 : Hid (R = 7) := Lh (by rw [HE.out, Hd.fE_dup HK.out HIK.out HWD.out HAN.out.symm HI.out.2])
          go_wp2_with (first | (go_at_call 68; refine (ident_any _ _ HNS.out).mono ?_; rintro e w1 ⟨rfl, rfl⟩; rw [HIK.out]) | fail)
          refine via (HCT.out _ grows) fun w7 xw7 sw7 => ?_
          go_wp2_with fail
          go_ret
          exact ⟨ret_int (by rw [HE2.out]), grows⟩
         | false =>
          have HNX := Lh (Hd.fE_next HK.out HIK.out HWD.out HAN.out.symm HI.out.2)
          go_wp2_with (first | (go_at_call 68; refine (ident_any _ _ HNS.out).mono ?_; rintro e w1 ⟨rfl, rfl⟩; rw [HIK.out]) | fail)
          refine via (HCT.out _ grows) fun w7 xw7 sw7 => ?_
          go_wp2_with fail
          go_roundw
          case rel => exact ⟨k + 1, by omega, by go_num, Lh ⟨grows, HNX.out⟩⟩
          case measure => simp [intOf]; omega
     ·obtain rfl : k = ps.length := by omega
      have HE2 : Hid (R = 0) := Lh (by rw [HE.out, ← HI.out.2, List.drop_length]; rfl)
      go_wp2_with fail
      go_ret
      exact ⟨ret_int (by rw [HE2.out]), grows⟩
theorem acts_at {w : World} {b o n c : Nat} {l : List Tj.Act} {oa : Option Addr} (h : Tj.Acts w (.slice oa n c) l) (k : Nat) (x : Tj.Act) (hk : l[k]? = some x) (hoa : oa = some ⟨b, o, none⟩) :
 ∃ pa pc ba bc, x.nm.size ≤ maxLen ∧ Hd.Flds w (.slice pa x.ps.length pc) x.ps ∧ Tj.Stms w (.slice ba x.bd.length bc) x.bd ∧ (x.ps.length ≤ pc ∧ pc ≤ maxLen) ∧ (x.bd.length ≤ bc ∧ bc ≤ maxLen) ∧
  w.cell? ⟨b, o + k * 3, none⟩ = some (.string x.nm) ∧ w.cell? ⟨b, o + k * 3 + 1, none⟩ = some (.slice pa x.ps.length pc) ∧ w.cell? ⟨b, o + k * 3 + 2, none⟩ = some (.slice ba x.bd.length bc) := by
 obtain ⟨b', o', e, _, h4⟩ := h.at (by have := (List.getElem?_eq_some_iff.1 hk).1; omega)
 rw [hoa] at e
 simp only [Option.some.injEq, Addr.mk.injEq, and_true] at e
 obtain ⟨rfl, rfl⟩ := e
 obtain ⟨cs, _, ⟨pv, bv, rfl, h1, h2, h3⟩, hc⟩ := h4 k x hk
 obtain ⟨pa, pc, rfl, k1, k2⟩ := h2.slice
 obtain ⟨ba, bc, rfl, k3, k4⟩ := h3.slice
 exact ⟨pa, pc, ba, bc, h1, h2, h3, ⟨k1, k2⟩, ⟨k3, k4⟩, hc 0 _ rfl, hc 1 _ rfl, hc 2 _ rfl⟩
theorem stms_at {w : World} {b o n c : Nat} {l : List Tj.Stm} {oa : Option Addr} (h : Tj.Stms w (.slice oa n c) l) (k : Nat) (x : Tj.Stm) (hk : l[k]? = some x) (hoa : oa = some ⟨b, o, none⟩) :
 ∃ xa xc va vc, Tj.Exp w (.slice xa x.ix.length xc) x.ix ∧ Tj.Exp w (.slice va x.va.length vc) x.va ∧
  w.cell? ⟨b, o + k * 7, none⟩ = some (.int .i64 x.k) ∧ w.cell? ⟨b, o + k * 7 + 1, none⟩ = some (.int .i64 x.dh) ∧ w.cell? ⟨b, o + k * 7 + 2, none⟩ = some (.int .i64 x.df) ∧ w.cell? ⟨b, o + k * 7 + 3, none⟩ = some (.int .i64 x.rg) ∧
  w.cell? ⟨b, o + k * 7 + 4, none⟩ = some (.int .i64 x.hd) ∧ w.cell? ⟨b, o + k * 7 + 5, none⟩ = some (.slice xa x.ix.length xc) ∧ w.cell? ⟨b, o + k * 7 + 6, none⟩ = some (.slice va x.va.length vc) := by
 obtain ⟨b', o', e, _, h4⟩ := h.at (by have := (List.getElem?_eq_some_iff.1 hk).1; omega)
 rw [hoa] at e
 simp only [Option.some.injEq, Addr.mk.injEq, and_true] at e
 obtain ⟨rfl, rfl⟩ := e
 obtain ⟨cs, _, ⟨xv, vv, rfl, _, h2, h3⟩, hc⟩ := h4 k x hk
 obtain ⟨xa, xc, rfl, _, _⟩ := h2.slice
 obtain ⟨va, vc, rfl, _, _⟩ := h3.slice
 exact ⟨xa, xc, va, vc, h2, h3, hc 0 _ rfl, hc 1 _ rfl, hc 2 _ rfl, hc 3 _ rfl, hc 4 _ rfl, hc 5 _ rfl, hc 6 _ rfl⟩
/-- a place and an error -/
def AtP (W : World) (x : Int) (e : Ending) (w' : World) : Prop := ∃ i : Int, e = .returned (.tuple #[.int .i64 i, .int .i64 x]) ∧ Ext W w'
theorem at_ret {W w' : World} {x y : Int} (i : Int) (h : x = y) (hx : Ext W w') : AtP W x (.returned (.tuple #[.int .i64 i, .int .i64 y])) w' := ⟨i, by rw [h], hx⟩
namespace Tj
/-- what is wrong with action i of a program -/
def actI (F : FP) (i : Int) : Int := match at? F.ac i with | some a => actE F a | none => 8
end Tj
abbrev Yq16 (F : Tj.FP) (a1 : Option Addr) (m1 : Nat) (a2 : Option Addr) (m2 : Nat) (a3 : Option Addr) (m3 : Nat) (ab : Nat) (ao : Nat) (m4 : Nat) (a5 : Option Addr) (m5 : Nat) (a6 : Option Addr) (m6 : Nat) (a7 : Option Addr) (m7 : Nat) (n7 : Nat) (a8 : Option Addr) (m8 : Nat) (pa : Option Addr) (pc : Nat) (ps_length : Nat) : Array Value := #[.string F.nm, .slice a1 F.P.hs.length m1, .slice a2 F.P.md.length m2, .slice a3 F.rs.length m3, .slice (some ⟨ab, ao, none⟩) F.ac.length m4, .slice a5 F.ts.length m5, .slice a6 F.ss.length m6, .slice a7 n7 m7, .slice a8 F.P.dp.length m8, .slice pa ps_length pc]
theorem acheck_any {W : World} {p : Pg.PV} {F : Tj.FP} (hF : Tj.IsF W p F) (i : Int) : Calls Tryz.prog 49 #[p.val, .int .i64 i] W (AtP W (Tj.actI F i)) := by
 have HF := Lh hF
 obtain ⟨a1, a2, a3, a4, a5, a6, a7, a8, m1, m2, m3, m4, m5, m6, n7, m7, m8, hf⟩ := hF.form
 obtain ⟨rfl, hnm, hhs, hmd, hrs, has, hts, hss, hct, hdp, l1, l2, l3, l4, l5, l6, l7, l8⟩ := hf
 obtain ⟨R, hR⟩ : ∃ z, z = Tj.actI F i := ⟨_, rfl⟩
 rw [← hR]
 unfold Tj.actI at hR
 dsimp only [Pg.PV.val]
 clear hnm hhs hmd hrs hts hss hct hdp hF
 have bx := aH W (.cells (Yq0 F a1 m1 a2 m2 a3 m3 a4 m4 a5 m5 a6 m6 a7 m7 n7 a8 m8) 31)
 have k0 := alw (cQ 0 bx)
 have k1 := alw (cQ 1 bx)
 have k2 := alw (cQ 2 bx)
 have k3 := alw (cQ 3 bx)
 have k4 := alw (cQ 4 bx)
 have k5 := alw (cQ 5 bx)
 have k6 := alw (cQ 6 bx)
 have k7 := alw (cQ 7 bx)
 have k8 := alw (cQ 8 bx)
 clear bx
 by_cases hi0 : i < 0
 ·have HE : Hid (R = 8) := Lh (by rw [hR, Tj.at_none (.inl hi0)])
  have d1 : decide (i < 0) = true := dTt (by omega)
  clear hR has
  go_enter Tryz.func49, Tryz.ntmps49
  go_wp2_with fail
  go_ret2
  exact at_ret _ (by rw [HE.out]) grows
 ·have d1 : decide (i < 0) = false := dF (by omega)
  by_cases hi1 : (F.ac.length : Int) ≤ i
  ·have HE : Hid (R = 8) := Lh (by rw [hR, Tj.at_none (.inr hi1)])
   have d2 : decide ((F.ac.length : Int) ≤ i) = true := dTt (by omega)
   clear hR has
   go_enter Tryz.func49, Tryz.ntmps49
   go_wp2_with fail
   go_ret2
   exact at_ret _ (by rw [HE.out]) grows
  ·have d2 : decide ((F.ac.length : Int) ≤ i) = false := dF (by omega)
   obtain ⟨q, rfl⟩ := Int.eq_ofNat_of_zero_le (show 0 ≤ i by omega)
   obtain ⟨a, hq⟩ : ∃ a, F.ac[q]? = some a := ⟨_, gE (by omega)⟩
   obtain ⟨ab, ao, rfl, _, _⟩ := Rows.at has (by omega)
   obtain ⟨pa, pc, ba, bc, hn, hps, hbd, ⟨lp, lp'⟩, ⟨lb, lb'⟩, u0, u1, u2⟩ := acts_at has q a hq rfl
   have hat : Tj.at? F.ac (q : Int) = some a := by unfold Tj.at?; rw [if_pos (by omega), Int.toNat_natCast]; exact hq
   rw [hat] at hR
   dsimp only at hR
   unfold maxLen at lp' lb'
   have HD := Lh (fun (w : World) (hx : Ext W w) => decl_any a hn (hps.ext hx) ba bc)
   have HST : Hid (∀ (s : Tj.Stm) (xv vv : Value) w, Ext W w → Tj.Exp w xv s.ix → Tj.Exp w vv s.va → Calls Tryz.prog 75 #[.agg #[.string F.nm, .slice a1 F.P.hs.length m1, .slice a2 F.P.md.length m2, .slice a3 F.rs.length m3, .slice (some ⟨ab, ao, none⟩) F.ac.length m4, .slice a5 F.ts.length m5, .slice a6 F.ss.length m6, .slice a7 n7 m7, .slice a8 F.P.dp.length m8, .slice pa a.ps.length pc], .agg #[.int .i64 s.k, .int .i64 s.dh, .int .i64 s.df, .int .i64 s.rg, .int .i64 s.hd, xv, vv]] w (Rets w (.int .i64 (Tj.stmE F a.ps s)))) := Lh (fun s xv vv w hx h1 h2 => stm_any (HF.out.ext hx) (hps.ext hx) s h1 h2)
   have HBD := Lh hbd
   obtain ⟨an, ps, bd⟩ := a
   dsimp only at *
   have y0 := alw u0
   have y1 := alw u1
   have y2 := alw u2
   unfold Tj.actE at hR
   dsimp only at hR
   have bx := aH (W.alloc (.cells #[.string F.nm, .slice a1 F.P.hs.length m1, .slice a2 F.P.md.length m2, .slice a3 F.rs.length m3, .slice (some ⟨ab, ao, none⟩) F.ac.length m4, .slice a5 F.ts.length m5, .slice a6 F.ss.length m6, .slice a7 n7 m7, .slice a8 F.P.dp.length m8] 31)) (.cells #[.string an, .slice pa ps.length pc, .slice ba bd.length bc] 54)
   rw [szA] at bx
   have ak0 := alw (cQ 0 bx)
   have ak1 := alw (cQ 1 bx)
   have ak2 := alw (cQ 2 bx)
   clear bx
   clear has hn hps hbd hq hat u0 u1 u2 HF
   obtain ⟨dE, hdE⟩ : ∃ z, z = Tj.declE ⟨an, ps, bd⟩ := ⟨_, rfl⟩
   rw [← hdE] at hR HD
   by_cases hz : dE = 0
   ·subst hz
    rw [if_neg (by simp)] at hR
    have HE := Lh hR
    clear hR hdE
    go_enter Tryz.func49, Tryz.ntmps49
    go_wp2_with fail
    refine via (HD.out _ grows) fun w3 xw3 sw3 => ?_
    have cb := aH w3 (.cells (Yq16 F a1 m1 a2 m2 a3 m3 ab ao m4 a5 m5 a6 m6 a7 m7 n7 a8 m8 pa pc ps.length) 167)
    have c0 := alw (cQ 0 cb)
    have c1 := alw (cQ 1 cb)
    have c2 := alw (cQ 2 cb)
    have c3 := alw (cQ 3 cb)
    have c4 := alw (cQ 4 cb)
    have c5 := alw (cQ 5 cb)
    have c6 := alw (cQ 6 cb)
    have c7 := alw (cQ 7 cb)
    have c8 := alw (cQ 8 cb)
    have c9 := alw (cQ 9 cb)
    clear cb
    go_wp2_with fail
    go_loopw [37] (fun c wr => ∃ k : Nat, k ≤ bd.length ∧ c = .int .i64 k ∧ Hid (Ext (w3.alloc (.cells (Yq16 F a1 m1 a2 m2 a3 m3 ab ao m4 a5 m5 a6 m6 a7 m7 n7 a8 m8 pa pc ps.length) 167)) wr ∧ ∀ j y, j < k → bd[j]? = some y → Tj.stmE F ps y = 0)) (fun c _ => bd.length - (intOf c).toNat)
    case atStart => exact ⟨0, Nat.zero_le _, rfl, Lh ⟨eR _, by intro j y hj; omega⟩⟩
    case round =>
     obtain ⟨k, hk, rfl, HZ⟩ := hrel
     have sx : Step (w3.alloc (.cells (Yq16 F a1 m1 a2 m2 a3 m3 ab ao m4 a5 m5 a6 m6 a7 m7 n7 a8 m8 pa pc ps.length) 167)) wr := ⟨HZ.out.1⟩
     by_cases hlt : k < bd.length
     ·obtain ⟨s, hx⟩ : ∃ x, bd[k]? = some x := ⟨_, gE hlt⟩
      obtain ⟨b, o, rfl, _, _⟩ := Rows.at HBD.out (by omega)
      obtain ⟨xa, xc, va, vc, hxx, hvv, g0, g1, g2, g3, g4, g5, g6⟩ := stms_at HBD.out k s hx rfl
      have HX := Lh hx
      have v0 := alw g0
      have v1 := alw g1
      have v2 := alw g2
      have v3 := alw g3
      have v4 := alw g4
      have v5 := alw g5
      have v6 := alw g6
      have bx := aH wr (.cells #[.int .i64 s.k, .int .i64 s.dh, .int .i64 s.df, .int .i64 s.rg, .int .i64 s.hd, .slice xa s.ix.length xc, .slice va s.va.length vc] 90)
      have s0 := alw (cQ 0 bx)
      have s1 := alw (cQ 1 bx)
      have s2 := alw (cQ 2 bx)
      have s3 := alw (cQ 3 bx)
      have s4 := alw (cQ 4 bx)
      have s5 := alw (cQ 5 bx)
      have s6 := alw (cQ 6 bx)
      clear bx
      have HC : Hid (∀ w, Ext W w → Calls Tryz.prog 75 #[.agg (Yq16 F a1 m1 a2 m2 a3 m3 ab ao m4 a5 m5 a6 m6 a7 m7 n7 a8 m8 pa pc ps.length), .agg #[.int .i64 s.k, .int .i64 s.dh, .int .i64 s.df, .int .i64 s.rg, .int .i64 s.hd, .slice xa s.ix.length xc, .slice va s.va.length vc]] w (Rets w (.int .i64 (Tj.stmE F ps s)))) := Lh (fun w hx => HST.out s _ _ w hx (hxx.ext hx) (hvv.ext hx))
      obtain ⟨sE, hsE⟩ : ∃ z, z = Tj.stmE F ps s := ⟨_, rfl⟩
      rw [← hsE] at HC
      have HSE := Lh hsE
      clear hx hxx hvv g0 g1 g2 g3 g4 g5 g6 hsE
      by_cases hz : sE = 0
      ·subst hz
       go_wp2_with fail
       refine via (HC.out _ grows) fun w7 xw7 sw7 => ?_
       go_wp2_with fail
       go_roundw
       case rel =>
        refine ⟨k + 1, by omega, by go_num, Lh ⟨grows, fun j y hj hy => ?_⟩⟩
        rcases Nat.lt_or_ge j k with h1 | h1
        ·exact HZ.out.2 j y h1 hy
        ·obtain rfl : j = k := by omega
         rw [HX.out] at hy
         obtain rfl := Option.some.inj hy
         exact HSE.out.symm
       case measure => simp [intOf]; omega
      ·have z1 : (sE != 0) = true := nT hz
       have HE2 : Hid (R = sE) := Lh (by rw [HE.out, Tj.firstE_at HX.out HZ.out.2 (by rw [← HSE.out]; exact hz), HSE.out])
       clear hz
       go_wp2_with fail
       refine via (HC.out _ grows) fun w7 xw7 sw7 => ?_
       go_wp2_with fail
       go_ret2
       exact at_ret _ (by rw [HE2.out]) grows
     ·obtain rfl : k = bd.length := by omega
      have HE2 : Hid (R = 0) := Lh (by rw [HE.out]; exact Tj.firstE_zero (fun j x hx => HZ.out.2 j x (List.getElem?_eq_some_iff.1 hx).1 hx))
      go_wp2_with fail
      go_ret2
      exact at_ret _ (by rw [HE2.out]) grows
   ·have HE : Hid (R = dE) := Lh (by rw [hR, if_pos hz])
    have z1 : (dE != 0) = true := nT hz
    clear hR hz hdE
    go_enter Tryz.func49, Tryz.ntmps49
    go_wp2_with fail
    refine via (HD.out _ grows) fun w3 xw3 sw3 => ?_
    go_wp2_with fail
    go_ret2
    exact at_ret _ (by rw [HE.out]) grows
namespace Tj
theorem argsE_bad {ps : List Hd.Fld} {ar : List Int} {k : Nat} {x w : Int} {nm : ByteArray} (hk : ar[k]? = some x) (hp : ps[k]? = some (nm, w)) (h : Bv.fits x w = false) : argsE ps ar = 9 := by
 unfold argsE
 rw [Pg.all_no (k := k) (List.getElem?_eq_some_iff.1 hk).1 (by rw [List.getD_eq_getElem?_getD, List.getD_eq_getElem?_getD, hk, hp]; exact h)]; rfl
theorem argsE_good {ps : List Hd.Fld} {ar : List Int} (h : ∀ j, j < ar.length → Bv.fits (ar.getD j 0) (ps.getD j (⟨#[]⟩, 0)).2 = true) : argsE ps ar = 0 := by
 unfold argsE
 rw [Pg.all_yes h]; rfl
end Tj
theorem ccall_any {W : World} {p : Pg.PV} {F : Tj.FP} (hF : Tj.IsF W p F) (c : Tj.Call) {av : Value} (hav : Tj.Us W av c.ar) : Calls Tryz.prog 113 #[p.val, .agg #[.int .i64 c.a, av]] W (Rets W (.int .i64 (Tj.callE F c))) := by
 obtain ⟨a1, a2, a3, a4, a5, a6, a7, a8, m1, m2, m3, m4, m5, m6, n7, m7, m8, hf⟩ := hF.form
 obtain ⟨rfl, hnm, hhs, hmd, hrs, has, hts, hss, hct, hdp, l1, l2, l3, l4, l5, l6, l7, l8⟩ := hf
 obtain ⟨ca, ar⟩ := c
 obtain ⟨R, hR⟩ : ∃ z, z = Tj.callE F ⟨ca, ar⟩ := ⟨_, rfl⟩
 dsimp only at hav ⊢
 rw [← hR]
 unfold Tj.callE at hR
 obtain ⟨ga, gc, rfl⟩ := ns_slice hav.1
 have hgl := hav.1.2
 unfold maxLen at hgl
 have HAV := Lh hav
 dsimp only [Pg.PV.val] at hR ⊢
 have bx := aH W (.cells (Yq0 F a1 m1 a2 m2 a3 m3 a4 m4 a5 m5 a6 m6 a7 m7 n7 a8 m8) 31)
 have k0 := alw (cQ 0 bx)
 have k1 := alw (cQ 1 bx)
 have k2 := alw (cQ 2 bx)
 have k3 := alw (cQ 3 bx)
 have k4 := alw (cQ 4 bx)
 have k5 := alw (cQ 5 bx)
 have k6 := alw (cQ 6 bx)
 have k7 := alw (cQ 7 bx)
 have k8 := alw (cQ 8 bx)
 clear bx
 have bx := aH (W.alloc (.cells (Yq0 F a1 m1 a2 m2 a3 m3 a4 m4 a5 m5 a6 m6 a7 m7 n7 a8 m8) 31)) (.cells #[.int .i64 ca, .slice ga ar.length gc] 94)
 rw [szA] at bx
 have j0 := alw (cQ 0 bx)
 have j1 := alw (cQ 1 bx)
 clear bx
 clear hnm hhs hmd hrs hts hss hct hdp hF hav
 by_cases hi0 : ca < 0
 ·have HE : Hid (R = 8) := Lh (by rw [hR, Tj.at_none (.inl hi0)])
  have d1 : decide (ca < 0) = true := dTt (by omega)
  clear hR has
  go_enter Tryz.func113, Tryz.ntmps113
  go_wp2_with fail
  go_ret
  exact ⟨ret_int (by rw [HE.out]), grows⟩
 ·have d1 : decide (ca < 0) = false := dF (by omega)
  by_cases hi1 : (F.ac.length : Int) ≤ ca
  ·have HE : Hid (R = 8) := Lh (by rw [hR, Tj.at_none (.inr hi1)])
   have d2 : decide ((F.ac.length : Int) ≤ ca) = true := dTt (by omega)
   clear hR has
   go_enter Tryz.func113, Tryz.ntmps113
   go_wp2_with fail
   go_ret
   exact ⟨ret_int (by rw [HE.out]), grows⟩
  ·have d2 : decide ((F.ac.length : Int) ≤ ca) = false := dF (by omega)
   obtain ⟨q, rfl⟩ := Int.eq_ofNat_of_zero_le (show 0 ≤ ca by omega)
   obtain ⟨a, hq⟩ : ∃ a, F.ac[q]? = some a := ⟨_, gE (by omega)⟩
   obtain ⟨ab, ao, rfl, _, _⟩ := Rows.at has (by omega)
   obtain ⟨pa, pc, ba, bc, hn, hps, hbd, ⟨lp, lp'⟩, ⟨lb, lb'⟩, u0, u1, u2⟩ := acts_at has q a hq rfl
   have hat : Tj.at? F.ac (q : Int) = some a := by unfold Tj.at?; rw [if_pos (by omega), Int.toNat_natCast]; exact hq
   rw [hat] at hR
   dsimp only at hR
   unfold maxLen at lp' lb'
   obtain ⟨an, ps, bd⟩ := a
   dsimp only at *
   have y1 := alw u1
   have HPS := Lh hps
   clear has hn hps hbd hq hat u0 u1 u2
   by_cases hl : ar.length = ps.length
   ·rw [if_neg (by simpa using hl)] at hR
    have HE := Lh hR
    have z0 : ((ar.length : Int) != (ps.length : Int)) = false := by rw [hl]; exact bne_self_eq_false _
    have HL := Lh hl
    clear hR hl
    go_enter Tryz.func113, Tryz.ntmps113
    go_wp2_with fail
    go_loopw [35] (fun c wr => ∃ k : Nat, k ≤ ar.length ∧ c = .int .i64 k ∧ Hid (Ext (((W.alloc (.cells #[.string F.nm, .slice a1 F.P.hs.length m1, .slice a2 F.P.md.length m2, .slice a3 F.rs.length m3, .slice (some ⟨ab, ao, none⟩) F.ac.length m4, .slice a5 F.ts.length m5, .slice a6 F.ss.length m6, .slice a7 n7 m7, .slice a8 F.P.dp.length m8] 31))).alloc (.cells #[.int .i64 (q : Int), .slice ga ar.length gc] 94)) wr ∧ ∀ j, j < k → Bv.fits (ar.getD j 0) (ps.getD j (⟨#[]⟩, 0)).2 = true)) (fun c _ => ar.length - (intOf c).toNat)
    case atStart => exact ⟨0, Nat.zero_le _, rfl, Lh ⟨eR _, by intro j hj; omega⟩⟩
    case round =>
     obtain ⟨k, hk, rfl, HZ⟩ := hrel
     have sx : Step (((W.alloc (.cells #[.string F.nm, .slice a1 F.P.hs.length m1, .slice a2 F.P.md.length m2, .slice a3 F.rs.length m3, .slice (some ⟨ab, ao, none⟩) F.ac.length m4, .slice a5 F.ts.length m5, .slice a6 F.ss.length m6, .slice a7 n7 m7, .slice a8 F.P.dp.length m8] 31))).alloc (.cells #[.int .i64 (q : Int), .slice ga ar.length gc] 94)) wr := ⟨HZ.out.1⟩
     by_cases hlt : k < ar.length
     ·obtain ⟨x, hx⟩ : ∃ x, ar[k]? = some x := ⟨_, gE hlt⟩
      have hkp : k < ps.length := by rw [← HL.out]; exact hlt
      obtain ⟨⟨nk, w⟩, hp⟩ : ∃ x, ps[k]? = some x := ⟨_, gE hkp⟩
      obtain ⟨b, o, rfl, hc⟩ := ns_at HAV.out.1 (by omega)
      have v0 := hc k x hx
      obtain ⟨b2, o2, rfl, _, _⟩ := Rows.at HPS.out (by omega)
      obtain ⟨f0, f1, _⟩ := flds_at HPS.out k nk w hp rfl
      have HX := Lh hx
      have HP := Lh hp
      obtain ⟨ft, hft⟩ : ∃ z, z = Bv.fits x w := ⟨_, rfl⟩
      have HC : Hid (∀ wq, Calls Tryz.prog 140 #[.int .u32 x, .int .i64 w] wq (Rets wq (.bool ft))) := Lh (fun wq => by have h := fits_any x w wq; rw [← hft] at h; exact h)
      have HFT := Lh hft
      clear hx hp hc hft
      cases ft with
      | true =>
       go_wp2_with fail
       refine via (HC.out _) fun w7 xw7 sw7 => ?_
       go_wp2_with fail
       go_roundw
       case rel =>
        refine ⟨k + 1, by omega, by go_num, Lh ⟨grows, fun j hj => ?_⟩⟩
        rcases Nat.lt_or_ge j k with h1 | h1
        ·exact HZ.out.2 j h1
        ·obtain rfl : j = k := by omega
         rw [List.getD_eq_getElem?_getD, List.getD_eq_getElem?_getD, HX.out, HP.out]; exact HFT.out.symm
       case measure => simp [intOf]; omega
      | false =>
       have HE2 : Hid (R = 9) := Lh (by rw [HE.out]; exact Tj.argsE_bad HX.out HP.out HFT.out.symm)
       go_wp2_with fail
       refine via (HC.out _) fun w7 xw7 sw7 => ?_
       go_wp2_with fail
       go_ret
       exact ⟨ret_int (by rw [HE2.out]), grows⟩
     ·obtain rfl : k = ar.length := by omega
      have HE2 : Hid (R = 0) := Lh (by rw [HE.out]; exact Tj.argsE_good HZ.out.2)
      go_wp2_with fail
      go_ret
      exact ⟨ret_int (by rw [HE2.out]), grows⟩
   ·have HE : Hid (R = 2) := Lh (by rw [hR, if_pos hl])
    have z0 : ((ar.length : Int) != (ps.length : Int)) = true := nT (by omega)
    clear hR hl
    go_enter Tryz.func113, Tryz.ntmps113
    go_wp2_with fail
    go_ret
    exact ⟨ret_int (by rw [HE.out]), grows⟩
end Go.Proofs.YtkiafiaodockbaaGreat
