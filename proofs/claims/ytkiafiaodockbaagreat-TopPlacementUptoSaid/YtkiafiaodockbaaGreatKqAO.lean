/- What an action writes: action.Writes, walked. The cells that a unit writes: access.Writes, walked. No condition. -/
import Derived.Test.YtkiafiaodockbaaGreatKqAN
set_option maxRecDepth 8000
set_option maxHeartbeats 16000000
namespace Go.Proofs.YtkiafiaodockbaaGreat
open Go.RowKit
namespace Pl
theorem hfs_len (F : Tj.FP) (h : Int) : (hfs F h).length = (F.P.hs.getD h.toNat (⟨#[]⟩, [])).2.length := by unfold hfs; simp
theorem hfs_add {F : Tj.FP} {h : Int} {k : Nat} (hk : k < (hfs F h).length) : (hfs F h).take (k + 1) = (hfs F h).take k ++ [(h, (k : Int))] := by
 rw [List.take_add_one, gE hk]
 unfold hfs; simp
theorem app_hf (x : Acc) (h : Int) (l : List (Int × Int)) (y : Int × Int) : (x.app ⟨l, [h], []⟩).app ⟨[y], [], []⟩ = x.app ⟨l ++ [y], [h], []⟩ := by simp [Acc.app]
end Pl
theorem awrites_any {W : World} {p : Pg.PV} {F : Tj.FP} (hF : Tj.IsF W p F) (hB : Pl.Bd F) (i : Int) : Calls Tryz.prog 92 #[p.val, .int .i64 i] W (Pl.AccR W (Pl.acW F i)) := by
 have HBD := Lh (fun (w : World) (hx : Ext W w) => abody_any hF hx i)
 have hlb := Pl.acB_len (F := F) i
 have HSM : Hid (∀ s ∈ Pl.acB F i, ∃ ps, Tj.stmE F ps s = 0) := Lh (fun s hs => Pl.acB_stm hs)
 have HBD2 := Lh hB
 obtain ⟨a1, a2, a3, a4, a5, a6, a7, a8, m1, m2, m3, m4, m5, m6, n7, m7, m8, hf⟩ := hF.form
 obtain ⟨rfl, hnm, hhs, hmd, hrs, has, hts, hss, hct, hdp, l1, l2, l3, l4, l5, l6, l7, l8⟩ := hf
 have HH := Lh hhs
 dsimp only [Pg.PV.val] at HBD ⊢
 unfold Pl.acW
 unfold Pl.BodyP at HBD
 obtain ⟨Lb, hLb⟩ : ∃ z, z = Pl.acB F i := ⟨_, rfl⟩
 rw [← hLb] at HBD hlb HSM ⊢
 have bx := aH W (.cells (Yq0 F a1 m1 a2 m2 a3 m3 a4 m4 a5 m5 a6 m6 a7 m7 n7 a8 m8) 31)
 have k0 := alw (cQ 0 bx)
 have k1 := alw (cQ 1 bx)
 have k2 := alw (cQ 2 bx)
 have k3 := alw (cQ 3 bx)
 have k4 := alw (cQ 4 bx)
 have k5 := alw (cQ 5 bx)
 have k6 := alw (cQ 6 bx)
 have k7 := alw (cQ 7 bx)
 have k8 := alw (cQ 8 bx)
 clear bx
 have hS := Pl.AccB.start (W.alloc (.cells (Yq0 F a1 m1 a2 m2 a3 m3 a4 m4 a5 m5 a6 m6 a7 m7 n7 a8 m8) 31))
 rw [szA] at hS
 have HS0 := Lh hS
 have HXW : Hid (Ext W ((W.alloc (.cells (Yq0 F a1 m1 a2 m2 a3 m3 a4 m4 a5 m5 a6 m6 a7 m7 n7 a8 m8) 31)).alloc (.cells #[.slice none 0 0, .slice none 0 0, .slice none 0 0] 222))) := Lh grows
 clear hF hnm hhs hmd hrs has hts hss hct hdp hLb hS hB
 go_enter Tryz.func92, Tryz.ntmps92
 go_wp2_with fail
 refine (HBD.out _ grows).mono ?_
 rintro e w3 ⟨ba, bc, rfl, x3, hst, hb1, hb2⟩
 unfold maxLen at hb2
 have s3 := Sm x3
 have HB0 : Hid (Tj.Stms W (.slice ba Lb.length bc) Lb) := Lh hst
 have HI0 : Hid (∃ vf vh vr a', Pl.AccB w3 (W.heap.size + 1) vf vh vr a' ∧ Pl.SameA a' (Pl.accs (Pl.stW F) (Lb.take 0)) ∧ a'.le (100 * 0) ∧ Pl.Kx (W.heap.size + 1) ((W.alloc (.cells (Yq0 F a1 m1 a2 m2 a3 m3 a4 m4 a5 m5 a6 m6 a7 m7 n7 a8 m8) 31)).alloc (.cells #[.slice none 0 0, .slice none 0 0, .slice none 0 0] 222)) w3) := Lh ⟨_, _, _, _, HS0.out.ext x3, Pl.SameA.refl _, ⟨Nat.le_refl _, Nat.le_refl _, Nat.le_refl _⟩, Pl.Kx.ext x3 (by rw [szA, szA]; omega)⟩
 clear hst x3 HS0
 go_wp2_with fail
 go_loopw [15] (fun q wr => ∃ k : Nat, k ≤ Lb.length ∧ q = .int .i64 k ∧ Hid (∃ vf vh vr a', Pl.AccB wr (W.heap.size + 1) vf vh vr a' ∧ Pl.SameA a' (Pl.accs (Pl.stW F) (Lb.take k)) ∧ a'.le (100 * k) ∧ Pl.Kx (W.heap.size + 1) ((W.alloc (.cells (Yq0 F a1 m1 a2 m2 a3 m3 a4 m4 a5 m5 a6 m6 a7 m7 n7 a8 m8) 31)).alloc (.cells #[.slice none 0 0, .slice none 0 0, .slice none 0 0] 222)) wr)) (fun q _ => Lb.length - (intOf q).toNat)
 case atStart => exact ⟨0, Nat.zero_le _, rfl, HI0⟩
 case round =>
  obtain ⟨k, hk, rfl, HZ⟩ := hrel
  obtain ⟨wo, rfl⟩ : ∃ wo : World, wo = wr := ⟨_, rfl⟩
  obtain ⟨vfr, vhr, vrr, ac0, habr, hsr, hlr, hkr⟩ := HZ.out
  by_cases hlt : k < Lb.length
  ·have HXR : Hid (Ext W wo) := Lh (Pl.Kx.low HXW.out (by omega) hkr)
   obtain ⟨⟨sk, sh, sf, sr, sd, ix, vl⟩, hx⟩ : ∃ y, Lb[k]? = some y := ⟨_, gE hlt⟩
   obtain ⟨sb, so, rfl, _, _⟩ := Rows.at HB0.out (by omega)
   obtain ⟨xa, xc, va, vc, hix, hvl, g0, g1, g2, g3, g4, g5, g6⟩ := stms_at HB0.out k _ hx rfl
   dsimp only at hix hvl g0 g1 g2 g3 g4 g5 g6
   have y0 := alw (HXR.out.cell g0)
   have y1 := alw (HXR.out.cell g1)
   have y2 := alw (HXR.out.cell g2)
   have y3 := alw (HXR.out.cell g3)
   have y4 := alw (HXR.out.cell g4)
   have y5 := alw (HXR.out.cell g5)
   have y6 := alw (HXR.out.cell g6)
   obtain ⟨ps, hse⟩ := HSM.out _ (List.mem_of_getElem? hx)
   obtain ⟨_, _, _, ln4⟩ := Pl.stm_len hse
   dsimp only at ln4
   have HXK := Lh hx
   clear hix hvl g0 g1 g2 g3 g4 g5 g6 hse hx HZ
   by_cases hk1 : sk = 1
   ·subst hk1
    clear ln4
    have HST0 : Hid ((wo.alloc (.cells (Yq10 sh sf sr sd xa xc ix.length va vc vl.length) 90)).heap[wo.heap.size]? = some (.cells (Yq10 sh sf sr sd xa xc ix.length va vc vl.length) 90 (0, 0))) := Lh (aH _ _)
    have hkx0 := hkr.trans (Pl.Kx.ext (grows (a := wo) (b := wo.alloc (.cells (Yq10 sh sf sr sd xa xc ix.length va vc vl.length) 90))) (Nat.le_of_lt habr.lt))
    have hab0 := habr.ext (grows (a := wo) (b := wo.alloc (.cells (Yq10 sh sf sr sd xa xc ix.length va vc vl.length) 90)))
    have hsa0 := hsr
    have hle0 := hlr
    clear habr hsr hlr hkr
    obtain ⟨va0, vc0, rfl⟩ := own_slice hab0.rf
    obtain ⟨vha0, vhc0, rfl⟩ := own_slice hab0.rh
    obtain ⟨vra0, vrc0, rfl⟩ := own_slice hab0.rr
    have HAB0 := Lh hab0
    have HSA0 := Lh hsa0
    have HLE0 := Lh hle0
    have HKX0 := Lh hkx0
    obtain ⟨hl00, hl10, hl20⟩ := hle0
    have bc00 := alw (cQ 0 hab0.box)
    have bc10 := alw (cQ 1 hab0.box)
    have bc20 := alw (cQ 2 hab0.box)
    clear hab0 hsa0 hkx0
    have sc00 := alw (cQ 0 HST0.out)
    have sc10 := alw (cQ 1 HST0.out)
    have sc20 := alw (cQ 2 HST0.out)
    have sc30 := alw (cQ 3 HST0.out)
    have sc40 := alw (cQ 4 HST0.out)
    have sc50 := alw (cQ 5 HST0.out)
    have sc60 := alw (cQ 6 HST0.out)
    have HSR1 := Lh (src_fld (wo.alloc (.cells (Yq10 sh sf sr sd xa xc ix.length va vc vl.length) 90)) (sh) (sf))
    try rw [szA] at HSR1
    go_wp2_with (at_builtin; refine wpList_append_fresh rfl (.tmp 25) (.tmp 28) 181 rfl (W.heap.size + 1 + 1) 88 (.agg #[.int .i64 0, .int .i64 0]) 2 16 Tryz.underlying181 cinf_fref rfl (by decide) (.slice va0 ac0.f.length vc0) ac0.f.length _ rfl (HAB0.out.ext (grows (a := (wo.alloc (.cells (Yq10 sh sf sr sd xa xc ix.length va vc vl.length) 90))) (b := ((wo.alloc (.cells (Yq10 sh sf sr sd xa xc ix.length va vc vl.length) 90)).alloc (.cells #[.int .i64 sh, .int .i64 sf] 88))))).rf _ 1 _ rfl HSR1.out ?d1 ?d2 ?d3 ?_)
    case d1 => unfold maxLen; omega
    case d2 => omega
    case d3 => (have := HAB0.out.lt; (try simp only [szA] at *); omega)
    intro v' g1 hown hgr hfr
    obtain ⟨ea1, ec1, rfl⟩ := own_slice hown
    have HP1 := Lh (HAB0.out.putf (l := [(sh, sf)]) (grows (a := (wo.alloc (.cells (Yq10 sh sf sr sd xa xc ix.length va vc vl.length) 90))) (b := ((wo.alloc (.cells (Yq10 sh sf sr sd xa xc ix.length va vc vl.length) 90)).alloc (.cells #[.int .i64 sh, .int .i64 sf] 88)))) (by rw [show ([(sh, sf)] : List (Int × Int)).flatMap Pl.fE = Pl.fE (sh, sf) from rfl]; exact hown) hgr)
    have hbx1 := (grown_mod hgr).heap (HAB0.out.ext (grows (a := (wo.alloc (.cells (Yq10 sh sf sr sd xa xc ix.length va vc vl.length) 90))) (b := ((wo.alloc (.cells (Yq10 sh sf sr sd xa xc ix.length va vc vl.length) 90)).alloc (.cells #[.int .i64 sh, .int .i64 sf] 88))))).box (fun hk => by have := ((HAB0.out.ext (grows (a := (wo.alloc (.cells (Yq10 sh sf sr sd xa xc ix.length va vc vl.length) 90))) (b := ((wo.alloc (.cells (Yq10 sh sf sr sd xa xc ix.length va vc vl.length) 90)).alloc (.cells #[.int .i64 sh, .int .i64 sf] 88))))).rf.lt _ hk.symm).1; omega)
    have yy1 : g1.cell? ⟨W.heap.size + 1, 0, none⟩ = some (.slice va0 ac0.f.length vc0) := cQ 0 hbx1
    have yf1 : g1.frozen? ⟨W.heap.size + 1, 0, none⟩ = false := free_of hbx1
    clear hown hgr hfr hbx1
    go_wp2_with (refine wpList_store_cellK rfl 181 (.tmp 30) (.tmp 29) rfl (W.heap.size + 1) 0 (.slice va0 ac0.f.length vc0) (.slice ea1 (ac0.f.length + 1) ec1) rfl rfl (by kernel_rfl) rfl yy1 yf1 ?_)
    intro u1 hz1
    rw [← hz1.out] at HP1
    clear hz1 yy1 yf1
    have HST1 : Hid (u1.heap[wo.heap.size]? = some (.cells (Yq10 sh sf sr sd xa xc ix.length va vc vl.length) 90 (0, 0))) := Lh (HP1.out.2.2 _ _ _ HST0.out)
    have hkx1 := HKX0.out.trans HP1.out.2
    have hsa1 := HSA0.out.pf [(sh, sf)]
    have hle1 := HLE0.out.pf (sh, sf)
    obtain ⟨ac1, ha1⟩ : ∃ z : Pl.Acc, z = ⟨ac0.f ++ [(sh, sf)], ac0.h, ac0.r⟩ := ⟨_, rfl⟩
    have hab1 := HP1.out.1
    rw [← ha1] at hsa1 hle1 hab1
    clear HP1 ha1
    obtain ⟨va1, vc1, hvf1⟩ := own_slice hab1.rf
    obtain ⟨vha1, vhc1, hvh1⟩ := own_slice hab1.rh
    obtain ⟨vra1, vrc1, hvr1⟩ := own_slice hab1.rr
    rw [hvf1] at hab1
    rw [hvh1] at hab1
    rw [hvr1] at hab1
    clear hvf1
    clear hvh1
    clear hvr1
    have HAB1 := Lh hab1
    have HSA1 := Lh hsa1
    have HLE1 := Lh hle1
    have HKX1 := Lh hkx1
    obtain ⟨hl01, hl11, hl21⟩ := hle1
    have bc01 := alw (cQ 0 hab1.box)
    have bc11 := alw (cQ 1 hab1.box)
    have bc21 := alw (cQ 2 hab1.box)
    clear hab1 hsa1 hkx1
    have sc01 := alw (cQ 0 HST1.out)
    have sc11 := alw (cQ 1 HST1.out)
    have sc21 := alw (cQ 2 HST1.out)
    have sc31 := alw (cQ 3 HST1.out)
    have sc41 := alw (cQ 4 HST1.out)
    have sc51 := alw (cQ 5 HST1.out)
    have sc61 := alw (cQ 6 HST1.out)
    have HR : Hid (Pl.SameA ac1 (Pl.accs (Pl.stW F) (Lb.take (k + 1)))) := Lh (by
     have e : (Pl.stW F) ⟨1, sh, sf, sr, sd, ix, vl⟩ = ⟨[(sh, sf)], [], []⟩ := by simp [Pl.stW]
     rw [Pl.accs_add HXK.out, e]
     exact HSA1.out)
    go_wp2_with fail
    go_roundw
    case rel => exact ⟨k + 1, by omega, by go_num, Lh ⟨_, _, _, ac1, HAB1.out, HR.out, HLE1.out.mono (by omega), HKX1.out⟩⟩
    case measure => simp [intOf]; omega
   ·by_cases hk4 : sk = 4
    ·subst hk4
     clear ln4
     have HST0 : Hid ((wo.alloc (.cells (Yq9 sh sf sr sd xa xc ix.length va vc vl.length) 90)).heap[wo.heap.size]? = some (.cells (Yq9 sh sf sr sd xa xc ix.length va vc vl.length) 90 (0, 0))) := Lh (aH _ _)
     have hkx0 := hkr.trans (Pl.Kx.ext (grows (a := wo) (b := wo.alloc (.cells (Yq9 sh sf sr sd xa xc ix.length va vc vl.length) 90))) (Nat.le_of_lt habr.lt))
     have hab0 := habr.ext (grows (a := wo) (b := wo.alloc (.cells (Yq9 sh sf sr sd xa xc ix.length va vc vl.length) 90)))
     have hsa0 := hsr
     have hle0 := hlr
     clear habr hsr hlr hkr
     obtain ⟨va0, vc0, rfl⟩ := own_slice hab0.rf
     obtain ⟨vha0, vhc0, rfl⟩ := own_slice hab0.rh
     obtain ⟨vra0, vrc0, rfl⟩ := own_slice hab0.rr
     have HAB0 := Lh hab0
     have HSA0 := Lh hsa0
     have HLE0 := Lh hle0
     have HKX0 := Lh hkx0
     obtain ⟨hl00, hl10, hl20⟩ := hle0
     have bc00 := alw (cQ 0 hab0.box)
     have bc10 := alw (cQ 1 hab0.box)
     have bc20 := alw (cQ 2 hab0.box)
     clear hab0 hsa0 hkx0
     have sc00 := alw (cQ 0 HST0.out)
     have sc10 := alw (cQ 1 HST0.out)
     have sc20 := alw (cQ 2 HST0.out)
     have sc30 := alw (cQ 3 HST0.out)
     have sc40 := alw (cQ 4 HST0.out)
     have sc50 := alw (cQ 5 HST0.out)
     have sc60 := alw (cQ 6 HST0.out)
     have HSR1 := Lh (src_fld (wo.alloc (.cells (Yq9 sh sf sr sd xa xc ix.length va vc vl.length) 90)) (sh) (sf))
     try rw [szA] at HSR1
     go_wp2_with (at_builtin; refine wpList_append_fresh rfl (.tmp 25) (.tmp 28) 181 rfl (W.heap.size + 1 + 1) 88 (.agg #[.int .i64 0, .int .i64 0]) 2 16 Tryz.underlying181 cinf_fref rfl (by decide) (.slice va0 ac0.f.length vc0) ac0.f.length _ rfl (HAB0.out.ext (grows (a := (wo.alloc (.cells (Yq9 sh sf sr sd xa xc ix.length va vc vl.length) 90))) (b := ((wo.alloc (.cells (Yq9 sh sf sr sd xa xc ix.length va vc vl.length) 90)).alloc (.cells #[.int .i64 sh, .int .i64 sf] 88))))).rf _ 1 _ rfl HSR1.out ?d1 ?d2 ?d3 ?_)
     case d1 => unfold maxLen; omega
     case d2 => omega
     case d3 => (have := HAB0.out.lt; (try simp only [szA] at *); omega)
     intro v' g1 hown hgr hfr
     obtain ⟨ea1, ec1, rfl⟩ := own_slice hown
     have HP1 := Lh (HAB0.out.putf (l := [(sh, sf)]) (grows (a := (wo.alloc (.cells (Yq9 sh sf sr sd xa xc ix.length va vc vl.length) 90))) (b := ((wo.alloc (.cells (Yq9 sh sf sr sd xa xc ix.length va vc vl.length) 90)).alloc (.cells #[.int .i64 sh, .int .i64 sf] 88)))) (by rw [show ([(sh, sf)] : List (Int × Int)).flatMap Pl.fE = Pl.fE (sh, sf) from rfl]; exact hown) hgr)
     have hbx1 := (grown_mod hgr).heap (HAB0.out.ext (grows (a := (wo.alloc (.cells (Yq9 sh sf sr sd xa xc ix.length va vc vl.length) 90))) (b := ((wo.alloc (.cells (Yq9 sh sf sr sd xa xc ix.length va vc vl.length) 90)).alloc (.cells #[.int .i64 sh, .int .i64 sf] 88))))).box (fun hk => by have := ((HAB0.out.ext (grows (a := (wo.alloc (.cells (Yq9 sh sf sr sd xa xc ix.length va vc vl.length) 90))) (b := ((wo.alloc (.cells (Yq9 sh sf sr sd xa xc ix.length va vc vl.length) 90)).alloc (.cells #[.int .i64 sh, .int .i64 sf] 88))))).rf.lt _ hk.symm).1; omega)
     have yy1 : g1.cell? ⟨W.heap.size + 1, 0, none⟩ = some (.slice va0 ac0.f.length vc0) := cQ 0 hbx1
     have yf1 : g1.frozen? ⟨W.heap.size + 1, 0, none⟩ = false := free_of hbx1
     clear hown hgr hfr hbx1
     go_wp2_with (refine wpList_store_cellK rfl 181 (.tmp 30) (.tmp 29) rfl (W.heap.size + 1) 0 (.slice va0 ac0.f.length vc0) (.slice ea1 (ac0.f.length + 1) ec1) rfl rfl (by kernel_rfl) rfl yy1 yf1 ?_)
     intro u1 hz1
     rw [← hz1.out] at HP1
     clear hz1 yy1 yf1
     have HST1 : Hid (u1.heap[wo.heap.size]? = some (.cells (Yq9 sh sf sr sd xa xc ix.length va vc vl.length) 90 (0, 0))) := Lh (HP1.out.2.2 _ _ _ HST0.out)
     have hkx1 := HKX0.out.trans HP1.out.2
     have hsa1 := HSA0.out.pf [(sh, sf)]
     have hle1 := HLE0.out.pf (sh, sf)
     obtain ⟨ac1, ha1⟩ : ∃ z : Pl.Acc, z = ⟨ac0.f ++ [(sh, sf)], ac0.h, ac0.r⟩ := ⟨_, rfl⟩
     have hab1 := HP1.out.1
     rw [← ha1] at hsa1 hle1 hab1
     clear HP1 ha1
     obtain ⟨va1, vc1, hvf1⟩ := own_slice hab1.rf
     obtain ⟨vha1, vhc1, hvh1⟩ := own_slice hab1.rh
     obtain ⟨vra1, vrc1, hvr1⟩ := own_slice hab1.rr
     rw [hvf1] at hab1
     rw [hvh1] at hab1
     rw [hvr1] at hab1
     clear hvf1
     clear hvh1
     clear hvr1
     have HAB1 := Lh hab1
     have HSA1 := Lh hsa1
     have HLE1 := Lh hle1
     have HKX1 := Lh hkx1
     obtain ⟨hl01, hl11, hl21⟩ := hle1
     have bc01 := alw (cQ 0 hab1.box)
     have bc11 := alw (cQ 1 hab1.box)
     have bc21 := alw (cQ 2 hab1.box)
     clear hab1 hsa1 hkx1
     have sc01 := alw (cQ 0 HST1.out)
     have sc11 := alw (cQ 1 HST1.out)
     have sc21 := alw (cQ 2 HST1.out)
     have sc31 := alw (cQ 3 HST1.out)
     have sc41 := alw (cQ 4 HST1.out)
     have sc51 := alw (cQ 5 HST1.out)
     have sc61 := alw (cQ 6 HST1.out)
     have HR : Hid (Pl.SameA ac1 (Pl.accs (Pl.stW F) (Lb.take (k + 1)))) := Lh (by
      have e : (Pl.stW F) ⟨4, sh, sf, sr, sd, ix, vl⟩ = ⟨[(sh, sf)], [], []⟩ := by simp [Pl.stW]
      rw [Pl.accs_add HXK.out, e]
      exact HSA1.out)
     go_wp2_with fail
     go_roundw
     case rel => exact ⟨k + 1, by omega, by go_num, Lh ⟨_, _, _, ac1, HAB1.out, HR.out, HLE1.out.mono (by omega), HKX1.out⟩⟩
     case measure => simp [intOf]; omega
    ·by_cases hk2 : sk = 2
     ·subst hk2
      obtain ⟨hd0, hd1⟩ := ln4 (by decide)
      obtain ⟨q, rfl⟩ := Int.eq_ofNat_of_zero_le hd0
      have hqs : q < F.P.hs.length := by omega
      clear ln4 hd0 hd1
      have HST0 : Hid ((wo.alloc (.cells #[.int .i64 2, .int .i64 sh, .int .i64 sf, .int .i64 sr, .int .i64 (q : Int), .slice xa ix.length xc, .slice va vl.length vc] 90)).heap[wo.heap.size]? = some (.cells #[.int .i64 2, .int .i64 sh, .int .i64 sf, .int .i64 sr, .int .i64 (q : Int), .slice xa ix.length xc, .slice va vl.length vc] 90 (0, 0))) := Lh (aH _ _)
      have hkx0 := hkr.trans (Pl.Kx.ext (grows (a := wo) (b := wo.alloc (.cells #[.int .i64 2, .int .i64 sh, .int .i64 sf, .int .i64 sr, .int .i64 (q : Int), .slice xa ix.length xc, .slice va vl.length vc] 90))) (Nat.le_of_lt habr.lt))
      have hab0 := habr.ext (grows (a := wo) (b := wo.alloc (.cells #[.int .i64 2, .int .i64 sh, .int .i64 sf, .int .i64 sr, .int .i64 (q : Int), .slice xa ix.length xc, .slice va vl.length vc] 90)))
      have hsa0 := hsr
      have hle0 := hlr
      clear habr hsr hlr hkr
      obtain ⟨va0, vc0, rfl⟩ := own_slice hab0.rf
      obtain ⟨vha0, vhc0, rfl⟩ := own_slice hab0.rh
      obtain ⟨vra0, vrc0, rfl⟩ := own_slice hab0.rr
      have HAB0 := Lh hab0
      have HSA0 := Lh hsa0
      have HLE0 := Lh hle0
      have HKX0 := Lh hkx0
      obtain ⟨hl00, hl10, hl20⟩ := hle0
      have bc00 := alw (cQ 0 hab0.box)
      have bc10 := alw (cQ 1 hab0.box)
      have bc20 := alw (cQ 2 hab0.box)
      clear hab0 hsa0 hkx0
      have sc00 := alw (cQ 0 HST0.out)
      have sc10 := alw (cQ 1 HST0.out)
      have sc20 := alw (cQ 2 HST0.out)
      have sc30 := alw (cQ 3 HST0.out)
      have sc40 := alw (cQ 4 HST0.out)
      have sc50 := alw (cQ 5 HST0.out)
      have sc60 := alw (cQ 6 HST0.out)
      have HSR1 := Lh (src_one (wo.alloc (.cells #[.int .i64 2, .int .i64 sh, .int .i64 sf, .int .i64 sr, .int .i64 (q : Int), .slice xa ix.length xc, .slice va vl.length vc] 90)) (.int .i64 (q : Int)) 3 rfl)
      try rw [szA] at HSR1
      go_wp2_with (at_builtin; refine wpList_append_fresh rfl (.tmp 35) (.tmp 38) 29 rfl (W.heap.size + 1 + 1) 3 (.int .i64 0) 1 8 Tryz.underlying29 info_i64 rfl (by decide) (.slice vha0 ac0.h.length vhc0) ac0.h.length _ rfl (HAB0.out.ext (grows (a := (wo.alloc (.cells #[.int .i64 2, .int .i64 sh, .int .i64 sf, .int .i64 sr, .int .i64 (q : Int), .slice xa ix.length xc, .slice va vl.length vc] 90))) (b := ((wo.alloc (.cells #[.int .i64 2, .int .i64 sh, .int .i64 sf, .int .i64 sr, .int .i64 (q : Int), .slice xa ix.length xc, .slice va vl.length vc] 90)).alloc (.cells #[.int .i64 (q : Int)] 3))))).rh _ 1 _ rfl HSR1.out ?d1 ?d2 ?d3 ?_)
      case d1 => unfold maxLen; omega
      case d2 => omega
      case d3 => (have := HAB0.out.lt; (try simp only [szA] at *); omega)
      intro v' g1 hown hgr hfr
      obtain ⟨ea1, ec1, rfl⟩ := own_slice hown
      have HP1 := Lh (HAB0.out.puth (l := [(q : Int)]) (grows (a := (wo.alloc (.cells #[.int .i64 2, .int .i64 sh, .int .i64 sf, .int .i64 sr, .int .i64 (q : Int), .slice xa ix.length xc, .slice va vl.length vc] 90))) (b := ((wo.alloc (.cells #[.int .i64 2, .int .i64 sh, .int .i64 sf, .int .i64 sr, .int .i64 (q : Int), .slice xa ix.length xc, .slice va vl.length vc] 90)).alloc (.cells #[.int .i64 (q : Int)] 3)))) hown hgr (by rcases hfr with h | h; exact .inl h; exact .inr (fun k hk => by have := h k hk; (try rw [szA]); (try rw [szA]); omega)))
      have hbx1 := (grown_mod hgr).heap (HAB0.out.ext (grows (a := (wo.alloc (.cells #[.int .i64 2, .int .i64 sh, .int .i64 sf, .int .i64 sr, .int .i64 (q : Int), .slice xa ix.length xc, .slice va vl.length vc] 90))) (b := ((wo.alloc (.cells #[.int .i64 2, .int .i64 sh, .int .i64 sf, .int .i64 sr, .int .i64 (q : Int), .slice xa ix.length xc, .slice va vl.length vc] 90)).alloc (.cells #[.int .i64 (q : Int)] 3))))).box (fun hk => by have := ((HAB0.out.ext (grows (a := (wo.alloc (.cells #[.int .i64 2, .int .i64 sh, .int .i64 sf, .int .i64 sr, .int .i64 (q : Int), .slice xa ix.length xc, .slice va vl.length vc] 90))) (b := ((wo.alloc (.cells #[.int .i64 2, .int .i64 sh, .int .i64 sf, .int .i64 sr, .int .i64 (q : Int), .slice xa ix.length xc, .slice va vl.length vc] 90)).alloc (.cells #[.int .i64 (q : Int)] 3))))).rh.lt _ hk.symm).1; omega)
      have yy1 : g1.cell? ⟨W.heap.size + 1, 1, none⟩ = some (.slice vha0 ac0.h.length vhc0) := cQ 1 hbx1
      have yf1 : g1.frozen? ⟨W.heap.size + 1, 1, none⟩ = false := free_of hbx1
      clear hown hgr hfr hbx1
      go_wp2_with (refine wpList_store_cellK rfl 29 (.tmp 40) (.tmp 39) rfl (W.heap.size + 1) 1 (.slice vha0 ac0.h.length vhc0) (.slice ea1 (ac0.h.length + 1) ec1) rfl rfl (by kernel_rfl) rfl yy1 yf1 ?_)
      intro u1 hz1
      rw [← hz1.out] at HP1
      clear hz1 yy1 yf1
      have HST1 : Hid (u1.heap[wo.heap.size]? = some (.cells #[.int .i64 2, .int .i64 sh, .int .i64 sf, .int .i64 sr, .int .i64 (q : Int), .slice xa ix.length xc, .slice va vl.length vc] 90 (0, 0))) := Lh (HP1.out.2.2 _ _ _ HST0.out)
      have hkx1 := HKX0.out.trans HP1.out.2
      have hsa1 := HSA0.out.ph [(q : Int)]
      have hle1 := HLE0.out.ph (q : Int)
      obtain ⟨ac1, ha1⟩ : ∃ z : Pl.Acc, z = ⟨ac0.f, ac0.h ++ [(q : Int)], ac0.r⟩ := ⟨_, rfl⟩
      have hab1 := HP1.out.1
      rw [← ha1] at hsa1 hle1 hab1
      clear HP1 ha1
      obtain ⟨va1, vc1, hvf1⟩ := own_slice hab1.rf
      obtain ⟨vha1, vhc1, hvh1⟩ := own_slice hab1.rh
      obtain ⟨vra1, vrc1, hvr1⟩ := own_slice hab1.rr
      rw [hvf1] at hab1
      rw [hvh1] at hab1
      rw [hvr1] at hab1
      clear hvf1
      clear hvh1
      clear hvr1
      have HAB1 := Lh hab1
      have HSA1 := Lh hsa1
      have HLE1 := Lh hle1
      have HKX1 := Lh hkx1
      obtain ⟨hl01, hl11, hl21⟩ := hle1
      have bc01 := alw (cQ 0 hab1.box)
      have bc11 := alw (cQ 1 hab1.box)
      have bc21 := alw (cQ 2 hab1.box)
      clear hab1 hsa1 hkx1
      have sc01 := alw (cQ 0 HST1.out)
      have sc11 := alw (cQ 1 HST1.out)
      have sc21 := alw (cQ 2 HST1.out)
      have sc31 := alw (cQ 3 HST1.out)
      have sc41 := alw (cQ 4 HST1.out)
      have sc51 := alw (cQ 5 HST1.out)
      have sc61 := alw (cQ 6 HST1.out)
      have HXU : Hid (Ext (W.alloc (.cells (Yq0 F a1 m1 a2 m2 a3 m3 a4 m4 a5 m5 a6 m6 a7 m7 n7 a8 m8) 31)) u1) := Lh (Pl.Kx.low (w0 := (W.alloc (.cells (Yq0 F a1 m1 a2 m2 a3 m3 a4 m4 a5 m5 a6 m6 a7 m7 n7 a8 m8) 31))) grows (by rw [szA]; omega) HKX1.out)
      have pk1 := alw (HXU.out.cell (k1 (W.alloc (.cells (Yq0 F a1 m1 a2 m2 a3 m3 a4 m4 a5 m5 a6 m6 a7 m7 n7 a8 m8) 31))))
      obtain ⟨hb, ho, ha1, _, _⟩ := Rows.at HH.out (by omega)
      rw [ha1] at pk1
      obtain ⟨⟨hn, fs⟩, hxh⟩ : ∃ x, F.P.hs[q]? = some x := ⟨_, gE hqs⟩
      obtain ⟨fa, fc, u0, u1', hns, hfs, hf1, hf2⟩ := hdrs_at HH.out q hn fs hxh ha1
      have hf3 := HBD2.out.fs _ (List.mem_of_getElem? hxh)
      dsimp only at hf3
      have hgd : F.P.hs.getD q (⟨#[]⟩, []) = (hn, fs) := by rw [List.getD_eq_getElem?_getD, hxh]; rfl
      have HFL : Hid ((Pl.hfs F (q : Int)).length = fs.length) := Lh (by rw [Pl.hfs_len, Int.toNat_natCast, hgd])
      have HXU2 : Hid (Ext W u1) := Lh ((grows (a := W) (b := (W.alloc (.cells (Yq0 F a1 m1 a2 m2 a3 m3 a4 m4 a5 m5 a6 m6 a7 m7 n7 a8 m8) 31)))).trans HXU.out)
      have z0 := alw (HXU2.out.cell (u0 W))
      have z1 := alw (HXU2.out.cell (u1' W))
      have HJ0 : Hid (∃ vf vh vr a', Pl.AccB u1 (W.heap.size + 1) vf vh vr a' ∧ Pl.SameA a' ((Pl.accs (Pl.stW F) (Lb.take k)).app ⟨(Pl.hfs F (q : Int)).take 0, [(q : Int)], []⟩) ∧ a'.le (100 * k + 1 + 0) ∧ Pl.Kx (W.heap.size + 1) ((W.alloc (.cells (Yq0 F a1 m1 a2 m2 a3 m3 a4 m4 a5 m5 a6 m6 a7 m7 n7 a8 m8) 31)).alloc (.cells #[.slice none 0 0, .slice none 0 0, .slice none 0 0] 222)) u1 ∧ u1.heap[wo.heap.size]? = some (.cells #[.int .i64 2, .int .i64 sh, .int .i64 sf, .int .i64 sr, .int .i64 (q : Int), .slice xa ix.length xc, .slice va vl.length vc] 90 (0, 0))) := Lh ⟨_, _, _, ac1, HAB1.out, by rw [tkZ]; exact HSA1.out, HLE1.out, HKX1.out, HST1.out⟩
      clear hxh hfs hns hgd ha1
      go_wp2_with fail
      go_loopw [49] (fun c wr => ∃ j : Nat, j ≤ fs.length ∧ c = .int .i64 j ∧ Hid (∃ vf vh vr a', Pl.AccB wr (W.heap.size + 1) vf vh vr a' ∧ Pl.SameA a' ((Pl.accs (Pl.stW F) (Lb.take k)).app ⟨(Pl.hfs F (q : Int)).take j, [(q : Int)], []⟩) ∧ a'.le (100 * k + 1 + j) ∧ Pl.Kx (W.heap.size + 1) ((W.alloc (.cells (Yq0 F a1 m1 a2 m2 a3 m3 a4 m4 a5 m5 a6 m6 a7 m7 n7 a8 m8) 31)).alloc (.cells #[.slice none 0 0, .slice none 0 0, .slice none 0 0] 222)) wr ∧ wr.heap[wo.heap.size]? = some (.cells #[.int .i64 2, .int .i64 sh, .int .i64 sf, .int .i64 sr, .int .i64 (q : Int), .slice xa ix.length xc, .slice va vl.length vc] 90 (0, 0)))) (fun c _ => fs.length - (intOf c).toNat)
      case atStart => exact ⟨0, Nat.zero_le _, rfl, HJ0⟩
      case round =>
       obtain ⟨j, hj, rfl, HY⟩ := hrel
       obtain ⟨vf5, vh5, vr5, ac5, hab5, hsa5, hle5, hkx5, hst5⟩ := HY.out
       have HST5 := Lh hst5
       clear hst5
       obtain ⟨va5, vc5, rfl⟩ := own_slice hab5.rf
       obtain ⟨vha5, vhc5, rfl⟩ := own_slice hab5.rh
       obtain ⟨vra5, vrc5, rfl⟩ := own_slice hab5.rr
       have HAB5 := Lh hab5
       have HSA5 := Lh hsa5
       have HLE5 := Lh hle5
       have HKX5 := Lh hkx5
       obtain ⟨hl05, hl15, hl25⟩ := hle5
       have bc05 := alw (cQ 0 hab5.box)
       have bc15 := alw (cQ 1 hab5.box)
       have bc25 := alw (cQ 2 hab5.box)
       clear hab5 hsa5 hkx5
       have sc05 := alw (cQ 0 HST5.out)
       have sc15 := alw (cQ 1 HST5.out)
       have sc25 := alw (cQ 2 HST5.out)
       have sc35 := alw (cQ 3 HST5.out)
       have sc45 := alw (cQ 4 HST5.out)
       have sc55 := alw (cQ 5 HST5.out)
       have sc65 := alw (cQ 6 HST5.out)
       by_cases hjt : j < fs.length
       ·have HAD := Lh (Pl.hfs_add (F := F) (h := (q : Int)) (k := j) (by rw [HFL.out]; exact hjt))
        have HSR6 := Lh (src_fld wr ((q : Int)) ((j : Int)))
        try rw [szA] at HSR6
        go_wp2_with (at_builtin; refine wpList_append_fresh rfl (.tmp 53) (.tmp 58) 181 rfl (W.heap.size + 1 + 1) 88 (.agg #[.int .i64 0, .int .i64 0]) 2 16 Tryz.underlying181 cinf_fref rfl (by decide) (.slice va5 ac5.f.length vc5) ac5.f.length _ rfl (HAB5.out.ext (grows (a := wr) (b := (wr.alloc (.cells #[.int .i64 (q : Int), .int .i64 (j : Int)] 88))))).rf _ 1 _ rfl HSR6.out ?d1 ?d2 ?d3 ?_)
        case d1 => unfold maxLen; omega
        case d2 => omega
        case d3 => (have := HAB5.out.lt; (try simp only [szA] at *); omega)
        intro v' g6 hown hgr hfr
        obtain ⟨ea6, ec6, rfl⟩ := own_slice hown
        have HP6 := Lh (HAB5.out.putf (l := [((q : Int), (j : Int))]) (grows (a := wr) (b := (wr.alloc (.cells #[.int .i64 (q : Int), .int .i64 (j : Int)] 88)))) (by rw [show ([((q : Int), (j : Int))] : List (Int × Int)).flatMap Pl.fE = Pl.fE ((q : Int), (j : Int)) from rfl]; exact hown) hgr)
        have hbx6 := (grown_mod hgr).heap (HAB5.out.ext (grows (a := wr) (b := (wr.alloc (.cells #[.int .i64 (q : Int), .int .i64 (j : Int)] 88))))).box (fun hk => by have := ((HAB5.out.ext (grows (a := wr) (b := (wr.alloc (.cells #[.int .i64 (q : Int), .int .i64 (j : Int)] 88))))).rf.lt _ hk.symm).1; omega)
        have yy6 : g6.cell? ⟨W.heap.size + 1, 0, none⟩ = some (.slice va5 ac5.f.length vc5) := cQ 0 hbx6
        have yf6 : g6.frozen? ⟨W.heap.size + 1, 0, none⟩ = false := free_of hbx6
        clear hown hgr hfr hbx6
        go_wp2_with (refine wpList_store_cellK rfl 181 (.tmp 60) (.tmp 59) rfl (W.heap.size + 1) 0 (.slice va5 ac5.f.length vc5) (.slice ea6 (ac5.f.length + 1) ec6) rfl rfl (by kernel_rfl) rfl yy6 yf6 ?_)
        intro u6 hz6
        rw [← hz6.out] at HP6
        clear hz6 yy6 yf6
        have HST6 : Hid (u6.heap[wo.heap.size]? = some (.cells #[.int .i64 2, .int .i64 sh, .int .i64 sf, .int .i64 sr, .int .i64 (q : Int), .slice xa ix.length xc, .slice va vl.length vc] 90 (0, 0))) := Lh (HP6.out.2.2 _ _ _ HST5.out)
        have hkx6 := HKX5.out.trans HP6.out.2
        have hsa6 := HSA5.out.pf [((q : Int), (j : Int))]
        have hle6 := HLE5.out.pf ((q : Int), (j : Int))
        obtain ⟨ac6, ha6⟩ : ∃ z : Pl.Acc, z = ⟨ac5.f ++ [((q : Int), (j : Int))], ac5.h, ac5.r⟩ := ⟨_, rfl⟩
        have hab6 := HP6.out.1
        rw [← ha6] at hsa6 hle6 hab6
        clear HP6 ha6
        obtain ⟨va6, vc6, hvf6⟩ := own_slice hab6.rf
        obtain ⟨vha6, vhc6, hvh6⟩ := own_slice hab6.rh
        obtain ⟨vra6, vrc6, hvr6⟩ := own_slice hab6.rr
        rw [hvf6] at hab6
        rw [hvh6] at hab6
        rw [hvr6] at hab6
        clear hvf6
        clear hvh6
        clear hvr6
        have HAB6 := Lh hab6
        have HSA6 := Lh hsa6
        have HLE6 := Lh hle6
        have HKX6 := Lh hkx6
        obtain ⟨hl06, hl16, hl26⟩ := hle6
        have bc06 := alw (cQ 0 hab6.box)
        have bc16 := alw (cQ 1 hab6.box)
        have bc26 := alw (cQ 2 hab6.box)
        clear hab6 hsa6 hkx6
        have sc06 := alw (cQ 0 HST6.out)
        have sc16 := alw (cQ 1 HST6.out)
        have sc26 := alw (cQ 2 HST6.out)
        have sc36 := alw (cQ 3 HST6.out)
        have sc46 := alw (cQ 4 HST6.out)
        have sc56 := alw (cQ 5 HST6.out)
        have sc66 := alw (cQ 6 HST6.out)
        have HJ6 : Hid (∃ vf vh vr a', Pl.AccB u6 (W.heap.size + 1) vf vh vr a' ∧ Pl.SameA a' ((Pl.accs (Pl.stW F) (Lb.take k)).app ⟨(Pl.hfs F (q : Int)).take (j + 1), [(q : Int)], []⟩) ∧ a'.le (100 * k + 1 + (j + 1)) ∧ Pl.Kx (W.heap.size + 1) ((W.alloc (.cells (Yq0 F a1 m1 a2 m2 a3 m3 a4 m4 a5 m5 a6 m6 a7 m7 n7 a8 m8) 31)).alloc (.cells #[.slice none 0 0, .slice none 0 0, .slice none 0 0] 222)) u6 ∧ u6.heap[wo.heap.size]? = some (.cells #[.int .i64 2, .int .i64 sh, .int .i64 sf, .int .i64 sr, .int .i64 (q : Int), .slice xa ix.length xc, .slice va vl.length vc] 90 (0, 0))) := Lh ⟨_, _, _, ac6, HAB6.out, by rw [HAD.out, ← Pl.app_hf]; exact HSA6.out, HLE6.out.mono (by omega), HKX6.out, HST6.out⟩
        go_wp2_with fail
        go_roundw
        case rel => exact ⟨j + 1, by omega, by go_num, HJ6⟩
        case measure => simp [intOf]; omega
       ·obtain rfl : j = fs.length := by omega
        have HSB : Hid (Pl.SameA ac5 ((Pl.accs (Pl.stW F) (Lb.take k)).app ⟨Pl.hfs F (q : Int), [(q : Int)], []⟩)) := Lh (by
         have h := HSA5.out
         rw [← HFL.out, List.take_length] at h
         exact h)
        have HR : Hid (Pl.SameA ac5 (Pl.accs (Pl.stW F) (Lb.take (k + 1)))) := Lh (by
         have e : Pl.stW F ⟨2, sh, sf, sr, (q : Int), ix, vl⟩ = ⟨Pl.hfs F (q : Int), [(q : Int)], []⟩ := by simp [Pl.stW]
         rw [Pl.accs_add HXK.out, e]
         exact HSB.out)
        go_wp2_with fail
        go_roundw
        case rel => exact ⟨k + 1, by omega, by go_num, Lh ⟨_, _, _, ac5, HAB5.out, HR.out, HLE5.out.mono (by omega), HKX5.out⟩⟩
        case measure => simp [intOf]; omega
     ·by_cases hk3 : sk = 3
      ·subst hk3
       obtain ⟨hd0, hd1⟩ := ln4 (by decide)
       obtain ⟨q, rfl⟩ := Int.eq_ofNat_of_zero_le hd0
       have hqs : q < F.P.hs.length := by omega
       clear ln4 hd0 hd1
       have HST0 : Hid ((wo.alloc (.cells #[.int .i64 3, .int .i64 sh, .int .i64 sf, .int .i64 sr, .int .i64 (q : Int), .slice xa ix.length xc, .slice va vl.length vc] 90)).heap[wo.heap.size]? = some (.cells #[.int .i64 3, .int .i64 sh, .int .i64 sf, .int .i64 sr, .int .i64 (q : Int), .slice xa ix.length xc, .slice va vl.length vc] 90 (0, 0))) := Lh (aH _ _)
       have hkx0 := hkr.trans (Pl.Kx.ext (grows (a := wo) (b := wo.alloc (.cells #[.int .i64 3, .int .i64 sh, .int .i64 sf, .int .i64 sr, .int .i64 (q : Int), .slice xa ix.length xc, .slice va vl.length vc] 90))) (Nat.le_of_lt habr.lt))
       have hab0 := habr.ext (grows (a := wo) (b := wo.alloc (.cells #[.int .i64 3, .int .i64 sh, .int .i64 sf, .int .i64 sr, .int .i64 (q : Int), .slice xa ix.length xc, .slice va vl.length vc] 90)))
       have hsa0 := hsr
       have hle0 := hlr
       clear habr hsr hlr hkr
       obtain ⟨va0, vc0, rfl⟩ := own_slice hab0.rf
       obtain ⟨vha0, vhc0, rfl⟩ := own_slice hab0.rh
       obtain ⟨vra0, vrc0, rfl⟩ := own_slice hab0.rr
       have HAB0 := Lh hab0
       have HSA0 := Lh hsa0
       have HLE0 := Lh hle0
       have HKX0 := Lh hkx0
       obtain ⟨hl00, hl10, hl20⟩ := hle0
       have bc00 := alw (cQ 0 hab0.box)
       have bc10 := alw (cQ 1 hab0.box)
       have bc20 := alw (cQ 2 hab0.box)
       clear hab0 hsa0 hkx0
       have sc00 := alw (cQ 0 HST0.out)
       have sc10 := alw (cQ 1 HST0.out)
       have sc20 := alw (cQ 2 HST0.out)
       have sc30 := alw (cQ 3 HST0.out)
       have sc40 := alw (cQ 4 HST0.out)
       have sc50 := alw (cQ 5 HST0.out)
       have sc60 := alw (cQ 6 HST0.out)
       have HSR1 := Lh (src_one (wo.alloc (.cells #[.int .i64 3, .int .i64 sh, .int .i64 sf, .int .i64 sr, .int .i64 (q : Int), .slice xa ix.length xc, .slice va vl.length vc] 90)) (.int .i64 (q : Int)) 3 rfl)
       try rw [szA] at HSR1
       go_wp2_with (at_builtin; refine wpList_append_fresh rfl (.tmp 35) (.tmp 38) 29 rfl (W.heap.size + 1 + 1) 3 (.int .i64 0) 1 8 Tryz.underlying29 info_i64 rfl (by decide) (.slice vha0 ac0.h.length vhc0) ac0.h.length _ rfl (HAB0.out.ext (grows (a := (wo.alloc (.cells #[.int .i64 3, .int .i64 sh, .int .i64 sf, .int .i64 sr, .int .i64 (q : Int), .slice xa ix.length xc, .slice va vl.length vc] 90))) (b := ((wo.alloc (.cells #[.int .i64 3, .int .i64 sh, .int .i64 sf, .int .i64 sr, .int .i64 (q : Int), .slice xa ix.length xc, .slice va vl.length vc] 90)).alloc (.cells #[.int .i64 (q : Int)] 3))))).rh _ 1 _ rfl HSR1.out ?d1 ?d2 ?d3 ?_)
       case d1 => unfold maxLen; omega
       case d2 => omega
       case d3 => (have := HAB0.out.lt; (try simp only [szA] at *); omega)
       intro v' g1 hown hgr hfr
       obtain ⟨ea1, ec1, rfl⟩ := own_slice hown
       have HP1 := Lh (HAB0.out.puth (l := [(q : Int)]) (grows (a := (wo.alloc (.cells #[.int .i64 3, .int .i64 sh, .int .i64 sf, .int .i64 sr, .int .i64 (q : Int), .slice xa ix.length xc, .slice va vl.length vc] 90))) (b := ((wo.alloc (.cells #[.int .i64 3, .int .i64 sh, .int .i64 sf, .int .i64 sr, .int .i64 (q : Int), .slice xa ix.length xc, .slice va vl.length vc] 90)).alloc (.cells #[.int .i64 (q : Int)] 3)))) hown hgr (by rcases hfr with h | h; exact .inl h; exact .inr (fun k hk => by have := h k hk; (try rw [szA]); (try rw [szA]); omega)))
       have hbx1 := (grown_mod hgr).heap (HAB0.out.ext (grows (a := (wo.alloc (.cells #[.int .i64 3, .int .i64 sh, .int .i64 sf, .int .i64 sr, .int .i64 (q : Int), .slice xa ix.length xc, .slice va vl.length vc] 90))) (b := ((wo.alloc (.cells #[.int .i64 3, .int .i64 sh, .int .i64 sf, .int .i64 sr, .int .i64 (q : Int), .slice xa ix.length xc, .slice va vl.length vc] 90)).alloc (.cells #[.int .i64 (q : Int)] 3))))).box (fun hk => by have := ((HAB0.out.ext (grows (a := (wo.alloc (.cells #[.int .i64 3, .int .i64 sh, .int .i64 sf, .int .i64 sr, .int .i64 (q : Int), .slice xa ix.length xc, .slice va vl.length vc] 90))) (b := ((wo.alloc (.cells #[.int .i64 3, .int .i64 sh, .int .i64 sf, .int .i64 sr, .int .i64 (q : Int), .slice xa ix.length xc, .slice va vl.length vc] 90)).alloc (.cells #[.int .i64 (q : Int)] 3))))).rh.lt _ hk.symm).1; omega)
       have yy1 : g1.cell? ⟨W.heap.size + 1, 1, none⟩ = some (.slice vha0 ac0.h.length vhc0) := cQ 1 hbx1
       have yf1 : g1.frozen? ⟨W.heap.size + 1, 1, none⟩ = false := free_of hbx1
       clear hown hgr hfr hbx1
       go_wp2_with (refine wpList_store_cellK rfl 29 (.tmp 40) (.tmp 39) rfl (W.heap.size + 1) 1 (.slice vha0 ac0.h.length vhc0) (.slice ea1 (ac0.h.length + 1) ec1) rfl rfl (by kernel_rfl) rfl yy1 yf1 ?_)
       intro u1 hz1
       rw [← hz1.out] at HP1
       clear hz1 yy1 yf1
       have HST1 : Hid (u1.heap[wo.heap.size]? = some (.cells #[.int .i64 3, .int .i64 sh, .int .i64 sf, .int .i64 sr, .int .i64 (q : Int), .slice xa ix.length xc, .slice va vl.length vc] 90 (0, 0))) := Lh (HP1.out.2.2 _ _ _ HST0.out)
       have hkx1 := HKX0.out.trans HP1.out.2
       have hsa1 := HSA0.out.ph [(q : Int)]
       have hle1 := HLE0.out.ph (q : Int)
       obtain ⟨ac1, ha1⟩ : ∃ z : Pl.Acc, z = ⟨ac0.f, ac0.h ++ [(q : Int)], ac0.r⟩ := ⟨_, rfl⟩
       have hab1 := HP1.out.1
       rw [← ha1] at hsa1 hle1 hab1
       clear HP1 ha1
       obtain ⟨va1, vc1, hvf1⟩ := own_slice hab1.rf
       obtain ⟨vha1, vhc1, hvh1⟩ := own_slice hab1.rh
       obtain ⟨vra1, vrc1, hvr1⟩ := own_slice hab1.rr
       rw [hvf1] at hab1
       rw [hvh1] at hab1
       rw [hvr1] at hab1
       clear hvf1
       clear hvh1
       clear hvr1
       have HAB1 := Lh hab1
       have HSA1 := Lh hsa1
       have HLE1 := Lh hle1
       have HKX1 := Lh hkx1
       obtain ⟨hl01, hl11, hl21⟩ := hle1
       have bc01 := alw (cQ 0 hab1.box)
       have bc11 := alw (cQ 1 hab1.box)
       have bc21 := alw (cQ 2 hab1.box)
       clear hab1 hsa1 hkx1
       have sc01 := alw (cQ 0 HST1.out)
       have sc11 := alw (cQ 1 HST1.out)
       have sc21 := alw (cQ 2 HST1.out)
       have sc31 := alw (cQ 3 HST1.out)
       have sc41 := alw (cQ 4 HST1.out)
       have sc51 := alw (cQ 5 HST1.out)
       have sc61 := alw (cQ 6 HST1.out)
       have HXU : Hid (Ext (W.alloc (.cells (Yq0 F a1 m1 a2 m2 a3 m3 a4 m4 a5 m5 a6 m6 a7 m7 n7 a8 m8) 31)) u1) := Lh (Pl.Kx.low (w0 := (W.alloc (.cells (Yq0 F a1 m1 a2 m2 a3 m3 a4 m4 a5 m5 a6 m6 a7 m7 n7 a8 m8) 31))) grows (by rw [szA]; omega) HKX1.out)
       have pk1 := alw (HXU.out.cell (k1 (W.alloc (.cells (Yq0 F a1 m1 a2 m2 a3 m3 a4 m4 a5 m5 a6 m6 a7 m7 n7 a8 m8) 31))))
       obtain ⟨hb, ho, ha1, _, _⟩ := Rows.at HH.out (by omega)
       rw [ha1] at pk1
       obtain ⟨⟨hn, fs⟩, hxh⟩ : ∃ x, F.P.hs[q]? = some x := ⟨_, gE hqs⟩
       obtain ⟨fa, fc, u0, u1', hns, hfs, hf1, hf2⟩ := hdrs_at HH.out q hn fs hxh ha1
       have hf3 := HBD2.out.fs _ (List.mem_of_getElem? hxh)
       dsimp only at hf3
       have hgd : F.P.hs.getD q (⟨#[]⟩, []) = (hn, fs) := by rw [List.getD_eq_getElem?_getD, hxh]; rfl
       have HFL : Hid ((Pl.hfs F (q : Int)).length = fs.length) := Lh (by rw [Pl.hfs_len, Int.toNat_natCast, hgd])
       have HXU2 : Hid (Ext W u1) := Lh ((grows (a := W) (b := (W.alloc (.cells (Yq0 F a1 m1 a2 m2 a3 m3 a4 m4 a5 m5 a6 m6 a7 m7 n7 a8 m8) 31)))).trans HXU.out)
       have z0 := alw (HXU2.out.cell (u0 W))
       have z1 := alw (HXU2.out.cell (u1' W))
       have HJ0 : Hid (∃ vf vh vr a', Pl.AccB u1 (W.heap.size + 1) vf vh vr a' ∧ Pl.SameA a' ((Pl.accs (Pl.stW F) (Lb.take k)).app ⟨(Pl.hfs F (q : Int)).take 0, [(q : Int)], []⟩) ∧ a'.le (100 * k + 1 + 0) ∧ Pl.Kx (W.heap.size + 1) ((W.alloc (.cells (Yq0 F a1 m1 a2 m2 a3 m3 a4 m4 a5 m5 a6 m6 a7 m7 n7 a8 m8) 31)).alloc (.cells #[.slice none 0 0, .slice none 0 0, .slice none 0 0] 222)) u1 ∧ u1.heap[wo.heap.size]? = some (.cells #[.int .i64 3, .int .i64 sh, .int .i64 sf, .int .i64 sr, .int .i64 (q : Int), .slice xa ix.length xc, .slice va vl.length vc] 90 (0, 0))) := Lh ⟨_, _, _, ac1, HAB1.out, by rw [tkZ]; exact HSA1.out, HLE1.out, HKX1.out, HST1.out⟩
       clear hxh hfs hns hgd ha1
       go_wp2_with fail
       go_loopw [49] (fun c wr => ∃ j : Nat, j ≤ fs.length ∧ c = .int .i64 j ∧ Hid (∃ vf vh vr a', Pl.AccB wr (W.heap.size + 1) vf vh vr a' ∧ Pl.SameA a' ((Pl.accs (Pl.stW F) (Lb.take k)).app ⟨(Pl.hfs F (q : Int)).take j, [(q : Int)], []⟩) ∧ a'.le (100 * k + 1 + j) ∧ Pl.Kx (W.heap.size + 1) ((W.alloc (.cells (Yq0 F a1 m1 a2 m2 a3 m3 a4 m4 a5 m5 a6 m6 a7 m7 n7 a8 m8) 31)).alloc (.cells #[.slice none 0 0, .slice none 0 0, .slice none 0 0] 222)) wr ∧ wr.heap[wo.heap.size]? = some (.cells #[.int .i64 3, .int .i64 sh, .int .i64 sf, .int .i64 sr, .int .i64 (q : Int), .slice xa ix.length xc, .slice va vl.length vc] 90 (0, 0)))) (fun c _ => fs.length - (intOf c).toNat)
       case atStart => exact ⟨0, Nat.zero_le _, rfl, HJ0⟩
       case round =>
        obtain ⟨j, hj, rfl, HY⟩ := hrel
        obtain ⟨vf5, vh5, vr5, ac5, hab5, hsa5, hle5, hkx5, hst5⟩ := HY.out
        have HST5 := Lh hst5
        clear hst5
        obtain ⟨va5, vc5, rfl⟩ := own_slice hab5.rf
        obtain ⟨vha5, vhc5, rfl⟩ := own_slice hab5.rh
        obtain ⟨vra5, vrc5, rfl⟩ := own_slice hab5.rr
        have HAB5 := Lh hab5
        have HSA5 := Lh hsa5
        have HLE5 := Lh hle5
        have HKX5 := Lh hkx5
        obtain ⟨hl05, hl15, hl25⟩ := hle5
        have bc05 := alw (cQ 0 hab5.box)
        have bc15 := alw (cQ 1 hab5.box)
        have bc25 := alw (cQ 2 hab5.box)
        clear hab5 hsa5 hkx5
        have sc05 := alw (cQ 0 HST5.out)
        have sc15 := alw (cQ 1 HST5.out)
        have sc25 := alw (cQ 2 HST5.out)
        have sc35 := alw (cQ 3 HST5.out)
        have sc45 := alw (cQ 4 HST5.out)
        have sc55 := alw (cQ 5 HST5.out)
        have sc65 := alw (cQ 6 HST5.out)
        by_cases hjt : j < fs.length
        ·have HAD := Lh (Pl.hfs_add (F := F) (h := (q : Int)) (k := j) (by rw [HFL.out]; exact hjt))
         have HSR6 := Lh (src_fld wr ((q : Int)) ((j : Int)))
         try rw [szA] at HSR6
         go_wp2_with (at_builtin; refine wpList_append_fresh rfl (.tmp 53) (.tmp 58) 181 rfl (W.heap.size + 1 + 1) 88 (.agg #[.int .i64 0, .int .i64 0]) 2 16 Tryz.underlying181 cinf_fref rfl (by decide) (.slice va5 ac5.f.length vc5) ac5.f.length _ rfl (HAB5.out.ext (grows (a := wr) (b := (wr.alloc (.cells #[.int .i64 (q : Int), .int .i64 (j : Int)] 88))))).rf _ 1 _ rfl HSR6.out ?d1 ?d2 ?d3 ?_)
         case d1 => unfold maxLen; omega
         case d2 => omega
         case d3 => (have := HAB5.out.lt; (try simp only [szA] at *); omega)
         intro v' g6 hown hgr hfr
         obtain ⟨ea6, ec6, rfl⟩ := own_slice hown
         have HP6 := Lh (HAB5.out.putf (l := [((q : Int), (j : Int))]) (grows (a := wr) (b := (wr.alloc (.cells #[.int .i64 (q : Int), .int .i64 (j : Int)] 88)))) (by rw [show ([((q : Int), (j : Int))] : List (Int × Int)).flatMap Pl.fE = Pl.fE ((q : Int), (j : Int)) from rfl]; exact hown) hgr)
         have hbx6 := (grown_mod hgr).heap (HAB5.out.ext (grows (a := wr) (b := (wr.alloc (.cells #[.int .i64 (q : Int), .int .i64 (j : Int)] 88))))).box (fun hk => by have := ((HAB5.out.ext (grows (a := wr) (b := (wr.alloc (.cells #[.int .i64 (q : Int), .int .i64 (j : Int)] 88))))).rf.lt _ hk.symm).1; omega)
         have yy6 : g6.cell? ⟨W.heap.size + 1, 0, none⟩ = some (.slice va5 ac5.f.length vc5) := cQ 0 hbx6
         have yf6 : g6.frozen? ⟨W.heap.size + 1, 0, none⟩ = false := free_of hbx6
         clear hown hgr hfr hbx6
         go_wp2_with (refine wpList_store_cellK rfl 181 (.tmp 60) (.tmp 59) rfl (W.heap.size + 1) 0 (.slice va5 ac5.f.length vc5) (.slice ea6 (ac5.f.length + 1) ec6) rfl rfl (by kernel_rfl) rfl yy6 yf6 ?_)
         intro u6 hz6
         rw [← hz6.out] at HP6
         clear hz6 yy6 yf6
         have HST6 : Hid (u6.heap[wo.heap.size]? = some (.cells #[.int .i64 3, .int .i64 sh, .int .i64 sf, .int .i64 sr, .int .i64 (q : Int), .slice xa ix.length xc, .slice va vl.length vc] 90 (0, 0))) := Lh (HP6.out.2.2 _ _ _ HST5.out)
         have hkx6 := HKX5.out.trans HP6.out.2
         have hsa6 := HSA5.out.pf [((q : Int), (j : Int))]
         have hle6 := HLE5.out.pf ((q : Int), (j : Int))
         obtain ⟨ac6, ha6⟩ : ∃ z : Pl.Acc, z = ⟨ac5.f ++ [((q : Int), (j : Int))], ac5.h, ac5.r⟩ := ⟨_, rfl⟩
         have hab6 := HP6.out.1
         rw [← ha6] at hsa6 hle6 hab6
         clear HP6 ha6
         obtain ⟨va6, vc6, hvf6⟩ := own_slice hab6.rf
         obtain ⟨vha6, vhc6, hvh6⟩ := own_slice hab6.rh
         obtain ⟨vra6, vrc6, hvr6⟩ := own_slice hab6.rr
         rw [hvf6] at hab6
         rw [hvh6] at hab6
         rw [hvr6] at hab6
         clear hvf6
         clear hvh6
         clear hvr6
         have HAB6 := Lh hab6
         have HSA6 := Lh hsa6
         have HLE6 := Lh hle6
         have HKX6 := Lh hkx6
         obtain ⟨hl06, hl16, hl26⟩ := hle6
         have bc06 := alw (cQ 0 hab6.box)
         have bc16 := alw (cQ 1 hab6.box)
         have bc26 := alw (cQ 2 hab6.box)
         clear hab6 hsa6 hkx6
         have sc06 := alw (cQ 0 HST6.out)
         have sc16 := alw (cQ 1 HST6.out)
         have sc26 := alw (cQ 2 HST6.out)
         have sc36 := alw (cQ 3 HST6.out)
         have sc46 := alw (cQ 4 HST6.out)
         have sc56 := alw (cQ 5 HST6.out)
         have sc66 := alw (cQ 6 HST6.out)
         have HJ6 : Hid (∃ vf vh vr a', Pl.AccB u6 (W.heap.size + 1) vf vh vr a' ∧ Pl.SameA a' ((Pl.accs (Pl.stW F) (Lb.take k)).app ⟨(Pl.hfs F (q : Int)).take (j + 1), [(q : Int)], []⟩) ∧ a'.le (100 * k + 1 + (j + 1)) ∧ Pl.Kx (W.heap.size + 1) ((W.alloc (.cells (Yq0 F a1 m1 a2 m2 a3 m3 a4 m4 a5 m5 a6 m6 a7 m7 n7 a8 m8) 31)).alloc (.cells #[.slice none 0 0, .slice none 0 0, .slice none 0 0] 222)) u6 ∧ u6.heap[wo.heap.size]? = some (.cells #[.int .i64 3, .int .i64 sh, .int .i64 sf, .int .i64 sr, .int .i64 (q : Int), .slice xa ix.length xc, .slice va vl.length vc] 90 (0, 0))) := Lh ⟨_, _, _, ac6, HAB6.out, by rw [HAD.out, ← Pl.app_hf]; exact HSA6.out, HLE6.out.mono (by omega), HKX6.out, HST6.out⟩
         go_wp2_with fail
         go_roundw
         case rel => exact ⟨j + 1, by omega, by go_num, HJ6⟩
         case measure => simp [intOf]; omega
        ·obtain rfl : j = fs.length := by omega
         have HSB : Hid (Pl.SameA ac5 ((Pl.accs (Pl.stW F) (Lb.take k)).app ⟨Pl.hfs F (q : Int), [(q : Int)], []⟩)) := Lh (by
          have h := HSA5.out
          rw [← HFL.out, List.take_length] at h
          exact h)
         have HR : Hid (Pl.SameA ac5 (Pl.accs (Pl.stW F) (Lb.take (k + 1)))) := Lh (by
          have e : Pl.stW F ⟨3, sh, sf, sr, (q : Int), ix, vl⟩ = ⟨Pl.hfs F (q : Int), [(q : Int)], []⟩ := by simp [Pl.stW]
          rw [Pl.accs_add HXK.out, e]
          exact HSB.out)
         go_wp2_with fail
         go_roundw
         case rel => exact ⟨k + 1, by omega, by go_num, Lh ⟨_, _, _, ac5, HAB5.out, HR.out, HLE5.out.mono (by omega), HKX5.out⟩⟩
         case measure => simp [intOf]; omega
      ·by_cases hk5 : sk = 5
       ·subst hk5
        clear ln4
        have HST0 : Hid ((wo.alloc (.cells (Yq11 sh sf sr sd xa xc ix.length va vc vl.length) 90)).heap[wo.heap.size]? = some (.cells (Yq11 sh sf sr sd xa xc ix.length va vc vl.length) 90 (0, 0))) := Lh (aH _ _)
        have hkx0 := hkr.trans (Pl.Kx.ext (grows (a := wo) (b := wo.alloc (.cells (Yq11 sh sf sr sd xa xc ix.length va vc vl.length) 90))) (Nat.le_of_lt habr.lt))
        have hab0 := habr.ext (grows (a := wo) (b := wo.alloc (.cells (Yq11 sh sf sr sd xa xc ix.length va vc vl.length) 90)))
        have hsa0 := hsr
        have hle0 := hlr
        clear habr hsr hlr hkr
        obtain ⟨va0, vc0, rfl⟩ := own_slice hab0.rf
        obtain ⟨vha0, vhc0, rfl⟩ := own_slice hab0.rh
        obtain ⟨vra0, vrc0, rfl⟩ := own_slice hab0.rr
        have HAB0 := Lh hab0
        have HSA0 := Lh hsa0
        have HLE0 := Lh hle0
        have HKX0 := Lh hkx0
        obtain ⟨hl00, hl10, hl20⟩ := hle0
        have bc00 := alw (cQ 0 hab0.box)
        have bc10 := alw (cQ 1 hab0.box)
        have bc20 := alw (cQ 2 hab0.box)
        clear hab0 hsa0 hkx0
        have sc00 := alw (cQ 0 HST0.out)
        have sc10 := alw (cQ 1 HST0.out)
        have sc20 := alw (cQ 2 HST0.out)
        have sc30 := alw (cQ 3 HST0.out)
        have sc40 := alw (cQ 4 HST0.out)
        have sc50 := alw (cQ 5 HST0.out)
        have sc60 := alw (cQ 6 HST0.out)
        have HSR1 := Lh (src_one (wo.alloc (.cells (Yq11 sh sf sr sd xa xc ix.length va vc vl.length) 90)) (.int .i64 sr) 3 rfl)
        try rw [szA] at HSR1
        go_wp2_with (at_builtin; refine wpList_append_fresh rfl (.tmp 65) (.tmp 68) 29 rfl (W.heap.size + 1 + 1) 3 (.int .i64 0) 1 8 Tryz.underlying29 info_i64 rfl (by decide) (.slice vra0 ac0.r.length vrc0) ac0.r.length _ rfl (HAB0.out.ext (grows (a := (wo.alloc (.cells (Yq11 sh sf sr sd xa xc ix.length va vc vl.length) 90))) (b := ((wo.alloc (.cells (Yq11 sh sf sr sd xa xc ix.length va vc vl.length) 90)).alloc (.cells #[.int .i64 sr] 3))))).rr _ 1 _ rfl HSR1.out ?d1 ?d2 ?d3 ?_)
        case d1 => unfold maxLen; omega
        case d2 => omega
        case d3 => (have := HAB0.out.lt; (try simp only [szA] at *); omega)
        intro v' g1 hown hgr hfr
        obtain ⟨ea1, ec1, rfl⟩ := own_slice hown
        have HP1 := Lh (HAB0.out.putr (l := [sr]) (grows (a := (wo.alloc (.cells (Yq11 sh sf sr sd xa xc ix.length va vc vl.length) 90))) (b := ((wo.alloc (.cells (Yq11 sh sf sr sd xa xc ix.length va vc vl.length) 90)).alloc (.cells #[.int .i64 sr] 3)))) hown hgr (by rcases hfr with h | h; exact .inl h; exact .inr (fun k hk => by have := h k hk; (try rw [szA]); (try rw [szA]); omega)))
        have hbx1 := (grown_mod hgr).heap (HAB0.out.ext (grows (a := (wo.alloc (.cells (Yq11 sh sf sr sd xa xc ix.length va vc vl.length) 90))) (b := ((wo.alloc (.cells (Yq11 sh sf sr sd xa xc ix.length va vc vl.length) 90)).alloc (.cells #[.int .i64 sr] 3))))).box (fun hk => by have := ((HAB0.out.ext (grows (a := (wo.alloc (.cells (Yq11 sh sf sr sd xa xc ix.length va vc vl.length) 90))) (b := ((wo.alloc (.cells (Yq11 sh sf sr sd xa xc ix.length va vc vl.length) 90)).alloc (.cells #[.int .i64 sr] 3))))).rr.lt _ hk.symm).1; omega)
        have yy1 : g1.cell? ⟨W.heap.size + 1, 2, none⟩ = some (.slice vra0 ac0.r.length vrc0) := cQ 2 hbx1
        have yf1 : g1.frozen? ⟨W.heap.size + 1, 2, none⟩ = false := free_of hbx1
        clear hown hgr hfr hbx1
        go_wp2_with (refine wpList_store_cellK rfl 29 (.tmp 70) (.tmp 69) rfl (W.heap.size + 1) 2 (.slice vra0 ac0.r.length vrc0) (.slice ea1 (ac0.r.length + 1) ec1) rfl rfl (by kernel_rfl) rfl yy1 yf1 ?_)
        intro u1 hz1
        rw [← hz1.out] at HP1
        clear hz1 yy1 yf1
        have HST1 : Hid (u1.heap[wo.heap.size]? = some (.cells (Yq11 sh sf sr sd xa xc ix.length va vc vl.length) 90 (0, 0))) := Lh (HP1.out.2.2 _ _ _ HST0.out)
        have hkx1 := HKX0.out.trans HP1.out.2
        have hsa1 := HSA0.out.pr [sr]
        have hle1 := HLE0.out.pr sr
        obtain ⟨ac1, ha1⟩ : ∃ z : Pl.Acc, z = ⟨ac0.f, ac0.h, ac0.r ++ [sr]⟩ := ⟨_, rfl⟩
        have hab1 := HP1.out.1
        rw [← ha1] at hsa1 hle1 hab1
        clear HP1 ha1
        obtain ⟨va1, vc1, hvf1⟩ := own_slice hab1.rf
        obtain ⟨vha1, vhc1, hvh1⟩ := own_slice hab1.rh
        obtain ⟨vra1, vrc1, hvr1⟩ := own_slice hab1.rr
        rw [hvf1] at hab1
        rw [hvh1] at hab1
        rw [hvr1] at hab1
        clear hvf1
        clear hvh1
        clear hvr1
        have HAB1 := Lh hab1
        have HSA1 := Lh hsa1
        have HLE1 := Lh hle1
        have HKX1 := Lh hkx1
        obtain ⟨hl01, hl11, hl21⟩ := hle1
        have bc01 := alw (cQ 0 hab1.box)
        have bc11 := alw (cQ 1 hab1.box)
        have bc21 := alw (cQ 2 hab1.box)
        clear hab1 hsa1 hkx1
        have sc01 := alw (cQ 0 HST1.out)
        have sc11 := alw (cQ 1 HST1.out)
        have sc21 := alw (cQ 2 HST1.out)
        have sc31 := alw (cQ 3 HST1.out)
        have sc41 := alw (cQ 4 HST1.out)
        have sc51 := alw (cQ 5 HST1.out)
        have sc61 := alw (cQ 6 HST1.out)
        have HR : Hid (Pl.SameA ac1 (Pl.accs (Pl.stW F) (Lb.take (k + 1)))) := Lh (by
         have e : (Pl.stW F) ⟨5, sh, sf, sr, sd, ix, vl⟩ = ⟨[], [], [sr]⟩ := by simp [Pl.stW]
         rw [Pl.accs_add HXK.out, e]
         exact HSA1.out)
        go_wp2_with fail
        go_roundw
        case rel => exact ⟨k + 1, by omega, by go_num, Lh ⟨_, _, _, ac1, HAB1.out, HR.out, HLE1.out.mono (by omega), HKX1.out⟩⟩
        case measure => simp [intOf]; omega
       ·clear ln4
        have HST0 : Hid ((wo.alloc (.cells (Yq14 sk sh sf sr sd xa xc ix.length va vc vl.length) 90)).heap[wo.heap.size]? = some (.cells (Yq14 sk sh sf sr sd xa xc ix.length va vc vl.length) 90 (0, 0))) := Lh (aH _ _)
        have hkx0 := hkr.trans (Pl.Kx.ext (grows (a := wo) (b := wo.alloc (.cells (Yq14 sk sh sf sr sd xa xc ix.length va vc vl.length) 90))) (Nat.le_of_lt habr.lt))
        have hab0 := habr.ext (grows (a := wo) (b := wo.alloc (.cells (Yq14 sk sh sf sr sd xa xc ix.length va vc vl.length) 90)))
        have hsa0 := hsr
        have hle0 := hlr
        clear habr hsr hlr hkr
        obtain ⟨va0, vc0, rfl⟩ := own_slice hab0.rf
        obtain ⟨vha0, vhc0, rfl⟩ := own_slice hab0.rh
        obtain ⟨vra0, vrc0, rfl⟩ := own_slice hab0.rr
        have HAB0 := Lh hab0
        have HSA0 := Lh hsa0
        have HLE0 := Lh hle0
        have HKX0 := Lh hkx0
        obtain ⟨hl00, hl10, hl20⟩ := hle0
        have bc00 := alw (cQ 0 hab0.box)
        have bc10 := alw (cQ 1 hab0.box)
        have bc20 := alw (cQ 2 hab0.box)
        clear hab0 hsa0 hkx0
        have sc00 := alw (cQ 0 HST0.out)
        have sc10 := alw (cQ 1 HST0.out)
        have sc20 := alw (cQ 2 HST0.out)
        have sc30 := alw (cQ 3 HST0.out)
        have sc40 := alw (cQ 4 HST0.out)
        have sc50 := alw (cQ 5 HST0.out)
        have sc60 := alw (cQ 6 HST0.out)
        have e1 : (sk == 1) = false := bF hk1
        have e2 : (sk == 2) = false := bF hk2
        have e3 : (sk == 3) = false := bF hk3
        have e4 : (sk == 4) = false := bF hk4
        have e5 : (sk == 5) = false := bF hk5
        have HNN := Lh (show sk ≠ 1 ∧ sk ≠ 2 ∧ sk ≠ 3 ∧ sk ≠ 4 ∧ sk ≠ 5 from ⟨hk1, hk2, hk3, hk4, hk5⟩)
        clear hk1 hk2 hk3 hk4 hk5
        have HR : Hid (Pl.SameA ac0 (Pl.accs (Pl.stW F) (Lb.take (k + 1)))) := Lh (by
         have e : (Pl.stW F) ⟨sk, sh, sf, sr, sd, ix, vl⟩ = ⟨[], [], []⟩ := by obtain ⟨a1, a2, a3, a4, a5⟩ := HNN.out; simp [Pl.stW, a1, a2, a3, a4, a5]
         rw [Pl.accs_add HXK.out, e, Pl.app_nil]
         exact HSA0.out)
        go_wp2_with fail
        go_roundw
        case rel => exact ⟨k + 1, by omega, by go_num, Lh ⟨_, _, _, ac0, HAB0.out, HR.out, HLE0.out.mono (by omega), HKX0.out⟩⟩
        case measure => simp [intOf]; omega
  ·obtain rfl : k = Lb.length := by omega
   have HAB0 := Lh habr
   have HSA0 := Lh hsr
   have HLE0 := Lh hlr
   have HKX0 := Lh hkr
   clear habr hsr hlr hkr
   go_wp2_with fail
   refine (asorted_any HAB0.out HLE0.out (by omega)).mono ?_
   rintro e u9 ⟨v1, v2, v3, a9, rfl, hs9, hl9, o1, o2, o3, hk9⟩
   obtain ⟨d1, c1, rfl⟩ := own_slice o1
   obtain ⟨d2, c2, rfl⟩ := own_slice o2
   obtain ⟨d3, c3, rfl⟩ := own_slice o3
   have HF : Hid (Pl.AccR W (Pl.accs (Pl.stW F) Lb) (.returned (.tuple #[.slice d1 a9.f.length c1, .slice d2 a9.h.length c2, .slice d3 a9.r.length c3])) u9) := Lh ⟨_, _, _, a9, rfl, hs9.trans (by have h := HSA0.out; rw [List.take_length] at h; exact h), hl9.mono (by omega), own_base o1 (by omega), own_base o2 (by omega), own_base o3 (by omega), Pl.Kx.low HXW.out (by omega) (HKX0.out.trans hk9)⟩
   clear hs9 hl9 o1 o2 o3 hk9
   go_wp2_with fail
   exact bodyPost_ret (v := .tuple #[.slice d1 a9.f.length c1, .slice d2 a9.h.length c2, .slice d3 a9.r.length c3]) (by simp [results, Tryz.results92, go_sem]) rfl HF.out
namespace Pl
theorem flat_at {α : Type} {f : α → List Value} {sz : Nat} (hf : ∀ a, (f a).length = sz) : ∀ {l : List α} {i j : Nat} {a : α} {u : Value}, l[i]? = some a → (f a)[j]? = some u → (l.flatMap f)[i * sz + j]? = some u
 | [], _, _, _, _, h, _ => by simp at h
 | b :: l, 0, j, a, u, h, hu => by
  simp only [List.getElem?_cons_zero, Option.some.injEq] at h
  subst h
  have hj : j < (f b).length := (List.getElem?_eq_some_iff.1 hu).1
  rw [List.flatMap_cons, Nat.zero_mul, Nat.zero_add, List.getElem?_append_left hj]; exact hu
 | b :: l, i + 1, j, a, u, h, hu => by
  simp only [List.getElem?_cons_succ] at h
  have := flat_at hf h hu
  rw [List.flatMap_cons, List.getElem?_append_right (by rw [hf, Nat.succ_mul]; omega), hf, show (i + 1) * sz + j - sz = i * sz + j by rw [Nat.succ_mul]; omega]
  exact this
theorem rows_own {α : Type} {W : World} {B : Nat} {e : TypeId} {sz : Nat} {R : World → List Value → α → Prop} {f : α → List Value} {v : Value} {l : List α} (hf : ∀ a, (f a).length = sz) (hR : ∀ a, R W (f a) a) (h : W.ownsRow B e sz v l.length (l.flatMap f)) : Rows W sz R v l := by
 have h0 := h
 obtain ⟨h1, h2⟩ := h
 rcases h2 with ⟨rfl, h2⟩ | ⟨g, cap, cur, rfl, _, hg, hc, hm, hs, ht⟩
 ·exact .inl ⟨rfl, List.eq_nil_of_length_eq_zero h2⟩
 ·refine .inr ⟨⟨g, 0, none⟩, cap, rfl, hc, hm, fun _ => rfl, fun i d hi => ⟨f d, hf d, hR d, fun j u hj => ?_⟩⟩
  have h4 := h0.cells (g := g) rfl _ _ (flat_at hf hi hj)
  rw [add_mk] at h4
  rw [Nat.add_assoc]; exact h4
theorem fr_own {W : World} {B : Nat} {e : TypeId} {v : Value} {l : List (Int × Int)} (h : W.ownsRow B e 2 v l.length (l.flatMap fE)) : Rows W 2 FrR v l := rows_own fE_len (fun _ => rfl) h
theorem fm_one : ∀ l : List Int, l.flatMap (fun x => [Value.int .i64 x]) = l.map (Value.int .i64)
 | [] => rfl
 | x :: l => by rw [List.flatMap_cons, fm_one l]; rfl
theorem ir_own {W : World} {B : Nat} {e : TypeId} {v : Value} {l : List Int} (h : W.ownsRow B e 1 v l.length (l.map (Value.int .i64))) : Rows W 1 IrR v l :=
 rows_own (f := fun x => [Value.int .i64 x]) (fun _ => rfl) (fun _ => rfl) (by rw [fm_one]; exact h)
theorem cells_same {F : Tj.FP} {a b : Acc} (h : SameA a b) : Same (cells F a) (cells F b) := by
 unfold cells
 exact (((h.1.map _).app (h.2.1.map _)).app (h.2.2.map _)).filter _
theorem cells_len (F : Tj.FP) (a : Acc) : (cells F a).length ≤ a.f.length + a.h.length + a.r.length := by
 unfold cells
 refine Nat.le_trans (List.length_filter_le _ _) ?_
 simp only [List.length_append, List.length_map]; omega
theorem fm_add {α β : Type} {g : α → List β} {l : List α} {k : Nat} {x : α} (h : l[k]? = some x) : (l.take (k + 1)).flatMap g = (l.take k).flatMap g ++ g x := by
 rw [List.take_add_one, h, List.flatMap_append]; simp
/-- a list in memory that is l as a set, a row of one's own -/
def SetP (W : World) (l : List Int) (e : Ending) (w' : World) : Prop := ∃ v l', e = .returned v ∧ Same l' l ∧ l'.length ≤ 1073741824 ∧ w'.ownsRow W.heap.size 3 1 v l'.length (l'.map (Value.int .i64)) ∧ Ext W w'
theorem ColB.start (w : World) (p : Pg.PV) : ColB (w.alloc (.cells #[p.c0, p.c1, p.c2, p.c3, p.c4, p.c5, p.c6, p.c7, p.c8, .slice none 0 0] 179)) w.heap.size p (.slice none 0 0) [] := ⟨aH _ _, World.ownsRow_nil _ _ _ _⟩
/-- rows that lie above the collector's blocks stay -/
theorem ColB.frs {w0 w w' : World} {b B : Nat} {p : Pg.PV} {v v' : Value} {xs : List Int} {l : List (Int × Int)} {e : TypeId} (h : ColB w0 b p v xs) (ho : w.ownsRow B e 2 v' l.length (l.flatMap fE)) (hB : w0.heap.size ≤ B) (hm : Mod (ColS b v) w w') : Rows w' 2 FrR v' l :=
 fr_own (own_mod ho hm (fun k hk hs => by
  have h1 := (ho.lt k hk).1
  rcases hs with rfl | hs
  ·have := h.lt; omega
  ·have := (h.2.lt k hs).2; omega))
theorem ColB.irs {w0 w w' : World} {b B : Nat} {p : Pg.PV} {v v' : Value} {xs : List Int} {l : List Int} {e : TypeId} (h : ColB w0 b p v xs) (ho : w.ownsRow B e 1 v' l.length (l.map (Value.int .i64))) (hB : w0.heap.size ≤ B) (hm : Mod (ColS b v) w w') : Rows w' 1 IrR v' l :=
 ir_own (own_mod ho hm (fun k hk hs => by
  have h1 := (ho.lt k hk).1
  rcases hs with rfl | hs
  ·have := h.lt; omega
  ·have := (h.2.lt k hs).2; omega))
/-- the collector at b since the world wb, of which nothing has changed: it holds xs, which is l as a set -/
def ColI (wb : World) (b : Nat) (p : Pg.PV) (l : List Int) (n : Nat) (w : World) : Prop := Ext wb w ∧ ∃ v xs, ColB w b p v xs ∧ Same xs l ∧ xs.length ≤ n
theorem ColI.start {w : World} {b : Nat} (hb : b = w.heap.size) (p : Pg.PV) : ColI w b p [] 0 (w.alloc (.cells #[p.c0, p.c1, p.c2, p.c3, p.c4, p.c5, p.c6, p.c7, p.c8, .slice none 0 0] 179)) := ⟨grows, _, [], by rw [hb]; exact ColB.start w p, Same.refl _, Nat.le_refl _⟩
/-- behind an add -/
theorem ColI.add {F : Tj.FP} {wb w w5 w6 : World} {b : Nat} {p : Pg.PV} {v : Value} {xs l : List Int} {n m : Nat} {a a' : Acc} (hb : wb.heap.size ≤ b) (hx : Ext wb w) (hc : ColB w b p v xs) (hs : Same xs l) (hn : xs.length ≤ n) (h5 : Ext w w5) (hp : ColP w5 b p v (xs ++ cells F a') w6) (ha : SameA a' a) (hm : (cells F a').length ≤ m) : ColI wb b p (l ++ cells F a) (n + m) w6 := by
 obtain ⟨v', h1, _, h3⟩ := hp
 refine ⟨mod_low (hx.trans h5) h3 (fun k hk => (hc.ext h5).ge hb k hk), v', _, h1, hs.app (cells_same ha), by rw [List.length_append]; omega⟩
end Pl
abbrev Yq6 (F : Tj.FP) (a1 : Option Addr) (m1 : Nat) (a2 : Option Addr) (m2 : Nat) (a3 : Option Addr) (m3 : Nat) (a4 : Option Addr) (m4 : Nat) (a5 : Option Addr) (m5 : Nat) (a6 : Option Addr) (m6 : Nat) (a7 : Option Addr) (m7 : Nat) (n7 : Nat) (a8 : Option Addr) (m8 : Nat) : Array Value := #[.string F.nm, .slice a1 F.P.hs.length m1, .slice a2 F.P.md.length m2, .slice a3 F.rs.length m3, .slice a4 F.ac.length m4, .slice a5 F.ts.length m5, .slice a6 F.ss.length m6, .slice a7 n7 m7, .slice a8 F.P.dp.length m8, .slice none 0 0]
theorem uwrites_any {W : World} {p : Pg.PV} {F : Tj.FP} (hF : Tj.IsF W p F) (hB : Pl.Bd F) (tb : Int) (cd : List Tj.EN) (gs : List (Int × Bool)) (ca ga : Option Addr) (cn cc gn gc : Nat) : Calls Tryz.prog 61 #[p.val, .agg #[.int .i64 tb, .slice ca cn cc, .slice ga gn gc]] W (Pl.SetP W (Pl.wrL F ⟨tb, cd, gs⟩)) := by
 have HDC := Lh (fun (w : World) (hx : Ext W w) => declared_any hF hx tb ca ga cn cc gn gc)
 have HWR : Hid (∀ (i : Int) w, Ext W w → Calls Tryz.prog 92 #[p.val, .int .i64 i] w (Pl.AccR w (Pl.acW F i))) := Lh (fun i w hx => awrites_any (hF.ext hx) hB i)
 have HFF := Lh hF
 have HBB := Lh hB
 obtain ⟨a1, a2, a3, a4, a5, a6, a7, a8, m1, m2, m3, m4, m5, m6, n7, m7, m8, hf⟩ := hF.form
 obtain ⟨rfl, hnm, hhs, hmd, hrs, has, hts, hss, hct, hdp, l1, l2, l3, l4, l5, l6, l7, l8⟩ := hf
 dsimp only [Pg.PV.val] at HDC HWR ⊢
 unfold Pl.DeclP at HDC
 unfold Pl.AccR at HWR
 have bx := aH W (.cells (Yq0 F a1 m1 a2 m2 a3 m3 a4 m4 a5 m5 a6 m6 a7 m7 n7 a8 m8) 31)
 have k0 := alw (cQ 0 bx)
 have k1 := alw (cQ 1 bx)
 have k2 := alw (cQ 2 bx)
 have k3 := alw (cQ 3 bx)
 have k4 := alw (cQ 4 bx)
 have k5 := alw (cQ 5 bx)
 have k6 := alw (cQ 6 bx)
 have k7 := alw (cQ 7 bx)
 have k8 := alw (cQ 8 bx)
 clear bx
 have bx := aH (W.alloc (.cells (Yq0 F a1 m1 a2 m2 a3 m3 a4 m4 a5 m5 a6 m6 a7 m7 n7 a8 m8) 31)) (.cells #[.int .i64 tb, .slice ca cn cc, .slice ga gn gc] 111)
 rw [szA] at bx
 have j0 := alw (cQ 0 bx)
 have j1 := alw (cQ 1 bx)
 have j2 := alw (cQ 2 bx)
 clear bx
 clear hF hnm hhs hmd hrs has hts hss hct hdp hB
 cases hat : Tj.at? F.ts tb with
 | none =>
  have HPO : Hid (Pl.SetP W (Pl.wrL F ⟨tb, cd, gs⟩) = Pl.SetP W []) := Lh (by unfold Pl.wrL; rw [hat])
  have HTT : Tj.tabAt F tb = Tj.tab0 := by unfold Tj.tabAt; rw [hat]; rfl
  rw [hat, HTT] at HDC
  rw [show (none : Option Tj.Tab).isSome = false from rfl] at HDC
  clear hat HTT
  obtain ⟨t, ht⟩ : ∃ z, z = Tj.tab0 := ⟨_, rfl⟩
  rw [← ht] at HDC
  clear ht
  go_enter Tryz.func61, Tryz.ntmps61
  go_wp2_with fail
  refine (HDC.out _ grows).mono ?_
  rintro e w3 ⟨tv, rfl, x3, htv⟩
  have s3 := Sm x3
  obtain ⟨ka, kc, aa, ac, da, dc, rfl, _, _, hks, hac, _⟩ := htv
  have HKS := Lh hks
  have HAC := Lh hac
  clear x3 hks hac
  go_wp2_with fail
  go_ret
  rw [HPO.out]
  exact ⟨_, [], rfl, Pl.Same.refl _, Nat.zero_le _, World.ownsRow_nil _ _ _ _, grows⟩
 | some t =>
  have HPO : Hid (Pl.SetP W (Pl.wrL F ⟨tb, cd, gs⟩) = Pl.SetP W (t.ac.flatMap (fun a => Pl.cells F (Pl.acW F a)))) := Lh (by unfold Pl.wrL; rw [hat])
  have HTT : Tj.tabAt F tb = t := by unfold Tj.tabAt; rw [hat]; rfl
  have htl := (Tj.tab_ks (HBB.out.tE t (List.mem_of_getElem? (Tj.at_get hat).2.2))).2.1
  rw [hat, HTT] at HDC
  rw [show (some t).isSome = true from rfl] at HDC
  clear hat HTT
  go_enter Tryz.func61, Tryz.ntmps61
  go_wp2_with fail
  refine (HDC.out _ grows).mono ?_
  rintro e w3 ⟨tv, rfl, x3, htv⟩
  have s3 := Sm x3
  obtain ⟨ka, kc, aa, ac, da, dc, rfl, _, _, hks, hac, _⟩ := htv
  have HKS := Lh hks
  have HAC := Lh hac
  clear x3 hks hac
  have bx := aH w3 (.cells (Yq8 t ka kc aa ac da dc) 96)
  have tc0 := alw (cQ 0 bx)
  have tc1 := alw (cQ 1 bx)
  have tc2 := alw (cQ 2 bx)
  have tc3 := alw (cQ 3 bx)
  have tc4 := alw (cQ 4 bx)
  have tc5 := alw (cQ 5 bx)
  clear bx
  have HIA : Hid (Pl.ColI (w3.alloc (.cells (Yq8 t ka kc aa ac da dc) 96)) (w3.heap.size + 1) ⟨.string F.nm, .slice a1 F.P.hs.length m1, .slice a2 F.P.md.length m2, .slice a3 F.rs.length m3, .slice a4 F.ac.length m4, .slice a5 F.ts.length m5, .slice a6 F.ss.length m6, .slice a7 n7 m7, .slice a8 F.P.dp.length m8⟩ ((t.ac.take 0).flatMap (fun a => Pl.cells F (Pl.acW F a))) (0 + 30000 * 0) ((w3.alloc (.cells (Yq8 t ka kc aa ac da dc) 96)).alloc (.cells (Yq6 F a1 m1 a2 m2 a3 m3 a4 m4 a5 m5 a6 m6 a7 m7 n7 a8 m8) 179))) := Lh (Pl.ColI.start (by rw [szA]) _)
  have HSZ : Hid ((w3.alloc (.cells (Yq8 t ka kc aa ac da dc) 96)).heap.size ≤ w3.heap.size + 1 ∧ W.heap.size ≤ w3.heap.size + 1) := Lh (by have h := (grows (a := W) (b := w3)).size; rw [szA]; omega)
  go_wp2_with fail
  go_loopw [24] (fun q wr => ∃ k : Nat, k ≤ t.ac.length ∧ q = .int .i64 k ∧ Hid (Pl.ColI (w3.alloc (.cells (Yq8 t ka kc aa ac da dc) 96)) (w3.heap.size + 1) ⟨.string F.nm, .slice a1 F.P.hs.length m1, .slice a2 F.P.md.length m2, .slice a3 F.rs.length m3, .slice a4 F.ac.length m4, .slice a5 F.ts.length m5, .slice a6 F.ss.length m6, .slice a7 n7 m7, .slice a8 F.P.dp.length m8⟩ ((t.ac.take k).flatMap (fun a => Pl.cells F (Pl.acW F a))) (0 + 30000 * k) wr)) (fun q _ => t.ac.length - (intOf q).toNat)
  case atStart => exact ⟨0, Nat.zero_le _, rfl, HIA⟩
  case round =>
   obtain ⟨k, hk, rfl, HZ⟩ := hrel
   by_cases hlt : k < t.ac.length
   ·obtain ⟨hx, v, xs, hcb, hsx, hnx⟩ := HZ.out
    have HXW : Hid (Ext W wr) := Lh ((grows (a := W) (b := (w3.alloc (.cells (Yq8 t ka kc aa ac da dc) 96)))).trans hx)
    have sx : Step (w3.alloc (.cells (Yq8 t ka kc aa ac da dc) 96)) wr := ⟨hx⟩
    obtain ⟨x, hxk⟩ : ∃ y, t.ac[k]? = some y := ⟨_, gE hlt⟩
    obtain ⟨ab, ao, rfl, hec⟩ := ns_at HAC.out.1 (by omega)
    have y0 := hec k x hxk
    have HXK := Lh hxk
    have HX := Lh hx
    have HCB := Lh hcb
    have HSX := Lh hsx
    have HNX := Lh hnx
    clear hxk hec hx hcb hsx hnx
    go_wp2_with fail
    refine (HWR.out x _ HXW.out).mono ?_
    rintro e w5 ⟨q1, q2, q3, a9, rfl, hs9, hl9, o1, o2, o3, x5⟩
    obtain ⟨d1, c1, rfl⟩ := own_slice o1
    obtain ⟨d2, c2, rfl⟩ := own_slice o2
    obtain ⟨d3, c3, rfl⟩ := own_slice o3
    have HO1 := Lh o1
    have HO2 := Lh o2
    have HO3 := Lh o3
    have HX5 := Lh x5
    have HS9 := Lh hs9
    have hl90 := hl9.1
    have hl91 := hl9.2.1
    have hl92 := hl9.2.2
    have s5 := Sm x5
    have hclen := Pl.cells_len F a9
    clear o1 o2 o3 x5 hs9 hl9
    go_wp2_with fail
    refine (cadd_any (W0 := W) HFF.out HBB.out (HXW.out.trans HX5.out) HSZ.out.2 (HCB.out.ext HX5.out) (fun w' hm => HCB.out.frs HO1.out (Nat.le_refl _) hm) (fun w' hm => HCB.out.irs HO2.out (Nat.le_refl _) hm) (fun w' hm => HCB.out.irs HO3.out (Nat.le_refl _) hm) (by have := HNX.out; omega)).mono ?_
    rintro e w6 ⟨rfl, hp6⟩
    have HI6 : Hid (Pl.ColI (w3.alloc (.cells #[.string t.nm, .slice ka t.ks.length kc, .slice (some ⟨ab, ao, none⟩) t.ac.length ac, .int .i64 t.df.a, .slice da t.df.ar.length dc, .int .i64 t.sz] 96)) (w3.heap.size + 1) ⟨.string F.nm, .slice a1 F.P.hs.length m1, .slice a2 F.P.md.length m2, .slice a3 F.rs.length m3, .slice a4 F.ac.length m4, .slice a5 F.ts.length m5, .slice a6 F.ss.length m6, .slice a7 n7 m7, .slice a8 F.P.dp.length m8⟩ ((t.ac.take (k + 1)).flatMap (fun a => Pl.cells F (Pl.acW F a))) (0 + 30000 * (k + 1)) w6) := Lh (by
     have h := Pl.ColI.add (m := 30000) HSZ.out.1 HX.out HCB.out HSX.out HNX.out HX5.out hp6 HS9.out (by show (Pl.cells F a9).length ≤ _; omega)
     rw [Pl.fm_add HXK.out, show 0 + 30000 * (k + 1) = 0 + 30000 * k + 30000 by omega]
     exact h)
    clear hp6
    go_wp2_with fail
    go_roundw
    case rel => exact ⟨k + 1, by omega, by go_num, HI6⟩
    case measure => simp [intOf]; omega
   ·obtain rfl : k = t.ac.length := by omega
    obtain ⟨hx, v, xs, hcb, hsx, hnx⟩ := HZ.out
    have HX := Lh hx
    have HCB := Lh hcb
    have HNX := Lh hnx
    rw [List.take_length] at hsx
    have HSX := Lh hsx
    have HQ := Lh (csorted_any hcb (by omega))
    clear hx hcb hsx hnx
    go_wp2_with fail
    refine HQ.out.mono ?_
    rintro e w9 ⟨v9, l9, rfl, hs9, hl9, ho9, _, hm9⟩
    have HF : Hid (Pl.SetP W (t.ac.flatMap (fun a => Pl.cells F (Pl.acW F a))) (.returned v9) w9) := Lh ⟨v9, l9, rfl, hs9.trans HSX.out, by have := HNX.out; omega, own_base ho9 (by have := HSZ.out.2; omega), Pl.mod_low ((grows (a := W) (b := (w3.alloc (.cells (Yq8 t ka kc aa ac da dc) 96)))).trans HX.out) hm9 (fun k hk => HCB.out.ge HSZ.out.2 k hk)⟩
    obtain ⟨d9, c9, rfl⟩ := own_slice ho9
    clear hs9 hl9 ho9 hm9
    go_wp2_with fail
    go_ret
    rw [HPO.out]
    exact HF.out
end Go.Proofs.YtkiafiaodockbaaGreat
