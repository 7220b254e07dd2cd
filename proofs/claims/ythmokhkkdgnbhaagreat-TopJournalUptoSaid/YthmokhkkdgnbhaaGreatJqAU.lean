/- The law TopJournal, walked. What came in, read part by part, with its bulk. Programs and transactions that came in. No condition. -/
import Derived.Test.YthmokhkkdgnbhaaGreatJqAT
import Derived.BigQuiet
import Derived.Test.YthmokhkkdgnbhaaGreatRows
set_option maxRecDepth 8000
set_option maxHeartbeats 16000000
namespace Go.Proofs.YthmokhkkdgnbhaaGreat
open Go.RowKit
abbrev Yq27 (F : Tj.FP) (a1 : Option Addr) (m1 : Nat) (a2 : Option Addr) (m2 : Nat) (a3 : Option Addr) (m3 : Nat) (a4 : Option Addr) (m4 : Nat) (a5 : Option Addr) (m5 : Nat) (a6 : Option Addr) (m6 : Nat) (a7 : Option Addr) (m7 : Nat) (n7 : Nat) (a8 : Option Addr) (m8 : Nat) (p1 : Nat) (o1 : Nat) (lc : Nat) (T_length : Nat) : Array Value := #[.string F.nm, .slice a1 F.P.hs.length m1, .slice a2 F.P.md.length m2, .slice a3 F.rs.length m3, .slice a4 F.ac.length m4, .slice a5 F.ts.length m5, .slice a6 F.ss.length m6, .slice a7 n7 m7, .slice a8 F.P.dp.length m8, .slice (some ⟨p1, o1, none⟩) T_length lc]
theorem topj_any {W : World} {p : Pg.PV} {F : Tj.FP} {la : Option Addr} {lc : Nat} {T : List (List Tj.TOp)} {cut : Int} (hG : Tj.IsG W p F) (hz : Tj.Sz F) (hl : Rows W 1 OpsR (.slice la T.length lc) T) (h0 : 0 ≤ cut) (h1 : cut ≤ 65535) :
 Calls Tryz.prog 3 #[.agg #[p.c0, p.c1, p.c2, p.c3, p.c4, p.c5, p.c6, p.c7, p.c8, .slice la T.length lc], .int .u16 cut] W (Rets W (.bool true)) := by
 have HZ := Lh hz
 have HL := Lh hl
 have hF := hG.1
 obtain ⟨a1, a2, a3, a4, a5, a6, a7, a8, m1, m2, m3, m4, m5, m6, n7, m7, m8, hf⟩ := hF.form
 obtain ⟨rfl, hnm, hhs, hmd, hrs, has, hts, hss, hct, hdp, l1, l2, l3, l4, l5, l6, l7, l8⟩ := hf
 clear hnm hhs hmd hrs has hts hss hct hdp
 dsimp only at *
 have HG := Lh hG
 have HLG : Hid (∀ w, Ext W w → Calls Tryz.prog 4 #[.agg (Yq10 F a1 m1 a2 m2 a3 m3 a4 m4 a5 m5 a6 m6 a7 m7 n7 a8 m8 la lc T.length)] w (LargeP w T.length)) := Lh (fun w hx => large_any (hF.ext hx) (Rows.ext hl (fun _ _ h => h.ext hx) hx))
 have HNW : Hid (∀ w, Ext W w → Calls Tryz.prog 6 #[.agg (Yq0 F a1 m1 a2 m2 a3 m3 a4 m4 a5 m5 a6 m6 a7 m7 n7 a8 m8)] w (fun e w' => Ext w w' ∧ ((∃ c0 : Int, c0 ≠ 0 ∧ e = .returned (.tuple #[.pointer none, .int .i64 c0])) ∨ (Tj.chkF F = 0 ∧ ∃ g q W0, e = .returned (.tuple #[.pointer (some ⟨g, 0, none⟩), .int .i64 0]) ∧ Ext w W0 ∧ LogM W0 w' g q F (Tj.empty F) [] 0)))) := Lh (fun w hx => (jnew_any (p := ⟨.string F.nm, .slice a1 F.P.hs.length m1, .slice a2 F.P.md.length m2, .slice a3 F.rs.length m3, .slice a4 F.ac.length m4, .slice a5 F.ts.length m5, .slice a6 F.ss.length m6, .slice a7 n7 m7, .slice a8 F.P.dp.length m8⟩) (hG.ext hx) hz).mono (by
  rintro e w' ⟨hx, ⟨h, h2⟩ | h⟩
  ·exact ⟨hx, .inl ⟨_, h, h2⟩⟩
  ·exact ⟨hx, .inr h⟩))
 have HJW : Hid (∀ w, Calls Tryz.prog 5 #[] w (Rets w (.bool true))) := Lh (fun w => jworks_any w)
 clear hG hF hz hl
 have bx := aH W (.cells (Yq10 F a1 m1 a2 m2 a3 m3 a4 m4 a5 m5 a6 m6 a7 m7 n7 a8 m8 la lc T.length) 34)
 have k0 := alw (cQ 0 bx)
 have k1 := alw (cQ 1 bx)
 have k2 := alw (cQ 2 bx)
 have k3 := alw (cQ 3 bx)
 have k4 := alw (cQ 4 bx)
 have k5 := alw (cQ 5 bx)
 have k6 := alw (cQ 6 bx)
 have k7 := alw (cQ 7 bx)
 have k8 := alw (cQ 8 bx)
 have k9 := alw (cQ 9 bx)
 clear bx
 go_enter Tryz.func3, Tryz.ntmps3
 go_wp2_with fail
 refine (HLG.out _ grows).mono ?_
 rintro e w1 ⟨b, rfl, x1, hb⟩
 have s1 := Sm x1
 clear x1
 cases b with
 | true =>
  clear hb
  go_wp2_with fail
  refine via (HJW.out _) fun wz xz sz => ?_
  go_wp2_with fail
  go_ret
  exact ⟨rfl, grows⟩
 | false =>
  have h10 := hb rfl
  clear hb
  go_wp2_with fail
  refine (HNW.out _ grows).mono ?_
  rintro e w3 ⟨x3, ⟨c0, hc0, rfl⟩ | ⟨hck, g, q, W0, rfl, x0, hlg⟩⟩
  ·have s3 := Sm x3
   clear x3
   have z1 : (c0 != 0) = true := nT hc0
   go_wp2_with fail
   refine via (HJW.out _) fun wz xz sz => ?_
   go_wp2_with fail
   go_ret
   exact ⟨rfl, grows⟩
  ·have s3 := Sm x3
   have HX0 : Hid (Ext (W.alloc (.cells (Yq10 F a1 m1 a2 m2 a3 m3 a4 m4 a5 m5 a6 m6 a7 m7 n7 a8 m8 la lc T.length) 34)) W0) := Lh ((grows (a := (W.alloc (.cells (Yq10 F a1 m1 a2 m2 a3 m3 a4 m4 a5 m5 a6 m6 a7 m7 n7 a8 m8 la lc T.length) 34))) (b := w1)).trans x0)
   have HLS0 : Hid (LogS W0 w3 g q F []) := Lh ⟨hlg, trivial⟩
   have HW03 : Hid (Ext W0 w3) := Lh hlg.1
   have HCK := Lh hck
   have e0 : ∀ w', (binOp .eql 37 (.pointer (some ⟨g, 0, none⟩)) (.pointer none)).run Tryz.prog w' = .ok (.bool false) w' := fun _ => rfl
   clear x0 hlg x3 hck
   go_wp2_with fail
   refine (logs_cf HLS0.out HZ.out HCK.out grows).mono ?_
   rintro e w4 ⟨r0, k0, c0, r1, k1, c1, r2, k2, c2, r3, k3, c3, rfl, xw4, hcs⟩
   have sw4 := Sm xw4
   have HCS := Lh hcs
   have HXw4 := Lh xw4
   clear xw4 hcs
   have HST0 : Hid (StL W0.heap.size (w4.alloc (.cells #[.slice r0 k0 c0, .slice r1 k1 c1, .slice r2 k2 c2, .slice r3 k3 c3] 45)) (.slice (some ⟨w4.heap.size, 0, none⟩) 1 1) (Jn.sts F [])) := Lh (StL.one (cs := [.slice r0 k0 c0, .slice r1 k1 c1, .slice r2 k2 c2, .slice r3 k3 c3]) (aH w4 _) (Nat.le_trans HW03.out.le HXw4.out.le) ⟨r0, k0, c0, r1, k1, c1, r2, k2, c2, r3, k3, c3, rfl, HCS.out.ext grows⟩)
   have HLS4 : Hid (LogS W0 (w4.alloc (.cells #[.slice r0 k0 c0, .slice r1 k1 c1, .slice r2 k2 c2, .slice r3 k3 c3] 45)) g q F []) := Lh (HLS0.out.ext (HXw4.out.trans grows))
   clear HCS HLS0
   go_wp2_with fail
   go_loopw [7, 8] (fun sv iv wr => ∃ (T1 : List (List Tj.TOp)) (k : Nat), k ≤ T.length ∧ iv = .int .i64 k ∧ T1.length ≤ k ∧ (∃ oa oc, sv = .slice oa (T1.length + 1) oc) ∧ Hid (Ext (W.alloc (.cells (Yq10 F a1 m1 a2 m2 a3 m3 a4 m4 a5 m5 a6 m6 a7 m7 n7 a8 m8 la lc T.length) 34)) wr ∧ LogS W0 wr g q F T1 ∧ StL W0.heap.size wr sv (Jn.sts F T1))) (fun _ iv _ => T.length - (intOf iv).toNat)
   case atStart => exact ⟨[], 0, Nat.zero_le _, rfl, Nat.le_refl _, ⟨_, _, rfl⟩, Lh ⟨grows, HLS4.out, HST0.out⟩⟩
   case round =>
    obtain ⟨T1, k, hk, rfl, hT1, ⟨oa, oc, rfl⟩, HQ⟩ := hrel
    obtain ⟨hxr, hls, hst⟩ := HQ.out
    have sR : Step (W.alloc (.cells (Yq10 F a1 m1 a2 m2 a3 m3 a4 m4 a5 m5 a6 m6 a7 m7 n7 a8 m8 la lc T.length) 34)) wr := Sm hxr
    have HLS := Lh hls
    have HST := Lh hst
    have HXR := Lh hxr
    have hT10 : T1.length ≤ 10 := by omega
    have hlen := logs_len hls HZ.out HCK.out hT10
    obtain ⟨N, hN⟩ : ∃ z, z = (Jn.bsOf T1).length := ⟨_, rfl⟩
    have HBY : Hid (∀ w1, Ext wr w1 → Calls Tryz.prog 8 #[.pointer (some ⟨g, 0, none⟩)] w1 (fun e w' => ∃ oa oc, e = .returned (.slice oa N oc) ∧ Ext w1 w' ∧ Byt w' (.slice oa N oc) (Jn.bsOf T1))) := Lh (fun w1 hx => by rw [hN]; exact logs_by hls hlen hx)
    have HN := Lh hN
    rw [← hN] at hlen
    clear hls hst hxr HQ hN
    by_cases hlt : k < T.length
    ·obtain ⟨x, hx⟩ : ∃ u, T[k]? = some u := ⟨_, gE hlt⟩
     obtain ⟨p1, o1, rfl, _, hat⟩ := Rows.at HL.out (by omega)
     obtain ⟨cs, _, ⟨v, rfl, hv⟩, hc⟩ := hat k x hx
     obtain ⟨va, vc, rfl, _⟩ := Rows.slice hv
     have t0 := hc 0 _ rfl
     rw [Nat.mul_one, Nat.add_zero] at t0
     have y0 := alw t0
     have HV : Hid (Rows W 9 Tj.TOpR (.slice va x.length vc) x) := Lh hv
     have ql : ¬ ((T.length : Int) ≤ k) := by omega
     clear hx hat hc hv t0
     go_wp2_with fail
     refine (logs_cf HLS.out HZ.out HCK.out grows).mono ?_
     rintro e wa ⟨r0b, k0b, c0b, r1b, k1b, c1b, r2b, k2b, c2b, r3b, k3b, c3b, rfl, xwa, hcsb⟩
     have swa := Sm xwa
     have HCSb := Lh hcsb
     have HXwa := Lh xwa
     clear xwa hcsb
     go_wp2_with fail
     refine (HBY.out _ grows).mono ?_
     rintro e wb ⟨na, nc, rfl, xb, _⟩
     have sb := Sm xb
     have HXb := Lh xb
     clear xb
     have HCO : Hid (Calls Tryz.prog 9 #[.pointer (some ⟨g, 0, none⟩), .slice va x.length vc] (wb.alloc (.cells #[.slice r0b k0b c0b, .slice r1b k1b c1b, .slice r2b k2b c2b, .slice r3b k3b c3b] 45)) (fun e w' => ∃ idv at_ z, e = .returned (.tuple #[idv, .int .i64 at_, .int .i64 z]) ∧ Ext (W.alloc (.cells (Yq27 F a1 m1 a2 m2 a3 m3 a4 m4 a5 m5 a6 m6 a7 m7 n7 a8 m8 p1 o1 lc T.length) 34)) w' ∧ Kp KL (wb.alloc (.cells #[.slice r0b k0b c0b, .slice r1b k1b c1b, .slice r2b k2b c2b, .slice r3b k3b c3b] 45)) w' ∧ ((z ≠ 0 ∧ LogS W0 w' g q F T1) ∨ (z = 0 ∧ LogS W0 w' g q F (T1 ++ [x]))))) := Lh (logs_co HLS.out HZ.out HCK.out hT10 grows HX0.out grows (Rows.ext HV.out (fun _ _ h => h.ext grows) grows))
     go_wp2_with fail
     refine HCO.out.mono ?_
     rintro e w4 ⟨idv, at_, z, rfl, x4, k4, hor⟩
     have s4 : Step (W.alloc (.cells (Yq27 F a1 m1 a2 m2 a3 m3 a4 m4 a5 m5 a6 m6 a7 m7 n7 a8 m8 p1 o1 lc T.length) 34)) w4 := Sm x4
     have HX4 := Lh x4
     have hb9 : w4.heap[wb.heap.size]? = some (.cells #[.slice r0b k0b c0b, .slice r1b k1b c1b, .slice r2b k2b c2b, .slice r3b k3b c3b] 45 (0, 0)) := k4 _ _ _ _ (by decide) (aH wb _)
     have j0 := alw (cQ 0 hb9)
     have j1 := alw (cQ 1 hb9)
     have j2 := alw (cQ 2 hb9)
     have j3 := alw (cQ 3 hb9)
     have HK : Hid (Kp KL wr w4) := Lh ((Kp.ext (grows (a := wr) (b := wb.alloc (.cells #[.slice r0b k0b c0b, .slice r1b k1b c1b, .slice r2b k2b c2b, .slice r3b k3b c3b] 45)))).trans k4)
     have HB4 : Hid (Tj.CfgS w4 (.agg #[.slice r0b k0b c0b, .slice r1b k1b c1b, .slice r2b k2b c2b, .slice r3b k3b c3b]) (Jn.conf F (Jn.cfgOf F T1))) := Lh (HCSb.out.kp ((Kp.ext (HXb.out.trans (grows (a := wb) (b := wb.alloc (.cells #[.slice r0b k0b c0b, .slice r1b k1b c1b, .slice r2b k2b c2b, .slice r3b k3b c3b] 45))))).trans (k4.sub (by decide))))
     have HST4 : Hid (StL W0.heap.size w4 (.slice oa (T1.length + 1) oc) (Jn.sts F T1)) := Lh (Tj.OL.kp HST.out HK.out (by decide) (fun _ _ h => h.kp HK.out (by decide)))
     clear hb9 x4 k4 HCO HCSb HST HLS
     rcases hor with ⟨hz0, hl4⟩ | ⟨rfl, hl4⟩
     ·have HL4 := Lh hl4
      have HCB : Hid (Tj.CB (Jn.conf F (Jn.cfgOf F T1))) := Lh (Jn.conf_cb (Jn.good_inv' HZ.out HCK.out hl4.good))
      have HBY4 : Hid (∀ w1, Ext w4 w1 → Calls Tryz.prog 8 #[.pointer (some ⟨g, 0, none⟩)] w1 (fun e w' => ∃ oa oc, e = .returned (.slice oa N oc) ∧ Ext w1 w')) := Lh (fun w1 hx => (by
       refine (logs_by hl4 (by rw [← HN.out]; exact hlen) hx).mono ?_
       rintro e w' ⟨oa, oc, h1, h2, _⟩
       rw [← HN.out] at h1
       exact ⟨oa, oc, h1, h2⟩))
      have z1 : (z != 0) = true := nT hz0
      have z2 : (z == 0) = false := bF hz0
      clear hl4 hz0
      go_wp2_with fail
      refine Rel.region_tail (W := w4) 13 (Rel.tab [(5, fun v w => ∃ r0 k0 c0 r1 k1 c1 r2 k2 c2 r3 k3 c3, v = .agg #[.slice r0 k0 c0, .slice r1 k1 c1, .slice r2 k2 c2, .slice r3 k3 c3] ∧ Tj.CfgS w (.agg #[.slice r0 k0 c0, .slice r1 k1 c1, .slice r2 k2 c2, .slice r3 k3 c3]) (Jn.conf F (Jn.cfgOf F T1))), (6, fun v _ => v = .bool true), (10, fun v _ => ∃ oa oc, v = .slice oa N oc)]) (Rel.tab_lasts (by
       intro p hp v w w' hr hx
       simp only [List.mem_cons, List.not_mem_nil, or_false] at hp
       rcases hp with rfl | rfl | rfl
       ·obtain ⟨r0, k0, c0, r1, k1, c1, r2, k2, c2, r3, k3, c3, h1, h2⟩ := hr; exact ⟨r0, k0, c0, r1, k1, c1, r2, k2, c2, r3, k3, c3, h1, h2.ext hx⟩
       ·exact hr
       ·exact hr)) (by kernel_rfl) (by kernel_rfl) (eR _) ?_
      simp only [tkS, tkZ]
      refine Rel.chunkT 5 rfl rfl rfl ?_
      simp only [tkS, tkZ, dpS, dpZ, Nat.reduceAdd]
      repeat (go_big_quiet_step (fail))
      refine wpQuiet_nil ?_
      refine Rel.callG _ rfl rfl rfl Tryz.func7 (by nofun) (by decide) #[.pointer (some ⟨g, 0, none⟩)] rfl (fun w hx _ => by refine (logs_cf HL4.out HZ.out HCK.out hx).mono ?_; rintro e w9 ⟨r0, k0, c0, r1, k1, c1, r2, k2, c2, r3, k3, c3, h1, h2, h3⟩; exact ⟨_, h1, h2, r0, k0, c0, r1, k1, c1, r2, k2, c2, r3, k3, c3, rfl, h3⟩) ?_
      intro u1 v1 _ _ q1
      obtain ⟨r0y, k0y, c0y, r1y, k1y, c1y, r2y, k2y, c2y, r3y, k3y, c3y, rfl, q1⟩ := q1
      clear q1
      simp only [Act.put, stA, stS, stZ]
      refine Rel.callG _ rfl rfl rfl Tryz.func10 (by nofun) (by decide) #[.agg #[.slice r0b k0b c0b, .slice r1b k1b c1b, .slice r2b k2b c2b, .slice r3b k3b c3b], .agg #[.slice r0y k0y c0y, .slice r1y k1y c1y, .slice r2y k2y c2y, .slice r3y k3y c3y]] rfl (fun w hx hf => by
       obtain ⟨r0z, k0z, c0z, r1z, k1z, c1z, r2z, k2z, c2z, r3z, k3z, c3z, h1, h2⟩ := (hf 5 (by kernel_rfl)).2 rfl
       rw [← h1] at h2
       refine (refcfg_any (HB4.out.ext hx).now h2.now HCB.out).mono ?_; rintro e w9 ⟨h1, h2⟩; exact ⟨_, h1, h2, rfl⟩) ?_
      intro u2 v2 _ _ q2
      subst q2
      simp only [Act.put, stA, stS, stZ]
      refine Rel.chunkT 3 rfl rfl rfl ?_
      simp only [tkS, tkZ, dpS, dpZ, Nat.reduceAdd]
      repeat (go_big_quiet_step (fail))
      refine wpQuiet_nil ?_
      refine Rel.callG _ rfl rfl rfl Tryz.func8 (by nofun) (by decide) #[.pointer (some ⟨g, 0, none⟩)] rfl (fun w hx _ => by refine (HBY4.out w hx).mono ?_; rintro e w9 ⟨oa, oc, h1, h2⟩; exact ⟨_, h1, h2, oa, oc, rfl⟩) ?_
      intro u3 v3 _ _ q3
      obtain ⟨oa3, oc3, rfl⟩ := q3
      simp only [Act.put, stA, stS, stZ]
      refine Rel.chunkT 2 rfl rfl rfl ?_
      simp only [tkS, tkZ, dpS, dpZ, Nat.reduceAdd]
      repeat (go_big_quiet_step (fail))
      refine wpQuiet_nil ?_
      refine Rel.fin ?_
      intro w5 x5 _
      have s5 := Sm x5
      have HX5 := Lh x5
      clear x5
      go_wp2_with fail
      go_roundw
      case rel => exact ⟨T1, k + 1, by omega, by go_num, by omega, ⟨_, _, rfl⟩, Lh ⟨HX4.out.trans HX5.out, HL4.out.ext HX5.out, Tj.OL.kp (Ts := KL) HST4.out (Kp.ext HX5.out) (by decide) (fun _ _ h => h.kp (Ts := KL) (Kp.ext HX5.out) (by decide))⟩⟩
      case measure => simp [intOf]; omega
     ·have HL4 := Lh hl4
      clear hl4
      go_wp2_with fail
      refine wp_region_later (W := w4) (by kernel_rfl) (by kernel_rfl) (eR _) ?_
      repeat (go_big_quiet_step (fail))
      refine wpQuiet_nil ?_
      intro w5 x5
      have s5 := Sm x5
      have HX5 := Lh x5
      have HLS5 : Hid (LogS W0 w5 g q F (T1 ++ [x])) := Lh (HL4.out.ext x5)
      clear x5
      go_wp2_with fail
      refine (logs_cf HLS5.out HZ.out HCK.out grows).mono ?_
      rintro e w6 ⟨r0d, k0d, c0d, r1d, k1d, c1d, r2d, k2d, c2d, r3d, k3d, c3d, rfl, xw6, hcsd⟩
      have sw6 := Sm xw6
      have HCSd := Lh hcsd
      have HXw6 := Lh xw6
      clear xw6 hcsd
      obtain ⟨css, hc1, hc2, hc3, hown, hc5⟩ := HST4.out
      have HOW := Lh hown
      have hown' := hown
      rw [Jn.sts_len] at hown'
      have HO := Lh (own_ext hown' (HX5.out.trans (HXw6.out.trans (grows (a := w6) (b := w6.alloc (.cells #[.slice r0d k0d c0d, .slice r1d k1d c1d, .slice r2d k2d c2d, .slice r3d k3d c3d] 45))))))
      have HS1 := Lh (src_at (aH w6 (.cells #[.slice r0d k0d c0d, .slice r1d k1d c1d, .slice r2d k2d c2d, .slice r3d k3d c3d] 45)) (by simp [Value.oneCell']))
      have hle6 : W0.heap.size ≤ w6.heap.size := Nat.le_trans HL4.out.log.1.le (Nat.le_trans HX5.out.le HXw6.out.le)
      clear hown hown'
      go_wp2_with (at_builtin; refine wpList_append_fresh rfl (.tmp 81) (.tmp 84) 47 rfl W0.heap.size 45 (.agg (Yq5 )) 4 96 Tryz.underlying47 cinf_Cfg rfl (by decide) (.slice oa (T1.length + 1) oc) (T1.length + 1) css.flatten rfl HO.out _ 1 [.slice r0d k0d c0d, .slice r1d k1d c1d, .slice r2d k2d c2d, .slice r3d k3d c3d] rfl HS1.out ?d1 ?d2 ?d3 ?_)
      case d1 => unfold maxLen; omega
      case d2 => omega
      case d3 => (try simp only [szA]); omega
      intro v' w7 hown7 hgr hfr
      obtain ⟨o7, c7, rfl⟩ := own_slice hown7
      have hk7 : Kp (75 :: 5 :: Tj.CfT) (w6.alloc (.cells #[.slice r0d k0d c0d, .slice r1d k1d c1d, .slice r2d k2d c2d, .slice r3d k3d c3d] 45)) w7 := Kp.grown hgr HO.out (by decide)
      have HK7 := Lh hk7
      have HM7 := Lh (grown_mod hgr)
      have HO7 := Lh hown7
      have HRG : Hid (∀ i, some i = (Value.slice oa (T1.length + 1) oc).ownBlock → W0.heap.size ≤ i) := Lh (fun i hi => row_ge HO.out hi.symm)
      have HC6 := Lh hc5
      have HC1 := Lh hc1
      have HC2 := Lh hc2
      have HC3 := Lh hc3
      have s7 : Step (W.alloc (.cells (Yq27 F a1 m1 a2 m2 a3 m3 a4 m4 a5 m5 a6 m6 a7 m7 n7 a8 m8 p1 o1 lc T.length) 34)) w7 := Sm ((grows (a := (W.alloc (.cells (Yq27 F a1 m1 a2 m2 a3 m3 a4 m4 a5 m5 a6 m6 a7 m7 n7 a8 m8 p1 o1 lc T.length) 34))) (b := w6.alloc (.cells #[.slice r0d k0d c0d, .slice r1d k1d c1d, .slice r2d k2d c2d, .slice r3d k3d c3d] 45))).mod (grown_mod hgr) (fun i hi => Nat.le_trans HX0.out.le (row_ge HO.out hi.symm)))
      clear hgr hfr hown7 hk7 hc1 hc2 hc3 hc5
      go_wp2_with fail
      go_roundw
      case rel =>
       have hx6 : Ext w5 (w6.alloc (.cells #[.slice r0d k0d c0d, .slice r1d k1d c1d, .slice r2d k2d c2d, .slice r3d k3d c3d] 45)) := HXw6.out.trans grows
       have hkw : Kp Tj.CfT w4 w7 := (Kp.ext (HX5.out.trans hx6)).trans (HK7.out.sub (by decide))
       refine ⟨T1 ++ [x], k + 1, by omega, by go_num, by rw [List.length_append, List.length_singleton]; omega, ⟨o7, c7, by rw [List.length_append, List.length_singleton]⟩, Lh ⟨s7.out, ⟨HLS5.out.log.kp (((HLS5.out.log.1.trans hx6)).mod HM7.out HRG.out) ((Kp.ext hx6).trans HK7.out), HLS5.out.good⟩, css ++ [[.slice r0d k0d c0d, .slice r1d k1d c1d, .slice r2d k2d c2d, .slice r3d k3d c3d]], ?_⟩⟩
       rw [Jn.sts_snoc]
       exact Tj.OLc.push (w := w4) ⟨HC1.out, HC2.out, HC3.out, HOW.out, HC6.out⟩ (fun _ _ h => h.kp hkw (by decide)) (by rw [Jn.sts_len]; exact HO7.out) ⟨r0d, k0d, c0d, r1d, k1d, c1d, r2d, k2d, c2d, r3d, k3d, c3d, rfl, (HCSd.out.ext (grows (a := w6) (b := w6.alloc (.cells #[.slice r0d k0d c0d, .slice r1d k1d c1d, .slice r2d k2d c2d, .slice r3d k3d c3d] 45)))).kp (HK7.out.sub (by decide))⟩ rfl (by simp [Value.oneCell'])
      case measure => simp [intOf]; omega
    ·obtain rfl : k = T.length := by omega
     obtain ⟨kk, hkk⟩ : ∃ z, z = cut.toNat % (N + 1) := ⟨_, rfl⟩
     have hrem : cut.tmod ((N : Int) + 1) = (kk : Int) := by rw [hkk, Int.tmod_eq_emod_of_nonneg h0, Int.natCast_emod, Int.toNat_of_nonneg h0]; rfl
     have hkN : kk ≤ N := by rw [hkk]; have := Nat.mod_lt cut.toNat (show 0 < N + 1 by omega); omega
     have HBE := Lh (HLS.out.good)
     have HLG2 := Lh (HLS.out.log)
     clear hkk
     go_wp2_with fail
     refine (HBY.out _ grows).mono ?_
     rintro e w5 ⟨ba, bc, rfl, x5, hb5⟩
     have s5 := Sm x5
     rw [HN.out] at hb5
     have hlo := hb5.lo (t := kk) (by rw [← HN.out]; exact hkN)
     rw [← HN.out] at hlo
     have hsl := hlo.1
     have HOP : Hid (∀ w, Ext w5 w → Calls Tryz.prog 11 #[.agg (Yq0 F a1 m1 a2 m2 a3 m3 a4 m4 a5 m5 a6 m6 a7 m7 n7 a8 m8), .slice ba kk bc] w (fun e w' => ∃ (g2 j u : Nat), e = .returned (.tuple #[.pointer (some ⟨g2, 0, none⟩), .int .i64 (u : Int), .int .i64 0]) ∧ Ext w w' ∧ (j ≤ T1.length ∧ u ≤ kk ∧ (kk = N → j = T1.length)) ∧ ∃ (q2 : Pg.PV) (W2 : World) (b2 : List Int), LogM W2 w' g2 q2 F (Jn.cfgOf F (T1.take j)) b2 j)) := Lh (fun w hx => (jopen_any (p := ⟨.string F.nm, .slice a1 F.P.hs.length m1, .slice a2 F.P.md.length m2, .slice a3 F.rs.length m3, .slice a4 F.ac.length m4, .slice a5 F.ts.length m5, .slice a6 F.ss.length m6, .slice a7 n7 m7, .slice a8 F.P.dp.length m8⟩) (T := T1) (k := kk) (HG.out.ext ((grows (a := W) (b := w5)).trans hx)) HZ.out HCK.out HBE.out hT10 (by rw [← HN.out]; exact hkN) (hlo.2.ext hx)).mono (by
      rintro e w' ⟨g2, q2, W2, j, u, b2, h1, h2, _, h4, h5, h6, h7, _⟩
      exact ⟨g2, j, u, h1, h2, ⟨h5, h6, fun h => h7 (by rw [h, HN.out])⟩, q2, W2, b2, h4⟩))
     clear hb5 hlo x5
     go_wp2_with fail
     refine Rel.region_tail (W := w5) 12 (Rel.tab [(5, fun v w => ∃ (g2 : Nat) (j u : Nat), v = .tuple #[.pointer (some ⟨g2, 0, none⟩), .int .i64 (u : Int), .int .i64 0] ∧ (j ≤ T1.length ∧ u ≤ kk ∧ (kk = N → j = T1.length)) ∧ ∃ (q2 : Pg.PV) (W2 : World) (b2 : List Int), LogM W2 w g2 q2 F (Jn.cfgOf F (T1.take j)) b2 j)]) (Rel.tab_lasts (by
      intro p hp v w w' hr hx
      simp only [List.mem_cons, List.not_mem_nil, or_false] at hp
      subst hp
      obtain ⟨g2, j, u, h1, h2, q2, W2, b2, h3⟩ := hr
      exact ⟨g2, j, u, h1, h2, q2, W2, b2, h3.ext hx⟩)) (by kernel_rfl) (by kernel_rfl) (eR _) ?_
     simp only [tkS, tkZ]
     refine Rel.chunkT 5 rfl rfl rfl ?_
     simp only [tkS, tkZ, dpS, dpZ, Nat.reduceAdd]
     repeat (go_big_quiet_step (fail))
     refine wpQuiet_nil ?_
     refine Rel.callG _ rfl rfl rfl Tryz.func11 (by nofun) (by decide) #[.agg (Yq0 F a1 m1 a2 m2 a3 m3 a4 m4 a5 m5 a6 m6 a7 m7 n7 a8 m8), .slice ba kk bc] rfl (fun w hx _ => by refine (HOP.out w hx).mono ?_; rintro e w9 ⟨g2, j, u, h1, h2, h3⟩; exact ⟨_, h1, h2, g2, j, u, rfl, h3⟩) ?_
     intro u1 v1 _ _ q1
     obtain ⟨g2, j0, u, rfl, q1, q2⟩ := q1
     clear q1 q2 j0
     simp only [Act.put, stA, stS, stZ]
     refine Rel.chunkT 6 rfl rfl rfl ?_
     simp only [tkS, tkZ, dpS, dpZ, Nat.reduceAdd]
     repeat (go_big_quiet_step (fail))
     refine wpQuiet_nil ?_
     refine Rel.fin ?_
     intro w6 x6 hf6
     obtain ⟨g2', j, u', e2, ⟨hj, hu, hfin⟩, q2, W2, b2, hl6⟩ := (hf6 5).2 rfl
     simp only [Value.tuple.injEq, Array.mk.injEq, List.cons.injEq, Value.pointer.injEq, Option.some.injEq, Addr.mk.injEq, and_true, Value.int.injEq, true_and] at e2
     obtain ⟨rfl, hue⟩ := e2
     obtain rfl : u = u' := by omega
     clear hue hf6
     have s6 := Sm x6
     have HLN := Lh (fun (w : World) (hx : Ext w6 w) => jlen_any (hl6.ext hx))
     have HCF6 : Hid (∀ w, Ext w6 w → Calls Tryz.prog 7 #[.pointer (some ⟨g2, 0, none⟩)] w (fun e w' => ∃ r0 k0 c0 r1 k1 c1 r2 k2 c2 r3 k3 c3, e = .returned (.agg #[.slice r0 k0 c0, .slice r1 k1 c1, .slice r2 k2 c2, .slice r3 k3 c3]) ∧ Ext w w' ∧ Tj.CfgS w' (.agg #[.slice r0 k0 c0, .slice r1 k1 c1, .slice r2 k2 c2, .slice r3 k3 c3]) (Jn.conf F (Jn.cfgOf F (T1.take j))))) := Lh (fun w hx => (jconfig_any (hl6.ext hx) HZ.out (Jn.good_inv HZ.out HCK.out HBE.out j)).mono (by
      rintro e w' ⟨d0, d1, d2, d3, h1, h2, h3⟩
      obtain ⟨r0, k0, c0, r1, k1, c1, r2, k2, c2, r3, k3, c3, e1, h4⟩ := cfgS_form h3
      rw [e1] at h1
      exact ⟨r0, k0, c0, r1, k1, c1, r2, k2, c2, r3, k3, c3, h1, h2, h4⟩))
     have HCB : Hid (Tj.CB (Jn.conf F (Jn.cfgOf F (T1.take j)))) := Lh (Jn.conf_cb (Jn.good_inv HZ.out HCK.out HBE.out j))
     have hrows : Rows wr 4 CfgC (.slice oa (T1.length + 1) oc) (Jn.sts F T1) := Tj.OL.rows HST.out (fun _ _ h => h)
     obtain ⟨sb, so, rfl, _, hat⟩ := Rows.at hrows (by rw [Jn.sts_len]; omega)
     obtain ⟨cs, _, ⟨r0s, k0s, c0s, r1s, k1s, c1s, r2s, k2s, c2s, r3s, k3s, c3s, rfl, hcs⟩, hcell⟩ := hat j _ (Jn.sts_at hj)
     have t0 := hcell 0 _ rfl
     rw [Nat.add_zero] at t0
     have y0 := alw t0
     have y1 := alw (hcell 1 _ rfl)
     have y2 := alw (hcell 2 _ rfl)
     have y3 := alw (hcell 3 _ rfl)
     have HSJ : Hid (Tj.CfgS wr (.agg #[.slice r0s k0s c0s, .slice r1s k1s c1s, .slice r2s k2s c2s, .slice r3s k3s c3s]) (Jn.conf F (Jn.cfgOf F (T1.take j)))) := Lh hcs
     have e3 : ∀ w', (binOp .eql 37 (.pointer (some ⟨g2, 0, none⟩)) (.pointer none)).run Tryz.prog w' = .ok (.bool false) w' := fun _ => rfl
     have g1 : decide ((kk : Int) < (u : Int)) = false := dF (by omega)
     have g3 : decide ((T1.length : Int) + 1 ≤ (j : Int)) = false := dF (by omega)
     have g4 : decide ((j : Int) < 0) = false := dF (by omega)
     have ql : ¬ ((T1.length : Int) + 1 ≤ (j : Int)) := by omega
     clear hrows hat hcell t0 hcs hl6 x6
     go_wp2_with fail
     refine via (HLN.out _ grows) fun w7 x7 s7 => ?_
     go_wp2_with fail
     refine via (HLN.out _ grows) fun w8 x8 s8 => ?_
     go_wp2_with fail
     refine (HCF6.out _ grows).mono ?_
     rintro e w9 ⟨r0h, k0h, c0h, r1h, k1h, c1h, r2h, k2h, c2h, r3h, k3h, c3h, rfl, x9, hch⟩
     have s9 := Sm x9
     go_wp2_with fail
     refine via (HLN.out _ grows) fun w10 x10 s10 => ?_
     have HEQ : Hid (Calls Tryz.prog 10 #[.agg #[.slice r0h k0h c0h, .slice r1h k1h c1h, .slice r2h k2h c2h, .slice r3h k3h c3h], .agg #[.slice r0s k0s c0s, .slice r1s k1s c1s, .slice r2s k2s c2s, .slice r3s k3s c3s]] w10 (Rets w10 (.bool true))) := Lh (refcfg_any (hch.ext x10).now (HSJ.out.ext grows).now HCB.out)
     clear hch
     go_wp2_with fail
     refine HEQ.out.mono ?_
     rintro e w11 ⟨rfl, x11⟩
     have s11 := Sm x11
     by_cases hkl : kk < N
     ·have g5 : decide ((kk : Int) < (N : Int)) = true := dTt (by omega)
      go_wp2_with fail
      refine via (HJW.out _) fun wz xz sz => ?_
      go_wp2_with fail
      go_ret
      exact ⟨rfl, grows⟩
     ·have g5 : decide ((kk : Int) < (N : Int)) = false := dF (by omega)
      have hjT : j = T1.length := hfin (by omega)
      have g6 : ((j : Int) == (T1.length : Int)) = true := bT (by omega)
      clear hjT
      go_wp2_with fail
      refine via (HLN.out _ grows) fun w12 x12 s12 => ?_
      go_wp2_with fail
      refine via (HJW.out _) fun wz xz sz => ?_
      go_wp2_with fail
      go_ret
      exact ⟨rfl, grows⟩
/-- the cells cs can be read at type t, within a bulk of n, at depth f -/
def RdF (P : Program) (W : World) (t : TypeId) (cs : List Value) (n f : Nat) : Prop :=
 ∃ (H : Type) (enc : TypeId × Value → H) (spare : Nat → Bool) (held : Bool) (x : DataW H × List MemPlace), DataW.trod enc P W 0 spare held f t cs = some x ∧ Rows.uptoBulk x.1 ≤ n
theorem bulk_one {H : Type} (d : DataW H) : 1 ≤ Rows.uptoBulk d := by
 cases d with
 | lit l => cases l <;> simp [Rows.uptoBulk]
 | nil => simp [Rows.uptoBulk]
 | ptr d => simp [Rows.uptoBulk]
 | slice elems spare => simp [Rows.uptoBulk]
 | agg parts => simp [Rows.uptoBulk]
 | iface t d => simp [Rows.uptoBulk]
 | map entries => simp [Rows.uptoBulk]
 | held h => simp [Rows.uptoBulk]
theorem bulk_all {H : Type} : ∀ (l : List (DataW H)), Rows.uptoBulkAll l = (l.map Rows.uptoBulk).sum
 | [] => by simp [Rows.uptoBulkAll]
 | d :: l => by simp only [Rows.uptoBulkAll, List.map_cons, List.sum_cons, bulk_all l]
theorem sum_ge {ns : List Nat} : (∀ m ∈ ns, 1 ≤ m) → ns.length ≤ ns.sum := by
 induction ns with
 | nil => intro _; simp
 | cons m l ih =>
  intro h
  have h1 := h m List.mem_cons_self
  have h2 := ih (fun k hk => h k (List.mem_cons_of_mem _ hk))
  simp only [List.length_cons, List.sum_cons]; omega
theorem sum_mem {ns : List Nat} {m : Nat} : m ∈ ns → m ≤ ns.sum := by
 induction ns with
 | nil => intro h; cases h
 | cons k l ih =>
  intro h
  simp only [List.sum_cons]
  rcases List.mem_cons.1 h with h | h
  ·omega
  ·have := ih h; omega
section
variable {P : Program} {W : World} {t : TypeId} {cs : List Value} {n f : Nat}
theorem RdF.rd (h : RdF P W t cs n f) : Rd P W t cs := by
 obtain ⟨H, enc, spare, held, x, h1, _⟩ := h; exact ⟨H, enc, spare, held, f, x, h1⟩
theorem RdF.mono {m : Nat} (h : RdF P W t cs n f) (hm : n ≤ m) : RdF P W t cs m f := by
 obtain ⟨H, enc, spare, held, x, h1, h2⟩ := h; exact ⟨H, enc, spare, held, x, h1, Nat.le_trans h2 hm⟩
theorem RdF.struct {fs : Array Field} (hu : P.underlying t = some (.struct fs)) (h : RdF P W t cs n f) :
 cs.length = P.cellsOf t ∧ ∃ (ns : List Nat) (f' : Nat), f = f' + 1 ∧ ns.length = fs.size ∧ ns.sum + 1 ≤ n ∧ ∀ (i : Nat) (fd : Field) (m : Nat), fs[i]? = some fd → ns[i]? = some m → RdF P W fd.type ((cs.drop fd.offset).take (P.cellsOf fd.type)) m f' := by
 obtain ⟨H, enc, spare, held, x, hf, hb⟩ := h
 obtain ⟨xs, k, h1, h2, hl, hlen, hfi⟩ := DataW.trod_struct hu hf
 refine ⟨hl, xs.map (fun y => Rows.uptoBulk y.1), k, h1, by simpa using hlen, ?_, fun i fd m hi hm => ?_⟩
 ·rw [h2] at hb
  simp only [Rows.uptoBulk, bulk_all, List.map_map] at hb
  exact hb
 ·have hlt : i < fs.size := (Array.getElem?_eq_some_iff.1 hi).1
  have h3 := hfi i fd hi
  rw [gE (by omega)] at h3
  rw [List.getElem?_map, gE (by omega)] at hm
  simp only [Option.map_some, Option.some.injEq] at hm
  exact ⟨H, enc, spare, held, _, h3, by omega⟩
theorem RdF.slice {e : TypeId} (hu : P.underlying t = some (.slice e)) (h : RdF P W t cs n f) :
 (cs = [.slice none 0 0] ∧ 1 ≤ n) ∨ ∃ (a : Addr) (len cap : Nat) (ns : List Nat) (f' : Nat), f = f' + 1 ∧ cs = [.slice (some a) len cap] ∧ len ≤ cap ∧ cap ≤ maxLen ∧ ns.length = len ∧ (∀ m ∈ ns, 1 ≤ m) ∧ ns.sum + 1 ≤ n ∧
  ∀ (i m : Nat), ns[i]? = some m → ∃ row : List Value, row.length = P.cellsOf e ∧ (∀ j, j < P.cellsOf e → W.cell? ((a.add (i * P.cellsOf e)).add j) = row[j]?) ∧ RdF P W e row m f' := by
 obtain ⟨H, enc, spare, held, x, hf, hb⟩ := h
 rcases DataW.trod_slice hu hf with ⟨h1, h2⟩ | ⟨a, len, cap, elems, rest, k, hk, h1, hx, _, h2, h3, h4, h5, _, _⟩
 ·refine .inl ⟨h1, ?_⟩
  have := bulk_one x.1; omega
 ·refine .inr ⟨a, len, cap, elems.map (fun y => Rows.uptoBulk y.1), k, hk, h1, h2, h3, by simpa using h4, fun m hm => ?_, ?_, fun i m hm => ?_⟩
  ·obtain ⟨y, _, rfl⟩ := List.mem_map.1 hm; exact bulk_one y.1
  ·rw [hx] at hb
   simp only [Rows.uptoBulk, bulk_all, List.map_map] at hb
   exact Nat.le_trans (Nat.add_le_add_right (Nat.le_add_right _ _) 1) hb
  ·rw [List.getElem?_map] at hm
   obtain ⟨y, hy, rfl⟩ := Option.map_eq_some_iff.1 hm
   have hi : i < len := by have := (List.getElem?_eq_some_iff.1 hy).1; omega
   have h6 := h5 i hi
   rw [hy] at h6
   cases hc : W.cells? 0 (a.add (i * P.cellsOf e)) (P.cellsOf e) with
   | none => rw [hc] at h6; cases h6
   | some row =>
    rw [hc] at h6
    obtain ⟨g1, g2⟩ := cells_get hc
    exact ⟨row, g1, g2, H, enc, spare, held, _, h6, Nat.le_refl _⟩
/-- a slice that came in, with its elements' bulks -/
theorem RdF.rows {α : Type} {e : TypeId} {sz : Nat} {R : World → List Value → α → Prop} {Q : α → Nat → Prop} (hu : P.underlying t = some (.slice e)) (hc : P.cellsOf e = sz) (hs : 0 < sz)
 (hR : ∀ row m f', row.length = sz → f = f' + 1 → m + 1 ≤ n → RdF P W e row m f' → ∃ d, R W row d ∧ Q d m) (h : RdF P W t cs n f) :
 ∃ (a : Option Addr) (c : Nat) (ds : List α) (ns : List Nat), cs = [.slice a ds.length c] ∧ (ds.length ≤ c ∧ c ≤ maxLen) ∧ Rows W sz R (.slice a ds.length c) ds ∧ ns.length = ds.length ∧ (∀ m ∈ ns, 1 ≤ m) ∧ ns.sum + 1 ≤ n ∧ ∀ (i : Nat) (d : α) (m : Nat), ds[i]? = some d → ns[i]? = some m → Q d m := by
 rcases h.slice hu with ⟨rfl, h1⟩ | ⟨a, len, cap, ns, f', hf, rfl, h1, h2, h3, h4, h5, h6⟩
 ·exact ⟨none, 0, [], [], rfl, ⟨Nat.le_refl _, Nat.zero_le _⟩, .inl ⟨rfl, rfl⟩, rfl, by simp, by simpa using h1, fun i d m hd _ => by simp at hd⟩
 ·rw [hc] at h6
  obtain ⟨ds, g1, g2⟩ := choose_list (α := α) (n := len) (p := fun i d => ∃ row : List Value, row.length = sz ∧ R W row d ∧ (∀ m, ns[i]? = some m → Q d m) ∧ ∀ j, j < sz → W.cell? ((a.add (i * sz)).add j) = row[j]?) (fun i hi => by
   obtain ⟨m, hm⟩ : ∃ m, ns[i]? = some m := ⟨_, gE (by omega)⟩
   obtain ⟨row, k1, k2, k3⟩ := h6 i m hm
   obtain ⟨d, hd, hq⟩ := hR row m f' k1 hf (by have := sum_mem (List.mem_of_getElem? hm); omega) k3
   exact ⟨d, row, k1, hd, fun m' hm' => by rw [hm] at hm'; obtain rfl := Option.some.inj hm'; exact hq, k2⟩)
  have hsp : ds ≠ [] → a = ⟨a.block, a.off, none⟩ := by
   intro hne
   have hpos := List.length_pos_iff.2 hne
   obtain ⟨row, k1, _, _, k3⟩ := g2 0 ds[0] (by simp)
   have k4 := k3 0 hs
   rw [gE (by omega)] at k4
   have : a.spot = none := by simpa [Addr.add] using World.cell?_spot k4
   cases a; simp_all
  subst g1
  refine ⟨some a, cap, ds, ns, rfl, ⟨h1, h2⟩, .inr ⟨a, cap, rfl, h1, h2, hsp, fun i d hi => ?_⟩, h3, h4, h5, fun i d m hd hm => ?_⟩
  ·obtain ⟨row, k1, k2, _, k3⟩ := g2 i d hi
   refine ⟨row, k1, k2, fun j u hj => ?_⟩
   have hjs : j < sz := by rw [← k1]; exact (List.getElem?_eq_some_iff.1 hj).1
   have k4 := k3 j hjs
   rw [hsp (by intro h0; subst h0; simp at hi), add_mk, add_mk, hj] at k4
   exact k4
  ·obtain ⟨_, _, _, hq, _⟩ := g2 i d hd; exact hq m hm
/-- the same, where only a bound for all is asked -/
theorem RdF.rowsB {α : Type} {e : TypeId} {sz : Nat} {R : World → List Value → α → Prop} {Q : α → Prop} (hu : P.underlying t = some (.slice e)) (hc : P.cellsOf e = sz) (hs : 0 < sz)
 (hR : ∀ row f', row.length = sz → RdF P W e row n f' → ∃ d, R W row d ∧ Q d) (h : RdF P W t cs n f) :
 ∃ (a : Option Addr) (c : Nat) (ds : List α), cs = [.slice a ds.length c] ∧ (ds.length ≤ c ∧ c ≤ maxLen) ∧ Rows W sz R (.slice a ds.length c) ds ∧ ds.length ≤ n ∧ ∀ d ∈ ds, Q d := by
 obtain ⟨a, c, ds, ns, h1, h2, h3, h4, h5, h6, h7⟩ := RdF.rows (Q := fun d _ => Q d) hu hc hs (fun row m f' hl _ hm hr => hR row f' hl (hr.mono (by omega))) h
 refine ⟨a, c, ds, h1, h2, h3, by have := sum_ge h5; omega, fun d hd => ?_⟩
 obtain ⟨i, hi⟩ := List.getElem?_of_mem hd
 have hlt := (List.getElem?_eq_some_iff.1 hi).1
 exact h7 i d ns[i] hi (gE (by omega))
end
theorem ns_rowsF {k : IntKind} {w : World} {v : Value} {ds : List Int} {p : Int → Prop} (h : Rows w 1 (fun _ cs d => cs = [.int k d] ∧ p d) v ds) : Ns k w v ds ∧ ∀ x ∈ ds, p x := by
 rcases h with ⟨rfl, rfl⟩ | ⟨ad, c, rfl, h2, h3, h5, h4⟩
 ·exact ⟨⟨⟨rfl, (by simp), .inl ⟨rfl, rfl⟩⟩, Nat.zero_le _⟩, by simp⟩
 ·refine ⟨⟨⟨by simp, by intro u hu; simp at hu; obtain ⟨x, _, rfl⟩ := hu; rfl, .inr ⟨ad, c, rfl, fun j u hj => ?_⟩⟩, Nat.le_trans h2 h3⟩, fun x hx => ?_⟩
  ·rw [List.getElem?_map] at hj
   cases hd : ds[j]? with
   | none => rw [hd] at hj; simp at hj
   | some d =>
    rw [hd] at hj
    simp only [Option.map_some, Option.some.injEq] at hj
    subst hj
    obtain ⟨cs, _, ⟨rfl, _⟩, hc⟩ := h4 j d hd
    have h6 := hc 0 _ rfl
    have h7 := h5 (by intro e; subst e; simp at hd)
    rw [h7]
    rw [show (⟨ad.block, ad.off, none⟩ : Addr).add j = ⟨ad.block, ad.off + j * 1 + 0, none⟩ by simp [Addr.add]]
    exact h6
  ·obtain ⟨i, hi⟩ := List.mem_iff_getElem?.1 hx
   obtain ⟨_, _, ⟨_, hp⟩, _⟩ := h4 i x hi
   exact hp
theorem wf_u32F {x : Int} (h : (Lit.int .u32 x).wf = true) : U32 x := by
 simp [Lit.wf, IntKind.min, IntKind.max, IntKind.bits, IntKind.signed] at h; unfold U32; omega
theorem wf_b64F {x : Int} (h : (Lit.int .i64 x).wf = true) : Tj.B64 x := by
 simp [Lit.wf, IntKind.min, IntKind.max, IntKind.bits, IntKind.signed] at h; unfold Tj.B64 Rg.B64; omega
set_option maxRecDepth 100000 in
theorem rdf_ints {W : World} {cs : List Value} {n f : Nat} (h : RdF Tryz.prog W 29 cs n f) : ∃ (a : Option Addr) (c : Nat) (l : List Int), cs = [.slice a l.length c] ∧ (l.length ≤ c ∧ c ≤ maxLen) ∧ Tj.Is W (.slice a l.length c) l ∧ l.length ≤ n := by
 obtain ⟨a, c, l, h1, h2, h3, h4, _⟩ := RdF.rowsB (R := fun _ cs (d : Int) => cs = [.int .i64 d] ∧ Tj.B64 d) (Q := fun _ => True) Tryz.underlying29 (show Tryz.prog.cellsOf 3 = 1 by kernel_rfl) (by decide) (fun row _ _ hr => by
  obtain ⟨x, h3, h4⟩ := Rd.int Tryz.underlying3 hr.rd
  exact ⟨x, ⟨h3, wf_b64F h4⟩, trivial⟩) h
 exact ⟨a, c, l, h1, h2, ns_rowsF h3, h4⟩
set_option maxRecDepth 100000 in
theorem rdf_u32s {W : World} {cs : List Value} {n f : Nat} (h : RdF Tryz.prog W 61 cs n f) : ∃ (a : Option Addr) (c : Nat) (l : List Int), cs = [.slice a l.length c] ∧ (l.length ≤ c ∧ c ≤ maxLen) ∧ Tj.Us W (.slice a l.length c) l ∧ l.length ≤ n := by
 obtain ⟨a, c, l, h1, h2, h3, h4, _⟩ := RdF.rowsB (R := fun _ cs (d : Int) => cs = [.int .u32 d] ∧ U32 d) (Q := fun _ => True) Tryz.underlying61 (show Tryz.prog.cellsOf 118 = 1 by kernel_rfl) (by decide) (fun row _ _ hr => by
  obtain ⟨x, h3, h4⟩ := Rd.int Tryz.underlying118 hr.rd
  exact ⟨x, ⟨h3, wf_u32F h4⟩, trivial⟩) h
 exact ⟨a, c, l, h1, h2, ns_rowsF h3, h4⟩
set_option maxRecDepth 100000 in
theorem rdf_node {W : World} {row : List Value} {n f : Nat} (hl : row.length = 3) (h : RdF Tryz.prog W 100 row n f) : ∃ d, Tj.ENR W row d := by
 have cz0 : Tryz.prog.cellsOf 3 = 1 := by kernel_rfl
 obtain ⟨_, nsc, fc, hfc, hnsc, hsumc, hrc⟩ := RdF.struct Tryz.underlying100 h
 replace hnsc : nsc.length = 3 := hnsc
 obtain ⟨c0, c1, c2, rfl⟩ : ∃ c0 c1 c2, row = [c0, c1, c2] := by
  match row, hl with
  | [y0, y1, y2], _ => exact ⟨y0, y1, y2, rfl⟩
 obtain ⟨m0, m1, m2, rfl⟩ : ∃ m0 m1 m2, nsc = [m0, m1, m2] := by
  match nsc, hnsc with
  | [y0, y1, y2], _ => exact ⟨y0, y1, y2, rfl⟩
 have r0 := hrc 0 _ _ rfl rfl
 have r1 := hrc 1 _ _ rfl rfl
 have r2 := hrc 2 _ _ rfl rfl
 simp [cz0] at r0 r1 r2
 simp only [List.sum_cons, List.sum_nil] at hsumc
 clear hrc hnsc
 obtain ⟨a, ea, wa⟩ := Rd.int Tryz.underlying3 r0.rd
 simp at ea
 subst ea
 replace wa := wf_b64F wa
 obtain ⟨b, eb, wb⟩ := Rd.int Tryz.underlying3 r1.rd
 simp at eb
 subst eb
 replace wb := wf_b64F wb
 obtain ⟨d, ed, wd⟩ := Rd.int Tryz.underlying3 r2.rd
 simp at ed
 subst ed
 replace wd := wf_b64F wd
 exact ⟨⟨a, b, d⟩, rfl, wa, wb, wd⟩
set_option maxRecDepth 100000 in
theorem rdf_exp {W : World} {cs : List Value} {n f : Nat} (h : RdF Tryz.prog W 101 cs n f) : ∃ (a : Option Addr) (c : Nat) (l : List Tj.EN), cs = [.slice a l.length c] ∧ (l.length ≤ c ∧ c ≤ maxLen) ∧ Rows W 3 Tj.ENR (.slice a l.length c) l ∧ l.length ≤ n := by
 obtain ⟨a, c, l, h1, h2, h3, h4, h5⟩ := RdF.rowsB (R := Tj.ENR) (Q := fun _ => True) Tryz.underlying101 (show Tryz.prog.cellsOf 100 = 3 by kernel_rfl) (by decide) (fun row _ hl hr => by obtain ⟨d, hd⟩ := rdf_node hl hr; exact ⟨d, hd, trivial⟩) h
 exact ⟨a, c, l, h1, h2, h3, h4⟩
set_option maxRecDepth 100000 in
theorem rdf_field {W : World} {row : List Value} {n f : Nat} (hl : row.length = 2) (h : RdF Tryz.prog W 94 row n f) : ∃ d, Hd.FieldR W row d := by
 have cz0 : Tryz.prog.cellsOf 9 = 1 := by kernel_rfl
 have cz1 : Tryz.prog.cellsOf 3 = 1 := by kernel_rfl
 obtain ⟨_, nsc, fc, hfc, hnsc, hsumc, hrc⟩ := RdF.struct Tryz.underlying94 h
 replace hnsc : nsc.length = 2 := hnsc
 obtain ⟨c0, c1, rfl⟩ : ∃ c0 c1, row = [c0, c1] := by
  match row, hl with
  | [y0, y1], _ => exact ⟨y0, y1, rfl⟩
 obtain ⟨m0, m1, rfl⟩ : ∃ m0 m1, nsc = [m0, m1] := by
  match nsc, hnsc with
  | [y0, y1], _ => exact ⟨y0, y1, rfl⟩
 have r0 := hrc 0 _ _ rfl rfl
 have r1 := hrc 1 _ _ rfl rfl
 simp [cz0, cz1] at r0 r1
 simp only [List.sum_cons, List.sum_nil] at hsumc
 clear hrc hnsc
 obtain ⟨s, es, ws⟩ := Rd.string Tryz.underlying9 r0.rd
 simp at es
 subst es
 obtain ⟨a, ea, wa⟩ := Rd.int Tryz.underlying3 r1.rd
 simp at ea
 subst ea
 replace wa := wf_b64F wa
 exact ⟨(s, a), rfl, ws, wa.1, wa.2⟩
set_option maxRecDepth 100000 in
theorem rdf_fields {W : World} {cs : List Value} {n f : Nat} (h : RdF Tryz.prog W 23 cs n f) : ∃ (a : Option Addr) (c : Nat) (l : List Hd.Fld), cs = [.slice a l.length c] ∧ (l.length ≤ c ∧ c ≤ maxLen) ∧ Rows W 2 Hd.FieldR (.slice a l.length c) l ∧ l.length ≤ n := by
 obtain ⟨a, c, l, h1, h2, h3, h4, h5⟩ := RdF.rowsB (R := Hd.FieldR) (Q := fun _ => True) Tryz.underlying23 (show Tryz.prog.cellsOf 94 = 2 by kernel_rfl) (by decide) (fun row _ hl hr => by obtain ⟨d, hd⟩ := rdf_field hl hr; exact ⟨d, hd, trivial⟩) h
 exact ⟨a, c, l, h1, h2, h3, h4⟩
set_option maxRecDepth 100000 in
theorem rdf_header {W : World} {row : List Value} {n f : Nat} (hl : row.length = 2) (h : RdF Tryz.prog W 96 row n f) : ∃ d, Hd.HdrR W row d ∧ d.2.length ≤ n := by
 have cz0 : Tryz.prog.cellsOf 9 = 1 := by kernel_rfl
 have cz1 : Tryz.prog.cellsOf 23 = 1 := by kernel_rfl
 obtain ⟨_, nsc, fc, hfc, hnsc, hsumc, hrc⟩ := RdF.struct Tryz.underlying96 h
 replace hnsc : nsc.length = 2 := hnsc
 obtain ⟨c0, c1, rfl⟩ : ∃ c0 c1, row = [c0, c1] := by
  match row, hl with
  | [y0, y1], _ => exact ⟨y0, y1, rfl⟩
 obtain ⟨m0, m1, rfl⟩ : ∃ m0 m1, nsc = [m0, m1] := by
  match nsc, hnsc with
  | [y0, y1], _ => exact ⟨y0, y1, rfl⟩
 have r0 := hrc 0 _ _ rfl rfl
 have r1 := hrc 1 _ _ rfl rfl
 simp [cz0, cz1] at r0 r1
 simp only [List.sum_cons, List.sum_nil] at hsumc
 clear hrc hnsc
 obtain ⟨s, es, ws⟩ := Rd.string Tryz.underlying9 r0.rd
 simp at es
 subst es
 obtain ⟨fa, fk, fl, efl, kfl, gfl, bfl⟩ := rdf_fields r1
 simp at efl
 subst efl
 exact ⟨(s, fl), ⟨_, rfl, ws, gfl⟩, show fl.length ≤ n by omega⟩
set_option maxRecDepth 100000 in
theorem rdf_headers {W : World} {cs : List Value} {n f : Nat} (h : RdF Tryz.prog W 22 cs n f) : ∃ (a : Option Addr) (c : Nat) (l : List Hd.Hdr), cs = [.slice a l.length c] ∧ (l.length ≤ c ∧ c ≤ maxLen) ∧ Rows W 2 Hd.HdrR (.slice a l.length c) l ∧ l.length ≤ n ∧ ∀ d ∈ l, (fun d => d.2.length ≤ n) d := by
 obtain ⟨a, c, l, h1, h2, h3, h4, h5⟩ := RdF.rowsB (R := Hd.HdrR) (Q := fun d => d.2.length ≤ n) Tryz.underlying22 (show Tryz.prog.cellsOf 96 = 2 by kernel_rfl) (by decide) (fun row _ hl hr => rdf_header hl hr) h
 exact ⟨a, c, l, h1, h2, h3, h4, h5⟩
set_option maxRecDepth 100000 in
theorem rdf_reg {W : World} {row : List Value} {n f : Nat} (hl : row.length = 3) (h : RdF Tryz.prog W 98 row n f) : ∃ d, Rg.RegR W row d := by
 have cz0 : Tryz.prog.cellsOf 9 = 1 := by kernel_rfl
 have cz1 : Tryz.prog.cellsOf 3 = 1 := by kernel_rfl
 obtain ⟨_, nsc, fc, hfc, hnsc, hsumc, hrc⟩ := RdF.struct Tryz.underlying98 h
 replace hnsc : nsc.length = 3 := hnsc
 obtain ⟨c0, c1, c2, rfl⟩ : ∃ c0 c1 c2, row = [c0, c1, c2] := by
  match row, hl with
  | [y0, y1, y2], _ => exact ⟨y0, y1, y2, rfl⟩
 obtain ⟨m0, m1, m2, rfl⟩ : ∃ m0 m1 m2, nsc = [m0, m1, m2] := by
  match nsc, hnsc with
  | [y0, y1, y2], _ => exact ⟨y0, y1, y2, rfl⟩
 have r0 := hrc 0 _ _ rfl rfl
 have r1 := hrc 1 _ _ rfl rfl
 have r2 := hrc 2 _ _ rfl rfl
 simp [cz0, cz1] at r0 r1 r2
 simp only [List.sum_cons, List.sum_nil] at hsumc
 clear hrc hnsc
 obtain ⟨s, es, ws⟩ := Rd.string Tryz.underlying9 r0.rd
 simp at es
 subst es
 obtain ⟨a, ea, wa⟩ := Rd.int Tryz.underlying3 r1.rd
 simp at ea
 subst ea
 replace wa := wf_b64F wa
 obtain ⟨b, eb, wb⟩ := Rd.int Tryz.underlying3 r2.rd
 simp at eb
 subst eb
 replace wb := wf_b64F wb
 exact ⟨⟨s, a, b⟩, rfl, ws, wa, wb⟩
set_option maxRecDepth 100000 in
theorem rdf_regs {W : World} {cs : List Value} {n f : Nat} (h : RdF Tryz.prog W 24 cs n f) : ∃ (a : Option Addr) (c : Nat) (l : List Rg.Reg), cs = [.slice a l.length c] ∧ (l.length ≤ c ∧ c ≤ maxLen) ∧ Rows W 3 Rg.RegR (.slice a l.length c) l ∧ l.length ≤ n := by
 obtain ⟨a, c, l, h1, h2, h3, h4, h5⟩ := RdF.rowsB (R := Rg.RegR) (Q := fun _ => True) Tryz.underlying24 (show Tryz.prog.cellsOf 98 = 3 by kernel_rfl) (by decide) (fun row _ hl hr => by obtain ⟨d, hd⟩ := rdf_reg hl hr; exact ⟨d, hd, trivial⟩) h
 exact ⟨a, c, l, h1, h2, h3, h4⟩
set_option maxRecDepth 100000 in
theorem rdf_stm {W : World} {row : List Value} {n f : Nat} (hl : row.length = 7) (h : RdF Tryz.prog W 105 row n f) : ∃ d, Tj.StmR W row d ∧ (d.ix.length ≤ n ∧ d.va.length ≤ n) := by
 have cz0 : Tryz.prog.cellsOf 3 = 1 := by kernel_rfl
 have cz1 : Tryz.prog.cellsOf 103 = 2 := by kernel_rfl
 have cz2 : Tryz.prog.cellsOf 101 = 1 := by kernel_rfl
 obtain ⟨_, nsc, fc, hfc, hnsc, hsumc, hrc⟩ := RdF.struct Tryz.underlying105 h
 replace hnsc : nsc.length = 6 := hnsc
 obtain ⟨c0, c1, c2, c3, c4, c5, c6, rfl⟩ : ∃ c0 c1 c2 c3 c4 c5 c6, row = [c0, c1, c2, c3, c4, c5, c6] := by
  match row, hl with
  | [y0, y1, y2, y3, y4, y5, y6], _ => exact ⟨y0, y1, y2, y3, y4, y5, y6, rfl⟩
 obtain ⟨m0, m1, m2, m3, m4, m5, rfl⟩ : ∃ m0 m1 m2 m3 m4 m5, nsc = [m0, m1, m2, m3, m4, m5] := by
  match nsc, hnsc with
  | [y0, y1, y2, y3, y4, y5], _ => exact ⟨y0, y1, y2, y3, y4, y5, rfl⟩
 have r0 := hrc 0 _ _ rfl rfl
 have r1 := hrc 1 _ _ rfl rfl
 have r2 := hrc 2 _ _ rfl rfl
 have r3 := hrc 3 _ _ rfl rfl
 have r4 := hrc 4 _ _ rfl rfl
 have r5 := hrc 5 _ _ rfl rfl
 simp [cz0, cz1, cz2] at r0 r1 r2 r3 r4 r5
 simp only [List.sum_cons, List.sum_nil] at hsumc
 clear hrc hnsc
 obtain ⟨a, ea, wa⟩ := Rd.int Tryz.underlying3 r0.rd
 simp at ea
 subst ea
 replace wa := wf_b64F wa
 obtain ⟨_, nsd, fd, hfd, hnsd, hsumd, hrd⟩ := RdF.struct Tryz.underlying103 r1
 replace hnsd : nsd.length = 2 := hnsd
 obtain ⟨o0, o1, rfl⟩ : ∃ o0 o1, nsd = [o0, o1] := by
  match nsd, hnsd with
  | [y0, y1], _ => exact ⟨y0, y1, rfl⟩
 have s0 := hrd 0 _ _ rfl rfl
 have s1 := hrd 1 _ _ rfl rfl
 have dz : Tryz.prog.cellsOf 3 = 1 := by kernel_rfl
 simp [dz] at s0 s1
 clear hrd hnsd hsumd
 obtain ⟨b, eb, wb⟩ := Rd.int Tryz.underlying3 s0.rd
 simp at eb
 subst eb
 replace wb := wf_b64F wb
 obtain ⟨d, ed, wd⟩ := Rd.int Tryz.underlying3 s1.rd
 simp at ed
 subst ed
 replace wd := wf_b64F wd
 obtain ⟨e, ee, we⟩ := Rd.int Tryz.underlying3 r2.rd
 simp at ee
 subst ee
 replace we := wf_b64F we
 obtain ⟨k, ek, wk⟩ := Rd.int Tryz.underlying3 r3.rd
 simp at ek
 subst ek
 replace wk := wf_b64F wk
 obtain ⟨ia, ik, il, eil, kil, gil, bil⟩ := rdf_exp r4
 simp at eil
 subst eil
 obtain ⟨va, vk, vl, evl, kvl, gvl, bvl⟩ := rdf_exp r5
 simp at evl
 subst evl
 exact ⟨⟨a, b, d, e, k, il, vl⟩, ⟨_, _, rfl, ⟨wa, wb, wd, we, wk⟩, gil, gvl⟩, show il.length ≤ n ∧ vl.length ≤ n by omega⟩
set_option maxRecDepth 100000 in
theorem rdf_stms {W : World} {cs : List Value} {n f : Nat} (h : RdF Tryz.prog W 90 cs n f) : ∃ (a : Option Addr) (c : Nat) (l : List Tj.Stm), cs = [.slice a l.length c] ∧ (l.length ≤ c ∧ c ≤ maxLen) ∧ Rows W 7 Tj.StmR (.slice a l.length c) l ∧ l.length ≤ n ∧ ∀ d ∈ l, (fun d => d.ix.length ≤ n ∧ d.va.length ≤ n) d := by
 obtain ⟨a, c, l, h1, h2, h3, h4, h5⟩ := RdF.rowsB (R := Tj.StmR) (Q := fun d => d.ix.length ≤ n ∧ d.va.length ≤ n) Tryz.underlying90 (show Tryz.prog.cellsOf 105 = 7 by kernel_rfl) (by decide) (fun row _ hl hr => rdf_stm hl hr) h
 exact ⟨a, c, l, h1, h2, h3, h4, h5⟩
set_option maxRecDepth 100000 in
theorem rdf_act {W : World} {row : List Value} {n f : Nat} (hl : row.length = 3) (h : RdF Tryz.prog W 92 row n f) : ∃ d, Tj.ActR W row d ∧ (d.ps.length ≤ n ∧ d.bd.length ≤ n ∧ ∀ s ∈ d.bd, s.ix.length ≤ n ∧ s.va.length ≤ n) := by
 have cz0 : Tryz.prog.cellsOf 9 = 1 := by kernel_rfl
 have cz1 : Tryz.prog.cellsOf 23 = 1 := by kernel_rfl
 have cz2 : Tryz.prog.cellsOf 90 = 1 := by kernel_rfl
 obtain ⟨_, nsc, fc, hfc, hnsc, hsumc, hrc⟩ := RdF.struct Tryz.underlying92 h
 replace hnsc : nsc.length = 3 := hnsc
 obtain ⟨c0, c1, c2, rfl⟩ : ∃ c0 c1 c2, row = [c0, c1, c2] := by
  match row, hl with
  | [y0, y1, y2], _ => exact ⟨y0, y1, y2, rfl⟩
 obtain ⟨m0, m1, m2, rfl⟩ : ∃ m0 m1 m2, nsc = [m0, m1, m2] := by
  match nsc, hnsc with
  | [y0, y1, y2], _ => exact ⟨y0, y1, y2, rfl⟩
 have r0 := hrc 0 _ _ rfl rfl
 have r1 := hrc 1 _ _ rfl rfl
 have r2 := hrc 2 _ _ rfl rfl
 simp [cz0, cz1, cz2] at r0 r1 r2
 simp only [List.sum_cons, List.sum_nil] at hsumc
 clear hrc hnsc
 obtain ⟨s, es, ws⟩ := Rd.string Tryz.underlying9 r0.rd
 simp at es
 subst es
 obtain ⟨fa, fk, fl, efl, kfl, gfl, bfl⟩ := rdf_fields r1
 simp at efl
 subst efl
 obtain ⟨ba, bk, bl, ebl, kbl, gbl, bbl, qbl⟩ := rdf_stms r2
 simp at ebl
 subst ebl
 exact ⟨⟨s, fl, bl⟩, ⟨_, _, rfl, ws, gfl, gbl⟩, show fl.length ≤ n by omega, show bl.length ≤ n by omega, fun x hx => ⟨by have := (qbl x hx).1; omega, by have := (qbl x hx).2; omega⟩⟩
set_option maxRecDepth 100000 in
theorem rdf_acts {W : World} {cs : List Value} {n f : Nat} (h : RdF Tryz.prog W 25 cs n f) : ∃ (a : Option Addr) (c : Nat) (l : List Tj.Act), cs = [.slice a l.length c] ∧ (l.length ≤ c ∧ c ≤ maxLen) ∧ Rows W 3 Tj.ActR (.slice a l.length c) l ∧ l.length ≤ n ∧ ∀ d ∈ l, (fun d => d.ps.length ≤ n ∧ d.bd.length ≤ n ∧ ∀ s ∈ d.bd, s.ix.length ≤ n ∧ s.va.length ≤ n) d := by
 obtain ⟨a, c, l, h1, h2, h3, h4, h5⟩ := RdF.rowsB (R := Tj.ActR) (Q := fun d => d.ps.length ≤ n ∧ d.bd.length ≤ n ∧ ∀ s ∈ d.bd, s.ix.length ≤ n ∧ s.va.length ≤ n) Tryz.underlying25 (show Tryz.prog.cellsOf 92 = 3 by kernel_rfl) (by decide) (fun row _ hl hr => rdf_act hl hr) h
 exact ⟨a, c, l, h1, h2, h3, h4, h5⟩
set_option maxRecDepth 100000 in
theorem rdf_key {W : World} {row : List Value} {n f : Nat} (hl : row.length = 3) (h : RdF Tryz.prog W 186 row n f) : ∃ d, Tj.KeyR W row d := by
 have cz0 : Tryz.prog.cellsOf 103 = 2 := by kernel_rfl
 have cz1 : Tryz.prog.cellsOf 3 = 1 := by kernel_rfl
 obtain ⟨_, nsc, fc, hfc, hnsc, hsumc, hrc⟩ := RdF.struct Tryz.underlying186 h
 replace hnsc : nsc.length = 2 := hnsc
 obtain ⟨c0, c1, c2, rfl⟩ : ∃ c0 c1 c2, row = [c0, c1, c2] := by
  match row, hl with
  | [y0, y1, y2], _ => exact ⟨y0, y1, y2, rfl⟩
 obtain ⟨m0, m1, rfl⟩ : ∃ m0 m1, nsc = [m0, m1] := by
  match nsc, hnsc with
  | [y0, y1], _ => exact ⟨y0, y1, rfl⟩
 have r0 := hrc 0 _ _ rfl rfl
 have r1 := hrc 1 _ _ rfl rfl
 simp [cz0, cz1] at r0 r1
 simp only [List.sum_cons, List.sum_nil] at hsumc
 clear hrc hnsc
 obtain ⟨_, nsd, fd, hfd, hnsd, hsumd, hrd⟩ := RdF.struct Tryz.underlying103 r0
 replace hnsd : nsd.length = 2 := hnsd
 obtain ⟨o0, o1, rfl⟩ : ∃ o0 o1, nsd = [o0, o1] := by
  match nsd, hnsd with
  | [y0, y1], _ => exact ⟨y0, y1, rfl⟩
 have s0 := hrd 0 _ _ rfl rfl
 have s1 := hrd 1 _ _ rfl rfl
 have dz : Tryz.prog.cellsOf 3 = 1 := by kernel_rfl
 simp [dz] at s0 s1
 clear hrd hnsd hsumd
 obtain ⟨a, ea, wa⟩ := Rd.int Tryz.underlying3 s0.rd
 simp at ea
 subst ea
 replace wa := wf_b64F wa
 obtain ⟨b, eb, wb⟩ := Rd.int Tryz.underlying3 s1.rd
 simp at eb
 subst eb
 replace wb := wf_b64F wb
 obtain ⟨d, ed, wd⟩ := Rd.int Tryz.underlying3 r1.rd
 simp at ed
 subst ed
 replace wd := wf_b64F wd
 exact ⟨⟨a, b, d⟩, rfl, wa, wb, wd⟩
set_option maxRecDepth 100000 in
theorem rdf_keys {W : World} {cs : List Value} {n f : Nat} (h : RdF Tryz.prog W 106 cs n f) : ∃ (a : Option Addr) (c : Nat) (l : List Tj.Key), cs = [.slice a l.length c] ∧ (l.length ≤ c ∧ c ≤ maxLen) ∧ Rows W 3 Tj.KeyR (.slice a l.length c) l ∧ l.length ≤ n := by
 obtain ⟨a, c, l, h1, h2, h3, h4, h5⟩ := RdF.rowsB (R := Tj.KeyR) (Q := fun _ => True) Tryz.underlying106 (show Tryz.prog.cellsOf 186 = 3 by kernel_rfl) (by decide) (fun row _ hl hr => by obtain ⟨d, hd⟩ := rdf_key hl hr; exact ⟨d, hd, trivial⟩) h
 exact ⟨a, c, l, h1, h2, h3, h4⟩
set_option maxRecDepth 100000 in
theorem rdf_tab {W : World} {row : List Value} {n f : Nat} (hl : row.length = 6) (h : RdF Tryz.prog W 108 row n f) : ∃ d, Tj.TabR W row d ∧ (d.ks.length ≤ n ∧ d.ac.length ≤ n ∧ d.df.ar.length ≤ n) := by
 have cz0 : Tryz.prog.cellsOf 9 = 1 := by kernel_rfl
 have cz1 : Tryz.prog.cellsOf 106 = 1 := by kernel_rfl
 have cz2 : Tryz.prog.cellsOf 29 = 1 := by kernel_rfl
 have cz3 : Tryz.prog.cellsOf 63 = 2 := by kernel_rfl
 have cz4 : Tryz.prog.cellsOf 3 = 1 := by kernel_rfl
 obtain ⟨_, nsc, fc, hfc, hnsc, hsumc, hrc⟩ := RdF.struct Tryz.underlying108 h
 replace hnsc : nsc.length = 5 := hnsc
 obtain ⟨c0, c1, c2, c3, c4, c5, rfl⟩ : ∃ c0 c1 c2 c3 c4 c5, row = [c0, c1, c2, c3, c4, c5] := by
  match row, hl with
  | [y0, y1, y2, y3, y4, y5], _ => exact ⟨y0, y1, y2, y3, y4, y5, rfl⟩
 obtain ⟨m0, m1, m2, m3, m4, rfl⟩ : ∃ m0 m1 m2 m3 m4, nsc = [m0, m1, m2, m3, m4] := by
  match nsc, hnsc with
  | [y0, y1, y2, y3, y4], _ => exact ⟨y0, y1, y2, y3, y4, rfl⟩
 have r0 := hrc 0 _ _ rfl rfl
 have r1 := hrc 1 _ _ rfl rfl
 have r2 := hrc 2 _ _ rfl rfl
 have r3 := hrc 3 _ _ rfl rfl
 have r4 := hrc 4 _ _ rfl rfl
 simp [cz0, cz1, cz2, cz3, cz4] at r0 r1 r2 r3 r4
 simp only [List.sum_cons, List.sum_nil] at hsumc
 clear hrc hnsc
 obtain ⟨s, es, ws⟩ := Rd.string Tryz.underlying9 r0.rd
 simp at es
 subst es
 obtain ⟨fa, fk, fl, efl, kfl, gfl, bfl⟩ := rdf_keys r1
 simp at efl
 subst efl
 obtain ⟨ia, ik, il, eil, kil, gil, bil⟩ := rdf_ints r2
 simp at eil
 subst eil
 obtain ⟨_, nqp, fqp, hfqp, hnqp, hsqp, hrqp⟩ := RdF.struct Tryz.underlying63 r3
 replace hnqp : nqp.length = 2 := hnqp
 obtain ⟨up0, up1, rfl⟩ : ∃ u0 u1, nqp = [u0, u1] := by
  match nqp, hnqp with
  | [y0, y1], _ => exact ⟨y0, y1, rfl⟩
 have tp0 := hrqp 0 _ _ rfl rfl
 have tp1 := hrqp 1 _ _ rfl rfl
 have dzp : Tryz.prog.cellsOf 3 = 1 := by kernel_rfl
 have dyp : Tryz.prog.cellsOf 61 = 1 := by kernel_rfl
 simp [dzp, dyp] at tp0 tp1
 simp only [List.sum_cons, List.sum_nil] at hsqp
 clear hrqp hnqp
 obtain ⟨a, ea, wa⟩ := Rd.int Tryz.underlying3 tp0.rd
 simp at ea
 subst ea
 replace wa := wf_b64F wa
 obtain ⟨ua, uk, ul, eul, kul, gul, bul⟩ := rdf_u32s tp1
 simp at eul
 subst eul
 obtain ⟨b, eb, wb⟩ := Rd.int Tryz.underlying3 r4.rd
 simp at eb
 subst eb
 replace wb := wf_b64F wb
 exact ⟨⟨s, fl, il, ⟨a, ul⟩, b⟩, ⟨_, _, _, rfl, ws, ⟨wa, wb⟩, gfl, gil, gul⟩, show fl.length ≤ n ∧ il.length ≤ n ∧ ul.length ≤ n by omega⟩
set_option maxRecDepth 100000 in
theorem rdf_tabs {W : World} {cs : List Value} {n f : Nat} (h : RdF Tryz.prog W 26 cs n f) : ∃ (a : Option Addr) (c : Nat) (l : List Tj.Tab), cs = [.slice a l.length c] ∧ (l.length ≤ c ∧ c ≤ maxLen) ∧ Rows W 6 Tj.TabR (.slice a l.length c) l ∧ l.length ≤ n ∧ ∀ d ∈ l, (fun d => d.ks.length ≤ n ∧ d.ac.length ≤ n ∧ d.df.ar.length ≤ n) d := by
 obtain ⟨a, c, l, h1, h2, h3, h4, h5⟩ := RdF.rowsB (R := Tj.TabR) (Q := fun d => d.ks.length ≤ n ∧ d.ac.length ≤ n ∧ d.df.ar.length ≤ n) Tryz.underlying26 (show Tryz.prog.cellsOf 108 = 6 by kernel_rfl) (by decide) (fun row _ hl hr => rdf_tab hl hr) h
 exact ⟨a, c, l, h1, h2, h3, h4, h5⟩
set_option maxRecDepth 100000 in
theorem rdf_case {W : World} {row : List Value} {n f : Nat} (hl : row.length = 3) (h : RdF Tryz.prog W 190 row n f) : ∃ d, Ps.CaseR W row d := by
 have cz0 : Tryz.prog.cellsOf 118 = 1 := by kernel_rfl
 have cz1 : Tryz.prog.cellsOf 3 = 1 := by kernel_rfl
 obtain ⟨_, nsc, fc, hfc, hnsc, hsumc, hrc⟩ := RdF.struct Tryz.underlying190 h
 replace hnsc : nsc.length = 3 := hnsc
 obtain ⟨c0, c1, c2, rfl⟩ : ∃ c0 c1 c2, row = [c0, c1, c2] := by
  match row, hl with
  | [y0, y1, y2], _ => exact ⟨y0, y1, y2, rfl⟩
 obtain ⟨m0, m1, m2, rfl⟩ : ∃ m0 m1 m2, nsc = [m0, m1, m2] := by
  match nsc, hnsc with
  | [y0, y1, y2], _ => exact ⟨y0, y1, y2, rfl⟩
 have r0 := hrc 0 _ _ rfl rfl
 have r1 := hrc 1 _ _ rfl rfl
 have r2 := hrc 2 _ _ rfl rfl
 simp [cz0, cz1] at r0 r1 r2
 simp only [List.sum_cons, List.sum_nil] at hsumc
 clear hrc hnsc
 obtain ⟨a, ea, wa⟩ := Rd.int Tryz.underlying118 r0.rd
 simp at ea
 subst ea
 replace wa := wf_u32F wa
 obtain ⟨b, eb, wb⟩ := Rd.int Tryz.underlying118 r1.rd
 simp at eb
 subst eb
 replace wb := wf_u32F wb
 obtain ⟨d, ed, wd⟩ := Rd.int Tryz.underlying3 r2.rd
 simp at ed
 subst ed
 replace wd := wf_b64F wd
 exact ⟨⟨a, b, d⟩, rfl, wa, wb⟩
set_option maxRecDepth 100000 in
theorem rdf_cases {W : World} {cs : List Value} {n f : Nat} (h : RdF Tryz.prog W 109 cs n f) : ∃ (a : Option Addr) (c : Nat) (l : List Ps.Case), cs = [.slice a l.length c] ∧ (l.length ≤ c ∧ c ≤ maxLen) ∧ Rows W 3 Ps.CaseR (.slice a l.length c) l ∧ l.length ≤ n := by
 obtain ⟨a, c, l, h1, h2, h3, h4, h5⟩ := RdF.rowsB (R := Ps.CaseR) (Q := fun _ => True) Tryz.underlying109 (show Tryz.prog.cellsOf 190 = 3 by kernel_rfl) (by decide) (fun row _ hl hr => by obtain ⟨d, hd⟩ := rdf_case hl hr; exact ⟨d, hd, trivial⟩) h
 exact ⟨a, c, l, h1, h2, h3, h4⟩
set_option maxRecDepth 100000 in
theorem rdf_state {W : World} {row : List Value} {n f : Nat} (hl : row.length = 7) (h : RdF Tryz.prog W 111 row n f) : ∃ d, Ps.StR W row d ∧ (d.ex.length ≤ n ∧ d.cs.length ≤ n) := by
 have cz0 : Tryz.prog.cellsOf 9 = 1 := by kernel_rfl
 have cz1 : Tryz.prog.cellsOf 29 = 1 := by kernel_rfl
 have cz2 : Tryz.prog.cellsOf 4 = 1 := by kernel_rfl
 have cz3 : Tryz.prog.cellsOf 103 = 2 := by kernel_rfl
 have cz4 : Tryz.prog.cellsOf 109 = 1 := by kernel_rfl
 have cz5 : Tryz.prog.cellsOf 3 = 1 := by kernel_rfl
 obtain ⟨_, nsc, fc, hfc, hnsc, hsumc, hrc⟩ := RdF.struct Tryz.underlying111 h
 replace hnsc : nsc.length = 6 := hnsc
 obtain ⟨c0, c1, c2, c3, c4, c5, c6, rfl⟩ : ∃ c0 c1 c2 c3 c4 c5 c6, row = [c0, c1, c2, c3, c4, c5, c6] := by
  match row, hl with
  | [y0, y1, y2, y3, y4, y5, y6], _ => exact ⟨y0, y1, y2, y3, y4, y5, y6, rfl⟩
 obtain ⟨m0, m1, m2, m3, m4, m5, rfl⟩ : ∃ m0 m1 m2 m3 m4 m5, nsc = [m0, m1, m2, m3, m4, m5] := by
  match nsc, hnsc with
  | [y0, y1, y2, y3, y4, y5], _ => exact ⟨y0, y1, y2, y3, y4, y5, rfl⟩
 have r0 := hrc 0 _ _ rfl rfl
 have r1 := hrc 1 _ _ rfl rfl
 have r2 := hrc 2 _ _ rfl rfl
 have r3 := hrc 3 _ _ rfl rfl
 have r4 := hrc 4 _ _ rfl rfl
 have r5 := hrc 5 _ _ rfl rfl
 simp [cz0, cz1, cz2, cz3, cz4, cz5] at r0 r1 r2 r3 r4 r5
 simp only [List.sum_cons, List.sum_nil] at hsumc
 clear hrc hnsc
 obtain ⟨s, es, ws⟩ := Rd.string Tryz.underlying9 r0.rd
 simp at es
 subst es
 obtain ⟨ia, ik, il, eil, kil, gil, bil⟩ := rdf_ints r1
 simp at eil
 subst eil
 obtain ⟨x, ex⟩ := Rd.bool Tryz.underlying4 r2.rd
 simp at ex
 subst ex
 obtain ⟨_, nsd, fd, hfd, hnsd, hsumd, hrd⟩ := RdF.struct Tryz.underlying103 r3
 replace hnsd : nsd.length = 2 := hnsd
 obtain ⟨o0, o1, rfl⟩ : ∃ o0 o1, nsd = [o0, o1] := by
  match nsd, hnsd with
  | [y0, y1], _ => exact ⟨y0, y1, rfl⟩
 have s0 := hrd 0 _ _ rfl rfl
 have s1 := hrd 1 _ _ rfl rfl
 have dz : Tryz.prog.cellsOf 3 = 1 := by kernel_rfl
 simp [dz] at s0 s1
 clear hrd hnsd hsumd
 obtain ⟨a, ea, wa⟩ := Rd.int Tryz.underlying3 s0.rd
 simp at ea
 subst ea
 replace wa := wf_b64F wa
 obtain ⟨b, eb, wb⟩ := Rd.int Tryz.underlying3 s1.rd
 simp at eb
 subst eb
 replace wb := wf_b64F wb
 obtain ⟨ca, ck, cl, ecl, kcl, gcl, bcl⟩ := rdf_cases r4
 simp at ecl
 subst ecl
 obtain ⟨d, ed, wd⟩ := Rd.int Tryz.underlying3 r5.rd
 simp at ed
 subst ed
 replace wd := wf_b64F wd
 exact ⟨⟨s, il, x, a, b, cl, d⟩, ⟨_, _, rfl, ws, gil.1, gcl⟩, show il.length ≤ n ∧ cl.length ≤ n by omega⟩
set_option maxRecDepth 100000 in
theorem rdf_states {W : World} {cs : List Value} {n f : Nat} (h : RdF Tryz.prog W 27 cs n f) : ∃ (a : Option Addr) (c : Nat) (l : List Ps.St), cs = [.slice a l.length c] ∧ (l.length ≤ c ∧ c ≤ maxLen) ∧ Rows W 7 Ps.StR (.slice a l.length c) l ∧ l.length ≤ n ∧ ∀ d ∈ l, (fun d => d.ex.length ≤ n ∧ d.cs.length ≤ n) d := by
 obtain ⟨a, c, l, h1, h2, h3, h4, h5⟩ := RdF.rowsB (R := Ps.StR) (Q := fun d => d.ex.length ≤ n ∧ d.cs.length ≤ n) Tryz.underlying27 (show Tryz.prog.cellsOf 111 = 7 by kernel_rfl) (by decide) (fun row _ hl hr => rdf_state hl hr) h
 exact ⟨a, c, l, h1, h2, h3, h4, h5⟩
theorem Tj.ctl_mono : ∀ {n : Nat} {w : World} {v : Value} {l : List Tj.CN} {d m : Nat}, Tj.Ctl n w v l d m → Tj.Ctl (n + 1) w v l d m
 | 0, _, _, _, _, _, h => h.elim
 | n + 1, w, v, l, d, m, h => by
  rw [Tj.ctl_succ] at h ⊢
  obtain ⟨ns, h1, h2⟩ := h
  refine ⟨ns, ?_, h2⟩
  rcases h1 with h1 | ⟨ad, c, g1, g2, g3, g4, g5⟩
  ·exact .inl h1
  ·exact .inr ⟨ad, c, g1, g2, g3, g4, fun i x hi => by
    obtain ⟨cs, k1, ⟨cv, tv, ev, q1, q2, q3, q4, q5⟩, k3⟩ := g5 i x hi
    exact ⟨cs, k1, ⟨cv, tv, ev, q1, q2, q3, Tj.ctl_mono q4, Tj.ctl_mono q5⟩, k3⟩⟩
theorem Tj.ctl_le {n k : Nat} {w : World} {v : Value} {l : List Tj.CN} {d m : Nat} (h : Tj.Ctl n w v l d m) (hk : n ≤ k) : Tj.Ctl k w v l d m := by
 induction k with
 | zero => obtain rfl : n = 0 := by omega
           exact h
 | succ k ih =>
  rcases Nat.lt_or_ge k n with h1 | h1
  ·obtain rfl : n = k + 1 := by omega
   exact h
  ·exact Tj.ctl_mono (ih h1)
theorem flat_len_le : ∀ (xs : List Tj.NT) (ms : List Nat), ms.length = xs.length → (∀ (i : Nat) (x : Tj.NT) (m : Nat), xs[i]? = some x → ms[i]? = some m → x.all.length ≤ m) → (Tj.flat xs).length ≤ ms.sum
 | [], ms, _, _ => by simp [Tj.flat]
 | x :: xs, [], h, _ => by simp at h
 | x :: xs, m :: ms, h, hq => by
  have h1 := hq 0 x m rfl rfl
  have h2 := flat_len_le xs ms (by simpa using h) (fun i y k hy hk => hq (i + 1) y k (by simpa using hy) (by simpa using hk))
  show ((x :: xs).flatMap Tj.NT.all).length ≤ _
  rw [List.flatMap_cons, List.length_append, List.sum_cons]
  have h3 : (xs.flatMap Tj.NT.all).length ≤ ms.sum := h2
  omega
set_option maxRecDepth 100000 in
theorem rdf_ctl {W : World} : ∀ (f : Nat) {cs : List Value} {n : Nat}, RdF Tryz.prog W 28 cs n f → ∃ (a : Option Addr) (k c : Nat) (l : List Tj.CN) (d m : Nat), cs = [.slice a k c] ∧ Tj.Ctl (f + 1) W (.slice a k c) l d m ∧ l.length + 1 ≤ n ∧ ∀ x ∈ l, x.c.length ≤ n := by
 intro f
 induction f using Nat.strongRecOn with
 | _ f ih =>
  intro cs n h
  obtain ⟨a, c, ds, ns, h1, _, h3, h4, h5, h6, h7⟩ := RdF.rows (R := Tj.NodeR f) (Q := fun x m => x.all.length ≤ m ∧ ∀ y ∈ x.all, y.c.length ≤ m) Tryz.underlying28 (show Tryz.prog.cellsOf 113 = 5 by kernel_rfl) (by decide) (fun row n f' hl hf _ h => by
   have cz0 : Tryz.prog.cellsOf 3 = 1 := by kernel_rfl
   have cz1 : Tryz.prog.cellsOf 101 = 1 := by kernel_rfl
   have cz2 : Tryz.prog.cellsOf 28 = 1 := by kernel_rfl
   obtain ⟨_, nsc, fc, hfc, hnsc, hsumc, hrc⟩ := RdF.struct Tryz.underlying113 h
   replace hnsc : nsc.length = 5 := hnsc
   obtain ⟨c0, c1, c2, c3, c4, rfl⟩ : ∃ c0 c1 c2 c3 c4, row = [c0, c1, c2, c3, c4] := by
    match row, hl with
    | [y0, y1, y2, y3, y4], _ => exact ⟨y0, y1, y2, y3, y4, rfl⟩
   obtain ⟨m0, m1, m2, m3, m4, rfl⟩ : ∃ m0 m1 m2 m3 m4, nsc = [m0, m1, m2, m3, m4] := by
    match nsc, hnsc with
    | [y0, y1, y2, y3, y4], _ => exact ⟨y0, y1, y2, y3, y4, rfl⟩
   have r0 := hrc 0 _ _ rfl rfl
   have r1 := hrc 1 _ _ rfl rfl
   have r2 := hrc 2 _ _ rfl rfl
   have r3 := hrc 3 _ _ rfl rfl
   have r4 := hrc 4 _ _ rfl rfl
   simp [cz0, cz1, cz2] at r0 r1 r2 r3 r4
   simp only [List.sum_cons, List.sum_nil] at hsumc
   clear hrc hnsc
   obtain ⟨a, ea, wa⟩ := Rd.int Tryz.underlying3 r0.rd
   simp at ea
   subst ea
   replace wa := wf_b64F wa
   obtain ⟨b, eb, wb⟩ := Rd.int Tryz.underlying3 r1.rd
   simp at eb
   subst eb
   replace wb := wf_b64F wb
   obtain ⟨xa, xk, xl, exl, kxl, gxl, bxl⟩ := rdf_exp r2
   simp at exl
   subst exl
   obtain ⟨ta, tk, tc, tl, td, tm, e3, g3, b3, q3⟩ := ih fc (by omega) r3
   obtain ⟨ea, ek, ec, el, ed, em, e4, g4, b4, q4⟩ := ih fc (by omega) r4
   simp at e3 e4
   subst e3 e4
   refine ⟨⟨⟨a, b, xl, tm, em⟩, tl, td, el, ed⟩, ⟨_, _, _, rfl, ⟨wa, wb⟩, gxl, Tj.ctl_le g3 (by omega), Tj.ctl_le g4 (by omega)⟩, ?_, ?_⟩
   ·show (_ :: (tl ++ el)).length ≤ n
    rw [List.length_cons, List.length_append]; omega
   ·intro y hy
    rcases List.mem_cons.1 hy with rfl | hy
    ·show xl.length ≤ n
     omega
    ·rcases List.mem_append.1 hy with hy | hy
     ·have := q3 y hy; omega
     ·have := q4 y hy; omega) h
  refine ⟨a, ds.length, c, Tj.flat ds, Tj.deep ds, ds.length, h1, Tj.ctl_succ.2 ⟨ds, h3, rfl, rfl, rfl⟩, ?_, ?_⟩
  ·have := flat_len_le ds ns h4 (fun i x m hx hm => (h7 i x m hx hm).1); omega
  ·intro y hy
   obtain ⟨x, hx, hy⟩ := List.mem_flatMap.1 hy
   obtain ⟨i, hi⟩ := List.getElem?_of_mem hx
   have hlt := (List.getElem?_eq_some_iff.1 hi).1
   have hni : ns[i]? = some (ns[i]'(by omega)) := gE (by omega)
   have h8 := (h7 i x _ hi hni).2 y hy
   have h9 := sum_mem (List.mem_of_getElem? hni)
   omega
set_option maxRecDepth 100000 in
theorem rdf_prog {W : World} {row : List Value} {n f : Nat} (hl : row.length = 9) (h : RdF Tryz.prog W 31 row n f) (hn : n ≤ 1048576) : ∃ (p : Pg.PV) (F : Tj.FP), row = [p.c0, p.c1, p.c2, p.c3, p.c4, p.c5, p.c6, p.c7, p.c8] ∧ Tj.IsG W p F ∧ Tj.Sz F := by
 have cz0 : Tryz.prog.cellsOf 9 = 1 := by kernel_rfl
 have cz1 : Tryz.prog.cellsOf 22 = 1 := by kernel_rfl
 have cz2 : Tryz.prog.cellsOf 23 = 1 := by kernel_rfl
 have cz3 : Tryz.prog.cellsOf 24 = 1 := by kernel_rfl
 have cz4 : Tryz.prog.cellsOf 25 = 1 := by kernel_rfl
 have cz5 : Tryz.prog.cellsOf 26 = 1 := by kernel_rfl
 have cz6 : Tryz.prog.cellsOf 27 = 1 := by kernel_rfl
 have cz7 : Tryz.prog.cellsOf 28 = 1 := by kernel_rfl
 have cz8 : Tryz.prog.cellsOf 29 = 1 := by kernel_rfl
 obtain ⟨_, nsc, fc, hfc, hnsc, hsumc, hrc⟩ := RdF.struct Tryz.underlying31 h
 replace hnsc : nsc.length = 9 := hnsc
 obtain ⟨c0, c1, c2, c3, c4, c5, c6, c7, c8, rfl⟩ : ∃ c0 c1 c2 c3 c4 c5 c6 c7 c8, row = [c0, c1, c2, c3, c4, c5, c6, c7, c8] := by
  match row, hl with
  | [y0, y1, y2, y3, y4, y5, y6, y7, y8], _ => exact ⟨y0, y1, y2, y3, y4, y5, y6, y7, y8, rfl⟩
 obtain ⟨m0, m1, m2, m3, m4, m5, m6, m7, m8, rfl⟩ : ∃ m0 m1 m2 m3 m4 m5 m6 m7 m8, nsc = [m0, m1, m2, m3, m4, m5, m6, m7, m8] := by
  match nsc, hnsc with
  | [y0, y1, y2, y3, y4, y5, y6, y7, y8], _ => exact ⟨y0, y1, y2, y3, y4, y5, y6, y7, y8, rfl⟩
 have r0 := hrc 0 _ _ rfl rfl
 have r1 := hrc 1 _ _ rfl rfl
 have r2 := hrc 2 _ _ rfl rfl
 have r3 := hrc 3 _ _ rfl rfl
 have r4 := hrc 4 _ _ rfl rfl
 have r5 := hrc 5 _ _ rfl rfl
 have r6 := hrc 6 _ _ rfl rfl
 have r7 := hrc 7 _ _ rfl rfl
 have r8 := hrc 8 _ _ rfl rfl
 simp [cz0, cz1, cz2, cz3, cz4, cz5, cz6, cz7, cz8] at r0 r1 r2 r3 r4 r5 r6 r7 r8
 simp only [List.sum_cons, List.sum_nil] at hsumc
 clear hrc hnsc
 obtain ⟨s, es, ws⟩ := Rd.string Tryz.underlying9 r0.rd
 obtain ⟨a1, k1, hs, e1, q1, g1, b1, z1⟩ := rdf_headers r1
 obtain ⟨a2, k2, md, e2, q2, g2, b2⟩ := rdf_fields r2
 obtain ⟨a3, k3, rs, e3, q3, g3, b3⟩ := rdf_regs r3
 obtain ⟨a4, k4, ac, e4, q4, g4, b4, z4⟩ := rdf_acts r4
 obtain ⟨a5, k5, ts, e5, q5, g5, b5, z5⟩ := rdf_tabs r5
 obtain ⟨a6, k6, ss, e6, q6, g6, b6, z6⟩ := rdf_states r6
 obtain ⟨a7, n7, k7, ct, nd, nm, e7, g7, b7, z7⟩ := rdf_ctl _ r7
 obtain ⟨a8, k8, dp, e8, q8, g8, b8⟩ := rdf_ints r8
 simp at es e1 e2 e3 e4 e5 e6 e7 e8
 subst es e1 e2 e3 e4 e5 e6 e7 e8
 refine ⟨⟨_, _, _, _, _, _, _, _, _⟩, ⟨s, ⟨hs, md, dp⟩, rs, ac, ts, ss, ct, nd⟩, rfl, ⟨⟨⟨rfl, ws⟩, ⟨⟨⟨s, rfl⟩, g1, g2, ⟨_, _, _, rfl⟩, ⟨_, _, _, rfl⟩, ⟨_, _, _, rfl⟩, ⟨_, _, _, rfl⟩, ⟨_, _, _, rfl⟩, g8.1⟩, g6⟩, g3, g4, g5, ⟨_, _, g7⟩, g8.2⟩, ?_, ⟨_, _, _, rfl, q8.1, by have := q8.2; unfold maxLen at this; omega⟩⟩, ?_⟩
 ·show ct.length ≤ 1048576
  omega
 ·refine ⟨show hs.length ≤ _ by omega, fun x hx => by have := z1 x hx; omega, show md.length ≤ _ by omega, show rs.length ≤ _ by omega, show ac.length ≤ _ by omega, fun x hx => ?_, show ts.length ≤ _ by omega, fun x hx => ?_, show ss.length ≤ _ by omega, fun x hx => ?_, show ct.length ≤ _ by omega, fun x hx => by have := z7 x hx; omega, show dp.length ≤ _ by omega⟩
  ·obtain ⟨h1, h2, h3⟩ := z4 x hx
   exact ⟨by omega, by omega, fun y hy => by have := h3 y hy; omega⟩
  ·have := z5 x hx; omega
  ·have := z6 x hx; omega
set_option maxRecDepth 100000 in
theorem rdf_km {W : World} {row : List Value} {n f : Nat} (hl : row.length = 2) (h : RdF Tryz.prog W 209 row n f) : ∃ d, Tj.KMR W row d := by
 have cz0 : Tryz.prog.cellsOf 118 = 1 := by kernel_rfl
 obtain ⟨_, nsc, fc, hfc, hnsc, hsumc, hrc⟩ := RdF.struct Tryz.underlying209 h
 replace hnsc : nsc.length = 2 := hnsc
 obtain ⟨c0, c1, rfl⟩ : ∃ c0 c1, row = [c0, c1] := by
  match row, hl with
  | [y0, y1], _ => exact ⟨y0, y1, rfl⟩
 obtain ⟨m0, m1, rfl⟩ : ∃ m0 m1, nsc = [m0, m1] := by
  match nsc, hnsc with
  | [y0, y1], _ => exact ⟨y0, y1, rfl⟩
 have r0 := hrc 0 _ _ rfl rfl
 have r1 := hrc 1 _ _ rfl rfl
 simp [cz0] at r0 r1
 simp only [List.sum_cons, List.sum_nil] at hsumc
 clear hrc hnsc
 obtain ⟨a, ea, wa⟩ := Rd.int Tryz.underlying118 r0.rd
 simp at ea
 subst ea
 replace wa := wf_u32F wa
 obtain ⟨b, eb, wb⟩ := Rd.int Tryz.underlying118 r1.rd
 simp at eb
 subst eb
 replace wb := wf_u32F wb
 exact ⟨⟨a, b⟩, rfl, wa, wb⟩
set_option maxRecDepth 100000 in
theorem rdf_kms {W : World} {cs : List Value} {n f : Nat} (h : RdF Tryz.prog W 60 cs n f) : ∃ (a : Option Addr) (c : Nat) (l : List Tj.KM), cs = [.slice a l.length c] ∧ (l.length ≤ c ∧ c ≤ maxLen) ∧ Rows W 2 Tj.KMR (.slice a l.length c) l ∧ l.length ≤ n := by
 obtain ⟨a, c, l, h1, h2, h3, h4, h5⟩ := RdF.rowsB (R := Tj.KMR) (Q := fun _ => True) Tryz.underlying60 (show Tryz.prog.cellsOf 209 = 2 by kernel_rfl) (by decide) (fun row _ hl hr => by obtain ⟨d, hd⟩ := rdf_km hl hr; exact ⟨d, hd, trivial⟩) h
 exact ⟨a, c, l, h1, h2, h3, h4⟩
set_option maxRecDepth 100000 in
theorem rdf_op {W : World} {row : List Value} {n f : Nat} (hl : row.length = 9) (h : RdF Tryz.prog W 67 row n f) : ∃ d, Tj.TOpR W row d := by
 have cz0 : Tryz.prog.cellsOf 3 = 1 := by kernel_rfl
 have cz1 : Tryz.prog.cellsOf 65 = 4 := by kernel_rfl
 have cz2 : Tryz.prog.cellsOf 63 = 2 := by kernel_rfl
 obtain ⟨_, nsc, fc, hfc, hnsc, hsumc, hrc⟩ := RdF.struct Tryz.underlying67 h
 replace hnsc : nsc.length = 5 := hnsc
 obtain ⟨c0, c1, c2, c3, c4, c5, c6, c7, c8, rfl⟩ : ∃ c0 c1 c2 c3 c4 c5 c6 c7 c8, row = [c0, c1, c2, c3, c4, c5, c6, c7, c8] := by
  match row, hl with
  | [y0, y1, y2, y3, y4, y5, y6, y7, y8], _ => exact ⟨y0, y1, y2, y3, y4, y5, y6, y7, y8, rfl⟩
 obtain ⟨m0, m1, m2, m3, m4, rfl⟩ : ∃ m0 m1 m2 m3 m4, nsc = [m0, m1, m2, m3, m4] := by
  match nsc, hnsc with
  | [y0, y1, y2, y3, y4], _ => exact ⟨y0, y1, y2, y3, y4, rfl⟩
 have r0 := hrc 0 _ _ rfl rfl
 have r1 := hrc 1 _ _ rfl rfl
 have r2 := hrc 2 _ _ rfl rfl
 have r3 := hrc 3 _ _ rfl rfl
 have r4 := hrc 4 _ _ rfl rfl
 simp [cz0, cz1, cz2] at r0 r1 r2 r3 r4
 simp only [List.sum_cons, List.sum_nil] at hsumc
 clear hrc hnsc
 obtain ⟨a, ea, wa⟩ := Rd.int Tryz.underlying3 r0.rd
 simp at ea
 subst ea
 replace wa := wf_b64F wa
 obtain ⟨b, eb, wb⟩ := Rd.int Tryz.underlying3 r1.rd
 simp at eb
 subst eb
 replace wb := wf_b64F wb
 obtain ⟨d, ed, wd⟩ := Rd.int Tryz.underlying3 r2.rd
 simp at ed
 subst ed
 replace wd := wf_b64F wd
 obtain ⟨_, ne, fe, hfe, hne, hse, hre⟩ := RdF.struct Tryz.underlying65 r3
 replace hne : ne.length = 3 := hne
 obtain ⟨v0, v1, v2, rfl⟩ : ∃ v0 v1 v2, ne = [v0, v1, v2] := by
  match ne, hne with
  | [y0, y1, y2], _ => exact ⟨y0, y1, y2, rfl⟩
 have x0 := hre 0 _ _ rfl rfl
 have x1 := hre 1 _ _ rfl rfl
 have x2 := hre 2 _ _ rfl rfl
 have ey : Tryz.prog.cellsOf 60 = 1 := by kernel_rfl
 have ez : Tryz.prog.cellsOf 3 = 1 := by kernel_rfl
 have ew : Tryz.prog.cellsOf 63 = 2 := by kernel_rfl
 simp [ey, ez, ew] at x0 x1 x2
 clear hre hne
 obtain ⟨ka, kk, kl, ekl, kkl, gkl, bkl⟩ := rdf_kms x0
 simp at ekl
 subst ekl
 obtain ⟨e, ee, we⟩ := Rd.int Tryz.underlying3 x1.rd
 simp at ee
 subst ee
 replace we := wf_b64F we
 obtain ⟨_, nqp, fqp, hfqp, hnqp, hsqp, hrqp⟩ := RdF.struct Tryz.underlying63 x2
 replace hnqp : nqp.length = 2 := hnqp
 obtain ⟨up0, up1, rfl⟩ : ∃ u0 u1, nqp = [u0, u1] := by
  match nqp, hnqp with
  | [y0, y1], _ => exact ⟨y0, y1, rfl⟩
 have tp0 := hrqp 0 _ _ rfl rfl
 have tp1 := hrqp 1 _ _ rfl rfl
 have dzp : Tryz.prog.cellsOf 3 = 1 := by kernel_rfl
 have dyp : Tryz.prog.cellsOf 61 = 1 := by kernel_rfl
 simp [dzp, dyp] at tp0 tp1
 simp only [List.sum_cons, List.sum_nil] at hsqp
 clear hrqp hnqp
 obtain ⟨g, eg, wg⟩ := Rd.int Tryz.underlying3 tp0.rd
 simp at eg
 subst eg
 replace wg := wf_b64F wg
 obtain ⟨ga, gk, gl, egl, kgl, ggl, bgl⟩ := rdf_u32s tp1
 simp at egl
 subst egl
 obtain ⟨_, nqw, fqw, hfqw, hnqw, hsqw, hrqw⟩ := RdF.struct Tryz.underlying63 r4
 replace hnqw : nqw.length = 2 := hnqw
 obtain ⟨uw0, uw1, rfl⟩ : ∃ u0 u1, nqw = [u0, u1] := by
  match nqw, hnqw with
  | [y0, y1], _ => exact ⟨y0, y1, rfl⟩
 have tw0 := hrqw 0 _ _ rfl rfl
 have tw1 := hrqw 1 _ _ rfl rfl
 have dzw : Tryz.prog.cellsOf 3 = 1 := by kernel_rfl
 have dyw : Tryz.prog.cellsOf 61 = 1 := by kernel_rfl
 simp [dzw, dyw] at tw0 tw1
 simp only [List.sum_cons, List.sum_nil] at hsqw
 clear hrqw hnqw
 obtain ⟨i, ei, wi⟩ := Rd.int Tryz.underlying3 tw0.rd
 simp at ei
 subst ei
 replace wi := wf_b64F wi
 obtain ⟨ha, hk, jl, ejl, kjl, gjl, bjl⟩ := rdf_u32s tw1
 simp at ejl
 subst ejl
 exact ⟨⟨a, b, d, ⟨kl, e, ⟨g, gl⟩⟩, ⟨i, jl⟩⟩, _, _, _, _, _, _, rfl, ⟨wa, wb, wd, we, wg, wi⟩, gkl, ggl, gjl⟩
set_option maxRecDepth 100000 in
theorem rdf_ops {W : World} {cs : List Value} {n f : Nat} (h : RdF Tryz.prog W 52 cs n f) : ∃ (a : Option Addr) (c : Nat) (l : List Tj.TOp), cs = [.slice a l.length c] ∧ (l.length ≤ c ∧ c ≤ maxLen) ∧ Rows W 9 Tj.TOpR (.slice a l.length c) l ∧ l.length ≤ n := by
 obtain ⟨a, c, l, h1, h2, h3, h4, h5⟩ := RdF.rowsB (R := Tj.TOpR) (Q := fun _ => True) Tryz.underlying52 (show Tryz.prog.cellsOf 67 = 9 by kernel_rfl) (by decide) (fun row _ hl hr => by obtain ⟨d, hd⟩ := rdf_op hl hr; exact ⟨d, hd, trivial⟩) h
 exact ⟨a, c, l, h1, h2, h3, h4⟩
set_option maxRecDepth 100000 in
theorem rdf_txns {W : World} {cs : List Value} {n f : Nat} (h : RdF Tryz.prog W 32 cs n f) : ∃ (a : Option Addr) (c : Nat) (l : List (List Tj.TOp)), cs = [.slice a l.length c] ∧ Rows W 1 OpsR (.slice a l.length c) l := by
 obtain ⟨a, c, l, h1, _, h3, _⟩ := RdF.rowsB (R := OpsR) (Q := fun _ => True) Tryz.underlying32 (show Tryz.prog.cellsOf 52 = 1 by kernel_rfl) (by decide) (fun row _ _ hr => by
  obtain ⟨a, c, l, h1, _, h3, _⟩ := rdf_ops hr
  exact ⟨l, ⟨_, h1, h3⟩, trivial⟩) h
 exact ⟨a, c, l, h1, h3⟩
set_option maxRecDepth 100000 in
theorem txns_take {v : Value} {W : World} {base : Nat} {r : Reach} {H : Type} {enc : TypeId × Value → H} {d : DataW H} {ps : List MemPlace} (ok : Value.okWide Tryz.prog W r base 34 v) (h : DataW.Trod enc Tryz.prog W 0 (fun _ => true) true 34 v d ps) (hb : Rows.uptoBulk d ≤ 1048576) :
 ∃ (p : Pg.PV) (F : Tj.FP) (la : Option Addr) (lc : Nat) (T : List (List Tj.TOp)), v = .agg #[p.c0, p.c1, p.c2, p.c3, p.c4, p.c5, p.c6, p.c7, p.c8, .slice la T.length lc] ∧ Tj.IsG W p F ∧ Tj.Sz F ∧ Rows W 1 OpsR (.slice la T.length lc) T := by
 have hc : Tryz.prog.cellsOf 34 = 10 := by kernel_rfl
 obtain ⟨row, rfl, hl⟩ := ok_struct Tryz.underlying34 ok
 rw [hc] at hl
 obtain ⟨f, hf⟩ := h
 simp only [Value.cells, List.toList_toArray] at hf
 have h : RdF Tryz.prog W 34 row (Rows.uptoBulk d) f := ⟨H, enc, _, _, _, hf, Nat.le_refl _⟩
 clear hf ok
 have cz0 : Tryz.prog.cellsOf 31 = 9 := by kernel_rfl
 have cz1 : Tryz.prog.cellsOf 32 = 1 := by kernel_rfl
 obtain ⟨_, nsc, fc, hfc, hnsc, hsumc, hrc⟩ := RdF.struct Tryz.underlying34 h
 replace hnsc : nsc.length = 2 := hnsc
 obtain ⟨c0, c1, c2, c3, c4, c5, c6, c7, c8, c9, rfl⟩ : ∃ c0 c1 c2 c3 c4 c5 c6 c7 c8 c9, row = [c0, c1, c2, c3, c4, c5, c6, c7, c8, c9] := by
  match row, hl with
  | [y0, y1, y2, y3, y4, y5, y6, y7, y8, y9], _ => exact ⟨y0, y1, y2, y3, y4, y5, y6, y7, y8, y9, rfl⟩
 obtain ⟨m0, m1, rfl⟩ : ∃ m0 m1, nsc = [m0, m1] := by
  match nsc, hnsc with
  | [y0, y1], _ => exact ⟨y0, y1, rfl⟩
 have r0 := hrc 0 _ _ rfl rfl
 have r1 := hrc 1 _ _ rfl rfl
 simp [cz0, cz1] at r0 r1
 simp only [List.sum_cons, List.sum_nil] at hsumc
 clear hrc hnsc
 obtain ⟨p, F, e0, g0, z0⟩ := rdf_prog rfl r0 (by omega)
 obtain ⟨la, lc, T, e1, g1⟩ := rdf_txns r1
 simp at e0 e1
 obtain ⟨rfl, rfl, rfl, rfl, rfl, rfl, rfl, rfl, rfl⟩ := e0
 subst e1
 exact ⟨p, F, la, lc, T, rfl, g0, z0, g1⟩
end Go.Proofs.YthmokhkkdgnbhaaGreat
