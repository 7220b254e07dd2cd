/- The deparser: the reference's Emit, walked. No condition. -/
import Derived.Test.YtonnlcjkgpahoaaDp4
import Derived.Test.YtonnlcjkgpahoaaHd8
import Derived.Deep.RegionHeld3
import Derived.Deep.DeepCutAuto
import Derived.Deep.Cut
import Derived.Deep.CutRange
namespace Go.Proofs.Ytonnlcjkgpahoaa
open Go.RowKit

namespace Dp
theorem bits_bits (P : Pg.Prog) (E : Pg.Env) : ∀ l L, Io.Bits L → Io.Bits (bitsFrom P E l L)
  | [], _, h => h
  | _ :: t, _, h => bits_bits P E t _ (one_bits h)
theorem one_at {P : Pg.Prog} {E : Pg.Env} {k : Nat} {nm : ByteArray} {fs : List Hd.Fld} {l : List Int} {vb : Bool} (hv : E.va.getD k false = vb) (hh : P.hs.getD k (⟨#[]⟩, []) = (nm, fs)) (hl : E.fi.getD k [] = l) (L : List Int) :
    one P E (k : Int) L = if vb then Hd.wL (nm, fs) l L else L := by
  unfold one; rw [Int.toNat_natCast, hv, hh, hl]
end Dp

set_option maxRecDepth 8000 in
set_option maxHeartbeats 4000000 in
theorem remit_any {W : World} {p : Pg.PV} {P : Pg.Prog} {e : Pg.EV} {E : Pg.Env} (hp : Pg.IsP W p P) (hc : Pg.CapP p) (he : Pg.IsE W e E) (hpy : E.pl.length ≤ 1000000) :
    Calls Try.prog 17 #[p.val, e.val] W fun e' w' => ∃ v, e' = .returned v ∧ Ext W w' ∧ Src w' v 1 (Dp.emit P E).length (u8s (Dp.emit P E)) := by
  have HP := Lib.hid hp
  have HE := Lib.hid he
  have HC := Lib.hid hc
  obtain ⟨s, a1, a2, a3, a4, a5, a6, a7, a8, m1, m2, n3, m3, n4, m4, n5, m5, n6, m6, n7, m7, m8, hf⟩ := hp.form
  obtain ⟨rfl, hhs, hmd, hdp, hl1, hl2, hl8⟩ := hf
  obtain ⟨b0, b1, b2, b3, d0, d1, d2, d3, hg⟩ := he.form
  obtain ⟨rfl, hva, hfi, hme, hpl, g0, g1, g2, g3⟩ := hg
  obtain ⟨x, y, hxy⟩ : ∃ x y, Dp.chk P = (x, y) := ⟨_, _, rfl⟩
  obtain ⟨z, hz⟩ : ∃ z, Pg.chkE P E = z := ⟨_, rfl⟩
  have HCK : Hid (∀ w, Ext W w → Calls Try.prog 15 #[.agg #[.string s, .slice a1 P.hs.length m1, .slice a2 P.md.length m2, .slice a3 n3 m3, .slice a4 n4 m4, .slice a5 n5 m5, .slice a6 n6 m6, .slice a7 n7 m7, .slice a8 P.dp.length m8]] w (Rets w (.tuple #[.int .i64 x, .int .i64 y]))) := Lib.hid (fun w hx => by have h := rdcheck_any (HP.out.ext hx) HC.out; rw [Dp.chkV_of hxy] at h; exact h)
  have HEC : Hid (∀ w, Ext W w → Calls Try.prog 34 #[.agg #[.string s, .slice a1 P.hs.length m1, .slice a2 P.md.length m2, .slice a3 n3 m3, .slice a4 n4 m4, .slice a5 n5 m5, .slice a6 n6 m6, .slice a7 n7 m7, .slice a8 P.dp.length m8], .agg #[.slice b0 E.va.length d0, .slice b1 E.fi.length d1, .slice b2 E.me.length d2, .slice b3 E.pl.length d3]] w (Rets w (.int .i64 z))) := Lib.hid (fun w hx => by have h := rcheck12_any (HP.out.ext hx) (HE.out.ext hx); rw [hz] at h; exact h)
  have HXY : Hid ((Dp.chk P).2 = y) := Lib.hid (by rw [hxy])
  have HZ0 := Lib.hid hz
  dsimp only [Pg.PV.val, Pg.EV.val]
  have bb := alloc_heap W (.cells #[.string s, .slice a1 P.hs.length m1, .slice a2 P.md.length m2, .slice a3 n3 m3, .slice a4 n4 m4, .slice a5 n5 m5, .slice a6 n6 m6, .slice a7 n7 m7, .slice a8 P.dp.length m8] 31)
  have k0 := alw (cell_of (o := 0) bb)
  have k1 := alw (cell_of (o := 1) bb)
  have k2 := alw (cell_of (o := 2) bb)
  have k3 := alw (cell_of (o := 3) bb)
  have k4 := alw (cell_of (o := 4) bb)
  have k5 := alw (cell_of (o := 5) bb)
  have k6 := alw (cell_of (o := 6) bb)
  have k7 := alw (cell_of (o := 7) bb)
  have k8 := alw (cell_of (o := 8) bb)
  have be := alloc_heap (W.alloc (.cells #[.string s, .slice a1 P.hs.length m1, .slice a2 P.md.length m2, .slice a3 n3 m3, .slice a4 n4 m4, .slice a5 n5 m5, .slice a6 n6 m6, .slice a7 n7 m7, .slice a8 P.dp.length m8] 31)) (.cells #[.slice b0 E.va.length d0, .slice b1 E.fi.length d1, .slice b2 E.me.length d2, .slice b3 E.pl.length d3] 37)
  rw [World.size_alloc] at be
  have j0 := alw (cell_of (o := 0) be)
  have j1 := alw (cell_of (o := 1) be)
  have j2 := alw (cell_of (o := 2) be)
  have j3 := alw (cell_of (o := 3) be)
  have HHS := Lib.hid hhs
  have HVA := Lib.hid hva
  have HFI := Lib.hid hfi
  have HDP := Lib.hid hdp
  have HPY := Lib.hid hpl
  clear bb be hp he hc hhs hmd hdp hva hfi hme hpl hxy hz
  by_cases h0 : y = 0
  · have h0b : (y != 0) = false := by simp [h0]
    have H0 := Lib.hid (HXY.out.trans h0)
    clear h0
    by_cases hz0 : z = 0
    · have hzb : (z != 0) = false := by simp [hz0]
      have HZ1 := Lib.hid (HZ0.out.trans hz0)
      clear hz0
      go_enter Try.func17, Try.ntmps17
      go_wp2_with fail
      refine (HCK.out _ (grows (a := W))).mono ?_
      rintro e' w1 ⟨rfl, x1⟩
      have s1 := Step.mk x1
      go_wp2_with fail
      refine (HEC.out _ (grows (a := W))).mono ?_
      rintro e' w2 ⟨rfl, x2⟩
      have s2 := Step.mk x2
      go_wp2_with fail
      go_loopw [7] (fun i wr => ∃ k : Nat, k ≤ P.hs.length ∧ i = .int .i64 k ∧ Ext w2 wr ∧ Hid (∀ j, j < k → (Hd.chk (P.hs.getD j (⟨#[]⟩, [])) == 0) = true)) (fun i _ => P.hs.length - (intOf i).toNat)
      case atStart => exact ⟨0, Nat.zero_le _, rfl, Ext.refl _, Lib.hid (by intro j hj; omega)⟩
      case round =>
        obtain ⟨k, hk, rfl, hx, HZ⟩ := hrel
        obtain ⟨wo, rfl⟩ : ∃ wo : World, wo = wr := ⟨_, rfl⟩
        have sx := Step.mk hx
        by_cases hlt : k < P.hs.length
        · obtain ⟨⟨nm, fs⟩, hhk⟩ : ∃ x, P.hs[k]? = some x := ⟨_, List.getElem?_eq_getElem hlt⟩
          obtain ⟨bh, oh, hoh, _, _⟩ := Rows.at HHS.out (by omega)
          subst hoh
          obtain ⟨fa, fc, q0, q1, qn, qf, qc, qm⟩ := hdrs_at HHS.out k nm fs hhk rfl
          have hgh : P.hs.getD k (⟨#[]⟩, []) = (nm, fs) := by rw [List.getD_eq_getElem?_getD, hhk]; rfl
          have HGH := Lib.hid hgh
          have QF := Lib.hid qf
          unfold maxLen at qm
          clear hhk hgh qf
          obtain ⟨c, hcc⟩ : ∃ c, Hd.chk (nm, fs) = c := ⟨_, rfl⟩
          have HCC := Lib.hid hcc
          have HCH : Hid (∀ w, Ext W w → Calls Try.prog 37 #[.agg #[.string nm, .slice fa fs.length fc]] w (Rets w (.int .i64 c))) := Lib.hid (fun w hx => by have h := rhcheck_any (nm, fs) (Hd.Flds.ext QF.out hx) qn; rw [hcc] at h; exact h)
          clear hcc
          by_cases hc0 : c = 0
          · have hcb : (c != 0) = false := by simp [hc0]
            have HC0 := Lib.hid hc0
            clear hc0
            go_wp2_with fail
            refine (HCH.out _ (grows (a := W))).mono ?_
            rintro e' w3 ⟨rfl, x3⟩
            have s3 := Step.mk x3
            go_wp2_with fail
            go_roundw
            case rel =>
              refine ⟨k + 1, by omega, by go_num, by exact (grows (a := w2)), Lib.hid (fun j hj => ?_)⟩
              rcases Nat.lt_or_ge j k with h1 | h1
              · exact HZ.out j h1
              · obtain rfl : j = k := by omega
                rw [HGH.out, HCC.out, HC0.out]; rfl
            case measure => simp [intOf]; omega
          · have hcb : (c != 0) = true := by simp [hc0]
            have HC0 := Lib.hid hc0
            clear hc0
            have HR := Lib.hid (Dp.emit_no (P := P) (E := E) (Dp.no_hs (Pg.all_no hlt (by rw [HGH.out, HCC.out]; simpa using HC0.out))))
            go_wp2_with fail
            refine (HCH.out _ (grows (a := W))).mono ?_
            rintro e' w3 ⟨rfl, x3⟩
            have s3 := Step.mk x3
            go_wp2_with fail
            go_ret
            rw [HR.out]
            exact ⟨_, rfl, grows, by simp [u8s], by simp [u8s], .inl ⟨rfl, rfl⟩⟩
        · obtain rfl : k = P.hs.length := by omega
          have hok : Dp.ok P E = true := by rw [Dp.ok_of H0.out (Pg.all_yes HZ.out), HZ1.out]; rfl
          obtain ⟨y1, y2, y3, y4, y5⟩ := Dp.ok_facts hok
          have YD := Lib.hid y2
          have YF := Lib.hid y5
          have HEM := Lib.hid (Dp.emit_yes hok)
          have yva : P.hs.length ≤ E.va.length := by omega
          have yfi : P.hs.length ≤ E.fi.length := by omega
          clear hok y2 y3 y4 y5 HZ hk hlt
          go_wp2_with fail
          refine (rNewWriter_any wo).mono ?_
          rintro e' w3 ⟨rfl, x3⟩
          have s3 := Step.mk x3
          have HB0 := Lib.hid (alloc_heap w3 (.cells #[.slice none 0 0] 67))
          go_wp2_with fail
          go_loopw [9] (fun i wr => ∃ k : Nat, k ≤ P.dp.length ∧ i = .int .i64 k ∧ Hid (∃ oa c, Ext w3 wr ∧ wr.heap[w3.heap.size]? = some (.cells #[.slice oa (Dp.bitsFrom P E (P.dp.take k) []).length c] 67 (0, 0)) ∧ wr.ownsRow W.heap.size 4 1 (.slice oa (Dp.bitsFrom P E (P.dp.take k) []).length c) (Dp.bitsFrom P E (P.dp.take k) []).length (bls (Dp.bitsFrom P E (P.dp.take k) [])))) (fun i _ => P.dp.length - (intOf i).toNat)
          case atStart => exact ⟨0, Nat.zero_le _, rfl, Lib.hid ⟨none, 0, grows, HB0.out, World.ownsRow_nil _ _ _ _⟩⟩
          case round =>
            obtain ⟨k, hk, rfl, HI⟩ := hrel
            obtain ⟨wp, rfl⟩ : ∃ wp : World, wp = wr := ⟨_, rfl⟩
            obtain ⟨oa1, c1, hx1, hb1, ho1⟩ := HI.out
            have sp : Step w3 wp := Step.mk hx1
            have hlen := Dp.bits_len P E (P.dp.take k) []
            have htk : (P.dp.take k).length ≤ 8 := by rw [List.length_take]; omega
            simp only [List.length_nil] at hlen
            have HBI := Lib.hid (Dp.bits_bits P E (P.dp.take k) [] (by intro b hb; cases hb))
            have hle : W.heap.size ≤ wp.heap.size := grows_le (a := W) (b := wp)
            clear HI
            by_cases hlt : k < P.dp.length
            · obtain ⟨x, hxk⟩ : ∃ x, P.dp[k]? = some x := ⟨_, List.getElem?_eq_getElem hlt⟩
              obtain ⟨b, o, hoa, hec⟩ := ns_at HDP.out (by omega)
              subst hoa
              have e0 := hec k x hxk
              have hxx := YD.out k hlt
              rw [List.getD_eq_getElem?_getD, hxk, Option.getD_some] at hxx
              obtain ⟨x0, x1'⟩ := hxx
              obtain ⟨h, rfl⟩ := Int.eq_ofNat_of_zero_le x0
              have HSN := Lib.hid (Dp.bits_snoc (E := E) hxk)
              clear hec hxk
              obtain ⟨L, hL⟩ : ∃ L, L = Dp.bitsFrom P E (P.dp.take k) [] := ⟨_, rfl⟩
              rw [← hL] at hb1 ho1 hlen HBI HSN
              clear hL
              have hhl : h < P.hs.length := by omega
              obtain ⟨⟨nm, fs⟩, hhk⟩ : ∃ x, P.hs[h]? = some x := ⟨_, List.getElem?_eq_getElem hhl⟩
              obtain ⟨bh, oh, hoh, _, _⟩ := Rows.at HHS.out (by omega)
              subst hoh
              obtain ⟨fa, fc, q0, q1, qn, qf, qc, qm⟩ := hdrs_at HHS.out h nm fs hhk rfl
              have hgh : P.hs.getD h (⟨#[]⟩, []) = (nm, fs) := by rw [List.getD_eq_getElem?_getD, hhk]; rfl
              obtain ⟨l, hlk⟩ : ∃ x, E.fi[h]? = some x := ⟨_, List.getElem?_eq_getElem (by omega)⟩
              obtain ⟨ba, oa', hoa, _, _⟩ := Rows.at HFI.out (by omega)
              subst hoa
              obtain ⟨la, lc, p0, pl, pu⟩ := rows_at HFI.out h l hlk rfl
              obtain ⟨vb, hvk⟩ : ∃ x, E.va[h]? = some x := ⟨_, List.getElem?_eq_getElem (by omega)⟩
              obtain ⟨bv, ov, hov, hvc⟩ := bs_at HVA.out (by omega)
              subst hov
              have v0 := hvc h vb hvk
              have hgl : E.fi.getD h [] = l := by rw [List.getD_eq_getElem?_getD, hlk]; rfl
              have hgv : E.va.getD h false = vb := by rw [List.getD_eq_getElem?_getD, hvk]; rfl
              have hll : l.length ≤ 1000000 := by rw [← hgl]; exact YF.out h
              have HSO := Lib.hid (HSN.out.trans (Dp.one_at hgv hgh hgl L))
              have QF := Lib.hid qf
              have HPL := Lib.hid pl
              have HPU := Lib.hid pu
              have hhv : h < E.va.length := by omega
              have hhf : h < E.fi.length := by omega
              have HB1 := Lib.hid hb1
              have HO1 := Lib.hid ho1
              have HX1 := Lib.hid hx1
              have t0 := alw (cell_of (o := 0) hb1)
              unfold maxLen at qm
              clear hhk hlk hvc hvk hgl hgh hgv pl pu qf hb1 ho1 hx1 HSN
              cases vb with
              | false =>
                go_wp2_with fail
                go_roundw
                case rel => exact ⟨k + 1, by omega, by go_num, Lib.hid ⟨oa1, c1, HX1.out, by rw [HSO.out]; exact HB1.out, by rw [HSO.out]; exact HO1.out⟩⟩
                case measure => simp [intOf]; omega
              | true =>
                have D0 := Lib.hid (t0 wp)
                have r0 := World.new_ne wp _ (t0 wp)
                have r1 := World.new_ne wp _ (k1 wp)
                have r2 := World.new_ne wp _ (j1 wp)
                have r3 := World.new_ne wp _ (q0 wp)
                have r4 := World.new_ne wp _ (q1 wp)
                have r5 := World.new_ne wp _ (p0 wp)
                have f0 := t0 wp
                have f1 := k1 wp
                have f2 := j1 wp
                have f3 := q0 wp
                have f4 := q1 wp
                have f5 := p0 wp
                go_wp2_with fail
                go_cut [11, 12] (fun s t wx => ∃ (B2 : Nat) (oa5 : Option Addr) (c5 : Nat), s = .pointer (some ⟨B2, 0, none⟩) ∧ t = .int .i64 (Hd.wE (nm, fs) l) ∧ Ext wp wx ∧ wp.heap.size ≤ B2
                  ∧ wx.heap[B2]? = some (.cells #[.slice oa5 (Hd.wL (nm, fs) l L).length c5] 67 (0, 0)) ∧ wx.ownsRow W.heap.size 4 1 (.slice oa5 (Hd.wL (nm, fs) l L).length c5) (Hd.wL (nm, fs) l L).length (bls (Hd.wL (nm, fs) l L)))
                case first =>
                  go_region_held3 (fun w' => w'.cell? ⟨w3.heap.size, 0, none⟩ = some (.slice oa1 L.length c1) ∧ w'.cell? ⟨W.heap.size, 1, none⟩ = some (.slice (some ⟨bh, oh, none⟩) P.hs.length m1) ∧ w'.cell? ⟨W.heap.size + 1, 1, none⟩ = some (.slice (some ⟨ba, oa', none⟩) E.fi.length d1) ∧ w'.cell? ⟨bh, oh + h * 2, none⟩ = some (.string nm) ∧ w'.cell? ⟨bh, oh + h * 2 + 1, none⟩ = some (.slice fa fs.length fc) ∧ w'.cell? ⟨ba, oa' + h, none⟩ = some (.slice la l.length lc)) (go_keep)
                    (first | (go_at_call 36; refine (rhwrite_any (nm, fs) (vs := l) (Hd.Flds.ext QF.out grows) (Src.now HPL.out.1) qn (own_now HO1.out) (by simp; omega) (by omega) HPU.out (by omega)).mono ?_; rintro e' w5 ⟨oa5, c5, rfl, hy, ho5⟩; have hz : Ext wp w5 := (grows (a := wp)).trans hy; have s5 : Step wp w5 := Step.mk hz; have f0 := t0 w5; have f1 := k1 w5; have f2 := j1 w5; have f3 := q0 w5; have f4 := q1 w5; have f5 := p0 w5; have HO5 := Lib.hid ho5; clear ho5; try (have q3 : w5.heap[wp.heap.size]? = some (.cells #[.slice none 0 0] 67 (0, 0)) := hy.heap (alloc_heap wp.drew (.cells #[.slice none 0 0] 67)); have q4 : w5.cell? ⟨wp.heap.size, 0, none⟩ = some (.slice none 0 0) := cell_of q3; have q6 : w5.frozen? ⟨wp.heap.size, 0, none⟩ = false := free_of q3)))
                  all_goals (try go_wp2_with fail)
                  all_goals go_meet
                  · exact ⟨w5.heap.size, oa5, c5, rfl, rfl, hz.alloc _, hz.le, alloc_heap _ _, own_ext HO5.out ((Ext.refl _).alloc _)⟩
                  · obtain ⟨g1, g2⟩ := set1 (a' := .slice oa5 (Hd.wL (nm, fs) l L).length c5) q3
                    exact ⟨wp.heap.size, oa5, c5, rfl, rfl, hz.mod g2 (fun q hq => by rw [hq]; exact Nat.le_refl _), Nat.le_refl _, g1, own_mod HO5.out g2 (own_not HO5.out q3 (by decide))⟩
                case rest =>
                  obtain ⟨B2, oa5, c5, rfl, rfl, hx5, hB2, b5, o5⟩ := hcut
                  clear r0 r1 r2 r3 r4 r5 f0 f1 f2 f3 f4 f5 D0
                  have hb3 := hx5.heap HB1.out
                  have u0 : wc.cell? ⟨B2, 0, none⟩ = some (.slice oa5 (Hd.wL (nm, fs) l L).length c5) := cell_of b5
                  have u2 : wc.frozen? ⟨w3.heap.size, 0, none⟩ = false := free_of hb3
                  have u4 : wc.cell? ⟨w3.heap.size, 0, none⟩ = some (.slice oa1 L.length c1) := cell_of hb3
                  obtain ⟨g1, g2⟩ := set1 (a' := .slice oa5 (Hd.wL (nm, fs) l L).length c5) hb3
                  have hsz3 := HX1.out.le
                  have HXM := Lib.hid ((HX1.out.trans hx5).mod g2 (fun q hq => by rw [hq]; exact Nat.le_refl _))
                  have HOM := Lib.hid (own_mod o5 g2 (own_not o5 hb3 (by decide)))
                  have HG1 := Lib.hid g1
                  clear hx5 b5 o5 hb3 g1 g2
                  go_wp2_with fail
                  go_roundw
                  case rel => exact ⟨k + 1, by omega, by go_num, Lib.hid ⟨oa5, c5, HXM.out, by rw [HSO.out]; exact HG1.out, by rw [HSO.out]; exact HOM.out⟩⟩
                  case measure => simp [intOf]; omega
            · obtain rfl : k = P.dp.length := by omega
              rw [List.take_length] at hb1 ho1 hlen HBI
              have hbl : (Io.byL (Dp.bitsFrom P E P.dp [])).length ≤ 1000000 := by
                unfold Io.byL
                split
                · rw [Io.pack_len]; omega
                · simp
              have HBY := Lib.hid (rBytes_any ho1 HBI.out (by omega))
              obtain ⟨B, hB⟩ : ∃ B, B = Io.byL (Dp.bitsFrom P E P.dp []) := ⟨_, rfl⟩
              rw [← hB] at HEM hbl HBY
              have t0 := alw (cell_of (o := 0) hb1)
              clear hB hb1 ho1
              go_wp2_with fail
              refine HBY.out.mono ?_
              rintro e' w5 ⟨v5, rfl, x5, o5⟩
              have s5 := Step.mk x5
              have O5 := Lib.hid (own_src o5 (u8s_one _))
              obtain ⟨va5, vc5, hv5⟩ := own_slice o5
              subst hv5
              clear o5
              go_wp2_with (at_builtin; refine wpList_append_src rfl (.tmp 82) (.tmp 83) 35 rfl W.heap.size 5 (.int .u8 0) 1 1 Try.underlying35 info_u8 rfl (by decide) (.slice none 0 0) 0 [] rfl (World.ownsRow_nil _ _ _ _) (.slice va5 B.length vc5) B.length (u8s B) rfl O5.out ?c1 ?c2 ?c3 ?_)
              case c1 => unfold maxLen; omega
              case c2 => omega
              case c3 => exact grows_le (a := W) (b := w5)
              intro v6 w6 hown6 hgr6 _
              have x6 := grown_ext hgr6
              have s6 := Step.mk x6
              obtain ⟨va6, vc6, hv6⟩ := own_slice hown6
              subst hv6
              have O6 := Lib.hid hown6
              have PY6 := Lib.hid (Src.now (w := w6) HPY.out.1.1)
              clear hgr6 hown6
              go_wp2_with (at_builtin; refine wpList_append_src rfl (.tmp 85) (.tmp 87) 35 rfl W.heap.size 5 (.int .u8 0) 1 1 Try.underlying35 info_u8 rfl (by decide) (.slice va6 B.length vc6) B.length (u8s B) rfl O6.out (.slice b3 E.pl.length d3) E.pl.length (u8s E.pl) rfl PY6.out ?c1 ?c2 ?c3 ?_)
              case c1 => unfold maxLen; omega
              case c2 => omega
              case c3 => exact grows_le (a := W) (b := w6)
              intro v' w' hown hgr _
              have hx7 : Ext W w' := Ext.mod (grows (a := W) (b := w6)) (grown_mod hgr) (fun q hq => by
                have := (O6.out.lt q hq.symm).1; omega)
              have HO7 := Lib.hid hown
              clear hgr hown
              go_wp2_with fail
              go_ret
              refine ⟨_, rfl, hx7, ?_⟩
              rw [HEM.out]
              have h7 := own_src HO7.out (fun u hu => by
                rw [List.mem_append] at hu
                rcases hu with hu | hu
                · exact u8s_one _ u hu
                · exact u8s_one _ u hu)
              rw [List.length_append]
              rw [show u8s (B ++ E.pl) = u8s B ++ u8s E.pl by simp [u8s]]
              exact h7
    · have hzb : (z != 0) = true := by simp [hz0]
      have HR := Lib.hid (Dp.emit_no (P := P) (E := E) (Dp.no_env (by rw [HZ0.out]; exact hz0)))
      clear hz0
      go_enter Try.func17, Try.ntmps17
      go_wp2_with fail
      refine (HCK.out _ (grows (a := W))).mono ?_
      rintro e' w1 ⟨rfl, x1⟩
      have s1 := Step.mk x1
      go_wp2_with fail
      refine (HEC.out _ (grows (a := W))).mono ?_
      rintro e' w2 ⟨rfl, x2⟩
      have s2 := Step.mk x2
      go_wp2_with fail
      go_ret
      rw [HR.out]
      exact ⟨_, rfl, grows, by simp [u8s], by simp [u8s], .inl ⟨rfl, rfl⟩⟩
  · have h0b : (y != 0) = true := by simp [h0]
    have HR := Lib.hid (Dp.emit_no (P := P) (E := E) (Dp.no_chk (by rw [HXY.out]; exact h0)))
    clear h0
    go_enter Try.func17, Try.ntmps17
    go_wp2_with fail
    refine (HCK.out _ (grows (a := W))).mono ?_
    rintro e' w1 ⟨rfl, x1⟩
    have s1 := Step.mk x1
    go_wp2_with fail
    go_ret
    rw [HR.out]
    exact ⟨_, rfl, grows, by simp [u8s], by simp [u8s], .inl ⟨rfl, rfl⟩⟩
end Go.Proofs.Ytonnlcjkgpahoaa
