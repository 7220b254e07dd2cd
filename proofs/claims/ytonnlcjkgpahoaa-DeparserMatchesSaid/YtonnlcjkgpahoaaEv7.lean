/- The environment: the reference's Check, walked. No condition. -/
import Derived.Test.YtonnlcjkgpahoaaEv5
import Derived.Test.YtonnlcjkgpahoaaEv6
namespace Go.Proofs.Ytonnlcjkgpahoaa
open Go.RowKit

set_option maxRecDepth 8000 in
set_option maxHeartbeats 2000000 in
theorem rcheck12_any {W : World} {p : Pg.PV} {P : Pg.Prog} {e : Pg.EV} {E : Pg.Env} (hp : Pg.IsP W p P) (he : Pg.IsE W e E) :
    Calls Try.prog 34 #[p.val, e.val] W (Rets W (.int .i64 (Pg.chkE P E))) := by
  have HP := Lib.hid hp
  have HE := Lib.hid he
  obtain ⟨s, a1, a2, a3, a4, a5, a6, a7, a8, m1, m2, n3, m3, n4, m4, n5, m5, n6, m6, n7, m7, m8, hf⟩ := hp.form
  obtain ⟨rfl, hhs, hmd, _, hl1, hl2, _⟩ := hf
  obtain ⟨b0, b1, b2, b3, d0, d1, d2, d3, hg⟩ := he.form
  obtain ⟨rfl, hva, hfi, hme, hpl, g0, g1, g2, g3⟩ := hg
  dsimp only [Pg.PV.val, Pg.EV.val]
  have bb := alloc_heap W (.cells #[.string s, .slice a1 P.hs.length m1, .slice a2 P.md.length m2, .slice a3 n3 m3, .slice a4 n4 m4, .slice a5 n5 m5, .slice a6 n6 m6, .slice a7 n7 m7, .slice a8 P.dp.length m8] 31)
  have k0 := alw (cell_of (o := 0) bb)
  have k1 := alw (cell_of (o := 1) bb)
  have k2 := alw (cell_of (o := 2) bb)
  have k3 := alw (cell_of (o := 3) bb)
  have k4 := alw (cell_of (o := 4) bb)
  have k5 := alw (cell_of (o := 5) bb)
  have k6 := alw (cell_of (o := 6) bb)
  have k7 := alw (cell_of (o := 7) bb)
  have k8 := alw (cell_of (o := 8) bb)
  have be := alloc_heap (W.alloc (.cells #[.string s, .slice a1 P.hs.length m1, .slice a2 P.md.length m2, .slice a3 n3 m3, .slice a4 n4 m4, .slice a5 n5 m5, .slice a6 n6 m6, .slice a7 n7 m7, .slice a8 P.dp.length m8] 31)) (.cells #[.slice b0 E.va.length d0, .slice b1 E.fi.length d1, .slice b2 E.me.length d2, .slice b3 E.pl.length d3] 37)
  rw [World.size_alloc] at be
  have j0 := alw (cell_of (o := 0) be)
  have j1 := alw (cell_of (o := 1) be)
  have j2 := alw (cell_of (o := 2) be)
  have j3 := alw (cell_of (o := 3) be)
  have HVA := Lib.hid hva
  have HFI := Lib.hid hfi
  have HME := Lib.hid hme
  have HSH : Hid (∀ w, Ext W w → Calls Try.prog 57 #[.agg #[.string s, .slice a1 P.hs.length m1, .slice a2 P.md.length m2, .slice a3 n3 m3, .slice a4 n4 m4, .slice a5 n5 m5, .slice a6 n6 m6, .slice a7 n7 m7, .slice a8 P.dp.length m8], .agg #[.slice b0 E.va.length d0, .slice b1 E.fi.length d1, .slice b2 E.me.length d2, .slice b3 E.pl.length d3]] w (Rets w (.bool (Pg.shB P E)))) := Lib.hid (fun w hx => by have h := rshaped_any (HP.out.ext hx) (HE.out.ext hx); exact h)
  clear bb be hp he hhs hmd hva hfi hme hpl
  go_enter Try.func34, Try.ntmps34
  go_wp2_with fail
  refine (HSH.out _ (grows (a := W))).mono ?_
  rintro e' w1 ⟨rfl, x1⟩
  have s1 := Step.mk x1
  by_cases hs : Pg.shB P E = true
  · have HS := Lib.hid hs
    obtain ⟨z1, z2, z3, _⟩ := Pg.shB_len hs
    have zz : E.fi.length ≤ E.va.length := by omega
    clear z1 z2 z3
    rw [hs]
    clear hs
    go_wp2_with fail
    go_loopw [5] (fun i wr => ∃ k : Nat, k ≤ E.fi.length ∧ i = .int .i64 k ∧ Ext w1 wr ∧ Hid (∀ j, j < k → Pg.fitB P j (E.fi.getD j []) = true)) (fun i _ => E.fi.length - (intOf i).toNat)
    case atStart => exact ⟨0, Nat.zero_le _, rfl, Ext.refl _, Lib.hid (by intro j hj; omega)⟩
    case round =>
      obtain ⟨k, hk, rfl, hx, HZ⟩ := hrel
      obtain ⟨wo, rfl⟩ : ∃ wo : World, wo = wr := ⟨_, rfl⟩
      have sx := Step.mk hx
      by_cases hlt : k < E.fi.length
      · obtain ⟨l, hlk⟩ : ∃ x, E.fi[k]? = some x := ⟨_, List.getElem?_eq_getElem hlt⟩
        obtain ⟨ba, oa, hoa, _, _⟩ := Rows.at HFI.out (by omega)
        subst hoa
        obtain ⟨la, lc, p0, pl, pu⟩ := rows_at HFI.out k l hlk rfl
        have hgl : E.fi.getD k [] = l := by rw [List.getD_eq_getElem?_getD, hlk]; rfl
        have HGL := Lib.hid hgl
        have HPL := Lib.hid pl
        have HPU := Lib.hid pu
        clear hlk hgl pl pu
        have hlm := HPL.out.2
        unfold maxLen at hlm
        go_wp2_with fail
        go_loopw [6] (fun i wr => ∃ f : Nat, f ≤ l.length ∧ i = .int .i64 f ∧ Ext wo wr ∧ Hid (∀ j, j < f → decide (l.getD j 0 ≤ Bv.mask (Pg.wid P k j)) = true)) (fun i _ => l.length - (intOf i).toNat)
        case atStart => exact ⟨0, Nat.zero_le _, rfl, Ext.refl _, Lib.hid (by intro j hj; omega)⟩
        case round =>
          obtain ⟨f, hfk, rfl, hx2, HZ2⟩ := hrel
          obtain ⟨wo2, rfl⟩ : ∃ wo2 : World, wo2 = wr := ⟨_, rfl⟩
          have sx2 := Step.mk hx2
          by_cases hf : f < l.length
          · obtain ⟨x, hxk⟩ : ∃ x, l[f]? = some x := ⟨_, List.getElem?_eq_getElem hf⟩
            obtain ⟨be', oe, hoe, hec⟩ := ns_at HPL.out (by omega)
            subst hoe
            have e0 := hec f x hxk
            have hux := HPU.out x (List.mem_of_getElem? hxk)
            have hge : l.getD f 0 = x := by rw [List.getD_eq_getElem?_getD, hxk]; rfl
            have HGE := Lib.hid hge
            have hwb := Pg.wid_bd P (k : Int) f
            obtain ⟨y, hy⟩ : ∃ y, y = Pg.wid P (k : Int) f := ⟨_, rfl⟩
            have HW1 : Hid (∀ w, Ext W w → Calls Try.prog 59 #[.agg #[.string s, .slice a1 P.hs.length m1, .slice a2 P.md.length m2, .slice a3 n3 m3, .slice a4 n4 m4, .slice a5 n5 m5, .slice a6 n6 m6, .slice a7 n7 m7, .slice a8 P.dp.length m8], .agg #[.int .i64 (k : Int), .int .i64 f]] w (Rets w (.int .i64 y))) := Lib.hid (fun w hx => by have h := rwidth_any (HP.out.ext hx) (k : Int) f; rw [← hy] at h; exact h)
            rw [← hy] at hwb
            have HY := Lib.hid hy
            have HFX0 := Lib.hid (fun w => rfits12_any (W := w) x y hux.1 hux.2 hwb.1 hwb.2)
            clear hxk hec hux hge hwb hy
            cases hb : decide (x ≤ Bv.mask y)
            · have HB := Lib.hid hb
              rw [hb] at HFX0
              have HFX := HFX0
              clear hb HFX0
              go_wp2_with fail
              refine wp_region_later (W := wo2) (by kernel_rfl) (by kernel_rfl) (Ext.refl _) ?_
              repeat (go_big_quiet_step (first
                | (go_at_call 59; exact Rets.later_at (HW1.out _ grows))
                | (go_at_call 58; exact Rets.later_eq (HFX.out _))))
              refine wpQuiet_nil ?_
              intro w2 hx3
              have s2 := Step.mk hx3
              go_wp2_with fail
              go_ret
              exact ⟨ret_int (by rw [Pg.chk_fi HS.out (Pg.all_no hlt (by rw [HGL.out]; exact Pg.all_no hf (by rw [HGE.out, ← HY.out]; exact HB.out)))]), grows⟩
            · have HB := Lib.hid hb
              rw [hb] at HFX0
              have HFX := HFX0
              clear hb HFX0
              go_wp2_with fail
              refine wp_region_later (W := wo2) (by kernel_rfl) (by kernel_rfl) (Ext.refl _) ?_
              repeat (go_big_quiet_step (first
                | (go_at_call 59; exact Rets.later_at (HW1.out _ grows))
                | (go_at_call 58; exact Rets.later_eq (HFX.out _))))
              refine wpQuiet_nil ?_
              intro w2 hx3
              have s2 := Step.mk hx3
              go_wp2_with fail
              go_roundw
              case rel =>
                refine ⟨f + 1, by omega, by go_num, by exact hx2.trans hx3, Lib.hid (fun j hj => ?_)⟩
                rcases Nat.lt_or_ge j f with h1 | h1
                · exact HZ2.out j h1
                · obtain rfl : j = f := by omega
                  rw [HGE.out, ← HY.out]; exact HB.out
              case measure => simp [intOf]; omega
          · obtain rfl : f = l.length := by omega
            go_wp2_with fail
            go_roundw
            case rel =>
              refine ⟨k + 1, by omega, by go_num, by exact hx.trans hx2, Lib.hid (fun j hj => ?_)⟩
              rcases Nat.lt_or_ge j k with h1 | h1
              · exact HZ.out j h1
              · obtain rfl : j = k := by omega
                rw [HGL.out]; exact Pg.all_yes HZ2.out
            case measure => simp [intOf]; omega
      · obtain rfl : k = E.fi.length := by omega
        have hfs : Pg.fitsB P E = true := Pg.all_yes HZ.out
        have HFS := Lib.hid hfs
        clear hfs HZ hk hlt
        go_wp2_with fail
        go_loopw [7] (fun i wr => ∃ f : Nat, f ≤ E.me.length ∧ i = .int .i64 f ∧ Ext wo wr ∧ Hid (∀ j, j < f → decide (E.me.getD j 0 ≤ Bv.mask (Pg.wid P (-1) j)) = true)) (fun i _ => E.me.length - (intOf i).toNat)
        case atStart => exact ⟨0, Nat.zero_le _, rfl, Ext.refl _, Lib.hid (by intro j hj; omega)⟩
        case round =>
          obtain ⟨f, hfk, rfl, hx2, HZ2⟩ := hrel
          obtain ⟨wo2, rfl⟩ : ∃ wo2 : World, wo2 = wr := ⟨_, rfl⟩
          have sx2 := Step.mk hx2
          by_cases hf : f < E.me.length
          · obtain ⟨x, hxk⟩ : ∃ x, E.me[f]? = some x := ⟨_, List.getElem?_eq_getElem hf⟩
            obtain ⟨be', oe, hoe, hec⟩ := ns_at HME.out.1 (by omega)
            subst hoe
            have e0 := hec f x hxk
            have hux := HME.out.2 x (List.mem_of_getElem? hxk)
            have hge : E.me.getD f 0 = x := by rw [List.getD_eq_getElem?_getD, hxk]; rfl
            have HGE := Lib.hid hge
            have hwb := Pg.wid_bd P (-1) f
            obtain ⟨y, hy⟩ : ∃ y, y = Pg.wid P (-1) f := ⟨_, rfl⟩
            have HW1 : Hid (∀ w, Ext W w → Calls Try.prog 59 #[.agg #[.string s, .slice a1 P.hs.length m1, .slice a2 P.md.length m2, .slice a3 n3 m3, .slice a4 n4 m4, .slice a5 n5 m5, .slice a6 n6 m6, .slice a7 n7 m7, .slice a8 P.dp.length m8], .agg #[.int .i64 (-1), .int .i64 f]] w (Rets w (.int .i64 y))) := Lib.hid (fun w hx => by have h := rwidth_any (HP.out.ext hx) (-1) f; rw [← hy] at h; exact h)
            rw [← hy] at hwb
            have HY := Lib.hid hy
            have HFX0 := Lib.hid (fun w => rfits12_any (W := w) x y hux.1 hux.2 hwb.1 hwb.2)
            clear hxk hec hux hge hwb hy
            cases hb : decide (x ≤ Bv.mask y)
            · have HB := Lib.hid hb
              rw [hb] at HFX0
              have HFX := HFX0
              clear hb HFX0
              go_wp2_with fail
              refine wp_region_later (W := wo2) (by kernel_rfl) (by kernel_rfl) (Ext.refl _) ?_
              repeat (go_big_quiet_step (first
                | (go_at_call 59; exact Rets.later_at (HW1.out _ grows))
                | (go_at_call 58; exact Rets.later_eq (HFX.out _))))
              refine wpQuiet_nil ?_
              intro w2 hx3
              have s2 := Step.mk hx3
              go_wp2_with fail
              go_ret
              exact ⟨ret_int (by rw [Pg.chk_me HS.out (Pg.all_no hf (by rw [HGE.out, ← HY.out]; exact HB.out))]), grows⟩
            · have HB := Lib.hid hb
              rw [hb] at HFX0
              have HFX := HFX0
              clear hb HFX0
              go_wp2_with fail
              refine wp_region_later (W := wo2) (by kernel_rfl) (by kernel_rfl) (Ext.refl _) ?_
              repeat (go_big_quiet_step (first
                | (go_at_call 59; exact Rets.later_at (HW1.out _ grows))
                | (go_at_call 58; exact Rets.later_eq (HFX.out _))))
              refine wpQuiet_nil ?_
              intro w2 hx3
              have s2 := Step.mk hx3
              go_wp2_with fail
              go_roundw
              case rel =>
                refine ⟨f + 1, by omega, by go_num, by exact hx2.trans hx3, Lib.hid (fun j hj => ?_)⟩
                rcases Nat.lt_or_ge j f with h1 | h1
                · exact HZ2.out j h1
                · obtain rfl : j = f := by omega
                  rw [HGE.out, ← HY.out]; exact HB.out
              case measure => simp [intOf]; omega
          · obtain rfl : f = E.me.length := by omega
            have hm : Pg.fitB P (-1) E.me = true := Pg.all_yes HZ2.out
            have HM := Lib.hid hm
            clear hm HZ2 hfk hf
            go_wp2_with fail
            go_loopw [8] (fun i wr => ∃ k : Nat, k ≤ E.fi.length ∧ i = .int .i64 k ∧ wr = wo2 ∧ Hid (∀ j, j < k → (E.va.getD j false || Pg.zeroB (E.fi.getD j [])) = true)) (fun i _ => E.fi.length - (intOf i).toNat)
            case atStart => exact ⟨0, Nat.zero_le _, rfl, rfl, Lib.hid (by intro j hj; omega)⟩
            case round =>
              obtain ⟨k, hk, rfl, rfl, HZ⟩ := hrel
              by_cases hlt : k < E.fi.length
              · obtain ⟨l, hlk⟩ : ∃ x, E.fi[k]? = some x := ⟨_, List.getElem?_eq_getElem hlt⟩
                obtain ⟨ba, oa, hoa, _, _⟩ := Rows.at HFI.out (by omega)
                subst hoa
                obtain ⟨la, lc, p0, pl, pu⟩ := rows_at HFI.out k l hlk rfl
                have hgl : E.fi.getD k [] = l := by rw [List.getD_eq_getElem?_getD, hlk]; rfl
                have HGL := Lib.hid hgl
                have HPL := Lib.hid pl
                have HPU := Lib.hid pu
                clear hlk hgl pl pu
                obtain ⟨vb, hvk⟩ : ∃ x, E.va[k]? = some x := ⟨_, List.getElem?_eq_getElem (by omega)⟩
                obtain ⟨bv, ov, hov, hvc⟩ := bs_at HVA.out (by omega)
                subst hov
                have v0 := hvc k vb hvk
                have hgv : E.va.getD k false = vb := by rw [List.getD_eq_getElem?_getD, hvk]; rfl
                have HGV := Lib.hid hgv
                clear hvk hvc hgv
                have hlm := HPL.out.2
                unfold maxLen at hlm
                go_wp2_with fail
                go_loopw [9] (fun i wr' => ∃ f : Nat, f ≤ l.length ∧ i = .int .i64 f ∧ wr' = wr ∧ Hid (∀ j, j < f → (vb || (l.getD j 0 == 0)) = true)) (fun i _ => l.length - (intOf i).toNat)
                case atStart => exact ⟨0, Nat.zero_le _, rfl, rfl, Lib.hid (by intro j hj; omega)⟩
                case round =>
                  obtain ⟨f, hfk, rfl, rfl, HZ2⟩ := hrel
                  by_cases hf : f < l.length
                  · obtain ⟨x, hxk⟩ : ∃ x, l[f]? = some x := ⟨_, List.getElem?_eq_getElem hf⟩
                    obtain ⟨be', oe, hoe, hec⟩ := ns_at HPL.out (by omega)
                    subst hoe
                    have e0 := hec f x hxk
                    have hge : l.getD f 0 = x := by rw [List.getD_eq_getElem?_getD, hxk]; rfl
                    have HGE := Lib.hid hge
                    clear hxk hec hge
                    cases vb with
                    | true =>
                      go_wp2_with fail
                      go_roundw
                      case rel => exact ⟨f + 1, by omega, by go_num, (by first | exact rfl | trivial), Lib.hid (fun j hj => rfl)⟩
                      case measure => simp [intOf]; omega
                    | false =>
                      by_cases hz : x = 0
                      · have hzb : (x != 0) = false := by simp [hz]
                        have HZB := Lib.hid hz
                        clear hz
                        go_wp2_with fail
                        go_roundw
                        case rel =>
                          refine ⟨f + 1, by omega, by go_num, (by first | exact rfl | trivial), Lib.hid (fun j hj => ?_)⟩
                          rcases Nat.lt_or_ge j f with h1 | h1
                          · exact HZ2.out j h1
                          · obtain rfl : j = f := by omega
                            rw [HGE.out, HZB.out]; rfl
                        case measure => simp [intOf]; omega
                      · have hzb : (x != 0) = true := by simp [hz]
                        have HZB := Lib.hid hz
                        clear hz
                        go_wp2_with fail
                        go_ret
                        exact ⟨ret_int (by rw [Pg.chk_cl HS.out HM.out HFS.out (Pg.all_no hlt (by rw [HGV.out, HGL.out]; exact Pg.all_no hf (by rw [HGE.out]; simpa using HZB.out)))]), grows⟩
                  · obtain rfl : f = l.length := by omega
                    go_wp2_with fail
                    go_roundw
                    case rel =>
                      refine ⟨k + 1, by omega, by go_num, (by first | exact rfl | trivial), Lib.hid (fun j hj => ?_)⟩
                      rcases Nat.lt_or_ge j k with h1 | h1
                      · exact HZ.out j h1
                      · obtain rfl : j = k := by omega
                        rw [HGV.out, HGL.out]
                        cases vb with
                        | true => rfl
                        | false => exact Pg.all_yes (by simpa using HZ2.out)
                    case measure => simp [intOf]; omega
              · obtain rfl : k = E.fi.length := by omega
                go_wp2_with fail
                go_ret
                exact ⟨ret_int (by rw [Pg.chk_ok HS.out HM.out HFS.out (Pg.all_yes HZ.out)]), grows⟩
  · have hs' : Pg.shB P E = false := by simpa using hs
    have HS := Lib.hid hs'
    rw [hs']
    clear hs hs'
    go_wp2_with fail
    go_ret
    exact ⟨ret_int (by rw [Pg.chk_sh HS.out]), grows⟩
end Go.Proofs.Ytonnlcjkgpahoaa
