/- Parsers: what a run answers, plain; the law Appends, walked. No condition. -/
import Derived.Test.YtonnlcjkgpahoaaPqA
import Derived.Test.YtonnlcjkgpahoaaPqE
import Derived.Test.YtonnlcjkgpahoaaHdR
import Derived.Test.YtonnlcjkgpahoaaPqL
namespace Go.Proofs.Ytonnlcjkgpahoaa
open Go.RowKit

namespace Pg
theorem shB_len {P : Prog} {E : Env} (h : shB P E = true) : E.va.length = P.hs.length ∧ E.fi.length = P.hs.length ∧ E.me.length = P.md.length ∧ ∀ k, k < E.fi.length → (E.fi.getD k []).length = (P.hs.getD k (⟨#[]⟩, [])).2.length := by
  unfold shB at h
  simp only [Bool.and_eq_true, decide_eq_true_eq, List.all_eq_true, List.mem_range] at h
  exact ⟨h.1.1.1, h.1.1.2, h.1.2, h.2⟩
theorem chk_sh {P : Prog} {E : Env} (h : shB P E = false) : chkE P E = 2 := by unfold chkE; rw [h]; rfl
theorem chk_me {P : Prog} {E : Env} (h : shB P E = true) (h1 : fitB P (-1) E.me = false) : chkE P E = 9 := by unfold chkE; rw [h, h1]; rfl
theorem chk_fi {P : Prog} {E : Env} (h : shB P E = true) (h1 : fitsB P E = false) : chkE P E = 9 := by unfold chkE; rw [h, h1]; simp
theorem chk_cl {P : Prog} {E : Env} (h : shB P E = true) (h1 : fitB P (-1) E.me = true) (h2 : fitsB P E = true) (h3 : cleanB E = false) : chkE P E = 5 := by unfold chkE; rw [h, h1, h2, h3]; rfl
theorem chk_ok {P : Prog} {E : Env} (h : shB P E = true) (h1 : fitB P (-1) E.me = true) (h2 : fitsB P E = true) (h3 : cleanB E = true) : chkE P E = 0 := by unfold chkE; rw [h, h1, h2, h3]; rfl
end Pg

set_option maxRecDepth 8000 in
set_option maxHeartbeats 2000000 in
theorem echeck_any {W : World} {p : Pg.PV} {P : Pg.Prog} {e : Pg.EV} {E : Pg.Env} (hp : Pg.IsP W p P) (he : Pg.IsE W e E) :
    Calls Try.prog 69 #[p.val, e.val] W (Rets W (.int .i64 (Pg.chkE P E))) := by
  have HP := Lib.hid hp
  have HE := Lib.hid he
  obtain ⟨s, a1, a2, a3, a4, a5, a6, a7, a8, m1, m2, n3, m3, n4, m4, n5, m5, n6, m6, n7, m7, m8, hf⟩ := hp.form
  obtain ⟨rfl, hhs, hmd, _, hl1, hl2, _⟩ := hf
  obtain ⟨b0, b1, b2, b3, d0, d1, d2, d3, hg⟩ := he.form
  obtain ⟨rfl, hva, hfi, hme, hpl, g0, g1, g2, g3⟩ := hg
  dsimp only [Pg.PV.val, Pg.EV.val]
  have bb := alloc_heap W (.cells #[.string s, .slice a1 P.hs.length m1, .slice a2 P.md.length m2, .slice a3 n3 m3, .slice a4 n4 m4, .slice a5 n5 m5, .slice a6 n6 m6, .slice a7 n7 m7, .slice a8 P.dp.length m8] 31)
  have k0 := alw (cell_of (o := 0) bb)
  have k1 := alw (cell_of (o := 1) bb)
  have k2 := alw (cell_of (o := 2) bb)
  have k3 := alw (cell_of (o := 3) bb)
  have k4 := alw (cell_of (o := 4) bb)
  have k5 := alw (cell_of (o := 5) bb)
  have k6 := alw (cell_of (o := 6) bb)
  have k7 := alw (cell_of (o := 7) bb)
  have k8 := alw (cell_of (o := 8) bb)
  have be := alloc_heap (W.alloc (.cells #[.string s, .slice a1 P.hs.length m1, .slice a2 P.md.length m2, .slice a3 n3 m3, .slice a4 n4 m4, .slice a5 n5 m5, .slice a6 n6 m6, .slice a7 n7 m7, .slice a8 P.dp.length m8] 31)) (.cells #[.slice b0 E.va.length d0, .slice b1 E.fi.length d1, .slice b2 E.me.length d2, .slice b3 E.pl.length d3] 37)
  rw [World.size_alloc] at be
  have j0 := alw (cell_of (o := 0) be)
  have j1 := alw (cell_of (o := 1) be)
  have j2 := alw (cell_of (o := 2) be)
  have j3 := alw (cell_of (o := 3) be)
  have HVA := Lib.hid hva
  have HFI := Lib.hid hfi
  have HME := Lib.hid hme
  have HSH : Hid (∀ w, Ext W w → Calls Try.prog 96 #[.agg #[.string s, .slice a1 P.hs.length m1, .slice a2 P.md.length m2, .slice a3 n3 m3, .slice a4 n4 m4, .slice a5 n5 m5, .slice a6 n6 m6, .slice a7 n7 m7, .slice a8 P.dp.length m8], .agg #[.slice b0 E.va.length d0, .slice b1 E.fi.length d1, .slice b2 E.me.length d2, .slice b3 E.pl.length d3]] w (Rets w (.bool (Pg.shB P E)))) := Lib.hid (fun w hx => by have h := shaped_any (HP.out.ext hx) (HE.out.ext hx); exact h)
  have HFT : Hid (∀ w, Ext W w → ∀ (h : Int) (v : Value) (l : List Int), Ns .u32 W v l → (∀ x ∈ l, U32 x) → Calls Try.prog 97 #[.agg #[.string s, .slice a1 P.hs.length m1, .slice a2 P.md.length m2, .slice a3 n3 m3, .slice a4 n4 m4, .slice a5 n5 m5, .slice a6 n6 m6, .slice a7 n7 m7, .slice a8 P.dp.length m8], .int .i64 h, v] w (Rets w (.bool (Pg.fitB P h l)))) := Lib.hid (fun w hx h v l h1 h2 => by have h := fit_any (HP.out.ext hx) h (h1.ext hx) h2; exact h)
  clear bb be hp he hhs hmd hva hfi hme hpl
  go_enter Try.func69, Try.ntmps69
  go_wp2_with fail
  refine (HSH.out _ (grows (a := W))).mono ?_
  rintro e' w1 ⟨rfl, x1⟩
  have s1 := Step.mk x1
  by_cases hs : Pg.shB P E = true
  · have HS := Lib.hid hs
    obtain ⟨z1, z2, z3, _⟩ := Pg.shB_len hs
    have zz : E.fi.length ≤ E.va.length := by omega
    clear z1 z2 z3
    rw [hs]
    clear hs
    go_wp2_with fail
    refine (HFT.out _ (grows (a := W)) _ _ _ HME.out.1 HME.out.2).mono ?_
    rintro e' w2 ⟨rfl, x2⟩
    have s2 := Step.mk x2
    by_cases hm : Pg.fitB P (-1) E.me = true
    · have HM := Lib.hid hm
      rw [hm]
      clear hm
      go_wp2_with fail
      go_loopw [21] (fun i wr => ∃ k : Nat, k ≤ E.fi.length ∧ i = .int .i64 k ∧ Ext w2 wr ∧ Hid (∀ j, j < k → Pg.fitB P j (E.fi.getD j []) = true)) (fun i _ => E.fi.length - (intOf i).toNat)
      case atStart => exact ⟨0, Nat.zero_le _, rfl, Ext.refl _, Lib.hid (by intro j hj; omega)⟩
      case round =>
        obtain ⟨k, hk, rfl, hx, HZ⟩ := hrel
        have sx := Step.mk hx
        by_cases hlt : k < E.fi.length
        · obtain ⟨l, hlk⟩ : ∃ x, E.fi[k]? = some x := ⟨_, List.getElem?_eq_getElem hlt⟩
          obtain ⟨ba, oa, hoa, _, _⟩ := Rows.at HFI.out (by omega)
          subst hoa
          obtain ⟨la, lc, p0, pl, pu⟩ := rows_at HFI.out k l hlk rfl
          have hgl : E.fi.getD k [] = l := by rw [List.getD_eq_getElem?_getD, hlk]; rfl
          have HGL := Lib.hid hgl
          have HPL := Lib.hid pl
          have HPU := Lib.hid pu
          clear hlk hgl pl pu
          go_wp2_with fail
          refine (HFT.out _ (grows (a := W)) _ _ _ HPL.out HPU.out).mono ?_
          rintro e' w3 ⟨rfl, x3⟩
          have s3 := Step.mk x3
          by_cases hf : Pg.fitB P k l = true
          · have HF := Lib.hid hf
            rw [hf]
            clear hf
            go_wp2_with fail
            go_roundw
            case rel =>
              refine ⟨k + 1, by omega, by go_num, by exact hx.trans x3, Lib.hid (fun j hj => ?_)⟩
              rcases Nat.lt_or_ge j k with h1 | h1
              · exact HZ.out j h1
              · obtain rfl : j = k := by omega
                rw [HGL.out]; exact HF.out
            case measure => simp [intOf]; omega
          · have hf' : Pg.fitB P k l = false := by simpa using hf
            have HF := Lib.hid hf'
            rw [hf']
            clear hf hf'
            go_wp2_with fail
            go_ret
            exact ⟨ret_int (by rw [Pg.chk_fi HS.out (Pg.all_no hlt (by rw [HGL.out]; exact HF.out))]), grows⟩
        · obtain rfl : k = E.fi.length := by omega
          have hfs : Pg.fitsB P E = true := Pg.all_yes HZ.out
          have HFS := Lib.hid hfs
          clear hfs HZ hk hlt
          go_wp2_with fail
          go_loopw [35] (fun i wr' => ∃ k : Nat, k ≤ E.fi.length ∧ i = .int .i64 k ∧ wr' = wr ∧ Hid (∀ j, j < k → (E.va.getD j false || Pg.zeroB (E.fi.getD j [])) = true)) (fun i _ => E.fi.length - (intOf i).toNat)
          case atStart => exact ⟨0, Nat.zero_le _, rfl, rfl, Lib.hid (by intro j hj; omega)⟩
          case round =>
            obtain ⟨k, hk, rfl, rfl, HZ⟩ := hrel
            by_cases hlt : k < E.fi.length
            · obtain ⟨l, hlk⟩ : ∃ x, E.fi[k]? = some x := ⟨_, List.getElem?_eq_getElem hlt⟩
              obtain ⟨ba, oa, hoa, _, _⟩ := Rows.at HFI.out (by omega)
              subst hoa
              obtain ⟨la, lc, p0, pl, pu⟩ := rows_at HFI.out k l hlk rfl
              have hgl : E.fi.getD k [] = l := by rw [List.getD_eq_getElem?_getD, hlk]; rfl
              have HGL := Lib.hid hgl
              have HPL := Lib.hid pl
              have HPU := Lib.hid pu
              clear hlk hgl pl pu
              obtain ⟨vb, hvk⟩ : ∃ x, E.va[k]? = some x := ⟨_, List.getElem?_eq_getElem (by omega)⟩
              obtain ⟨bv, ov, hov, hvc⟩ := bs_at HVA.out (by omega)
              subst hov
              have v0 := hvc k vb hvk
              have hgv : E.va.getD k false = vb := by rw [List.getD_eq_getElem?_getD, hvk]; rfl
              have HGV := Lib.hid hgv
              clear hvk hvc hgv
              cases vb with
              | true =>
                go_wp2_with fail
                go_roundw
                case rel =>
                  refine ⟨k + 1, by omega, by go_num, (by first | exact rfl | trivial), Lib.hid (fun j hj => ?_)⟩
                  rcases Nat.lt_or_ge j k with h1 | h1
                  · exact HZ.out j h1
                  · obtain rfl : j = k := by omega
                    rw [HGV.out]; rfl
                case measure => simp [intOf]; omega
              | false =>
                go_wp2_with fail
                refine (zero_any (Ns.ext HPL.out grows)).mono ?_
                rintro e' w4 ⟨rfl, rfl⟩
                by_cases hz : Pg.zeroB l = true
                · have HZB := Lib.hid hz
                  rw [hz]
                  clear hz
                  go_wp2_with fail
                  go_roundw
                  case rel =>
                    refine ⟨k + 1, by omega, by go_num, (by first | exact rfl | trivial), Lib.hid (fun j hj => ?_)⟩
                    rcases Nat.lt_or_ge j k with h1 | h1
                    · exact HZ.out j h1
                    · obtain rfl : j = k := by omega
                      rw [HGV.out, HGL.out, HZB.out]; rfl
                  case measure => simp [intOf]; omega
                · have hz' : Pg.zeroB l = false := by simpa using hz
                  have HZB := Lib.hid hz'
                  rw [hz']
                  clear hz hz'
                  go_wp2_with fail
                  go_ret
                  exact ⟨ret_int (by rw [Pg.chk_cl HS.out HM.out HFS.out (Pg.all_no hlt (by rw [HGV.out, HGL.out, HZB.out]; rfl))]), grows⟩
            · obtain rfl : k = E.fi.length := by omega
              go_wp2_with fail
              go_ret
              exact ⟨ret_int (by rw [Pg.chk_ok HS.out HM.out HFS.out (Pg.all_yes HZ.out)]), grows⟩
    · have hm' : Pg.fitB P (-1) E.me = false := by simpa using hm
      have HM := Lib.hid hm'
      rw [hm']
      clear hm hm'
      go_wp2_with fail
      go_ret
      exact ⟨ret_int (by rw [Pg.chk_me HS.out HM.out]), grows⟩
  · have hs' : Pg.shB P E = false := by simpa using hs
    have HS := Lib.hid hs'
    rw [hs']
    clear hs hs'
    go_wp2_with fail
    go_ret
    exact ⟨ret_int (by rw [Pg.chk_sh HS.out]), grows⟩
end Go.Proofs.Ytonnlcjkgpahoaa
namespace Go.Proofs.Ytonnlcjkgpahoaa
open Go.RowKit

set_option maxRecDepth 8000 in
set_option maxHeartbeats 2000000 in
theorem rcheck12_any {W : World} {p : Pg.PV} {P : Pg.Prog} {e : Pg.EV} {E : Pg.Env} (hp : Pg.IsP W p P) (he : Pg.IsE W e E) :
    Calls Try.prog 34 #[p.val, e.val] W (Rets W (.int .i64 (Pg.chkE P E))) := by
  have HP := Lib.hid hp
  have HE := Lib.hid he
  obtain ⟨s, a1, a2, a3, a4, a5, a6, a7, a8, m1, m2, n3, m3, n4, m4, n5, m5, n6, m6, n7, m7, m8, hf⟩ := hp.form
  obtain ⟨rfl, hhs, hmd, _, hl1, hl2, _⟩ := hf
  obtain ⟨b0, b1, b2, b3, d0, d1, d2, d3, hg⟩ := he.form
  obtain ⟨rfl, hva, hfi, hme, hpl, g0, g1, g2, g3⟩ := hg
  dsimp only [Pg.PV.val, Pg.EV.val]
  have bb := alloc_heap W (.cells #[.string s, .slice a1 P.hs.length m1, .slice a2 P.md.length m2, .slice a3 n3 m3, .slice a4 n4 m4, .slice a5 n5 m5, .slice a6 n6 m6, .slice a7 n7 m7, .slice a8 P.dp.length m8] 31)
  have k0 := alw (cell_of (o := 0) bb)
  have k1 := alw (cell_of (o := 1) bb)
  have k2 := alw (cell_of (o := 2) bb)
  have k3 := alw (cell_of (o := 3) bb)
  have k4 := alw (cell_of (o := 4) bb)
  have k5 := alw (cell_of (o := 5) bb)
  have k6 := alw (cell_of (o := 6) bb)
  have k7 := alw (cell_of (o := 7) bb)
  have k8 := alw (cell_of (o := 8) bb)
  have be := alloc_heap (W.alloc (.cells #[.string s, .slice a1 P.hs.length m1, .slice a2 P.md.length m2, .slice a3 n3 m3, .slice a4 n4 m4, .slice a5 n5 m5, .slice a6 n6 m6, .slice a7 n7 m7, .slice a8 P.dp.length m8] 31)) (.cells #[.slice b0 E.va.length d0, .slice b1 E.fi.length d1, .slice b2 E.me.length d2, .slice b3 E.pl.length d3] 37)
  rw [World.size_alloc] at be
  have j0 := alw (cell_of (o := 0) be)
  have j1 := alw (cell_of (o := 1) be)
  have j2 := alw (cell_of (o := 2) be)
  have j3 := alw (cell_of (o := 3) be)
  have HVA := Lib.hid hva
  have HFI := Lib.hid hfi
  have HME := Lib.hid hme
  have HSH : Hid (∀ w, Ext W w → Calls Try.prog 57 #[.agg #[.string s, .slice a1 P.hs.length m1, .slice a2 P.md.length m2, .slice a3 n3 m3, .slice a4 n4 m4, .slice a5 n5 m5, .slice a6 n6 m6, .slice a7 n7 m7, .slice a8 P.dp.length m8], .agg #[.slice b0 E.va.length d0, .slice b1 E.fi.length d1, .slice b2 E.me.length d2, .slice b3 E.pl.length d3]] w (Rets w (.bool (Pg.shB P E)))) := Lib.hid (fun w hx => by have h := rshaped_any (HP.out.ext hx) (HE.out.ext hx); exact h)
  clear bb be hp he hhs hmd hva hfi hme hpl
  go_enter Try.func34, Try.ntmps34
  go_wp2_with fail
  refine (HSH.out _ (grows (a := W))).mono ?_
  rintro e' w1 ⟨rfl, x1⟩
  have s1 := Step.mk x1
  by_cases hs : Pg.shB P E = true
  · have HS := Lib.hid hs
    obtain ⟨z1, z2, z3, _⟩ := Pg.shB_len hs
    have zz : E.fi.length ≤ E.va.length := by omega
    clear z1 z2 z3
    rw [hs]
    clear hs
    go_wp2_with fail
    go_loopw [5] (fun i wr => ∃ k : Nat, k ≤ E.fi.length ∧ i = .int .i64 k ∧ Ext w1 wr ∧ Hid (∀ j, j < k → Pg.fitB P j (E.fi.getD j []) = true)) (fun i _ => E.fi.length - (intOf i).toNat)
    case atStart => exact ⟨0, Nat.zero_le _, rfl, Ext.refl _, Lib.hid (by intro j hj; omega)⟩
    case round =>
      obtain ⟨k, hk, rfl, hx, HZ⟩ := hrel
      obtain ⟨wo, rfl⟩ : ∃ wo : World, wo = wr := ⟨_, rfl⟩
      have sx := Step.mk hx
      by_cases hlt : k < E.fi.length
      · obtain ⟨l, hlk⟩ : ∃ x, E.fi[k]? = some x := ⟨_, List.getElem?_eq_getElem hlt⟩
        obtain ⟨ba, oa, hoa, _, _⟩ := Rows.at HFI.out (by omega)
        subst hoa
        obtain ⟨la, lc, p0, pl, pu⟩ := rows_at HFI.out k l hlk rfl
        have hgl : E.fi.getD k [] = l := by rw [List.getD_eq_getElem?_getD, hlk]; rfl
        have HGL := Lib.hid hgl
        have HPL := Lib.hid pl
        have HPU := Lib.hid pu
        clear hlk hgl pl pu
        have hlm := HPL.out.2
        unfold maxLen at hlm
        go_wp2_with fail
        go_loopw [6] (fun i wr => ∃ f : Nat, f ≤ l.length ∧ i = .int .i64 f ∧ Ext wo wr ∧ Hid (∀ j, j < f → decide (l.getD j 0 ≤ Bv.mask (Pg.wid P k j)) = true)) (fun i _ => l.length - (intOf i).toNat)
        case atStart => exact ⟨0, Nat.zero_le _, rfl, Ext.refl _, Lib.hid (by intro j hj; omega)⟩
        case round =>
          obtain ⟨f, hfk, rfl, hx2, HZ2⟩ := hrel
          obtain ⟨wo2, rfl⟩ : ∃ wo2 : World, wo2 = wr := ⟨_, rfl⟩
          have sx2 := Step.mk hx2
          by_cases hf : f < l.length
          · obtain ⟨x, hxk⟩ : ∃ x, l[f]? = some x := ⟨_, List.getElem?_eq_getElem hf⟩
            obtain ⟨be', oe, hoe, hec⟩ := ns_at HPL.out (by omega)
            subst hoe
            have e0 := hec f x hxk
            have hux := HPU.out x (List.mem_of_getElem? hxk)
            have hge : l.getD f 0 = x := by rw [List.getD_eq_getElem?_getD, hxk]; rfl
            have HGE := Lib.hid hge
            have hwb := Pg.wid_bd P (k : Int) f
            obtain ⟨y, hy⟩ : ∃ y, y = Pg.wid P (k : Int) f := ⟨_, rfl⟩
            have HW1 : Hid (∀ w, Ext W w → Calls Try.prog 59 #[.agg #[.string s, .slice a1 P.hs.length m1, .slice a2 P.md.length m2, .slice a3 n3 m3, .slice a4 n4 m4, .slice a5 n5 m5, .slice a6 n6 m6, .slice a7 n7 m7, .slice a8 P.dp.length m8], .agg #[.int .i64 (k : Int), .int .i64 f]] w (Rets w (.int .i64 y))) := Lib.hid (fun w hx => by have h := rwidth_any (HP.out.ext hx) (k : Int) f; rw [← hy] at h; exact h)
            rw [← hy] at hwb
            have HY := Lib.hid hy
            have HFX0 := Lib.hid (fun w => rfits12_any (W := w) x y hux.1 hux.2 hwb.1 hwb.2)
            clear hxk hec hux hge hwb hy
            cases hb : decide (x ≤ Bv.mask y)
            · have HB := Lib.hid hb
              rw [hb] at HFX0
              have HFX := HFX0
              clear hb HFX0
              go_wp2_with fail
              refine wp_region_later (W := wo2) (by kernel_rfl) (by kernel_rfl) (Ext.refl _) ?_
              repeat (go_big_quiet_step (first
                | (go_at_call 59; exact Rets.later_at (HW1.out _ grows))
                | (go_at_call 58; exact Rets.later_eq (HFX.out _))))
              refine wpQuiet_nil ?_
              intro w2 hx3
              have s2 := Step.mk hx3
              go_wp2_with fail
              go_ret
              exact ⟨ret_int (by rw [Pg.chk_fi HS.out (Pg.all_no hlt (by rw [HGL.out]; exact Pg.all_no hf (by rw [HGE.out, ← HY.out]; exact HB.out)))]), grows⟩
            · have HB := Lib.hid hb
              rw [hb] at HFX0
              have HFX := HFX0
              clear hb HFX0
              go_wp2_with fail
              refine wp_region_later (W := wo2) (by kernel_rfl) (by kernel_rfl) (Ext.refl _) ?_
              repeat (go_big_quiet_step (first
                | (go_at_call 59; exact Rets.later_at (HW1.out _ grows))
                | (go_at_call 58; exact Rets.later_eq (HFX.out _))))
              refine wpQuiet_nil ?_
              intro w2 hx3
              have s2 := Step.mk hx3
              go_wp2_with fail
              go_roundw
              case rel =>
                refine ⟨f + 1, by omega, by go_num, by exact hx2.trans hx3, Lib.hid (fun j hj => ?_)⟩
                rcases Nat.lt_or_ge j f with h1 | h1
                · exact HZ2.out j h1
                · obtain rfl : j = f := by omega
                  rw [HGE.out, ← HY.out]; exact HB.out
              case measure => simp [intOf]; omega
          · obtain rfl : f = l.length := by omega
            go_wp2_with fail
            go_roundw
            case rel =>
              refine ⟨k + 1, by omega, by go_num, by exact hx.trans hx2, Lib.hid (fun j hj => ?_)⟩
              rcases Nat.lt_or_ge j k with h1 | h1
              · exact HZ.out j h1
              · obtain rfl : j = k := by omega
                rw [HGL.out]; exact Pg.all_yes HZ2.out
            case measure => simp [intOf]; omega
      · obtain rfl : k = E.fi.length := by omega
        have hfs : Pg.fitsB P E = true := Pg.all_yes HZ.out
        have HFS := Lib.hid hfs
        clear hfs HZ hk hlt
        go_wp2_with fail
        go_loopw [7] (fun i wr => ∃ f : Nat, f ≤ E.me.length ∧ i = .int .i64 f ∧ Ext wo wr ∧ Hid (∀ j, j < f → decide (E.me.getD j 0 ≤ Bv.mask (Pg.wid P (-1) j)) = true)) (fun i _ => E.me.length - (intOf i).toNat)
        case atStart => exact ⟨0, Nat.zero_le _, rfl, Ext.refl _, Lib.hid (by intro j hj; omega)⟩
        case round =>
          obtain ⟨f, hfk, rfl, hx2, HZ2⟩ := hrel
          obtain ⟨wo2, rfl⟩ : ∃ wo2 : World, wo2 = wr := ⟨_, rfl⟩
          have sx2 := Step.mk hx2
          by_cases hf : f < E.me.length
          · obtain ⟨x, hxk⟩ : ∃ x, E.me[f]? = some x := ⟨_, List.getElem?_eq_getElem hf⟩
            obtain ⟨be', oe, hoe, hec⟩ := ns_at HME.out.1 (by omega)
            subst hoe
            have e0 := hec f x hxk
            have hux := HME.out.2 x (List.mem_of_getElem? hxk)
            have hge : E.me.getD f 0 = x := by rw [List.getD_eq_getElem?_getD, hxk]; rfl
            have HGE := Lib.hid hge
            have hwb := Pg.wid_bd P (-1) f
            obtain ⟨y, hy⟩ : ∃ y, y = Pg.wid P (-1) f := ⟨_, rfl⟩
            have HW1 : Hid (∀ w, Ext W w → Calls Try.prog 59 #[.agg #[.string s, .slice a1 P.hs.length m1, .slice a2 P.md.length m2, .slice a3 n3 m3, .slice a4 n4 m4, .slice a5 n5 m5, .slice a6 n6 m6, .slice a7 n7 m7, .slice a8 P.dp.length m8], .agg #[.int .i64 (-1), .int .i64 f]] w (Rets w (.int .i64 y))) := Lib.hid (fun w hx => by have h := rwidth_any (HP.out.ext hx) (-1) f; rw [← hy] at h; exact h)
            rw [← hy] at hwb
            have HY := Lib.hid hy
            have HFX0 := Lib.hid (fun w => rfits12_any (W := w) x y hux.1 hux.2 hwb.1 hwb.2)
            clear hxk hec hux hge hwb hy
            cases hb : decide (x ≤ Bv.mask y)
            · have HB := Lib.hid hb
              rw [hb] at HFX0
              have HFX := HFX0
              clear hb HFX0
              go_wp2_with fail
              refine wp_region_later (W := wo2) (by kernel_rfl) (by kernel_rfl) (Ext.refl _) ?_
              repeat (go_big_quiet_step (first
                | (go_at_call 59; exact Rets.later_at (HW1.out _ grows))
                | (go_at_call 58; exact Rets.later_eq (HFX.out _))))
              refine wpQuiet_nil ?_
              intro w2 hx3
              have s2 := Step.mk hx3
              go_wp2_with fail
              go_ret
              exact ⟨ret_int (by rw [Pg.chk_me HS.out (Pg.all_no hf (by rw [HGE.out, ← HY.out]; exact HB.out))]), grows⟩
            · have HB := Lib.hid hb
              rw [hb] at HFX0
              have HFX := HFX0
              clear hb HFX0
              go_wp2_with fail
              refine wp_region_later (W := wo2) (by kernel_rfl) (by kernel_rfl) (Ext.refl _) ?_
              repeat (go_big_quiet_step (first
                | (go_at_call 59; exact Rets.later_at (HW1.out _ grows))
                | (go_at_call 58; exact Rets.later_eq (HFX.out _))))
              refine wpQuiet_nil ?_
              intro w2 hx3
              have s2 := Step.mk hx3
              go_wp2_with fail
              go_roundw
              case rel =>
                refine ⟨f + 1, by omega, by go_num, by exact hx2.trans hx3, Lib.hid (fun j hj => ?_)⟩
                rcases Nat.lt_or_ge j f with h1 | h1
                · exact HZ2.out j h1
                · obtain rfl : j = f := by omega
                  rw [HGE.out, ← HY.out]; exact HB.out
              case measure => simp [intOf]; omega
          · obtain rfl : f = E.me.length := by omega
            have hm : Pg.fitB P (-1) E.me = true := Pg.all_yes HZ2.out
            have HM := Lib.hid hm
            clear hm HZ2 hfk hf
            go_wp2_with fail
            go_loopw [8] (fun i wr => ∃ k : Nat, k ≤ E.fi.length ∧ i = .int .i64 k ∧ wr = wo2 ∧ Hid (∀ j, j < k → (E.va.getD j false || Pg.zeroB (E.fi.getD j [])) = true)) (fun i _ => E.fi.length - (intOf i).toNat)
            case atStart => exact ⟨0, Nat.zero_le _, rfl, rfl, Lib.hid (by intro j hj; omega)⟩
            case round =>
              obtain ⟨k, hk, rfl, rfl, HZ⟩ := hrel
              by_cases hlt : k < E.fi.length
              · obtain ⟨l, hlk⟩ : ∃ x, E.fi[k]? = some x := ⟨_, List.getElem?_eq_getElem hlt⟩
                obtain ⟨ba, oa, hoa, _, _⟩ := Rows.at HFI.out (by omega)
                subst hoa
                obtain ⟨la, lc, p0, pl, pu⟩ := rows_at HFI.out k l hlk rfl
                have hgl : E.fi.getD k [] = l := by rw [List.getD_eq_getElem?_getD, hlk]; rfl
                have HGL := Lib.hid hgl
                have HPL := Lib.hid pl
                have HPU := Lib.hid pu
                clear hlk hgl pl pu
                obtain ⟨vb, hvk⟩ : ∃ x, E.va[k]? = some x := ⟨_, List.getElem?_eq_getElem (by omega)⟩
                obtain ⟨bv, ov, hov, hvc⟩ := bs_at HVA.out (by omega)
                subst hov
                have v0 := hvc k vb hvk
                have hgv : E.va.getD k false = vb := by rw [List.getD_eq_getElem?_getD, hvk]; rfl
                have HGV := Lib.hid hgv
                clear hvk hvc hgv
                have hlm := HPL.out.2
                unfold maxLen at hlm
                go_wp2_with fail
                go_loopw [9] (fun i wr' => ∃ f : Nat, f ≤ l.length ∧ i = .int .i64 f ∧ wr' = wr ∧ Hid (∀ j, j < f → (vb || (l.getD j 0 == 0)) = true)) (fun i _ => l.length - (intOf i).toNat)
                case atStart => exact ⟨0, Nat.zero_le _, rfl, rfl, Lib.hid (by intro j hj; omega)⟩
                case round =>
                  obtain ⟨f, hfk, rfl, rfl, HZ2⟩ := hrel
                  by_cases hf : f < l.length
                  · obtain ⟨x, hxk⟩ : ∃ x, l[f]? = some x := ⟨_, List.getElem?_eq_getElem hf⟩
                    obtain ⟨be', oe, hoe, hec⟩ := ns_at HPL.out (by omega)
                    subst hoe
                    have e0 := hec f x hxk
                    have hge : l.getD f 0 = x := by rw [List.getD_eq_getElem?_getD, hxk]; rfl
                    have HGE := Lib.hid hge
                    clear hxk hec hge
                    cases vb with
                    | true =>
                      go_wp2_with fail
                      go_roundw
                      case rel => exact ⟨f + 1, by omega, by go_num, (by first | exact rfl | trivial), Lib.hid (fun j hj => rfl)⟩
                      case measure => simp [intOf]; omega
                    | false =>
                      by_cases hz : x = 0
                      · have hzb : (x != 0) = false := by simp [hz]
                        have HZB := Lib.hid hz
                        clear hz
                        go_wp2_with fail
                        go_roundw
                        case rel =>
                          refine ⟨f + 1, by omega, by go_num, (by first | exact rfl | trivial), Lib.hid (fun j hj => ?_)⟩
                          rcases Nat.lt_or_ge j f with h1 | h1
                          · exact HZ2.out j h1
                          · obtain rfl : j = f := by omega
                            rw [HGE.out, HZB.out]; rfl
                        case measure => simp [intOf]; omega
                      · have hzb : (x != 0) = true := by simp [hz]
                        have HZB := Lib.hid hz
                        clear hz
                        go_wp2_with fail
                        go_ret
                        exact ⟨ret_int (by rw [Pg.chk_cl HS.out HM.out HFS.out (Pg.all_no hlt (by rw [HGV.out, HGL.out]; exact Pg.all_no hf (by rw [HGE.out]; simpa using HZB.out)))]), grows⟩
                  · obtain rfl : f = l.length := by omega
                    go_wp2_with fail
                    go_roundw
                    case rel =>
                      refine ⟨k + 1, by omega, by go_num, (by first | exact rfl | trivial), Lib.hid (fun j hj => ?_)⟩
                      rcases Nat.lt_or_ge j k with h1 | h1
                      · exact HZ.out j h1
                      · obtain rfl : j = k := by omega
                        rw [HGV.out, HGL.out]
                        cases vb with
                        | true => rfl
                        | false => exact Pg.all_yes (by simpa using HZ2.out)
                    case measure => simp [intOf]; omega
              · obtain rfl : k = E.fi.length := by omega
                go_wp2_with fail
                go_ret
                exact ⟨ret_int (by rw [Pg.chk_ok HS.out HM.out HFS.out (Pg.all_yes HZ.out)]), grows⟩
  · have hs' : Pg.shB P E = false := by simpa using hs
    have HS := Lib.hid hs'
    rw [hs']
    clear hs hs'
    go_wp2_with fail
    go_ret
    exact ⟨ret_int (by rw [Pg.chk_sh HS.out]), grows⟩
end Go.Proofs.Ytonnlcjkgpahoaa
namespace Go.Proofs.Ytonnlcjkgpahoaa
open Go.RowKit

namespace Ps
theorem bit_app {a b : List Int} {i : Nat} (h : i < 8 * a.length) : Io.bit (a ++ b) i = Io.bit a i := by
  unfold Io.bit
  rw [List.getD_eq_getElem?_getD, List.getD_eq_getElem?_getD, List.getElem?_append_left (by omega)]
theorem val_app {a b : List Int} {pos : Nat} : ∀ {k : Nat}, pos + k ≤ 8 * a.length → Io.val (a ++ b) pos k = Io.val a pos k
  | 0, _ => rfl
  | k + 1, h => by rw [Io.val_succ, Io.val_succ, val_app (by omega), bit_app (by omega)]
theorem vals_app {a b : List Int} : ∀ (ws : List Int) (pos : Nat), Hd.Wd ws → (pos : Int) + Hd.tot ws ≤ 8 * a.length → Hd.vals (a ++ b) ws pos = Hd.vals a ws pos
  | [], _, _, _ => rfl
  | w :: ws, pos, h, hp => by
    have h1 := h w (by simp)
    have h2 : Hd.Wd ws := fun n hn => h n (by simp [hn])
    have h3 := Hd.tot_bd h2
    rw [Hd.tot_cons] at hp
    simp only [Hd.vals]
    rw [val_app (by omega), vals_app ws _ h2 (by omega)]
theorem rE_zero {h : Hd.Hdr} {l : List Int} {pos : Nat} (h0 : Hd.rE h l pos = 0) : Hd.chk h = 0 ∧ (pos : Int) + Hd.tot (Hd.wds h.2) ≤ 8 * l.length := by
  unfold Hd.rE at h0
  by_cases hc : Hd.chk h = 0
  · rw [if_pos hc] at h0
    by_cases h1 : 8 * (l.length : Int) - pos < Hd.tot (Hd.wds h.2)
    · rw [if_pos h1] at h0; omega
    · exact ⟨hc, by omega⟩
  · rw [if_neg hc] at h0; exact absurd h0 hc
theorem rE_app {h : Hd.Hdr} {a b : List Int} {pos : Nat} (h0 : Hd.rE h a pos = 0) : Hd.rE h (a ++ b) pos = 0 := by
  obtain ⟨h1, h2⟩ := rE_zero h0
  unfold Hd.rE
  rw [if_pos h1, if_neg (by rw [List.length_append]; omega)]
theorem rV_app {h : Hd.Hdr} {a b : List Int} {pos : Nat} (h0 : Hd.rE h a pos = 0) : Hd.rV h (a ++ b) pos = Hd.rV h a pos := by
  obtain ⟨h1, h2⟩ := rE_zero h0
  unfold Hd.rV
  rw [if_pos h0, if_pos (rE_app h0), vals_app _ _ (Hd.chk_ok h1).2.2.2.1 h2]
theorem rP_app {h : Hd.Hdr} {a b : List Int} {pos : Nat} (h0 : Hd.rE h a pos = 0) : Hd.rP h (a ++ b) pos = Hd.rP h a pos := by
  unfold Hd.rP
  rw [if_pos h0, if_pos (rE_app h0)]
theorem ex_app {P : Pg.Prog} {a b : List Int} : ∀ (ex : List Int) (E : Pg.Env) (pos : Nat), (exAll P a ex E pos).1 = 0 → exAll P (a ++ b) ex E pos = exAll P a ex E pos
  | [], _, _, _ => rfl
  | h :: r, E, pos, h0 => by
    unfold exAll at h0 ⊢
    by_cases h1 : Hd.rE (hd P h) a pos = 0
    · rw [if_pos h1] at h0 ⊢
      rw [if_pos (rE_app h1), rV_app h1, rP_app h1]
      exact ex_app r _ _ h0
    · rw [if_neg h1] at h0; exact absurd h0 h1
theorem ex_pos {P : Pg.Prog} {l : List Int} : ∀ (ex : List Int) (E : Pg.Env) (pos : Nat), pos ≤ 8 * l.length → (exAll P l ex E pos).2.2 ≤ 8 * l.length
  | [], _, _, h => h
  | h :: r, E, pos, h1 => by
    unfold exAll
    split
    · exact ex_pos r _ _ (rP_bd _ _ _ h1)
    · exact h1
theorem ex_pl {P : Pg.Prog} {l : List Int} : ∀ (ex : List Int) (E : Pg.Env) (pos : Nat), (exAll P l ex E pos).2.1.pl = E.pl ∧ (exAll P l ex E pos).2.1.me = E.me
  | [], _, _ => ⟨rfl, rfl⟩
  | h :: r, E, pos => by
    unfold exAll
    split
    · exact ex_pl r _ _
    · exact ⟨rfl, rfl⟩
theorem go_app {P : Pg.Prog} {ss : List St} {a b : List Int} : ∀ (n : Nat) (s : Int) (E : Pg.Env) (pos : Nat) (ent : List Int), pos ≤ 8 * a.length → (go P ss a n s E pos ent).2.2 = 0 →
    go P ss (a ++ b) n s E pos ent = (⟨(go P ss a n s E pos ent).1.va, (go P ss a n s E pos ent).1.fi, (go P ss a n s E pos ent).1.me, (go P ss a n s E pos ent).1.pl ++ b⟩, (go P ss a n s E pos ent).2.1, 0)
  | 0, _, _, _, _, _, h => by cases h
  | n + 1, s, E, pos, ent, hp, h => by
    unfold go at h ⊢
    by_cases h1 : 0 ≤ s
    · rw [if_pos h1] at h ⊢
      by_cases h2 : (exAll P a (ss.getD s.toNat st0).ex E pos).1 = 0
      · rw [if_pos h2] at h ⊢
        rw [ex_app _ _ _ h2, if_pos h2, if_pos h1]
        exact go_app n _ _ _ _ (ex_pos _ _ _ hp) h
      · rw [if_neg h2] at h; exact absurd h h2
    · rw [if_neg h1] at h ⊢
      by_cases h2 : s = -2
      · rw [if_pos h2] at h; cases h
      · simp only [if_neg h1, if_neg h2]
        rw [List.drop_append_of_le_length (by omega)]
theorem parse_app {P : Pg.Prog} {ss : List St} {a b : List Int} (h : (parse P ss a).2.2 = 0) (hb : a.length + b.length ≤ 512) :
    parse P ss (a ++ b) = (⟨(parse P ss a).1.va, (parse P ss a).1.fi, (parse P ss a).1.me, (parse P ss a).1.pl ++ b⟩, (parse P ss a).2.1, 0) := by
  unfold parse at h ⊢
  by_cases h1 : bad P ss a.length = 0
  · have h2 : bad P ss (a ++ b).length = 0 := by
      unfold bad at h1 ⊢
      rw [List.length_append]
      split
      · rename_i h3
        rw [if_pos h3] at h1
        split
        · rw [if_neg (by omega)]
        · rename_i h4; rw [if_neg h4] at h1; exact absurd h1 (by decide)
      · rename_i h3; rw [if_neg h3] at h1; exact absurd h1 (by decide)
    rw [if_pos h1] at h ⊢
    rw [if_pos h2]
    exact go_app _ _ _ _ _ (by omega) h
  · rw [if_neg h1] at h; exact absurd h h1
/-- the validities after the headers of some states -/
def mark1 (ex : List Int) (v : List Bool) : List Bool := ex.foldl (fun v h => v.set h.toNat true) v
def marks (ss : List St) (ent : List Int) (v : List Bool) : List Bool := ent.foldl (fun v s => mark1 (ss.getD s.toNat st0).ex v) v
theorem marks_snoc (ss : List St) (ent : List Int) (s : Int) (v : List Bool) : marks ss (ent ++ [s]) v = mark1 (ss.getD s.toNat st0).ex (marks ss ent v) := by
  unfold marks; rw [List.foldl_append]; rfl
theorem ex_mark {P : Pg.Prog} {l : List Int} : ∀ (ex : List Int) (E : Pg.Env) (pos : Nat), (exAll P l ex E pos).1 = 0 → (exAll P l ex E pos).2.1.va = mark1 ex E.va
  | [], _, _, _ => rfl
  | h :: r, E, pos, h0 => by
    unfold exAll at h0 ⊢
    by_cases h1 : Hd.rE (hd P h) l pos = 0
    · rw [if_pos h1] at h0 ⊢
      rw [ex_mark r _ _ h0]; rfl
    · rw [if_neg h1] at h0; exact absurd h0 h1
/-- the states entered: in order, from 0 on, all there are -/
structure Asc (n : Nat) (s : Int) (ent : List Int) : Prop where
  bd : ∀ y ∈ ent, 0 ≤ y ∧ y < n ∧ (0 ≤ s → y < s)
  up : ∀ (i : Nat) (y z : Int), ent[i]? = some y → ent[i + 1]? = some z → y < z
  z : ∀ y, ent[0]? = some y → y = 0
  nil : ent = [] → s = 0
  lt : s < n
theorem Asc.snoc {n k : Nat} {ent : List Int} (h : Asc n k ent) {s : Int} (hs : leads n k s = true) : Asc n s (ent ++ [(k : Int)]) := by
  have hk := h.lt
  refine ⟨fun y hy => ?_, fun i y z hy hz => ?_, fun y hy => ?_, fun he => by simp at he, ?_⟩
  · rcases List.mem_append.1 hy with hy | hy
    · obtain ⟨a1, a2, a3⟩ := h.bd y hy
      refine ⟨a1, a2, fun h0 => ?_⟩
      have := a3 (by omega)
      rcases leads_or hs with e | e | e <;> omega
    · obtain rfl := List.mem_singleton.1 hy
      refine ⟨by omega, by omega, fun h0 => ?_⟩
      rcases leads_or hs with e | e | e <;> omega
  · have hl := (List.getElem?_eq_some_iff.1 hz).1
    rw [List.length_append, List.length_singleton] at hl
    rw [List.getElem?_append_left (by omega)] at hy
    rcases Nat.lt_or_ge (i + 1) ent.length with h1 | h1
    · rw [List.getElem?_append_left h1] at hz
      exact h.up i y z hy hz
    · rw [List.getElem?_append_right h1, show i + 1 - ent.length = 0 by omega] at hz
      simp only [List.getElem?_cons_zero, Option.some.injEq] at hz
      subst hz
      exact (h.bd y (List.mem_of_getElem? hy)).2.2 (by omega)
  · cases ent with
    | nil =>
      simp only [List.nil_append, List.getElem?_cons_zero, Option.some.injEq] at hy
      have := h.nil rfl; omega
    | cons a r => exact h.z y (by simpa using hy)
  · rcases leads_or hs with e | e | e <;> omega
/-- what the table of a run holds -/
structure Fil (P : Pg.Prog) (E : Pg.Env) : Prop where
  va : E.va.length = P.hs.length
  fi : E.fi.length = P.hs.length
  row : ∀ (k : Nat) (g : Hd.Hdr) (r : List Int), P.hs[k]? = some g → E.fi[k]? = some r → r.length = g.2.length ∧ (Hd.chk g = 0 → Hd.Fit r (Hd.wds g.2)) ∧ (E.va[k]? = some false → r = List.replicate g.2.length 0)
theorem vals_fit (l : List Int) : ∀ (ws : List Int) (pos : Nat), Hd.Wd ws → Hd.Fit (Hd.vals l ws pos) ws
  | [], _, _ => trivial
  | w :: ws, pos, h => ⟨(Io.val_bd _ _ _).1, (Io.val_bd _ _ _).2, vals_fit l ws _ (fun n hn => h n (by simp [hn]))⟩
theorem zero_fit : ∀ (ws : List Int) (n : Nat), n = ws.length → Hd.Fit (List.replicate n 0) ws
  | [], n, h => by subst h; trivial
  | w :: ws, n, h => by
    subst h
    exact ⟨Int.le_refl _, Int.pow_pos (by decide), zero_fit ws _ rfl⟩
theorem Fil.new (P : Pg.Prog) : Fil P (En.new P) :=
  ⟨by simp [En.new], En.newF_len P, fun k g r hg hr => by
    have e := En.newF_at (P := P) (k := k) (nm := g.1) (fs := g.2) hg
    have e2 : (En.newF P)[k]? = some r := hr
    rw [e] at e2
    obtain rfl := Option.some.inj e2
    exact ⟨by simp, fun _ => zero_fit _ _ (Hd.wds_len _).symm, fun _ => rfl⟩⟩
theorem hd_at {P : Pg.Prog} {k : Nat} {g : Hd.Hdr} (hk : P.hs[k]? = some g) : hd P k = g := by
  unfold hd; rw [Int.toNat_natCast, List.getD_eq_getElem?_getD, hk]; rfl
theorem Fil.set {P : Pg.Prog} {E : Pg.Env} (h : Fil P E) {l : List Int} {pos k : Nat} (h0 : Hd.rE (hd P k) l pos = 0) : Fil P (setH E k (Hd.rV (hd P k) l pos)) := by
  refine ⟨by simp [setH, h.va], by simp [setH, h.fi], fun j g r hg hr => ?_⟩
  have hr' : (E.fi.set k (Hd.rV (hd P k) l pos))[j]? = some r := hr
  by_cases e : k = j
  · subst e
    have hl := (List.getElem?_eq_some_iff.1 hr').1
    rw [List.length_set] at hl
    rw [List.getElem?_set_self hl, hd_at hg] at hr'
    obtain rfl := Option.some.inj hr'
    rw [hd_at hg] at h0
    have hc := (rE_zero h0).1
    have hw := (Hd.chk_ok hc).2.2.2.1
    have ev : Hd.rV g l pos = Hd.vals l (Hd.wds g.2) pos := by unfold Hd.rV; rw [if_pos h0]
    rw [ev]
    refine ⟨by rw [Hd.vals_len, Hd.wds_len], fun _ => vals_fit _ _ _ hw, fun hv => ?_⟩
    have hv' : (E.va.set k true)[k]? = some false := hv
    rw [List.getElem?_set_self (by rw [h.va, ← h.fi]; exact hl)] at hv'
    simp at hv'
  · rw [List.getElem?_set_ne e] at hr'
    obtain ⟨a1, a2, a3⟩ := h.row j g r hg hr'
    refine ⟨a1, a2, fun hv => a3 ?_⟩
    have hv' : (E.va.set k true)[j]? = some false := hv
    rw [List.getElem?_set_ne e] at hv'
    exact hv'
theorem Fil.pl {P : Pg.Prog} {E : Pg.Env} (h : Fil P E) (pl : List Int) : Fil P ⟨E.va, E.fi, E.me, pl⟩ := ⟨h.va, h.fi, h.row⟩
theorem ex_fil {P : Pg.Prog} {l : List Int} : ∀ (ex : List Int) (E : Pg.Env) (pos : Nat), (∀ h ∈ ex, 0 ≤ h) → Fil P E → Fil P (exAll P l ex E pos).2.1
  | [], _, _, _, h => h
  | h :: r, E, pos, hz, hf => by
    unfold exAll
    split
    · rename_i h1
      have h2 := hz h (by simp)
      obtain ⟨k, rfl⟩ := Int.eq_ofNat_of_zero_le h2
      exact ex_fil r _ _ (fun x hx => hz x (by simp [hx])) (by rw [Int.toNat_natCast]; exact hf.set h1)
    · exact hf
theorem ex_err {P : Pg.Prog} {l : List Int} (G : ∀ (k : Nat) (g : Hd.Hdr), P.hs[k]? = some g → Hd.chk g = 0) : ∀ (ex : List Int) (E : Pg.Env) (pos : Nat), (∀ h ∈ ex, 0 ≤ h ∧ h < P.hs.length) → (exAll P l ex E pos).1 = 0 ∨ (exAll P l ex E pos).1 = 3
  | [], _, _, _ => .inl rfl
  | h :: r, E, pos, hz => by
    unfold exAll
    split
    · exact ex_err G r _ _ (fun x hx => hz x (by simp [hx]))
    · rename_i h1
      obtain ⟨h2, h3⟩ := hz h (by simp)
      obtain ⟨k, rfl⟩ := Int.eq_ofNat_of_zero_le h2
      have hk : P.hs[k]? = some P.hs[k] := List.getElem?_eq_getElem (by omega)
      right
      dsimp only
      rw [hd_at hk] at h1 ⊢
      unfold Hd.rE at h1 ⊢
      rw [if_pos (G _ _ hk)] at h1 ⊢
      split
      · rfl
      · rename_i h4; rw [if_neg h4] at h1; exact absurd rfl h1
theorem st_mem {ss : List St} {k : Nat} {x : St} (hk : ss[k]? = some x) : ss.getD ((k : Int)).toNat st0 = x := by rw [Int.toNat_natCast, List.getD_eq_getElem?_getD, hk]; rfl
/-- what a run answers -/
structure Ans (P : Pg.Prog) (ss : List St) (E : Pg.Env) (ent : List Int) (f : Int) : Prop where
  err : f = 0 ∨ f = 3 ∨ f = 15
  asc : ∃ s, Asc ss.length s ent
  ne : ent ≠ []
  bad : f ≠ 0 → E = En.new P
  fil : f = 0 → Fil P E
  mark : f = 0 → E.va = marks ss ent (List.replicate P.hs.length false)
  me : f = 0 → E.me = List.replicate P.md.length 0
theorem go_ans {P : Pg.Prog} {ss : List St} {l : List Int} (G : GoodP P ss) : ∀ (n : Nat) (s : Int) (E : Pg.Env) (pos : Nat) (ent : List Int), (0 ≤ s → (ss.length : Int) + 1 ≤ n + s) → (s < 0 → 1 ≤ n ∧ (s = -1 ∨ s = -2) ∧ ent ≠ []) → Asc ss.length s ent → Fil P E → E.va = marks ss ent (List.replicate P.hs.length false) → E.me = List.replicate P.md.length 0 →
    Ans P ss (go P ss l n s E pos ent).1 (go P ss l n s E pos ent).2.1 (go P ss l n s E pos ent).2.2
  | 0, s, E, pos, ent, h1, h2, ha, _, _, _ => by
    have := ha.lt
    rcases (by omega : s < 0 ∨ 0 ≤ s) with h | h
    · exact absurd (h2 h).1 (by decide)
    · have := h1 h; omega
  | n + 1, s, E, pos, ent, h1, h2, ha, hf, hm, he => by
    rcases (by omega : s < 0 ∨ 0 ≤ s) with h | h
    · obtain ⟨_, h3, h4⟩ := h2 h
      rcases h3 with rfl | rfl
      · rw [go_acc]
        exact ⟨.inl rfl, ⟨_, ha⟩, h4, fun h => absurd rfl h, fun _ => hf.pl _, fun _ => hm, fun _ => he⟩
      · rw [go_rej]
        exact ⟨.inr (.inr rfl), ⟨_, ha⟩, h4, fun _ => rfl, fun h => by (cases h), fun h => by (cases h), fun h => by (cases h)⟩
    · obtain ⟨k, rfl⟩ := Int.eq_ofNat_of_zero_le h
      have hlt := ha.lt
      have hk : ss[k]? = some ss[k] := List.getElem?_eq_getElem (by omega)
      have so := G.st k _ hk
      have hex : ∀ h ∈ (ss[k]).ex, 0 ≤ h ∧ h < P.hs.length := fun h hh => by
        obtain ⟨j, hj, e⟩ := List.mem_iff_getElem.1 hh
        exact so.ex j h (by rw [← e]; exact List.getElem?_eq_getElem hj)
      by_cases h0 : (exAll P l (ss[k]).ex E pos).1 = 0
      · rw [go_read hk h0]
        have hl := so.next (En.get (exAll P l (ss[k]).ex E pos).2.1 (ss[k]).h (ss[k]).f)
        have h1' := h1 h
        refine go_ans G n _ _ _ _ (fun h3 => ?_) (fun h3 => ⟨?_, ?_, by simp⟩) (ha.snoc hl) (ex_fil _ _ _ (fun h hh => (hex h hh).1) hf) ?_ ?_
        · rcases leads_or hl with e | e | e <;> omega
        · omega
        · rcases leads_or hl with e | e | e
          · exact .inl e
          · exact .inr e
          · omega
        · rw [ex_mark _ _ _ h0, marks_snoc, st_mem hk, hm]
        · rw [(ex_pl _ _ _).2, he]
      · rw [go_err hk h0]
        have h3 := (ex_err (l := l) G.hdr (ss[k]).ex E pos hex).resolve_left h0
        refine ⟨.inr (.inl h3), ⟨-1, ha.snoc (leads_acc' _ _)⟩, by simp, fun _ => rfl, fun h => absurd h h0, fun h => absurd h h0, fun h => absurd h h0⟩
where leads_acc' (n : Nat) (s : Int) : leads n s (-1) = true := by simp [leads]
theorem asc0 {n : Nat} (h : 0 < n) : Asc n 0 [] := ⟨by simp, by simp, by simp, fun _ => rfl, by omega⟩
theorem parse_ans {P : Pg.Prog} {ss : List St} {l : List Int} (h : bad P ss l.length = 0) : Ans P ss (parse P ss l).1 (parse P ss l).2.1 (parse P ss l).2.2 := by
  obtain ⟨G, _⟩ := bad_ok h
  unfold parse
  rw [if_pos h]
  exact go_ans G _ _ _ _ _ (by omega) (fun h => absurd h (by decide)) (asc0 G.pos) (Fil.new P) rfl rfl
theorem bad_vals (P : Pg.Prog) (ss : List St) (n : Nat) : bad P ss n = 0 ∨ bad P ss n = 2 ∨ bad P ss n = 4 := by
  unfold bad
  split
  · split
    · split
      · exact .inr (.inr rfl)
      · exact .inl rfl
    · exact .inr (.inl rfl)
  · exact .inr (.inl rfl)
theorem fit_at : ∀ {r ws : List Int} {i : Nat} {w : Int}, Hd.Fit r ws → ws[i]? = some w → 0 ≤ r.getD i 0 ∧ r.getD i 0 < 2 ^ w.toNat
  | x :: r, y :: ws, 0, w, h, hw => by
    simp only [List.getElem?_cons_zero, Option.some.injEq] at hw
    subst hw; exact ⟨h.1, h.2.1⟩
  | x :: r, y :: ws, i + 1, w, h, hw => by
    have := fit_at (r := r) (ws := ws) (i := i) (w := w) h.2.2 (by simpa using hw)
    simpa using this
  | [], y :: ws, _, _, h, _ => h.elim
  | _, [], _, _, _, hw => by simp at hw
theorem fil_chk {P : Pg.Prog} {E : Pg.Env} (hf : Fil P E) (G : ∀ (k : Nat) (g : Hd.Hdr), P.hs[k]? = some g → Hd.chk g = 0) (hm : E.me = List.replicate P.md.length 0) : Pg.chkE P E = 0 := by
  have hg0 : ∀ n j : Nat, (List.replicate n (0 : Int)).getD j 0 = 0 := fun n j => by rw [List.getD_eq_getElem?_getD, List.getElem?_replicate]; split <;> rfl
  refine Pg.chk_ok ?_ ?_ (Pg.all_yes fun k hk => ?_) (Pg.all_yes fun k hk => ?_)
  · unfold Pg.shB
    simp only [Bool.and_eq_true, decide_eq_true_eq]
    refine ⟨⟨⟨hf.va, hf.fi⟩, by rw [hm, List.length_replicate]⟩, Pg.all_yes fun k hk => ?_⟩
    have hr : E.fi[k]? = some E.fi[k] := List.getElem?_eq_getElem hk
    have hg : P.hs[k]? = some (P.hs[k]'(by rw [← hf.fi]; exact hk)) := List.getElem?_eq_getElem (by rw [← hf.fi]; exact hk)
    rw [List.getD_eq_getElem?_getD, List.getD_eq_getElem?_getD, hr, hg]
    exact decide_eq_true (hf.row k _ _ hg hr).1
  · rw [hm]; exact Pg.all_yes fun j _ => by rw [hg0]; exact decide_eq_true (Bv.mask_bd _).1
  · have hr : E.fi[k]? = some E.fi[k] := List.getElem?_eq_getElem hk
    obtain ⟨⟨nm, fs⟩, hg⟩ : ∃ x, P.hs[k]? = some x := ⟨_, List.getElem?_eq_getElem (by rw [← hf.fi]; exact hk)⟩
    obtain ⟨a1, a2, _⟩ := hf.row k _ _ hg hr
    have hw := (Hd.chk_ok (G k _ hg)).2.2.2.1
    dsimp only at hw
    have hff : Pg.flds P (k : Int) = fs := by
      unfold Pg.flds
      rw [if_neg (by omega), Pg.hdrAt_in hg]
    rw [List.getD_eq_getElem?_getD, hr]
    refine Pg.all_yes fun i hi => decide_eq_true ?_
    obtain ⟨⟨nk, x⟩, hx⟩ : ∃ x, fs[i]? = some x := ⟨_, List.getElem?_eq_getElem (by dsimp only [Option.getD_some] at hi a1; omega)⟩
    have hx2 := Hd.Wd.at hw hx
    rw [Pg.wid_in hff hx, if_pos (Bv.ok_of hx2.1 hx2.2)]
    unfold Bv.mask
    rw [if_pos (Bv.ok_of hx2.1 hx2.2)]
    have h3 := fit_at (i := i) (w := x) (a2 (G k _ hg)) (by unfold Hd.wds; rw [List.getElem?_map, hx]; rfl)
    have : Bv.pw x = 2 ^ x.toNat := rfl
    show (E.fi[k]).getD i 0 ≤ _
    omega
  · have hr : E.fi[k]? = some E.fi[k] := List.getElem?_eq_getElem hk
    obtain ⟨g, hg⟩ : ∃ x, P.hs[k]? = some x := ⟨_, List.getElem?_eq_getElem (by rw [← hf.fi]; exact hk)⟩
    obtain ⟨vb, hv⟩ : ∃ x, E.va[k]? = some x := ⟨_, List.getElem?_eq_getElem (by rw [hf.va, ← hf.fi]; exact hk)⟩
    rw [List.getD_eq_getElem?_getD, List.getD_eq_getElem?_getD, hr, hv]
    cases vb with
    | true => rfl
    | false =>
      have e := (hf.row k _ _ hg hr).2.2 hv
      show (false || Pg.zeroB E.fi[k]) = true
      rw [e, Bool.false_or]
      exact Pg.all_yes fun j _ => by rw [hg0]; rfl
end Ps
end Go.Proofs.Ytonnlcjkgpahoaa
namespace Go.Proofs.Ytonnlcjkgpahoaa
open Go.RowKit

theorem OwnE.grownPl {w w' : World} {B : Nat} {e : Pg.EV} {vs : List Value} {E : Pg.Env} (h : OwnE B w e vs E) (hg : w.grownBy w' e.c3.ownBlock) {v' : Value} {l' : List Int} (hv : w'.ownsRow B 5 1 v' l'.length (l'.map (.int .u8))) (hb : Io.Bytes l') : OwnE B w' ⟨e.c0, e.c1, e.c2, v'⟩ vs ⟨E.va, E.fi, E.me, l'⟩ :=
  ⟨own_side h.va h.pl hg (by decide), ⟨h.fi.1, own_side h.fi.2.1 h.pl hg (by decide), fun i u l hu hl => ⟨own_side (h.fi.2.2.1 i u l hu hl).1 h.pl hg (by decide), (h.fi.2.2.1 i u l hu hl).2⟩, h.fi.2.2.2⟩, own_side h.me h.pl hg (by decide), h.mu, hv, hb, h.mr⟩
theorem Mod.past {S U : Nat → Prop} {a b c : World} (h : Mod S a b) (k : Mod U b c) (hU : ∀ i, U i → a.heap.size ≤ i) : Mod S a c :=
  ⟨k.os.trans h.os, k.tape.trans h.tape, k.output.trans h.output, Nat.le_trans h.size k.size, fun i hi hs => (k.block i (Nat.lt_of_lt_of_le hi h.size) (fun ht => by have := hU i ht; omega)).trans (h.block i hi hs)⟩
theorem own_empty {w : World} {B g : Nat} {e : TypeId} (hg : w.heap[g]? = some (.cells #[] e (0, 0))) (hB : B ≤ g) : w.ownsRow B e 1 (.slice (some ⟨g, 0, none⟩) 0 0) 0 [] := ⟨by simp, .inr ⟨g, 0, #[], rfl, hB, hg, Nat.le_refl _, Nat.zero_le _, by simp, by simp⟩⟩
namespace Ps
theorem go_pl {P : Pg.Prog} {ss : List St} {l : List Int} : ∀ (n : Nat) (s : Int) (E : Pg.Env) (pos : Nat) (ent : List Int), E.pl = [] → (go P ss l n s E pos ent).1.pl.length ≤ l.length
  | 0, _, _, _, _, h => by show (List.length _) ≤ _; unfold go; rw [h]; exact Nat.zero_le _
  | n + 1, s, E, pos, ent, h => by
    unfold go
    split
    · split
      · exact go_pl n _ _ _ _ (by rw [(ex_pl _ _ _).1, h])
      · exact Nat.zero_le _
    · split
      · exact Nat.zero_le _
      · dsimp only; rw [List.length_drop]; omega
theorem parse_pl {P : Pg.Prog} {ss : List St} {l : List Int} : (parse P ss l).1.pl.length ≤ l.length := by
  unfold parse
  split
  · exact go_pl _ _ _ _ _ rfl
  · exact Nat.zero_le _
theorem parse_cap {P : Pg.Prog} {ss : List St} {l : List Int} {RE : Pg.Env} {RL : List Int} (hR : (RE, RL, (0 : Int)) = parse P ss l) (hcp : En.CapP P) (hl : l.length ≤ 600) : En.CapE RE := by
  have hb : bad P ss l.length = 0 := by
    unfold parse at hR
    split at hR
    · rename_i h; exact h
    · rename_i h
      simp only [Prod.mk.injEq] at hR
      exact absurd hR.2.2.symm h
  have ha := parse_ans (l := l) hb
  have hp := parse_pl (P := P) (ss := ss) (l := l)
  rw [← hR] at ha hp
  have hf := ha.fil rfl
  refine ⟨by rw [hf.va]; exact hcp.1, by rw [hf.fi]; exact hcp.1, by rw [ha.me rfl, List.length_replicate]; exact hcp.2.1, by dsimp only at hp; omega, fun r hr => ?_⟩
  obtain ⟨k, hk, rfl⟩ := List.mem_iff_getElem.1 hr
  have hg : P.hs[k]? = some (P.hs[k]'(by rw [← hf.fi]; exact hk)) := List.getElem?_eq_getElem _
  have h1 := (hf.row k _ _ hg (List.getElem?_eq_getElem hk)).1
  have h2 := hcp.2.2 _ (List.mem_of_getElem? hg)
  omega
end Ps
set_option maxRecDepth 8000 in
set_option maxHeartbeats 16000000 in
theorem parserAppends_walk (v0 : Value) (da : Option Addr) (n0 dc : Nat) (zs : List Int) (db : Option Addr) (n1 dd : Nat) (ys : List Int) (W : World) {b0 : Nat} {rr : Reach} {H : Type} {enc : TypeId × Value → H} {d0 : DataW H} {p0 : List MemPlace}
    (ok0 : Value.okWide Try.prog W rr b0 31 v0) (h0 : DataW.Trod enc Try.prog W 0 (fun _ => true) true 31 v0 d0 p0) (r0 : IsRow .u8 W da n0 dc zs) (r1 : IsRow .u8 W db n1 dd ys) :
    Calls Try.prog 8 #[v0, .slice da n0 dc, .slice db n1 dd] W (Rets W (.bool true)) := by
  obtain ⟨l, rfl, hl0, hsrc, bl⟩ := row_take r0
  obtain ⟨m, rfl, hm0, hsrm, bm⟩ := row_take r1
  have hby : Io.Bytes l := wf_any bl
  have hbm : Io.Bytes m := wf_any bm
  have hbb : Io.Bytes (l ++ m) := fun b hb => by rcases List.mem_append.1 hb with h | h; (· exact hby b h); (· exact hbm b h)
  unfold maxLen at hl0 hm0
  clear r0 r1 bl bm
  obtain ⟨p, P, ss, rfl, hq⟩ := qprog_take ok0 h0
  clear ok0 h0 d0
  obtain ⟨s, a1, a2, a3, a4, a5, a6, a7, a8, m1, m2, n3, m3, n4, m4, n5, m5, n6, m6, n7, m7, m8, hf⟩ := hq.1.form
  obtain ⟨rfl, hhs, hmd, _, hl1, hl2, _⟩ := hf
  have hss := hq.2
  dsimp only at hss
  obtain ⟨a6', m6', e6, hl6, hc6⟩ := hss.slice
  simp only [Value.slice.injEq] at e6
  obtain ⟨rfl, rfl, rfl⟩ := e6
  unfold maxLen at hc6
  obtain ⟨ob, hob⟩ : ∃ z, z = Ps.okQ P ss := ⟨_, rfl⟩
  have HTL : Hid (∀ w, Ext W w → Calls Try.prog 21 #[.agg #[.string s, .slice a1 P.hs.length m1, .slice a2 P.md.length m2, .slice a3 n3 m3, .slice a4 n4 m4, .slice a5 n5 m5, .slice a6 ss.length m6, .slice a7 n7 m7, .slice a8 P.dp.length m8]] w (Rets w (.bool (!ob)))) := Lib.hid (fun w hx => by have h := qtoolarge_any (hq.ext hx); rw [← hob] at h; exact h)
  have bx := alloc_heap W (.cells #[.string s, .slice a1 P.hs.length m1, .slice a2 P.md.length m2, .slice a3 n3 m3, .slice a4 n4 m4, .slice a5 n5 m5, .slice a6 ss.length m6, .slice a7 n7 m7, .slice a8 P.dp.length m8] 31)
  have pc0 := alw (cell_of (o := 0) bx)
  have pc1 := alw (cell_of (o := 1) bx)
  have pc2 := alw (cell_of (o := 2) bx)
  have pc3 := alw (cell_of (o := 3) bx)
  have pc4 := alw (cell_of (o := 4) bx)
  have pc5 := alw (cell_of (o := 5) bx)
  have pc6 := alw (cell_of (o := 6) bx)
  have pc7 := alw (cell_of (o := 7) bx)
  have pc8 := alw (cell_of (o := 8) bx)
  clear bx
  cases ob with
  | false =>
    clear hq hhs hmd hss hob hsrc hsrm hby hbm hbb
    dsimp only [Pg.PV.val]
    go_enter Try.func8, Try.ntmps8
    go_wp2_with fail
    refine (HTL.out _ grows).mono ?_
    rintro e w1 ⟨rfl, xw1⟩
    have sw1 := Step.mk xw1
    clear xw1
    go_wp2_with fail
    refine (pworks_any _).mono ?_
    rintro e wk ⟨rfl, xwk⟩
    have swk := Step.mk xwk
    clear xwk
    go_wp2_with fail
    go_ret
    exact ⟨rfl, grows⟩
  | true =>
    have hcp := Ps.okQ_cap hob.symm
    by_cases hl6 : l.length ≤ 600
    · have g1 : decide ((600 : Int) < (l.length : Int)) = false := decide_eq_false (by omega)
      by_cases hm6 : m.length ≤ 600
      · have g2 : decide ((600 : Int) < (m.length : Int)) = false := decide_eq_false (by omega)
        by_cases hlm : l.length + m.length ≤ 512
        · have g3 : decide ((512 : Int) < (l.length : Int) + (m.length : Int)) = false := decide_eq_false (by omega)
          obtain ⟨⟨RE, RL, RF⟩, hR⟩ : ∃ z, z = Ps.parse P ss l := ⟨_, rfl⟩
          obtain ⟨⟨SE, SL, SF⟩, hS⟩ : ∃ z, z = Ps.parse P ss (l ++ m) := ⟨_, rfl⟩
          have HP1 : Hid (∀ w, Ext W w → Calls Try.prog 25 #[.agg #[.string s, .slice a1 P.hs.length m1, .slice a2 P.md.length m2, .slice a3 n3 m3, .slice a4 n4 m4, .slice a5 n5 m5, .slice a6 ss.length m6, .slice a7 n7 m7, .slice a8 P.dp.length m8], .slice da l.length dc] w (ParseP w (RE, RL, RF))) := Lib.hid (fun w hx  => by have h := pparse_any (hq.ext hx) hcp (hsrc.ext hx) hby (by omega); rw [← hR] at h; exact h)
          have HS1 : Hid (∀ w, Ext W w → Calls Try.prog 29 #[.agg #[.string s, .slice a1 P.hs.length m1, .slice a2 P.md.length m2, .slice a3 n3 m3, .slice a4 n4 m4, .slice a5 n5 m5, .slice a6 ss.length m6, .slice a7 n7 m7, .slice a8 P.dp.length m8], .slice da l.length dc] w (StatesP w (RE, RL, RF))) := Lib.hid (fun w hx  => by have h := pstates_any (hq.ext hx) hcp (hsrc.ext hx) hby (by omega); rw [← hR] at h; exact h)
          have HP2 : Hid (∀ w, Ext W w → ∀ (dz : Option Addr) (dy : Nat), Src w (.slice dz (l.length + m.length) dy) 1 (l.length + m.length) (u8s (l ++ m)) → Calls Try.prog 25 #[.agg #[.string s, .slice a1 P.hs.length m1, .slice a2 P.md.length m2, .slice a3 n3 m3, .slice a4 n4 m4, .slice a5 n5 m5, .slice a6 ss.length m6, .slice a7 n7 m7, .slice a8 P.dp.length m8], .slice dz (l.length + m.length) dy] w (ParseP w (SE, SL, SF))) := Lib.hid (fun w hx dz dy hs => by have h := pparse_any (hq.ext hx) hcp (l := l ++ m) (da := dz) (dc := dy) (by rw [List.length_append]; exact hs) hbb (by rw [List.length_append]; omega); rw [← hS, List.length_append] at h; exact h)
          have HS2 : Hid (∀ w, Ext W w → ∀ (dz : Option Addr) (dy : Nat), Src w (.slice dz (l.length + m.length) dy) 1 (l.length + m.length) (u8s (l ++ m)) → Calls Try.prog 29 #[.agg #[.string s, .slice a1 P.hs.length m1, .slice a2 P.md.length m2, .slice a3 n3 m3, .slice a4 n4 m4, .slice a5 n5 m5, .slice a6 ss.length m6, .slice a7 n7 m7, .slice a8 P.dp.length m8], .slice dz (l.length + m.length) dy] w (StatesP w (SE, SL, SF))) := Lib.hid (fun w hx dz dy hs => by have h := pstates_any (hq.ext hx) hcp (l := l ++ m) (da := dz) (dc := dy) (by rw [List.length_append]; exact hs) hbb (by rw [List.length_append]; omega); rw [← hS, List.length_append] at h; exact h)
          have HR := Lib.hid hR
          have HS := Lib.hid hS
          have HCP := Lib.hid hcp
          have HSRC := Lib.hid hsrc
          have HSRM := Lib.hid hsrm
          have HBB := Lib.hid hbb
          have HEQ : Hid (∀ w (u v : Pg.EV), Pg.IsE w u SE → Pg.IsE w v SE → Calls Try.prog 27 #[u.val, v.val] w (Rets w (.bool true))) := Lib.hid (fun w u v hu hv => by have h := refeequal_any hu hv; rw [En.eq_self] at h; exact h)
          have HEI : Hid (∀ w (u v : Value), Ns .i64 w u RL → Ns .i64 w v RL → Calls Try.prog 28 #[u, v] w (Rets w (.bool true))) := Lib.hid (fun w u v hu hv => by have h := eqints_any hu hv; rw [decide_eq_true rfl] at h; exact h)
          clear hq hhs hmd hss hob hsrc hsrm hby hbm hbb hR hS hcp
          dsimp only [Pg.PV.val]
          go_enter Try.func8, Try.ntmps8
          go_wp2_with fail
          refine (HTL.out _ grows).mono ?_
          rintro e w1 ⟨rfl, xw1⟩
          have sw1 := Step.mk xw1
          clear xw1
          go_wp2_with fail
          refine (HP1.out _ grows).mono ?_
          rintro e w2 ⟨ev2, vs2, rfl, x2, o2⟩
          dsimp only at o2
          have I2 := Lib.hid o2.isE
          obtain ⟨y20, y21, y22, y23, z20, z21, z22, z23, hg⟩ := o2.isE.form
          obtain ⟨rfl, _, _, _, _, _, _, _, _⟩ := hg
          dsimp only [Pg.EV.val]
          have s2 := Step.mk x2
          have be := alloc_heap w2 (.cells #[.slice y20 RE.va.length z20, .slice y21 RE.fi.length z21, .slice y22 RE.me.length z22, .slice y23 RE.pl.length z23] 37)
          have qc20 := alw (cell_of (o := 0) be)
          have qc21 := alw (cell_of (o := 1) be)
          have qc22 := alw (cell_of (o := 2) be)
          have qc23 := alw (cell_of (o := 3) be)
          clear be x2 o2
          have bz := alloc_heap (w2.alloc (.cells #[.slice y20 RE.va.length z20, .slice y21 RE.fi.length z21, .slice y22 RE.me.length z22, .slice y23 RE.pl.length z23] 37)) (.cells #[] 5)
          rw [World.size_alloc] at bz
          have HZ := Lib.hid (own_empty (B := w2.heap.size + 1) bz (Nat.le_refl _))
          have XZ : Hid (Ext (w2.alloc (.cells #[.slice y20 RE.va.length z20, .slice y21 RE.fi.length z21, .slice y22 RE.me.length z22, .slice y23 RE.pl.length z23] 37)) ((w2.alloc (.cells #[.slice y20 RE.va.length z20, .slice y21 RE.fi.length z21, .slice y22 RE.me.length z22, .slice y23 RE.pl.length z23] 37)).alloc (.cells #[] 5))) := Lib.hid ((Ext.refl _).alloc _)
          have HL := Lib.hid (HSRC.out.ext (show Ext W ((w2.alloc (.cells #[.slice y20 RE.va.length z20, .slice y21 RE.fi.length z21, .slice y22 RE.me.length z22, .slice y23 RE.pl.length z23] 37)).alloc (.cells #[] 5)) from grows))
          have B2 := Lib.hid (alloc_heap w2 (.cells #[.slice y20 RE.va.length z20, .slice y21 RE.fi.length z21, .slice y22 RE.me.length z22, .slice y23 RE.pl.length z23] 37))
          clear bz
          go_wp2_with (at_builtin; refine wpList_append_src rfl (.tmp 39) (.tmp 40) 35 rfl (w2.heap.size + 1) 5 (.int .u8 0) 1 1 Try.underlying35 info_u8 rfl (by decide) _ 0 [] rfl HZ.out _ l.length (u8s l) rfl HL.out ?c1 ?c2 ?c3 ?_)
          case c1 => unfold maxLen; omega
          case c2 => omega
          case c3 => simp only [World.size_alloc]; omega
          intro v3 w3 ho3 hg3 _
          obtain ⟨oa3, c3', rfl⟩ := own_slice ho3
          have x3 := XZ.out.mod (grown_mod hg3) (fun q hq => by have h := own_ge HZ.out hq.symm; rw [World.size_alloc]; exact h)
          have s3 := Step.mk x3
          have HO3 : Hid (w3.ownsRow (w2.heap.size + 1) 5 1 (.slice oa3 l.length c3') l.length (u8s l)) := Lib.hid ho3
          have HM := Lib.hid (HSRM.out.ext (show Ext W w3 from grows))
          have X3 := Lib.hid x3
          clear ho3 hg3 x3
          go_wp2_with (at_builtin; refine wpList_append_src rfl (.tmp 41) (.tmp 42) 35 rfl (w2.heap.size + 1) 5 (.int .u8 0) 1 1 Try.underlying35 info_u8 rfl (by decide) _ l.length (u8s l) rfl HO3.out _ m.length (u8s m) rfl HM.out ?d1 ?d2 ?d3 ?_)
          case d1 => unfold maxLen; omega
          case d2 => omega
          case d3 => have := X3.out.le; rw [World.size_alloc] at this; exact this
          intro v4 w4 ho4 hg4 _
          obtain ⟨oz, cz, rfl⟩ := own_slice ho4
          have x4 := X3.out.mod (grown_mod hg4) (fun q hq => by have h := own_ge HO3.out hq.symm; rw [World.size_alloc]; exact h)
          clear s3
          have s4 := Step.mk x4
          have S4 : Hid (Src w4 (.slice oz (l.length + m.length) cz) 1 (l.length + m.length) (u8s (l ++ m))) := Lib.hid (by
            have h := own_src ho4 (by intro u hu; rcases List.mem_append.1 hu with h | h <;> (simp [u8s] at h; obtain ⟨_, _, rfl⟩ := h; rfl))
            rw [show u8s (l ++ m) = u8s l ++ u8s m by simp [u8s]]; exact h)
          have HO4 := Lib.hid ho4
          clear ho4 hg4 x4
          go_wp2_with fail
          refine (HP2.out _ grows _ _ S4.out).mono ?_
          rintro e w5 ⟨ev5, vs5, rfl, x5, o5⟩
          dsimp only at o5
          have I5 := Lib.hid o5.isE
          have O5 := Lib.hid o5
          obtain ⟨y50, y51, y52, y53, z50, z51, z52, z53, hg⟩ := o5.isE.form
          obtain ⟨rfl, _, _, _, _, _, _, _, _⟩ := hg
          dsimp only [Pg.EV.val]
          have s5 := Step.mk x5
          have be := alloc_heap w5 (.cells #[.slice y50 SE.va.length z50, .slice y51 SE.fi.length z51, .slice y52 SE.me.length z52, .slice y53 SE.pl.length z53] 37)
          have qc50 := alw (cell_of (o := 0) be)
          have qc51 := alw (cell_of (o := 1) be)
          have qc52 := alw (cell_of (o := 2) be)
          have qc53 := alw (cell_of (o := 3) be)
          clear be x5 o5
          by_cases hf : RF = 0
          · subst hf
            have happ := Ps.parse_app (P := P) (ss := ss) (a := l) (b := m) (by rw [← HR.out]) hlm
            rw [← HR.out, ← HS.out] at happ
            simp only [Prod.mk.injEq] at happ
            obtain ⟨hse, rfl, rfl⟩ := happ
            have hce := Ps.parse_cap HR.out HCP.out hl6
            have HSE := Lib.hid hse
            have HCE := Lib.hid hce
            clear hse hce
            go_wp2_with fail
            refine (refclone_any (I2.out.ext grows) HCE.out).mono ?_
            rintro e w6 ⟨ev6, vs6, rfl, x6, o6⟩
            obtain ⟨y60, y61, y62, y63, z60, z61, z62, z63, hg⟩ := o6.isE.form
            obtain ⟨rfl, _, _, _, _, _, _, _, _⟩ := hg
            dsimp only [Pg.EV.val]
            have s6 := Step.mk x6
            have kb := alwB B2.out w6
            have qc20 := alw (cell_of (o := 0) kb)
            have qc21 := alw (cell_of (o := 1) kb)
            have qc22 := alw (cell_of (o := 2) kb)
            have qc23 := alw (cell_of (o := 3) kb)
            have qf20 := alwF (o := 0) kb
            have qf21 := alwF (o := 1) kb
            have qf22 := alwF (o := 2) kb
            have qf23 := alwF (o := 3) kb
            obtain ⟨tw1, tw2⟩ := tower4 (.slice y60 RE.va.length z60) (.slice y61 RE.fi.length z61) (.slice y62 RE.me.length z62) (.slice y63 RE.pl.length z63) kb
            obtain ⟨w7, h7⟩ : ∃ z, z = ((((w6.setCell ⟨w2.heap.size, 0, none⟩ (.slice y60 RE.va.length z60)).setCell ⟨w2.heap.size, 1, none⟩ (.slice y61 RE.fi.length z61)).setCell ⟨w2.heap.size, 2, none⟩ (.slice y62 RE.me.length z62)).setCell ⟨w2.heap.size, 3, none⟩ (.slice y63 RE.pl.length z63)) := ⟨_, rfl⟩
            rw [← h7] at tw1 tw2
            have H7 := Lib.hid h7
            have o7 := o6.box tw1 kb
            have hW2 : (W.alloc (.cells #[.string s, .slice a1 P.hs.length m1, .slice a2 P.md.length m2, .slice a3 n3 m3, .slice a4 n4 m4, .slice a5 n5 m5, .slice a6 ss.length m6, .slice a7 n7 m7, .slice a8 P.dp.length m8] 31)).heap.size ≤ w2.heap.size := by have h : Ext (W.alloc (.cells #[.string s, .slice a1 P.hs.length m1, .slice a2 P.md.length m2, .slice a3 n3 m3, .slice a4 n4 m4, .slice a5 n5 m5, .slice a6 ss.length m6, .slice a7 n7 m7, .slice a8 P.dp.length m8] 31)) w2 := grows; exact h.le
            have hw25 : w2.heap.size < w5.heap.size := by have h : Ext (w2.alloc (.cells #[.slice y20 RE.va.length z20, .slice y21 RE.fi.length z21, .slice y22 RE.me.length z22, .slice y23 RE.pl.length z23] 37)) w5 := grows; have := h.le; rw [World.size_alloc] at this; omega
            have M57 : Hid (Mod (· = w2.heap.size) (w5.alloc (.cells #[.slice y50 SE.va.length z50, .slice y51 SE.fi.length z51, .slice y52 SE.me.length z52, .slice y53 SE.pl.length z53] 37)) w7) := Lib.hid ((Mod.of_ext x6).trans tw1)
            have hb7 : (w5.alloc (.cells #[.slice y50 SE.va.length z50, .slice y51 SE.fi.length z51, .slice y52 SE.me.length z52, .slice y53 SE.pl.length z53] 37)).heap.size ≤ w7.heap.size := Nat.le_trans x6.le tw1.size
            have O7 := Lib.hid o7
            have K7 := Lib.hid tw2
            have B25 : Hid ((w5.alloc (.cells #[.slice y50 SE.va.length z50, .slice y51 SE.fi.length z51, .slice y52 SE.me.length z52, .slice y53 SE.pl.length z53] 37)).heap[w2.heap.size]? = some (.cells #[.slice y20 RE.va.length z20, .slice y21 RE.fi.length z21, .slice y22 RE.me.length z22, .slice y23 RE.pl.length z23] 37 (0, 0))) := Lib.hid (alwB B2.out _)
            have B5 := Lib.hid (alloc_heap w5 (.cells #[.slice y50 SE.va.length z50, .slice y51 SE.fi.length z51, .slice y52 SE.me.length z52, .slice y53 SE.pl.length z53] 37))
            have XW5 : Hid (Ext (W.alloc (.cells #[.string s, .slice a1 P.hs.length m1, .slice a2 P.md.length m2, .slice a3 n3 m3, .slice a4 n4 m4, .slice a5 n5 m5, .slice a6 ss.length m6, .slice a7 n7 m7, .slice a8 P.dp.length m8] 31)) (w5.alloc (.cells #[.slice y50 SE.va.length z50, .slice y51 SE.fi.length z51, .slice y52 SE.me.length z52, .slice y53 SE.pl.length z53] 37))) := Lib.hid grows
            have X45 : Hid (Ext w4 (w5.alloc (.cells #[.slice y50 SE.va.length z50, .slice y51 SE.fi.length z51, .slice y52 SE.me.length z52, .slice y53 SE.pl.length z53] 37))) := Lib.hid grows
            have hWQ : W.heap.size ≤ (W.alloc (.cells #[.string s, .slice a1 P.hs.length m1, .slice a2 P.md.length m2, .slice a3 n3 m3, .slice a4 n4 m4, .slice a5 n5 m5, .slice a6 ss.length m6, .slice a7 n7 m7, .slice a8 P.dp.length m8] 31)).heap.size := by rw [World.size_alloc]; omega
            have XW7 : Hid (Ext W w7) := Lib.hid ((((Ext.refl W).alloc _).trans XW5.out).mod M57.out (fun q hq => by rw [hq]; exact Nat.le_trans hWQ hW2))
            clear kb tw1 tw2 h7 x6 o6 o7
            go_upto_region 9 with (fail)
            rw [← H7.out]
            clear s6 qc20 qc21 qc22 qc23 qf20 qf21 qf22 qf23
            have k7 := K7.out
            have q73 : w7.cell? ⟨w2.heap.size, 3, none⟩ = some (.slice y63 RE.pl.length z63) := cell_of k7
            clear k7
            have HM7 := Lib.hid (HSRM.out.ext XW7.out)
            have hpl : RE.pl.length ≤ 1000000 := HCE.out.2.2.2.1
            go_wp2_with (at_builtin; refine wpList_append_src rfl (.tmp 56) (.tmp 57) 35 rfl ((w5.alloc (.cells #[.slice y50 SE.va.length z50, .slice y51 SE.fi.length z51, .slice y52 SE.me.length z52, .slice y53 SE.pl.length z53] 37)).heap.size) 5 (.int .u8 0) 1 1 Try.underlying35 info_u8 rfl (by decide) _ RE.pl.length (RE.pl.map (.int .u8)) rfl O7.out.pl _ m.length (u8s m) rfl HM7.out ?c1 ?c2 ?c3 ?_)
            case c1 => unfold maxLen; omega
            case c2 => omega
            case c3 => exact hb7
            intro v8 w8 ho8 hg8 _
            obtain ⟨oa8, c8, rfl⟩ := own_slice ho8
            have kb8 := grown_box hg8 O7.out.pl K7.out (by decide)
            have o8 := OwnE.grownPl (l' := RE.pl ++ m) O7.out hg8 (by simpa [u8s] using ho8) (fun b hb => by rcases List.mem_append.1 hb with h | h; (· exact O7.out.pb b h); (· exact HBB.out b (List.mem_append.2 (.inr h))))
            have md : Mod (· = w2.heap.size) w8 (w8.setCell ⟨w2.heap.size, 3, none⟩ (.slice oa8 (RE.pl.length + m.length) c8)) := mod_set
            have kd8 := setCell_heap (o := 3) (v := .slice oa8 (RE.pl.length + m.length) c8) kb8
            have q83 : w8.cell? ⟨w2.heap.size, 3, none⟩ = some (.slice y63 RE.pl.length z63) := cell_of kb8
            have f83 : w8.frozen? ⟨w2.heap.size, 3, none⟩ = false := free_of kb8
            obtain ⟨w9, h9⟩ : ∃ z, z = w8.setCell ⟨w2.heap.size, 3, none⟩ (.slice oa8 (RE.pl.length + m.length) c8) := ⟨_, rfl⟩
            rw [← h9] at md kd8
            have H9 := Lib.hid h9
            have I9 : Hid (Pg.IsE w9 ⟨.slice y60 RE.va.length z60, .slice y61 RE.fi.length z61, .slice y62 RE.me.length z62, .slice oa8 (RE.pl.length + m.length) c8⟩ SE) := Lib.hid (by rw [HSE.out]; exact (o8.box md kb8).isE)
            have M59 := (M57.out.past (grown_mod hg8) (fun q hq => own_ge O7.out.pl hq.symm)).trans md
            have x9 := XW5.out.mod M59 (fun q hq => by rw [hq]; exact hW2)
            have s9 := Step.mk x9
            have I5' := Lib.hid (((O5.out.ext ((Ext.refl w5).alloc (.cells #[.slice y50 SE.va.length z50, .slice y51 SE.fi.length z51, .slice y52 SE.me.length z52, .slice y53 SE.pl.length z53] 37))).box M59 B25.out).isE)
            have S9 : Hid (Src w9 (.slice oz (l.length + m.length) cz) 1 (l.length + m.length) (u8s (l ++ m))) := Lib.hid (by
              have h := own_src (own_box (own_ext HO4.out X45.out) M59 B25.out (by decide)) (by intro u hu; rcases List.mem_append.1 hu with h | h <;> (simp [u8s] at h; obtain ⟨_, _, rfl⟩ := h; rfl))
              rw [show u8s (l ++ m) = u8s l ++ u8s m by simp [u8s]]; exact h)
            have KE9 := Lib.hid (M59.heap B5.out (by show ¬ w5.heap.size = w2.heap.size; omega))
            have K9 := Lib.hid kd8
            clear kb8 o8 md kd8 h9 ho8 hg8 M59 x9 qc50 qc51 qc52 qc53
            go_upto_region 10 with (fail)
            rw [← H9.out]
            have ke9 := KE9.out
            have qc50 := alw (cell_of (o := 0) ke9)
            have qc51 := alw (cell_of (o := 1) ke9)
            have qc52 := alw (cell_of (o := 2) ke9)
            have qc53 := alw (cell_of (o := 3) ke9)
            clear ke9
            have k9 := K9.out
            have q90 := alw (show w9.cell? ⟨w2.heap.size, 0, none⟩ = some (.slice y60 RE.va.length z60) from cell_of k9)
            have q91 := alw (show w9.cell? ⟨w2.heap.size, 1, none⟩ = some (.slice y61 RE.fi.length z61) from cell_of k9)
            have q92 := alw (show w9.cell? ⟨w2.heap.size, 2, none⟩ = some (.slice y62 RE.me.length z62) from cell_of k9)
            have q93 := alw (show w9.cell? ⟨w2.heap.size, 3, none⟩ = some (.slice oa8 (RE.pl.length + m.length) c8) from cell_of k9)
            clear k9 q73 q83 f83
            refine Rel.region (W := w9) (Rel.tab [(5, fun v _ => v = .bool true), (10, fun v w => ∃ oa c, v = .slice oa SL.length c ∧ Ns .i64 w v SL), (13, fun v w => ∃ oa c, v = .slice oa SL.length c ∧ Ns .i64 w v SL), (14, fun v _ => v = .bool true), (17, fun v _ => v = .bool true)]) (Rel.tab_lasts (by intro p hp v w w' hr hx; simp only [List.mem_cons, List.not_mem_nil, or_false] at hp; rcases hp with rfl | rfl | rfl | rfl | rfl; (· exact hr); (· obtain ⟨oa, c, e1, e2⟩ := hr; exact ⟨oa, c, e1, e2.ext hx⟩); (· obtain ⟨oa, c, e1, e2⟩ := hr; exact ⟨oa, c, e1, e2.ext hx⟩); (· exact hr); (· exact hr))) (by kernel_rfl) (by kernel_rfl) (Ext.refl _) ?_
            refine Rel.chunk 5 rfl rfl rfl ?_
            simp only [List.take_succ_cons, List.take_zero, List.drop_succ_cons, List.drop_zero, Nat.reduceAdd]
            repeat (go_big_quiet_step (fail))
            refine wpQuiet_nil ?_
            refine Rel.callG (fun v _ => v = .bool true) rfl rfl rfl Try.func27 (by nofun) (by decide) #[.agg #[.slice y60 RE.va.length z60, .slice y61 RE.fi.length z61, .slice y62 RE.me.length z62, .slice oa8 (RE.pl.length + m.length) c8], .agg #[.slice y50 SE.va.length z50, .slice y51 SE.fi.length z51, .slice y52 SE.me.length z52, .slice y53 SE.pl.length z53]] rfl (fun w hx _ => by refine (HEQ.out w ⟨.slice y60 RE.va.length z60, .slice y61 RE.fi.length z61, .slice y62 RE.me.length z62, .slice oa8 (RE.pl.length + m.length) c8⟩ ⟨.slice y50 SE.va.length z50, .slice y51 SE.fi.length z51, .slice y52 SE.me.length z52, .slice y53 SE.pl.length z53⟩ (I9.out.ext hx) (I5'.out.ext hx)).mono ?_; rintro e w9 ⟨he, hx9⟩; exact ⟨_, he, hx9, rfl⟩) ?_
            intro v5 wq5 _ _ r5
            subst r5
            simp only [Act.put, List.setIfInBounds_toArray, List.set_cons_succ, List.set_cons_zero]
            refine Rel.chunk 4 rfl rfl rfl ?_
            simp only [List.take_succ_cons, List.take_zero, List.drop_succ_cons, List.drop_zero, Nat.reduceAdd]
            repeat (go_big_quiet_step (fail))
            refine wpQuiet_nil ?_
            refine Rel.callG (fun v w => ∃ oa c, v = .slice oa SL.length c ∧ Ns .i64 w v SL) rfl rfl rfl Try.func29 (by nofun) (by decide) #[.agg #[.string s, .slice a1 P.hs.length m1, .slice a2 P.md.length m2, .slice a3 n3 m3, .slice a4 n4 m4, .slice a5 n5 m5, .slice a6 ss.length m6, .slice a7 n7 m7, .slice a8 P.dp.length m8], .slice da l.length dc] rfl (fun w hx _ => by refine (HS1.out w ((grows (a := W) (b := w9)).trans hx)).mono ?_; rintro e w9 ⟨sv, he, hx9, ho9⟩; obtain ⟨oa9, c9, rfl⟩ := own_slice ho9; exact ⟨_, he, hx9, oa9, c9, rfl, own_src ho9 (i64s_one _), own_max ho9⟩) ?_
            intro v10 wq10 _ _ r10
            obtain ⟨oa10, c10, rfl, _⟩ := r10
            simp only [Act.put, List.setIfInBounds_toArray, List.set_cons_succ, List.set_cons_zero]
            refine Rel.chunk 2 rfl rfl rfl ?_
            simp only [List.take_succ_cons, List.take_zero, List.drop_succ_cons, List.drop_zero, Nat.reduceAdd]
            repeat (go_big_quiet_step (fail))
            refine wpQuiet_nil ?_
            refine Rel.callG (fun v w => ∃ oa c, v = .slice oa SL.length c ∧ Ns .i64 w v SL) rfl rfl rfl Try.func29 (by nofun) (by decide) #[.agg #[.string s, .slice a1 P.hs.length m1, .slice a2 P.md.length m2, .slice a3 n3 m3, .slice a4 n4 m4, .slice a5 n5 m5, .slice a6 ss.length m6, .slice a7 n7 m7, .slice a8 P.dp.length m8], .slice oz (l.length + m.length) cz] rfl (fun w hx _ => by refine (HS2.out w ((grows (a := W) (b := w9)).trans hx) _ _ (S9.out.ext hx)).mono ?_; rintro e w9 ⟨sv, he, hx9, ho9⟩; obtain ⟨oa9, c9, rfl⟩ := own_slice ho9; exact ⟨_, he, hx9, oa9, c9, rfl, own_src ho9 (i64s_one _), own_max ho9⟩) ?_
            intro v13 wq13 _ _ r13
            obtain ⟨oa13, c13, rfl, _⟩ := r13
            simp only [Act.put, List.setIfInBounds_toArray, List.set_cons_succ, List.set_cons_zero]
            refine Rel.callG (fun v _ => v = .bool true) rfl rfl rfl Try.func28 (by nofun) (by decide) #[.slice oa10 SL.length c10, .slice oa13 SL.length c13] rfl (fun w hx hf => by obtain ⟨_, _, _, n1⟩ := (hf 10 (by kernel_rfl)).1.2 rfl; obtain ⟨_, _, _, n2⟩ := (hf 13 (by kernel_rfl)).2 rfl; refine (HEI.out w _ _ n1 n2).mono ?_; rintro e w9 ⟨he, hx9⟩; exact ⟨_, he, hx9, rfl⟩) ?_
            intro v14 wq14 _ _ r14
            subst r14
            simp only [Act.put, List.setIfInBounds_toArray, List.set_cons_succ, List.set_cons_zero]
            refine Rel.chunk 2 rfl rfl rfl ?_
            simp only [List.take_succ_cons, List.take_zero, List.drop_succ_cons, List.drop_zero, Nat.reduceAdd]
            repeat (go_big_quiet_step (fail))
            refine wpQuiet_nil ?_
            refine Rel.callG (fun v _ => v = .bool true) rfl rfl rfl Try.func22 (by nofun) (by decide) #[] rfl (fun w hx _ => by refine (pworks_any w).mono ?_; rintro e w9 ⟨he, hx9⟩; exact ⟨_, he, hx9, rfl⟩) ?_
            intro v17 wq17 _ _ r17
            subst r17
            simp only [Act.put, List.setIfInBounds_toArray, List.set_cons_succ, List.set_cons_zero]
            refine Rel.chunk 2 rfl rfl rfl ?_
            simp only [List.take_succ_cons, List.take_zero, List.drop_succ_cons, List.drop_zero, Nat.reduceAdd]
            repeat (go_big_quiet_step (fail))
            refine wpQuiet_nil ?_
            refine Rel.fin ?_
            intro w8 hx8 _
            have s8 := Step.mk hx8
            go_wp2_with fail
            go_ret
            exact ⟨rfl, grows⟩
          · have z1 : (RF != 0) = true := bne_iff_ne.2 hf
            clear hf
            go_wp2_with fail
            refine (pworks_any _).mono ?_
            rintro e wk ⟨rfl, xwk⟩
            have swk := Step.mk xwk
            clear xwk
            go_wp2_with fail
            go_ret
            exact ⟨rfl, grows⟩
        · have g3 : decide ((512 : Int) < (l.length : Int) + (m.length : Int)) = true := decide_eq_true (by omega)
          clear hq hhs hmd hss hob hsrc hsrm hby hbm hbb
          dsimp only [Pg.PV.val]
          go_enter Try.func8, Try.ntmps8
          go_wp2_with fail
          refine (HTL.out _ grows).mono ?_
          rintro e w1 ⟨rfl, xw1⟩
          have sw1 := Step.mk xw1
          clear xw1
          go_wp2_with fail
          refine (pworks_any _).mono ?_
          rintro e wk ⟨rfl, xwk⟩
          have swk := Step.mk xwk
          clear xwk
          go_wp2_with fail
          go_ret
          exact ⟨rfl, grows⟩
      · have g2 : decide ((600 : Int) < (m.length : Int)) = true := decide_eq_true (by omega)
        clear hq hhs hmd hss hob hsrc hsrm hby hbm hbb
        dsimp only [Pg.PV.val]
        go_enter Try.func8, Try.ntmps8
        go_wp2_with fail
        refine (HTL.out _ grows).mono ?_
        rintro e w1 ⟨rfl, xw1⟩
        have sw1 := Step.mk xw1
        clear xw1
        go_wp2_with fail
        refine (pworks_any _).mono ?_
        rintro e wk ⟨rfl, xwk⟩
        have swk := Step.mk xwk
        clear xwk
        go_wp2_with fail
        go_ret
        exact ⟨rfl, grows⟩
    · have g1 : decide ((600 : Int) < (l.length : Int)) = true := decide_eq_true (by omega)
      clear hq hhs hmd hss hob hsrc hsrm hby hbm hbb
      dsimp only [Pg.PV.val]
      go_enter Try.func8, Try.ntmps8
      go_wp2_with fail
      refine (HTL.out _ grows).mono ?_
      rintro e w1 ⟨rfl, xw1⟩
      have sw1 := Step.mk xw1
      clear xw1
      go_wp2_with fail
      refine (pworks_any _).mono ?_
      rintro e wk ⟨rfl, xwk⟩
      have swk := Step.mk xwk
      clear xwk
      go_wp2_with fail
      go_ret
      exact ⟨rfl, grows⟩
end Go.Proofs.Ytonnlcjkgpahoaa
