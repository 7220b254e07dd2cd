/- The environment: Check, walked. No condition. -/
import Derived.Test.YtonnlcjkgpahoaaEv4
namespace Go.Proofs.Ytonnlcjkgpahoaa
open Go.RowKit

namespace Pg
theorem shB_len {P : Prog} {E : Env} (h : shB P E = true) : E.va.length = P.hs.length ∧ E.fi.length = P.hs.length ∧ E.me.length = P.md.length ∧ ∀ k, k < E.fi.length → (E.fi.getD k []).length = (P.hs.getD k (⟨#[]⟩, [])).2.length := by
  unfold shB at h
  simp only [Bool.and_eq_true, decide_eq_true_eq, List.all_eq_true, List.mem_range] at h
  exact ⟨h.1.1.1, h.1.1.2, h.1.2, h.2⟩
theorem chk_sh {P : Prog} {E : Env} (h : shB P E = false) : chkE P E = 2 := by unfold chkE; rw [h]; rfl
theorem chk_me {P : Prog} {E : Env} (h : shB P E = true) (h1 : fitB P (-1) E.me = false) : chkE P E = 9 := by unfold chkE; rw [h, h1]; rfl
theorem chk_fi {P : Prog} {E : Env} (h : shB P E = true) (h1 : fitsB P E = false) : chkE P E = 9 := by unfold chkE; rw [h, h1]; simp
theorem chk_cl {P : Prog} {E : Env} (h : shB P E = true) (h1 : fitB P (-1) E.me = true) (h2 : fitsB P E = true) (h3 : cleanB E = false) : chkE P E = 5 := by unfold chkE; rw [h, h1, h2, h3]; rfl
theorem chk_ok {P : Prog} {E : Env} (h : shB P E = true) (h1 : fitB P (-1) E.me = true) (h2 : fitsB P E = true) (h3 : cleanB E = true) : chkE P E = 0 := by unfold chkE; rw [h, h1, h2, h3]; rfl
end Pg

set_option maxRecDepth 8000 in
set_option maxHeartbeats 2000000 in
theorem echeck_any {W : World} {p : Pg.PV} {P : Pg.Prog} {e : Pg.EV} {E : Pg.Env} (hp : Pg.IsP W p P) (he : Pg.IsE W e E) :
    Calls Try.prog 69 #[p.val, e.val] W (Rets W (.int .i64 (Pg.chkE P E))) := by
  have HP := Lib.hid hp
  have HE := Lib.hid he
  obtain ⟨s, a1, a2, a3, a4, a5, a6, a7, a8, m1, m2, n3, m3, n4, m4, n5, m5, n6, m6, n7, m7, m8, hf⟩ := hp.form
  obtain ⟨rfl, hhs, hmd, _, hl1, hl2, _⟩ := hf
  obtain ⟨b0, b1, b2, b3, d0, d1, d2, d3, hg⟩ := he.form
  obtain ⟨rfl, hva, hfi, hme, hpl, g0, g1, g2, g3⟩ := hg
  dsimp only [Pg.PV.val, Pg.EV.val]
  have bb := alloc_heap W (.cells #[.string s, .slice a1 P.hs.length m1, .slice a2 P.md.length m2, .slice a3 n3 m3, .slice a4 n4 m4, .slice a5 n5 m5, .slice a6 n6 m6, .slice a7 n7 m7, .slice a8 P.dp.length m8] 31)
  have k0 := alw (cell_of (o := 0) bb)
  have k1 := alw (cell_of (o := 1) bb)
  have k2 := alw (cell_of (o := 2) bb)
  have k3 := alw (cell_of (o := 3) bb)
  have k4 := alw (cell_of (o := 4) bb)
  have k5 := alw (cell_of (o := 5) bb)
  have k6 := alw (cell_of (o := 6) bb)
  have k7 := alw (cell_of (o := 7) bb)
  have k8 := alw (cell_of (o := 8) bb)
  have be := alloc_heap (W.alloc (.cells #[.string s, .slice a1 P.hs.length m1, .slice a2 P.md.length m2, .slice a3 n3 m3, .slice a4 n4 m4, .slice a5 n5 m5, .slice a6 n6 m6, .slice a7 n7 m7, .slice a8 P.dp.length m8] 31)) (.cells #[.slice b0 E.va.length d0, .slice b1 E.fi.length d1, .slice b2 E.me.length d2, .slice b3 E.pl.length d3] 37)
  rw [World.size_alloc] at be
  have j0 := alw (cell_of (o := 0) be)
  have j1 := alw (cell_of (o := 1) be)
  have j2 := alw (cell_of (o := 2) be)
  have j3 := alw (cell_of (o := 3) be)
  have HVA := Lib.hid hva
  have HFI := Lib.hid hfi
  have HME := Lib.hid hme
  have HSH : Hid (∀ w, Ext W w → Calls Try.prog 96 #[.agg #[.string s, .slice a1 P.hs.length m1, .slice a2 P.md.length m2, .slice a3 n3 m3, .slice a4 n4 m4, .slice a5 n5 m5, .slice a6 n6 m6, .slice a7 n7 m7, .slice a8 P.dp.length m8], .agg #[.slice b0 E.va.length d0, .slice b1 E.fi.length d1, .slice b2 E.me.length d2, .slice b3 E.pl.length d3]] w (Rets w (.bool (Pg.shB P E)))) := Lib.hid (fun w hx => by have h := shaped_any (HP.out.ext hx) (HE.out.ext hx); exact h)
  have HFT : Hid (∀ w, Ext W w → ∀ (h : Int) (v : Value) (l : List Int), Ns .u32 W v l → (∀ x ∈ l, U32 x) → Calls Try.prog 97 #[.agg #[.string s, .slice a1 P.hs.length m1, .slice a2 P.md.length m2, .slice a3 n3 m3, .slice a4 n4 m4, .slice a5 n5 m5, .slice a6 n6 m6, .slice a7 n7 m7, .slice a8 P.dp.length m8], .int .i64 h, v] w (Rets w (.bool (Pg.fitB P h l)))) := Lib.hid (fun w hx h v l h1 h2 => by have h := fit_any (HP.out.ext hx) h (h1.ext hx) h2; exact h)
  clear bb be hp he hhs hmd hva hfi hme hpl
  go_enter Try.func69, Try.ntmps69
  go_wp2_with fail
  refine (HSH.out _ (grows (a := W))).mono ?_
  rintro e' w1 ⟨rfl, x1⟩
  have s1 := Step.mk x1
  by_cases hs : Pg.shB P E = true
  · have HS := Lib.hid hs
    obtain ⟨z1, z2, z3, _⟩ := Pg.shB_len hs
    have zz : E.fi.length ≤ E.va.length := by omega
    clear z1 z2 z3
    rw [hs]
    clear hs
    go_wp2_with fail
    refine (HFT.out _ (grows (a := W)) _ _ _ HME.out.1 HME.out.2).mono ?_
    rintro e' w2 ⟨rfl, x2⟩
    have s2 := Step.mk x2
    by_cases hm : Pg.fitB P (-1) E.me = true
    · have HM := Lib.hid hm
      rw [hm]
      clear hm
      go_wp2_with fail
      go_loopw [21] (fun i wr => ∃ k : Nat, k ≤ E.fi.length ∧ i = .int .i64 k ∧ Ext w2 wr ∧ Hid (∀ j, j < k → Pg.fitB P j (E.fi.getD j []) = true)) (fun i _ => E.fi.length - (intOf i).toNat)
      case atStart => exact ⟨0, Nat.zero_le _, rfl, Ext.refl _, Lib.hid (by intro j hj; omega)⟩
      case round =>
        obtain ⟨k, hk, rfl, hx, HZ⟩ := hrel
        have sx := Step.mk hx
        by_cases hlt : k < E.fi.length
        · obtain ⟨l, hlk⟩ : ∃ x, E.fi[k]? = some x := ⟨_, List.getElem?_eq_getElem hlt⟩
          obtain ⟨ba, oa, hoa, _, _⟩ := Rows.at HFI.out (by omega)
          subst hoa
          obtain ⟨la, lc, p0, pl, pu⟩ := rows_at HFI.out k l hlk rfl
          have hgl : E.fi.getD k [] = l := by rw [List.getD_eq_getElem?_getD, hlk]; rfl
          have HGL := Lib.hid hgl
          have HPL := Lib.hid pl
          have HPU := Lib.hid pu
          clear hlk hgl pl pu
          go_wp2_with fail
          refine (HFT.out _ (grows (a := W)) _ _ _ HPL.out HPU.out).mono ?_
          rintro e' w3 ⟨rfl, x3⟩
          have s3 := Step.mk x3
          by_cases hf : Pg.fitB P k l = true
          · have HF := Lib.hid hf
            rw [hf]
            clear hf
            go_wp2_with fail
            go_roundw
            case rel =>
              refine ⟨k + 1, by omega, by go_num, by exact hx.trans x3, Lib.hid (fun j hj => ?_)⟩
              rcases Nat.lt_or_ge j k with h1 | h1
              · exact HZ.out j h1
              · obtain rfl : j = k := by omega
                rw [HGL.out]; exact HF.out
            case measure => simp [intOf]; omega
          · have hf' : Pg.fitB P k l = false := by simpa using hf
            have HF := Lib.hid hf'
            rw [hf']
            clear hf hf'
            go_wp2_with fail
            go_ret
            exact ⟨ret_int (by rw [Pg.chk_fi HS.out (Pg.all_no hlt (by rw [HGL.out]; exact HF.out))]), grows⟩
        · obtain rfl : k = E.fi.length := by omega
          have hfs : Pg.fitsB P E = true := Pg.all_yes HZ.out
          have HFS := Lib.hid hfs
          clear hfs HZ hk hlt
          go_wp2_with fail
          go_loopw [35] (fun i wr' => ∃ k : Nat, k ≤ E.fi.length ∧ i = .int .i64 k ∧ wr' = wr ∧ Hid (∀ j, j < k → (E.va.getD j false || Pg.zeroB (E.fi.getD j [])) = true)) (fun i _ => E.fi.length - (intOf i).toNat)
          case atStart => exact ⟨0, Nat.zero_le _, rfl, rfl, Lib.hid (by intro j hj; omega)⟩
          case round =>
            obtain ⟨k, hk, rfl, rfl, HZ⟩ := hrel
            by_cases hlt : k < E.fi.length
            · obtain ⟨l, hlk⟩ : ∃ x, E.fi[k]? = some x := ⟨_, List.getElem?_eq_getElem hlt⟩
              obtain ⟨ba, oa, hoa, _, _⟩ := Rows.at HFI.out (by omega)
              subst hoa
              obtain ⟨la, lc, p0, pl, pu⟩ := rows_at HFI.out k l hlk rfl
              have hgl : E.fi.getD k [] = l := by rw [List.getD_eq_getElem?_getD, hlk]; rfl
              have HGL := Lib.hid hgl
              have HPL := Lib.hid pl
              have HPU := Lib.hid pu
              clear hlk hgl pl pu
              obtain ⟨vb, hvk⟩ : ∃ x, E.va[k]? = some x := ⟨_, List.getElem?_eq_getElem (by omega)⟩
              obtain ⟨bv, ov, hov, hvc⟩ := bs_at HVA.out (by omega)
              subst hov
              have v0 := hvc k vb hvk
              have hgv : E.va.getD k false = vb := by rw [List.getD_eq_getElem?_getD, hvk]; rfl
              have HGV := Lib.hid hgv
              clear hvk hvc hgv
              cases vb with
              | true =>
                go_wp2_with fail
                go_roundw
                case rel =>
                  refine ⟨k + 1, by omega, by go_num, (by first | exact rfl | trivial), Lib.hid (fun j hj => ?_)⟩
                  rcases Nat.lt_or_ge j k with h1 | h1
                  · exact HZ.out j h1
                  · obtain rfl : j = k := by omega
                    rw [HGV.out]; rfl
                case measure => simp [intOf]; omega
              | false =>
                go_wp2_with fail
                refine (zero_any (Ns.ext HPL.out grows)).mono ?_
                rintro e' w4 ⟨rfl, rfl⟩
                by_cases hz : Pg.zeroB l = true
                · have HZB := Lib.hid hz
                  rw [hz]
                  clear hz
                  go_wp2_with fail
                  go_roundw
                  case rel =>
                    refine ⟨k + 1, by omega, by go_num, (by first | exact rfl | trivial), Lib.hid (fun j hj => ?_)⟩
                    rcases Nat.lt_or_ge j k with h1 | h1
                    · exact HZ.out j h1
                    · obtain rfl : j = k := by omega
                      rw [HGV.out, HGL.out, HZB.out]; rfl
                  case measure => simp [intOf]; omega
                · have hz' : Pg.zeroB l = false := by simpa using hz
                  have HZB := Lib.hid hz'
                  rw [hz']
                  clear hz hz'
                  go_wp2_with fail
                  go_ret
                  exact ⟨ret_int (by rw [Pg.chk_cl HS.out HM.out HFS.out (Pg.all_no hlt (by rw [HGV.out, HGL.out, HZB.out]; rfl))]), grows⟩
            · obtain rfl : k = E.fi.length := by omega
              go_wp2_with fail
              go_ret
              exact ⟨ret_int (by rw [Pg.chk_ok HS.out HM.out HFS.out (Pg.all_yes HZ.out)]), grows⟩
    · have hm' : Pg.fitB P (-1) E.me = false := by simpa using hm
      have HM := Lib.hid hm'
      rw [hm']
      clear hm hm'
      go_wp2_with fail
      go_ret
      exact ⟨ret_int (by rw [Pg.chk_me HS.out HM.out]), grows⟩
  · have hs' : Pg.shB P E = false := by simpa using hs
    have HS := Lib.hid hs'
    rw [hs']
    clear hs hs'
    go_wp2_with fail
    go_ret
    exact ⟨ret_int (by rw [Pg.chk_sh HS.out]), grows⟩
end Go.Proofs.Ytonnlcjkgpahoaa
