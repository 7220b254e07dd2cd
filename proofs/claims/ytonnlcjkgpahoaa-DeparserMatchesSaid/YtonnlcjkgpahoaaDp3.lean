/- The deparser: what it accepts, what it emits; accepts, walked. No condition. -/
import Derived.Test.YtonnlcjkgpahoaaDp2
import Derived.Test.YtonnlcjkgpahoaaEv7
import Derived.Test.YtonnlcjkgpahoaaHdL3
namespace Go.Proofs.Ytonnlcjkgpahoaa
open Go.RowKit

namespace Dp
def hsB (P : Pg.Prog) : Bool := (List.range P.hs.length).all fun k => Hd.chk (P.hs.getD k (⟨#[]⟩, [])) == 0
def ok (P : Pg.Prog) (E : Pg.Env) : Bool := (Dp.chk P).2 == 0 && (hsB P && Pg.chkE P E == 0)
/-- the bits behind a header -/
def one (P : Pg.Prog) (E : Pg.Env) (h : Int) (L : List Int) : List Int := if E.va.getD h.toNat false then Hd.wL (P.hs.getD h.toNat (⟨#[]⟩, [])) (E.fi.getD h.toNat []) L else L
def bitsFrom (P : Pg.Prog) (E : Pg.Env) : List Int → List Int → List Int
  | [], L => L
  | h :: t, L => bitsFrom P E t (one P E h L)
def emit (P : Pg.Prog) (E : Pg.Env) : List Int := if ok P E then Io.byL (bitsFrom P E P.dp []) ++ E.pl else []
theorem ok_of {P : Pg.Prog} {E : Pg.Env} (h1 : (Dp.chk P).2 = 0) (h2 : hsB P = true) : ok P E = (Pg.chkE P E == 0) := by unfold ok; rw [h1, h2]; simp
theorem no_chk {P : Pg.Prog} {E : Pg.Env} (h1 : (Dp.chk P).2 ≠ 0) : ok P E = false := by unfold ok; simp [h1]
theorem no_hs {P : Pg.Prog} {E : Pg.Env} (h1 : hsB P = false) : ok P E = false := by unfold ok; simp [h1]
theorem no_env {P : Pg.Prog} {E : Pg.Env} (h1 : Pg.chkE P E ≠ 0) : ok P E = false := by unfold ok; simp [h1]
theorem emit_no {P : Pg.Prog} {E : Pg.Env} (h : ok P E = false) : emit P E = [] := by unfold emit; rw [h]; rfl
theorem emit_yes {P : Pg.Prog} {E : Pg.Env} (h : ok P E = true) : emit P E = Io.byL (bitsFrom P E P.dp []) ++ E.pl := by unfold emit; rw [h]; rfl
theorem bits_app (P : Pg.Prog) (E : Pg.Env) : ∀ a b L, bitsFrom P E (a ++ b) L = bitsFrom P E b (bitsFrom P E a L)
  | [], _, _ => rfl
  | _ :: a, b, L => by simp only [List.cons_append, bitsFrom]; exact bits_app P E a b _
theorem bits_snoc {P : Pg.Prog} {E : Pg.Env} {k : Nat} {x : Int} (hk : P.dp[k]? = some x) : bitsFrom P E (P.dp.take (k + 1)) [] = one P E x (bitsFrom P E (P.dp.take k) []) := by
  rw [List.take_add_one, hk, bits_app]; rfl
theorem one_len (P : Pg.Prog) (E : Pg.Env) (h : Int) (L : List Int) : (one P E h L).length ≤ L.length + 384 := by
  unfold one; split
  · exact Hd.wL_len _ _ _
  · omega
theorem bits_len (P : Pg.Prog) (E : Pg.Env) : ∀ l L, (bitsFrom P E l L).length ≤ L.length + 384 * l.length
  | [], L => by simp [bitsFrom]
  | h :: t, L => by
    have h1 := bits_len P E t (one P E h L)
    have h2 := one_len P E h L
    simp only [bitsFrom, List.length_cons]; omega
theorem one_bits {P : Pg.Prog} {E : Pg.Env} {h : Int} {L : List Int} (hb : Io.Bits L) : Io.Bits (one P E h L) := by
  unfold one; split
  · exact Hd.wL_bits _ _ _ hb
  · exact hb
end Dp

set_option maxRecDepth 8000 in
set_option maxHeartbeats 2000000 in
theorem accepts_any {W : World} {p : Pg.PV} {P : Pg.Prog} {e : Pg.EV} {E : Pg.Env} (hp : Pg.IsP W p P) (hc : Pg.CapP p) (he : Pg.IsE W e E) :
    Calls Try.prog 44 #[p.val, e.val] W (Rets W (.bool (Dp.ok P E))) := by
  have HP := Lib.hid hp
  have HE := Lib.hid he
  have HC := Lib.hid hc
  obtain ⟨s, a1, a2, a3, a4, a5, a6, a7, a8, m1, m2, n3, m3, n4, m4, n5, m5, n6, m6, n7, m7, m8, hf⟩ := hp.form
  obtain ⟨rfl, hhs, hmd, hdp, hl1, hl2, hl8⟩ := hf
  obtain ⟨b0, b1, b2, b3, d0, d1, d2, d3, hg⟩ := he.form
  obtain ⟨rfl, hva, hfi, hme, hpl, g0, g1, g2, g3⟩ := hg
  obtain ⟨x, y, hxy⟩ : ∃ x y, Dp.chk P = (x, y) := ⟨_, _, rfl⟩
  obtain ⟨z, hz⟩ : ∃ z, Pg.chkE P E = z := ⟨_, rfl⟩
  have HCK : Hid (∀ w, Ext W w → Calls Try.prog 14 #[.agg #[.string s, .slice a1 P.hs.length m1, .slice a2 P.md.length m2, .slice a3 n3 m3, .slice a4 n4 m4, .slice a5 n5 m5, .slice a6 n6 m6, .slice a7 n7 m7, .slice a8 P.dp.length m8]] w (Rets w (.tuple #[.int .i64 x, .int .i64 y]))) := Lib.hid (fun w hx => by have h := dcheck_any (HP.out.ext hx) HC.out; rw [Dp.chkV_of hxy] at h; exact h)
  have HEC : Hid (∀ w, Ext W w → Calls Try.prog 69 #[.agg #[.string s, .slice a1 P.hs.length m1, .slice a2 P.md.length m2, .slice a3 n3 m3, .slice a4 n4 m4, .slice a5 n5 m5, .slice a6 n6 m6, .slice a7 n7 m7, .slice a8 P.dp.length m8], .agg #[.slice b0 E.va.length d0, .slice b1 E.fi.length d1, .slice b2 E.me.length d2, .slice b3 E.pl.length d3]] w (Rets w (.int .i64 z))) := Lib.hid (fun w hx => by have h := echeck_any (HP.out.ext hx) (HE.out.ext hx); rw [hz] at h; exact h)
  have HXY : Hid ((Dp.chk P).2 = y) := Lib.hid (by rw [hxy])
  have HZ0 := Lib.hid hz
  dsimp only [Pg.PV.val, Pg.EV.val]
  have bb := alloc_heap W (.cells #[.string s, .slice a1 P.hs.length m1, .slice a2 P.md.length m2, .slice a3 n3 m3, .slice a4 n4 m4, .slice a5 n5 m5, .slice a6 n6 m6, .slice a7 n7 m7, .slice a8 P.dp.length m8] 31)
  have k0 := alw (cell_of (o := 0) bb)
  have k1 := alw (cell_of (o := 1) bb)
  have k2 := alw (cell_of (o := 2) bb)
  have k3 := alw (cell_of (o := 3) bb)
  have k4 := alw (cell_of (o := 4) bb)
  have k5 := alw (cell_of (o := 5) bb)
  have k6 := alw (cell_of (o := 6) bb)
  have k7 := alw (cell_of (o := 7) bb)
  have k8 := alw (cell_of (o := 8) bb)
  have be := alloc_heap (W.alloc (.cells #[.string s, .slice a1 P.hs.length m1, .slice a2 P.md.length m2, .slice a3 n3 m3, .slice a4 n4 m4, .slice a5 n5 m5, .slice a6 n6 m6, .slice a7 n7 m7, .slice a8 P.dp.length m8] 31)) (.cells #[.slice b0 E.va.length d0, .slice b1 E.fi.length d1, .slice b2 E.me.length d2, .slice b3 E.pl.length d3] 37)
  rw [World.size_alloc] at be
  have j0 := alw (cell_of (o := 0) be)
  have j1 := alw (cell_of (o := 1) be)
  have j2 := alw (cell_of (o := 2) be)
  have j3 := alw (cell_of (o := 3) be)
  have HHS := Lib.hid hhs
  clear bb be hp he hc hhs hmd hdp hva hfi hme hpl hxy hz
  by_cases h0 : y = 0
  · have h0b : (y != 0) = false := by simp [h0]
    have H0 := Lib.hid (HXY.out.trans h0)
    clear h0
    go_enter Try.func44, Try.ntmps44
    go_wp2_with fail
    refine (HCK.out _ (grows (a := W))).mono ?_
    rintro e' w1 ⟨rfl, x1⟩
    have s1 := Step.mk x1
    go_wp2_with fail
    go_loopw [19] (fun i wr => ∃ k : Nat, k ≤ P.hs.length ∧ i = .int .i64 k ∧ Ext w1 wr ∧ Hid (∀ j, j < k → (Hd.chk (P.hs.getD j (⟨#[]⟩, [])) == 0) = true)) (fun i _ => P.hs.length - (intOf i).toNat)
    case atStart => exact ⟨0, Nat.zero_le _, rfl, Ext.refl _, Lib.hid (by intro j hj; omega)⟩
    case round =>
      obtain ⟨k, hk, rfl, hx, HZ⟩ := hrel
      obtain ⟨wo, rfl⟩ : ∃ wo : World, wo = wr := ⟨_, rfl⟩
      have sx := Step.mk hx
      by_cases hlt : k < P.hs.length
      · obtain ⟨⟨nm, fs⟩, hhk⟩ : ∃ x, P.hs[k]? = some x := ⟨_, List.getElem?_eq_getElem hlt⟩
        obtain ⟨bh, oh, hoh, _, _⟩ := Rows.at HHS.out (by omega)
        subst hoh
        obtain ⟨fa, fc, q0, q1, qn, qf, qc, qm⟩ := hdrs_at HHS.out k nm fs hhk rfl
        have hgh : P.hs.getD k (⟨#[]⟩, []) = (nm, fs) := by rw [List.getD_eq_getElem?_getD, hhk]; rfl
        have HGH := Lib.hid hgh
        have QF := Lib.hid qf
        unfold maxLen at qm
        clear hhk hgh qf
        have bf := alloc_heap wo (.cells #[.string nm, .slice fa fs.length fc] 72)
        have f0 := alw (cell_of (o := 0) bf)
        have f1 := alw (cell_of (o := 1) bf)
        obtain ⟨c, hcc⟩ : ∃ c, Hd.chk (nm, fs) = c := ⟨_, rfl⟩
        have HCC := Lib.hid hcc
        have HCH : Hid (∀ w, Ext W w → Calls Try.prog 63 #[.agg #[.string nm, .slice fa fs.length fc]] w (Rets w (.int .i64 c))) := Lib.hid (fun w hx => by have h := hcheck_any (nm, fs) (Hd.Flds.ext QF.out hx) qn; rw [hcc] at h; exact h)
        clear bf hcc
        by_cases hc0 : c = 0
        · have hcb : (c != 0) = false := by simp [hc0]
          have HC0 := Lib.hid hc0
          clear hc0
          go_wp2_with fail
          refine (HCH.out _ (grows (a := W))).mono ?_
          rintro e' w2 ⟨rfl, x2⟩
          have s2 := Step.mk x2
          go_wp2_with fail
          go_roundw
          case rel =>
            refine ⟨k + 1, by omega, by go_num, by exact (grows (a := w1)), Lib.hid (fun j hj => ?_)⟩
            rcases Nat.lt_or_ge j k with h1 | h1
            · exact HZ.out j h1
            · obtain rfl : j = k := by omega
              rw [HGH.out, HCC.out, HC0.out]; rfl
          case measure => simp [intOf]; omega
        · have hcb : (c != 0) = true := by simp [hc0]
          have HC0 := Lib.hid hc0
          clear hc0
          go_wp2_with fail
          refine (HCH.out _ (grows (a := W))).mono ?_
          rintro e' w2 ⟨rfl, x2⟩
          have s2 := Step.mk x2
          go_wp2_with fail
          go_ret
          exact ⟨ret_bool (by rw [Dp.no_hs (Pg.all_no hlt (by rw [HGH.out, HCC.out]; simpa using HC0.out))]), grows⟩
      · obtain rfl : k = P.hs.length := by omega
        go_wp2_with fail
        refine (HEC.out _ (grows (a := W))).mono ?_
        rintro e' w2 ⟨rfl, x2⟩
        have s2 := Step.mk x2
        go_wp2_with fail
        go_ret
        exact ⟨ret_bool (by rw [Dp.ok_of H0.out (Pg.all_yes HZ.out), HZ0.out]), grows⟩
  · have h0b : (y != 0) = true := by simp [h0]
    have HR := Lib.hid (Dp.no_chk (P := P) (E := E) (by rw [HXY.out]; exact h0))
    clear h0
    go_enter Try.func44, Try.ntmps44
    go_wp2_with fail
    refine (HCK.out _ (grows (a := W))).mono ?_
    rintro e' w1 ⟨rfl, x1⟩
    have s1 := Step.mk x1
    go_wp2_with fail
    go_ret
    exact ⟨ret_bool (by rw [HR.out]), grows⟩
end Go.Proofs.Ytonnlcjkgpahoaa
