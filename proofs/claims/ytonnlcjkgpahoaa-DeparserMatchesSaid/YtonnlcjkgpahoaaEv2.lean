/- The environment: the reference's Width and Fits, walked. No condition. -/
import Derived.Test.YtonnlcjkgpahoaaEv1
namespace Go.Proofs.Ytonnlcjkgpahoaa
open Go.RowKit

namespace Pg
theorem wid_out {P : Prog} {h f : Int} {fs : List Hd.Fld} (e : flds P h = fs) (hf : f < 0 ∨ (fs.length : Int) ≤ f) : wid P h f = 0 := by
  unfold wid; rw [e, fldAt_out hf]; rfl
theorem wid_in {P : Prog} {h : Int} {k : Nat} {fs : List Hd.Fld} {nm : ByteArray} {x : Int} (e : flds P h = fs) (hk : fs[k]? = some (nm, x)) : wid P h k = if Bv.ok x then x else 0 := by
  unfold wid; rw [e, fldAt_in hk]
end Pg

set_option maxRecDepth 8000 in
set_option maxHeartbeats 1000000 in
theorem rwidth_any {W : World} {p : Pg.PV} {P : Pg.Prog} (hp : Pg.IsP W p P) (h f : Int) :
    Calls Try.prog 59 #[p.val, .agg #[.int .i64 h, .int .i64 f]] W (Rets W (.int .i64 (Pg.wid P h f))) := by
  obtain ⟨s, a1, a2, a3, a4, a5, a6, a7, a8, m1, m2, n3, m3, n4, m4, n5, m5, n6, m6, n7, m7, m8, hf⟩ := hp.form
  obtain ⟨rfl, hhs, hmd, _, hl1, hl2, _⟩ := hf
  dsimp only [Pg.PV.val]
  have bb := alloc_heap W (.cells #[.string s, .slice a1 P.hs.length m1, .slice a2 P.md.length m2, .slice a3 n3 m3, .slice a4 n4 m4, .slice a5 n5 m5, .slice a6 n6 m6, .slice a7 n7 m7, .slice a8 P.dp.length m8] 31)
  have k1 := alw (cell_of (o := 1) bb)
  have k2 := alw (cell_of (o := 2) bb)
  have b2 := alloc_heap (W.alloc (.cells #[.string s, .slice a1 P.hs.length m1, .slice a2 P.md.length m2, .slice a3 n3 m3, .slice a4 n4 m4, .slice a5 n5 m5, .slice a6 n6 m6, .slice a7 n7 m7, .slice a8 P.dp.length m8] 31)) (.cells #[.int .i64 h, .int .i64 f] 58)
  rw [World.size_alloc] at b2
  have j0 := alw (cell_of (o := 0) b2)
  have j1 := alw (cell_of (o := 1) b2)
  clear bb b2 hp
  by_cases h0 : 0 ≤ h
  · by_cases h1 : h < P.hs.length
    · obtain ⟨q, rfl⟩ := Int.eq_ofNat_of_zero_le h0
      obtain ⟨⟨hn, fs⟩, hxk⟩ : ∃ x, P.hs[q]? = some x := ⟨_, List.getElem?_eq_getElem (by omega)⟩
      obtain ⟨b, o, hoa, _, _⟩ := Rows.at hhs (by omega)
      subst hoa
      obtain ⟨fa, fc, f0, f1, hns, hfl, hfc, hfm⟩ := hdrs_at hhs q hn fs hxk rfl
      have he : Pg.flds P q = fs := by unfold Pg.flds; rw [if_neg (by omega), Pg.hdrAt_in hxk]
      have HE := Lib.hid he
      have HFL := Lib.hid hfl
      unfold maxLen at hfm
      clear hxk hhs hmd he hfl
      by_cases hf0 : 0 ≤ f ∧ f < fs.length
      · obtain ⟨g0, g1⟩ := hf0
        obtain ⟨k, rfl⟩ := Int.eq_ofNat_of_zero_le g0
        obtain ⟨⟨nk, x⟩, hxk⟩ : ∃ x, fs[k]? = some x := ⟨_, List.getElem?_eq_getElem (by omega)⟩
        obtain ⟨b', o', hoa, _, _⟩ := Rows.at HFL.out (by omega)
        subst hoa
        obtain ⟨e0, e1, _, hx1, hx2⟩ := flds_at HFL.out k nk x hxk rfl
        have HWI := Lib.hid (Pg.wid_in HE.out hxk)
        clear hxk
        rcases (show x < 1 ∨ (1 ≤ x ∧ 32 < x) ∨ (1 ≤ x ∧ x ≤ 32) by omega) with hx | ⟨hx, hy⟩ | ⟨hx, hy⟩
        · have HR := Lib.hid (HWI.out.trans (if_neg (by rw [Bv.not_ok (by omega)]; decide)))
          go_enter Try.func59, Try.ntmps59
          go_wp2_with fail
          go_ret
          exact ⟨ret_int (by rw [HR.out]), grows⟩
        · have HR := Lib.hid (HWI.out.trans (if_neg (by rw [Bv.not_ok (by omega)]; decide)))
          go_enter Try.func59, Try.ntmps59
          go_wp2_with fail
          go_ret
          exact ⟨ret_int (by rw [HR.out]), grows⟩
        · have HR := Lib.hid (HWI.out.trans (if_pos (Bv.ok_of hx hy)))
          go_enter Try.func59, Try.ntmps59
          go_wp2_with fail
          go_ret
          exact ⟨ret_int (by rw [HR.out]), grows⟩
      · have HR := Lib.hid (Pg.wid_out HE.out (f := f) (by omega))
        rcases (show f < 0 ∨ (0 ≤ f ∧ (fs.length : Int) ≤ f) by omega) with g0 | ⟨g0, g1⟩
        all_goals
          clear hf0
          go_enter Try.func59, Try.ntmps59
          go_wp2_with fail
          go_ret
          exact ⟨ret_int (by rw [HR.out]), grows⟩
    · have h2 : (P.hs.length : Int) ≤ h := by omega
      have hr : Pg.wid P h f = 0 := by
        refine Pg.wid_out (fs := []) (by unfold Pg.flds; rw [if_neg (by omega), Pg.hdrAt_out (.inr h2)]) ?_
        simp; omega
      have HR := Lib.hid hr
      clear hr hhs hmd
      go_enter Try.func59, Try.ntmps59
      go_wp2_with fail
      go_ret
      exact ⟨ret_int (by rw [HR.out]), grows⟩
  · by_cases hm1 : h = -1
    · subst hm1
      have he : Pg.flds P (-1) = P.md := by unfold Pg.flds; rw [if_pos rfl]
      have HE := Lib.hid he
      have HFL := Lib.hid hmd
      clear hhs hmd he h0
      by_cases hf0 : 0 ≤ f ∧ f < P.md.length
      · obtain ⟨g0, g1⟩ := hf0
        obtain ⟨k, rfl⟩ := Int.eq_ofNat_of_zero_le g0
        obtain ⟨⟨nk, x⟩, hxk⟩ : ∃ x, P.md[k]? = some x := ⟨_, List.getElem?_eq_getElem (by omega)⟩
        obtain ⟨b', o', hoa, _, _⟩ := Rows.at HFL.out (by omega)
        subst hoa
        obtain ⟨e0, e1, _, hx1, hx2⟩ := flds_at HFL.out k nk x hxk rfl
        have HWI := Lib.hid (Pg.wid_in HE.out hxk)
        clear hxk
        rcases (show x < 1 ∨ (1 ≤ x ∧ 32 < x) ∨ (1 ≤ x ∧ x ≤ 32) by omega) with hx | ⟨hx, hy⟩ | ⟨hx, hy⟩
        · have HR := Lib.hid (HWI.out.trans (if_neg (by rw [Bv.not_ok (by omega)]; decide)))
          go_enter Try.func59, Try.ntmps59
          go_wp2_with fail
          go_ret
          exact ⟨ret_int (by rw [HR.out]), grows⟩
        · have HR := Lib.hid (HWI.out.trans (if_neg (by rw [Bv.not_ok (by omega)]; decide)))
          go_enter Try.func59, Try.ntmps59
          go_wp2_with fail
          go_ret
          exact ⟨ret_int (by rw [HR.out]), grows⟩
        · have HR := Lib.hid (HWI.out.trans (if_pos (Bv.ok_of hx hy)))
          go_enter Try.func59, Try.ntmps59
          go_wp2_with fail
          go_ret
          exact ⟨ret_int (by rw [HR.out]), grows⟩
      · have HR := Lib.hid (Pg.wid_out HE.out (f := f) (by omega))
        rcases (show f < 0 ∨ (0 ≤ f ∧ (P.md.length : Int) ≤ f) by omega) with g0 | ⟨g0, g1⟩
        all_goals
          clear hf0
          go_enter Try.func59, Try.ntmps59
          go_wp2_with fail
          go_ret
          exact ⟨ret_int (by rw [HR.out]), grows⟩
    · have h2 : h < -1 := by omega
      have hr : Pg.wid P h f = 0 := by
        refine Pg.wid_out (fs := []) (by unfold Pg.flds; rw [if_neg hm1, Pg.hdrAt_out (.inl (by omega))]) ?_
        simp; omega
      have HR := Lib.hid hr
      clear hr hhs hmd hm1 h0
      go_enter Try.func59, Try.ntmps59
      go_wp2_with fail
      go_ret
      exact ⟨ret_int (by rw [HR.out]), grows⟩

end Go.Proofs.Ytonnlcjkgpahoaa
