/- The laws of layer 1, walked: the prefixes. No condition. -/
import Derived.Test.YtpcoikgbpdedcaaBvL
namespace Go.Proofs.Ytpcoikgbpdedcaa
open Go.RowKit

theorem bitvecPrefixes_walk (n m w : Int) (W : World) (_wn : (Lit.int .i64 n).wf = true) (_wm : (Lit.int .i64 m).wf = true) (_ww : (Lit.int .i64 w).wf = true) :
    Calls Try.prog 7 #[.int .i64 n, .int .i64 m, .int .i64 w] W (Rets W (.bool true)) := by
  clear _wn _wm _ww
  have hx := Ext.refl W
  by_cases hm : 1 ≤ w ∧ w ≤ 32 ∧ 0 ≤ n ∧ n ≤ m ∧ m ≤ w
  · obtain ⟨h1, h2, h3, h4, h5⟩ := hm
    obtain ⟨w, rfl⟩ := Int.eq_ofNat_of_zero_le (show 0 ≤ w by omega)
    obtain ⟨n, rfl⟩ := Int.eq_ofNat_of_zero_le h3
    obtain ⟨m, rfl⟩ := Int.eq_ofNat_of_zero_le (show 0 ≤ m by omega)
    have hk := Bv.ok_of h1 h2
    have hi : ∀ j : Nat, j < n → Bv.pmask j w ≠ Bv.pmask n w := fun j hj e => by
      have := Bv.pmask_inj (n := n) (j := j) (w := w) (by omega) (by omega) (by omega) (by omega) e
      omega
    have HI := Lib.hid hi
    clear hi
    have hb := Bv.pmask_bd n w
    have HK := Lib.hid hk
    have e1 := Bv.ones_pmask (n := n) (w := w) (by omega) (by omega) (by omega)
    have e2 := Bv.and_pmask (n := n) (m := m) (w := w) (by omega) (by omega) (by omega) (by omega)
    have e3 := Bv.fits_pmask (n := m) hk
    clear hk
    go_enter Try.func7, Try.ntmps7
    go_wp2_with (first
      | (go_at_call 35; refine (pmask_any _ _ _).mono ?_; rintro e w1 ⟨rfl, hy⟩; replace hx := hx.trans hy; clear hy)
      | (go_at_call 38; refine (plen_hit _ _ HK.out n (by omega) rfl HI.out _).mono ?_; rintro e w1 ⟨rfl, hy⟩; replace hx := hx.trans hy; clear hy)
      | (go_at_call 33; refine (ones_any _ (by omega) (by omega) _).mono ?_; rintro e w1 ⟨rfl, hy⟩; replace hx := hx.trans hy; clear hy)
      | (go_at_call 22; refine (fits_any _ _ _).mono ?_; rintro e w1 ⟨rfl, hy⟩; replace hx := hx.trans hy; clear hy)
      | (go_at_call 15; refine (awake_any _).mono ?_; rintro e w1 ⟨rfl, hy⟩; replace hx := hx.trans hy; clear hy))
    all_goals (go_ret; exact ⟨rfl, hx⟩)
  · go_enter Try.func7, Try.ntmps7
    go_wp2_with (go_at_call 15; refine (awake_any _).mono ?_; rintro e w1 ⟨rfl, hy⟩; replace hx := hx.trans hy; clear hy)
    all_goals first
      | (go_ret; exact ⟨rfl, hx⟩)
      | (exfalso; omega)
end Go.Proofs.Ytpcoikgbpdedcaa
