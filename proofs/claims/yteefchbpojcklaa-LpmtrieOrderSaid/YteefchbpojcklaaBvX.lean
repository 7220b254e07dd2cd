/- The rest of layer 1: prefix masks, and the reference's functions. No condition. -/
import Derived.Test.YteefchbpojcklaaBvW
namespace Go.Proofs.Yteefchbpojcklaa
open Go.RowKit

theorem pmask_any (n w : Int) (W : World) : Calls Try.prog 38 #[.int .i64 n, .int .i64 w] W (Rets W (.int .u32 (Bv.pmask n w))) := by
  cases hk : Bv.ok w
  · go_enter Try.func38, Try.ntmps38
    go_wp2_with (go_at_call 34; refine (valid_cell _ w _ (by simp)).mono ?_; rintro e w' ⟨rfl, rfl⟩)
    go_ret
    exact ⟨by simp [Bv.pmask, hk], (Ext.refl W).alloc _⟩
  · have hb := Bv.ok_iff.1 hk
    have hx := Ext.refl W
    by_cases h0 : n < 0
    · go_enter Try.func38, Try.ntmps38
      go_wp2_with (first
        | (go_at_call 34; refine (valid_cell _ w _ (by simp)).mono ?_; rintro e w' ⟨rfl, rfl⟩; replace hx := hx.alloc (.cells #[.int .i64 w] 3))
        | (go_at_call 21; refine (mask_any _ _).mono ?_; rintro e w1 ⟨rfl, hy⟩; replace hx := hx.trans hy; clear hy))
      go_ret
      exact ⟨by simp [Bv.pmask_neg hk h0], hx⟩
    · by_cases h1 : w < n
      · go_enter Try.func38, Try.ntmps38
        go_wp2_with (first
          | (go_at_call 34; refine (valid_cell _ w _ (by simp)).mono ?_; rintro e w' ⟨rfl, rfl⟩; replace hx := hx.alloc (.cells #[.int .i64 w] 3))
          | (go_at_call 21; refine (mask_any _ _).mono ?_; rintro e w1 ⟨rfl, hy⟩; replace hx := hx.trans hy; clear hy))
        go_ret
        exact ⟨by simp [Bv.pmask_top hk h1], hx⟩
      · go_enter Try.func38, Try.ntmps38
        go_wp2_with (first
          | (go_at_call 34; refine (valid_cell _ w _ (by simp)).mono ?_; rintro e w' ⟨rfl, rfl⟩; replace hx := hx.alloc (.cells #[.int .i64 w] 3))
          | (go_at_call 21; refine (mask_any _ _).mono ?_; rintro e w1 ⟨rfl, hy⟩; replace hx := hx.trans hy; clear hy))
        go_ret
        exact ⟨by simp [Bv.pmask_mid hk (by omega) (by omega)], hx⟩

end Go.Proofs.Yteefchbpojcklaa
