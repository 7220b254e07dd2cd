/- The functions of layer 1 and of its reference, walked: each returns what Bv says. No condition. -/
import Derived.Test.YteefchbpojcklaaBase
import Derived.Test.YteefchbpojcklaaBv
import Derived.Test.YteefchbpojcklaaProg
import Derived.Deep.DeepFit
import Derived.Deep.DeepMust
import Derived.Handy
namespace Go.Proofs.Yteefchbpojcklaa
open Go.RowKit

theorem valid_cell (b : Nat) (w : Int) (W : World) (hc : W.cell? ⟨b, 0, none⟩ = some (.int .i64 w)) :
    Calls Try.prog 34 #[.slice (some ⟨b, 0, none⟩) 1 1] W fun e W' => e = .returned (.bool (Bv.ok w)) ∧ W = W' := by
  by_cases h1 : w < 1
  · have hk : Bv.ok w = false := Bv.not_ok (by omega)
    go_enter Try.func34, Try.ntmps34
    go_wp2
    go_rounds 2
    all_goals (go_ret; exact ⟨by rw [hk]; rfl, rfl⟩)
  · by_cases h2 : 32 < w
    · have hk : Bv.ok w = false := Bv.not_ok (by omega)
      go_enter Try.func34, Try.ntmps34
      go_wp2
      go_rounds 2
      all_goals (go_ret; exact ⟨by rw [hk]; rfl, rfl⟩)
    · have hk : Bv.ok w = true := Bv.ok_of (by omega) (by omega)
      go_enter Try.func34, Try.ntmps34
      go_wp2
      go_rounds 2
      all_goals (go_ret; exact ⟨by rw [hk]; rfl, rfl⟩)

theorem mask_any (w : Int) (W : World) : Calls Try.prog 21 #[.int .i64 w] W (Rets W (.int .u32 (Bv.mask w))) := by
  cases hk : Bv.ok w
  · go_enter Try.func21, Try.ntmps21
    go_wp2_with (go_at_call 34; refine (valid_cell _ w _ (by simp)).mono ?_; rintro e w' ⟨rfl, rfl⟩)
    go_ret
    exact ⟨by simp [Bv.mask, hk], (Ext.refl W).alloc _⟩
  · have hb := Bv.ok_iff.1 hk
    go_enter Try.func21, Try.ntmps21
    go_wp2_with (go_at_call 34; refine (valid_cell _ w _ (by simp)).mono ?_; rintro e w' ⟨rfl, rfl⟩)
    go_ret
    exact ⟨by simp [Bv.mask, hk, Bv.top_div hb.1 hb.2], (Ext.refl W).alloc _⟩

theorem max_pw (n : Int) : Bv.pw (max n 0) = Bv.pw n := by
  by_cases h : n < 0
  · rw [Bv.pw_nonpos (by omega), Bv.pw_nonpos (by omega)]
  · rw [show max n 0 = n by omega]
theorem valid_cells (b : Nat) (u w : Int) (W : World) (hc : W.cell? ⟨b, 0, none⟩ = some (.int .i64 u)) (hd : W.cell? ⟨b, 1, none⟩ = some (.int .i64 w)) :
    Calls Try.prog 34 #[.slice (some ⟨b, 0, none⟩) 2 2] W fun e W' => e = .returned (.bool (Bv.ok u && Bv.ok w)) ∧ W = W' := by
  cases hu : Bv.ok u
  · by_cases h1 : u < 1
    · go_enter Try.func34, Try.ntmps34
      go_wp2
      go_rounds 3
      all_goals (go_ret; exact ⟨rfl, rfl⟩)
    · have h2 : 32 < u := by
        have := mt Bv.ok_iff.2 (by rw [hu]; decide)
        omega
      go_enter Try.func34, Try.ntmps34
      go_wp2
      go_rounds 3
      all_goals (go_ret; exact ⟨rfl, rfl⟩)
  · have hb := Bv.ok_iff.1 hu
    cases hw : Bv.ok w
    · by_cases h1 : w < 1
      · go_enter Try.func34, Try.ntmps34
        go_wp2
        go_rounds 3
        all_goals (go_ret; exact ⟨rfl, rfl⟩)
      · have h2 : 32 < w := by
          have := mt Bv.ok_iff.2 (by rw [hw]; decide)
          omega
        go_enter Try.func34, Try.ntmps34
        go_wp2
        go_rounds 3
        all_goals (go_ret; exact ⟨rfl, rfl⟩)
    · have hb2 := Bv.ok_iff.1 hw
      go_enter Try.func34, Try.ntmps34
      go_wp2
      go_rounds 3
      all_goals (go_ret; exact ⟨rfl, rfl⟩)

theorem fits_any (v w : Int) (W : World) : Calls Try.prog 35 #[.int .u32 v, .int .i64 w] W (Rets W (.bool (Bv.fits v w))) := by
  cases hk : Bv.ok w
  · go_enter Try.func35, Try.ntmps35
    go_wp2_with (go_at_call 34; refine (valid_cell _ w _ (by simp)).mono ?_; rintro e w' ⟨rfl, rfl⟩)
    go_ret
    exact ⟨by simp [Bv.fits, hk], (Ext.refl W).alloc _⟩
  · have hm : Bv.mask w = Bv.pw w - 1 := by unfold Bv.mask; rw [if_pos hk]
    have Hm := Lib.hid hm
    clear hm
    go_enter Try.func35, Try.ntmps35
    go_wp2_with (first
      | (go_at_call 34; refine (valid_cell _ w _ (by simp)).mono ?_; rintro e w' ⟨rfl, rfl⟩)
      | (go_at_call 21; refine (mask_any _ _).mono ?_; rintro e w1 ⟨rfl, hx⟩))
    go_ret
    exact ⟨by simp [Bv.fits, hk, Hm.out, Int.le_sub_one_iff], ((Ext.refl W).alloc _).trans hx⟩

end Go.Proofs.Yteefchbpojcklaa
