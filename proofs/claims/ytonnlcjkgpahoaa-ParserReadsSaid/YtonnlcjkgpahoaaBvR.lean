/- The reference's functions of layer 1, walked. No condition. -/
import Derived.Test.YtonnlcjkgpahoaaBvX
namespace Go.Proofs.Ytonnlcjkgpahoaa
open Go.RowKit

theorem rfits_any (v w : Int) (h0 : 0 ≤ v) (h1 : v < 4294967296) (W : World) : Calls Try.prog 92 #[.int .u32 v, .int .i64 w] W fun e W' => e = .returned (.bool (Bv.fits v w)) ∧ W = W' := by
  cases hk : Bv.ok w
  · go_enter Try.func92, Try.ntmps92
    go_wp2_with (go_at_call 107; refine (rvalid_any w _).mono ?_; rintro e w' ⟨rfl, rfl⟩)
    go_ret
    exact ⟨by simp [Bv.fits, hk], rfl⟩
  · have hb := Bv.ok_iff.1 hk
    go_enter Try.func92, Try.ntmps92
    go_wp2_with (first
      | (go_at_call 107; refine (rvalid_any w _).mono ?_; rintro e w' ⟨rfl, rfl⟩)
      | (go_at_call 108; refine (power_any w (by omega) _).mono ?_; rintro e w' ⟨rfl, rfl⟩))
    go_ret
    exact ⟨by simp [Bv.fits, hk], rfl⟩
end Go.Proofs.Ytonnlcjkgpahoaa
