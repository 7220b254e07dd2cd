/- The functions of layer 1 and of its reference, walked: each returns what Bv says. No condition. -/
import Derived.Test.YtpcoikgbpdedcaaBase
import Derived.Test.YtpcoikgbpdedcaaBv
import Derived.Test.YtpcoikgbpdedcaaProg
import Derived.Deep.DeepFit
import Derived.Deep.DeepMust
import Derived.Handy
namespace Go.Proofs.Ytpcoikgbpdedcaa
open Go.RowKit

theorem valid_cell (b : Nat) (w : Int) (W : World) (hc : W.cell? ⟨b, 0, none⟩ = some (.int .i64 w)) :
    Calls Try.prog 64 #[.slice (some ⟨b, 0, none⟩) 1 1] W fun e W' => e = .returned (.bool (Bv.ok w)) ∧ W = W' := by
  by_cases h1 : w < 1
  · have hk : Bv.ok w = false := Bv.not_ok (by omega)
    go_enter Try.func64, Try.ntmps64
    go_wp2
    go_rounds 2
    all_goals (go_ret; exact ⟨by rw [hk]; rfl, rfl⟩)
  · by_cases h2 : 32 < w
    · have hk : Bv.ok w = false := Bv.not_ok (by omega)
      go_enter Try.func64, Try.ntmps64
      go_wp2
      go_rounds 2
      all_goals (go_ret; exact ⟨by rw [hk]; rfl, rfl⟩)
    · have hk : Bv.ok w = true := Bv.ok_of (by omega) (by omega)
      go_enter Try.func64, Try.ntmps64
      go_wp2
      go_rounds 2
      all_goals (go_ret; exact ⟨by rw [hk]; rfl, rfl⟩)

theorem mask_any (w : Int) (W : World) : Calls Try.prog 16 #[.int .i64 w] W (Rets W (.int .u32 (Bv.mask w))) := by
  cases hk : Bv.ok w
  · go_enter Try.func16, Try.ntmps16
    go_wp2_with (go_at_call 64; refine (valid_cell _ w _ (by simp)).mono ?_; rintro e w' ⟨rfl, rfl⟩)
    go_ret
    exact ⟨by simp [Bv.mask, hk], (Ext.refl W).alloc _⟩
  · have hb := Bv.ok_iff.1 hk
    go_enter Try.func16, Try.ntmps16
    go_wp2_with (go_at_call 64; refine (valid_cell _ w _ (by simp)).mono ?_; rintro e w' ⟨rfl, rfl⟩)
    go_ret
    exact ⟨by simp [Bv.mask, hk, Bv.top_div hb.1 hb.2], (Ext.refl W).alloc _⟩

theorem add_any (a b w : Int) (W : World) : Calls Try.prog 18 #[.int .u32 a, .int .u32 b, .int .i64 w] W (Rets W (.int .u32 (Bv.red (a + b) w))) := by
  go_enter Try.func18, Try.ntmps18
  go_wp2_with (go_at_call 16; refine (mask_any _ _).mono ?_; rintro e w1 ⟨rfl, hx⟩)
  go_ret
  exact ⟨by simp [Bv.and_mask_mod], hx⟩
theorem sub_any (a b w : Int) (W : World) : Calls Try.prog 17 #[.int .u32 a, .int .u32 b, .int .i64 w] W (Rets W (.int .u32 (Bv.red (a - b) w))) := by
  go_enter Try.func17, Try.ntmps17
  go_wp2_with (go_at_call 16; refine (mask_any _ _).mono ?_; rintro e w1 ⟨rfl, hx⟩)
  go_ret
  exact ⟨by simp [Bv.and_mask_mod], hx⟩
theorem not_any (a w : Int) (h0 : 0 ≤ a) (h1 : a < 4294967296) (W : World) : Calls Try.prog 19 #[.int .u32 a, .int .i64 w] W (Rets W (.int .u32 (Bv.nt a w))) := by
  go_enter Try.func19, Try.ntmps19
  go_wp2_with (go_at_call 16; refine (mask_any _ _).mono ?_; rintro e w1 ⟨rfl, hx⟩)
  go_ret
  exact ⟨by simp [Bv.xor_max h0 h1, Bv.nt_eq h0 h1], hx⟩
theorem max_pw (n : Int) : Bv.pw (max n 0) = Bv.pw n := by
  by_cases h : n < 0
  · rw [Bv.pw_nonpos (by omega), Bv.pw_nonpos (by omega)]
  · rw [show max n 0 = n by omega]
theorem shr_any (a n w : Int) (h0 : 0 ≤ a) (h1 : a < 4294967296) (W : World) : Calls Try.prog 30 #[.int .u32 a, .int .i64 n, .int .i64 w] W (Rets W (.int .u32 (Bv.shr a n w))) := by
  by_cases hn : n < 0
  · go_enter Try.func30, Try.ntmps30
    go_wp2_with (go_at_call 16; refine (mask_any _ _).mono ?_; rintro e w1 ⟨rfl, hx⟩)
    go_ret
    exact ⟨by simp [Bv.and_mask h0 h1, Bv.shr, Bv.pw_nonpos (Int.le_of_lt hn)], hx⟩
  · go_enter Try.func30, Try.ntmps30
    go_wp2_with (go_at_call 16; refine (mask_any _ _).mono ?_; rintro e w1 ⟨rfl, hx⟩)
    go_ret
    exact ⟨by simp [Bv.and_mask h0 h1, Bv.shr, Bv.div_min (Bv.red_bd a w).1 (Bv.red_bd a w).2], hx⟩
theorem shl_any (a n w : Int) (W : World) : Calls Try.prog 28 #[.int .u32 a, .int .i64 n, .int .i64 w] W (Rets W (.int .u32 (Bv.shl a n w))) := by
  by_cases hn : n < 0
  · go_enter Try.func28, Try.ntmps28
    go_wp2_with fail
    refine wp_region_later (W := W) (by kernel_rfl) (by kernel_rfl) (Ext.refl _) ?_
    repeat (go_big_quiet_step ((go_at_call 16; exact Rets.later_at (mask_any _ _))))
    refine wpQuiet_nil ?_
    intro w1 hx
    go_wp2
    go_ret
    exact ⟨by simp [Bv.shl, Bv.and_mask_mod, Bv.pw_nonpos (Int.le_of_lt hn)], hx⟩
  · go_enter Try.func28, Try.ntmps28
    go_wp2_with fail
    refine wp_region_later (W := W) (by kernel_rfl) (by kernel_rfl) (Ext.refl _) ?_
    repeat (go_big_quiet_step ((go_at_call 16; exact Rets.later_at (mask_any _ _))))
    refine wpQuiet_nil ?_
    intro w1 hx
    go_wp2
    go_ret
    exact ⟨by simp [Bv.shl, Bv.and_mask_mod, Bv.shl_min], hx⟩
theorem slice_any (a lo w : Int) (h0 : 0 ≤ a) (h1 : a < 4294967296) (W : World) : Calls Try.prog 21 #[.int .u32 a, .int .i64 lo, .int .i64 w] W (Rets W (.int .u32 (Bv.slice a lo w))) := by
  cases hk : Bv.ok w
  · go_enter Try.func21, Try.ntmps21
    go_wp2_with (go_at_call 64; refine (valid_cell _ w _ (by simp)).mono ?_; rintro e w' ⟨rfl, rfl⟩)
    go_ret
    exact ⟨by simp [Bv.slice, Bv.slok, hk], (Ext.refl W).alloc _⟩
  · have hb := Bv.ok_iff.1 hk
    by_cases hl : lo < 0
    · go_enter Try.func21, Try.ntmps21
      go_wp2_with (go_at_call 64; refine (valid_cell _ w _ (by simp)).mono ?_; rintro e w' ⟨rfl, rfl⟩)
      go_ret
      exact ⟨by simp [Bv.slice, Bv.slok, hk]; omega, (Ext.refl W).alloc _⟩
    · by_cases hu : 32 - w < lo
      · go_enter Try.func21, Try.ntmps21
        go_wp2_with (go_at_call 64; refine (valid_cell _ w _ (by simp)).mono ?_; rintro e w' ⟨rfl, rfl⟩)
        go_ret
        exact ⟨by simp [Bv.slice, Bv.slok, hk]; omega, (Ext.refl W).alloc _⟩
      · go_enter Try.func21, Try.ntmps21
        go_wp2_with (go_at_call 64; refine (valid_cell _ w _ (by simp)).mono ?_; rintro e w' ⟨rfl, rfl⟩)
        refine wp_region_later (W := W) (by kernel_rfl) (by kernel_rfl) ((Ext.refl _).alloc _) ?_
        repeat (go_big_quiet_step ((go_at_call 16; exact Rets.later_at (mask_any _ _))))
        refine wpQuiet_nil ?_
        intro w1 hx
        go_wp2
        go_ret
        exact ⟨by simp [Bv.slice_and h0 h1 hb.1 hl hu], hx⟩

theorem valid_cells (b : Nat) (u w : Int) (W : World) (hc : W.cell? ⟨b, 0, none⟩ = some (.int .i64 u)) (hd : W.cell? ⟨b, 1, none⟩ = some (.int .i64 w)) :
    Calls Try.prog 64 #[.slice (some ⟨b, 0, none⟩) 2 2] W fun e W' => e = .returned (.bool (Bv.ok u && Bv.ok w)) ∧ W = W' := by
  cases hu : Bv.ok u
  · by_cases h1 : u < 1
    · go_enter Try.func64, Try.ntmps64
      go_wp2
      go_rounds 3
      all_goals (go_ret; exact ⟨rfl, rfl⟩)
    · have h2 : 32 < u := by
        have := mt Bv.ok_iff.2 (by rw [hu]; decide)
        omega
      go_enter Try.func64, Try.ntmps64
      go_wp2
      go_rounds 3
      all_goals (go_ret; exact ⟨rfl, rfl⟩)
  · have hb := Bv.ok_iff.1 hu
    cases hw : Bv.ok w
    · by_cases h1 : w < 1
      · go_enter Try.func64, Try.ntmps64
        go_wp2
        go_rounds 3
        all_goals (go_ret; exact ⟨rfl, rfl⟩)
      · have h2 : 32 < w := by
          have := mt Bv.ok_iff.2 (by rw [hw]; decide)
          omega
        go_enter Try.func64, Try.ntmps64
        go_wp2
        go_rounds 3
        all_goals (go_ret; exact ⟨rfl, rfl⟩)
    · have hb2 := Bv.ok_iff.1 hw
      go_enter Try.func64, Try.ntmps64
      go_wp2
      go_rounds 3
      all_goals (go_ret; exact ⟨rfl, rfl⟩)

theorem concat_any (a wa b wb : Int) (h0 : 0 ≤ a) (h1 : a < 4294967296) (h2 : 0 ≤ b) (h3 : b < 4294967296) (W : World) :
    Calls Try.prog 20 #[.int .u32 a, .int .i64 wa, .int .u32 b, .int .i64 wb] W (Rets W (.tuple #[.int .u32 (Bv.concat a wa b wb), .bool (Bv.cok wa wb)])) := by
  cases ho : (Bv.ok wa && Bv.ok wb)
  · have hc : Bv.cok wa wb = false := by simp [Bv.cok, ho]
    go_enter Try.func20, Try.ntmps20
    go_wp2_with (go_at_call 64; refine (valid_cells _ wa wb _ (by simp) (by simp)).mono ?_; rintro e w' ⟨rfl, rfl⟩)
    go_ret2
    exact ⟨by simp [Bv.concat, hc], (Ext.refl W).alloc _⟩
  · have ho' := ho
    rw [Bool.and_eq_true, Bv.ok_iff, Bv.ok_iff] at ho'
    obtain ⟨⟨a1, a2⟩, b1, b2⟩ := ho'
    by_cases hs : 32 < wa + wb
    · have hc : Bv.cok wa wb = false := by simp [Bv.cok, ho]; omega
      go_enter Try.func20, Try.ntmps20
      go_wp2_with (go_at_call 64; refine (valid_cells _ wa wb _ (by simp) (by simp)).mono ?_; rintro e w' ⟨rfl, rfl⟩)
      go_ret2
      exact ⟨by simp [Bv.concat, hc], (Ext.refl W).alloc _⟩
    · have hc : Bv.cok wa wb = true := Bv.cok_iff.2 ⟨⟨a1, a2⟩, ⟨b1, b2⟩, by omega⟩
      go_enter Try.func20, Try.ntmps20
      go_wp2_with (go_at_call 64; refine (valid_cells _ wa wb _ (by simp) (by simp)).mono ?_; rintro e w' ⟨rfl, rfl⟩)
      refine wp_region_later (W := W) (by kernel_rfl) (by kernel_rfl) ((Ext.refl _).alloc _) ?_
      repeat (go_big_quiet_step ((go_at_call 16; exact Rets.later_at (mask_any _ _))))
      refine wpQuiet_nil ?_
      intro w1 hx
      go_wp2
      go_ret2
      exact ⟨by simp [Bv.concat_or h0 h1 h2 h3 hc, hc], hx⟩

theorem fits_any (v w : Int) (W : World) : Calls Try.prog 22 #[.int .u32 v, .int .i64 w] W (Rets W (.bool (Bv.fits v w))) := by
  cases hk : Bv.ok w
  · go_enter Try.func22, Try.ntmps22
    go_wp2_with (go_at_call 64; refine (valid_cell _ w _ (by simp)).mono ?_; rintro e w' ⟨rfl, rfl⟩)
    go_ret
    exact ⟨by simp [Bv.fits, hk], (Ext.refl W).alloc _⟩
  · have hm : Bv.mask w = Bv.pw w - 1 := by unfold Bv.mask; rw [if_pos hk]
    have Hm := Lib.hid hm
    clear hm
    go_enter Try.func22, Try.ntmps22
    go_wp2_with (first
      | (go_at_call 64; refine (valid_cell _ w _ (by simp)).mono ?_; rintro e w' ⟨rfl, rfl⟩)
      | (go_at_call 16; refine (mask_any _ _).mono ?_; rintro e w1 ⟨rfl, hx⟩))
    go_ret
    exact ⟨by simp [Bv.fits, hk, Hm.out, Int.le_sub_one_iff], ((Ext.refl W).alloc _).trans hx⟩

theorem ones_any (a : Int) (h0 : 0 ≤ a) (h1 : a < 4294967296) (W : World) : Calls Try.prog 33 #[.int .u32 a] W (Rets W (.int .i64 (Bv.ones a 32))) := by
  go_enter Try.func33, Try.ntmps33
  go_wp2
  go_loop [3, 5] (fun n i => ∃ k : Nat, k ≤ 32 ∧ i = .int .i64 k ∧ n = .int .i64 (Bv.ones a k)) (fun _ i => 32 - (intOf i).toNat)
  case atStart => exact ⟨0, Nat.zero_le _, rfl, rfl⟩
  case round =>
    obtain ⟨k, hk, rfl, rfl⟩ := hrel
    have hb := Bv.ones_bd a k
    by_cases hlt : k < 32
    · have ho : bits .and .u32 (a / 2 ^ k) 1 = a / 2 ^ k % 2 := Bv.and_one (Bv.div_bd h0 h1 (Bv.pw_pos k)).1 (Bv.div_bd h0 h1 (Bv.pw_pos k)).2
      go_wp2
      go_round
      case rel => exact ⟨k + 1, by omega, by go_num, rfl⟩
      case measure => simp [intOf]; omega
    · go_wp2
      go_ret
      obtain rfl : k = 32 := by omega
      exact ⟨rfl, Ext.refl _⟩
end Go.Proofs.Ytpcoikgbpdedcaa
