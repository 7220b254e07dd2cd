/- The reference's functions of layer 1, walked. No condition. -/
import Derived.Test.YtpcoikgbpdedcaaBvX
namespace Go.Proofs.Ytpcoikgbpdedcaa
open Go.RowKit

theorem rmask_any (w : Int) (W : World) : Calls Try.prog 23 #[.int .i64 w] W fun e W' => e = .returned (.int .u32 (Bv.mask w)) ∧ W = W' := by
  cases hk : Bv.ok w
  · go_enter Try.func23, Try.ntmps23
    go_wp2_with (go_at_call 65; refine (rvalid_any w _).mono ?_; rintro e w' ⟨rfl, rfl⟩)
    go_ret
    exact ⟨by simp [Bv.mask, hk], rfl⟩
  · have hb := Bv.ok_iff.1 hk
    have h1 := Bv.pw_pos w
    have h2 := Bv.pw_le32 hb.2
    go_enter Try.func23, Try.ntmps23
    go_wp2_with (first
      | (go_at_call 65; refine (rvalid_any w _).mono ?_; rintro e w' ⟨rfl, rfl⟩)
      | (go_at_call 66; refine (power_any w (by omega) _).mono ?_; rintro e w' ⟨rfl, rfl⟩))
    go_ret
    exact ⟨by simp [Bv.mask, hk], rfl⟩
theorem rfits_any (v w : Int) (h0 : 0 ≤ v) (h1 : v < 4294967296) (W : World) : Calls Try.prog 24 #[.int .u32 v, .int .i64 w] W fun e W' => e = .returned (.bool (Bv.fits v w)) ∧ W = W' := by
  cases hk : Bv.ok w
  · go_enter Try.func24, Try.ntmps24
    go_wp2_with (go_at_call 65; refine (rvalid_any w _).mono ?_; rintro e w' ⟨rfl, rfl⟩)
    go_ret
    exact ⟨by simp [Bv.fits, hk], rfl⟩
  · have hb := Bv.ok_iff.1 hk
    go_enter Try.func24, Try.ntmps24
    go_wp2_with (first
      | (go_at_call 65; refine (rvalid_any w _).mono ?_; rintro e w' ⟨rfl, rfl⟩)
      | (go_at_call 66; refine (power_any w (by omega) _).mono ?_; rintro e w' ⟨rfl, rfl⟩))
    go_ret
    exact ⟨by simp [Bv.fits, hk], rfl⟩
theorem reduce_any (a w : Int) (h0 : 0 ≤ a) (W : World) : Calls Try.prog 67 #[.int .u64 a, .int .i64 w] W fun e W' => e = .returned (.int .u32 (Bv.red a w)) ∧ W = W' := by
  cases hk : Bv.ok w
  · go_enter Try.func67, Try.ntmps67
    go_wp2_with (go_at_call 65; refine (rvalid_any w _).mono ?_; rintro e w' ⟨rfl, rfl⟩)
    go_ret
    exact ⟨by simp [Bv.red, hk], rfl⟩
  · have hb := Bv.ok_iff.1 hk
    have h1 := Bv.pw_pos w
    have h2 := Bv.pw_le32 hb.2
    have h3 := Int.emod_nonneg a (Bv.pw_ne w)
    have h4 := Int.emod_lt_of_pos a h1
    have h5 : (Bv.pw w == 0) = false := by simp; omega
    go_enter Try.func67, Try.ntmps67
    go_wp2_with (first
      | (go_at_call 65; refine (rvalid_any w _).mono ?_; rintro e w' ⟨rfl, rfl⟩)
      | (go_at_call 66; refine (power_any w (by omega) _).mono ?_; rintro e w' ⟨rfl, rfl⟩))
    go_ret
    exact ⟨by simp [Bv.red, hk], rfl⟩
theorem radd_any (a b w : Int) (h0 : 0 ≤ a) (h1 : a < 4294967296) (h2 : 0 ≤ b) (h3 : b < 4294967296) (W : World) : Calls Try.prog 25 #[.int .u32 a, .int .u32 b, .int .i64 w] W fun e W' => e = .returned (.int .u32 (Bv.red (a + b) w)) ∧ W = W' := by
  go_enter Try.func25, Try.ntmps25
  go_wp2_with (go_at_call 67; refine (reduce_any _ _ (by omega) _).mono ?_; rintro e w' ⟨rfl, rfl⟩)
  go_ret
  exact ⟨rfl, rfl⟩
theorem rsub_any (a b w : Int) (h0 : 0 ≤ a) (h1 : a < 4294967296) (h2 : 0 ≤ b) (h3 : b < 4294967296) (W : World) : Calls Try.prog 26 #[.int .u32 a, .int .u32 b, .int .i64 w] W fun e W' => e = .returned (.int .u32 (Bv.red (a - b) w)) ∧ W = W' := by
  cases hk : Bv.ok w
  · go_enter Try.func26, Try.ntmps26
    go_wp2_with (go_at_call 65; refine (rvalid_any _ _).mono ?_; rintro e w' ⟨rfl, rfl⟩)
    go_ret
    exact ⟨by simp [Bv.red_off hk], rfl⟩
  · have hb := Bv.ok_iff.1 hk
    have h4 := Bv.pw_pos w
    have h5 := Bv.pw_le32 hb.2
    have h6 := Bv.red_bd a w
    have h7 := Bv.red_bd b w
    have h8 := Bv.red_lt (a := b) hk
    go_enter Try.func26, Try.ntmps26
    go_wp2_with (first | (go_at_call 65; refine (rvalid_any _ _).mono ?_; rintro e w' ⟨rfl, rfl⟩) | (go_at_call 66; refine (power_any _ (by omega) _).mono ?_; rintro e w' ⟨rfl, rfl⟩) | (go_at_call 67; refine (reduce_any _ _ (by omega) _).mono ?_; rintro e w' ⟨rfl, rfl⟩))
    go_ret
    exact ⟨by simp [Bv.rsub_eq], rfl⟩
theorem rnot_any (a w : Int) (h0 : 0 ≤ a) (h1 : a < 4294967296) (W : World) : Calls Try.prog 27 #[.int .u32 a, .int .i64 w] W fun e W' => e = .returned (.int .u32 (Bv.nt a w)) ∧ W = W' := by
  have h2 := Bv.mask_bd w
  have h3 := Bv.red_bd a w
  have h4 : Bv.red a w ≤ Bv.mask w := by
    unfold Bv.red Bv.mask; split
    · have := Int.emod_lt_of_pos a (Bv.pw_pos w); omega
    · omega
  have h5 : Bv.mask w - Bv.red a w = Bv.nt a w := by
    unfold Bv.red Bv.mask Bv.nt; split
    · rfl
    · rfl
  have H5 := Lib.hid h5
  clear h5
  go_enter Try.func27, Try.ntmps27
  go_wp2_with (first | (go_at_call 67; refine (reduce_any _ _ (by omega) _).mono ?_; rintro e w' ⟨rfl, rfl⟩) | (go_at_call 23; refine (rmask_any _ _).mono ?_; rintro e w' ⟨rfl, rfl⟩))
  go_ret
  exact ⟨by simp [H5.out], rfl⟩
theorem rslice_any (a lo w : Int) (h0 : 0 ≤ a) (h1 : a < 4294967296) (W : World) : Calls Try.prog 32 #[.int .u32 a, .int .i64 lo, .int .i64 w] W fun e W' => e = .returned (.int .u32 (Bv.slice a lo w)) ∧ W = W' := by
  cases hk : Bv.ok w
  · go_enter Try.func32, Try.ntmps32
    go_wp2_with (go_at_call 65; refine (rvalid_any _ _).mono ?_; rintro e w' ⟨rfl, rfl⟩)
    go_ret
    exact ⟨by simp [Bv.slice, Bv.slok, hk], rfl⟩
  · have hb := Bv.ok_iff.1 hk
    by_cases hl : lo < 0
    · go_enter Try.func32, Try.ntmps32
      go_wp2_with (go_at_call 65; refine (rvalid_any _ _).mono ?_; rintro e w' ⟨rfl, rfl⟩)
      go_ret
      exact ⟨by simp [Bv.slice, Bv.slok, hk]; omega, rfl⟩
    · by_cases hu : 32 - w < lo
      · go_enter Try.func32, Try.ntmps32
        go_wp2_with (go_at_call 65; refine (rvalid_any _ _).mono ?_; rintro e w' ⟨rfl, rfl⟩)
        go_ret
        exact ⟨by simp [Bv.slice, Bv.slok, hk]; omega, rfl⟩
      · have h2 := Bv.pw_pos lo
        have h3 := Bv.div_bd h0 h1 h2
        have h4 : (Bv.pw lo == 0) = false := by simp; omega
        have hs : Bv.red (a / Bv.pw lo) w = Bv.slice a lo w := by rw [Bv.slice_of hb.1 (by omega) (by omega), Bv.red_eq hk]
        have HS := Lib.hid hs
        clear hs
        go_enter Try.func32, Try.ntmps32
        go_wp2_with (first | (go_at_call 65; refine (rvalid_any _ _).mono ?_; rintro e w' ⟨rfl, rfl⟩) | (go_at_call 66; refine (power_any _ (by omega) _).mono ?_; rintro e w' ⟨rfl, rfl⟩) | (go_at_call 67; refine (reduce_any _ _ (by omega) _).mono ?_; rintro e w' ⟨rfl, rfl⟩))
        go_ret
        exact ⟨by simp [HS.out], rfl⟩
theorem rconcat_any (a wa b wb : Int) (h0 : 0 ≤ a) (h1 : a < 4294967296) (h2 : 0 ≤ b) (h3 : b < 4294967296) (W : World) :
    Calls Try.prog 37 #[.int .u32 a, .int .i64 wa, .int .u32 b, .int .i64 wb] W fun e W' => e = .returned (.tuple #[.int .u32 (Bv.concat a wa b wb), .bool (Bv.cok wa wb)]) ∧ W = W' := by
  cases ha : Bv.ok wa
  · have hc : Bv.cok wa wb = false := by simp [Bv.cok, ha]
    go_enter Try.func37, Try.ntmps37
    go_wp2_with (go_at_call 65; refine (rvalid_any _ _).mono ?_; rintro e w' ⟨rfl, rfl⟩)
    go_ret2
    exact ⟨by simp [Bv.concat, hc], rfl⟩
  · have hba := Bv.ok_iff.1 ha
    cases hb : Bv.ok wb
    · have hc : Bv.cok wa wb = false := by simp [Bv.cok, hb]
      go_enter Try.func37, Try.ntmps37
      go_wp2_with (go_at_call 65; refine (rvalid_any _ _).mono ?_; rintro e w' ⟨rfl, rfl⟩)
      go_ret2
      exact ⟨by simp [Bv.concat, hc], rfl⟩
    · have hbb := Bv.ok_iff.1 hb
      by_cases hs : 32 < wa + wb
      · have hc : Bv.cok wa wb = false := by simp [Bv.cok, ha, hb]; omega
        go_enter Try.func37, Try.ntmps37
        go_wp2_with (go_at_call 65; refine (rvalid_any _ _).mono ?_; rintro e w' ⟨rfl, rfl⟩)
        go_ret2
        exact ⟨by simp [Bv.concat, hc], rfl⟩
      · have hc : Bv.cok wa wb = true := Bv.cok_iff.2 ⟨hba, hbb, by omega⟩
        have h4 := Bv.red_bd a wa
        have h5 := Bv.red_bd b wb
        have h6 := Bv.pw_pos wb
        have h7 := Bv.pw_le32 hbb.2
        have h8 := Bv.concat_lt (a := a) (b := 0) hc
        have h9 := Bv.concat_lt (a := a) (b := b) hc
        have h10 := Bv.pw_le32 (w := wa + wb) (by omega)
        have e1 : Bv.concat a wa 0 wb = Bv.red a wa * Bv.pw wb := by unfold Bv.concat; rw [if_pos hc, Bv.red_eq ha, Int.zero_emod, Int.add_zero]
        have e2 : Bv.concat a wa b wb = Bv.red a wa * Bv.pw wb + Bv.red b wb := by unfold Bv.concat; rw [if_pos hc, Bv.red_eq ha, Bv.red_eq hb]
        rw [e1] at h8
        rw [e2] at h9
        have H2 := Lib.hid e2
        clear e1 e2
        go_enter Try.func37, Try.ntmps37
        go_wp2_with (first | (go_at_call 65; refine (rvalid_any _ _).mono ?_; rintro e w' ⟨rfl, rfl⟩) | (go_at_call 66; refine (power_any _ (by omega) _).mono ?_; rintro e w' ⟨rfl, rfl⟩) | (go_at_call 67; refine (reduce_any _ _ (by omega) _).mono ?_; rintro e w' ⟨rfl, rfl⟩))
        go_ret2
        exact ⟨by simp [H2.out, hc], rfl⟩
theorem rones_any (a : Int) (h0 : 0 ≤ a) (h1 : a < 4294967296) (W : World) : Calls Try.prog 34 #[.int .u32 a] W fun e W' => e = .returned (.int .i64 (Bv.ones a 32)) ∧ W = W' := by
  go_enter Try.func34, Try.ntmps34
  go_wp2
  go_loop [0, 3, 4] (fun x n i => ∃ k : Nat, k ≤ 32 ∧ i = .int .i64 k ∧ n = .int .i64 (Bv.ones a k) ∧ x = .int .u32 (a / Bv.pw k)) (fun _ _ i => 32 - (intOf i).toNat)
  case atStart => exact ⟨0, Nat.zero_le _, rfl, rfl, by rw [show ((0 : Nat) : Int) = 0 from rfl, Bv.pw_0, Int.ediv_one]⟩
  case round =>
    obtain ⟨k, hk, rfl, rfl, rfl⟩ := hrel
    have hb := Bv.ones_bd a k
    have hd := Bv.div_bd h0 h1 (Bv.pw_pos k)
    have hh := Lib.hid (Bv.half a k)
    by_cases hlt : k < 32
    · go_wp2
      go_round
      case rel => exact ⟨k + 1, by omega, by go_num, rfl, by rw [hh.out]; rfl⟩
      case measure => simp [intOf]; omega
    · go_wp2
      go_ret
      obtain rfl : k = 32 := by omega
      exact ⟨rfl, rfl⟩
theorem rshr_any (a n w : Int) (h0 : 0 ≤ a) (h1 : a < 4294967296) (W : World) : Calls Try.prog 31 #[.int .u32 a, .int .i64 n, .int .i64 w] W fun e W' => e = .returned (.int .u32 (Bv.shr a n w)) ∧ W = W' := by
  go_enter Try.func31, Try.ntmps31
  go_wp2_with (go_at_call 67; refine (reduce_any _ _ (by omega) _).mono ?_; rintro e w' ⟨rfl, rfl⟩)
  go_loop [7, 8] (fun x i => ∃ k : Nat, k ≤ 32 ∧ (k = 0 ∨ k ≤ n) ∧ i = .int .i64 k ∧ x = .int .u32 (Bv.red a w / Bv.pw k)) (fun _ i => 32 - (intOf i).toNat)
  case atStart => exact ⟨0, Nat.zero_le _, .inl rfl, rfl, by rw [show ((0 : Nat) : Int) = 0 from rfl, Bv.pw_0, Int.ediv_one]⟩
  case round =>
    obtain ⟨k, hk, hkn, rfl, rfl⟩ := hrel
    have hr := Bv.red_bd a w
    have hd := Bv.div_bd hr.1 hr.2 (Bv.pw_pos k)
    have hh := Lib.hid (Bv.half (Bv.red a w) k)
    by_cases hn : (k : Int) < n
    · by_cases hlt : k < 32
      · go_wp2
        go_round
        case rel => exact ⟨k + 1, by omega, by omega, by go_num, by rw [hh.out]; rfl⟩
        case measure => simp [intOf]; omega
      · have h32 := Lib.hid (Bv.shr_big (a := a) (n := n) (w := w) (by omega))
        have h33 := Lib.hid (Bv.shr_big (a := a) (n := k) (w := w) (by omega))
        go_wp2
        go_ret
        exact ⟨by simp [Bv.shr, h32.out, h33.out], rfl⟩
    · go_wp2
      go_ret
      refine ⟨?_, rfl⟩
      by_cases h0 : n ≤ 0
      · obtain rfl : k = 0 := by omega
        simp [Bv.shr, Bv.pw_nonpos h0, Bv.pw_0]
      · obtain rfl : n = k := by omega
        rfl
theorem rshl_any (a n w : Int) (h0 : 0 ≤ a) (h1 : a < 4294967296) (W : World) : Calls Try.prog 29 #[.int .u32 a, .int .i64 n, .int .i64 w] W fun e W' => e = .returned (.int .u32 (Bv.shl a n w)) ∧ W = W' := by
  go_enter Try.func29, Try.ntmps29
  go_wp2_with (go_at_call 67; refine (reduce_any _ _ (by omega) _).mono ?_; rintro e w' ⟨rfl, rfl⟩)
  go_loop [7, 8] (fun x i => ∃ k : Nat, k ≤ 32 ∧ (k = 0 ∨ k ≤ n) ∧ i = .int .i64 k ∧ x = .int .u32 (Bv.red (a * Bv.pw k) w)) (fun _ i => 32 - (intOf i).toNat)
  case atStart => exact ⟨0, Nat.zero_le _, .inl rfl, rfl, by rw [show ((0 : Nat) : Int) = 0 from rfl, Bv.red_mul_pw0]⟩
  case round =>
    obtain ⟨k, hk, hkn, rfl, rfl⟩ := hrel
    have hr := Bv.red_bd (a * Bv.pw k) w
    have hh := Lib.hid (Bv.red_two a w k)
    by_cases hn : (k : Int) < n
    · by_cases hlt : k < 32
      · go_wp2_with (go_at_call 67; refine (reduce_any _ _ (by omega) _).mono ?_; rintro e w' ⟨rfl, rfl⟩)
        go_round
        case rel => exact ⟨k + 1, by omega, by omega, by go_num, by rw [hh.out]; rfl⟩
        case measure => simp [intOf]; omega
      · have h32 := Lib.hid (Bv.shl_big (a := a) (n := n) (w := w) (by omega))
        have h33 := Lib.hid (Bv.shl_big (a := a) (n := k) (w := w) (by omega))
        go_wp2
        go_ret
        exact ⟨by simp [Bv.shl, h32.out, h33.out], rfl⟩
    · go_wp2
      go_ret
      refine ⟨?_, rfl⟩
      by_cases h0 : n ≤ 0
      · obtain rfl : k = 0 := by omega
        simp [Bv.shl, Bv.pw_nonpos h0, Bv.pw_0]
      · obtain rfl : n = k := by omega
        rfl
end Go.Proofs.Ytpcoikgbpdedcaa
