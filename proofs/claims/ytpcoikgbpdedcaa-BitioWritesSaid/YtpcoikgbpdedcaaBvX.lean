/- The rest of layer 1: prefix masks, and the reference's functions. No condition. -/
import Derived.Test.YtpcoikgbpdedcaaBvW
namespace Go.Proofs.Ytpcoikgbpdedcaa
open Go.RowKit

theorem pmask_any (n w : Int) (W : World) : Calls Try.prog 35 #[.int .i64 n, .int .i64 w] W (Rets W (.int .u32 (Bv.pmask n w))) := by
  cases hk : Bv.ok w
  · go_enter Try.func35, Try.ntmps35
    go_wp2_with (go_at_call 64; refine (valid_cell _ w _ (by simp)).mono ?_; rintro e w' ⟨rfl, rfl⟩)
    go_ret
    exact ⟨by simp [Bv.pmask, hk], (Ext.refl W).alloc _⟩
  · have hb := Bv.ok_iff.1 hk
    have hx := Ext.refl W
    by_cases h0 : n < 0
    · go_enter Try.func35, Try.ntmps35
      go_wp2_with (first
        | (go_at_call 64; refine (valid_cell _ w _ (by simp)).mono ?_; rintro e w' ⟨rfl, rfl⟩; replace hx := hx.alloc (.cells #[.int .i64 w] 3))
        | (go_at_call 16; refine (mask_any _ _).mono ?_; rintro e w1 ⟨rfl, hy⟩; replace hx := hx.trans hy; clear hy))
      go_ret
      exact ⟨by simp [Bv.pmask_neg hk h0], hx⟩
    · by_cases h1 : w < n
      · go_enter Try.func35, Try.ntmps35
        go_wp2_with (first
          | (go_at_call 64; refine (valid_cell _ w _ (by simp)).mono ?_; rintro e w' ⟨rfl, rfl⟩; replace hx := hx.alloc (.cells #[.int .i64 w] 3))
          | (go_at_call 16; refine (mask_any _ _).mono ?_; rintro e w1 ⟨rfl, hy⟩; replace hx := hx.trans hy; clear hy))
        go_ret
        exact ⟨by simp [Bv.pmask_top hk h1], hx⟩
      · go_enter Try.func35, Try.ntmps35
        go_wp2_with (first
          | (go_at_call 64; refine (valid_cell _ w _ (by simp)).mono ?_; rintro e w' ⟨rfl, rfl⟩; replace hx := hx.alloc (.cells #[.int .i64 w] 3))
          | (go_at_call 16; refine (mask_any _ _).mono ?_; rintro e w1 ⟨rfl, hy⟩; replace hx := hx.trans hy; clear hy))
        go_ret
        exact ⟨by simp [Bv.pmask_mid hk (by omega) (by omega)], hx⟩

/-- the first n for which the mask is m: found -/
theorem plen_hit (m w : Int) (hk : Bv.ok w = true) (n : Nat) (hn : n ≤ w) (hm : Bv.pmask n w = m) (hf : ∀ j : Nat, j < n → Bv.pmask j w ≠ m) (W : World) :
    Calls Try.prog 38 #[.int .u32 m, .int .i64 w] W (Rets W (.tuple #[.int .i64 n, .bool true])) := by
  have hb := Bv.ok_iff.1 hk
  have HF := Lib.hid hf
  have HM := Lib.hid hm
  clear hf hm
  go_enter Try.func38, Try.ntmps38
  go_wp2_with (go_at_call 64; refine (valid_cell _ w _ (by simp)).mono ?_; rintro e w' ⟨rfl, rfl⟩)
  go_loopw [13] (fun i wr => ∃ k : Nat, k ≤ n ∧ i = .int .i64 k ∧ Ext W wr) (fun i _ => (w + 1 - intOf i).toNat)
  case atStart => exact ⟨0, Nat.zero_le _, rfl, (Ext.refl W).alloc _⟩
  case round =>
    obtain ⟨k, hkn, rfl, hx⟩ := hrel
    by_cases hlt : k < n
    · have hne : (Bv.pmask k w == m) = false := by simpa using HF.out k hlt
      go_wp2_with (go_at_call 35; refine (pmask_any _ _ _).mono ?_; rintro e w1 ⟨rfl, hy⟩; replace hx := hx.trans hy; clear hy)
      go_roundw
      case rel => exact ⟨k + 1, by omega, by go_num, hx⟩
      case measure => simp [intOf]; omega
    · obtain rfl : k = n := by omega
      have hne : (Bv.pmask k w == m) = true := by simpa using HM.out
      go_wp2_with (go_at_call 35; refine (pmask_any _ _ _).mono ?_; rintro e w1 ⟨rfl, hy⟩; replace hx := hx.trans hy; clear hy)
      go_ret2
      exact ⟨rfl, hx⟩
theorem plen_miss (m w : Int) (hf : Bv.ok w = true → ∀ j : Nat, j ≤ w → Bv.pmask j w ≠ m) (W : World) :
    Calls Try.prog 38 #[.int .u32 m, .int .i64 w] W (Rets W (.tuple #[.int .i64 0, .bool false])) := by
  cases hk : Bv.ok w
  · clear hf
    go_enter Try.func38, Try.ntmps38
    go_wp2_with (go_at_call 64; refine (valid_cell _ w _ (by simp)).mono ?_; rintro e w' ⟨rfl, rfl⟩)
    go_ret2
    exact ⟨rfl, (Ext.refl W).alloc _⟩
  · have hb := Bv.ok_iff.1 hk
    have HF := Lib.hid (hf hk)
    clear hf
    go_enter Try.func38, Try.ntmps38
    go_wp2_with (go_at_call 64; refine (valid_cell _ w _ (by simp)).mono ?_; rintro e w' ⟨rfl, rfl⟩)
    go_loopw [13] (fun i wr => ∃ k : Nat, k ≤ w + 1 ∧ i = .int .i64 k ∧ Ext W wr) (fun i _ => (w + 1 - intOf i).toNat)
    case atStart => exact ⟨0, by omega, rfl, (Ext.refl W).alloc _⟩
    case round =>
      obtain ⟨k, hkn, rfl, hx⟩ := hrel
      by_cases hlt : k < w + 1
      · have hne : (Bv.pmask k w == m) = false := by simpa using HF.out k (by omega)
        go_wp2_with (go_at_call 35; refine (pmask_any _ _ _).mono ?_; rintro e w1 ⟨rfl, hy⟩; replace hx := hx.trans hy; clear hy)
        go_roundw
        case rel => exact ⟨k + 1, by omega, by go_num, hx⟩
        case measure => simp [intOf]; omega
      · go_wp2
        go_ret2
        exact ⟨rfl, hx⟩

theorem rvalid_any (w : Int) (W : World) : Calls Try.prog 65 #[.int .i64 w] W fun e W' => e = .returned (.bool (Bv.ok w)) ∧ W = W' := by
  by_cases h1 : w < 1
  · have hk : Bv.ok w = false := Bv.not_ok (by omega)
    go_enter Try.func65, Try.ntmps65
    go_wp2
    go_ret
    exact ⟨rfl, rfl⟩
  · have h2 : (1 : Int) ≤ w := by omega
    go_enter Try.func65, Try.ntmps65
    go_wp2
    go_ret
    exact ⟨by simp [Bv.ok, h2], rfl⟩
theorem power_any (n : Int) (hn : n ≤ 63) (W : World) : Calls Try.prog 66 #[.int .i64 n] W fun e W' => e = .returned (.int .u64 (Bv.pw n)) ∧ W = W' := by
  go_enter Try.func66, Try.ntmps66
  go_wp2
  go_loop [3, 4] (fun x i => ∃ k : Nat, (k = 0 ∨ k ≤ n) ∧ i = .int .i64 k ∧ x = .int .u64 (Bv.pw k)) (fun _ i => (n - intOf i).toNat)
  case atStart => exact ⟨0, .inl rfl, rfl, rfl⟩
  case round =>
    obtain ⟨k, hk, rfl, rfl⟩ := hrel
    by_cases hlt : k < n
    · have hp := Bv.pw_pos k
      have hs := Lib.hid (Bv.pw_succ k)
      have hb := Bv.pw_le63 (n := (k : Int) + 1) (by omega)
      rw [hs.out] at hb
      go_wp2
      go_round
      case rel => exact ⟨k + 1, by omega, by go_num, by rw [Int.natCast_add, Int.natCast_one, hs.out]⟩
      case measure => simp [intOf]; omega
    · go_wp2
      go_ret
      refine ⟨?_, rfl⟩
      by_cases h0 : n ≤ 0
      · obtain rfl : k = 0 := by omega
        rw [Bv.pw_nonpos h0]; rfl
      · obtain rfl : n = k := by omega
        rfl
end Go.Proofs.Ytpcoikgbpdedcaa
