/- The reference's prefix masks, walked, and the examples of the chapter. No condition. -/
import Derived.Test.YtpcoikgbpdedcaaBvR
namespace Go.Proofs.Ytpcoikgbpdedcaa
open Go.RowKit

theorem rpmask_any (n w : Int) (W : World) : Calls Try.prog 36 #[.int .i64 n, .int .i64 w] W fun e W' => e = .returned (.int .u32 (Bv.pmask n w)) ∧ W = W' := by
  cases hk : Bv.ok w
  · go_enter Try.func36, Try.ntmps36
    go_wp2_with (go_at_call 65; refine (rvalid_any _ _).mono ?_; rintro e w' ⟨rfl, rfl⟩)
    go_ret
    exact ⟨by simp [Bv.pmask, hk], rfl⟩
  · have hb := Bv.ok_iff.1 hk
    have p1 := Bv.pw_pos w
    have p2 := Bv.pw_le32 hb.2
    have hp := Lib.hid (Bv.pmask_of (n := n) hk)
    have hq := Bv.pmask_bd n w
    by_cases h0 : n < 0
    · have hc : Bv.clampn n w = 0 := by unfold Bv.clampn; omega
      rw [hc] at hp; clear hc
      rw [Int.sub_zero, Int.sub_self] at hp
      go_enter Try.func36, Try.ntmps36
      go_wp2_with (first | (go_at_call 65; refine (rvalid_any _ _).mono ?_; rintro e w' ⟨rfl, rfl⟩) | (go_at_call 66; refine (power_any _ (by omega) _).mono ?_; rintro e w' ⟨rfl, rfl⟩))
      go_ret
      exact ⟨by simp [hp.out], rfl⟩
    · by_cases h1 : w < n
      · have hc : Bv.clampn n w = w := by unfold Bv.clampn; omega
        rw [hc] at hp; clear hc
        rw [Int.sub_self, Bv.pw_0] at hp
        have p3 : Bv.pw (w - w) = 1 := by rw [Int.sub_self, Bv.pw_0]
        go_enter Try.func36, Try.ntmps36
        go_wp2_with (first | (go_at_call 65; refine (rvalid_any _ _).mono ?_; rintro e w' ⟨rfl, rfl⟩) | (go_at_call 66; refine (power_any _ (by omega) _).mono ?_; rintro e w' ⟨rfl, rfl⟩))
        go_ret
        exact ⟨by simp [hp.out, Bv.pw_0]; rw [IntWalk.u64_in _ (by omega)]; omega, rfl⟩
      · have hc : Bv.clampn n w = n := by unfold Bv.clampn; omega
        rw [hc] at hp; clear hc
        have p3 := Bv.pw_pos (w - n)
        have p4 := Bv.pw_le (show w - n ≤ w by omega)
        go_enter Try.func36, Try.ntmps36
        go_wp2_with (first | (go_at_call 65; refine (rvalid_any _ _).mono ?_; rintro e w' ⟨rfl, rfl⟩) | (go_at_call 66; refine (power_any _ (by omega) _).mono ?_; rintro e w' ⟨rfl, rfl⟩))
        go_ret
        exact ⟨by simp [hp.out], rfl⟩
theorem rplen_hit (m w : Int) (hk : Bv.ok w = true) (n : Nat) (hn : n ≤ w) (hm : Bv.pmask n w = m) (hf : ∀ j : Nat, j < n → Bv.pmask j w ≠ m) (W : World) :
    Calls Try.prog 39 #[.int .u32 m, .int .i64 w] W fun e W' => e = .returned (.tuple #[.int .i64 n, .bool true]) ∧ W = W' := by
  have hb := Bv.ok_iff.1 hk
  have HF := Lib.hid hf
  have HM := Lib.hid hm
  clear hf hm
  go_enter Try.func39, Try.ntmps39
  go_wp2
  go_loop [6] (fun i => ∃ k : Nat, k ≤ n ∧ i = .int .i64 k) (fun i => (w + 1 - intOf i).toNat)
  case atStart => exact ⟨0, Nat.zero_le _, rfl⟩
  case round =>
    obtain ⟨k, hkn, rfl⟩ := hrel
    by_cases hlt : k < n
    · have hne : (Bv.pmask k w == m) = false := by simpa using HF.out k hlt
      go_wp2_with (first | (go_at_call 65; refine (rvalid_any _ _).mono ?_; rintro e w' ⟨rfl, rfl⟩) | (go_at_call 36; refine (rpmask_any _ _ _).mono ?_; rintro e w' ⟨rfl, rfl⟩))
      go_round
      case rel => exact ⟨k + 1, by omega, by go_num⟩
      case measure => simp [intOf]; omega
    · obtain rfl : k = n := by omega
      have hne : (Bv.pmask k w == m) = true := by simpa using HM.out
      go_wp2_with (first | (go_at_call 65; refine (rvalid_any _ _).mono ?_; rintro e w' ⟨rfl, rfl⟩) | (go_at_call 36; refine (rpmask_any _ _ _).mono ?_; rintro e w' ⟨rfl, rfl⟩))
      go_ret2
      exact ⟨rfl, rfl⟩
theorem rplen_miss (m w : Int) (hf : Bv.ok w = true → ∀ j : Nat, j ≤ w → Bv.pmask j w ≠ m) (W : World) :
    Calls Try.prog 39 #[.int .u32 m, .int .i64 w] W fun e W' => e = .returned (.tuple #[.int .i64 0, .bool false]) ∧ W = W' := by
  cases hk : Bv.ok w
  · clear hf
    go_enter Try.func39, Try.ntmps39
    go_wp2
    go_loop [6] (fun i => i = .int .i64 0) (fun i => 0)
    case atStart => exact rfl
    case round =>
      obtain rfl := hrel
      by_cases h0 : 0 ≤ w
      · go_wp2_with (go_at_call 65; refine (rvalid_any _ _).mono ?_; rintro e w' ⟨rfl, rfl⟩)
        go_ret2
        exact ⟨rfl, rfl⟩
      · go_wp2_with (go_at_call 65; refine (rvalid_any _ _).mono ?_; rintro e w' ⟨rfl, rfl⟩)
        go_ret2
        exact ⟨rfl, rfl⟩
  · have hb := Bv.ok_iff.1 hk
    have HF := Lib.hid (hf hk)
    clear hf
    go_enter Try.func39, Try.ntmps39
    go_wp2
    go_loop [6] (fun i => ∃ k : Nat, k ≤ w + 1 ∧ i = .int .i64 k) (fun i => (w + 1 - intOf i).toNat)
    case atStart => exact ⟨0, by omega, rfl⟩
    case round =>
      obtain ⟨k, hkn, rfl⟩ := hrel
      by_cases hlt : k < w + 1
      · have hne : (Bv.pmask k w == m) = false := by simpa using HF.out k (by omega)
        go_wp2_with (first | (go_at_call 65; refine (rvalid_any _ _).mono ?_; rintro e w' ⟨rfl, rfl⟩) | (go_at_call 36; refine (rpmask_any _ _ _).mono ?_; rintro e w' ⟨rfl, rfl⟩))
        go_round
        case rel => exact ⟨k + 1, by omega, by go_num⟩
        case measure => simp [intOf]; omega
      · go_wp2
        go_ret2
        exact ⟨rfl, rfl⟩

theorem no5 (j : Nat) (hj : (j : Int) ≤ 8) : Bv.pmask j 8 ≠ 5 := by
  have h : ∀ j ∈ List.range 9, Bv.pmask (j : Int) 8 ≠ 5 := by decide
  exact h j (List.mem_range.2 (by omega))
theorem awake_any (W : World) : Calls Try.prog 15 #[] W (Rets W (.bool true)) := by
  have e1 : Bv.concat 5 4 9 8 = 1289 := by decide
  have e2 : Bv.cok 4 8 = true := by decide
  have e3 : Bv.mask 5 = 31 := by decide
  have e4 : Bv.mask 33 = 0 := by decide
  have e5 : Bv.red (30 + 3) 5 = 1 := by decide
  have e6 : Bv.red (0 - 1) 4 = 15 := by decide
  have e7 : Bv.nt 5 4 = 10 := by decide
  have e8 : Bv.shl 3 1 2 = 2 := by decide
  have e9 : Bv.shr 12 2 4 = 3 := by decide
  have e10 : Bv.slice 43981 4 8 = 188 := by decide
  have e11 : Bv.pmask 3 8 = 224 := by decide
  have hx := Ext.refl W
  go_enter Try.func15, Try.ntmps15
  go_wp2_with fail
  refine (concat_any 5 4 9 8 (by decide) (by decide) (by decide) (by decide) _).mono ?_
  rintro e w1 ⟨rfl, hy⟩; replace hx := hx.trans hy; clear hy
  go_wp2_with fail
  refine (plen_hit 224 8 (by decide) 3 (by decide) (by decide) (by decide) _).mono ?_
  rintro e w1 ⟨rfl, hy⟩; replace hx := hx.trans hy; clear hy
  go_wp2_with fail
  refine (plen_hit 0 8 (by decide) 0 (by decide) (by decide) (by decide) _).mono ?_
  rintro e w1 ⟨rfl, hy⟩; replace hx := hx.trans hy; clear hy
  go_wp2_with fail
  refine (plen_miss 5 8 (fun _ j hj => no5 j hj) _).mono ?_
  rintro e w1 ⟨rfl, hy⟩; replace hx := hx.trans hy; clear hy
  go_wp2_with (first
    | (go_at_call 16; refine (mask_any _ _).mono ?_; rintro e w1 ⟨rfl, hy⟩; replace hx := hx.trans hy; clear hy)
    | (go_at_call 18; refine (add_any _ _ _ _).mono ?_; rintro e w1 ⟨rfl, hy⟩; replace hx := hx.trans hy; clear hy)
    | (go_at_call 17; refine (sub_any _ _ _ _).mono ?_; rintro e w1 ⟨rfl, hy⟩; replace hx := hx.trans hy; clear hy)
    | (go_at_call 19; refine (not_any _ _ (by decide) (by decide) _).mono ?_; rintro e w1 ⟨rfl, hy⟩; replace hx := hx.trans hy; clear hy)
    | (go_at_call 28; refine (shl_any _ _ _ _).mono ?_; rintro e w1 ⟨rfl, hy⟩; replace hx := hx.trans hy; clear hy)
    | (go_at_call 30; refine (shr_any _ _ _ (by decide) (by decide) _).mono ?_; rintro e w1 ⟨rfl, hy⟩; replace hx := hx.trans hy; clear hy)
    | (go_at_call 21; refine (slice_any _ _ _ (by decide) (by decide) _).mono ?_; rintro e w1 ⟨rfl, hy⟩; replace hx := hx.trans hy; clear hy)
    | (go_at_call 35; refine (pmask_any _ _ _).mono ?_; rintro e w1 ⟨rfl, hy⟩; replace hx := hx.trans hy; clear hy))
  go_ret
  exact ⟨rfl, hx⟩
end Go.Proofs.Ytpcoikgbpdedcaa
