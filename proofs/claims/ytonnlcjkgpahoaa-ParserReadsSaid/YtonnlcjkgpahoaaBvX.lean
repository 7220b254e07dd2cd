/- The rest of layer 1: prefix masks, and the reference's functions. No condition. -/
import Derived.Test.YtonnlcjkgpahoaaBvW
namespace Go.Proofs.Ytonnlcjkgpahoaa
open Go.RowKit

theorem rvalid_any (w : Int) (W : World) : Calls Try.prog 107 #[.int .i64 w] W fun e W' => e = .returned (.bool (Bv.ok w)) ∧ W = W' := by
  by_cases h1 : w < 1
  · have hk : Bv.ok w = false := Bv.not_ok (by omega)
    go_enter Try.func107, Try.ntmps107
    go_wp2
    go_ret
    exact ⟨rfl, rfl⟩
  · have h2 : (1 : Int) ≤ w := by omega
    go_enter Try.func107, Try.ntmps107
    go_wp2
    go_ret
    exact ⟨by simp [Bv.ok, h2], rfl⟩
theorem power_any (n : Int) (hn : n ≤ 63) (W : World) : Calls Try.prog 108 #[.int .i64 n] W fun e W' => e = .returned (.int .u64 (Bv.pw n)) ∧ W = W' := by
  go_enter Try.func108, Try.ntmps108
  go_wp2
  go_loop [3, 4] (fun x i => ∃ k : Nat, (k = 0 ∨ k ≤ n) ∧ i = .int .i64 k ∧ x = .int .u64 (Bv.pw k)) (fun _ i => (n - intOf i).toNat)
  case atStart => exact ⟨0, .inl rfl, rfl, rfl⟩
  case round =>
    obtain ⟨k, hk, rfl, rfl⟩ := hrel
    by_cases hlt : k < n
    · have hp := Bv.pw_pos k
      have hs := Lib.hid (Bv.pw_succ k)
      have hb := Bv.pw_le63 (n := (k : Int) + 1) (by omega)
      rw [hs.out] at hb
      go_wp2
      go_round
      case rel => exact ⟨k + 1, by omega, by go_num, by rw [Int.natCast_add, Int.natCast_one, hs.out]⟩
      case measure => simp [intOf]; omega
    · go_wp2
      go_ret
      refine ⟨?_, rfl⟩
      by_cases h0 : n ≤ 0
      · obtain rfl : k = 0 := by omega
        rw [Bv.pw_nonpos h0]; rfl
      · obtain rfl : n = k := by omega
        rfl
end Go.Proofs.Ytonnlcjkgpahoaa
