/- The environment: the reference's Fits. No condition. -/
import Derived.Test.YtonnlcjkgpahoaaEv2
namespace Go.Proofs.Ytonnlcjkgpahoaa
open Go.RowKit

namespace Pg
theorem wid_bd (P : Prog) (h f : Int) : 0 ≤ wid P h f ∧ wid P h f ≤ 32 := by
  unfold wid; split
  · rename_i hk; have := Bv.ok_iff.1 hk; omega
  · omega
theorem mask_fits {v w : Int} (h0 : 0 ≤ v) (w0 : 0 ≤ w) (w1 : w ≤ 32) : decide (v ≤ Bv.mask w) = decide (v < Bv.pw w) := by
  unfold Bv.mask
  by_cases hk : 1 ≤ w
  · rw [if_pos (Bv.ok_of hk w1)]
    rw [decide_eq_decide]; omega
  · rw [if_neg (by rw [Bv.not_ok (by omega)]; decide)]
    obtain rfl : w = 0 := by omega
    rw [decide_eq_decide]
    simp [Bv.pw]; omega
end Pg
set_option maxRecDepth 8000 in
theorem rfits12_any {W : World} (v w : Int) (h0 : 0 ≤ v) (h1 : v < 4294967296) (w0 : 0 ≤ w) (w1 : w ≤ 32) :
    Calls Try.prog 58 #[.int .u32 v, .int .i64 w] W fun e W' => e = .returned (.bool (decide (v ≤ Bv.mask w))) ∧ W = W' := by
  rw [Pg.mask_fits h0 w0 w1]
  obtain ⟨n, rfl⟩ := Int.eq_ofNat_of_zero_le w0
  go_enter Try.func58, Try.ntmps58
  go_wp2_with fail
  go_loop [5, 6] (fun t i => ∃ k : Nat, k ≤ n ∧ i = .int .i64 k ∧ t = .int .u64 (2 ^ k)) (fun _ i => n - (intOf i).toNat)
  case atStart => exact ⟨0, Nat.zero_le _, rfl, rfl⟩
  case round =>
    obtain ⟨k, hk, rfl, rfl⟩ := hrel
    by_cases hlt : k < n
    · have hp : (2 : Int) ^ k ≤ 2 ^ 31 := by exact_mod_cast Nat.pow_le_pow_right (by decide : 0 < 2) (show k ≤ 31 by omega)
      have hp0 : (0 : Int) < 2 ^ k := Int.pow_pos (by decide)
      have hps : (2 : Int) ^ (k + 1) = 2 * 2 ^ k := by rw [Int.pow_succ]; omega
      have HPS := Lib.hid hps
      clear hps
      obtain ⟨y, hy⟩ : ∃ y, y = (2 : Int) ^ k := ⟨_, rfl⟩
      rw [← hy] at hp hp0 HPS ⊢
      have hp2 : y ≤ 2147483648 := by omega
      clear hy hp
      go_wp2_with fail
      go_round
      case rel => exact ⟨k + 1, by omega, by go_num, by rw [HPS.out]⟩
      case measure => simp [intOf]; omega
    · obtain rfl : k = n := by omega
      have hp0 : (0 : Int) < 2 ^ k := Int.pow_pos (by decide)
      have hpw : Bv.pw (k : Int) = 2 ^ k := by simp [Bv.pw]
      have HPW := Lib.hid hpw
      obtain ⟨y, hy⟩ : ∃ y, y = (2 : Int) ^ k := ⟨_, rfl⟩
      rw [← hy] at hp0 HPW ⊢
      clear hpw hy
      go_wp2_with fail
      go_ret
      exact ⟨by rw [HPW.out]; rfl, rfl⟩
end Go.Proofs.Ytonnlcjkgpahoaa
