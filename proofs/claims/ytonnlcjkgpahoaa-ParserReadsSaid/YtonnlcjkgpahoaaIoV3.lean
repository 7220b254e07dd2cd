/- Layer 2: the reference's way to form bytes. No program in sight, no condition. -/
import Derived.Test.YtonnlcjkgpahoaaIo
namespace Go.Proofs.Ytonnlcjkgpahoaa
namespace Io
/-- the number that the r first bits of byte q form -/
def acc (L : List Int) (q : Nat) : Nat → Int
  | 0 => 0
  | r + 1 => 2 * acc L q r + L.getD (8 * q + r) 0
theorem acc_byte (L : List Int) (q : Nat) : acc L q 8 = byteOf L q := by
  simp only [acc, byteOf, Nat.add_zero]; omega
theorem acc_bd {L : List Int} (h : Bits L) (q r : Nat) : 0 ≤ acc L q r ∧ acc L q r < 2 ^ r := by
  induction r with
  | zero => simp [acc]
  | succ r ih =>
    have hb := h.get (8 * q + r)
    simp only [acc]
    have : (2 : Int) ^ (r + 1) = 2 * 2 ^ r := by rw [Int.pow_succ]; omega
    omega
theorem acc_small {L : List Int} (h : Bits L) (q r : Nat) (hr : r < 8) : 0 ≤ acc L q r ∧ acc L q r ≤ 127 := by
  have h1 := acc_bd h q r
  have h2 : (2 : Int) ^ r ≤ 2 ^ 7 := by exact_mod_cast Nat.pow_le_pow_right (by decide : 0 < 2) (show r ≤ 7 by omega)
  omega
/-- the bytes once i bits are in -/
def outL (L : List Int) (N i : Nat) : List Int := (List.range N).map fun q => acc L q (min 8 (i - 8 * q))
theorem outL_len (L : List Int) (N i : Nat) : (outL L N i).length = N := by simp [outL]
theorem outL_get (L : List Int) (N i q : Nat) (h : q < N) : (outL L N i)[q]? = some (acc L q (min 8 (i - 8 * q))) := by simp [outL, h]
theorem outL_zero (L : List Int) (N : Nat) : outL L N 0 = List.replicate N 0 := by
  apply List.ext_getElem?
  intro q
  by_cases h : q < N
  · rw [outL_get _ _ _ _ h]; simp [acc, h]
  · rw [List.getElem?_eq_none (by rw [outL_len]; omega), List.getElem?_eq_none (by simp; omega)]
theorem outL_succ (L : List Int) (N i : Nat) (_h : i / 8 < N) : outL L N (i + 1) = (outL L N i).set (i / 8) (2 * acc L (i / 8) (i % 8) + L.getD i 0) := by
  have hd := Nat.div_add_mod i 8
  have hr : i % 8 < 8 := Nat.mod_lt _ (by decide)
  apply List.ext_getElem?
  intro q
  by_cases hq : q < N
  · rw [List.getElem?_set, outL_get _ _ _ _ hq, outL_get _ _ _ _ hq]
    split
    · rename_i e
      subst e
      rw [if_pos (by rw [outL_len]; exact hq), show min 8 (i + 1 - 8 * (i / 8)) = i % 8 + 1 by omega]
      simp only [acc]
      rw [hd]
    · rename_i e
      rw [show min 8 (i + 1 - 8 * q) = min 8 (i - 8 * q) by omega]
  · rw [List.getElem?_eq_none (by rw [outL_len]; omega), List.getElem?_eq_none (by rw [List.length_set, outL_len]; omega)]
theorem outL_all (L : List Int) (h : L.length % 8 = 0) : outL L (L.length / 8) L.length = pack L := by
  apply List.ext_getElem?
  intro q
  by_cases hq : q < L.length / 8
  · rw [outL_get _ _ _ _ hq, show min 8 (L.length - 8 * q) = 8 by omega, acc_byte]
    have : q < (L.length + 7) / 8 := by omega
    simp [pack, this]
  · rw [List.getElem?_eq_none (by rw [outL_len]; omega), List.getElem?_eq_none (by rw [pack_len]; omega)]
end Io
end Go.Proofs.Ytonnlcjkgpahoaa
