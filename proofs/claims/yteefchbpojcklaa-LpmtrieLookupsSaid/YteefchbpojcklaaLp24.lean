/- Tries of prefixes: the scan of the law Lookups, plain. No condition. -/
import Derived.Test.YteefchbpojcklaaLp12
namespace Go.Proofs.Yteefchbpojcklaa
open Go.RowKit

namespace Lp
/-- what the scan has found among the first i items -/
structure Scan (L : List Item) (w K i : Nat) (o : Option (Int × Nat)) : Prop where
  has : ∀ x n, o = some (x, n) → (trunc w K n, n, x) ∈ L
  all : ∀ j V N X, j < i → L[j]? = some (V, N, X) → trunc w K N = V → ∃ x n, o = some (x, n) ∧ N ≤ n
theorem Scan.zero (L : List Item) (w K : Nat) : Scan L w K 0 none := ⟨fun _ _ h => (by cases h), fun _ _ _ _ h => (by omega)⟩
/-- the longest so far, as the law counts it -/
def nn (o : Option (Int × Nat)) : Int := match o with | none => -1 | some p => p.2
theorem Scan.miss {L : List Item} {w K i : Nat} {o : Option (Int × Nat)} {V N : Nat} {X : Int} (h : Scan L w K i o) (hi : L[i]? = some (V, N, X)) (hn : trunc w K N = V → (N : Int) ≤ nn o) : Scan L w K (i + 1) o := by
  refine ⟨h.has, fun j V' N' X' hj hV ht => ?_⟩
  rcases Nat.lt_or_ge j i with h1 | h1
  · exact h.all j V' N' X' h1 hV ht
  · obtain rfl : j = i := by omega
    rw [hi] at hV
    simp only [Option.some.injEq, Prod.mk.injEq] at hV
    obtain ⟨rfl, rfl, rfl⟩ := hV
    have h2 := hn ht
    cases o with
    | none => simp only [nn] at h2; omega
    | some p => obtain ⟨x, n⟩ := p; simp only [nn] at h2; exact ⟨x, n, rfl, by omega⟩
theorem Scan.hit {L : List Item} {w K i : Nat} {o : Option (Int × Nat)} {V N : Nat} {X : Int} (h : Scan L w K i o) (hi : L[i]? = some (V, N, X)) (ht : trunc w K N = V) (hn : nn o < (N : Int)) : Scan L w K (i + 1) (some (X, N)) := by
  refine ⟨fun x n he => ?_, fun j V' N' X' hj hV ht' => ?_⟩
  · simp only [Option.some.injEq, Prod.mk.injEq] at he
    obtain ⟨rfl, rfl⟩ := he
    rw [ht]; exact List.mem_of_getElem? hi
  · refine ⟨X, N, rfl, ?_⟩
    rcases Nat.lt_or_ge j i with h1 | h1
    · obtain ⟨x, n, rfl, hle⟩ := h.all j V' N' X' h1 hV ht'
      simp only [nn] at hn
      omega
    · obtain rfl : j = i := by omega
      rw [hi] at hV
      simp only [Option.some.injEq, Prod.mk.injEq] at hV
      obtain ⟨rfl, rfl, rfl⟩ := hV
      exact Nat.le_refl _
theorem Scan.end {w K : Nat} {t : Tr} {o : Option (Int × Nat)} (hK : K < 2 ^ w) (h : Scan (items w t 0 0) w K (items w t 0 0).length o) : look t w K = o := by
  have h2 : ∀ V N X, (V, N, X) ∈ items w t 0 0 → trunc w K N = V → ∃ x n, o = some (x, n) ∧ N ≤ n := fun V N X hm ht => by
    obtain ⟨j, hj⟩ := List.getElem?_of_mem hm
    exact h.all j V N X (List.getElem?_eq_some_iff.1 hj).1 hj ht
  unfold look
  rw [decide_eq_true hK, cond_true]
  cases hl : lk w t K (w + 1) with
  | none =>
    cases o with
    | none => rfl
    | some p =>
      obtain ⟨x, n⟩ := p
      obtain ⟨a, _, _, d⟩ := con_le t _ _ _ (h.has x n rfl)
      rw [path_trunc a] at d
      rw [lk_none hl n (by omega)] at d
      cases d
  | some p =>
    obtain ⟨x, n⟩ := p
    obtain ⟨a, b, c⟩ := lk_some hl
    obtain ⟨x', n', rfl, le⟩ := h2 _ _ _ (mem_of_con (by omega : n ≤ w) hK b) rfl
    obtain ⟨a', _, _, d'⟩ := con_le t _ _ _ (h.has x' n' rfl)
    rw [path_trunc a'] at d'
    rcases Nat.lt_or_ge n n' with h3 | h3
    · rw [c n' h3 (by omega)] at d'; cases d'
    · obtain rfl : n = n' := by omega
      rw [b] at d'
      simp only [Option.some.injEq] at d'
      rw [d']
/-- the ones that the law counts among the first k widths -/
def ones (N k : Nat) : Int := if N < k then (N : Int) else 0
theorem ones_zero (N : Nat) : ones N 0 = 0 := by unfold ones; rw [if_neg (by omega)]
theorem ones_at (N : Nat) : ones N (N + 1) = N := by unfold ones; rw [if_pos (by omega)]
theorem ones_off {N k : Nat} (h : k ≠ N) : ones N (k + 1) = ones N k := by
  unfold ones
  by_cases h1 : N < k
  · rw [if_pos h1, if_pos (by omega)]
  · rw [if_neg h1, if_neg (by omega)]
theorem ones_end {N w : Nat} (h : N ≤ w) : ones N (w + 1) = N := by unfold ones; rw [if_pos (by omega)]
theorem and_key {w v : Nat} (h1 : 1 ≤ w) (h2 : w ≤ 32) (hv : v < 4294967296) : Go.bits .and .u32 (v : Int) (Bv.pmask w w) = ((v % 2 ^ w : Nat) : Int) := by
  rw [pmask_nat h1 h2 (Nat.le_refl w), Nat.sub_self, Nat.pow_zero]
  have h32 : 2 ^ w ≤ 4294967296 := Nat.pow_le_pow_right (n := 2) (by decide) h2
  have h0 : 0 < 2 ^ w := Nat.two_pow_pos w
  have e : v &&& (2 ^ w - 1) = v % 2 ^ w := Nat.and_two_pow_sub_one_eq_mod v w
  rw [← e]
  clear e
  obtain ⟨z, hz⟩ : ∃ z, z = 2 ^ w - 1 := ⟨_, rfl⟩
  rw [← hz]
  have hzl : z < 4294967296 := by omega
  have hvl : v < 4294967296 := hv
  clear hz
  rw [u32_and _ _ (by omega) (by omega) (by omega) (by omega), Int.toNat_natCast, Int.toNat_natCast]
end Lp
end Go.Proofs.Yteefchbpojcklaa
