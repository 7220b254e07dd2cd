/- Tries of prefixes: a trie in memory; its functions that only read, walked. No condition. -/
import Derived.Test.YteefchbpojcklaaLp3
import Derived.Test.YteefchbpojcklaaBvX
import Derived.Test.YteefchbpojcklaaStep
import Derived.Deep.DeepFit
namespace Go.Proofs.Yteefchbpojcklaa
open Go.RowKit

namespace Lp
open Tr
def bitI (b : Bool) : Int := bif b then 1 else 0
theorem bit_walk {v e : Nat} (hv : v < 4294967296) : Go.bits .and .u32 ((v : Int) / 2 ^ e) 1 = bitI (v.testBit e) := by
  have h1 : (v : Int) / 2 ^ e = ((v / 2 ^ e : Nat) : Int) := by push_cast; rfl
  have h2 : v / 2 ^ e ≤ v := Nat.div_le_self _ _
  rw [h1, Nat.testBit_eq_decide_div_mod_eq]
  clear h1
  obtain ⟨z, hz⟩ : ∃ z, z = v / 2 ^ e := ⟨_, rfl⟩
  rw [← hz] at h2 ⊢
  clear hz
  rw [Bv.and_one (by omega) (by omega)]
  unfold bitI
  by_cases h : z % 2 = 1
  · rw [decide_eq_true h]; simp only [cond_true]; omega
  · rw [decide_eq_false h]; simp only [cond_false]; omega
/-- whether v and n form a prefix of at most w bits -/
def pfx (w v : Nat) (n : Int) : Bool := (decide (0 ≤ n) && decide (n ≤ w)) && decide (v < 2 ^ w)
theorem pfx_iff {w v : Nat} {n : Int} : pfx w v n = true ↔ (0 ≤ n ∧ n ≤ w) ∧ v < 2 ^ w := by simp [pfx]
theorem fits_nat {v w : Nat} (h1 : 1 ≤ w) (h2 : w ≤ 32) : Bv.fits v w = decide (v < 2 ^ w) := by
  unfold Bv.fits
  rw [Bv.ok_of (by omega) (by omega), Bool.true_and]
  have e : Bv.pw (w : Int) = ((2 ^ w : Nat) : Int) := by unfold Bv.pw; rw [Int.toNat_natCast]; push_cast; rfl
  rw [e]
  by_cases h : v < 2 ^ w
  · rw [decide_eq_true h, decide_eq_true (by omega)]
  · rw [decide_eq_false h, decide_eq_false (by omega)]
theorem path_split {w v k n : Nat} (h : k ≤ n) : ∃ q, path w v n = path w v k ++ q := by
  induction n with
  | zero => obtain rfl : k = 0 := by omega
            exact ⟨[], rfl⟩
  | succ n ih =>
    rcases Nat.eq_or_lt_of_le h with rfl | h
    · exact ⟨[], by simp⟩
    · obtain ⟨q, hq⟩ := ih (by omega)
      exact ⟨q ++ [v.testBit (w - 1 - n)], by rw [path_snoc, hq, List.append_assoc]⟩
theorem sub_nil_on {t : Tr} {w v k n : Nat} (h : k ≤ n) (h0 : sub t (path w v k) = .nil) : sub t (path w v n) = .nil := by
  obtain ⟨q, hq⟩ := path_split (w := w) (v := v) h
  rw [hq, sub_append, h0, sub_nil]
theorem sub_step (t : Tr) (w v k : Nat) : sub t (path w v (k + 1)) = kid (sub t (path w v k)) (v.testBit (w - 1 - k)) := by
  rw [path_snoc, sub_snoc]
/-- what a prefix holds -/
def get (t : Tr) (w v : Nat) (n : Int) : Option Int := bif pfx w v n then con t (path w v n.toNat) else none
def at' (t : Tr) (w v : Nat) (n : Int) : Tr := bif pfx w v n then sub t (path w v n.toNat) else .nil
theorem get_at (t : Tr) (w v : Nat) (n : Int) : get t w v n = val (at' t w v n) := by
  unfold get at'; cases pfx w v n <;> rfl
end Lp
/-- a trie in memory: its width, its tree -/
structure IsT (W : World) (g w : Nat) (T : Lp.Tr) : Prop where
  hd : W.heap[g]? = some (.cells #[.int .i64 w, .pointer T.ptr] 61 (0, 0))
  tr : T.In W
  nd : T.blocks.Nodup
  ne : T ≠ .nil
  lo : 1 ≤ w
  hi : w ≤ 32
theorem IsT.ext {W W' : World} {g w : Nat} {T : Lp.Tr} (h : IsT W g w T) (hx : Ext W W') : IsT W' g w T :=
  ⟨hx.heap h.hd, h.tr.ext hx, h.nd, h.ne, h.lo, h.hi⟩
theorem IsT.node {W : World} {g w : Nat} {T : Lp.Tr} (h : IsT W g w T) : ∃ b l r st x, T = .node b l r st x := by
  cases T with
  | nil => exact absurd rfl h.ne
  | node b l r st x => exact ⟨b, l, r, st, x, rfl⟩
set_option maxRecDepth 8000 in
theorem bit_any {W : World} {g w : Nat} {T : Lp.Tr} (h : IsT W g w T) (v d : Nat) (hv : v < 4294967296) (hd : d < w) :
    Calls Try.prog 27 #[.pointer (some ⟨g, 0, none⟩), .int .u32 v, .int .i64 d] W (Rets W (.int .u32 (Lp.bitI (v.testBit (w - 1 - d))))) := by
  have c0 := alw (cell_of (o := 0) h.hd)
  have hl := h.lo
  have hh := h.hi
  clear h
  go_enter Try.func27, Try.ntmps27
  go_wp2_with fail
  go_ret
  exact ⟨by show Ending.returned (.int .u32 _) = _; rw [Lp.bit_walk hv], grows⟩
set_option maxRecDepth 8000 in
theorem made_any {W : World} {g w : Nat} {T : Lp.Tr} (h : IsT W g w T) :
    Calls Try.prog 25 #[.pointer (some ⟨g, 0, none⟩)] W (Rets W (.bool true)) := by
  obtain ⟨b, l, r, st, x, rfl⟩ := h.node
  have c1 := alw (cell_of (o := 1) h.hd)
  simp only [Lp.Tr.ptr_node] at c1
  clear h
  go_enter Try.func25, Try.ntmps25
  go_wp2_with fail
  go_ret
  exact ⟨rfl, grows⟩
set_option maxRecDepth 8000 in
theorem prefix_any {W : World} {g w : Nat} {T : Lp.Tr} (h : IsT W g w T) (v : Nat) (n : Int) :
    Calls Try.prog 26 #[.pointer (some ⟨g, 0, none⟩), .int .u32 v, .int .i64 n] W (Rets W (.bool (Lp.pfx w v n))) := by
  have c0 := alw (cell_of (o := 0) h.hd)
  have hl := h.lo
  have hh := h.hi
  clear h
  have HF : Hid (∀ w', Calls Try.prog 35 #[.int .u32 v, .int .i64 w] w' (Rets w' (.bool (decide (v < 2 ^ w))))) := Lib.hid (fun w' => by rw [← Lp.fits_nat hl hh]; exact fits_any _ _ _)
  by_cases h0 : 0 ≤ n
  · by_cases h1 : n ≤ w
    · have d0 : decide (0 ≤ n) = true := decide_eq_true h0
      have d1 : decide (n ≤ (w : Int)) = true := decide_eq_true h1
      obtain ⟨q, hq⟩ : ∃ q, q = Lp.pfx w v n := ⟨_, rfl⟩
      obtain ⟨u, hu⟩ : ∃ u, u = decide (v < 2 ^ w) := ⟨_, rfl⟩
      have hqu : q = u := by rw [hq, hu]; unfold Lp.pfx; rw [d0, d1]; rfl
      rw [← hq]
      rw [← hu] at HF
      clear hq hu
      subst hqu
      go_enter Try.func26, Try.ntmps26
      go_wp2_with fail
      refine (HF.out _).mono ?_
      rintro e w1 ⟨rfl, x1⟩
      have s1 := Step.mk x1
      clear x1
      go_wp2_with fail
      go_ret
      exact ⟨rfl, grows⟩
    · have d0 : decide (0 ≤ n) = true := decide_eq_true h0
      have d1 : decide (n ≤ (w : Int)) = false := decide_eq_false h1
      have hq : Lp.pfx w v n = false := by unfold Lp.pfx; rw [d1, Bool.and_false, Bool.false_and]
      rw [hq]
      clear hq
      go_enter Try.func26, Try.ntmps26
      go_wp2_with fail
      go_ret
      exact ⟨rfl, grows⟩
  · have d0 : decide (0 ≤ n) = false := decide_eq_false h0
    have hq : Lp.pfx w v n = false := by unfold Lp.pfx; rw [d0]; rfl
    rw [hq]
    clear hq
    go_enter Try.func26, Try.ntmps26
    go_wp2_with fail
    go_ret
    exact ⟨rfl, grows⟩
end Go.Proofs.Yteefchbpojcklaa
