/- Layer 2: what is read and written back. No program in sight, no condition. -/
import Derived.Test.YtonnlcjkgpahoaaIo
namespace Go.Proofs.Ytonnlcjkgpahoaa
namespace Io
/-- k bits from pos on -/
def bitsOf (l : List Int) (pos k : Nat) : List Int := (List.range k).map fun i => bit l (pos + i)
theorem bitsOf_len (l : List Int) (pos k : Nat) : (bitsOf l pos k).length = k := by simp [bitsOf]
theorem bitsOf_get (l : List Int) (pos k i : Nat) (h : i < k) : (bitsOf l pos k).getD i 0 = bit l (pos + i) := by
  rw [List.getD_eq_getElem?_getD, List.getElem?_eq_getElem (by rw [bitsOf_len]; exact h)]; simp [bitsOf]
theorem bitsOf_add (l : List Int) (pos a b : Nat) : bitsOf l pos (a + b) = bitsOf l pos a ++ bitsOf l (pos + a) b := by
  unfold bitsOf
  rw [List.range_add, List.map_append, List.map_map]
  congr 1
  apply List.map_congr_left
  intro i _
  simp [Nat.add_assoc]
theorem val_bit (l : List Int) (pos : Nat) : ∀ k i : Nat, i < k → val l pos k / 2 ^ (k - 1 - i) % 2 = bit l (pos + i) := by
  intro k
  induction k with
  | zero => intro i hi; omega
  | succ k ih =>
    intro i hi
    rw [val_succ]
    have hb := bit_bd l (pos + k)
    by_cases h : i = k
    · subst h
      rw [show i + 1 - 1 - i = 0 by omega, Int.pow_zero, Int.ediv_one]; omega
    · have := ih i (by omega)
      rw [show k + 1 - 1 - i = (k - 1 - i) + 1 by omega, Int.pow_succ, Int.mul_comm (2 ^ _) 2, ← Int.ediv_ediv_of_nonneg (by decide)]
      rw [show (2 * val l pos k + bit l (pos + k)) / 2 = val l pos k by omega]
      exact this
theorem bitsTo_val (l : List Int) (pos k : Nat) : bitsTo (val l pos k) k k = bitsOf l pos k := by
  unfold bitsTo bitsOf
  apply List.map_congr_left
  intro i hi
  exact val_bit l pos k i (List.mem_range.1 hi)
theorem byteOf_all {l : List Int} (hb : Bytes l) (q : Nat) (h : q < l.length) : byteOf (bitsOf l 0 (8 * l.length)) q = l.getD q 0 := by
  have hx := hb.get q
  unfold byteOf
  rw [bitsOf_get _ _ _ _ (by omega), bitsOf_get _ _ _ _ (by omega), bitsOf_get _ _ _ _ (by omega), bitsOf_get _ _ _ _ (by omega),
    bitsOf_get _ _ _ _ (by omega), bitsOf_get _ _ _ _ (by omega), bitsOf_get _ _ _ _ (by omega), bitsOf_get _ _ _ _ (by omega)]
  unfold bit
  rw [show (0 + 8 * q) / 8 = q by omega, show (0 + (8 * q + 1)) / 8 = q by omega, show (0 + (8 * q + 2)) / 8 = q by omega, show (0 + (8 * q + 3)) / 8 = q by omega,
    show (0 + (8 * q + 4)) / 8 = q by omega, show (0 + (8 * q + 5)) / 8 = q by omega, show (0 + (8 * q + 6)) / 8 = q by omega, show (0 + (8 * q + 7)) / 8 = q by omega,
    show 7 - (0 + 8 * q) % 8 = 7 by omega, show 7 - (0 + (8 * q + 1)) % 8 = 6 by omega, show 7 - (0 + (8 * q + 2)) % 8 = 5 by omega, show 7 - (0 + (8 * q + 3)) % 8 = 4 by omega,
    show 7 - (0 + (8 * q + 4)) % 8 = 3 by omega, show 7 - (0 + (8 * q + 5)) % 8 = 2 by omega, show 7 - (0 + (8 * q + 6)) % 8 = 1 by omega, show 7 - (0 + (8 * q + 7)) % 8 = 0 by omega]
  simp only [Int.reducePow]
  omega
theorem pack_all {l : List Int} (hb : Bytes l) : pack (bitsOf l 0 (8 * l.length)) = l := by
  apply List.ext_getElem?
  intro q
  by_cases h : q < l.length
  · have h1 : q < (pack (bitsOf l 0 (8 * l.length))).length := by rw [pack_len, bitsOf_len]; omega
    have h2 := byteOf_all hb q h
    rw [← pack_get _ _ (by rw [bitsOf_len]; omega)] at h2
    rw [List.getD_eq_getElem?_getD, List.getD_eq_getElem?_getD, List.getElem?_eq_getElem h1, List.getElem?_eq_getElem h] at h2
    rw [List.getElem?_eq_getElem h1, List.getElem?_eq_getElem h]
    simpa using h2
  · rw [List.getElem?_eq_none (by rw [pack_len, bitsOf_len]; omega), List.getElem?_eq_none (by omega)]
/-- widths that a call takes -/
def Widths (ns : List Int) : Prop := ∀ n ∈ ns, 1 ≤ n ∧ n ≤ 32
def total (ns : List Int) : Nat := (ns.map Int.toNat).sum
theorem total_snoc (ns : List Int) (n : Int) : total (ns ++ [n]) = total ns + n.toNat := by simp [total]
theorem Widths.snoc {ns : List Int} (h : Widths ns) {n : Int} (h1 : 1 ≤ n) (h2 : n ≤ 32) : Widths (ns ++ [n]) := by
  intro x hx
  rcases List.mem_append.1 hx with hx | hx
  · exact h x hx
  · obtain rfl := List.mem_singleton.1 hx; exact ⟨h1, h2⟩
theorem wrE_val (l : List Int) (pos k : Nat) (h1 : 1 ≤ k) (h2 : k ≤ 32) : wrE (val l pos k) k = 0 := by
  have hok := Bv.ok_of (show (1 : Int) ≤ k by omega) (show (k : Int) ≤ 32 by omega)
  have hv := val_bd l pos k
  unfold wrE
  rw [if_pos hok, if_pos]
  unfold Bv.fits
  rw [hok, Bool.true_and]
  exact decide_eq_true hv.2
theorem get_put (l : List Int) : ∀ (ns : List Int), Widths ns → ∀ (pos : Nat) (L : List Int), pos + total ns ≤ 8 * l.length →
    ∃ vs, getAll l ns pos = (0, vs, pos + total ns) ∧ vs.length = ns.length ∧ (∀ v ∈ vs, 0 ≤ v) ∧ putAll vs ns L = (0, L ++ bitsOf l pos (total ns)) := by
  intro ns
  induction ns with
  | nil => intro _ pos L _; exact ⟨[], rfl, rfl, by simp, by simp [putAll, total, bitsOf]⟩
  | cons n ns ih =>
    intro hw pos L hp
    have hn := hw n (by simp)
    obtain ⟨k, rfl⟩ := Int.eq_ofNat_of_zero_le (show 0 ≤ n by omega)
    have et : total ((k : Int) :: ns) = k + total ns := by simp [total]
    rw [et] at hp ⊢
    have hok := Bv.ok_of (show (1 : Int) ≤ k by omega) (show (k : Int) ≤ 32 by omega)
    have he : rdE l pos k = 0 := by unfold rdE; rw [if_pos hok, if_neg (by omega)]
    have hv : rdV l pos k = val l pos k := by unfold rdV; rw [if_pos he]; rfl
    have hq : rdP l pos k = pos + k := by unfold rdP; rw [if_pos he]; rfl
    have hwe := wrE_val l pos k (by omega) (by omega)
    have hwl : wrL L (val l pos k) k = L ++ bitsOf l pos k := by
      unfold wrL; rw [if_pos hwe, show ((k : Int)).toNat = k from rfl, bitsTo_val]
    obtain ⟨vs, e1, e2, e3, e4⟩ := ih (fun x hx => hw x (by simp [hx])) (pos + k) (L ++ bitsOf l pos k) (by omega)
    refine ⟨val l pos k :: vs, ?_, by simp [e2], ?_, ?_⟩
    · unfold getAll
      rw [if_pos he, hv, hq, e1]
      simp [Nat.add_assoc]
    · intro v hv2
      rcases List.mem_cons.1 hv2 with rfl | hv2
      · exact (val_bd _ _ _).1
      · exact e3 v hv2
    · unfold putAll
      rw [if_pos hwe, hwl, e4, bitsOf_add, List.append_assoc]
theorem rep_all {l ns : List Int} (hb : Bytes l) (hw : Widths ns) (h : total ns = 8 * l.length) :
    unE l ns = 0 ∧ (unV l ns).length = ns.length ∧ (∀ v ∈ unV l ns, 0 ≤ v) ∧ packE (unV l ns) ns = 0 ∧ packB (unV l ns) ns = l := by
  obtain ⟨vs, e1, e2, e3, e4⟩ := get_put l ns hw 0 [] (by omega)
  have h1 : unE l ns = 0 := by unfold unE; rw [e1]; simp [h]
  have h2 : unV l ns = vs := by unfold unV; rw [if_pos h1, e1]
  rw [h2]
  have h3 : packE vs ns = 0 := by unfold packE; rw [if_pos e2, e4]; simp [bitsOf_len, h]
  refine ⟨h1, e2, e3, h3, ?_⟩
  unfold packB
  rw [if_pos h3, e4, List.nil_append, h]
  exact pack_all hb
theorem rep_long {l ns : List Int} (hw : Widths ns) (h : total ns < 8 * l.length) : unE l ns = 4 ∧ unV l ns = [] := by
  obtain ⟨vs, e1, e2, e3, e4⟩ := get_put l ns hw 0 [] (by omega)
  have h1 : unE l ns = 4 := by unfold unE; rw [e1]; simp; omega
  exact ⟨h1, by unfold unV; rw [if_neg (by rw [h1]; decide)]⟩
end Io
end Go.Proofs.Ytonnlcjkgpahoaa
