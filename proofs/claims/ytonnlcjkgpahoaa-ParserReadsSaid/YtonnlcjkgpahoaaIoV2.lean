/- Layer 2: what is written is read. No program in sight, no condition. -/
import Derived.Test.YtonnlcjkgpahoaaIoV
namespace Go.Proofs.Ytonnlcjkgpahoaa
namespace Io
theorem bit_pack {L : List Int} (h : Bits L) (i : Nat) (hi : i < L.length) : bit (pack L) i = L.getD i 0 := by
  unfold bit
  rw [pack_get _ _ (by omega)]
  have hr : i % 8 < 8 := Nat.mod_lt _ (by decide)
  have hd := (Nat.div_add_mod i 8).symm
  generalize i / 8 = q at *
  generalize i % 8 = r at *
  subst hd
  unfold byteOf
  have h0 := h.get (8 * q); have h1 := h.get (8 * q + 1); have h2 := h.get (8 * q + 2); have h3 := h.get (8 * q + 3)
  have h4 := h.get (8 * q + 4); have h5 := h.get (8 * q + 5); have h6 := h.get (8 * q + 6); have h7 := h.get (8 * q + 7)
  match r, hr with
  | 0, _ => simp only [Nat.add_zero, Nat.sub_zero, Int.reducePow]; omega
  | 1, _ => simp only [Nat.reduceSub, Int.reducePow]; omega
  | 2, _ => simp only [Nat.reduceSub, Int.reducePow]; omega
  | 3, _ => simp only [Nat.reduceSub, Int.reducePow]; omega
  | 4, _ => simp only [Nat.reduceSub, Int.reducePow]; omega
  | 5, _ => simp only [Nat.reduceSub, Int.reducePow]; omega
  | 6, _ => simp only [Nat.reduceSub, Int.reducePow]; omega
  | 7, _ => simp only [Nat.reduceSub, Int.reducePow]; omega
theorem val_of (l : List Int) (pos : Nat) (v : Int) (K : Nat) (h0 : 0 ≤ v) (h1 : v < 2 ^ K) (h : ∀ j, j < K → bit l (pos + j) = v / 2 ^ (K - 1 - j) % 2) :
    ∀ k, k ≤ K → val l pos k = v / 2 ^ (K - k) := by
  intro k
  induction k with
  | zero => intro _; rw [Nat.sub_zero, Int.ediv_eq_zero_of_lt h0 h1]; rfl
  | succ k ih =>
    intro hk
    rw [val_succ, ih (by omega), h k (by omega)]
    have e : v / 2 ^ (K - k) = v / 2 ^ (K - 1 - k) / 2 := by
      rw [Int.ediv_ediv_of_nonneg (Int.le_of_lt (Int.pow_pos (by decide))), ← Int.pow_succ, show (K - 1 - k).succ = K - k by omega]
    rw [e, show K - (k + 1) = K - 1 - k by omega]
    omega

/-! ### a row of values, each with its width -/
def wd (ws : List Int) (i : Nat) : Nat := (1 + ws.getD i 0 % 32).toNat
theorem wd_bd (ws : List Int) (i : Nat) : 1 ≤ wd ws i ∧ wd ws i ≤ 32 := by unfold wd; omega
theorem wd_cast (ws : List Int) (i : Nat) : ((wd ws i : Nat) : Int) = 1 + ws.getD i 0 % 32 := by unfold wd; omega
def vl (vs ws : List Int) (i : Nat) : Int := vs.getD i 0 / 2 ^ (32 - wd ws i)
def enc (vs ws : List Int) : Nat → List Int
  | 0 => []
  | j + 1 => enc vs ws j ++ bitsTo (vl vs ws j) (wd ws j) (wd ws j)
def vls (vs ws : List Int) (j : Nat) : List Int := (List.range j).map (vl vs ws)
theorem vls_succ (vs ws : List Int) (j : Nat) : vls vs ws (j + 1) = vls vs ws j ++ [vl vs ws j] := by unfold vls; rw [List.range_succ, List.map_append]; rfl
theorem vls_len (vs ws : List Int) (j : Nat) : (vls vs ws j).length = j := by simp [vls]
theorem vls_get (vs ws : List Int) (m j : Nat) (h : j < m) : (vls vs ws m)[j]? = some (vl vs ws j) := by simp [vls, h]
theorem enc_len (vs ws : List Int) (j : Nat) : (enc vs ws (j + 1)).length = (enc vs ws j).length + wd ws j := by simp [enc, bitsTo_len]
theorem enc_le (vs ws : List Int) (j : Nat) : (enc vs ws j).length ≤ 32 * j := by
  induction j with
  | zero => simp [enc]
  | succ j ih => rw [enc_len]; have := (wd_bd ws j).2; omega
theorem enc_pre (vs ws : List Int) (i m : Nat) (h : i ≤ m) : ∃ T, enc vs ws m = enc vs ws i ++ T := by
  induction m with
  | zero => obtain rfl : i = 0 := by omega
            exact ⟨[], by simp⟩
  | succ m ih =>
    by_cases e : i = m + 1
    · subst e; exact ⟨[], by simp⟩
    · obtain ⟨T, hT⟩ := ih (by omega)
      exact ⟨T ++ bitsTo (vl vs ws m) (wd ws m) (wd ws m), by rw [enc, hT, List.append_assoc]⟩
theorem vl_bd {vs : List Int} (ws : List Int) (i : Nat) (h : ∀ x ∈ vs, 0 ≤ x ∧ x < 4294967296) : 0 ≤ vl vs ws i ∧ vl vs ws i < 2 ^ wd ws i := by
  have hx : 0 ≤ vs.getD i 0 ∧ vs.getD i 0 < 4294967296 := by
    by_cases hi : i < vs.length
    · rw [List.getD_eq_getElem?_getD, List.getElem?_eq_getElem hi]; exact h _ (List.getElem_mem hi)
    · rw [List.getD_eq_getElem?_getD, List.getElem?_eq_none (by omega)]; simp
  have hw := wd_bd ws i
  have hp : (0 : Int) < 2 ^ (32 - wd ws i) := Int.pow_pos (by decide)
  refine ⟨Int.ediv_nonneg hx.1 (by omega), ?_⟩
  unfold vl
  apply Int.ediv_lt_of_lt_mul hp
  rw [← Int.pow_add, show wd ws i + (32 - wd ws i) = 32 by omega]
  exact hx.2
theorem rt_fits {vs : List Int} (ws : List Int) (i : Nat) (h : ∀ x ∈ vs, 0 ≤ x ∧ x < 4294967296) : wrE (vl vs ws i) (wd ws i) = 0 := by
  have hb := vl_bd ws i h
  have hw := wd_bd ws i
  have hok := Bv.ok_of (show (1 : Int) ≤ wd ws i by omega) (show (wd ws i : Int) ≤ 32 by omega)
  unfold wrE; rw [if_pos hok, if_pos]
  unfold Bv.fits
  rw [hok, Bool.true_and]
  exact decide_eq_true hb.2
theorem rt_wrL {vs : List Int} (ws : List Int) (i : Nat) (h : ∀ x ∈ vs, 0 ≤ x ∧ x < 4294967296) : wrL (enc vs ws i) (vl vs ws i) (wd ws i) = enc vs ws (i + 1) := by
  unfold wrL; rw [if_pos (rt_fits ws i h)]; rfl
/-- one value, read back -/
theorem rt_read {vs : List Int} (ws Z : List Int) (m i : Nat) (h : ∀ x ∈ vs, 0 ≤ x ∧ x < 4294967296) (hi : i < m) (hb : Bits (enc vs ws m ++ Z)) (h8 : (enc vs ws m ++ Z).length % 8 = 0) :
    rdE (pack (enc vs ws m ++ Z)) (enc vs ws i).length (wd ws i) = 0 ∧ rdV (pack (enc vs ws m ++ Z)) (enc vs ws i).length (wd ws i) = vl vs ws i
      ∧ rdP (pack (enc vs ws m ++ Z)) (enc vs ws i).length (wd ws i) = (enc vs ws (i + 1)).length := by
  have hw := wd_bd ws i
  have hv := vl_bd ws i h
  obtain ⟨T, hT⟩ := enc_pre vs ws (i + 1) m hi
  have hlen : (enc vs ws (i + 1)).length ≤ (enc vs ws m ++ Z).length := by rw [hT]; simp
  have hok := Bv.ok_of (show (1 : Int) ≤ wd ws i by omega) (show (wd ws i : Int) ≤ 32 by omega)
  rw [enc_len] at hlen
  have he : rdE (pack (enc vs ws m ++ Z)) (enc vs ws i).length (wd ws i) = 0 := by
    unfold rdE; rw [if_pos hok, if_neg]
    rw [pack_len]; omega
  refine ⟨he, ?_, ?_⟩
  · unfold rdV; rw [if_pos he, show ((wd ws i : Int)).toNat = wd ws i from rfl]
    rw [val_of _ _ (vl vs ws i) (wd ws i) hv.1 hv.2 ?_ (wd ws i) (Nat.le_refl _)]
    · simp
    · intro j hj
      rw [bit_pack hb _ (by omega), hT, enc, List.append_assoc, List.append_assoc, List.getD_eq_getElem?_getD, List.getElem?_append_right (by omega)]
      rw [show (enc vs ws i).length + j - (enc vs ws i).length = j by omega, List.getElem?_append_left (by rw [bitsTo_len]; exact hj)]
      simp [bitsTo, hj]
  · unfold rdP; rw [if_pos he, enc_len]; rfl
end Io
end Go.Proofs.Ytonnlcjkgpahoaa
