/- The plain side of layer 2: bits of a list of bytes. No program in sight, no condition. -/
import Derived.Test.YteefchbpojcklaaBv
namespace Go.Proofs.Yteefchbpojcklaa
namespace Io
/-- bit number i, from the most significant bit of the first byte on -/
def bit (l : List Int) (i : Nat) : Int := l.getD (i / 8) 0 / 2 ^ (7 - i % 8) % 2
/-- the number that k bits from pos on form -/
def val (l : List Int) (pos : Nat) : Nat → Int
  | 0 => 0
  | k + 1 => 2 * val l pos k + bit l (pos + k)
/-- all are bytes -/
def Bytes (l : List Int) : Prop := ∀ x ∈ l, 0 ≤ x ∧ x ≤ 255
theorem Bytes.get {l : List Int} (h : Bytes l) (i : Nat) : 0 ≤ l.getD i 0 ∧ l.getD i 0 ≤ 255 := by
  by_cases hi : i < l.length
  · rw [List.getD_eq_getElem?_getD, List.getElem?_eq_getElem hi]; exact h _ (List.getElem_mem hi)
  · rw [List.getD_eq_getElem?_getD, List.getElem?_eq_none (by omega)]; simp
theorem bit_bd (l : List Int) (i : Nat) : 0 ≤ bit l i ∧ bit l i ≤ 1 := by unfold bit; omega
theorem val_bd (l : List Int) (pos k : Nat) : 0 ≤ val l pos k ∧ val l pos k < 2 ^ k := by
  induction k with
  | zero => simp [val]
  | succ k ih =>
    have hb := bit_bd l (pos + k)
    simp only [val]
    have : (2 : Int) ^ (k + 1) = 2 * 2 ^ k := by rw [Int.pow_succ]; omega
    omega
theorem val_succ (l : List Int) (pos k : Nat) : val l pos (k + 1) = 2 * val l pos k + bit l (pos + k) := rfl
theorem val_lt32 (l : List Int) (pos k : Nat) (h : k ≤ 32) : val l pos k < 4294967296 := by
  have h1 := (val_bd l pos k).2
  have h2 : (2 : Int) ^ k ≤ 2 ^ 32 := by exact_mod_cast Nat.pow_le_pow_right (by decide : 0 < 2) h
  omega
theorem val_lt31 (l : List Int) (pos k : Nat) (h : k < 32) : val l pos k < 2147483648 := by
  have h1 := (val_bd l pos k).2
  have h2 : (2 : Int) ^ k ≤ 2 ^ 31 := by exact_mod_cast Nat.pow_le_pow_right (by decide : 0 < 2) (show k ≤ 31 by omega)
  omega
theorem or_bit {x b : Int} (h0 : 0 ≤ x) (h1 : x < 2147483648) (hb : 0 ≤ b ∧ b ≤ 1) : bits .or .u32 (2 * x) b = 2 * x + b := by
  have := Bv.or_disj (x := x) (y := b) (w := 1) h0 (by rw [show Bv.pw 1 = 2 from rfl]; omega) hb.1 (by rw [show Bv.pw 1 = 2 from rfl]; omega) (by omega)
  rw [show Bv.pw 1 = 2 from rfl, Int.mul_comm] at this
  exact this
theorem and_one8 {x : Int} (h0 : 0 ≤ x) (h1 : x < 256) : bits .and .u8 x 1 = x % 2 := by
  rw [u8_and x 1 h0 h1 (by decide) (by decide)]
  obtain ⟨n, rfl⟩ := Int.eq_ofNat_of_zero_le h0
  rw [Int.toNat_natCast, show (1 : Int).toNat = 1 from rfl, Nat.and_one_is_mod]; rfl

/-! ### bits packed into bytes -/
/-- byte number q of a list of bits -/
def byteOf (L : List Int) (q : Nat) : Int :=
  128 * L.getD (8 * q) 0 + 64 * L.getD (8 * q + 1) 0 + 32 * L.getD (8 * q + 2) 0 + 16 * L.getD (8 * q + 3) 0 + 8 * L.getD (8 * q + 4) 0 + 4 * L.getD (8 * q + 5) 0 + 2 * L.getD (8 * q + 6) 0 + L.getD (8 * q + 7) 0
def pack (L : List Int) : List Int := (List.range ((L.length + 7) / 8)).map (byteOf L)
def Bits (L : List Int) : Prop := ∀ b ∈ L, 0 ≤ b ∧ b ≤ 1
theorem Bits.get {L : List Int} (h : Bits L) (i : Nat) : 0 ≤ L.getD i 0 ∧ L.getD i 0 ≤ 1 := by
  by_cases hi : i < L.length
  · rw [List.getD_eq_getElem?_getD, List.getElem?_eq_getElem hi]; exact h _ (List.getElem_mem hi)
  · rw [List.getD_eq_getElem?_getD, List.getElem?_eq_none (by omega)]; simp
theorem getD_out (L : List Int) (i : Nat) (h : L.length ≤ i) : L.getD i 0 = 0 := by
  rw [List.getD_eq_getElem?_getD, List.getElem?_eq_none h]; rfl
theorem getD_snoc (L : List Int) (b : Int) (i : Nat) : (L ++ [b]).getD i 0 = if i = L.length then b else L.getD i 0 := by
  rw [List.getD_eq_getElem?_getD, List.getD_eq_getElem?_getD]
  split
  · rename_i h; subst h; simp
  · rename_i h
    by_cases h2 : i < L.length
    · rw [List.getElem?_append_left h2]
    · rw [List.getElem?_eq_none (by simp; omega), List.getElem?_eq_none (by omega)]
theorem byteOf_bd {L : List Int} (h : Bits L) (q : Nat) : 0 ≤ byteOf L q ∧ byteOf L q ≤ 255 := by
  unfold byteOf
  have h0 := h.get (8 * q); have h1 := h.get (8 * q + 1); have h2 := h.get (8 * q + 2); have h3 := h.get (8 * q + 3)
  have h4 := h.get (8 * q + 4); have h5 := h.get (8 * q + 5); have h6 := h.get (8 * q + 6); have h7 := h.get (8 * q + 7)
  omega
theorem pack_len (L : List Int) : (pack L).length = (L.length + 7) / 8 := by simp [pack]
theorem pack_get (L : List Int) (q : Nat) (h : q < (L.length + 7) / 8) : (pack L).getD q 0 = byteOf L q := by
  rw [List.getD_eq_getElem?_getD, List.getElem?_eq_getElem (by rw [pack_len]; exact h)]; simp [pack]
theorem Bits.snoc {L : List Int} (h : Bits L) {b : Int} (hb : 0 ≤ b ∧ b ≤ 1) : Bits (L ++ [b]) := by
  intro x hx
  rcases List.mem_append.1 hx with hx | hx
  · exact h x hx
  · obtain rfl := List.mem_singleton.1 hx; exact hb
theorem Bits.append {L K : List Int} (h : Bits L) (k : Bits K) : Bits (L ++ K) := by
  intro x hx
  rcases List.mem_append.1 hx with hx | hx
  · exact h x hx
  · exact k x hx
theorem pack_bytes {L : List Int} (h : Bits L) : Bytes (pack L) := by
  intro x hx; obtain ⟨q, _, rfl⟩ := List.mem_map.1 hx; exact byteOf_bd h q
theorem byteOf_snoc_ne (L : List Int) (b : Int) (q : Nat) (h : q ≠ L.length / 8) : byteOf (L ++ [b]) q = byteOf L q := by
  unfold byteOf
  simp only [getD_snoc]
  rw [if_neg (by omega), if_neg (by omega), if_neg (by omega), if_neg (by omega), if_neg (by omega), if_neg (by omega), if_neg (by omega), if_neg (by omega)]
theorem byteOf_snoc (L : List Int) (b : Int) : byteOf (L ++ [b]) (L.length / 8) = byteOf L (L.length / 8) + b * 2 ^ (7 - L.length % 8) := by
  have hr : L.length % 8 < 8 := Nat.mod_lt _ (by decide)
  have hd := Nat.div_add_mod L.length 8
  unfold byteOf
  simp only [getD_snoc]
  generalize L.length / 8 = q at *
  generalize hx : L.length % 8 = r at *
  have g : ∀ i, L.length ≤ i → L.getD i 0 = 0 := getD_out L
  generalize L.length = n at *
  subst hd
  match r, hr with
  | 0, _ =>
    rw [if_pos (by omega), if_neg (by omega), if_neg (by omega), if_neg (by omega), if_neg (by omega), if_neg (by omega), if_neg (by omega), if_neg (by omega), g (8 * q) (by omega)]
    simp only [Nat.reduceSub, Int.reducePow]; omega
  | 1, _ =>
    rw [if_neg (by omega), if_pos (by omega), if_neg (by omega), if_neg (by omega), if_neg (by omega), if_neg (by omega), if_neg (by omega), if_neg (by omega), g (8 * q + 1) (by omega)]
    simp only [Nat.reduceSub, Int.reducePow]; omega
  | 2, _ =>
    rw [if_neg (by omega), if_neg (by omega), if_pos (by omega), if_neg (by omega), if_neg (by omega), if_neg (by omega), if_neg (by omega), if_neg (by omega), g (8 * q + 2) (by omega)]
    simp only [Nat.reduceSub, Int.reducePow]; omega
  | 3, _ =>
    rw [if_neg (by omega), if_neg (by omega), if_neg (by omega), if_pos (by omega), if_neg (by omega), if_neg (by omega), if_neg (by omega), if_neg (by omega), g (8 * q + 3) (by omega)]
    simp only [Nat.reduceSub, Int.reducePow]; omega
  | 4, _ =>
    rw [if_neg (by omega), if_neg (by omega), if_neg (by omega), if_neg (by omega), if_pos (by omega), if_neg (by omega), if_neg (by omega), if_neg (by omega), g (8 * q + 4) (by omega)]
    simp only [Nat.reduceSub, Int.reducePow]; omega
  | 5, _ =>
    rw [if_neg (by omega), if_neg (by omega), if_neg (by omega), if_neg (by omega), if_neg (by omega), if_pos (by omega), if_neg (by omega), if_neg (by omega), g (8 * q + 5) (by omega)]
    simp only [Nat.reduceSub, Int.reducePow]; omega
  | 6, _ =>
    rw [if_neg (by omega), if_neg (by omega), if_neg (by omega), if_neg (by omega), if_neg (by omega), if_neg (by omega), if_pos (by omega), if_neg (by omega), g (8 * q + 6) (by omega)]
    simp only [Nat.reduceSub, Int.reducePow]; omega
  | 7, _ =>
    rw [if_neg (by omega), if_neg (by omega), if_neg (by omega), if_neg (by omega), if_neg (by omega), if_neg (by omega), if_neg (by omega), if_pos (by omega), g (8 * q + 7) (by omega)]
    simp only [Nat.reduceSub, Int.reducePow]; omega
/-- the bytes once there is room for one bit more -/
def room (L : List Int) : List Int := if L.length % 8 = 0 then pack L ++ [0] else pack L
theorem room_len (L : List Int) : (room L).length = L.length / 8 + 1 := by
  unfold room; split
  · rw [List.length_append, pack_len]; simp; omega
  · rw [pack_len]; omega
theorem byteOf_end (L : List Int) (h : L.length % 8 = 0) : byteOf L (L.length / 8) = 0 := by
  unfold byteOf
  rw [getD_out L _ (by omega), getD_out L _ (by omega), getD_out L _ (by omega), getD_out L _ (by omega), getD_out L _ (by omega), getD_out L _ (by omega), getD_out L _ (by omega), getD_out L _ (by omega)]
  rfl
theorem room_get (L : List Int) (q : Nat) (h : q < L.length / 8 + 1) : (room L)[q]? = some (byteOf L q) := by
  unfold room; split
  · rename_i h0
    by_cases hq : q < L.length / 8
    · rw [List.getElem?_append_left (by rw [pack_len]; omega)]
      simp [pack, show q < (L.length + 7) / 8 by omega]
    · obtain rfl : q = L.length / 8 := by omega
      rw [List.getElem?_append_right (by rw [pack_len]; omega), pack_len, show L.length / 8 - (L.length + 7) / 8 = 0 by omega, byteOf_end L h0]; rfl
  · simp [pack, show q < (L.length + 7) / 8 by omega]
theorem pack_snoc (L : List Int) (b : Int) : pack (L ++ [b]) = (room L).set (L.length / 8) (byteOf L (L.length / 8) + b * 2 ^ (7 - L.length % 8)) := by
  apply List.ext_getElem?
  intro q
  by_cases hq : q < L.length / 8 + 1
  · rw [List.getElem?_set]
    have e : (pack (L ++ [b]))[q]? = some (byteOf (L ++ [b]) q) := by
      have : q < (L.length + 1 + 7) / 8 := by omega
      simp [pack, this]
    rw [e]
    split
    · rename_i h; subst h; rw [if_pos (by rw [room_len]; omega), byteOf_snoc]
    · rename_i h; rw [room_get L q hq, byteOf_snoc_ne L b q (Ne.symm h)]
  · rw [List.getElem?_eq_none (by rw [pack_len]; simp; omega), List.getElem?_eq_none (by rw [List.length_set, room_len]; omega)]
theorem byteOf_low {L : List Int} (r q : Nat) (hr : r < 8) (hL : L.length = 8 * q + r) : ∃ t, byteOf L q = t * 2 ^ (8 - r) := by
  have g : ∀ i, L.length ≤ i → L.getD i 0 = 0 := getD_out L
  unfold byteOf
  match r, hr with
  | 0, _ => exact ⟨0, by rw [g _ (by omega), g _ (by omega), g _ (by omega), g _ (by omega), g _ (by omega), g _ (by omega), g _ (by omega), g _ (by omega)]; rfl⟩
  | 1, _ => exact ⟨L.getD (8 * q) 0, by rw [g (8 * q + 1) (by omega), g (8 * q + 2) (by omega), g (8 * q + 3) (by omega), g (8 * q + 4) (by omega), g (8 * q + 5) (by omega), g (8 * q + 6) (by omega), g (8 * q + 7) (by omega)]; simp; omega⟩
  | 2, _ => exact ⟨2 * L.getD (8 * q) 0 + L.getD (8 * q + 1) 0, by rw [g (8 * q + 2) (by omega), g (8 * q + 3) (by omega), g (8 * q + 4) (by omega), g (8 * q + 5) (by omega), g (8 * q + 6) (by omega), g (8 * q + 7) (by omega)]; simp; omega⟩
  | 3, _ => exact ⟨4 * L.getD (8 * q) 0 + 2 * L.getD (8 * q + 1) 0 + L.getD (8 * q + 2) 0, by rw [g (8 * q + 3) (by omega), g (8 * q + 4) (by omega), g (8 * q + 5) (by omega), g (8 * q + 6) (by omega), g (8 * q + 7) (by omega)]; simp; omega⟩
  | 4, _ => exact ⟨8 * L.getD (8 * q) 0 + 4 * L.getD (8 * q + 1) 0 + 2 * L.getD (8 * q + 2) 0 + L.getD (8 * q + 3) 0, by rw [g (8 * q + 4) (by omega), g (8 * q + 5) (by omega), g (8 * q + 6) (by omega), g (8 * q + 7) (by omega)]; simp; omega⟩
  | 5, _ => exact ⟨16 * L.getD (8 * q) 0 + 8 * L.getD (8 * q + 1) 0 + 4 * L.getD (8 * q + 2) 0 + 2 * L.getD (8 * q + 3) 0 + L.getD (8 * q + 4) 0, by rw [g (8 * q + 5) (by omega), g (8 * q + 6) (by omega), g (8 * q + 7) (by omega)]; simp; omega⟩
  | 6, _ => exact ⟨32 * L.getD (8 * q) 0 + 16 * L.getD (8 * q + 1) 0 + 8 * L.getD (8 * q + 2) 0 + 4 * L.getD (8 * q + 3) 0 + 2 * L.getD (8 * q + 4) 0 + L.getD (8 * q + 5) 0, by rw [g (8 * q + 6) (by omega), g (8 * q + 7) (by omega)]; simp; omega⟩
  | 7, _ => exact ⟨64 * L.getD (8 * q) 0 + 32 * L.getD (8 * q + 1) 0 + 16 * L.getD (8 * q + 2) 0 + 8 * L.getD (8 * q + 3) 0 + 4 * L.getD (8 * q + 4) 0 + 2 * L.getD (8 * q + 5) 0 + L.getD (8 * q + 6) 0, by rw [g (8 * q + 7) (by omega)]; simp; omega⟩
theorem or8 {x y : Nat} {i : Nat} (h : y < 2 ^ i) (hx : x * 2 ^ i < 256) (hy : y < 256) : bits .or .u8 ((x * 2 ^ i : Nat) : Int) (y : Int) = ((x * 2 ^ i + y : Nat) : Int) := by
  rw [u8_or_nat _ _ hx hy, Nat.mul_comm x, ← Nat.two_pow_add_eq_or_of_lt h x]
/-- a bit put into its place -/
theorem or_byte {L : List Int} (hL : Bits L) {b : Int} (hb : 0 ≤ b ∧ b ≤ 1) :
    bits .or .u8 (byteOf L (L.length / 8)) (b * 2 ^ (7 - L.length % 8)) = byteOf L (L.length / 8) + b * 2 ^ (7 - L.length % 8) := by
  have hr : L.length % 8 < 8 := Nat.mod_lt _ (by decide)
  have hd := (Nat.div_add_mod L.length 8).symm
  obtain ⟨t, ht⟩ := byteOf_low (L := L) (L.length % 8) (L.length / 8) hr hd
  have hbd := byteOf_bd hL (L.length / 8)
  have hp : (0 : Int) < 2 ^ (8 - L.length % 8) := Int.pow_pos (by decide)
  have ht0 : 0 ≤ t := by
    rw [ht] at hbd
    exact Int.nonneg_of_mul_nonneg_left hbd.1 hp
  obtain ⟨x, rfl⟩ := Int.eq_ofNat_of_zero_le ht0
  obtain ⟨c, rfl⟩ := Int.eq_ofNat_of_zero_le hb.1
  have hc : c ≤ 1 := by omega
  have e1 : ((x : Int) * 2 ^ (8 - L.length % 8)) = ((x * 2 ^ (8 - L.length % 8) : Nat) : Int) := by push_cast; rfl
  have e2 : ((c : Int) * 2 ^ (7 - L.length % 8)) = ((c * 2 ^ (7 - L.length % 8) : Nat) : Int) := by push_cast; rfl
  rw [ht, e1] at hbd
  rw [ht, e1, e2, or8 (y := c * 2 ^ (7 - L.length % 8)) (i := 8 - L.length % 8)]
  · push_cast; rfl
  · have : 2 ^ (8 - L.length % 8) = 2 * 2 ^ (7 - L.length % 8) := by rw [show 8 - L.length % 8 = (7 - L.length % 8) + 1 by omega, Nat.pow_succ]; omega
    have hp2 := Nat.two_pow_pos (7 - L.length % 8)
    have := Nat.mul_le_mul_right (2 ^ (7 - L.length % 8)) hc
    omega
  · omega
  · have h1 : 2 ^ (7 - L.length % 8) ≤ 2 ^ 7 := Nat.pow_le_pow_right (by decide) (by omega)
    have := Nat.mul_le_mul hc h1
    omega
theorem shl_byte {b : Int} (hb : 0 ≤ b ∧ b ≤ 1) (r : Nat) : 0 ≤ b * 2 ^ (7 - r) ∧ b * 2 ^ (7 - r) ≤ 255 := by
  have h1 : (2 : Int) ^ (7 - r) ≤ 2 ^ 7 := by exact_mod_cast Nat.pow_le_pow_right (by decide : 0 < 2) (show 7 - r ≤ 7 by omega)
  have h0 : (0 : Int) < 2 ^ (7 - r) := Int.pow_pos (by decide)
  rcases (show b = 0 ∨ b = 1 by omega) with rfl | rfl <;> omega
/-- the j first bits of the k that v is written with -/
def bitsTo (v : Int) (k j : Nat) : List Int := (List.range j).map fun i => v / 2 ^ (k - 1 - i) % 2
theorem bitsTo_succ (v : Int) (k j : Nat) : bitsTo v k (j + 1) = bitsTo v k j ++ [v / 2 ^ (k - 1 - j) % 2] := by
  unfold bitsTo; rw [List.range_succ, List.map_append]; rfl
theorem bitsTo_len (v : Int) (k j : Nat) : (bitsTo v k j).length = j := by simp [bitsTo]
theorem bitsTo_bits (v : Int) (k j : Nat) : Bits (bitsTo v k j) := by
  intro b hb; obtain ⟨i, _, rfl⟩ := List.mem_map.1 hb; omega

/-! ### one call, as a function -/
def wrE (v n : Int) : Int := if Bv.ok n then (if Bv.fits v n then 0 else 9) else 10
def wrL (L : List Int) (v n : Int) : List Int := if wrE v n = 0 then L ++ bitsTo v n.toNat n.toNat else L
def rdE (l : List Int) (pos : Nat) (w : Int) : Int := if Bv.ok w then (if 8 * (l.length : Int) - pos < w then 3 else 0) else 10
def rdV (l : List Int) (pos : Nat) (w : Int) : Int := if rdE l pos w = 0 then val l pos w.toNat else 0
def rdP (l : List Int) (pos : Nat) (w : Int) : Nat := if rdE l pos w = 0 then pos + w.toNat else pos
theorem wrL_bits {L : List Int} (h : Bits L) (v n : Int) : Bits (wrL L v n) := by
  unfold wrL; split
  · exact h.append (bitsTo_bits _ _ _)
  · exact h
theorem wrE_zero {v n : Int} (h : wrE v n = 0) : Bv.ok n = true ∧ Bv.fits v n = true := by
  unfold wrE at h
  split at h
  · rename_i ho
    split at h
    · rename_i hf; exact ⟨ho, hf⟩
    · omega
  · omega
theorem wrL_len (L : List Int) (v n : Int) : (wrL L v n).length ≤ L.length + 32 := by
  unfold wrL; split
  · rename_i h; have := Bv.ok_iff.1 (wrE_zero h).1
    rw [List.length_append, bitsTo_len]; omega
  · omega
theorem rdE_zero {l : List Int} {pos : Nat} {w : Int} (h : rdE l pos w = 0) : Bv.ok w = true ∧ w ≤ 8 * (l.length : Int) - pos := by
  unfold rdE at h
  split at h
  · rename_i ho
    split at h
    · omega
    · exact ⟨ho, by omega⟩
  · omega
theorem rdP_le {l : List Int} {pos : Nat} (w : Int) (h : pos ≤ 8 * l.length) : rdP l pos w ≤ 8 * l.length := by
  unfold rdP; split
  · rename_i h0; have := rdE_zero h0; omega
  · exact h
theorem rdV_bd (l : List Int) (pos : Nat) (w : Int) : 0 ≤ rdV l pos w ∧ rdV l pos w < 4294967296 := by
  unfold rdV; split
  · rename_i h
    have := Bv.ok_iff.1 (rdE_zero h).1
    exact ⟨(val_bd _ _ _).1, val_lt32 _ _ _ (by omega)⟩
  · omega
/-- all values written, one behind the other: the first error, the bits -/
def putAll : List Int → List Int → List Int → Int × List Int
  | v :: vs, n :: ns, L => if wrE v n = 0 then putAll vs ns (wrL L v n) else (wrE v n, [])
  | _, _, L => (0, L)
/-- all widths read: the first error, the values, the position -/
def getAll (l : List Int) : List Int → Nat → Int × List Int × Nat
  | w :: ws, pos => if rdE l pos w = 0 then
      let r := getAll l ws (rdP l pos w)
      if r.1 = 0 then (0, rdV l pos w :: r.2.1, r.2.2) else (r.1, [], 0)
    else (rdE l pos w, [], 0)
  | [], pos => (0, [], pos)
def packE (vs ns : List Int) : Int := if vs.length = ns.length then (if (putAll vs ns []).1 = 0 then (if (putAll vs ns []).2.length % 8 = 0 then 0 else 10) else (putAll vs ns []).1) else 2
def packB (vs ns : List Int) : List Int := if packE vs ns = 0 then pack (putAll vs ns []).2 else []
def unE (l ws : List Int) : Int := if (getAll l ws 0).1 = 0 then (if (getAll l ws 0).2.2 = 8 * l.length then 0 else 4) else (getAll l ws 0).1
def unV (l ws : List Int) : List Int := if unE l ws = 0 then (getAll l ws 0).2.1 else []
end Io
end Go.Proofs.Yteefchbpojcklaa
