/- The plain arithmetic of fixed-width unsigned integers: what the functions of layer 1 compute, and the laws between them. No program in sight, no condition. -/
import Derived.WalkKit
namespace Go.Proofs.Yteefchbpojcklaa
namespace Bv
/-- a valid width -/
def ok (w : Int) : Bool := decide (1 ≤ w) && decide (w ≤ 32)
/-- two to the w -/
def pw (w : Int) : Int := 2 ^ w.toNat
def mask (w : Int) : Int := if ok w then pw w - 1 else 0
def red (a w : Int) : Int := if ok w then a % pw w else 0
def fits (v w : Int) : Bool := ok w && decide (v < pw w)
def nt (a w : Int) : Int := if ok w then pw w - 1 - a % pw w else 0
def shl (a n w : Int) : Int := red (a * pw n) w
def shr (a n w : Int) : Int := red a w / pw n
def slok (lo w : Int) : Bool := ok w && (decide (0 ≤ lo) && decide (lo ≤ 32 - w))
def slice (a lo w : Int) : Int := if slok lo w then a / pw lo % pw w else 0
def cok (wa wb : Int) : Bool := (ok wa && ok wb) && decide (wa + wb ≤ 32)
def concat (a wa b wb : Int) : Int := if cok wa wb then a % pw wa * pw wb + b % pw wb else 0
def clampn (n w : Int) : Int := min (max n 0) w
def pmask (n w : Int) : Int := if ok w then pw w - pw (w - clampn n w) else 0

theorem ok_iff {w : Int} : ok w = true ↔ 1 ≤ w ∧ w ≤ 32 := by simp [ok]
theorem ok_of {w : Int} (h1 : 1 ≤ w) (h2 : w ≤ 32) : ok w = true := ok_iff.2 ⟨h1, h2⟩
theorem not_ok {w : Int} (h : ¬ (1 ≤ w ∧ w ≤ 32)) : ok w = false := by
  cases e : ok w
  · rfl
  · exact absurd (ok_iff.1 e) h

theorem pw_pos (w : Int) : 0 < pw w := Int.pow_pos (by decide)
theorem pw_ne (w : Int) : pw w ≠ 0 := Int.ne_of_gt (pw_pos w)
theorem pw_add {a b : Int} (ha : 0 ≤ a) (hb : 0 ≤ b) : pw (a + b) = pw a * pw b := by
  unfold pw; rw [Int.toNat_add ha hb, Int.pow_add]
theorem pw_le {a b : Int} (h : a ≤ b) : pw a ≤ pw b := by
  unfold pw
  have h2 : a.toNat ≤ b.toNat := Int.toNat_le_toNat h
  exact_mod_cast Nat.pow_le_pow_right (by decide : 0 < 2) h2
theorem pw_lt {a b : Int} (ha : 0 ≤ a) (h : a < b) : pw a < pw b := by
  unfold pw
  have h2 : a.toNat < b.toNat := by omega
  exact_mod_cast Nat.pow_lt_pow_right (by decide : 1 < 2) h2
theorem pw_32 : pw 32 = 4294967296 := by decide
theorem pw_0 : pw 0 = 1 := by decide
theorem pw_le32 {w : Int} (h : w ≤ 32) : pw w ≤ 4294967296 := pw_32 ▸ pw_le h
theorem pw_ge2 {w : Int} (h : 1 ≤ w) : 2 ≤ pw w := by have := pw_le h; simpa [pw] using this
theorem pw_nonpos {n : Int} (h : n ≤ 0) : pw n = 1 := by unfold pw; rw [Int.toNat_of_nonpos h]; rfl

theorem red_nonneg (a w : Int) : 0 ≤ red a w := by
  unfold red; split
  · exact Int.emod_nonneg _ (pw_ne w)
  · exact Int.le_refl _
theorem red_lt {a w : Int} (h : ok w = true) : red a w < pw w := by
  unfold red; rw [if_pos h]; exact Int.emod_lt_of_pos _ (pw_pos w)
theorem red_bd (a w : Int) : 0 ≤ red a w ∧ red a w < 4294967296 := by
  refine ⟨red_nonneg a w, ?_⟩
  by_cases h : ok w = true
  · exact Int.lt_of_lt_of_le (red_lt h) (pw_le32 (ok_iff.1 h).2)
  · unfold red; rw [if_neg h]; decide
theorem mask_bd (w : Int) : 0 ≤ mask w ∧ mask w < 4294967296 := by
  unfold mask; split
  · rename_i h; have := pw_pos w; have := pw_le32 (ok_iff.1 h).2; omega
  · omega
theorem nt_bd (a w : Int) : 0 ≤ nt a w ∧ nt a w < 4294967296 := by
  unfold nt; split
  · rename_i h
    have h1 := Int.emod_nonneg a (pw_ne w)
    have h2 := Int.emod_lt_of_pos a (pw_pos w)
    have := pw_le32 (ok_iff.1 h).2; omega
  · omega
theorem slice_bd (a lo w : Int) : 0 ≤ slice a lo w ∧ slice a lo w < 4294967296 := by
  unfold slice; split
  · rename_i h
    have hw : ok w = true := by simp only [slok, Bool.and_eq_true] at h; exact h.1
    have h1 := Int.emod_nonneg (a / pw lo) (pw_ne w)
    have h2 := Int.emod_lt_of_pos (a / pw lo) (pw_pos w)
    have := pw_le32 (ok_iff.1 hw).2; omega
  · omega
theorem cok_iff {wa wb : Int} : cok wa wb = true ↔ (1 ≤ wa ∧ wa ≤ 32) ∧ (1 ≤ wb ∧ wb ≤ 32) ∧ wa + wb ≤ 32 := by
  simp only [cok, Bool.and_eq_true, ok_iff, decide_eq_true_eq]
  constructor
  · rintro ⟨⟨a, b⟩, c⟩; exact ⟨a, b, c⟩
  · rintro ⟨a, b, c⟩; exact ⟨⟨a, b⟩, c⟩
theorem mul_add_lt {x y p q : Int} (hx : x < p) (hy : y < q) (hq : 0 < q) : x * q + y < p * q := by
  have h1 : (x + 1) * q ≤ p * q := Int.mul_le_mul_of_nonneg_right (by omega) (by omega)
  rw [Int.add_mul, Int.one_mul] at h1
  omega
theorem concat_lt {a wa b wb : Int} (h : cok wa wb = true) : 0 ≤ concat a wa b wb ∧ concat a wa b wb < pw (wa + wb) := by
  obtain ⟨⟨a1, a2⟩, ⟨b1, b2⟩, c⟩ := cok_iff.1 h
  unfold concat; rw [if_pos h, pw_add (by omega) (by omega)]
  have h1 := Int.emod_nonneg a (pw_ne wa)
  have h2 := Int.emod_lt_of_pos a (pw_pos wa)
  have h3 := Int.emod_nonneg b (pw_ne wb)
  have h4 := Int.emod_lt_of_pos b (pw_pos wb)
  have h5 : 0 ≤ a % pw wa * pw wb := Int.mul_nonneg h1 (Int.le_of_lt (pw_pos wb))
  exact ⟨by omega, mul_add_lt h2 h4 (pw_pos wb)⟩
theorem concat_bd (a wa b wb : Int) : 0 ≤ concat a wa b wb ∧ concat a wa b wb < 4294967296 := by
  by_cases h : cok wa wb = true
  · have h1 := concat_lt (a := a) (b := b) h
    obtain ⟨_, _, c⟩ := cok_iff.1 h
    exact ⟨h1.1, Int.lt_of_lt_of_le h1.2 (pw_le32 c)⟩
  · unfold concat; rw [if_neg h]; decide

/-! ### the laws -/
theorem sub_add (a b w : Int) : red (red (a + b) w - b) w = red a w := by
  unfold red; split
  · rw [Int.emod_sub_emod]; congr 1; omega
  · rfl
theorem add_sub (a b w : Int) : red (red (a - b) w + b) w = red a w := by
  unfold red; split
  · rw [Int.emod_add_emod]; congr 1; omega
  · rfl
theorem nt_nt (a w : Int) : nt (nt a w) w = red a w := by
  unfold nt red; split
  · have h1 := Int.emod_nonneg a (pw_ne w)
    have h2 := Int.emod_lt_of_pos a (pw_pos w)
    rw [Int.emod_eq_of_lt (a := pw w - 1 - a % pw w) (by omega) (by omega)]; omega
  · rfl
theorem add_nt (a w : Int) : red (a + nt a w) w = mask w := by
  unfold nt red mask; split
  · have h1 := Int.emod_nonneg a (pw_ne w)
    have h2 := Int.emod_lt_of_pos a (pw_pos w)
    have h3 := pw_pos w
    rw [← Int.emod_add_emod, show a % pw w + (pw w - 1 - a % pw w) = pw w - 1 by omega]
    exact Int.emod_eq_of_lt (by omega) (by omega)
  · rfl
theorem slice_lo {c w : Int} (h1 : 1 ≤ w) (h2 : w ≤ 32) : slice c 0 w = c % pw w := by
  unfold slice
  rw [if_pos (by simp only [slok, ok_of h1 h2, Bool.true_and, Bool.and_eq_true, decide_eq_true_eq]; omega), pw_0, Int.ediv_one]
theorem slice_of {c lo w : Int} (h1 : 1 ≤ w) (h0 : 0 ≤ lo) (h2 : lo + w ≤ 32) : slice c lo w = c / pw lo % pw w := by
  unfold slice
  rw [if_pos (by simp only [slok, ok_of h1 (show w ≤ 32 by omega), Bool.true_and, Bool.and_eq_true, decide_eq_true_eq]; omega)]
theorem cat_lo {a wa b wb : Int} (h : cok wa wb = true) : slice (concat a wa b wb) 0 wb = red b wb := by
  obtain ⟨⟨a1, a2⟩, ⟨b1, b2⟩, c⟩ := cok_iff.1 h
  rw [slice_lo b1 b2]; unfold concat red; rw [if_pos h, if_pos (ok_of b1 b2)]
  rw [Int.add_comm, Int.add_mul_emod_self_right, Int.emod_emod_of_dvd _ (Int.dvd_refl _)]
theorem cat_hi {a wa b wb : Int} (h : cok wa wb = true) : slice (concat a wa b wb) wb wa = red a wa := by
  obtain ⟨⟨a1, a2⟩, ⟨b1, b2⟩, c⟩ := cok_iff.1 h
  rw [slice_of a1 (by omega) (by omega)]; unfold concat red; rw [if_pos h, if_pos (ok_of a1 a2)]
  have h3 := Int.emod_nonneg b (pw_ne wb)
  have h4 := Int.emod_lt_of_pos b (pw_pos wb)
  rw [Int.add_comm, Int.add_mul_ediv_right _ _ (pw_ne wb), Int.ediv_eq_zero_of_lt h3 h4, Int.zero_add, Int.emod_emod_of_dvd _ (Int.dvd_refl _)]
theorem cat_fits {a wa b wb : Int} (h : cok wa wb = true) : fits (concat a wa b wb) (wa + wb) = true := by
  obtain ⟨⟨a1, a2⟩, ⟨b1, b2⟩, c⟩ := cok_iff.1 h
  simp only [fits, ok_of (show 1 ≤ wa + wb by omega) c, Bool.true_and, decide_eq_true_eq]
  exact (concat_lt h).2
theorem cat_slices {a lo v w : Int} (h0 : 0 ≤ lo) (h1 : 1 ≤ v) (h2 : 1 ≤ w) (h3 : lo + v + w ≤ 32) :
    concat (slice a (lo + w) v) v (slice a lo w) w = slice a lo (v + w) := by
  have hc : cok v w = true := cok_iff.2 ⟨⟨h1, by omega⟩, ⟨h2, by omega⟩, by omega⟩
  rw [slice_of h1 (by omega) (by omega), slice_of h2 h0 (by omega), slice_of (by omega) h0 (by omega)]
  unfold concat; rw [if_pos hc]
  rw [Int.emod_emod_of_dvd _ (Int.dvd_refl _), Int.emod_emod_of_dvd _ (Int.dvd_refl _)]
  rw [pw_add (show 0 ≤ lo by omega) (show 0 ≤ w by omega), ← Int.ediv_ediv_of_nonneg (Int.le_of_lt (pw_pos lo))]
  generalize a / pw lo = x
  rw [pw_add (show 0 ≤ v by omega) (show 0 ≤ w by omega)]
  have e1 := Int.emod_add_mul_ediv x (pw w)
  have e2 := Int.emod_add_mul_ediv (x / pw w) (pw v)
  have b1 := Int.emod_nonneg x (pw_ne w)
  have b2 := Int.emod_lt_of_pos x (pw_pos w)
  have b3 := Int.emod_nonneg (x / pw w) (pw_ne v)
  have b4 := Int.emod_lt_of_pos (x / pw w) (pw_pos v)
  have hx : x = (x / pw w % pw v * pw w + x % pw w) + pw v * pw w * (x / pw w / pw v) := by
    have : pw w * (x / pw w) = pw w * (x / pw w % pw v) + pw v * pw w * (x / pw w / pw v) := by
      conv => lhs; rw [← e2, Int.mul_add]
      rw [← Int.mul_assoc, Int.mul_comm (pw w) (pw v)]
    have h4 := Int.mul_comm (pw w) (x / pw w % pw v)
    omega
  have e3 : (x / pw w % pw v * pw w + x % pw w + pw v * pw w * (x / pw w / pw v)) % (pw v * pw w) = x % (pw v * pw w) := by rw [← hx]
  rw [← e3, Int.add_mul_emod_self_left]
  refine (Int.emod_eq_of_lt ?_ ?_).symm
  · have : 0 ≤ x / pw w % pw v * pw w := Int.mul_nonneg b3 (Int.le_of_lt (pw_pos w)); omega
  · exact mul_add_lt b4 b2 (pw_pos w)

/-! ### what the operations come to -/
theorem pw_split {a b : Int} (ha : 0 ≤ a) (hab : a ≤ b) : pw b = pw (b - a) * pw a := by rw [← pw_add (by omega) ha]; congr 1; omega
theorem top_div {w : Int} (h1 : 1 ≤ w) (h2 : w ≤ 32) : 4294967295 / 2 ^ (32 - w).toNat = pw w - 1 := by
  show 4294967295 / pw (32 - w) = pw w - 1
  have e := pw_split (show 0 ≤ 32 - w by omega) (show 32 - w ≤ 32 by omega)
  rw [pw_32, show 32 - (32 - w) = w by omega] at e
  have hp := pw_pos (32 - w)
  rw [show (4294967295 : Int) = (pw (32 - w) - 1) + (pw w - 1) * pw (32 - w) by rw [Int.sub_mul, ← e]; omega,
    Int.add_mul_ediv_right _ _ (pw_ne _), Int.ediv_eq_zero_of_lt (by omega) (by omega)]
  omega
theorem pw_dvd {w : Int} (h2 : w ≤ 32) : pw w ∣ 4294967296 := by
  by_cases h : 0 ≤ w
  · rw [← pw_32, pw_split h h2]; exact Int.dvd_mul_left _ _
  · rw [pw_nonpos (by omega)]; exact Int.one_dvd _
theorem red_wrap (x w : Int) : red (IntKind.u32.wrap x) w = red x w := by
  unfold red; split
  · rename_i h; rw [IntKind.wrap_u32', Int.emod_emod_of_dvd _ (pw_dvd (ok_iff.1 h).2)]
  · rfl
theorem toNat_pw_sub (w : Int) : (pw w - 1).toNat = 2 ^ w.toNat - 1 := by
  have : pw w = ((2 ^ w.toNat : Nat) : Int) := by simp [pw]
  rw [this]; have := Nat.two_pow_pos w.toNat; omega
theorem pw_cast (w : Int) : pw w = ((2 ^ w.toNat : Nat) : Int) := by simp [pw]
theorem and_mask {x w : Int} (h0 : 0 ≤ x) (h1 : x < 4294967296) : bits .and .u32 x (mask w) = red x w := by
  rw [u32_and x _ h0 h1 (mask_bd w).1 (mask_bd w).2]
  unfold mask red; split
  · obtain ⟨n, rfl⟩ := Int.eq_ofNat_of_zero_le h0
    rw [toNat_pw_sub, Int.toNat_natCast, Nat.and_two_pow_sub_one_eq_mod, pw_cast]; rfl
  · simp
theorem wrap_bd (x : Int) : 0 ≤ IntKind.u32.wrap x ∧ IntKind.u32.wrap x < 4294967296 := by rw [IntKind.wrap_u32']; omega
theorem and_mask_wrap (x w : Int) : bits .and .u32 (IntKind.u32.wrap x) (mask w) = red x w := by
  rw [and_mask (wrap_bd x).1 (wrap_bd x).2, red_wrap]
theorem wrap_mod (x : Int) : x % 4294967296 = IntKind.u32.wrap x := (IntKind.wrap_u32' x).symm
theorem and_mask_mod (x w : Int) : bits .and .u32 (x % 4294967296) (mask w) = red x w := by rw [wrap_mod, and_mask_wrap]
theorem xor_max {a : Int} (h0 : 0 ≤ a) (h1 : a < 4294967296) : bits .xor .u32 IntKind.u32.max a = 4294967295 - a := by
  have hm : IntKind.u32.max = 4294967295 := by decide
  rw [hm, u32_xor _ _ (by decide) (by decide) h0 h1]
  obtain ⟨n, rfl⟩ := Int.eq_ofNat_of_zero_le h0
  rw [Int.toNat_natCast]
  have e : (4294967295 : Int).toNat ^^^ n = 4294967295 - n := by
    apply Nat.eq_of_testBit_eq
    intro i
    have h : (4294967295 : Int).toNat = 2 ^ 32 - 1 := rfl
    rw [h, Nat.testBit_xor, Nat.testBit_two_pow_sub_one, show 4294967295 - n = 2 ^ 32 - (n + 1) by omega, Nat.testBit_two_pow_sub_succ (by omega)]
    by_cases hi : i < 32
    · simp [hi]
    · have hn : n.testBit i = false := Nat.testBit_lt_two_pow (Nat.lt_of_lt_of_le (show n < 2 ^ 32 by omega) (Nat.pow_le_pow_right (by decide) (by omega)))
      simp [hi, hn]
  rw [e]; omega
theorem nt_eq {a : Int} (h0 : 0 ≤ a) (h1 : a < 4294967296) (w : Int) : bits .and .u32 (4294967295 - a) (mask w) = nt a w := by
  rw [and_mask (by omega) (by omega)]
  unfold red nt; split
  · rename_i h
    obtain ⟨w1, w2⟩ := ok_iff.1 h
    have hd := pw_split (show 0 ≤ w by omega) w2
    rw [pw_32] at hd
    have b1 := Int.emod_nonneg a (pw_ne w)
    have b2 := Int.emod_lt_of_pos a (pw_pos w)
    have e1 := Int.emod_add_mul_ediv a (pw w)
    have : 4294967295 - a = (pw w - 1 - a % pw w) + pw w * (pw (32 - w) - 1 - a / pw w) := by
      rw [Int.mul_sub, Int.mul_sub, Int.mul_comm (pw w) (pw (32 - w)), ← hd]; omega
    rw [this, Int.add_mul_emod_self_left, Int.emod_eq_of_lt (by omega) (by omega)]
  · rfl
theorem pw_ge32 {n : Int} (h : 32 ≤ n) : 4294967296 ≤ pw n := pw_32 ▸ pw_le h
theorem div_min {x n : Int} (h0 : 0 ≤ x) (h1 : x < 4294967296) : x / 2 ^ min n.toNat 32 = x / pw n := by
  rw [shr_var 32 x n h0 (by simpa using h1)]
  split
  · rename_i h; rw [Int.ediv_eq_zero_of_lt h0 (Int.lt_of_lt_of_le h1 (pw_ge32 (by simpa using h)))]
  · rfl
theorem red_mul_dvd {x w d : Int} (h : pw w ∣ d) : red (x * d) w = 0 := by
  unfold red; split
  · exact Int.emod_eq_zero_of_dvd (Int.dvd_trans h (Int.dvd_mul_left _ _))
  · rfl
theorem red_off {x w : Int} (h : ok w = false) : red x w = 0 := by unfold red; rw [h]; rfl
theorem shl_min (x n w : Int) : red (x * 2 ^ min n.toNat 32) w = red (x * pw n) w := by
  cases hk : ok w
  · rw [red_off hk, red_off hk]
  by_cases h : n ≤ 32
  · have e : min n.toNat 32 = n.toNat := by omega
    rw [e]; rfl
  · have e : min n.toNat 32 = 32 := by omega
    have h2 := (ok_iff.1 hk).2
    rw [e, red_mul_dvd (d := 2 ^ 32) (by have := pw_dvd h2; simpa using this), red_mul_dvd (d := pw n)]
    rw [pw_split (show 0 ≤ 32 by decide) (show (32 : Int) ≤ n by omega), pw_32]
    exact Int.dvd_trans (pw_dvd h2) (Int.dvd_mul_left _ _)
/-- The two operands of '|' share no bit. -/
theorem or_disj {x y w : Int} (hx0 : 0 ≤ x) (hx : x * pw w < 4294967296) (hy0 : 0 ≤ y) (hy : y < pw w) (hy2 : y < 4294967296) : bits .or .u32 (x * pw w) y = x * pw w + y := by
  have hz : 0 ≤ x * pw w := Int.mul_nonneg hx0 (Int.le_of_lt (pw_pos w))
  rw [u32_or _ _ hz hx hy0 hy2]
  obtain ⟨a, rfl⟩ := Int.eq_ofNat_of_zero_le hx0
  obtain ⟨b, rfl⟩ := Int.eq_ofNat_of_zero_le hy0
  rw [pw_cast] at *
  rw [← Int.natCast_mul, Int.toNat_natCast, Int.toNat_natCast, Nat.mul_comm, ← Nat.two_pow_add_eq_or_of_lt (by omega) a]
  rfl
theorem div_bd {x p : Int} (h0 : 0 ≤ x) (h1 : x < 4294967296) (hp : 0 < p) : 0 ≤ x / p ∧ x / p < 4294967296 :=
  ⟨Int.ediv_nonneg h0 (by omega), Int.lt_of_le_of_lt (Int.ediv_le_self _ h0) h1⟩
theorem slice_and {a lo w : Int} (h0 : 0 ≤ a) (h1 : a < 4294967296) (hw : 1 ≤ w) (hl : 0 ≤ lo) (hu : lo ≤ 32 - w) : bits .and .u32 (a / 2 ^ lo.toNat) (mask w) = slice a lo w := by
  have hb := div_bd h0 h1 (pw_pos lo)
  rw [slice_of hw hl (by omega)]
  show bits .and .u32 (a / pw lo) (mask w) = _
  rw [and_mask hb.1 hb.2]
  unfold red; rw [if_pos (ok_of hw (by omega))]
theorem concat_or {a wa b wb : Int} (h0 : 0 ≤ a) (h1 : a < 4294967296) (h2 : 0 ≤ b) (h3 : b < 4294967296) (h : cok wa wb = true) :
    bits .or .u32 (bits .and .u32 a (mask wa) * 2 ^ wb.toNat % 4294967296) (bits .and .u32 b (mask wb)) = concat a wa b wb := by
  obtain ⟨⟨a1, a2⟩, ⟨b1, b2⟩, c⟩ := cok_iff.1 h
  rw [and_mask h0 h1, and_mask h2 h3]
  have hlt := (concat_lt (a := a) (b := 0) h).2
  unfold concat at hlt ⊢
  rw [if_pos h] at hlt ⊢
  have ra : red a wa = a % pw wa := by unfold red; rw [if_pos (ok_of a1 a2)]
  have rb : red b wb = b % pw wb := by unfold red; rw [if_pos (ok_of b1 b2)]
  rw [ra, rb]
  have p1 := Int.emod_nonneg a (pw_ne wa)
  have p3 := Int.emod_nonneg b (pw_ne wb)
  have p4 := Int.emod_lt_of_pos b (pw_pos wb)
  have p5 := pw_le32 c
  have p6 := pw_le32 b2
  rw [Int.zero_emod] at hlt
  have p7 : 0 ≤ a % pw wa * pw wb := Int.mul_nonneg p1 (Int.le_of_lt (pw_pos wb))
  show bits .or .u32 (a % pw wa * pw wb % 4294967296) _ = _
  rw [Int.emod_eq_of_lt p7 (by omega), or_disj p1 (by omega) p3 p4 (by omega)]

/-- the one bits among the k lowest -/
def ones (a : Int) : Nat → Int
  | 0 => 0
  | k + 1 => ones a k + a / 2 ^ k % 2
theorem ones_succ (a : Int) (k : Nat) : ones a (k + 1) = ones a k + a / 2 ^ k % 2 := rfl
theorem ones_bd (a : Int) (k : Nat) : 0 ≤ ones a k ∧ ones a k ≤ k := by
  induction k with
  | zero => simp [ones]
  | succ k ih => simp only [ones]; omega
theorem and_one {x : Int} (h0 : 0 ≤ x) (h1 : x < 4294967296) : bits .and .u32 x 1 = x % 2 := by
  rw [u32_and x 1 h0 h1 (by decide) (by decide)]
  obtain ⟨n, rfl⟩ := Int.eq_ofNat_of_zero_le h0
  rw [Int.toNat_natCast, show (1 : Int).toNat = 1 from rfl, Nat.and_one_is_mod]; rfl

theorem clampn_bd {n w : Int} (hw : 0 ≤ w) : 0 ≤ clampn n w ∧ clampn n w ≤ w := by unfold clampn; omega
theorem pw_sub_div {w c : Int} (h0 : 0 ≤ c) (h1 : c ≤ w) : (pw w - 1) / pw c = pw (w - c) - 1 := by
  have e := pw_split h0 h1
  have hp := pw_pos c
  rw [show pw w - 1 = (pw c - 1) + (pw (w - c) - 1) * pw c by rw [Int.sub_mul, ← e]; omega,
    Int.add_mul_ediv_right _ _ (pw_ne _), Int.ediv_eq_zero_of_lt (by omega) (by omega)]
  omega
theorem andNot_low {w k : Int} (h1 : k ≤ w) (h2 : w ≤ 32) : bits .andNot .u32 (pw w - 1) (pw k - 1) = pw w - pw k := by
  have pk := pw_pos k
  have pkw := pw_le h1
  have pw32 := pw_le32 h2
  rw [u32_andNot _ _ (by omega) (by omega) (by omega) (by omega), toNat_pw_sub, toNat_pw_sub, Nat.and_comm, Nat.and_two_pow_sub_one_eq_mod]
  have hn : 4294967295 - (2 ^ k.toNat - 1) = 4294967296 - 2 ^ k.toNat := by have := Nat.two_pow_pos k.toNat; omega
  have hk : 2 ^ k.toNat ≤ 2 ^ w.toNat := Nat.pow_le_pow_right (by decide) (by omega)
  have hw : 2 ^ w.toNat ≤ 4294967296 := by have := pw32; rw [pw_cast] at this; omega
  have hd : (4294967296 : Nat) = 2 ^ w.toNat * 2 ^ (32 - w.toNat) := by rw [← Nat.pow_add, show w.toNat + (32 - w.toNat) = 32 by omega]
  rw [hn]
  have hpos := Nat.two_pow_pos k.toNat
  have hq := Nat.two_pow_pos (32 - w.toNat)
  obtain ⟨q, hq'⟩ : ∃ q, 2 ^ (32 - w.toNat) = q + 1 := ⟨2 ^ (32 - w.toNat) - 1, by omega⟩
  rw [hq', Nat.mul_add, Nat.mul_one] at hd
  by_cases hkw : 2 ^ k.toNat = 2 ^ w.toNat
  · rw [show 4294967296 - 2 ^ k.toNat = 2 ^ w.toNat * q by omega, Nat.mul_mod_right, pw_cast, pw_cast]; omega
  · rw [show 4294967296 - 2 ^ k.toNat = (2 ^ w.toNat - 2 ^ k.toNat) + 2 ^ w.toNat * q by omega, Nat.add_mul_mod_self_left, Nat.mod_eq_of_lt (by omega), pw_cast, pw_cast]; omega
theorem pmask_of {n w : Int} (h : ok w = true) : pmask n w = pw w - pw (w - clampn n w) := by unfold pmask; rw [if_pos h]
theorem pmask_bd (n w : Int) : 0 ≤ pmask n w ∧ pmask n w < 4294967296 := by
  by_cases h : ok w = true
  · obtain ⟨w1, w2⟩ := ok_iff.1 h
    rw [pmask_of h]
    have c := clampn_bd (n := n) (show 0 ≤ w by omega)
    have := pw_le (show w - clampn n w ≤ w by omega)
    have := pw_pos (w - clampn n w)
    have := pw_le32 w2
    omega
  · unfold pmask; rw [if_neg h]; decide
theorem pmask_walk {n w : Int} (h : ok w = true) : bits .andNot .u32 (mask w) (mask w / 2 ^ (clampn n w).toNat) = pmask n w := by
  obtain ⟨w1, w2⟩ := ok_iff.1 h
  have c := clampn_bd (n := n) (show 0 ≤ w by omega)
  have hm : mask w = pw w - 1 := by unfold mask; rw [if_pos h]
  rw [hm]
  show bits .andNot .u32 _ ((pw w - 1) / pw (clampn n w)) = _
  rw [pw_sub_div c.1 c.2, andNot_low (by omega) w2, pmask_of h]
theorem pmask_neg {n w : Int} (h : ok w = true) (h0 : n < 0) : bits .andNot .u32 (mask w) (mask w) = pmask n w := by
  have hp := pmask_walk (n := n) h
  have hw := ok_iff.1 h
  have hc : clampn n w = 0 := by unfold clampn; omega
  rw [hc] at hp; simpa using hp
theorem pmask_mid {n w : Int} (h : ok w = true) (h0 : 0 ≤ n) (h1 : n ≤ w) : bits .andNot .u32 (mask w) (mask w / 2 ^ n.toNat) = pmask n w := by
  have hp := pmask_walk (n := n) h
  have hc : clampn n w = n := by unfold clampn; omega
  rw [hc] at hp; exact hp
theorem pmask_top {n w : Int} (h : ok w = true) (h1 : w < n) : bits .andNot .u32 (mask w) (mask w / 2 ^ w.toNat) = pmask n w := by
  have hp := pmask_walk (n := n) h
  have hw := ok_iff.1 h
  have hc : clampn n w = w := by unfold clampn; omega
  rw [hc] at hp; exact hp
theorem pw_nat (k : Nat) : pw k = 2 ^ k := rfl
theorem pw_succ (k : Nat) : pw ((k : Int) + 1) = 2 * pw k := by rw [pw_add (by omega) (by decide), Int.mul_comm]; rfl
theorem pw_le63 {n : Int} (h : n ≤ 63) : pw n ≤ 9223372036854775808 := by
  have := pw_le h; simpa [pw] using this
theorem red_eq {a w : Int} (h : ok w = true) : red a w = a % pw w := by unfold red; rw [if_pos h]
theorem red_red (a w : Int) : red (red a w) w = red a w := by
  unfold red; split
  · exact Int.emod_emod_of_dvd _ (Int.dvd_refl _)
  · rfl
theorem red_add_pw (a w : Int) : red (pw w + a) w = red a w := by
  unfold red; split
  · rw [Int.add_emod_left]
  · rfl
theorem sub_reds (a b w : Int) : red (red a w - red b w) w = red (a - b) w := by
  unfold red; split
  · rw [← Int.sub_emod]
  · rfl
theorem rsub_eq (a b w : Int) : red (pw w + red a w - red b w) w = red (a - b) w := by
  rw [Int.add_sub_assoc, red_add_pw, sub_reds]
theorem red_two (x w : Int) (k : Nat) : red (2 * red (x * pw k) w) w = red (x * pw (k + 1)) w := by
  rw [pw_succ]
  unfold red; split
  · rw [Int.mul_emod, Int.emod_emod_of_dvd _ (Int.dvd_refl _), ← Int.mul_emod]; congr 1
    rw [← Int.mul_assoc, Int.mul_comm 2 x, Int.mul_assoc]
  · rfl
theorem half (x : Int) (k : Nat) : x / pw k / 2 = x / pw (k + 1) := by
  rw [pw_succ, Int.mul_comm, Int.ediv_ediv_of_nonneg (Int.le_of_lt (pw_pos k))]
theorem shr_big {a n w : Int} (h : 32 ≤ n) : red a w / pw n = 0 :=
  Int.ediv_eq_zero_of_lt (red_bd a w).1 (Int.lt_of_lt_of_le (red_bd a w).2 (pw_ge32 h))
theorem shl_big {a n w : Int} (h : 32 ≤ n) : red (a * pw n) w = 0 := by
  cases hk : ok w
  · exact red_off hk
  · refine red_mul_dvd ?_
    rw [pw_split (show 0 ≤ 32 by decide) h, pw_32]
    exact Int.dvd_trans (pw_dvd (ok_iff.1 hk).2) (Int.dvd_mul_left _ _)
theorem red_mul_pw0 (a w : Int) : red (a * pw 0) w = red a w := by rw [pw_0, Int.mul_one]

/-! ### prefix masks bit by bit -/
theorem pmask_nat {n w : Nat} (h1 : 1 ≤ w) (h2 : w ≤ 32) (hn : n ≤ w) : pmask n w = (((2 ^ n - 1) * 2 ^ (w - n) : Nat) : Int) := by
  rw [pmask_of (ok_of (by omega) (by omega))]
  have hc : clampn (n : Int) w = n := by unfold clampn; omega
  rw [hc, show (w : Int) - n = ((w - n : Nat) : Int) by omega, pw_nat, pw_nat]
  have e : 2 ^ w = 2 ^ n * 2 ^ (w - n) := by rw [← Nat.pow_add, show n + (w - n) = w by omega]
  have hp := Nat.two_pow_pos n
  rw [Nat.sub_mul, ← e, Nat.one_mul]
  have : 2 ^ (w - n) ≤ 2 ^ w := Nat.pow_le_pow_right (by decide) (by omega)
  push_cast [Int.ofNat_sub this]; rfl
theorem bit_pmask {n k i : Nat} : ((2 ^ n - 1) * 2 ^ k).testBit i = (decide (k ≤ i) && decide (i < k + n)) := by
  rw [Nat.testBit_mul_two_pow, Nat.testBit_two_pow_sub_one]
  by_cases h : k ≤ i
  · by_cases h2 : i < k + n
    · have h3 : i - k < n := by omega
      simp [h, h2, h3]
    · have h3 : ¬ i - k < n := by omega
      simp [h, h2, h3]
  · simp [h]
theorem ones_nat (x : Nat) (k : Nat) : ones (x : Int) k = ((List.range k).map fun i => ((x.testBit i).toNat : Int)).sum := by
  induction k with
  | zero => rfl
  | succ k ih =>
    rw [ones_succ, ih, List.range_succ, List.map_append, List.sum_append]
    simp only [List.map_cons, List.map_nil, List.sum_cons, List.sum_nil, Int.add_zero]
    congr 1
    rw [Nat.toNat_testBit]; push_cast; rfl
theorem count_between (k n : Nat) : ∀ m : Nat, ((List.range m).map fun i => ((decide (k ≤ i) && decide (i < k + n)).toNat : Int)).sum = min (max ((m : Int) - k) 0) n
  | 0 => by simp; omega
  | m + 1 => by
    rw [List.range_succ, List.map_append, List.sum_append, count_between k n m]
    simp only [List.map_cons, List.map_nil, List.sum_cons, List.sum_nil, Int.add_zero]
    by_cases h : k ≤ m <;> by_cases h2 : m < k + n <;> simp [h, h2] <;> omega
theorem ones_pmask {n w : Nat} (h1 : 1 ≤ w) (h2 : w ≤ 32) (hn : n ≤ w) : ones (pmask n w) 32 = n := by
  rw [pmask_nat h1 h2 hn, ones_nat]
  simp only [bit_pmask]
  rw [count_between]; omega
theorem and_pmask {n m w : Nat} (h1 : 1 ≤ w) (h2 : w ≤ 32) (hn : n ≤ m) (hm : m ≤ w) : bits .and .u32 (pmask n w) (pmask m w) = pmask n w := by
  rw [u32_and _ _ (pmask_bd _ _).1 (pmask_bd _ _).2 (pmask_bd _ _).1 (pmask_bd _ _).2, pmask_nat h1 h2 (by omega), pmask_nat h1 h2 hm, Int.toNat_natCast, Int.toNat_natCast]
  congr 1
  apply Nat.eq_of_testBit_eq
  intro i
  rw [Nat.testBit_and, bit_pmask, bit_pmask]
  by_cases a : w - n ≤ i
  · by_cases b : i < w - n + n
    · have c : w - m ≤ i := by omega
      have d : i < w - m + m := by omega
      simp [a, b, c, d]
    · simp [b]
  · simp [a]
theorem pmask_inj {n j w : Nat} (h1 : 1 ≤ w) (h2 : w ≤ 32) (hn : n ≤ w) (hj : j ≤ w) (h : pmask j w = pmask n w) : j = n := by
  have e1 := ones_pmask h1 h2 hn
  have e2 := ones_pmask h1 h2 hj
  rw [h, e1] at e2; omega
theorem fits_pmask {n w : Int} (h : ok w = true) : fits (pmask n w) w = true := by
  obtain ⟨w1, w2⟩ := ok_iff.1 h
  simp only [fits, h, Bool.true_and, decide_eq_true_eq]
  rw [pmask_of h]
  have := pw_pos (w - clampn n w)
  omega
end Bv
end Go.Proofs.Yteefchbpojcklaa
