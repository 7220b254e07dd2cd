/- Tries of prefixes: the reference's functions that only read, walked. No condition. -/
import Derived.Test.YteefchbpojcklaaLp10
namespace Go.Proofs.Yteefchbpojcklaa
open Go.RowKit

namespace Lp
/-- the mask after i rounds -/
def mk (n : Nat) : Nat → Nat
  | 0 => 0
  | i + 1 => 2 * mk n i + (if i < n then 1 else 0)
theorem mk_eq (n : Nat) : ∀ i, (i ≤ n → mk n i + 1 = 2 ^ i) ∧ (n ≤ i → mk n i + 2 ^ (i - n) = 2 ^ i)
  | 0 => ⟨fun _ => rfl, fun _ => by simp [mk]⟩
  | i + 1 => by
    obtain ⟨h1, h2⟩ := mk_eq n i
    have hp : 2 ^ (i + 1) = 2 ^ i * 2 := Nat.pow_succ 2 i
    constructor
    · intro h
      have := h1 (by omega)
      rw [mk, if_pos (by omega), hp]; omega
    · intro h
      rcases Nat.lt_or_ge i n with hi | hi
      · obtain rfl : n = i + 1 := by omega
        have := h1 (by omega)
        rw [mk, if_pos hi, Nat.sub_self, hp]; omega
      · have := h2 hi
        have e : i + 1 - n = (i - n) + 1 := by omega
        rw [mk, if_neg (by omega), e, Nat.pow_succ, hp]; omega
theorem mk_lt (n i : Nat) : mk n i < 2 ^ i := by
  obtain ⟨h1, h2⟩ := mk_eq n i
  rcases Nat.le_total i n with h | h
  · have := h1 h; omega
  · have := h2 h; have : 0 < 2 ^ (i - n) := Nat.pos_of_ne_zero (by simp); omega
theorem pw_nat (w : Nat) : Bv.pw (w : Int) = ((2 ^ w : Nat) : Int) := by unfold Bv.pw; rw [Int.toNat_natCast, Int.natCast_pow]; rfl
theorem pmask_nat {n w : Nat} (h1 : 1 ≤ w) (h2 : w ≤ 32) (hn : n ≤ w) : Bv.pmask n w = ((2 ^ w - 2 ^ (w - n) : Nat) : Int) := by
  have hle : 2 ^ (w - n) ≤ 2 ^ w := Nat.pow_le_pow_right (by decide) (by omega)
  unfold Bv.pmask
  rw [Bv.ok_of (by omega) (by omega), if_pos rfl, show Bv.clampn (n : Int) (w : Int) = n by unfold Bv.clampn; omega, show (w : Int) - (n : Int) = ((w - n : Nat) : Int) by omega, pw_nat, pw_nat]
  omega
theorem mk_mask {n w : Nat} (h1 : 1 ≤ w) (h2 : w ≤ 32) (hn : n ≤ w) : ((mk n w : Nat) : Int) = Bv.pmask n w := by
  rw [pmask_nat h1 h2 hn]
  have := (mk_eq n w).2 hn; omega
/-- a key under a mask -/
theorem and_trunc {w v n : Nat} (h1 : 1 ≤ w) (h2 : w ≤ 32) (hn : n ≤ w) (hv : v < 2 ^ w) : Go.bits .and .u32 (v : Int) (Bv.pmask n w) = ((trunc w v n : Nat) : Int) := by
  rw [pmask_nat h1 h2 hn]
  have h32 : 2 ^ w ≤ 4294967296 := Nat.pow_le_pow_right (n := 2) (by decide) h2
  have hm : 2 ^ w - 2 ^ (w - n) = (2 ^ n - 1) * 2 ^ (w - n) := by
    rw [Nat.sub_mul, Nat.one_mul, ← Nat.pow_add, Nat.add_sub_cancel' hn]
  have e : v &&& (2 ^ w - 2 ^ (w - n)) = trunc w v n := by
    apply Nat.eq_of_testBit_eq
    intro i
    rw [hm, Nat.testBit_and]
    unfold trunc
    rw [Nat.mul_comm (v / _), Nat.mul_comm (2 ^ n - 1), Nat.testBit_two_pow_mul, Nat.testBit_two_pow_mul, Nat.testBit_two_pow_sub_one, Nat.testBit_div_two_pow]
    by_cases hi : w - n ≤ i
    · rw [decide_eq_true hi, Nat.sub_add_cancel hi]
      by_cases hw : i < w
      · rw [decide_eq_true (by omega : i - (w - n) < n)]; simp
      · rw [testBit_big hv (by omega)]; simp
    · rw [decide_eq_false hi]; simp
  rw [← e]
  have hpos : 0 < 2 ^ (w - n) := Nat.pos_of_ne_zero (by simp)
  clear hm e
  obtain ⟨z, hz⟩ : ∃ z, z = 2 ^ w - 2 ^ (w - n) := ⟨_, rfl⟩
  rw [← hz]
  have hzl : z < 4294967296 := by omega
  have hvl : v < 4294967296 := by omega
  clear hz
  rw [u32_and _ _ (by omega) (by omega) (by omega) (by omega), Int.toNat_natCast, Int.toNat_natCast]
theorem and_fits {w v : Nat} (h1 : 1 ≤ w) (h2 : w ≤ 32) (hv : v < 4294967296) : (Go.bits .and .u32 (v : Int) (Bv.pmask w w) == (v : Int)) = decide (v < 2 ^ w) := by
  have hm : Bv.pmask w w = Bv.mask w := by
    rw [pmask_nat h1 h2 (Nat.le_refl _), Nat.sub_self]
    unfold Bv.mask
    rw [Bv.ok_of (by omega) (by omega), if_pos rfl, pw_nat]
    have : 0 < 2 ^ w := Nat.pos_of_ne_zero (by simp)
    omega
  rw [hm, Bv.and_mask (by omega) (by omega)]
  unfold Bv.red
  rw [Bv.ok_of (by omega) (by omega), if_pos rfl, pw_nat]
  obtain ⟨z, hz⟩ : ∃ z, z = 2 ^ w := ⟨_, rfl⟩
  have hpos : 0 < z := by rw [hz]; exact Nat.pos_of_ne_zero (by simp)
  rw [← hz, show ((v : Int) % (z : Int)) = ((v % z : Nat) : Int) by omega]
  by_cases h : v < z
  · rw [decide_eq_true h, beq_iff_eq, Nat.mod_eq_of_lt h]
  · rw [decide_eq_false h, beq_eq_false_iff_ne]
    have := Nat.mod_lt v hpos
    omega
/-- where a prefix lies, or -1 -/
def idxI : Option Nat → Int
  | some i => i
  | none => -1
def fndI (L : List Item) (w v : Nat) (n : Int) : Int := bif pfx w v n then idxI (fnd L (trunc w v n.toNat) n.toNat) else -1
end Lp
/-- an item in memory -/
def itemC (a : Lp.Item) : List Value := [.int .u32 a.1, .int .i64 a.2.1, .int .i64 a.2.2]
def ItemR (_ : World) (cs : List Value) (a : Lp.Item) : Prop := cs = itemC a
theorem items_at {W : World} {la : Option Addr} {n lc : Nat} {L : List Lp.Item} (h : Rows W 3 ItemR (.slice la n lc) L) (hn : 0 < L.length) : ∃ b o, la = some ⟨b, o, none⟩ ∧ n = L.length ∧ ∀ (i V N : Nat) (X : Int), L[i]? = some (V, N, X) →
    W.cell? ⟨b, o + i * 3, none⟩ = some (.int .u32 V) ∧ W.cell? ⟨b, o + i * 3 + 1, none⟩ = some (.int .i64 N) ∧ W.cell? ⟨b, o + i * 3 + 2, none⟩ = some (.int .i64 X) := by
  obtain ⟨b, o, h1, h2, h3⟩ := h.at hn
  refine ⟨b, o, h1, h2, fun i V N X hi => ?_⟩
  obtain ⟨cs, _, rfl, hc⟩ := h3 i _ hi
  exact ⟨hc 0 _ rfl, hc 1 _ rfl, hc 2 _ rfl⟩
set_option maxRecDepth 8000 in
theorem r9mask_any {W : World} {n w : Nat} (h1 : 1 ≤ w) (h2 : w ≤ 32) (hn : n ≤ w) :
    Calls Try.prog 18 #[.int .i64 n, .int .i64 w] W (Rets W (.int .u32 (Bv.pmask n w))) := by
  rw [← Lp.mk_mask h1 h2 hn]
  go_enter Try.func18, Try.ntmps18
  go_wp2_with fail
  go_loopw [5, 6] (fun m i wr => ∃ (k : Nat), k ≤ w ∧ m = .int .u64 (Lp.mk n k : Nat) ∧ i = .int .i64 k ∧ Ext W wr) (fun _ i _ => w - (intOf i).toNat)
  case atStart => exact ⟨0, Nat.zero_le _, rfl, rfl, grows⟩
  case round =>
    obtain ⟨k, hk, rfl, rfl, hx⟩ := hrel
    have sr := Step.mk hx
    clear hx
    have hlt := Lp.mk_lt n k
    have h32 : 2 ^ k ≤ 4294967296 := Nat.le_trans (Nat.pow_le_pow_right (n := 2) (by decide) (Nat.le_trans hk h2)) (by decide)
    rcases Nat.lt_or_ge k w with hkw | hkw
    · rcases Nat.lt_or_ge k n with hkn | hkn
      · have e : Lp.mk n (k + 1) = 2 * Lp.mk n k + 1 := by rw [Lp.mk, if_pos hkn]
        obtain ⟨m, hm⟩ : ∃ m, m = Lp.mk n k := ⟨_, rfl⟩
        rw [← hm] at hlt e ⊢
        have hm2 : m < 4294967296 := by omega
        have HE := Lib.hid e
        clear hm e hlt h32
        go_wp2_with fail
        go_roundw
        case rel => exact ⟨k + 1, by omega, by rw [HE.out]; push_cast; rfl, by go_num, grows⟩
        case measure => simp [intOf]; omega
      · have e : Lp.mk n (k + 1) = 2 * Lp.mk n k := by rw [Lp.mk, if_neg (by omega)]; rfl
        obtain ⟨m, hm⟩ : ∃ m, m = Lp.mk n k := ⟨_, rfl⟩
        rw [← hm] at hlt e ⊢
        have hm2 : m < 4294967296 := by omega
        have HE := Lib.hid e
        clear hm e hlt h32
        go_wp2_with fail
        go_roundw
        case rel => exact ⟨k + 1, by omega, by rw [HE.out]; push_cast; rfl, by go_num, grows⟩
        case measure => simp [intOf]; omega
    · obtain rfl : k = w := by omega
      obtain ⟨m, hm⟩ : ∃ m, m = Lp.mk n k := ⟨_, rfl⟩
      rw [← hm] at hlt ⊢
      have hm2 : m < 4294967296 := by
        rw [hm]
        have h3 := Lp.mk_mask h1 h2 hn
        have h4 := (Bv.pmask_bd (n : Int) (k : Int)).2
        omega
      have HMK := Lib.hid hm
      clear hm hlt h32
      go_wp2_with fail
      go_ret
      exact ⟨by rw [← HMK.out]; rfl, grows⟩
theorem r9new_ok {W : World} {w : Nat} (h1 : 1 ≤ w) (h2 : w ≤ 32) : Calls Try.prog 9 #[.int .i64 w] W (Rets W (.tuple #[.agg #[.int .i64 w, .slice none 0 0], .int .i64 0])) := by
  go_enter Try.func9, Try.ntmps9
  go_wp2_with fail
  exact bodyPost_ret (v := .tuple #[.agg #[.int .i64 w, .slice none 0 0], .int .i64 0]) (by simp [results, Try.results9, go_sem]) rfl ⟨rfl, grows⟩
theorem r9new_bad {W : World} {w : Int} (h : ¬ (1 ≤ w ∧ w ≤ 32)) : Calls Try.prog 9 #[.int .i64 w] W (Rets W (.tuple #[.agg #[.int .i64 0, .slice none 0 0], .int .i64 10])) := by
  by_cases h1 : w < 1
  · go_enter Try.func9, Try.ntmps9
    go_wp2_with fail
    exact bodyPost_ret (v := .tuple #[.agg #[.int .i64 0, .slice none 0 0], .int .i64 10]) (by simp [results, Try.results9, go_sem]) rfl ⟨rfl, grows⟩
  · have h2 : 32 < w := by omega
    clear h
    go_enter Try.func9, Try.ntmps9
    go_wp2_with fail
    exact bodyPost_ret (v := .tuple #[.agg #[.int .i64 0, .slice none 0 0], .int .i64 10]) (by simp [results, Try.results9, go_sem]) rfl ⟨rfl, grows⟩
theorem r9fits_any {W : World} {v w : Nat} (h1 : 1 ≤ w) (h2 : w ≤ 32) (hv : v < 4294967296) : Calls Try.prog 23 #[.int .u32 v, .int .i64 w] W (Rets W (.bool (decide (v < 2 ^ w)))) := by
  rw [← Lp.and_fits h1 h2 hv]
  have HM : Hid (∀ w', Calls Try.prog 18 #[.int .i64 w, .int .i64 w] w' (Rets w' (.int .u32 (Bv.pmask w w)))) := Lib.hid (fun w' => r9mask_any h1 h2 (Nat.le_refl _))
  go_enter Try.func23, Try.ntmps23
  go_wp2_with fail
  refine (HM.out _).mono ?_
  rintro e w1 ⟨rfl, x1⟩
  have s1 := Step.mk x1
  clear x1
  go_wp2_with fail
  go_ret
  exact ⟨rfl, grows⟩
set_option maxRecDepth 8000 in
theorem r9match_any {W : World} {w : Nat} (h1 : 1 ≤ w) (h2 : w ≤ 32) (sl : Value) (a : Lp.Item) (hn : a.2.1 ≤ w) (hs : ∃ la n lc, sl = .slice la n lc) : Calls Try.prog 29 #[.agg #[.int .i64 w, sl], .agg #[.int .u32 a.1, .int .i64 a.2.1, .int .i64 a.2.2]] W (Rets W (.agg #[.int .u32 a.1, .int .u32 (Bv.pmask a.2.1 w)])) := by
  obtain ⟨la, n, lc, rfl⟩ := hs
  obtain ⟨V, N, X⟩ := a
  dsimp only at hn ⊢
  have HM : Hid (∀ w', Calls Try.prog 18 #[.int .i64 N, .int .i64 w] w' (Rets w' (.int .u32 (Bv.pmask N w)))) := Lib.hid (fun w' => r9mask_any h1 h2 hn)
  go_enter Try.func29, Try.ntmps29
  have bb := alloc_heap W (.cells #[.int .i64 w, .slice la n lc] 32)
  have bc := alloc_heap (W.alloc (.cells #[.int .i64 w, .slice la n lc] 32)) (.cells #[.int .u32 V, .int .i64 N, .int .i64 X] 70)
  have bd := alloc_heap ((W.alloc (.cells #[.int .i64 w, .slice la n lc] 32)).alloc (.cells #[.int .u32 V, .int .i64 N, .int .i64 X] 70)) (.cells #[.int .u32 0, .int .u32 0] 51)
  rw [World.size_alloc] at bc bd
  rw [World.size_alloc] at bd
  have p0 := alw (cell_of (o := 0) bb)
  have q0 := alw (cell_of (o := 0) bc)
  have q1 := alw (cell_of (o := 1) bc)
  have HBD := Lib.hid bd
  obtain ⟨w3, h3⟩ : ∃ z, z = ((W.alloc (.cells #[.int .i64 w, .slice la n lc] 32)).alloc (.cells #[.int .u32 V, .int .i64 N, .int .i64 X] 70)).alloc (.cells #[.int .u32 0, .int .u32 0] 51) := ⟨_, rfl⟩
  have xW3 : Ext W w3 := by rw [h3]; exact grows
  have P0 := Lib.hid (p0 w3 (g := ⟨by rw [h3]; exact grows⟩))
  have Q0 := Lib.hid (q0 w3 (g := ⟨by rw [h3]; exact grows⟩))
  have Q1 := Lib.hid (q1 w3 (g := ⟨by rw [h3]; exact grows⟩))
  clear p0 q0 q1 bb bc bd
  go_wp2_with fail
  rw [← h3] at HBD ⊢
  clear h3
  have p0 := alw P0.out
  have q0 := alw Q0.out
  have q1 := alw Q1.out
  refine wp_region_later_then (W := w3) 8 1 #[true, true, true, true, true, true, true, true, false] (by kernel_rfl) (by kernel_rfl) rfl (Ext.refl _) ?_
  simp only [List.take_succ_cons, List.take_zero]
  repeat (go_big_quiet_step ((go_at_call 18; exact Rets.later_at (HM.out _))))
  refine wpQuiet_nil ?_
  intro w5 x5
  have hb5 := x5.heap HBD.out
  have c0 := cell_of (o := 0) hb5
  have c1 := cell_of (o := 1) hb5
  have f0 := free_of (o := 0) hb5
  have f1 := free_of (o := 1) hb5
  refine wpAny_ready (rs := [8]) (by kernel_rfl) (by simp) (AllReady.cons rfl (fun K hK => ?_) AllReady.nil)
  go_simp
  refine hK _ _ ?_
  refine wpAny_done (by kernel_rfl) ?_ _
  have md : Mod (· = W.heap.size + 1 + 1) w5 ((w5.setCell ⟨W.heap.size + 1 + 1, 0, none⟩ (.int .u32 V)).setCell ⟨W.heap.size + 1 + 1, 1, none⟩ (.int .u32 (Bv.pmask N w))) := mod_set.trans mod_set
  have hb6 : ((w5.setCell ⟨W.heap.size + 1 + 1, 0, none⟩ (.int .u32 V)).setCell ⟨W.heap.size + 1 + 1, 1, none⟩ (.int .u32 (Bv.pmask N w))).heap[W.heap.size + 1 + 1]? = some (.cells #[.int .u32 V, .int .u32 (Bv.pmask N w)] 51 (0, 0)) := setCell_heap (setCell_heap hb5)
  have XF := Lib.hid ((xW3.trans x5).mod md (fun q hq => by rw [hq]; omega))
  obtain ⟨w6, h6⟩ : ∃ z, z = ((w5.setCell ⟨W.heap.size + 1 + 1, 0, none⟩ (.int .u32 V)).setCell ⟨W.heap.size + 1 + 1, 1, none⟩ (.int .u32 (Bv.pmask N w))) := ⟨_, rfl⟩
  rw [← h6] at hb6 XF ⊢
  clear hb5 md c0 c1 f0 f1 h6
  have c0 := cell_of (o := 0) hb6
  have c1 := cell_of (o := 1) hb6
  clear hb6
  go_wp2_with fail
  exact bodyPost_ret (v := .agg #[.int .u32 V, .int .u32 (Bv.pmask N w)]) (by simp [results, Try.results29, go_sem, c0, c1]) rfl ⟨rfl, XF.out⟩
set_option maxRecDepth 8000 in
theorem r9find_any {W : World} {w : Nat} (h1 : 1 ≤ w) (h2 : w ≤ 32) {la : Option Addr} {lc : Nat} {L : List Lp.Item} (hr : Rows W 3 ItemR (.slice la L.length lc) L) (v : Nat) (hv : v < 4294967296) (n : Int) :
    Calls Try.prog 24 #[.agg #[.int .i64 w, .slice la L.length lc], .int .u32 v, .int .i64 n] W (Rets W (.int .i64 (Lp.fndI L w v n))) := by
  have HF : Hid (∀ w', Calls Try.prog 23 #[.int .u32 v, .int .i64 w] w' (Rets w' (.bool (decide (v < 2 ^ w))))) := Lib.hid (fun w' => r9fits_any h1 h2 hv)
  have HR := Lib.hid hr
  obtain ⟨_, _, he, hlc, hcm⟩ := hr.slice
  simp only [Value.slice.injEq, true_and] at he
  obtain ⟨rfl, rfl⟩ := he
  unfold maxLen at hcm
  have bb := alloc_heap W (.cells #[.int .i64 w, .slice la L.length lc] 32)
  have p0 := alw (cell_of (o := 0) bb)
  have p1 := alw (cell_of (o := 1) bb)
  clear bb hr
  by_cases h0 : n < 0
  · have d0 : decide (n < 0) = true := decide_eq_true h0
    have e0 : Lp.fndI L w v n = -1 := by unfold Lp.fndI Lp.pfx; rw [decide_eq_false (by omega)]; rfl
    rw [e0]
    clear e0
    go_enter Try.func24, Try.ntmps24
    go_wp2_with fail
    go_ret
    exact ⟨rfl, grows⟩
  · by_cases hn : (w : Int) < n
    · have d0 : decide (n < 0) = false := decide_eq_false h0
      have d1 : decide ((w : Int) < n) = true := decide_eq_true hn
      have e0 : Lp.fndI L w v n = -1 := by unfold Lp.fndI Lp.pfx; rw [decide_eq_false (show ¬ n ≤ (w : Int) by omega), Bool.and_false]; rfl
      rw [e0]
      clear e0
      go_enter Try.func24, Try.ntmps24
      go_wp2_with fail
      go_ret
      exact ⟨rfl, grows⟩
    · obtain ⟨m, rfl⟩ := Int.eq_ofNat_of_zero_le (show 0 ≤ n by omega)
      have d0 : decide ((m : Int) < 0) = false := decide_eq_false h0
      have d1 : decide (w < m) = false := decide_eq_false (by omega)
      have hm : m ≤ w := by omega
      by_cases hf : v < 2 ^ w
      · rw [decide_eq_true hf] at HF
        have e0 : Lp.fndI L w v m = Lp.idxI (Lp.fnd L (Lp.trunc w v m) m) := by unfold Lp.fndI; rw [Lp.pfx_iff.2 ⟨⟨by omega, by omega⟩, hf⟩]; rfl
        have HAND := Lib.hid (Lp.and_trunc h1 h2 hm hf)
        have HM : Hid (∀ w', Calls Try.prog 18 #[.int .i64 m, .int .i64 w] w' (Rets w' (.int .u32 (Bv.pmask m w)))) := Lib.hid (fun w' => r9mask_any h1 h2 hm)
        obtain ⟨tv, htv⟩ : ∃ tv, tv = Lp.trunc w v m := ⟨_, rfl⟩
        obtain ⟨pm, hpm⟩ : ∃ pm, pm = Bv.pmask m w := ⟨_, rfl⟩
        rw [← htv] at e0 HAND
        rw [← hpm] at HAND HM
        rw [e0]
        obtain ⟨res, hR⟩ : ∃ r, r = Lp.fnd L tv m := ⟨_, rfl⟩
        rw [← hR]
        obtain ⟨ri, hri⟩ : ∃ r : Int, r = Lp.idxI res := ⟨_, rfl⟩
        rw [← hri]
        have HFD := Lib.hid hR
        have HRI := Lib.hid hri
        clear htv hpm e0 hf hR h0 hn hri
        go_enter Try.func24, Try.ntmps24
        go_wp2_with fail
        refine (HF.out _).mono ?_
        rintro e w1 ⟨rfl, x1⟩
        have s1 := Step.mk x1
        clear x1
        go_wp2_with fail
        go_loopw [7] (fun i wr => ∃ k : Nat, k ≤ L.length ∧ i = .int .i64 k ∧ Ext (W.alloc (.cells #[.int .i64 w, .slice la L.length lc] 32)) wr ∧ Hid (∀ j a, j < k → L[j]? = some a → Lp.isP tv m a = false)) (fun i _ => L.length - (intOf i).toNat)
        case atStart => exact ⟨0, Nat.zero_le _, rfl, grows, Lib.hid (fun j a hj => absurd hj (Nat.not_lt_zero _))⟩
        case round =>
          obtain ⟨k, hk, rfl, hx, HN⟩ := hrel
          have sr := Step.mk hx
          clear hx
          rcases Nat.lt_or_ge k L.length with hkl | hkl
          · obtain ⟨b, o, rfl, _, hat⟩ := items_at HR.out (by omega)
            obtain ⟨⟨V, N, X⟩, ha⟩ : ∃ a, L[k]? = some a := ⟨_, List.getElem?_eq_getElem hkl⟩
            obtain ⟨q0, q1, q2⟩ := hat k V N X ha
            have HA := Lib.hid ha
            clear hat ha
            have q0 := alw q0
            have q1 := alw q1
            have d3 : decide ((k : Int) < (L.length : Int)) = true := decide_eq_true (by omega)
            by_cases hN : N = m
            · have z1 : ((N : Int) == (m : Int)) = true := beq_iff_eq.2 (by omega)
              have hand := HAND.out
              by_cases hV : V = tv
              · have z2 : ((V : Int) == (tv : Int)) = true := beq_iff_eq.2 (by omega)
                go_wp2_with fail
                refine wp_region_later (W := W.alloc (.cells #[.int .i64 w, .slice (some ⟨b, o, none⟩) L.length lc] 32)) (by kernel_rfl) (by kernel_rfl) grows ?_
                repeat (go_big_quiet_step ((go_at_call 18; exact Rets.later_at (HM.out _))))
                refine wpQuiet_nil ?_
                intro w5 x5
                have s5 := Step.mk x5
                clear x5
                go_wp2_with fail
                have e1 : res = some k := by
                  rw [HFD.out]
                  exact List.findIdx?_eq_some_iff_getElem.2 ⟨hkl, by
                    have := (List.getElem?_eq_some_iff.1 HA.out).2
                    rw [this]; exact Lp.isP_iff.2 ⟨by dsimp only; omega, by dsimp only; omega⟩, fun j hj => by
                    have := HN.out j _ hj (List.getElem?_eq_getElem (by omega))
                    rw [this]; decide⟩
                have e2 : ri = k := by rw [HRI.out, e1]; rfl
                subst e2
                go_ret
                exact ⟨rfl, grows⟩

              · have z2 : ((V : Int) == (tv : Int)) = false := beq_eq_false_iff_ne.2 (by omega)
                go_wp2_with fail
                refine wp_region_later (W := W.alloc (.cells #[.int .i64 w, .slice (some ⟨b, o, none⟩) L.length lc] 32)) (by kernel_rfl) (by kernel_rfl) grows ?_
                repeat (go_big_quiet_step ((go_at_call 18; exact Rets.later_at (HM.out _))))
                refine wpQuiet_nil ?_
                intro w5 x5
                have s5 := Step.mk x5
                clear x5
                go_wp2_with fail
                go_roundw
                case rel =>
                  refine ⟨k + 1, by omega, by go_num, grows, Lib.hid (fun j a hj ha => ?_)⟩
                  rcases Nat.lt_or_ge j k with h1 | h1
                  · exact HN.out j a h1 ha
                  · obtain rfl : j = k := by omega
                    rw [HA.out] at ha
                    obtain rfl := Option.some.inj ha
                    exact Bool.eq_false_iff.2 (fun h => by have := Lp.isP_iff.1 h; dsimp only at this; omega)
                case measure => simp [intOf]; omega

            · have z1 : ((N : Int) == (m : Int)) = false := beq_eq_false_iff_ne.2 (by omega)
              go_wp2_with fail
              refine wp_region_later (W := W.alloc (.cells #[.int .i64 w, .slice (some ⟨b, o, none⟩) L.length lc] 32)) (by kernel_rfl) (by kernel_rfl) grows ?_
              repeat (go_big_quiet_step ((go_at_call 18; exact Rets.later_at (HM.out _))))
              refine wpQuiet_nil ?_
              intro w5 x5
              have s5 := Step.mk x5
              clear x5
              go_wp2_with fail
              go_roundw
              case rel =>
                refine ⟨k + 1, by omega, by go_num, grows, Lib.hid (fun j a hj ha => ?_)⟩
                rcases Nat.lt_or_ge j k with h1 | h1
                · exact HN.out j a h1 ha
                · obtain rfl : j = k := by omega
                  rw [HA.out] at ha
                  obtain rfl := Option.some.inj ha
                  exact Bool.eq_false_iff.2 (fun h => by have := Lp.isP_iff.1 h; dsimp only at this; omega)
              case measure => simp [intOf]; omega
          · obtain rfl : k = L.length := by omega
            have e1 : res = none := by
              rw [HFD.out]
              refine List.findIdx?_eq_none_iff.2 (fun a ha => ?_)
              obtain ⟨j, hj⟩ := List.getElem?_of_mem ha
              exact HN.out j a (List.getElem?_eq_some_iff.1 hj).1 hj
            have e2 : ri = -1 := by rw [HRI.out, e1]; rfl
            subst e2
            have d3 : decide ((L.length : Int) < (L.length : Int)) = false := decide_eq_false (by omega)
            go_wp2_with fail
            go_ret
            exact ⟨rfl, grows⟩
      · rw [decide_eq_false hf] at HF
        have e0 : Lp.fndI L w v m = -1 := by unfold Lp.fndI Lp.pfx; rw [decide_eq_false hf, Bool.and_false]; rfl
        rw [e0]
        clear e0 hf
        go_enter Try.func24, Try.ntmps24
        go_wp2_with fail
        refine (HF.out _).mono ?_
        rintro e w1 ⟨rfl, x1⟩
        have s1 := Step.mk x1
        clear x1
        go_wp2_with fail
        go_ret
        exact ⟨rfl, grows⟩
end Go.Proofs.Yteefchbpojcklaa
