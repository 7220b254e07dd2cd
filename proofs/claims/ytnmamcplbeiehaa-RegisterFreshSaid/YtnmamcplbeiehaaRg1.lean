/- Registers: their data; Check of the package and of its reference, walked. No condition. -/
import Derived.Test.YtnmamcplbeiehaaStep
import Derived.Test.YtnmamcplbeiehaaBvW
import Derived.Test.YtnmamcplbeiehaaId
namespace Go.Proofs.Ytnmamcplbeiehaa
open Go.RowKit

/-- a slice of integers of kind k, and how long it may be -/
def Ns (k : IntKind) (w : World) (v : Value) (l : List Int) : Prop := Src w v 1 l.length (l.map (.int k)) ∧ l.length ≤ maxLen
theorem Ns.ext {k : IntKind} {w w' : World} {v : Value} {l : List Int} (h : Ns k w v l) (hx : Ext w w') : Ns k w' v l := ⟨h.1.ext hx, h.2⟩
def U32 (x : Int) : Prop := 0 ≤ x ∧ x < 4294967296
/-- a row of values: the cell that holds it -/
def RowR (w : World) (cs : List Value) (l : List Int) : Prop := ∃ v, cs = [v] ∧ Ns .u32 w v l ∧ ∀ x ∈ l, U32 x
theorem RowR.ext {w w' : World} {cs : List Value} {l : List Int} (h : RowR w cs l) (hx : Ext w w') : RowR w' cs l := by
  obtain ⟨v, h1, h2, h3⟩ := h; exact ⟨v, h1, h2.ext hx, h3⟩
theorem ns_at {k : IntKind} {w : World} {oa : Option Addr} {n c : Nat} {l : List Int} (h : Ns k w (.slice oa n c) l) (hl : 0 < l.length) : ∃ b o, oa = some ⟨b, o, none⟩ ∧ ∀ j x, l[j]? = some x → ∀ w' [Grows w w'], w'.cell? ⟨b, o + j, none⟩ = some (.int k x) := by
  cases oa with
  | none =>
    rcases h.1.2.2 with ⟨_, h0⟩ | ⟨_, _, h0, _⟩
    · omega
    · simp at h0
  | some ad =>
    obtain ⟨ea, _, ca⟩ := h.1.at hl
    obtain ⟨ab, ao, asp⟩ := ad
    simp only [Addr.mk.injEq, true_and] at ea
    subst ea
    exact ⟨ab, ao, rfl, fun j x hj => alw (ca j _ (by simp [hj]))⟩
theorem ns_slice {k : IntKind} {w : World} {v : Value} {l : List Int} (h : Ns k w v l) : ∃ oa c, v = .slice oa l.length c := by
  obtain ⟨oa, c, rfl, _⟩ := h.1.slice; exact ⟨oa, c, rfl⟩
theorem rows_at {w : World} {b o n c : Nat} {m : List (List Int)} {oa : Option Addr} (h : Rows w 1 RowR (.slice oa n c) m) (k : Nat) (l : List Int) (hk : m[k]? = some l) (hoa : oa = some ⟨b, o, none⟩) :
    ∃ la lc, (∀ w' [Grows w w'], w'.cell? ⟨b, o + k, none⟩ = some (.slice la l.length lc)) ∧ Ns .u32 w (.slice la l.length lc) l ∧ ∀ x ∈ l, U32 x := by
  have hlt := (List.getElem?_eq_some_iff.1 hk).1
  obtain ⟨b', o', hb, hn, hc⟩ := Rows.at h (by omega)
  rw [hb] at hoa
  simp only [Option.some.injEq, Addr.mk.injEq, and_true] at hoa
  obtain ⟨rfl, rfl⟩ := hoa
  obtain ⟨cs, _, ⟨v, rfl, h1, h2⟩, hcs⟩ := hc k _ hk
  obtain ⟨la, lc, rfl⟩ := ns_slice h1
  refine ⟨la, lc, ?_, h1, h2⟩
  have := hcs 0 _ rfl
  rw [Nat.mul_one, Nat.add_zero] at this
  exact alw this
theorem ret_bool {a b : Bool} (h : a = b) : Ending.returned (.bool a) = .returned (.bool b) := by rw [h]
theorem ret_int {k : IntKind} {a b : Int} (h : a = b) : Ending.returned (.int k a) = .returned (.int k b) := by rw [h]

namespace Rg
structure Reg where
  nm : ByteArray
  w : Int
  s : Int
def B64 (x : Int) : Prop := -9223372036854775808 ≤ x ∧ x ≤ 9223372036854775807
/-- a register: the cells that hold it -/
def RegR (_ : World) (cs : List Value) (r : Reg) : Prop := cs = [.string r.nm, .int .i64 r.w, .int .i64 r.s] ∧ r.nm.size ≤ maxLen ∧ B64 r.w ∧ B64 r.s
theorem RegR.ext {w w' : World} {cs : List Value} {r : Reg} (h : RegR w cs r) (_ : Ext w w') : RegR w' cs r := h
def z : Reg := ⟨⟨#[]⟩, 0, 0⟩
def szB (r : Reg) : Bool := decide (1 ≤ r.s) && decide (r.s ≤ 64)
def chk (r : Reg) : Int := if Id.ok r.nm then (if Bv.ok r.w then (if szB r then 0 else 9) else 10) else 6
def wid (r : Reg) : Int := if Bv.ok r.w then r.w else 0
theorem mask_wid (r : Reg) : Bv.mask (wid r) = Bv.mask r.w := by
  unfold wid; by_cases h : Bv.ok r.w = true
  · rw [if_pos h]
  · rw [if_neg h]; unfold Bv.mask; rw [if_neg h, if_neg (by decide)]
theorem wid_bd (r : Reg) : 0 ≤ wid r ∧ wid r ≤ 32 := by
  unfold wid; split
  · rename_i hk; have := Bv.ok_iff.1 hk; omega
  · omega
theorem mask_fits {v w : Int} (h0 : 0 ≤ v) (w0 : 0 ≤ w) (w1 : w ≤ 32) : decide (v ≤ Bv.mask w) = decide (v < Bv.pw w) := by
  unfold Bv.mask
  by_cases hk : 1 ≤ w
  · rw [if_pos (Bv.ok_of hk w1)]
    rw [decide_eq_decide]; omega
  · rw [if_neg (by rw [Bv.not_ok (by omega)]; decide)]
    obtain rfl : w = 0 := by omega
    rw [decide_eq_decide]
    simp [Bv.pw]; omega
theorem mask_zero {w : Int} : Bv.mask w = 0 ↔ Bv.ok w = false := by
  unfold Bv.mask
  cases h : Bv.ok w
  · simp
  · have := Bv.ok_iff.1 h
    have h2 : (2 : Int) ^ 1 ≤ 2 ^ w.toNat := by exact_mod_cast Nat.pow_le_pow_right (by decide : 0 < 2) (show 1 ≤ w.toNat by omega)
    simp only [if_true, Bv.pw]
    constructor
    · intro h3; omega
    · intro h3; cases h3
end Rg
theorem regs_at {w : World} {b o n c : Nat} {rs : List Rg.Reg} {oa : Option Addr} (h : Rows w 3 Rg.RegR (.slice oa n c) rs) (k : Nat) (r : Rg.Reg) (hk : rs[k]? = some r) (hoa : oa = some ⟨b, o, none⟩) :
    (∀ w' [Grows w w'], w'.cell? ⟨b, o + k * 3, none⟩ = some (.string r.nm)) ∧ (∀ w' [Grows w w'], w'.cell? ⟨b, o + k * 3 + 1, none⟩ = some (.int .i64 r.w)) ∧ (∀ w' [Grows w w'], w'.cell? ⟨b, o + k * 3 + 2, none⟩ = some (.int .i64 r.s)) ∧ r.nm.size ≤ maxLen ∧ Rg.B64 r.w ∧ Rg.B64 r.s := by
  have hlt := (List.getElem?_eq_some_iff.1 hk).1
  obtain ⟨b', o', hb, hn, hc⟩ := Rows.at h (by omega)
  rw [hb] at hoa
  simp only [Option.some.injEq, Addr.mk.injEq, and_true] at hoa
  obtain ⟨rfl, rfl⟩ := hoa
  obtain ⟨cs, _, ⟨rfl, h1, h2, h3⟩, hcs⟩ := hc k _ hk
  exact ⟨alw (hcs 0 _ rfl), alw (hcs 1 _ rfl), alw (hcs 2 _ rfl), h1, h2, h3⟩

set_option maxRecDepth 8000 in
theorem sized_any (r : Rg.Reg) (W : World) : Calls Try.prog 55 #[.agg #[.string r.nm, .int .i64 r.w, .int .i64 r.s]] W (Rets W (.bool (Rg.szB r))) := by
  by_cases h1 : 1 ≤ r.s <;> by_cases h2 : r.s ≤ 64 <;> first | omega | skip
  all_goals
    have HR := Lib.hid (show Rg.szB r = (decide (1 ≤ r.s) && decide (r.s ≤ 64)) from rfl)
    go_enter Try.func55, Try.ntmps55
    go_wp2_with fail
    go_ret
    exact ⟨ret_bool (by rw [HR.out]; simp [h1, h2]), grows⟩
set_option maxRecDepth 8000 in
theorem rcheck_any (r : Rg.Reg) (hn : r.nm.size ≤ maxLen) (W : World) : Calls Try.prog 27 #[.agg #[.string r.nm, .int .i64 r.w, .int .i64 r.s]] W (Rets W (.int .i64 (Rg.chk r))) := by
  have HN := Lib.hid hn
  clear hn
  have bb := alloc_heap W (.cells #[.string r.nm, .int .i64 r.w, .int .i64 r.s] 64)
  have k0 := alw (cell_of (o := 0) bb)
  have k1 := alw (cell_of (o := 1) bb)
  have k2 := alw (cell_of (o := 2) bb)
  clear bb
  cases h1 : Id.ok r.nm
  · have HR := Lib.hid (show Rg.chk r = 6 by unfold Rg.chk; rw [h1]; rfl)
    go_enter Try.func27, Try.ntmps27
    go_wp2_with (go_at_call 54; refine (ident_any _ _ HN.out).mono ?_; rintro e w1 ⟨rfl, rfl⟩; rw [h1])
    go_ret
    exact ⟨ret_int (by rw [HR.out]), grows⟩
  · cases h2 : Bv.ok r.w
    · have HR := Lib.hid (show Rg.chk r = 10 by unfold Rg.chk; rw [h1, h2]; rfl)
      have hz := Rg.mask_zero.2 h2
      go_enter Try.func27, Try.ntmps27
      go_wp2_with (first | (go_at_call 54; refine (ident_any _ _ HN.out).mono ?_; rintro e w1 ⟨rfl, rfl⟩; rw [h1]) | (go_at_call 41; refine (mask_any _ _).mono ?_; rintro e w2 ⟨rfl, x2⟩; rw [hz]; have s2 := Step.mk x2))
      go_ret
      exact ⟨ret_int (by rw [HR.out]), grows⟩
    · have hz : ¬ Bv.mask r.w = 0 := by rw [Rg.mask_zero, h2]; decide
      obtain ⟨y, hy⟩ : ∃ y, y = Bv.mask r.w := ⟨_, rfl⟩
      have HY := Lib.hid hy
      rw [← hy] at hz
      clear hy
      cases h3 : Rg.szB r
      · have HR := Lib.hid (show Rg.chk r = 9 by unfold Rg.chk; rw [h1, h2, h3]; rfl)
        go_enter Try.func27, Try.ntmps27
        go_wp2_with (first | (go_at_call 54; refine (ident_any _ _ HN.out).mono ?_; rintro e w1 ⟨rfl, rfl⟩; rw [h1]) | (go_at_call 41; refine (mask_any _ _).mono ?_; rintro e w2 ⟨rfl, x2⟩; rw [← HY.out]; have s2 := Step.mk x2) | (go_at_call 55; refine (sized_any r _).mono ?_; rintro e w3 ⟨rfl, x3⟩; rw [h3]; have s3 := Step.mk x3))
        go_ret
        exact ⟨ret_int (by rw [HR.out]), grows⟩
      · have HR := Lib.hid (show Rg.chk r = 0 by unfold Rg.chk; rw [h1, h2, h3]; rfl)
        go_enter Try.func27, Try.ntmps27
        go_wp2_with (first | (go_at_call 54; refine (ident_any _ _ HN.out).mono ?_; rintro e w1 ⟨rfl, rfl⟩; rw [h1]) | (go_at_call 41; refine (mask_any _ _).mono ?_; rintro e w2 ⟨rfl, x2⟩; rw [← HY.out]; have s2 := Step.mk x2) | (go_at_call 55; refine (sized_any r _).mono ?_; rintro e w3 ⟨rfl, x3⟩; rw [h3]; have s3 := Step.mk x3))
        go_ret
        exact ⟨ret_int (by rw [HR.out]), grows⟩
set_option maxRecDepth 8000 in
theorem rwidth_any (r : Rg.Reg) (W : World) : Calls Try.prog 59 #[.agg #[.string r.nm, .int .i64 r.w, .int .i64 r.s]] W (Rets W (.int .i64 (Rg.wid r))) := by
  by_cases h1 : 1 ≤ r.w <;> by_cases h2 : r.w ≤ 32 <;> first | omega | skip
  all_goals
    have HR : Hid (Rg.wid r = if (1 ≤ r.w ∧ r.w ≤ 32) then r.w else 0) := Lib.hid (by unfold Rg.wid; by_cases h : Bv.ok r.w = true; (· rw [if_pos h, if_pos (Bv.ok_iff.1 h)]); (· rw [if_neg h, if_neg (fun h' => h (Bv.ok_iff.2 h'))]))
    go_enter Try.func59, Try.ntmps59
    go_wp2_with fail
    go_ret
    exact ⟨ret_int (by rw [HR.out]; (repeat' split) <;> omega), grows⟩
set_option maxRecDepth 8000 in
theorem refcheck_any (r : Rg.Reg) (hn : r.nm.size ≤ maxLen) (W : World) : Calls Try.prog 28 #[.agg #[.string r.nm, .int .i64 r.w, .int .i64 r.s]] W (Rets W (.int .i64 (Rg.chk r))) := by
  have HN := Lib.hid hn
  clear hn
  cases h1 : Id.ok r.nm
  · have HR := Lib.hid (show Rg.chk r = 6 by unfold Rg.chk; rw [h1]; rfl)
    go_enter Try.func28, Try.ntmps28
    go_wp2_with (go_at_call 56; refine (rident_any _ _ HN.out).mono ?_; rintro e w1 ⟨rfl, rfl⟩; rw [h1])
    go_ret
    exact ⟨ret_int (by rw [HR.out]), grows⟩
  · have HR : Hid (Rg.chk r = if (1 ≤ r.w ∧ r.w ≤ 32) then (if (1 ≤ r.s ∧ r.s ≤ 64) then 0 else 9) else 10) := Lib.hid (by
      unfold Rg.chk; rw [h1, if_pos rfl]
      by_cases h : Bv.ok r.w = true
      · rw [if_pos h, if_pos (Bv.ok_iff.1 h)]; unfold Rg.szB; simp only [Bool.and_eq_true, decide_eq_true_eq]
      · rw [if_neg h, if_neg (fun h' => h (Bv.ok_iff.2 h'))])
    by_cases g1 : 1 ≤ r.w <;> by_cases g2 : r.w ≤ 32 <;> by_cases g3 : 1 ≤ r.s <;> by_cases g4 : r.s ≤ 64 <;> first | omega | skip
    all_goals
      go_enter Try.func28, Try.ntmps28
      go_wp2_with (go_at_call 56; refine (rident_any _ _ HN.out).mono ?_; rintro e w1 ⟨rfl, rfl⟩; rw [h1])
      go_ret
      exact ⟨ret_int (by rw [HR.out]; (repeat' split) <;> omega), grows⟩
set_option maxRecDepth 8000 in
theorem rfits12_any {W : World} (v w : Int) (h0 : 0 ≤ v) (h1 : v < 4294967296) (w0 : 0 ≤ w) (w1 : w ≤ 32) :
    Calls Try.prog 40 #[.int .u32 v, .int .i64 w] W fun e W' => e = .returned (.bool (decide (v ≤ Bv.mask w))) ∧ W = W' := by
  rw [Rg.mask_fits h0 w0 w1]
  obtain ⟨n, rfl⟩ := Int.eq_ofNat_of_zero_le w0
  go_enter Try.func40, Try.ntmps40
  go_wp2_with fail
  go_loop [5, 6] (fun t i => ∃ k : Nat, k ≤ n ∧ i = .int .i64 k ∧ t = .int .u64 (2 ^ k)) (fun _ i => n - (intOf i).toNat)
  case atStart => exact ⟨0, Nat.zero_le _, rfl, rfl⟩
  case round =>
    obtain ⟨k, hk, rfl, rfl⟩ := hrel
    by_cases hlt : k < n
    · have hp : (2 : Int) ^ k ≤ 2 ^ 31 := by exact_mod_cast Nat.pow_le_pow_right (by decide : 0 < 2) (show k ≤ 31 by omega)
      have hp0 : (0 : Int) < 2 ^ k := Int.pow_pos (by decide)
      have hps : (2 : Int) ^ (k + 1) = 2 * 2 ^ k := by rw [Int.pow_succ]; omega
      have HPS := Lib.hid hps
      clear hps
      obtain ⟨y, hy⟩ : ∃ y, y = (2 : Int) ^ k := ⟨_, rfl⟩
      rw [← hy] at hp hp0 HPS ⊢
      have hp2 : y ≤ 2147483648 := by omega
      clear hy hp
      go_wp2_with fail
      go_round
      case rel => exact ⟨k + 1, by omega, by go_num, by rw [HPS.out]⟩
      case measure => simp [intOf]; omega
    · obtain rfl : k = n := by omega
      have hp0 : (0 : Int) < 2 ^ k := Int.pow_pos (by decide)
      have hpw : Bv.pw (k : Int) = 2 ^ k := by simp [Bv.pw]
      have HPW := Lib.hid hpw
      obtain ⟨y, hy⟩ : ∃ y, y = (2 : Int) ^ k := ⟨_, rfl⟩
      rw [← hy] at hp0 HPW ⊢
      clear hpw hy
      go_wp2_with fail
      go_ret
      exact ⟨by rw [HPW.out]; rfl, rfl⟩
end Go.Proofs.Ytnmamcplbeiehaa
