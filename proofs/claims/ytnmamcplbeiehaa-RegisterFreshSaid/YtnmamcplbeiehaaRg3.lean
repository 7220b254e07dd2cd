/- Registers: CheckContents, has, Read and their references; TooLarge, walked. No condition. -/
import Derived.Test.YtnmamcplbeiehaaRg2
namespace Go.Proofs.Ytnmamcplbeiehaa
open Go.RowKit

namespace Rg
def maxL (l : List Int) : Int := l.foldl max 0
theorem foldl_le {M : Int} : ∀ (l : List Int) (a : Int), l.foldl max a ≤ M ↔ a ≤ M ∧ ∀ x ∈ l, x ≤ M
  | [], a => by simp
  | y :: l, a => by
    rw [List.foldl_cons, foldl_le l]
    simp only [List.mem_cons, forall_eq_or_imp]
    constructor
    · rintro ⟨h1, h2⟩; exact ⟨by omega, by omega, h2⟩
    · rintro ⟨h1, h2, h3⟩; exact ⟨by omega, h3⟩
theorem max_take {l : List Int} {k : Nat} {x : Int} (h : l[k]? = some x) : maxL (l.take (k + 1)) = max (maxL (l.take k)) x := by
  unfold maxL
  rw [List.take_add_one, h]; simp
theorem max_bd {l : List Int} (h : ∀ x ∈ l, U32 x) : 0 ≤ maxL l ∧ maxL l ≤ 4294967295 := by
  constructor
  · have := (foldl_le (M := maxL l) l 0).1 (Int.le_refl _); exact this.1
  · exact (foldl_le l 0).2 ⟨by decide, fun x hx => by have := (h x hx).2; omega⟩
def fitB (r : Reg) (l : List Int) : Bool := (List.range l.length).all fun j => decide (l.getD j 0 ≤ Bv.mask r.w)
theorem mem_getD {l : List Int} {j : Nat} (h : j < l.length) : l.getD j 0 ∈ l := by
  rw [List.getD_eq_getElem?_getD, List.getElem?_eq_getElem h]; exact List.getElem_mem h
theorem fit_iff {r : Reg} {l : List Int} : fitB r l = true ↔ ∀ x ∈ l, x ≤ Bv.mask r.w := by
  unfold fitB
  rw [List.all_eq_true]
  constructor
  · intro h x hx
    obtain ⟨j, hj, rfl⟩ := List.mem_iff_getElem.1 hx
    have := h j (List.mem_range.2 hj)
    rw [List.getD_eq_getElem?_getD, List.getElem?_eq_getElem hj] at this
    exact of_decide_eq_true this
  · intro h j hj
    exact decide_eq_true (h _ (mem_getD (List.mem_range.1 hj)))
theorem fit_max {r : Reg} {l : List Int} : fitB r l = decide (maxL l ≤ Bv.mask r.w) := by
  rw [Bool.eq_iff_iff, fit_iff, decide_eq_true_iff]
  unfold maxL
  rw [foldl_le]
  exact ⟨fun h => ⟨(Bv.mask_bd r.w).1, h⟩, fun h => h.2⟩
theorem fit_nil {r : Reg} : fitB r [] = true := rfl
def lensB (rs : List Reg) (ls : List (List Int)) : Bool := (List.range ls.length).all fun i => decide (((ls.getD i []).length : Int) = (rs.getD i z).s)
def fitsB (rs : List Reg) (ls : List (List Int)) : Bool := (List.range ls.length).all fun i => fitB (rs.getD i z) (ls.getD i [])
def cc (rs : List Reg) (ls : List (List Int)) : Int := if ls.length = rs.length then (if lensB rs ls then (if fitsB rs ls then 0 else 9) else 2) else 2
theorem all_no {p : Nat → Bool} {n k : Nat} (hk : k < n) (h : p k = false) : (List.range n).all p = false := by
  rw [← Bool.not_eq_true, List.all_eq_true]
  intro ha
  have := ha k (List.mem_range.2 hk)
  rw [h] at this; cases this
theorem all_yes {p : Nat → Bool} {n : Nat} (h : ∀ j, j < n → p j = true) : (List.range n).all p = true :=
  List.all_eq_true.2 fun j hj => h j (List.mem_range.1 hj)
def has (rs : List Reg) (ls : List (List Int)) (r i : Int) : Bool := decide (0 ≤ r) && (decide (r < rs.length) && (decide (r < ls.length) && (decide (i < (rs.getD r.toNat z).s) && decide (i < ((ls.getD r.toNat []).length : Int)))))
def read (rs : List Reg) (ls : List (List Int)) (r i : Int) : Int := if has rs ls r i then (ls.getD r.toNat []).getD i.toNat 0 else 0
theorem has_in {rs : List Reg} {ls : List (List Int)} {k : Nat} {i : Int} {g : Reg} {l : List Int} (h1 : rs[k]? = some g) (h2 : ls[k]? = some l) : has rs ls k i = (decide (i < g.s) && decide (i < (l.length : Int))) := by
  have e1 := (List.getElem?_eq_some_iff.1 h1).1
  have e2 := (List.getElem?_eq_some_iff.1 h2).1
  unfold has
  rw [Int.toNat_natCast, List.getD_eq_getElem?_getD, List.getD_eq_getElem?_getD, h1, h2, decide_eq_true (by omega : (0 : Int) ≤ k), decide_eq_true (by omega : (k : Int) < rs.length), decide_eq_true (by omega : (k : Int) < ls.length)]
  simp
theorem has_out {rs : List Reg} {ls : List (List Int)} {r i : Int} (h : r < 0 ∨ (rs.length : Int) ≤ r ∨ (ls.length : Int) ≤ r) : has rs ls r i = false := by
  unfold has
  rcases h with h | h | h
  · rw [decide_eq_false (by omega : ¬ (0 : Int) ≤ r)]; rfl
  · rw [decide_eq_false (by omega : ¬ r < rs.length)]; simp
  · rw [decide_eq_false (by omega : ¬ r < ls.length)]; simp
theorem has_get {rs : List Reg} {ls : List (List Int)} {r i : Int} (h : has rs ls r i = true) (hi : 0 ≤ i) : ∃ (k n : Nat) (g : Reg) (l : List Int) (x : Int), r = k ∧ i = n ∧ rs[k]? = some g ∧ ls[k]? = some l ∧ l[n]? = some x ∧ (n : Int) < g.s ∧ k < rs.length ∧ k < ls.length ∧ n < l.length ∧ read rs ls r i = x := by
  have h0 := h
  unfold has at h
  simp only [Bool.and_eq_true, decide_eq_true_eq] at h
  obtain ⟨g1, g2, g3, g4, g5⟩ := h
  obtain ⟨k, rfl⟩ := Int.eq_ofNat_of_zero_le g1
  obtain ⟨n, rfl⟩ := Int.eq_ofNat_of_zero_le hi
  have e1 : k < rs.length := by omega
  have e2 : k < ls.length := by omega
  have q1 : rs.getD k z = rs[k] := by rw [List.getD_eq_getElem?_getD, List.getElem?_eq_getElem e1]; rfl
  have q2 : ls.getD k [] = ls[k] := by rw [List.getD_eq_getElem?_getD, List.getElem?_eq_getElem e2]; rfl
  rw [Int.toNat_natCast, q1] at g4
  rw [Int.toNat_natCast, q2] at g5
  have e3 : n < ls[k].length := by omega
  refine ⟨k, n, rs[k], ls[k], ls[k][n], rfl, rfl, List.getElem?_eq_getElem e1, List.getElem?_eq_getElem e2, List.getElem?_eq_getElem e3, g4, e1, e2, e3, ?_⟩
  unfold read
  rw [if_pos h0, Int.toNat_natCast, Int.toNat_natCast, q2, List.getD_eq_getElem?_getD, List.getElem?_eq_getElem e3]; rfl
def tooB (rs : List Reg) (ls : List (List Int)) : Bool := decide (8 < rs.length) || (decide (8 < ls.length) || !((List.range ls.length).all fun i => decide ((ls.getD i []).length ≤ 100)))
theorem too_1 {rs : List Reg} {ls : List (List Int)} (h : 8 < rs.length) : tooB rs ls = true := by unfold tooB; rw [decide_eq_true h]; rfl
theorem too_2 {rs : List Reg} {ls : List (List Int)} (h : 8 < ls.length) : tooB rs ls = true := by unfold tooB; rw [decide_eq_true h]; simp
theorem too_3 {rs : List Reg} {ls : List (List Int)} (h1 : rs.length ≤ 8) (h2 : ls.length ≤ 8) : tooB rs ls = !((List.range ls.length).all fun i => decide ((ls.getD i []).length ≤ 100)) := by
  unfold tooB; rw [decide_eq_false (by omega), decide_eq_false (by omega)]; rfl
end Rg

set_option maxRecDepth 8000 in
theorem max_any {W : World} {v : Value} {l : List Int} (hn : Ns .u32 W v l) (hu : ∀ x ∈ l, U32 x) (h0 : 0 < l.length) :
    Calls Try.prog 58 #[v] W (Rets W (.int .u32 (Rg.maxL l))) := by
  obtain ⟨oa, ca, rfl⟩ := ns_slice hn
  have ma := hn.2
  unfold maxLen at ma
  have HN := Lib.hid hn
  have HU := Lib.hid hu
  obtain ⟨x0, hx0⟩ : ∃ x, l[0]? = some x := ⟨_, List.getElem?_eq_getElem h0⟩
  obtain ⟨b1, o1, rfl, c1⟩ := ns_at hn h0
  have f0 := c1 0 x0 hx0
  rw [Nat.add_zero] at f0
  have hm0 : Rg.maxL (l.take 1) = x0 := by
    have h2 := Rg.max_take hx0
    have h3 := (hu x0 (List.mem_of_getElem? hx0)).1
    rw [show 0 + 1 = 1 from rfl] at h2
    rw [h2]; simp [Rg.maxL]; omega
  have HM0 := Lib.hid hm0
  have HC1 := Lib.hid c1
  clear hn hu c1 hx0 hm0
  go_enter Try.func58, Try.ntmps58
  go_wp2_with fail
  go_loopw [3, 4] (fun m i wr => ∃ k : Nat, 1 ≤ k ∧ k ≤ l.length ∧ i = .int .i64 k ∧ m = .int .u32 (Rg.maxL (l.take k)) ∧ wr = W) (fun _ i _ => l.length - (intOf i).toNat)
  case atStart => exact ⟨1, Nat.le_refl _, h0, rfl, by rw [HM0.out], rfl⟩
  case round =>
    obtain ⟨k, hk1, hk, rfl, rfl, rfl⟩ := hrel
    by_cases hlt : k < l.length
    · obtain ⟨x, hxk⟩ : ∃ x, l[k]? = some x := ⟨_, List.getElem?_eq_getElem hlt⟩
      have f1 := HC1.out k x hxk
      have hs := Rg.max_take hxk
      obtain ⟨M, hM⟩ : ∃ M, M = Rg.maxL (l.take k) := ⟨_, rfl⟩
      rw [← hM] at hs ⊢
      have HS := Lib.hid hs
      clear hs hM hxk
      go_wp2_with fail
      go_roundw
      case rel => exact ⟨k + 1, by omega, by omega, by go_num, by rw [HS.out]; refine congrArg _ ?_; split <;> omega, (by first | exact rfl | trivial)⟩
      case measure => simp [intOf]; omega
    · obtain rfl : k = l.length := by omega
      go_wp2_with fail
      go_ret
      exact ⟨ret_int (by rw [List.take_length]), grows⟩
set_option maxRecDepth 8000 in
theorem cc_any {W : World} {s : ByteArray} {a1 a2 a3 a4 a5 a6 a7 a8 : Option Addr} {n1 m1 n2 m2 m3 n4 m4 n5 m5 n6 m6 n7 m7 n8 m8 : Nat} {rs : List Rg.Reg} (hr : Rows W 3 Rg.RegR (.slice a3 rs.length m3) rs) {v : Value} {ls : List (List Int)} (hl : Rows W 1 RowR v ls) :
    Calls Try.prog 33 #[.agg #[.string s, .slice a1 n1 m1, .slice a2 n2 m2, .slice a3 rs.length m3, .slice a4 n4 m4, .slice a5 n5 m5, .slice a6 n6 m6, .slice a7 n7 m7, .slice a8 n8 m8], v] W (Rets W (.int .i64 (Rg.cc rs ls))) := by
  obtain ⟨lo, lc, rfl, la, ma⟩ := hl.slice
  obtain ⟨_, _, he, lb, mb⟩ := hr.slice
  simp only [Value.slice.injEq, true_and] at he
  obtain ⟨rfl, rfl⟩ := he
  unfold maxLen at ma mb
  have HL := Lib.hid hl
  have HR := Lib.hid hr
  clear hl hr
  have bb := alloc_heap W (.cells #[.string s, .slice a1 n1 m1, .slice a2 n2 m2, .slice a3 rs.length m3, .slice a4 n4 m4, .slice a5 n5 m5, .slice a6 n6 m6, .slice a7 n7 m7, .slice a8 n8 m8] 76)
  have p0 := alw (cell_of (o := 0) bb)
  have p1 := alw (cell_of (o := 1) bb)
  have p2 := alw (cell_of (o := 2) bb)
  have p3 := alw (cell_of (o := 3) bb)
  have p4 := alw (cell_of (o := 4) bb)
  have p5 := alw (cell_of (o := 5) bb)
  have p6 := alw (cell_of (o := 6) bb)
  have p7 := alw (cell_of (o := 7) bb)
  have p8 := alw (cell_of (o := 8) bb)
  clear bb
  by_cases h1 : ls.length = rs.length
  · have hle : ls.length ≤ rs.length := by omega
    have hne : ((ls.length : Int) != (rs.length : Int)) = false := by simp [h1]
    have HLN := Lib.hid h1
    clear h1
    go_enter Try.func33, Try.ntmps33
    go_wp2_with fail
    go_loopw [17] (fun i wr => ∃ k : Nat, k ≤ ls.length ∧ i = .int .i64 k ∧ wr = W.alloc (.cells #[.string s, .slice a1 n1 m1, .slice a2 n2 m2, .slice a3 rs.length m3, .slice a4 n4 m4, .slice a5 n5 m5, .slice a6 n6 m6, .slice a7 n7 m7, .slice a8 n8 m8] 76) ∧ Hid (∀ j, j < k → decide (((ls.getD j []).length : Int) = (rs.getD j Rg.z).s) = true)) (fun i _ => ls.length - (intOf i).toNat)
    case atStart => exact ⟨0, Nat.zero_le _, rfl, rfl, Lib.hid (by intro j hj; omega)⟩
    case round =>
      obtain ⟨k, hk, rfl, rfl, HZ⟩ := hrel
      by_cases hlt : k < ls.length
      · have hlt2 : k < rs.length := by omega
        obtain ⟨l, hlk⟩ : ∃ x, ls[k]? = some x := ⟨_, List.getElem?_eq_getElem hlt⟩
        obtain ⟨g, hgk⟩ : ∃ y, rs[k]? = some y := ⟨_, List.getElem?_eq_getElem hlt2⟩
        obtain ⟨b1, o1, hb1, _, _⟩ := Rows.at HL.out (by omega)
        obtain ⟨b2, o2, hb2, _, _⟩ := Rows.at HR.out (by omega)
        subst hb1 hb2
        obtain ⟨la1, lc1, f1, n1, _⟩ := rows_at HL.out k l hlk rfl
        obtain ⟨_, _, f2, _, _, q1, q2⟩ := regs_at HR.out k g hgk rfl
        have m1 := n1.2
        unfold maxLen at m1
        have hga : ls.getD k [] = l := by rw [List.getD_eq_getElem?_getD, hlk]; rfl
        have hgb : rs.getD k Rg.z = g := by rw [List.getD_eq_getElem?_getD, hgk]; rfl
        have HGA := Lib.hid hga
        have HGB := Lib.hid hgb
        clear hlk hgk hga hgb n1
        by_cases he : (l.length : Int) = g.s
        · have heb : ((l.length : Int) != g.s) = false := by simp [he]
          have HE := Lib.hid he
          clear he
          go_wp2_with fail
          go_roundw
          case rel =>
            refine ⟨k + 1, by omega, by go_num, (by first | exact rfl | trivial), Lib.hid (fun j hj => ?_)⟩
            rcases Nat.lt_or_ge j k with h1 | h1
            · exact HZ.out j h1
            · obtain rfl : j = k := by omega
              rw [HGA.out, HGB.out]; exact decide_eq_true HE.out
          case measure => simp [intOf]; omega
        · have heb : ((l.length : Int) != g.s) = true := by simp [he]
          have HE := Lib.hid he
          clear he
          go_wp2_with fail
          go_ret
          exact ⟨ret_int (by unfold Rg.cc; rw [if_pos HLN.out, show Rg.lensB rs ls = false from Rg.all_no hlt (by rw [HGA.out, HGB.out]; exact decide_eq_false HE.out)]; rfl), grows⟩
      · obtain rfl : k = ls.length := by omega
        have HLB : Hid (Rg.lensB rs ls = true) := Lib.hid (Rg.all_yes HZ.out)
        clear HZ
        go_wp2_with fail
        go_loopw [34] (fun i wr => ∃ k : Nat, k ≤ ls.length ∧ i = .int .i64 k ∧ Ext (W.alloc (.cells #[.string s, .slice a1 n1 m1, .slice a2 n2 m2, .slice a3 rs.length m3, .slice a4 n4 m4, .slice a5 n5 m5, .slice a6 n6 m6, .slice a7 n7 m7, .slice a8 n8 m8] 76)) wr ∧ Hid (∀ j, j < k → Rg.fitB (rs.getD j Rg.z) (ls.getD j []) = true)) (fun i _ => ls.length - (intOf i).toNat)
        case atStart => exact ⟨0, Nat.zero_le _, rfl, Ext.refl _, Lib.hid (by intro j hj; omega)⟩
        case round =>
          obtain ⟨k, hk, rfl, hx, HZ⟩ := hrel
          have sx := Step.mk hx
          by_cases hlt : k < ls.length
          · have hlt2 : k < rs.length := by omega
            obtain ⟨l, hlk⟩ : ∃ x, ls[k]? = some x := ⟨_, List.getElem?_eq_getElem hlt⟩
            obtain ⟨g, hgk⟩ : ∃ y, rs[k]? = some y := ⟨_, List.getElem?_eq_getElem hlt2⟩
            obtain ⟨b1, o1, hb1, _, _⟩ := Rows.at HL.out (by omega)
            obtain ⟨b2, o2, hb2, _, _⟩ := Rows.at HR.out (by omega)
            subst hb1 hb2
            obtain ⟨la1, lc1, f1, n1, u1⟩ := rows_at HL.out k l hlk rfl
            obtain ⟨_, f3, _, _, q1, q2⟩ := regs_at HR.out k g hgk rfl
            have m1 := n1.2
            unfold maxLen at m1
            have hga : ls.getD k [] = l := by rw [List.getD_eq_getElem?_getD, hlk]; rfl
            have hgb : rs.getD k Rg.z = g := by rw [List.getD_eq_getElem?_getD, hgk]; rfl
            have HGA := Lib.hid hga
            have HGB := Lib.hid hgb
            clear hlk hgk hga hgb
            by_cases h0 : 0 < l.length
            · obtain ⟨X, hX⟩ : ∃ X, X = Rg.maxL l := ⟨_, rfl⟩
              obtain ⟨M, hM⟩ : ∃ M, M = Bv.mask g.w := ⟨_, rfl⟩
              have HMX : Hid (∀ w, Ext W w → Calls Try.prog 58 #[.slice la1 l.length lc1] w (Rets w (.int .u32 X))) := Lib.hid (fun w hw => by have h := max_any (n1.ext hw) u1 h0; rw [← hX] at h; exact h)
              have HMK : Hid (∀ w, Calls Try.prog 41 #[.int .i64 g.w] w (Rets w (.int .u32 M))) := Lib.hid (fun w => by have h := mask_any g.w w; rw [← hM] at h; exact h)
              have HFX : Hid (Rg.fitB g l = decide (X ≤ M)) := Lib.hid (by rw [hX, hM]; exact Rg.fit_max)
              have d1 : decide ((0 : Int) < (l.length : Int)) = true := decide_eq_true (by omega)
              have d2 : decide (0 < l.length) = true := decide_eq_true h0
              clear n1 u1 hX hM
              by_cases hle : X ≤ M
              · have d3 : decide (M < X) = false := decide_eq_false (by omega)
                go_wp2_with fail
                refine wp_region_later (by kernel_rfl) (by kernel_rfl) (Ext.refl _) ?_
                repeat (go_big_quiet_step (first | (go_at_call 58; exact Rets.later_at (HMX.out _ grows)) | (go_at_call 41; exact Rets.later_at (HMK.out _))))
                refine wpQuiet_nil ?_
                intro w1 hxw1
                have sw1 := Step.mk hxw1
                go_wp2_with fail
                go_roundw
                case rel =>
                  refine ⟨k + 1, by omega, by go_num, by exact hx.trans hxw1, Lib.hid (fun j hj => ?_)⟩
                  rcases Nat.lt_or_ge j k with h1 | h1
                  · exact HZ.out j h1
                  · obtain rfl : j = k := by omega
                    rw [HGA.out, HGB.out, HFX.out]; exact decide_eq_true hle
                case measure => simp [intOf]; omega
              · have d3 : decide (M < X) = true := decide_eq_true (by omega)
                go_wp2_with fail
                refine wp_region_later (by kernel_rfl) (by kernel_rfl) (Ext.refl _) ?_
                repeat (go_big_quiet_step (first | (go_at_call 58; exact Rets.later_at (HMX.out _ grows)) | (go_at_call 41; exact Rets.later_at (HMK.out _))))
                refine wpQuiet_nil ?_
                intro w1 hxw1
                have sw1 := Step.mk hxw1
                go_wp2_with fail
                go_ret
                exact ⟨ret_int (by unfold Rg.cc; rw [if_pos HLN.out, HLB.out, show Rg.fitsB rs ls = false from Rg.all_no hlt (by rw [HGA.out, HGB.out, HFX.out]; exact decide_eq_false (by omega))]; rfl), grows⟩
            · have d1 : decide ((0 : Int) < (l.length : Int)) = false := decide_eq_false (by omega)
              have d2 : decide (0 < l.length) = false := decide_eq_false h0
              have HNL : Hid (l = []) := Lib.hid (List.length_eq_zero_iff.1 (by omega))
              clear n1 u1
              go_wp2_with fail
              refine wp_region_later (by kernel_rfl) (by kernel_rfl) (Ext.refl _) ?_
              repeat (go_big_quiet_step (fail))
              refine wpQuiet_nil ?_
              intro w1 hxw1
              have sw1 := Step.mk hxw1
              go_wp2_with fail
              go_roundw
              case rel =>
                refine ⟨k + 1, by omega, by go_num, by exact hx.trans hxw1, Lib.hid (fun j hj => ?_)⟩
                rcases Nat.lt_or_ge j k with h1 | h1
                · exact HZ.out j h1
                · obtain rfl : j = k := by omega
                  rw [HGA.out, HGB.out, HNL.out]; exact Rg.fit_nil
              case measure => simp [intOf]; omega
          · obtain rfl : k = ls.length := by omega
            go_wp2_with fail
            go_ret
            exact ⟨ret_int (by unfold Rg.cc; rw [if_pos HLN.out, HLB.out, show Rg.fitsB rs ls = true from Rg.all_yes HZ.out]; rfl), grows⟩
  · have hne : ((ls.length : Int) != (rs.length : Int)) = true := by simp; omega
    have HLN := Lib.hid h1
    clear h1
    go_enter Try.func33, Try.ntmps33
    go_wp2_with fail
    go_ret
    exact ⟨ret_int (by unfold Rg.cc; rw [if_neg HLN.out]), grows⟩
end Go.Proofs.Ytnmamcplbeiehaa
