/- Registers: equal lists of values and equal tables, walked. No condition. -/
import Derived.Test.YtnmamcplbeiehaaRg1
namespace Go.Proofs.Ytnmamcplbeiehaa
open Go.RowKit

namespace Rg
theorem eq_of {α : Type} {d : α} {a b : List α} (hl : a.length = b.length) (h : ∀ j, j < a.length → a.getD j d = b.getD j d) : a = b := by
  apply List.ext_getElem? ; intro i
  rcases Nat.lt_or_ge i a.length with h1 | h1
  · have := h i h1
    rw [List.getD_eq_getElem?_getD, List.getD_eq_getElem?_getD, List.getElem?_eq_getElem h1, List.getElem?_eq_getElem (by omega)] at this
    rw [List.getElem?_eq_getElem h1, List.getElem?_eq_getElem (by omega)]
    simpa using this
  · rw [List.getElem?_eq_none h1, List.getElem?_eq_none (by omega)]
end Rg
set_option maxRecDepth 8000 in
theorem sleq_any {W : World} {v u : Value} {a b : List Int} (ha : Ns .u32 W v a) (hb : Ns .u32 W u b) :
    Calls Try.prog 62 #[v, u] W (Rets W (.bool (decide (a = b)))) := by
  obtain ⟨oa, ca, rfl⟩ := ns_slice ha
  obtain ⟨ob, cb, rfl⟩ := ns_slice hb
  have ma := ha.2
  have mb := hb.2
  unfold maxLen at ma mb
  have HA := Lib.hid ha
  have HB := Lib.hid hb
  clear ha hb
  by_cases hl : a.length = b.length
  · have hle : a.length ≤ b.length := by omega
    have hge : b.length ≤ a.length := by omega
    have hne : ((a.length : Int) != (b.length : Int)) = false := by simp [hl]
    have HL := Lib.hid hl
    clear hl
    go_enter Try.func62, Try.ntmps62
    go_wp2_with fail
    go_loopw [13] (fun i wr => ∃ k : Nat, k ≤ a.length ∧ i = .int .i64 k ∧ Ext W wr ∧ Hid (∀ j, j < k → a.getD j 0 = b.getD j 0)) (fun i _ => a.length - (intOf i).toNat)
    case atStart => exact ⟨0, Nat.zero_le _, rfl, Ext.refl _, Lib.hid (by intro j hj; omega)⟩
    case round =>
      obtain ⟨k, hk, rfl, hx, HZ⟩ := hrel
      have sx := Step.mk hx
      by_cases hlt : k < a.length
      · have hlt2 : k < b.length := by omega
        obtain ⟨x, hxk⟩ : ∃ x, a[k]? = some x := ⟨_, List.getElem?_eq_getElem hlt⟩
        obtain ⟨y, hyk⟩ : ∃ y, b[k]? = some y := ⟨_, List.getElem?_eq_getElem hlt2⟩
        obtain ⟨b1, o1, rfl, c1⟩ := ns_at HA.out (by omega)
        obtain ⟨b2, o2, rfl, c2⟩ := ns_at HB.out (by omega)
        have f1 := c1 k x hxk
        have f2 := c2 k y hyk
        have hga : a.getD k 0 = x := by rw [List.getD_eq_getElem?_getD, hxk]; rfl
        have hgb : b.getD k 0 = y := by rw [List.getD_eq_getElem?_getD, hyk]; rfl
        have HGA := Lib.hid hga
        have HGB := Lib.hid hgb
        clear c1 c2 hxk hyk hga hgb
        by_cases hxy : x = y
        · have hb1 : (x != y) = false := by simp [hxy]
          have HXY := Lib.hid hxy
          clear hxy
          go_wp2_with fail
          refine wp_region_later (by kernel_rfl) (by kernel_rfl) (Ext.refl _) ?_
          repeat (go_big_quiet_step (fail))
          refine wpQuiet_nil ?_
          intro w1 hxw1
          have sw1 := Step.mk hxw1
          go_wp2_with fail
          go_roundw
          case rel =>
            refine ⟨k + 1, by omega, by go_num, by exact hx.trans hxw1, Lib.hid (fun j hj => ?_)⟩
            rcases Nat.lt_or_ge j k with h1 | h1
            · exact HZ.out j h1
            · obtain rfl : j = k := by omega
              rw [HGA.out, HGB.out, HXY.out]
          case measure => simp [intOf]; omega
        · have hb1 : (x != y) = true := by simp [hxy]
          have HXY := Lib.hid hxy
          clear hxy
          go_wp2_with fail
          refine wp_region_later (by kernel_rfl) (by kernel_rfl) (Ext.refl _) ?_
          repeat (go_big_quiet_step (fail))
          refine wpQuiet_nil ?_
          intro w1 hxw1
          have sw1 := Step.mk hxw1
          go_wp2_with fail
          go_ret
          exact ⟨ret_bool (decide_eq_false (fun e => HXY.out (by rw [← HGA.out, ← HGB.out, e]))).symm, grows⟩
      · obtain rfl : k = a.length := by omega
        go_wp2_with fail
        go_ret
        exact ⟨ret_bool (decide_eq_true (Rg.eq_of HL.out HZ.out)).symm, grows⟩
  · have hne : ((a.length : Int) != (b.length : Int)) = true := by simp; omega
    have HL := Lib.hid hl
    clear hl
    go_enter Try.func62, Try.ntmps62
    go_wp2_with fail
    go_ret
    exact ⟨ret_bool (decide_eq_false (fun e => HL.out (by rw [e]))).symm, grows⟩
set_option maxRecDepth 8000 in
theorem eqvals_any {W : World} {v u : Value} {a b : List Int} (ha : Ns .u32 W v a) (hb : Ns .u32 W u b) :
    Calls Try.prog 57 #[v, u] W (Rets W (.bool (decide (a = b)))) := by
  obtain ⟨oa, ca, rfl⟩ := ns_slice ha
  obtain ⟨ob, cb, rfl⟩ := ns_slice hb
  have ma := ha.2
  have mb := hb.2
  unfold maxLen at ma mb
  have HA := Lib.hid ha
  have HB := Lib.hid hb
  clear ha hb
  by_cases hl : a.length = b.length
  · have hle : a.length ≤ b.length := by omega
    have hge : b.length ≤ a.length := by omega
    have hne : ((a.length : Int) != (b.length : Int)) = false := by simp [hl]
    have HL := Lib.hid hl
    clear hl
    go_enter Try.func57, Try.ntmps57
    go_wp2_with fail
    go_loopw [5] (fun i wr => ∃ k : Nat, k ≤ a.length ∧ i = .int .i64 k ∧ Ext W wr ∧ Hid (∀ j, j < k → a.getD j 0 = b.getD j 0)) (fun i _ => a.length - (intOf i).toNat)
    case atStart => exact ⟨0, Nat.zero_le _, rfl, Ext.refl _, Lib.hid (by intro j hj; omega)⟩
    case round =>
      obtain ⟨k, hk, rfl, hx, HZ⟩ := hrel
      have sx := Step.mk hx
      by_cases hlt : k < a.length
      · have hlt2 : k < b.length := by omega
        obtain ⟨x, hxk⟩ : ∃ x, a[k]? = some x := ⟨_, List.getElem?_eq_getElem hlt⟩
        obtain ⟨y, hyk⟩ : ∃ y, b[k]? = some y := ⟨_, List.getElem?_eq_getElem hlt2⟩
        obtain ⟨b1, o1, rfl, c1⟩ := ns_at HA.out (by omega)
        obtain ⟨b2, o2, rfl, c2⟩ := ns_at HB.out (by omega)
        have f1 := c1 k x hxk
        have f2 := c2 k y hyk
        have hga : a.getD k 0 = x := by rw [List.getD_eq_getElem?_getD, hxk]; rfl
        have hgb : b.getD k 0 = y := by rw [List.getD_eq_getElem?_getD, hyk]; rfl
        have HGA := Lib.hid hga
        have HGB := Lib.hid hgb
        clear c1 c2 hxk hyk hga hgb
        by_cases hxy : x = y
        · have hb1 : (x != y) = false := by simp [hxy]
          have HXY := Lib.hid hxy
          clear hxy
          go_wp2_with fail
          refine wp_region_later (by kernel_rfl) (by kernel_rfl) (Ext.refl _) ?_
          repeat (go_big_quiet_step (fail))
          refine wpQuiet_nil ?_
          intro w1 hxw1
          have sw1 := Step.mk hxw1
          go_wp2_with fail
          go_roundw
          case rel =>
            refine ⟨k + 1, by omega, by go_num, by exact hx.trans hxw1, Lib.hid (fun j hj => ?_)⟩
            rcases Nat.lt_or_ge j k with h1 | h1
            · exact HZ.out j h1
            · obtain rfl : j = k := by omega
              rw [HGA.out, HGB.out, HXY.out]
          case measure => simp [intOf]; omega
        · have hb1 : (x != y) = true := by simp [hxy]
          have HXY := Lib.hid hxy
          clear hxy
          go_wp2_with fail
          refine wp_region_later (by kernel_rfl) (by kernel_rfl) (Ext.refl _) ?_
          repeat (go_big_quiet_step (fail))
          refine wpQuiet_nil ?_
          intro w1 hxw1
          have sw1 := Step.mk hxw1
          go_wp2_with fail
          go_ret
          exact ⟨ret_bool (decide_eq_false (fun e => HXY.out (by rw [← HGA.out, ← HGB.out, e]))).symm, grows⟩
      · obtain rfl : k = a.length := by omega
        go_wp2_with fail
        go_ret
        exact ⟨ret_bool (decide_eq_true (Rg.eq_of HL.out HZ.out)).symm, grows⟩
  · have hne : ((a.length : Int) != (b.length : Int)) = true := by simp; omega
    have HL := Lib.hid hl
    clear hl
    go_enter Try.func57, Try.ntmps57
    go_wp2_with fail
    go_ret
    exact ⟨ret_bool (decide_eq_false (fun e => HL.out (by rw [e]))).symm, grows⟩
set_option maxRecDepth 8000 in
theorem eqrow_any {W : World} {v u : Value} {a b : List Int} (ha : Ns .u32 W v a) (hb : Ns .u32 W u b) :
    Calls Try.prog 61 #[v, u] W (Rets W (.bool (decide (a = b)))) := by
  obtain ⟨oa, ca, rfl⟩ := ns_slice ha
  obtain ⟨ob, cb, rfl⟩ := ns_slice hb
  have HA := Lib.hid ha
  have HB := Lib.hid hb
  clear ha hb
  go_enter Try.func61, Try.ntmps61
  go_wp2_with fail
  refine (sleq_any HA.out HB.out).mono ?_
  rintro e w1 ⟨rfl, x1⟩
  have s1 := Step.mk x1
  go_wp2_with fail
  go_ret
  exact ⟨rfl, grows⟩
set_option maxRecDepth 8000 in
theorem eqfunc_any {W : World} {v u : Value} {a b : List (List Int)} (ha : Rows W 1 RowR v a) (hb : Rows W 1 RowR u b) :
    Calls Try.prog 60 #[v, u, .func (.func 61) #[] #[]] W (Rets W (.bool (decide (a = b)))) := by
  obtain ⟨oa, ca, rfl, la, ma⟩ := ha.slice
  obtain ⟨ob, cb, rfl, lb, mb⟩ := hb.slice
  unfold maxLen at ma mb
  have HA := Lib.hid ha
  have HB := Lib.hid hb
  clear ha hb
  by_cases hl : a.length = b.length
  · have hle : a.length ≤ b.length := by omega
    have hge : b.length ≤ a.length := by omega
    have hne : ((a.length : Int) != (b.length : Int)) = false := by simp [hl]
    have HL := Lib.hid hl
    clear hl
    go_enter Try.func60, Try.ntmps60
    go_wp2_with fail
    go_loopw [17] (fun i wr => ∃ k : Nat, k ≤ a.length ∧ i = .int .i64 k ∧ Ext W wr ∧ Hid (∀ j, j < k → a.getD j [] = b.getD j [])) (fun i _ => a.length - (intOf i).toNat)
    case atStart => exact ⟨0, Nat.zero_le _, rfl, Ext.refl _, Lib.hid (by intro j hj; omega)⟩
    case round =>
      obtain ⟨k, hk, rfl, hx, HZ⟩ := hrel
      have sx := Step.mk hx
      by_cases hlt : k < a.length
      · have hlt2 : k < b.length := by omega
        obtain ⟨x, hxk⟩ : ∃ x, a[k]? = some x := ⟨_, List.getElem?_eq_getElem hlt⟩
        obtain ⟨y, hyk⟩ : ∃ y, b[k]? = some y := ⟨_, List.getElem?_eq_getElem hlt2⟩
        obtain ⟨b1, o1, hb1, _, _⟩ := Rows.at HA.out (by omega)
        obtain ⟨b2, o2, hb2, _, _⟩ := Rows.at HB.out (by omega)
        subst hb1 hb2
        obtain ⟨la1, lc1, f1, n1, _⟩ := rows_at HA.out k x hxk rfl
        obtain ⟨la2, lc2, f2, n2, _⟩ := rows_at HB.out k y hyk rfl
        have hga : a.getD k [] = x := by rw [List.getD_eq_getElem?_getD, hxk]; rfl
        have hgb : b.getD k [] = y := by rw [List.getD_eq_getElem?_getD, hyk]; rfl
        have HGA := Lib.hid hga
        have HGB := Lib.hid hgb
        obtain ⟨q, hq⟩ : ∃ q, q = decide (x = y) := ⟨_, rfl⟩
        have HEQ : Hid (∀ w, Ext W w → Calls Try.prog 61 #[.slice la1 x.length lc1, .slice la2 y.length lc2] w (Rets w (.bool q))) := Lib.hid (fun w hw => by have h := eqrow_any (n1.ext hw) (n2.ext hw); rw [← hq] at h; exact h)
        have HQ := Lib.hid hq
        clear hxk hyk hga hgb hq n1 n2
        cases q with
        | true =>
          go_wp2_with fail
          refine (HEQ.out _ grows).mono ?_
          rintro e w1 ⟨rfl, hxw1⟩
          have sw1 := Step.mk hxw1
          go_wp2_with fail
          go_roundw
          case rel =>
            refine ⟨k + 1, by omega, by go_num, by exact hx.trans hxw1, Lib.hid (fun j hj => ?_)⟩
            rcases Nat.lt_or_ge j k with h1 | h1
            · exact HZ.out j h1
            · obtain rfl : j = k := by omega
              rw [HGA.out, HGB.out, of_decide_eq_true HQ.out.symm]
          case measure => simp [intOf]; omega
        | false =>
          go_wp2_with fail
          refine (HEQ.out _ grows).mono ?_
          rintro e w1 ⟨rfl, hxw1⟩
          have sw1 := Step.mk hxw1
          go_wp2_with fail
          go_ret
          exact ⟨ret_bool (decide_eq_false (fun e => of_decide_eq_false HQ.out.symm (by rw [← HGA.out, ← HGB.out, e]))).symm, grows⟩
      · obtain rfl : k = a.length := by omega
        go_wp2_with fail
        go_ret
        exact ⟨ret_bool (decide_eq_true (Rg.eq_of HL.out HZ.out)).symm, grows⟩
  · have hne : ((a.length : Int) != (b.length : Int)) = true := by simp; omega
    have HL := Lib.hid hl
    clear hl
    go_enter Try.func60, Try.ntmps60
    go_wp2_with fail
    go_ret
    exact ⟨ret_bool (decide_eq_false (fun e => HL.out (by rw [e]))).symm, grows⟩
set_option maxRecDepth 8000 in
theorem refequal_any {W : World} {v u : Value} {a b : List (List Int)} (ha : Rows W 1 RowR v a) (hb : Rows W 1 RowR u b) :
    Calls Try.prog 30 #[v, u] W (Rets W (.bool (decide (a = b)))) := by
  obtain ⟨oa, ca, rfl, la, ma⟩ := ha.slice
  obtain ⟨ob, cb, rfl, lb, mb⟩ := hb.slice
  unfold maxLen at ma mb
  have HA := Lib.hid ha
  have HB := Lib.hid hb
  clear ha hb
  by_cases hl : a.length = b.length
  · have hle : a.length ≤ b.length := by omega
    have hge : b.length ≤ a.length := by omega
    have hne : ((a.length : Int) != (b.length : Int)) = false := by simp [hl]
    have HL := Lib.hid hl
    clear hl
    go_enter Try.func30, Try.ntmps30
    go_wp2_with fail
    go_loopw [5] (fun i wr => ∃ k : Nat, k ≤ a.length ∧ i = .int .i64 k ∧ Ext W wr ∧ Hid (∀ j, j < k → a.getD j [] = b.getD j [])) (fun i _ => a.length - (intOf i).toNat)
    case atStart => exact ⟨0, Nat.zero_le _, rfl, Ext.refl _, Lib.hid (by intro j hj; omega)⟩
    case round =>
      obtain ⟨k, hk, rfl, hx, HZ⟩ := hrel
      have sx := Step.mk hx
      by_cases hlt : k < a.length
      · have hlt2 : k < b.length := by omega
        obtain ⟨x, hxk⟩ : ∃ x, a[k]? = some x := ⟨_, List.getElem?_eq_getElem hlt⟩
        obtain ⟨y, hyk⟩ : ∃ y, b[k]? = some y := ⟨_, List.getElem?_eq_getElem hlt2⟩
        obtain ⟨b1, o1, hb1, _, _⟩ := Rows.at HA.out (by omega)
        obtain ⟨b2, o2, hb2, _, _⟩ := Rows.at HB.out (by omega)
        subst hb1 hb2
        obtain ⟨la1, lc1, f1, n1, _⟩ := rows_at HA.out k x hxk rfl
        obtain ⟨la2, lc2, f2, n2, _⟩ := rows_at HB.out k y hyk rfl
        have hga : a.getD k [] = x := by rw [List.getD_eq_getElem?_getD, hxk]; rfl
        have hgb : b.getD k [] = y := by rw [List.getD_eq_getElem?_getD, hyk]; rfl
        have HGA := Lib.hid hga
        have HGB := Lib.hid hgb
        obtain ⟨q, hq⟩ : ∃ q, q = decide (x = y) := ⟨_, rfl⟩
        have HEQ : Hid (∀ w, Ext W w → Calls Try.prog 57 #[.slice la1 x.length lc1, .slice la2 y.length lc2] w (Rets w (.bool q))) := Lib.hid (fun w hw => by have h := eqvals_any (n1.ext hw) (n2.ext hw); rw [← hq] at h; exact h)
        have HQ := Lib.hid hq
        clear hxk hyk hga hgb hq n1 n2
        cases q with
        | true =>
          go_wp2_with fail
          refine wp_region_later (by kernel_rfl) (by kernel_rfl) (Ext.refl _) ?_
          repeat (go_big_quiet_step (first | (go_at_call 57; exact Rets.later_at (HEQ.out _ grows))))
          refine wpQuiet_nil ?_
          intro w1 hxw1
          have sw1 := Step.mk hxw1
          go_wp2_with fail
          go_roundw
          case rel =>
            refine ⟨k + 1, by omega, by go_num, by exact hx.trans hxw1, Lib.hid (fun j hj => ?_)⟩
            rcases Nat.lt_or_ge j k with h1 | h1
            · exact HZ.out j h1
            · obtain rfl : j = k := by omega
              rw [HGA.out, HGB.out, of_decide_eq_true HQ.out.symm]
          case measure => simp [intOf]; omega
        | false =>
          go_wp2_with fail
          refine wp_region_later (by kernel_rfl) (by kernel_rfl) (Ext.refl _) ?_
          repeat (go_big_quiet_step (first | (go_at_call 57; exact Rets.later_at (HEQ.out _ grows))))
          refine wpQuiet_nil ?_
          intro w1 hxw1
          have sw1 := Step.mk hxw1
          go_wp2_with fail
          go_ret
          exact ⟨ret_bool (decide_eq_false (fun e => of_decide_eq_false HQ.out.symm (by rw [← HGA.out, ← HGB.out, e]))).symm, grows⟩
      · obtain rfl : k = a.length := by omega
        go_wp2_with fail
        go_ret
        exact ⟨ret_bool (decide_eq_true (Rg.eq_of HL.out HZ.out)).symm, grows⟩
  · have hne : ((a.length : Int) != (b.length : Int)) = true := by simp; omega
    have HL := Lib.hid hl
    clear hl
    go_enter Try.func30, Try.ntmps30
    go_wp2_with fail
    go_ret
    exact ⟨ret_bool (decide_eq_false (fun e => HL.out (by rw [e]))).symm, grows⟩
set_option maxRecDepth 8000 in
theorem equal_any {W : World} {v u : Value} {a b : List (List Int)} (ha : Rows W 1 RowR v a) (hb : Rows W 1 RowR u b) :
    Calls Try.prog 35 #[v, u] W (Rets W (.bool (decide (a = b)))) := by
  obtain ⟨oa, ca, rfl, la, ma⟩ := ha.slice
  obtain ⟨ob, cb, rfl, lb, mb⟩ := hb.slice
  have HA := Lib.hid ha
  have HB := Lib.hid hb
  clear ha hb
  go_enter Try.func35, Try.ntmps35
  go_wp2_with fail
  refine (eqfunc_any HA.out HB.out).mono ?_
  rintro e w1 ⟨rfl, x1⟩
  have s1 := Step.mk x1
  go_wp2_with fail
  go_ret
  exact ⟨rfl, grows⟩
end Go.Proofs.Ytnmamcplbeiehaa
