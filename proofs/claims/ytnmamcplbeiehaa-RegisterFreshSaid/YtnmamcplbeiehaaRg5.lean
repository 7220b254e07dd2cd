/- Registers: has, Read and their references; TooLarge, walked. No condition. -/
import Derived.Test.YtnmamcplbeiehaaRg4
namespace Go.Proofs.Ytnmamcplbeiehaa
open Go.RowKit

set_option maxRecDepth 8000 in
theorem has_any {W : World} {s : ByteArray} {a1 a2 a3 a4 a5 a6 a7 a8 : Option Addr} {n1 m1 n2 m2 m3 n4 m4 n5 m5 n6 m6 n7 m7 n8 m8 : Nat} {rs : List Rg.Reg} (hr : Rows W 3 Rg.RegR (.slice a3 rs.length m3) rs) {lo : Option Addr} {lc : Nat} {ls : List (List Int)} (hl : Rows W 1 RowR (.slice lo ls.length lc) ls) (r i : Int) (hi0 : 0 ≤ i) (hi1 : i < 4294967296) :
    Calls Try.prog 63 #[.agg #[.string s, .slice a1 n1 m1, .slice a2 n2 m2, .slice a3 rs.length m3, .slice a4 n4 m4, .slice a5 n5 m5, .slice a6 n6 m6, .slice a7 n7 m7, .slice a8 n8 m8, .slice lo ls.length lc], .int .i64 r, .int .u32 i] W (Rets W (.bool (Rg.has rs ls r i))) := by
  obtain ⟨_, _, he, la, ma⟩ := hl.slice
  simp only [Value.slice.injEq, true_and] at he
  obtain ⟨rfl, rfl⟩ := he
  obtain ⟨_, _, he, lb, mb⟩ := hr.slice
  simp only [Value.slice.injEq, true_and] at he
  obtain ⟨rfl, rfl⟩ := he
  unfold maxLen at ma mb
  have HL := Lib.hid hl
  have HR := Lib.hid hr
  clear hl hr
  have bb := alloc_heap W (.cells #[.string s, .slice a1 n1 m1, .slice a2 n2 m2, .slice a3 rs.length m3, .slice a4 n4 m4, .slice a5 n5 m5, .slice a6 n6 m6, .slice a7 n7 m7, .slice a8 n8 m8, .slice lo ls.length lc] 117)
  have p0 := alw (cell_of (o := 0) bb)
  have p1 := alw (cell_of (o := 1) bb)
  have p2 := alw (cell_of (o := 2) bb)
  have p3 := alw (cell_of (o := 3) bb)
  have p4 := alw (cell_of (o := 4) bb)
  have p5 := alw (cell_of (o := 5) bb)
  have p6 := alw (cell_of (o := 6) bb)
  have p7 := alw (cell_of (o := 7) bb)
  have p8 := alw (cell_of (o := 8) bb)
  have p9 := alw (cell_of (o := 9) bb)
  clear bb
  by_cases h0 : r < 0
  · have HF := Lib.hid (Rg.has_out (rs := rs) (ls := ls) (i := i) (.inl h0))
    go_enter Try.func63, Try.ntmps63
    go_wp2_with fail
    go_ret
    exact ⟨ret_bool (by rw [HF.out]), grows⟩
  · obtain ⟨k, rfl⟩ := Int.eq_ofNat_of_zero_le (show 0 ≤ r by omega)
    by_cases h1 : k < rs.length
    · by_cases h2 : k < ls.length
      · obtain ⟨l, hlk⟩ : ∃ x, ls[k]? = some x := ⟨_, List.getElem?_eq_getElem h2⟩
        obtain ⟨g, hgk⟩ : ∃ y, rs[k]? = some y := ⟨_, List.getElem?_eq_getElem h1⟩
        obtain ⟨b1, o1, hb1, _, _⟩ := Rows.at HL.out (by omega)
        obtain ⟨b2, o2, hb2, _, _⟩ := Rows.at HR.out (by omega)
        subst hb1 hb2
        obtain ⟨la1, lc1, f1, n1, u1⟩ := rows_at HL.out k l hlk rfl
        obtain ⟨f3, f4, f5, q3, q1, q2⟩ := regs_at HR.out k g hgk rfl
        have m1 := n1.2
        unfold maxLen at m1
        have HF := Lib.hid (Rg.has_in (i := i) hgk hlk)
        clear hlk hgk n1 u1
        by_cases h3 : i < g.s
        · by_cases h4 : i < (l.length : Int)
          · have d1 : decide (i < g.s) = true := decide_eq_true h3
            have d2 : decide (i < (l.length : Int)) = true := decide_eq_true h4
            go_enter Try.func63, Try.ntmps63
            go_wp2_with fail
            go_ret
            exact ⟨ret_bool (by rw [HF.out, d1, d2]; rfl), grows⟩
          · have d1 : decide (i < g.s) = true := decide_eq_true h3
            have d2 : decide (i < (l.length : Int)) = false := decide_eq_false h4
            go_enter Try.func63, Try.ntmps63
            go_wp2_with fail
            go_ret
            exact ⟨ret_bool (by rw [HF.out, d1, d2]; rfl), grows⟩
        · have d1 : decide (i < g.s) = false := decide_eq_false h3
          go_enter Try.func63, Try.ntmps63
          go_wp2_with fail
          go_ret
          exact ⟨ret_bool (by rw [HF.out, d1]; rfl), grows⟩
      · have HF := Lib.hid (Rg.has_out (rs := rs) (ls := ls) (r := k) (i := i) (.inr (.inr (by omega))))
        go_enter Try.func63, Try.ntmps63
        go_wp2_with fail
        go_ret
        exact ⟨ret_bool (by rw [HF.out]), grows⟩
    · have HF := Lib.hid (Rg.has_out (rs := rs) (ls := ls) (r := k) (i := i) (.inr (.inl (by omega))))
      go_enter Try.func63, Try.ntmps63
      go_wp2_with fail
      go_ret
      exact ⟨ret_bool (by rw [HF.out]), grows⟩
set_option maxRecDepth 8000 in
theorem cell_any {W : World} {s : ByteArray} {a1 a2 a3 a4 a5 a6 a7 a8 : Option Addr} {n1 m1 n2 m2 m3 n4 m4 n5 m5 n6 m6 n7 m7 n8 m8 : Nat} {rs : List Rg.Reg} (hr : Rows W 3 Rg.RegR (.slice a3 rs.length m3) rs) {lo : Option Addr} {lc : Nat} {ls : List (List Int)} (hl : Rows W 1 RowR (.slice lo ls.length lc) ls) (r i : Int) (hi0 : 0 ≤ i) (hi1 : i < 4294967296) :
    Calls Try.prog 64 #[.agg #[.string s, .slice a1 n1 m1, .slice a2 n2 m2, .slice a3 rs.length m3, .slice a4 n4 m4, .slice a5 n5 m5, .slice a6 n6 m6, .slice a7 n7 m7, .slice a8 n8 m8], .slice lo ls.length lc, .int .i64 r, .int .u32 i] W (Rets W (.bool (Rg.has rs ls r i))) := by
  obtain ⟨_, _, he, la, ma⟩ := hl.slice
  simp only [Value.slice.injEq, true_and] at he
  obtain ⟨rfl, rfl⟩ := he
  obtain ⟨_, _, he, lb, mb⟩ := hr.slice
  simp only [Value.slice.injEq, true_and] at he
  obtain ⟨rfl, rfl⟩ := he
  unfold maxLen at ma mb
  have HL := Lib.hid hl
  have HR := Lib.hid hr
  clear hl hr
  have bb := alloc_heap W (.cells #[.string s, .slice a1 n1 m1, .slice a2 n2 m2, .slice a3 rs.length m3, .slice a4 n4 m4, .slice a5 n5 m5, .slice a6 n6 m6, .slice a7 n7 m7, .slice a8 n8 m8] 76)
  have p0 := alw (cell_of (o := 0) bb)
  have p1 := alw (cell_of (o := 1) bb)
  have p2 := alw (cell_of (o := 2) bb)
  have p3 := alw (cell_of (o := 3) bb)
  have p4 := alw (cell_of (o := 4) bb)
  have p5 := alw (cell_of (o := 5) bb)
  have p6 := alw (cell_of (o := 6) bb)
  have p7 := alw (cell_of (o := 7) bb)
  have p8 := alw (cell_of (o := 8) bb)
  clear bb
  by_cases h0 : r < 0
  · have HF := Lib.hid (Rg.has_out (rs := rs) (ls := ls) (i := i) (.inl h0))
    go_enter Try.func64, Try.ntmps64
    go_wp2_with fail
    go_ret
    exact ⟨ret_bool (by rw [HF.out]), grows⟩
  · obtain ⟨k, rfl⟩ := Int.eq_ofNat_of_zero_le (show 0 ≤ r by omega)
    by_cases h1 : k < rs.length
    · by_cases h2 : k < ls.length
      · obtain ⟨l, hlk⟩ : ∃ x, ls[k]? = some x := ⟨_, List.getElem?_eq_getElem h2⟩
        obtain ⟨g, hgk⟩ : ∃ y, rs[k]? = some y := ⟨_, List.getElem?_eq_getElem h1⟩
        obtain ⟨b1, o1, hb1, _, _⟩ := Rows.at HL.out (by omega)
        obtain ⟨b2, o2, hb2, _, _⟩ := Rows.at HR.out (by omega)
        subst hb1 hb2
        obtain ⟨la1, lc1, f1, n1, u1⟩ := rows_at HL.out k l hlk rfl
        obtain ⟨f3, f4, f5, q3, q1, q2⟩ := regs_at HR.out k g hgk rfl
        have m1 := n1.2
        unfold maxLen at m1
        have HF := Lib.hid (Rg.has_in (i := i) hgk hlk)
        clear hlk hgk n1 u1
        by_cases h3 : i < g.s
        · by_cases h4 : i < (l.length : Int)
          · have d1 : decide (i < g.s) = true := decide_eq_true h3
            have d2 : decide (i < (l.length : Int)) = true := decide_eq_true h4
            go_enter Try.func64, Try.ntmps64
            go_wp2_with fail
            go_ret
            exact ⟨ret_bool (by rw [HF.out, d1, d2]; rfl), grows⟩
          · have d1 : decide (i < g.s) = true := decide_eq_true h3
            have d2 : decide (i < (l.length : Int)) = false := decide_eq_false h4
            go_enter Try.func64, Try.ntmps64
            go_wp2_with fail
            go_ret
            exact ⟨ret_bool (by rw [HF.out, d1, d2]; rfl), grows⟩
        · have d1 : decide (i < g.s) = false := decide_eq_false h3
          go_enter Try.func64, Try.ntmps64
          go_wp2_with fail
          go_ret
          exact ⟨ret_bool (by rw [HF.out, d1]; rfl), grows⟩
      · have HF := Lib.hid (Rg.has_out (rs := rs) (ls := ls) (r := k) (i := i) (.inr (.inr (by omega))))
        go_enter Try.func64, Try.ntmps64
        go_wp2_with fail
        go_ret
        exact ⟨ret_bool (by rw [HF.out]), grows⟩
    · have HF := Lib.hid (Rg.has_out (rs := rs) (ls := ls) (r := k) (i := i) (.inr (.inl (by omega))))
      go_enter Try.func64, Try.ntmps64
      go_wp2_with fail
      go_ret
      exact ⟨ret_bool (by rw [HF.out]), grows⟩
set_option maxRecDepth 8000 in
theorem read_any {W : World} {s : ByteArray} {a1 a2 a3 a4 a5 a6 a7 a8 : Option Addr} {n1 m1 n2 m2 m3 n4 m4 n5 m5 n6 m6 n7 m7 n8 m8 : Nat} {rs : List Rg.Reg} (hr : Rows W 3 Rg.RegR (.slice a3 rs.length m3) rs) {v : Value} {ls : List (List Int)} (hl : Rows W 1 RowR v ls) (r i : Int) (hi0 : 0 ≤ i) (hi1 : i < 4294967296) :
    Calls Try.prog 36 #[.agg #[.string s, .slice a1 n1 m1, .slice a2 n2 m2, .slice a3 rs.length m3, .slice a4 n4 m4, .slice a5 n5 m5, .slice a6 n6 m6, .slice a7 n7 m7, .slice a8 n8 m8], v, .int .i64 r, .int .u32 i] W (Rets W (.int .u32 (Rg.read rs ls r i))) := by
  obtain ⟨lo, lc, rfl, la, ma⟩ := hl.slice
  obtain ⟨_, _, he, lb, mb⟩ := hr.slice
  simp only [Value.slice.injEq, true_and] at he
  obtain ⟨rfl, rfl⟩ := he
  unfold maxLen at ma mb
  have HL := Lib.hid hl
  have HR := Lib.hid hr
  clear hl hr
  have bb := alloc_heap W (.cells #[.string s, .slice a1 n1 m1, .slice a2 n2 m2, .slice a3 rs.length m3, .slice a4 n4 m4, .slice a5 n5 m5, .slice a6 n6 m6, .slice a7 n7 m7, .slice a8 n8 m8] 76)
  have p0 := alw (cell_of (o := 0) bb)
  have p1 := alw (cell_of (o := 1) bb)
  have p2 := alw (cell_of (o := 2) bb)
  have p3 := alw (cell_of (o := 3) bb)
  have p4 := alw (cell_of (o := 4) bb)
  have p5 := alw (cell_of (o := 5) bb)
  have p6 := alw (cell_of (o := 6) bb)
  have p7 := alw (cell_of (o := 7) bb)
  have p8 := alw (cell_of (o := 8) bb)
  clear bb
  cases hb : Rg.has rs ls r i with
  | false =>
    have HH : Hid (∀ w, Ext W w → Calls Try.prog 63 #[.agg #[.string s, .slice a1 n1 m1, .slice a2 n2 m2, .slice a3 rs.length m3, .slice a4 n4 m4, .slice a5 n5 m5, .slice a6 n6 m6, .slice a7 n7 m7, .slice a8 n8 m8, .slice lo ls.length lc], .int .i64 r, .int .u32 i] w (Rets w (.bool false))) := Lib.hid (fun w hx => by have h := has_any (s := s) (a1 := a1) (n1 := n1) (m1 := m1) (a2 := a2) (n2 := n2) (m2 := m2) (a4 := a4) (n4 := n4) (m4 := m4) (a5 := a5) (n5 := n5) (m5 := m5) (a6 := a6) (n6 := n6) (m6 := m6) (a7 := a7) (n7 := n7) (m7 := m7) (a8 := a8) (n8 := n8) (m8 := m8) (HR.out.ext (fun _ _ h => h.ext hx) hx) (HL.out.ext (fun _ _ h => h.ext hx) hx) r i hi0 hi1; rw [hb] at h; exact h)
    have HF : Hid (Rg.read rs ls r i = 0) := Lib.hid (by unfold Rg.read; rw [hb]; rfl)
    clear hb
    go_enter Try.func36, Try.ntmps36
    go_wp2_with fail
    refine (HH.out _ grows).mono ?_
    rintro e w1 ⟨rfl, x1⟩
    have s1 := Step.mk x1
    go_wp2_with fail
    go_ret
    exact ⟨ret_int (by rw [HF.out]), grows⟩
  | true =>
    obtain ⟨k, n, g, l, x, rfl, rfl, hgk, hlk, hxn, h1, h2, h3, h4, h5⟩ := Rg.has_get hb hi0
    have HH : Hid (∀ w, Ext W w → Calls Try.prog 63 #[.agg #[.string s, .slice a1 n1 m1, .slice a2 n2 m2, .slice a3 rs.length m3, .slice a4 n4 m4, .slice a5 n5 m5, .slice a6 n6 m6, .slice a7 n7 m7, .slice a8 n8 m8, .slice lo ls.length lc], .int .i64 k, .int .u32 n] w (Rets w (.bool true))) := Lib.hid (fun w hx => by have h := has_any (s := s) (a1 := a1) (n1 := n1) (m1 := m1) (a2 := a2) (n2 := n2) (m2 := m2) (a4 := a4) (n4 := n4) (m4 := m4) (a5 := a5) (n5 := n5) (m5 := m5) (a6 := a6) (n6 := n6) (m6 := m6) (a7 := a7) (n7 := n7) (m7 := m7) (a8 := a8) (n8 := n8) (m8 := m8) (HR.out.ext (fun _ _ h => h.ext hx) hx) (HL.out.ext (fun _ _ h => h.ext hx) hx) k n hi0 hi1; rw [hb] at h; exact h)
    have HF := Lib.hid h5
    obtain ⟨b1, o1, hb1, _, _⟩ := Rows.at HL.out (by omega)
    subst hb1
    obtain ⟨la1, lc1, f1, n1, u1⟩ := rows_at HL.out k l hlk rfl
    have m1 := n1.2
    unfold maxLen at m1
    obtain ⟨b3, o3, hb3, c3⟩ := ns_at n1 (by omega)
    subst hb3
    have f2 := c3 n x hxn
    clear hb hgk hlk hxn h5 n1 u1 c3
    go_enter Try.func36, Try.ntmps36
    go_wp2_with fail
    refine (HH.out _ grows).mono ?_
    rintro e w1 ⟨rfl, x1⟩
    have s1 := Step.mk x1
    go_wp2_with fail
    go_ret
    exact ⟨ret_int (by rw [HF.out]), grows⟩
set_option maxRecDepth 8000 in
theorem refread_any {W : World} {s : ByteArray} {a1 a2 a3 a4 a5 a6 a7 a8 : Option Addr} {n1 m1 n2 m2 m3 n4 m4 n5 m5 n6 m6 n7 m7 n8 m8 : Nat} {rs : List Rg.Reg} (hr : Rows W 3 Rg.RegR (.slice a3 rs.length m3) rs) {v : Value} {ls : List (List Int)} (hl : Rows W 1 RowR v ls) (r i : Int) (hi0 : 0 ≤ i) (hi1 : i < 4294967296) :
    Calls Try.prog 37 #[.agg #[.string s, .slice a1 n1 m1, .slice a2 n2 m2, .slice a3 rs.length m3, .slice a4 n4 m4, .slice a5 n5 m5, .slice a6 n6 m6, .slice a7 n7 m7, .slice a8 n8 m8], v, .int .i64 r, .int .u32 i] W (Rets W (.int .u32 (Rg.read rs ls r i))) := by
  obtain ⟨lo, lc, rfl, la, ma⟩ := hl.slice
  obtain ⟨_, _, he, lb, mb⟩ := hr.slice
  simp only [Value.slice.injEq, true_and] at he
  obtain ⟨rfl, rfl⟩ := he
  unfold maxLen at ma mb
  have HL := Lib.hid hl
  have HR := Lib.hid hr
  clear hl hr
  have bb := alloc_heap W (.cells #[.string s, .slice a1 n1 m1, .slice a2 n2 m2, .slice a3 rs.length m3, .slice a4 n4 m4, .slice a5 n5 m5, .slice a6 n6 m6, .slice a7 n7 m7, .slice a8 n8 m8] 76)
  have p0 := alw (cell_of (o := 0) bb)
  have p1 := alw (cell_of (o := 1) bb)
  have p2 := alw (cell_of (o := 2) bb)
  have p3 := alw (cell_of (o := 3) bb)
  have p4 := alw (cell_of (o := 4) bb)
  have p5 := alw (cell_of (o := 5) bb)
  have p6 := alw (cell_of (o := 6) bb)
  have p7 := alw (cell_of (o := 7) bb)
  have p8 := alw (cell_of (o := 8) bb)
  clear bb
  cases hb : Rg.has rs ls r i with
  | false =>
    have HH : Hid (∀ w, Ext W w → Calls Try.prog 64 #[.agg #[.string s, .slice a1 n1 m1, .slice a2 n2 m2, .slice a3 rs.length m3, .slice a4 n4 m4, .slice a5 n5 m5, .slice a6 n6 m6, .slice a7 n7 m7, .slice a8 n8 m8], .slice lo ls.length lc, .int .i64 r, .int .u32 i] w (Rets w (.bool false))) := Lib.hid (fun w hx => by have h := cell_any (s := s) (a1 := a1) (n1 := n1) (m1 := m1) (a2 := a2) (n2 := n2) (m2 := m2) (a4 := a4) (n4 := n4) (m4 := m4) (a5 := a5) (n5 := n5) (m5 := m5) (a6 := a6) (n6 := n6) (m6 := m6) (a7 := a7) (n7 := n7) (m7 := m7) (a8 := a8) (n8 := n8) (m8 := m8) (HR.out.ext (fun _ _ h => h.ext hx) hx) (HL.out.ext (fun _ _ h => h.ext hx) hx) r i hi0 hi1; rw [hb] at h; exact h)
    have HF : Hid (Rg.read rs ls r i = 0) := Lib.hid (by unfold Rg.read; rw [hb]; rfl)
    clear hb
    go_enter Try.func37, Try.ntmps37
    go_wp2_with fail
    refine (HH.out _ grows).mono ?_
    rintro e w1 ⟨rfl, x1⟩
    have s1 := Step.mk x1
    go_wp2_with fail
    go_ret
    exact ⟨ret_int (by rw [HF.out]), grows⟩
  | true =>
    obtain ⟨k, n, g, l, x, rfl, rfl, hgk, hlk, hxn, h1, h2, h3, h4, h5⟩ := Rg.has_get hb hi0
    have HH : Hid (∀ w, Ext W w → Calls Try.prog 64 #[.agg #[.string s, .slice a1 n1 m1, .slice a2 n2 m2, .slice a3 rs.length m3, .slice a4 n4 m4, .slice a5 n5 m5, .slice a6 n6 m6, .slice a7 n7 m7, .slice a8 n8 m8], .slice lo ls.length lc, .int .i64 k, .int .u32 n] w (Rets w (.bool true))) := Lib.hid (fun w hx => by have h := cell_any (s := s) (a1 := a1) (n1 := n1) (m1 := m1) (a2 := a2) (n2 := n2) (m2 := m2) (a4 := a4) (n4 := n4) (m4 := m4) (a5 := a5) (n5 := n5) (m5 := m5) (a6 := a6) (n6 := n6) (m6 := m6) (a7 := a7) (n7 := n7) (m7 := m7) (a8 := a8) (n8 := n8) (m8 := m8) (HR.out.ext (fun _ _ h => h.ext hx) hx) (HL.out.ext (fun _ _ h => h.ext hx) hx) k n hi0 hi1; rw [hb] at h; exact h)
    have HF := Lib.hid h5
    obtain ⟨b1, o1, hb1, _, _⟩ := Rows.at HL.out (by omega)
    subst hb1
    obtain ⟨la1, lc1, f1, n1, u1⟩ := rows_at HL.out k l hlk rfl
    have m1 := n1.2
    unfold maxLen at m1
    obtain ⟨b3, o3, hb3, c3⟩ := ns_at n1 (by omega)
    subst hb3
    have f2 := c3 n x hxn
    clear hb hgk hlk hxn h5 n1 u1 c3
    go_enter Try.func37, Try.ntmps37
    go_wp2_with fail
    refine (HH.out _ grows).mono ?_
    rintro e w1 ⟨rfl, x1⟩
    have s1 := Step.mk x1
    go_wp2_with fail
    go_ret
    exact ⟨ret_int (by rw [HF.out]), grows⟩
set_option maxRecDepth 8000 in
theorem too_any {W : World} {s : ByteArray} {a1 a2 a3 a4 a5 a6 a7 a8 : Option Addr} {n1 m1 n2 m2 m3 n4 m4 n5 m5 n6 m6 n7 m7 n8 m8 : Nat} {rs : List Rg.Reg} (hr : Rows W 3 Rg.RegR (.slice a3 rs.length m3) rs) {v : Value} {ls : List (List Int)} (hl : Rows W 1 RowR v ls) :
    Calls Try.prog 29 #[.agg #[.string s, .slice a1 n1 m1, .slice a2 n2 m2, .slice a3 rs.length m3, .slice a4 n4 m4, .slice a5 n5 m5, .slice a6 n6 m6, .slice a7 n7 m7, .slice a8 n8 m8], v] W (Rets W (.bool (Rg.tooB rs ls))) := by
  obtain ⟨lo, lc, rfl, la, ma⟩ := hl.slice
  obtain ⟨_, _, he, lb, mb⟩ := hr.slice
  simp only [Value.slice.injEq, true_and] at he
  obtain ⟨rfl, rfl⟩ := he
  unfold maxLen at ma mb
  have HL := Lib.hid hl
  have HR := Lib.hid hr
  clear hl hr
  have bb := alloc_heap W (.cells #[.string s, .slice a1 n1 m1, .slice a2 n2 m2, .slice a3 rs.length m3, .slice a4 n4 m4, .slice a5 n5 m5, .slice a6 n6 m6, .slice a7 n7 m7, .slice a8 n8 m8] 76)
  have p0 := alw (cell_of (o := 0) bb)
  have p1 := alw (cell_of (o := 1) bb)
  have p2 := alw (cell_of (o := 2) bb)
  have p3 := alw (cell_of (o := 3) bb)
  have p4 := alw (cell_of (o := 4) bb)
  have p5 := alw (cell_of (o := 5) bb)
  have p6 := alw (cell_of (o := 6) bb)
  have p7 := alw (cell_of (o := 7) bb)
  have p8 := alw (cell_of (o := 8) bb)
  clear bb
  by_cases h1 : rs.length ≤ 8
  · by_cases h2 : ls.length ≤ 8
    · have HT := Lib.hid (Rg.too_3 h1 h2)
      go_enter Try.func29, Try.ntmps29
      go_wp2_with fail
      go_loopw [5] (fun i wr => ∃ k : Nat, k ≤ ls.length ∧ i = .int .i64 k ∧ Ext (W.alloc (.cells #[.string s, .slice a1 n1 m1, .slice a2 n2 m2, .slice a3 rs.length m3, .slice a4 n4 m4, .slice a5 n5 m5, .slice a6 n6 m6, .slice a7 n7 m7, .slice a8 n8 m8] 76)) wr ∧ Hid (∀ j, j < k → decide ((ls.getD j []).length ≤ 100) = true)) (fun i _ => ls.length - (intOf i).toNat)
      case atStart => exact ⟨0, Nat.zero_le _, rfl, Ext.refl _, Lib.hid (by intro j hj; omega)⟩
      case round =>
        obtain ⟨k, hk, rfl, hx, HZ⟩ := hrel
        have sx := Step.mk hx
        by_cases hlt : k < ls.length
        · obtain ⟨l, hlk⟩ : ∃ x, ls[k]? = some x := ⟨_, List.getElem?_eq_getElem hlt⟩
          obtain ⟨b1, o1, hb1, _, _⟩ := Rows.at HL.out (by omega)
          subst hb1
          obtain ⟨la1, lc1, f1, n1, _⟩ := rows_at HL.out k l hlk rfl
          have m1 := n1.2
          unfold maxLen at m1
          have hga : ls.getD k [] = l := by rw [List.getD_eq_getElem?_getD, hlk]; rfl
          have HGA := Lib.hid hga
          clear hlk hga n1
          by_cases h3 : l.length ≤ 100
          · go_wp2_with fail
            go_roundw
            case rel =>
              refine ⟨k + 1, by omega, by go_num, by exact hx, Lib.hid (fun j hj => ?_)⟩
              rcases Nat.lt_or_ge j k with h1 | h1
              · exact HZ.out j h1
              · obtain rfl : j = k := by omega
                rw [HGA.out]; exact decide_eq_true h3
            case measure => simp [intOf]; omega
          · go_wp2_with fail
            go_ret
            exact ⟨ret_bool (by rw [HT.out, Rg.all_no hlt (by rw [HGA.out]; exact decide_eq_false (by omega))]; rfl), grows⟩
        · obtain rfl : k = ls.length := by omega
          go_wp2_with fail
          go_ret
          exact ⟨ret_bool (by rw [HT.out, Rg.all_yes HZ.out]; rfl), grows⟩
    · have HT := Lib.hid (Rg.too_2 (rs := rs) (show 8 < ls.length by omega))
      go_enter Try.func29, Try.ntmps29
      go_wp2_with fail
      go_ret
      exact ⟨ret_bool (by rw [HT.out]), grows⟩
  · have HT := Lib.hid (Rg.too_1 (ls := ls) (show 8 < rs.length by omega))
    go_enter Try.func29, Try.ntmps29
    go_wp2_with fail
    go_ret
    exact ⟨ret_bool (by rw [HT.out]), grows⟩
end Go.Proofs.Ytnmamcplbeiehaa
