/- Registers: Write and its reference, walked. No condition. -/
import Derived.Test.YtnmamcplbeiehaaRg8
namespace Go.Proofs.Ytnmamcplbeiehaa
open Go.RowKit

namespace Rg
def write (rs : List Reg) (ls : List (List Int)) (r i x : Int) : List (List Int) := if has rs ls r i && Bv.ok (rs.getD r.toNat z).w then ls.set r.toNat ((ls.getD r.toNat []).set i.toNat (Bv.red x (rs.getD r.toNat z).w)) else ls
theorem write_no {rs : List Reg} {ls : List (List Int)} {r i x : Int} (h : has rs ls r i = false) : write rs ls r i x = ls := by unfold write; rw [h]; rfl
theorem write_zero {rs : List Reg} {ls : List (List Int)} {k : Nat} {i x : Int} {g : Reg} (hg : rs[k]? = some g) (h : Bv.ok g.w = false) : write rs ls k i x = ls := by
  unfold write
  rw [Int.toNat_natCast, List.getD_eq_getElem?_getD, hg, Option.getD_some, h]; simp
theorem write_yes {rs : List Reg} {ls : List (List Int)} {k n : Nat} {x : Int} {g : Reg} {l : List Int} (h : has rs ls k n = true) (hg : rs[k]? = some g) (hl : ls[k]? = some l) (hk : Bv.ok g.w = true) : write rs ls k n x = ls.set k (l.set n (Bv.red x g.w)) := by
  unfold write
  rw [h, Int.toNat_natCast, Int.toNat_natCast, List.getD_eq_getElem?_getD, List.getD_eq_getElem?_getD, hg, hl, Option.getD_some, Option.getD_some, hk]; rfl
theorem red_bd {x w : Int} : U32 (Bv.red x w) := Bv.red_bd x w
end Rg
theorem Tab.cellAt {B : Nat} {w : World} {v : Value} {vs : List Value} {ls : List (List Int)} (h : Tab B w v vs ls) {k n : Nat} {l : List Int} {y : Int} (hl : ls[k]? = some l) (hy : l[n]? = some y) :
    ∃ G c g2 c2, v = .slice (some ⟨G, 0, none⟩) ls.length c ∧ vs[k]? = some (.slice (some ⟨g2, 0, none⟩) l.length c2) ∧ (∀ w' [Grows w w'], w'.cell? ⟨G, k, none⟩ = some (.slice (some ⟨g2, 0, none⟩) l.length c2)) ∧
      (∀ w' [Grows w w'], w'.cell? ⟨g2, n, none⟩ = some (.int .u32 y)) ∧ (∀ w' [Grows w w'], w'.frozen? ⟨g2, n, none⟩ = false) ∧ B ≤ g2 ∧ g2 < w.heap.size ∧ c ≤ maxLen ∧ c2 ≤ maxLen ∧ ls.length ≤ c ∧ l.length ≤ c2 := by
  have hh := h
  have hk := (List.getElem?_eq_some_iff.1 hl).1
  have hn := (List.getElem?_eq_some_iff.1 hy).1
  obtain ⟨u, hu, ho, hU⟩ := h.row hl
  obtain ⟨G, c, rfl, g1, g2, g3, g4, g5, g6⟩ := own_cell h.2.1 (by intro e; rw [e] at hu; simp at hu)
  obtain ⟨q, c2, rfl, q1, q2, q3, q4, q5, q6⟩ := own_cell ho (by intro e; rw [List.map_eq_nil_iff] at e; subst e; simp at hy)
  obtain ⟨cur, hG, _⟩ := own_heap ho (k := q) rfl
  exact ⟨G, c, q, c2, rfl, hu, alw (g5 k _ hu), alw (q5 n _ (by simp [hy])), alwF hG, q1, q2, g4, q4, g3, q3⟩

set_option maxRecDepth 8000 in
set_option maxHeartbeats 4000000 in
theorem write_any {W : World} {s : ByteArray} {a1 a2 a3 a4 a5 a6 a7 a8 : Option Addr} {n1 m1 n2 m2 m3 n4 m4 n5 m5 n6 m6 n7 m7 n8 m8 : Nat} {rs : List Rg.Reg} (hr : Rows W 3 Rg.RegR (.slice a3 rs.length m3) rs) {v : Value} {ls : List (List Int)} (hl : Rows W 1 RowR v ls) (h8 : ls.length ≤ 8) (h100 : ∀ l ∈ ls, l.length ≤ 1000) (r i x : Int) (hi0 : 0 ≤ i) (hi1 : i < 4294967296) (hx0 : 0 ≤ x) (hx1 : x < 4294967296) :
    Calls Try.prog 38 #[.agg #[.string s, .slice a1 n1 m1, .slice a2 n2 m2, .slice a3 rs.length m3, .slice a4 n4 m4, .slice a5 n5 m5, .slice a6 n6 m6, .slice a7 n7 m7, .slice a8 n8 m8], v, .int .i64 r, .int .u32 i, .int .u32 x] W (TabP W (Rg.write rs ls r i x)) := by
  obtain ⟨lo, lc, rfl, la, ma⟩ := hl.slice
  obtain ⟨_, _, he, lb, mb⟩ := hr.slice
  simp only [Value.slice.injEq, true_and] at he
  obtain ⟨rfl, rfl⟩ := he
  unfold maxLen at ma mb
  have HL := Lib.hid hl
  have HR := Lib.hid hr
  clear hl hr
  have bb := alloc_heap W (.cells #[.string s, .slice a1 n1 m1, .slice a2 n2 m2, .slice a3 rs.length m3, .slice a4 n4 m4, .slice a5 n5 m5, .slice a6 n6 m6, .slice a7 n7 m7, .slice a8 n8 m8] 76)
  have p0 := alw (cell_of (o := 0) bb)
  have p1 := alw (cell_of (o := 1) bb)
  have p2 := alw (cell_of (o := 2) bb)
  have p3 := alw (cell_of (o := 3) bb)
  have p4 := alw (cell_of (o := 4) bb)
  have p5 := alw (cell_of (o := 5) bb)
  have p6 := alw (cell_of (o := 6) bb)
  have p7 := alw (cell_of (o := 7) bb)
  have p8 := alw (cell_of (o := 8) bb)
  clear bb
  have HDUP : Hid (∀ w, Ext W w → Calls Try.prog 65 #[.slice lo ls.length lc] w (TabP w ls)) := Lib.hid (fun w hx => dup_any (HL.out.ext (fun _ _ h => h.ext hx) hx) h8 h100)
  clear h100
  cases hb : Rg.has rs ls r i with
  | false =>
    have HH : Hid (∀ w, Ext W w → Calls Try.prog 63 #[.agg #[.string s, .slice a1 n1 m1, .slice a2 n2 m2, .slice a3 rs.length m3, .slice a4 n4 m4, .slice a5 n5 m5, .slice a6 n6 m6, .slice a7 n7 m7, .slice a8 n8 m8, .slice lo ls.length lc], .int .i64 r, .int .u32 i] w (Rets w (.bool false))) := Lib.hid (fun w hx => by have h := has_any (s := s) (a1 := a1) (n1 := n1) (m1 := m1) (a2 := a2) (n2 := n2) (m2 := m2) (a4 := a4) (n4 := n4) (m4 := m4) (a5 := a5) (n5 := n5) (m5 := m5) (a6 := a6) (n6 := n6) (m6 := m6) (a7 := a7) (n7 := n7) (m7 := m7) (a8 := a8) (n8 := n8) (m8 := m8) (HR.out.ext (fun _ _ h => h.ext hx) hx) (HL.out.ext (fun _ _ h => h.ext hx) hx) r i hi0 hi1; rw [hb] at h; exact h)
    have HF := Lib.hid (Rg.write_no (x := x) hb)
    clear hb
    go_enter Try.func38, Try.ntmps38
    go_wp2_with fail
    refine (HDUP.out _ grows).mono ?_
    rintro e w2 ⟨v2, vs, rfl, x2, t2⟩
    have s2 := Step.mk x2
    have T2 := Lib.hid t2
    obtain ⟨oa2, oc2, rfl⟩ := tab_slice t2
    clear t2
    go_wp2_with fail
    refine (HH.out _ grows).mono ?_
    rintro e w3 ⟨rfl, x3⟩
    have s3 := Step.mk x3
    go_wp2_with fail
    go_ret
    rw [HF.out]
    exact tab_ret grows ((T2.out.ext (grows (a := w2))).base (by rw [World.size_alloc]; omega))
  | true =>
    obtain ⟨k, n, g, l, y, rfl, rfl, hgk, hlk, hyn, h1, h2, h3, h4, h5⟩ := Rg.has_get hb hi0
    have HH : Hid (∀ w, Ext W w → Calls Try.prog 63 #[.agg #[.string s, .slice a1 n1 m1, .slice a2 n2 m2, .slice a3 rs.length m3, .slice a4 n4 m4, .slice a5 n5 m5, .slice a6 n6 m6, .slice a7 n7 m7, .slice a8 n8 m8, .slice lo ls.length lc], .int .i64 k, .int .u32 n] w (Rets w (.bool true))) := Lib.hid (fun w hx => by have h := has_any (s := s) (a1 := a1) (n1 := n1) (m1 := m1) (a2 := a2) (n2 := n2) (m2 := m2) (a4 := a4) (n4 := n4) (m4 := m4) (a5 := a5) (n5 := n5) (m5 := m5) (a6 := a6) (n6 := n6) (m6 := m6) (a7 := a7) (n7 := n7) (m7 := m7) (a8 := a8) (n8 := n8) (m8 := m8) (HR.out.ext (fun _ _ h => h.ext hx) hx) (HL.out.ext (fun _ _ h => h.ext hx) hx) k n hi0 hi1; rw [hb] at h; exact h)
    obtain ⟨b2, o2, hb2, _, _⟩ := Rows.at HR.out (by omega)
    subst hb2
    obtain ⟨f3, f4, f5, q3, q1, q2⟩ := regs_at HR.out k g hgk rfl
    cases hk : Bv.ok g.w with
    | false =>
      have HF := Lib.hid (Rg.write_zero (ls := ls) (i := n) (x := x) hgk hk)
      have hz := Rg.mask_zero.2 hk
      have HM : Hid (∀ w, Calls Try.prog 41 #[.int .i64 g.w] w (Rets w (.int .u32 0))) := Lib.hid (fun w => by have h := mask_any g.w w; rw [hz] at h; exact h)
      clear hb hgk hlk hyn h5 hk hz f5 q3
      go_enter Try.func38, Try.ntmps38
      go_wp2_with fail
      refine (HDUP.out _ grows).mono ?_
      rintro e w2 ⟨v2, vs, rfl, x2, t2⟩
      have s2 := Step.mk x2
      have T2 := Lib.hid t2
      obtain ⟨oa2, oc2, rfl⟩ := tab_slice t2
      clear t2
      go_wp2_with fail
      refine (HH.out _ grows).mono ?_
      rintro e w3 ⟨rfl, x3⟩
      have s3 := Step.mk x3
      go_wp2_with fail
      refine (HM.out _).mono ?_
      rintro e w4 ⟨rfl, x4⟩
      have s4 := Step.mk x4
      go_wp2_with fail
      go_ret
      rw [HF.out]
      exact tab_ret grows ((T2.out.ext (grows (a := w2))).base (by rw [World.size_alloc]; omega))
    | true =>
      have HF := Lib.hid (Rg.write_yes (x := x) hb hgk hlk hk)
      obtain ⟨M, hM⟩ : ∃ M, M = Bv.mask g.w := ⟨_, rfl⟩
      have hM0 : 0 < M := by
        have h6 : ¬ Bv.mask g.w = 0 := by rw [Rg.mask_zero, hk]; decide
        have h7 := (Bv.mask_bd g.w).1
        omega
      have hM1 : M < 4294967296 := by rw [hM]; exact (Bv.mask_bd g.w).2
      have HM : Hid (∀ w, Calls Try.prog 41 #[.int .i64 g.w] w (Rets w (.int .u32 M))) := Lib.hid (fun w => by have h := mask_any g.w w; rw [← hM] at h; exact h)
      have HAM : Hid (bits .and .u32 x M = Bv.red x g.w) := Lib.hid (by rw [hM]; exact Bv.and_mask hx0 hx1)
      have d1 : decide (0 < M) = true := decide_eq_true hM0
      have HLK := Lib.hid hlk
      have HYN := Lib.hid hyn
      clear hb hgk hlk hyn h5 hk hM f5 q3
      go_enter Try.func38, Try.ntmps38
      go_wp2_with fail
      refine (HDUP.out _ grows).mono ?_
      rintro e w2 ⟨v2, vs, rfl, x2, t2⟩
      have s2 := Step.mk x2
      have T2 := Lib.hid t2
      obtain ⟨G, oc2, g2, c2, rfl, hvk, z1, z2, z3, z4, z5, z6, z7, z8, z9⟩ := t2.cellAt HLK.out HYN.out
      unfold maxLen at z6 z7
      have HVK := Lib.hid hvk
      clear t2 hvk
      go_wp2_with fail
      refine (HH.out _ grows).mono ?_
      rintro e w3 ⟨rfl, x3⟩
      have s3 := Step.mk x3
      go_wp2_with fail
      refine (HM.out _).mono ?_
      rintro e w4 ⟨rfl, x4⟩
      have s4 := Step.mk x4
      go_wp2_with fail
      refine wp_region_later_tail 15 (by kernel_rfl) (by kernel_rfl) (Ext.refl _) ?_
      simp only [List.take_succ_cons, List.take_zero, List.drop_succ_cons, List.drop_zero]
      repeat (go_big_quiet_step (first | (go_at_call 41; exact Rets.later_at (HM.out _))))
      refine wpQuiet_nil ?_
      intro w5 x5
      have s5 := Step.mk x5
      have gr : Ext w2 w5 := grows
      have gw : Ext W w5 := grows
      have h := Tab.setCell (j := n) (x := Bv.red x g.w) (T2.out.ext gr) HVK.out HLK.out Rg.red_bd
      go_wp2_with fail
      go_ret
      rw [HF.out, HAM.out]
      exact tab_ret (Ext.setCell gw (by rw [World.size_alloc] at z4; show W.heap.size ≤ g2; omega) _) (h.base (by rw [World.size_alloc]; omega))
end Go.Proofs.Ytnmamcplbeiehaa
