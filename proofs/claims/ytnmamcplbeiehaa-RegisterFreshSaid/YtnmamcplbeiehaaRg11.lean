/- Registers: the example of the chapter, walked. No condition. -/
import Derived.Test.YtnmamcplbeiehaaRg10
namespace Go.Proofs.Ytnmamcplbeiehaa
open Go.RowKit

theorem rows_one {α : Type} {w : World} {B sz : Nat} {t : TypeId} {f : Nat × Nat} {R : World → List Value → α → Prop} {a : α} (u : List Value) (hu : u.length = sz) (ha : R w u a) (hb : w.heap[B]? = some (.cells u.toArray t f)) :
    Rows w sz R (.slice (some ⟨B, 0, none⟩) 1 1) [a] :=
  .inr ⟨⟨B, 0, none⟩, 1, rfl, Nat.le_refl _, by unfold maxLen; omega, fun _ => rfl, fun i d hi => by
    match i, hi with
    | 0, hi =>
      simp only [List.getElem?_cons_zero, Option.some.injEq] at hi
      subst hi
      refine ⟨u, hu, ha, fun j x hj => ?_⟩
      rw [cell_of hb, List.getElem?_toArray, Nat.zero_add, Nat.zero_mul, Nat.zero_add, hj]
    | i + 1, hi => simp at hi⟩
theorem ns_new {w : World} {B c : Nat} {t : TypeId} {f : Nat × Nat} {k : IntKind} (l : List Int) (hb : w.heap[B]? = some (.cells (l.map (Value.int k)).toArray t f)) (h2 : l.length ≤ maxLen) : Ns k w (.slice (some ⟨B, 0, none⟩) l.length c) l :=
  ⟨⟨by simp, by intro u hu; simp at hu; obtain ⟨x, _, rfl⟩ := hu; rfl, .inr ⟨⟨B, 0, none⟩, c, rfl, fun j u hj => by
    rw [show (⟨B, 0, none⟩ : Addr).add j = ⟨B, j, none⟩ by simp [Addr.add]; exact fun h => h.symm]
    rw [cell_of hb, List.getElem?_toArray, hj]⟩⟩, h2⟩
/-- a literal of one row of three values, laid behind a world -/
theorem lit_rows (w : World) (a b c : Int) (ha : U32 a) (hb : U32 b) (hc : U32 c) : Rows ((w.alloc (.cells #[.int .u32 a, .int .u32 b, .int .u32 c] 23)).alloc (.cells #[.slice (some ⟨w.heap.size, 0, none⟩) 3 3] 90)) 1 RowR (.slice (some ⟨w.heap.size + 1, 0, none⟩) 1 1) [[a, b, c]] := by
  have h1 := alloc_heap w (.cells #[.int .u32 a, .int .u32 b, .int .u32 c] 23)
  have h2 := alloc_heap (w.alloc (.cells #[.int .u32 a, .int .u32 b, .int .u32 c] 23)) (.cells #[.slice (some ⟨w.heap.size, 0, none⟩) 3 3] 90)
  rw [World.size_alloc] at h2
  refine rows_one [.slice (some ⟨w.heap.size, 0, none⟩) 3 3] rfl ⟨_, rfl, ns_new [a, b, c] (((Ext.refl _).alloc _).heap h1) (by show 3 ≤ maxLen; decide), ?_⟩ h2
  intro x hx
  simp only [List.mem_cons, List.not_mem_nil, or_false] at hx
  rcases hx with rfl | rfl | rfl
  · exact ha
  · exact hb
  · exact hc
namespace Rg
def rs0 : List Reg := [⟨⟨#[114]⟩, 4, 3⟩]
theorem k_new : new rs0 = [[0, 0, 0]] := by decide +kernel
theorem k_w1 : write rs0 [[0, 0, 0]] 0 1 31 = [[0, 15, 0]] := by decide +kernel
theorem k_w2 : write rs0 [[0, 15, 0]] 0 3 1 = [[0, 15, 0]] := by decide +kernel
theorem k_rd : read rs0 [[0, 15, 0]] 0 1 = 15 := by decide +kernel
theorem k_ck : chk ⟨⟨#[114]⟩, 4, 3⟩ = 0 := by decide +kernel
theorem k_cc : cc rs0 [] = 2 := by decide +kernel
end Rg

set_option maxRecDepth 8000 in
set_option maxHeartbeats 4000000 in
theorem rworks_any (W : World) : Calls Try.prog 26 #[] W (Rets W (.bool true)) := by
  have hr1 := alloc_heap W (.cells #[.string ⟨#[114]⟩, .int .i64 4, .int .i64 3] 64)
  have hr := hr1
  have R0 := alw (cell_of (o := 0) hr)
  have R1 := alw (cell_of (o := 1) hr)
  have R2 := alw (cell_of (o := 2) hr)
  have bb := alloc_heap (W.alloc (.cells #[.string ⟨#[114]⟩, .int .i64 4, .int .i64 3] 64)) (.cells #[.string ⟨#[]⟩, .slice none 0 0, .slice none 0 0, .slice (some ⟨W.heap.size, 0, none⟩) 1 1, .slice none 0 0, .slice none 0 0, .slice none 0 0, .slice none 0 0, .slice none 0 0] 76)
  rw [World.size_alloc] at bb
  have P0 := alw (cell_of (o := 0) bb)
  have P1 := alw (cell_of (o := 1) bb)
  have P2 := alw (cell_of (o := 2) bb)
  have P3 := alw (cell_of (o := 3) bb)
  have P4 := alw (cell_of (o := 4) bb)
  have P5 := alw (cell_of (o := 5) bb)
  have P6 := alw (cell_of (o := 6) bb)
  have P7 := alw (cell_of (o := 7) bb)
  have P8 := alw (cell_of (o := 8) bb)
  have hrows : Rows (W.alloc (.cells #[.string ⟨#[114]⟩, .int .i64 4, .int .i64 3] 64)) 3 Rg.RegR (.slice (some ⟨W.heap.size, 0, none⟩) Rg.rs0.length 1) Rg.rs0 := rows_one [.string ⟨#[114]⟩, .int .i64 4, .int .i64 3] rfl ⟨rfl, by decide, ⟨by decide, by decide⟩, ⟨by decide, by decide⟩⟩ hr1
  have HR := Lib.hid hrows
  have HNEW : Hid (∀ w, Ext (W.alloc (.cells #[.string ⟨#[114]⟩, .int .i64 4, .int .i64 3] 64)) w → Calls Try.prog 31 #[.agg #[.string ⟨#[]⟩, .slice none 0 0, .slice none 0 0, .slice (some ⟨W.heap.size, 0, none⟩) 1 1, .slice none 0 0, .slice none 0 0, .slice none 0 0, .slice none 0 0, .slice none 0 0]] w (TabP w [[0, 0, 0]])) := Lib.hid (fun w hx => by have h := new_any (s := ⟨#[]⟩) (a1 := none) (n1 := 0) (m1 := 0) (a2 := none) (n2 := 0) (m2 := 0) (a4 := none) (n4 := 0) (m4 := 0) (a5 := none) (n5 := 0) (m5 := 0) (a6 := none) (n6 := 0) (m6 := 0) (a7 := none) (n7 := 0) (m7 := 0) (a8 := none) (n8 := 0) (m8 := 0) (HR.out.ext (fun _ _ h => h.ext hx) hx) (by decide); rw [Rg.k_new] at h; exact h)
  have HWR : Hid (∀ w, Ext (W.alloc (.cells #[.string ⟨#[114]⟩, .int .i64 4, .int .i64 3] 64)) w → ∀ oa n oc (ls : List (List Int)), Rows w 1 RowR (.slice oa n oc) ls → ls.length ≤ 8 → (∀ l ∈ ls, l.length ≤ 1000) → ∀ (i x : Int), 0 ≤ i → i < 4294967296 → 0 ≤ x → x < 4294967296 → Calls Try.prog 38 #[.agg #[.string ⟨#[]⟩, .slice none 0 0, .slice none 0 0, .slice (some ⟨W.heap.size, 0, none⟩) 1 1, .slice none 0 0, .slice none 0 0, .slice none 0 0, .slice none 0 0, .slice none 0 0], .slice oa n oc, .int .i64 0, .int .u32 i, .int .u32 x] w (TabP w (Rg.write Rg.rs0 ls 0 i x))) := Lib.hid (fun w hx oa n oc ls hl h8 h100 i x hi0 hi1 hx0 hx1 => by have h := write_any (s := ⟨#[]⟩) (a1 := none) (n1 := 0) (m1 := 0) (a2 := none) (n2 := 0) (m2 := 0) (a4 := none) (n4 := 0) (m4 := 0) (a5 := none) (n5 := 0) (m5 := 0) (a6 := none) (n6 := 0) (m6 := 0) (a7 := none) (n7 := 0) (m7 := 0) (a8 := none) (n8 := 0) (m8 := 0) (HR.out.ext (fun _ _ h => h.ext hx) hx) hl h8 h100 0 i x hi0 hi1 hx0 hx1; exact h)
  have HRD : Hid (∀ w, Ext (W.alloc (.cells #[.string ⟨#[114]⟩, .int .i64 4, .int .i64 3] 64)) w → ∀ oa n oc (ls : List (List Int)), Rows w 1 RowR (.slice oa n oc) ls → Calls Try.prog 36 #[.agg #[.string ⟨#[]⟩, .slice none 0 0, .slice none 0 0, .slice (some ⟨W.heap.size, 0, none⟩) 1 1, .slice none 0 0, .slice none 0 0, .slice none 0 0, .slice none 0 0, .slice none 0 0], .slice oa n oc, .int .i64 0, .int .u32 1] w (Rets w (.int .u32 (Rg.read Rg.rs0 ls 0 1)))) := Lib.hid (fun w hx oa n oc ls hl => by have h := read_any (s := ⟨#[]⟩) (a1 := none) (n1 := 0) (m1 := 0) (a2 := none) (n2 := 0) (m2 := 0) (a4 := none) (n4 := 0) (m4 := 0) (a5 := none) (n5 := 0) (m5 := 0) (a6 := none) (n6 := 0) (m6 := 0) (a7 := none) (n7 := 0) (m7 := 0) (a8 := none) (n8 := 0) (m8 := 0) (HR.out.ext (fun _ _ h => h.ext hx) hx) hl 0 1 (by decide) (by decide); exact h)
  have HCC : Hid (∀ w, Ext (W.alloc (.cells #[.string ⟨#[114]⟩, .int .i64 4, .int .i64 3] 64)) w → Calls Try.prog 33 #[.agg #[.string ⟨#[]⟩, .slice none 0 0, .slice none 0 0, .slice (some ⟨W.heap.size, 0, none⟩) 1 1, .slice none 0 0, .slice none 0 0, .slice none 0 0, .slice none 0 0, .slice none 0 0], .slice none 0 0] w (Rets w (.int .i64 2))) := Lib.hid (fun w hx => by have h := cc_any (s := ⟨#[]⟩) (a1 := none) (n1 := 0) (m1 := 0) (a2 := none) (n2 := 0) (m2 := 0) (a4 := none) (n4 := 0) (m4 := 0) (a5 := none) (n5 := 0) (m5 := 0) (a6 := none) (n6 := 0) (m6 := 0) (a7 := none) (n7 := 0) (m7 := 0) (a8 := none) (n8 := 0) (m8 := 0) (HR.out.ext (fun _ _ h => h.ext hx) hx) (show Rows w 1 RowR (.slice none 0 0) [] from .inl ⟨rfl, rfl⟩); rw [Rg.k_cc] at h; exact h)
  have HCK : Hid (∀ w, Calls Try.prog 27 #[.agg #[.string ⟨#[114]⟩, .int .i64 4, .int .i64 3]] w (Rets w (.int .i64 0))) := Lib.hid (fun w => by have h := rcheck_any ⟨⟨#[114]⟩, 4, 3⟩ (by decide) w; rw [Rg.k_ck] at h; exact h)
  clear hr1 hr bb hrows
  go_enter Try.func26, Try.ntmps26
  go_wp2_with fail
  refine (HNEW.out _ (grows (a := W.alloc (.cells #[.string ⟨#[114]⟩, .int .i64 4, .int .i64 3] 64)))).mono ?_
  rintro e w1 ⟨v1, vs1, rfl, x1, t1⟩
  have s1 := Step.mk x1
  obtain ⟨oa1, oc1, rfl⟩ := tab_slice t1
  have T1 := Lib.hid t1.rows
  clear t1
  go_wp2_with fail
  refine (HWR.out _ (grows (a := W.alloc (.cells #[.string ⟨#[114]⟩, .int .i64 4, .int .i64 3] 64))) _ _ _ _ T1.out (by decide) (by decide) 1 31 (by decide) (by decide) (by decide) (by decide)).mono ?_
  rw [Rg.k_w1]
  rintro e w2 ⟨v2, vs2, rfl, x2, t2⟩
  have s2 := Step.mk x2
  obtain ⟨oa2, oc2, rfl⟩ := tab_slice t2
  have T2 := Lib.hid t2.rows
  clear t2
  have HA : Hid (∀ w, Ext w2 w → Rows w 1 RowR (.slice oa1 1 oc1) [[0, 0, 0]]) := Lib.hid (fun w hx => T1.out.ext (fun _ _ h => h.ext (x2.trans hx)) (x2.trans hx))
  have HB : Hid (∀ w, Ext w2 w → Rows w 1 RowR (.slice oa2 1 oc2) [[0, 15, 0]]) := Lib.hid (fun w hx => T2.out.ext (fun _ _ h => h.ext hx) hx)
  go_wp2_with fail
  refine (equal_any (HA.out _ (grows (a := w2))) (lit_rows _ 0 0 0 ⟨by decide, by decide⟩ ⟨by decide, by decide⟩ ⟨by decide, by decide⟩)).mono ?_
  rintro e w3 ⟨rfl, x3⟩
  rw [show decide ([[(0 : Int), 0, 0]] = [[0, 0, 0]]) = true by decide]
  have s3 := Step.mk x3
  go_wp2_with fail
  refine (equal_any (HB.out _ (grows (a := w2))) (lit_rows _ 0 15 0 ⟨by decide, by decide⟩ ⟨by decide, by decide⟩ ⟨by decide, by decide⟩)).mono ?_
  rintro e w4 ⟨rfl, x4⟩
  rw [show decide ([[(0 : Int), 15, 0]] = [[0, 15, 0]]) = true by decide]
  have s4 := Step.mk x4
  go_wp2_with fail
  refine (equal_any (HA.out _ (grows (a := w2))) (HB.out _ (grows (a := w2)))).mono ?_
  rintro e w5 ⟨rfl, x5⟩
  rw [show decide ([[(0 : Int), 0, 0]] = [[0, 15, 0]]) = false by decide]
  have s5 := Step.mk x5
  go_wp2_with fail
  refine (HRD.out _ (grows (a := W.alloc (.cells #[.string ⟨#[114]⟩, .int .i64 4, .int .i64 3] 64))) _ _ _ _ (HB.out _ (grows (a := w2)))).mono ?_
  rintro e w6 ⟨rfl, x6⟩
  rw [Rg.k_rd]
  have s6 := Step.mk x6
  go_wp2_with fail
  refine (HWR.out _ (grows (a := W.alloc (.cells #[.string ⟨#[114]⟩, .int .i64 4, .int .i64 3] 64))) _ _ _ _ (HB.out _ (grows (a := w2))) (by decide) (by decide) 3 1 (by decide) (by decide) (by decide) (by decide)).mono ?_
  rw [Rg.k_w2]
  rintro e w7 ⟨v7, vs7, rfl, x7, t7⟩
  have s7 := Step.mk x7
  obtain ⟨oa7, oc7, rfl⟩ := tab_slice t7
  have T7 := Lib.hid t7.rows
  clear t7
  go_wp2_with fail
  refine (equal_any T7.out (HB.out _ (grows (a := w2)))).mono ?_
  rintro e w8 ⟨rfl, x8⟩
  rw [show decide ([[(0 : Int), 15, 0]] = [[0, 15, 0]]) = true by decide]
  have s8 := Step.mk x8
  go_wp2_with fail
  refine (HCK.out _).mono ?_
  rintro e w9 ⟨rfl, x9⟩
  have s9 := Step.mk x9
  go_wp2_with fail
  refine (HCC.out _ (grows (a := W.alloc (.cells #[.string ⟨#[114]⟩, .int .i64 4, .int .i64 3] 64)))).mono ?_
  rintro e w10 ⟨rfl, x10⟩
  have s10 := Step.mk x10
  go_wp2_with fail
  go_ret
  exact ⟨rfl, grows⟩
end Go.Proofs.Ytnmamcplbeiehaa
