/- Headers: the example of the chapter, walked. No condition. -/
import Derived.Test.YtdgepbolfflidaaHd8
import Derived.Test.YtdgepbolfflidaaHd7
import Derived.Deep.RegionHeld3
namespace Go.Proofs.Ytdgepbolfflidaa
open Go.RowKit

theorem flat_get {α β : Type} (g : α → List β) (sz : Nat) (hg : ∀ d, (g d).length = sz) : ∀ (ds : List α) (i : Nat) (d : α), ds[i]? = some d → ∀ j, j < sz → (ds.flatMap g)[i * sz + j]? = (g d)[j]?
  | [], i, d, h, _, _ => by simp at h
  | x :: ds, 0, d, h, j, hj => by
    simp only [List.getElem?_cons_zero, Option.some.injEq] at h
    subst h
    rw [List.flatMap_cons, Nat.zero_mul, Nat.zero_add, List.getElem?_append_left (by rw [hg]; exact hj)]
  | x :: ds, i + 1, d, h, j, hj => by
    simp only [List.getElem?_cons_succ] at h
    rw [List.flatMap_cons, List.getElem?_append_right (by rw [hg, Nat.succ_mul]; omega), hg, ← flat_get g sz hg ds i d h j hj]
    congr 1; rw [Nat.succ_mul]; omega
/-- a block that has just been made holds rows -/
theorem rows_new {α : Type} {w : World} {B c sz : Nat} {t : TypeId} {f : Nat × Nat} {R : World → List Value → α → Prop} (g : α → List Value) (ds : List α) (hg : ∀ d, (g d).length = sz) (hR : ∀ d ∈ ds, R w (g d) d) (hb : w.heap[B]? = some (.cells (ds.flatMap g).toArray t f)) (h1 : ds.length ≤ c) (h2 : c ≤ maxLen) :
    Rows w sz R (.slice (some ⟨B, 0, none⟩) ds.length c) ds :=
  .inr ⟨⟨B, 0, none⟩, c, rfl, h1, h2, fun _ => rfl, fun i d hi => ⟨g d, hg d, hR d (List.mem_of_getElem? hi), fun j u hj => by
    have hjs : j < sz := by rw [← hg d]; exact (List.getElem?_eq_some_iff.1 hj).1
    rw [cell_of hb, Nat.zero_add]
    have := flat_get g sz hg ds i d hi j hjs
    rw [List.getElem?_toArray, this, hj]⟩⟩
namespace Hd
def cellsF (d : Fld) : List Value := [.string d.1, .int .i64 d.2]
theorem flds_new {w : World} {B : Nat} {t : TypeId} {f : Nat × Nat} (fs : List Fld) (hR : ∀ d ∈ fs, d.1.size ≤ maxLen ∧ -9223372036854775808 ≤ d.2 ∧ d.2 ≤ 9223372036854775807) (hb : w.heap[B]? = some (.cells (fs.flatMap cellsF).toArray t f)) (h2 : fs.length ≤ maxLen) : Flds w (.slice (some ⟨B, 0, none⟩) fs.length fs.length) fs :=
  rows_new cellsF fs (fun _ => rfl) (fun d hd => ⟨rfl, hR d hd⟩) hb (Nat.le_refl _) h2
theorem flds_nil (w : World) : Flds w (.slice none 0 0) [] := .inl ⟨rfl, rfl⟩
def h0 : Hdr := (⟨#[104]⟩, [(⟨#[97]⟩, 4), (⟨#[98]⟩, 12)])
theorem k_chk : chk h0 = 0 := by decide +kernel
theorem k_bts : bts h0 = 16 := by decide +kernel
theorem k_rE : rE h0 [81, 2] 0 = 0 := by decide +kernel
theorem k_rV : rV h0 [81, 2] 0 = [5, 258] := by decide +kernel
theorem k_fN : fiN h0 ⟨#[98]⟩ = 1 := by decide +kernel
theorem k_fB : fiB h0 ⟨#[98]⟩ = true := by decide +kernel
theorem k_chk2 : chk (⟨#[104]⟩, []) = 8 := by decide +kernel
theorem k_by : Io.Bytes [81, 2] := by intro x hx; simp at hx; rcases hx with rfl | rfl <;> decide
theorem k_fl : ∀ d ∈ h0.2, d.1.size ≤ maxLen ∧ -9223372036854775808 ≤ d.2 ∧ d.2 ≤ 9223372036854775807 := by
  intro d hd; simp [h0] at hd; rcases hd with rfl | rfl <;> decide
end Hd

set_option maxRecDepth 8000 in
set_option maxHeartbeats 1000000 in
theorem hworks_any (W : World) : Calls Try.prog 15 #[] W (Rets W (.bool true)) := by
  go_enter Try.func15, Try.ntmps15
  go_wp2_with fail
  obtain ⟨W2, hW2⟩ : ∃ W2, W2 = ((W.alloc (.cells #[.string ⟨#[97]⟩, .int .i64 4, .string ⟨#[98]⟩, .int .i64 12] 93)).alloc (.cells #[.string ⟨#[104]⟩, .slice (some ⟨W.heap.size, 0, none⟩) 2 2] 24)) := ⟨_, rfl⟩
  have hx2 : Ext W W2 := by rw [hW2]; exact ((Ext.refl W).alloc _).alloc _
  have hb0 : W2.heap[W.heap.size]? = some (.cells #[.string ⟨#[97]⟩, .int .i64 4, .string ⟨#[98]⟩, .int .i64 12] 93) := by rw [hW2]; exact ((Ext.refl _).alloc _).heap (alloc_heap _ _)
  have hb1 : W2.heap[W.heap.size + 1]? = some (.cells #[.string ⟨#[104]⟩, .slice (some ⟨W.heap.size, 0, none⟩) 2 2] 24) := by
    rw [hW2]; have := alloc_heap (W.alloc (.cells #[.string ⟨#[97]⟩, .int .i64 4, .string ⟨#[98]⟩, .int .i64 12] 93)) (.cells #[.string ⟨#[104]⟩, .slice (some ⟨W.heap.size, 0, none⟩) 2 2] 24)
    simpa using this
  have hfl : Hd.Flds W2 (.slice (some ⟨W.heap.size, 0, none⟩) 2 2) Hd.h0.2 := Hd.flds_new Hd.h0.2 Hd.k_fl hb0 (by decide)
  have c0 := alw (cell_of (o := 0) hb1)
  have c1 := alw (cell_of (o := 1) hb1)
  have HFL := Lib.hid hfl
  have HX2 := Lib.hid hx2
  have d0 := c0 W2
  have d1 := c1 W2
  have n0 := World.new_ne W2 _ d0
  have n1 := World.new_ne W2 _ d1
  rw [← hW2]
  have HW2 := Lib.hid hW2
  clear hfl hb0 hb1 hW2 hx2
  go_cut [2, 3] (fun v e wx => ∃ (oa : Option Addr) (c : Nat), v = .slice oa 2 c ∧ e = .int .i64 0 ∧ Ext W2 wx ∧ Src wx (.slice oa 2 c) 1 2 (u32s [5, 258]))
  case first =>
    go_region_held3 (fun w' => w'.cell? ⟨W.heap.size + 1, 0, none⟩ = some (.string ⟨#[104]⟩) ∧ w'.cell? ⟨W.heap.size + 1, 1, none⟩ = some (.slice (some ⟨W.heap.size, 0, none⟩) 2 2)) (go_keep)
      (first
        | (go_at_call 22; refine (newReader_any _ [81, 2] _ ((src_new W2 _ rfl _ _ _ _ _ rfl (u8s_one [81, 2])).ext ((Ext.refl _).drew)) Hd.k_by (by decide)).mono ?_; rintro e w5 ⟨p, ra, rn, rc, rfl, hy, hr⟩; have hz : Ext W2 w5 := (((Ext.refl W2).alloc _).drew).trans hy; have HR := Lib.hid hr; have hpz : W2.heap.size ≤ p := Nat.le_trans (by simp) hr.le; clear hr; have q0 := hz.cell d0; have q1 := hz.cell d1)
        | (go_at_call 26; refine (hread_any HR.out Hd.h0 (fun w' hm => Hd.Flds.ext HFL.out (hz.mod hm (fun q hq => by rw [hq]; exact hpz))) (by decide) (by decide)).mono ?_; rintro e w6 ⟨u6, rfl, m6, r6, o6⟩; rw [Hd.k_rE]; rw [Hd.k_rV] at o6; have hz6 : Ext W2 w6 := hz.mod m6 (fun q hq => by rw [hq]; exact hpz); have q2 := hz6.cell d0; have q3 := hz6.cell d1; obtain ⟨oa6, c6, hv6⟩ := own_slice o6; change u6 = .slice oa6 2 c6 at hv6; subst hv6; have HO6 := Lib.hid o6; clear o6 r6 m6))
    all_goals (try go_wp2_with fail)
    all_goals go_meet
    exact ⟨oa6, c6, rfl, rfl, hz6, own_src HO6.out (u32s_one [5, 258])⟩
  case rest =>
    obtain ⟨oa, c, rfl, rfl, hx3, hsr⟩ := hcut
    have s3 : Step W2 wc := ⟨hx3⟩
    have HSR := Lib.hid hsr
    clear hsr
    go_wp2_with fail
    refine (fieldIndex_any Hd.h0 ⟨#[98]⟩ (Hd.Flds.ext HFL.out grows)).mono ?_
    rintro e w4 ⟨rfl, x4⟩
    rw [Hd.k_fN, Hd.k_fB]
    have s4 : Step wc w4 := ⟨x4⟩
    go_wp2_with fail
    refine (hcheck_any Hd.h0 (Hd.Flds.ext HFL.out grows) (by decide)).mono ?_
    rintro e w5 ⟨rfl, x5⟩
    rw [Hd.k_chk]
    have s5 : Step w4 w5 := ⟨x5⟩
    go_wp2_with fail
    refine (hbits_any Hd.h0 (Hd.Flds.ext HFL.out grows) (by decide)).mono ?_
    rintro e w6 ⟨rfl, x6⟩
    rw [Hd.k_bts]
    have s6 : Step w5 w6 := ⟨x6⟩
    go_wp2_with fail
    refine (eqU_same (l := [5, 258]) (HSR.out.ext grows) (src_new _ _ rfl _ _ _ _ _ rfl (u32s_one [5, 258])) (by decide)).mono ?_
    rintro e w7 ⟨rfl, x7⟩
    have s7 : Step (w6.alloc (.cells #[.int .u32 5, .int .u32 258] 39)) w7 := ⟨x7⟩
    go_wp2_with fail
    refine (hcheck_any (⟨#[104]⟩, []) (Hd.flds_nil _) (by decide)).mono ?_
    rintro e w8 ⟨rfl, x8⟩
    rw [Hd.k_chk2]
    have s8 : Step w7 w8 := ⟨x8⟩
    go_wp2_with fail
    go_ret
    exact ⟨rfl, HX2.out.trans grows⟩
end Go.Proofs.Ytdgepbolfflidaa
