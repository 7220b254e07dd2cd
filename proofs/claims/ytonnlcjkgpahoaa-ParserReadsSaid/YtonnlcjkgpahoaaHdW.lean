/- Headers: the example of the chapter, walked. No condition. -/
import Derived.Test.YtonnlcjkgpahoaaHd8
import Derived.Test.YtonnlcjkgpahoaaHd7
import Derived.Deep.RegionHeld3
namespace Go.Proofs.Ytonnlcjkgpahoaa
open Go.RowKit

theorem flat_get {α β : Type} (g : α → List β) (sz : Nat) (hg : ∀ d, (g d).length = sz) : ∀ (ds : List α) (i : Nat) (d : α), ds[i]? = some d → ∀ j, j < sz → (ds.flatMap g)[i * sz + j]? = (g d)[j]?
  | [], i, d, h, _, _ => by simp at h
  | x :: ds, 0, d, h, j, hj => by
    simp only [List.getElem?_cons_zero, Option.some.injEq] at h
    subst h
    rw [List.flatMap_cons, Nat.zero_mul, Nat.zero_add, List.getElem?_append_left (by rw [hg]; exact hj)]
  | x :: ds, i + 1, d, h, j, hj => by
    simp only [List.getElem?_cons_succ] at h
    rw [List.flatMap_cons, List.getElem?_append_right (by rw [hg, Nat.succ_mul]; omega), hg, ← flat_get g sz hg ds i d h j hj]
    congr 1; rw [Nat.succ_mul]; omega
/-- a block that has just been made holds rows -/
theorem rows_new {α : Type} {w : World} {B c sz : Nat} {t : TypeId} {f : Nat × Nat} {R : World → List Value → α → Prop} (g : α → List Value) (ds : List α) (hg : ∀ d, (g d).length = sz) (hR : ∀ d ∈ ds, R w (g d) d) (hb : w.heap[B]? = some (.cells (ds.flatMap g).toArray t f)) (h1 : ds.length ≤ c) (h2 : c ≤ maxLen) :
    Rows w sz R (.slice (some ⟨B, 0, none⟩) ds.length c) ds :=
  .inr ⟨⟨B, 0, none⟩, c, rfl, h1, h2, fun _ => rfl, fun i d hi => ⟨g d, hg d, hR d (List.mem_of_getElem? hi), fun j u hj => by
    have hjs : j < sz := by rw [← hg d]; exact (List.getElem?_eq_some_iff.1 hj).1
    rw [cell_of hb, Nat.zero_add]
    have := flat_get g sz hg ds i d hi j hjs
    rw [List.getElem?_toArray, this, hj]⟩⟩
namespace Hd
def cellsF (d : Fld) : List Value := [.string d.1, .int .i64 d.2]
theorem flds_new {w : World} {B : Nat} {t : TypeId} {f : Nat × Nat} (fs : List Fld) (hR : ∀ d ∈ fs, d.1.size ≤ maxLen ∧ -9223372036854775808 ≤ d.2 ∧ d.2 ≤ 9223372036854775807) (hb : w.heap[B]? = some (.cells (fs.flatMap cellsF).toArray t f)) (h2 : fs.length ≤ maxLen) : Flds w (.slice (some ⟨B, 0, none⟩) fs.length fs.length) fs :=
  rows_new cellsF fs (fun _ => rfl) (fun d hd => ⟨rfl, hR d hd⟩) hb (Nat.le_refl _) h2
theorem flds_nil (w : World) : Flds w (.slice none 0 0) [] := .inl ⟨rfl, rfl⟩
def h0 : Hdr := (⟨#[104]⟩, [(⟨#[97]⟩, 4), (⟨#[98]⟩, 12)])
theorem k_chk : chk h0 = 0 := by decide +kernel
theorem k_bts : bts h0 = 16 := by decide +kernel
theorem k_rE : rE h0 [81, 2] 0 = 0 := by decide +kernel
theorem k_rV : rV h0 [81, 2] 0 = [5, 258] := by decide +kernel
theorem k_fN : fiN h0 ⟨#[98]⟩ = 1 := by decide +kernel
theorem k_fB : fiB h0 ⟨#[98]⟩ = true := by decide +kernel
theorem k_chk2 : chk (⟨#[104]⟩, []) = 8 := by decide +kernel
theorem k_by : Io.Bytes [81, 2] := by intro x hx; simp at hx; rcases hx with rfl | rfl <;> decide
theorem k_fl : ∀ d ∈ h0.2, d.1.size ≤ maxLen ∧ -9223372036854775808 ≤ d.2 ∧ d.2 ≤ 9223372036854775807 := by
  intro d hd; simp [h0] at hd; rcases hd with rfl | rfl <;> decide
end Hd

end Go.Proofs.Ytonnlcjkgpahoaa
