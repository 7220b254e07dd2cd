/- Headers: the laws, walked: what they share; Checks. No condition. -/
import Derived.Test.YtonnlcjkgpahoaaHdW
namespace Go.Proofs.Ytonnlcjkgpahoaa
open Go.RowKit

theorem wf_i64 {x : Int} (h : (Lit.int .i64 x).wf = true) : -9223372036854775808 ≤ x ∧ x ≤ 9223372036854775807 := by
  simp [Lit.wf, IntKind.min, IntKind.max, IntKind.bits, IntKind.signed] at h; omega
set_option maxRecDepth 100000 in
/-- the cells of a field that came in -/
theorem rd_field {W : World} {row : List Value} (hl : row.length = 2) (h : Rd Try.prog W 84 row) : ∃ d, Hd.FieldR W row d := by
  have h3 : Try.prog.cellsOf 3 = 1 := by kernel_rfl
  have h9 : Try.prog.cellsOf 9 = 1 := by kernel_rfl
  obtain ⟨_, hr⟩ := Rd.struct Try.underlying84 h
  match row, hl with
  | [c0, c1], _ =>
    have r0 := hr 0 _ rfl
    have r1 := hr 1 _ rfl
    simp [h3, h9] at r0 r1
    obtain ⟨s, hs, ws⟩ := Rd.string Try.underlying9 r0
    obtain ⟨b, hb, wb⟩ := Rd.int Try.underlying3 r1
    simp at hs hb
    subst hs; subst hb
    have := wf_i64 wb
    exact ⟨(s, b), rfl, ws, this.1, this.2⟩
set_option maxRecDepth 100000 in
theorem rd_fields {W : World} {cs : List Value} (h : Rd Try.prog W 23 cs) : ∃ v fs, cs = [v] ∧ Hd.Flds W v fs :=
  Rd.rows Try.underlying23 (show Try.prog.cellsOf 84 = 2 by kernel_rfl) (by decide) (fun row hl hr => rd_field hl hr) h
set_option maxRecDepth 100000 in
/-- the cells of a header that came in -/
theorem rd_header {W : World} {row : List Value} (hl : row.length = 2) (h : Rd Try.prog W 72 row) : ∃ d, Hd.HdrR W row d := by
  have h22 : Try.prog.cellsOf 23 = 1 := by kernel_rfl
  have h9 : Try.prog.cellsOf 9 = 1 := by kernel_rfl
  obtain ⟨_, hr⟩ := Rd.struct Try.underlying72 h
  match row, hl with
  | [c0, c1], _ =>
    have r0 := hr 0 _ rfl
    have r1 := hr 1 _ rfl
    simp [h22, h9] at r0 r1
    obtain ⟨s, hs, ws⟩ := Rd.string Try.underlying9 r0
    obtain ⟨v, fs, hv, hf⟩ := rd_fields r1
    simp at hs hv
    subst hs; subst hv
    exact ⟨(s, fs), c1, rfl, ws, hf⟩
set_option maxRecDepth 100000 in
theorem hdr_take {v : Value} {W : World} {base : Nat} {r : Reach} {H : Type} {enc : TypeId × Value → H} {d : DataW H} {ps : List MemPlace}
    (ok : Value.okWide Try.prog W r base 72 v) (h : DataW.Trod enc Try.prog W 0 (fun _ => true) true 72 v d ps) :
    ∃ (hd : Hd.Hdr) (u : Value), v = .agg #[.string hd.1, u] ∧ hd.1.size ≤ maxLen ∧ Hd.Flds W u hd.2 := by
  have hc : Try.prog.cellsOf 72 = 2 := by kernel_rfl
  obtain ⟨l, rfl, hl⟩ := ok_struct Try.underlying72 ok
  rw [hc] at hl
  have hrd := Rd.of h
  simp only [Value.cells, List.toList_toArray] at hrd
  obtain ⟨hd, u, he, h1, h2⟩ := rd_header hl hrd
  exact ⟨hd, u, by rw [he], h1, h2⟩
set_option maxRecDepth 100000 in
theorem str_take {v : Value} {W : World} {base : Nat} {r : Reach} {H : Type} {enc : TypeId × Value → H} {d : DataW H} {ps : List MemPlace}
    (ok : Value.okWide Try.prog W r base 9 v) (h : DataW.Trod enc Try.prog W 0 (fun _ => true) true 9 v d ps) : ∃ s, v = .string s ∧ s.size ≤ maxLen := by
  obtain ⟨s, rfl⟩ := Go.WideShapes.okWide_string Try.underlying9 ok
  obtain ⟨s', h1, h2⟩ := Rd.string Try.underlying9 (Rd.of h)
  simp [Value.cells] at h1
  exact ⟨s, rfl, by rw [h1]; exact h2⟩

end Go.Proofs.Ytonnlcjkgpahoaa
