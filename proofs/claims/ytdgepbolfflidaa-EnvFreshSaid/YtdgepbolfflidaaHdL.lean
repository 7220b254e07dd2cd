/- Headers: the laws, walked: what they share; Checks. No condition. -/
import Derived.Test.YtdgepbolfflidaaHdW
namespace Go.Proofs.Ytdgepbolfflidaa
open Go.RowKit

theorem wf_i64 {x : Int} (h : (Lit.int .i64 x).wf = true) : -9223372036854775808 ≤ x ∧ x ≤ 9223372036854775807 := by
  simp [Lit.wf, IntKind.min, IntKind.max, IntKind.bits, IntKind.signed] at h; omega
set_option maxRecDepth 100000 in
/-- the cells of a field that came in -/
theorem rd_field {W : World} {row : List Value} (hl : row.length = 2) (h : Rd Try.prog W 93 row) : ∃ d, Hd.FieldR W row d := by
  have h3 : Try.prog.cellsOf 3 = 1 := by kernel_rfl
  have h9 : Try.prog.cellsOf 9 = 1 := by kernel_rfl
  obtain ⟨_, hr⟩ := Rd.struct Try.underlying93 h
  match row, hl with
  | [c0, c1], _ =>
    have r0 := hr 0 _ rfl
    have r1 := hr 1 _ rfl
    simp [h3, h9] at r0 r1
    obtain ⟨s, hs, ws⟩ := Rd.string Try.underlying9 r0
    obtain ⟨b, hb, wb⟩ := Rd.int Try.underlying3 r1
    simp at hs hb
    subst hs; subst hb
    have := wf_i64 wb
    exact ⟨(s, b), rfl, ws, this.1, this.2⟩
set_option maxRecDepth 100000 in
theorem rd_fields {W : World} {cs : List Value} (h : Rd Try.prog W 22 cs) : ∃ v fs, cs = [v] ∧ Hd.Flds W v fs :=
  Rd.rows Try.underlying22 (show Try.prog.cellsOf 93 = 2 by kernel_rfl) (by decide) (fun row hl hr => rd_field hl hr) h
set_option maxRecDepth 100000 in
/-- the cells of a header that came in -/
theorem rd_header {W : World} {row : List Value} (hl : row.length = 2) (h : Rd Try.prog W 24 row) : ∃ d, Hd.HdrR W row d := by
  have h22 : Try.prog.cellsOf 22 = 1 := by kernel_rfl
  have h9 : Try.prog.cellsOf 9 = 1 := by kernel_rfl
  obtain ⟨_, hr⟩ := Rd.struct Try.underlying24 h
  match row, hl with
  | [c0, c1], _ =>
    have r0 := hr 0 _ rfl
    have r1 := hr 1 _ rfl
    simp [h22, h9] at r0 r1
    obtain ⟨s, hs, ws⟩ := Rd.string Try.underlying9 r0
    obtain ⟨v, fs, hv, hf⟩ := rd_fields r1
    simp at hs hv
    subst hs; subst hv
    exact ⟨(s, fs), c1, rfl, ws, hf⟩
set_option maxRecDepth 100000 in
theorem hdr_take {v : Value} {W : World} {base : Nat} {r : Reach} {H : Type} {enc : TypeId × Value → H} {d : DataW H} {ps : List MemPlace}
    (ok : Value.okWide Try.prog W r base 24 v) (h : DataW.Trod enc Try.prog W 0 (fun _ => true) true 24 v d ps) :
    ∃ (hd : Hd.Hdr) (u : Value), v = .agg #[.string hd.1, u] ∧ hd.1.size ≤ maxLen ∧ Hd.Flds W u hd.2 := by
  have hc : Try.prog.cellsOf 24 = 2 := by kernel_rfl
  obtain ⟨l, rfl, hl⟩ := ok_struct Try.underlying24 ok
  rw [hc] at hl
  have hrd := Rd.of h
  simp only [Value.cells, List.toList_toArray] at hrd
  obtain ⟨hd, u, he, h1, h2⟩ := rd_header hl hrd
  exact ⟨hd, u, by rw [he], h1, h2⟩
set_option maxRecDepth 100000 in
theorem str_take {v : Value} {W : World} {base : Nat} {r : Reach} {H : Type} {enc : TypeId × Value → H} {d : DataW H} {ps : List MemPlace}
    (ok : Value.okWide Try.prog W r base 9 v) (h : DataW.Trod enc Try.prog W 0 (fun _ => true) true 9 v d ps) : ∃ s, v = .string s ∧ s.size ≤ maxLen := by
  obtain ⟨s, rfl⟩ := Go.WideShapes.okWide_string Try.underlying9 ok
  obtain ⟨s', h1, h2⟩ := Rd.string Try.underlying9 (Rd.of h)
  simp [Value.cells] at h1
  exact ⟨s, rfl, by rw [h1]; exact h2⟩

set_option maxRecDepth 8000 in
set_option maxHeartbeats 1000000 in
theorem headerChecks_walk (v0 v1 : Value) (W : World) {b0 b1 : Nat} {r0 r1 : Reach} {H : Type} {enc : TypeId × Value → H} {d0 d1 : DataW H} {p0 p1 : List MemPlace}
    (ok0 : Value.okWide Try.prog W r0 b0 24 v0) (h0 : DataW.Trod enc Try.prog W 0 (fun _ => true) true 24 v0 d0 p0)
    (ok1 : Value.okWide Try.prog W r1 b1 9 v1) (h1 : DataW.Trod enc Try.prog W 0 (fun _ => true) true 9 v1 d1 p1) :
    Calls Try.prog 3 #[v0, v1] W (Rets W (.bool true)) := by
  obtain ⟨⟨nm, fs⟩, u, rfl, hnm, hfl⟩ := hdr_take ok0 h0
  obtain ⟨s, rfl, hs⟩ := str_take ok1 h1
  clear ok0 h0 ok1 h1
  dsimp only at hnm hfl ⊢
  obtain ⟨fa, fc, rfl, hlc, hcm⟩ := hfl.slice
  have hs2 := hs
  unfold maxLen at hcm hs2
  have HF := Lib.hid hfl
  clear hfl
  have bb := alloc_heap W (.cells #[.string nm, .slice fa fs.length fc] 24)
  have c0 := alw (cell_of (o := 0) bb)
  have c1 := alw (cell_of (o := 1) bb)
  clear bb
  obtain ⟨sm, hsm⟩ : ∃ sm, sm = Hd.small (nm, fs) := ⟨_, rfl⟩
  have HSM := Lib.hid hsm
  clear hsm
  cases sm
  · go_enter Try.func3, Try.ntmps3
    go_wp2_with fail
    refine (rsmall_any (nm, fs) (Hd.Flds.ext HF.out grows) hnm).mono ?_
    rintro e w1 ⟨rfl, x1⟩
    rw [← HSM.out]
    have s1 : Step (W.alloc (.cells #[.string nm, .slice fa fs.length fc] 24)) w1 := ⟨x1⟩
    go_wp2_with (go_at_call 15; refine (hworks_any _).mono ?_; rintro e w2 ⟨rfl, x2⟩; have s2 : Step w1 w2 := ⟨x2⟩)
    go_ret
    exact ⟨rfl, grows⟩
  · by_cases h30 : s.size ≤ 30
    · go_enter Try.func3, Try.ntmps3
      go_wp2_with fail
      refine (rsmall_any (nm, fs) (Hd.Flds.ext HF.out grows) hnm).mono ?_
      rintro e w1 ⟨rfl, x1⟩
      rw [← HSM.out]
      have s1 : Step (W.alloc (.cells #[.string nm, .slice fa fs.length fc] 24)) w1 := ⟨x1⟩
      go_wp2_with fail
      refine (fieldIndex_any (nm, fs) s (Hd.Flds.ext HF.out grows)).mono ?_
      rintro e w2 ⟨rfl, x2⟩
      have s2 : Step w1 w2 := ⟨x2⟩
      go_wp2_with fail
      refine (rfieldIndex_any (nm, fs) s (Hd.Flds.ext HF.out grows)).mono ?_
      rintro e w3 ⟨rfl, x3⟩
      have s3 : Step w2 w3 := ⟨x3⟩
      go_wp2_with fail
      refine wp_region_later (W := w3) (by kernel_rfl) (by kernel_rfl) (Ext.refl _) ?_
      repeat (go_big_quiet_step (first
        | (go_at_call 18; exact Rets.later_at (hcheck_any (nm, fs) (Hd.Flds.ext HF.out grows) hnm))
        | (go_at_call 19; exact Rets.later_at (rhcheck_any (nm, fs) (Hd.Flds.ext HF.out grows) hnm))
        | (go_at_call 20; exact Rets.later_at (hbits_any (nm, fs) (Hd.Flds.ext HF.out grows) hnm))
        | (go_at_call 21; exact Rets.later_at (rhbits_any (nm, fs) (Hd.Flds.ext HF.out grows) hnm))
        | (go_at_call 15; exact Rets.later_at (hworks_any _))))
      refine wpQuiet_nil ?_
      intro w4 hx4
      have s4 : Step w3 w4 := ⟨hx4⟩
      go_wp2_with fail
      go_ret
      exact ⟨rfl, grows⟩
    · have h31 : 30 < s.size := by omega
      go_enter Try.func3, Try.ntmps3
      go_wp2_with fail
      refine (rsmall_any (nm, fs) (Hd.Flds.ext HF.out grows) hnm).mono ?_
      rintro e w1 ⟨rfl, x1⟩
      rw [← HSM.out]
      have s1 : Step (W.alloc (.cells #[.string nm, .slice fa fs.length fc] 24)) w1 := ⟨x1⟩
      go_wp2_with (go_at_call 15; refine (hworks_any _).mono ?_; rintro e w2 ⟨rfl, x2⟩; have s2 : Step w1 w2 := ⟨x2⟩)
      go_ret
      exact ⟨rfl, grows⟩
end Go.Proofs.Ytdgepbolfflidaa
