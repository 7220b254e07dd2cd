/- Programs that came in. The placement case that came in. No condition. -/
import Derived.Test.YtkiafiaodockbaaGreatKqAU
set_option maxRecDepth 8000
set_option maxHeartbeats 16000000
namespace Go.Proofs.YtkiafiaodockbaaGreat
open Go.RowKit
theorem ns_rowsF {k : IntKind} {w : World} {v : Value} {ds : List Int} {p : Int → Prop} (h : Rows w 1 (fun _ cs d => cs = [.int k d] ∧ p d) v ds) : Ns k w v ds ∧ ∀ x ∈ ds, p x := by
 rcases h with ⟨rfl, rfl⟩ | ⟨ad, c, rfl, h2, h3, h5, h4⟩
 ·exact ⟨⟨⟨rfl, (by simp), .inl ⟨rfl, rfl⟩⟩, Nat.zero_le _⟩, by simp⟩
 ·refine ⟨⟨⟨by simp, by intro u hu; simp at hu; obtain ⟨x, _, rfl⟩ := hu; rfl, .inr ⟨ad, c, rfl, fun j u hj => ?_⟩⟩, Nat.le_trans h2 h3⟩, fun x hx => ?_⟩
  ·rw [List.getElem?_map] at hj
   cases hd : ds[j]? with
   | none => rw [hd] at hj; simp at hj
   | some d =>
    rw [hd] at hj
    simp only [Option.map_some, Option.some.injEq] at hj
    subst hj
    obtain ⟨cs, _, ⟨rfl, _⟩, hc⟩ := h4 j d hd
    have h6 := hc 0 _ rfl
    have h7 := h5 (by intro e; subst e; simp at hd)
    rw [h7]
    rw [show (⟨ad.block, ad.off, none⟩ : Addr).add j = ⟨ad.block, ad.off + j * 1 + 0, none⟩ by simp [Addr.add]]
    exact h6
  ·obtain ⟨i, hi⟩ := List.mem_iff_getElem?.1 hx
   obtain ⟨_, _, ⟨_, hp⟩, _⟩ := h4 i x hi
   exact hp
theorem wf_u32F {x : Int} (h : (Lit.int .u32 x).wf = true) : U32 x := by
 simp [Lit.wf, IntKind.min, IntKind.max, IntKind.bits, IntKind.signed] at h; unfold U32; omega
theorem wf_b64F {x : Int} (h : (Lit.int .i64 x).wf = true) : Tj.B64 x := by
 simp [Lit.wf, IntKind.min, IntKind.max, IntKind.bits, IntKind.signed] at h; unfold Tj.B64 Rg.B64; omega
set_option maxRecDepth 100000 in
theorem rdf_ints {W : World} {cs : List Value} {n f : Nat} (h : RdF Tryz.prog W 29 cs n f) : ∃ (a : Option Addr) (c : Nat) (l : List Int), cs = [.slice a l.length c] ∧ (l.length ≤ c ∧ c ≤ maxLen) ∧ Tj.Is W (.slice a l.length c) l ∧ l.length ≤ n := by
 obtain ⟨a, c, l, h1, h2, h3, h4, _⟩ := RdF.rowsB (R := fun _ cs (d : Int) => cs = [.int .i64 d] ∧ Tj.B64 d) (Q := fun _ => True) Tryz.underlying29 (show Tryz.prog.cellsOf 3 = 1 by kernel_rfl) (by decide) (fun row _ _ hr => by
  obtain ⟨x, h3, h4⟩ := Rd.int Tryz.underlying3 hr.rd
  exact ⟨x, ⟨h3, wf_b64F h4⟩, trivial⟩) h
 exact ⟨a, c, l, h1, h2, ns_rowsF h3, h4⟩
set_option maxRecDepth 100000 in
theorem rdf_u32s {W : World} {cs : List Value} {n f : Nat} (h : RdF Tryz.prog W 92 cs n f) : ∃ (a : Option Addr) (c : Nat) (l : List Int), cs = [.slice a l.length c] ∧ (l.length ≤ c ∧ c ≤ maxLen) ∧ Tj.Us W (.slice a l.length c) l ∧ l.length ≤ n := by
 obtain ⟨a, c, l, h1, h2, h3, h4, _⟩ := RdF.rowsB (R := fun _ cs (d : Int) => cs = [.int .u32 d] ∧ U32 d) (Q := fun _ => True) Tryz.underlying92 (show Tryz.prog.cellsOf 160 = 1 by kernel_rfl) (by decide) (fun row _ _ hr => by
  obtain ⟨x, h3, h4⟩ := Rd.int Tryz.underlying160 hr.rd
  exact ⟨x, ⟨h3, wf_u32F h4⟩, trivial⟩) h
 exact ⟨a, c, l, h1, h2, ns_rowsF h3, h4⟩
set_option maxRecDepth 100000 in
theorem rdf_node {W : World} {row : List Value} {n f : Nat} (hl : row.length = 3) (h : RdF Tryz.prog W 85 row n f) : ∃ d, Tj.ENR W row d := by
 have cz0 : Tryz.prog.cellsOf 3 = 1 := by kernel_rfl
 obtain ⟨_, nsc, fc, hfc, hnsc, hsumc, hrc⟩ := RdF.struct Tryz.underlying85 h
 replace hnsc : nsc.length = 3 := hnsc
 obtain ⟨c0, c1, c2, rfl⟩ : ∃ c0 c1 c2, row = [c0, c1, c2] := by
  match row, hl with
  | [y0, y1, y2], _ => exact ⟨y0, y1, y2, rfl⟩
 obtain ⟨m0, m1, m2, rfl⟩ : ∃ m0 m1 m2, nsc = [m0, m1, m2] := by
  match nsc, hnsc with
  | [y0, y1, y2], _ => exact ⟨y0, y1, y2, rfl⟩
 have r0 := hrc 0 _ _ rfl rfl
 have r1 := hrc 1 _ _ rfl rfl
 have r2 := hrc 2 _ _ rfl rfl
 simp [cz0] at r0 r1 r2
 simp only [List.sum_cons, List.sum_nil] at hsumc
 clear hrc hnsc
 obtain ⟨a, ea, wa⟩ := Rd.int Tryz.underlying3 r0.rd
 simp at ea
 subst ea
 replace wa := wf_b64F wa
 obtain ⟨b, eb, wb⟩ := Rd.int Tryz.underlying3 r1.rd
 simp at eb
 subst eb
 replace wb := wf_b64F wb
 obtain ⟨d, ed, wd⟩ := Rd.int Tryz.underlying3 r2.rd
 simp at ed
 subst ed
 replace wd := wf_b64F wd
 exact ⟨⟨a, b, d⟩, rfl, wa, wb, wd⟩
set_option maxRecDepth 100000 in
theorem rdf_exp {W : World} {cs : List Value} {n f : Nat} (h : RdF Tryz.prog W 86 cs n f) : ∃ (a : Option Addr) (c : Nat) (l : List Tj.EN), cs = [.slice a l.length c] ∧ (l.length ≤ c ∧ c ≤ maxLen) ∧ Rows W 3 Tj.ENR (.slice a l.length c) l ∧ l.length ≤ n := by
 obtain ⟨a, c, l, h1, h2, h3, h4, h5⟩ := RdF.rowsB (R := Tj.ENR) (Q := fun _ => True) Tryz.underlying86 (show Tryz.prog.cellsOf 85 = 3 by kernel_rfl) (by decide) (fun row _ hl hr => by obtain ⟨d, hd⟩ := rdf_node hl hr; exact ⟨d, hd, trivial⟩) h
 exact ⟨a, c, l, h1, h2, h3, h4⟩
set_option maxRecDepth 100000 in
theorem rdf_field {W : World} {row : List Value} {n f : Nat} (hl : row.length = 2) (h : RdF Tryz.prog W 79 row n f) : ∃ d, Hd.FieldR W row d := by
 have cz0 : Tryz.prog.cellsOf 9 = 1 := by kernel_rfl
 have cz1 : Tryz.prog.cellsOf 3 = 1 := by kernel_rfl
 obtain ⟨_, nsc, fc, hfc, hnsc, hsumc, hrc⟩ := RdF.struct Tryz.underlying79 h
 replace hnsc : nsc.length = 2 := hnsc
 obtain ⟨c0, c1, rfl⟩ : ∃ c0 c1, row = [c0, c1] := by
  match row, hl with
  | [y0, y1], _ => exact ⟨y0, y1, rfl⟩
 obtain ⟨m0, m1, rfl⟩ : ∃ m0 m1, nsc = [m0, m1] := by
  match nsc, hnsc with
  | [y0, y1], _ => exact ⟨y0, y1, rfl⟩
 have r0 := hrc 0 _ _ rfl rfl
 have r1 := hrc 1 _ _ rfl rfl
 simp [cz0, cz1] at r0 r1
 simp only [List.sum_cons, List.sum_nil] at hsumc
 clear hrc hnsc
 obtain ⟨s, es, ws⟩ := Rd.string Tryz.underlying9 r0.rd
 simp at es
 subst es
 obtain ⟨a, ea, wa⟩ := Rd.int Tryz.underlying3 r1.rd
 simp at ea
 subst ea
 replace wa := wf_b64F wa
 exact ⟨(s, a), rfl, ws, wa.1, wa.2⟩
set_option maxRecDepth 100000 in
theorem rdf_fields {W : World} {cs : List Value} {n f : Nat} (h : RdF Tryz.prog W 23 cs n f) : ∃ (a : Option Addr) (c : Nat) (l : List Hd.Fld), cs = [.slice a l.length c] ∧ (l.length ≤ c ∧ c ≤ maxLen) ∧ Rows W 2 Hd.FieldR (.slice a l.length c) l ∧ l.length ≤ n := by
 obtain ⟨a, c, l, h1, h2, h3, h4, h5⟩ := RdF.rowsB (R := Hd.FieldR) (Q := fun _ => True) Tryz.underlying23 (show Tryz.prog.cellsOf 79 = 2 by kernel_rfl) (by decide) (fun row _ hl hr => by obtain ⟨d, hd⟩ := rdf_field hl hr; exact ⟨d, hd, trivial⟩) h
 exact ⟨a, c, l, h1, h2, h3, h4⟩
set_option maxRecDepth 100000 in
theorem rdf_header {W : World} {row : List Value} {n f : Nat} (hl : row.length = 2) (h : RdF Tryz.prog W 81 row n f) : ∃ d, Hd.HdrR W row d ∧ d.2.length ≤ n := by
 have cz0 : Tryz.prog.cellsOf 9 = 1 := by kernel_rfl
 have cz1 : Tryz.prog.cellsOf 23 = 1 := by kernel_rfl
 obtain ⟨_, nsc, fc, hfc, hnsc, hsumc, hrc⟩ := RdF.struct Tryz.underlying81 h
 replace hnsc : nsc.length = 2 := hnsc
 obtain ⟨c0, c1, rfl⟩ : ∃ c0 c1, row = [c0, c1] := by
  match row, hl with
  | [y0, y1], _ => exact ⟨y0, y1, rfl⟩
 obtain ⟨m0, m1, rfl⟩ : ∃ m0 m1, nsc = [m0, m1] := by
  match nsc, hnsc with
  | [y0, y1], _ => exact ⟨y0, y1, rfl⟩
 have r0 := hrc 0 _ _ rfl rfl
 have r1 := hrc 1 _ _ rfl rfl
 simp [cz0, cz1] at r0 r1
 simp only [List.sum_cons, List.sum_nil] at hsumc
 clear hrc hnsc
 obtain ⟨s, es, ws⟩ := Rd.string Tryz.underlying9 r0.rd
 simp at es
 subst es
 obtain ⟨fa, fk, fl, efl, kfl, gfl, bfl⟩ := rdf_fields r1
 simp at efl
 subst efl
 exact ⟨(s, fl), ⟨_, rfl, ws, gfl⟩, show fl.length ≤ n by omega⟩
set_option maxRecDepth 100000 in
theorem rdf_headers {W : World} {cs : List Value} {n f : Nat} (h : RdF Tryz.prog W 22 cs n f) : ∃ (a : Option Addr) (c : Nat) (l : List Hd.Hdr), cs = [.slice a l.length c] ∧ (l.length ≤ c ∧ c ≤ maxLen) ∧ Rows W 2 Hd.HdrR (.slice a l.length c) l ∧ l.length ≤ n ∧ ∀ d ∈ l, (fun d => d.2.length ≤ n) d := by
 obtain ⟨a, c, l, h1, h2, h3, h4, h5⟩ := RdF.rowsB (R := Hd.HdrR) (Q := fun d => d.2.length ≤ n) Tryz.underlying22 (show Tryz.prog.cellsOf 81 = 2 by kernel_rfl) (by decide) (fun row _ hl hr => rdf_header hl hr) h
 exact ⟨a, c, l, h1, h2, h3, h4, h5⟩
set_option maxRecDepth 100000 in
theorem rdf_reg {W : World} {row : List Value} {n f : Nat} (hl : row.length = 3) (h : RdF Tryz.prog W 83 row n f) : ∃ d, Rg.RegR W row d := by
 have cz0 : Tryz.prog.cellsOf 9 = 1 := by kernel_rfl
 have cz1 : Tryz.prog.cellsOf 3 = 1 := by kernel_rfl
 obtain ⟨_, nsc, fc, hfc, hnsc, hsumc, hrc⟩ := RdF.struct Tryz.underlying83 h
 replace hnsc : nsc.length = 3 := hnsc
 obtain ⟨c0, c1, c2, rfl⟩ : ∃ c0 c1 c2, row = [c0, c1, c2] := by
  match row, hl with
  | [y0, y1, y2], _ => exact ⟨y0, y1, y2, rfl⟩
 obtain ⟨m0, m1, m2, rfl⟩ : ∃ m0 m1 m2, nsc = [m0, m1, m2] := by
  match nsc, hnsc with
  | [y0, y1, y2], _ => exact ⟨y0, y1, y2, rfl⟩
 have r0 := hrc 0 _ _ rfl rfl
 have r1 := hrc 1 _ _ rfl rfl
 have r2 := hrc 2 _ _ rfl rfl
 simp [cz0, cz1] at r0 r1 r2
 simp only [List.sum_cons, List.sum_nil] at hsumc
 clear hrc hnsc
 obtain ⟨s, es, ws⟩ := Rd.string Tryz.underlying9 r0.rd
 simp at es
 subst es
 obtain ⟨a, ea, wa⟩ := Rd.int Tryz.underlying3 r1.rd
 simp at ea
 subst ea
 replace wa := wf_b64F wa
 obtain ⟨b, eb, wb⟩ := Rd.int Tryz.underlying3 r2.rd
 simp at eb
 subst eb
 replace wb := wf_b64F wb
 exact ⟨⟨s, a, b⟩, rfl, ws, wa, wb⟩
set_option maxRecDepth 100000 in
theorem rdf_regs {W : World} {cs : List Value} {n f : Nat} (h : RdF Tryz.prog W 24 cs n f) : ∃ (a : Option Addr) (c : Nat) (l : List Rg.Reg), cs = [.slice a l.length c] ∧ (l.length ≤ c ∧ c ≤ maxLen) ∧ Rows W 3 Rg.RegR (.slice a l.length c) l ∧ l.length ≤ n := by
 obtain ⟨a, c, l, h1, h2, h3, h4, h5⟩ := RdF.rowsB (R := Rg.RegR) (Q := fun _ => True) Tryz.underlying24 (show Tryz.prog.cellsOf 83 = 3 by kernel_rfl) (by decide) (fun row _ hl hr => by obtain ⟨d, hd⟩ := rdf_reg hl hr; exact ⟨d, hd, trivial⟩) h
 exact ⟨a, c, l, h1, h2, h3, h4⟩
set_option maxRecDepth 100000 in
theorem rdf_stm {W : World} {row : List Value} {n f : Nat} (hl : row.length = 7) (h : RdF Tryz.prog W 90 row n f) : ∃ d, Tj.StmR W row d ∧ (d.ix.length ≤ n ∧ d.va.length ≤ n) := by
 have cz0 : Tryz.prog.cellsOf 3 = 1 := by kernel_rfl
 have cz1 : Tryz.prog.cellsOf 88 = 2 := by kernel_rfl
 have cz2 : Tryz.prog.cellsOf 86 = 1 := by kernel_rfl
 obtain ⟨_, nsc, fc, hfc, hnsc, hsumc, hrc⟩ := RdF.struct Tryz.underlying90 h
 replace hnsc : nsc.length = 6 := hnsc
 obtain ⟨c0, c1, c2, c3, c4, c5, c6, rfl⟩ : ∃ c0 c1 c2 c3 c4 c5 c6, row = [c0, c1, c2, c3, c4, c5, c6] := by
  match row, hl with
  | [y0, y1, y2, y3, y4, y5, y6], _ => exact ⟨y0, y1, y2, y3, y4, y5, y6, rfl⟩
 obtain ⟨m0, m1, m2, m3, m4, m5, rfl⟩ : ∃ m0 m1 m2 m3 m4 m5, nsc = [m0, m1, m2, m3, m4, m5] := by
  match nsc, hnsc with
  | [y0, y1, y2, y3, y4, y5], _ => exact ⟨y0, y1, y2, y3, y4, y5, rfl⟩
 have r0 := hrc 0 _ _ rfl rfl
 have r1 := hrc 1 _ _ rfl rfl
 have r2 := hrc 2 _ _ rfl rfl
 have r3 := hrc 3 _ _ rfl rfl
 have r4 := hrc 4 _ _ rfl rfl
 have r5 := hrc 5 _ _ rfl rfl
 simp [cz0, cz1, cz2] at r0 r1 r2 r3 r4 r5
 simp only [List.sum_cons, List.sum_nil] at hsumc
 clear hrc hnsc
 obtain ⟨a, ea, wa⟩ := Rd.int Tryz.underlying3 r0.rd
 simp at ea
 subst ea
 replace wa := wf_b64F wa
 obtain ⟨_, nsd, fd, hfd, hnsd, hsumd, hrd⟩ := RdF.struct Tryz.underlying88 r1
 replace hnsd : nsd.length = 2 := hnsd
 obtain ⟨o0, o1, rfl⟩ : ∃ o0 o1, nsd = [o0, o1] := by
  match nsd, hnsd with
  | [y0, y1], _ => exact ⟨y0, y1, rfl⟩
 have s0 := hrd 0 _ _ rfl rfl
 have s1 := hrd 1 _ _ rfl rfl
 have dz : Tryz.prog.cellsOf 3 = 1 := by kernel_rfl
 simp [dz] at s0 s1
 clear hrd hnsd hsumd
 obtain ⟨b, eb, wb⟩ := Rd.int Tryz.underlying3 s0.rd
 simp at eb
 subst eb
 replace wb := wf_b64F wb
 obtain ⟨d, ed, wd⟩ := Rd.int Tryz.underlying3 s1.rd
 simp at ed
 subst ed
 replace wd := wf_b64F wd
 obtain ⟨e, ee, we⟩ := Rd.int Tryz.underlying3 r2.rd
 simp at ee
 subst ee
 replace we := wf_b64F we
 obtain ⟨k, ek, wk⟩ := Rd.int Tryz.underlying3 r3.rd
 simp at ek
 subst ek
 replace wk := wf_b64F wk
 obtain ⟨ia, ik, il, eil, kil, gil, bil⟩ := rdf_exp r4
 simp at eil
 subst eil
 obtain ⟨va, vk, vl, evl, kvl, gvl, bvl⟩ := rdf_exp r5
 simp at evl
 subst evl
 exact ⟨⟨a, b, d, e, k, il, vl⟩, ⟨_, _, rfl, ⟨wa, wb, wd, we, wk⟩, gil, gvl⟩, show il.length ≤ n ∧ vl.length ≤ n by omega⟩
set_option maxRecDepth 100000 in
theorem rdf_stms {W : World} {cs : List Value} {n f : Nat} (h : RdF Tryz.prog W 52 cs n f) : ∃ (a : Option Addr) (c : Nat) (l : List Tj.Stm), cs = [.slice a l.length c] ∧ (l.length ≤ c ∧ c ≤ maxLen) ∧ Rows W 7 Tj.StmR (.slice a l.length c) l ∧ l.length ≤ n ∧ ∀ d ∈ l, (fun d => d.ix.length ≤ n ∧ d.va.length ≤ n) d := by
 obtain ⟨a, c, l, h1, h2, h3, h4, h5⟩ := RdF.rowsB (R := Tj.StmR) (Q := fun d => d.ix.length ≤ n ∧ d.va.length ≤ n) Tryz.underlying52 (show Tryz.prog.cellsOf 90 = 7 by kernel_rfl) (by decide) (fun row _ hl hr => rdf_stm hl hr) h
 exact ⟨a, c, l, h1, h2, h3, h4, h5⟩
set_option maxRecDepth 100000 in
theorem rdf_act {W : World} {row : List Value} {n f : Nat} (hl : row.length = 3) (h : RdF Tryz.prog W 54 row n f) : ∃ d, Tj.ActR W row d ∧ (d.ps.length ≤ n ∧ d.bd.length ≤ n ∧ ∀ s ∈ d.bd, s.ix.length ≤ n ∧ s.va.length ≤ n) := by
 have cz0 : Tryz.prog.cellsOf 9 = 1 := by kernel_rfl
 have cz1 : Tryz.prog.cellsOf 23 = 1 := by kernel_rfl
 have cz2 : Tryz.prog.cellsOf 52 = 1 := by kernel_rfl
 obtain ⟨_, nsc, fc, hfc, hnsc, hsumc, hrc⟩ := RdF.struct Tryz.underlying54 h
 replace hnsc : nsc.length = 3 := hnsc
 obtain ⟨c0, c1, c2, rfl⟩ : ∃ c0 c1 c2, row = [c0, c1, c2] := by
  match row, hl with
  | [y0, y1, y2], _ => exact ⟨y0, y1, y2, rfl⟩
 obtain ⟨m0, m1, m2, rfl⟩ : ∃ m0 m1 m2, nsc = [m0, m1, m2] := by
  match nsc, hnsc with
  | [y0, y1, y2], _ => exact ⟨y0, y1, y2, rfl⟩
 have r0 := hrc 0 _ _ rfl rfl
 have r1 := hrc 1 _ _ rfl rfl
 have r2 := hrc 2 _ _ rfl rfl
 simp [cz0, cz1, cz2] at r0 r1 r2
 simp only [List.sum_cons, List.sum_nil] at hsumc
 clear hrc hnsc
 obtain ⟨s, es, ws⟩ := Rd.string Tryz.underlying9 r0.rd
 simp at es
 subst es
 obtain ⟨fa, fk, fl, efl, kfl, gfl, bfl⟩ := rdf_fields r1
 simp at efl
 subst efl
 obtain ⟨ba, bk, bl, ebl, kbl, gbl, bbl, qbl⟩ := rdf_stms r2
 simp at ebl
 subst ebl
 exact ⟨⟨s, fl, bl⟩, ⟨_, _, rfl, ws, gfl, gbl⟩, show fl.length ≤ n by omega, show bl.length ≤ n by omega, fun x hx => ⟨by have := (qbl x hx).1; omega, by have := (qbl x hx).2; omega⟩⟩
set_option maxRecDepth 100000 in
theorem rdf_acts {W : World} {cs : List Value} {n f : Nat} (h : RdF Tryz.prog W 25 cs n f) : ∃ (a : Option Addr) (c : Nat) (l : List Tj.Act), cs = [.slice a l.length c] ∧ (l.length ≤ c ∧ c ≤ maxLen) ∧ Rows W 3 Tj.ActR (.slice a l.length c) l ∧ l.length ≤ n ∧ ∀ d ∈ l, (fun d => d.ps.length ≤ n ∧ d.bd.length ≤ n ∧ ∀ s ∈ d.bd, s.ix.length ≤ n ∧ s.va.length ≤ n) d := by
 obtain ⟨a, c, l, h1, h2, h3, h4, h5⟩ := RdF.rowsB (R := Tj.ActR) (Q := fun d => d.ps.length ≤ n ∧ d.bd.length ≤ n ∧ ∀ s ∈ d.bd, s.ix.length ≤ n ∧ s.va.length ≤ n) Tryz.underlying25 (show Tryz.prog.cellsOf 54 = 3 by kernel_rfl) (by decide) (fun row _ hl hr => rdf_act hl hr) h
 exact ⟨a, c, l, h1, h2, h3, h4, h5⟩
set_option maxRecDepth 100000 in
theorem rdf_key {W : World} {row : List Value} {n f : Nat} (hl : row.length = 3) (h : RdF Tryz.prog W 188 row n f) : ∃ d, Tj.KeyR W row d := by
 have cz0 : Tryz.prog.cellsOf 88 = 2 := by kernel_rfl
 have cz1 : Tryz.prog.cellsOf 3 = 1 := by kernel_rfl
 obtain ⟨_, nsc, fc, hfc, hnsc, hsumc, hrc⟩ := RdF.struct Tryz.underlying188 h
 replace hnsc : nsc.length = 2 := hnsc
 obtain ⟨c0, c1, c2, rfl⟩ : ∃ c0 c1 c2, row = [c0, c1, c2] := by
  match row, hl with
  | [y0, y1, y2], _ => exact ⟨y0, y1, y2, rfl⟩
 obtain ⟨m0, m1, rfl⟩ : ∃ m0 m1, nsc = [m0, m1] := by
  match nsc, hnsc with
  | [y0, y1], _ => exact ⟨y0, y1, rfl⟩
 have r0 := hrc 0 _ _ rfl rfl
 have r1 := hrc 1 _ _ rfl rfl
 simp [cz0, cz1] at r0 r1
 simp only [List.sum_cons, List.sum_nil] at hsumc
 clear hrc hnsc
 obtain ⟨_, nsd, fd, hfd, hnsd, hsumd, hrd⟩ := RdF.struct Tryz.underlying88 r0
 replace hnsd : nsd.length = 2 := hnsd
 obtain ⟨o0, o1, rfl⟩ : ∃ o0 o1, nsd = [o0, o1] := by
  match nsd, hnsd with
  | [y0, y1], _ => exact ⟨y0, y1, rfl⟩
 have s0 := hrd 0 _ _ rfl rfl
 have s1 := hrd 1 _ _ rfl rfl
 have dz : Tryz.prog.cellsOf 3 = 1 := by kernel_rfl
 simp [dz] at s0 s1
 clear hrd hnsd hsumd
 obtain ⟨a, ea, wa⟩ := Rd.int Tryz.underlying3 s0.rd
 simp at ea
 subst ea
 replace wa := wf_b64F wa
 obtain ⟨b, eb, wb⟩ := Rd.int Tryz.underlying3 s1.rd
 simp at eb
 subst eb
 replace wb := wf_b64F wb
 obtain ⟨d, ed, wd⟩ := Rd.int Tryz.underlying3 r1.rd
 simp at ed
 subst ed
 replace wd := wf_b64F wd
 exact ⟨⟨a, b, d⟩, rfl, wa, wb, wd⟩
set_option maxRecDepth 100000 in
theorem rdf_keys {W : World} {cs : List Value} {n f : Nat} (h : RdF Tryz.prog W 91 cs n f) : ∃ (a : Option Addr) (c : Nat) (l : List Tj.Key), cs = [.slice a l.length c] ∧ (l.length ≤ c ∧ c ≤ maxLen) ∧ Rows W 3 Tj.KeyR (.slice a l.length c) l ∧ l.length ≤ n := by
 obtain ⟨a, c, l, h1, h2, h3, h4, h5⟩ := RdF.rowsB (R := Tj.KeyR) (Q := fun _ => True) Tryz.underlying91 (show Tryz.prog.cellsOf 188 = 3 by kernel_rfl) (by decide) (fun row _ hl hr => by obtain ⟨d, hd⟩ := rdf_key hl hr; exact ⟨d, hd, trivial⟩) h
 exact ⟨a, c, l, h1, h2, h3, h4⟩
set_option maxRecDepth 100000 in
theorem rdf_tab {W : World} {row : List Value} {n f : Nat} (hl : row.length = 6) (h : RdF Tryz.prog W 96 row n f) : ∃ d, Tj.TabR W row d ∧ (d.ks.length ≤ n ∧ d.ac.length ≤ n ∧ d.df.ar.length ≤ n) := by
 have cz0 : Tryz.prog.cellsOf 9 = 1 := by kernel_rfl
 have cz1 : Tryz.prog.cellsOf 91 = 1 := by kernel_rfl
 have cz2 : Tryz.prog.cellsOf 29 = 1 := by kernel_rfl
 have cz3 : Tryz.prog.cellsOf 94 = 2 := by kernel_rfl
 have cz4 : Tryz.prog.cellsOf 3 = 1 := by kernel_rfl
 obtain ⟨_, nsc, fc, hfc, hnsc, hsumc, hrc⟩ := RdF.struct Tryz.underlying96 h
 replace hnsc : nsc.length = 5 := hnsc
 obtain ⟨c0, c1, c2, c3, c4, c5, rfl⟩ : ∃ c0 c1 c2 c3 c4 c5, row = [c0, c1, c2, c3, c4, c5] := by
  match row, hl with
  | [y0, y1, y2, y3, y4, y5], _ => exact ⟨y0, y1, y2, y3, y4, y5, rfl⟩
 obtain ⟨m0, m1, m2, m3, m4, rfl⟩ : ∃ m0 m1 m2 m3 m4, nsc = [m0, m1, m2, m3, m4] := by
  match nsc, hnsc with
  | [y0, y1, y2, y3, y4], _ => exact ⟨y0, y1, y2, y3, y4, rfl⟩
 have r0 := hrc 0 _ _ rfl rfl
 have r1 := hrc 1 _ _ rfl rfl
 have r2 := hrc 2 _ _ rfl rfl
 have r3 := hrc 3 _ _ rfl rfl
 have r4 := hrc 4 _ _ rfl rfl
 simp [cz0, cz1, cz2, cz3, cz4] at r0 r1 r2 r3 r4
 simp only [List.sum_cons, List.sum_nil] at hsumc
 clear hrc hnsc
 obtain ⟨s, es, ws⟩ := Rd.string Tryz.underlying9 r0.rd
 simp at es
 subst es
 obtain ⟨fa, fk, fl, efl, kfl, gfl, bfl⟩ := rdf_keys r1
 simp at efl
 subst efl
 obtain ⟨ia, ik, il, eil, kil, gil, bil⟩ := rdf_ints r2
 simp at eil
 subst eil
 obtain ⟨_, nqp, fqp, hfqp, hnqp, hsqp, hrqp⟩ := RdF.struct Tryz.underlying94 r3
 replace hnqp : nqp.length = 2 := hnqp
 obtain ⟨up0, up1, rfl⟩ : ∃ u0 u1, nqp = [u0, u1] := by
  match nqp, hnqp with
  | [y0, y1], _ => exact ⟨y0, y1, rfl⟩
 have tp0 := hrqp 0 _ _ rfl rfl
 have tp1 := hrqp 1 _ _ rfl rfl
 have dzp : Tryz.prog.cellsOf 3 = 1 := by kernel_rfl
 have dyp : Tryz.prog.cellsOf 92 = 1 := by kernel_rfl
 simp [dzp, dyp] at tp0 tp1
 simp only [List.sum_cons, List.sum_nil] at hsqp
 clear hrqp hnqp
 obtain ⟨a, ea, wa⟩ := Rd.int Tryz.underlying3 tp0.rd
 simp at ea
 subst ea
 replace wa := wf_b64F wa
 obtain ⟨ua, uk, ul, eul, kul, gul, bul⟩ := rdf_u32s tp1
 simp at eul
 subst eul
 obtain ⟨b, eb, wb⟩ := Rd.int Tryz.underlying3 r4.rd
 simp at eb
 subst eb
 replace wb := wf_b64F wb
 exact ⟨⟨s, fl, il, ⟨a, ul⟩, b⟩, ⟨_, _, _, rfl, ws, ⟨wa, wb⟩, gfl, gil, gul⟩, show fl.length ≤ n ∧ il.length ≤ n ∧ ul.length ≤ n by omega⟩
set_option maxRecDepth 100000 in
theorem rdf_tabs {W : World} {cs : List Value} {n f : Nat} (h : RdF Tryz.prog W 26 cs n f) : ∃ (a : Option Addr) (c : Nat) (l : List Tj.Tab), cs = [.slice a l.length c] ∧ (l.length ≤ c ∧ c ≤ maxLen) ∧ Rows W 6 Tj.TabR (.slice a l.length c) l ∧ l.length ≤ n ∧ ∀ d ∈ l, (fun d => d.ks.length ≤ n ∧ d.ac.length ≤ n ∧ d.df.ar.length ≤ n) d := by
 obtain ⟨a, c, l, h1, h2, h3, h4, h5⟩ := RdF.rowsB (R := Tj.TabR) (Q := fun d => d.ks.length ≤ n ∧ d.ac.length ≤ n ∧ d.df.ar.length ≤ n) Tryz.underlying26 (show Tryz.prog.cellsOf 96 = 6 by kernel_rfl) (by decide) (fun row _ hl hr => rdf_tab hl hr) h
 exact ⟨a, c, l, h1, h2, h3, h4, h5⟩
set_option maxRecDepth 100000 in
theorem rdf_case {W : World} {row : List Value} {n f : Nat} (hl : row.length = 3) (h : RdF Tryz.prog W 211 row n f) : ∃ d, Ps.CaseR W row d := by
 have cz0 : Tryz.prog.cellsOf 160 = 1 := by kernel_rfl
 have cz1 : Tryz.prog.cellsOf 3 = 1 := by kernel_rfl
 obtain ⟨_, nsc, fc, hfc, hnsc, hsumc, hrc⟩ := RdF.struct Tryz.underlying211 h
 replace hnsc : nsc.length = 3 := hnsc
 obtain ⟨c0, c1, c2, rfl⟩ : ∃ c0 c1 c2, row = [c0, c1, c2] := by
  match row, hl with
  | [y0, y1, y2], _ => exact ⟨y0, y1, y2, rfl⟩
 obtain ⟨m0, m1, m2, rfl⟩ : ∃ m0 m1 m2, nsc = [m0, m1, m2] := by
  match nsc, hnsc with
  | [y0, y1, y2], _ => exact ⟨y0, y1, y2, rfl⟩
 have r0 := hrc 0 _ _ rfl rfl
 have r1 := hrc 1 _ _ rfl rfl
 have r2 := hrc 2 _ _ rfl rfl
 simp [cz0, cz1] at r0 r1 r2
 simp only [List.sum_cons, List.sum_nil] at hsumc
 clear hrc hnsc
 obtain ⟨a, ea, wa⟩ := Rd.int Tryz.underlying160 r0.rd
 simp at ea
 subst ea
 replace wa := wf_u32F wa
 obtain ⟨b, eb, wb⟩ := Rd.int Tryz.underlying160 r1.rd
 simp at eb
 subst eb
 replace wb := wf_u32F wb
 obtain ⟨d, ed, wd⟩ := Rd.int Tryz.underlying3 r2.rd
 simp at ed
 subst ed
 replace wd := wf_b64F wd
 exact ⟨⟨a, b, d⟩, rfl, wa, wb⟩
set_option maxRecDepth 100000 in
theorem rdf_cases {W : World} {cs : List Value} {n f : Nat} (h : RdF Tryz.prog W 97 cs n f) : ∃ (a : Option Addr) (c : Nat) (l : List Ps.Case), cs = [.slice a l.length c] ∧ (l.length ≤ c ∧ c ≤ maxLen) ∧ Rows W 3 Ps.CaseR (.slice a l.length c) l ∧ l.length ≤ n := by
 obtain ⟨a, c, l, h1, h2, h3, h4, h5⟩ := RdF.rowsB (R := Ps.CaseR) (Q := fun _ => True) Tryz.underlying97 (show Tryz.prog.cellsOf 211 = 3 by kernel_rfl) (by decide) (fun row _ hl hr => by obtain ⟨d, hd⟩ := rdf_case hl hr; exact ⟨d, hd, trivial⟩) h
 exact ⟨a, c, l, h1, h2, h3, h4⟩
set_option maxRecDepth 100000 in
theorem rdf_state {W : World} {row : List Value} {n f : Nat} (hl : row.length = 7) (h : RdF Tryz.prog W 99 row n f) : ∃ d, Ps.StR W row d ∧ (d.ex.length ≤ n ∧ d.cs.length ≤ n) := by
 have cz0 : Tryz.prog.cellsOf 9 = 1 := by kernel_rfl
 have cz1 : Tryz.prog.cellsOf 29 = 1 := by kernel_rfl
 have cz2 : Tryz.prog.cellsOf 4 = 1 := by kernel_rfl
 have cz3 : Tryz.prog.cellsOf 88 = 2 := by kernel_rfl
 have cz4 : Tryz.prog.cellsOf 97 = 1 := by kernel_rfl
 have cz5 : Tryz.prog.cellsOf 3 = 1 := by kernel_rfl
 obtain ⟨_, nsc, fc, hfc, hnsc, hsumc, hrc⟩ := RdF.struct Tryz.underlying99 h
 replace hnsc : nsc.length = 6 := hnsc
 obtain ⟨c0, c1, c2, c3, c4, c5, c6, rfl⟩ : ∃ c0 c1 c2 c3 c4 c5 c6, row = [c0, c1, c2, c3, c4, c5, c6] := by
  match row, hl with
  | [y0, y1, y2, y3, y4, y5, y6], _ => exact ⟨y0, y1, y2, y3, y4, y5, y6, rfl⟩
 obtain ⟨m0, m1, m2, m3, m4, m5, rfl⟩ : ∃ m0 m1 m2 m3 m4 m5, nsc = [m0, m1, m2, m3, m4, m5] := by
  match nsc, hnsc with
  | [y0, y1, y2, y3, y4, y5], _ => exact ⟨y0, y1, y2, y3, y4, y5, rfl⟩
 have r0 := hrc 0 _ _ rfl rfl
 have r1 := hrc 1 _ _ rfl rfl
 have r2 := hrc 2 _ _ rfl rfl
 have r3 := hrc 3 _ _ rfl rfl
 have r4 := hrc 4 _ _ rfl rfl
 have r5 := hrc 5 _ _ rfl rfl
 simp [cz0, cz1, cz2, cz3, cz4, cz5] at r0 r1 r2 r3 r4 r5
 simp only [List.sum_cons, List.sum_nil] at hsumc
 clear hrc hnsc
 obtain ⟨s, es, ws⟩ := Rd.string Tryz.underlying9 r0.rd
 simp at es
 subst es
 obtain ⟨ia, ik, il, eil, kil, gil, bil⟩ := rdf_ints r1
 simp at eil
 subst eil
 obtain ⟨x, ex⟩ := Rd.bool Tryz.underlying4 r2.rd
 simp at ex
 subst ex
 obtain ⟨_, nsd, fd, hfd, hnsd, hsumd, hrd⟩ := RdF.struct Tryz.underlying88 r3
 replace hnsd : nsd.length = 2 := hnsd
 obtain ⟨o0, o1, rfl⟩ : ∃ o0 o1, nsd = [o0, o1] := by
  match nsd, hnsd with
  | [y0, y1], _ => exact ⟨y0, y1, rfl⟩
 have s0 := hrd 0 _ _ rfl rfl
 have s1 := hrd 1 _ _ rfl rfl
 have dz : Tryz.prog.cellsOf 3 = 1 := by kernel_rfl
 simp [dz] at s0 s1
 clear hrd hnsd hsumd
 obtain ⟨a, ea, wa⟩ := Rd.int Tryz.underlying3 s0.rd
 simp at ea
 subst ea
 replace wa := wf_b64F wa
 obtain ⟨b, eb, wb⟩ := Rd.int Tryz.underlying3 s1.rd
 simp at eb
 subst eb
 replace wb := wf_b64F wb
 obtain ⟨ca, ck, cl, ecl, kcl, gcl, bcl⟩ := rdf_cases r4
 simp at ecl
 subst ecl
 obtain ⟨d, ed, wd⟩ := Rd.int Tryz.underlying3 r5.rd
 simp at ed
 subst ed
 replace wd := wf_b64F wd
 exact ⟨⟨s, il, x, a, b, cl, d⟩, ⟨_, _, rfl, ws, gil.1, gcl⟩, show il.length ≤ n ∧ cl.length ≤ n by omega⟩
set_option maxRecDepth 100000 in
theorem rdf_states {W : World} {cs : List Value} {n f : Nat} (h : RdF Tryz.prog W 27 cs n f) : ∃ (a : Option Addr) (c : Nat) (l : List Ps.St), cs = [.slice a l.length c] ∧ (l.length ≤ c ∧ c ≤ maxLen) ∧ Rows W 7 Ps.StR (.slice a l.length c) l ∧ l.length ≤ n ∧ ∀ d ∈ l, (fun d => d.ex.length ≤ n ∧ d.cs.length ≤ n) d := by
 obtain ⟨a, c, l, h1, h2, h3, h4, h5⟩ := RdF.rowsB (R := Ps.StR) (Q := fun d => d.ex.length ≤ n ∧ d.cs.length ≤ n) Tryz.underlying27 (show Tryz.prog.cellsOf 99 = 7 by kernel_rfl) (by decide) (fun row _ hl hr => rdf_state hl hr) h
 exact ⟨a, c, l, h1, h2, h3, h4, h5⟩
theorem Tj.ctl_mono : ∀ {n : Nat} {w : World} {v : Value} {l : List Tj.CN} {d m : Nat}, Tj.Ctl n w v l d m → Tj.Ctl (n + 1) w v l d m
 | 0, _, _, _, _, _, h => h.elim
 | n + 1, w, v, l, d, m, h => by
  rw [Tj.ctl_succ] at h ⊢
  obtain ⟨ns, h1, h2⟩ := h
  refine ⟨ns, ?_, h2⟩
  rcases h1 with h1 | ⟨ad, c, g1, g2, g3, g4, g5⟩
  ·exact .inl h1
  ·exact .inr ⟨ad, c, g1, g2, g3, g4, fun i x hi => by
    obtain ⟨cs, k1, ⟨cv, tv, ev, q1, q2, q3, q4, q5⟩, k3⟩ := g5 i x hi
    exact ⟨cs, k1, ⟨cv, tv, ev, q1, q2, q3, Tj.ctl_mono q4, Tj.ctl_mono q5⟩, k3⟩⟩
theorem Tj.ctl_le {n k : Nat} {w : World} {v : Value} {l : List Tj.CN} {d m : Nat} (h : Tj.Ctl n w v l d m) (hk : n ≤ k) : Tj.Ctl k w v l d m := by
 induction k with
 | zero => obtain rfl : n = 0 := by omega
           exact h
 | succ k ih =>
  rcases Nat.lt_or_ge k n with h1 | h1
  ·obtain rfl : n = k + 1 := by omega
   exact h
  ·exact Tj.ctl_mono (ih h1)
theorem flat_len_le : ∀ (xs : List Tj.NT) (ms : List Nat), ms.length = xs.length → (∀ (i : Nat) (x : Tj.NT) (m : Nat), xs[i]? = some x → ms[i]? = some m → x.all.length ≤ m) → (Tj.flat xs).length ≤ ms.sum
 | [], ms, _, _ => by simp [Tj.flat]
 | x :: xs, [], h, _ => by simp at h
 | x :: xs, m :: ms, h, hq => by
  have h1 := hq 0 x m rfl rfl
  have h2 := flat_len_le xs ms (by simpa using h) (fun i y k hy hk => hq (i + 1) y k (by simpa using hy) (by simpa using hk))
  show ((x :: xs).flatMap Tj.NT.all).length ≤ _
  rw [List.flatMap_cons, List.length_append, List.sum_cons]
  have h3 : (xs.flatMap Tj.NT.all).length ≤ ms.sum := h2
  omega
set_option maxRecDepth 100000 in
theorem rdf_ctl {W : World} : ∀ (f : Nat) {cs : List Value} {n : Nat}, RdF Tryz.prog W 28 cs n f → ∃ (a : Option Addr) (k c : Nat) (l : List Tj.CN) (d m : Nat), cs = [.slice a k c] ∧ Tj.Ctl (f + 1) W (.slice a k c) l d m ∧ l.length + 1 ≤ n ∧ ∀ x ∈ l, x.c.length ≤ n := by
 intro f
 induction f using Nat.strongRecOn with
 | _ f ih =>
  intro cs n h
  obtain ⟨a, c, ds, ns, h1, _, h3, h4, h5, h6, h7⟩ := RdF.rows (R := Tj.NodeR f) (Q := fun x m => x.all.length ≤ m ∧ ∀ y ∈ x.all, y.c.length ≤ m) Tryz.underlying28 (show Tryz.prog.cellsOf 101 = 5 by kernel_rfl) (by decide) (fun row n f' hl hf _ h => by
   have cz0 : Tryz.prog.cellsOf 3 = 1 := by kernel_rfl
   have cz1 : Tryz.prog.cellsOf 86 = 1 := by kernel_rfl
   have cz2 : Tryz.prog.cellsOf 28 = 1 := by kernel_rfl
   obtain ⟨_, nsc, fc, hfc, hnsc, hsumc, hrc⟩ := RdF.struct Tryz.underlying101 h
   replace hnsc : nsc.length = 5 := hnsc
   obtain ⟨c0, c1, c2, c3, c4, rfl⟩ : ∃ c0 c1 c2 c3 c4, row = [c0, c1, c2, c3, c4] := by
    match row, hl with
    | [y0, y1, y2, y3, y4], _ => exact ⟨y0, y1, y2, y3, y4, rfl⟩
   obtain ⟨m0, m1, m2, m3, m4, rfl⟩ : ∃ m0 m1 m2 m3 m4, nsc = [m0, m1, m2, m3, m4] := by
    match nsc, hnsc with
    | [y0, y1, y2, y3, y4], _ => exact ⟨y0, y1, y2, y3, y4, rfl⟩
   have r0 := hrc 0 _ _ rfl rfl
   have r1 := hrc 1 _ _ rfl rfl
   have r2 := hrc 2 _ _ rfl rfl
   have r3 := hrc 3 _ _ rfl rfl
   have r4 := hrc 4 _ _ rfl rfl
   simp [cz0, cz1, cz2] at r0 r1 r2 r3 r4
   simp only [List.sum_cons, List.sum_nil] at hsumc
   clear hrc hnsc
   obtain ⟨a, ea, wa⟩ := Rd.int Tryz.underlying3 r0.rd
   simp at ea
   subst ea
   replace wa := wf_b64F wa
   obtain ⟨b, eb, wb⟩ := Rd.int Tryz.underlying3 r1.rd
   simp at eb
   subst eb
   replace wb := wf_b64F wb
   obtain ⟨xa, xk, xl, exl, kxl, gxl, bxl⟩ := rdf_exp r2
   simp at exl
   subst exl
   obtain ⟨ta, tk, tc, tl, td, tm, e3, g3, b3, q3⟩ := ih fc (by omega) r3
   obtain ⟨ea, ek, ec, el, ed, em, e4, g4, b4, q4⟩ := ih fc (by omega) r4
   simp at e3 e4
   subst e3 e4
   refine ⟨⟨⟨a, b, xl, tm, em⟩, tl, td, el, ed⟩, ⟨_, _, _, rfl, ⟨wa, wb⟩, gxl, Tj.ctl_le g3 (by omega), Tj.ctl_le g4 (by omega)⟩, ?_, ?_⟩
   ·show (_ :: (tl ++ el)).length ≤ n
    rw [List.length_cons, List.length_append]; omega
   ·intro y hy
    rcases List.mem_cons.1 hy with rfl | hy
    ·show xl.length ≤ n
     omega
    ·rcases List.mem_append.1 hy with hy | hy
     ·have := q3 y hy; omega
     ·have := q4 y hy; omega) h
  refine ⟨a, ds.length, c, Tj.flat ds, Tj.deep ds, ds.length, h1, Tj.ctl_succ.2 ⟨ds, h3, rfl, rfl, rfl⟩, ?_, ?_⟩
  ·have := flat_len_le ds ns h4 (fun i x m hx hm => (h7 i x m hx hm).1); omega
  ·intro y hy
   obtain ⟨x, hx, hy⟩ := List.mem_flatMap.1 hy
   obtain ⟨i, hi⟩ := List.getElem?_of_mem hx
   have hlt := (List.getElem?_eq_some_iff.1 hi).1
   have hni : ns[i]? = some (ns[i]'(by omega)) := gE (by omega)
   have h8 := (h7 i x _ hi hni).2 y hy
   have h9 := sum_mem (List.mem_of_getElem? hni)
   omega
set_option maxRecDepth 100000 in
theorem rdf_prog {W : World} {row : List Value} {n f : Nat} (hl : row.length = 9) (h : RdF Tryz.prog W 31 row n f) (hn : n ≤ 1048576) : ∃ (p : Pg.PV) (F : Tj.FP), row = [p.c0, p.c1, p.c2, p.c3, p.c4, p.c5, p.c6, p.c7, p.c8] ∧ Tj.IsG W p F := by
 have cz0 : Tryz.prog.cellsOf 9 = 1 := by kernel_rfl
 have cz1 : Tryz.prog.cellsOf 22 = 1 := by kernel_rfl
 have cz2 : Tryz.prog.cellsOf 23 = 1 := by kernel_rfl
 have cz3 : Tryz.prog.cellsOf 24 = 1 := by kernel_rfl
 have cz4 : Tryz.prog.cellsOf 25 = 1 := by kernel_rfl
 have cz5 : Tryz.prog.cellsOf 26 = 1 := by kernel_rfl
 have cz6 : Tryz.prog.cellsOf 27 = 1 := by kernel_rfl
 have cz7 : Tryz.prog.cellsOf 28 = 1 := by kernel_rfl
 have cz8 : Tryz.prog.cellsOf 29 = 1 := by kernel_rfl
 obtain ⟨_, nsc, fc, hfc, hnsc, hsumc, hrc⟩ := RdF.struct Tryz.underlying31 h
 replace hnsc : nsc.length = 9 := hnsc
 obtain ⟨c0, c1, c2, c3, c4, c5, c6, c7, c8, rfl⟩ : ∃ c0 c1 c2 c3 c4 c5 c6 c7 c8, row = [c0, c1, c2, c3, c4, c5, c6, c7, c8] := by
  match row, hl with
  | [y0, y1, y2, y3, y4, y5, y6, y7, y8], _ => exact ⟨y0, y1, y2, y3, y4, y5, y6, y7, y8, rfl⟩
 obtain ⟨m0, m1, m2, m3, m4, m5, m6, m7, m8, rfl⟩ : ∃ m0 m1 m2 m3 m4 m5 m6 m7 m8, nsc = [m0, m1, m2, m3, m4, m5, m6, m7, m8] := by
  match nsc, hnsc with
  | [y0, y1, y2, y3, y4, y5, y6, y7, y8], _ => exact ⟨y0, y1, y2, y3, y4, y5, y6, y7, y8, rfl⟩
 have r0 := hrc 0 _ _ rfl rfl
 have r1 := hrc 1 _ _ rfl rfl
 have r2 := hrc 2 _ _ rfl rfl
 have r3 := hrc 3 _ _ rfl rfl
 have r4 := hrc 4 _ _ rfl rfl
 have r5 := hrc 5 _ _ rfl rfl
 have r6 := hrc 6 _ _ rfl rfl
 have r7 := hrc 7 _ _ rfl rfl
 have r8 := hrc 8 _ _ rfl rfl
 simp [cz0, cz1, cz2, cz3, cz4, cz5, cz6, cz7, cz8] at r0 r1 r2 r3 r4 r5 r6 r7 r8
 simp only [List.sum_cons, List.sum_nil] at hsumc
 clear hrc hnsc
 obtain ⟨s, es, ws⟩ := Rd.string Tryz.underlying9 r0.rd
 obtain ⟨a1, k1, hs, e1, q1, g1, b1, z1⟩ := rdf_headers r1
 obtain ⟨a2, k2, md, e2, q2, g2, b2⟩ := rdf_fields r2
 obtain ⟨a3, k3, rs, e3, q3, g3, b3⟩ := rdf_regs r3
 obtain ⟨a4, k4, ac, e4, q4, g4, b4, z4⟩ := rdf_acts r4
 obtain ⟨a5, k5, ts, e5, q5, g5, b5, z5⟩ := rdf_tabs r5
 obtain ⟨a6, k6, ss, e6, q6, g6, b6, z6⟩ := rdf_states r6
 obtain ⟨a7, n7, k7, ct, nd, nm, e7, g7, b7, z7⟩ := rdf_ctl _ r7
 obtain ⟨a8, k8, dp, e8, q8, g8, b8⟩ := rdf_ints r8
 simp at es e1 e2 e3 e4 e5 e6 e7 e8
 subst es e1 e2 e3 e4 e5 e6 e7 e8
 refine ⟨⟨_, _, _, _, _, _, _, _, _⟩, ⟨s, ⟨hs, md, dp⟩, rs, ac, ts, ss, ct, nd⟩, rfl, ⟨⟨⟨rfl, ws⟩, ⟨⟨⟨s, rfl⟩, g1, g2, ⟨_, _, _, rfl⟩, ⟨_, _, _, rfl⟩, ⟨_, _, _, rfl⟩, ⟨_, _, _, rfl⟩, ⟨_, _, _, rfl⟩, g8.1⟩, g6⟩, g3, g4, g5, ⟨_, _, g7⟩, g8.2⟩, ?_, ⟨_, _, _, rfl, q8.1, by have := q8.2; unfold maxLen at this; omega⟩⟩⟩
 show ct.length ≤ 1048576
 omega
set_option maxRecDepth 100000 in
theorem rdf_chip {W : World} {row : List Value} {n f : Nat} (hl : row.length = 8) (h : RdF Tryz.prog W 33 row n f) : ∃ s0 s1 s2 s3 s4 s5 s6 s7 : Int, row = [.int .i64 s0, .int .i64 s1, .int .i64 s2, .int .i64 s3, .int .i64 s4, .int .i64 s5, .int .i64 s6, .int .i64 s7] := by
 have cz0 : Tryz.prog.cellsOf 3 = 1 := by kernel_rfl
 obtain ⟨_, nsc, fc, hfc, hnsc, hsumc, hrc⟩ := RdF.struct Tryz.underlying33 h
 replace hnsc : nsc.length = 8 := hnsc
 obtain ⟨c0, c1, c2, c3, c4, c5, c6, c7, rfl⟩ : ∃ c0 c1 c2 c3 c4 c5 c6 c7, row = [c0, c1, c2, c3, c4, c5, c6, c7] := by
  match row, hl with
  | [y0, y1, y2, y3, y4, y5, y6, y7], _ => exact ⟨y0, y1, y2, y3, y4, y5, y6, y7, rfl⟩
 obtain ⟨m0, m1, m2, m3, m4, m5, m6, m7, rfl⟩ : ∃ m0 m1 m2 m3 m4 m5 m6 m7, nsc = [m0, m1, m2, m3, m4, m5, m6, m7] := by
  match nsc, hnsc with
  | [y0, y1, y2, y3, y4, y5, y6, y7], _ => exact ⟨y0, y1, y2, y3, y4, y5, y6, y7, rfl⟩
 have r0 := hrc 0 _ _ rfl rfl
 have r1 := hrc 1 _ _ rfl rfl
 have r2 := hrc 2 _ _ rfl rfl
 have r3 := hrc 3 _ _ rfl rfl
 have r4 := hrc 4 _ _ rfl rfl
 have r5 := hrc 5 _ _ rfl rfl
 have r6 := hrc 6 _ _ rfl rfl
 have r7 := hrc 7 _ _ rfl rfl
 simp [cz0] at r0 r1 r2 r3 r4 r5 r6 r7
 simp only [List.sum_cons, List.sum_nil] at hsumc
 clear hrc hnsc
 obtain ⟨s0, e0, _⟩ := Rd.int Tryz.underlying3 r0.rd
 obtain ⟨s1, e1, _⟩ := Rd.int Tryz.underlying3 r1.rd
 obtain ⟨s2, e2, _⟩ := Rd.int Tryz.underlying3 r2.rd
 obtain ⟨s3, e3, _⟩ := Rd.int Tryz.underlying3 r3.rd
 obtain ⟨s4, e4, _⟩ := Rd.int Tryz.underlying3 r4.rd
 obtain ⟨s5, e5, _⟩ := Rd.int Tryz.underlying3 r5.rd
 obtain ⟨s6, e6, _⟩ := Rd.int Tryz.underlying3 r6.rd
 obtain ⟨s7, e7, _⟩ := Rd.int Tryz.underlying3 r7.rd
 simp at e0 e1 e2 e3 e4 e5 e6 e7
 subst e0 e1 e2 e3 e4 e5 e6 e7
 exact ⟨s0, s1, s2, s3, s4, s5, s6, s7, rfl⟩
set_option maxRecDepth 100000 in
theorem case_take {v : Value} {W : World} {base : Nat} {r : Reach} {H : Type} {enc : TypeId × Value → H} {d : DataW H} {ps : List MemPlace} (ok : Value.okWide Tryz.prog W r base 36 v) (h : DataW.Trod enc Tryz.prog W 0 (fun _ => true) true 36 v d ps) (hb : Rows.uptoBulk d ≤ 1048576) :
 ∃ (p : Pg.PV) (F : Tj.FP) (s0 s1 s2 s3 s4 s5 s6 s7 : Int) (B : Nat), v = .agg #[p.c0, p.c1, p.c2, p.c3, p.c4, p.c5, p.c6, p.c7, p.c8, .int .i64 s0, .int .i64 s1, .int .i64 s2, .int .i64 s3, .int .i64 s4, .int .i64 s5, .int .i64 s6, .int .i64 s7, .int .u16 (B : Int)] ∧ Tj.IsG W p F ∧ B ≤ 65535 := by
 have hc : Tryz.prog.cellsOf 36 = 18 := by kernel_rfl
 obtain ⟨row, rfl, hl⟩ := ok_struct Tryz.underlying36 ok
 rw [hc] at hl
 obtain ⟨f, hf⟩ := h
 simp only [Value.cells, List.toList_toArray] at hf
 have h : RdF Tryz.prog W 36 row (Rows.uptoBulk d) f := ⟨H, enc, _, _, _, hf, Nat.le_refl _⟩
 clear hf ok
 have cz0 : Tryz.prog.cellsOf 31 = 9 := by kernel_rfl
 have cz1 : Tryz.prog.cellsOf 33 = 8 := by kernel_rfl
 have cz2 : Tryz.prog.cellsOf 34 = 1 := by kernel_rfl
 obtain ⟨_, nsc, fc, hfc, hnsc, hsumc, hrc⟩ := RdF.struct Tryz.underlying36 h
 replace hnsc : nsc.length = 3 := hnsc
 obtain ⟨c0, c1, c2, c3, c4, c5, c6, c7, c8, c9, c10, c11, c12, c13, c14, c15, c16, c17, rfl⟩ : ∃ c0 c1 c2 c3 c4 c5 c6 c7 c8 c9 c10 c11 c12 c13 c14 c15 c16 c17, row = [c0, c1, c2, c3, c4, c5, c6, c7, c8, c9, c10, c11, c12, c13, c14, c15, c16, c17] := by
  match row, hl with
  | [y0, y1, y2, y3, y4, y5, y6, y7, y8, y9, y10, y11, y12, y13, y14, y15, y16, y17], _ => exact ⟨y0, y1, y2, y3, y4, y5, y6, y7, y8, y9, y10, y11, y12, y13, y14, y15, y16, y17, rfl⟩
 obtain ⟨m0, m1, m2, rfl⟩ : ∃ m0 m1 m2, nsc = [m0, m1, m2] := by
  match nsc, hnsc with
  | [y0, y1, y2], _ => exact ⟨y0, y1, y2, rfl⟩
 have r0 := hrc 0 _ _ rfl rfl
 have r1 := hrc 1 _ _ rfl rfl
 have r2 := hrc 2 _ _ rfl rfl
 simp [cz0, cz1, cz2] at r0 r1 r2
 simp only [List.sum_cons, List.sum_nil] at hsumc
 clear hrc hnsc
 obtain ⟨p, F, e0, g0⟩ := rdf_prog rfl r0 (by omega)
 obtain ⟨s0, s1, s2, s3, s4, s5, s6, s7, e1⟩ := rdf_chip rfl r1
 obtain ⟨b, e2, hw⟩ := Rd.int Tryz.underlying34 r2.rd
 simp at e0 e1 e2
 obtain ⟨rfl, rfl, rfl, rfl, rfl, rfl, rfl, rfl, rfl⟩ := e0
 obtain ⟨rfl, rfl, rfl, rfl, rfl, rfl, rfl, rfl⟩ := e1
 subst e2
 have w1 : 0 ≤ b ∧ b ≤ 65535 := by
  simp [Lit.wf, IntKind.min, IntKind.max, IntKind.bits, IntKind.signed] at hw; omega
 obtain ⟨B, rfl⟩ := Int.eq_ofNat_of_zero_le w1.1
 exact ⟨p, F, s0, s1, s2, s3, s4, s5, s6, s7, B, rfl, g0, by omega⟩
set_option maxRecDepth 100000 in
theorem stage_take {v : Value} {W : World} {base : Nat} {r : Reach} {H : Type} {enc : TypeId × Value → H} {d : DataW H} {ps : List MemPlace} (ok : Value.okWide Tryz.prog W r base 29 v) (h : DataW.Trod enc Tryz.prog W 0 (fun _ => true) true 29 v d ps) : ∃ σ : List Int, Rows W 1 Pl.IrR v σ := by
 obtain ⟨a1, len1, cap1, rfl⟩ := Go.WideShapes.okWide_slice Tryz.underlying29 ok
 obtain ⟨f, hf⟩ := h
 have h : RdF Tryz.prog W 29 [.slice a1 len1 cap1] (Rows.uptoBulk d) f := ⟨H, enc, _, _, _, hf, Nat.le_refl _⟩
 obtain ⟨a, c, l, h1, h2, h3, h4, _⟩ := RdF.rowsB (R := Pl.IrR) (Q := fun _ => True) Tryz.underlying29 (show Tryz.prog.cellsOf 3 = 1 by kernel_rfl) (by decide) (fun row _ _ hr => by
  obtain ⟨x, h3, h4⟩ := Rd.int Tryz.underlying3 hr.rd
  exact ⟨x, h3, trivial⟩) h
 simp at h1
 obtain ⟨rfl, rfl, rfl⟩ := h1
 exact ⟨l, h3⟩
end Go.Proofs.YtkiafiaodockbaaGreat
