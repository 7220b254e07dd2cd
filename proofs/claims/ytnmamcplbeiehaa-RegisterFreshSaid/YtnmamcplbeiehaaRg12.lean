/- Registers: programs, registers and contents that came in; the law Checks, walked. No condition. -/
import Derived.Test.YtnmamcplbeiehaaRg11
import Derived.Test.YtnmamcplbeiehaaRead
import Derived.WideShapes
namespace Go.Proofs.Ytnmamcplbeiehaa
open Go.RowKit

theorem ns_rows {k : IntKind} {w : World} {v : Value} {ds : List Int} {p : Int → Prop} (h : Rows w 1 (fun _ cs d => cs = [.int k d] ∧ p d) v ds) : Ns k w v ds ∧ ∀ x ∈ ds, p x := by
  rcases h with ⟨rfl, rfl⟩ | ⟨ad, c, rfl, h2, h3, h5, h4⟩
  · exact ⟨⟨⟨rfl, (by simp), .inl ⟨rfl, rfl⟩⟩, Nat.zero_le _⟩, by simp⟩
  · refine ⟨⟨⟨by simp, by intro u hu; simp at hu; obtain ⟨x, _, rfl⟩ := hu; rfl, .inr ⟨ad, c, rfl, fun j u hj => ?_⟩⟩, Nat.le_trans h2 h3⟩, fun x hx => ?_⟩
    · rw [List.getElem?_map] at hj
      cases hd : ds[j]? with
      | none => rw [hd] at hj; simp at hj
      | some d =>
        rw [hd] at hj
        simp only [Option.map_some, Option.some.injEq] at hj
        subst hj
        obtain ⟨cs, _, ⟨rfl, _⟩, hc⟩ := h4 j d hd
        have h6 := hc 0 _ rfl
        have h7 := h5 (by intro e; subst e; simp at hd)
        rw [h7]
        rw [show (⟨ad.block, ad.off, none⟩ : Addr).add j = ⟨ad.block, ad.off + j * 1 + 0, none⟩ by simp [Addr.add]]
        exact h6
    · obtain ⟨i, hi⟩ := List.mem_iff_getElem?.1 hx
      obtain ⟨_, _, ⟨_, hp⟩, _⟩ := h4 i x hi
      exact hp
theorem wf_u32r {x : Int} (h : (Lit.int .u32 x).wf = true) : U32 x := by
  simp [Lit.wf, IntKind.min, IntKind.max, IntKind.bits, IntKind.signed] at h; unfold U32; omega
theorem wf_i64r {x : Int} (h : (Lit.int .i64 x).wf = true) : Rg.B64 x := by
  simp [Lit.wf, IntKind.min, IntKind.max, IntKind.bits, IntKind.signed] at h; unfold Rg.B64; omega
theorem rd_sl {P : Program} {W : World} {t e : TypeId} {cs : List Value} (hu : P.underlying t = some (.slice e)) (h : Rd P W t cs) : ∃ a n c, cs = [.slice a n c] := by
  rcases h.slice hu with rfl | ⟨a, len, cap, rfl, _⟩
  · exact ⟨_, _, _, rfl⟩
  · exact ⟨_, _, _, rfl⟩
set_option maxRecDepth 100000 in
theorem rd_u32s {W : World} {cs : List Value} (h : Rd Try.prog W 90 cs) : ∃ v l, cs = [v] ∧ Ns .u32 W v l ∧ ∀ x ∈ l, U32 x := by
  obtain ⟨v, l, h1, h2⟩ := Rd.rows (R := fun _ cs (d : Int) => cs = [.int .u32 d] ∧ U32 d) Try.underlying90 (show Try.prog.cellsOf 23 = 1 by kernel_rfl) (by decide) (fun row _ hr => by
    obtain ⟨n, h3, h4⟩ := Rd.int Try.underlying23 hr
    exact ⟨n, h3, wf_u32r h4⟩) h
  exact ⟨v, l, h1, ns_rows h2⟩
set_option maxRecDepth 100000 in
theorem rd_table {W : World} {cs : List Value} (h : Rd Try.prog W 77 cs) : ∃ v l, cs = [v] ∧ Rows W 1 RowR v l :=
  Rd.rows Try.underlying77 (show Try.prog.cellsOf 90 = 1 by kernel_rfl) (by decide) (fun row _ hr => by
    obtain ⟨v, l, h1, h2, h3⟩ := rd_u32s hr
    exact ⟨l, v, h1, h2, h3⟩) h
set_option maxRecDepth 100000 in
theorem rd_reg {W : World} {cs : List Value} (hl : cs.length = 3) (h : Rd Try.prog W 64 cs) : ∃ r : Rg.Reg, Rg.RegR W cs r := by
  have z0 : Try.prog.cellsOf 9 = 1 := by kernel_rfl
  have z1 : Try.prog.cellsOf 3 = 1 := by kernel_rfl
  obtain ⟨_, hr⟩ := Rd.struct Try.underlying64 h
  match cs, hl with
  | [c0, c1, c2], _ =>
    have r0 := hr 0 _ rfl
    have r1 := hr 1 _ rfl
    have r2 := hr 2 _ rfl
    simp [z0, z1] at r0 r1 r2
    obtain ⟨s, e0, hs⟩ := Rd.string Try.underlying9 r0
    obtain ⟨a, e1, h1⟩ := Rd.int Try.underlying3 r1
    obtain ⟨b, e2, h2⟩ := Rd.int Try.underlying3 r2
    simp at e0 e1 e2
    subst e0; subst e1; subst e2
    exact ⟨⟨s, a, b⟩, rfl, hs, wf_i64r h1, wf_i64r h2⟩
set_option maxRecDepth 100000 in
theorem reg_take {v : Value} {W : World} {base : Nat} {r : Reach} {H : Type} {enc : TypeId × Value → H} {d : DataW H} {ps : List MemPlace}
    (ok : Value.okWide Try.prog W r base 64 v) (h : DataW.Trod enc Try.prog W 0 (fun _ => true) true 64 v d ps) : ∃ g : Rg.Reg, v = .agg #[.string g.nm, .int .i64 g.w, .int .i64 g.s] ∧ g.nm.size ≤ maxLen := by
  have hc : Try.prog.cellsOf 64 = 3 := by kernel_rfl
  obtain ⟨l, rfl, hl⟩ := ok_struct Try.underlying64 ok
  rw [hc] at hl
  have hrd := Rd.of h
  simp only [Value.cells, List.toList_toArray] at hrd
  obtain ⟨g, rfl, h2, _⟩ := rd_reg hl hrd
  exact ⟨g, rfl, h2⟩
set_option maxRecDepth 100000 in
theorem rprog_take {v : Value} {W : World} {base : Nat} {r : Reach} {H : Type} {enc : TypeId × Value → H} {d : DataW H} {ps : List MemPlace}
    (ok : Value.okWide Try.prog W r base 76 v) (h : DataW.Trod enc Try.prog W 0 (fun _ => true) true 76 v d ps) :
    ∃ (s : ByteArray) (a1 : Option Addr) (n1 m1 : Nat) (a2 : Option Addr) (n2 m2 : Nat) (a3 : Option Addr) (m3 : Nat) (a4 : Option Addr) (n4 m4 : Nat) (a5 : Option Addr) (n5 m5 : Nat) (a6 : Option Addr) (n6 m6 : Nat) (a7 : Option Addr) (n7 m7 : Nat) (a8 : Option Addr) (n8 m8 : Nat) (rs : List Rg.Reg),
      v = .agg #[.string s, .slice a1 n1 m1, .slice a2 n2 m2, .slice a3 rs.length m3, .slice a4 n4 m4, .slice a5 n5 m5, .slice a6 n6 m6, .slice a7 n7 m7, .slice a8 n8 m8] ∧ Rows W 3 Rg.RegR (.slice a3 rs.length m3) rs := by
  have hc : Try.prog.cellsOf 76 = 9 := by kernel_rfl
  have z0 : Try.prog.cellsOf 9 = 1 := by kernel_rfl
  have z1 : Try.prog.cellsOf 67 = 1 := by kernel_rfl
  have z2 : Try.prog.cellsOf 68 = 1 := by kernel_rfl
  have z3 : Try.prog.cellsOf 69 = 1 := by kernel_rfl
  have z4 : Try.prog.cellsOf 70 = 1 := by kernel_rfl
  have z5 : Try.prog.cellsOf 71 = 1 := by kernel_rfl
  have z6 : Try.prog.cellsOf 72 = 1 := by kernel_rfl
  have z7 : Try.prog.cellsOf 73 = 1 := by kernel_rfl
  have z8 : Try.prog.cellsOf 74 = 1 := by kernel_rfl
  obtain ⟨l, rfl, hl⟩ := ok_struct Try.underlying76 ok
  rw [hc] at hl
  have hrd := Rd.of h
  simp only [Value.cells, List.toList_toArray] at hrd
  obtain ⟨_, hr⟩ := Rd.struct Try.underlying76 hrd
  match l, hl with
  | [c0, c1, c2, c3, c4, c5, c6, c7, c8], _ =>
    have r0 := hr 0 _ rfl
    have r1 := hr 1 _ rfl
    have r2 := hr 2 _ rfl
    have r3 := hr 3 _ rfl
    have r4 := hr 4 _ rfl
    have r5 := hr 5 _ rfl
    have r6 := hr 6 _ rfl
    have r7 := hr 7 _ rfl
    have r8 := hr 8 _ rfl
    simp [z0, z1, z2, z3, z4, z5, z6, z7, z8] at r0 r1 r2 r3 r4 r5 r6 r7 r8
    obtain ⟨s, e0, _⟩ := Rd.string Try.underlying9 r0
    obtain ⟨a1, n1, c1, h1⟩ := rd_sl Try.underlying67 r1
    obtain ⟨a2, n2, c2, h2⟩ := rd_sl Try.underlying68 r2
    obtain ⟨v3, rs, e3, g3⟩ := Rd.rows (R := Rg.RegR) Try.underlying69 (show Try.prog.cellsOf 64 = 3 by kernel_rfl) (by decide) (fun row hl hr => rd_reg hl hr) r3
    obtain ⟨a4, n4, c4, h4⟩ := rd_sl Try.underlying70 r4
    obtain ⟨a5, n5, c5, h5⟩ := rd_sl Try.underlying71 r5
    obtain ⟨a6, n6, c6, h6⟩ := rd_sl Try.underlying72 r6
    obtain ⟨a7, n7, c7, h7⟩ := rd_sl Try.underlying73 r7
    obtain ⟨a8, n8, c8, h8⟩ := rd_sl Try.underlying74 r8
    obtain ⟨a3, m3, rfl, _, _⟩ := g3.slice
    simp at e0 h1 h2 e3 h4 h5 h6 h7 h8
    subst e0; subst h1; subst h2; subst e3; subst h4; subst h5; subst h6; subst h7; subst h8
    exact ⟨s, a1, n1, c1, a2, n2, c2, a3, m3, a4, n4, c4, a5, n5, c5, a6, n6, c6, a7, n7, c7, a8, n8, c8, rs, rfl, g3⟩
set_option maxRecDepth 100000 in
theorem tab_take {v : Value} {W : World} {H : Type} {enc : TypeId × Value → H} {d : DataW H} {ps : List MemPlace} {base : Nat} {r : Reach} (ok : Value.okWide Try.prog W r base 77 v)
    (h : DataW.Trod enc Try.prog W 0 (fun _ => true) true 77 v d ps) : ∃ ls, Rows W 1 RowR v ls := by
  obtain ⟨a, n, c, rfl⟩ := Go.WideShapes.okWide_slice Try.underlying77 ok
  have hrd := Rd.of h
  simp only [Value.cells, List.toList_toArray] at hrd
  obtain ⟨u, l, h1, h2⟩ := rd_table hrd
  simp at h1
  subst h1
  exact ⟨l, h2⟩

set_option maxRecDepth 8000 in
set_option maxHeartbeats 4000000 in
theorem registerChecks_walk (v0 : Value) (W : World) {b0 : Nat} {r0 : Reach} {H : Type} {enc : TypeId × Value → H} {d0 : DataW H} {p0 : List MemPlace}
    (ok0 : Value.okWide Try.prog W r0 b0 64 v0) (h0 : DataW.Trod enc Try.prog W 0 (fun _ => true) true 64 v0 d0 p0) :
    Calls Try.prog 8 #[v0] W (Rets W (.bool true)) := by
  obtain ⟨r, rfl, hn⟩ := reg_take ok0 h0
  clear ok0 h0 d0
  obtain ⟨c, hc⟩ : ∃ c, c = Rg.chk r := ⟨_, rfl⟩
  have HCK : Hid (∀ w, Calls Try.prog 27 #[.agg #[.string r.nm, .int .i64 r.w, .int .i64 r.s]] w (Rets w (.int .i64 c))) := Lib.hid (fun w => by have h := rcheck_any r hn w; rw [← hc] at h; exact h)
  have HRK : Hid (∀ w, Calls Try.prog 28 #[.agg #[.string r.nm, .int .i64 r.w, .int .i64 r.s]] w (Rets w (.int .i64 c))) := Lib.hid (fun w => by have h := refcheck_any r hn w; rw [← hc] at h; exact h)
  have bb := alloc_heap W (.cells #[.string r.nm, .int .i64 r.w, .int .i64 r.s] 64)
  have k0 := alw (cell_of (o := 0) bb)
  have k1 := alw (cell_of (o := 1) bb)
  have k2 := alw (cell_of (o := 2) bb)
  clear bb
  unfold maxLen at hn
  clear hc
  by_cases h1 : r.nm.size ≤ 100
  · go_enter Try.func8, Try.ntmps8
    go_wp2_with fail
    refine wp_region_later (by kernel_rfl) (by kernel_rfl) (Ext.refl _) ?_
    repeat (go_big_quiet_step (first | (go_at_call 27; exact Rets.later_at (HCK.out _)) | (go_at_call 28; exact Rets.later_at (HRK.out _)) | (go_at_call 26; exact Rets.later_at (rworks_any _))))
    refine wpQuiet_nil ?_
    intro w1 hxw1
    have sw1 := Step.mk hxw1
    go_wp2_with fail
    go_ret
    exact ⟨rfl, grows⟩
  · go_enter Try.func8, Try.ntmps8
    go_wp2_with fail
    refine (rworks_any _).mono ?_
    rintro e w1 ⟨rfl, x1⟩
    have s1 := Step.mk x1
    go_wp2_with fail
    go_ret
    exact ⟨rfl, grows⟩
end Go.Proofs.Ytnmamcplbeiehaa
