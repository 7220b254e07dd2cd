/- Environments that came in; the example of the chapter, walked. No condition. -/
import Derived.Test.YtdgepbolfflidaaEqE
namespace Go.Proofs.Ytdgepbolfflidaa
open Go.RowKit

def Pg.CapP (p : Pg.PV) : Prop := ∃ a n c, p.c8 = .slice a n c ∧ n ≤ c ∧ c ≤ 9223372036854775807
theorem ns_rows {k : IntKind} {w : World} {v : Value} {ds : List Int} {p : Int → Prop} (h : Rows w 1 (fun _ cs d => cs = [.int k d] ∧ p d) v ds) : (Ns k w v ds ∧ ∀ x ∈ ds, p x) ∧ ∃ a n c, v = .slice a n c ∧ n ≤ c ∧ c ≤ maxLen := by
  rcases h with ⟨rfl, rfl⟩ | ⟨ad, c, rfl, h2, h3, h5, h4⟩
  · exact ⟨⟨⟨⟨rfl, (by simp), .inl ⟨rfl, rfl⟩⟩, Nat.zero_le _⟩, by simp⟩, _, _, _, rfl, Nat.le_refl _, Nat.zero_le _⟩
  · refine ⟨⟨⟨⟨by simp, by intro u hu; simp at hu; obtain ⟨x, _, rfl⟩ := hu; rfl, .inr ⟨ad, c, rfl, fun j u hj => ?_⟩⟩, Nat.le_trans h2 h3⟩, fun x hx => ?_⟩, _, _, _, rfl, h2, h3⟩
    · rw [List.getElem?_map] at hj
      cases hd : ds[j]? with
      | none => rw [hd] at hj; simp at hj
      | some d =>
        rw [hd] at hj
        simp only [Option.map_some, Option.some.injEq] at hj
        subst hj
        obtain ⟨cs, _, ⟨rfl, _⟩, hc⟩ := h4 j d hd
        have h6 := hc 0 _ rfl
        have h7 := h5 (by intro e; subst e; simp at hd)
        rw [h7]
        rw [show (⟨ad.block, ad.off, none⟩ : Addr).add j = ⟨ad.block, ad.off + j * 1 + 0, none⟩ by simp [Addr.add]]
        exact h6
    · obtain ⟨i, hi⟩ := List.mem_iff_getElem?.1 hx
      obtain ⟨_, _, ⟨_, hp⟩, _⟩ := h4 i x hi
      exact hp
theorem bs_rows {w : World} {v : Value} {ds : List Bool} (h : Rows w 1 (fun _ cs d => cs = [.bool d]) v ds) : Bs w v ds := by
  rcases h with ⟨rfl, rfl⟩ | ⟨ad, c, rfl, h2, h3, h5, h4⟩
  · exact ⟨⟨rfl, (by simp), .inl ⟨rfl, rfl⟩⟩, Nat.zero_le _⟩
  · refine ⟨⟨by simp, by intro u hu; rw [List.mem_map] at hu; obtain ⟨x, _, rfl⟩ := hu; rfl, .inr ⟨ad, c, rfl, fun j u hj => ?_⟩⟩, Nat.le_trans h2 h3⟩
    rw [List.getElem?_map] at hj
    cases hd : ds[j]? with
    | none => rw [hd] at hj; simp at hj
    | some d =>
      rw [hd] at hj
      simp only [Option.map_some, Option.some.injEq] at hj
      subst hj
      obtain ⟨cs, _, rfl, hc⟩ := h4 j d hd
      have h6 := hc 0 _ rfl
      have h7 := h5 (by intro e; subst e; simp at hd)
      rw [h7]
      rw [show (⟨ad.block, ad.off, none⟩ : Addr).add j = ⟨ad.block, ad.off + j * 1 + 0, none⟩ by simp [Addr.add]]
      exact h6
theorem wf_u32r {x : Int} (h : (Lit.int .u32 x).wf = true) : U32 x := by
  simp [Lit.wf, IntKind.min, IntKind.max, IntKind.bits, IntKind.signed] at h; unfold U32; omega
theorem rd_sl {P : Program} {W : World} {t e : TypeId} {cs : List Value} (hu : P.underlying t = some (.slice e)) (h : Rd P W t cs) : ∃ a n c, cs = [.slice a n c] := by
  rcases h.slice hu with rfl | ⟨a, len, cap, rfl, _⟩
  · exact ⟨_, _, _, rfl⟩
  · exact ⟨_, _, _, rfl⟩
set_option maxRecDepth 100000 in
theorem rd_u32s {W : World} {cs : List Value} (h : Rd Try.prog W 44 cs) : ∃ v l, cs = [v] ∧ Ns .u32 W v l ∧ ∀ x ∈ l, U32 x := by
  obtain ⟨v, l, h1, h2⟩ := Rd.rows (R := fun _ cs (d : Int) => cs = [.int .u32 d] ∧ U32 d) Try.underlying44 (show Try.prog.cellsOf 39 = 1 by kernel_rfl) (by decide) (fun row _ hr => by
    obtain ⟨n, h3, h4⟩ := Rd.int Try.underlying39 hr
    exact ⟨n, h3, wf_u32r h4⟩) h
  exact ⟨v, l, h1, (ns_rows h2).1⟩
set_option maxRecDepth 100000 in
theorem rd_ints {W : World} {cs : List Value} (h : Rd Try.prog W 59 cs) : ∃ v l, cs = [v] ∧ Ns .i64 W v l ∧ ∃ a n c, v = .slice a n c ∧ n ≤ c ∧ c ≤ maxLen := by
  obtain ⟨v, l, h1, h2⟩ := Rd.rows (R := fun _ cs (d : Int) => cs = [.int .i64 d] ∧ True) Try.underlying59 (show Try.prog.cellsOf 3 = 1 by kernel_rfl) (by decide) (fun row _ hr => by
    obtain ⟨n, h3, _⟩ := Rd.int Try.underlying3 hr
    exact ⟨n, h3, trivial⟩) h
  exact ⟨v, l, h1, (ns_rows h2).1.1, (ns_rows h2).2⟩
set_option maxRecDepth 100000 in
theorem rd_bytes {W : World} {cs : List Value} (h : Rd Try.prog W 33 cs) : ∃ v l, cs = [v] ∧ Ns .u8 W v l ∧ Io.Bytes l := by
  obtain ⟨v, l, h1, h2⟩ := Rd.rows (R := fun _ cs (d : Int) => cs = [.int .u8 d] ∧ (0 ≤ d ∧ d ≤ 255)) Try.underlying33 (show Try.prog.cellsOf 5 = 1 by kernel_rfl) (by decide) (fun row _ hr => by
    obtain ⟨n, h3, h4⟩ := Rd.int Try.underlying5 hr
    exact ⟨n, h3, wf_u8 h4⟩) h
  exact ⟨v, l, h1, (ns_rows h2).1⟩
set_option maxRecDepth 100000 in
theorem rd_bools {W : World} {cs : List Value} (h : Rd Try.prog W 62 cs) : ∃ v l, cs = [v] ∧ Bs W v l := by
  obtain ⟨v, l, h1, h2⟩ := Rd.rows (R := fun _ cs (d : Bool) => cs = [.bool d]) Try.underlying62 (show Try.prog.cellsOf 4 = 1 by kernel_rfl) (by decide) (fun row _ hr => Rd.bool Try.underlying4 hr) h
  exact ⟨v, l, h1, bs_rows h2⟩
set_option maxRecDepth 100000 in
theorem rd_table {W : World} {cs : List Value} (h : Rd Try.prog W 63 cs) : ∃ v l, cs = [v] ∧ Rows W 1 RowR v l :=
  Rd.rows Try.underlying63 (show Try.prog.cellsOf 44 = 1 by kernel_rfl) (by decide) (fun row _ hr => by
    obtain ⟨v, l, h1, h2, h3⟩ := rd_u32s hr
    exact ⟨l, v, h1, h2, h3⟩) h
set_option maxRecDepth 100000 in
theorem env_take {v : Value} {W : World} {base : Nat} {r : Reach} {H : Type} {enc : TypeId × Value → H} {d : DataW H} {ps : List MemPlace}
    (ok : Value.okWide Try.prog W r base 65 v) (h : DataW.Trod enc Try.prog W 0 (fun _ => true) true 65 v d ps) : ∃ (e : Pg.EV) (E : Pg.Env), v = e.val ∧ Pg.IsE W e E := by
  have hc : Try.prog.cellsOf 65 = 4 := by kernel_rfl
  have z0 : Try.prog.cellsOf 62 = 1 := by kernel_rfl
  have z1 : Try.prog.cellsOf 63 = 1 := by kernel_rfl
  have z2 : Try.prog.cellsOf 44 = 1 := by kernel_rfl
  have z3 : Try.prog.cellsOf 33 = 1 := by kernel_rfl
  obtain ⟨l, rfl, hl⟩ := ok_struct Try.underlying65 ok
  rw [hc] at hl
  have hrd := Rd.of h
  simp only [Value.cells, List.toList_toArray] at hrd
  obtain ⟨_, hr⟩ := Rd.struct Try.underlying65 hrd
  match l, hl with
  | [c0, c1, c2, c3], _ =>
    have r0 := hr 0 _ rfl
    have r1 := hr 1 _ rfl
    have r2 := hr 2 _ rfl
    have r3 := hr 3 _ rfl
    simp [z0, z1, z2, z3] at r0 r1 r2 r3
    obtain ⟨v0, l0, e0, g0⟩ := rd_bools r0
    obtain ⟨v1, l1, e1, g1⟩ := rd_table r1
    obtain ⟨v2, l2, e2, g2⟩ := rd_u32s r2
    obtain ⟨v3, l3, e3, g3⟩ := rd_bytes r3
    simp at e0 e1 e2 e3
    subst e0; subst e1; subst e2; subst e3
    exact ⟨⟨c0, c1, c2, c3⟩, ⟨l0, l1, l2, l3⟩, rfl, g0, g1, g2, g3⟩
set_option maxRecDepth 100000 in
theorem prog_take {v : Value} {W : World} {base : Nat} {r : Reach} {H : Type} {enc : TypeId × Value → H} {d : DataW H} {ps : List MemPlace}
    (ok : Value.okWide Try.prog W r base 61 v) (h : DataW.Trod enc Try.prog W 0 (fun _ => true) true 61 v d ps) : ∃ (p : Pg.PV) (P : Pg.Prog), v = p.val ∧ Pg.IsP W p P ∧ Pg.CapP p := by
  have hc : Try.prog.cellsOf 61 = 9 := by kernel_rfl
  have z0 : Try.prog.cellsOf 9 = 1 := by kernel_rfl
  have z1 : Try.prog.cellsOf 53 = 1 := by kernel_rfl
  have z2 : Try.prog.cellsOf 22 = 1 := by kernel_rfl
  have z3 : Try.prog.cellsOf 54 = 1 := by kernel_rfl
  have z4 : Try.prog.cellsOf 55 = 1 := by kernel_rfl
  have z5 : Try.prog.cellsOf 56 = 1 := by kernel_rfl
  have z6 : Try.prog.cellsOf 57 = 1 := by kernel_rfl
  have z7 : Try.prog.cellsOf 58 = 1 := by kernel_rfl
  have z8 : Try.prog.cellsOf 59 = 1 := by kernel_rfl
  obtain ⟨l, rfl, hl⟩ := ok_struct Try.underlying61 ok
  rw [hc] at hl
  have hrd := Rd.of h
  simp only [Value.cells, List.toList_toArray] at hrd
  obtain ⟨_, hr⟩ := Rd.struct Try.underlying61 hrd
  match l, hl with
  | [c0, c1, c2, c3, c4, c5, c6, c7, c8], _ =>
    have r0 := hr 0 _ rfl
    have r1 := hr 1 _ rfl
    have r2 := hr 2 _ rfl
    have r3 := hr 3 _ rfl
    have r4 := hr 4 _ rfl
    have r5 := hr 5 _ rfl
    have r6 := hr 6 _ rfl
    have r7 := hr 7 _ rfl
    have r8 := hr 8 _ rfl
    simp [z0, z1, z2, z3, z4, z5, z6, z7, z8] at r0 r1 r2 r3 r4 r5 r6 r7 r8
    obtain ⟨s, e0, _⟩ := Rd.string Try.underlying9 r0
    obtain ⟨v1, hs, e1, g1⟩ := Rd.rows (R := Hd.HdrR) Try.underlying53 (show Try.prog.cellsOf 24 = 2 by kernel_rfl) (by decide) (fun row hl hr => rd_header hl hr) r1
    obtain ⟨v2, md, e2, g2⟩ := rd_fields r2
    obtain ⟨a3, n3, c3, h3⟩ := rd_sl Try.underlying54 r3
    obtain ⟨a4, n4, c4, h4⟩ := rd_sl Try.underlying55 r4
    obtain ⟨a5, n5, c5, h5⟩ := rd_sl Try.underlying56 r5
    obtain ⟨a6, n6, c6, h6⟩ := rd_sl Try.underlying57 r6
    obtain ⟨a7, n7, c7, h7⟩ := rd_sl Try.underlying58 r7
    obtain ⟨v8, dp, e8, g8, a8, n8, k8, e8', q1, q2⟩ := rd_ints r8
    simp at e0 e1 e2 e8 h3 h4 h5 h6 h7
    subst e0; subst e1; subst e2; subst e8; subst h3; subst h4; subst h5; subst h6; subst h7
    exact ⟨⟨_, c1, c2, _, _, _, _, _, c8⟩, ⟨hs, md, dp⟩, rfl, ⟨⟨s, rfl⟩, g1, g2, ⟨_, _, _, rfl⟩, ⟨_, _, _, rfl⟩, ⟨_, _, _, rfl⟩, ⟨_, _, _, rfl⟩, ⟨_, _, _, rfl⟩, g8⟩, ⟨a8, n8, k8, e8', q1, by unfold maxLen at q2; exact q2⟩⟩
namespace En
def okP (P : Pg.Prog) : Bool := decide (P.hs.length ≤ 12) && (decide (P.md.length ≤ 16) && (List.range P.hs.length).all fun h => decide ((P.hs.getD h (⟨#[]⟩, [])).2.length ≤ 16))
def okE (E : Pg.Env) : Bool := decide (E.va.length ≤ 16) && (decide (E.fi.length ≤ 16) && (decide (E.me.length ≤ 16) && (decide (E.pl.length ≤ 600) && (List.range E.fi.length).all fun h => decide ((E.fi.getD h []).length ≤ 16))))
theorem okP_cap {P : Pg.Prog} (h : okP P = true) : CapP P := by
  unfold okP at h
  simp only [Bool.and_eq_true, decide_eq_true_eq, List.all_eq_true, List.mem_range] at h
  obtain ⟨h1, h2, h3⟩ := h
  refine ⟨by omega, by omega, fun x hx => ?_⟩
  obtain ⟨j, hj, rfl⟩ := List.mem_iff_getElem.1 hx
  have := h3 j hj
  rw [List.getD_eq_getElem?_getD, List.getElem?_eq_getElem hj, Option.getD_some] at this
  omega
theorem okE_cap {E : Pg.Env} (h : okE E = true) : CapE E := by
  unfold okE at h
  simp only [Bool.and_eq_true, decide_eq_true_eq, List.all_eq_true, List.mem_range] at h
  obtain ⟨h1, h2, h3, h4, h5⟩ := h
  refine ⟨by omega, by omega, by omega, by omega, fun x hx => ?_⟩
  obtain ⟨j, hj, rfl⟩ := List.mem_iff_getElem.1 hx
  have := h5 j hj
  rw [List.getD_eq_getElem?_getD, List.getElem?_eq_getElem hj, Option.getD_some] at this
  omega
end En
set_option maxRecDepth 8000 in
set_option maxHeartbeats 1000000 in
theorem toolarge_any {W : World} {p : Pg.PV} {P : Pg.Prog} (hp : Pg.IsP W p P) : Calls Try.prog 31 #[p.val] W (Rets W (.bool (!En.okP P))) := by
  obtain ⟨s, a1, a2, a3, a4, a5, a6, a7, a8, m1, m2, n3, m3, n4, m4, n5, m5, n6, m6, n7, m7, m8, hf⟩ := hp.form
  obtain ⟨rfl, hhs, hmd, _, hl1, hl2, _⟩ := hf
  dsimp only [Pg.PV.val]
  have be := alloc_heap W (.cells #[.string s, .slice a1 P.hs.length m1, .slice a2 P.md.length m2, .slice a3 n3 m3, .slice a4 n4 m4, .slice a5 n5 m5, .slice a6 n6 m6, .slice a7 n7 m7, .slice a8 P.dp.length m8] 61)
  have k1 := alw (cell_of (o := 1) be)
  have k2 := alw (cell_of (o := 2) be)
  clear be
  have HHS := Lib.hid hhs
  clear hp hhs hmd
  by_cases h1 : P.hs.length ≤ 12
  · have g1 : decide ((12 : Int) < (P.hs.length : Int)) = false := decide_eq_false (by omega)
    by_cases h2 : P.md.length ≤ 16
    · have g2 : decide ((16 : Int) < (P.md.length : Int)) = false := decide_eq_false (by omega)
      have HR : Hid (En.okP P = (List.range P.hs.length).all fun h => decide ((P.hs.getD h (⟨#[]⟩, [])).2.length ≤ 16)) := Lib.hid (by unfold En.okP; rw [decide_eq_true h1, decide_eq_true h2]; rfl)
      go_enter Try.func31, Try.ntmps31
      go_wp2_with fail
      go_loopw [3] (fun i wr => ∃ k : Nat, k ≤ P.hs.length ∧ i = .int .i64 k ∧ Ext (W.alloc (.cells #[.string s, .slice a1 P.hs.length m1, .slice a2 P.md.length m2, .slice a3 n3 m3, .slice a4 n4 m4, .slice a5 n5 m5, .slice a6 n6 m6, .slice a7 n7 m7, .slice a8 P.dp.length m8] 61)) wr ∧ Hid (∀ j, j < k → decide ((P.hs.getD j (⟨#[]⟩, [])).2.length ≤ 16) = true)) (fun i _ => P.hs.length - (intOf i).toNat)
      case atStart => exact ⟨0, Nat.zero_le _, rfl, Ext.refl _, Lib.hid (by intro j hj; omega)⟩
      case round =>
        obtain ⟨k, hk, rfl, hx, HZ⟩ := hrel
        have sx := Step.mk hx
        by_cases hlt : k < P.hs.length
        · obtain ⟨⟨hn, fs⟩, hhk⟩ : ∃ x, P.hs[k]? = some x := ⟨_, List.getElem?_eq_getElem (by omega)⟩
          obtain ⟨bh, oh, hoh, _, _⟩ := Rows.at HHS.out (by omega)
          subst hoh
          obtain ⟨fa, fc, q0, q1, _, qf, qc, qm⟩ := hdrs_at HHS.out k hn fs hhk rfl
          have HGH := Lib.hid (show P.hs.getD k (⟨#[]⟩, []) = (hn, fs) by rw [List.getD_eq_getElem?_getD, hhk]; rfl)
          unfold maxLen at qm
          clear hhk qf
          by_cases hle : fs.length ≤ 16
          · have g3 : decide ((16 : Int) < (fs.length : Int)) = false := decide_eq_false (by omega)
            go_wp2_with fail
            go_roundw
            case rel =>
              refine ⟨k + 1, by omega, by go_num, by exact hx, Lib.hid (fun j hj => ?_)⟩
              rcases Nat.lt_or_ge j k with h1 | h1
              · exact HZ.out j h1
              · obtain rfl : j = k := by omega
                rw [HGH.out]; exact decide_eq_true hle
            case measure => simp [intOf]; omega
          · have g3 : decide ((16 : Int) < (fs.length : Int)) = true := decide_eq_true (by omega)
            go_wp2_with fail
            go_ret
            exact ⟨ret_bool (by rw [HR.out, Pg.all_no hlt (by rw [HGH.out]; exact decide_eq_false hle)]; rfl), grows⟩
        · obtain rfl : k = P.hs.length := by omega
          go_wp2_with fail
          go_ret
          exact ⟨ret_bool (by rw [HR.out, Pg.all_yes HZ.out]; rfl), grows⟩
    · have g2 : decide ((16 : Int) < (P.md.length : Int)) = true := decide_eq_true (by omega)
      have HR : Hid (En.okP P = false) := Lib.hid (by unfold En.okP; rw [decide_eq_false h2]; simp)
      go_enter Try.func31, Try.ntmps31
      go_wp2_with fail
      go_ret
      exact ⟨ret_bool (by rw [HR.out]; rfl), grows⟩
  · have g1 : decide ((12 : Int) < (P.hs.length : Int)) = true := decide_eq_true (by omega)
    have HR : Hid (En.okP P = false) := Lib.hid (by unfold En.okP; rw [decide_eq_false h1]; simp)
    go_enter Try.func31, Try.ntmps31
    go_wp2_with fail
    go_ret
    exact ⟨ret_bool (by rw [HR.out]; rfl), grows⟩
set_option maxRecDepth 8000 in
set_option maxHeartbeats 1000000 in
theorem long_any {W : World} {e : Pg.EV} {E : Pg.Env} (he : Pg.IsE W e E) : Calls Try.prog 32 #[e.val] W (Rets W (.bool (!En.okE E))) := by
  obtain ⟨b0, b1, b2, b3, d0, d1, d2, d3, hg⟩ := he.form
  obtain ⟨rfl, hva, hfi, hme, hpl, g0, g1, g2, g3⟩ := hg
  dsimp only [Pg.EV.val]
  have be := alloc_heap W (.cells #[.slice b0 E.va.length d0, .slice b1 E.fi.length d1, .slice b2 E.me.length d2, .slice b3 E.pl.length d3] 65)
  have k0 := alw (cell_of (o := 0) be)
  have k1 := alw (cell_of (o := 1) be)
  have k2 := alw (cell_of (o := 2) be)
  have k3 := alw (cell_of (o := 3) be)
  clear be
  have HFI := Lib.hid hfi
  clear he hva hfi hme hpl
  by_cases h1 : E.va.length ≤ 16
  · have y1 : decide ((16 : Int) < (E.va.length : Int)) = false := decide_eq_false (by omega)
    by_cases h2 : E.fi.length ≤ 16
    · have y2 : decide ((16 : Int) < (E.fi.length : Int)) = false := decide_eq_false (by omega)
      by_cases h3 : E.me.length ≤ 16
      · have y3 : decide ((16 : Int) < (E.me.length : Int)) = false := decide_eq_false (by omega)
        by_cases h4 : E.pl.length ≤ 600
        · have y4 : decide ((600 : Int) < (E.pl.length : Int)) = false := decide_eq_false (by omega)
          have HR : Hid (En.okE E = (List.range E.fi.length).all fun h => decide ((E.fi.getD h []).length ≤ 16)) := Lib.hid (by unfold En.okE; rw [decide_eq_true h1, decide_eq_true h2, decide_eq_true h3, decide_eq_true h4]; rfl)
          go_enter Try.func32, Try.ntmps32
          go_wp2_with fail
          go_loopw [3] (fun i wr => ∃ k : Nat, k ≤ E.fi.length ∧ i = .int .i64 k ∧ Ext (W.alloc (.cells #[.slice b0 E.va.length d0, .slice b1 E.fi.length d1, .slice b2 E.me.length d2, .slice b3 E.pl.length d3] 65)) wr ∧ Hid (∀ j, j < k → decide ((E.fi.getD j []).length ≤ 16) = true)) (fun i _ => E.fi.length - (intOf i).toNat)
          case atStart => exact ⟨0, Nat.zero_le _, rfl, Ext.refl _, Lib.hid (by intro j hj; omega)⟩
          case round =>
            obtain ⟨k, hk, rfl, hx, HZ⟩ := hrel
            have sx := Step.mk hx
            by_cases hlt : k < E.fi.length
            · obtain ⟨l, hlk⟩ : ∃ x, E.fi[k]? = some x := ⟨_, List.getElem?_eq_getElem (by omega)⟩
              obtain ⟨bh, oh, hoh, _, _⟩ := Rows.at HFI.out (by omega)
              subst hoh
              obtain ⟨la, lc, q1, q2, _⟩ := rows_at HFI.out k l hlk rfl
              have HGH := Lib.hid (show E.fi.getD k [] = l by rw [List.getD_eq_getElem?_getD, hlk]; rfl)
              have qm := q2.2
              unfold maxLen at qm
              clear hlk q2
              by_cases hle : l.length ≤ 16
              · have y5 : decide ((16 : Int) < (l.length : Int)) = false := decide_eq_false (by omega)
                go_wp2_with fail
                go_roundw
                case rel =>
                  refine ⟨k + 1, by omega, by go_num, by exact hx, Lib.hid (fun j hj => ?_)⟩
                  rcases Nat.lt_or_ge j k with h1 | h1
                  · exact HZ.out j h1
                  · obtain rfl : j = k := by omega
                    rw [HGH.out]; exact decide_eq_true hle
                case measure => simp [intOf]; omega
              · have y5 : decide ((16 : Int) < (l.length : Int)) = true := decide_eq_true (by omega)
                go_wp2_with fail
                go_ret
                exact ⟨ret_bool (by rw [HR.out, Pg.all_no hlt (by rw [HGH.out]; exact decide_eq_false hle)]; rfl), grows⟩
            · obtain rfl : k = E.fi.length := by omega
              go_wp2_with fail
              go_ret
              exact ⟨ret_bool (by rw [HR.out, Pg.all_yes HZ.out]; rfl), grows⟩
        · have y4 : decide ((600 : Int) < (E.pl.length : Int)) = true := decide_eq_true (by omega)
          have HR : Hid (En.okE E = false) := Lib.hid (by unfold En.okE; rw [decide_eq_false h4]; simp)
          go_enter Try.func32, Try.ntmps32
          go_wp2_with fail
          go_ret
          exact ⟨ret_bool (by rw [HR.out]; rfl), grows⟩
      · have y3 : decide ((16 : Int) < (E.me.length : Int)) = true := decide_eq_true (by omega)
        have HR : Hid (En.okE E = false) := Lib.hid (by unfold En.okE; rw [decide_eq_false h3]; simp)
        go_enter Try.func32, Try.ntmps32
        go_wp2_with fail
        go_ret
        exact ⟨ret_bool (by rw [HR.out]; rfl), grows⟩
    · have y2 : decide ((16 : Int) < (E.fi.length : Int)) = true := decide_eq_true (by omega)
      have HR : Hid (En.okE E = false) := Lib.hid (by unfold En.okE; rw [decide_eq_false h2]; simp)
      go_enter Try.func32, Try.ntmps32
      go_wp2_with fail
      go_ret
      exact ⟨ret_bool (by rw [HR.out]; rfl), grows⟩
  · have y1 : decide ((16 : Int) < (E.va.length : Int)) = true := decide_eq_true (by omega)
    have HR : Hid (En.okE E = false) := Lib.hid (by unfold En.okE; rw [decide_eq_false h1]; simp)
    go_enter Try.func32, Try.ntmps32
    go_wp2_with fail
    go_ret
    exact ⟨ret_bool (by rw [HR.out]; rfl), grows⟩
end Go.Proofs.Ytdgepbolfflidaa
namespace Go.Proofs.Ytdgepbolfflidaa
open Go.RowKit

/-- the value v is the environment E -/
def EnvV (w : World) (v : Value) (E : Pg.Env) : Prop := ∃ e : Pg.EV, v = e.val ∧ Pg.IsE w e E
theorem EnvV.ext {w w' : World} {v : Value} {E : Pg.Env} (h : EnvV w v E) (hx : Ext w w') : EnvV w' v E := by
  obtain ⟨e, h1, h2⟩ := h; exact ⟨e, h1, h2.ext hx⟩
/-- what a call that makes an environment leaves, by value -/
def EnvR (W : World) (E : Pg.Env) (e : Ending) (W' : World) : Prop := ∃ v, e = .returned v ∧ Ext W W' ∧ EnvV W' v E
theorem EnvP.r {W W' : World} {E : Pg.Env} {e : Ending} (h : EnvP W E e W') : EnvR W E e W' := by
  obtain ⟨v, vs, h1, h2, h3⟩ := h; exact ⟨_, h1, h2, v, rfl, h3.isE⟩
theorem newV {W : World} {p : Pg.PV} {P : Pg.Prog} (hp : Pg.IsP W p P) (hc : En.CapP P) : Calls Try.prog 37 #[p.val] W (EnvR W (En.new P)) := by
  exact (enew_any hp hc).mono (fun _ _ h => h.r)
theorem rnewV {W : World} {p : Pg.PV} {P : Pg.Prog} (hp : Pg.IsP W p P) (hc : En.CapP P) : Calls Try.prog 38 #[p.val] W (EnvR W (En.new P)) := by
  exact (refenew_any hp hc).mono (fun _ _ h => h.r)
theorem setV {W : World} {p : Pg.PV} {P : Pg.Prog} {v : Value} {E : Pg.Env} (hp : Pg.IsP W p P) (hv : EnvV W v E) (hc : En.CapE E) (h f x : Int) (x0 : 0 ≤ x) (x1 : x < 4294967296) : Calls Try.prog 43 #[p.val, v, .agg #[.int .i64 h, .int .i64 f], .int .u32 x] W (EnvR W (En.set P E h f x)) := by
  obtain ⟨e, rfl, he⟩ := hv
  exact (set_any hp he hc h f x x0 x1).mono (fun _ _ h => h.r)
theorem rsetV {W : World} {p : Pg.PV} {P : Pg.Prog} {v : Value} {E : Pg.Env} (hp : Pg.IsP W p P) (hv : EnvV W v E) (hc : En.CapE E) (h f x : Int) (x0 : 0 ≤ x) (x1 : x < 4294967296) : Calls Try.prog 44 #[p.val, v, .agg #[.int .i64 h, .int .i64 f], .int .u32 x] W (EnvR W (En.set P E h f x)) := by
  obtain ⟨e, rfl, he⟩ := hv
  exact (refset_any hp he hc h f x x0 x1).mono (fun _ _ h => h.r)
theorem addV {W : World} {p : Pg.PV} {P : Pg.Prog} {v : Value} {E : Pg.Env} (hp : Pg.IsP W p P) (hv : EnvV W v E) (hc : En.CapE E) (h : Int) : Calls Try.prog 45 #[p.val, v, .int .i64 h] W (EnvR W (En.switch P E h true true)) := by
  obtain ⟨e, rfl, he⟩ := hv
  exact (eadd_any hp he hc h).mono (fun _ _ h => h.r)
theorem raddV {W : World} {p : Pg.PV} {P : Pg.Prog} {v : Value} {E : Pg.Env} (hp : Pg.IsP W p P) (hv : EnvV W v E) (hc : En.CapE E) (h : Int) : Calls Try.prog 46 #[p.val, v, .int .i64 h] W (EnvR W (En.switch P E h true true)) := by
  obtain ⟨e, rfl, he⟩ := hv
  exact (refadd_any hp he hc h).mono (fun _ _ h => h.r)
theorem remV {W : World} {p : Pg.PV} {P : Pg.Prog} {v : Value} {E : Pg.Env} (hp : Pg.IsP W p P) (hv : EnvV W v E) (hc : En.CapE E) (h : Int) : Calls Try.prog 47 #[p.val, v, .int .i64 h] W (EnvR W (En.switch P E h false false)) := by
  obtain ⟨e, rfl, he⟩ := hv
  exact (erem_any hp he hc h).mono (fun _ _ h => h.r)
theorem rremV {W : World} {p : Pg.PV} {P : Pg.Prog} {v : Value} {E : Pg.Env} (hp : Pg.IsP W p P) (hv : EnvV W v E) (hc : En.CapE E) (h : Int) : Calls Try.prog 48 #[p.val, v, .int .i64 h] W (EnvR W (En.switch P E h false false)) := by
  obtain ⟨e, rfl, he⟩ := hv
  exact (refrem_any hp he hc h).mono (fun _ _ h => h.r)
theorem cloneV {W : World} {v : Value} {E : Pg.Env} (hv : EnvV W v E) (hc : En.CapE E) : Calls Try.prog 52 #[v] W (EnvR W E) := by
  obtain ⟨e, rfl, he⟩ := hv
  exact (clone_any he hc).mono (fun _ _ h => h.r)
theorem rcloneV {W : World} {v : Value} {E : Pg.Env} (hv : EnvV W v E) (hc : En.CapE E) : Calls Try.prog 53 #[v] W (EnvR W E) := by
  obtain ⟨e, rfl, he⟩ := hv
  exact (refclone_any he hc).mono (fun _ _ h => h.r)
theorem eqV {W : World} {v u : Value} {E F : Pg.Env} (hv : EnvV W v E) (hu : EnvV W u F) : Calls Try.prog 51 #[v, u] W (Rets W (.bool (En.eqB E F))) := by
  obtain ⟨e, rfl, he⟩ := hv
  obtain ⟨f, rfl, hf⟩ := hu
  exact eequal_any he hf
theorem reqV {W : World} {v u : Value} {E F : Pg.Env} (hv : EnvV W v E) (hu : EnvV W u F) : Calls Try.prog 36 #[v, u] W (Rets W (.bool (En.eqB E F))) := by
  obtain ⟨e, rfl, he⟩ := hv
  obtain ⟨f, rfl, hf⟩ := hu
  exact refeequal_any he hf
theorem getV {W : World} {v : Value} {E : Pg.Env} (hv : EnvV W v E) (h f : Int) : Calls Try.prog 41 #[v, .agg #[.int .i64 h, .int .i64 f]] W (Rets W (.int .u32 (En.get E h f))) := by
  obtain ⟨e, rfl, he⟩ := hv
  exact get_any he h f
theorem rgetV {W : World} {v : Value} {E : Pg.Env} (hv : EnvV W v E) (h f : Int) : Calls Try.prog 42 #[v, .agg #[.int .i64 h, .int .i64 f]] W (Rets W (.int .u32 (En.get E h f))) := by
  obtain ⟨e, rfl, he⟩ := hv
  exact refget_any he h f
theorem chkV {W : World} {p : Pg.PV} {P : Pg.Prog} {v : Value} {E : Pg.Env} (hp : Pg.IsP W p P) (hv : EnvV W v E) : Calls Try.prog 39 #[p.val, v] W (Rets W (.int .i64 (Pg.chkE P E))) := by
  obtain ⟨e, rfl, he⟩ := hv
  exact echeck_any hp he
theorem rchkV {W : World} {p : Pg.PV} {P : Pg.Prog} {v : Value} {E : Pg.Env} (hp : Pg.IsP W p P) (hv : EnvV W v E) : Calls Try.prog 40 #[p.val, v] W (Rets W (.int .i64 (Pg.chkE P E))) := by
  obtain ⟨e, rfl, he⟩ := hv
  exact rcheck12_any hp he
theorem setVP {W : World} {p : Pg.PV} {P : Pg.Prog} {v : Value} {E : Pg.Env} (hp : Pg.IsP W p P) (hv : EnvV W v E) (hc : En.CapE E) (h f x : Int) (x0 : 0 ≤ x) (x1 : x < 4294967296) : Calls Try.prog 43 #[p.val, v, .agg #[.int .i64 h, .int .i64 f], .int .u32 x] W (EnvP W (En.set P E h f x)) := by
  obtain ⟨e, rfl, he⟩ := hv
  exact set_any hp he hc h f x x0 x1
/-- the value v is the environment E, in blocks of its own -/
def EnvO (w : World) (v : Value) (E : Pg.Env) : Prop := ∃ (e : Pg.EV) (vs : List Value), v = e.val ∧ OwnE 0 w e vs E
theorem EnvO.ext {w w' : World} {v : Value} {E : Pg.Env} (h : EnvO w v E) (hx : Ext w w') : EnvO w' v E := by
  obtain ⟨e, vs, h1, h2⟩ := h; exact ⟨e, vs, h1, h2.ext hx⟩
theorem EnvO.v {w : World} {v : Value} {E : Pg.Env} (h : EnvO w v E) : EnvV w v E := by
  obtain ⟨e, vs, h1, h2⟩ := h; exact ⟨e, h1, h2.isE⟩
theorem EnvO.box {w w' : World} {v : Value} {E : Pg.Env} {g : Nat} {c : Array Value} (h : EnvO w v E) (m : Mod (· = g) w w') (hg : w.heap[g]? = some (.cells c 65 (0, 0))) : EnvO w' v E := by
  obtain ⟨e, vs, h1, h2⟩ := h; exact ⟨e, vs, h1, h2.box m hg⟩
theorem rows_one {α : Type} {w : World} {B sz : Nat} {t : TypeId} {f : Nat × Nat} {R : World → List Value → α → Prop} {a : α} (u : List Value) (hu : u.length = sz) (ha : R w u a) (hb : w.heap[B]? = some (.cells u.toArray t f)) :
    Rows w sz R (.slice (some ⟨B, 0, none⟩) 1 1) [a] :=
  .inr ⟨⟨B, 0, none⟩, 1, rfl, Nat.le_refl _, by unfold maxLen; omega, fun _ => rfl, fun i d hi => by
    match i, hi with
    | 0, hi =>
      simp only [List.getElem?_cons_zero, Option.some.injEq] at hi
      subst hi
      refine ⟨u, hu, ha, fun j x hj => ?_⟩
      rw [cell_of hb, List.getElem?_toArray, Nat.zero_add, Nat.zero_mul, Nat.zero_add, hj]
    | i + 1, hi => simp at hi⟩
/-- two of something, in a block of sz cells each -/
theorem rows_two {α : Type} {w : World} {B sz : Nat} {t : TypeId} {f : Nat × Nat} {R : World → List Value → α → Prop} {a b : α} (u v : List Value) (hu : u.length = sz) (hv : v.length = sz) (ha : R w u a) (hb' : R w v b) (hb : w.heap[B]? = some (.cells (u ++ v).toArray t f)) :
    Rows w sz R (.slice (some ⟨B, 0, none⟩) 2 2) [a, b] :=
  .inr ⟨⟨B, 0, none⟩, 2, rfl, Nat.le_refl _, by unfold maxLen; omega, fun _ => rfl, fun i d hi => by
    match i, hi with
    | 0, hi =>
      simp only [List.getElem?_cons_zero, Option.some.injEq] at hi
      subst hi
      refine ⟨u, hu, ha, fun j x hj => ?_⟩
      rw [cell_of hb, List.getElem?_toArray, Nat.zero_add, Nat.zero_mul, Nat.zero_add, List.getElem?_append_left (List.getElem?_eq_some_iff.1 hj).1, hj]
    | 1, hi =>
      simp only [List.getElem?_cons_succ, List.getElem?_cons_zero, Option.some.injEq] at hi
      subst hi
      refine ⟨v, hv, hb', fun j x hj => ?_⟩
      rw [cell_of hb, List.getElem?_toArray, List.getElem?_append_right (by omega), ← hj]
      congr 1; dsimp only; omega
    | i + 2, hi => simp at hi⟩
namespace En
def p0 : Pg.Prog := ⟨[(⟨#[104]⟩, [(⟨#[97]⟩, 8), (⟨#[98]⟩, 4)])], [(⟨#[105, 110]⟩, 8)], []⟩
def e1 : Pg.Env := ⟨[false], [[0, 0]], [0], []⟩
def f1 : Pg.Env := ⟨[true], [[0, 0]], [0], []⟩
def f2 : Pg.Env := ⟨[true], [[7, 0]], [0], []⟩
def f3 : Pg.Env := ⟨[true], [[7, 5]], [0], []⟩
def z0 : Pg.Env := ⟨[], [], [], []⟩
theorem k_new : new p0 = e1 := rfl
theorem k_same : set p0 e1 0 0 7 = e1 := rfl
theorem k_f1 : switch p0 e1 0 true true = f1 := rfl
theorem k_f2 : set p0 f1 0 0 7 = f2 := rfl
theorem k_f3 : set p0 f2 0 1 21 = f3 := rfl
theorem k_g : switch p0 f3 0 false false = e1 := rfl
theorem k_w : Pg.wid p0 0 1 = 4 := by decide +kernel
theorem k_ga : get f3 0 0 = 7 := by decide +kernel
theorem k_gb : get f3 0 1 = 5 := by decide +kernel
theorem k_ee : eqB e1 e1 = true := by decide +kernel
theorem k_fe : eqB f3 e1 = false := by decide +kernel
theorem k_cf : Pg.chkE p0 f3 = 0 := by decide +kernel
theorem k_cz : Pg.chkE p0 z0 = 2 := by decide +kernel
theorem c_p : CapP p0 := okP_cap (by decide +kernel)
theorem c_e1 : CapE e1 := okE_cap (by decide +kernel)
theorem c_f1 : CapE f1 := okE_cap (by decide +kernel)
theorem c_f2 : CapE f2 := okE_cap (by decide +kernel)
theorem c_f3 : CapE f3 := okE_cap (by decide +kernel)
end En
set_option maxRecDepth 8000 in
set_option maxHeartbeats 1000000 in
theorem example_any (W : World) : Calls Try.prog 72 #[] W fun e W' => ∃ p : Pg.PV, e = .returned p.val ∧ Ext W W' ∧ Pg.IsP W' p En.p0 := by
  go_enter Try.func72, Try.ntmps72
  go_wp2_with fail
  refine bodyPost_ret (v := .agg #[.string ⟨#[]⟩, .slice (some ⟨W.heap.size + 1 + 1, 0, none⟩) 1 1, .slice (some ⟨W.heap.size + 1 + 1 + 1, 0, none⟩) 1 1, .slice none 0 0, .slice none 0 0, .slice none 0 0, .slice none 0 0, .slice none 0 0, .slice none 0 0]) (by simp [results, Try.results72, go_sem]) rfl ⟨⟨.string ⟨#[]⟩, .slice (some ⟨W.heap.size + 1 + 1, 0, none⟩) 1 1, .slice (some ⟨W.heap.size + 1 + 1 + 1, 0, none⟩) 1 1, .slice none 0 0, .slice none 0 0, .slice none 0 0, .slice none 0 0, .slice none 0 0, .slice none 0 0⟩, rfl, grows, ?_⟩
  have h1 := alloc_heap (W.alloc (.cells #[.string ⟨#[]⟩, .slice (some ⟨W.heap.size + 1 + 1, 0, none⟩) 1 1, .slice (some ⟨W.heap.size + 1 + 1 + 1, 0, none⟩) 1 1, .slice none 0 0, .slice none 0 0, .slice none 0 0, .slice none 0 0, .slice none 0 0, .slice none 0 0] 61)) (.cells #[.string ⟨#[97]⟩, .int .i64 8, .string ⟨#[98]⟩, .int .i64 4] 93)
  have h2 := alloc_heap ((W.alloc (.cells #[.string ⟨#[]⟩, .slice (some ⟨W.heap.size + 1 + 1, 0, none⟩) 1 1, .slice (some ⟨W.heap.size + 1 + 1 + 1, 0, none⟩) 1 1, .slice none 0 0, .slice none 0 0, .slice none 0 0, .slice none 0 0, .slice none 0 0, .slice none 0 0] 61)).alloc (.cells #[.string ⟨#[97]⟩, .int .i64 8, .string ⟨#[98]⟩, .int .i64 4] 93)) (.cells #[.string ⟨#[104]⟩, .slice (some ⟨W.heap.size + 1, 0, none⟩) 2 2] 24)
  have h3 := alloc_heap (((W.alloc (.cells #[.string ⟨#[]⟩, .slice (some ⟨W.heap.size + 1 + 1, 0, none⟩) 1 1, .slice (some ⟨W.heap.size + 1 + 1 + 1, 0, none⟩) 1 1, .slice none 0 0, .slice none 0 0, .slice none 0 0, .slice none 0 0, .slice none 0 0, .slice none 0 0] 61)).alloc (.cells #[.string ⟨#[97]⟩, .int .i64 8, .string ⟨#[98]⟩, .int .i64 4] 93)).alloc (.cells #[.string ⟨#[104]⟩, .slice (some ⟨W.heap.size + 1, 0, none⟩) 2 2] 24)) (.cells #[.string ⟨#[105, 110]⟩, .int .i64 8] 93)
  rw [World.size_alloc] at h1
  rw [World.size_alloc, World.size_alloc] at h2
  rw [World.size_alloc, World.size_alloc, World.size_alloc] at h3
  have g1 := (((Ext.refl _).alloc (.cells #[.string ⟨#[104]⟩, .slice (some ⟨W.heap.size + 1, 0, none⟩) 2 2] 24)).alloc (.cells #[.string ⟨#[105, 110]⟩, .int .i64 8] 93)).heap h1
  have g2 := ((Ext.refl _).alloc (.cells #[.string ⟨#[105, 110]⟩, .int .i64 8] 93)).heap h2
  have r1 : Hd.Flds ((((W.alloc (.cells #[.string ⟨#[]⟩, .slice (some ⟨W.heap.size + 1 + 1, 0, none⟩) 1 1, .slice (some ⟨W.heap.size + 1 + 1 + 1, 0, none⟩) 1 1, .slice none 0 0, .slice none 0 0, .slice none 0 0, .slice none 0 0, .slice none 0 0, .slice none 0 0] 61)).alloc (.cells #[.string ⟨#[97]⟩, .int .i64 8, .string ⟨#[98]⟩, .int .i64 4] 93)).alloc (.cells #[.string ⟨#[104]⟩, .slice (some ⟨W.heap.size + 1, 0, none⟩) 2 2] 24)).alloc (.cells #[.string ⟨#[105, 110]⟩, .int .i64 8] 93)) (.slice (some ⟨W.heap.size + 1, 0, none⟩) 2 2) [(⟨#[97]⟩, 8), (⟨#[98]⟩, 4)] := rows_two [.string ⟨#[97]⟩, .int .i64 8] [.string ⟨#[98]⟩, .int .i64 4] rfl rfl ⟨rfl, by decide, by decide, by decide⟩ ⟨rfl, by decide, by decide, by decide⟩ g1
  have r3 : Hd.Flds ((((W.alloc (.cells #[.string ⟨#[]⟩, .slice (some ⟨W.heap.size + 1 + 1, 0, none⟩) 1 1, .slice (some ⟨W.heap.size + 1 + 1 + 1, 0, none⟩) 1 1, .slice none 0 0, .slice none 0 0, .slice none 0 0, .slice none 0 0, .slice none 0 0, .slice none 0 0] 61)).alloc (.cells #[.string ⟨#[97]⟩, .int .i64 8, .string ⟨#[98]⟩, .int .i64 4] 93)).alloc (.cells #[.string ⟨#[104]⟩, .slice (some ⟨W.heap.size + 1, 0, none⟩) 2 2] 24)).alloc (.cells #[.string ⟨#[105, 110]⟩, .int .i64 8] 93)) (.slice (some ⟨W.heap.size + 1 + 1 + 1, 0, none⟩) 1 1) [(⟨#[105, 110]⟩, 8)] := rows_one [.string ⟨#[105, 110]⟩, .int .i64 8] rfl ⟨rfl, by decide, by decide, by decide⟩ h3
  exact ⟨⟨_, rfl⟩, rows_one [.string ⟨#[104]⟩, .slice (some ⟨W.heap.size + 1, 0, none⟩) 2 2] rfl ⟨_, rfl, by decide, r1⟩ g2, r3, ⟨_, _, _, rfl⟩, ⟨_, _, _, rfl⟩, ⟨_, _, _, rfl⟩, ⟨_, _, _, rfl⟩, ⟨_, _, _, rfl⟩, ⟨⟨rfl, by simp [En.p0], .inl ⟨rfl, rfl⟩⟩, Nat.zero_le _⟩⟩
end Go.Proofs.Ytdgepbolfflidaa
namespace Go.Proofs.Ytdgepbolfflidaa
open Go.RowKit

theorem zeroV (w : World) : EnvV w (.agg #[.slice none 0 0, .slice none 0 0, .slice none 0 0, .slice none 0 0]) En.z0 :=
  ⟨⟨.slice none 0 0, .slice none 0 0, .slice none 0 0, .slice none 0 0⟩, rfl, ⟨⟨rfl, by simp [En.z0], .inl ⟨rfl, rfl⟩⟩, Nat.zero_le _⟩, .inl ⟨rfl, rfl⟩, ⟨⟨⟨rfl, by simp [En.z0], .inl ⟨rfl, rfl⟩⟩, Nat.zero_le _⟩, by simp [En.z0]⟩, ⟨⟨⟨rfl, by simp [En.z0], .inl ⟨rfl, rfl⟩⟩, Nat.zero_le _⟩, by intro x hx; simp [En.z0] at hx⟩⟩
set_option maxRecDepth 8000 in
set_option maxHeartbeats 4000000 in
theorem eworks_any (W : World) : Calls Try.prog 33 #[] W (Rets W (.bool true)) := by
  go_enter Try.func33, Try.ntmps33
  go_wp2_with fail
  refine (example_any _).mono ?_
  rintro e w1 ⟨p, rfl, x1, hp⟩
  have s1 := Step.mk x1
  have hp0 := hp
  obtain ⟨s, a1, a2, a3, a4, a5, a6, a7, a8, m1, m2, n3, m3, n4, m4, n5, m5, n6, m6, n7, m7, m8, hf⟩ := hp0.form
  obtain ⟨rfl, _, _, _, _, _, _⟩ := hf
  dsimp only [Pg.PV.val]
  have HNEW : Hid (∀ w, Ext w1 w → Calls Try.prog 37 #[.agg #[.string s, .slice a1 En.p0.hs.length m1, .slice a2 En.p0.md.length m2, .slice a3 n3 m3, .slice a4 n4 m4, .slice a5 n5 m5, .slice a6 n6 m6, .slice a7 n7 m7, .slice a8 En.p0.dp.length m8]] w (EnvR w En.e1)) := Lib.hid (fun w hx => by have h := newV (hp.ext hx) En.c_p; rw [En.k_new] at h; exact h)
  have HS0 : Hid (∀ w, Ext w1 w → ∀ v, EnvV w v En.e1 → Calls Try.prog 43 #[.agg #[.string s, .slice a1 En.p0.hs.length m1, .slice a2 En.p0.md.length m2, .slice a3 n3 m3, .slice a4 n4 m4, .slice a5 n5 m5, .slice a6 n6 m6, .slice a7 n7 m7, .slice a8 En.p0.dp.length m8], v, .agg #[.int .i64 0, .int .i64 0], .int .u32 7] w (EnvR w En.e1)) := Lib.hid (fun w hx v hv => by have h := setV (hp.ext hx) hv En.c_e1 0 0 7 (by decide) (by decide); rw [En.k_same] at h; exact h)
  have HAD : Hid (∀ w, Ext w1 w → ∀ v, EnvV w v En.e1 → Calls Try.prog 45 #[.agg #[.string s, .slice a1 En.p0.hs.length m1, .slice a2 En.p0.md.length m2, .slice a3 n3 m3, .slice a4 n4 m4, .slice a5 n5 m5, .slice a6 n6 m6, .slice a7 n7 m7, .slice a8 En.p0.dp.length m8], v, .int .i64 0] w (EnvR w En.f1)) := Lib.hid (fun w hx v hv => by have h := addV (hp.ext hx) hv En.c_e1 0; rw [En.k_f1] at h; exact h)
  have HS1 : Hid (∀ w, Ext w1 w → ∀ v, EnvV w v En.f1 → Calls Try.prog 43 #[.agg #[.string s, .slice a1 En.p0.hs.length m1, .slice a2 En.p0.md.length m2, .slice a3 n3 m3, .slice a4 n4 m4, .slice a5 n5 m5, .slice a6 n6 m6, .slice a7 n7 m7, .slice a8 En.p0.dp.length m8], v, .agg #[.int .i64 0, .int .i64 0], .int .u32 7] w (EnvR w En.f2)) := Lib.hid (fun w hx v hv => by have h := setV (hp.ext hx) hv En.c_f1 0 0 7 (by decide) (by decide); rw [En.k_f2] at h; exact h)
  have HS2 : Hid (∀ w, Ext w1 w → ∀ v, EnvV w v En.f2 → Calls Try.prog 43 #[.agg #[.string s, .slice a1 En.p0.hs.length m1, .slice a2 En.p0.md.length m2, .slice a3 n3 m3, .slice a4 n4 m4, .slice a5 n5 m5, .slice a6 n6 m6, .slice a7 n7 m7, .slice a8 En.p0.dp.length m8], v, .agg #[.int .i64 0, .int .i64 1], .int .u32 21] w (EnvP w En.f3)) := Lib.hid (fun w hx v hv => by have h := setVP (hp.ext hx) hv En.c_f2 0 1 21 (by decide) (by decide); rw [En.k_f3] at h; exact h)
  have HRM : Hid (∀ w, Ext w1 w → ∀ v, EnvV w v En.f3 → Calls Try.prog 47 #[.agg #[.string s, .slice a1 En.p0.hs.length m1, .slice a2 En.p0.md.length m2, .slice a3 n3 m3, .slice a4 n4 m4, .slice a5 n5 m5, .slice a6 n6 m6, .slice a7 n7 m7, .slice a8 En.p0.dp.length m8], v, .int .i64 0] w (EnvR w En.e1)) := Lib.hid (fun w hx v hv => by have h := remV (hp.ext hx) hv En.c_f3 0; rw [En.k_g] at h; exact h)
  have HCF : Hid (∀ w, Ext w1 w → ∀ v, EnvV w v En.f3 → Calls Try.prog 39 #[.agg #[.string s, .slice a1 En.p0.hs.length m1, .slice a2 En.p0.md.length m2, .slice a3 n3 m3, .slice a4 n4 m4, .slice a5 n5 m5, .slice a6 n6 m6, .slice a7 n7 m7, .slice a8 En.p0.dp.length m8], v] w (Rets w (.int .i64 0))) := Lib.hid (fun w hx v hv => by have h := chkV (hp.ext hx) hv; rw [En.k_cf] at h; exact h)
  have HCZ : Hid (∀ w, Ext w1 w → ∀ v, EnvV w v En.z0 → Calls Try.prog 39 #[.agg #[.string s, .slice a1 En.p0.hs.length m1, .slice a2 En.p0.md.length m2, .slice a3 n3 m3, .slice a4 n4 m4, .slice a5 n5 m5, .slice a6 n6 m6, .slice a7 n7 m7, .slice a8 En.p0.dp.length m8], v] w (Rets w (.int .i64 2))) := Lib.hid (fun w hx v hv => by have h := chkV (hp.ext hx) hv; rw [En.k_cz] at h; exact h)
  have HWD : Hid (∀ w, Ext w1 w → Calls Try.prog 34 #[.agg #[.string s, .slice a1 En.p0.hs.length m1, .slice a2 En.p0.md.length m2, .slice a3 n3 m3, .slice a4 n4 m4, .slice a5 n5 m5, .slice a6 n6 m6, .slice a7 n7 m7, .slice a8 En.p0.dp.length m8], .agg #[.int .i64 0, .int .i64 1]] w (Rets w (.int .i64 4))) := Lib.hid (fun w hx => by have h := width_any (hp.ext hx) 0 1; rw [En.k_w] at h; exact h)
  have HE1 : Hid (∀ w, ∀ u v, EnvV w u En.e1 → EnvV w v En.e1 → Calls Try.prog 51 #[u, v] w (Rets w (.bool true))) := Lib.hid (fun w u v hu hv => by have h := eqV hu hv; rw [En.k_ee] at h; exact h)
  have HE2 : Hid (∀ w, ∀ u v, EnvV w u En.f3 → EnvV w v En.e1 → Calls Try.prog 51 #[u, v] w (Rets w (.bool false))) := Lib.hid (fun w u v hu hv => by have h := eqV hu hv; rw [En.k_fe] at h; exact h)
  have HGA : Hid (∀ w v, EnvV w v En.f3 → Calls Try.prog 41 #[v, .agg #[.int .i64 0, .int .i64 0]] w (Rets w (.int .u32 7))) := Lib.hid (fun w v hv => by have h := getV hv 0 0; rw [En.k_ga] at h; exact h)
  have HGB : Hid (∀ w v, EnvV w v En.f3 → Calls Try.prog 41 #[v, .agg #[.int .i64 0, .int .i64 1]] w (Rets w (.int .u32 5))) := Lib.hid (fun w v hv => by have h := getV hv 0 1; rw [En.k_gb] at h; exact h)
  have bx := alloc_heap w1 (.cells #[.string s, .slice a1 En.p0.hs.length m1, .slice a2 En.p0.md.length m2, .slice a3 n3 m3, .slice a4 n4 m4, .slice a5 n5 m5, .slice a6 n6 m6, .slice a7 n7 m7, .slice a8 En.p0.dp.length m8] 61)
  have pc0 := alw (cell_of (o := 0) bx)
  have pc1 := alw (cell_of (o := 1) bx)
  have pc2 := alw (cell_of (o := 2) bx)
  have pc3 := alw (cell_of (o := 3) bx)
  have pc4 := alw (cell_of (o := 4) bx)
  have pc5 := alw (cell_of (o := 5) bx)
  have pc6 := alw (cell_of (o := 6) bx)
  have pc7 := alw (cell_of (o := 7) bx)
  have pc8 := alw (cell_of (o := 8) bx)
  clear bx
  have bx := alloc_heap (w1.alloc (.cells #[.string s, .slice a1 En.p0.hs.length m1, .slice a2 En.p0.md.length m2, .slice a3 n3 m3, .slice a4 n4 m4, .slice a5 n5 m5, .slice a6 n6 m6, .slice a7 n7 m7, .slice a8 En.p0.dp.length m8] 61)) (.cells #[.int .i64 0, .int .i64 0] 67)
  rw [World.size_alloc] at bx
  have fa0 := alw (cell_of (o := 0) bx)
  have fa1 := alw (cell_of (o := 1) bx)
  clear bx
  have bx := alloc_heap ((w1.alloc (.cells #[.string s, .slice a1 En.p0.hs.length m1, .slice a2 En.p0.md.length m2, .slice a3 n3 m3, .slice a4 n4 m4, .slice a5 n5 m5, .slice a6 n6 m6, .slice a7 n7 m7, .slice a8 En.p0.dp.length m8] 61)).alloc (.cells #[.int .i64 0, .int .i64 0] 67)) (.cells #[.int .i64 0, .int .i64 1] 67)
  rw [World.size_alloc, World.size_alloc] at bx
  have fb0 := alw (cell_of (o := 0) bx)
  have fb1 := alw (cell_of (o := 1) bx)
  clear bx
  clear hp hp0 x1
  go_wp2_with fail
  refine (HNEW.out _ grows).mono ?_
  rintro e w2 ⟨v2, rfl, x2, r2⟩
  have s2 := Step.mk x2
  have I2 := Lib.hid r2
  obtain ⟨ev2, hv2, he2⟩ := r2
  obtain ⟨q20, q21, q22, q23, t20, t21, t22, t23, hg⟩ := he2.form
  obtain ⟨rfl, _, _, _, _, _, _, _, _⟩ := hg
  subst hv2
  clear he2
  have bo := alloc_heap w2 (.cells #[.slice q20 En.e1.va.length t20, .slice q21 En.e1.fi.length t21, .slice q22 En.e1.me.length t22, .slice q23 En.e1.pl.length t23] 65)
  have o2_0 := alw (cell_of (o := 0) bo)
  have o2_1 := alw (cell_of (o := 1) bo)
  have o2_2 := alw (cell_of (o := 2) bo)
  have o2_3 := alw (cell_of (o := 3) bo)
  clear bo
  clear x2
  go_wp2_with fail
  refine (HS0.out _ grows _ (I2.out.ext grows)).mono ?_
  rintro e w3 ⟨v3, rfl, x3, r3⟩
  have s3 := Step.mk x3
  have I3 := Lib.hid r3
  obtain ⟨ev3, hv3, he3⟩ := r3
  obtain ⟨q30, q31, q32, q33, t30, t31, t32, t33, hg⟩ := he3.form
  obtain ⟨rfl, _, _, _, _, _, _, _, _⟩ := hg
  subst hv3
  clear he3
  have bo := alloc_heap w3 (.cells #[.slice q30 En.e1.va.length t30, .slice q31 En.e1.fi.length t31, .slice q32 En.e1.me.length t32, .slice q33 En.e1.pl.length t33] 65)
  have o3_0 := alw (cell_of (o := 0) bo)
  have o3_1 := alw (cell_of (o := 1) bo)
  have o3_2 := alw (cell_of (o := 2) bo)
  have o3_3 := alw (cell_of (o := 3) bo)
  clear bo
  clear x3
  go_wp2_with fail
  refine Rel.region_tail (W := (w3.alloc (.cells #[.slice q30 En.e1.va.length t30, .slice q31 En.e1.fi.length t31, .slice q32 En.e1.me.length t32, .slice q33 En.e1.pl.length t33] 65))) 10 (Rel.tab [(4, fun v w => EnvV w v En.f1), (6, fun v w => EnvV w v En.f2), (8, fun v w => EnvO w v En.f3), (9, fun v w => ∃ gz, v = .pointer (some ⟨gz, 0, none⟩) ∧ Rel.Fresh (w3.alloc (.cells #[.slice q30 En.e1.va.length t30, .slice q31 En.e1.fi.length t31, .slice q32 En.e1.me.length t32, .slice q33 En.e1.pl.length t33] 65)) gz (.cells #[.slice none 0 0, .slice none 0 0, .slice none 0 0, .slice none 0 0] 65) w)]) (Rel.tab_lasts (by intro p hp v w w' hr hx; simp only [List.mem_cons, List.not_mem_nil, or_false] at hp; rcases hp with rfl | rfl | rfl | rfl; (· exact EnvV.ext hr hx); (· exact EnvV.ext hr hx); (· exact EnvO.ext hr hx); (· obtain ⟨g, e1, e2⟩ := hr; exact ⟨g, e1, e2.ext hx⟩))) (by kernel_rfl) (by kernel_rfl) (Ext.refl _) ?_
  simp only [List.take_succ_cons, List.take_zero]
  refine Rel.chunkT 4 rfl rfl rfl ?_
  simp only [List.take_succ_cons, List.take_zero, List.drop_succ_cons, List.drop_zero, Nat.reduceAdd]
  repeat (go_big_quiet_step (fail))
  refine wpQuiet_nil ?_
  refine Rel.callG (fun v w => EnvV w v En.f1) rfl rfl rfl Try.func45 (by nofun) (by decide) #[.agg #[.string s, .slice a1 En.p0.hs.length m1, .slice a2 En.p0.md.length m2, .slice a3 n3 m3, .slice a4 n4 m4, .slice a5 n5 m5, .slice a6 n6 m6, .slice a7 n7 m7, .slice a8 En.p0.dp.length m8], .agg #[.slice q20 En.e1.va.length t20, .slice q21 En.e1.fi.length t21, .slice q22 En.e1.me.length t22, .slice q23 En.e1.pl.length t23], .int .i64 0] rfl (fun w hx _ => by refine (HAD.out w ((grows (a := w1) (b := (w3.alloc (.cells #[.slice q30 En.e1.va.length t30, .slice q31 En.e1.fi.length t31, .slice q32 En.e1.me.length t32, .slice q33 En.e1.pl.length t33] 65)))).trans hx) _ (I2.out.ext ((grows (a := w2) (b := (w3.alloc (.cells #[.slice q30 En.e1.va.length t30, .slice q31 En.e1.fi.length t31, .slice q32 En.e1.me.length t32, .slice q33 En.e1.pl.length t33] 65)))).trans hx))).mono ?_; rintro e w9 ⟨u, he, hx9, hr9⟩; exact ⟨u, he, hx9, hr9⟩) ?_
  intro va wa _ _ ra
  simp only [Act.put, List.setIfInBounds_toArray, List.set_cons_succ, List.set_cons_zero]
  refine Rel.chunkT 1 rfl rfl rfl ?_
  simp only [List.take_succ_cons, List.take_zero, List.drop_succ_cons, List.drop_zero, Nat.reduceAdd]
  repeat (go_big_quiet_step (fail))
  refine wpQuiet_nil ?_
  refine Rel.callG (fun v w => EnvV w v En.f2) rfl rfl rfl Try.func43 (by nofun) (by decide) #[.agg #[.string s, .slice a1 En.p0.hs.length m1, .slice a2 En.p0.md.length m2, .slice a3 n3 m3, .slice a4 n4 m4, .slice a5 n5 m5, .slice a6 n6 m6, .slice a7 n7 m7, .slice a8 En.p0.dp.length m8], va, .agg #[.int .i64 0, .int .i64 0], .int .u32 7] rfl (fun w hx hf => by refine (HS1.out w ((grows (a := w1) (b := (w3.alloc (.cells #[.slice q30 En.e1.va.length t30, .slice q31 En.e1.fi.length t31, .slice q32 En.e1.me.length t32, .slice q33 En.e1.pl.length t33] 65)))).trans hx) _ ((hf 4 (by kernel_rfl)).2 rfl)).mono ?_; rintro e w9 ⟨u, he, hx9, hr9⟩; exact ⟨u, he, hx9, hr9⟩) ?_
  intro vb wb _ _ rb
  simp only [Act.put, List.setIfInBounds_toArray, List.set_cons_succ, List.set_cons_zero]
  refine Rel.chunkT 1 rfl rfl rfl ?_
  simp only [List.take_succ_cons, List.take_zero, List.drop_succ_cons, List.drop_zero, Nat.reduceAdd]
  repeat (go_big_quiet_step (fail))
  refine wpQuiet_nil ?_
  refine Rel.callG (fun v w => EnvO w v En.f3) rfl rfl rfl Try.func43 (by nofun) (by decide) #[.agg #[.string s, .slice a1 En.p0.hs.length m1, .slice a2 En.p0.md.length m2, .slice a3 n3 m3, .slice a4 n4 m4, .slice a5 n5 m5, .slice a6 n6 m6, .slice a7 n7 m7, .slice a8 En.p0.dp.length m8], vb, .agg #[.int .i64 0, .int .i64 1], .int .u32 21] rfl (fun w hx hf => by refine (HS2.out w ((grows (a := w1) (b := (w3.alloc (.cells #[.slice q30 En.e1.va.length t30, .slice q31 En.e1.fi.length t31, .slice q32 En.e1.me.length t32, .slice q33 En.e1.pl.length t33] 65)))).trans hx) _ ((hf 6 (by kernel_rfl)).2 rfl)).mono ?_; rintro e w9 ⟨u, us, he, hx9, hr9⟩; exact ⟨_, he, hx9, u, us, rfl, hr9.base (Nat.zero_le _)⟩) ?_
  intro vc wc _ _ rc
  simp only [Act.put, List.setIfInBounds_toArray, List.set_cons_succ, List.set_cons_zero]
  refine Rel.fresh (fun g => .pointer (some ⟨g, 0, none⟩)) (.cells #[.slice none 0 0, .slice none 0 0, .slice none 0 0, .slice none 0 0] 65) rfl rfl rfl (fun w hx => by kernel_rfl) ?_
  intro g4 y4 _ _ h4
  simp only [Act.put, List.setIfInBounds_toArray, List.set_cons_succ, List.set_cons_zero]
  refine Rel.fin ?_
  intro w4 x4 hf4
  have s4 := Step.mk x4
  have rc4 := (hf4 8).1.2 rfl
  obtain ⟨g', e1, e2, e3⟩ := (hf4 9).2 rfl
  simp only [Value.pointer.injEq, Option.some.injEq, Addr.mk.injEq, and_true] at e1
  subst e1
  have rc5 := rc4
  obtain ⟨ev4, vs4, hv4, ho4⟩ := rc5
  obtain ⟨q40, q41, q42, q43, t40, t41, t42, t43, hg⟩ := ho4.isE.form
  obtain ⟨rfl, _, _, _, _, _, _, _, _⟩ := hg
  subst hv4
  dsimp only [Pg.EV.val]
  refine wpList_store_box rfl 65 (.tmp 6) (.tmp 25) rfl g4 #[.slice q40 En.f3.va.length t40, .slice q41 En.f3.fi.length t41, .slice q42 En.f3.me.length t42, .slice q43 En.f3.pl.length t43] rfl rfl 65 #[.slice none 0 0, .slice none 0 0, .slice none 0 0, .slice none 0 0] e3 (by kernel_rfl) rfl (by simp [Value.oneCell']) ?_
  intro w5 m5 e5
  have x5 := Ext.mod x4 m5 (fun k hk => by subst hk; exact e2)
  have s5 := Step.mk x5
  have I5 := Lib.hid (rc4.box m5 e3).v
  have o5_0 := alw (show w5.cell? ⟨g4, 0, none⟩ = some (.slice q40 En.f3.va.length t40) by rw [cell_of e5]; rfl)
  have o5_1 := alw (show w5.cell? ⟨g4, 1, none⟩ = some (.slice q41 En.f3.fi.length t41) by rw [cell_of e5]; rfl)
  have o5_2 := alw (show w5.cell? ⟨g4, 2, none⟩ = some (.slice q42 En.f3.me.length t42) by rw [cell_of e5]; rfl)
  have o5_3 := alw (show w5.cell? ⟨g4, 3, none⟩ = some (.slice q43 En.f3.pl.length t43) by rw [cell_of e5]; rfl)
  clear hf4 ra rb rc h4 x4 rc4 ho4 e2 e3 m5 e5 x5 s4
  go_wp2_with fail
  refine (HRM.out _ grows _ (I5.out.ext grows)).mono ?_
  rintro e w6 ⟨v6, rfl, x6, r6⟩
  have s6 := Step.mk x6
  have I6 := Lib.hid r6
  obtain ⟨ev6, hv6, he6⟩ := r6
  obtain ⟨q60, q61, q62, q63, t60, t61, t62, t63, hg⟩ := he6.form
  obtain ⟨rfl, _, _, _, _, _, _, _, _⟩ := hg
  subst hv6
  clear he6
  have bo := alloc_heap w6 (.cells #[.slice q60 En.e1.va.length t60, .slice q61 En.e1.fi.length t61, .slice q62 En.e1.me.length t62, .slice q63 En.e1.pl.length t63] 65)
  have o6_0 := alw (cell_of (o := 0) bo)
  have o6_1 := alw (cell_of (o := 1) bo)
  have o6_2 := alw (cell_of (o := 2) bo)
  have o6_3 := alw (cell_of (o := 3) bo)
  clear bo
  clear x6
  go_wp2_with fail
  refine (HWD.out _ grows).mono ?_
  rintro e w10 ⟨rfl, x10⟩
  have s10 := Step.mk x10
  go_wp2_with fail
  refine (HE1.out _ _ _ (I3.out.ext grows) (I2.out.ext grows)).mono ?_
  rintro e w11 ⟨rfl, x11⟩
  have s11 := Step.mk x11
  go_wp2_with fail
  refine (HGA.out _ _ (I5.out.ext grows)).mono ?_
  rintro e w12 ⟨rfl, x12⟩
  have s12 := Step.mk x12
  go_wp2_with fail
  refine (HGB.out _ _ (I5.out.ext grows)).mono ?_
  rintro e w13 ⟨rfl, x13⟩
  have s13 := Step.mk x13
  go_wp2_with fail
  refine (HE1.out _ _ _ (I6.out.ext grows) (I2.out.ext grows)).mono ?_
  rintro e w14 ⟨rfl, x14⟩
  have s14 := Step.mk x14
  go_wp2_with fail
  refine (HE2.out _ _ _ (I5.out.ext grows) (I2.out.ext grows)).mono ?_
  rintro e w15 ⟨rfl, x15⟩
  have s15 := Step.mk x15
  go_wp2_with fail
  refine (HCF.out _ grows _ (I5.out.ext grows)).mono ?_
  rintro e w16 ⟨rfl, x16⟩
  have s16 := Step.mk x16
  go_wp2_with fail
  refine (HCZ.out _ grows _ (zeroV _)).mono ?_
  rintro e w17 ⟨rfl, x17⟩
  have s17 := Step.mk x17
  go_wp2_with fail
  go_ret
  exact ⟨rfl, grows⟩
end Go.Proofs.Ytdgepbolfflidaa
