/- The deparser: programs and environments that came in. No condition. -/
import Derived.Test.YtonnlcjkgpahoaaDqB
import Derived.Test.YtonnlcjkgpahoaaHdL
import Derived.Deep.RegionHeld
namespace Go.Proofs.Ytonnlcjkgpahoaa
open Go.RowKit

theorem ns_rows {k : IntKind} {w : World} {v : Value} {ds : List Int} {p : Int → Prop} (h : Rows w 1 (fun _ cs d => cs = [.int k d] ∧ p d) v ds) : (Ns k w v ds ∧ ∀ x ∈ ds, p x) ∧ ∃ a n c, v = .slice a n c ∧ n ≤ c ∧ c ≤ maxLen := by
  rcases h with ⟨rfl, rfl⟩ | ⟨ad, c, rfl, h2, h3, h5, h4⟩
  · exact ⟨⟨⟨⟨rfl, (by simp), .inl ⟨rfl, rfl⟩⟩, Nat.zero_le _⟩, by simp⟩, _, _, _, rfl, Nat.le_refl _, Nat.zero_le _⟩
  · refine ⟨⟨⟨⟨by simp, by intro u hu; simp at hu; obtain ⟨x, _, rfl⟩ := hu; rfl, .inr ⟨ad, c, rfl, fun j u hj => ?_⟩⟩, Nat.le_trans h2 h3⟩, fun x hx => ?_⟩, _, _, _, rfl, h2, h3⟩
    · rw [List.getElem?_map] at hj
      cases hd : ds[j]? with
      | none => rw [hd] at hj; simp at hj
      | some d =>
        rw [hd] at hj
        simp only [Option.map_some, Option.some.injEq] at hj
        subst hj
        obtain ⟨cs, _, ⟨rfl, _⟩, hc⟩ := h4 j d hd
        have h6 := hc 0 _ rfl
        have h7 := h5 (by intro e; subst e; simp at hd)
        rw [h7]
        rw [show (⟨ad.block, ad.off, none⟩ : Addr).add j = ⟨ad.block, ad.off + j * 1 + 0, none⟩ by simp [Addr.add]]
        exact h6
    · obtain ⟨i, hi⟩ := List.mem_iff_getElem?.1 hx
      obtain ⟨_, _, ⟨_, hp⟩, _⟩ := h4 i x hi
      exact hp
theorem bs_rows {w : World} {v : Value} {ds : List Bool} (h : Rows w 1 (fun _ cs d => cs = [.bool d]) v ds) : Bs w v ds := by
  rcases h with ⟨rfl, rfl⟩ | ⟨ad, c, rfl, h2, h3, h5, h4⟩
  · exact ⟨⟨rfl, (by simp), .inl ⟨rfl, rfl⟩⟩, Nat.zero_le _⟩
  · refine ⟨⟨by simp, by intro u hu; rw [List.mem_map] at hu; obtain ⟨x, _, rfl⟩ := hu; rfl, .inr ⟨ad, c, rfl, fun j u hj => ?_⟩⟩, Nat.le_trans h2 h3⟩
    rw [List.getElem?_map] at hj
    cases hd : ds[j]? with
    | none => rw [hd] at hj; simp at hj
    | some d =>
      rw [hd] at hj
      simp only [Option.map_some, Option.some.injEq] at hj
      subst hj
      obtain ⟨cs, _, rfl, hc⟩ := h4 j d hd
      have h6 := hc 0 _ rfl
      have h7 := h5 (by intro e; subst e; simp at hd)
      rw [h7]
      rw [show (⟨ad.block, ad.off, none⟩ : Addr).add j = ⟨ad.block, ad.off + j * 1 + 0, none⟩ by simp [Addr.add]]
      exact h6
theorem wf_u32r {x : Int} (h : (Lit.int .u32 x).wf = true) : U32 x := by
  simp [Lit.wf, IntKind.min, IntKind.max, IntKind.bits, IntKind.signed] at h; unfold U32; omega
theorem rd_sl {P : Program} {W : World} {t e : TypeId} {cs : List Value} (hu : P.underlying t = some (.slice e)) (h : Rd P W t cs) : ∃ a n c, cs = [.slice a n c] := by
  rcases h.slice hu with rfl | ⟨a, len, cap, rfl, _⟩
  · exact ⟨_, _, _, rfl⟩
  · exact ⟨_, _, _, rfl⟩
set_option maxRecDepth 100000 in
theorem rd_u32s {W : World} {cs : List Value} (h : Rd Try.prog W 34 cs) : ∃ v l, cs = [v] ∧ Ns .u32 W v l ∧ ∀ x ∈ l, U32 x := by
  obtain ⟨v, l, h1, h2⟩ := Rd.rows (R := fun _ cs (d : Int) => cs = [.int .u32 d] ∧ U32 d) Try.underlying34 (show Try.prog.cellsOf 64 = 1 by kernel_rfl) (by decide) (fun row _ hr => by
    obtain ⟨n, h3, h4⟩ := Rd.int Try.underlying64 hr
    exact ⟨n, h3, wf_u32r h4⟩) h
  exact ⟨v, l, h1, (ns_rows h2).1⟩
set_option maxRecDepth 100000 in
theorem rd_ints {W : World} {cs : List Value} (h : Rd Try.prog W 29 cs) : ∃ v l, cs = [v] ∧ Ns .i64 W v l ∧ ∃ a n c, v = .slice a n c ∧ n ≤ c ∧ c ≤ maxLen := by
  obtain ⟨v, l, h1, h2⟩ := Rd.rows (R := fun _ cs (d : Int) => cs = [.int .i64 d] ∧ True) Try.underlying29 (show Try.prog.cellsOf 3 = 1 by kernel_rfl) (by decide) (fun row _ hr => by
    obtain ⟨n, h3, _⟩ := Rd.int Try.underlying3 hr
    exact ⟨n, h3, trivial⟩) h
  exact ⟨v, l, h1, (ns_rows h2).1.1, (ns_rows h2).2⟩
set_option maxRecDepth 100000 in
theorem rd_bytes {W : World} {cs : List Value} (h : Rd Try.prog W 35 cs) : ∃ v l, cs = [v] ∧ Ns .u8 W v l ∧ Io.Bytes l := by
  obtain ⟨v, l, h1, h2⟩ := Rd.rows (R := fun _ cs (d : Int) => cs = [.int .u8 d] ∧ (0 ≤ d ∧ d ≤ 255)) Try.underlying35 (show Try.prog.cellsOf 5 = 1 by kernel_rfl) (by decide) (fun row _ hr => by
    obtain ⟨n, h3, h4⟩ := Rd.int Try.underlying5 hr
    exact ⟨n, h3, wf_u8 h4⟩) h
  exact ⟨v, l, h1, (ns_rows h2).1⟩
set_option maxRecDepth 100000 in
theorem rd_bools {W : World} {cs : List Value} (h : Rd Try.prog W 32 cs) : ∃ v l, cs = [v] ∧ Bs W v l := by
  obtain ⟨v, l, h1, h2⟩ := Rd.rows (R := fun _ cs (d : Bool) => cs = [.bool d]) Try.underlying32 (show Try.prog.cellsOf 4 = 1 by kernel_rfl) (by decide) (fun row _ hr => Rd.bool Try.underlying4 hr) h
  exact ⟨v, l, h1, bs_rows h2⟩
set_option maxRecDepth 100000 in
theorem rd_table {W : World} {cs : List Value} (h : Rd Try.prog W 33 cs) : ∃ v l, cs = [v] ∧ Rows W 1 RowR v l :=
  Rd.rows Try.underlying33 (show Try.prog.cellsOf 34 = 1 by kernel_rfl) (by decide) (fun row _ hr => by
    obtain ⟨v, l, h1, h2, h3⟩ := rd_u32s hr
    exact ⟨l, v, h1, h2, h3⟩) h
set_option maxRecDepth 100000 in
theorem env_take {v : Value} {W : World} {base : Nat} {r : Reach} {H : Type} {enc : TypeId × Value → H} {d : DataW H} {ps : List MemPlace}
    (ok : Value.okWide Try.prog W r base 37 v) (h : DataW.Trod enc Try.prog W 0 (fun _ => true) true 37 v d ps) : ∃ (e : Pg.EV) (E : Pg.Env), v = e.val ∧ Pg.IsE W e E := by
  have hc : Try.prog.cellsOf 37 = 4 := by kernel_rfl
  have z0 : Try.prog.cellsOf 32 = 1 := by kernel_rfl
  have z1 : Try.prog.cellsOf 33 = 1 := by kernel_rfl
  have z2 : Try.prog.cellsOf 34 = 1 := by kernel_rfl
  have z3 : Try.prog.cellsOf 35 = 1 := by kernel_rfl
  obtain ⟨l, rfl, hl⟩ := ok_struct Try.underlying37 ok
  rw [hc] at hl
  have hrd := Rd.of h
  simp only [Value.cells, List.toList_toArray] at hrd
  obtain ⟨_, hr⟩ := Rd.struct Try.underlying37 hrd
  match l, hl with
  | [c0, c1, c2, c3], _ =>
    have r0 := hr 0 _ rfl
    have r1 := hr 1 _ rfl
    have r2 := hr 2 _ rfl
    have r3 := hr 3 _ rfl
    simp [z0, z1, z2, z3] at r0 r1 r2 r3
    obtain ⟨v0, l0, e0, g0⟩ := rd_bools r0
    obtain ⟨v1, l1, e1, g1⟩ := rd_table r1
    obtain ⟨v2, l2, e2, g2⟩ := rd_u32s r2
    obtain ⟨v3, l3, e3, g3⟩ := rd_bytes r3
    simp at e0 e1 e2 e3
    subst e0; subst e1; subst e2; subst e3
    exact ⟨⟨c0, c1, c2, c3⟩, ⟨l0, l1, l2, l3⟩, rfl, g0, g1, g2, g3⟩
set_option maxRecDepth 100000 in
theorem prog_take {v : Value} {W : World} {base : Nat} {r : Reach} {H : Type} {enc : TypeId × Value → H} {d : DataW H} {ps : List MemPlace}
    (ok : Value.okWide Try.prog W r base 31 v) (h : DataW.Trod enc Try.prog W 0 (fun _ => true) true 31 v d ps) : ∃ (p : Pg.PV) (P : Pg.Prog), v = p.val ∧ Pg.IsP W p P ∧ Pg.CapP p := by
  have hc : Try.prog.cellsOf 31 = 9 := by kernel_rfl
  have z0 : Try.prog.cellsOf 9 = 1 := by kernel_rfl
  have z1 : Try.prog.cellsOf 22 = 1 := by kernel_rfl
  have z2 : Try.prog.cellsOf 23 = 1 := by kernel_rfl
  have z3 : Try.prog.cellsOf 24 = 1 := by kernel_rfl
  have z4 : Try.prog.cellsOf 25 = 1 := by kernel_rfl
  have z5 : Try.prog.cellsOf 26 = 1 := by kernel_rfl
  have z6 : Try.prog.cellsOf 27 = 1 := by kernel_rfl
  have z7 : Try.prog.cellsOf 28 = 1 := by kernel_rfl
  have z8 : Try.prog.cellsOf 29 = 1 := by kernel_rfl
  obtain ⟨l, rfl, hl⟩ := ok_struct Try.underlying31 ok
  rw [hc] at hl
  have hrd := Rd.of h
  simp only [Value.cells, List.toList_toArray] at hrd
  obtain ⟨_, hr⟩ := Rd.struct Try.underlying31 hrd
  match l, hl with
  | [c0, c1, c2, c3, c4, c5, c6, c7, c8], _ =>
    have r0 := hr 0 _ rfl
    have r1 := hr 1 _ rfl
    have r2 := hr 2 _ rfl
    have r3 := hr 3 _ rfl
    have r4 := hr 4 _ rfl
    have r5 := hr 5 _ rfl
    have r6 := hr 6 _ rfl
    have r7 := hr 7 _ rfl
    have r8 := hr 8 _ rfl
    simp [z0, z1, z2, z3, z4, z5, z6, z7, z8] at r0 r1 r2 r3 r4 r5 r6 r7 r8
    obtain ⟨s, e0, _⟩ := Rd.string Try.underlying9 r0
    obtain ⟨v1, hs, e1, g1⟩ := Rd.rows (R := Hd.HdrR) Try.underlying22 (show Try.prog.cellsOf 72 = 2 by kernel_rfl) (by decide) (fun row hl hr => rd_header hl hr) r1
    obtain ⟨v2, md, e2, g2⟩ := rd_fields r2
    obtain ⟨a3, n3, c3, h3⟩ := rd_sl Try.underlying24 r3
    obtain ⟨a4, n4, c4, h4⟩ := rd_sl Try.underlying25 r4
    obtain ⟨a5, n5, c5, h5⟩ := rd_sl Try.underlying26 r5
    obtain ⟨a6, n6, c6, h6⟩ := rd_sl Try.underlying27 r6
    obtain ⟨a7, n7, c7, h7⟩ := rd_sl Try.underlying28 r7
    obtain ⟨v8, dp, e8, g8, a8, n8, k8, e8', q1, q2⟩ := rd_ints r8
    simp at e0 e1 e2 e8 h3 h4 h5 h6 h7
    subst e0; subst e1; subst e2; subst e8; subst h3; subst h4; subst h5; subst h6; subst h7
    exact ⟨⟨_, c1, c2, _, _, _, _, _, c8⟩, ⟨hs, md, dp⟩, rfl, ⟨⟨s, rfl⟩, g1, g2, ⟨_, _, _, rfl⟩, ⟨_, _, _, rfl⟩, ⟨_, _, _, rfl⟩, ⟨_, _, _, rfl⟩, ⟨_, _, _, rfl⟩, g8⟩, ⟨a8, n8, k8, e8', q1, by unfold maxLen at q2; exact q2⟩⟩
theorem str_alw {W : World} {v : Value} {l : List Int} (h : Src W v 1 l.length (u8s l)) (w : World) [g : Grows W w] : (convert 35 9 v).run Try.prog w = .ok (.string (strOfNums l)) w := src_str (h.ext g.out)
def BoolR (W : World) (e : Ending) (w' : World) : Prop := (e = .returned (.bool true) ∨ e = .returned (.bool false)) ∧ Ext W w'
set_option maxRecDepth 8000 in
set_option maxHeartbeats 2000000 in
theorem dsmall_any {W : World} {p : Pg.PV} {P : Pg.Prog} (hp : Pg.IsP W p P) :
    Calls Try.prog 12 #[p.val] W (BoolR W) := by
  obtain ⟨s, a1, a2, a3, a4, a5, a6, a7, a8, m1, m2, n3, m3, n4, m4, n5, m5, n6, m6, n7, m7, m8, hf⟩ := hp.form
  obtain ⟨rfl, hhs, hmd, hdp, hl1, hl2, hl8⟩ := hf
  dsimp only [Pg.PV.val]
  have bb := alloc_heap W (.cells #[.string s, .slice a1 P.hs.length m1, .slice a2 P.md.length m2, .slice a3 n3 m3, .slice a4 n4 m4, .slice a5 n5 m5, .slice a6 n6 m6, .slice a7 n7 m7, .slice a8 P.dp.length m8] 31)
  have k1 := alw (cell_of (o := 1) bb)
  have k2 := alw (cell_of (o := 2) bb)
  have k8 := alw (cell_of (o := 8) bb)
  have HHS := Lib.hid hhs
  clear bb hp hhs hmd hdp
  by_cases h1 : P.hs.length ≤ 20
  · by_cases h2 : P.dp.length ≤ 40
    · by_cases h3 : P.md.length ≤ 40
      · go_enter Try.func12, Try.ntmps12
        go_wp2_with fail
        go_loopw [3] (fun i wr => ∃ k : Nat, k ≤ P.hs.length ∧ i = .int .i64 k ∧ wr = (W.alloc (.cells #[.string s, .slice a1 P.hs.length m1, .slice a2 P.md.length m2, .slice a3 n3 m3, .slice a4 n4 m4, .slice a5 n5 m5, .slice a6 n6 m6, .slice a7 n7 m7, .slice a8 P.dp.length m8] 31))) (fun i _ => P.hs.length - (intOf i).toNat)
        case atStart => exact ⟨0, Nat.zero_le _, rfl, rfl⟩
        case round =>
          obtain ⟨k, hk, rfl, rfl⟩ := hrel
          by_cases hlt : k < P.hs.length
          · obtain ⟨⟨nm, fs⟩, hhk⟩ : ∃ x, P.hs[k]? = some x := ⟨_, List.getElem?_eq_getElem hlt⟩
            obtain ⟨bh, oh, hoh, _, _⟩ := Rows.at HHS.out (by omega)
            subst hoh
            obtain ⟨fa, fc, q0, q1, qn, qf, qc, qm⟩ := hdrs_at HHS.out k nm fs hhk rfl
            have hgh : P.hs.getD k (⟨#[]⟩, []) = (nm, fs) := by rw [List.getD_eq_getElem?_getD, hhk]; rfl
            have HGH := Lib.hid hgh
            have QF := Lib.hid qf
            unfold maxLen at qm
            clear hhk hgh qf
            by_cases h4 : fs.length ≤ 40
            · go_wp2_with fail
              go_roundw
              case rel => exact ⟨k + 1, by omega, by go_num, (by first | exact rfl | trivial)⟩
              case measure => simp [intOf]; omega
            · have h4' : 40 < fs.length := by omega
              go_wp2_with fail
              go_ret
              first | exact ⟨.inl rfl, grows⟩ | exact ⟨.inr rfl, grows⟩
          · obtain rfl : k = P.hs.length := by omega
            go_wp2_with fail
            go_ret
            first | exact ⟨.inl rfl, grows⟩ | exact ⟨.inr rfl, grows⟩
      · have h3' : 40 < P.md.length := by omega
        go_enter Try.func12, Try.ntmps12
        go_wp2_with fail
        go_ret
        first | exact ⟨.inl rfl, grows⟩ | exact ⟨.inr rfl, grows⟩
    · have h2' : 40 < P.dp.length := by omega
      go_enter Try.func12, Try.ntmps12
      go_wp2_with fail
      go_ret
      first | exact ⟨.inl rfl, grows⟩ | exact ⟨.inr rfl, grows⟩
  · have h1' : 20 < P.hs.length := by omega
    go_enter Try.func12, Try.ntmps12
    go_wp2_with fail
    go_ret
    first | exact ⟨.inl rfl, grows⟩ | exact ⟨.inr rfl, grows⟩

end Go.Proofs.Ytonnlcjkgpahoaa
