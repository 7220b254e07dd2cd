/- The deparser: the law Concatenates, walked. No condition. -/
import Derived.Test.YtonnlcjkgpahoaaDqD
import Derived.Test.YtonnlcjkgpahoaaStep
import Derived.Deep.RegionLaw
import Derived.Deep.Cut
namespace Go.Proofs.Ytonnlcjkgpahoaa
open Go.RowKit

/-- the first t elements of a slice -/
theorem slice_lo {W : World} {a : Option Addr} {c : Nat} {l : List Int} (h : Ns .i64 W (.slice a l.length c) l) (hc : l.length ≤ c) {t : Nat} (ht : t ≤ l.length) :
    (∀ w, (Instr.sliceAt 29 (.slice a l.length c) none (some (.int .i64 (t : Int))) none).run Try.prog w = .ok (.slice a t c) w) ∧ Ns .i64 W (.slice a t c) (l.take t) := by
  obtain ⟨⟨h1, h2, h3⟩, h4⟩ := h
  have hm : c ≤ c := Nat.le_refl _
  constructor
  · intro w
    have ht' : (t : Int) ≤ (c : Int) := by omega
    simp [go_sem, Try.underlying29, ht', sliced]
  · refine ⟨⟨by simp, fun u hu => h2 u (by rw [List.map_take] at hu; exact List.mem_of_mem_take hu), ?_⟩, by rw [List.length_take]; omega⟩
    rcases h3 with ⟨h5, h6⟩ | ⟨ad, c', h5, h6⟩
    · simp only [Value.slice.injEq] at h5
      obtain ⟨rfl, h7, rfl⟩ := h5
      obtain rfl : t = 0 := by omega
      exact .inl ⟨rfl, by simp⟩
    · simp only [Value.slice.injEq] at h5
      obtain ⟨rfl, _, rfl⟩ := h5
      refine .inr ⟨ad, c, by rw [List.length_take, Nat.min_eq_left ht], fun j u hj => h6 j u ?_⟩
      rw [List.map_take, List.getElem?_take] at hj
      split at hj
      · exact hj
      · cases hj
theorem slice_hi {W : World} {a : Option Addr} {c : Nat} {l : List Int} (h : Ns .i64 W (.slice a l.length c) l) (hc : l.length ≤ c) {t : Nat} (ht : t ≤ l.length) :
    ∃ o, (∀ w, (Instr.sliceAt 29 (.slice a l.length c) (some (.int .i64 (t : Int))) none none).run Try.prog w = .ok (.slice o (l.length - t) (c - t)) w) ∧ Ns .i64 W (.slice o (l.length - t) (c - t)) (l.drop t) := by
  obtain ⟨⟨h1, h2, h3⟩, h4⟩ := h
  refine ⟨a.map fun x => if c - t = 0 then x else x.add t, fun w => ?_, ⟨by simp, fun u hu => h2 u (by rw [List.map_drop] at hu; exact List.mem_of_mem_drop hu), ?_⟩, by rw [List.length_drop]; omega⟩
  · have ht' : (t : Int) ≤ (l.length : Int) := by omega
    simp [go_sem, Try.underlying29, ht', sliced]
    by_cases hct : c = t
    · rw [if_pos hct, show c - t = 0 by omega]; cases a <;> rfl
    · rw [if_neg hct]; cases a with
      | none => rfl
      | some x => simp only [Option.map_some]; rw [if_neg (by omega)]
  · rcases h3 with ⟨h5, h6⟩ | ⟨ad, c', h5, h6⟩
    · simp only [Value.slice.injEq] at h5
      obtain ⟨rfl, h7, rfl⟩ := h5
      exact .inl ⟨by simp; omega, by rw [List.length_drop]; omega⟩
    · simp only [Value.slice.injEq] at h5
      obtain ⟨rfl, _, rfl⟩ := h5
      refine .inr ⟨if c - t = 0 then ad else ad.add t, c - t, by rw [List.length_drop]; rfl, fun j u hj => ?_⟩
      rw [List.map_drop, List.getElem?_drop] at hj
      have h7 := h6 _ u hj
      have h8 := (List.getElem?_eq_some_iff.1 hj).1
      rw [List.length_map] at h8
      rw [if_neg (by omega)]
      rw [Addr.add_add]; exact h7

theorem str_app (a b : List Int) : strOfNums (a ++ b) = strOfNums a ++ strOfNums b := by
  apply ByteArray.ext; unfold strOfNums; simp
theorem str_size (a : List Int) : (strOfNums a).size = a.length := by show (List.map _ a).toArray.size = _; simp
theorem emit_max {P : Pg.Prog} {E : Pg.Env} (h : Dp.ok P E = true) (hp : E.pl.length ≤ 1000000) : (Dp.emit P E).length ≤ 2000000 := by
  obtain ⟨y8, _⟩ := Dp.ok_facts h
  have hl := Dp.bits_len P E P.dp []
  have hbl : (Io.byL (Dp.bitsFrom P E P.dp [])).length ≤ 1000000 := by
    unfold Io.byL
    simp only [List.length_nil] at hl
    split
    · rw [Io.pack_len]; omega
    · simp
  rw [Dp.emit_yes h, List.length_append]; omega
theorem tri_heap (w : World) (x y z : Obj) : (((w.alloc x).alloc y).alloc z).drew.heap[w.heap.size]? = some x ∧ (((w.alloc x).alloc y).alloc z).drew.heap[w.heap.size + 1]? = some y ∧ (((w.alloc x).alloc y).alloc z).drew.heap[w.heap.size + 1 + 1]? = some z ∧ Ext w (((w.alloc x).alloc y).alloc z).drew := by
  have h1 := alloc_heap w x
  have h2 := alloc_heap (w.alloc x) y
  have h3 := alloc_heap ((w.alloc x).alloc y) z
  rw [World.size_alloc] at h2
  rw [World.size_alloc, World.size_alloc] at h3
  exact ⟨((((Ext.refl _).alloc y).alloc z).drew).heap h1, (((Ext.refl _).alloc z).drew).heap h2, ((Ext.refl _).drew).heap h3, ((((Ext.refl w).alloc x).alloc y).alloc z).drew⟩
end Go.Proofs.Ytonnlcjkgpahoaa
namespace Go.Proofs.Ytonnlcjkgpahoaa
open Go.RowKit

set_option maxRecDepth 8000 in
set_option maxHeartbeats 8000000 in
theorem deparserConcatenates_walk (v0 v1 : Value) (x : Int) (W : World) {b0 b1 : Nat} {r0 r1 : Reach} {H : Type} {enc : TypeId × Value → H} {d0 d1 : DataW H} {p0 p1 : List MemPlace}
    (ok0 : Value.okWide Try.prog W r0 b0 31 v0) (h0 : DataW.Trod enc Try.prog W 0 (fun _ => true) true 31 v0 d0 p0)
    (ok1 : Value.okWide Try.prog W r1 b1 37 v1) (h1 : DataW.Trod enc Try.prog W 0 (fun _ => true) true 37 v1 d1 p1)
    (wx : (Lit.int .i64 x).wf = true) :
    Calls Try.prog 5 #[v0, v1, .int .i64 x] W (Rets W (.bool true)) := by
  obtain ⟨p, P, rfl, hp, hc⟩ := prog_take ok0 h0
  obtain ⟨e, E, rfl, he⟩ := env_take ok1 h1
  have hxb := wf_i64 wx
  clear ok0 h0 ok1 h1 d0 d1 wx
  have HP := Lib.hid hp
  have HE := Lib.hid he
  have HC := Lib.hid hc
  obtain ⟨s, a1, a2, a3, a4, a5, a6, a7, a8, m1, m2, n3, m3, n4, m4, n5, m5, n6, m6, n7, m7, m8, hf⟩ := hp.form
  obtain ⟨rfl, hhs, hmd, hdp, hl1, hl2, hl8⟩ := hf
  obtain ⟨b0, b1, b2, b3, d0, d1, d2, d3, hg⟩ := he.form
  obtain ⟨rfl, hva, hfi, hme, hpl, g0, g1, g2, g3⟩ := hg
  obtain ⟨rb, hrb⟩ : ∃ rb, Dp.rightB P E = rb := ⟨_, rfl⟩
  have HRI : Hid (∀ w, Ext W w → Calls Try.prog 20 #[.agg #[.string s, .slice a1 P.hs.length m1, .slice a2 P.md.length m2, .slice a3 n3 m3, .slice a4 n4 m4, .slice a5 n5 m5, .slice a6 n6 m6, .slice a7 n7 m7, .slice a8 P.dp.length m8], .agg #[.slice b0 E.va.length d0, .slice b1 E.fi.length d1, .slice b2 E.me.length d2, .slice b3 E.pl.length d3]] w (Rets w (.bool rb))) := Lib.hid (fun w hx => by have h := right_any (HP.out.ext hx) HC.out (HE.out.ext hx); rw [hrb] at h; exact h)
  have HRB := Lib.hid hrb
  dsimp only [Pg.PV.val, Pg.EV.val]
  have bb := alloc_heap W (.cells #[.string s, .slice a1 P.hs.length m1, .slice a2 P.md.length m2, .slice a3 n3 m3, .slice a4 n4 m4, .slice a5 n5 m5, .slice a6 n6 m6, .slice a7 n7 m7, .slice a8 P.dp.length m8] 31)
  have k0 := alw (cell_of (o := 0) bb)
  have k1 := alw (cell_of (o := 1) bb)
  have k2 := alw (cell_of (o := 2) bb)
  have k3 := alw (cell_of (o := 3) bb)
  have k4 := alw (cell_of (o := 4) bb)
  have k5 := alw (cell_of (o := 5) bb)
  have k6 := alw (cell_of (o := 6) bb)
  have k7 := alw (cell_of (o := 7) bb)
  have k8 := alw (cell_of (o := 8) bb)
  have be := alloc_heap (W.alloc (.cells #[.string s, .slice a1 P.hs.length m1, .slice a2 P.md.length m2, .slice a3 n3 m3, .slice a4 n4 m4, .slice a5 n5 m5, .slice a6 n6 m6, .slice a7 n7 m7, .slice a8 P.dp.length m8] 31)) (.cells #[.slice b0 E.va.length d0, .slice b1 E.fi.length d1, .slice b2 E.me.length d2, .slice b3 E.pl.length d3] 37)
  rw [World.size_alloc] at be
  have j0 := alw (cell_of (o := 0) be)
  have j1 := alw (cell_of (o := 1) be)
  have j2 := alw (cell_of (o := 2) be)
  have j3 := alw (cell_of (o := 3) be)
  have HVA := Lib.hid hva
  have HDP := Lib.hid hdp
  clear bb be hp he hc hhs hmd hdp hva hfi hme hpl hrb
  cases rb with
  | false =>
    go_enter Try.func5, Try.ntmps5
    go_wp2_with fail
    refine (HRI.out _ (grows (a := W))).mono ?_
    rintro e' w1 ⟨rfl, x1⟩
    have s1 := Step.mk x1
    go_wp2_with fail
    refine (dawake_any _).mono ?_
    rintro e' w2 ⟨rfl, x2⟩
    have s2 := Step.mk x2
    go_wp2_with fail
    go_ret
    exact ⟨rfl, grows⟩
  | true =>
    by_cases x0 : x < 0
    · go_enter Try.func5, Try.ntmps5
      go_wp2_with fail
      refine (HRI.out _ (grows (a := W))).mono ?_
      rintro e' w1 ⟨rfl, x1⟩
      have s1 := Step.mk x1
      go_wp2_with fail
      refine (dawake_any _).mono ?_
      rintro e' w2 ⟨rfl, x2⟩
      have s2 := Step.mk x2
      go_wp2_with fail
      go_ret
      exact ⟨rfl, grows⟩
    · have hx0 : 0 ≤ x := by omega
      obtain ⟨t, rfl⟩ := Int.eq_ofNat_of_zero_le hx0
      by_cases xl : t ≤ P.dp.length
      · obtain ⟨y1, y2⟩ := Dp.ri_inv HRB.out
        have HOK := Lib.hid y2
        obtain ⟨y8, z2, z3, z4, z5⟩ := Dp.ok_facts y2
        have hcap : P.dp.length ≤ m8 ∧ m8 ≤ 9223372036854775807 := by
          obtain ⟨_, _, _, e1, e2, e3⟩ := HC.out
          simp only [Value.slice.injEq] at e1
          omega
        obtain ⟨hsa, hna⟩ := slice_lo HDP.out hcap.1 xl
        obtain ⟨o8, hsb, hnb⟩ := slice_hi HDP.out hcap.1 xl
        have HNA := Lib.hid hna
        have HNB := Lib.hid hnb
        clear y2 z2 z3 z4 z5 hna hnb
        go_enter Try.func5, Try.ntmps5
        go_wp2_with fail
        refine (HRI.out _ (grows (a := W))).mono ?_
        rintro e' w1 ⟨rfl, x1⟩
        have s1 := Step.mk x1
        go_wp2_with fail
        have f0 := k0 w1
        have f1 := k1 w1
        have f2 := k2 w1
        have f3 := k3 w1
        have f4 := k4 w1
        have f5 := k5 w1
        have f6 := k6 w1
        have f7 := k7 w1
        have f8 := k8 w1
        have f9 := j0 w1
        have f10 := j1 w1
        have f11 := j2 w1
        have f12 := j3 w1
        have hlw : W.heap.size + 1 < w1.heap.size := by have h := x1.le; rw [World.size_alloc, World.size_alloc] at h; omega
        go_cut [7, 8, 9] (fun x y z wx => ∃ B7 B8 B9 : Nat, x = .pointer (some ⟨B7, 0, none⟩) ∧ y = .pointer (some ⟨B8, 0, none⟩) ∧ z = .pointer (some ⟨B9, 0, none⟩) ∧ Ext w1 wx ∧ (w1.heap.size ≤ B7 ∧ w1.heap.size ≤ B8 ∧ w1.heap.size ≤ B9 ∧ B7 ≠ B8 ∧ B7 ≠ B9 ∧ B8 ≠ B9)
          ∧ wx.heap[B7]? = some (.cells #[.string s, .slice a1 P.hs.length m1, .slice a2 P.md.length m2, .slice a3 n3 m3, .slice a4 n4 m4, .slice a5 n5 m5, .slice a6 n6 m6, .slice a7 n7 m7, .slice a8 P.dp.length m8] 31 (0, 0)) ∧ wx.heap[B8]? = some (.cells #[.string s, .slice a1 P.hs.length m1, .slice a2 P.md.length m2, .slice a3 n3 m3, .slice a4 n4 m4, .slice a5 n5 m5, .slice a6 n6 m6, .slice a7 n7 m7, .slice a8 P.dp.length m8] 31 (0, 0)) ∧ wx.heap[B9]? = some (.cells #[.slice b0 E.va.length d0, .slice b1 E.fi.length d1, .slice b2 E.me.length d2, .slice b3 E.pl.length d3] 37 (0, 0)))
        case first =>
          go_region
          all_goals (try go_wp2_with fail)
          all_goals go_meet
          all_goals (refine ⟨_, _, _, rfl, rfl, rfl, (tri_heap w1 _ _ _).2.2.2, ⟨by omega, by omega, by omega, by omega, by omega, by omega⟩, ?_, ?_, ?_⟩)
          all_goals first | exact (tri_heap w1 _ _ _).1 | exact (tri_heap w1 _ _ _).2.1 | exact (tri_heap w1 _ _ _).2.2.1
        case rest =>
          obtain ⟨B7, B8, B9, rfl, rfl, rfl, hx3, ⟨u7, u8, u9, n78, n79, n89⟩, h7, h8, h9⟩ := hcut
          obtain ⟨w3, rfl⟩ : ∃ w3 : World, w3 = wc := ⟨_, rfl⟩
          have s3 := Step.mk hx3
          clear f0 f1 f2 f3 f4 f5 f6 f7 f8 f9 f10 f11 f12
          have f8 := k8 w3
          have c7 := cell_of (o := 8) h7
          have c8 := cell_of (o := 8) h8
          have z7 := free_of (o := 8) h7
          have z8 := free_of (o := 8) h8
          have hl3 := hx3.le
          have H7 := Lib.hid h7
          have H8 := Lib.hid h8
          have H9 := Lib.hid h9
          have HX3 := Lib.hid hx3
          clear h7 h8 h9
          go_wp2_with fail
          go_cut [7, 8, 9] (fun x y z wx => x = .pointer (some ⟨B7, 0, none⟩) ∧ y = .pointer (some ⟨B8, 0, none⟩) ∧ z = .pointer (some ⟨B9, 0, none⟩) ∧ Ext w1 wx
            ∧ wx.heap[B7]? = some (.cells #[.string s, .slice a1 P.hs.length m1, .slice a2 P.md.length m2, .slice a3 n3 m3, .slice a4 n4 m4, .slice a5 n5 m5, .slice a6 n6 m6, .slice a7 n7 m7, .slice a8 t m8] 31 (0, 0)) ∧ wx.heap[B8]? = some (.cells #[.string s, .slice a1 P.hs.length m1, .slice a2 P.md.length m2, .slice a3 n3 m3, .slice a4 n4 m4, .slice a5 n5 m5, .slice a6 n6 m6, .slice a7 n7 m7, .slice o8 (P.dp.length - t) (m8 - t)] 31 (0, 0)) ∧ wx.heap[B9]? = some (.cells #[.slice b0 E.va.length d0, .slice b1 E.fi.length d1, .slice b2 E.me.length d2, .slice b3 E.pl.length d3] 37 (0, 0)))
          case first =>
            go_region
            all_goals (try go_wp2_with fail)
            all_goals go_meet
            all_goals (refine ⟨rfl, rfl, rfl, ((HX3.out.setCell (p := ⟨B7, 8, none⟩) u7 _).setCell (p := ⟨B8, 8, none⟩) u8 _).drew, ?_, ?_, ?_⟩)
            · exact (Below.heap_setCell _ ⟨B8, 8, none⟩ _ _ n78).trans (setCell_heap H7.out)
            · exact setCell_heap ((Below.heap_setCell _ ⟨B7, 8, none⟩ _ _ (Ne.symm n78)).trans H8.out)
            · exact (Below.heap_setCell _ ⟨B8, 8, none⟩ _ _ (Ne.symm n89)).trans ((Below.heap_setCell _ ⟨B7, 8, none⟩ _ _ (Ne.symm n79)).trans H9.out)
          case rest =>
            obtain ⟨rfl, rfl, rfl, hx4, g7, g8, g9⟩ := hcut
            obtain ⟨w4, rfl⟩ : ∃ w4 : World, w4 = wc := ⟨_, rfl⟩
            have c9 := cell_of (o := 3) g9
            have z9 := free_of (o := 3) g9
            have G7 := Lib.hid g7
            have G8 := Lib.hid g8
            have G9 := Lib.hid g9
            have HX4 := Lib.hid hx4
            clear g7 g8 g9 f8 c7 c8 z7 z8 s3
            obtain ⟨wd, hwd⟩ : ∃ wd, wd = w4.setCell ⟨B9, 3, none⟩ (.slice none 0 0) := ⟨_, rfl⟩
            have hxd : Ext w1 wd := by rw [hwd]; exact hx4.setCell (p := ⟨B9, 3, none⟩) u9 _
            have y7 : wd.heap[B7]? = some (.cells #[.string s, .slice a1 P.hs.length m1, .slice a2 P.md.length m2, .slice a3 n3 m3, .slice a4 n4 m4, .slice a5 n5 m5, .slice a6 n6 m6, .slice a7 n7 m7, .slice a8 t m8] 31 (0, 0)) := by rw [hwd]; exact (Below.heap_setCell _ ⟨B9, 3, none⟩ _ _ n79).trans G7.out
            have y8 : wd.heap[B8]? = some (.cells #[.string s, .slice a1 P.hs.length m1, .slice a2 P.md.length m2, .slice a3 n3 m3, .slice a4 n4 m4, .slice a5 n5 m5, .slice a6 n6 m6, .slice a7 n7 m7, .slice o8 (P.dp.length - t) (m8 - t)] 31 (0, 0)) := by rw [hwd]; exact (Below.heap_setCell _ ⟨B9, 3, none⟩ _ _ n89).trans G8.out
            have y9 : wd.heap[B9]? = some (.cells #[.slice b0 E.va.length d0, .slice b1 E.fi.length d1, .slice b2 E.me.length d2, .slice none 0 0] 37 (0, 0)) := by rw [hwd]; exact setCell_heap G9.out
            have HWD := Lib.hid hwd
            have sd := Step.mk hxd
            have A0 := alw (cell_of (o := 0) y7)
            have B0' := alw (cell_of (o := 0) y8)
            have A1 := alw (cell_of (o := 1) y7)
            have B1' := alw (cell_of (o := 1) y8)
            have A2 := alw (cell_of (o := 2) y7)
            have B2' := alw (cell_of (o := 2) y8)
            have A3 := alw (cell_of (o := 3) y7)
            have B3' := alw (cell_of (o := 3) y8)
            have A4 := alw (cell_of (o := 4) y7)
            have B4' := alw (cell_of (o := 4) y8)
            have A5 := alw (cell_of (o := 5) y7)
            have B5' := alw (cell_of (o := 5) y8)
            have A6 := alw (cell_of (o := 6) y7)
            have B6' := alw (cell_of (o := 6) y8)
            have A7 := alw (cell_of (o := 7) y7)
            have B7' := alw (cell_of (o := 7) y8)
            have A8 := alw (cell_of (o := 8) y7)
            have B8' := alw (cell_of (o := 8) y8)
            have D0 := alw (cell_of (o := 0) y9)
            have D1 := alw (cell_of (o := 1) y9)
            have D2 := alw (cell_of (o := 2) y9)
            have D3 := alw (cell_of (o := 3) y9)
            obtain ⟨G1, hG1⟩ : ∃ G1, Dp.emit (Dp.withDp P (P.dp.take t)) ⟨E.va, E.fi, E.me, []⟩ = G1 := ⟨_, rfl⟩
            obtain ⟨G2, hG2⟩ : ∃ G2, Dp.emit (Dp.withDp P (P.dp.drop t)) E = G2 := ⟨_, rfl⟩
            obtain ⟨G, hG⟩ : ∃ G, Dp.emit P E = G := ⟨_, rfl⟩
            have hsp : G1 ++ G2 = G := by rw [← hG1, ← hG2, ← hG]; exact Dp.emit_split HOK.out t
            have hGl : G.length ≤ 2000000 := by rw [← hG]; exact emit_max HOK.out (by omega)
            have hst : strOfNums G1 ++ strOfNums G2 = strOfNums G := by rw [← hsp, str_app]
            have hls : (G1.length : Int) + (G2.length : Int) = (G.length : Int) := by rw [← hsp, List.length_append]; omega
            have hlw' : IntKind.i64.wrap ((G1.length : Int) + (G2.length : Int)) = (G.length : Int) := by rw [hls, IntKind.wrap_i64]; omega
            have hss : (strOfNums G1).size + (strOfNums G2).size ≤ 9223372036854775807 := by rw [str_size, str_size, ← List.length_append, hsp]; omega
            have hqa : ∀ w, Ext W w → Pg.IsP w ⟨.string s, .slice a1 P.hs.length m1, .slice a2 P.md.length m2, .slice a3 n3 m3, .slice a4 n4 m4, .slice a5 n5 m5, .slice a6 n6 m6, .slice a7 n7 m7, .slice a8 t m8⟩ (Dp.withDp P (P.dp.take t)) := fun w hx => by
              obtain ⟨i0, i1, i2, i3, i4, i5, i6, i7, _⟩ := HP.out.ext hx
              exact ⟨i0, i1, i2, i3, i4, i5, i6, i7, HNA.out.ext hx⟩
            have hqb : ∀ w, Ext W w → Pg.IsP w ⟨.string s, .slice a1 P.hs.length m1, .slice a2 P.md.length m2, .slice a3 n3 m3, .slice a4 n4 m4, .slice a5 n5 m5, .slice a6 n6 m6, .slice a7 n7 m7, .slice o8 (P.dp.length - t) (m8 - t)⟩ (Dp.withDp P (P.dp.drop t)) := fun w hx => by
              obtain ⟨i0, i1, i2, i3, i4, i5, i6, i7, _⟩ := HP.out.ext hx
              exact ⟨i0, i1, i2, i3, i4, i5, i6, i7, HNB.out.ext hx⟩
            have hca : Pg.CapP ⟨.string s, .slice a1 P.hs.length m1, .slice a2 P.md.length m2, .slice a3 n3 m3, .slice a4 n4 m4, .slice a5 n5 m5, .slice a6 n6 m6, .slice a7 n7 m7, .slice a8 t m8⟩ := ⟨_, _, _, rfl, by omega, by omega⟩
            have hcb : Pg.CapP ⟨.string s, .slice a1 P.hs.length m1, .slice a2 P.md.length m2, .slice a3 n3 m3, .slice a4 n4 m4, .slice a5 n5 m5, .slice a6 n6 m6, .slice a7 n7 m7, .slice o8 (P.dp.length - t) (m8 - t)⟩ := ⟨_, _, _, rfl, by omega, by omega⟩
            have hed : ∀ w, Ext W w → Pg.IsE w ⟨.slice b0 E.va.length d0, .slice b1 E.fi.length d1, .slice b2 E.me.length d2, .slice none 0 0⟩ ⟨E.va, E.fi, E.me, []⟩ := fun w hx => by
              obtain ⟨i0, i1, i2, _⟩ := HE.out.ext hx
              exact ⟨i0, i1, i2, ⟨⟨rfl, by simp, .inl ⟨rfl, rfl⟩⟩, Nat.zero_le _⟩, by intro x hx; simp at hx⟩
            have HE1 : Hid (∀ w, Ext W w → Calls Try.prog 16 #[.agg #[.string s, .slice a1 P.hs.length m1, .slice a2 P.md.length m2, .slice a3 n3 m3, .slice a4 n4 m4, .slice a5 n5 m5, .slice a6 n6 m6, .slice a7 n7 m7, .slice a8 t m8], .agg #[.slice b0 E.va.length d0, .slice b1 E.fi.length d1, .slice b2 E.me.length d2, .slice none 0 0]] w fun e' w' => ∃ v, e' = .returned v ∧ Ext w w' ∧ Src w' v 1 G1.length (u8s G1)) := Lib.hid (fun w hx => by have h := demit_any (hqa w hx) hca (hed w hx) (Nat.zero_le _); rw [hG1] at h; exact h)
            have HE2 : Hid (∀ w, Ext W w → Calls Try.prog 16 #[.agg #[.string s, .slice a1 P.hs.length m1, .slice a2 P.md.length m2, .slice a3 n3 m3, .slice a4 n4 m4, .slice a5 n5 m5, .slice a6 n6 m6, .slice a7 n7 m7, .slice o8 (P.dp.length - t) (m8 - t)], .agg #[.slice b0 E.va.length d0, .slice b1 E.fi.length d1, .slice b2 E.me.length d2, .slice b3 E.pl.length d3]] w fun e' w' => ∃ v, e' = .returned v ∧ Ext w w' ∧ Src w' v 1 G2.length (u8s G2)) := Lib.hid (fun w hx => by have h := demit_any (hqb w hx) hcb (HE.out.ext hx) (by omega); rw [hG2] at h; exact h)
            have HE3 : Hid (∀ w, Ext W w → Calls Try.prog 16 #[.agg #[.string s, .slice a1 P.hs.length m1, .slice a2 P.md.length m2, .slice a3 n3 m3, .slice a4 n4 m4, .slice a5 n5 m5, .slice a6 n6 m6, .slice a7 n7 m7, .slice a8 P.dp.length m8], .agg #[.slice b0 E.va.length d0, .slice b1 E.fi.length d1, .slice b2 E.me.length d2, .slice b3 E.pl.length d3]] w fun e' w' => ∃ v, e' = .returned v ∧ Ext w w' ∧ Src w' v 1 G.length (u8s G)) := Lib.hid (fun w hx => by have h := demit_any (HP.out.ext hx) HC.out (HE.out.ext hx) (by omega); rw [hG] at h; exact h)
            have HS1 : Hid (∀ w, Ext W w → Calls Try.prog 18 #[.agg #[.string s, .slice a1 P.hs.length m1, .slice a2 P.md.length m2, .slice a3 n3 m3, .slice a4 n4 m4, .slice a5 n5 m5, .slice a6 n6 m6, .slice a7 n7 m7, .slice a8 t m8], .agg #[.slice b0 E.va.length d0, .slice b1 E.fi.length d1, .slice b2 E.me.length d2, .slice none 0 0]] w (Rets w (.int .i64 (G1.length : Nat)))) := Lib.hid (fun w hx => by have h := dsize_any (hqa w hx) hca (hed w hx) (Nat.zero_le _); rw [hG1] at h; exact h)
            have HS2 : Hid (∀ w, Ext W w → Calls Try.prog 18 #[.agg #[.string s, .slice a1 P.hs.length m1, .slice a2 P.md.length m2, .slice a3 n3 m3, .slice a4 n4 m4, .slice a5 n5 m5, .slice a6 n6 m6, .slice a7 n7 m7, .slice o8 (P.dp.length - t) (m8 - t)], .agg #[.slice b0 E.va.length d0, .slice b1 E.fi.length d1, .slice b2 E.me.length d2, .slice b3 E.pl.length d3]] w (Rets w (.int .i64 (G2.length : Nat)))) := Lib.hid (fun w hx => by have h := dsize_any (hqb w hx) hcb (HE.out.ext hx) (by omega); rw [hG2] at h; exact h)
            have HS3 : Hid (∀ w, Ext W w → Calls Try.prog 18 #[.agg #[.string s, .slice a1 P.hs.length m1, .slice a2 P.md.length m2, .slice a3 n3 m3, .slice a4 n4 m4, .slice a5 n5 m5, .slice a6 n6 m6, .slice a7 n7 m7, .slice a8 P.dp.length m8], .agg #[.slice b0 E.va.length d0, .slice b1 E.fi.length d1, .slice b2 E.me.length d2, .slice b3 E.pl.length d3]] w (Rets w (.int .i64 (G.length : Nat)))) := Lib.hid (fun w hx => by have h := dsize_any (HP.out.ext hx) HC.out (HE.out.ext hx) (by omega); rw [hG] at h; exact h)
            clear hqa hqb hca hcb hed hG1 hG2 hG hsp hls hxd y7 y8 y9 hwd hx4
            go_wp2_with fail
            rw [← HWD.out]
            refine Rel.region (W := wd) (Rel.tab [(2, fun v w => Src w v 1 G1.length (u8s G1)), (6, fun v w => Src w v 1 G2.length (u8s G2)), (11, fun v w => Src w v 1 G.length (u8s G)), (17, fun v _ => v = .int .i64 (G1.length : Nat)), (20, fun v _ => v = .int .i64 (G2.length : Nat)), (24, fun v _ => v = .int .i64 (G.length : Nat)), (28, fun v _ => v = .bool true)]) (Rel.tab_lasts (by intro p hp v w w' hr hx; simp only [List.mem_cons, List.not_mem_nil, or_false] at hp; rcases hp with rfl | rfl | rfl | rfl | rfl | rfl | rfl; (· exact Src.ext hr hx); (· exact Src.ext hr hx); (· exact Src.ext hr hx); all_goals exact hr)) (by kernel_rfl) (by kernel_rfl) (Ext.refl _) ?_
            refine Rel.chunk 2 rfl rfl rfl ?_
            simp only [List.take_succ_cons, List.take_zero, List.drop_succ_cons, List.drop_zero, Nat.reduceAdd]
            repeat (go_big_quiet_step (fail))
            refine wpQuiet_nil ?_
            refine Rel.callG (fun v w => Src w v 1 G1.length (u8s G1)) rfl rfl rfl Try.func16 (by nofun) (by decide) #[.agg #[.string s, .slice a1 P.hs.length m1, .slice a2 P.md.length m2, .slice a3 n3 m3, .slice a4 n4 m4, .slice a5 n5 m5, .slice a6 n6 m6, .slice a7 n7 m7, .slice a8 t m8], .agg #[.slice b0 E.va.length d0, .slice b1 E.fi.length d1, .slice b2 E.me.length d2, .slice none 0 0]] rfl (fun w hx _ => by have h := HE1.out w ((grows (a := W) (b := wd)).trans hx); exact h) ?_
            intro v2 w2 _ _ r2
            obtain ⟨va2, vc2, hv2, _⟩ := r2.slice
            subst hv2
            clear r2
            simp only [Act.put, List.setIfInBounds_toArray, List.set_cons_succ, List.set_cons_zero]
            refine Rel.dep (.string (strOfNums G1)) rfl rfl rfl rfl (fun w hx hf => by exact Rel.run_convert (.slice va2 G1.length vc2) rfl rfl (src_str ((hf 2 (by kernel_rfl)).2 rfl))) ?_
            simp only [Act.put, List.setIfInBounds_toArray, List.set_cons_succ, List.set_cons_zero]
            refine Rel.chunk 2 rfl rfl rfl ?_
            simp only [List.take_succ_cons, List.take_zero, List.drop_succ_cons, List.drop_zero, Nat.reduceAdd]
            repeat (go_big_quiet_step (fail))
            refine wpQuiet_nil ?_
            refine Rel.callG (fun v w => Src w v 1 G2.length (u8s G2)) rfl rfl rfl Try.func16 (by nofun) (by decide) #[.agg #[.string s, .slice a1 P.hs.length m1, .slice a2 P.md.length m2, .slice a3 n3 m3, .slice a4 n4 m4, .slice a5 n5 m5, .slice a6 n6 m6, .slice a7 n7 m7, .slice o8 (P.dp.length - t) (m8 - t)], .agg #[.slice b0 E.va.length d0, .slice b1 E.fi.length d1, .slice b2 E.me.length d2, .slice b3 E.pl.length d3]] rfl (fun w hx _ => by have h := HE2.out w ((grows (a := W) (b := wd)).trans hx); exact h) ?_
            intro v6 w6 _ _ r6
            obtain ⟨va6, vc6, hv6, _⟩ := r6.slice
            subst hv6
            clear r6
            simp only [Act.put, List.setIfInBounds_toArray, List.set_cons_succ, List.set_cons_zero]
            refine Rel.dep (.string (strOfNums G2)) rfl rfl rfl rfl (fun w hx hf => by exact Rel.run_convert (.slice va6 G2.length vc6) rfl rfl (src_str ((hf 6 (by kernel_rfl)).2 rfl))) ?_
            simp only [Act.put, List.setIfInBounds_toArray, List.set_cons_succ, List.set_cons_zero]
            refine Rel.chunk 3 rfl rfl rfl ?_
            simp only [List.take_succ_cons, List.take_zero, List.drop_succ_cons, List.drop_zero, Nat.reduceAdd]
            repeat (go_big_quiet_step (fail))
            refine wpQuiet_nil ?_
            refine Rel.callG (fun v w => Src w v 1 G.length (u8s G)) rfl rfl rfl Try.func16 (by nofun) (by decide) #[.agg #[.string s, .slice a1 P.hs.length m1, .slice a2 P.md.length m2, .slice a3 n3 m3, .slice a4 n4 m4, .slice a5 n5 m5, .slice a6 n6 m6, .slice a7 n7 m7, .slice a8 P.dp.length m8], .agg #[.slice b0 E.va.length d0, .slice b1 E.fi.length d1, .slice b2 E.me.length d2, .slice b3 E.pl.length d3]] rfl (fun w hx _ => by have h := HE3.out w ((grows (a := W) (b := wd)).trans hx); exact h) ?_
            intro v11 w11 _ _ r11
            obtain ⟨va11, vc11, hv11, _⟩ := r11.slice
            subst hv11
            clear r11
            simp only [Act.put, List.setIfInBounds_toArray, List.set_cons_succ, List.set_cons_zero]
            refine Rel.dep (.string (strOfNums G)) rfl rfl rfl rfl (fun w hx hf => by exact Rel.run_convert (.slice va11 G.length vc11) rfl rfl (src_str ((hf 11 (by kernel_rfl)).2 rfl))) ?_
            simp only [Act.put, List.setIfInBounds_toArray, List.set_cons_succ, List.set_cons_zero]
            refine Rel.chunk 4 rfl rfl rfl ?_
            simp only [List.take_succ_cons, List.take_zero, List.drop_succ_cons, List.drop_zero, Nat.reduceAdd]
            repeat (go_big_quiet_step (fail))
            refine wpQuiet_nil ?_
            refine Rel.callG (fun v _ => v = .int .i64 (G1.length : Nat)) rfl rfl rfl Try.func18 (by nofun) (by decide) #[.agg #[.string s, .slice a1 P.hs.length m1, .slice a2 P.md.length m2, .slice a3 n3 m3, .slice a4 n4 m4, .slice a5 n5 m5, .slice a6 n6 m6, .slice a7 n7 m7, .slice a8 t m8], .agg #[.slice b0 E.va.length d0, .slice b1 E.fi.length d1, .slice b2 E.me.length d2, .slice none 0 0]] rfl (fun w hx _ => by refine (HS1.out w ((grows (a := W) (b := wd)).trans hx)).mono ?_; rintro e w9 ⟨he, hx9⟩; exact ⟨_, he, hx9, rfl⟩) ?_
            intro v17 w17 _ _ r17
            subst r17
            simp only [Act.put, List.setIfInBounds_toArray, List.set_cons_succ, List.set_cons_zero]
            refine Rel.chunk 2 rfl rfl rfl ?_
            simp only [List.take_succ_cons, List.take_zero, List.drop_succ_cons, List.drop_zero, Nat.reduceAdd]
            repeat (go_big_quiet_step (fail))
            refine wpQuiet_nil ?_
            refine Rel.callG (fun v _ => v = .int .i64 (G2.length : Nat)) rfl rfl rfl Try.func18 (by nofun) (by decide) #[.agg #[.string s, .slice a1 P.hs.length m1, .slice a2 P.md.length m2, .slice a3 n3 m3, .slice a4 n4 m4, .slice a5 n5 m5, .slice a6 n6 m6, .slice a7 n7 m7, .slice o8 (P.dp.length - t) (m8 - t)], .agg #[.slice b0 E.va.length d0, .slice b1 E.fi.length d1, .slice b2 E.me.length d2, .slice b3 E.pl.length d3]] rfl (fun w hx _ => by refine (HS2.out w ((grows (a := W) (b := wd)).trans hx)).mono ?_; rintro e w9 ⟨he, hx9⟩; exact ⟨_, he, hx9, rfl⟩) ?_
            intro v20 w20 _ _ r20
            subst r20
            simp only [Act.put, List.setIfInBounds_toArray, List.set_cons_succ, List.set_cons_zero]
            refine Rel.chunk 3 rfl rfl rfl ?_
            simp only [List.take_succ_cons, List.take_zero, List.drop_succ_cons, List.drop_zero, Nat.reduceAdd]
            repeat (go_big_quiet_step (fail))
            refine wpQuiet_nil ?_
            refine Rel.callG (fun v _ => v = .int .i64 (G.length : Nat)) rfl rfl rfl Try.func18 (by nofun) (by decide) #[.agg #[.string s, .slice a1 P.hs.length m1, .slice a2 P.md.length m2, .slice a3 n3 m3, .slice a4 n4 m4, .slice a5 n5 m5, .slice a6 n6 m6, .slice a7 n7 m7, .slice a8 P.dp.length m8], .agg #[.slice b0 E.va.length d0, .slice b1 E.fi.length d1, .slice b2 E.me.length d2, .slice b3 E.pl.length d3]] rfl (fun w hx _ => by refine (HS3.out w ((grows (a := W) (b := wd)).trans hx)).mono ?_; rintro e w9 ⟨he, hx9⟩; exact ⟨_, he, hx9, rfl⟩) ?_
            intro v24 w24 _ _ r24
            subst r24
            simp only [Act.put, List.setIfInBounds_toArray, List.set_cons_succ, List.set_cons_zero]
            refine Rel.chunk 3 rfl rfl rfl ?_
            simp only [List.take_succ_cons, List.take_zero, List.drop_succ_cons, List.drop_zero, Nat.reduceAdd]
            repeat (go_big_quiet_step (fail))
            refine wpQuiet_nil ?_
            refine Rel.callG (fun v _ => v = .bool true) rfl rfl rfl Try.func13 (by nofun) (by decide) #[] rfl (fun w hx _ => by refine (dawake_any w).mono ?_; rintro e w9 ⟨he, hx9⟩; exact ⟨_, he, hx9, rfl⟩) ?_
            intro v28 w28 _ _ r28
            subst r28
            simp only [Act.put, List.setIfInBounds_toArray, List.set_cons_succ, List.set_cons_zero]
            refine Rel.chunk 2 rfl rfl rfl ?_
            simp only [List.take_succ_cons, List.take_zero, List.drop_succ_cons, List.drop_zero, Nat.reduceAdd]
            repeat (go_big_quiet_step (fail))
            refine wpQuiet_nil ?_
            refine Rel.fin ?_
            intro w8 hx8 _
            have s8 := Step.mk hx8
            go_wp2_with fail
            go_ret
            exact ⟨rfl, grows⟩
      · go_enter Try.func5, Try.ntmps5
        go_wp2_with fail
        refine (HRI.out _ (grows (a := W))).mono ?_
        rintro e' w1 ⟨rfl, x1⟩
        have s1 := Step.mk x1
        go_wp2_with fail
        refine (dawake_any _).mono ?_
        rintro e' w2 ⟨rfl, x2⟩
        have s2 := Step.mk x2
        go_wp2_with fail
        go_ret
        exact ⟨rfl, grows⟩
end Go.Proofs.Ytonnlcjkgpahoaa
