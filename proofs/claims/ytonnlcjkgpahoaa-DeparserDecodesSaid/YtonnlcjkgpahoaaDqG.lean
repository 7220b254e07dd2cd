/- The deparser: the law Decodes, walked. No condition. -/
import Derived.Test.YtonnlcjkgpahoaaDqD
import Derived.Test.YtonnlcjkgpahoaaHdR
import Derived.Test.YtonnlcjkgpahoaaStep
namespace Go.Proofs.Ytonnlcjkgpahoaa
open Go.RowKit

namespace Dp
theorem getD_some {α : Type} {l : List α} {k : Nat} {x d : α} (h : l[k]? = some x) : l.getD k d = x := by rw [List.getD_eq_getElem?_getD, h]; rfl
theorem ok_chk {P : Pg.Prog} {E : Pg.Env} (h : ok P E = true) {k : Nat} {g : Hd.Hdr} (hk : P.hs[k]? = some g) : Hd.chk g = 0 := by
  unfold ok at h
  simp only [Bool.and_eq_true, beq_iff_eq] at h
  have h2 := h.2.1
  unfold hsB at h2
  rw [List.all_eq_true] at h2
  have h5 := h2 k (List.mem_range.2 (List.getElem?_eq_some_iff.1 hk).1)
  rw [getD_some hk] at h5
  simpa using h5
theorem ok_fits {P : Pg.Prog} {E : Pg.Env} (h : ok P E = true) : Pg.shB P E = true ∧ Pg.fitsB P E = true := by
  unfold ok at h
  simp only [Bool.and_eq_true, beq_iff_eq] at h
  have h3 := h.2.2
  unfold Pg.chkE at h3
  cases h1 : Pg.shB P E <;> rw [h1] at h3
  · simp at h3
  · cases h2 : Pg.fitB P (-1) E.me <;> rw [h2] at h3
    · simp at h3
    · cases h4 : Pg.fitsB P E <;> rw [h4] at h3
      · simp at h3
      · exact ⟨rfl, rfl⟩
/-- the values of a header fit its fields -/
theorem ok_fit {P : Pg.Prog} {E : Pg.Env} (h : ok P E = true) {k : Nat} {nm : ByteArray} {fs : List Hd.Fld} {l : List Int} (hk : P.hs[k]? = some (nm, fs)) (hl : E.fi[k]? = some l) (hu : ∀ x ∈ l, U32 x) : Hd.Fit l (Hd.wds fs) ∧ l.length = fs.length := by
  obtain ⟨h1, h2⟩ := ok_fits h
  obtain ⟨_, _, _, z4⟩ := Pg.shB_len h1
  have hkl := (List.getElem?_eq_some_iff.1 hl).1
  have e := z4 k hkl
  rw [getD_some hl, getD_some hk] at e
  dsimp only at e
  refine ⟨?_, e⟩
  obtain ⟨_, _, _, hw, _⟩ := Hd.chk_ok (ok_chk h hk)
  have hf : Pg.flds P (k : Int) = fs := by
    unfold Pg.flds
    rw [if_neg (by omega), Pg.hdrAt_in hk]
  unfold Pg.fitsB at h2
  have h3 := List.all_eq_true.1 h2 k (List.mem_range.2 hkl)
  rw [getD_some hl] at h3
  unfold Pg.fitB at h3
  refine Hd.fit_of l (Hd.wds fs) (by rw [Hd.wds_len]; exact e) (fun i hi => ?_)
  rw [Hd.wds_len] at hi
  have hil : i < l.length := by omega
  obtain ⟨⟨nk, x⟩, hx⟩ : ∃ x, fs[i]? = some x := ⟨_, List.getElem?_eq_getElem hi⟩
  have h4 := of_decide_eq_true (List.all_eq_true.1 h3 i (List.mem_range.2 hil))
  have hx2 := Hd.Wd.at hw hx
  rw [Pg.wid_in hf hx, if_pos (Bv.ok_of hx2.1 hx2.2)] at h4
  unfold Bv.mask at h4
  rw [if_pos (Bv.ok_of hx2.1 hx2.2)] at h4
  have hge : (Hd.wds fs).getD i 0 = x := by
    rw [List.getD_eq_getElem?_getD]; unfold Hd.wds; rw [List.getElem?_map, hx]; rfl
  have hm : l.getD i 0 ∈ l := by rw [List.getD_eq_getElem?_getD, List.getElem?_eq_getElem hil]; exact List.getElem_mem hil
  rw [hge]
  refine ⟨(hu _ hm).1, ?_⟩
  have : Bv.pw x = 2 ^ x.toNat := rfl
  omega
theorem bits_cut (P : Pg.Prog) (E : Pg.Env) (k : Nat) : bitsFrom P E P.dp [] = bitsFrom P E (P.dp.take k) [] ++ bitsFrom P E (P.dp.drop k) [] := by
  have h := bits_app P E (P.dp.take k) (P.dp.drop k) []
  rw [List.take_append_drop] at h
  rw [h, bits_pre P E (P.dp.drop k)]
theorem bits_succ {P : Pg.Prog} {E : Pg.Env} {k : Nat} {j : Int} (hk : P.dp[k]? = some j) : bitsFrom P E (P.dp.take (k + 1)) [] = one P E j (bitsFrom P E (P.dp.take k) []) := by
  rw [List.take_add_one, hk, bits_app]; rfl
theorem bit_emit {P : Pg.Prog} {E : Pg.Env} (h : ok P E = true) {i : Nat} (hi : i < (bitsFrom P E P.dp []).length) : Io.bit (emit P E) i = (bitsFrom P E P.dp []).getD i 0 := by
  have hb : Io.Bits (bitsFrom P E P.dp []) := bits_bits P E _ _ (fun b hb => by simp at hb)
  have h1 := Io.bit_pack hb i hi
  rw [← h1, emit_yes h, byL_bits]
  unfold Io.bit
  rw [List.getD_eq_getElem?_getD, List.getElem?_append_left (by rw [Io.pack_len]; omega), ← List.getD_eq_getElem?_getD]
theorem emit_len {P : Pg.Prog} {E : Pg.Env} (h : ok P E = true) : 8 * (emit P E).length = (bitsFrom P E P.dp []).length + 8 * E.pl.length := by
  have hm := bits_mod P E P.dp
  rw [emit_yes h, byL_bits, List.length_append, Io.pack_len]; omega
/-- a header that is valid is read again -/
theorem read_yes {P : Pg.Prog} {E : Pg.Env} (h : ok P E = true) {k j : Nat} {nm : ByteArray} {fs : List Hd.Fld} {l : List Int} (hd : P.dp[k]? = some (j : Int)) (hv : E.va.getD j false = true) (hk : P.hs[j]? = some (nm, fs)) (hl : E.fi[j]? = some l) (hu : ∀ x ∈ l, U32 x) :
    Hd.rE (nm, fs) (emit P E) (bitsFrom P E (P.dp.take k) []).length = 0 ∧ Hd.rV (nm, fs) (emit P E) (bitsFrom P E (P.dp.take k) []).length = l ∧ Hd.rP (nm, fs) (emit P E) (bitsFrom P E (P.dp.take k) []).length = (bitsFrom P E (P.dp.take (k + 1)) []).length := by
  obtain ⟨hf, hlen⟩ := ok_fit h hk hl hu
  have hc := ok_chk h hk
  obtain ⟨_, _, _, hw, _⟩ := Hd.chk_ok hc
  obtain ⟨t1, t2, t3, _⟩ := Hd.trip hc hf
  dsimp only at t2
  have hs : bitsFrom P E (P.dp.take (k + 1)) [] = bitsFrom P E (P.dp.take k) [] ++ Hd.bitsAll l (Hd.wds fs) := by
    rw [bits_succ hd]
    unfold one
    rw [Int.toNat_natCast, hv, if_pos rfl, getD_some hk, getD_some hl, wL_pre, t2]
  have hcut := bits_cut P E (k + 1)
  rw [hs] at hcut
  have hn := Hd.bitsAll_len l (Hd.wds fs) hw hf
  have hge := emit_len h
  have hcl := congrArg List.length hcut
  rw [List.length_append, List.length_append] at hcl
  have hE : Hd.rE (nm, fs) (emit P E) (bitsFrom P E (P.dp.take k) []).length = 0 := by
    unfold Hd.rE
    rw [if_pos hc, if_neg]
    dsimp only
    omega
  refine ⟨hE, ?_, ?_⟩
  · unfold Hd.rV
    rw [if_pos hE]
    refine Hd.vals_bits (emit P E) l (Hd.wds fs) _ hw hf (fun i hi => ?_)
    rw [bit_emit h (by rw [hcut, List.length_append]; omega), hcut, List.getD_eq_getElem?_getD, List.getElem?_append_left hi, ← List.getD_eq_getElem?_getD]
  · unfold Hd.rP
    rw [if_pos hE, hs, List.length_append]
    dsimp only
    omega
/-- one that is not has left nothing -/
theorem read_no {P : Pg.Prog} {E : Pg.Env} {k j : Nat} (hd : P.dp[k]? = some (j : Int)) (hv : E.va.getD j false = false) : bitsFrom P E (P.dp.take (k + 1)) [] = bitsFrom P E (P.dp.take k) [] := by
  rw [bits_succ hd]; unfold one; rw [Int.toNat_natCast, hv]; rfl
theorem rest_pl {P : Pg.Prog} {E : Pg.Env} (h : ok P E = true) : (emit P E).drop ((bitsFrom P E P.dp []).length / 8) = E.pl := by
  have hm := bits_mod P E P.dp
  rw [emit_yes h, byL_bits, List.drop_left' (by rw [Io.pack_len]; omega)]
theorem emit_bytes {P : Pg.Prog} {E : Pg.Env} (h : ok P E = true) (hp : Io.Bytes E.pl) : Io.Bytes (emit P E) := by
  rw [emit_yes h, byL_bits]
  intro x hx
  rcases List.mem_append.1 hx with hx | hx
  · exact Io.pack_bytes (bits_bits P E _ _ (fun b hb => by simp at hb)) x hx
  · exact hp x hx
end Dp
end Go.Proofs.Ytonnlcjkgpahoaa
namespace Go.Proofs.Ytonnlcjkgpahoaa
open Go.RowKit

set_option maxRecDepth 8000 in
set_option maxHeartbeats 8000000 in
theorem deparserDecodes_walk (v0 v1 : Value) (W : World) {b0 b1 : Nat} {r0 r1 : Reach} {H : Type} {enc : TypeId × Value → H} {d0 d1 : DataW H} {p0 p1 : List MemPlace}
    (ok0 : Value.okWide Try.prog W r0 b0 31 v0) (h0 : DataW.Trod enc Try.prog W 0 (fun _ => true) true 31 v0 d0 p0)
    (ok1 : Value.okWide Try.prog W r1 b1 37 v1) (h1 : DataW.Trod enc Try.prog W 0 (fun _ => true) true 37 v1 d1 p1) :
    Calls Try.prog 11 #[v0, v1] W (Rets W (.bool true)) := by
  obtain ⟨p, P, rfl, hp, hc⟩ := prog_take ok0 h0
  obtain ⟨e, E, rfl, he⟩ := env_take ok1 h1
  clear ok0 h0 ok1 h1 d0 d1
  have HP := Lib.hid hp
  have HE := Lib.hid he
  have HC := Lib.hid hc
  obtain ⟨s, a1, a2, a3, a4, a5, a6, a7, a8, m1, m2, n3, m3, n4, m4, n5, m5, n6, m6, n7, m7, m8, hf⟩ := hp.form
  obtain ⟨rfl, hhs, hmd, hdp, hl1, hl2, hl8⟩ := hf
  obtain ⟨b0, b1, b2, b3, d0, d1, d2, d3, hg⟩ := he.form
  obtain ⟨rfl, hva, hfi, hme, hpl, g0, g1, g2, g3⟩ := hg
  obtain ⟨rb, hrb⟩ : ∃ rb, Dp.rightB P E = rb := ⟨_, rfl⟩
  have HRI : Hid (∀ w, Ext W w → Calls Try.prog 20 #[.agg #[.string s, .slice a1 P.hs.length m1, .slice a2 P.md.length m2, .slice a3 n3 m3, .slice a4 n4 m4, .slice a5 n5 m5, .slice a6 n6 m6, .slice a7 n7 m7, .slice a8 P.dp.length m8], .agg #[.slice b0 E.va.length d0, .slice b1 E.fi.length d1, .slice b2 E.me.length d2, .slice b3 E.pl.length d3]] w (Rets w (.bool rb))) := Lib.hid (fun w hx => by have h := right_any (HP.out.ext hx) HC.out (HE.out.ext hx); rw [hrb] at h; exact h)
  have HRB := Lib.hid hrb
  dsimp only [Pg.PV.val, Pg.EV.val]
  have bb := alloc_heap W (.cells #[.string s, .slice a1 P.hs.length m1, .slice a2 P.md.length m2, .slice a3 n3 m3, .slice a4 n4 m4, .slice a5 n5 m5, .slice a6 n6 m6, .slice a7 n7 m7, .slice a8 P.dp.length m8] 31)
  have k0 := alw (cell_of (o := 0) bb)
  have k1 := alw (cell_of (o := 1) bb)
  have k2 := alw (cell_of (o := 2) bb)
  have k3 := alw (cell_of (o := 3) bb)
  have k4 := alw (cell_of (o := 4) bb)
  have k5 := alw (cell_of (o := 5) bb)
  have k6 := alw (cell_of (o := 6) bb)
  have k7 := alw (cell_of (o := 7) bb)
  have k8 := alw (cell_of (o := 8) bb)
  have be := alloc_heap (W.alloc (.cells #[.string s, .slice a1 P.hs.length m1, .slice a2 P.md.length m2, .slice a3 n3 m3, .slice a4 n4 m4, .slice a5 n5 m5, .slice a6 n6 m6, .slice a7 n7 m7, .slice a8 P.dp.length m8] 31)) (.cells #[.slice b0 E.va.length d0, .slice b1 E.fi.length d1, .slice b2 E.me.length d2, .slice b3 E.pl.length d3] 37)
  rw [World.size_alloc] at be
  have j0 := alw (cell_of (o := 0) be)
  have j1 := alw (cell_of (o := 1) be)
  have j2 := alw (cell_of (o := 2) be)
  have j3 := alw (cell_of (o := 3) be)
  have HVA := Lib.hid hva
  have HDP := Lib.hid hdp
  have HHS := Lib.hid hhs
  have HFI := Lib.hid hfi
  have HPL := Lib.hid hpl
  clear bb be hp he hc hhs hmd hdp hva hfi hme hpl hrb
  cases rb with
  | false =>
    go_enter Try.func11, Try.ntmps11
    go_wp2_with fail
    refine (HRI.out _ (grows (a := W))).mono ?_
    rintro e' w1 ⟨rfl, x1⟩
    have s1 := Step.mk x1
    go_wp2_with fail
    refine (dawake_any _).mono ?_
    rintro e' w2 ⟨rfl, x2⟩
    have s2 := Step.mk x2
    go_wp2_with fail
    go_ret
    exact ⟨rfl, grows⟩
  | true =>
    obtain ⟨y1, y2⟩ := Dp.ri_inv HRB.out
    have HOK := Lib.hid y2
    obtain ⟨y8, z2, z3, z4, z5⟩ := Dp.ok_facts y2
    have YD := Lib.hid z2
    have hva1 : E.va.length ≤ P.hs.length := by omega
    have hva2 : P.hs.length ≤ E.va.length := by omega
    have hfi1 : E.fi.length ≤ P.hs.length := by omega
    have hfi2 : P.hs.length ≤ E.fi.length := by omega
    have hGl := Dp.emit_len y2
    have hbl := Dp.bits_len P E P.dp []
    have hbm := Dp.bits_mod P E P.dp
    have hby := Dp.emit_bytes y2 HPL.out.2
    have hrp := Dp.rest_pl y2
    obtain ⟨G, hG⟩ : ∃ G, Dp.emit P E = G := ⟨_, rfl⟩
    rw [hG] at hGl hby hrp
    simp only [List.length_nil] at hbl
    have hGs : G.length ≤ 1000000 := by omega
    have HBY := Lib.hid hby
    have HRP := Lib.hid hrp
    have HBM := Lib.hid hbm
    have HGE := Lib.hid hG
    have HEM : Hid (∀ w, Ext W w → Calls Try.prog 16 #[.agg #[.string s, .slice a1 P.hs.length m1, .slice a2 P.md.length m2, .slice a3 n3 m3, .slice a4 n4 m4, .slice a5 n5 m5, .slice a6 n6 m6, .slice a7 n7 m7, .slice a8 P.dp.length m8], .agg #[.slice b0 E.va.length d0, .slice b1 E.fi.length d1, .slice b2 E.me.length d2, .slice b3 E.pl.length d3]] w fun e' w' => ∃ v, e' = .returned v ∧ Ext w w' ∧ Src w' v 1 G.length (u8s G)) := Lib.hid (fun w hx => by have h := demit_any (HP.out.ext hx) HC.out (HE.out.ext hx) (by omega); rw [hG] at h; exact h)
    clear y2 z2 z3 z4 z5 hGl hbl hbm hby hrp hG
    go_enter Try.func11, Try.ntmps11
    go_wp2_with fail
    refine (HRI.out _ (grows (a := W))).mono ?_
    rintro e' w1 ⟨rfl, x1⟩
    have s1 := Step.mk x1
    go_wp2_with fail
    refine (HEM.out _ (grows (a := W))).mono ?_
    rintro e' w4 ⟨v4, rfl, x4, r4⟩
    have s4 := Step.mk x4
    have R4 := Lib.hid r4
    obtain ⟨va4, vc4, hv4, _⟩ := r4.slice
    subst hv4
    clear r4
    go_wp2_with fail
    refine (newReader_any _ G _ R4.out HBY.out (by omega)).mono ?_
    rintro e' w5 ⟨pr, ra, rn, rc, rfl, x5, hr5⟩
    have s5 := Step.mk x5
    have HR5 := Lib.hid hr5
    have HX5 := Lib.hid x5
    have hpz : w4.heap.size ≤ pr := hr5.le
    clear hr5
    go_wp2_with fail
    go_loopw [7] (fun i wr => ∃ k : Nat, k ≤ P.dp.length ∧ i = .int .i64 k ∧ Hid (Ext w4 wr ∧ RdrAt wr w4.heap.size pr ra rn rc G (Dp.bitsFrom P E (P.dp.take k) []).length)) (fun i _ => P.dp.length - (intOf i).toNat)
    case atStart => exact ⟨0, Nat.zero_le _, rfl, Lib.hid ⟨HX5.out, HR5.out⟩⟩
    case round =>
      obtain ⟨k, hk, rfl, HI⟩ := hrel
      obtain ⟨wo, rfl⟩ : ∃ wo : World, wo = wr := ⟨_, rfl⟩
      obtain ⟨hx, hr⟩ := HI.out
      have sx : Step w4 wo := Step.mk hx
      have HX := Lib.hid hx
      have HRR := Lib.hid hr
      clear hx hr HI
      by_cases hlt : k < P.dp.length
      · obtain ⟨x, hxk⟩ : ∃ x, P.dp[k]? = some x := ⟨_, List.getElem?_eq_getElem hlt⟩
        obtain ⟨b, o, hoa, hec⟩ := ns_at HDP.out (by omega)
        subst hoa
        have e0 := hec k x hxk
        have hxx := YD.out k hlt
        rw [List.getD_eq_getElem?_getD, hxk, Option.getD_some] at hxx
        obtain ⟨x0, x1'⟩ := hxx
        obtain ⟨j, rfl⟩ := Int.eq_ofNat_of_zero_le x0
        have hjl : j < P.hs.length := by omega
        obtain ⟨vb, hvk⟩ : ∃ x, E.va[j]? = some x := ⟨_, List.getElem?_eq_getElem (by omega)⟩
        obtain ⟨bv, ov, hov, hvc⟩ := bs_at HVA.out (by omega)
        subst hov
        have e1 := hvc j vb hvk
        have HGV := Lib.hid (Dp.getD_some (d := false) hvk)
        have HDK := Lib.hid hxk
        obtain ⟨⟨nm, fs⟩, hhk⟩ : ∃ x, P.hs[j]? = some x := ⟨_, List.getElem?_eq_getElem hjl⟩
        obtain ⟨bh, oh, hoh, _, _⟩ := Rows.at HHS.out (by omega)
        subst hoh
        obtain ⟨fa, fc, q0, q1, qn, qf, qc, qm⟩ := hdrs_at HHS.out j nm fs hhk rfl
        have HHK := Lib.hid hhk
        have QF := Lib.hid qf
        obtain ⟨l, hlk⟩ : ∃ x, E.fi[j]? = some x := ⟨_, List.getElem?_eq_getElem (by omega)⟩
        obtain ⟨bf, of, hof, _, _⟩ := Rows.at HFI.out (by omega)
        subst hof
        obtain ⟨la, lc, q2, ql, qu⟩ := rows_at HFI.out j l hlk rfl
        have HLK := Lib.hid hlk
        have QL := Lib.hid ql
        have QU := Lib.hid qu
        have QN := Lib.hid qn
        unfold maxLen at qm
        clear hec hxk hvk hvc hhk qf hlk ql qu qn
        cases vb with
        | false =>
          go_wp2_with fail
          go_roundw
          case rel => exact ⟨k + 1, by omega, by go_num, Lib.hid ⟨HX.out, by rw [Dp.read_no HDK.out HGV.out]; exact HRR.out⟩⟩
          case measure => simp [intOf]; omega
        | true =>
          obtain ⟨g1, g2, g3⟩ := Dp.read_yes HOK.out HDK.out HGV.out HHK.out HLK.out QU.out
          have hlen := (Dp.ok_fit HOK.out HHK.out HLK.out QU.out).2
          have hl12 := (Hd.chk_ok (Dp.ok_chk HOK.out HHK.out)).2.2.1
          dsimp only at hl12
          rw [HGE.out] at g1 g2 g3
          have G1 := Lib.hid g1
          have G2 := Lib.hid g2
          have G3 := Lib.hid g3
          have hl13 : l.length ≤ 1000000 := by omega
          clear g1 g2 g3 hlen hl12
          go_wp2_with fail
          refine (hread_any HRR.out (nm, fs) (fun w' hm => Hd.Flds.ext QF.out (((grows (a := W) (b := w4)).trans HX.out).mod hm (fun q hq => by rw [hq]; have := (grows (a := W) (b := w4)).le; omega))) QN.out (by omega)).mono ?_
          rintro e' w6 ⟨u6, rfl, m6, r6, o6⟩
          rw [G1.out]
          rw [G3.out] at r6
          rw [G2.out] at o6
          have x6 : Ext w4 w6 := HX.out.mod m6 (fun q hq => by rw [hq]; exact hpz)
          have s6 : Step w4 w6 := Step.mk x6
          have HX6 := Lib.hid x6
          have HR6 := Lib.hid r6
          obtain ⟨ou, cu, rfl⟩ := own_slice o6
          have HO6 := Lib.hid (own_src o6 (u32s_one _))
          clear m6 r6 o6 sx
          go_wp2_with fail
          refine (eqU_same HO6.out (QL.out.1.ext ((grows (a := W) (b := w4)).trans HX6.out)) hl13).mono ?_
          rintro e' w7 ⟨rfl, x7⟩
          have s7 := Step.mk x7
          go_wp2_with fail
          go_roundw
          case rel => exact ⟨k + 1, by omega, by go_num, Lib.hid ⟨HX6.out.trans x7, HR6.out.ext x7⟩⟩
          case measure => simp [intOf]; omega
      · obtain rfl : k = P.dp.length := by omega
        have hr2 := HRR.out
        rw [List.take_length] at hr2
        have HR2 := Lib.hid hr2
        clear hr2
        go_wp2_with fail
        refine (rest_ok HR2.out (HBM.out) (by omega)).mono ?_
        rintro e' w6 ⟨u6, rfl, x6, o6⟩
        have s6 := Step.mk x6
        rw [HRP.out] at o6
        obtain ⟨ou, cu, rfl⟩ := own_slice o6
        have t6 := str_alw (own_src o6 (u8s_one _))
        have t7 := str_alw (W := W) (l := E.pl) (by have h := HPL.out.1.1; exact h)
        clear o6
        go_wp2_with fail
        refine (dawake_any _).mono ?_
        rintro e' w8 ⟨rfl, x8⟩
        have s8 := Step.mk x8
        go_wp2_with fail
        go_ret
        exact ⟨rfl, grows⟩
end Go.Proofs.Ytonnlcjkgpahoaa
