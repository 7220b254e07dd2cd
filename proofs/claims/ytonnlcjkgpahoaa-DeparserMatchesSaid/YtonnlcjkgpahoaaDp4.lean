/- The deparser: Emit, its closure and Size, walked. No condition. -/
import Derived.Test.YtonnlcjkgpahoaaDp3
import Derived.Test.YtonnlcjkgpahoaaHd6
namespace Go.Proofs.Ytonnlcjkgpahoaa
open Go.RowKit

set_option maxRecDepth 8000 in
set_option maxHeartbeats 2000000 in
theorem emit1_any {W w : World} {base q Bp Be Bw : Nat} {oa a1 b0 b1 : Option Addr} {n c m1 d0 d1 : Nat} {L : List Int} {P : Pg.Prog} {E : Pg.Env} (hx : Ext W w) (hb : W.heap.size ≤ base) (hw : WrtAt w base q oa n c L) (hL : L.length ≤ 100000000)
    (hkp : W.cell? ⟨Bp, 1, none⟩ = some (.slice a1 P.hs.length m1)) (hhs : Rows W 2 Hd.HdrR (.slice a1 P.hs.length m1) P.hs)
    (hj0 : W.cell? ⟨Be, 0, none⟩ = some (.slice b0 E.va.length d0)) (hva : Bs W (.slice b0 E.va.length d0) E.va)
    (hj1 : W.cell? ⟨Be, 1, none⟩ = some (.slice b1 E.fi.length d1)) (hfi : Rows W 1 RowR (.slice b1 E.fi.length d1) E.fi)
    (hBw : w.heap[Bw]? = some (.cells #[.pointer (some ⟨q, 0, none⟩)] 86 (0, 0)))
    (h : Int) (h0 : 0 ≤ h) (h1 : h < P.hs.length) (h2 : P.hs.length ≤ E.va.length) (h3 : P.hs.length ≤ E.fi.length) (h4 : ∀ k, (E.fi.getD k []).length ≤ 1000000) (hv : E.va.length ≤ 9223372036854775807) (hf : E.fi.length ≤ 9223372036854775807) :
    Calls Try.prog 46 #[.int .i64 h, .pointer (some ⟨Be, 0, none⟩), .pointer (some ⟨Bp, 0, none⟩), .pointer (some ⟨Bw, 0, none⟩)] w
      fun e w' => e = .returned (.tuple #[]) ∧ ∃ oa' n' c', Mod (WS q oa n c) w w' ∧ WrtAt w' base q oa' n' c' (Dp.one P E h L) ∧ ∀ k, k < w.heap.size → WS q oa' n' c' k → WS q oa n c k := by
  obtain ⟨k, rfl⟩ := Int.eq_ofNat_of_zero_le h0
  have hk : k < P.hs.length := by omega
  have sx := Step.mk hx
  have k1 := alw hkp
  have j0 := alw hj0
  have j1 := alw hj1
  have t0 := alw (cell_of (o := 0) hBw)
  obtain ⟨⟨nm, fs⟩, hhk⟩ : ∃ x, P.hs[k]? = some x := ⟨_, List.getElem?_eq_getElem hk⟩
  obtain ⟨bh, oh, hoh, _, _⟩ := Rows.at hhs (by omega)
  subst hoh
  obtain ⟨fa, fc, q0, q1, qn, qf, qc, qm⟩ := hdrs_at hhs k nm fs hhk rfl
  obtain ⟨l, hlk⟩ : ∃ x, E.fi[k]? = some x := ⟨_, List.getElem?_eq_getElem (by omega)⟩
  obtain ⟨ba, oa', hoa, _, _⟩ := Rows.at hfi (by omega)
  subst hoa
  obtain ⟨la, lc, p0, pl, pu⟩ := rows_at hfi k l hlk rfl
  obtain ⟨vb, hvk⟩ : ∃ x, E.va[k]? = some x := ⟨_, List.getElem?_eq_getElem (by omega)⟩
  obtain ⟨bv, ov, hov, hvc⟩ := bs_at hva (by omega)
  subst hov
  have v0 := hvc k vb hvk
  have hgl : E.fi.getD k [] = l := by rw [List.getD_eq_getElem?_getD, hlk]; rfl
  have hll : l.length ≤ 1000000 := by rw [← hgl]; exact h4 k
  have hone : Dp.one P E k L = if vb then Hd.wL (nm, fs) l L else L := by
    unfold Dp.one
    rw [Int.toNat_natCast, List.getD_eq_getElem?_getD, List.getD_eq_getElem?_getD, hvk, hhk, hgl]; rfl
  rw [hone]
  have QF := Lib.hid qf
  have HPL := Lib.hid pl
  have HPU := Lib.hid pu
  have HW := Lib.hid hw
  have HB := Lib.hid hBw
  have HX := Lib.hid hx
  have hke : k < E.va.length := by omega
  have hkf : k < E.fi.length := by omega
  unfold maxLen at qm
  clear hhs hhk hfi hlk hva hvc hvk hgl pl pu qf hw hBw hx h0 h1 h2 h3 h4 hone hkp hj0 hj1
  cases vb with
  | false =>
    go_enter Try.func46, Try.ntmps46
    go_wp2_with fail
    go_end0
    exact ⟨rfl, Mod.refl _ _, oa, n, c, HW.out, fun _ _ h => h⟩
  | true =>
    go_enter Try.func46, Try.ntmps46
    go_wp2_with fail
    refine wp_region_later_tail (W := w) 11 (by kernel_rfl) (by kernel_rfl) (Ext.refl _) ?_
    simp only [List.take_succ_cons, List.take_zero, List.drop_succ_cons, List.drop_zero]
    repeat (go_big_quiet_step (fail))
    refine wpQuiet_nil ?_
    intro w3 hx3
    go_wp2_with fail
    refine (hwrite_any (HW.out.ext hx3) (nm, fs) (vs := l) (fun w' hm => by
      have hx4 : Ext W w' := (HX.out.trans hx3).mod hm (fun q hq => by have := (HW.out.ext hx3).foot q hq; omega)
      exact ⟨Hd.Flds.ext QF.out hx4, (HPL.out.ext hx4).1⟩) qn (by omega) (fun x hx => (HPU.out x hx).1) (by omega)).mono ?_
    rintro e w4 ⟨rfl, oa4, n4, c4, m4, k4, i4⟩
    have HK := Lib.hid k4
    have HM := Lib.hid ((Mod.of_ext hx3).trans m4)
    have HI := Lib.hid i4
    have hsz := hx3.size
    clear m4 k4 i4 hx3
    go_wp2_with fail
    go_end0
    exact ⟨rfl, HM.out, oa4, n4, c4, HK.out, fun k hk => HI.out k (by omega)⟩

namespace Dp
/-- what an accepted packet is known to have -/
theorem ok_facts {P : Pg.Prog} {E : Pg.Env} (h : ok P E = true) : P.dp.length ≤ 8 ∧ (∀ j, j < P.dp.length → 0 ≤ P.dp.getD j 0 ∧ P.dp.getD j 0 < P.hs.length) ∧ E.va.length = P.hs.length ∧ E.fi.length = P.hs.length ∧ ∀ k, (E.fi.getD k []).length ≤ 1000000 := by
  unfold ok at h
  simp only [Bool.and_eq_true, beq_iff_eq] at h
  obtain ⟨h1, h2, h3⟩ := h
  obtain ⟨g1, g2⟩ := chk_ok h1
  have hs : Pg.shB P E = true := by
    cases hh : Pg.shB P E
    · rw [Pg.chk_sh hh] at h3; simp at h3
    · rfl
  obtain ⟨z1, z2, _, z4⟩ := Pg.shB_len hs
  refine ⟨g1, fun j hj => bad_zero (g2 j hj), z1, z2, fun k => ?_⟩
  by_cases hk : k < E.fi.length
  · rw [z4 k hk]
    unfold hsB at h2
    rw [List.all_eq_true] at h2
    have h5 := h2 k (List.mem_range.2 (by omega))
    simp only [beq_iff_eq] at h5
    have := (Hd.chk_ok h5).2.2.1
    omega
  · rw [List.getD_eq_getElem?_getD, List.getElem?_eq_none (by omega)]; simp
end Dp

set_option maxRecDepth 8000 in
set_option maxHeartbeats 4000000 in
theorem demit_any {W : World} {p : Pg.PV} {P : Pg.Prog} {e : Pg.EV} {E : Pg.Env} (hp : Pg.IsP W p P) (hc : Pg.CapP p) (he : Pg.IsE W e E) (hpy : E.pl.length ≤ 1000000) :
    Calls Try.prog 16 #[p.val, e.val] W fun e' w' => ∃ v, e' = .returned v ∧ Ext W w' ∧ Src w' v 1 (Dp.emit P E).length (u8s (Dp.emit P E)) := by
  have HP := Lib.hid hp
  have HE := Lib.hid he
  have HC := Lib.hid hc
  obtain ⟨s, a1, a2, a3, a4, a5, a6, a7, a8, m1, m2, n3, m3, n4, m4, n5, m5, n6, m6, n7, m7, m8, hf⟩ := hp.form
  obtain ⟨rfl, hhs, hmd, hdp, hl1, hl2, hl8⟩ := hf
  obtain ⟨b0, b1, b2, b3, d0, d1, d2, d3, hg⟩ := he.form
  obtain ⟨rfl, hva, hfi, hme, hpl, g0, g1, g2, g3⟩ := hg
  have HAC : Hid (∀ w, Ext W w → Calls Try.prog 44 #[.agg #[.string s, .slice a1 P.hs.length m1, .slice a2 P.md.length m2, .slice a3 n3 m3, .slice a4 n4 m4, .slice a5 n5 m5, .slice a6 n6 m6, .slice a7 n7 m7, .slice a8 P.dp.length m8], .agg #[.slice b0 E.va.length d0, .slice b1 E.fi.length d1, .slice b2 E.me.length d2, .slice b3 E.pl.length d3]] w (Rets w (.bool (Dp.ok P E)))) := Lib.hid (fun w hx => by have h := accepts_any (HP.out.ext hx) HC.out (HE.out.ext hx); exact h)
  dsimp only [Pg.PV.val, Pg.EV.val]
  have bb := alloc_heap W (.cells #[.string s, .slice a1 P.hs.length m1, .slice a2 P.md.length m2, .slice a3 n3 m3, .slice a4 n4 m4, .slice a5 n5 m5, .slice a6 n6 m6, .slice a7 n7 m7, .slice a8 P.dp.length m8] 31)
  have k0 := alw (cell_of (o := 0) bb)
  have k1 := alw (cell_of (o := 1) bb)
  have k2 := alw (cell_of (o := 2) bb)
  have k3 := alw (cell_of (o := 3) bb)
  have k4 := alw (cell_of (o := 4) bb)
  have k5 := alw (cell_of (o := 5) bb)
  have k6 := alw (cell_of (o := 6) bb)
  have k7 := alw (cell_of (o := 7) bb)
  have k8 := alw (cell_of (o := 8) bb)
  have be := alloc_heap (W.alloc (.cells #[.string s, .slice a1 P.hs.length m1, .slice a2 P.md.length m2, .slice a3 n3 m3, .slice a4 n4 m4, .slice a5 n5 m5, .slice a6 n6 m6, .slice a7 n7 m7, .slice a8 P.dp.length m8] 31)) (.cells #[.slice b0 E.va.length d0, .slice b1 E.fi.length d1, .slice b2 E.me.length d2, .slice b3 E.pl.length d3] 37)
  rw [World.size_alloc] at be
  have j0 := alw (cell_of (o := 0) be)
  have j1 := alw (cell_of (o := 1) be)
  have j2 := alw (cell_of (o := 2) be)
  have j3 := alw (cell_of (o := 3) be)
  have HHS := Lib.hid hhs
  have HVA := Lib.hid hva
  have HFI := Lib.hid hfi
  have HDP := Lib.hid hdp
  have HPY := Lib.hid hpl
  clear bb be hp he hc hhs hmd hdp hva hfi hme hpl
  have hmf : ∀ (fn : Fn) (first cap : Array Value) (w : World), (Instr.makeFunc fn first cap).run Try.prog w = .ok (.func fn first cap) w := fun _ _ _ _ => rfl
  cases hok : Dp.ok P E with
  | false =>
    have HOK := Lib.hid hok
    rw [hok] at HAC
    rw [Dp.emit_no hok]
    clear hok
    go_enter Try.func16, Try.ntmps16
    go_wp2_with fail
    refine (HAC.out _ (grows (a := W))).mono ?_
    rintro e' w1 ⟨rfl, x1⟩
    have s1 := Step.mk x1
    go_wp2_with fail
    go_ret
    exact ⟨_, rfl, grows, by simp [u8s], by simp [u8s], .inl ⟨rfl, rfl⟩⟩
  | true =>
    obtain ⟨y1, y2, y3, y4, y5⟩ := Dp.ok_facts hok
    have YD := Lib.hid y2
    have YF := Lib.hid y5
    have HEM := Lib.hid (Dp.emit_yes hok)
    have yva : P.hs.length ≤ E.va.length := by omega
    have yfi : P.hs.length ≤ E.fi.length := by omega
    rw [hok] at HAC
    clear hok y2 y3 y4 y5
    go_enter Try.func16, Try.ntmps16
    go_wp2_with fail
    refine (HAC.out _ (grows (a := W))).mono ?_
    rintro e' w1 ⟨rfl, x1⟩
    have s1 := Step.mk x1
    go_wp2_with fail
    refine (newWriter_any w1).mono ?_
    rintro e' w2 ⟨q, rfl, x2, hw2⟩
    have s2 := Step.mk x2
    have HW2 := Lib.hid hw2
    have bw := alloc_heap w2 (.cells #[.pointer (some ⟨q, 0, none⟩)] 86)
    have HBW := Lib.hid bw
    clear hw2 bw
    go_wp2_with fail
    go_loopw [20] (fun i wr => ∃ k : Nat, k ≤ P.dp.length ∧ i = .int .i64 k ∧ Hid (∃ oa n c, Ext w1 wr ∧ WrtAt wr w1.heap.size q oa n c (Dp.bitsFrom P E (P.dp.take k) []) ∧ wr.heap[w2.heap.size]? = some (.cells #[.pointer (some ⟨q, 0, none⟩)] 86 (0, 0)))) (fun i _ => P.dp.length - (intOf i).toNat)
    case atStart => exact ⟨0, Nat.zero_le _, rfl, Lib.hid ⟨none, 0, 0, grows, HW2.out.ext grows, HBW.out⟩⟩
    case round =>
      obtain ⟨k, hk, rfl, HI⟩ := hrel
      obtain ⟨wo, rfl⟩ : ∃ wo : World, wo = wr := ⟨_, rfl⟩
      obtain ⟨oa, n, c, hx, hw, hbw⟩ := HI.out
      have sx : Step w1 wo := Step.mk hx
      have t0 := alw (cell_of (o := 0) hbw)
      have HX := Lib.hid hx
      have HW := Lib.hid hw
      have HB := Lib.hid hbw
      have hlen := Dp.bits_len P E (P.dp.take k) []
      have htk : (P.dp.take k).length ≤ 8 := by rw [List.length_take]; omega
      simp only [List.length_nil] at hlen
      clear hx hw hbw HI
      by_cases hlt : k < P.dp.length
      · obtain ⟨x, hxk⟩ : ∃ x, P.dp[k]? = some x := ⟨_, List.getElem?_eq_getElem hlt⟩
        obtain ⟨b, o, hoa, hec⟩ := ns_at HDP.out (by omega)
        subst hoa
        have e0 := hec k x hxk
        have hxx := YD.out k hlt
        rw [List.getD_eq_getElem?_getD, hxk, Option.getD_some] at hxx
        obtain ⟨x0, x1'⟩ := hxx
        have HSN := Lib.hid (Dp.bits_snoc (E := E) hxk)
        clear hec hxk
        go_wp2_with fail
        refine (emit1_any (W := w1) (base := w1.heap.size) (P := P) (E := E) HX.out (Nat.le_refl _) HW.out (by omega) (k1 w1) (HHS.out.ext (fun _ _ h => h.ext grows) grows) (j0 w1) (HVA.out.ext grows) (j1 w1) (HFI.out.ext (fun _ _ h => h.ext grows) grows) HB.out x x0 x1' yva yfi YF.out (by omega) (by omega)).mono ?_
        rintro e' w4 ⟨rfl, oa4, n4, c4, m4, k4, _⟩
        have HX4 := Lib.hid (HX.out.mod m4 (fun q hq => HW.out.foot q hq))
        have HB4 := Lib.hid (m4.heap HB.out (HW.out.not HB.out (by decide) (by decide)))
        have HK4 := Lib.hid k4
        have s4 : Step w1 w4 := Step.mk HX4.out
        clear m4 k4
        go_wp2_with fail
        go_roundw
        case rel => exact ⟨k + 1, by omega, by go_num, Lib.hid ⟨oa4, n4, c4, HX4.out, by rw [HSN.out]; exact HK4.out, HB4.out⟩⟩
        case measure => simp [intOf]; omega
      · obtain rfl : k = P.dp.length := by omega
        rw [List.take_length] at HW
        rw [List.take_length] at hlen
        have hbl : (Io.byL (Dp.bitsFrom P E P.dp [])).length ≤ 1000000 := by
          unfold Io.byL
          split
          · rw [Io.pack_len]; omega
          · simp
        obtain ⟨B, hB⟩ : ∃ B, B = Io.byL (Dp.bitsFrom P E P.dp []) := ⟨_, rfl⟩
        have HBY := Lib.hid (bytes_any HW.out (by omega))
        rw [← hB] at HEM hbl HBY
        clear hB
        go_wp2_with fail
        refine HBY.out.mono ?_
        rintro e' w5 ⟨v5, rfl, x5, o5⟩
        have s5 := Step.mk x5
        have O5 := Lib.hid o5
        have hle5 := grows_le (a := W) (b := wo)
        clear o5
        obtain ⟨ba, bc, hv5⟩ := own_slice O5.out
        subst hv5
        have PY5 := Lib.hid (Src.now (w := w5) HPY.out.1.1)
        go_wp2_with (at_builtin; refine wpList_append_src rfl (.tmp 33) (.tmp 35) 35 rfl wo.heap.size 5 (.int .u8 0) 1 1 Try.underlying35 info_u8 rfl (by decide) (.slice ba B.length bc) B.length (u8s B) rfl O5.out (.slice b3 E.pl.length d3) E.pl.length (u8s E.pl) rfl PY5.out ?c1 ?c2 ?c3 ?_)
        case c1 => unfold maxLen; omega
        case c2 => omega
        case c3 => exact x5.size
        intro v' w' hown hgr _
        have hx6 : Ext W w' := Ext.mod (grows (a := W) (b := w5)) (grown_mod hgr) (fun q hq => by
          have := (O5.out.lt q hq.symm).1; omega)
        have HO6 := Lib.hid hown
        clear hgr hown
        go_wp2_with fail
        go_ret
        refine ⟨_, rfl, hx6, ?_⟩
        rw [HEM.out]
        have h7 := own_src HO6.out (fun u hu => by
          rw [List.mem_append] at hu
          rcases hu with hu | hu
          · exact u8s_one _ u hu
          · exact u8s_one _ u hu)
        rw [List.length_append]
        rw [show u8s (B ++ E.pl) = u8s B ++ u8s E.pl by simp [u8s]]
        exact h7
end Go.Proofs.Ytonnlcjkgpahoaa
