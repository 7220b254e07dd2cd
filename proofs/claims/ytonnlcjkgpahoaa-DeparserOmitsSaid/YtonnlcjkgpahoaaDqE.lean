/- The deparser: the law Omits, walked. No condition. -/
import Derived.Test.YtonnlcjkgpahoaaDqD
import Derived.Test.YtonnlcjkgpahoaaStep
import Derived.Deep.RegionLaw
namespace Go.Proofs.Ytonnlcjkgpahoaa
open Go.RowKit

namespace Dp
/-- the list without its element number a, as far as k -/
def om (l : List Int) (a k : Nat) : List Int := (l.take k).eraseIdx a
theorem om_add {l : List Int} {a k : Nat} {x : Int} (hk : l[k]? = some x) (h : k ≠ a) : om l a (k + 1) = om l a k ++ [x] := by
  unfold om
  have hlt := (List.getElem?_eq_some_iff.1 hk).1
  rw [List.take_add_one, hk]
  have hl : (l.take k).length = k := by rw [List.length_take]; omega
  rcases Nat.lt_or_ge k a with h1 | h1
  · rw [List.eraseIdx_of_length_le (by simp; omega), List.eraseIdx_of_length_le (by omega)]; rfl
  · rw [List.eraseIdx_append_of_lt_length (by omega)]; rfl
theorem om_at {l : List Int} {a : Nat} {x : Int} (hk : l[a]? = some x) : om l a (a + 1) = om l a a := by
  unfold om
  have hlt := (List.getElem?_eq_some_iff.1 hk).1
  have hl : (l.take a).length = a := by rw [List.length_take]; omega
  rw [List.take_add_one, hk, List.eraseIdx_append_of_length_le (by omega), hl, Nat.sub_self, List.eraseIdx_of_length_le (by omega : (l.take a).length ≤ a)]
  simp
end Dp

set_option maxRecDepth 8000 in
set_option maxHeartbeats 8000000 in
theorem deparserOmits_walk (v0 v1 : Value) (x : Int) (W : World) {b0 b1 : Nat} {r0 r1 : Reach} {H : Type} {enc : TypeId × Value → H} {d0 d1 : DataW H} {p0 p1 : List MemPlace}
    (ok0 : Value.okWide Try.prog W r0 b0 31 v0) (h0 : DataW.Trod enc Try.prog W 0 (fun _ => true) true 31 v0 d0 p0)
    (ok1 : Value.okWide Try.prog W r1 b1 37 v1) (h1 : DataW.Trod enc Try.prog W 0 (fun _ => true) true 37 v1 d1 p1)
    (wx : (Lit.int .i64 x).wf = true) :
    Calls Try.prog 4 #[v0, v1, .int .i64 x] W (Rets W (.bool true)) := by
  obtain ⟨p, P, rfl, hp, hc⟩ := prog_take ok0 h0
  obtain ⟨e, E, rfl, he⟩ := env_take ok1 h1
  have hxb := wf_i64 wx
  clear ok0 h0 ok1 h1 d0 d1 wx
  have HP := Lib.hid hp
  have HE := Lib.hid he
  have HC := Lib.hid hc
  obtain ⟨s, a1, a2, a3, a4, a5, a6, a7, a8, m1, m2, n3, m3, n4, m4, n5, m5, n6, m6, n7, m7, m8, hf⟩ := hp.form
  obtain ⟨rfl, hhs, hmd, hdp, hl1, hl2, hl8⟩ := hf
  obtain ⟨b0, b1, b2, b3, d0, d1, d2, d3, hg⟩ := he.form
  obtain ⟨rfl, hva, hfi, hme, hpl, g0, g1, g2, g3⟩ := hg
  obtain ⟨rb, hrb⟩ : ∃ rb, Dp.rightB P E = rb := ⟨_, rfl⟩
  have HRI : Hid (∀ w, Ext W w → Calls Try.prog 20 #[.agg #[.string s, .slice a1 P.hs.length m1, .slice a2 P.md.length m2, .slice a3 n3 m3, .slice a4 n4 m4, .slice a5 n5 m5, .slice a6 n6 m6, .slice a7 n7 m7, .slice a8 P.dp.length m8], .agg #[.slice b0 E.va.length d0, .slice b1 E.fi.length d1, .slice b2 E.me.length d2, .slice b3 E.pl.length d3]] w (Rets w (.bool rb))) := Lib.hid (fun w hx => by have h := right_any (HP.out.ext hx) HC.out (HE.out.ext hx); rw [hrb] at h; exact h)
  have HRB := Lib.hid hrb
  dsimp only [Pg.PV.val, Pg.EV.val]
  have bb := alloc_heap W (.cells #[.string s, .slice a1 P.hs.length m1, .slice a2 P.md.length m2, .slice a3 n3 m3, .slice a4 n4 m4, .slice a5 n5 m5, .slice a6 n6 m6, .slice a7 n7 m7, .slice a8 P.dp.length m8] 31)
  have k0 := alw (cell_of (o := 0) bb)
  have k1 := alw (cell_of (o := 1) bb)
  have k2 := alw (cell_of (o := 2) bb)
  have k3 := alw (cell_of (o := 3) bb)
  have k4 := alw (cell_of (o := 4) bb)
  have k5 := alw (cell_of (o := 5) bb)
  have k6 := alw (cell_of (o := 6) bb)
  have k7 := alw (cell_of (o := 7) bb)
  have k8 := alw (cell_of (o := 8) bb)
  have be := alloc_heap (W.alloc (.cells #[.string s, .slice a1 P.hs.length m1, .slice a2 P.md.length m2, .slice a3 n3 m3, .slice a4 n4 m4, .slice a5 n5 m5, .slice a6 n6 m6, .slice a7 n7 m7, .slice a8 P.dp.length m8] 31)) (.cells #[.slice b0 E.va.length d0, .slice b1 E.fi.length d1, .slice b2 E.me.length d2, .slice b3 E.pl.length d3] 37)
  rw [World.size_alloc] at be
  have j0 := alw (cell_of (o := 0) be)
  have j1 := alw (cell_of (o := 1) be)
  have j2 := alw (cell_of (o := 2) be)
  have j3 := alw (cell_of (o := 3) be)
  have HVA := Lib.hid hva
  have HDP := Lib.hid hdp
  clear bb be hp he hc hhs hmd hdp hva hfi hme hpl hrb
  cases rb with
  | false =>
    go_enter Try.func4, Try.ntmps4
    go_wp2_with fail
    refine wp_region_later (by kernel_rfl) (by kernel_rfl) (Ext.refl _) ?_
    repeat (go_big_quiet_step (first | (go_at_call 20; exact Rets.later_at (HRI.out _ grows))))
    refine wpQuiet_nil ?_
    intro w1 hx1
    have s1 := Step.mk hx1
    go_wp2_with fail
    refine (dawake_any _).mono ?_
    rintro e' w2 ⟨rfl, x2⟩
    have s2 := Step.mk x2
    go_wp2_with fail
    go_ret
    exact ⟨rfl, grows⟩
  | true =>
    by_cases x0 : x < 0
    · go_enter Try.func4, Try.ntmps4
      go_wp2_with fail
      refine wp_region_later (by kernel_rfl) (by kernel_rfl) (Ext.refl _) ?_
      repeat (go_big_quiet_step (first | (go_at_call 20; exact Rets.later_at (HRI.out _ grows))))
      refine wpQuiet_nil ?_
      intro w1 hx1
      have s1 := Step.mk hx1
      go_wp2_with fail
      refine (dawake_any _).mono ?_
      rintro e' w2 ⟨rfl, x2⟩
      have s2 := Step.mk x2
      go_wp2_with fail
      go_ret
      exact ⟨rfl, grows⟩
    · have hx0 : 0 ≤ x := by omega
      obtain ⟨t, rfl⟩ := Int.eq_ofNat_of_zero_le hx0
      have dx0 : decide ((t : Int) < 0) = false := by first | exact decide_eq_false (by omega) | exact decide_eq_true (by omega)
      by_cases xl : t < P.dp.length
      · have dxl : decide ((P.dp.length : Int) ≤ (t : Int)) = false := by first | exact decide_eq_false (by omega) | exact decide_eq_true (by omega)
        have dxn : decide (P.dp.length ≤ t) = false := decide_eq_false (by omega)
        obtain ⟨y1, y2⟩ := Dp.ri_inv HRB.out
        obtain ⟨y8, z2, z3, z4, z5⟩ := Dp.ok_facts y2
        have HOK := Lib.hid y2
        obtain ⟨h, hh⟩ : ∃ x, P.dp[t]? = some x := ⟨_, List.getElem?_eq_getElem xl⟩
        have g0 := z2 t xl
        rw [List.getD_eq_getElem?_getD, hh, Option.getD_some] at g0
        obtain ⟨h, rfl⟩ := Int.eq_ofNat_of_zero_le g0.1
        obtain ⟨b, o, hoa, hec⟩ := ns_at HDP.out (by omega)
        subst hoa
        have HEC := Lib.hid hec
        have e0 := hec t _ hh
        have hlv : h < E.va.length := by omega
        obtain ⟨vb, hvk⟩ : ∃ x, E.va[h]? = some x := ⟨_, List.getElem?_eq_getElem hlv⟩
        obtain ⟨bv, ov, hov, hvc⟩ := bs_at HVA.out (by omega)
        subst hov
        have v0 := hvc h vb hvk
        have hgv : E.va.getD h false = vb := by rw [List.getD_eq_getElem?_getD, hvk]; rfl
        have HGV := Lib.hid hgv
        have HHT := Lib.hid hh
        have hpl2 : E.pl.length ≤ 1000000 := by omega
        clear hec hh hvk hvc hgv z2 z3 z4 z5 y2 g0
        cases vb with
        | true =>
          go_enter Try.func4, Try.ntmps4
          go_wp2_with fail
          refine wp_region_later (by kernel_rfl) (by kernel_rfl) (Ext.refl _) ?_
          repeat (go_big_quiet_step (first | (go_at_call 20; exact Rets.later_at (HRI.out _ grows))))
          refine wpQuiet_nil ?_
          intro w1 hx1
          have s1 := Step.mk hx1
          go_wp2_with fail
          refine (dawake_any _).mono ?_
          rintro e' w2 ⟨rfl, x2⟩
          have s2 := Step.mk x2
          go_wp2_with fail
          go_ret
          exact ⟨rfl, grows⟩
        | false =>
          go_enter Try.func4, Try.ntmps4
          go_wp2_with fail
          refine wp_region_later (by kernel_rfl) (by kernel_rfl) (Ext.refl _) ?_
          repeat (go_big_quiet_step (first | (go_at_call 20; exact Rets.later_at (HRI.out _ grows))))
          refine wpQuiet_nil ?_
          intro w1 hx1
          have s1 := Step.mk hx1
          go_wp2_with fail
          have z8 := y8
          have HBQ := Lib.hid (alloc_heap w1 (.cells #[.string s, .slice a1 P.hs.length m1, .slice a2 P.md.length m2, .slice a3 n3 m3, .slice a4 n4 m4, .slice a5 n5 m5, .slice a6 n6 m6, .slice a7 n7 m7, .slice none 0 0] 31))
          go_loopw [8] (fun i wr => ∃ k : Nat, k ≤ P.dp.length ∧ i = .int .i64 k ∧ Hid (∃ qa qc, Ext w1 wr ∧ wr.heap[w1.heap.size]? = some (.cells #[.string s, .slice a1 P.hs.length m1, .slice a2 P.md.length m2, .slice a3 n3 m3, .slice a4 n4 m4, .slice a5 n5 m5, .slice a6 n6 m6, .slice a7 n7 m7, .slice qa (Dp.om P.dp t k).length qc] 31) ∧ wr.ownsRow w1.heap.size 3 1 (.slice qa (Dp.om P.dp t k).length qc) (Dp.om P.dp t k).length ((Dp.om P.dp t k).map (.int .i64)))) (fun i _ => P.dp.length - (intOf i).toNat)
          case atStart => exact ⟨0, Nat.zero_le _, rfl, Lib.hid ⟨none, 0, grows, HBQ.out, World.ownsRow_nil _ _ _ _⟩⟩
          case round =>
            obtain ⟨k, hk, rfl, HI⟩ := hrel
            obtain ⟨wo, rfl⟩ : ∃ wo : World, wo = wr := ⟨_, rfl⟩
            obtain ⟨qa, qc, hx, hb, ho⟩ := HI.out
            have so : Step w1 wo := Step.mk hx
            obtain ⟨L, hL⟩ : ∃ L, L = Dp.om P.dp t k := ⟨_, rfl⟩
            have hLk : L.length ≤ k := by rw [hL]; unfold Dp.om; refine Nat.le_trans (List.length_eraseIdx_le _ _) ?_; rw [List.length_take]; omega
            rw [← hL] at hb ho
            have HLE := Lib.hid hL
            have HX := Lib.hid hx
            have HB := Lib.hid hb
            have HO := Lib.hid ho
            have hlo := hx.le
            have u8 := alw (cell_of (o := 8) hb)
            clear HI hL hx hb ho
            by_cases hlt : k < P.dp.length
            · obtain ⟨y, hyk⟩ : ∃ x, P.dp[k]? = some x := ⟨_, List.getElem?_eq_getElem hlt⟩
              have ek := HEC.out k y hyk
              by_cases hkt : k = t
              · have hne : ((k : Int) != (t : Int)) = false := by simp [hkt]
                have hom : Dp.om P.dp t (k + 1) = L := by rw [HLE.out, hkt]; exact Dp.om_at (by rw [← hkt]; exact hyk)
                have HOM := Lib.hid hom
                clear hyk hkt hom
                go_wp2_with fail
                go_roundw
                case rel => exact ⟨k + 1, by omega, by go_num, Lib.hid ⟨qa, qc, HX.out, by rw [HOM.out]; exact HB.out, by rw [HOM.out]; exact HO.out⟩⟩
                case measure => simp [intOf]; omega
              · have hne : ((k : Int) != (t : Int)) = true := by simp; omega
                have hom : Dp.om P.dp t (k + 1) = L ++ [y] := by rw [HLE.out]; exact Dp.om_add hyk hkt
                have HOM := Lib.hid hom
                clear hyk hkt hom
                have q0 := u8 wo
                have q1 := k8 wo
                have q2 := ek wo
                have n0 := World.new_ne wo _ q0
                have n1 := World.new_ne wo _ q1
                have n2 := World.new_ne wo _ q2
                have HO1 := Lib.hid (own_ext HO.out (((Ext.refl wo).alloc (.cells #[.int .i64 y] 3)).drew))
                have HB1 := Lib.hid ((((Ext.refl wo).alloc (.cells #[.int .i64 y] 3)).drew).heap HB.out)
                have HS1 := Lib.hid ((src_one wo (.int .i64 y) 3 rfl).ext ((Ext.refl _).drew))
                go_wp2_with fail
                go_region_law
                  ((refine step_append_fresh (by rfl) (.tmp 49) (.tmp 55) 29 (by rfl) w1.heap.size 3 (.int .i64 0) 1 8 Try.underlying29 info_i64 (by rfl) (by decide) _ L.length (L.map (.int .i64)) (by rfl) HO1.out _ 1 [.int .i64 y] (by rfl) HS1.out (by decide) (by unfold maxLen; omega) (by omega) (by simp; omega) ?_; intro v' w' hown hgr; obtain ⟨qa', qc', hv'⟩ := own_slice hown; subst hv'; have hb6 := (grown_mod hgr).heap HB1.out (fun e => own_not HO1.out HB1.out (by decide) _ e.symm rfl); have hx6 : Ext w1 w' := Ext.mod (HX.out.trans (((Ext.refl wo).alloc (.cells #[.int .i64 y] 3)).drew)) (grown_mod hgr) (fun q hq => (HO1.out.lt q hq.symm).1); have s6 : Step w1 w' := Step.mk hx6; have z0 : w'.cell? ⟨w1.heap.size, 8, none⟩ = some (.slice qa L.length qc) := cell_of hb6; have z3 : w'.frozen? ⟨w1.heap.size, 8, none⟩ = false := free_of hb6; have z1 := k8 w'; have z2 := ek w'; have HA := Lib.hid hown; have HX6 := Lib.hid hx6; have HB6 := Lib.hid hb6; clear hown hgr hx6 hb6))
                all_goals
                  go_wp2_with fail
                  go_roundw
                  case rel =>
                    have hm : Mod (· = w1.heap.size) w' (w'.setCell ⟨w1.heap.size, 8, none⟩ (.slice qa' (L.length + 1) qc')) := (Mod.refl (· = w1.heap.size) w').setCell (p := ⟨w1.heap.size, 8, none⟩) (.inl rfl) _
                    refine ⟨k + 1, by omega, by go_num, Lib.hid ⟨qa', qc', HX6.out.mod hm (fun q hq => by rw [hq]; exact Nat.le_refl _), ?_, ?_⟩⟩
                    · rw [HOM.out, List.length_append]; exact setCell_heap HB6.out
                    · rw [HOM.out, List.length_append, List.map_append]; exact own_mod HA.out hm (own_not HA.out HB6.out (by decide))
                  case measure => simp [intOf]; omega
            · obtain rfl : k = P.dp.length := by omega
              have hL2 : L = P.dp.eraseIdx t := by rw [HLE.out]; unfold Dp.om; rw [List.take_length]
              obtain ⟨G, hG⟩ : ∃ G, Dp.emit P E = G := ⟨_, rfl⟩
              have hG2 : Dp.emit (Dp.withDp P L) E = G := by rw [hL2, Dp.emit_omit HOK.out HHT.out (by rw [Int.toNat_natCast]; exact HGV.out)]; exact hG
              have hsrc := own_src HO.out (fun u hu => by rw [List.mem_map] at hu; obtain ⟨x, _, rfl⟩ := hu; rfl)
              have hq : Pg.IsP wo ⟨.string s, .slice a1 P.hs.length m1, .slice a2 P.md.length m2, .slice a3 n3 m3, .slice a4 n4 m4, .slice a5 n5 m5, .slice a6 n6 m6, .slice a7 n7 m7, .slice qa L.length qc⟩ (Dp.withDp P L) := by
                obtain ⟨i0, i1, i2, i3, i4, i5, i6, i7, _⟩ := HP.out.ext (grows (a := W) (b := wo))
                exact ⟨i0, i1, i2, i3, i4, i5, i6, i7, hsrc, by show L.length ≤ maxLen; unfold maxLen; omega⟩
              have hcq : Pg.CapP ⟨.string s, .slice a1 P.hs.length m1, .slice a2 P.md.length m2, .slice a3 n3 m3, .slice a4 n4 m4, .slice a5 n5 m5, .slice a6 n6 m6, .slice a7 n7 m7, .slice qa L.length qc⟩ := by
                rcases HO.out.2 with ⟨h1, h2⟩ | ⟨g, cap, cur, h1, _, _, h2, h3, _⟩
                · simp only [Value.slice.injEq] at h1; exact ⟨_, _, _, rfl, by omega, by omega⟩
                · simp only [Value.slice.injEq] at h1; exact ⟨_, _, _, rfl, by omega, by unfold maxLen at h3; omega⟩
              have HEP : Hid (∀ w, Ext wo w → Calls Try.prog 16 #[.agg #[.string s, .slice a1 P.hs.length m1, .slice a2 P.md.length m2, .slice a3 n3 m3, .slice a4 n4 m4, .slice a5 n5 m5, .slice a6 n6 m6, .slice a7 n7 m7, .slice (some ⟨b, o, none⟩) P.dp.length m8], .agg #[.slice (some ⟨bv, ov, none⟩) E.va.length d0, .slice b1 E.fi.length d1, .slice b2 E.me.length d2, .slice b3 E.pl.length d3]] w fun e' w' => ∃ v, e' = .returned v ∧ Ext w w' ∧ Src w' v 1 G.length (u8s G)) := Lib.hid (fun w hx => by have h := demit_any (HP.out.ext ((grows (a := W) (b := wo)).trans hx)) HC.out (HE.out.ext ((grows (a := W) (b := wo)).trans hx)) hpl2; rw [hG] at h; exact h)
              have HEQ : Hid (∀ w, Ext wo w → Calls Try.prog 16 #[.agg #[.string s, .slice a1 P.hs.length m1, .slice a2 P.md.length m2, .slice a3 n3 m3, .slice a4 n4 m4, .slice a5 n5 m5, .slice a6 n6 m6, .slice a7 n7 m7, .slice qa L.length qc], .agg #[.slice (some ⟨bv, ov, none⟩) E.va.length d0, .slice b1 E.fi.length d1, .slice b2 E.me.length d2, .slice b3 E.pl.length d3]] w fun e' w' => ∃ v, e' = .returned v ∧ Ext w w' ∧ Src w' v 1 G.length (u8s G)) := Lib.hid (fun w hx => by have h := demit_any (hq.ext hx) hcq (HE.out.ext ((grows (a := W) (b := wo)).trans hx)) hpl2; rw [hG2] at h; exact h)
              have HSP : Hid (∀ w, Ext wo w → Calls Try.prog 18 #[.agg #[.string s, .slice a1 P.hs.length m1, .slice a2 P.md.length m2, .slice a3 n3 m3, .slice a4 n4 m4, .slice a5 n5 m5, .slice a6 n6 m6, .slice a7 n7 m7, .slice (some ⟨b, o, none⟩) P.dp.length m8], .agg #[.slice (some ⟨bv, ov, none⟩) E.va.length d0, .slice b1 E.fi.length d1, .slice b2 E.me.length d2, .slice b3 E.pl.length d3]] w (Rets w (.int .i64 (G.length : Nat)))) := Lib.hid (fun w hx => by have h := dsize_any (HP.out.ext ((grows (a := W) (b := wo)).trans hx)) HC.out (HE.out.ext ((grows (a := W) (b := wo)).trans hx)) hpl2; rw [hG] at h; exact h)
              have HSQ : Hid (∀ w, Ext wo w → Calls Try.prog 18 #[.agg #[.string s, .slice a1 P.hs.length m1, .slice a2 P.md.length m2, .slice a3 n3 m3, .slice a4 n4 m4, .slice a5 n5 m5, .slice a6 n6 m6, .slice a7 n7 m7, .slice qa L.length qc], .agg #[.slice (some ⟨bv, ov, none⟩) E.va.length d0, .slice b1 E.fi.length d1, .slice b2 E.me.length d2, .slice b3 E.pl.length d3]] w (Rets w (.int .i64 (G.length : Nat)))) := Lib.hid (fun w hx => by have h := dsize_any (hq.ext hx) hcq (HE.out.ext ((grows (a := W) (b := wo)).trans hx)) hpl2; rw [hG2] at h; exact h)
              have c0 := alw (cell_of (o := 0) HB.out)
              have c1 := alw (cell_of (o := 1) HB.out)
              have c2 := alw (cell_of (o := 2) HB.out)
              have c3 := alw (cell_of (o := 3) HB.out)
              have c4 := alw (cell_of (o := 4) HB.out)
              have c5 := alw (cell_of (o := 5) HB.out)
              have c6 := alw (cell_of (o := 6) HB.out)
              have c7 := alw (cell_of (o := 7) HB.out)
              have c8 := alw (cell_of (o := 8) HB.out)
              clear hL2 hG hG2 hsrc hq hcq
              go_wp2_with fail
              refine Rel.region (W := wo) (Rel.tab [(2, fun v w => Src w v 1 G.length (u8s G)), (6, fun v w => Src w v 1 G.length (u8s G)), (12, fun v _ => v = .int .i64 (G.length : Nat)), (15, fun v _ => v = .int .i64 (G.length : Nat)), (19, fun v _ => v = .bool true)]) (Rel.tab_lasts (by intro p hp v w w' hr hx; simp only [List.mem_cons, List.not_mem_nil, or_false] at hp; rcases hp with rfl | rfl | rfl | rfl | rfl; (· exact Src.ext hr hx); (· exact Src.ext hr hx); all_goals exact hr)) (by kernel_rfl) (by kernel_rfl) (Ext.refl _) ?_
              refine Rel.chunk 2 rfl rfl rfl ?_
              simp only [List.take_succ_cons, List.take_zero, List.drop_succ_cons, List.drop_zero, Nat.reduceAdd]
              repeat (go_big_quiet_step (fail))
              refine wpQuiet_nil ?_
              refine Rel.callG (fun v w => Src w v 1 G.length (u8s G)) rfl rfl rfl Try.func16 (by nofun) (by decide) #[.agg #[.string s, .slice a1 P.hs.length m1, .slice a2 P.md.length m2, .slice a3 n3 m3, .slice a4 n4 m4, .slice a5 n5 m5, .slice a6 n6 m6, .slice a7 n7 m7, .slice qa L.length qc], .agg #[.slice (some ⟨bv, ov, none⟩) E.va.length d0, .slice b1 E.fi.length d1, .slice b2 E.me.length d2, .slice b3 E.pl.length d3]] rfl (fun w hx _ => by have h := HEQ.out w hx; exact h) ?_
              intro v2 w2 _ _ r2
              obtain ⟨va2, vc2, hv2, _⟩ := r2.slice
              subst hv2
              clear r2
              simp only [Act.put, List.setIfInBounds_toArray, List.set_cons_succ, List.set_cons_zero]
              refine Rel.dep (.string (strOfNums G)) rfl rfl rfl rfl (fun w hx hf => by exact Rel.run_convert (.slice va2 G.length vc2) rfl rfl (src_str ((hf 2 (by kernel_rfl)).2 rfl))) ?_
              simp only [Act.put, List.setIfInBounds_toArray, List.set_cons_succ, List.set_cons_zero]
              refine Rel.chunk 2 rfl rfl rfl ?_
              simp only [List.take_succ_cons, List.take_zero, List.drop_succ_cons, List.drop_zero, Nat.reduceAdd]
              repeat (go_big_quiet_step (fail))
              refine wpQuiet_nil ?_
              refine Rel.callG (fun v w => Src w v 1 G.length (u8s G)) rfl rfl rfl Try.func16 (by nofun) (by decide) #[.agg #[.string s, .slice a1 P.hs.length m1, .slice a2 P.md.length m2, .slice a3 n3 m3, .slice a4 n4 m4, .slice a5 n5 m5, .slice a6 n6 m6, .slice a7 n7 m7, .slice (some ⟨b, o, none⟩) P.dp.length m8], .agg #[.slice (some ⟨bv, ov, none⟩) E.va.length d0, .slice b1 E.fi.length d1, .slice b2 E.me.length d2, .slice b3 E.pl.length d3]] rfl (fun w hx _ => by have h := HEP.out w hx; exact h) ?_
              intro v6 w6 _ _ r6
              obtain ⟨va6, vc6, hv6, _⟩ := r6.slice
              subst hv6
              clear r6
              simp only [Act.put, List.setIfInBounds_toArray, List.set_cons_succ, List.set_cons_zero]
              refine Rel.dep (.string (strOfNums G)) rfl rfl rfl rfl (fun w hx hf => by exact Rel.run_convert (.slice va6 G.length vc6) rfl rfl (src_str ((hf 6 (by kernel_rfl)).2 rfl))) ?_
              simp only [Act.put, List.setIfInBounds_toArray, List.set_cons_succ, List.set_cons_zero]
              refine Rel.chunk 4 rfl rfl rfl ?_
              simp only [List.take_succ_cons, List.take_zero, List.drop_succ_cons, List.drop_zero, Nat.reduceAdd]
              repeat (go_big_quiet_step (fail))
              refine wpQuiet_nil ?_
              refine Rel.callG (fun v _ => v = .int .i64 (G.length : Nat)) rfl rfl rfl Try.func18 (by nofun) (by decide) #[.agg #[.string s, .slice a1 P.hs.length m1, .slice a2 P.md.length m2, .slice a3 n3 m3, .slice a4 n4 m4, .slice a5 n5 m5, .slice a6 n6 m6, .slice a7 n7 m7, .slice qa L.length qc], .agg #[.slice (some ⟨bv, ov, none⟩) E.va.length d0, .slice b1 E.fi.length d1, .slice b2 E.me.length d2, .slice b3 E.pl.length d3]] rfl (fun w hx _ => by refine (HSQ.out w hx).mono ?_; rintro e w9 ⟨he, hx9⟩; exact ⟨_, he, hx9, rfl⟩) ?_
              intro v12 w12 _ _ r12
              subst r12
              simp only [Act.put, List.setIfInBounds_toArray, List.set_cons_succ, List.set_cons_zero]
              refine Rel.chunk 2 rfl rfl rfl ?_
              simp only [List.take_succ_cons, List.take_zero, List.drop_succ_cons, List.drop_zero, Nat.reduceAdd]
              repeat (go_big_quiet_step (fail))
              refine wpQuiet_nil ?_
              refine Rel.callG (fun v _ => v = .int .i64 (G.length : Nat)) rfl rfl rfl Try.func18 (by nofun) (by decide) #[.agg #[.string s, .slice a1 P.hs.length m1, .slice a2 P.md.length m2, .slice a3 n3 m3, .slice a4 n4 m4, .slice a5 n5 m5, .slice a6 n6 m6, .slice a7 n7 m7, .slice (some ⟨b, o, none⟩) P.dp.length m8], .agg #[.slice (some ⟨bv, ov, none⟩) E.va.length d0, .slice b1 E.fi.length d1, .slice b2 E.me.length d2, .slice b3 E.pl.length d3]] rfl (fun w hx _ => by refine (HSP.out w hx).mono ?_; rintro e w9 ⟨he, hx9⟩; exact ⟨_, he, hx9, rfl⟩) ?_
              intro v15 w15 _ _ r15
              subst r15
              simp only [Act.put, List.setIfInBounds_toArray, List.set_cons_succ, List.set_cons_zero]
              refine Rel.chunk 3 rfl rfl rfl ?_
              simp only [List.take_succ_cons, List.take_zero, List.drop_succ_cons, List.drop_zero, Nat.reduceAdd]
              repeat (go_big_quiet_step (fail))
              refine wpQuiet_nil ?_
              refine Rel.callG (fun v _ => v = .bool true) rfl rfl rfl Try.func13 (by nofun) (by decide) #[] rfl (fun w hx _ => by refine (dawake_any w).mono ?_; rintro e w9 ⟨he, hx9⟩; exact ⟨_, he, hx9, rfl⟩) ?_
              intro v19 w19 _ _ r19
              subst r19
              simp only [Act.put, List.setIfInBounds_toArray, List.set_cons_succ, List.set_cons_zero]
              refine Rel.chunk 2 rfl rfl rfl ?_
              simp only [List.take_succ_cons, List.take_zero, List.drop_succ_cons, List.drop_zero, Nat.reduceAdd]
              repeat (go_big_quiet_step (fail))
              refine wpQuiet_nil ?_
              refine Rel.fin ?_
              intro w8 hx8 _
              have s8 := Step.mk hx8
              go_wp2_with fail
              go_ret
              exact ⟨rfl, grows⟩
      · have dxn : decide (P.dp.length ≤ t) = true := decide_eq_true (by omega)
        have dxl : decide ((P.dp.length : Int) ≤ (t : Int)) = true := by first | exact decide_eq_false (by omega) | exact decide_eq_true (by omega)
        go_enter Try.func4, Try.ntmps4
        go_wp2_with fail
        refine wp_region_later (by kernel_rfl) (by kernel_rfl) (Ext.refl _) ?_
        repeat (go_big_quiet_step (first | (go_at_call 20; exact Rets.later_at (HRI.out _ grows))))
        refine wpQuiet_nil ?_
        intro w1 hx1
        have s1 := Step.mk hx1
        go_wp2_with fail
        refine (dawake_any _).mono ?_
        rintro e' w2 ⟨rfl, x2⟩
        have s2 := Step.mk x2
        go_wp2_with fail
        go_ret
        exact ⟨rfl, grows⟩
end Go.Proofs.Ytonnlcjkgpahoaa
