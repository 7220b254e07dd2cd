/- Headers: Write of the reference, walked. No condition. -/
import Derived.Test.YtonnlcjkgpahoaaHd6
namespace Go.Proofs.Ytonnlcjkgpahoaa
open Go.RowKit

namespace Hd
/-- the first value that is refused gives the error -/
theorem put_fail {vs : List Int} {fs : List Fld} {k : Nat} {x y : Int} {nk : ByteArray} (hl : vs.length = fs.length) (hx : vs[k]? = some x) (hy : fs[k]? = some (nk, y)) (L : List Int) (h : (Io.putAll (vs.take k) (wds (fs.take k)) L).1 = 0) (he : Io.wrE x y ≠ 0) : (Io.putAll vs (wds fs) []).1 = Io.wrE x y := by
  have hlt := (List.getElem?_eq_some_iff.1 hx).1
  have e1 : ∀ j, wds (fs.take j) = (wds fs).take j := fun j => by unfold wds; rw [List.map_take]
  have h1 : vs.take (k + 1) = vs.take k ++ [x] := by rw [List.take_add_one, hx]; rfl
  have h2 : wds (fs.take (k + 1)) = wds (fs.take k) ++ [y] := wds_step hy
  have hln : vs.length = (wds fs).length := by rw [wds_len]; exact hl
  have h5 := putAll_snoc (vs.take k) (wds (fs.take k)) L x y (by rw [wds_len, List.length_take, List.length_take]; omega) h
  rw [← h1, ← h2, if_neg he] at h5
  have h6 := putAll_front (vs.take (k + 1)) ((wds fs).take (k + 1)) (vs.drop (k + 1)) ((wds fs).drop (k + 1)) L (by rw [List.length_take, List.length_take]; omega) (by rw [← e1, h5]; exact he)
  rw [List.take_append_drop, List.take_append_drop, ← e1, h5] at h6
  rw [putAll_err _ _ [] L]; exact h6
theorem put_next {vs : List Int} {fs : List Fld} {k : Nat} {x y : Int} {nk : ByteArray} (hl : vs.length = fs.length) (hx : vs[k]? = some x) (hy : fs[k]? = some (nk, y)) (L : List Int) (h : (Io.putAll (vs.take k) (wds (fs.take k)) L).1 = 0) (he : Io.wrE x y = 0) :
    (Io.putAll (vs.take (k + 1)) (wds (fs.take (k + 1))) L).1 = 0 ∧ (Io.putAll (vs.take (k + 1)) (wds (fs.take (k + 1))) L).2 = Io.wrL (Io.putAll (vs.take k) (wds (fs.take k)) L).2 x y := by
  have hlt := (List.getElem?_eq_some_iff.1 hx).1
  have h1 : vs.take (k + 1) = vs.take k ++ [x] := by rw [List.take_add_one, hx]; rfl
  have h2 : wds (fs.take (k + 1)) = wds (fs.take k) ++ [y] := wds_step hy
  have h5 := putAll_snoc (vs.take k) (wds (fs.take k)) L x y (by rw [wds_len, List.length_take, List.length_take]; omega) h
  rw [← h1, ← h2, if_pos he] at h5
  rw [h5]; exact ⟨rfl, rfl⟩
end Hd

set_option maxRecDepth 8000 in
set_option maxHeartbeats 1000000 in
theorem rhwrite_any {W : World} {base : Nat} {xa : Option Addr} {xc : Nat} {L : List Int} (h : Hd.Hdr) {v u : Value} {vs : List Int} (hs : Hd.Flds W v h.2) (hu : Src W u 1 vs.length (u32s vs)) (hn : h.1.size ≤ maxLen) (ho : W.ownsRow base 4 1 (.slice xa L.length xc) L.length (bls L)) (hb : base ≤ W.heap.size) (hL : L.length ≤ 1000000000) (hvs : ∀ x ∈ vs, 0 ≤ x ∧ x < 4294967296) (hvl : vs.length ≤ 1000000) :
    Calls Try.prog 36 #[.agg #[.string h.1, v], u, .agg #[.slice xa L.length xc]] W
      fun e w' => ∃ oa' c', e = .returned (.tuple #[.agg #[.slice oa' (Hd.wL h vs L).length c'], .int .i64 (Hd.wE h vs)]) ∧ Ext W w' ∧ w'.ownsRow base 4 1 (.slice oa' (Hd.wL h vs L).length c') (Hd.wL h vs L).length (bls (Hd.wL h vs L)) := by
  obtain ⟨nm, fs⟩ := h
  dsimp only at hs hn ⊢
  obtain ⟨fa, fc, rfl, hlc, hcm⟩ := hs.slice
  obtain ⟨ua, uc, rfl, hua⟩ := hu.slice
  unfold maxLen at hcm
  have HS := Lib.hid hs
  have HU := Lib.hid hu
  have HO := Lib.hid ho
  have HUA := Lib.hid hua
  have HVS := Lib.hid hvs
  clear hs hu ho hua hvs
  obtain ⟨Wa, hWa⟩ : ∃ Wa, Wa = W.alloc (.cells #[.string nm, .slice fa fs.length fc] 72) := ⟨_, rfl⟩
  obtain ⟨Wb, hWb⟩ : ∃ Wb, Wb = Wa.alloc (.cells #[.slice xa L.length xc] 67) := ⟨_, rfl⟩
  obtain ⟨Wc, hWc⟩ : ∃ Wc, Wc = Wb.alloc (.cells #[.slice none 0 0] 67) := ⟨_, rfl⟩
  have sza : Wa.heap.size = W.heap.size + 1 := by rw [hWa]; simp
  have szb : Wb.heap.size = W.heap.size + 1 + 1 := by rw [hWb]; simp [sza]
  have xa1 : Ext W Wa := by rw [hWa]; exact (Ext.refl W).alloc _
  have xb1 : Ext Wa Wb := by rw [hWb]; exact (Ext.refl Wa).alloc _
  have xc1 : Ext Wb Wc := by rw [hWc]; exact (Ext.refl Wb).alloc _
  have hB0 : Wc.heap[W.heap.size]? = some (.cells #[.string nm, .slice fa fs.length fc] 72) := (xb1.trans xc1).heap (by rw [hWa]; exact alloc_heap _ _)
  have hB1 : Wc.heap[W.heap.size + 1]? = some (.cells #[.slice xa L.length xc] 67) := xc1.heap (by rw [hWb, ← sza]; exact alloc_heap _ _)
  have hB2 : Wc.heap[W.heap.size + 1 + 1]? = some (.cells #[.slice none 0 0] 67) := by rw [hWc, ← szb]; exact alloc_heap _ _
  have hXC : Ext W Wc := (xa1.trans xb1).trans xc1
  have hWe : (((W.alloc (.cells #[.string nm, .slice fa fs.length fc] 72)).alloc (.cells #[.slice xa L.length xc] 67)).alloc (.cells #[.slice none 0 0] 67)) = Wc := by rw [hWc, hWb, hWa]
  have hszc : Wc.heap.size = W.heap.size + 3 := by rw [hWc]; simp [szb]
  have HWE := Lib.hid hWe
  clear hWe hWc hWb hWa sza szb xa1 xb1 xc1 Wa Wb
  have HB0 := Lib.hid hB0
  have HB1 := Lib.hid hB1
  have HB2 := Lib.hid hB2
  have HXC := Lib.hid hXC
  have hlec := hXC.le
  have hszc2 : W.heap.size + 3 ≤ Wc.heap.size := by omega
  have c0 := alw (cell_of (o := 0) hB0)
  have c1 := alw (cell_of (o := 1) hB0)
  have c2 := alw (cell_of (o := 0) hB1)
  clear hB0 hB1 hB2 hXC hszc
  by_cases hc : Hd.chk (nm, fs) = 0
  · obtain ⟨k1, k2, k3, k4, k5⟩ := Hd.chk_ok hc
    dsimp only at k2 k3 k4
    have HC := Lib.hid hc
    clear hc k1 k4 k5
    by_cases hlen : vs.length = fs.length
    · have hne : ((vs.length : Int) != fs.length) = false := by simp [hlen]
      have e1 : Hd.wE (nm, fs) vs = (Io.putAll vs (Hd.wds fs) []).1 := by unfold Hd.wE; rw [if_pos HC.out, if_pos hlen]
      have E1 := Lib.hid e1
      have HLEN := Lib.hid hlen
      have hvl2 : vs.length ≤ 12 := by omega
      clear e1 hlen
      go_enter Try.func36, Try.ntmps36
      go_upto_region 1 with (fail)
      rw [HWE.out]
      go_wp2_with fail
      refine (rhcheck_any (nm, fs) (Hd.Flds.ext HS.out HXC.out) hn).mono ?_
      rintro e w1 ⟨rfl, y1⟩
      rw [HC.out]
      have s1 : Step Wc w1 := ⟨y1⟩
      have hle1 := y1.le
      have bx := alloc_heap w1 (.cells #[.slice xa L.length xc] 67)
      have BX := Lib.hid bx
      have X1 := Lib.hid y1
      clear bx y1
      go_wp2_with fail
      clear c0 c1 c2
      go_loopw [10] (fun i wr => ∃ (k : Nat) (oa1 : Option Addr) (c1 : Nat) (M : List Int), k ≤ fs.length ∧ i = .int .i64 k ∧ Ext Wc wr ∧ Hid (M = (Io.putAll (vs.take k) (Hd.wds (fs.take k)) L).2) ∧ Hid ((Io.putAll (vs.take k) (Hd.wds (fs.take k)) L).1 = 0)
        ∧ wr.heap[w1.heap.size]? = some (.cells #[.slice oa1 M.length c1] 67 (0, 0)) ∧ wr.ownsRow base 4 1 (.slice oa1 M.length c1) M.length (bls M) ∧ M.length ≤ L.length + 32 * k) (fun i _ => fs.length - (intOf i).toNat)
      case atStart => exact ⟨0, xa, xc, L, Nat.zero_le _, rfl, X1.out.alloc _, Lib.hid (by simp [Io.putAll]), Lib.hid (by simp [Io.putAll]), BX.out, own_ext HO.out ((HXC.out.trans X1.out).alloc _), by omega⟩
      case round =>
        obtain ⟨k, oa1, c1, M, hk, rfl, hx, HME, HM0, hb1, ho1, hMl⟩ := hrel
        obtain ⟨wo, rfl⟩ : ∃ wo : World, wo = wr := ⟨_, rfl⟩
        have sx : Step Wc wo := ⟨hx⟩
        have c1' := (cell_of (o := 1) (hx.heap HB0.out) : wo.cell? ⟨W.heap.size, 1, none⟩ = some (.slice fa fs.length fc))
        have d0 : wo.cell? ⟨w1.heap.size, 0, none⟩ = some (.slice oa1 M.length c1) := cell_of hb1
        have HX1 := Lib.hid hx
        have HB := Lib.hid hb1
        have HO1 := Lib.hid ho1
        have hlo := hx.le
        clear hx hb1 ho1
        by_cases hlt : k < fs.length
        · obtain ⟨⟨nk, y⟩, hyk⟩ : ∃ x, fs[k]? = some x := ⟨_, List.getElem?_eq_getElem hlt⟩
          obtain ⟨x, hxk⟩ : ∃ x, vs[k]? = some x := ⟨_, List.getElem?_eq_getElem (by rw [HLEN.out]; exact hlt)⟩
          obtain ⟨b, o, hoa, _, _⟩ := Rows.at HS.out (by omega)
          subst hoa
          obtain ⟨f0, f1, hns, hx1, hx2⟩ := flds_at (Hd.Flds.ext HS.out (HXC.out.trans HX1.out)) k nk y hyk rfl
          have hklt : k < vs.length := by rw [HLEN.out]; exact hlt
          cases ua with
          | none => have := HUA.out rfl; omega
          | some ud =>
          obtain ⟨ue, _, cu⟩ := HU.out.at (by omega)
          obtain ⟨ub, uo, usp⟩ := ud
          simp only [Addr.mk.injEq, true_and] at ue
          subst ue
          dsimp only at cu
          have d2 := (HXC.out.trans HX1.out).cell (cu k _ (u32s_get hxk))
          have d3 := f1 wo
          have hx0 := HVS.out x (List.mem_of_getElem? hxk)
          have HXK := Lib.hid hxk
          have HYK := Lib.hid hyk
          have D0 := Lib.hid d0
          have D1 := Lib.hid c1'
          have D2 := Lib.hid d2
          have D3 := Lib.hid d3
          have n0 := World.new_ne wo _ d0
          have n1 := World.new_ne wo _ c1'
          have n2 := World.new_ne wo _ d2
          have n3 := World.new_ne wo _ d3
          clear hxk hyk cu f0 f1
          go_wp2_with fail
          go_cut [11, 12] (fun s t wx => ∃ (B2 : Nat) (oa5 : Option Addr) (c5 : Nat), s = .pointer (some ⟨B2, 0, none⟩) ∧ t = .int .i64 (Io.wrE x y) ∧ Ext wo wx ∧ wo.heap.size ≤ B2
            ∧ wx.heap[B2]? = some (.cells #[.slice oa5 (Io.wrL M x y).length c5] 67 (0, 0)) ∧ wx.ownsRow base 4 1 (.slice oa5 (Io.wrL M x y).length c5) (Io.wrL M x y).length (bls (Io.wrL M x y)))
          case first =>
            go_region_held3 (fun w' => w'.cell? ⟨w1.heap.size, 0, none⟩ = some (.slice oa1 M.length c1) ∧ w'.cell? ⟨W.heap.size, 1, none⟩ = some (.slice (some ⟨b, o, none⟩) fs.length fc) ∧ w'.cell? ⟨ub, uo + k, none⟩ = some (.int .u32 x) ∧ w'.cell? ⟨b, o + k * 2 + 1, none⟩ = some (.int .i64 y)) (go_keep)
              (first | (go_at_call 60; refine (rWriteBits_any _ _ hx0.1 hx0.2 (own_ext HO1.out (by first | exact (Ext.refl _).drew | exact ((Ext.refl _).drew).alloc _)) (by simp; omega) (by omega)).mono ?_; rintro e w5 ⟨oa5, c5, rfl, hy, ho5⟩; have hz : Ext wo w5 := (by first | exact ((Ext.refl wo).drew).trans hy | exact (((Ext.refl wo).drew).alloc _).trans hy); have q0 := hz.cell D0.out; have q1 := hz.cell D1.out; have q2 := hz.cell D2.out; have q8 := hz.cell D3.out; have HO5 := Lib.hid ho5; clear ho5; try (have q3 : w5.heap[wo.heap.size]? = some (.cells #[.slice none 0 0] 67 (0, 0)) := hy.heap (alloc_heap wo.drew (.cells #[.slice none 0 0] 67)); have q4 : w5.cell? ⟨wo.heap.size, 0, none⟩ = some (.slice none 0 0) := cell_of q3; have q6 : w5.frozen? ⟨wo.heap.size, 0, none⟩ = false := free_of q3)))
            all_goals (try go_wp2_with fail)
            all_goals go_meet
            · exact ⟨w5.heap.size, oa5, c5, rfl, rfl, hz.alloc _, hz.le, alloc_heap _ _, own_ext HO5.out ((Ext.refl _).alloc _)⟩
            · obtain ⟨g1, g2⟩ := set1 (a' := .slice oa5 (Io.wrL M x y).length c5) q3
              exact ⟨wo.heap.size, oa5, c5, rfl, rfl, hz.mod g2 (fun q hq => by rw [hq]; exact Nat.le_refl _), Nat.le_refl _, g1, own_mod HO5.out g2 (own_not HO5.out q3 (by decide))⟩
          case rest =>
            obtain ⟨B2, oa5, c5, rfl, rfl, hx5, hB2, b5, o5⟩ := hcut
            have hll := Io.wrL_len M x y
            clear d0 c1' d2 d3 D0 D1 D2 D3 n0 n1 n2 n3
            by_cases he : Io.wrE x y = 0
            · obtain ⟨hn1, hn2⟩ := Hd.put_next HLEN.out HXK.out HYK.out L HM0.out he
              rw [← HME.out] at hn2
              obtain ⟨M2, hM2⟩ : ∃ M2, M2 = Io.wrL M x y := ⟨_, rfl⟩
              rw [← hM2] at hn2 b5 o5 hll
              have HN1 := Lib.hid hn1
              have HN2 := Lib.hid hn2
              have hb6 := hx5.heap HB.out
              have k0 : wc.cell? ⟨B2, 0, none⟩ = some (.slice oa5 M2.length c5) := cell_of b5
              have k2 : wc.frozen? ⟨w1.heap.size, 0, none⟩ = false := free_of hb6
              have k4 : wc.cell? ⟨w1.heap.size, 0, none⟩ = some (.slice oa1 M.length c1) := cell_of hb6
              obtain ⟨g1, g2⟩ := set1 (a' := .slice oa5 M2.length c5) hb6
              have HXM := Lib.hid ((HX1.out.trans hx5).mod g2 (fun q hq => by rw [hq]; omega))
              have HOM := Lib.hid (own_mod o5 g2 (own_not o5 hb6 (by decide)))
              have HG1 := Lib.hid g1
              clear hx5 b5 o5 hb6 g1 g2 hn1 hn2 hM2
              rw [he]
              clear he
              go_wp2
              go_roundw
              case rel => exact ⟨k + 1, oa5, c5, M2, by omega, by go_num, HXM.out, Lib.hid HN2.out.symm, HN1, HG1.out, HOM.out, by omega⟩
              case measure => simp [intOf]; omega
            · have he2 : (Io.wrE x y != 0) = true := by simpa using he
              have hf := Hd.put_fail HLEN.out HXK.out HYK.out L HM0.out he
              rw [← E1.out] at hf
              have hwl : Hd.wL (nm, fs) vs L = L := by unfold Hd.wL; rw [hf, if_neg he]
              have HF := Lib.hid hf
              have HWL := Lib.hid hwl
              have hxz := HX1.out.trans hx5
              have hb1 := hxz.heap HB1.out
              have hb2 := hxz.heap HB2.out
              have K2 := Lib.hid hb2
              have XZ := Lib.hid (HXC.out.trans hxz)
              have k0 : wc.cell? ⟨W.heap.size + 1, 0, none⟩ = some (.slice xa L.length xc) := cell_of hb1
              have k1 : wc.cell? ⟨W.heap.size + 1 + 1, 0, none⟩ = some (.slice none 0 0) := cell_of hb2
              have k2 : wc.frozen? ⟨W.heap.size + 1 + 1, 0, none⟩ = false := free_of hb2
              clear hf hwl hxz hb1 hb2 he hx5 b5 o5
              go_wp2_with fail
              obtain ⟨g1, g2⟩ := set1 (a' := .slice xa L.length xc) K2.out
              have z0 := cell_of (o := 0) g1
              exact bodyPost_ret (v := .tuple #[.agg #[.slice xa L.length xc], .int .i64 (Io.wrE x y)]) (by simp [results, Try.results36, go_sem, z0]) rfl
                ⟨xa, xc, by rw [HWL.out, HF.out], XZ.out.mod g2 (fun q hq => by rw [hq]; omega), by rw [HWL.out]; exact own_mod (own_ext HO.out XZ.out) g2 (own_not (own_ext HO.out XZ.out) K2.out (by decide))⟩
        · obtain rfl : k = fs.length := by omega
          have ht1 : vs.take fs.length = vs := List.take_of_length_le (by rw [HLEN.out]; exact Nat.le_refl _)
          have hz := HM0.out
          have hme := HME.out
          rw [ht1, List.take_length] at hz hme
          rw [Hd.putAll_err _ _ L []] at hz
          have hwl : Hd.wL (nm, fs) vs L = M := by unfold Hd.wL; rw [E1.out, hz, if_pos rfl, hme]
          have HWL := Lib.hid hwl
          have HZ := Lib.hid hz
          have hb2 := HX1.out.heap HB2.out
          have K2 := Lib.hid hb2
          have k1 : wo.cell? ⟨W.heap.size + 1 + 1, 0, none⟩ = some (.slice none 0 0) := cell_of hb2
          have k2 : wo.frozen? ⟨W.heap.size + 1 + 1, 0, none⟩ = false := free_of hb2
          have hvl3 : vs.length ≤ fs.length := by rw [HLEN.out]; exact Nat.le_refl _
          clear ht1 hz hme hwl hb2
          go_wp2_with fail
          obtain ⟨g1, g2⟩ := set1 (a' := .slice oa1 M.length c1) K2.out
          have z0 := cell_of (o := 0) g1
          exact bodyPost_ret (v := .tuple #[.agg #[.slice oa1 M.length c1], .int .i64 0]) (by simp [results, Try.results36, go_sem, z0]) rfl
            ⟨oa1, c1, by rw [HWL.out, E1.out, HZ.out], (HXC.out.trans HX1.out).mod g2 (fun q hq => by rw [hq]; omega), by rw [HWL.out]; exact own_mod HO1.out g2 (own_not HO1.out K2.out (by decide))⟩
    · have hne : ((vs.length : Int) != fs.length) = true := by simp; omega
      have e1 : Hd.wE (nm, fs) vs = 2 := by unfold Hd.wE; rw [if_pos HC.out, if_neg hlen]
      have hwl : Hd.wL (nm, fs) vs L = L := by unfold Hd.wL; rw [e1]; rfl
      have E1 := Lib.hid e1
      have HWL := Lib.hid hwl
      clear e1 hwl hlen
      go_enter Try.func36, Try.ntmps36
      go_upto_region 1 with (fail)
      rw [HWE.out]
      go_wp2_with fail
      refine (rhcheck_any (nm, fs) (Hd.Flds.ext HS.out HXC.out) hn).mono ?_
      rintro e w1 ⟨rfl, y1⟩
      rw [HC.out]
      have s1 : Step Wc w1 := ⟨y1⟩
      have hb2 := y1.heap HB2.out
      have K2 := Lib.hid hb2
      have XZ := Lib.hid (HXC.out.trans y1)
      have k1 : w1.cell? ⟨W.heap.size + 1 + 1, 0, none⟩ = some (.slice none 0 0) := cell_of hb2
      have k2' : w1.frozen? ⟨W.heap.size + 1 + 1, 0, none⟩ = false := free_of hb2
      clear hb2 y1
      go_wp2_with fail
      obtain ⟨g1, g2⟩ := set1 (a' := .slice xa L.length xc) K2.out
      have z0 := cell_of (o := 0) g1
      exact bodyPost_ret (v := .tuple #[.agg #[.slice xa L.length xc], .int .i64 2]) (by simp [results, Try.results36, go_sem, z0]) rfl
        ⟨xa, xc, by rw [HWL.out, E1.out], XZ.out.mod g2 (fun q hq => by rw [hq]; omega), by rw [HWL.out]; exact own_mod (own_ext HO.out XZ.out) g2 (own_not (own_ext HO.out XZ.out) K2.out (by decide))⟩
  · have e1 : Hd.wE (nm, fs) vs = Hd.chk (nm, fs) := by unfold Hd.wE; rw [if_neg hc]
    have hwl : Hd.wL (nm, fs) vs L = L := by unfold Hd.wL; rw [e1, if_neg hc]
    have hcb : (Hd.chk (nm, fs) != 0) = true := by simpa using hc
    have E1 := Lib.hid e1
    have HWL := Lib.hid hwl
    clear e1 hwl hc
    go_enter Try.func36, Try.ntmps36
    go_upto_region 1 with (fail)
    rw [HWE.out]
    go_wp2_with fail
    refine (rhcheck_any (nm, fs) (Hd.Flds.ext HS.out HXC.out) hn).mono ?_
    rintro e w1 ⟨rfl, y1⟩
    have s1 : Step Wc w1 := ⟨y1⟩
    have hb2 := y1.heap HB2.out
    have K2 := Lib.hid hb2
    have XZ := Lib.hid (HXC.out.trans y1)
    have k1 : w1.cell? ⟨W.heap.size + 1 + 1, 0, none⟩ = some (.slice none 0 0) := cell_of hb2
    have k2' : w1.frozen? ⟨W.heap.size + 1 + 1, 0, none⟩ = false := free_of hb2
    clear hb2 y1
    go_wp2_with fail
    obtain ⟨g1, g2⟩ := set1 (a' := .slice xa L.length xc) K2.out
    have z0 := cell_of (o := 0) g1
    exact bodyPost_ret (v := .tuple #[.agg #[.slice xa L.length xc], .int .i64 (Hd.chk (nm, fs))]) (by simp [results, Try.results36, go_sem, z0]) rfl
      ⟨xa, xc, by rw [HWL.out, E1.out], XZ.out.mod g2 (fun q hq => by rw [hq]; omega), by rw [HWL.out]; exact own_mod (own_ext HO.out XZ.out) g2 (own_not (own_ext HO.out XZ.out) K2.out (by decide))⟩
end Go.Proofs.Ytonnlcjkgpahoaa
