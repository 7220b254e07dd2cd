/- Headers: the law of writes, walked. No condition. -/
import Derived.Test.YtdgepbolfflidaaHdL
namespace Go.Proofs.Ytdgepbolfflidaa
open Go.RowKit

namespace Hd
theorem putAll_bits : ∀ (vs ns L : List Int), Io.Bits L → Io.Bits (Io.putAll vs ns L).2
  | [], _, L, h => by simpa [Io.putAll] using h
  | _ :: _, [], L, h => by simpa [Io.putAll] using h
  | v :: vs, n :: ns, L, h => by
    unfold Io.putAll
    split
    · exact putAll_bits vs ns _ (Io.wrL_bits h v n)
    · intro b hb; cases hb
theorem wL_bits (h : Hdr) (vs L : List Int) (hb : Io.Bits L) : Io.Bits (wL h vs L) := by
  unfold wL; split
  · exact putAll_bits _ _ _ hb
  · exact hb
theorem wL_len (h : Hdr) (vs L : List Int) : (wL h vs L).length ≤ L.length + 384 := by
  unfold wL
  by_cases he : wE h vs = 0
  · rw [if_pos he]
    unfold wE at he
    by_cases hc : chk h = 0
    · rw [if_pos hc] at he
      by_cases hl : vs.length = h.2.length
      · rw [if_pos hl] at he
        obtain ⟨_, _, h3, h4, _⟩ := chk_ok hc
        have h5 := putAll_len vs (wds h.2) L (by rw [wds_len]; exact hl) h4 (by rw [putAll_err _ _ L []]; exact he)
        have h6 := tot_bd h4
        rw [wds_len] at h6
        omega
      · rw [if_neg hl] at he; simp at he
    · rw [if_neg hc] at he; exact absurd he hc
  · rw [if_neg he]; omega
end Hd
theorem byte_ok {x : Int} (h0 : 0 ≤ x) (h1 : x ≤ 255) : Io.wrE x 8 = 0 := by
  unfold Io.wrE
  rw [if_pos (Bv.ok_of (by decide) (by decide)), if_pos]
  unfold Bv.fits
  have h2 : Bv.pw 8 = 256 := by decide +kernel
  simp [Bv.ok_of (show (1 : Int) ≤ 8 by decide) (show (8 : Int) ≤ 32 by decide)]
  rw [h2]; omega

set_option maxRecDepth 8000 in
set_option maxHeartbeats 1000000 in
theorem headerWrites_walk (v0 : Value) (a1 : Option Addr) (n1 c1 : Nat) (z1 : List Int) (bf : Int) (W : World) {b0 : Nat} {r0 : Reach} {H : Type} {enc : TypeId × Value → H} {d0 : DataW H} {p0 : List MemPlace}
    (ok0 : Value.okWide Try.prog W r0 b0 24 v0) (h0 : DataW.Trod enc Try.prog W 0 (fun _ => true) true 24 v0 d0 p0)
    (r1 : IsRow .u32 W a1 n1 c1 z1) (wbf : (Lit.int .u8 bf).wf = true) :
    Calls Try.prog 13 #[v0, .slice a1 n1 c1, .int .u8 bf] W (Rets W (.bool true)) := by
  obtain ⟨⟨nm, fs⟩, u, rfl, hnm, hfl⟩ := hdr_take ok0 h0
  obtain ⟨vs, rfl, hl, sl, bl⟩ := row_take r1
  have hvb : ∀ x ∈ vs, 0 ≤ x ∧ x < 4294967296 := fun x hx => by have := bounds_u32 (bl x hx); omega
  have hbf := wf_u8 wbf
  have hbe := byte_ok hbf.1 hbf.2
  clear ok0 h0 r1 bl wbf
  dsimp only at hnm hfl ⊢
  obtain ⟨fa, fc, rfl, hlc, hcm⟩ := hfl.slice
  unfold maxLen at hcm hl
  have HF := Lib.hid hfl
  have SL := Lib.hid sl
  have HVB := Lib.hid hvb
  have HBE := Lib.hid hbe
  have hb32 : bf < 4294967296 := by omega
  clear hfl sl hvb hbe
  have hbb := alloc_heap W (.cells #[.string nm, .slice fa fs.length fc] 24)
  have c0 := alw (cell_of (o := 0) hbb)
  have c1' := alw (cell_of (o := 1) hbb)
  clear hbb
  obtain ⟨sm, hsm⟩ : ∃ sm, sm = Hd.small (nm, fs) := ⟨_, rfl⟩
  have HSM := Lib.hid hsm
  clear hsm
  cases sm
  · go_enter Try.func13, Try.ntmps13
    go_wp2_with fail
    refine (rsmall_any (nm, fs) (Hd.Flds.ext HF.out grows) hnm).mono ?_
    rintro e w1 ⟨rfl, x1⟩
    rw [← HSM.out]
    have s1 : Step (W.alloc (.cells #[.string nm, .slice fa fs.length fc] 24)) w1 := ⟨x1⟩
    go_wp2_with (go_at_call 15; refine (hworks_any _).mono ?_; rintro e w2 ⟨rfl, x2⟩; have s2 : Step w1 w2 := ⟨x2⟩)
    go_ret
    exact ⟨rfl, grows⟩
  · by_cases h30 : vs.length ≤ 30
    · go_enter Try.func13, Try.ntmps13
      go_wp2_with fail
      refine (rsmall_any (nm, fs) (Hd.Flds.ext HF.out grows) hnm).mono ?_
      rintro e w1 ⟨rfl, x1⟩
      rw [← HSM.out]
      have s1 : Step (W.alloc (.cells #[.string nm, .slice fa fs.length fc] 24)) w1 := ⟨x1⟩
      go_wp2_with fail
      refine (newWriter_any _).mono ?_
      rintro e w2 ⟨p, rfl, x2, hw⟩
      have s2 : Step w1 w2 := ⟨x2⟩
      go_wp2_with fail
      refine (rNewWriter_any _).mono ?_
      rintro e w3 ⟨rfl, x3⟩
      have s3 : Step w2 w3 := ⟨x3⟩
      have hle1 : (W.alloc (.cells #[.string nm, .slice fa fs.length fc] 24)).heap.size ≤ w1.heap.size := x1.le
      have hpl : w1.heap.size ≤ p := hw.raw.le
      have hp3 : p < w3.heap.size := lt_of_block (x3.heap hw.raw.blk)
      have hB0 := alloc_heap w3 (.cells #[.slice none 0 0] 106)
      have HB0 := Lib.hid hB0
      have HW0 := Lib.hid (hw.ext (x3.alloc (.cells #[.slice none 0 0] 106)))
      have HX0 := Lib.hid (grows (a := w1) (b := w3.alloc (.cells #[.slice none 0 0] 106)))
      clear hw x1 x2 x3 s2 s3 hB0
      go_wp2_with fail
      refine (writeBits_any HW0.out _ _ hbf.1 (by simp)).mono ?_
      rintro e w4 ⟨rfl, oa4, n4, c4, m4, k4, i4⟩
      rw [HBE.out]
      have hWS4 : ∀ q, WS p none 0 0 q → q = p := fun q hq => by
        rcases hq with h | h
        · exact h
        · simp [Value.ownBlock] at h
      have b4 := m4.heap HB0.out (fun e1 => by have := hWS4 _ e1; omega)
      have x4 := HX0.out.mod m4 (fun q hq => by rw [hWS4 q hq]; exact hpl)
      have s4 : Step w1 w4 := ⟨x4⟩
      have B4 := Lib.hid b4
      have K4 := Lib.hid k4
      have X4 := Lib.hid x4
      have d0 := alw (cell_of (o := 0) b4)
      have f0 : w4.frozen? ⟨w3.heap.size, 0, none⟩ = false := free_of b4
      clear m4 k4 i4 b4 x4 hWS4
      go_wp2_with fail
      refine (rWriteBits_any (base := w4.heap.size) (L := []) _ _ hbf.1 hb32 (World.ownsRow_nil _ _ _ _) (Nat.le_refl _) (by simp)).mono ?_
      rintro e w5 ⟨oa5, c5, rfl, x5, o5⟩
      obtain ⟨L, hL⟩ : ∃ L, L = Io.wrL [] bf 8 := ⟨_, rfl⟩
      rw [← hL] at K4 o5 ⊢
      have hLl : L.length ≤ 32 := by rw [hL]; have := Io.wrL_len [] bf 8; simpa using this
      have hLb : Io.Bits L := K4.out.bits
      have b5 := x5.heap B4.out
      have k0 : w5.cell? ⟨w3.heap.size, 0, none⟩ = some (.slice none 0 0) := cell_of b5
      have f5 : w5.frozen? ⟨w3.heap.size, 0, none⟩ = false := free_of b5
      obtain ⟨g1, g2⟩ := set1 (a' := .slice oa5 L.length c5) b5
      obtain ⟨wm, hwm⟩ : ∃ wm, wm = w5.setCell ⟨w3.heap.size, 0, none⟩ (.slice oa5 L.length c5) := ⟨_, rfl⟩
      rw [← hwm] at g1 g2
      have hxm := (X4.out.trans x5).mod g2 (fun q hq => by rw [hq]; omega)
      have k5 := K4.out.ext x5
      have hwm' := k5.mod g2 (fun e1 => k5.not b5 (by decide) (by decide) (.inl e1.symm)) (fun q hq e1 => k5.not b5 (by decide) (by decide) (.inr (by rw [← e1, hq])))
      have hom := own_mod o5 g2 (own_not o5 b5 (by decide))
      have HXM := Lib.hid hxm
      have HWM := Lib.hid hwm'
      have HOM := Lib.hid hom
      have HGM := Lib.hid g1
      have HWMM := Lib.hid hwm
      have HLB := Lib.hid hLb
      have hszm : w4.heap.size ≤ wm.heap.size := by have := x5.le; have := g2.size; omega
      have sm : Step w1 wm := ⟨hxm⟩
      clear x5 o5 b5 g1 g2 hwm hxm k5 hwm' hom hL hLb K4 d0 f0
      go_upto_region 7 with (fail)
      rw [← HWMM.out]
      clear k0 f5
      go_wp2_with fail
      refine (hwrite_any HWM.out (nm, fs) (vs := vs) (fun w' hm => by
        have hx : Ext W w' := (grows (a := W) (b := w1)).trans (HXM.out.mod hm HWM.out.foot)
        exact ⟨Hd.Flds.ext HF.out hx, SL.out.ext hx⟩) hnm (by omega) (fun x hx => (HVB.out x hx).1) (by omega)).mono ?_
      rintro e w6 ⟨rfl, oa6, n6, c6, m6, k6, i6⟩
      have b6 := m6.heap HGM.out (HWM.out.not HGM.out (by decide) (by decide))
      have o6 := own_mod HOM.out m6 (fun q hq e1 => by
        obtain ⟨cur, hc⟩ := own_type HOM.out hq
        exact HWM.out.not hc (by decide) (by decide) e1)
      have x6 := HXM.out.mod m6 HWM.out.foot
      have s6 : Step w1 w6 := ⟨x6⟩
      have d0 := alw (cell_of (o := 0) b6)
      have hsz6 := m6.size
      have O6 := Lib.hid o6
      have K6 := Lib.hid k6
      clear m6 k6 i6 b6 o6 x6
      go_wp2_with fail
      refine (rhwrite_any (nm, fs) (vs := vs) (Hd.Flds.ext HF.out (grows (a := W) (b := w6))) (SL.out.ext (grows (a := W) (b := w6))) hnm O6.out (by omega) (by omega) HVB.out (by omega)).mono ?_
      rintro e w7 ⟨oa7, c7, rfl, x7, o7⟩
      have s7 : Step w6 w7 := ⟨x7⟩
      have hwl := Hd.wL_len (nm, fs) vs L
      have hwb := Hd.wL_bits (nm, fs) vs L HLB.out
      obtain ⟨M, hM⟩ : ∃ M, M = Hd.wL (nm, fs) vs L := ⟨_, rfl⟩
      rw [← hM] at K6 o7 hwl hwb ⊢
      have bz := alloc_heap w7 (.cells #[.slice oa7 M.length c7] 106)
      have z0 := alw (cell_of (o := 0) bz)
      have HWB := Lib.hid hwb
      have O7 := Lib.hid o7
      clear o7 bz hM hwb
      go_wp2_with fail
      refine (bytes_any (K6.out.ext (grows (a := w6))) (by omega)).mono ?_
      rintro e w8 ⟨u8', rfl, x8, o8⟩
      obtain ⟨o8a, c8, rfl⟩ := own_slice o8
      have s8 : Step (w7.alloc (.cells #[.slice oa7 M.length c7] 106)) w8 := ⟨x8⟩
      have P8 := Lib.hid (own_src o8 (u8s_one _))
      clear o8
      go_wp2_with fail
      refine (rBytes_any (own_ext O7.out (grows (a := w7))) HWB.out (by omega)).mono ?_
      rintro e w9 ⟨u9, rfl, x9, o9⟩
      obtain ⟨o9a, c9, rfl⟩ := own_slice o9
      have s9 : Step w8 w9 := ⟨x9⟩
      have P9 := Lib.hid (own_src o9 (u8s_one _))
      clear o9
      have t8 : ∀ x : Later w9, _ := fun x => src_str (P8.out.now (w := x.val))
      have t9 : ∀ x : Later w9, _ := fun x => src_str (P9.out.now (w := x.val))
      go_wp2_with fail
      refine wp_region_later (W := w9) (by kernel_rfl) (by kernel_rfl) (Ext.refl _) ?_
      repeat (go_big_quiet_step (first
        | (go_at_call 63; exact Rets.later_eq (wlen_at (K6.out.ext (grows (a := w6)))))
        | (go_at_call 64; exact Rets.later_at rLen_any)
        | (go_at_call 15; exact Rets.later_at (hworks_any _))))
      refine wpQuiet_nil ?_
      intro wz hxz
      have sz : Step w9 wz := ⟨hxz⟩
      go_wp2_with fail
      go_ret
      exact ⟨rfl, grows⟩
    · have h31 : 30 < vs.length := by omega
      go_enter Try.func13, Try.ntmps13
      go_wp2_with fail
      refine (rsmall_any (nm, fs) (Hd.Flds.ext HF.out grows) hnm).mono ?_
      rintro e w1 ⟨rfl, x1⟩
      rw [← HSM.out]
      have s1 : Step (W.alloc (.cells #[.string nm, .slice fa fs.length fc] 24)) w1 := ⟨x1⟩
      go_wp2_with (go_at_call 15; refine (hworks_any _).mono ?_; rintro e w2 ⟨rfl, x2⟩; have s2 : Step w1 w2 := ⟨x2⟩)
      go_ret
      exact ⟨rfl, grows⟩
end Go.Proofs.Ytdgepbolfflidaa
