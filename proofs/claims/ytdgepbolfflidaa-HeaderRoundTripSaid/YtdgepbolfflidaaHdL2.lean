/- Headers: the law of reads, walked. No condition. -/
import Derived.Test.YtdgepbolfflidaaHdL
namespace Go.Proofs.Ytdgepbolfflidaa
open Go.RowKit

namespace Hd
theorem rV_len (h : Hdr) (l : List Int) (pos : Nat) : (rV h l pos).length ≤ 12 := by
  unfold rV rE
  by_cases hc : chk h = 0
  · obtain ⟨_, _, h3, _, _⟩ := chk_ok hc
    rw [if_pos hc]
    by_cases h1 : 8 * (l.length : Int) - pos < tot (wds h.2)
    · rw [if_pos h1]; simp
    · rw [if_neg h1, if_pos rfl, vals_len, wds_len]; exact h3
  · rw [if_neg hc, if_neg hc]; simp
theorem rP_le (h : Hdr) (l : List Int) (pos : Nat) (hp : pos ≤ 8 * l.length) : rP h l pos ≤ 8 * l.length := by
  unfold rP rE
  by_cases hc : chk h = 0
  · rw [if_pos hc]
    by_cases h1 : 8 * (l.length : Int) - pos < tot (wds h.2)
    · rw [if_pos h1]; simpa using hp
    · rw [if_neg h1, if_pos rfl]; omega
  · rw [if_neg hc, if_neg hc]; exact hp
end Hd

set_option maxRecDepth 8000 in
set_option maxHeartbeats 1000000 in
theorem headerReads_walk (v0 : Value) (a1 : Option Addr) (n1 c1 : Nat) (z1 : List Int) (sk : Int) (W : World) {b0 : Nat} {r0 : Reach} {H : Type} {enc : TypeId × Value → H} {d0 : DataW H} {p0 : List MemPlace}
    (ok0 : Value.okWide Try.prog W r0 b0 24 v0) (h0 : DataW.Trod enc Try.prog W 0 (fun _ => true) true 24 v0 d0 p0)
    (r1 : IsRow .u8 W a1 n1 c1 z1) (wsk : (Lit.int .u8 sk).wf = true) :
    Calls Try.prog 4 #[v0, .slice a1 n1 c1, .int .u8 sk] W (Rets W (.bool true)) := by
  obtain ⟨⟨nm, fs⟩, u, rfl, hnm, hfl⟩ := hdr_take ok0 h0
  obtain ⟨l, rfl, hl, sl, bl⟩ := row_take r1
  have hby : Io.Bytes l := wf_any bl
  have hsk := wf_u8 wsk
  clear ok0 h0 r1 bl wsk
  dsimp only at hnm hfl ⊢
  obtain ⟨fa, fc, rfl, hlc, hcm⟩ := hfl.slice
  unfold maxLen at hcm hl
  have HF := Lib.hid hfl
  have SL := Lib.hid sl
  have HBY := Lib.hid hby
  clear hfl sl hby
  obtain ⟨m, hm⟩ : ∃ m : Nat, (m : Int) = sk % 9 := ⟨(sk % 9).toNat, by omega⟩
  have hmod : sk.tmod 9 = (m : Int) := by rw [Int.tmod_eq_emod_of_nonneg hsk.1, hm]
  have hmod2 : sk % 9 = (m : Int) := hm.symm
  have hm8 : m ≤ 8 := by omega
  clear hm
  have hbb := alloc_heap W (.cells #[.string nm, .slice fa fs.length fc] 24)
  have c0 := alw (cell_of (o := 0) hbb)
  have c1' := alw (cell_of (o := 1) hbb)
  clear hbb
  obtain ⟨sm, hsm⟩ : ∃ sm, sm = Hd.small (nm, fs) := ⟨_, rfl⟩
  have HSM := Lib.hid hsm
  clear hsm
  cases sm
  · go_enter Try.func4, Try.ntmps4
    go_wp2_with fail
    refine (rsmall_any (nm, fs) (Hd.Flds.ext HF.out grows) hnm).mono ?_
    rintro e w1 ⟨rfl, x1⟩
    rw [← HSM.out]
    have s1 : Step (W.alloc (.cells #[.string nm, .slice fa fs.length fc] 24)) w1 := ⟨x1⟩
    go_wp2_with (go_at_call 15; refine (hworks_any _).mono ?_; rintro e w2 ⟨rfl, x2⟩; have s2 : Step w1 w2 := ⟨x2⟩)
    go_ret
    exact ⟨rfl, grows⟩
  · by_cases h100 : l.length ≤ 100
    · go_enter Try.func4, Try.ntmps4
      go_wp2_with fail
      refine (rsmall_any (nm, fs) (Hd.Flds.ext HF.out grows) hnm).mono ?_
      rintro e w1 ⟨rfl, x1⟩
      rw [← HSM.out]
      have s1 : Step (W.alloc (.cells #[.string nm, .slice fa fs.length fc] 24)) w1 := ⟨x1⟩
      go_wp2_with fail
      refine (newReader_any _ l _ (SL.out.ext grows) HBY.out (by omega)).mono ?_
      rintro e w2 ⟨p, ra, rn, rc, rfl, x2, hr⟩
      have s2 : Step w1 w2 := ⟨x2⟩
      go_wp2_with fail
      refine (rNewReader_any _ l _ (SL.out.ext grows) (by omega)).mono ?_
      rintro e w3 ⟨xa, xc, rfl, x3, ho⟩
      have s3 : Step w2 w3 := ⟨x3⟩
      have hle1 : (W.alloc (.cells #[.string nm, .slice fa fs.length fc] 24)).heap.size ≤ w1.heap.size := x1.le
      have hle3 : w1.heap.size ≤ w3.heap.size := grows_le
      have hpl : w1.heap.size ≤ p := hr.le
      have HB0 := Lib.hid (alloc_heap w3 (.cells #[.slice xa l.length xc, .int .i64 0] 37))
      have HR0 := Lib.hid (hr.ext (x3.alloc (.cells #[.slice xa l.length xc, .int .i64 0] 37)))
      have HO0 := Lib.hid (own_ext ho ((Ext.refl w3).alloc (.cells #[.slice xa l.length xc, .int .i64 0] 37)))
      have HX0 := Lib.hid (grows (a := w1) (b := w3.alloc (.cells #[.slice xa l.length xc, .int .i64 0] 37)))
      have hp3 : p < w3.heap.size := lt_of_block (hr.ext x3).blk
      clear hr ho x1 x2 x3 s2 s3
      go_wp2_with fail
      go_loopw [9] (fun i wr => ∃ (k q : Nat), k ≤ m ∧ i = .int .i64 k ∧ Ext w1 wr ∧ RdrAt wr w1.heap.size p ra rn rc l q ∧ wr.ownsRow w2.heap.size 5 1 (.slice xa l.length xc) l.length (u8s l)
        ∧ wr.heap[w3.heap.size]? = some (.cells #[.slice xa l.length xc, .int .i64 q] 37 (0, 0))) (fun i _ => m - (intOf i).toNat)
      case atStart => exact ⟨0, 0, Nat.zero_le _, rfl, HX0.out, HR0.out, HO0.out, HB0.out⟩
      case round =>
        obtain ⟨k, q, hk, rfl, hx, hr, ho, hb⟩ := hrel
        obtain ⟨wo, rfl⟩ : ∃ wo : World, wo = wr := ⟨_, rfl⟩
        clear HX0 HR0 HO0 HB0
        have hql := hr.pos_le
        have HX := Lib.hid hx
        have HR := Lib.hid hr
        have HO := Lib.hid ho
        have HB := Lib.hid hb
        have hlo := hx.le
        have hnB : w3.heap.size ≠ p := by omega
        clear hx hr ho hb
        by_cases hlt : k < m
        · go_wp2_with fail
          refine (readBits_any HR.out _).mono ?_
          rintro e w4 ⟨rfl, m4, r4⟩
          have b4 := m4.heap HB.out hnB
          have o4 := own_mod HO.out m4 (fun g hg e1 => by
            obtain ⟨cur, hc⟩ := own_type HO.out hg
            exact ne_of_type hc HR.out.blk (by decide) e1)
          have x4 := HX.out.mod m4 (fun g hg => by rw [hg]; exact hpl)
          have d0 : w4.cell? ⟨w3.heap.size, 0, none⟩ = some (.slice xa l.length xc) := cell_of b4
          have d1 : w4.cell? ⟨w3.heap.size, 1, none⟩ = some (.int .i64 q) := cell_of b4
          have B4 := Lib.hid b4
          have O4 := Lib.hid o4
          have X4 := Lib.hid x4
          have R4 := Lib.hid r4
          clear m4 r4 b4 o4 x4
          go_wp2_with fail
          refine (rReadBits_any _ (own_src O4.out (u8s_one _)) HBY.out (by omega) hql).mono ?_
          rintro e w5 ⟨rfl, x5⟩
          obtain ⟨q2, hq2⟩ : ∃ q2, q2 = Io.rdP l q 1 := ⟨_, rfl⟩
          rw [← hq2] at R4 ⊢
          have b5 := x5.heap B4.out
          have e0 := x5.cell d0
          have e1 := x5.cell d1
          have e2 : w5.frozen? ⟨w3.heap.size, 0, none⟩ = false := free_of b5
          have e3 : w5.frozen? ⟨w3.heap.size, 1, none⟩ = false := free_of b5
          have hne5 : w3.heap.size < w5.heap.size := lt_of_block b5
          obtain ⟨g1, g2⟩ := set2 (a' := .slice xa l.length xc) (b' := .int .i64 (q2 : Int)) b5
          have G1 := Lib.hid (((Ext.refl _).alloc (.cells #[.slice xa l.length xc, .int .i64 (q2 : Int)] 37)).heap g1)
          have R5 := Lib.hid (((R4.out.ext x5).mod g2 (Ne.symm hnB) (own_not (R4.out.ext x5).row b5 (by decide))).ext ((Ext.refl _).alloc (.cells #[.slice xa l.length xc, .int .i64 (q2 : Int)] 37)))
          have O5 := Lib.hid (own_ext (own_mod (own_ext O4.out x5) g2 (own_not (own_ext O4.out x5) b5 (by decide))) ((Ext.refl _).alloc (.cells #[.slice xa l.length xc, .int .i64 (q2 : Int)] 37)))
          have XX5 := Lib.hid (((X4.out.trans x5).mod g2 (fun g hg => by rw [hg]; omega)).alloc (.cells #[.slice xa l.length xc, .int .i64 (q2 : Int)] 37))
          clear d0 d1 b5 g1 g2 x5 hq2
          go_wp2_with fail
          go_roundw
          case rel => exact ⟨k + 1, q2, by omega, by go_num, XX5.out, R5.out, O5.out, G1.out⟩
          case measure => simp [intOf]; omega
        · obtain rfl : k = m := by omega
          have sx : Step w1 wo := ⟨HX.out⟩
          have hrl := Hd.rV_len (nm, fs) l q
          have hpp := Hd.rP_le (nm, fs) l q hql
          go_wp2_with fail
          refine (hread_any HR.out (nm, fs) (fun w' hm => Hd.Flds.ext HF.out ((grows (a := W) (b := w1)).trans (HX.out.mod hm (fun g hg => by rw [hg]; exact hpl)))) hnm (by omega)).mono ?_
          rintro e w4 ⟨u4, rfl, m4, r4, o4⟩
          have b4 := m4.heap HB.out hnB
          have oo4 := own_mod HO.out m4 (fun g hg e1 => by
            obtain ⟨cur, hc⟩ := own_type HO.out hg
            exact ne_of_type hc HR.out.blk (by decide) e1)
          have x4 := HX.out.mod m4 (fun g hg => by rw [hg]; exact hpl)
          have s4 : Step w1 w4 := ⟨x4⟩
          have d0 := alw (cell_of (o := 0) b4)
          have d1 := alw (cell_of (o := 1) b4)
          obtain ⟨u4a, u4c, rfl⟩ := own_slice o4
          have S4 := Lib.hid (own_src o4 (u32s_one _))
          have O4 := Lib.hid oo4
          have R4 := Lib.hid r4
          clear m4 r4 b4 oo4 x4 o4
          go_wp2_with fail
          refine (rhread_any (nm, fs) (Hd.Flds.ext HF.out (grows (a := W) (b := w4))) hnm O4.out HBY.out (by omega) hql).mono ?_
          rintro e w5 ⟨u5, rfl, x5, o5⟩
          obtain ⟨u5a, u5c, rfl⟩ := own_slice o5
          have S5 := Lib.hid (own_src o5 (u32s_one _))
          have s5 : Step w4 w5 := ⟨x5⟩
          obtain ⟨rp, hrp⟩ : ∃ rp, rp = Hd.rP (nm, fs) l q := ⟨_, rfl⟩
          rw [← hrp] at R4 hpp ⊢
          have bz := alloc_heap w5 (.cells #[.slice xa l.length xc, .int .i64 (rp : Int)] 37)
          have z0 := alw (cell_of (o := 0) bz)
          have z1 := alw (cell_of (o := 1) bz)
          clear o5 bz hrp
          go_wp2_with fail
          refine wp_region_later (W := w5.alloc (.cells #[.slice xa l.length xc, .int .i64 (rp : Int)] 37)) (by kernel_rfl) (by kernel_rfl) (Ext.refl _) ?_
          repeat (go_big_quiet_step (first
            | (go_at_call 28; exact Rets.later_at (eqU_same (S4.out.ext (grows (a := w4))) (S5.out.ext (grows (a := w5))) (by omega)))
            | (go_at_call 29; exact Rets.later_at (remaining_at (R4.out.ext (grows (a := w4)))))
            | (go_at_call 30; exact Rets.later_at (rRemaining_any (by omega) hpp))))
          refine wpQuiet_nil ?_
          intro w6 hx6
          have s6 : Step (w5.alloc (.cells #[.slice xa l.length xc, .int .i64 (rp : Int)] 37)) w6 := ⟨hx6⟩
          have R6 := Lib.hid (R4.out.ext (grows (a := w4) (b := w6)))
          have O6 := Lib.hid (own_ext O4.out (grows (a := w4) (b := w6)))
          have hp4 : p < w5.heap.size := lt_of_block (R4.out.ext x5).blk
          have Y0 := Lib.hid (z0 w6)
          have Y1 := Lib.hid (z1 w6)
          have BZ := Lib.hid (hx6.heap (alloc_heap w5 (.cells #[.slice xa l.length xc, .int .i64 (rp : Int)] 37)))
          have X6 := Lib.hid (grows (a := w1) (b := w6))
          have hne6 : w5.heap.size ≠ p := by omega
          clear z0 z1 d0 d1 hx6 x5
          go_wp2_with fail
          refine (readBits_any R6.out _).mono ?_
          rintro e w7 ⟨rfl, m7, r7⟩
          have b7 := m7.heap BZ.out hne6
          have o7 := own_mod O6.out m7 (fun g hg e1 => by
            obtain ⟨cur, hc⟩ := own_type O6.out hg
            exact ne_of_type hc R6.out.blk (by decide) e1)
          have x7 := X6.out.mod m7 (fun g hg => by rw [hg]; exact hpl)
          have s7 : Step w1 w7 := ⟨x7⟩
          have d0 := alw (cell_of (o := 0) b7)
          have d1 := alw (cell_of (o := 1) b7)
          have O7 := Lib.hid o7
          clear m7 r7 b7 o7 x7
          go_wp2_with fail
          refine (rReadBits_any _ (own_src O7.out (u8s_one _)) HBY.out (by omega) hpp).mono ?_
          rintro e w8 ⟨rfl, x8⟩
          have s8 : Step w7 w8 := ⟨x8⟩
          clear d0 d1
          go_wp2_with (go_at_call 15; refine (hworks_any _).mono ?_; rintro e w9 ⟨rfl, x9⟩; have s9 := Step.mk x9)
          go_ret
          exact ⟨rfl, grows⟩
    · have h101 : 100 < l.length := by omega
      go_enter Try.func4, Try.ntmps4
      go_wp2_with fail
      refine (rsmall_any (nm, fs) (Hd.Flds.ext HF.out grows) hnm).mono ?_
      rintro e w1 ⟨rfl, x1⟩
      rw [← HSM.out]
      have s1 : Step (W.alloc (.cells #[.string nm, .slice fa fs.length fc] 24)) w1 := ⟨x1⟩
      go_wp2_with (go_at_call 15; refine (hworks_any _).mono ?_; rintro e w2 ⟨rfl, x2⟩; have s2 : Step w1 w2 := ⟨x2⟩)
      go_ret
      exact ⟨rfl, grows⟩
end Go.Proofs.Ytdgepbolfflidaa
