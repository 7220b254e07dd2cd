/- The laws of layer 2: the example of the chapter, walked. No condition. -/
import Derived.Test.YtpcoikgbpdedcaaIoL
namespace Go.Proofs.Ytpcoikgbpdedcaa
open Go.RowKit

set_option maxRecDepth 8000 in
set_option maxHeartbeats 400000 in
theorem works_any (W : World) : Calls Try.prog 41 #[] W (Rets W (.bool true)) := by
  go_enter Try.func41, Try.ntmps41
  go_wp2_with fail
  refine (pack_any _ _ [1, 5] [4, 4] _ ?a1 ?a2 ?a3 ?a4).mono ?_
  case a1 => exact (src_new W _ rfl _ _ _ _ _ rfl (u32s_one [1, 5])).ext ((Ext.refl _).alloc _)
  case a2 => exact src_new _ _ (by simp) _ _ _ _ _ rfl (i64s_one [4, 4])
  case a3 => intro x hx; simp at hx; omega
  case a4 => decide
  rintro e w1 ⟨v1, rfl, x1, o1⟩
  rw [wk_packE]
  rw [wk_packB] at o1
  obtain ⟨oa1, c1, hv⟩ := own_slice o1
  change v1 = .slice oa1 1 c1 at hv
  subst hv
  have X1 := Lib.hid (((Ext.refl W).alloc _).alloc _ |>.trans x1)
  have O1 := Lib.hid o1
  clear x1 o1
  go_wp2_with fail
  refine (newReader_any _ [18, 52] _ (src_new _ _ rfl _ _ _ _ _ rfl (u8s_one [18, 52])) wk_bytes (by decide)).mono ?_
  rintro e w2 ⟨p, oa, n, c, rfl, x2, r2⟩
  have hpW : W.heap.size ≤ p := Nat.le_trans (X1.out.alloc _).le r2.le
  have X2 := Lib.hid ((X1.out.alloc _).trans x2)
  have O2 := Lib.hid (own_ext O1.out (((Ext.refl _).alloc _).trans x2))
  have R2 := Lib.hid r2
  clear x2 r2 X1 O1
  go_wp2_with fail
  refine (readBits_any R2.out _).mono ?_
  rintro e w3 ⟨rfl, m3, r3⟩
  rw [wk_rdE, wk_rdV]
  rw [wk_rdP] at r3
  have X3 := Lib.hid (X2.out.mod m3 (fun q hq => by rw [hq]; exact hpW))
  have O3 := Lib.hid (own_mod O2.out m3 (fun q hq e1 => by
    obtain ⟨cur, hc⟩ := own_type O2.out hq
    exact ne_of_type hc R2.out.blk (by decide) e1))
  have R3 := Lib.hid r3
  clear m3 r3 X2 O2 R2
  go_wp2_with fail
  refine (unpack_any _ _ [18, 52] [12, 4] _ ?b1 ?b2 wk_bytes (by decide) (by decide)).mono ?_
  case b1 => exact (src_new w3 _ rfl _ _ _ _ _ rfl (u8s_one [18, 52])).ext ((Ext.refl _).alloc _)
  case b2 => exact src_new _ _ (by simp) _ _ _ _ _ rfl (i64s_one [12, 4])
  rintro e w4 ⟨v4, rfl, x4, o4⟩
  rw [wk_unE]
  rw [wk_unV] at o4
  have hy := (((Ext.refl w3).alloc _).alloc _).trans x4
  have X4 := Lib.hid (X3.out.trans hy)
  have O4 := Lib.hid (own_ext O3.out hy)
  have R4 := Lib.hid (R3.out.ext hy)
  have P4 := Lib.hid o4
  clear x4 o4 hy X3 O3 R3
  have hs : (convert 45 9 (.slice oa1 1 c1)).run Try.prog w4 = .ok (.string ⟨#[21]⟩) w4 := src_str (l := [21]) (own_src O4.out (u8s_one _))
  go_wp2_with fail
  refine (remaining_at R4.out).mono ?_
  rintro e w5 ⟨rfl, x5⟩
  have X5 := Lib.hid (X4.out.trans x5)
  have P5 := Lib.hid (own_ext P4.out x5)
  clear hs x5 X4 P4 R4 O4
  go_wp2_with fail
  refine (eqU_same (l := [291, 4]) ?d1 ?d2 (by decide)).mono ?_
  case d1 => exact (own_src P5.out (u32s_one _)).ext ((Ext.refl _).alloc _)
  case d2 => exact src_new _ _ rfl _ _ _ _ _ rfl (u32s_one [291, 4])
  rintro e w6 ⟨rfl, x6⟩
  go_wp2
  go_ret
  exact ⟨rfl, (X5.out.alloc _).trans x6⟩
end Go.Proofs.Ytpcoikgbpdedcaa
