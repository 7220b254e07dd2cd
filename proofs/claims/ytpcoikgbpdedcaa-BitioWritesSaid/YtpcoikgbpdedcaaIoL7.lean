/- The laws of layer 2, walked: Pack and Unpack. No condition. -/
import Derived.Test.YtpcoikgbpdedcaaIoH2
namespace Go.Proofs.Ytpcoikgbpdedcaa
open Go.RowKit

namespace Io
theorem getAll_len (l : List Int) : ∀ (ws : List Int) (pos : Nat), (getAll l ws pos).2.1.length ≤ ws.length
  | [], pos => by simp [getAll]
  | w :: ws, pos => by
    have ih := getAll_len l ws (rdP l pos w)
    unfold getAll
    split
    · dsimp only
      split
      · simp; omega
      · simp
    · simp
theorem unV_len (l ws : List Int) : (unV l ws).length ≤ ws.length := by
  unfold unV; split
  · exact getAll_len l ws 0
  · simp
end Io
set_option maxRecDepth 8000 in
set_option maxHeartbeats 800000 in
theorem bitioPacks_walk (a0 : Option Addr) (n0 c0 : Nat) (z0 : List Int) (a1 : Option Addr) (n1 c1 : Nat) (z1 : List Int) (a2 : Option Addr) (n2 c2 : Nat) (z2 : List Int) (W : World) (r0 : IsRow .u32 W a0 n0 c0 z0) (r1 : IsRow .i64 W a1 n1 c1 z1) (r2 : IsRow .u8 W a2 n2 c2 z2) :
    Calls Try.prog 8 #[.slice a0 n0 c0, .slice a1 n1 c1, .slice a2 n2 c2] W (Rets W (.bool true)) := by
  obtain ⟨vs, rfl, hv, sv, bv⟩ := row_take r0
  obtain ⟨ws, rfl, hw, sw, bw⟩ := row_take r1
  obtain ⟨l, rfl, hl, sl, bl⟩ := row_take r2
  clear r0 r1 r2
  have hby : Io.Bytes l := wf_any bl
  have hvb : ∀ x ∈ vs, 0 ≤ x ∧ x < 4294967296 := fun x hx => wf_u32 (bv x hx)
  unfold maxLen at hl hw hv
  clear bl bw bv
  have SL := Lib.hid sl
  have SW := Lib.hid sw
  have SV := Lib.hid sv
  have HBY := Lib.hid hby
  have HVB := Lib.hid hvb
  clear sl sw sv hby hvb
  go_enter Try.func8, Try.ntmps8
  go_wp2_with fail
  refine (small_wide _ _ _ _ _ _ (by omega) (by omega)).mono ?_
  rintro e w1 ⟨rfl, rfl⟩
  by_cases hsm : l.length ≤ 200 ∧ ws.length ≤ 100
  · obtain ⟨h1, h2⟩ := hsm
    rw [show (decide (l.length ≤ 200) && decide (ws.length ≤ 100)) = true by simp [h1, h2]]
    by_cases h3 : vs.length ≤ 100
    · go_wp2_with fail
      refine (pack_any _ _ vs ws _ SV.out SW.out (fun x hx => (HVB.out x hx).1) (by omega)).mono ?_
      rintro e w2 ⟨v2, rfl, x2, o2⟩
      have s2 := own_src o2 (u8s_one _)
      obtain ⟨o2a, c2, rfl⟩ := own_slice o2
      have X2 := Lib.hid x2
      have S2 := Lib.hid s2
      clear x2 s2 o2
      go_wp2_with fail
      refine (rPack_any _ _ vs ws _ (SV.out.ext X2.out) (SW.out.ext X2.out) HVB.out (by omega)).mono ?_
      rintro e w3 ⟨v3, rfl, x3, o3⟩
      have s3 := own_src o3 (u8s_one _)
      obtain ⟨o3a, c3, rfl⟩ := own_slice o3
      have X3 := Lib.hid (X2.out.trans x3)
      have S3 := Lib.hid s3
      have S23 := Lib.hid (S2.out.ext x3)
      clear x3 s3 o3
      go_wp2_with fail
      refine (unpack_any _ _ l ws _ (SL.out.ext X3.out) (SW.out.ext X3.out) HBY.out (by omega) (by omega)).mono ?_
      rintro e w4 ⟨v4, rfl, x4, o4⟩
      have s4 := own_src o4 (u32s_one _)
      obtain ⟨o4a, c4, rfl⟩ := own_slice o4
      have X4 := Lib.hid (X3.out.trans x4)
      have S4 := Lib.hid s4
      have S24 := Lib.hid (S23.out.ext x4)
      have S34 := Lib.hid (S3.out.ext x4)
      clear x4 s4 o4
      go_wp2_with fail
      refine (rUnpack_any _ _ l ws _ (SL.out.ext X4.out) (SW.out.ext X4.out) HBY.out (by omega) (by omega)).mono ?_
      rintro e w5 ⟨v5, rfl, x5, o5⟩
      have s5 := own_src o5 (u32s_one _)
      obtain ⟨o5a, c5, rfl⟩ := own_slice o5
      have X5 := Lib.hid (X4.out.trans x5)
      have S5 := Lib.hid s5
      have S45 := Lib.hid (S4.out.ext x5)
      have t2 := src_str (S24.out.ext x5)
      have t3 := src_str (S34.out.ext x5)
      have hul : (Io.unV l ws).length ≤ 1000000 := by
        have := Io.unV_len l ws; omega
      clear x5 s5 o5
      go_wp2_with (first
        | (go_at_call 46; refine (eqU_same S45.out S5.out hul).mono ?_; rintro e w6 ⟨rfl, x6⟩)
        | (go_at_call 41; refine (works_any _).mono ?_; rintro e w7 ⟨rfl, x7⟩))
      go_ret
      exact ⟨rfl, (X5.out.trans x6).trans x7⟩
    · have h4 : 100 < vs.length := by omega
      go_wp2_with (go_at_call 41; refine (works_any _).mono ?_; rintro e w9 ⟨rfl, hy⟩)
      go_ret
      exact ⟨rfl, hy⟩
  · rw [show (decide (l.length ≤ 200) && decide (ws.length ≤ 100)) = false by simp; omega]
    go_wp2_with (go_at_call 41; refine (works_any _).mono ?_; rintro e w9 ⟨rfl, hy⟩)
    go_ret
    exact ⟨rfl, hy⟩
end Go.Proofs.Ytpcoikgbpdedcaa
