/- Registers: the reference of CheckContents; has, Read and their references; TooLarge, walked. No condition. -/
import Derived.Test.YtnmamcplbeiehaaRg3
namespace Go.Proofs.Ytnmamcplbeiehaa
open Go.RowKit

set_option maxRecDepth 8000 in
theorem refcc_any {W : World} {s : ByteArray} {a1 a2 a3 a4 a5 a6 a7 a8 : Option Addr} {n1 m1 n2 m2 m3 n4 m4 n5 m5 n6 m6 n7 m7 n8 m8 : Nat} {rs : List Rg.Reg} (hr : Rows W 3 Rg.RegR (.slice a3 rs.length m3) rs) {v : Value} {ls : List (List Int)} (hl : Rows W 1 RowR v ls) :
    Calls Try.prog 34 #[.agg #[.string s, .slice a1 n1 m1, .slice a2 n2 m2, .slice a3 rs.length m3, .slice a4 n4 m4, .slice a5 n5 m5, .slice a6 n6 m6, .slice a7 n7 m7, .slice a8 n8 m8], v] W (Rets W (.int .i64 (Rg.cc rs ls))) := by
  obtain ⟨lo, lc, rfl, la, ma⟩ := hl.slice
  obtain ⟨_, _, he, lb, mb⟩ := hr.slice
  simp only [Value.slice.injEq, true_and] at he
  obtain ⟨rfl, rfl⟩ := he
  unfold maxLen at ma mb
  have HL := Lib.hid hl
  have HR := Lib.hid hr
  clear hl hr
  have bb := alloc_heap W (.cells #[.string s, .slice a1 n1 m1, .slice a2 n2 m2, .slice a3 rs.length m3, .slice a4 n4 m4, .slice a5 n5 m5, .slice a6 n6 m6, .slice a7 n7 m7, .slice a8 n8 m8] 76)
  have p0 := alw (cell_of (o := 0) bb)
  have p1 := alw (cell_of (o := 1) bb)
  have p2 := alw (cell_of (o := 2) bb)
  have p3 := alw (cell_of (o := 3) bb)
  have p4 := alw (cell_of (o := 4) bb)
  have p5 := alw (cell_of (o := 5) bb)
  have p6 := alw (cell_of (o := 6) bb)
  have p7 := alw (cell_of (o := 7) bb)
  have p8 := alw (cell_of (o := 8) bb)
  clear bb
  by_cases h1 : ls.length = rs.length
  · have hle : ls.length ≤ rs.length := by omega
    have hne : ((ls.length : Int) != (rs.length : Int)) = false := by simp [h1]
    have HLN := Lib.hid h1
    clear h1
    go_enter Try.func34, Try.ntmps34
    go_wp2_with fail
    go_loopw [5] (fun i wr => ∃ k : Nat, k ≤ ls.length ∧ i = .int .i64 k ∧ Ext (W.alloc (.cells #[.string s, .slice a1 n1 m1, .slice a2 n2 m2, .slice a3 rs.length m3, .slice a4 n4 m4, .slice a5 n5 m5, .slice a6 n6 m6, .slice a7 n7 m7, .slice a8 n8 m8] 76)) wr ∧ Hid (∀ j, j < k → decide (((ls.getD j []).length : Int) = (rs.getD j Rg.z).s) = true)) (fun i _ => ls.length - (intOf i).toNat)
    case atStart => exact ⟨0, Nat.zero_le _, rfl, Ext.refl _, Lib.hid (by intro j hj; omega)⟩
    case round =>
      obtain ⟨k, hk, rfl, hx, HZ⟩ := hrel
      obtain ⟨v1, rfl⟩ : ∃ v1 : World, v1 = wr := ⟨_, rfl⟩
      have sx := Step.mk hx
      by_cases hlt : k < ls.length
      · have hlt2 : k < rs.length := by omega
        obtain ⟨l, hlk⟩ : ∃ x, ls[k]? = some x := ⟨_, List.getElem?_eq_getElem hlt⟩
        obtain ⟨g, hgk⟩ : ∃ y, rs[k]? = some y := ⟨_, List.getElem?_eq_getElem hlt2⟩
        obtain ⟨b1, o1, hb1, _, _⟩ := Rows.at HL.out (by omega)
        obtain ⟨b2, o2, hb2, _, _⟩ := Rows.at HR.out (by omega)
        subst hb1 hb2
        obtain ⟨la1, lc1, f1, n1, u1⟩ := rows_at HL.out k l hlk rfl
        obtain ⟨f3, f4, f5, q3, q1, q2⟩ := regs_at HR.out k g hgk rfl
        have m1 := n1.2
        unfold maxLen at m1
        have hga : ls.getD k [] = l := by rw [List.getD_eq_getElem?_getD, hlk]; rfl
        have hgb : rs.getD k Rg.z = g := by rw [List.getD_eq_getElem?_getD, hgk]; rfl
        have HGA := Lib.hid hga
        have HGB := Lib.hid hgb
        clear hlk hgk hga hgb
        clear n1
        by_cases he : (l.length : Int) = g.s
        · have heb : ((l.length : Int) != g.s) = false := by simp [he]
          have HE := Lib.hid he
          clear he
          go_wp2_with fail
          refine wp_region_later (by kernel_rfl) (by kernel_rfl) (Ext.refl _) ?_
          repeat (go_big_quiet_step (fail))
          refine wpQuiet_nil ?_
          intro w1 hxw1
          have sw1 := Step.mk hxw1
          go_wp2_with fail
          go_roundw
          case rel =>
            refine ⟨k + 1, by omega, by go_num, by exact hx.trans hxw1, Lib.hid (fun j hj => ?_)⟩
            rcases Nat.lt_or_ge j k with h1 | h1
            · exact HZ.out j h1
            · obtain rfl : j = k := by omega
              rw [HGA.out, HGB.out]; exact decide_eq_true HE.out
          case measure => simp [intOf]; omega
        · have heb : ((l.length : Int) != g.s) = true := by simp [he]
          have HE := Lib.hid he
          clear he
          go_wp2_with fail
          refine wp_region_later (by kernel_rfl) (by kernel_rfl) (Ext.refl _) ?_
          repeat (go_big_quiet_step (fail))
          refine wpQuiet_nil ?_
          intro w1 hxw1
          have sw1 := Step.mk hxw1
          go_wp2_with fail
          go_ret
          exact ⟨ret_int (by unfold Rg.cc; rw [if_pos HLN.out, show Rg.lensB rs ls = false from Rg.all_no hlt (by rw [HGA.out, HGB.out]; exact decide_eq_false HE.out)]; rfl), grows⟩
      · obtain rfl : k = ls.length := by omega
        have HLB : Hid (Rg.lensB rs ls = true) := Lib.hid (Rg.all_yes HZ.out)
        clear HZ
        go_wp2_with fail
        go_loopw [6] (fun i wq => ∃ k : Nat, k ≤ ls.length ∧ i = .int .i64 k ∧ Ext v1 wq ∧ Hid (∀ j, j < k → Rg.fitB (rs.getD j Rg.z) (ls.getD j []) = true)) (fun i _ => ls.length - (intOf i).toNat)
        case atStart => exact ⟨0, Nat.zero_le _, rfl, Ext.refl _, Lib.hid (by intro j hj; omega)⟩
        case round =>
          obtain ⟨k, hk, rfl, hy, HZ⟩ := hrel
          obtain ⟨v2, rfl⟩ : ∃ v2 : World, v2 = wr := ⟨_, rfl⟩
          have sy := Step.mk hy
          by_cases hlt : k < ls.length
          · have hlt2 : k < rs.length := by omega
            obtain ⟨l, hlk⟩ : ∃ x, ls[k]? = some x := ⟨_, List.getElem?_eq_getElem hlt⟩
            obtain ⟨g, hgk⟩ : ∃ y, rs[k]? = some y := ⟨_, List.getElem?_eq_getElem hlt2⟩
            obtain ⟨b1, o1, hb1, _, _⟩ := Rows.at HL.out (by omega)
            obtain ⟨b2, o2, hb2, _, _⟩ := Rows.at HR.out (by omega)
            subst hb1 hb2
            obtain ⟨la1, lc1, f1, n1, u1⟩ := rows_at HL.out k l hlk rfl
            obtain ⟨f3, f4, f5, q3, q1, q2⟩ := regs_at HR.out k g hgk rfl
            have m1 := n1.2
            unfold maxLen at m1
            have hga : ls.getD k [] = l := by rw [List.getD_eq_getElem?_getD, hlk]; rfl
            have hgb : rs.getD k Rg.z = g := by rw [List.getD_eq_getElem?_getD, hgk]; rfl
            have HGA := Lib.hid hga
            have HGB := Lib.hid hgb
            clear hlk hgk hga hgb
            obtain ⟨M, hM⟩ : ∃ M, M = Bv.mask g.w := ⟨_, rfl⟩
            have HWD : Hid (∀ w, Calls Try.prog 59 #[.agg #[.string g.nm, .int .i64 g.w, .int .i64 g.s]] w (Rets w (.int .i64 (Rg.wid g)))) := Lib.hid (fun w => rwidth_any g w)
            have HFI : Hid (∀ x : Int, 0 ≤ x → x < 4294967296 → ∀ w, Calls Try.prog 40 #[.int .u32 x, .int .i64 (Rg.wid g)] w fun e w' => e = .returned (.bool (decide (x ≤ M))) ∧ w = w') := Lib.hid (fun x h0 h1 w => by have h := rfits12_any (W := w) x (Rg.wid g) h0 h1 (Rg.wid_bd g).1 (Rg.wid_bd g).2; rw [Rg.mask_wid, ← hM] at h; exact h)
            have HN1 := Lib.hid n1
            have HU1 := Lib.hid u1
            have HM := Lib.hid hM
            clear n1 u1 hM
            go_wp2_with fail
            go_loopw [7] (fun i wp => ∃ t : Nat, t ≤ l.length ∧ i = .int .i64 t ∧ Ext v2 wp ∧ Hid (∀ j, j < t → decide (l.getD j 0 ≤ M) = true)) (fun i _ => l.length - (intOf i).toNat)
            case atStart => exact ⟨0, Nat.zero_le _, rfl, Ext.refl _, Lib.hid (by intro j hj; omega)⟩
            case round =>
              obtain ⟨t, ht, rfl, hz, HT⟩ := hrel
              have sz := Step.mk hz
              by_cases htl : t < l.length
              · obtain ⟨x, hxt⟩ : ∃ x, l[t]? = some x := ⟨_, List.getElem?_eq_getElem htl⟩
                obtain ⟨b3, o3, rfl, c3⟩ := ns_at HN1.out (by omega)
                have f6 := c3 t x hxt
                have hgx : l.getD t 0 = x := by rw [List.getD_eq_getElem?_getD, hxt]; rfl
                have hux := HU1.out x (List.mem_of_getElem? hxt)
                have HGX := Lib.hid hgx
                obtain ⟨q, hq⟩ : ∃ q, q = decide (x ≤ M) := ⟨_, rfl⟩
                have HFX : Hid (∀ w, Calls Try.prog 40 #[.int .u32 x, .int .i64 (Rg.wid g)] w fun e w' => e = .returned (.bool q) ∧ w = w') := Lib.hid (fun w => by have h := HFI.out x hux.1 hux.2 w; rw [← hq] at h; exact h)
                have HQ := Lib.hid hq
                clear c3 hxt hgx hux hq
                cases q with
                | true =>
                  go_wp2_with fail
                  refine wp_region_later (by kernel_rfl) (by kernel_rfl) (Ext.refl _) ?_
                  repeat (go_big_quiet_step (first | (go_at_call 59; exact Rets.later_at (HWD.out _)) | (go_at_call 40; exact Rets.later_eq (HFX.out _))))
                  refine wpQuiet_nil ?_
                  intro w1 hxw1
                  have sw1 := Step.mk hxw1
                  go_wp2_with fail
                  go_roundw
                  case rel =>
                    refine ⟨t + 1, by omega, by go_num, by exact hz.trans hxw1, Lib.hid (fun j hj => ?_)⟩
                    rcases Nat.lt_or_ge j t with h1 | h1
                    · exact HT.out j h1
                    · obtain rfl : j = t := by omega
                      rw [HGX.out]; exact HQ.out.symm
                  case measure => simp [intOf]; omega
                | false =>
                  go_wp2_with fail
                  refine wp_region_later (by kernel_rfl) (by kernel_rfl) (Ext.refl _) ?_
                  repeat (go_big_quiet_step (first | (go_at_call 59; exact Rets.later_at (HWD.out _)) | (go_at_call 40; exact Rets.later_eq (HFX.out _))))
                  refine wpQuiet_nil ?_
                  intro w1 hxw1
                  have sw1 := Step.mk hxw1
                  go_wp2_with fail
                  go_ret
                  exact ⟨ret_int (by unfold Rg.cc; rw [if_pos HLN.out, HLB.out, show Rg.fitsB rs ls = false from Rg.all_no hlt (by rw [HGA.out, HGB.out]; exact Rg.all_no htl (by rw [HGX.out, ← HM.out]; exact HQ.out.symm))]; rfl), grows⟩
              · obtain rfl : t = l.length := by omega
                go_wp2_with fail
                go_roundw
                case rel =>
                  refine ⟨k + 1, by omega, by go_num, by exact hy.trans hz, Lib.hid (fun j hj => ?_)⟩
                  rcases Nat.lt_or_ge j k with h1 | h1
                  · exact HZ.out j h1
                  · obtain rfl : j = k := by omega
                    rw [HGA.out, HGB.out]; exact Rg.all_yes (fun j hj => by rw [← HM.out]; exact HT.out j hj)
                case measure => simp [intOf]; omega
          · obtain rfl : k = ls.length := by omega
            go_wp2_with fail
            go_ret
            exact ⟨ret_int (by unfold Rg.cc; rw [if_pos HLN.out, HLB.out, show Rg.fitsB rs ls = true from Rg.all_yes HZ.out]; rfl), grows⟩
  · have hne : ((ls.length : Int) != (rs.length : Int)) = true := by simp; omega
    have HLN := Lib.hid h1
    clear h1
    go_enter Try.func34, Try.ntmps34
    go_wp2_with fail
    go_ret
    exact ⟨ret_int (by unfold Rg.cc; rw [if_neg HLN.out]), grows⟩
end Go.Proofs.Ytnmamcplbeiehaa
