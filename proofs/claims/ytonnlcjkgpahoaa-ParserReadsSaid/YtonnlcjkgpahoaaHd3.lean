/- Headers: Check of the package, walked. No condition. -/
import Derived.Test.YtonnlcjkgpahoaaHd
import Derived.Deep.Cut
import Derived.Deep.CutRange
import Derived.Deep.DeepCutAuto
namespace Go.Proofs.Ytonnlcjkgpahoaa
open Go.RowKit

namespace Hd
theorem fE_name {fs : List Fld} {k : Nat} {f : Fld} (hk : fs[k]? = some f) (h1 : Id.ok f.1 = false) (h : fE (fs.take k) (fs.drop k) = fE [] fs) : fE [] fs = 6 := by
  rw [← h, drop_cons hk]; simp [fE, h1]
theorem fE_width {fs : List Fld} {k : Nat} {f : Fld} (hk : fs[k]? = some f) (h1 : Id.ok f.1 = true) (h2 : f.2 < 1 ∨ 32 < f.2) (h : fE (fs.take k) (fs.drop k) = fE [] fs) : fE [] fs = 10 := by
  rw [← h, drop_cons hk]; simp [fE, h1, h2]
theorem fE_dup {fs : List Fld} {k : Nat} {f : Fld} (hk : fs[k]? = some f) (h1 : Id.ok f.1 = true) (h2 : ¬ (f.2 < 1 ∨ 32 < f.2)) (h3 : (fs.take k).any (fun g => same g.1 f.1) = true) (h : fE (fs.take k) (fs.drop k) = fE [] fs) : fE [] fs = 7 := by
  rw [← h, drop_cons hk, fE, if_pos h1, if_neg h2, if_pos h3]
theorem fE_next {fs : List Fld} {k : Nat} {f : Fld} (hk : fs[k]? = some f) (h1 : Id.ok f.1 = true) (h2 : ¬ (f.2 < 1 ∨ 32 < f.2)) (h3 : (fs.take k).any (fun g => same g.1 f.1) = false) (h : fE (fs.take k) (fs.drop k) = fE [] fs) : fE (fs.take (k + 1)) (fs.drop (k + 1)) = fE [] fs := by
  rw [← h, drop_cons hk, fE, if_pos h1, if_neg h2, if_neg (by rw [h3]; decide), List.take_add_one, hk]; rfl
theorem chk_fields {nm : ByteArray} {fs : List Fld} (h1 : Id.ok nm = true) (h2 : fs.length ≠ 0) (h3 : fs.length ≤ 12) (h4 : fE [] fs ≠ 0) : chk (nm, fs) = fE [] fs := by
  unfold chk; rw [if_pos h1, if_neg h2, if_neg (by simpa using h3), if_neg h4]
theorem chk_all {nm : ByteArray} {fs : List Fld} (h1 : Id.ok nm = true) (h2 : fs.length ≠ 0) (h3 : fs.length ≤ 12) (h4 : fE [] fs = 0) : chk (nm, fs) = if tot (wds fs) % 8 = 0 then 0 else 10 := by
  unfold chk; rw [if_pos h1, if_neg h2, if_neg (by simpa using h3), if_pos h4]
end Hd

set_option maxRecDepth 8000 in
set_option maxHeartbeats 1000000 in
theorem hcheck_any {W : World} (h : Hd.Hdr) {v : Value} (hs : Hd.Flds W v h.2) (hn : h.1.size ≤ maxLen) :
    Calls Try.prog 63 #[.agg #[.string h.1, v]] W (Rets W (.int .i64 (Hd.chk h))) := by
  obtain ⟨nm, fs⟩ := h
  dsimp only at hs hn ⊢
  obtain ⟨oa, c, rfl, hlc, hcm⟩ := hs.slice
  unfold maxLen at hcm
  have HS := Lib.hid hs
  clear hs
  have bb := alloc_heap W (.cells #[.string nm, .slice oa fs.length c] 72)
  have c0 := alw (cell_of (o := 0) bb)
  have c1 := alw (cell_of (o := 1) bb)
  clear bb
  have x1 : Ext W (W.alloc (.cells #[.string nm, .slice oa fs.length c] 72)) := (Ext.refl W).alloc _
  cases hok : Id.ok nm
  · have e : Hd.chk (nm, fs) = 6 := by simp [Hd.chk, hok]
    rw [e]
    clear e
    go_enter Try.func63, Try.ntmps63
    go_wp2_with (go_at_call 51; refine (ident_any _ _ hn).mono ?_; rintro e w1 ⟨rfl, rfl⟩; rw [hok])
    go_ret
    exact ⟨rfl, x1⟩
  · by_cases h0 : fs.length = 0
    · have e : Hd.chk (nm, fs) = 8 := by simp [Hd.chk, hok, h0]
      rw [e]
      clear e
      go_enter Try.func63, Try.ntmps63
      go_wp2_with (go_at_call 51; refine (ident_any _ _ hn).mono ?_; rintro e w1 ⟨rfl, rfl⟩; rw [hok])
      go_ret
      exact ⟨rfl, (Ext.refl W).alloc _⟩
    · have h0b : ((fs.length : Int) == 0) = false := by rw [beq_eq_false_iff_ne]; omega
      have hpos : 0 < fs.length := by omega
      have H0 := Lib.hid h0
      clear h0
      by_cases h12 : fs.length ≤ 12
      · go_enter Try.func63, Try.ntmps63
        go_wp2_with (go_at_call 51; refine (ident_any _ _ hn).mono ?_; rintro e w1 ⟨rfl, rfl⟩; rw [hok])
        go_loopw [25] (fun i wr => ∃ k : Nat, k ≤ fs.length ∧ i = .int .i64 k ∧ Ext (W.alloc (.cells #[.string nm, .slice oa fs.length c] 72)) wr ∧ Hid (Hd.fE (fs.take k) (fs.drop k) = Hd.fE [] fs)) (fun i _ => fs.length - (intOf i).toNat)
        case atStart => exact ⟨0, Nat.zero_le _, rfl, Ext.refl _, Lib.hid rfl⟩
        case round =>
          obtain ⟨k, hk, rfl, hx, HI⟩ := hrel
          obtain ⟨wo, rfl⟩ : ∃ wo : World, wo = wr := ⟨_, rfl⟩
          have sx : Step (W.alloc (.cells #[.string nm, .slice oa fs.length c] 72)) wo := ⟨hx⟩
          by_cases hlt : k < fs.length
          · obtain ⟨⟨nk, x⟩, hxk⟩ : ∃ x, fs[k]? = some x := ⟨_, List.getElem?_eq_getElem hlt⟩
            obtain ⟨b, o, hoa, _, _⟩ := Rows.at HS.out hpos
            subst hoa
            obtain ⟨f0, f1, hns, hx1, hx2⟩ := flds_at (Hd.Flds.ext HS.out x1) k nk x hxk rfl
            have HK := Lib.hid hxk
            have bf := alloc_heap wo (.cells #[.string nk, .int .i64 x] 84)
            have g0 := alw (cell_of (o := 0) bf)
            have g1 := alw (cell_of (o := 1) bf)
            clear hxk bf
            cases hik : Id.ok nk
            · go_wp2_with (go_at_call 51; refine (ident_any _ _ hns).mono ?_; rintro e w1 ⟨rfl, rfl⟩; rw [hik])
              go_ret
              exact ⟨ret_int (by rw [Hd.chk_fields hok H0.out h12 (by rw [Hd.fE_name HK.out hik HI.out]; decide), Hd.fE_name HK.out hik HI.out]), x1.trans (hx.alloc _)⟩
            · by_cases hw : x < 1 ∨ 32 < x
              · have HWD := Lib.hid hw
                have hw2 : x < 1 ∨ (1 ≤ x ∧ 32 < x) := by omega
                clear hw
                rcases hw2 with hw2 | ⟨hw3, hw2⟩
                all_goals
                  go_wp2_with (go_at_call 51; refine (ident_any _ _ hns).mono ?_; rintro e w1 ⟨rfl, rfl⟩; rw [hik])
                  go_ret
                  exact ⟨ret_int (by rw [Hd.chk_fields hok H0.out h12 (by rw [Hd.fE_width HK.out hik HWD.out HI.out]; decide), Hd.fE_width HK.out hik HWD.out HI.out]), x1.trans (hx.alloc _)⟩
              · have HWD := Lib.hid hw
                have hw1 : 1 ≤ x := by omega
                have hw2 : x ≤ 32 := by omega
                clear hw
                go_upto_region 14 with (go_at_call 51; refine (ident_any _ _ hns).mono ?_; rintro e w1 ⟨rfl, rfl⟩; rw [hik])
                have WF : Hid (Hd.Flds (wo.alloc (.cells #[.string nk, .int .i64 x] 84)) (.slice (some ⟨b, o, none⟩) fs.length c) fs) := Lib.hid (Hd.Flds.ext HS.out (x1.trans (hx.alloc _)))
                have hkc : (k : Int) ≤ c := by omega
                clear f0 f1
                go_wp2_with fail
                go_loopw [47] (fun i wr => ∃ j : Nat, j ≤ k ∧ i = .int .i64 j ∧ Ext (wo.alloc (.cells #[.string nk, .int .i64 x] 84)) wr ∧ Hid ((fs.take j).any (fun g => Hd.same g.1 nk) = false)) (fun i _ => k - (intOf i).toNat)
                case atStart => exact ⟨0, Nat.zero_le _, rfl, Ext.refl _, Lib.hid rfl⟩
                case round =>
                  obtain ⟨j, hj, rfl, hq, HJ⟩ := hrel
                  have sq : Step (wo.alloc (.cells #[.string nk, .int .i64 x] 84)) wr := ⟨hq⟩
                  by_cases hjk : j < k
                  · obtain ⟨⟨nj, y⟩, hxj⟩ : ∃ x, fs[j]? = some x := ⟨_, List.getElem?_eq_getElem (by omega)⟩
                    obtain ⟨p0, p1, hnj, _, _⟩ := flds_at WF.out j nj y hxj rfl
                    have HXJ := Lib.hid hxj
                    clear hxj
                    cases hsm : Hd.same nj nk
                    · have hne : (nj.toList == nk.toList) = false := hsm
                      have HN := Lib.hid hsm
                      clear hsm
                      go_wp2_with fail
                      go_roundw
                      case rel => exact ⟨j + 1, by omega, by go_num, by exact hq.alloc _, Lib.hid (by rw [List.take_add_one, HXJ.out, List.any_append, HJ.out]; simp [HN.out])⟩
                      case measure => simp [intOf]; omega
                    · have hne : (nj.toList == nk.toList) = true := hsm
                      have HN := Lib.hid hsm
                      clear hsm
                      go_wp2_with fail
                      go_ret
                      have hany : (fs.take k).any (fun g => Hd.same g.1 nk) = true := by
                        rw [List.any_eq_true]
                        exact ⟨(nj, y), List.mem_of_getElem? (by rw [List.getElem?_take, if_pos hjk]; exact HXJ.out), HN.out⟩
                      exact ⟨ret_int (by rw [Hd.chk_fields hok H0.out h12 (by rw [Hd.fE_dup HK.out hik HWD.out hany HI.out]; decide), Hd.fE_dup HK.out hik HWD.out hany HI.out]), x1.trans ((hx.alloc _).trans (hq.alloc _))⟩
                  · obtain rfl : j = k := by omega
                    have HNX := Lib.hid (Hd.fE_next HK.out hik HWD.out HJ.out HI.out)
                    go_wp2_with fail
                    go_roundw
                    case rel => exact ⟨j + 1, by omega, by go_num, by exact (hx.alloc _).trans hq, HNX⟩
                    case measure => simp [intOf]; omega
          · obtain rfl : k = fs.length := by omega
            have hz : Hd.fE [] fs = 0 := by have := HI.out; rw [List.drop_length] at this; rw [← this]; simp [Hd.fE]
            have hwd := Hd.fE_ok _ _ hz
            have htb := Hd.tot_bd hwd
            rw [Hd.wds_len] at htb
            have HC := Lib.hid (Hd.chk_all hok H0.out h12 hz)
            have HWD := Lib.hid hwd
            have hfl : Hd.Flds wo _ fs := Hd.Flds.ext HS.out (x1.trans hx)
            have HFL := Lib.hid hfl
            clear hz hwd hfl
            go_wp2_with fail
            refine (widths_any nm fs HFL.out (by omega)).mono ?_
            rintro e w2 ⟨u, rfl, x2, o2⟩
            have S2 := Lib.hid (own_src o2 (i64s_one _))
            have hl2 : (Hd.wds fs).length ≤ 1000 := by rw [Hd.wds_len]; omega
            obtain ⟨oa2, c2, rfl⟩ := own_slice o2
            clear o2
            go_wp2_with fail
            refine (sum_any _ S2.out HWD.out hl2).mono ?_
            rintro e w3 ⟨rfl, rfl⟩
            by_cases h8 : Hd.tot (Hd.wds fs) % 8 = 0
            · have h9 : (Hd.tot (Hd.wds fs) % 8 != 0) = false := by simp [h8]
              have H8 := Lib.hid h8
              clear h8
              go_wp2_with fail
              go_ret
              exact ⟨ret_int (by rw [HC.out, if_pos H8.out]), (x1.trans hx).trans x2⟩
            · have h9 : (Hd.tot (Hd.wds fs) % 8 != 0) = true := by simp [h8]
              have H8 := Lib.hid h8
              clear h8
              go_wp2_with fail
              go_ret
              exact ⟨ret_int (by rw [HC.out, if_neg H8.out]), (x1.trans hx).trans x2⟩
      · have e : Hd.chk (nm, fs) = 12 := by unfold Hd.chk; rw [if_pos hok, if_neg H0.out, if_pos (by simp; omega)]
        rw [e]
        have h13 : 12 < fs.length := by omega
        clear e
        go_enter Try.func63, Try.ntmps63
        go_wp2_with (go_at_call 51; refine (ident_any _ _ hn).mono ?_; rintro e w1 ⟨rfl, rfl⟩; rw [hok])
        go_ret
        exact ⟨rfl, x1⟩
end Go.Proofs.Ytonnlcjkgpahoaa
