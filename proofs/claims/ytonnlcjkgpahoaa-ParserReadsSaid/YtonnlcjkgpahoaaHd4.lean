/- Headers: Check of the reference, Bits of both, walked. No condition. -/
import Derived.Test.YtonnlcjkgpahoaaHd2
import Derived.Test.YtonnlcjkgpahoaaHd3
namespace Go.Proofs.Ytonnlcjkgpahoaa
open Go.RowKit

namespace Hd
theorem fidx_before {nm : ByteArray} : ∀ {fs : List Fld} {k : Nat}, (fs.take k).any (fun g => same g.1 nm) = true → ∃ j, j < k ∧ fidx nm fs = some j
  | [], k, h => by simp at h
  | f :: fs, 0, h => by simp at h
  | f :: fs, k + 1, h => by
    simp only [List.take_succ_cons, List.any_cons, Bool.or_eq_true] at h
    by_cases h1 : same f.1 nm = true
    · exact ⟨0, by omega, by simp [fidx, h1]⟩
    · obtain ⟨j, hj, he⟩ := fidx_before (h.resolve_left h1)
      exact ⟨j + 1, by omega, by simp [fidx, h1, he]⟩
theorem fidx_here {nm : ByteArray} : ∀ {fs : List Fld} {k : Nat} {f : Fld}, (fs.take k).any (fun g => same g.1 nm) = false → fs[k]? = some f → same f.1 nm = true → fidx nm fs = some k
  | [], k, f, _, h, _ => by simp at h
  | g :: fs, 0, f, _, h, h2 => by simp at h; subst h; simp [fidx, h2]
  | g :: fs, k + 1, f, h, h1, h2 => by
    simp only [List.take_succ_cons, List.any_cons, Bool.or_eq_false_iff] at h
    simp only [List.getElem?_cons_succ] at h1
    simp [fidx, h.1, fidx_here h.2 h1 h2]
theorem same_self (a : ByteArray) : same a a = true := by unfold same; simp
/-- what FieldIndex says of the name of field k -/
theorem fi_dup {hn nm : ByteArray} {fs : List Fld} {k : Nat} (h : (fs.take k).any (fun g => same g.1 nm) = true) : fiN (hn, fs) nm < k := by
  obtain ⟨j, hj, he⟩ := fidx_before h
  simp [fiN, he]; omega
theorem fi_new {hn nm : ByteArray} {fs : List Fld} {k : Nat} {x : Int} (h : (fs.take k).any (fun g => same g.1 nm) = false) (hk : fs[k]? = some (nm, x)) : fiN (hn, fs) nm = k := by
  simp [fiN, fidx_here h hk (same_self nm)]
theorem fi_lo (h : Hdr) (nm : ByteArray) : 0 ≤ fiN h nm := by unfold fiN; omega
end Hd

set_option maxRecDepth 8000 in
set_option maxHeartbeats 1000000 in
theorem rhcheck_any {W : World} (h : Hd.Hdr) {v : Value} (hs : Hd.Flds W v h.2) (hn : h.1.size ≤ maxLen) :
    Calls Try.prog 37 #[.agg #[.string h.1, v]] W (Rets W (.int .i64 (Hd.chk h))) := by
  obtain ⟨nm, fs⟩ := h
  dsimp only at hs hn ⊢
  obtain ⟨oa, c, rfl, hlc, hcm⟩ := hs.slice
  unfold maxLen at hcm
  have HS := Lib.hid hs
  clear hs
  have bb := alloc_heap W (.cells #[.string nm, .slice oa fs.length c] 72)
  have c0 := alw (cell_of (o := 0) bb)
  have c1 := alw (cell_of (o := 1) bb)
  clear bb
  have x1 : Ext W (W.alloc (.cells #[.string nm, .slice oa fs.length c] 72)) := (Ext.refl W).alloc _
  cases hok : Id.ok nm
  · have e : Hd.chk (nm, fs) = 6 := by simp [Hd.chk, hok]
    rw [e]
    clear e
    go_enter Try.func37, Try.ntmps37
    go_wp2_with (go_at_call 61; refine (rident_any _ _ hn).mono ?_; rintro e w1 ⟨rfl, rfl⟩; rw [hok])
    go_ret
    exact ⟨rfl, x1⟩
  · by_cases h0 : fs.length = 0
    · have e : Hd.chk (nm, fs) = 8 := by simp [Hd.chk, hok, h0]
      rw [e]
      clear e
      go_enter Try.func37, Try.ntmps37
      go_wp2_with (go_at_call 61; refine (rident_any _ _ hn).mono ?_; rintro e w1 ⟨rfl, rfl⟩; rw [hok])
      go_ret
      exact ⟨rfl, (Ext.refl W).alloc _⟩
    · have h0b : ((fs.length : Int) == 0) = false := by rw [beq_eq_false_iff_ne]; omega
      have hpos : 0 < fs.length := by omega
      have H0 := Lib.hid h0
      clear h0
      by_cases h12 : fs.length ≤ 12
      · go_enter Try.func37, Try.ntmps37
        go_wp2_with (go_at_call 61; refine (rident_any _ _ hn).mono ?_; rintro e w1 ⟨rfl, rfl⟩; rw [hok])
        go_loopw [3, 4] (fun t i wr => ∃ k : Nat, k ≤ fs.length ∧ i = .int .i64 k ∧ t = .int .i64 (Hd.tot (Hd.wds (fs.take k))) ∧ Ext (W.alloc (.cells #[.string nm, .slice oa fs.length c] 72)) wr ∧ Hid (Hd.fE (fs.take k) (fs.drop k) = Hd.fE [] fs) ∧ Hid (Hd.Wd (Hd.wds (fs.take k)))) (fun _ i _ => fs.length - (intOf i).toNat)
        case atStart => exact ⟨0, Nat.zero_le _, rfl, rfl, Ext.refl _, Lib.hid rfl, Lib.hid (by intro n hn; simp [Hd.wds] at hn)⟩
        case round =>
          obtain ⟨k, hk, rfl, rfl, hx, HI, HWK⟩ := hrel
          obtain ⟨wo, rfl⟩ : ∃ wo : World, wo = wr := ⟨_, rfl⟩
          have sx : Step (W.alloc (.cells #[.string nm, .slice oa fs.length c] 72)) wo := ⟨hx⟩
          have htk := Hd.tot_bd HWK.out
          have hlk : (Hd.wds (fs.take k)).length = k := by rw [Hd.wds_len, List.length_take]; omega
          rw [hlk] at htk
          clear hlk
          by_cases hlt : k < fs.length
          · obtain ⟨⟨nk, x⟩, hxk⟩ : ∃ x, fs[k]? = some x := ⟨_, List.getElem?_eq_getElem hlt⟩
            obtain ⟨b, o, hoa, _, _⟩ := Rows.at HS.out hpos
            subst hoa
            obtain ⟨f0, f1, hns, hx1, hx2⟩ := flds_at (Hd.Flds.ext HS.out x1) k nk x hxk rfl
            have HK := Lib.hid hxk
            have bf := alloc_heap wo (.cells #[.string nk, .int .i64 x] 84)
            have g0 := alw (cell_of (o := 0) bf)
            have g1 := alw (cell_of (o := 1) bf)
            have hsn : Hd.wds (fs.take (k + 1)) = Hd.wds (fs.take k) ++ [x] := by
              unfold Hd.wds; rw [List.take_add_one, hxk]; simp
            have HSN := Lib.hid hsn
            have WF : Hid (Hd.Flds (wo.alloc (.cells #[.string nk, .int .i64 x] 84)) (.slice (some ⟨b, o, none⟩) fs.length c) fs) := Lib.hid (Hd.Flds.ext HS.out (x1.trans (hx.alloc _)))
            have hlo := Hd.fi_lo (nm, fs) nk
            clear hxk bf hsn
            cases hik : Id.ok nk
            · go_wp2_with (first
                | (go_at_call 61; refine (rident_any _ _ hns).mono ?_; rintro e w1 ⟨rfl, rfl⟩; rw [hik])
                | (go_at_call 62; refine (rfieldIndex_any (nm, fs) nk WF.out).mono ?_; rintro e w2 ⟨rfl, x2⟩; have s2 : Step (wo.alloc (.cells #[.string nk, .int .i64 x] 84)) w2 := ⟨x2⟩))
              go_ret
              exact ⟨ret_int (by rw [Hd.chk_fields hok H0.out h12 (by rw [Hd.fE_name HK.out hik HI.out]; decide), Hd.fE_name HK.out hik HI.out]), x1.trans ((hx.alloc _).trans x2)⟩
            · by_cases hw : x < 1 ∨ 32 < x
              · have HWD := Lib.hid hw
                have hw2 : x < 1 ∨ (1 ≤ x ∧ 32 < x) := by omega
                clear hw
                rcases hw2 with hw2 | ⟨hw3, hw2⟩
                all_goals
                  go_wp2_with (first
                    | (go_at_call 61; refine (rident_any _ _ hns).mono ?_; rintro e w1 ⟨rfl, rfl⟩; rw [hik])
                    | (go_at_call 62; refine (rfieldIndex_any (nm, fs) nk WF.out).mono ?_; rintro e w2 ⟨rfl, x2⟩; have s2 : Step (wo.alloc (.cells #[.string nk, .int .i64 x] 84)) w2 := ⟨x2⟩))
                  go_ret
                  exact ⟨ret_int (by rw [Hd.chk_fields hok H0.out h12 (by rw [Hd.fE_width HK.out hik HWD.out HI.out]; decide), Hd.fE_width HK.out hik HWD.out HI.out]), x1.trans ((hx.alloc _).trans x2)⟩
              · have HWD := Lib.hid hw
                have hw1 : 1 ≤ x := by omega
                have hw2 : x ≤ 32 := by omega
                clear hw
                cases hany : (fs.take k).any (fun g => Hd.same g.1 nk)
                · have HNX := Lib.hid (Hd.fE_next HK.out hik HWD.out hany HI.out)
                  have HFI := Lib.hid (Hd.fi_new (hn := nm) hany HK.out)
                  clear hany
                  go_wp2_with (first
                    | (go_at_call 61; refine (rident_any _ _ hns).mono ?_; rintro e w1 ⟨rfl, rfl⟩; rw [hik])
                    | (go_at_call 62; refine (rfieldIndex_any (nm, fs) nk WF.out).mono ?_; rintro e w2 ⟨rfl, x2⟩; have s2 : Step (wo.alloc (.cells #[.string nk, .int .i64 x] 84)) w2 := ⟨x2⟩; rw [HFI.out]))
                  go_roundw
                  case rel => exact ⟨k + 1, by omega, by go_num, by rw [HSN.out, Hd.tot_snoc], by exact (hx.alloc _).trans x2, HNX, Lib.hid (by rw [HSN.out]; intro n hn; rcases List.mem_append.1 hn with h | h; (· exact HWK.out n h); (· simp at h; omega))⟩
                  case measure => simp [intOf]; omega
                · have hfd := Hd.fi_dup (hn := nm) hany
                  have HANY := Lib.hid hany
                  clear hany
                  go_wp2_with (first
                    | (go_at_call 61; refine (rident_any _ _ hns).mono ?_; rintro e w1 ⟨rfl, rfl⟩; rw [hik])
                    | (go_at_call 62; refine (rfieldIndex_any (nm, fs) nk WF.out).mono ?_; rintro e w2 ⟨rfl, x2⟩; have s2 : Step (wo.alloc (.cells #[.string nk, .int .i64 x] 84)) w2 := ⟨x2⟩))
                  go_ret
                  exact ⟨ret_int (by rw [Hd.chk_fields hok H0.out h12 (by rw [Hd.fE_dup HK.out hik HWD.out HANY.out HI.out]; decide), Hd.fE_dup HK.out hik HWD.out HANY.out HI.out]), x1.trans ((hx.alloc _).trans x2)⟩
          · obtain rfl : k = fs.length := by omega
            have hz : Hd.fE [] fs = 0 := by have := HI.out; rw [List.drop_length] at this; rw [← this]; simp [Hd.fE]
            have HC := Lib.hid (Hd.chk_all hok H0.out h12 hz)
            rw [List.take_length] at htk ⊢
            clear hz HI HWK
            by_cases h8 : Hd.tot (Hd.wds fs) % 8 = 0
            · have h9 : (Hd.tot (Hd.wds fs) % 8 != 0) = false := by simp [h8]
              have H8 := Lib.hid h8
              clear h8
              go_wp2_with fail
              go_ret
              exact ⟨ret_int (by rw [HC.out, if_pos H8.out]), (x1.trans hx)⟩
            · have h9 : (Hd.tot (Hd.wds fs) % 8 != 0) = true := by simp [h8]
              have H8 := Lib.hid h8
              clear h8
              go_wp2_with fail
              go_ret
              exact ⟨ret_int (by rw [HC.out, if_neg H8.out]), (x1.trans hx)⟩
      · have e : Hd.chk (nm, fs) = 12 := by unfold Hd.chk; rw [if_pos hok, if_neg H0.out, if_pos (by simp; omega)]
        rw [e]
        have h13 : 12 < fs.length := by omega
        clear e
        go_enter Try.func37, Try.ntmps37
        go_wp2_with (go_at_call 61; refine (rident_any _ _ hn).mono ?_; rintro e w1 ⟨rfl, rfl⟩; rw [hok])
        go_ret
        exact ⟨rfl, x1⟩

theorem hbits_any {W : World} (h : Hd.Hdr) {v : Value} (hs : Hd.Flds W v h.2) (hn : h.1.size ≤ maxLen) :
    Calls Try.prog 65 #[.agg #[.string h.1, v]] W (Rets W (.int .i64 (Hd.bts h))) := by
  obtain ⟨nm, fs⟩ := h
  dsimp only at hs hn ⊢
  obtain ⟨oa, c, rfl, hlc, hcm⟩ := hs.slice
  unfold maxLen at hcm
  have HS := Lib.hid hs
  clear hs
  have bb := alloc_heap W (.cells #[.string nm, .slice oa fs.length c] 72)
  have c0 := alw (cell_of (o := 0) bb)
  have c1 := alw (cell_of (o := 1) bb)
  clear bb
  have x1 : Ext W (W.alloc (.cells #[.string nm, .slice oa fs.length c] 72)) := (Ext.refl W).alloc _
  by_cases hc : Hd.chk (nm, fs) = 0
  · have e : Hd.bts (nm, fs) = Hd.tot (Hd.wds fs) := by unfold Hd.bts; rw [if_pos hc]
    obtain ⟨h1, h2, h3, h4, h5⟩ := Hd.chk_ok hc
    dsimp only at h1 h2 h3 h4 h5
    have hl2 : (Hd.wds fs).length ≤ 1000 := by rw [Hd.wds_len]; omega
    have HWD := Lib.hid h4
    have HC := Lib.hid hc
    rw [e]
    clear e h5 h4 hc h1
    go_enter Try.func65, Try.ntmps65
    go_wp2_with fail
    refine (hcheck_any (nm, fs) (Hd.Flds.ext HS.out x1) hn).mono ?_
    rintro e w1 ⟨rfl, y1⟩
    rw [HC.out]
    have s1 : Step (W.alloc (.cells #[.string nm, .slice oa fs.length c] 72)) w1 := ⟨y1⟩
    go_wp2_with fail
    refine (widths_any nm fs (Hd.Flds.ext HS.out (x1.trans y1)) (by omega)).mono ?_
    rintro e w2 ⟨u, rfl, x2, o2⟩
    have S2 := Lib.hid (own_src o2 (i64s_one _))
    obtain ⟨oa2, c2, rfl⟩ := own_slice o2
    clear o2
    go_wp2_with fail
    refine (sum_any _ S2.out HWD.out hl2).mono ?_
    rintro e w3 ⟨rfl, rfl⟩
    go_wp2_with fail
    go_ret
    exact ⟨rfl, (x1.trans y1).trans x2⟩
  · have e : Hd.bts (nm, fs) = 0 := by unfold Hd.bts; rw [if_neg hc]
    have hcb : (Hd.chk (nm, fs) != 0) = true := by simpa using hc
    rw [e]
    clear e hc
    go_enter Try.func65, Try.ntmps65
    go_wp2_with fail
    refine (hcheck_any (nm, fs) (Hd.Flds.ext HS.out x1) hn).mono ?_
    rintro e w1 ⟨rfl, y1⟩
    go_wp2_with fail
    go_ret
    exact ⟨rfl, x1.trans y1⟩

theorem rhbits_any {W : World} (h : Hd.Hdr) {v : Value} (hs : Hd.Flds W v h.2) (hn : h.1.size ≤ maxLen) :
    Calls Try.prog 114 #[.agg #[.string h.1, v]] W (Rets W (.int .i64 (Hd.bts h))) := by
  obtain ⟨nm, fs⟩ := h
  dsimp only at hs hn ⊢
  obtain ⟨oa, c, rfl, hlc, hcm⟩ := hs.slice
  unfold maxLen at hcm
  have HS := Lib.hid hs
  clear hs
  have bb := alloc_heap W (.cells #[.string nm, .slice oa fs.length c] 72)
  have c0 := alw (cell_of (o := 0) bb)
  have c1 := alw (cell_of (o := 1) bb)
  clear bb
  have x1 : Ext W (W.alloc (.cells #[.string nm, .slice oa fs.length c] 72)) := (Ext.refl W).alloc _
  by_cases hc : Hd.chk (nm, fs) = 0
  · have e : Hd.bts (nm, fs) = Hd.tot (Hd.wds fs) := by unfold Hd.bts; rw [if_pos hc]
    obtain ⟨h1, h2, h3, h4, h5⟩ := Hd.chk_ok hc
    dsimp only at h1 h2 h3 h4 h5
    have HWD := Lib.hid h4
    have HC := Lib.hid hc
    rw [e]
    clear e h5 h4 hc h1
    go_enter Try.func114, Try.ntmps114
    go_wp2_with fail
    refine (rhcheck_any (nm, fs) (Hd.Flds.ext HS.out x1) hn).mono ?_
    rintro e w1 ⟨rfl, y1⟩
    rw [HC.out]
    have s1 : Step (W.alloc (.cells #[.string nm, .slice oa fs.length c] 72)) w1 := ⟨y1⟩
    go_wp2_with fail
    go_loop [3, 4] (fun t i => ∃ k : Nat, k ≤ fs.length ∧ i = .int .i64 k ∧ t = .int .i64 (Hd.tot (Hd.wds (fs.take k)))) (fun _ i => fs.length - (intOf i).toNat)
    case atStart => exact ⟨0, Nat.zero_le _, rfl, rfl⟩
    case round =>
      obtain ⟨k, hk, rfl, rfl⟩ := hrel
      by_cases hlt : k < fs.length
      · obtain ⟨⟨nk, x⟩, hxk⟩ : ∃ x, fs[k]? = some x := ⟨_, List.getElem?_eq_getElem hlt⟩
        obtain ⟨b, o, hoa, _, _⟩ := Rows.at HS.out (by omega)
        subst hoa
        obtain ⟨f0, f1, hns, hx1, hx2⟩ := flds_at (Hd.Flds.ext HS.out x1) k nk x hxk rfl
        have hxb := HWD.out x (by unfold Hd.wds; exact List.mem_map.2 ⟨(nk, x), List.mem_of_getElem? hxk, rfl⟩)
        have htk := Hd.tot_bd (ns := Hd.wds (fs.take k)) (fun n hn => HWD.out n (by
          unfold Hd.wds at hn ⊢; obtain ⟨g, hg, rfl⟩ := List.mem_map.1 hn; exact List.mem_map.2 ⟨g, List.mem_of_mem_take hg, rfl⟩))
        have hlk : (Hd.wds (fs.take k)).length = k := by rw [Hd.wds_len, List.length_take]; omega
        rw [hlk] at htk
        have hsn : Hd.wds (fs.take (k + 1)) = Hd.wds (fs.take k) ++ [x] := by
          unfold Hd.wds; rw [List.take_add_one, hxk]; simp
        have HSN := Lib.hid hsn
        clear hxk hsn hlk
        go_wp2_with fail
        go_round
        case rel => exact ⟨k + 1, by omega, by go_num, by rw [HSN.out, Hd.tot_snoc]⟩
        case measure => simp [intOf]; omega
      · obtain rfl : k = fs.length := by omega
        rw [List.take_length]
        go_wp2_with fail
        go_ret
        exact ⟨rfl, x1.trans y1⟩
  · have e : Hd.bts (nm, fs) = 0 := by unfold Hd.bts; rw [if_neg hc]
    have hcb : (Hd.chk (nm, fs) != 0) = true := by simpa using hc
    rw [e]
    clear e hc
    go_enter Try.func114, Try.ntmps114
    go_wp2_with fail
    refine (rhcheck_any (nm, fs) (Hd.Flds.ext HS.out x1) hn).mono ?_
    rintro e w1 ⟨rfl, y1⟩
    go_wp2_with fail
    go_ret
    exact ⟨rfl, x1.trans y1⟩
end Go.Proofs.Ytonnlcjkgpahoaa
