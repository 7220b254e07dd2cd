/- The environment: Width of the package and of its reference, walked. No condition. -/
import Derived.Test.YtonnlcjkgpahoaaPg
namespace Go.Proofs.Ytonnlcjkgpahoaa
open Go.RowKit

namespace Pg
theorem fldAt_in {fs : List Hd.Fld} {k : Nat} {nm : ByteArray} {x : Int} (h : fs[k]? = some (nm, x)) : fldAt fs k = (nm, x) := by
  unfold fldAt; rw [if_pos (by omega), Int.toNat_natCast, List.getD_eq_getElem?_getD, h]; rfl
theorem fldAt_out {fs : List Hd.Fld} {i : Int} (h : i < 0 ∨ (fs.length : Int) ≤ i) : fldAt fs i = (⟨#[]⟩, 0) := by
  unfold fldAt
  by_cases h0 : 0 ≤ i
  · rw [if_pos h0, List.getD_eq_getElem?_getD, List.getElem?_eq_none (by omega)]; rfl
  · rw [if_neg h0]
theorem hdrAt_in {hs : List Hd.Hdr} {k : Nat} {h : Hd.Hdr} (e : hs[k]? = some h) : hdrAt hs k = h := by
  unfold hdrAt; rw [if_pos (by omega), Int.toNat_natCast, List.getD_eq_getElem?_getD, e]; rfl
theorem hdrAt_out {hs : List Hd.Hdr} {i : Int} (h : i < 0 ∨ (hs.length : Int) ≤ i) : hdrAt hs i = (⟨#[]⟩, []) := by
  unfold hdrAt
  by_cases h0 : 0 ≤ i
  · rw [if_pos h0, List.getD_eq_getElem?_getD, List.getElem?_eq_none (by omega)]; rfl
  · rw [if_neg h0]
end Pg

set_option maxRecDepth 8000 in
theorem atField_any {W : World} {v : Value} {fs : List Hd.Fld} (hs : Hd.Flds W v fs) (i : Int) :
    Calls Try.prog 101 #[v, .int .i64 i] W (Rets W (.agg #[.string (Pg.fldAt fs i).1, .int .i64 (Pg.fldAt fs i).2])) := by
  obtain ⟨oa, c, rfl, hlc, hcm⟩ := hs.slice
  unfold maxLen at hcm
  by_cases hin : 0 ≤ i ∧ i < fs.length
  · obtain ⟨h0, h1⟩ := hin
    obtain ⟨k, rfl⟩ := Int.eq_ofNat_of_zero_le h0
    have hlt : k < fs.length := by omega
    obtain ⟨⟨nk, x⟩, hxk⟩ : ∃ x, fs[k]? = some x := ⟨_, List.getElem?_eq_getElem hlt⟩
    obtain ⟨b, o, hoa, _, _⟩ := Rows.at hs (by omega)
    subst hoa
    obtain ⟨f0, f1, hns, hx1, hx2⟩ := flds_at hs k nk x hxk rfl
    rw [Pg.fldAt_in hxk]
    clear hxk hs
    go_enter Try.func101, Try.ntmps101
    go_wp2_with fail
    exact bodyPost_ret (v := .agg #[.string nk, .int .i64 x]) (by simp [results, Try.results101, go_sem]) rfl ⟨rfl, ((Ext.refl W).alloc _).alloc _⟩
  · have hout : i < 0 ∨ (fs.length : Int) ≤ i := by omega
    rw [Pg.fldAt_out hout]
    clear hs hin
    rcases (show i < 0 ∨ (0 ≤ i ∧ (fs.length : Int) ≤ i) by omega) with h0 | ⟨h0, h1⟩
    all_goals
      clear hout
      go_enter Try.func101, Try.ntmps101
      go_wp2_with fail
      exact bodyPost_ret (v := .agg #[.string ⟨#[]⟩, .int .i64 0]) (by simp [results, Try.results101, go_sem]) rfl ⟨rfl, ((Ext.refl W).alloc _).alloc _⟩

theorem hdrs_at {w : World} {b o n c : Nat} {hs : List Hd.Hdr} {oa : Option Addr} (h : Rows w 2 Hd.HdrR (.slice oa n c) hs) (k : Nat) (nm : ByteArray) (fs : List Hd.Fld) (hk : hs[k]? = some (nm, fs)) (hoa : oa = some ⟨b, o, none⟩) :
    ∃ fa fc, (∀ w' [Grows w w'], w'.cell? ⟨b, o + k * 2, none⟩ = some (.string nm)) ∧ (∀ w' [Grows w w'], w'.cell? ⟨b, o + k * 2 + 1, none⟩ = some (.slice fa fs.length fc)) ∧ nm.size ≤ maxLen ∧ Hd.Flds w (.slice fa fs.length fc) fs ∧ fs.length ≤ fc ∧ fc ≤ maxLen := by
  have hlt := (List.getElem?_eq_some_iff.1 hk).1
  obtain ⟨b', o', hb, hn, hc⟩ := Rows.at h (by omega)
  rw [hb] at hoa
  simp only [Option.some.injEq, Addr.mk.injEq, and_true] at hoa
  obtain ⟨rfl, rfl⟩ := hoa
  obtain ⟨cs, _, ⟨fv, rfl, h1, h2⟩, hcs⟩ := hc k _ hk
  obtain ⟨fa, fc, rfl, h3, h4⟩ := h2.slice
  exact ⟨fa, fc, alw (hcs 0 _ rfl), alw (hcs 1 _ rfl), h1, h2, h3, h4⟩

set_option maxRecDepth 8000 in
theorem atHeader_any {W : World} {v : Value} {hs : List Hd.Hdr} (hr : Rows W 2 Hd.HdrR v hs) (i : Int) :
    ∃ u, Hd.Flds W u (Pg.hdrAt hs i).2 ∧ ∀ w, Ext W w → Calls Try.prog 112 #[v, .int .i64 i] w (Rets w (.agg #[.string (Pg.hdrAt hs i).1, u])) := by
  obtain ⟨oa, c, rfl, hlc, hcm⟩ := hr.slice
  unfold maxLen at hcm
  by_cases hin : 0 ≤ i ∧ i < hs.length
  · obtain ⟨h0, h1⟩ := hin
    obtain ⟨k, rfl⟩ := Int.eq_ofNat_of_zero_le h0
    have hlt : k < hs.length := by omega
    obtain ⟨⟨nk, fs⟩, hxk⟩ : ∃ x, hs[k]? = some x := ⟨_, List.getElem?_eq_getElem hlt⟩
    obtain ⟨b, o, hoa, _, _⟩ := Rows.at hr (by omega)
    subst hoa
    obtain ⟨fa, fc, f0, f1, hns, hf, _, _⟩ := hdrs_at hr k nk fs hxk rfl
    rw [Pg.hdrAt_in hxk]
    refine ⟨_, hf, fun w hx => ?_⟩
    have sx : Step W w := ⟨hx⟩
    clear hxk hr hf
    go_enter Try.func112, Try.ntmps112
    go_wp2_with fail
    exact bodyPost_ret (v := .agg #[.string nk, .slice fa fs.length fc]) (by simp [results, Try.results112, go_sem]) rfl ⟨rfl, ((Ext.refl w).alloc _).alloc _⟩
  · have hout : i < 0 ∨ (hs.length : Int) ≤ i := by omega
    rw [Pg.hdrAt_out hout]
    refine ⟨_, Hd.flds_nil W, fun w hx => ?_⟩
    clear hr hin hx
    rcases (show i < 0 ∨ (0 ≤ i ∧ (hs.length : Int) ≤ i) by omega) with h0 | ⟨h0, h1⟩
    all_goals
      clear hout
      go_enter Try.func112, Try.ntmps112
      go_wp2_with fail
      exact bodyPost_ret (v := .agg #[.string ⟨#[]⟩, .slice none 0 0]) (by simp [results, Try.results112, go_sem]) rfl ⟨rfl, ((Ext.refl w).alloc _).alloc _⟩

namespace Pg
/-- the nine values of a program -/
structure Form (w : World) (p : PV) (P : Prog) (s : ByteArray) (a1 a2 a3 a4 a5 a6 a7 a8 : Option Addr) (m1 m2 n3 m3 n4 m4 n5 m5 n6 m6 n7 m7 m8 : Nat) : Prop where
  e : p = ⟨.string s, .slice a1 P.hs.length m1, .slice a2 P.md.length m2, .slice a3 n3 m3, .slice a4 n4 m4, .slice a5 n5 m5, .slice a6 n6 m6, .slice a7 n7 m7, .slice a8 P.dp.length m8⟩
  hs : Rows w 2 Hd.HdrR (.slice a1 P.hs.length m1) P.hs
  md : Hd.Flds w (.slice a2 P.md.length m2) P.md
  dp : Ns .i64 w (.slice a8 P.dp.length m8) P.dp
  l1 : P.hs.length ≤ m1 ∧ m1 ≤ 9223372036854775807
  l2 : P.md.length ≤ m2 ∧ m2 ≤ 9223372036854775807
  l8 : P.dp.length ≤ 9223372036854775807
theorem IsP.form {w : World} {p : PV} {P : Prog} (h : IsP w p P) : ∃ s a1 a2 a3 a4 a5 a6 a7 a8 m1 m2 n3 m3 n4 m4 n5 m5 n6 m6 n7 m7 m8, Form w p P s a1 a2 a3 a4 a5 a6 a7 a8 m1 m2 n3 m3 n4 m4 n5 m5 n6 m6 n7 m7 m8 := by
  obtain ⟨c0, c1, c2, c3, c4, c5, c6, c7, c8⟩ := p
  obtain ⟨⟨s, h0⟩, h1, h2, ⟨a3, n3, m3, h3⟩, ⟨a4, n4, m4, h4⟩, ⟨a5, n5, m5, h5⟩, ⟨a6, n6, m6, h6⟩, ⟨a7, n7, m7, h7⟩, h8⟩ := h
  dsimp only at h0 h1 h2 h3 h4 h5 h6 h7 h8
  subst h0 h3 h4 h5 h6 h7
  obtain ⟨a1, m1, rfl, l1, l1'⟩ := h1.slice
  obtain ⟨a2, m2, rfl, l2, l2'⟩ := h2.slice
  obtain ⟨a8, m8, rfl, _⟩ := h8.1.slice
  have := h8.2
  unfold maxLen at l1' l2' this
  exact ⟨s, a1, a2, a3, a4, a5, a6, a7, a8, m1, m2, n3, m3, n4, m4, n5, m5, n6, m6, n7, m7, m8, ⟨rfl, h1, h2, h8, ⟨l1, by omega⟩, ⟨l2, by omega⟩, by omega⟩⟩
end Pg

theorem field_hdr (s : ByteArray) (a : Option Addr) (n c : Nat) (w : World) : (Instr.field 72 (.agg #[.string s, .slice a n c]) 1).run Try.prog w = .ok (.slice a n c) w := by kernel_rfl
theorem field_fld (s : ByteArray) (x : Int) (w : World) : (Instr.field 84 (.agg #[.string s, .int .i64 x]) 1).run Try.prog w = .ok (.int .i64 x) w := by kernel_rfl

set_option maxRecDepth 8000 in
theorem fields_any {W : World} {p : Pg.PV} {P : Pg.Prog} (hp : Pg.IsP W p P) (i : Int) :
    ∃ u, Hd.Flds W u (Pg.flds P i) ∧ ∀ w, Ext W w → Calls Try.prog 102 #[p.val, .int .i64 i] w (Rets w u) := by
  obtain ⟨s, a1, a2, a3, a4, a5, a6, a7, a8, m1, m2, n3, m3, n4, m4, n5, m5, n6, m6, n7, m7, m8, hf⟩ := hp.form
  obtain ⟨rfl, hhs, hmd, _, _, _, _⟩ := hf
  by_cases hi : i = -1
  · refine ⟨_, by unfold Pg.flds; rw [if_pos hi]; exact hmd, fun w hx => ?_⟩
    subst hi
    dsimp only [Pg.PV.val]
    have bb := alloc_heap w (.cells #[.string s, .slice a1 P.hs.length m1, .slice a2 P.md.length m2, .slice a3 n3 m3, .slice a4 n4 m4, .slice a5 n5 m5, .slice a6 n6 m6, .slice a7 n7 m7, .slice a8 P.dp.length m8] 31)
    have k2 := alw (cell_of (o := 2) bb)
    clear bb hp hhs hmd hx
    go_enter Try.func102, Try.ntmps102
    go_wp2_with fail
    go_ret
    exact ⟨rfl, grows⟩
  · obtain ⟨u, hu, hc⟩ := atHeader_any hhs i
    obtain ⟨ua, uc, rfl, _, _⟩ := hu.slice
    refine ⟨_, by unfold Pg.flds; rw [if_neg hi]; exact hu, fun w hx => ?_⟩
    have hib : (i == -1) = false := by rw [beq_eq_false_iff_ne]; exact hi
    dsimp only [Pg.PV.val]
    have bb := alloc_heap w (.cells #[.string s, .slice a1 P.hs.length m1, .slice a2 P.md.length m2, .slice a3 n3 m3, .slice a4 n4 m4, .slice a5 n5 m5, .slice a6 n6 m6, .slice a7 n7 m7, .slice a8 P.dp.length m8] 31)
    have k1 := alw (cell_of (o := 1) bb)
    have HC := Lib.hid hc
    have HX := Lib.hid hx
    have hfh := field_hdr
    clear bb hp hhs hmd hu hc hi hx
    go_enter Try.func102, Try.ntmps102
    go_wp2_with fail
    refine (HC.out _ (HX.out.trans grows)).mono ?_
    rintro e w1 ⟨rfl, x1⟩
    have s1 := Step.mk x1
    go_wp2_with fail
    go_ret
    exact ⟨rfl, grows⟩
theorem mask_zero {w : Int} : (Bv.mask w == 0) = !(Bv.ok w) := by
  cases h : Bv.ok w
  · simp [Bv.mask, h]
  · have h1 := Bv.ok_iff.1 h
    have h2 : (1 : Int) < Bv.pw w := by
      have := Bv.pw_lt (a := 0) (b := w) (by decide) (by omega)
      simpa [Bv.pw] using this
    simp [Bv.mask, h]; omega
set_option maxRecDepth 8000 in
theorem width_any {W : World} {p : Pg.PV} {P : Pg.Prog} (hp : Pg.IsP W p P) (h f : Int) :
    Calls Try.prog 77 #[p.val, .agg #[.int .i64 h, .int .i64 f]] W (Rets W (.int .i64 (Pg.wid P h f))) := by
  obtain ⟨u, hu, hc⟩ := fields_any hp h
  obtain ⟨ua, uc, rfl, _, _⟩ := hu.slice
  have HP := Lib.hid hp
  obtain ⟨s, a1, a2, a3, a4, a5, a6, a7, a8, m1, m2, n3, m3, n4, m4, n5, m5, n6, m6, n7, m7, m8, hf⟩ := hp.form
  obtain ⟨rfl, hhs, hmd, _, _, _, _⟩ := hf
  have HC := Lib.hid hc
  have HU := Lib.hid hu
  dsimp only [Pg.PV.val] at HC ⊢
  have bb := alloc_heap W (.cells #[.string s, .slice a1 P.hs.length m1, .slice a2 P.md.length m2, .slice a3 n3 m3, .slice a4 n4 m4, .slice a5 n5 m5, .slice a6 n6 m6, .slice a7 n7 m7, .slice a8 P.dp.length m8] 31)
  have k0 := alw (cell_of (o := 0) bb)
  have k1 := alw (cell_of (o := 1) bb)
  have k2 := alw (cell_of (o := 2) bb)
  have k3 := alw (cell_of (o := 3) bb)
  have k4 := alw (cell_of (o := 4) bb)
  have k5 := alw (cell_of (o := 5) bb)
  have k6 := alw (cell_of (o := 6) bb)
  have k7 := alw (cell_of (o := 7) bb)
  have k8 := alw (cell_of (o := 8) bb)
  have b2 := alloc_heap (W.alloc (.cells #[.string s, .slice a1 P.hs.length m1, .slice a2 P.md.length m2, .slice a3 n3 m3, .slice a4 n4 m4, .slice a5 n5 m5, .slice a6 n6 m6, .slice a7 n7 m7, .slice a8 P.dp.length m8] 31)) (.cells #[.int .i64 h, .int .i64 f] 58)
  rw [World.size_alloc] at b2
  have j0 := alw (cell_of (o := 0) b2)
  have j1 := alw (cell_of (o := 1) b2)
  obtain ⟨x, hx⟩ : ∃ x, x = (Pg.fldAt (Pg.flds P h) f).2 := ⟨_, rfl⟩
  have HXE := Lib.hid hx
  have hm := mask_zero (w := x)
  have hff := field_fld
  clear bb b2 hp hhs hmd hu hc hx
  cases hk : Bv.ok x
  all_goals
    rw [hk] at hm
    have HK := Lib.hid hk
    clear hk
    go_enter Try.func77, Try.ntmps77
    go_wp2_with fail
    refine wp_region_later (W := (W.alloc (.cells #[.string s, .slice a1 P.hs.length m1, .slice a2 P.md.length m2, .slice a3 n3 m3, .slice a4 n4 m4, .slice a5 n5 m5, .slice a6 n6 m6, .slice a7 n7 m7, .slice a8 P.dp.length m8] 31)).alloc (.cells #[.int .i64 h, .int .i64 f] 58)) (by kernel_rfl) (by kernel_rfl) (Ext.refl _) ?_
    repeat (go_big_quiet_step (first
      | (go_at_call 102; exact Rets.later_at (HC.out _ grows))
      | (go_at_call 101; exact Rets.later_at (atField_any (Hd.Flds.ext HU.out grows) _))))
    refine wpQuiet_nil ?_
    intro w3 hx3
    have s3 := Step.mk hx3
    rw [← HXE.out]
    go_wp2_with fail
    refine (mask_any x w3).mono ?_
    rintro e w4 ⟨rfl, x4⟩
    have s4 : Step w3 w4 := ⟨x4⟩
    go_wp2_with fail
    go_ret
    exact ⟨by unfold Pg.wid; rw [← HXE.out, HK.out]; rfl, grows⟩
end Go.Proofs.Ytonnlcjkgpahoaa
