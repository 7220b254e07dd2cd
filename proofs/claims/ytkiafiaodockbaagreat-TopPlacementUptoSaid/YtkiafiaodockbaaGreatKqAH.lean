/- Programs checked: limits, headers, walked. Programs checked: metadata, walked. Programs checked: registers, actions, tables, flow, walked. Programs checked: Check, walked. No condition. -/
import Derived.Test.YtkiafiaodockbaaGreatKqAG
import Derived.Defers
import Derived.Laws.Pointers
import Derived.Recover
set_option maxRecDepth 8000
set_option maxHeartbeats 16000000
namespace Go.Proofs.YtkiafiaodockbaaGreat
open Go.RowKit
theorem thr_ok {W W' : World} {x : Int} {e : Ending} (h : x = 0) (hx : Ext W W') (he : e = .returned (.tuple #[])) : Thr W x e W' := ⟨hx, .inl ⟨h, he⟩⟩
theorem thr_bad {W W' : World} {x y a b c : Int} (h : y = x) (hx : Ext W W') (hy : x ≠ 0) : Thr W y (.panicked [{ v := .iface 103 (.agg #[.int .i64 x, .int .i64 a, .int .i64 b, .int .i64 c]), recovered := false }]) W' := ⟨hx, .inr ⟨by rw [h]; exact hy, a, b, c, by rw [h]⟩⟩
theorem wz {b : Bool} {z c : Int} (hz : z = if b then c else 0) (h : z = 0) (hc : c ≠ 0) : b = false := by
 cases b with
 | false => rfl
 | true => rw [hz] at h; exact absurd h hc
theorem wn {b : Bool} {z c : Int} (hz : z = if b then c else 0) (h : z ≠ 0) : b = true ∧ z = c := by
 cases b with
 | true => exact ⟨rfl, hz⟩
 | false => rw [hz] at h; exact absurd rfl h
/-- what when leaves -/
def WhenP (W : World) (b : Bool) (x : Int) (e : Ending) (w' : World) : Prop := ∃ z : Int, z = (if b then x else 0) ∧ e = .returned (.int .i64 z) ∧ Ext W w'
theorem when_hid (b : Bool) (x : Int) (W : World) : Calls Tryz.prog 35 #[.bool b, .int .i64 x] W (WhenP W b x) := (when_any b x W).mono fun _ _ h => ⟨_, rfl, h.1, h.2⟩
theorem meta_same (hn : ByteArray) : (hn.toList == [109, 101, 116, 97]) = Hd.same hn Tj.metaN := by
 have e : Tj.metaN.toList = [109, 101, 116, 97] := by rw [ByteArray.toList_eq]; rfl
 unfold Hd.same; rw [e]
theorem climits_any {W : World} {p : Pg.PV} {F : Tj.FP} (hF : Tj.IsF W p F) : Calls Tryz.prog 20 #[p.val] W (Thr W (Tj.limE F)) := by
 obtain ⟨a1, a2, a3, a4, a5, a6, a7, a8, m1, m2, m3, m4, m5, m6, n7, m7, m8, hf⟩ := hF.form
 obtain ⟨rfl, hnm, hhs, hmd, hrs, has, hts, hss, hct, hdp, l1, l2, l3, l4, l5, l6, l7, l8⟩ := hf
 obtain ⟨R, hR⟩ : ∃ z, z = Tj.limE F := ⟨_, rfl⟩
 rw [← hR]
 unfold Tj.limE at hR
 dsimp only [Pg.PV.val]
 have HNM := Lh hnm
 have HR := Lh hR
 have bx := aH W (.cells (Yq0 F a1 m1 a2 m2 a3 m3 a4 m4 a5 m5 a6 m6 a7 m7 n7 a8 m8) 31)
 have k0 := alw (cQ 0 bx)
 have k1 := alw (cQ 1 bx)
 have k2 := alw (cQ 2 bx)
 have k3 := alw (cQ 3 bx)
 have k4 := alw (cQ 4 bx)
 have k5 := alw (cQ 5 bx)
 have k6 := alw (cQ 6 bx)
 have k7 := alw (cQ 7 bx)
 have k8 := alw (cQ 8 bx)
 clear bx
 clear hF hnm hhs hmd hrs has hts hss hct hdp
 clear hR
 go_enter Tryz.func20, Tryz.ntmps20
 go_wp2_with fail
 refine via (pident_any _ HNM.out _) fun w1 xw1 sw1 => ?_
 go_wp2_with fail
 refine (when_hid _ _ _).mono ?_
 rintro e wa0 ⟨z0, hw0, rfl, xwa0⟩
 have swa0 := Sm xwa0
 have HW0 := Lh hw0
 clear hw0
 go_wp2_with fail
 refine (require_any _ _ _ _ _).mono ?_
 rintro e wb0 ⟨xwb0, hz0 | hz0⟩
 rotate_left
 ·obtain ⟨hz0, a, b, c, rfl⟩ := hz0
  have swb0 := Sm xwb0
  exact ⟨rfl, thr_bad (by have h := wn HW0.out hz0; rw [h.2, HR.out, if_neg (by simpa using h.1)]) grows hz0⟩
 obtain ⟨hz0, rfl⟩ := hz0
 have swb0 := Sm xwb0
 have HG0 := Lh hz0
 clear hz0
 go_wp2_with fail
 refine (when_hid _ _ _).mono ?_
 rintro e wa1 ⟨z1, hw1, rfl, xwa1⟩
 have swa1 := Sm xwa1
 have HW1 := Lh hw1
 clear hw1
 go_wp2_with fail
 refine (require_any _ _ _ _ _).mono ?_
 rintro e wb1 ⟨xwb1, hz1 | hz1⟩
 rotate_left
 ·obtain ⟨hz1, a, b, c, rfl⟩ := hz1
  have swb1 := Sm xwb1
  exact ⟨rfl, thr_bad (by rw [HR.out, if_pos (by have h := wz HW0.out HG0.out (by decide); simpa using h), if_pos (by have h := of_decide_eq_true (wn HW1.out hz1).1; omega), (wn HW1.out hz1).2]) grows hz1⟩
 obtain ⟨hz1, rfl⟩ := hz1
 have swb1 := Sm xwb1
 have HG1 := Lh hz1
 clear hz1
 go_wp2_with fail
 refine (when_hid _ _ _).mono ?_
 rintro e wa2 ⟨z2, hw2, rfl, xwa2⟩
 have swa2 := Sm xwa2
 have HW2 := Lh hw2
 clear hw2
 go_wp2_with fail
 refine (require_any _ _ _ _ _).mono ?_
 rintro e wb2 ⟨xwb2, hz2 | hz2⟩
 rotate_left
 ·obtain ⟨hz2, a, b, c, rfl⟩ := hz2
  have swb2 := Sm xwb2
  exact ⟨rfl, thr_bad (by rw [HR.out, if_pos (by have h := wz HW0.out HG0.out (by decide); simpa using h), if_neg (by have h := of_decide_eq_false (wz HW1.out HG1.out (by decide)); omega), if_pos (by have h := of_decide_eq_true (wn HW2.out hz2).1; omega), (wn HW2.out hz2).2]) grows hz2⟩
 obtain ⟨hz2, rfl⟩ := hz2
 have swb2 := Sm xwb2
 have HG2 := Lh hz2
 clear hz2
 go_wp2_with fail
 refine (when_hid _ _ _).mono ?_
 rintro e wa3 ⟨z3, hw3, rfl, xwa3⟩
 have swa3 := Sm xwa3
 have HW3 := Lh hw3
 clear hw3
 go_wp2_with fail
 refine (require_any _ _ _ _ _).mono ?_
 rintro e wb3 ⟨xwb3, hz3 | hz3⟩
 rotate_left
 ·obtain ⟨hz3, a, b, c, rfl⟩ := hz3
  have swb3 := Sm xwb3
  exact ⟨rfl, thr_bad (by rw [HR.out, if_pos (by have h := wz HW0.out HG0.out (by decide); simpa using h), if_neg (by have h := of_decide_eq_false (wz HW1.out HG1.out (by decide)); omega), if_neg (by have h := of_decide_eq_false (wz HW2.out HG2.out (by decide)); omega), if_pos (by have h := of_decide_eq_true (wn HW3.out hz3).1; omega), (wn HW3.out hz3).2]) grows hz3⟩
 obtain ⟨hz3, rfl⟩ := hz3
 have swb3 := Sm xwb3
 have HG3 := Lh hz3
 clear hz3
 go_wp2_with fail
 refine (when_hid _ _ _).mono ?_
 rintro e wa4 ⟨z4, hw4, rfl, xwa4⟩
 have swa4 := Sm xwa4
 have HW4 := Lh hw4
 clear hw4
 go_wp2_with fail
 refine (require_any _ _ _ _ _).mono ?_
 rintro e wb4 ⟨xwb4, hz4 | hz4⟩
 rotate_left
 ·obtain ⟨hz4, a, b, c, rfl⟩ := hz4
  have swb4 := Sm xwb4
  exact ⟨rfl, thr_bad (by rw [HR.out, if_pos (by have h := wz HW0.out HG0.out (by decide); simpa using h), if_neg (by have h := of_decide_eq_false (wz HW1.out HG1.out (by decide)); omega), if_neg (by have h := of_decide_eq_false (wz HW2.out HG2.out (by decide)); omega), if_neg (by have h := of_decide_eq_false (wz HW3.out HG3.out (by decide)); omega), if_pos (by have h := of_decide_eq_true (wn HW4.out hz4).1; omega), (wn HW4.out hz4).2]) grows hz4⟩
 obtain ⟨hz4, rfl⟩ := hz4
 have swb4 := Sm xwb4
 have HG4 := Lh hz4
 clear hz4
 go_wp2_with fail
 first | go_end0 | skip
 refine thr_ok ?_ grows (by first | rfl | trivial)
 rw [HR.out, if_pos (by have h := wz HW0.out HG0.out (by decide); simpa using h), if_neg (by have h := of_decide_eq_false (wz HW1.out HG1.out (by decide)); omega), if_neg (by have h := of_decide_eq_false (wz HW2.out HG2.out (by decide)); omega), if_neg (by have h := of_decide_eq_false (wz HW3.out HG3.out (by decide)); omega), if_neg (by have h := of_decide_eq_false (wz HW4.out HG4.out (by decide)); omega)]
namespace Tj
def namedG {α : Type} (nm : α → ByteArray) (f : α → Int) (l : List α) (i : Nat) : Int := match l[i]? with | some x => if f x ≠ 0 then f x else if rep (l.map nm) i then 7 else 0 | none => 0
theorem namedE_eq {α : Type} (nm : α → ByteArray) (f : α → Int) (l : List α) : namedE nm f l = firstE (namedG nm f l) (List.range l.length) := rfl
theorem namedG_at {α : Type} {nm : α → ByteArray} {f : α → Int} {l : List α} {k : Nat} {x : α} (hk : l[k]? = some x) : namedG nm f l k = if f x ≠ 0 then f x else if rep (l.map nm) k then 7 else 0 := by
 unfold namedG; rw [hk]
theorem namedE_bad {α : Type} {nm : α → ByteArray} {f : α → Int} {l : List α} {k : Nat} {x : α} {y : Int} (hk : l[k]? = some x) (hz : ∀ j, j < k → namedG nm f l j = 0)
 (h : (if f x ≠ 0 then f x else if rep (l.map nm) k then 7 else 0) = y) (hy : y ≠ 0) : namedE nm f l = y := by
 have e : namedG nm f l k = y := by rw [namedG_at hk]; exact h
 rw [namedE_eq, rangeE_at (List.getElem?_eq_some_iff.1 hk).1 hz (by rw [e]; exact hy), e]
theorem namedE_zero {α : Type} {nm : α → ByteArray} {f : α → Int} {l : List α} (hz : ∀ j, j < l.length → namedG nm f l j = 0) : namedE nm f l = 0 := by
 rw [namedE_eq]; exact rangeE_zero hz
end Tj
theorem hdE_0 {hn : ByteArray} {fs : List Hd.Fld} (h1 : Hd.chk (hn, fs) = 0) (h2 : Hd.same hn Tj.metaN = false) : Tj.hdE (hn, fs) = 0 := by
 unfold Tj.hdE; rw [if_neg (by simpa using h1), if_neg (by rw [h2]; decide)]
theorem hdgood {hs : List Hd.Hdr} {k : Nat} {hn : ByteArray} {fs : List Hd.Fld} (hx : hs[k]? = some (hn, fs)) (h1 : Hd.chk (hn, fs) = 0) (h2 : Hd.same hn Tj.metaN = false) (h3 : Tj.rep (hs.map (fun h : Hd.Hdr => h.1)) k = false) : Tj.namedG (fun h : Hd.Hdr => h.1) Tj.hdE hs k = 0 := by
 rw [Tj.namedG_at hx, if_neg (by simpa using hdE_0 h1 h2), if_neg (by rw [h3]; decide)]
theorem hdbad2 {R z : Int} {hs : List Hd.Hdr} {k : Nat} {hn : ByteArray} {fs : List Hd.Fld} (hR : R = Tj.namedE (fun h : Hd.Hdr => h.1) Tj.hdE hs) (hx : hs[k]? = some (hn, fs)) (hz : ∀ j, j < k → Tj.namedG (fun h : Hd.Hdr => h.1) Tj.hdE hs j = 0) (h1 : Hd.chk (hn, fs) = 0)
 (hw : z = if (hn.toList == [109, 101, 116, 97]) then 6 else 0) (h : z ≠ 0) : R = z := by
 obtain ⟨h2, h3⟩ := wn hw h
 have e : Tj.hdE (hn, fs) = 6 := by unfold Tj.hdE; rw [if_neg (by simpa using h1), if_pos (by rw [← meta_same]; exact h2)]
 rw [hR]
 exact Tj.namedE_bad hx hz (by rw [e, if_pos (by decide), h3]) h
theorem hdbad3 {R z : Int} {hs : List Hd.Hdr} {k : Nat} {hn : ByteArray} {fs : List Hd.Fld} (hR : R = Tj.namedE (fun h : Hd.Hdr => h.1) Tj.hdE hs) (hx : hs[k]? = some (hn, fs)) (hz : ∀ j, j < k → Tj.namedG (fun h : Hd.Hdr => h.1) Tj.hdE hs j = 0) (h1 : Hd.chk (hn, fs) = 0) (h2 : Hd.same hn Tj.metaN = false)
 (hw : z = if Tj.rep (hs.map (fun h : Hd.Hdr => h.1)) k then 7 else 0) (h : z ≠ 0) : R = z := by
 obtain ⟨h3, h4⟩ := wn hw h
 rw [hR]
 exact Tj.namedE_bad hx hz (by rw [if_neg (by simpa using hdE_0 h1 h2), if_pos h3, h4]) h
theorem cheaders_any {W : World} {p : Pg.PV} {F : Tj.FP} (hF : Tj.IsF W p F) (hl : F.P.hs.length ≤ 8) : Calls Tryz.prog 21 #[p.val] W (Thr W (Tj.namedE (·.1) Tj.hdE F.P.hs)) := by
 obtain ⟨a1, a2, a3, a4, a5, a6, a7, a8, m1, m2, m3, m4, m5, m6, n7, m7, m8, hf⟩ := hF.form
 obtain ⟨rfl, hnm, hhs, hmd, hrs, has, hts, hss, hct, hdp, l1, l2, l3, l4, l5, l6, l7, l8⟩ := hf
 obtain ⟨R, hR⟩ : ∃ z, z = Tj.namedE (·.1) Tj.hdE F.P.hs := ⟨_, rfl⟩
 rw [← hR]
 dsimp only [Pg.PV.val]
 have HH := Lh hhs
 have HNS : Hid (∀ w, Ext W w → Calls Tryz.prog 37 #[.slice a1 F.P.hs.length m1, .func (.func 38) #[] #[]] w (StsP w (F.P.hs.map (fun h : Hd.Hdr => h.1)))) := Lh (fun w hx => namesHeader_any (hhs.ext (fun _ _ h => h.ext hx) hx) (by omega))
 have HR := Lh hR
 have hml : (F.P.hs.map (fun h : Hd.Hdr => h.1)).length = F.P.hs.length := List.length_map _
 have bx := aH W (.cells (Yq0 F a1 m1 a2 m2 a3 m3 a4 m4 a5 m5 a6 m6 a7 m7 n7 a8 m8) 31)
 have k0 := alw (cQ 0 bx)
 have k1 := alw (cQ 1 bx)
 have k2 := alw (cQ 2 bx)
 have k3 := alw (cQ 3 bx)
 have k4 := alw (cQ 4 bx)
 have k5 := alw (cQ 5 bx)
 have k6 := alw (cQ 6 bx)
 have k7 := alw (cQ 7 bx)
 have k8 := alw (cQ 8 bx)
 clear bx
 clear hF hnm hhs hmd hrs has hts hss hct hdp
 clear hR
 go_enter Tryz.func21, Tryz.ntmps21
 go_wp2_with fail
 refine (HNS.out _ grows).mono ?_
 rintro e w2 ⟨na, nc, rfl, x2, hst, hnc⟩
 have HST := Lh hst
 have s2 := Sm x2
 rw [hml] at HST hnc
 rw [hml]
 clear hst
 go_wp2_with fail
 go_loopw [11] (fun q wr => ∃ k : Nat, k ≤ F.P.hs.length ∧ q = .int .i64 k ∧ Hid (Ext w2 wr ∧ ∀ j, j < k → Tj.namedG (fun h : Hd.Hdr => h.1) Tj.hdE F.P.hs j = 0)) (fun q _ => F.P.hs.length - (intOf q).toNat)
 case atStart => exact ⟨0, Nat.zero_le _, rfl, Lh ⟨eR _, by intro j hj; omega⟩⟩
 case round =>
  obtain ⟨k, hk, rfl, HZ⟩ := hrel
  have sx : Step w2 wr := ⟨HZ.out.1⟩
  by_cases hlt : k < F.P.hs.length
  ·obtain ⟨⟨hn, fs⟩, hx⟩ : ∃ x, F.P.hs[k]? = some x := ⟨_, gE hlt⟩
   obtain ⟨b, o, rfl, _, _⟩ := Rows.at HH.out (by omega)
   obtain ⟨fa, fc, u0, u1, hns, hfs, _, _⟩ := hdrs_at HH.out k hn fs hx rfl
   have HX := Lh hx
   have HCK := Lh (fun (w : World) (hx : Ext W w) => hcheck_any (hn, fs) (hfs.ext hx) hns)
   have HRP := Lh (fun (w : World) (hx : Ext w2 w) => by
    have h := repeated_any (W := w) (oa := na) (c := nc) (l := F.P.hs.map (fun h : Hd.Hdr => h.1)) (by rw [hml]; exact HST.out.ext hx) (by rw [hml]; exact hnc) k (by rw [hml]; exact hlt)
    rw [hml] at h; exact h)
   obtain ⟨ck, hck⟩ : ∃ z, z = Hd.chk (hn, fs) := ⟨_, rfl⟩
   obtain ⟨rp, hrp⟩ : ∃ z, z = Tj.rep (F.P.hs.map (fun h : Hd.Hdr => h.1)) k := ⟨_, rfl⟩
   rw [← hck] at HCK
   rw [← hrp] at HRP
   have HCE := Lh hck
   have HRE := Lh hrp
   have bx := aH wr (.cells #[.string hn, .slice fa fs.length fc] 81)
   have m0 := alw (cQ 0 bx)
   have m1 := alw (cQ 1 bx)
   clear bx
   clear hx hfs hns hck hrp
   go_wp2_with fail
   refine via (HCK.out _ grows) fun w3 x3 s3 => ?_
   go_wp2_with fail
   refine (require_any _ _ _ _ _).mono ?_
   rintro e wb1 ⟨xwb1, hz1 | hz1⟩
   rotate_left
   ·obtain ⟨hz1, a, b, c, rfl⟩ := hz1
    have swb1 := Sm xwb1
    exact ⟨rfl, thr_bad (by rw [HR.out]; exact Tj.namedE_bad HX.out HZ.out.2 (by unfold Tj.hdE; rw [← HCE.out, if_pos hz1, if_pos hz1]) hz1) grows hz1⟩
   obtain ⟨hz1, rfl⟩ := hz1
   have swb1 := Sm xwb1
   have HG1 := Lh hz1
   clear hz1
   go_wp2_with fail
   refine (when_hid _ _ _).mono ?_
   rintro e wa2 ⟨z2, hw2, rfl, xwa2⟩
   have swa2 := Sm xwa2
   have HW2 := Lh hw2
   clear hw2
   go_wp2_with fail
   refine (require_any _ _ _ _ _).mono ?_
   rintro e wb2 ⟨xwb2, hz2 | hz2⟩
   rotate_left
   ·obtain ⟨hz2, a, b, c, rfl⟩ := hz2
    have swb2 := Sm xwb2
    exact ⟨rfl, thr_bad (hdbad2 HR.out HX.out HZ.out.2 (by rw [← HCE.out]; exact HG1.out) HW2.out hz2) grows hz2⟩
   obtain ⟨hz2, rfl⟩ := hz2
   have swb2 := Sm xwb2
   have HG2 := Lh hz2
   clear hz2
   go_wp2_with fail
   refine via (HRP.out _ grows) fun w8 x8 s8 => ?_
   go_wp2_with fail
   refine (when_hid _ _ _).mono ?_
   rintro e wa3 ⟨z3, hw3, rfl, xwa3⟩
   have swa3 := Sm xwa3
   have HW3 := Lh hw3
   clear hw3
   go_wp2_with fail
   refine (require_any _ _ _ _ _).mono ?_
   rintro e wb3 ⟨xwb3, hz3 | hz3⟩
   rotate_left
   ·obtain ⟨hz3, a, b, c, rfl⟩ := hz3
    have swb3 := Sm xwb3
    exact ⟨rfl, thr_bad (hdbad3 HR.out HX.out HZ.out.2 (by rw [← HCE.out]; exact HG1.out) (by rw [← meta_same]; exact wz HW2.out HG2.out (by decide)) (by rw [← HRE.out]; exact HW3.out) hz3) grows hz3⟩
   obtain ⟨hz3, rfl⟩ := hz3
   have swb3 := Sm xwb3
   have HG3 := Lh hz3
   clear hz3
   go_wp2_with fail
   go_roundw
   case rel =>
    refine ⟨k + 1, by omega, by go_num, Lh ⟨grows, fun j hj => ?_⟩⟩
    rcases Nat.lt_or_ge j k with h1 | h1
    ·exact HZ.out.2 j h1
    ·obtain rfl : j = k := by omega
     exact hdgood HX.out (by rw [← HCE.out]; exact HG1.out) (by rw [← meta_same]; exact wz HW2.out HG2.out (by decide)) (by rw [← HRE.out]; exact wz HW3.out HG3.out (by decide))
   case measure => simp [intOf]; omega
  ·obtain rfl : k = F.P.hs.length := by omega
   go_wp2_with fail
   first | go_end0 | skip
   exact thr_ok (by rw [HR.out]; exact Tj.namedE_zero HZ.out.2) grows (by first | rfl | trivial)
theorem mf_id {f : Hd.Fld} (h : Id.ok f.1 = false) : Tj.mfE f = 6 := by unfold Tj.mfE; rw [if_neg (by rw [h]; decide)]
theorem mf_wd {f : Hd.Fld} (h : Id.ok f.1 = true) (h2 : f.2 < 1 ∨ 32 < f.2) : Tj.mfE f = 10 := by unfold Tj.mfE; rw [if_pos h, if_pos h2]
theorem mf_0 {f : Hd.Fld} (h : Id.ok f.1 = true) (h2 : ¬ (f.2 < 1 ∨ 32 < f.2)) : Tj.mfE f = 0 := by unfold Tj.mfE; rw [if_pos h, if_neg h2]
theorem mdbad {z y : Int} {md : List Hd.Fld} {k : Nat} {f : Hd.Fld} (hx : md[k]? = some f) (hz : ∀ j, j < k → Tj.namedG (fun h : Hd.Fld => h.1) Tj.mfE md j = 0) (e : Tj.mfE f = y) (hy : y ≠ 0) (hzy : z = y) : Tj.namedE (fun h : Hd.Fld => h.1) Tj.mfE md = z := by
 subst hzy
 exact Tj.namedE_bad hx hz (by rw [e, if_pos hy]) hy
theorem mdrep {z : Int} {md : List Hd.Fld} {k : Nat} {f : Hd.Fld} (hx : md[k]? = some f) (hz : ∀ j, j < k → Tj.namedG (fun h : Hd.Fld => h.1) Tj.mfE md j = 0) (e : Tj.mfE f = 0) (hr : Tj.rep (md.map (fun h : Hd.Fld => h.1)) k = true) (hy : z ≠ 0) (hzy : z = 7) : Tj.namedE (fun h : Hd.Fld => h.1) Tj.mfE md = z :=
 Tj.namedE_bad hx hz (by rw [if_neg (by simp [e]), if_pos hr, hzy]) hy
theorem mdgood {md : List Hd.Fld} {k : Nat} {f : Hd.Fld} (hx : md[k]? = some f) (e : Tj.mfE f = 0) (hr : Tj.rep (md.map (fun h : Hd.Fld => h.1)) k = false) : Tj.namedG (fun h : Hd.Fld => h.1) Tj.mfE md k = 0 := by
 rw [Tj.namedG_at hx, if_neg (by simp [e]), if_neg (by rw [hr]; decide)]
theorem met_12 {md : List Hd.Fld} (h : 12 < md.length) : Tj.metE md = 12 := by unfold Tj.metE; rw [if_pos h]
theorem met_named {md : List Hd.Fld} {z : Int} (h : ¬ 12 < md.length) (e : Tj.namedE (fun h : Hd.Fld => h.1) Tj.mfE md = z) (hz : z ≠ 0) : Tj.metE md = z := by
 unfold Tj.metE; rw [if_neg h, if_pos (by rw [e]; exact hz), e]
theorem met_std {md : List Hd.Fld} (h : ¬ 12 < md.length) (e : Tj.namedE (fun h : Hd.Fld => h.1) Tj.mfE md = 0) : Tj.metE md = Tj.firstE (Tj.stdE md) (List.range 3) := by
 unfold Tj.metE; rw [if_neg h, if_neg (by rw [e]; simp)]; rfl
theorem std_out {md : List Hd.Fld} {k : Nat} (h : md.length ≤ k) : Tj.stdE md k = 5 := by
 unfold Tj.stdE; rw [List.getElem?_eq_none_iff.2 h]
theorem std_in {md : List Hd.Fld} {k : Nat} {f g : Hd.Fld} (h : md[k]? = some f) (hg : Tj.std[k]? = some g) : Tj.stdE md k = if Hd.same f.1 g.1 && f.2 == g.2 then 0 else 5 := by
 unfold Tj.stdE; rw [h, hg]
theorem index_std0 (w : World) : (Instr.index 130 (.agg #[.string ⟨#[105, 110]⟩, .int .i64 8, .string ⟨#[111, 117, 116]⟩, .int .i64 8, .string ⟨#[100, 114, 111, 112]⟩, .int .i64 1]) (.int .i64 0)).run Tryz.prog w = .ok (.agg #[.string ⟨#[105, 110]⟩, .int .i64 8]) w := by kernel_rfl
theorem index_std1 (w : World) : (Instr.index 130 (.agg #[.string ⟨#[105, 110]⟩, .int .i64 8, .string ⟨#[111, 117, 116]⟩, .int .i64 8, .string ⟨#[100, 114, 111, 112]⟩, .int .i64 1]) (.int .i64 1)).run Tryz.prog w = .ok (.agg #[.string ⟨#[111, 117, 116]⟩, .int .i64 8]) w := by kernel_rfl
theorem index_std2 (w : World) : (Instr.index 130 (.agg #[.string ⟨#[105, 110]⟩, .int .i64 8, .string ⟨#[111, 117, 116]⟩, .int .i64 8, .string ⟨#[100, 114, 111, 112]⟩, .int .i64 1]) (.int .i64 2)).run Tryz.prog w = .ok (.agg #[.string ⟨#[100, 114, 111, 112]⟩, .int .i64 1]) w := by kernel_rfl
theorem cmeta_any {W : World} {p : Pg.PV} {F : Tj.FP} (hF : Tj.IsF W p F) : Calls Tryz.prog 22 #[p.val] W (Thr W (Tj.metE F.P.md)) := by
 obtain ⟨a1, a2, a3, a4, a5, a6, a7, a8, m1, m2, m3, m4, m5, m6, n7, m7, m8, hf⟩ := hF.form
 obtain ⟨rfl, hnm, hhs, hmd, hrs, has, hts, hss, hct, hdp, l1, l2, l3, l4, l5, l6, l7, l8⟩ := hf
 obtain ⟨R, hR⟩ : ∃ z, z = Tj.metE F.P.md := ⟨_, rfl⟩
 rw [← hR]
 dsimp only [Pg.PV.val]
 have HH := Lh hmd
 have HNM : Hid (¬ 12 < F.P.md.length → ∀ w, Ext W w → Calls Tryz.prog 41 #[.slice a2 F.P.md.length m2, .func (.func 42) #[] #[]] w (StsP w (F.P.md.map (fun h : Hd.Fld => h.1)))) := Lh (fun h w hx => namesField_any (Hd.Flds.ext hmd hx) (by omega))
 have HR := Lh hR
 have hml : (F.P.md.map (fun h : Hd.Fld => h.1)).length = F.P.md.length := List.length_map _
 have bx := aH W (.cells (Yq0 F a1 m1 a2 m2 a3 m3 a4 m4 a5 m5 a6 m6 a7 m7 n7 a8 m8) 31)
 have k0 := alw (cQ 0 bx)
 have k1 := alw (cQ 1 bx)
 have k2 := alw (cQ 2 bx)
 have k3 := alw (cQ 3 bx)
 have k4 := alw (cQ 4 bx)
 have k5 := alw (cQ 5 bx)
 have k6 := alw (cQ 6 bx)
 have k7 := alw (cQ 7 bx)
 have k8 := alw (cQ 8 bx)
 clear bx
 clear hF hnm hhs hmd hrs has hts hss hct hdp
 clear hR
 go_enter Tryz.func22, Tryz.ntmps22
 go_wp2_with fail
 refine (when_hid _ _ _).mono ?_
 rintro e wa0 ⟨z0, hw0, rfl, xwa0⟩
 have swa0 := Sm xwa0
 have HW0 := Lh hw0
 clear hw0
 go_wp2_with fail
 refine (require_any _ _ _ _ _).mono ?_
 rintro e wb0 ⟨xwb0, hz0 | hz0⟩
 rotate_left
 ·obtain ⟨hz0, a, b, c, rfl⟩ := hz0
  have swb0 := Sm xwb0
  exact ⟨rfl, thr_bad (by rw [HR.out, met_12 (by have h := of_decide_eq_true (wn HW0.out hz0).1; omega), (wn HW0.out hz0).2]) grows hz0⟩
 obtain ⟨hz0, rfl⟩ := hz0
 have swb0 := Sm xwb0
 have HG0 := Lh hz0
 clear hz0
 go_wp2_with fail
 refine (HNM.out (by have h := of_decide_eq_false (wz HW0.out HG0.out (by decide)); omega) _ grows).mono ?_
 rintro e w2 ⟨na, nc, rfl, x2, hst, hnc⟩
 have HST := Lh hst
 have s2 := Sm x2
 rw [hml] at HST hnc
 rw [hml]
 clear hst
 go_wp2_with fail
 go_loopw [19] (fun q wr => ∃ k : Nat, k ≤ F.P.md.length ∧ q = .int .i64 k ∧ Hid (Ext w2 wr ∧ ∀ j, j < k → Tj.namedG (fun h : Hd.Fld => h.1) Tj.mfE F.P.md j = 0)) (fun q _ => F.P.md.length - (intOf q).toNat)
 case atStart => exact ⟨0, Nat.zero_le _, rfl, Lh ⟨eR _, by intro j hj; omega⟩⟩
 case round =>
  obtain ⟨k, hk, rfl, HZ⟩ := hrel
  have sx : Step w2 wr := ⟨HZ.out.1⟩
  by_cases hlt : k < F.P.md.length
  ·obtain ⟨⟨hn, fw⟩, hx⟩ : ∃ x, F.P.md[k]? = some x := ⟨_, gE hlt⟩
   obtain ⟨b, o, rfl, _, _⟩ := Rows.at HH.out (by omega)
   obtain ⟨u0, u1, hns, _⟩ := flds_at HH.out k hn fw hx rfl
   have HX := Lh hx
   have HNS := Lh hns
   have HRP := Lh (fun (w : World) (hx : Ext w2 w) => by
    have h := repeated_any (W := w) (oa := na) (c := nc) (l := (F.P.md.map (fun h : Hd.Fld => h.1))) (by rw [hml]; exact HST.out.ext hx) (by rw [hml]; exact hnc) k (by rw [hml]; exact hlt)
    rw [hml] at h; exact h)
   obtain ⟨rp, hrp⟩ : ∃ z, z = Tj.rep (F.P.md.map (fun h : Hd.Fld => h.1)) k := ⟨_, rfl⟩
   rw [← hrp] at HRP
   have HRE := Lh hrp
   have bx := aH wr (.cells #[.string hn, .int .i64 fw] 79)
   have m0 := alw (cQ 0 bx)
   have m1 := alw (cQ 1 bx)
   clear bx
   clear hx hns hrp
   go_wp2_with fail
   refine via (pident_any _ HNS.out _) fun w3 x3 s3 => ?_
   go_wp2_with fail
   refine (when_hid _ _ _).mono ?_
   rintro e wa1 ⟨z1, hw1, rfl, xwa1⟩
   have swa1 := Sm xwa1
   have HW1 := Lh hw1
   clear hw1
   go_wp2_with fail
   refine (require_any _ _ _ _ _).mono ?_
   rintro e wb1 ⟨xwb1, hz1 | hz1⟩
   rotate_left
   ·obtain ⟨hz1, a, b, c, rfl⟩ := hz1
    have swb1 := Sm xwb1
    exact ⟨rfl, thr_bad (by rw [HR.out]; exact met_named (by have h := of_decide_eq_false (wz HW0.out HG0.out (by decide)); omega) (mdbad HX.out HZ.out.2 (mf_id (by have h := (wn HW1.out hz1).1; simpa using h)) (by decide) (wn HW1.out hz1).2) hz1) grows hz1⟩
   obtain ⟨hz1, rfl⟩ := hz1
   have swb1 := Sm xwb1
   have HG1 := Lh hz1
   clear hz1
   go_wp2_with fail
   refine via (pwidth_any _ _) fun w7 x7 s7 => ?_
   go_wp2_with fail
   refine (when_hid _ _ _).mono ?_
   rintro e wa2 ⟨z2, hw2, rfl, xwa2⟩
   have swa2 := Sm xwa2
   have HW2 := Lh hw2
   clear hw2
   go_wp2_with fail
   refine (require_any _ _ _ _ _).mono ?_
   rintro e wb2 ⟨xwb2, hz2 | hz2⟩
   rotate_left
   ·obtain ⟨hz2, a, b, c, rfl⟩ := hz2
    have swb2 := Sm xwb2
    exact ⟨rfl, thr_bad (by rw [HR.out]; exact met_named (by have h := of_decide_eq_false (wz HW0.out HG0.out (by decide)); omega) (mdbad HX.out HZ.out.2 (mf_wd (by have h := wz HW1.out HG1.out (by decide); simpa using h) (by have h := (wn HW2.out hz2).1; simp at h; exact h)) (by decide) (wn HW2.out hz2).2) hz2) grows hz2⟩
   obtain ⟨hz2, rfl⟩ := hz2
   have swb2 := Sm xwb2
   have HG2 := Lh hz2
   clear hz2
   go_wp2_with fail
   refine via (HRP.out _ grows) fun w8 x8 s8 => ?_
   go_wp2_with fail
   refine (when_hid _ _ _).mono ?_
   rintro e wa3 ⟨z3, hw3, rfl, xwa3⟩
   have swa3 := Sm xwa3
   have HW3 := Lh hw3
   clear hw3
   go_wp2_with fail
   refine (require_any _ _ _ _ _).mono ?_
   rintro e wb3 ⟨xwb3, hz3 | hz3⟩
   rotate_left
   ·obtain ⟨hz3, a, b, c, rfl⟩ := hz3
    have swb3 := Sm xwb3
    exact ⟨rfl, thr_bad (by rw [HR.out]; exact met_named (by have h := of_decide_eq_false (wz HW0.out HG0.out (by decide)); omega) (mdrep HX.out HZ.out.2 (mf_0 (by have h := wz HW1.out HG1.out (by decide); simpa using h) (by have h := wz HW2.out HG2.out (by decide); simp at h; show ¬ (fw < 1 ∨ 32 < fw); omega)) (by rw [← HRE.out]; exact (wn HW3.out hz3).1) hz3 (wn HW3.out hz3).2) hz3) grows hz3⟩
   obtain ⟨hz3, rfl⟩ := hz3
   have swb3 := Sm xwb3
   have HG3 := Lh hz3
   clear hz3
   go_wp2_with fail
   go_roundw
   case rel =>
    refine ⟨k + 1, by omega, by go_num, Lh ⟨grows, fun j hj => ?_⟩⟩
    rcases Nat.lt_or_ge j k with h1 | h1
    ·exact HZ.out.2 j h1
    ·obtain rfl : j = k := by omega
     exact mdgood HX.out (mf_0 (by have h := wz HW1.out HG1.out (by decide); simpa using h) (by have h := wz HW2.out HG2.out (by decide); simp at h; show ¬ (fw < 1 ∨ 32 < fw); omega)) (by rw [← HRE.out]; exact wz HW3.out HG3.out (by decide))
   case measure => simp [intOf]; omega
  ·obtain rfl : k = F.P.md.length := by omega
   have HR2 : Hid (R = Tj.firstE (Tj.stdE F.P.md) (List.range 3)) := Lh (by rw [HR.out]; exact met_std (by have h := of_decide_eq_false (wz HW0.out HG0.out (by decide)); omega) (Tj.namedE_zero HZ.out.2))
   obtain ⟨w4, hw4⟩ : ∃ z : World, z = wr := ⟨_, rfl⟩
   subst hw4
   go_wp2_with fail
   go_loopw [47] (fun q wr => ∃ k : Nat, k ≤ 3 ∧ q = .int .i64 k ∧ Hid (Ext w4 wr ∧ ∀ j, j < k → Tj.stdE F.P.md j = 0)) (fun q _ => 3 - (intOf q).toNat)
   case atStart => exact ⟨0, Nat.zero_le _, rfl, Lh ⟨grows, by intro j hj; omega⟩⟩
   case round =>
    obtain ⟨k, hk, rfl, HZ2⟩ := hrel
    have sx : Step w4 wr := ⟨HZ2.out.1⟩
    by_cases hlt3 : k < 3
    ·rcases (show k = 0 ∨ k = 1 ∨ k = 2 by omega) with rfl | rfl | rfl
     ·rw [show ((0 : Nat) : Int) = 0 from rfl]
      have hix := index_std0
      have bx := aH wr (.cells #[.string ⟨#[105, 110]⟩, .int .i64 8] 79)
      have c0 := alw (cQ 0 bx)
      have c1 := alw (cQ 1 bx)
      clear bx
      by_cases ho : F.P.md.length ≤ 0
      ·have d5 : decide ((F.P.md.length : Int) ≤ 0) = true := dTt (by omega)
       have m0 : F.P.md = [] := List.eq_nil_of_length_eq_zero (by omega)
       have d6 : decide (F.P.md.length = 0) = true := dTt (by omega)
       have d7 : decide (F.P.md = []) = true := dTt m0
       clear m0
       have HSE : Hid (Tj.stdE F.P.md 0 = 5) := Lh (std_out ho)
       go_wp2_with fail
       refine wp_region_later_tail (W := wr.alloc (.cells #[.string ⟨#[105, 110]⟩, .int .i64 8] 79)) 16 (by kernel_rfl) (by kernel_rfl) grows ?_
       simp only [tkS, tkZ, dpS, dpZ]
       repeat (go_big_quiet_step (first | (go_at_call 35; exact Rets.later_at (when_any _ _ _)) | fail))
       refine wpQuiet_nil ?_
       intro w9 hx9
       have s9 := Sm hx9
       go_wp2_with fail
       refine (require_any _ _ _ _ _).mono ?_
       rintro e w10 ⟨x10, hz | hz⟩
       ·exact absurd hz.1 (by decide)
       ·obtain ⟨hz, a, b, c, rfl⟩ := hz
        have s10 := Sm x10
        exact ⟨rfl, thr_bad (by rw [HR2.out, rangeE_at (by decide) HZ2.out.2 (by rw [HSE.out]; decide), HSE.out]) grows hz⟩
      ·have d5 : decide ((F.P.md.length : Int) ≤ 0) = false := dF (by omega)
       have d6 : decide (F.P.md.length = 0) = false := dF (by omega)
       have d7 : decide (F.P.md = []) = false := dF (by intro e; apply ho; rw [e]; exact Nat.le_refl _)
       obtain ⟨⟨hn, fw⟩, hx⟩ : ∃ x, F.P.md[0]? = some x := ⟨_, gE (by omega)⟩
       obtain ⟨b2, o2, rfl, _, _⟩ := Rows.at HH.out (by omega)
       obtain ⟨u0, u1, _⟩ := flds_at HH.out 0 hn fw hx rfl
       rw [Nat.zero_mul, Nat.add_zero] at u0 u1
       have hse := std_in hx (show Tj.std[0]? = some (⟨#[105, 110]⟩, 8) from rfl)
       dsimp only at hse
       clear hx
       by_cases h1 : Hd.same hn ⟨#[105, 110]⟩ = true
       ·have e1 : (hn.toList == [105, 110]) = true := by rw [← h1]; unfold Hd.same; rw [show ((⟨#[105, 110]⟩ : ByteArray)).toList = [105, 110] by first | (rw [ByteArray.toList_eq]; done) | (rw [ByteArray.toList_eq]; rfl)]
        by_cases h2 : fw = 8
        ·subst h2
         have HSE : Hid (Tj.stdE F.P.md 0 = 0) := Lh (by rw [hse, h1]; rfl)
         clear h1 hse
         go_wp2_with fail
         refine wp_region_later_tail (W := wr.alloc (.cells #[.string ⟨#[105, 110]⟩, .int .i64 8] 79)) 16 (by kernel_rfl) (by kernel_rfl) grows ?_
         simp only [tkS, tkZ, dpS, dpZ]
         repeat (go_big_quiet_step (first | (go_at_call 35; exact Rets.later_at (when_any _ _ _)) | fail))
         refine wpQuiet_nil ?_
         intro w9 hx9
         have s9 := Sm hx9
         go_wp2_with fail
         refine (require_any _ _ _ _ _).mono ?_
         rintro e w10 ⟨x10, hz | hz⟩
         rotate_left
         ·exact absurd rfl hz.1
         obtain ⟨_, rfl⟩ := hz
         have s10 := Sm x10
         go_wp2_with fail
         go_roundw
         case rel =>
          refine ⟨1, by omega, by go_num, Lh ⟨grows, fun j hj => ?_⟩⟩
          rcases Nat.lt_or_ge j 0 with h1 | h1
          ·exact HZ2.out.2 j h1
          ·obtain rfl : j = 0 := by omega
           exact HSE.out
         case measure => simp [intOf]
        ·have e2 : (fw == 8) = false := bF h2
         have HSE : Hid (Tj.stdE F.P.md 0 = 5) := Lh (by rw [hse, e2, Bool.and_false]; rfl)
         clear h1 h2 hse
         go_wp2_with fail
         refine wp_region_later_tail (W := wr.alloc (.cells #[.string ⟨#[105, 110]⟩, .int .i64 8] 79)) 16 (by kernel_rfl) (by kernel_rfl) grows ?_
         simp only [tkS, tkZ, dpS, dpZ]
         repeat (go_big_quiet_step (first | (go_at_call 35; exact Rets.later_at (when_any _ _ _)) | fail))
         refine wpQuiet_nil ?_
         intro w9 hx9
         have s9 := Sm hx9
         go_wp2_with fail
         refine (require_any _ _ _ _ _).mono ?_
         rintro e w10 ⟨x10, hz | hz⟩
         ·exact absurd hz.1 (by decide)
         ·obtain ⟨hz, a, b, c, rfl⟩ := hz
          have s10 := Sm x10
          exact ⟨rfl, thr_bad (by rw [HR2.out, rangeE_at (by decide) HZ2.out.2 (by rw [HSE.out]; decide), HSE.out]) grows hz⟩
       ·have h1' : Hd.same hn ⟨#[105, 110]⟩ = false := by simpa using h1
        have e1 : (hn.toList == [105, 110]) = false := by rw [← h1']; unfold Hd.same; rw [show ((⟨#[105, 110]⟩ : ByteArray)).toList = [105, 110] by first | (rw [ByteArray.toList_eq]; done) | (rw [ByteArray.toList_eq]; rfl)]
        have HSE : Hid (Tj.stdE F.P.md 0 = 5) := Lh (by rw [hse, h1', Bool.false_and]; rfl)
        clear h1 h1' hse
        go_wp2_with fail
        refine wp_region_later_tail (W := wr.alloc (.cells #[.string ⟨#[105, 110]⟩, .int .i64 8] 79)) 16 (by kernel_rfl) (by kernel_rfl) grows ?_
        simp only [tkS, tkZ, dpS, dpZ]
        repeat (go_big_quiet_step (first | (go_at_call 35; exact Rets.later_at (when_any _ _ _)) | fail))
        refine wpQuiet_nil ?_
        intro w9 hx9
        have s9 := Sm hx9
        go_wp2_with fail
        refine (require_any _ _ _ _ _).mono ?_
        rintro e w10 ⟨x10, hz | hz⟩
        ·exact absurd hz.1 (by decide)
        ·obtain ⟨hz, a, b, c, rfl⟩ := hz
         have s10 := Sm x10
         exact ⟨rfl, thr_bad (by rw [HR2.out, rangeE_at (by decide) HZ2.out.2 (by rw [HSE.out]; decide), HSE.out]) grows hz⟩
     ·have hix := index_std1
      have bx := aH wr (.cells #[.string ⟨#[111, 117, 116]⟩, .int .i64 8] 79)
      have c0 := alw (cQ 0 bx)
      have c1 := alw (cQ 1 bx)
      clear bx
      by_cases ho : F.P.md.length ≤ 1
      ·have d5 : decide ((F.P.md.length : Int) ≤ 1) = true := dTt (by omega)
       have HSE : Hid (Tj.stdE F.P.md 1 = 5) := Lh (std_out ho)
       go_wp2_with fail
       refine wp_region_later_tail (W := wr.alloc (.cells #[.string ⟨#[111, 117, 116]⟩, .int .i64 8] 79)) 16 (by kernel_rfl) (by kernel_rfl) grows ?_
       simp only [tkS, tkZ, dpS, dpZ]
       repeat (go_big_quiet_step (first | (go_at_call 35; exact Rets.later_at (when_any _ _ _)) | fail))
       refine wpQuiet_nil ?_
       intro w9 hx9
       have s9 := Sm hx9
       go_wp2_with fail
       refine (require_any _ _ _ _ _).mono ?_
       rintro e w10 ⟨x10, hz | hz⟩
       ·exact absurd hz.1 (by decide)
       ·obtain ⟨hz, a, b, c, rfl⟩ := hz
        have s10 := Sm x10
        exact ⟨rfl, thr_bad (by rw [HR2.out, rangeE_at (by decide) HZ2.out.2 (by rw [HSE.out]; decide), HSE.out]) grows hz⟩
      ·have d5 : decide ((F.P.md.length : Int) ≤ 1) = false := dF (by omega)
       obtain ⟨⟨hn, fw⟩, hx⟩ : ∃ x, F.P.md[1]? = some x := ⟨_, gE (by omega)⟩
       obtain ⟨b2, o2, rfl, _, _⟩ := Rows.at HH.out (by omega)
       obtain ⟨u0, u1, _⟩ := flds_at HH.out 1 hn fw hx rfl
       skip
       have hse := std_in hx (show Tj.std[1]? = some (⟨#[111, 117, 116]⟩, 8) from rfl)
       dsimp only at hse
       clear hx
       by_cases h1 : Hd.same hn ⟨#[111, 117, 116]⟩ = true
       ·have e1 : (hn.toList == [111, 117, 116]) = true := by rw [← h1]; unfold Hd.same; rw [show ((⟨#[111, 117, 116]⟩ : ByteArray)).toList = [111, 117, 116] by first | (rw [ByteArray.toList_eq]; done) | (rw [ByteArray.toList_eq]; rfl)]
        by_cases h2 : fw = 8
        ·subst h2
         have HSE : Hid (Tj.stdE F.P.md 1 = 0) := Lh (by rw [hse, h1]; rfl)
         clear h1 hse
         go_wp2_with fail
         refine wp_region_later_tail (W := wr.alloc (.cells #[.string ⟨#[111, 117, 116]⟩, .int .i64 8] 79)) 16 (by kernel_rfl) (by kernel_rfl) grows ?_
         simp only [tkS, tkZ, dpS, dpZ]
         repeat (go_big_quiet_step (first | (go_at_call 35; exact Rets.later_at (when_any _ _ _)) | fail))
         refine wpQuiet_nil ?_
         intro w9 hx9
         have s9 := Sm hx9
         go_wp2_with fail
         refine (require_any _ _ _ _ _).mono ?_
         rintro e w10 ⟨x10, hz | hz⟩
         rotate_left
         ·exact absurd rfl hz.1
         obtain ⟨_, rfl⟩ := hz
         have s10 := Sm x10
         go_wp2_with fail
         go_roundw
         case rel =>
          refine ⟨2, by omega, by go_num, Lh ⟨grows, fun j hj => ?_⟩⟩
          rcases Nat.lt_or_ge j 1 with h1 | h1
          ·exact HZ2.out.2 j h1
          ·obtain rfl : j = 1 := by omega
           exact HSE.out
         case measure => simp [intOf]
        ·have e2 : (fw == 8) = false := bF h2
         have HSE : Hid (Tj.stdE F.P.md 1 = 5) := Lh (by rw [hse, e2, Bool.and_false]; rfl)
         clear h1 h2 hse
         go_wp2_with fail
         refine wp_region_later_tail (W := wr.alloc (.cells #[.string ⟨#[111, 117, 116]⟩, .int .i64 8] 79)) 16 (by kernel_rfl) (by kernel_rfl) grows ?_
         simp only [tkS, tkZ, dpS, dpZ]
         repeat (go_big_quiet_step (first | (go_at_call 35; exact Rets.later_at (when_any _ _ _)) | fail))
         refine wpQuiet_nil ?_
         intro w9 hx9
         have s9 := Sm hx9
         go_wp2_with fail
         refine (require_any _ _ _ _ _).mono ?_
         rintro e w10 ⟨x10, hz | hz⟩
         ·exact absurd hz.1 (by decide)
         ·obtain ⟨hz, a, b, c, rfl⟩ := hz
          have s10 := Sm x10
          exact ⟨rfl, thr_bad (by rw [HR2.out, rangeE_at (by decide) HZ2.out.2 (by rw [HSE.out]; decide), HSE.out]) grows hz⟩
       ·have h1' : Hd.same hn ⟨#[111, 117, 116]⟩ = false := by simpa using h1
        have e1 : (hn.toList == [111, 117, 116]) = false := by rw [← h1']; unfold Hd.same; rw [show ((⟨#[111, 117, 116]⟩ : ByteArray)).toList = [111, 117, 116] by first | (rw [ByteArray.toList_eq]; done) | (rw [ByteArray.toList_eq]; rfl)]
        have HSE : Hid (Tj.stdE F.P.md 1 = 5) := Lh (by rw [hse, h1', Bool.false_and]; rfl)
        clear h1 h1' hse
        go_wp2_with fail
        refine wp_region_later_tail (W := wr.alloc (.cells #[.string ⟨#[111, 117, 116]⟩, .int .i64 8] 79)) 16 (by kernel_rfl) (by kernel_rfl) grows ?_
        simp only [tkS, tkZ, dpS, dpZ]
        repeat (go_big_quiet_step (first | (go_at_call 35; exact Rets.later_at (when_any _ _ _)) | fail))
        refine wpQuiet_nil ?_
        intro w9 hx9
        have s9 := Sm hx9
        go_wp2_with fail
        refine (require_any _ _ _ _ _).mono ?_
        rintro e w10 ⟨x10, hz | hz⟩
        ·exact absurd hz.1 (by decide)
        ·obtain ⟨hz, a, b, c, rfl⟩ := hz
         have s10 := Sm x10
         exact ⟨rfl, thr_bad (by rw [HR2.out, rangeE_at (by decide) HZ2.out.2 (by rw [HSE.out]; decide), HSE.out]) grows hz⟩
     ·have hix := index_std2
      have bx := aH wr (.cells #[.string ⟨#[100, 114, 111, 112]⟩, .int .i64 1] 79)
      have c0 := alw (cQ 0 bx)
      have c1 := alw (cQ 1 bx)
      clear bx
      by_cases ho : F.P.md.length ≤ 2
      ·have d5 : decide ((F.P.md.length : Int) ≤ 2) = true := dTt (by omega)
       have HSE : Hid (Tj.stdE F.P.md 2 = 5) := Lh (std_out ho)
       go_wp2_with fail
       refine wp_region_later_tail (W := wr.alloc (.cells #[.string ⟨#[100, 114, 111, 112]⟩, .int .i64 1] 79)) 16 (by kernel_rfl) (by kernel_rfl) grows ?_
       simp only [tkS, tkZ, dpS, dpZ]
       repeat (go_big_quiet_step (first | (go_at_call 35; exact Rets.later_at (when_any _ _ _)) | fail))
       refine wpQuiet_nil ?_
       intro w9 hx9
       have s9 := Sm hx9
       go_wp2_with fail
       refine (require_any _ _ _ _ _).mono ?_
       rintro e w10 ⟨x10, hz | hz⟩
       ·exact absurd hz.1 (by decide)
       ·obtain ⟨hz, a, b, c, rfl⟩ := hz
        have s10 := Sm x10
        exact ⟨rfl, thr_bad (by rw [HR2.out, rangeE_at (by decide) HZ2.out.2 (by rw [HSE.out]; decide), HSE.out]) grows hz⟩
      ·have d5 : decide ((F.P.md.length : Int) ≤ 2) = false := dF (by omega)
       obtain ⟨⟨hn, fw⟩, hx⟩ : ∃ x, F.P.md[2]? = some x := ⟨_, gE (by omega)⟩
       obtain ⟨b2, o2, rfl, _, _⟩ := Rows.at HH.out (by omega)
       obtain ⟨u0, u1, _⟩ := flds_at HH.out 2 hn fw hx rfl
       skip
       have hse := std_in hx (show Tj.std[2]? = some (⟨#[100, 114, 111, 112]⟩, 1) from rfl)
       dsimp only at hse
       clear hx
       by_cases h1 : Hd.same hn ⟨#[100, 114, 111, 112]⟩ = true
       ·have e1 : (hn.toList == [100, 114, 111, 112]) = true := by rw [← h1]; unfold Hd.same; rw [show ((⟨#[100, 114, 111, 112]⟩ : ByteArray)).toList = [100, 114, 111, 112] by first | (rw [ByteArray.toList_eq]; done) | (rw [ByteArray.toList_eq]; rfl)]
        by_cases h2 : fw = 1
        ·subst h2
         have HSE : Hid (Tj.stdE F.P.md 2 = 0) := Lh (by rw [hse, h1]; rfl)
         clear h1 hse
         go_wp2_with fail
         refine wp_region_later_tail (W := wr.alloc (.cells #[.string ⟨#[100, 114, 111, 112]⟩, .int .i64 1] 79)) 16 (by kernel_rfl) (by kernel_rfl) grows ?_
         simp only [tkS, tkZ, dpS, dpZ]
         repeat (go_big_quiet_step (first | (go_at_call 35; exact Rets.later_at (when_any _ _ _)) | fail))
         refine wpQuiet_nil ?_
         intro w9 hx9
         have s9 := Sm hx9
         go_wp2_with fail
         refine (require_any _ _ _ _ _).mono ?_
         rintro e w10 ⟨x10, hz | hz⟩
         rotate_left
         ·exact absurd rfl hz.1
         obtain ⟨_, rfl⟩ := hz
         have s10 := Sm x10
         go_wp2_with fail
         go_roundw
         case rel =>
          refine ⟨3, by omega, by go_num, Lh ⟨grows, fun j hj => ?_⟩⟩
          rcases Nat.lt_or_ge j 2 with h1 | h1
          ·exact HZ2.out.2 j h1
          ·obtain rfl : j = 2 := by omega
           exact HSE.out
         case measure => simp [intOf]
        ·have e2 : (fw == 1) = false := bF h2
         have HSE : Hid (Tj.stdE F.P.md 2 = 5) := Lh (by rw [hse, e2, Bool.and_false]; rfl)
         clear h1 h2 hse
         go_wp2_with fail
         refine wp_region_later_tail (W := wr.alloc (.cells #[.string ⟨#[100, 114, 111, 112]⟩, .int .i64 1] 79)) 16 (by kernel_rfl) (by kernel_rfl) grows ?_
         simp only [tkS, tkZ, dpS, dpZ]
         repeat (go_big_quiet_step (first | (go_at_call 35; exact Rets.later_at (when_any _ _ _)) | fail))
         refine wpQuiet_nil ?_
         intro w9 hx9
         have s9 := Sm hx9
         go_wp2_with fail
         refine (require_any _ _ _ _ _).mono ?_
         rintro e w10 ⟨x10, hz | hz⟩
         ·exact absurd hz.1 (by decide)
         ·obtain ⟨hz, a, b, c, rfl⟩ := hz
          have s10 := Sm x10
          exact ⟨rfl, thr_bad (by rw [HR2.out, rangeE_at (by decide) HZ2.out.2 (by rw [HSE.out]; decide), HSE.out]) grows hz⟩
       ·have h1' : Hd.same hn ⟨#[100, 114, 111, 112]⟩ = false := by simpa using h1
        have e1 : (hn.toList == [100, 114, 111, 112]) = false := by rw [← h1']; unfold Hd.same; rw [show ((⟨#[100, 114, 111, 112]⟩ : ByteArray)).toList = [100, 114, 111, 112] by first | (rw [ByteArray.toList_eq]; done) | (rw [ByteArray.toList_eq]; rfl)]
        have HSE : Hid (Tj.stdE F.P.md 2 = 5) := Lh (by rw [hse, h1', Bool.false_and]; rfl)
        clear h1 h1' hse
        go_wp2_with fail
        refine wp_region_later_tail (W := wr.alloc (.cells #[.string ⟨#[100, 114, 111, 112]⟩, .int .i64 1] 79)) 16 (by kernel_rfl) (by kernel_rfl) grows ?_
        simp only [tkS, tkZ, dpS, dpZ]
        repeat (go_big_quiet_step (first | (go_at_call 35; exact Rets.later_at (when_any _ _ _)) | fail))
        refine wpQuiet_nil ?_
        intro w9 hx9
        have s9 := Sm hx9
        go_wp2_with fail
        refine (require_any _ _ _ _ _).mono ?_
        rintro e w10 ⟨x10, hz | hz⟩
        ·exact absurd hz.1 (by decide)
        ·obtain ⟨hz, a, b, c, rfl⟩ := hz
         have s10 := Sm x10
         exact ⟨rfl, thr_bad (by rw [HR2.out, rangeE_at (by decide) HZ2.out.2 (by rw [HSE.out]; decide), HSE.out]) grows hz⟩
    ·obtain rfl : k = 3 := by omega
     go_wp2_with fail
     first | go_end0 | skip
     exact thr_ok (by rw [HR2.out]; exact rangeE_zero HZ2.out.2) grows (by first | rfl | trivial)
theorem nm_bad {α : Type} {nm : α → ByteArray} {f : α → Int} {l : List α} {k : Nat} {x : α} {z : Int} (hx : l[k]? = some x) (hz : ∀ j, j < k → Tj.namedG nm f l j = 0) (e : f x = z) (hy : z ≠ 0) : Tj.namedE nm f l = z :=
 Tj.namedE_bad hx hz (by rw [e, if_pos hy]) hy
theorem nm_rep {α : Type} {nm : α → ByteArray} {f : α → Int} {l : List α} {k : Nat} {x : α} {z : Int} (hx : l[k]? = some x) (hz : ∀ j, j < k → Tj.namedG nm f l j = 0) (e : f x = 0) (hr : Tj.rep (l.map nm) k = true) (hy : z ≠ 0) (hzy : z = 7) : Tj.namedE nm f l = z :=
 Tj.namedE_bad hx hz (by rw [if_neg (by simp [e]), if_pos hr, hzy]) hy
theorem nm_good {α : Type} {nm : α → ByteArray} {f : α → Int} {l : List α} {k : Nat} {x : α} (hx : l[k]? = some x) (e : f x = 0) (hr : Tj.rep (l.map nm) k = false) : Tj.namedG nm f l k = 0 := by
 rw [Tj.namedG_at hx, if_neg (by simp [e]), if_neg (by rw [hr]; decide)]
theorem or_l {a b z : Int} (h : a = z) (hz : z ≠ 0) : Tj.orE a b = z := by unfold Tj.orE; rw [if_pos (by rw [h]; exact hz), h]
theorem or_r {a b z : Int} (h : a = 0) (hb : b = z) : Tj.orE a b = z := by unfold Tj.orE; rw [if_neg (by simp [h]), hb]
theorem act_at {F : Tj.FP} {k : Nat} {a : Tj.Act} (h : F.ac[k]? = some a) : Tj.actI F k = Tj.actE F a := by
 unfold Tj.actI Tj.at?; rw [if_pos (by omega), Int.toNat_natCast, h]
theorem tab_at {F : Tj.FP} {k : Nat} {a : Tj.Tab} (h : F.ts[k]? = some a) : Tj.tabI F k = Tj.tabE F a := by
 unfold Tj.tabI Tj.at?; rw [if_pos (by omega), Int.toNat_natCast, h]
theorem cobjects_any {W : World} {p : Pg.PV} {F : Tj.FP} (hF : Tj.IsF W p F) (b1 : F.rs.length ≤ 4) (b2 : F.ac.length ≤ 16) (b3 : F.ts.length ≤ 12) : Calls Tryz.prog 23 #[p.val] W (Thr W (Tj.orE (Tj.namedE (fun r : Rg.Reg => r.nm) Rg.chk F.rs) (Tj.orE (Tj.namedE (fun r : Tj.Act => r.nm) (Tj.actE F) F.ac) (Tj.namedE (fun r : Tj.Tab => r.nm) (Tj.tabE F) F.ts)))) := by
 have HAC : Hid (∀ (i : Int) w, Ext W w → Calls Tryz.prog 49 #[p.val, .int .i64 i] w (AtP w (Tj.actI F i))) := Lh (fun i w hx => acheck_any (hF.ext hx) i)
 have HTC : Hid (∀ (i : Int) w, Ext W w → Calls Tryz.prog 52 #[p.val, .int .i64 i] w (AtP w (Tj.tabI F i))) := Lh (fun i w hx => tcheck_any (hF.ext hx) i)
 obtain ⟨a1, a2, a3, a4, a5, a6, a7, a8, m1, m2, m3, m4, m5, m6, n7, m7, m8, hf⟩ := hF.form
 obtain ⟨rfl, hnm, hhs, hmd, hrs, has, hts, hss, hct, hdp, l1, l2, l3, l4, l5, l6, l7, l8⟩ := hf
 obtain ⟨R, hR⟩ : ∃ z, z = Tj.orE (Tj.namedE (fun r : Rg.Reg => r.nm) Rg.chk F.rs) (Tj.orE (Tj.namedE (fun r : Tj.Act => r.nm) (Tj.actE F) F.ac) (Tj.namedE (fun r : Tj.Tab => r.nm) (Tj.tabE F) F.ts)) := ⟨_, rfl⟩
 rw [← hR]
 dsimp only [Pg.PV.val] at HAC HTC ⊢
 have HRS := Lh hrs
 have HR := Lh hR
 have HNS0 : Hid (∀ w, Ext W w → Calls Tryz.prog 44 #[.slice a3 F.rs.length m3, .func (.func 45) #[] #[]] w (StsP w (F.rs.map (fun r : Rg.Reg => r.nm)))) := Lh (fun w hx => namesRegister_any (hrs.ext (fun _ _ h => h) hx) (by omega))
 have hml0 : (F.rs.map (fun r : Rg.Reg => r.nm)).length = F.rs.length := List.length_map _
 have HNS1 := Lh (fun (w : World) (hx : Ext W w) => namesAction_any (Tj.Acts.ext has hx) (by omega))
 have hml1 : (F.ac.map (fun r : Tj.Act => r.nm)).length = F.ac.length := List.length_map _
 have HNS2 := Lh (fun (w : World) (hx : Ext W w) => namesTable_any (Tj.Tabs.ext hts hx) (by omega))
 have hml2 : (F.ts.map (fun r : Tj.Tab => r.nm)).length = F.ts.length := List.length_map _
 have bx := aH W (.cells (Yq0 F a1 m1 a2 m2 a3 m3 a4 m4 a5 m5 a6 m6 a7 m7 n7 a8 m8) 31)
 have k0 := alw (cQ 0 bx)
 have k1 := alw (cQ 1 bx)
 have k2 := alw (cQ 2 bx)
 have k3 := alw (cQ 3 bx)
 have k4 := alw (cQ 4 bx)
 have k5 := alw (cQ 5 bx)
 have k6 := alw (cQ 6 bx)
 have k7 := alw (cQ 7 bx)
 have k8 := alw (cQ 8 bx)
 clear bx
 clear hF hnm hhs hmd hrs has hts hss hct hdp
 clear hR
 go_enter Tryz.func23, Tryz.ntmps23
 go_wp2_with fail
 refine (HNS0.out _ grows).mono ?_
 rintro e w2 ⟨na, nc, rfl, xw2, hst, hnc⟩
 have HST0 := Lh hst
 have sw2 := Sm xw2
 rw [hml0] at HST0 hnc
 rw [hml0]
 have HNC0 := Lh hnc
 clear hst
 go_wp2_with fail
 go_loopw [17] (fun q wr => ∃ k : Nat, k ≤ F.rs.length ∧ q = .int .i64 k ∧ Hid (Ext w2 wr ∧ ∀ j, j < k → Tj.namedG (fun r : Rg.Reg => r.nm) Rg.chk F.rs j = 0)) (fun q _ => F.rs.length - (intOf q).toNat)
 case atStart => exact ⟨0, Nat.zero_le _, rfl, Lh ⟨eR _, by intro j hj; omega⟩⟩
 case round =>
  obtain ⟨k, hk, rfl, HZ⟩ := hrel
  have sx : Step w2 wr := ⟨HZ.out.1⟩
  by_cases hlt : k < F.rs.length
  ·obtain ⟨⟨hn, fw, fs⟩, hx⟩ : ∃ x, F.rs[k]? = some x := ⟨_, gE hlt⟩
   obtain ⟨b, o, rfl, _, _⟩ := Rows.at HRS.out (by omega)
   obtain ⟨u0, u1, u2, hns, _⟩ := regs_at HRS.out k _ hx rfl
   dsimp only at u0 u1 u2 hns
   have HNS := Lh hns
   have bx := aH wr (.cells #[.string hn, .int .i64 fw, .int .i64 fs] 83)
   have mm0 := alw (cQ 0 bx)
   have mm1 := alw (cQ 1 bx)
   have mm2 := alw (cQ 2 bx)
   clear bx
   clear hns
   have HX := Lh hx
   have HRP := Lh (fun (w : World) (hx : Ext w2 w) => by
    have h := repeated_any (W := w) (oa := na) (c := nc) (l := (F.rs.map (fun r : Rg.Reg => r.nm))) (by rw [hml0]; exact HST0.out.ext hx) (by rw [hml0]; exact HNC0.out) k (by rw [hml0]; exact hlt)
    rw [hml0] at h; exact h)
   obtain ⟨rp, hrp⟩ : ∃ z, z = Tj.rep (F.rs.map (fun r : Rg.Reg => r.nm)) k := ⟨_, rfl⟩
   rw [← hrp] at HRP
   have HRE := Lh hrp
   clear hx hrp
   go_wp2_with fail
   refine (rcheck_any ⟨hn, fw, fs⟩ HNS.out _).mono ?_
   rintro e w5 ⟨rfl, x5⟩
   obtain ⟨ce, hce⟩ : ∃ z, z = Rg.chk ⟨hn, fw, fs⟩ := ⟨_, rfl⟩
   rw [← hce]
   have HCE := Lh hce
   clear hce
   have s5 := Sm x5
   go_wp2_with fail
   refine (require_any _ _ _ _ _).mono ?_
   rintro e wb0 ⟨xwb0, hz0 | hz0⟩
   rotate_left
   ·obtain ⟨hz0, a, b, c, rfl⟩ := hz0
    have swb0 := Sm xwb0
    exact ⟨rfl, thr_bad (by rw [HR.out]; exact or_l (nm_bad HX.out HZ.out.2 (HCE.out.symm) hz0) hz0) grows hz0⟩
   obtain ⟨hz0, rfl⟩ := hz0
   have swb0 := Sm xwb0
   have HG0 := Lh hz0
   clear hz0
   go_wp2_with fail
   refine via (HRP.out _ grows) fun w8 x8 s8 => ?_
   go_wp2_with fail
   refine (when_hid _ _ _).mono ?_
   rintro e wa1 ⟨z1, hw1, rfl, xwa1⟩
   have swa1 := Sm xwa1
   have HW1 := Lh hw1
   clear hw1
   go_wp2_with fail
   refine (require_any _ _ _ _ _).mono ?_
   rintro e wb1 ⟨xwb1, hz1 | hz1⟩
   rotate_left
   ·obtain ⟨hz1, a, b, c, rfl⟩ := hz1
    have swb1 := Sm xwb1
    exact ⟨rfl, thr_bad (by rw [HR.out]; exact or_l (nm_rep HX.out HZ.out.2 ((HCE.out.symm).trans HG0.out) (by rw [← HRE.out]; exact (wn HW1.out hz1).1) hz1 (wn HW1.out hz1).2) hz1) grows hz1⟩
   obtain ⟨hz1, rfl⟩ := hz1
   have swb1 := Sm xwb1
   have HG1 := Lh hz1
   clear hz1
   go_wp2_with fail
   go_roundw
   case rel =>
    refine ⟨k + 1, by omega, by go_num, Lh ⟨grows, fun j hj => ?_⟩⟩
    rcases Nat.lt_or_ge j k with h1 | h1
    ·exact HZ.out.2 j h1
    ·obtain rfl : j = k := by omega
     exact nm_good HX.out ((HCE.out.symm).trans HG0.out) (by rw [← HRE.out]; exact wz HW1.out HG1.out (by decide))
   case measure => simp [intOf]; omega
  ·obtain rfl : k = F.rs.length := by omega
   have HP0 : Hid (Tj.namedE (fun r : Rg.Reg => r.nm) Rg.chk F.rs = 0) := Lh (Tj.namedE_zero HZ.out.2)
   have hp0 := HP0.out
   obtain ⟨w20, hw0⟩ : ∃ z : World, z = wr := ⟨_, rfl⟩
   subst hw0
   clear hp0 HZ
   go_wp2_with fail
   refine (HNS1.out _ grows).mono ?_
   rintro e w22 ⟨na, nc, rfl, xw22, hst, hnc⟩
   have HST1 := Lh hst
   have sw22 := Sm xw22
   rw [hml1] at HST1 hnc
   rw [hml1]
   have HNC1 := Lh hnc
   clear hst
   go_wp2_with fail
   go_loopw [39] (fun q wr => ∃ k : Nat, k ≤ F.ac.length ∧ q = .int .i64 k ∧ Hid (Ext w22 wr ∧ ∀ j, j < k → Tj.namedG (fun r : Tj.Act => r.nm) (Tj.actE F) F.ac j = 0)) (fun q _ => F.ac.length - (intOf q).toNat)
   case atStart => exact ⟨0, Nat.zero_le _, rfl, Lh ⟨eR _, by intro j hj; omega⟩⟩
   case round =>
    obtain ⟨k, hk, rfl, HZ⟩ := hrel
    have sx : Step w22 wr := ⟨HZ.out.1⟩
    by_cases hlt : k < F.ac.length
    ·obtain ⟨x, hx⟩ : ∃ x, F.ac[k]? = some x := ⟨_, gE hlt⟩
     have HX := Lh hx
     have HRP := Lh (fun (w : World) (hx : Ext w22 w) => by
      have h := repeated_any (W := w) (oa := na) (c := nc) (l := (F.ac.map (fun r : Tj.Act => r.nm))) (by rw [hml1]; exact HST1.out.ext hx) (by rw [hml1]; exact HNC1.out) k (by rw [hml1]; exact hlt)
      rw [hml1] at h; exact h)
     obtain ⟨rp, hrp⟩ : ∃ z, z = Tj.rep (F.ac.map (fun r : Tj.Act => r.nm)) k := ⟨_, rfl⟩
     rw [← hrp] at HRP
     have HRE := Lh hrp
     clear hx hrp
     go_wp2_with fail
     refine (HAC.out (k : Int) _ grows).mono ?_
     rintro e w5 ⟨i5, rfl, x5⟩
     obtain ⟨ce, hce⟩ : ∃ z, z = Tj.actI F k := ⟨_, rfl⟩
     rw [← hce]
     have HCE := Lh hce
     clear hce
     have s5 := Sm x5
     go_wp2_with fail
     refine (require_any _ _ _ _ _).mono ?_
     rintro e wb3 ⟨xwb3, hz3 | hz3⟩
     rotate_left
     ·obtain ⟨hz3, a, b, c, rfl⟩ := hz3
      have swb3 := Sm xwb3
      exact ⟨rfl, thr_bad (by rw [HR.out]; exact or_r HP0.out (or_l (nm_bad HX.out HZ.out.2 ((act_at HX.out).symm.trans HCE.out.symm) hz3) hz3)) grows hz3⟩
     obtain ⟨hz3, rfl⟩ := hz3
     have swb3 := Sm xwb3
     have HG3 := Lh hz3
     clear hz3
     go_wp2_with fail
     refine via (HRP.out _ grows) fun w8 x8 s8 => ?_
     go_wp2_with fail
     refine (when_hid _ _ _).mono ?_
     rintro e wa4 ⟨z4, hw4, rfl, xwa4⟩
     have swa4 := Sm xwa4
     have HW4 := Lh hw4
     clear hw4
     go_wp2_with fail
     refine (require_any _ _ _ _ _).mono ?_
     rintro e wb4 ⟨xwb4, hz4 | hz4⟩
     rotate_left
     ·obtain ⟨hz4, a, b, c, rfl⟩ := hz4
      have swb4 := Sm xwb4
      exact ⟨rfl, thr_bad (by rw [HR.out]; exact or_r HP0.out (or_l (nm_rep HX.out HZ.out.2 (((act_at HX.out).symm.trans HCE.out.symm).trans HG3.out) (by rw [← HRE.out]; exact (wn HW4.out hz4).1) hz4 (wn HW4.out hz4).2) hz4)) grows hz4⟩
     obtain ⟨hz4, rfl⟩ := hz4
     have swb4 := Sm xwb4
     have HG4 := Lh hz4
     clear hz4
     go_wp2_with fail
     go_roundw
     case rel =>
      refine ⟨k + 1, by omega, by go_num, Lh ⟨grows, fun j hj => ?_⟩⟩
      rcases Nat.lt_or_ge j k with h1 | h1
      ·exact HZ.out.2 j h1
      ·obtain rfl : j = k := by omega
       exact nm_good HX.out (((act_at HX.out).symm.trans HCE.out.symm).trans HG3.out) (by rw [← HRE.out]; exact wz HW4.out HG4.out (by decide))
     case measure => simp [intOf]; omega
    ·obtain rfl : k = F.ac.length := by omega
     have HP1 : Hid (Tj.namedE (fun r : Tj.Act => r.nm) (Tj.actE F) F.ac = 0) := Lh (Tj.namedE_zero HZ.out.2)
     have hp1 := HP1.out
     obtain ⟨w40, hw1⟩ : ∃ z : World, z = wr := ⟨_, rfl⟩
     subst hw1
     clear hp1 HZ
     go_wp2_with fail
     refine (HNS2.out _ grows).mono ?_
     rintro e w42 ⟨na, nc, rfl, xw42, hst, hnc⟩
     have HST2 := Lh hst
     have sw42 := Sm xw42
     rw [hml2] at HST2 hnc
     rw [hml2]
     have HNC2 := Lh hnc
     clear hst
     go_wp2_with fail
     go_loopw [65] (fun q wr => ∃ k : Nat, k ≤ F.ts.length ∧ q = .int .i64 k ∧ Hid (Ext w42 wr ∧ ∀ j, j < k → Tj.namedG (fun r : Tj.Tab => r.nm) (Tj.tabE F) F.ts j = 0)) (fun q _ => F.ts.length - (intOf q).toNat)
     case atStart => exact ⟨0, Nat.zero_le _, rfl, Lh ⟨eR _, by intro j hj; omega⟩⟩
     case round =>
      obtain ⟨k, hk, rfl, HZ⟩ := hrel
      have sx : Step w42 wr := ⟨HZ.out.1⟩
      by_cases hlt : k < F.ts.length
      ·obtain ⟨x, hx⟩ : ∃ x, F.ts[k]? = some x := ⟨_, gE hlt⟩
       have HX := Lh hx
       have HRP := Lh (fun (w : World) (hx : Ext w42 w) => by
        have h := repeated_any (W := w) (oa := na) (c := nc) (l := (F.ts.map (fun r : Tj.Tab => r.nm))) (by rw [hml2]; exact HST2.out.ext hx) (by rw [hml2]; exact HNC2.out) k (by rw [hml2]; exact hlt)
        rw [hml2] at h; exact h)
       obtain ⟨rp, hrp⟩ : ∃ z, z = Tj.rep (F.ts.map (fun r : Tj.Tab => r.nm)) k := ⟨_, rfl⟩
       rw [← hrp] at HRP
       have HRE := Lh hrp
       clear hx hrp
       go_wp2_with fail
       refine (HTC.out (k : Int) _ grows).mono ?_
       rintro e w5 ⟨i5, rfl, x5⟩
       obtain ⟨ce, hce⟩ : ∃ z, z = Tj.tabI F k := ⟨_, rfl⟩
       rw [← hce]
       have HCE := Lh hce
       clear hce
       have s5 := Sm x5
       go_wp2_with fail
       refine (require_any _ _ _ _ _).mono ?_
       rintro e wb6 ⟨xwb6, hz6 | hz6⟩
       rotate_left
       ·obtain ⟨hz6, a, b, c, rfl⟩ := hz6
        have swb6 := Sm xwb6
        exact ⟨rfl, thr_bad (by rw [HR.out]; exact or_r HP0.out (or_r HP1.out (nm_bad HX.out HZ.out.2 ((tab_at HX.out).symm.trans HCE.out.symm) hz6))) grows hz6⟩
       obtain ⟨hz6, rfl⟩ := hz6
       have swb6 := Sm xwb6
       have HG6 := Lh hz6
       clear hz6
       go_wp2_with fail
       refine via (HRP.out _ grows) fun w8 x8 s8 => ?_
       go_wp2_with fail
       refine (when_hid _ _ _).mono ?_
       rintro e wa7 ⟨z7, hw7, rfl, xwa7⟩
       have swa7 := Sm xwa7
       have HW7 := Lh hw7
       clear hw7
       go_wp2_with fail
       refine (require_any _ _ _ _ _).mono ?_
       rintro e wb7 ⟨xwb7, hz7 | hz7⟩
       rotate_left
       ·obtain ⟨hz7, a, b, c, rfl⟩ := hz7
        have swb7 := Sm xwb7
        exact ⟨rfl, thr_bad (by rw [HR.out]; exact or_r HP0.out (or_r HP1.out (nm_rep HX.out HZ.out.2 (((tab_at HX.out).symm.trans HCE.out.symm).trans HG6.out) (by rw [← HRE.out]; exact (wn HW7.out hz7).1) hz7 (wn HW7.out hz7).2))) grows hz7⟩
       obtain ⟨hz7, rfl⟩ := hz7
       have swb7 := Sm xwb7
       have HG7 := Lh hz7
       clear hz7
       go_wp2_with fail
       go_roundw
       case rel =>
        refine ⟨k + 1, by omega, by go_num, Lh ⟨grows, fun j hj => ?_⟩⟩
        rcases Nat.lt_or_ge j k with h1 | h1
        ·exact HZ.out.2 j h1
        ·obtain rfl : j = k := by omega
         exact nm_good HX.out (((tab_at HX.out).symm.trans HCE.out.symm).trans HG6.out) (by rw [← HRE.out]; exact wz HW7.out HG7.out (by decide))
       case measure => simp [intOf]; omega
      ·obtain rfl : k = F.ts.length := by omega
       have HP2 : Hid (Tj.namedE (fun r : Tj.Tab => r.nm) (Tj.tabE F) F.ts = 0) := Lh (Tj.namedE_zero HZ.out.2)
       go_wp2_with fail
       first | go_end0 | skip
       exact thr_ok (by rw [HR.out]; exact or_r HP0.out (or_r HP1.out HP2.out)) grows (by first | rfl | trivial)
theorem cflow_any {W : World} {p : Pg.PV} {F : Tj.FP} (hG : Tj.IsG W p F) : Calls Tryz.prog 24 #[p.val] W (Thr W (Tj.orE (Ps.chk F.P F.ss).2.2 (Tj.orE (Tj.ctlE F) (Dp.chk F.P).2))) := by
 have HPC := Lh (fun (w : World) (hx : Ext W w) => pcheck_any (hG.1.ext hx).2.1)
 have HCC := Lh (fun (w : World) (hx : Ext W w) => ccheck_any (hG.ext hx))
 have HDC := Lh (fun (w : World) (hx : Ext W w) => dcheck_any (hG.1.ext hx).2.1.1 hG.2.2)
 obtain ⟨hF, _⟩ := hG
 obtain ⟨a1, a2, a3, a4, a5, a6, a7, a8, m1, m2, m3, m4, m5, m6, n7, m7, m8, hf⟩ := hF.form
 obtain ⟨rfl, hnm, hhs, hmd, hrs, has, hts, hss, hct, hdp, l1, l2, l3, l4, l5, l6, l7, l8⟩ := hf
 obtain ⟨R, hR⟩ : ∃ z, z = Tj.orE (Ps.chk F.P F.ss).2.2 (Tj.orE (Tj.ctlE F) (Dp.chk F.P).2) := ⟨_, rfl⟩
 rw [← hR]
 dsimp only [Pg.PV.val] at HPC HCC HDC ⊢
 have HR := Lh hR
 obtain ⟨⟨p1, p2, p3⟩, hp⟩ : ∃ z, z = Ps.chk F.P F.ss := ⟨_, rfl⟩
 obtain ⟨ce, hce⟩ : ∃ z, z = Tj.ctlE F := ⟨_, rfl⟩
 unfold Dp.chkV at HDC
 obtain ⟨⟨d1, d2⟩, hd⟩ : ∃ z, z = Dp.chk F.P := ⟨_, rfl⟩
 rw [← hp] at HPC HR
 rw [← hce] at HCC HR
 rw [← hd] at HDC HR
 dsimp only at HPC HDC HR
 have bx := aH W (.cells (Yq0 F a1 m1 a2 m2 a3 m3 a4 m4 a5 m5 a6 m6 a7 m7 n7 a8 m8) 31)
 have k0 := alw (cQ 0 bx)
 have k1 := alw (cQ 1 bx)
 have k2 := alw (cQ 2 bx)
 have k3 := alw (cQ 3 bx)
 have k4 := alw (cQ 4 bx)
 have k5 := alw (cQ 5 bx)
 have k6 := alw (cQ 6 bx)
 have k7 := alw (cQ 7 bx)
 have k8 := alw (cQ 8 bx)
 clear bx
 clear hF hnm hhs hmd hrs has hts hss hct hdp
 clear hR hp hce hd
 go_enter Tryz.func24, Tryz.ntmps24
 go_wp2_with fail
 refine via (HPC.out _ grows) fun w2 xw2 sw2 => ?_
 go_wp2_with fail
 refine (require_any _ _ _ _ _).mono ?_
 rintro e wb0 ⟨xwb0, hz0 | hz0⟩
 rotate_left
 ·obtain ⟨hz0, a, b, c, rfl⟩ := hz0
  have swb0 := Sm xwb0
  exact ⟨rfl, thr_bad (by rw [HR.out]; exact or_l rfl hz0) grows hz0⟩
 obtain ⟨hz0, rfl⟩ := hz0
 have swb0 := Sm xwb0
 have HG0 := Lh hz0
 clear hz0
 go_wp2_with fail
 refine (HCC.out _ grows).mono ?_
 rintro e w3 ⟨i3, rfl, x3⟩
 have s3 := Sm x3
 go_wp2_with fail
 refine (require_any _ _ _ _ _).mono ?_
 rintro e wb1 ⟨xwb1, hz1 | hz1⟩
 rotate_left
 ·obtain ⟨hz1, a, b, c, rfl⟩ := hz1
  have swb1 := Sm xwb1
  exact ⟨rfl, thr_bad (by rw [HR.out]; exact or_r HG0.out (or_l rfl hz1)) grows hz1⟩
 obtain ⟨hz1, rfl⟩ := hz1
 have swb1 := Sm xwb1
 have HG1 := Lh hz1
 clear hz1
 go_wp2_with fail
 refine via (HDC.out _ grows) fun w4 xw4 sw4 => ?_
 go_wp2_with fail
 refine (require_any _ _ _ _ _).mono ?_
 rintro e wb2 ⟨xwb2, hz2 | hz2⟩
 rotate_left
 ·obtain ⟨hz2, a, b, c, rfl⟩ := hz2
  have swb2 := Sm xwb2
  exact ⟨rfl, thr_bad (by rw [HR.out]; exact or_r HG0.out (or_r HG1.out rfl)) grows hz2⟩
 obtain ⟨hz2, rfl⟩ := hz2
 have swb2 := Sm xwb2
 have HG2 := Lh hz2
 clear hz2
 go_wp2_with fail
 first | go_end0 | skip
 exact thr_ok (by rw [HR.out]; exact or_r HG0.out (or_r HG1.out HG2.out)) grows (by first | rfl | trivial)
theorem assert_fail (x a b c : Int) (w : World) : (Instr.typeAssert (.iface 103 (.agg #[.int .i64 x, .int .i64 a, .int .i64 b, .int .i64 c])) 20 103 true).run Tryz.prog w = .ok (.tuple #[.agg #[.int .i64 x, .int .i64 a, .int .i64 b, .int .i64 c], .bool true]) w := by kernel_rfl
theorem caught_any (q : Nat) (x a b c : Int) (older : List PanicEntry) (w : World) (y0 y1 y2 y3 : Int) (hq : w.heap[q]? = some (.cells #[.int .i64 y0, .int .i64 y1, .int .i64 y2, .int .i64 y3] 57 (0, 0))) :
 CallsD Tryz.prog 19 #[.pointer (some ⟨q, 0, none⟩)] (.panicking ({ v := .iface 103 (.agg #[.int .i64 x, .int .i64 a, .int .i64 b, .int .i64 c]), recovered := false } :: older)) w fun e u' w' =>
  e = .returned (.tuple #[]) ∧ u' = .panicking ({ v := .iface 103 (.agg #[.int .i64 x, .int .i64 a, .int .i64 b, .int .i64 c]), recovered := true } :: older) ∧ (∀ W0 : World, Ext W0 w → W0.heap.size ≤ q → Ext W0 w') ∧ w'.heap[q]? = some (.cells #[.int .i64 x, .int .i64 a, .int .i64 b, .int .i64 c] 57 (0, 0)) := by
 refine callsD_of_wpS Tryz.func19 rfl fun c₀ cs hu => ?_
 apply wpS_seq
 apply wpS_region
 simp [wpOpsS, go_sem, recoverD, hu, Tryz.ntmps19, Exit.thenS]
 have ht : (#[Value.pointer (some ⟨q, 0, none⟩)] ++ (((Array.replicate 15 undef).setIfInBounds 3 (.iface 103 (.agg #[.int .i64 x, .int .i64 a, .int .i64 b, .int .i64 c]))).setIfInBounds 0 (.iface 103 (.agg #[.int .i64 x, .int .i64 a, .int .i64 b, .int .i64 c])))) = #[.pointer (some ⟨q, 0, none⟩), .iface 103 (.agg #[.int .i64 x, .int .i64 a, .int .i64 b, .int .i64 c]), undef, undef, .iface 103 (.agg #[.int .i64 x, .int .i64 a, .int .i64 b, .int .i64 c]), undef, undef, undef, undef, undef, undef, undef, undef, undef, undef, undef] := rfl
 rw [ht]
 clear ht
 have hta := assert_fail x a b c
 refine wpS_of_wp ?_
 have q0 := alw (cQ 0 hq)
 have q1 := alw (cQ 1 hq)
 have q2 := alw (cQ 2 hq)
 have q3 := alw (cQ 3 hq)
 have f0 := alwF (o := 0) hq
 have f1 := alwF (o := 1) hq
 have f2 := alwF (o := 2) hq
 have f3 := alwF (o := 3) hq
 have hqs : q < w.heap.size := lt_of_block hq
 have n1 : ¬ q = w.heap.size := by omega
 have n2 : ¬ w.heap.size = q := by omega
 go_wp2_with fail
 refine ⟨rfl, _, rfl, .tuple #[], by simp [results, Tryz.results19, go_sem], by first | rfl | trivial, by first | rfl | trivial, fun W0 h hq0 => ((((h.setCell hq0 _).setCell hq0 _).setCell hq0 _).setCell hq0 _).alloc _, ((eR _).alloc _).heap ?_⟩
 rw [setCell_heap (setCell_heap (setCell_heap (setCell_heap hq)))]; rfl
theorem idle_any (q : Nat) (w : World) : CallsD Tryz.prog 19 #[.pointer (some ⟨q, 0, none⟩)] .returning w fun e u' w' => e = .returned (.tuple #[]) ∧ u' = .returning ∧ w' = w := by
 refine callsD_of_wpS Tryz.func19 rfl fun c₀ cs hu => ?_
 apply wpS_seq
 apply wpS_region
 simp [wpOpsS, go_sem, recoverD, hu, Tryz.ntmps19, Exit.thenS]
 refine wpS_of_wp ?_
 go_wp2_with fail
 refine ⟨rfl, .returning, ?_, .tuple #[], by simp [results, Tryz.results19, go_sem], by first | rfl | trivial, by first | rfl | trivial, by first | rfl | trivial⟩
 cases c₀
 simp_all
/-- a diagnostic with the code x -/
def DiagP (W : World) (x : Int) (e : Ending) (w' : World) : Prop := ∃ a b c : Int, e = .returned (.agg #[.int .i64 x, .int .i64 a, .int .i64 b, .int .i64 c]) ∧ Ext W w'
namespace Tj
theorem limE_ok {F : FP} (h : limE F = 0) : F.P.hs.length ≤ 8 ∧ F.rs.length ≤ 4 ∧ F.ac.length ≤ 16 ∧ F.ts.length ≤ 12 := by
 unfold limE at h
 by_cases h0 : Id.ok F.nm = true
 ·rw [if_pos h0] at h
  by_cases h1 : 8 < F.P.hs.length
  ·rw [if_pos h1] at h; exact absurd h (by decide)
  ·rw [if_neg h1] at h
   by_cases h2 : 4 < F.rs.length
   ·rw [if_pos h2] at h; exact absurd h (by decide)
   ·rw [if_neg h2] at h
    by_cases h3 : 16 < F.ac.length
    ·rw [if_pos h3] at h; exact absurd h (by decide)
    ·rw [if_neg h3] at h
     by_cases h4 : 12 < F.ts.length
     ·rw [if_pos h4] at h; exact absurd h (by decide)
     ·omega
 ·rw [if_neg h0] at h; exact absurd h (by decide)
theorem orE_assoc (a b c : Int) : orE (orE a b) c = orE a (orE b c) := by
 unfold orE
 by_cases h : a ≠ 0
 ·rw [if_pos h, if_pos h, if_pos h]
 ·rw [if_neg h, if_neg h]
end Tj
theorem pcheck2_any {W : World} {p : Pg.PV} {F : Tj.FP} (hG : Tj.IsG W p F) : Calls Tryz.prog 10 #[p.val] W (DiagP W (Tj.chkF F)) := by
 obtain ⟨v1, hv1⟩ : ∃ z, z = Tj.limE F := ⟨_, rfl⟩
 obtain ⟨v2, hv2⟩ : ∃ z, z = Tj.namedE (·.1) Tj.hdE F.P.hs := ⟨_, rfl⟩
 obtain ⟨v3, hv3⟩ : ∃ z, z = Tj.metE F.P.md := ⟨_, rfl⟩
 obtain ⟨v4, hv4⟩ : ∃ z, z = Tj.orE (Tj.namedE (fun r : Rg.Reg => r.nm) Rg.chk F.rs) (Tj.orE (Tj.namedE (fun r : Tj.Act => r.nm) (Tj.actE F) F.ac) (Tj.namedE (fun r : Tj.Tab => r.nm) (Tj.tabE F) F.ts)) := ⟨_, rfl⟩
 obtain ⟨v5, hv5⟩ : ∃ z, z = Tj.orE (Ps.chk F.P F.ss).2.2 (Tj.orE (Tj.ctlE F) (Dp.chk F.P).2) := ⟨_, rfl⟩
 have H1 : Hid (∀ w, Ext W w → Calls Tryz.prog 20 #[p.val] w (Thr w v1)) := Lh (fun w hx => by rw [hv1]; exact climits_any (hG.1.ext hx))
 have H2 : Hid (v1 = 0 → ∀ w, Ext W w → Calls Tryz.prog 21 #[p.val] w (Thr w v2)) := Lh (fun h w hx => by rw [hv2]; exact cheaders_any (hG.1.ext hx) (Tj.limE_ok (by rw [← hv1]; exact h)).1)
 have H3 : Hid (∀ w, Ext W w → Calls Tryz.prog 22 #[p.val] w (Thr w v3)) := Lh (fun w hx => by rw [hv3]; exact cmeta_any (hG.1.ext hx))
 have H4 : Hid (v1 = 0 → ∀ w, Ext W w → Calls Tryz.prog 23 #[p.val] w (Thr w v4)) := Lh (fun h w hx => by
  have hl := Tj.limE_ok (F := F) (by rw [← hv1]; exact h)
  rw [hv4]; exact cobjects_any (hG.1.ext hx) hl.2.1 hl.2.2.1 hl.2.2.2)
 have H5 : Hid (∀ w, Ext W w → Calls Tryz.prog 24 #[p.val] w (Thr w v5)) := Lh (fun w hx => by rw [hv5]; exact cflow_any (hG.ext hx))
 have hch : Tj.chkF F = Tj.orE v1 (Tj.orE v2 (Tj.orE v3 (Tj.orE v4 v5))) := by
  rw [hv1, hv2, hv3, hv4, hv5]
  unfold Tj.chkF
  rw [Tj.orE_assoc, Tj.orE_assoc]
 obtain ⟨hF, _⟩ := hG
 obtain ⟨a1, a2, a3, a4, a5, a6, a7, a8, m1, m2, m3, m4, m5, m6, n7, m7, m8, hf⟩ := hF.form
 obtain ⟨rfl, hnm, hhs, hmd, hrs, has, hts, hss, hct, hdp, l1, l2, l3, l4, l5, l6, l7, l8⟩ := hf
 obtain ⟨R, hR⟩ : ∃ z, z = Tj.chkF F := ⟨_, rfl⟩
 rw [← hR]
 have HR := Lh (hR.trans hch)
 dsimp only [Pg.PV.val] at H1 H2 H3 H4 H5 ⊢
 have hmf : ∀ (fn : Fn) (first cap : Array Value) (w : World), (Instr.makeFunc fn first cap).run Tryz.prog w = .ok (.func fn first cap) w := fun _ _ _ _ => rfl
 have bx := aH W (.cells (Yq0 F a1 m1 a2 m2 a3 m3 a4 m4 a5 m5 a6 m6 a7 m7 n7 a8 m8) 31)
 have k0 := alw (cQ 0 bx)
 have k1 := alw (cQ 1 bx)
 have k2 := alw (cQ 2 bx)
 have k3 := alw (cQ 3 bx)
 have k4 := alw (cQ 4 bx)
 have k5 := alw (cQ 5 bx)
 have k6 := alw (cQ 6 bx)
 have k7 := alw (cQ 7 bx)
 have k8 := alw (cQ 8 bx)
 clear bx
 have bd := aH (W.alloc (.cells (Yq0 F a1 m1 a2 m2 a3 m3 a4 m4 a5 m5 a6 m6 a7 m7 n7 a8 m8) 31)) (.cells #[.int .i64 0, .int .i64 0, .int .i64 0, .int .i64 0] 57)
 rw [szA] at bd
 have BD := Lh bd
 clear hF hnm hhs hmd hrs has hts hss hct hdp
 clear bd hR hch hv1 hv2 hv3 hv4 hv5
 go_enter_defers Tryz.func10, Tryz.ntmps10
 go_wp2_with fail
 refine ((H1.out) _ grows).mono ?_
 rintro e wv1 ⟨xv1, h1 | h1⟩
 rotate_left
 ·obtain ⟨h1, a, b, c, rfl⟩ := h1
  have hR : R = v1 := by rw [HR.out]; exact or_l rfl h1
  have sv := Sm xv1
  have hq := alwB BD.out wv1
  have hxw : Ext W wv1 := grows
  have HQ := Lh hq
  have HXW := Lh hxw
  refine leaves_cons (f := 19) (args := #[.pointer (some ⟨W.heap.size + 1, 0, none⟩)]) (by simp) (by simp [go_sem]) ?_
  refine (caught_any (W.heap.size + 1) _ a b c [] wv1 0 0 0 0 HQ.out).mono ?_
  rintro e u' w'' ⟨rfl, rfl, hx, hcell⟩
  have c0 := cQ 0 hcell
  have c1 := cQ 1 hcell
  have c2 := cQ 2 hcell
  have c3 := cQ 3 hcell
  have HX := Lh (hx W HXW.out (by omega))
  have HRR := Lh hR
  clear hx hcell hq hxw hR
  have fin : DiagP W R (.returned (.agg #[.int .i64 v1, .int .i64 a, .int .i64 b, .int .i64 c])) w'' := ⟨a, b, c, by rw [HRR.out], HX.out⟩
  have FIN := Lh fin
  clear fin
  simp [Leaves, settle, results, Tryz.results10, go_sem, c0, c1, c2, c3]
  exact FIN.out
 obtain ⟨h1, rfl⟩ := h1
 have s1 := Sm xv1
 have HZ1 := Lh h1
 clear h1
 go_wp2_with fail
 refine ((H2.out HZ1.out) _ grows).mono ?_
 rintro e wv2 ⟨xv2, h2 | h2⟩
 rotate_left
 ·obtain ⟨h2, a, b, c, rfl⟩ := h2
  have hR : R = v2 := by rw [HR.out]; exact or_r HZ1.out (or_l rfl h2)
  have sv := Sm xv2
  have hq := alwB BD.out wv2
  have hxw : Ext W wv2 := grows
  have HQ := Lh hq
  have HXW := Lh hxw
  refine leaves_cons (f := 19) (args := #[.pointer (some ⟨W.heap.size + 1, 0, none⟩)]) (by simp) (by simp [go_sem]) ?_
  refine (caught_any (W.heap.size + 1) _ a b c [] wv2 0 0 0 0 HQ.out).mono ?_
  rintro e u' w'' ⟨rfl, rfl, hx, hcell⟩
  have c0 := cQ 0 hcell
  have c1 := cQ 1 hcell
  have c2 := cQ 2 hcell
  have c3 := cQ 3 hcell
  have HX := Lh (hx W HXW.out (by omega))
  have HRR := Lh hR
  clear hx hcell hq hxw hR
  have fin : DiagP W R (.returned (.agg #[.int .i64 v2, .int .i64 a, .int .i64 b, .int .i64 c])) w'' := ⟨a, b, c, by rw [HRR.out], HX.out⟩
  have FIN := Lh fin
  clear fin
  simp [Leaves, settle, results, Tryz.results10, go_sem, c0, c1, c2, c3]
  exact FIN.out
 obtain ⟨h2, rfl⟩ := h2
 have s2 := Sm xv2
 have HZ2 := Lh h2
 clear h2
 go_wp2_with fail
 refine ((H3.out) _ grows).mono ?_
 rintro e wv3 ⟨xv3, h3 | h3⟩
 rotate_left
 ·obtain ⟨h3, a, b, c, rfl⟩ := h3
  have hR : R = v3 := by rw [HR.out]; exact or_r HZ1.out (or_r HZ2.out (or_l rfl h3))
  have sv := Sm xv3
  have hq := alwB BD.out wv3
  have hxw : Ext W wv3 := grows
  have HQ := Lh hq
  have HXW := Lh hxw
  refine leaves_cons (f := 19) (args := #[.pointer (some ⟨W.heap.size + 1, 0, none⟩)]) (by simp) (by simp [go_sem]) ?_
  refine (caught_any (W.heap.size + 1) _ a b c [] wv3 0 0 0 0 HQ.out).mono ?_
  rintro e u' w'' ⟨rfl, rfl, hx, hcell⟩
  have c0 := cQ 0 hcell
  have c1 := cQ 1 hcell
  have c2 := cQ 2 hcell
  have c3 := cQ 3 hcell
  have HX := Lh (hx W HXW.out (by omega))
  have HRR := Lh hR
  clear hx hcell hq hxw hR
  have fin : DiagP W R (.returned (.agg #[.int .i64 v3, .int .i64 a, .int .i64 b, .int .i64 c])) w'' := ⟨a, b, c, by rw [HRR.out], HX.out⟩
  have FIN := Lh fin
  clear fin
  simp [Leaves, settle, results, Tryz.results10, go_sem, c0, c1, c2, c3]
  exact FIN.out
 obtain ⟨h3, rfl⟩ := h3
 have s3 := Sm xv3
 have HZ3 := Lh h3
 clear h3
 go_wp2_with fail
 refine ((H4.out HZ1.out) _ grows).mono ?_
 rintro e wv4 ⟨xv4, h4 | h4⟩
 rotate_left
 ·obtain ⟨h4, a, b, c, rfl⟩ := h4
  have hR : R = v4 := by rw [HR.out]; exact or_r HZ1.out (or_r HZ2.out (or_r HZ3.out (or_l rfl h4)))
  have sv := Sm xv4
  have hq := alwB BD.out wv4
  have hxw : Ext W wv4 := grows
  have HQ := Lh hq
  have HXW := Lh hxw
  refine leaves_cons (f := 19) (args := #[.pointer (some ⟨W.heap.size + 1, 0, none⟩)]) (by simp) (by simp [go_sem]) ?_
  refine (caught_any (W.heap.size + 1) _ a b c [] wv4 0 0 0 0 HQ.out).mono ?_
  rintro e u' w'' ⟨rfl, rfl, hx, hcell⟩
  have c0 := cQ 0 hcell
  have c1 := cQ 1 hcell
  have c2 := cQ 2 hcell
  have c3 := cQ 3 hcell
  have HX := Lh (hx W HXW.out (by omega))
  have HRR := Lh hR
  clear hx hcell hq hxw hR
  have fin : DiagP W R (.returned (.agg #[.int .i64 v4, .int .i64 a, .int .i64 b, .int .i64 c])) w'' := ⟨a, b, c, by rw [HRR.out], HX.out⟩
  have FIN := Lh fin
  clear fin
  simp [Leaves, settle, results, Tryz.results10, go_sem, c0, c1, c2, c3]
  exact FIN.out
 obtain ⟨h4, rfl⟩ := h4
 have s4 := Sm xv4
 have HZ4 := Lh h4
 clear h4
 go_wp2_with fail
 refine ((H5.out) _ grows).mono ?_
 rintro e wv5 ⟨xv5, h5 | h5⟩
 rotate_left
 ·obtain ⟨h5, a, b, c, rfl⟩ := h5
  have hR : R = v5 := by rw [HR.out]; exact or_r HZ1.out (or_r HZ2.out (or_r HZ3.out (or_r HZ4.out rfl)))
  have sv := Sm xv5
  have hq := alwB BD.out wv5
  have hxw : Ext W wv5 := grows
  have HQ := Lh hq
  have HXW := Lh hxw
  refine leaves_cons (f := 19) (args := #[.pointer (some ⟨W.heap.size + 1, 0, none⟩)]) (by simp) (by simp [go_sem]) ?_
  refine (caught_any (W.heap.size + 1) _ a b c [] wv5 0 0 0 0 HQ.out).mono ?_
  rintro e u' w'' ⟨rfl, rfl, hx, hcell⟩
  have c0 := cQ 0 hcell
  have c1 := cQ 1 hcell
  have c2 := cQ 2 hcell
  have c3 := cQ 3 hcell
  have HX := Lh (hx W HXW.out (by omega))
  have HRR := Lh hR
  clear hx hcell hq hxw hR
  have fin : DiagP W R (.returned (.agg #[.int .i64 v5, .int .i64 a, .int .i64 b, .int .i64 c])) w'' := ⟨a, b, c, by rw [HRR.out], HX.out⟩
  have FIN := Lh fin
  clear fin
  simp [Leaves, settle, results, Tryz.results10, go_sem, c0, c1, c2, c3]
  exact FIN.out
 obtain ⟨h5, rfl⟩ := h5
 have s5 := Sm xv5
 have HZ5 := Lh h5
 clear h5
 have hq5 := alwB BD.out wv5
 have q0 := cQ 0 hq5
 have q1 := cQ 1 hq5
 have q2 := cQ 2 hq5
 have q3 := cQ 3 hq5
 have f0 := free_of (o := 0) hq5
 have f1 := free_of (o := 1) hq5
 have f2 := free_of (o := 2) hq5
 have f3 := free_of (o := 3) hq5
 have HQ5 := Lh hq5
 have HX5 : Hid (Ext W wv5) := Lh grows
 clear hq5
 go_wp2_with fail
 obtain ⟨wz, hwz⟩ : ∃ z, z = ((((wv5.setCell ⟨W.heap.size + 1, 0, none⟩ (.int .i64 0)).setCell ⟨W.heap.size + 1, 1, none⟩ (.int .i64 0)).setCell ⟨W.heap.size + 1, 2, none⟩ (.int .i64 0)).setCell ⟨W.heap.size + 1, 3, none⟩ (.int .i64 0)) := ⟨_, rfl⟩
 have hz : wz.heap[W.heap.size + 1]? = some (.cells #[.int .i64 0, .int .i64 0, .int .i64 0, .int .i64 0] 57 (0, 0)) := by rw [hwz, setCell_heap (setCell_heap (setCell_heap (setCell_heap HQ5.out)))]; rfl
 have HXZ : Hid (Ext W wz) := Lh (by rw [hwz]; exact (((HX5.out.setCell (by show W.heap.size ≤ W.heap.size + 1; omega) _).setCell (by show W.heap.size ≤ W.heap.size + 1; omega) _).setCell (by show W.heap.size ≤ W.heap.size + 1; omega) _).setCell (by show W.heap.size ≤ W.heap.size + 1; omega) _)
 rw [← hwz]
 have c0 := cQ 0 hz
 have c1 := cQ 1 hz
 have c2 := cQ 2 hz
 have c3 := cQ 3 hz
 clear hwz hz q0 q1 q2 q3 f0 f1 f2 f3
 have FIN : Hid (DiagP W R (.returned (.agg #[.int .i64 0, .int .i64 0, .int .i64 0, .int .i64 0])) wz) := Lh ⟨0, 0, 0, by
  have e : R = 0 := by rw [HR.out]; exact or_r HZ1.out (or_r HZ2.out (or_r HZ3.out (or_r HZ4.out HZ5.out)))
  rw [e], HXZ.out⟩
 refine leaves_cons (f := 19) (args := #[.pointer (some ⟨W.heap.size + 1, 0, none⟩)]) (by simp) (by simp [go_sem]) ?_
 refine (idle_any (W.heap.size + 1) _).mono ?_
 rintro e u' w'' ⟨rfl, rfl, rfl⟩
 simp [Leaves, settle, results, Tryz.results10, go_sem, c0, c1, c2, c3]
 exact FIN.out
end Go.Proofs.YtkiafiaodockbaaGreat
