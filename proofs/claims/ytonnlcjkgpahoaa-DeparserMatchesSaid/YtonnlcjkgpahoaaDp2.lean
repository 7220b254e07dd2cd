/- The deparser's list: Check and the reference's Check, walked. No condition. -/
import Derived.Test.YtonnlcjkgpahoaaDp
namespace Go.Proofs.Ytonnlcjkgpahoaa
open Go.RowKit

/-- the list of the deparser has the room that it says -/
def Pg.CapP (p : Pg.PV) : Prop := ∃ a n c, p.c8 = .slice a n c ∧ n ≤ c ∧ c ≤ 9223372036854775807
def Dp.chkV (P : Pg.Prog) : Value := .tuple #[.int .i64 (Dp.chk P).1, .int .i64 (Dp.chk P).2]
theorem Dp.chkV_of {P : Pg.Prog} {x y : Int} (h : Dp.chk P = (x, y)) : Dp.chkV P = .tuple #[.int .i64 x, .int .i64 y] := by unfold Dp.chkV; rw [h]

set_option maxRecDepth 8000 in
set_option maxHeartbeats 2000000 in
theorem dcheck_any {W : World} {p : Pg.PV} {P : Pg.Prog} (hp : Pg.IsP W p P) (hc : Pg.CapP p) :
    Calls Try.prog 14 #[p.val] W (Rets W (Dp.chkV P)) := by
  have HP := Lib.hid hp
  obtain ⟨s, a1, a2, a3, a4, a5, a6, a7, a8, m1, m2, n3, m3, n4, m4, n5, m5, n6, m6, n7, m7, m8, hf⟩ := hp.form
  obtain ⟨rfl, hhs, hmd, hdp, hl1, hl2, hl8⟩ := hf
  obtain ⟨ca, cn, cc, hce, hc1, hc2⟩ := hc
  simp only [Value.slice.injEq] at hce
  obtain ⟨rfl, rfl, rfl⟩ := hce
  dsimp only [Pg.PV.val]
  have bb := alloc_heap W (.cells #[.string s, .slice a1 P.hs.length m1, .slice a2 P.md.length m2, .slice a3 n3 m3, .slice a4 n4 m4, .slice a5 n5 m5, .slice a6 n6 m6, .slice a7 n7 m7, .slice a8 P.dp.length m8] 31)
  have k1 := alw (cell_of (o := 1) bb)
  have k8 := alw (cell_of (o := 8) bb)
  have HDP := Lib.hid hdp
  clear bb hp hhs hmd hdp
  by_cases h8 : P.dp.length ≤ 8
  · have H8 : Hid (¬ 8 < P.dp.length) := Lib.hid (by omega)
    go_enter Try.func14, Try.ntmps14
    go_wp2_with fail
    go_loopw [13] (fun i wr => ∃ k : Nat, k ≤ P.dp.length ∧ i = .int .i64 k ∧ wr = (W.alloc (.cells #[.string s, .slice a1 P.hs.length m1, .slice a2 P.md.length m2, .slice a3 n3 m3, .slice a4 n4 m4, .slice a5 n5 m5, .slice a6 n6 m6, .slice a7 n7 m7, .slice a8 P.dp.length m8] 31)) ∧ Hid (∀ j, j < k → Dp.bad P j = 0)) (fun i _ => P.dp.length - (intOf i).toNat)
    case atStart => exact ⟨0, Nat.zero_le _, rfl, rfl, Lib.hid (by intro j hj; omega)⟩
    case round =>
      obtain ⟨k, hk, rfl, rfl, HZ⟩ := hrel
      by_cases hlt : k < P.dp.length
      · obtain ⟨x, hxk⟩ : ∃ x, P.dp[k]? = some x := ⟨_, List.getElem?_eq_getElem hlt⟩
        obtain ⟨b, o, hoa, hec⟩ := ns_at HDP.out (by omega)
        subst hoa
        have e0 := hec k x hxk
        have HT : Hid (Ns .i64 W (.slice (some ⟨b, o, none⟩) k m8) (P.dp.take k)) := Lib.hid (ns_take HDP.out hk (by omega))
        have hkc : k ≤ m8 := by omega
        by_cases x0 : x < 0
        · have HR := Lib.hid (Dp.chkV_of (Dp.chk_some H8.out hlt HZ.out (Dp.bad_idx hxk (.inl x0)) (by decide)))
          clear hxk hec
          go_wp2_with fail
          go_ret2
          exact ⟨by rw [HR.out]; rfl, grows⟩
        · by_cases x1 : x < P.hs.length
          · cases hd : (P.dp.take k).any (· == x)
            · have HB := Lib.hid (Dp.bad_no hxk (by omega) x1 hd)
              have HD := Lib.hid hd
              clear hxk hec hd
              go_wp2_with (go_at_call 43; refine (containsI_any x (Ns.ext HT.out grows)).mono ?_; rintro e w1 ⟨rfl, rfl⟩; rw [HD.out])
              go_roundw
              case rel =>
                refine ⟨k + 1, by omega, by go_num, (by first | exact rfl | trivial), Lib.hid (fun j hj => ?_)⟩
                rcases Nat.lt_or_ge j k with h1 | h1
                · exact HZ.out j h1
                · obtain rfl : j = k := by omega
                  exact HB.out
              case measure => simp [intOf]; omega
            · have HR := Lib.hid (Dp.chkV_of (Dp.chk_some H8.out hlt HZ.out (Dp.bad_dup hxk (by omega) x1 hd) (by decide)))
              have HD := Lib.hid hd
              clear hxk hec hd
              go_wp2_with (go_at_call 43; refine (containsI_any x (Ns.ext HT.out grows)).mono ?_; rintro e w1 ⟨rfl, rfl⟩; rw [HD.out])
              go_ret2
              exact ⟨by rw [HR.out]; rfl, grows⟩
          · have x2 : (P.hs.length : Int) ≤ x := by omega
            have dx2 : decide ((P.hs.length : Int) ≤ x) = true := by simp; omega
            have HR := Lib.hid (Dp.chkV_of (Dp.chk_some H8.out hlt HZ.out (Dp.bad_idx hxk (.inr x2)) (by decide)))
            clear hxk hec
            go_wp2_with fail
            go_ret2
            exact ⟨by rw [HR.out]; rfl, grows⟩
      · obtain rfl : k = P.dp.length := by omega
        have HR := Lib.hid (Dp.chkV_of (Dp.chk_none H8.out HZ.out))
        go_wp2_with fail
        go_ret2
        exact ⟨by rw [HR.out]; rfl, grows⟩
  · have HR := Lib.hid (Dp.chkV_of (P := P) (Dp.chk_many (by omega)))
    go_enter Try.func14, Try.ntmps14
    go_wp2_with fail
    go_ret2
    exact ⟨by rw [HR.out]; rfl, grows⟩
set_option maxRecDepth 8000 in
set_option maxHeartbeats 4000000 in
theorem rdcheck_any {W : World} {p : Pg.PV} {P : Pg.Prog} (hp : Pg.IsP W p P) (hc : Pg.CapP p) :
    Calls Try.prog 15 #[p.val] W (Rets W (Dp.chkV P)) := by
  have HP := Lib.hid hp
  obtain ⟨s, a1, a2, a3, a4, a5, a6, a7, a8, m1, m2, n3, m3, n4, m4, n5, m5, n6, m6, n7, m7, m8, hf⟩ := hp.form
  obtain ⟨rfl, hhs, hmd, hdp, hl1, hl2, hl8⟩ := hf
  obtain ⟨ca, cn, cc, hce, hc1, hc2⟩ := hc
  simp only [Value.slice.injEq] at hce
  obtain ⟨rfl, rfl, rfl⟩ := hce
  dsimp only [Pg.PV.val]
  have bb := alloc_heap W (.cells #[.string s, .slice a1 P.hs.length m1, .slice a2 P.md.length m2, .slice a3 n3 m3, .slice a4 n4 m4, .slice a5 n5 m5, .slice a6 n6 m6, .slice a7 n7 m7, .slice a8 P.dp.length m8] 31)
  have k1 := alw (cell_of (o := 1) bb)
  have k8 := alw (cell_of (o := 8) bb)
  have HDP := Lib.hid hdp
  clear bb hp hhs hmd hdp
  by_cases h8 : P.dp.length ≤ 8
  · have H8 : Hid (¬ 8 < P.dp.length) := Lib.hid (by omega)
    go_enter Try.func15, Try.ntmps15
    go_wp2_with fail
    go_loopw [4] (fun i wr => ∃ k : Nat, k ≤ P.dp.length ∧ i = .int .i64 k ∧ Ext (W.alloc (.cells #[.string s, .slice a1 P.hs.length m1, .slice a2 P.md.length m2, .slice a3 n3 m3, .slice a4 n4 m4, .slice a5 n5 m5, .slice a6 n6 m6, .slice a7 n7 m7, .slice a8 P.dp.length m8] 31)) wr ∧ Hid (∀ j, j < k → Dp.bad P j = 0)) (fun i _ => P.dp.length - (intOf i).toNat)
    case atStart => exact ⟨0, Nat.zero_le _, rfl, Ext.refl _, Lib.hid (by intro j hj; omega)⟩
    case round =>
      obtain ⟨k, hk, rfl, hx, HZ⟩ := hrel
      obtain ⟨wo, rfl⟩ : ∃ wo : World, wo = wr := ⟨_, rfl⟩
      have sx := Step.mk hx
      by_cases hlt : k < P.dp.length
      · obtain ⟨x, hxk⟩ : ∃ x, P.dp[k]? = some x := ⟨_, List.getElem?_eq_getElem hlt⟩
        obtain ⟨b, o, hoa, hec⟩ := ns_at HDP.out (by omega)
        subst hoa
        have e0 := hec k x hxk
        by_cases x0 : x < 0
        · have HR := Lib.hid (Dp.chkV_of (Dp.chk_some H8.out hlt HZ.out (Dp.bad_idx hxk (.inl x0)) (by decide)))
          clear hxk hec
          go_wp2_with fail
          refine wp_region_later (W := wo) (by kernel_rfl) (by kernel_rfl) (Ext.refl _) ?_
          repeat (go_big_quiet_step (fail))
          refine wpQuiet_nil ?_
          intro w2 hx2
          have s2 := Step.mk hx2
          go_wp2_with fail
          go_ret2
          exact ⟨by rw [HR.out]; rfl, grows⟩
        · have x0' : 0 ≤ x := by omega
          have dx0 : decide (x < 0) = false := by simp; omega
          by_cases x1 : x < P.hs.length
          · have HXK := Lib.hid hxk
            have dx1 : decide ((P.hs.length : Int) ≤ x) = false := by simp; omega
            have HEC := Lib.hid hec
            clear hxk hec
            go_wp2_with fail
            refine wp_region_later (W := wo) (by kernel_rfl) (by kernel_rfl) (Ext.refl _) ?_
            repeat (go_big_quiet_step (fail))
            refine wpQuiet_nil ?_
            intro w2 hx2
            have s2 := Step.mk hx2
            go_wp2_with fail
            go_loopw [5] (fun i wr => ∃ f : Nat, f ≤ k ∧ i = .int .i64 f ∧ Ext w2 wr ∧ Hid (∀ j, j < f → (P.dp.getD j 0 == x) = false)) (fun i _ => k - (intOf i).toNat)
            case atStart => exact ⟨0, Nat.zero_le _, rfl, Ext.refl _, Lib.hid (by intro j hj; omega)⟩
            case round =>
              obtain ⟨f, hf, rfl, hy, HZ2⟩ := hrel
              obtain ⟨wo2, rfl⟩ : ∃ wo2 : World, wo2 = wr := ⟨_, rfl⟩
              have sy := Step.mk hy
              by_cases hfk : f < k
              · obtain ⟨y, hyk⟩ : ∃ y, P.dp[f]? = some y := ⟨_, List.getElem?_eq_getElem (by omega)⟩
                have e1 := HEC.out f y hyk
                have hg : P.dp.getD f 0 = y := by rw [List.getD_eq_getElem?_getD, hyk]; rfl
                have HG := Lib.hid hg
                have hfl : f < P.dp.length := by omega
                clear hyk hg
                by_cases he : y = x
                · have heb : (y == x) = true := by simp [he]
                  have HR := Lib.hid (Dp.chkV_of (Dp.chk_some H8.out hlt HZ.out (Dp.bad_dup HXK.out x0' x1 (Dp.any_take_yes (j := f) (by rw [HG.out]; exact heb) hfk hk)) (by decide)))
                  subst he
                  go_wp2_with fail
                  refine wp_region_later (W := wo2) (by kernel_rfl) (by kernel_rfl) (Ext.refl _) ?_
                  repeat (go_big_quiet_step (fail))
                  refine wpQuiet_nil ?_
                  intro w3 hx3
                  have s3 := Step.mk hx3
                  go_wp2_with fail
                  go_ret2
                  exact ⟨by rw [HR.out]; rfl, grows⟩
                · have heb : (y == x) = false := by simp [he]
                  have HEB := Lib.hid heb
                  clear he
                  go_wp2_with fail
                  refine wp_region_later (W := wo2) (by kernel_rfl) (by kernel_rfl) (Ext.refl _) ?_
                  repeat (go_big_quiet_step (fail))
                  refine wpQuiet_nil ?_
                  intro w3 hx3
                  have s3 := Step.mk hx3
                  go_wp2_with fail
                  go_roundw
                  case rel =>
                    refine ⟨f + 1, by omega, by go_num, by exact hy.trans hx3, Lib.hid (fun j hj => ?_)⟩
                    rcases Nat.lt_or_ge j f with h1 | h1
                    · exact HZ2.out j h1
                    · obtain rfl : j = f := by omega
                      rw [HG.out]; exact HEB.out
                  case measure => simp [intOf]; omega
              · obtain rfl : f = k := by omega
                have HB := Lib.hid (Dp.bad_no HXK.out x0' x1 (Dp.any_take_no HZ2.out hk))
                go_wp2_with fail
                go_roundw
                case rel =>
                  refine ⟨f + 1, by omega, by go_num, by exact (hx.trans hx2).trans hy, Lib.hid (fun j hj => ?_)⟩
                  rcases Nat.lt_or_ge j f with h1 | h1
                  · exact HZ.out j h1
                  · obtain rfl : j = f := by omega
                    exact HB.out
                case measure => simp [intOf]; omega
          · have x2 : (P.hs.length : Int) ≤ x := by omega
            have dx2 : decide ((P.hs.length : Int) ≤ x) = true := by simp; omega
            have HR := Lib.hid (Dp.chkV_of (Dp.chk_some H8.out hlt HZ.out (Dp.bad_idx hxk (.inr x2)) (by decide)))
            clear hxk hec
            go_wp2_with fail
            refine wp_region_later (W := wo) (by kernel_rfl) (by kernel_rfl) (Ext.refl _) ?_
            repeat (go_big_quiet_step (fail))
            refine wpQuiet_nil ?_
            intro w2 hx2
            have s2 := Step.mk hx2
            go_wp2_with fail
            go_ret2
            exact ⟨by rw [HR.out]; rfl, grows⟩
      · obtain rfl : k = P.dp.length := by omega
        have HR := Lib.hid (Dp.chkV_of (Dp.chk_none H8.out HZ.out))
        go_wp2_with fail
        go_ret2
        exact ⟨by rw [HR.out]; rfl, grows⟩
  · have HR := Lib.hid (Dp.chkV_of (P := P) (Dp.chk_many (by omega)))
    go_enter Try.func15, Try.ntmps15
    go_wp2_with fail
    go_ret2
    exact ⟨by rw [HR.out]; rfl, grows⟩
end Go.Proofs.Ytonnlcjkgpahoaa
