/- Tries of prefixes: the law Runs, walked. No condition. -/
import Derived.Test.YteefchbpojcklaaLp21
import Derived.Deep.CutRange
import Derived.Deep.RegionHeldLaw
namespace Go.Proofs.Yteefchbpojcklaa
open Go.RowKit

set_option maxRecDepth 8000 in
set_option maxHeartbeats 4000000 in
theorem lpmtrieRuns_walk (a0 : Int) (v1 : Value) (W : World) (_ : (Lit.int .i64 a0).wf = true) {b1 : Nat} {r1 : Reach} {H : Type} {enc : TypeId × Value → H} {d1 : DataW H} {p1 : List MemPlace}
    (ok1 : Value.okWide Try.prog W r1 b1 22 v1) (h1 : DataW.Trod enc Try.prog W 0 (fun _ => true) true 22 v1 d1 p1) :
    Calls Try.prog 4 #[.int .i64 a0, v1] W (Rets W (.bool true)) := by
  obtain ⟨ac, hac⟩ := acs_take ok1 h1
  clear ok1 h1
  obtain ⟨oa, oc, rfl, _, hmx⟩ := hac.slice
  unfold maxLen at hmx
  by_cases hlen : ac.length ≤ 60
  · have hd : decide ((60 : Int) < (ac.length : Int)) = false := decide_eq_false (by omega)
    by_cases hw : 1 ≤ a0 ∧ a0 ≤ 32
    · obtain ⟨w, rfl⟩ := Int.eq_ofNat_of_zero_le (show 0 ≤ a0 by omega)
      have hw1 : 1 ≤ w := by omega
      have hw2 : w ≤ 32 := by omega
      have HAC := Lib.hid hac
      clear hac hw
      go_enter Try.func4, Try.ntmps4
      go_wp2_with fail
      refine (new_ok w hw1 hw2).mono ?_
      rintro e w1 ⟨g, T0, rfl, x1, i0, b0, _, c0⟩
      have s1 := Step.mk x1
      have L0 := Lp.con_none_items (w := w) c0
      have HA1 : Hid (Ag W w1 g w T0 (.slice none ([] : List Lp.Item).length 0) []) := Lib.hid ⟨i0, b0, ⟨rfl, .inl ⟨rfl, rfl⟩⟩, L0, grows⟩
      clear x1 i0 b0 c0 L0
      go_wp2_with fail
      refine (r9new_ok hw1 hw2).mono ?_
      rintro e w2 ⟨rfl, x2⟩
      have s2 := Step.mk x2
      clear x2
      have HB7 := Lib.hid (alloc_heap w2 (.cells #[.int .i64 w, .slice none 0 0] 32))
      go_wp2_with fail
      obtain ⟨g7, hg7⟩ : ∃ z, z = w2.heap.size := ⟨_, rfl⟩
      have hg7w : W.heap.size ≤ g7 := by rw [hg7]; exact (grows (a := W) (b := w2)).le
      rw [← hg7] at HB7 ⊢
      clear hg7
      go_loopw [9] (fun i wr => ∃ k : Nat, k ≤ ac.length ∧ i = .int .i64 k ∧ Hid (RInv W g w g7 k wr)) (fun i _ => ac.length - (intOf i).toNat)
      case atStart => exact ⟨0, Nat.zero_le _, rfl, Lib.hid ⟨T0, none, 0, [], HA1.out.ext' grows, Ext.heap grows HB7.out, Nat.zero_le _⟩⟩
      case round =>
        obtain ⟨k, hk, rfl, HI⟩ := hrel
        obtain ⟨T, la, lc, L, ag, hb, hL⟩ := HI.out
        have sr : Step W wr := Step.mk ag.ext
        have c0 := cell_of (o := 0) hb
        have c1 := cell_of (o := 1) hb
        have HB := Lib.hid hb
        have HAG := Lib.hid ag
        clear HI hb ag
        rcases Nat.lt_or_ge k ac.length with hlt | hge
        · obtain ⟨⟨d, v, n, x⟩, hka⟩ : ∃ y, ac[k]? = some y := ⟨_, List.getElem?_eq_getElem hlt⟩
          obtain ⟨ab, ao, rfl, _, hcells⟩ := Rows.at HAC.out (by omega)
          obtain ⟨cs, _, ⟨rfl, hv⟩, hcs⟩ := hcells k _ hka
          dsimp only at hv
          have y0 := alw (show W.cell? ⟨ab, ao + k * 4, none⟩ = _ from hcs 0 _ rfl)
          have y1 := alw (hcs 1 _ rfl)
          have y2 := alw (hcs 2 _ rfl)
          have y3 := alw (hcs 3 _ rfl)
          dsimp only at y0 y1 y2 y3
          have HST : Hid (∀ w', Ext wr w' → Calls Try.prog 16 #[.pointer (some ⟨g, 0, none⟩), .agg #[.int .i64 w, .slice la L.length lc], .agg #[.int .i64 d, .int .u32 v, .int .i64 n, .int .i64 x]] w' (StepP W w' g w L)) := Lib.hid (fun w' hx => step_any (HAG.out.ext' hx) (by omega) d v hv n x)
          clear hka hcells hcs
          go_upto_region 10 with (fail)
          have p0 : wr.cell? ⟨g7, 0, none⟩ = some (.int .i64 w) := c0
          have p1 : wr.cell? ⟨g7, 1, none⟩ = some (.slice la L.length lc) := c1
          have p2 : wr.cell? ⟨ab, ao + k * 4, none⟩ = some (.int .i64 d) := y0 wr
          have p3 : wr.cell? ⟨ab, ao + k * 4 + 1, none⟩ = some (.int .u32 v) := y1 wr
          have p4 : wr.cell? ⟨ab, ao + k * 4 + 2, none⟩ = some (.int .i64 n) := y2 wr
          have p5 : wr.cell? ⟨ab, ao + k * 4 + 3, none⟩ = some (.int .i64 x) := y3 wr
          clear c0 c1
          have lt7 : g7 < wr.heap.size := (Array.getElem?_eq_some_iff.1 HB.out).1
          have ltb : ab < wr.heap.size := World.block_lt_of_cell? _ _ p2
          have n71 : g7 ≠ wr.heap.size := by omega
          have n72 : wr.heap.size ≠ g7 := by omega
          have nb1 : ab ≠ wr.heap.size := by omega
          have nb2 : wr.heap.size ≠ ab := by omega
          clear lt7 ltb
          go_region_held_law (fun w' => w'.cell? ⟨g7, 0, none⟩ = some (.int .i64 w) ∧ w'.cell? ⟨g7, 1, none⟩ = some (.slice la L.length lc) ∧ w'.cell? ⟨ab, ao + k * 4, none⟩ = some (.int .i64 d) ∧ w'.cell? ⟨ab, ao + k * 4 + 1, none⟩ = some (.int .u32 v) ∧ w'.cell? ⟨ab, ao + k * 4 + 2, none⟩ = some (.int .i64 n) ∧ w'.cell? ⟨ab, ao + k * 4 + 3, none⟩ = some (.int .i64 x)) (go_keep) (first | (go_at_call 16; go_loud (first | (refine (HST.out _ ((Ext.refl wr).drew)).mono ?_; rintro e w3 ⟨T', la', lc', L', rfl, ag', hL', kp⟩; have XR := ((Ext.refl wr).drew); have s3 : Step W w3 := Step.mk ag'.ext; have kb := kp _ _ _ (by decide) (Ext.heap XR HB.out); have r0 : w3.cell? ⟨g7, 0, none⟩ = some (.int .i64 w) := cell_of (o := 0) kb; have r1 : w3.cell? ⟨g7, 1, none⟩ = some (.slice la L.length lc) := cell_of (o := 1) kb; have r2 : w3.cell? ⟨ab, ao + k * 4, none⟩ = some (.int .i64 d) := y0 w3; have r3 : w3.cell? ⟨ab, ao + k * 4 + 1, none⟩ = some (.int .u32 v) := y1 w3; have r4 : w3.cell? ⟨ab, ao + k * 4 + 2, none⟩ = some (.int .i64 n) := y2 w3; have r5 : w3.cell? ⟨ab, ao + k * 4 + 3, none⟩ = some (.int .i64 x) := y3 w3; have KB := Lib.hid kb; have AG := Lib.hid ag'; clear kp ag' kb XR s3) | (refine (HST.out _ (((Ext.refl wr).alloc (.cells #[.int .i64 0, .slice none 0 0] 32)).drew)).mono ?_; rintro e w3 ⟨T', la', lc', L', rfl, ag', hL', kp⟩; have XR := (((Ext.refl wr).alloc (.cells #[.int .i64 0, .slice none 0 0] 32)).drew); have kt : w3.heap[wr.heap.size]? = some (.cells #[.int .i64 0, .slice none 0 0] 32 (0, 0)) := kp _ _ _ (by decide) (alloc_heap _ _); have t0 := cell_of (o := 0) kt; have t1 := cell_of (o := 1) kt; have ft0 := free_of (o := 0) kt; have ft1 := free_of (o := 1) kt; have KT := Lib.hid kt; clear kt; have s3 : Step W w3 := Step.mk ag'.ext; have kb := kp _ _ _ (by decide) (Ext.heap XR HB.out); have r0 : w3.cell? ⟨g7, 0, none⟩ = some (.int .i64 w) := cell_of (o := 0) kb; have r1 : w3.cell? ⟨g7, 1, none⟩ = some (.slice la L.length lc) := cell_of (o := 1) kb; have r2 : w3.cell? ⟨ab, ao + k * 4, none⟩ = some (.int .i64 d) := y0 w3; have r3 : w3.cell? ⟨ab, ao + k * 4 + 1, none⟩ = some (.int .u32 v) := y1 w3; have r4 : w3.cell? ⟨ab, ao + k * 4 + 2, none⟩ = some (.int .i64 n) := y2 w3; have r5 : w3.cell? ⟨ab, ao + k * 4 + 3, none⟩ = some (.int .i64 x) := y3 w3; have KB := Lib.hid kb; have AG := Lib.hid ag'; clear kp ag' kb XR s3))))
          · clear r0 r1 r2 r3 r4 r5 p0 p1 p2 p3 p4 p5 y0 y1 y2 y3
            have kx := alloc_heap w3 (.cells #[.int .i64 w, .slice la' L'.length lc'] 32)
            obtain ⟨gx, hgx⟩ : ∃ z, z = w3.heap.size := ⟨_, rfl⟩
            have kb7 := ((Ext.refl w3).alloc (.cells #[.int .i64 w, .slice la' L'.length lc'] 32)).heap KB.out
            have agx := AG.out.ext' ((Ext.refl w3).alloc (.cells #[.int .i64 w, .slice la' L'.length lc'] 32))
            obtain ⟨wx, hwx⟩ : ∃ z, z = w3.alloc (.cells #[.int .i64 w, .slice la' L'.length lc'] 32) := ⟨_, rfl⟩
            rw [← hwx] at kx kb7 agx ⊢
            rw [← hgx] at kx ⊢
            clear hwx hgx
            have AGX := Lib.hid agx
            have KB7 := Lib.hid kb7
            have t0 : wx.cell? ⟨gx, 0, none⟩ = some (.int .i64 w) := cell_of (o := 0) kx
            have t1 : wx.cell? ⟨gx, 1, none⟩ = some (.slice la' L'.length lc') := cell_of (o := 1) kx
            have v0 := cell_of (o := 0) kb7
            have v1 := cell_of (o := 1) kb7
            have fv0 := free_of (o := 0) kb7
            have fv1 := free_of (o := 1) kb7
            clear agx kb7 kx
            go_wp2_with fail
            obtain ⟨md7, hb7⟩ := set2c (.int .i64 w) (.slice la' L'.length lc') KB7.out
            go_roundw
            case rel => exact ⟨k + 1, by omega, by go_num, Lib.hid (RInv.put AGX.out KB7.out hg7w (by omega) md7 hb7)⟩
            case measure => simp [intOf]; omega
          · clear r0 r1 r2 r3 r4 r5 p0 p1 p2 p3 p4 p5 y0 y1 y2 y3 t0 t1 ft0 ft1
            obtain ⟨mdx, kx⟩ := set2c (.int .i64 w) (.slice la' L'.length lc') KT.out
            have kb7 := mdx.heap KB.out n71
            have agx := AG.out.put mdx KT.out (Nat.le_trans hg7w (by have := (Array.getElem?_eq_some_iff.1 HB.out).1; omega))
            obtain ⟨gx, hgx⟩ : ∃ z, z = wr.heap.size := ⟨_, rfl⟩
            rw [← hgx] at kx kb7 agx ⊢
            obtain ⟨wx, hwx⟩ : ∃ z, z = (w3.setCell ⟨gx, 0, none⟩ (.int .i64 w)).setCell ⟨gx, 1, none⟩ (.slice la' L'.length lc') := ⟨_, rfl⟩
            rw [← hwx] at kx kb7 agx ⊢
            clear hwx hgx mdx
            have AGX := Lib.hid agx
            have KB7 := Lib.hid kb7
            have t0 : wx.cell? ⟨gx, 0, none⟩ = some (.int .i64 w) := cell_of (o := 0) kx
            have t1 : wx.cell? ⟨gx, 1, none⟩ = some (.slice la' L'.length lc') := cell_of (o := 1) kx
            have v0 := cell_of (o := 0) kb7
            have v1 := cell_of (o := 1) kb7
            have fv0 := free_of (o := 0) kb7
            have fv1 := free_of (o := 1) kb7
            clear agx kb7 kx
            go_wp2_with fail
            obtain ⟨md7, hb7⟩ := set2c (.int .i64 w) (.slice la' L'.length lc') KB7.out
            go_roundw
            case rel => exact ⟨k + 1, by omega, by go_num, Lib.hid (RInv.put AGX.out KB7.out hg7w (by omega) md7 hb7)⟩
            case measure => simp [intOf]; omega
        · obtain rfl : k = ac.length := by omega
          have HS : Hid (∀ w', Ext wr w' → Calls Try.prog 15 #[.pointer (some ⟨g, 0, none⟩), .agg #[.int .i64 w, .slice la L.length lc]] w' (Rets w' (.bool true))) := Lib.hid (fun w' hx => same_any (HAG.out.ext' hx) (by omega))
          go_wp2_with fail
          refine (HS.out _ grows).mono ?_
          rintro e w5 ⟨rfl, x5⟩
          have s5 := Step.mk x5
          go_wp2_with fail
          refine (works_any _).mono ?_
          rintro e w6 ⟨rfl, x6⟩
          have s6 := Step.mk x6
          go_wp2_with fail
          go_ret
          exact ⟨rfl, grows⟩
    · go_enter Try.func4, Try.ntmps4
      go_wp2_with fail
      refine (new_bad a0 hw).mono ?_
      rintro e w1 ⟨rfl, x1⟩
      have s1 := Step.mk x1
      clear x1
      go_wp2_with fail
      refine (r9new_bad hw).mono ?_
      rintro e w2 ⟨rfl, x2⟩
      have s2 := Step.mk x2
      clear x2
      go_wp2_with fail
      go_loopw [9] (fun i wr => i = .int .i64 0 ∧ Ext w2 wr) (fun i _ => 0)
      case atStart => exact ⟨rfl, grows⟩
      case round =>
        obtain ⟨rfl, hx⟩ := hrel
        have s3 := Step.mk hx
        clear hx
        go_wp2_with fail
        all_goals
          refine (works_any _).mono ?_
          rintro e w5 ⟨rfl, x5⟩
          have s5 := Step.mk x5
          go_wp2_with fail
          go_ret
          exact ⟨rfl, grows⟩
  · have hd : decide ((60 : Int) < (ac.length : Int)) = true := decide_eq_true (by omega)
    go_enter Try.func4, Try.ntmps4
    go_wp2_with fail
    refine (works_any _).mono ?_
    rintro e w5 ⟨rfl, x5⟩
    have s5 := Step.mk x5
    go_wp2_with fail
    go_ret
    exact ⟨rfl, grows⟩
end Go.Proofs.Yteefchbpojcklaa
