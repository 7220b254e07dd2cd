/- The reference of layer 2, walked: Unpack. No condition. -/
import Derived.Test.YtpcoikgbpdedcaaIoH
namespace Go.Proofs.Ytpcoikgbpdedcaa
open Go.RowKit

set_option maxRecDepth 8000 in
set_option maxHeartbeats 800000 in
theorem rUnpack_any (va vb : Value) (l ws : List Int) (W : World) (ha : Src W va 1 l.length (u8s l)) (hb : Src W vb 1 ws.length (i64s ws)) (hby : Io.Bytes l) (hl : l.length ≤ 140737488355328) (hws : ws.length ≤ 1000000) :
    Calls Try.prog 45 #[va, vb] W
      fun e w' => ∃ v, e = .returned (.tuple #[v, .int .i64 (Io.unE l ws)]) ∧ Ext W w' ∧ w'.ownsRow W.heap.size 22 1 v (Io.unV l ws).length (u32s (Io.unV l ws)) := by
  obtain ⟨ob, cb, rfl, hnb⟩ := hb.slice
  have HA := Lib.hid ha
  have HB := Lib.hid hb
  have HBY := Lib.hid hby
  have HNB := Lib.hid hnb
  clear ha hb hby hnb
  go_enter Try.func45, Try.ntmps45
  go_wp2_with fail
  refine (rNewReader_any _ l _ HA.out hl).mono ?_
  rintro e w1 ⟨xa, xc, rfl, hx, ho⟩
  have HX0 := Lib.hid (hx.alloc (.cells #[.slice xa l.length xc, .int .i64 0] 79))
  have HB0 := Lib.hid (alloc_heap w1 (.cells #[.slice xa l.length xc, .int .i64 0] 79))
  have HO0 := Lib.hid (own_ext ho ((Ext.refl w1).alloc (.cells #[.slice xa l.length xc, .int .i64 0] 79)))
  have hB0 : W.heap.size ≤ w1.heap.size := hx.le
  clear hx ho
  go_wp2_with fail
  go_loopw [7, 8] (fun o i wr => ∃ k pos acc, k ≤ ws.length ∧ i = .int .i64 (k : Nat) ∧ Ext W wr ∧ wr.heap[w1.heap.size]? = some (.cells #[.slice xa l.length xc, .int .i64 (pos : Nat)] 79 (0, 0)) ∧ wr.ownsRow W.heap.size 5 1 (.slice xa l.length xc) l.length (u8s l) ∧ pos ≤ 8 * l.length
    ∧ wr.ownsRow W.heap.size 22 1 o acc.length (u32s acc) ∧ acc.length ≤ k ∧ Io.comb acc (Io.getAll l (ws.drop k) pos) = Io.getAll l ws 0) (fun _ i _ => ws.length - (intOf i).toNat)
  case atStart => exact ⟨0, 0, [], Nat.zero_le _, rfl, HX0.out, HB0.out, HO0.out, Nat.zero_le _, World.ownsRow_nil _ _ _ _, Nat.zero_le _, Io.comb_nil _ _ _⟩
  case round =>
    obtain ⟨k, pos, acc, hk, rfl, hx1, hb1, hr1, hpl, ho1, hacc, hget⟩ := hrel
    clear HX0 HB0 HO0
    obtain ⟨oo, co, rfl⟩ := own_slice ho1
    by_cases hlt : k < ws.length
    · obtain ⟨y, hyk⟩ : ∃ y, ws[k]? = some y := ⟨_, List.getElem?_eq_getElem hlt⟩
      cases ob with
      | none => have := HNB.out rfl; omega
      | some bd =>
      obtain ⟨eb, _, cb'⟩ := HB.out.at (by omega)
      obtain ⟨bb, bo, bsp⟩ := bd
      simp only [Addr.mk.injEq, true_and] at eb
      subst eb
      dsimp only at cb'
      have d2 := hx1.cell (cb' k _ (i64s_get hyk))
      have d0 : wr.cell? ⟨w1.heap.size, 0, none⟩ = some (.slice xa l.length xc) := cell_of hb1
      have d1 : wr.cell? ⟨w1.heap.size, 1, none⟩ = some (.int .i64 pos) := cell_of hb1
      rw [drop_cons hyk] at hget
      have D0 := Lib.hid d0
      have D1 := Lib.hid d1
      have D2 := Lib.hid d2
      have n0 := World.new_ne wr _ d0
      have n1 := World.new_ne wr _ d1
      have n2 := World.new_ne wr _ d2
      have HG := Lib.hid hget
      have HR := Lib.hid hr1
      have HX1 := Lib.hid hx1
      have HB1 := Lib.hid hb1
      have HO := Lib.hid ho1
      have hle := hx1.le
      clear hyk cb' hget hr1 hx1 ho1 hb1
      go_wp2_with fail
      go_cut [9, 10, 11] (fun s t u wx => ∃ B2 : Nat, s = .pointer (some ⟨B2, 0, none⟩) ∧ t = .int .u32 (Io.rdV l pos y) ∧ u = .int .i64 (Io.rdE l pos y) ∧ Ext wr wx ∧ wr.heap.size ≤ B2
        ∧ wx.heap[B2]? = some (.cells #[.slice xa l.length xc, .int .i64 ((Io.rdP l pos y : Nat) : Int)] 79 (0, 0)))
      case first =>
        go_region_held3 (fun w' => w'.cell? ⟨w1.heap.size, 0, none⟩ = some (.slice xa l.length xc) ∧ w'.cell? ⟨w1.heap.size, 1, none⟩ = some (.int .i64 pos) ∧ w'.cell? ⟨bb, bo + k, none⟩ = some (.int .i64 y)) (go_keep)
          (first | (go_at_call 60; refine (rReadBits_any _ ((own_src HR.out (u8s_one _)).ext (by first | exact (Ext.refl _).drew | exact ((Ext.refl _).drew).alloc _)) HBY.out (by omega) hpl).mono ?_; rintro e w5 ⟨rfl, hy⟩; have hz : Ext wr w5 := (by first | exact ((Ext.refl wr).drew).trans hy | exact (((Ext.refl wr).drew).alloc _).trans hy); have q0 := hz.cell D0.out; have q1 := hz.cell D1.out; have q2 := hz.cell D2.out; try (have q3 : w5.heap[wr.heap.size]? = some (.cells #[.slice none 0 0, .int .i64 0] 79 (0, 0)) := hy.heap (alloc_heap wr.drew (.cells #[.slice none 0 0, .int .i64 0] 79)); have q4 : w5.cell? ⟨wr.heap.size, 0, none⟩ = some (.slice none 0 0) := cell_of q3; have q5 : w5.cell? ⟨wr.heap.size, 1, none⟩ = some (.int .i64 0) := cell_of q3; have q6 : w5.frozen? ⟨wr.heap.size, 0, none⟩ = false := free_of q3; have q7 : w5.frozen? ⟨wr.heap.size, 1, none⟩ = false := free_of q3)))
        all_goals (try go_wp2_with fail)
        all_goals go_meet
        · exact ⟨w5.heap.size, rfl, rfl, rfl, hz.alloc _, hz.le, alloc_heap _ _⟩
        · obtain ⟨g1, g2⟩ := set2 (a' := .slice xa l.length xc) (b' := .int .i64 ((Io.rdP l pos y : Nat) : Int)) q3
          exact ⟨wr.heap.size, rfl, rfl, rfl, hz.mod g2 (fun q hq => by rw [hq]; exact Nat.le_refl _), Nat.le_refl _, g1⟩
      case rest =>
        obtain ⟨B2, rfl, rfl, rfl, hx5, hB2, b5⟩ := hcut
        by_cases he : Io.rdE l pos y = 0
        · have hv := Io.rdV_bd l pos y
          have hq8 := Io.rdP_le y hpl
          have hg := HG.out
          rw [Io.comb_step _ _ he] at hg
          have HG2 := Lib.hid hg
          obtain ⟨q, hq⟩ : ∃ q, q = Io.rdP l pos y := ⟨_, rfl⟩
          rw [← hq] at b5 hq8 HG2
          clear hg
          have hx3 := HX1.out.trans hx5
          have hb3 := hx5.heap HB1.out
          have k0 : wc.cell? ⟨B2, 0, none⟩ = some (.slice xa l.length xc) := cell_of b5
          have k1 : wc.cell? ⟨B2, 1, none⟩ = some (.int .i64 q) := cell_of b5
          have k2 : wc.frozen? ⟨w1.heap.size, 0, none⟩ = false := free_of hb3
          have k3 : wc.frozen? ⟨w1.heap.size, 1, none⟩ = false := free_of hb3
          have k4 : wc.cell? ⟨w1.heap.size, 0, none⟩ = some (.slice xa l.length xc) := cell_of hb3
          have k5 : wc.cell? ⟨w1.heap.size, 1, none⟩ = some (.int .i64 pos) := cell_of hb3
          obtain ⟨g1, g2⟩ := set2 (a' := .slice xa l.length xc) (b' := .int .i64 (q : Int)) hb3
          obtain ⟨wm, hwm⟩ : ∃ wm, wm = ((wc.setCell ⟨w1.heap.size, 0, none⟩ (.slice xa l.length xc)).setCell ⟨w1.heap.size, 1, none⟩ (.int .i64 (q : Int))) := ⟨_, rfl⟩
          have hxm := hx3.mod g2 (fun q hq => by rw [hq]; omega)
          have hrm := own_mod (own_ext HR.out hx5) g2 (own_not (own_ext HR.out hx5) hb3 (by decide))
          have hom := own_mod (own_ext HO.out hx5) g2 (own_not (own_ext HO.out hx5) hb3 (by decide))
          rw [← hwm] at g1 hxm hrm hom
          have XM := Lib.hid hxm
          have RM := Lib.hid hrm
          have BM := Lib.hid g1
          have HWM := Lib.hid hwm
          have hom3 := own_ext hom ((Ext.refl wm).alloc (.cells #[.int .u32 (Io.rdV l pos y)] 22))
          have HO3 := Lib.hid hom3
          have hsrc := src_one wm (.int .u32 (Io.rdV l pos y)) 22 rfl
          have HS := Lib.hid hsrc
          have hzm := hxm.le
          clear hx5 b5 hx3 hb3 g1 g2 d0 d1 d2 D0 D1 D2 n0 n1 n2 hxm hrm hom hwm hom3 hsrc hq
          rw [he]
          go_upto_region 10 with (fail)
          rw [← HWM.out]
          go_wp2_with (at_builtin; refine wpList_append_fresh rfl (.tmp 34) (.tmp 36) 43 rfl W.heap.size 22 (.int .u32 0) 1 4 Try.underlying43 info_u32 rfl (by decide) _ acc.length (u32s acc) rfl HO3.out _ 1 [.int .u32 (Io.rdV l pos y)] rfl HS.out ?d1 ?d2 ?d3 ?_)
          case d1 => unfold maxLen; omega
          case d2 => omega
          case d3 => simp; omega
          intro v' w' hown hgr _
          have hx4 := (XM.out.alloc (.cells #[.int .u32 (Io.rdV l pos y)] 22)).mod (grown_mod hgr) (fun q hq => (HO3.out.lt q hq.symm).1)
          have hne1 : ∀ g, (Value.slice oo acc.length co).ownBlock = some g → g ≠ w1.heap.size := fun g hg e1 => by
            obtain ⟨cur, hc⟩ := own_type HO3.out hg
            have hb' := ((Ext.refl wm).alloc (.cells #[.int .u32 (Io.rdV l pos y)] 22)).heap BM.out
            rw [← e1] at hb'
            exact ne_of_type hc hb' (by decide) rfl
          have hb4 := (grown_mod hgr).heap (((Ext.refl wm).alloc (.cells #[.int .u32 (Io.rdV l pos y)] 22)).heap BM.out) (fun e1 => hne1 _ e1.symm rfl)
          have hr4 := own_mod (own_ext RM.out ((Ext.refl wm).alloc (.cells #[.int .u32 (Io.rdV l pos y)] 22))) (grown_mod hgr) (fun q hq e1 => by
            obtain ⟨cur, hc⟩ := own_type (own_ext RM.out ((Ext.refl wm).alloc (.cells #[.int .u32 (Io.rdV l pos y)] 22))) hq
            obtain ⟨cur2, hc2⟩ := own_type HO3.out e1.symm
            exact ne_of_type hc hc2 (by decide) rfl)
          have HA3 := Lib.hid hown
          have X4 := Lib.hid hx4
          have B4 := Lib.hid hb4
          have R4 := Lib.hid hr4
          clear hgr hown hx4 hb4 hr4 hne1 HO3
          go_wp2
          go_roundw
          case rel => exact ⟨k + 1, q, acc ++ [Io.rdV l pos y], by omega, by go_num, X4.out, B4.out, R4.out, hq8, by simpa [u32s] using HA3.out, by simp; omega, HG2.out⟩
          case measure => simp [intOf]; omega
        · have he2 : (Io.rdE l pos y != 0) = true := by simpa using he
          have hg := HG.out
          rw [Io.comb_fail _ _ he] at hg
          have e1 : Io.unE l ws = Io.rdE l pos y := by unfold Io.unE; rw [← hg]; simp [he]
          have e2 : Io.unV l ws = [] := by unfold Io.unV; rw [e1, if_neg he]
          have HE1 := Lib.hid e1
          have HE2 := Lib.hid e2
          have XF := Lib.hid (HX1.out.trans hx5)
          clear he hg e1 e2 hx5 b5 d0 d1 d2 D0 D1 D2 n0 n1 n2
          go_wp2
          go_ret2
          exact ⟨_, by rw [HE1.out]; rfl, XF.out, by rw [HE2.out]; exact World.ownsRow_nil _ _ _ _⟩
    · obtain rfl : k = ws.length := by omega
      rw [List.drop_length] at hget
      have hg : Io.getAll l ws 0 = (0, acc, pos) := by rw [← hget]; simp [Io.comb, Io.getAll]
      have HG := Lib.hid hg
      have HO := Lib.hid ho1
      have HX1 := Lib.hid hx1
      have d0 : wr.cell? ⟨w1.heap.size, 0, none⟩ = some (.slice xa l.length xc) := cell_of hb1
      have d1 : wr.cell? ⟨w1.heap.size, 1, none⟩ = some (.int .i64 pos) := cell_of hb1
      clear hget hg hr1 ho1 hx1 hb1
      by_cases hrem : pos = 8 * l.length
      · have e1 : Io.unE l ws = 0 := by unfold Io.unE; rw [HG.out]; simp [hrem]
        have e2 : Io.unV l ws = acc := by unfold Io.unV; rw [e1, HG.out]; rfl
        have HE1 := Lib.hid e1
        have HE2 := Lib.hid e2
        have hle : 8 * l.length ≤ pos := by omega
        clear e1 e2 hrem
        go_wp2_with (go_at_call 63; refine (rRemaining_any (by omega) hpl).mono ?_; rintro e w2 ⟨rfl, hx2⟩)
        go_ret2
        exact ⟨_, by rw [HE1.out]; rfl, HX1.out.trans hx2, by rw [HE2.out]; exact own_ext HO.out hx2⟩
      · have e1 : Io.unE l ws = 4 := by unfold Io.unE; rw [HG.out]; simp [hrem]
        have e2 : Io.unV l ws = [] := by unfold Io.unV; rw [e1]; rfl
        have HE1 := Lib.hid e1
        have HE2 := Lib.hid e2
        have hle : pos < 8 * l.length := by omega
        clear e1 e2 hrem
        go_wp2_with (go_at_call 63; refine (rRemaining_any (by omega) hpl).mono ?_; rintro e w2 ⟨rfl, hx2⟩)
        go_ret2
        exact ⟨_, by rw [HE1.out]; rfl, HX1.out.trans hx2, by rw [HE2.out]; exact World.ownsRow_nil _ _ _ _⟩
end Go.Proofs.Ytpcoikgbpdedcaa
