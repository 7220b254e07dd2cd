/- The laws of layer 2, walked: reads. No condition. -/
import Derived.Test.YtpcoikgbpdedcaaIoL3
import Derived.Test.YtpcoikgbpdedcaaIoF2
import Derived.Deep.RegionHeld3
import Derived.Deep.DeepCutAuto
import Derived.Deep.Cut
import Derived.Deep.CutRange
namespace Go.Proofs.Ytpcoikgbpdedcaa
open Go.RowKit

theorem wf_any {l : List Int} (h : ∀ x ∈ l, (Lit.int .u8 x).wf = true) : Io.Bytes l := fun x hx => wf_u8 (h x hx)

theorem small_wide {W : World} (oa ob : Option Addr) (n m ca cb : Nat) (hn : n ≤ 9223372036854775807) (hm : m ≤ 9223372036854775807) :
    Calls Try.prog 40 #[.slice oa n ca, .slice ob m cb] W fun e W' => e = .returned (.bool (decide (n ≤ 200) && decide (m ≤ 100))) ∧ W = W' := by
  by_cases h1 : n ≤ 200 <;> by_cases h2 : m ≤ 100
  all_goals
    go_enter Try.func40, Try.ntmps40
    go_wp2
    go_ret
    exact ⟨by simp [h1, h2] <;> omega, rfl⟩

namespace Io
def rsE (pos : Nat) : Int := if pos % 8 = 0 then 0 else 10
def rsL (l : List Int) (pos : Nat) : List Int := if pos % 8 = 0 then l.drop (pos / 8) else []
end Io
theorem rest_any {w : World} {base p : Nat} {oa : Option Addr} {n c : Nat} {l : List Int} {pos : Nat} (h : RdrAt w base p oa n c l pos) (hl : l.length ≤ 140737488355328) :
    Calls Try.prog 61 #[.pointer (some ⟨p, 0, none⟩)] w
      fun e w' => ∃ v, e = .returned (.tuple #[v, .int .i64 (Io.rsE pos)]) ∧ Ext w w' ∧ w'.ownsRow w.heap.size 5 1 v (Io.rsL l pos).length (u8s (Io.rsL l pos)) := by
  by_cases hk : pos % 8 = 0
  · have e1 : Io.rsE pos = 0 := by unfold Io.rsE; rw [if_pos hk]
    have e2 : Io.rsL l pos = l.drop (pos / 8) := by unfold Io.rsL; rw [if_pos hk]
    rw [e1, e2]
    exact rest_ok h hk hl
  · have e1 : Io.rsE pos = 10 := by unfold Io.rsE; rw [if_neg hk]
    have e2 : Io.rsL l pos = [] := by unfold Io.rsL; rw [if_neg hk]
    rw [e1, e2]
    exact (rest_width h hk).mono fun e w' ⟨he, hx⟩ => ⟨_, he, hx, World.ownsRow_nil _ _ _ _⟩
theorem rRest_any {w : World} {base : Nat} {oa : Option Addr} {c pos : Nat} {l : List Int} (h : w.ownsRow base 5 1 (.slice oa l.length c) l.length (u8s l)) (hp : pos ≤ 8 * l.length) (hl : l.length ≤ 140737488355328) :
    Calls Try.prog 62 #[.agg #[.slice oa l.length c, .int .i64 pos]] w
      fun e w' => ∃ v, e = .returned (.tuple #[v, .int .i64 (Io.rsE pos)]) ∧ Ext w w' ∧ w'.ownsRow w.heap.size 5 1 v (Io.rsL l pos).length (u8s (Io.rsL l pos)) := by
  by_cases hk : pos % 8 = 0
  · have e1 : Io.rsE pos = 0 := by unfold Io.rsE; rw [if_pos hk]
    have e2 : Io.rsL l pos = l.drop (pos / 8) := by unfold Io.rsL; rw [if_pos hk]
    rw [e1, e2]
    exact rRest_ok h hp hk hl
  · have e1 : Io.rsE pos = 10 := by unfold Io.rsE; rw [if_neg hk]
    have e2 : Io.rsL l pos = [] := by unfold Io.rsL; rw [if_neg hk]
    rw [e1, e2]
    exact (rRest_width hk (by omega)).mono fun e w' ⟨he, hx⟩ => ⟨_, he, hx, World.ownsRow_nil _ _ _ _⟩

set_option maxRecDepth 8000 in
set_option maxHeartbeats 800000 in
theorem bitioReads_walk (a0 : Option Addr) (n0 c0 : Nat) (z0 : List Int) (a1 : Option Addr) (n1 c1 : Nat) (z1 : List Int) (W : World) (r0 : IsRow .u8 W a0 n0 c0 z0) (r1 : IsRow .i64 W a1 n1 c1 z1) :
    Calls Try.prog 12 #[.slice a0 n0 c0, .slice a1 n1 c1] W (Rets W (.bool true)) := by
  obtain ⟨l, rfl, hl, sl, bl⟩ := row_take r0
  obtain ⟨ws, rfl, hw, sw, bw⟩ := row_take r1
  clear r0 r1
  have hby : Io.Bytes l := wf_any bl
  unfold maxLen at hl hw
  clear bl bw
  have SL := Lib.hid sl
  have SW := Lib.hid sw
  have HBY := Lib.hid hby
  clear sl sw hby
  go_enter Try.func12, Try.ntmps12
  go_wp2_with fail
  refine (small_wide _ _ _ _ _ _ (by omega) (by omega)).mono ?_
  rintro e w1 ⟨rfl, rfl⟩
  by_cases hsm : l.length ≤ 200 ∧ ws.length ≤ 100
  · obtain ⟨h1, h2⟩ := hsm
    rw [show (decide (l.length ≤ 200) && decide (ws.length ≤ 100)) = true by simp [h1, h2]]
    go_wp2_with fail
    refine (newReader_any _ l _ SL.out HBY.out (by omega)).mono ?_
    rintro e w2 ⟨p, ra, rn, rc, rfl, x2, r2⟩
    go_wp2_with fail
    refine (rNewReader_any _ l _ (SL.out.ext x2) (by omega)).mono ?_
    rintro e w3 ⟨xa, xc, rfl, x3, o3⟩
    have l3 := x3.le
    have l2 := x2.le
    have HE := Lib.hid (alloc_heap w3 (.cells #[.slice xa l.length xc, .int .i64 0] 79))
    have HX := Lib.hid ((x2.trans x3).alloc (.cells #[.slice xa l.length xc, .int .i64 0] 79))
    have HO := Lib.hid (own_ext o3 ((Ext.refl w3).alloc (.cells #[.slice xa l.length xc, .int .i64 0] 79)))
    have HR := Lib.hid (r2.ext (x3.alloc (.cells #[.slice xa l.length xc, .int .i64 0] 79)))
    have hpB : W.heap.size ≤ p := r2.le
    clear x2 x3 r2 o3
    go_wp2_with fail
    go_loopw [7] (fun i wr => ∃ (k pos : Nat), k ≤ ws.length ∧ i = .int .i64 k ∧ Ext W wr ∧ RdrAt wr W.heap.size p ra rn rc l pos ∧ wr.ownsRow w2.heap.size 5 1 (.slice xa l.length xc) l.length (u8s l)
      ∧ wr.heap[w3.heap.size]? = some (.cells #[.slice xa l.length xc, .int .i64 pos] 79 (0, 0))) (fun i _ => ws.length - (intOf i).toNat)
    case atStart => exact ⟨0, 0, Nat.zero_le _, rfl, HX.out, HR.out, HO.out, HE.out⟩
    case round =>
      obtain ⟨k, pos, hk, rfl, hx, hr, ho, hB⟩ := hrel
      clear HX HR HO HE
      have hpl := hr.pos_le
      have HX := Lib.hid hx
      have HR := Lib.hid hr
      have HO := Lib.hid ho
      have HB := Lib.hid hB
      clear hx hr ho hB
      by_cases hlt : k < ws.length
      · obtain ⟨y, hyk⟩ : ∃ y, ws[k]? = some y := ⟨_, List.getElem?_eq_getElem hlt⟩
        cases a1 with
        | none =>
          rcases SW.out.2.2 with ⟨_, h0⟩ | ⟨_, _, h0, _⟩
          · omega
          · simp at h0
        | some bd =>
        obtain ⟨eb, _, cb'⟩ := SW.out.at (by omega)
        obtain ⟨bb, bo, bsp⟩ := bd
        simp only [Addr.mk.injEq, true_and] at eb
        subst eb
        dsimp only at cb'
        have cy := cb' k (.int .i64 y) (by simp [hyk])
        have f2 := HX.out.cell cy
        have CY := Lib.hid cy
        clear cb' cy hyk
        go_wp2_with fail
        refine (readBits_any HR.out _).mono ?_
        rintro e w4 ⟨rfl, m4, r4⟩
        have hnB : w3.heap.size ≠ p := fun e1 => by
          have hh := HB.out
          rw [e1] at hh
          exact ne_of_type hh HR.out.blk (by decide) rfl
        have b4 := m4.heap HB.out hnB
        have o4 := own_mod HO.out m4 (fun q hq e1 => by
          obtain ⟨cur, hc⟩ := own_type HO.out hq
          exact ne_of_type hc HR.out.blk (by decide) e1)
        have x4 := HX.out.mod m4 (fun q hq => by rw [hq]; exact hpB)
        have d0 : w4.cell? ⟨w3.heap.size, 0, none⟩ = some (.slice xa l.length xc) := cell_of b4
        have d1 : w4.cell? ⟨w3.heap.size, 1, none⟩ = some (.int .i64 pos) := cell_of b4
        have d2 := x4.cell CY.out
        have D0 := Lib.hid d0
        have D1 := Lib.hid d1
        have D2 := Lib.hid d2
        have n0 := World.new_ne w4 _ d0
        have n1 := World.new_ne w4 _ d1
        have n2 := World.new_ne w4 _ d2
        have B4 := Lib.hid b4
        have O4 := Lib.hid o4
        have X4 := Lib.hid x4
        have R4 := Lib.hid r4
        clear f2 m4 r4 b4 o4 x4
        go_wp2_with fail
        go_cut [10, 11, 12] (fun s t u wx => ∃ B2 : Nat, s = .pointer (some ⟨B2, 0, none⟩) ∧ t = .int .u32 (Io.rdV l pos y) ∧ u = .int .i64 (Io.rdE l pos y) ∧ Ext w4 wx ∧ w4.heap.size ≤ B2
          ∧ wx.heap[B2]? = some (.cells #[.slice xa l.length xc, .int .i64 ((Io.rdP l pos y : Nat) : Int)] 79 (0, 0)))
        case first =>
          go_region_held3 (fun w' => w'.cell? ⟨w3.heap.size, 0, none⟩ = some (.slice xa l.length xc) ∧ w'.cell? ⟨w3.heap.size, 1, none⟩ = some (.int .i64 pos) ∧ w'.cell? ⟨bb, bo + k, none⟩ = some (.int .i64 y)) (go_keep)
            (first | (go_at_call 60; refine (rReadBits_any _ ((own_src O4.out (u8s_one _)).ext (by first | exact (Ext.refl _).drew | exact ((Ext.refl _).drew).alloc _)) HBY.out (by omega) hpl).mono ?_; rintro e w5 ⟨rfl, hy⟩; have hz : Ext w4 w5 := (by first | exact ((Ext.refl w4).drew).trans hy | exact (((Ext.refl w4).drew).alloc _).trans hy); have q0 := hz.cell D0.out; have q1 := hz.cell D1.out; have q2 := hz.cell D2.out; try (have q3 : w5.heap[w4.heap.size]? = some (.cells #[.slice none 0 0, .int .i64 0] 79 (0, 0)) := hy.heap (alloc_heap w4.drew (.cells #[.slice none 0 0, .int .i64 0] 79)); have q4 : w5.cell? ⟨w4.heap.size, 0, none⟩ = some (.slice none 0 0) := cell_of q3; have q5 : w5.cell? ⟨w4.heap.size, 1, none⟩ = some (.int .i64 0) := cell_of q3; have q6 : w5.frozen? ⟨w4.heap.size, 0, none⟩ = false := free_of q3; have q7 : w5.frozen? ⟨w4.heap.size, 1, none⟩ = false := free_of q3)))
          all_goals (try go_wp2_with fail)
          all_goals go_meet
          · exact ⟨w5.heap.size, rfl, rfl, rfl, hz.alloc _, hz.le, alloc_heap _ _⟩
          · obtain ⟨g1, g2⟩ := set2 (a' := .slice xa l.length xc) (b' := .int .i64 ((Io.rdP l pos y : Nat) : Int)) q3
            exact ⟨w4.heap.size, rfl, rfl, rfl, hz.mod g2 (fun q hq => by rw [hq]; exact Nat.le_refl _), Nat.le_refl _, g1⟩
        case rest =>
          obtain ⟨B2, rfl, rfl, rfl, hx5, hB2, b5⟩ := hcut
          obtain ⟨q, hq⟩ : ∃ q, q = Io.rdP l pos y := ⟨_, rfl⟩
          have R5 := Lib.hid (R4.out.ext hx5)
          have O5 := Lib.hid (own_ext O4.out hx5)
          have X5 := Lib.hid (X4.out.trans hx5)
          have B5 := Lib.hid (hx5.heap B4.out)
          rw [← hq] at R5 b5
          have hql := R5.out.pos_le
          have k0 : wc.cell? ⟨B2, 0, none⟩ = some (.slice xa l.length xc) := cell_of b5
          have k1 : wc.cell? ⟨B2, 1, none⟩ = some (.int .i64 q) := cell_of b5
          have k2 : wc.frozen? ⟨w3.heap.size, 0, none⟩ = false := free_of B5.out
          have k3 : wc.frozen? ⟨w3.heap.size, 1, none⟩ = false := free_of B5.out
          have k4 : wc.cell? ⟨w3.heap.size, 0, none⟩ = some (.slice xa l.length xc) := cell_of B5.out
          have k5 : wc.cell? ⟨w3.heap.size, 1, none⟩ = some (.int .i64 pos) := cell_of B5.out
          obtain ⟨g1, g2⟩ := set2 (a' := .slice xa l.length xc) (b' := .int .i64 (q : Int)) B5.out
          have hxr := R5.out.mod g2 (Ne.symm hnB) (own_not R5.out.row B5.out (by decide))
          have hxo := own_mod O5.out g2 (own_not O5.out B5.out (by decide))
          have hxx := X5.out.mod g2 (fun q hq => by rw [hq]; omega)
          have R6 := Lib.hid hxr
          have O6 := Lib.hid hxo
          have X6 := Lib.hid hxx
          have B6 := Lib.hid g1
          have HQ := Lib.hid hq
          clear hx5 b5 R5 O5 X5 B5 R4 O4 X4 B4 hq g1 g2 hxr hxo hxx d0 d1 d2 D0 D1 D2 n0 n1 n2
          go_wp2_with fail
          refine (rest_any R6.out (by omega)).mono ?_
          rintro e w7 ⟨v7, rfl, x7, o7⟩
          obtain ⟨oa7, c7, rfl⟩ := own_slice o7
          clear k0 k1 k2 k3 k4 k5
          have R7 := Lib.hid (R6.out.ext x7)
          have O7 := Lib.hid (own_ext O6.out x7)
          have X7 := Lib.hid (X6.out.trans x7)
          have B7 := Lib.hid (x7.heap B6.out)
          have P7 := Lib.hid o7
          have k4 : w7.cell? ⟨w3.heap.size, 0, none⟩ = some (.slice xa l.length xc) := cell_of B7.out
          have k5 : w7.cell? ⟨w3.heap.size, 1, none⟩ = some (.int .i64 q) := cell_of B7.out
          clear x7 o7 R6 O6 X6 B6
          go_wp2_with fail
          refine (rRest_any O7.out hql (by omega)).mono ?_
          rintro e w8 ⟨v8, rfl, x8, o8⟩
          obtain ⟨oa8, c8, rfl⟩ := own_slice o8
          clear k4 k5
          have R8 := Lib.hid (R7.out.ext x8)
          have O8 := Lib.hid (own_ext O7.out x8)
          have X8 := Lib.hid (X7.out.trans x8)
          have B8 := Lib.hid (x8.heap B7.out)
          have s7 := own_src (own_ext P7.out x8) (u8s_one _)
          have s8 := own_src o8 (u8s_one _)
          have k4 := Later.cell (W := w8) (p := ⟨w3.heap.size, 0, none⟩) (v := .slice xa l.length xc) (cell_of B8.out)
          have k5 := Later.cell (W := w8) (p := ⟨w3.heap.size, 1, none⟩) (v := .int .i64 q) (cell_of B8.out)
          have t7 : ∀ x : Later w8, _ := fun x => src_str (s7.ext x.ext)
          have t8 : ∀ x : Later w8, _ := fun x => src_str (s8.ext x.ext)
          clear x8 o8 R7 O7 X7 B7 P7 s7 s8
          go_wp2_with fail
          refine wp_region_later (W := w8) (by kernel_rfl) (by kernel_rfl) (Ext.refl _) ?_
          repeat (go_big_quiet_step (first
            | (go_at_call 58; exact Rets.later_at (remaining_at (R8.out.ext (Later.ext _))))
            | (go_at_call 63; exact Rets.later_at (rRemaining_any (by omega) hql))))
          refine wpQuiet_nil ?_
          intro w9 hx9
          have R9 := Lib.hid (R8.out.ext hx9)
          have O9 := Lib.hid (own_ext O8.out hx9)
          have X9 := Lib.hid (X8.out.trans hx9)
          have B9 := Lib.hid (hx9.heap B8.out)
          clear k4 k5 t7 t8 R8 O8 X8 B8 hx9
          go_wp2
          go_roundw
          case rel =>
            exact ⟨k + 1, q, by omega, by go_num, X9.out, R9.out, O9.out, B9.out⟩
          case measure => simp [intOf]; omega
      · obtain rfl : k = ws.length := by omega
        go_wp2_with (go_at_call 41; refine (works_any _).mono ?_; rintro e w9 ⟨rfl, hy⟩)
        go_ret
        exact ⟨rfl, HX.out.trans hy⟩
  · rw [show (decide (l.length ≤ 200) && decide (ws.length ≤ 100)) = false by simp; omega]
    go_wp2_with (go_at_call 41; refine (works_any _).mono ?_; rintro e w9 ⟨rfl, hy⟩)
    go_ret
    exact ⟨rfl, hy⟩
end Go.Proofs.Ytpcoikgbpdedcaa
