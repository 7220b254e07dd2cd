/- The laws of layer 2, walked: writes. No condition. -/
import Derived.Test.YtpcoikgbpdedcaaIoL7
import Derived.Test.YtpcoikgbpdedcaaAlw
namespace Go.Proofs.Ytpcoikgbpdedcaa
open Go.RowKit

theorem WrtAt.mod {S : Nat → Prop} {w w' : World} {base p : Nat} {oa : Option Addr} {n c : Nat} {L : List Int} (h : WrtAt w base p oa n c L) (hm : Mod S w w') (hp : ¬ S p) (hs : ∀ k, (Value.slice oa n c).ownBlock = some k → ¬ S k) : WrtAt w' base p oa n c L :=
  ⟨⟨hm.heap h.raw.blk hp, own_mod h.raw.row hm hs, h.raw.len, h.raw.le⟩, h.bits⟩
/-- a block of another make is not one of a writer's -/
theorem WrtAt.not {w : World} {base p : Nat} {oa : Option Addr} {n c : Nat} {L : List Int} (h : WrtAt w base p oa n c L) {B : Nat} {cs : Array Value} {t : TypeId} {f : Nat × Nat} (hb : w.heap[B]? = some (.cells cs t f)) (h1 : t ≠ 90) (h2 : t ≠ 5) : ¬ WS p oa n c B := by
  intro e
  rcases e with e | e
  · rw [e] at hb; exact ne_of_type hb h.raw.blk h1 rfl
  · obtain ⟨cur, hc⟩ := own_type h.raw.row e.symm
    exact ne_of_type hb hc h2 rfl

def ActR (_w : World) (cs : List Value) (d : Int × Int) : Prop := cs = [.int .u32 d.1, .int .i64 d.2] ∧ 0 ≤ d.1 ∧ d.1 < 4294967296
theorem acts_rows {v : Value} {W : World} {H : Type} {enc : TypeId × Value → H} {d : DataW H} {ps : List MemPlace} (h : DataW.Trod enc Try.prog W 0 (fun _ => true) true 56 v d ps) :
    ∃ u ds, v.cells.toList = [u] ∧ Rows W 2 ActR u ds := by
  have hc : Try.prog.cellsOf 65 = 2 := by kernel_rfl
  have h3 : Try.prog.cellsOf 3 = 1 := by kernel_rfl
  have h22 : Try.prog.cellsOf 22 = 1 := by kernel_rfl
  refine Rd.rows Try.underlying56 hc (by decide) (fun row hrow hrd => ?_) (Rd.of h)
  obtain ⟨_, hr⟩ := Rd.struct Try.underlying65 hrd
  match row, hrow with
  | [c0, c1], _ =>
    have r0 := hr 0 _ rfl
    have r1 := hr 1 _ rfl
    simp [h3, h22] at r0 r1
    obtain ⟨a, ha, wa⟩ := Rd.int Try.underlying22 r0
    obtain ⟨b, hb, wb⟩ := Rd.int Try.underlying3 r1
    simp at ha hb
    subst ha; subst hb
    have := wf_u32 wa
    exact ⟨(a, b), rfl, this.1, this.2⟩

set_option maxRecDepth 8000 in
set_option maxHeartbeats 800000 in
theorem bitioWrites_walk (v : Value) (W : World) {base : Nat} {r : Reach} {H : Type} {enc : TypeId × Value → H} {d : DataW H} {ps : List MemPlace}
    (ok : Value.okWide Try.prog W r base 56 v) (h : DataW.Trod enc Try.prog W 0 (fun _ => true) true 56 v d ps) :
    Calls Try.prog 10 #[v] W (Rets W (.bool true)) := by
  obtain ⟨a, len, cap, rfl⟩ := Go.WideShapes.okWide_slice Try.underlying56 ok
  obtain ⟨u, ds, hu, hrows⟩ := acts_rows h
  simp [Value.cells] at hu
  subst hu
  obtain ⟨oa, c, hv, hlc, hcm⟩ := hrows.slice
  simp only [Value.slice.injEq] at hv
  obtain ⟨rfl, rfl, rfl⟩ := hv
  clear ok h
  unfold maxLen at hcm
  have HR := Lib.hid hrows
  clear hrows
  by_cases hsm : ds.length ≤ 60
  · go_enter Try.func10, Try.ntmps10
    go_wp2_with fail
    refine (newWriter_any _).mono ?_
    rintro e w1 ⟨p, rfl, x1, k1⟩
    go_wp2_with fail
    refine (rNewWriter_any _).mono ?_
    rintro e w2 ⟨rfl, x2⟩
    have HX0 := Lib.hid ((x1.trans x2).alloc (.cells #[.slice none 0 0] 61))
    have HB0 := Lib.hid (alloc_heap w2 (.cells #[.slice none 0 0] 61))
    have HW0 := Lib.hid (k1.ext (x2.alloc (.cells #[.slice none 0 0] 61)))
    have hB0 : W.heap.size ≤ w2.heap.size := (x1.trans x2).le
    clear x1 x2 k1
    go_wp2_with fail
    go_loopw [5] (fun i wr => ∃ (k : Nat) (oa1 : Option Addr) (n1 c1 : Nat) (ob1 : Option Addr) (c2 : Nat) (L : List Int), k ≤ ds.length ∧ i = .int .i64 k ∧ Ext W wr ∧ WrtAt wr W.heap.size p oa1 n1 c1 L
      ∧ wr.heap[w2.heap.size]? = some (.cells #[.slice ob1 L.length c2] 61 (0, 0)) ∧ wr.ownsRow W.heap.size 4 1 (.slice ob1 L.length c2) L.length (bls L) ∧ L.length ≤ 32 * k) (fun i _ => ds.length - (intOf i).toNat)
    case atStart => exact ⟨0, none, 0, 0, none, 0, [], Nat.zero_le _, rfl, HX0.out, HW0.out, HB0.out, World.ownsRow_nil _ _ _ _, Nat.zero_le _⟩
    case round =>
      obtain ⟨k, oa1, n1, c1, ob1, c2, L, hk, rfl, hx, hw, hb, ho, hLl⟩ := hrel
      clear HX0 HB0 HW0
      have HX := Lib.hid hx
      have HW := Lib.hid hw
      have HB := Lib.hid hb
      have HO := Lib.hid ho
      clear hx hw hb ho
      by_cases hlt : k < ds.length
      · obtain ⟨⟨x, y⟩, hxk⟩ : ∃ x, ds[k]? = some x := ⟨_, List.getElem?_eq_getElem hlt⟩
        obtain ⟨b, o, rfl, _, hcell⟩ := HR.out.at (by omega)
        obtain ⟨cs, _, ⟨rfl, hx0, hx1⟩, hcs⟩ := hcell k _ hxk
        dsimp only at hcs hx0 hx1
        have f0 := alw (hcs 0 _ rfl)
        have f1 := alw (hcs 1 _ rfl)
        rw [Nat.add_zero] at f0
        have sr : Step W wr := ⟨HX.out⟩
        clear hcell hcs hxk
        go_wp2_with fail
        refine wp_region_later_tail (W := wr) 11 (by kernel_rfl) (by kernel_rfl) (Ext.refl _) ?_
        simp only [List.take_succ_cons, List.take_zero, List.drop_succ_cons, List.drop_zero]
        repeat (go_big_quiet_step (fail))
        refine wpQuiet_nil ?_
        intro w3 hx3
        go_wp2_with fail
        refine (writeBits_any (HW.out.ext hx3) _ _ hx0 (by omega)).mono ?_
        rintro e w4 ⟨rfl, oa4, n4, c4, m4, k4, i4⟩
        have hb3 := hx3.heap HB.out
        have ho3 := own_ext HO.out hx3
        have hx4 := (HX.out.trans hx3).mod m4 (HW.out.ext hx3).foot
        have hb4 := m4.heap hb3 ((HW.out.ext hx3).not hb3 (by decide) (by decide))
        have ho4 := own_mod ho3 m4 (fun q hq e1 => by
          obtain ⟨cur, hc⟩ := own_type ho3 hq
          exact (HW.out.ext hx3).not hc (by decide) (by decide) e1)
        have s4 : Step W w4 := ⟨hx4⟩
        have HX4 := Lib.hid hx4
        have HB4 := Lib.hid hb4
        have HO4 := Lib.hid ho4
        have HW4 := Lib.hid k4
        have hle4 := hx4.le
        have d0 : w4.cell? ⟨w2.heap.size, 0, none⟩ = some (.slice ob1 L.length c2) := cell_of hb4
        have d1 := f0 w4
        have d2 := f1 w4
        have n0 := World.new_ne w4 _ d0
        have n1 := World.new_ne w4 _ d1
        have n2 := World.new_ne w4 _ d2
        have D0 := Lib.hid d0
        clear m4 k4 i4 hx4 hb3 ho3 hb4 ho4 hx3 HW HB HO HX
        go_wp2_with fail
        go_cut [7, 8] (fun s t wx => ∃ (B2 : Nat) (oa5 : Option Addr) (c5 : Nat), s = .pointer (some ⟨B2, 0, none⟩) ∧ t = .int .i64 (Io.wrE x y) ∧ Ext w4 wx ∧ w4.heap.size ≤ B2
          ∧ wx.heap[B2]? = some (.cells #[.slice oa5 (Io.wrL L x y).length c5] 61 (0, 0)) ∧ wx.ownsRow W.heap.size 4 1 (.slice oa5 (Io.wrL L x y).length c5) (Io.wrL L x y).length (bls (Io.wrL L x y)))
        case first =>
          go_region_held3 (fun w' => w'.cell? ⟨w2.heap.size, 0, none⟩ = some (.slice ob1 L.length c2) ∧ w'.cell? ⟨b, o + k * 2, none⟩ = some (.int .u32 x) ∧ w'.cell? ⟨b, o + k * 2 + 1, none⟩ = some (.int .i64 y)) (go_keep)
            (first | (go_at_call 51; refine (rWriteBits_any _ _ hx0 hx1 (own_ext HO4.out (by first | exact (Ext.refl _).drew | exact ((Ext.refl _).drew).alloc _)) (by simp; omega) (by omega)).mono ?_; rintro e w5 ⟨oa5, c5, rfl, hy, ho5⟩; have hz : Ext w4 w5 := (by first | exact ((Ext.refl w4).drew).trans hy | exact (((Ext.refl w4).drew).alloc _).trans hy); have q0 := hz.cell D0.out; have q1 := hz.cell (f0 w4); have q2 := hz.cell (f1 w4); have HO5 := Lib.hid ho5; clear ho5; try (have q3 : w5.heap[w4.heap.size]? = some (.cells #[.slice none 0 0] 61 (0, 0)) := hy.heap (alloc_heap w4.drew (.cells #[.slice none 0 0] 61)); have q4 : w5.cell? ⟨w4.heap.size, 0, none⟩ = some (.slice none 0 0) := cell_of q3; have q6 : w5.frozen? ⟨w4.heap.size, 0, none⟩ = false := free_of q3)))
          all_goals (try go_wp2_with fail)
          all_goals go_meet
          · exact ⟨w5.heap.size, oa5, c5, rfl, rfl, hz.alloc _, hz.le, alloc_heap _ _, own_ext HO5.out ((Ext.refl _).alloc _)⟩
          · obtain ⟨g1, g2⟩ := set1 (a' := .slice oa5 (Io.wrL L x y).length c5) q3
            exact ⟨w4.heap.size, oa5, c5, rfl, rfl, hz.mod g2 (fun q hq => by rw [hq]; exact Nat.le_refl _), Nat.le_refl _, g1, own_mod HO5.out g2 (own_not HO5.out q3 (by decide))⟩
        case rest =>
          obtain ⟨B2, oa5, c5, rfl, rfl, hx5, hB2, b5, o5⟩ := hcut
          have hx6 := HX4.out.trans hx5
          have hb6 := hx5.heap HB4.out
          have hw6 := HW4.out.ext hx5
          have hll := Io.wrL_len L x y
          have k0 : wc.cell? ⟨B2, 0, none⟩ = some (.slice oa5 (Io.wrL L x y).length c5) := cell_of b5
          have k2 : wc.frozen? ⟨w2.heap.size, 0, none⟩ = false := free_of hb6
          have k4 : wc.cell? ⟨w2.heap.size, 0, none⟩ = some (.slice ob1 L.length c2) := cell_of hb6
          obtain ⟨g1, g2⟩ := set1 (a' := .slice oa5 (Io.wrL L x y).length c5) hb6
          obtain ⟨M, hM⟩ : ∃ M, M = Io.wrL L x y := ⟨_, rfl⟩
          have HXM := Lib.hid (hx6.mod g2 (fun q hq => by rw [hq]; omega))
          have HOM := Lib.hid (own_mod o5 g2 (own_not o5 hb6 (by decide)))
          have HWM := Lib.hid (hw6.mod g2 (fun e => hw6.not hb6 (by decide) (by decide) (.inl e.symm)) (fun q hq e => hw6.not hb6 (by decide) (by decide) (.inr (by rw [← e, hq]))))
          have HG1 := Lib.hid g1
          rw [← hM] at HXM HOM HWM HG1 k0 hll
          obtain ⟨wm, hwm⟩ : ∃ wm, wm = wc.setCell ⟨w2.heap.size, 0, none⟩ (.slice oa5 M.length c5) := ⟨_, rfl⟩
          rw [← hwm] at HXM HOM HWM HG1
          have HWMM := Lib.hid hwm
          clear hM hwm
          clear hx5 b5 o5 hx6 hb6 hw6 g1 g2 d0 d1 d2 D0 n0 n1 n2 HX4 HB4 HO4 HW4 f0 f1
          go_upto_region 12 with (fail)
          rw [← HWMM.out]
          have hMl : M.length ≤ 3200 := by omega
          have hbi := HWM.out.bits
          have HBI := Lib.hid hbi
          have t0 := alw (cell_of (o := 0) HG1.out)
          clear k0 k2 k4 s4 hbi
          go_wp2_with fail
          refine (bytes_any HWM.out (by omega)).mono ?_
          rintro e w7 ⟨v7, rfl, x7, o7⟩
          obtain ⟨oa7, c7, rfl⟩ := own_slice o7
          have s7 : Step wm w7 := ⟨x7⟩
          have P7 := Lib.hid (own_src o7 (u8s_one _))
          clear o7
          go_wp2_with fail
          refine (rBytes_any (own_now HOM.out) HBI.out (by omega)).mono ?_
          rintro e w8 ⟨v8, rfl, x8, o8⟩
          obtain ⟨oa8, c8, rfl⟩ := own_slice o8
          have s8 : Step w7 w8 := ⟨x8⟩
          have P8 := Lib.hid (own_src o8 (u8s_one _))
          clear o8
          have t7 : ∀ x : Later w8, _ := fun x => src_str (P7.out.now (w := x.val))
          have t8 : ∀ x : Later w8, _ := fun x => src_str (P8.out.now (w := x.val))
          go_wp2_with fail
          refine wp_region_later (W := w8) (by kernel_rfl) (by kernel_rfl) (Ext.refl _) ?_
          repeat (go_big_quiet_step (first
            | (go_at_call 54; exact Rets.later_eq (wlen_at (HWM.out.ext grows)))
            | (go_at_call 55; exact Rets.later_at rLen_any)))
          refine wpQuiet_nil ?_
          intro w9 hx9
          have s9 : Step w8 w9 := ⟨hx9⟩
          have hxz : Ext wm w9 := grows
          have HXZ := Lib.hid hxz
          clear t7 t8 t0 hx9 hxz s7 s8 s9 x7 x8
          go_wp2
          go_roundw
          case rel => exact ⟨k + 1, oa4, n4, c4, oa5, c5, M, by omega, by go_num, HXM.out.trans HXZ.out, HWM.out.ext HXZ.out, HXZ.out.heap HG1.out, own_ext HOM.out HXZ.out, by omega⟩
          case measure => simp [intOf]; omega
      · obtain rfl : k = ds.length := by omega
        go_wp2_with (go_at_call 41; refine (works_any _).mono ?_; rintro e w9 ⟨rfl, hy⟩)
        go_ret
        exact ⟨rfl, HX.out.trans hy⟩
  · have h60 : 60 < ds.length := by omega
    go_enter Try.func10, Try.ntmps10
    go_wp2_with (go_at_call 41; refine (works_any _).mono ?_; rintro e w9 ⟨rfl, hy⟩)
    go_ret
    exact ⟨rfl, hy⟩
end Go.Proofs.Ytpcoikgbpdedcaa
