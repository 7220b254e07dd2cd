/- The reference of layer 2, walked: Pack and Unpack. No condition. -/
import Derived.Test.YtpcoikgbpdedcaaIoG
import Derived.Test.YtpcoikgbpdedcaaIoL6
namespace Go.Proofs.Ytpcoikgbpdedcaa
open Go.RowKit

set_option maxRecDepth 8000 in
set_option maxHeartbeats 800000 in
theorem rPack_any (va vb : Value) (vs ns : List Int) (W : World) (ha : Src W va 1 vs.length (u32s vs)) (hb : Src W vb 1 ns.length (i64s ns)) (hvs : ∀ x ∈ vs, 0 ≤ x ∧ x < 4294967296) (hl : vs.length ≤ 1000000) :
    Calls Try.prog 43 #[va, vb] W
      fun e w' => ∃ v, e = .returned (.tuple #[v, .int .i64 (Io.packE vs ns)]) ∧ Ext W w' ∧ w'.ownsRow W.heap.size 5 1 v (Io.packB vs ns).length (u8s (Io.packB vs ns)) := by
  obtain ⟨oa, ca, rfl, hna⟩ := ha.slice
  obtain ⟨ob, cb, rfl, hnb⟩ := hb.slice
  have HA := Lib.hid ha
  have HB := Lib.hid hb
  have HV := Lib.hid hvs
  have HNA := Lib.hid hna
  have HNB := Lib.hid hnb
  clear ha hb hvs hna hnb
  by_cases hlen : vs.length = ns.length
  · have hne : ((vs.length : Int) != ns.length) = false := by simp; omega
    have hns : ns.length ≤ 1000000 := by omega
    have HL := Lib.hid hlen
    clear hlen
    go_enter Try.func43, Try.ntmps43
    go_wp2_with (go_at_call 49; refine (rNewWriter_any _).mono ?_; rintro e w1 ⟨rfl, hx⟩)
    have HX0 := Lib.hid (hx.alloc (.cells #[.slice none 0 0] 61))
    have HB0 := Lib.hid (alloc_heap w1 (.cells #[.slice none 0 0] 61))
    have hB0 : W.heap.size ≤ w1.heap.size := hx.le
    obtain ⟨B0, hB0e⟩ : ∃ B0, B0 = w1.heap.size := ⟨_, rfl⟩
    clear hx
    go_loopw [7] (fun i wr => ∃ k oa' c' L, k ≤ vs.length ∧ i = .int .i64 (k : Nat) ∧ Ext W wr ∧ wr.heap[w1.heap.size]? = some (.cells #[.slice oa' (L : List Int).length c'] 61 (0, 0)) ∧ wr.ownsRow W.heap.size 4 1 (.slice oa' L.length c') L.length (bls L) ∧ Io.Bits L ∧ L.length ≤ 32 * k ∧ Io.putAll (vs.drop k) (ns.drop k) L = Io.putAll vs ns []) (fun i _ => vs.length - (intOf i).toNat)
    case atStart => exact ⟨0, none, 0, [], Nat.zero_le _, rfl, HX0.out, HB0.out, World.ownsRow_nil _ _ _ _, (by intro b hb; cases hb), Nat.zero_le _, by simp⟩
    case round =>
      obtain ⟨k, oa1, c1, L, hk, rfl, hx1, hb1, ho1, hbits, hLl, hput⟩ := hrel
      clear HX0 HB0
      by_cases hlt : k < vs.length
      · obtain ⟨x, hxk⟩ : ∃ x, vs[k]? = some x := ⟨_, List.getElem?_eq_getElem hlt⟩
        obtain ⟨y, hyk⟩ : ∃ y, ns[k]? = some y := ⟨_, List.getElem?_eq_getElem (by rw [← HL.out]; exact hlt)⟩
        have hx0 := HV.out x (List.mem_of_getElem? hxk)
        cases oa with
        | none => have := HNA.out rfl; omega
        | some ad =>
        cases ob with
        | none => have := HNB.out rfl; have := HL.out; omega
        | some bd =>
        obtain ⟨ea, _, ca'⟩ := HA.out.at (by omega)
        obtain ⟨eb, _, cb'⟩ := HB.out.at (by rw [← HL.out]; omega)
        obtain ⟨ab, ao, asp⟩ := ad
        obtain ⟨bb, bo, bsp⟩ := bd
        simp only [Addr.mk.injEq, true_and] at ea eb
        subst ea; subst eb
        dsimp only at ca' cb'
        have d0 : wr.cell? ⟨w1.heap.size, 0, none⟩ = some (.slice oa1 L.length c1) := cell_of hb1
        have d1 := hx1.cell (ca' k _ (u32s_get hxk))
        have d2 := hx1.cell (cb' k _ (i64s_get hyk))
        have hkn : k < ns.length := by rw [← HL.out]; exact hlt
        rw [drop_cons hxk, drop_cons hyk, Io.putAll] at hput
        have D0 := Lib.hid d0
        have D1 := Lib.hid d1
        have D2 := Lib.hid d2
        have n0 := World.new_ne wr _ d0
        have n1 := World.new_ne wr _ d1
        have n2 := World.new_ne wr _ d2
        have HB1 := Lib.hid hb1
        have HO1 := Lib.hid ho1
        have HX1 := Lib.hid hx1
        have HP := Lib.hid hput
        have HBI := Lib.hid hbits
        have hle := hx1.le
        clear hxk hyk ca' cb' hput hb1 ho1 hx1 hbits
        go_wp2_with fail
        go_cut [8, 9] (fun s t wx => ∃ (B2 : Nat) (oa5 : Option Addr) (c5 : Nat), s = .pointer (some ⟨B2, 0, none⟩) ∧ t = .int .i64 (Io.wrE x y) ∧ Ext wr wx ∧ wr.heap.size ≤ B2
          ∧ wx.heap[B2]? = some (.cells #[.slice oa5 (Io.wrL L x y).length c5] 61 (0, 0)) ∧ wx.ownsRow W.heap.size 4 1 (.slice oa5 (Io.wrL L x y).length c5) (Io.wrL L x y).length (bls (Io.wrL L x y)))
        case first =>
          go_region_held3 (fun w' => w'.cell? ⟨w1.heap.size, 0, none⟩ = some (.slice oa1 L.length c1) ∧ w'.cell? ⟨ab, ao + k, none⟩ = some (.int .u32 x) ∧ w'.cell? ⟨bb, bo + k, none⟩ = some (.int .i64 y)) (go_keep)
            (first | (go_at_call 51; refine (rWriteBits_any _ _ hx0.1 hx0.2 (own_ext HO1.out (by first | exact (Ext.refl _).drew | exact ((Ext.refl _).drew).alloc _)) (by simp; omega) (by omega)).mono ?_; rintro e w5 ⟨oa5, c5, rfl, hy, ho5⟩; have hz : Ext wr w5 := (by first | exact ((Ext.refl wr).drew).trans hy | exact (((Ext.refl wr).drew).alloc _).trans hy); have q0 := hz.cell D0.out; have q1 := hz.cell D1.out; have q2 := hz.cell D2.out; have HO5 := Lib.hid ho5; clear ho5; try (have q3 : w5.heap[wr.heap.size]? = some (.cells #[.slice none 0 0] 61 (0, 0)) := hy.heap (alloc_heap wr.drew (.cells #[.slice none 0 0] 61)); have q4 : w5.cell? ⟨wr.heap.size, 0, none⟩ = some (.slice none 0 0) := cell_of q3; have q6 : w5.frozen? ⟨wr.heap.size, 0, none⟩ = false := free_of q3)))
          all_goals (try go_wp2_with fail)
          all_goals go_meet
          · exact ⟨w5.heap.size, oa5, c5, rfl, rfl, hz.alloc _, hz.le, alloc_heap _ _, own_ext HO5.out ((Ext.refl _).alloc _)⟩
          · obtain ⟨g1, g2⟩ := set1 (a' := .slice oa5 (Io.wrL L x y).length c5) q3
            exact ⟨wr.heap.size, oa5, c5, rfl, rfl, hz.mod g2 (fun q hq => by rw [hq]; exact Nat.le_refl _), Nat.le_refl _, g1, own_mod HO5.out g2 (own_not HO5.out q3 (by decide))⟩
        case rest =>
          obtain ⟨B2, oa5, c5, rfl, rfl, hx5, hB2, b5, o5⟩ := hcut
          have hx3 := HX1.out.trans hx5
          have hb3 := hx5.heap HB1.out
          have hll := Io.wrL_len L x y
          have k0 : wc.cell? ⟨B2, 0, none⟩ = some (.slice oa5 (Io.wrL L x y).length c5) := cell_of b5
          have k2 : wc.frozen? ⟨w1.heap.size, 0, none⟩ = false := free_of hb3
          have k4 : wc.cell? ⟨w1.heap.size, 0, none⟩ = some (.slice oa1 L.length c1) := cell_of hb3
          obtain ⟨g1, g2⟩ := set1 (a' := .slice oa5 (Io.wrL L x y).length c5) hb3
          have HX3 := Lib.hid hx3
          have HXM := Lib.hid (hx3.mod g2 (fun q hq => by rw [hq]; omega))
          have HOM := Lib.hid (own_mod o5 g2 (own_not o5 hb3 (by decide)))
          have HG1 := Lib.hid g1
          have HB5 := Lib.hid b5
          have HO5 := Lib.hid o5
          have hbw := Io.wrL_bits HBI.out x y
          have HBW := Lib.hid hbw
          clear hx5 b5 o5 hx3 hb3 g1 g2 d0 d1 d2 D0 D1 D2 n0 n1 n2 hbw
          by_cases he : Io.wrE x y = 0
          · have hp := HP.out
            rw [if_pos he] at hp
            have HPP := Lib.hid hp
            clear hp
            rw [he]
            go_wp2
            go_roundw
            case rel => exact ⟨k + 1, oa5, c5, _, by omega, by go_num, HXM.out, HG1.out, HOM.out, HBW.out, by omega, HPP.out⟩
            case measure => simp [intOf]; omega
          · have he2 : (Io.wrE x y != 0) = true := by simpa using he
            have hp := HP.out
            rw [if_neg he] at hp
            have e1 : Io.packE vs ns = Io.wrE x y := by unfold Io.packE; rw [if_pos HL.out, ← hp]; simp [he]
            have e2 : Io.packB vs ns = [] := by unfold Io.packB; rw [e1, if_neg he]
            have HE1 := Lib.hid e1
            have HE2 := Lib.hid e2
            clear e1 e2 hp he
            go_wp2
            go_ret2
            exact ⟨_, by rw [HE1.out]; rfl, HX3.out, by rw [HE2.out]; exact World.ownsRow_nil _ _ _ _⟩
      · obtain rfl : k = vs.length := by omega
        have hd1 : vs.drop vs.length = [] := List.drop_length
        have hd2 : ns.drop vs.length = [] := by rw [HL.out]; exact List.drop_length
        rw [hd1, hd2] at hput
        have hput2 : Io.putAll vs ns [] = (0, L) := by rw [← hput]; rfl
        have HP := Lib.hid hput2
        have HO1 := Lib.hid ho1
        have HX1 := Lib.hid hx1
        have HBI := Lib.hid hbits
        have d0 : wr.cell? ⟨w1.heap.size, 0, none⟩ = some (.slice oa1 L.length c1) := cell_of hb1
        have e1 : Io.packE vs ns = Io.byE L := by unfold Io.packE; rw [if_pos HL.out, HP.out]; rfl
        have e2 : Io.packB vs ns = Io.byL L := by unfold Io.packB; rw [e1, HP.out]; unfold Io.byE Io.byL; split <;> simp_all
        have HE1 := Lib.hid e1
        have HE2 := Lib.hid e2
        clear hd1 hd2 hput hput2 hb1 ho1 hx1 hbits e1 e2
        go_wp2_with fail
        refine (rBytes_any HO1.out HBI.out (by omega)).mono ?_
        rintro e w2 ⟨v, rfl, hx2, hown⟩
        go_wp2
        go_ret2
        exact ⟨_, by rw [HE1.out]; rfl, HX1.out.trans hx2, by rw [HE2.out]; exact own_base hown HX1.out.le⟩
  · have hne : ((vs.length : Int) != ns.length) = true := by simp; omega
    have e1 : Io.packE vs ns = 2 := by unfold Io.packE; rw [if_neg hlen]
    have e2 : Io.packB vs ns = [] := by unfold Io.packB; rw [e1]; rfl
    have HE1 := Lib.hid e1
    have HE2 := Lib.hid e2
    clear e1 e2 hlen
    go_enter Try.func43, Try.ntmps43
    go_wp2
    go_ret2
    exact ⟨_, by rw [HE1.out]; rfl, Ext.refl _, by rw [HE2.out]; exact World.ownsRow_nil _ _ _ _⟩
end Go.Proofs.Ytpcoikgbpdedcaa
