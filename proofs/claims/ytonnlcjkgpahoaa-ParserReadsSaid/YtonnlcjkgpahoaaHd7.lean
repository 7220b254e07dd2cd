/- Headers: Read of the reference, walked. No condition. -/
import Derived.Test.YtonnlcjkgpahoaaHd5
import Derived.Test.YtonnlcjkgpahoaaIoG
namespace Go.Proofs.Ytonnlcjkgpahoaa
open Go.RowKit

set_option maxRecDepth 8000 in
set_option maxHeartbeats 1000000 in
theorem rhread_any {W : World} {base : Nat} {xa : Option Addr} {xc pos : Nat} {l : List Int} (h : Hd.Hdr) {v : Value} (hs : Hd.Flds W v h.2) (hn : h.1.size ≤ maxLen) (ho : W.ownsRow base 5 1 (.slice xa l.length xc) l.length (u8s l)) (hby : Io.Bytes l) (hl : l.length ≤ 140737488355328) (hp : pos ≤ 8 * l.length) :
    Calls Try.prog 105 #[.agg #[.string h.1, v], .agg #[.slice xa l.length xc, .int .i64 pos]] W
      fun e w' => ∃ u, e = .returned (.tuple #[.agg #[.slice xa l.length xc, .int .i64 ((Hd.rP h l pos : Nat) : Int)], u, .int .i64 (Hd.rE h l pos)]) ∧ Ext W w' ∧ w'.ownsRow W.heap.size 64 1 u (Hd.rV h l pos).length (u32s (Hd.rV h l pos)) := by
  obtain ⟨nm, fs⟩ := h
  dsimp only at hs hn ⊢
  obtain ⟨fa, fc, rfl, hlc, hcm⟩ := hs.slice
  unfold maxLen at hcm
  have HS := Lib.hid hs
  have HO := Lib.hid ho
  have HBY := Lib.hid hby
  clear hs ho hby
  obtain ⟨Wa, hWa⟩ : ∃ Wa, Wa = W.alloc (.cells #[.string nm, .slice fa fs.length fc] 72) := ⟨_, rfl⟩
  obtain ⟨Wb, hWb⟩ : ∃ Wb, Wb = Wa.alloc (.cells #[.slice xa l.length xc, .int .i64 pos] 124) := ⟨_, rfl⟩
  obtain ⟨Wc, hWc⟩ : ∃ Wc, Wc = Wb.alloc (.cells #[.slice none 0 0, .int .i64 0] 124) := ⟨_, rfl⟩
  have sza : Wa.heap.size = W.heap.size + 1 := by rw [hWa]; simp
  have szb : Wb.heap.size = W.heap.size + 1 + 1 := by rw [hWb]; simp [sza]
  have xa1 : Ext W Wa := by rw [hWa]; exact (Ext.refl W).alloc _
  have xb1 : Ext Wa Wb := by rw [hWb]; exact (Ext.refl Wa).alloc _
  have xc1 : Ext Wb Wc := by rw [hWc]; exact (Ext.refl Wb).alloc _
  have hB0 : Wc.heap[W.heap.size]? = some (.cells #[.string nm, .slice fa fs.length fc] 72) := (xb1.trans xc1).heap (by rw [hWa]; exact alloc_heap _ _)
  have hB1 : Wc.heap[W.heap.size + 1]? = some (.cells #[.slice xa l.length xc, .int .i64 pos] 124) := xc1.heap (by rw [hWb, ← sza]; exact alloc_heap _ _)
  have hB2 : Wc.heap[W.heap.size + 1 + 1]? = some (.cells #[.slice none 0 0, .int .i64 0] 124) := by rw [hWc, ← szb]; exact alloc_heap _ _
  have hXC : Ext W Wc := (xa1.trans xb1).trans xc1
  have hWe : (((W.alloc (.cells #[.string nm, .slice fa fs.length fc] 72)).alloc (.cells #[.slice xa l.length xc, .int .i64 pos] 124)).alloc (.cells #[.slice none 0 0, .int .i64 0] 124)) = Wc := by rw [hWc, hWb, hWa]
  have HWE := Lib.hid hWe
  clear hWe hWc hWb hWa sza szb xa1 xb1 xc1 Wa Wb
  have HB0 := Lib.hid hB0
  have HB1 := Lib.hid hB1
  have HB2 := Lib.hid hB2
  have HXC := Lib.hid hXC
  have hlec := hXC.le
  have c0 := alw (cell_of (o := 0) hB0)
  have c1 := alw (cell_of (o := 1) hB0)
  have c2 := alw (cell_of (o := 0) hB1)
  have c3 := alw (cell_of (o := 1) hB1)
  clear hB0 hB1 hB2 hXC
  by_cases hc : Hd.chk (nm, fs) = 0
  · obtain ⟨k1, k2, k3, k4, k5⟩ := Hd.chk_ok hc
    dsimp only at k2 k3 k4
    have htb := Hd.tot_bd k4
    rw [Hd.wds_len] at htb
    have HC := Lib.hid hc
    have HWD := Lib.hid k4
    have hbt : Hd.bts (nm, fs) = Hd.tot (Hd.wds fs) := by unfold Hd.bts; rw [if_pos hc]
    have HBT := Lib.hid hbt
    clear hc k1 k4 k5 hbt
    go_enter Try.func105, Try.ntmps105
    go_upto_region 1 with (fail)
    rw [HWE.out]
    go_wp2_with fail
    refine (rhcheck_any (nm, fs) (Hd.Flds.ext HS.out HXC.out) hn).mono ?_
    rintro e w1 ⟨rfl, y1⟩
    rw [HC.out]
    have s1 : Step Wc w1 := ⟨y1⟩
    go_wp2_with fail
    refine wp_region_later (W := w1) (by kernel_rfl) (by kernel_rfl) (Ext.refl _) ?_
    repeat (go_big_quiet_step (first
      | (go_at_call 115; exact Rets.later_at (rRemaining_any hl hp))
      | (go_at_call 114; exact Rets.later_at (rhbits_any (nm, fs) (Hd.Flds.ext HS.out (HXC.out.trans grows)) hn))))
    refine wpQuiet_nil ?_
    intro w3 hx3
    have s3 : Step w1 w3 := ⟨hx3⟩
    have HX := Lib.hid (grows (a := Wc) (b := w3))
    clear y1 hx3
    rw [HBT.out]
    have hb0 := HX.out.heap HB0.out
    have hb1 := HX.out.heap HB1.out
    have hb2 := HX.out.heap HB2.out
    have K0 := Lib.hid hb0
    have K1 := Lib.hid hb1
    have K2 := Lib.hid hb2
    by_cases hsh : 8 * (l.length : Int) - pos < Hd.tot (Hd.wds fs)
    · have e1 : Hd.rE (nm, fs) l pos = 3 := by unfold Hd.rE; rw [if_pos HC.out, if_pos hsh]
      have e2 : Hd.rV (nm, fs) l pos = [] := by unfold Hd.rV; rw [e1]; rfl
      have e3 : Hd.rP (nm, fs) l pos = pos := by unfold Hd.rP; rw [e1]; rfl
      have E1 := Lib.hid e1
      have E2 := Lib.hid e2
      have E3 := Lib.hid e3
      have d0 : w3.cell? ⟨W.heap.size + 1 + 1, 0, none⟩ = some (.slice none 0 0) := cell_of hb2
      have d1 : w3.cell? ⟨W.heap.size + 1 + 1, 1, none⟩ = some (.int .i64 0) := cell_of hb2
      have q0 : w3.frozen? ⟨W.heap.size + 1 + 1, 0, none⟩ = false := free_of hb2
      have q1 : w3.frozen? ⟨W.heap.size + 1 + 1, 1, none⟩ = false := free_of hb2
      clear e1 e2 e3 hb0 hb1 hb2
      go_wp2_with fail
      obtain ⟨g1, g2⟩ := set2 (a' := .slice xa l.length xc) (b' := .int .i64 pos) K2.out
      have k0 := cell_of (o := 0) g1
      have k1 := cell_of (o := 1) g1
      exact bodyPost_ret (v := .tuple #[.agg #[.slice xa l.length xc, .int .i64 pos], .slice none 0 0, .int .i64 3]) (by simp [results, Try.results105, go_sem, k0, k1]) rfl
        ⟨.slice none 0 0, by rw [E1.out, E3.out], (HXC.out.trans HX.out).mod g2 (fun q hq => by rw [hq]; omega), by rw [E2.out]; exact World.ownsRow_nil _ _ _ _⟩
    · have e1 : Hd.rE (nm, fs) l pos = 0 := by unfold Hd.rE; rw [if_pos HC.out, if_neg hsh]
      have e2 : Hd.rV (nm, fs) l pos = Hd.vals l (Hd.wds fs) pos := by unfold Hd.rV; rw [e1]; rfl
      have e3 : Hd.rP (nm, fs) l pos = pos + (Hd.tot (Hd.wds fs)).toNat := by unfold Hd.rP; rw [e1]; rfl
      have E1 := Lib.hid e1
      have E2 := Lib.hid e2
      have E3 := Lib.hid e3
      have hroom : Hd.tot (Hd.wds fs) ≤ 8 * (l.length : Int) - pos := by omega
      clear e1 e2 e3 hsh hb0 hb1 hb2
      go_wp2_with fail
      clear c0 c1 c2 c3
      go_loopw [8, 9] (fun o i wr => ∃ (k q : Nat), k ≤ fs.length ∧ i = .int .i64 k ∧ Ext W wr ∧ wr.heap[W.heap.size]? = some (.cells #[.string nm, .slice fa fs.length fc] 72 (0, 0)) ∧ wr.heap[W.heap.size + 1]? = some (.cells #[.slice xa l.length xc, .int .i64 q] 124 (0, 0))
        ∧ wr.heap[W.heap.size + 1 + 1]? = some (.cells #[.slice none 0 0, .int .i64 0] 124 (0, 0)) ∧ (q : Int) = pos + Hd.tot (Hd.wds (fs.take k)) ∧ wr.ownsRow W.heap.size 64 1 o k (u32s (Hd.vals l (Hd.wds (fs.take k)) pos)) ∧ W.heap.size + 3 ≤ wr.heap.size) (fun _ i _ => fs.length - (intOf i).toNat)
      case atStart => exact ⟨0, pos, Nat.zero_le _, rfl, HXC.out.trans HX.out, K0.out, K1.out, K2.out, by simp [Hd.wds, Hd.tot], World.ownsRow_nil _ _ _ _, by have := lt_of_block K2.out; omega⟩
      case round =>
        obtain ⟨k, q, hk, rfl, hx, hb0, hb1, hb2, hq, ho, hle⟩ := hrel
        obtain ⟨wo, rfl⟩ : ∃ wo : World, wo = wr := ⟨_, rfl⟩
        obtain ⟨oo, co, rfl⟩ := own_slice ho
        have HX1 := Lib.hid hx
        have HO1 := Lib.hid ho
        have HQ := Lib.hid hq
        have K0 := Lib.hid hb0
        have K1 := Lib.hid hb1
        have K2 := Lib.hid hb2
        have d1 : wo.cell? ⟨W.heap.size, 1, none⟩ = some (.slice fa fs.length fc) := cell_of hb0
        have d2 : wo.cell? ⟨W.heap.size + 1, 0, none⟩ = some (.slice xa l.length xc) := cell_of hb1
        have d3 : wo.cell? ⟨W.heap.size + 1, 1, none⟩ = some (.int .i64 q) := cell_of hb1
        by_cases hlt : k < fs.length
        · obtain ⟨⟨nk, x⟩, hxk⟩ : ∃ x, fs[k]? = some x := ⟨_, List.getElem?_eq_getElem hlt⟩
          obtain ⟨b, o, hoa, _, _⟩ := Rows.at HS.out (by omega)
          subst hoa
          obtain ⟨f0, f1, hns, hx1, hx2⟩ := flds_at (Hd.Flds.ext HS.out HX1.out) k nk x hxk rfl
          have d4 := f1 wo
          have hxb := HWD.out.at hxk
          have hws := Hd.wds_step hxk
          have hmono := Hd.tot_mono HWD.out (k + 1)
          rw [hws, Hd.tot_snoc] at hmono
          have hrd : Io.rdE l q x = 0 := Hd.rdE_fits hxb.1 hxb.2 (by omega)
          have hrv : Io.rdV l q x = Io.val l q x.toNat := by unfold Io.rdV; rw [if_pos hrd]
          have hrp : Io.rdP l q x = q + x.toNat := by unfold Io.rdP; rw [if_pos hrd]
          have hvs := Hd.vals_snoc l (Hd.wds (fs.take k)) x pos (HWD.out.take k)
          have htk := Hd.tot_bd (HWD.out.take k)
          rw [show pos + (Hd.tot (Hd.wds (fs.take k))).toNat = q by omega] at hvs
          have HWS := Lib.hid hws
          have HVS := Lib.hid hvs
          have HRD := Lib.hid hrd
          have HRV := Lib.hid hrv
          obtain ⟨r, hr⟩ : ∃ r : Nat, r = q + x.toNat := ⟨_, rfl⟩
          rw [← hr] at hrp
          have HRR := Lib.hid hr
          have HRP := Lib.hid hrp
          have hv := Io.rdV_bd l q x
          rw [hrv] at hv
          have hql : q ≤ 8 * l.length := by omega
          have D1 := Lib.hid d1
          have D2 := Lib.hid d2
          have D3 := Lib.hid d3
          have D4 := Lib.hid d4
          have n1 := World.new_ne wo _ d1
          have n2 := World.new_ne wo _ d2
          have n4 := World.new_ne wo _ d4
          clear hxk hws hmono hrd hrv hrp hr hvs htk hq f0 f1 hx hb0 hb1 hb2 ho
          go_wp2_with fail
          go_cut [10, 11, 12] (fun s t u wx => ∃ B2 : Nat, s = .pointer (some ⟨B2, 0, none⟩) ∧ t = .int .u32 (Io.val l q x.toNat) ∧ u = .int .i64 0 ∧ Ext wo wx ∧ wo.heap.size ≤ B2
            ∧ wx.heap[B2]? = some (.cells #[.slice xa l.length xc, .int .i64 (r : Int)] 124 (0, 0)))
          case first =>
            go_region_held3 (fun w' => w'.cell? ⟨W.heap.size, 1, none⟩ = some (.slice (some ⟨b, o, none⟩) fs.length fc) ∧ w'.cell? ⟨W.heap.size + 1, 0, none⟩ = some (.slice xa l.length xc) ∧ w'.cell? ⟨W.heap.size + 1, 1, none⟩ = some (.int .i64 q) ∧ w'.cell? ⟨b, o + k * 2 + 1, none⟩ = some (.int .i64 x)) (go_keep)
              (first | (go_at_call 116; refine (rReadBits_any _ ((own_src (own_ext HO.out HX1.out) (u8s_one _)).ext (by first | exact (Ext.refl _).drew | exact ((Ext.refl _).drew).alloc _)) HBY.out (by omega) hql).mono ?_; rintro e w5 ⟨rfl, hy⟩; rw [HRD.out, HRV.out, HRP.out]; have hz : Ext wo w5 := (by first | exact ((Ext.refl wo).drew).trans hy | exact (((Ext.refl wo).drew).alloc _).trans hy); have q0 := hz.cell D1.out; have q1 := hz.cell D2.out; have q2 := hz.cell D3.out; have q8 := hz.cell D4.out; try (have q3 : w5.heap[wo.heap.size]? = some (.cells #[.slice none 0 0, .int .i64 0] 124 (0, 0)) := hy.heap (alloc_heap wo.drew (.cells #[.slice none 0 0, .int .i64 0] 124)); have q4 : w5.cell? ⟨wo.heap.size, 0, none⟩ = some (.slice none 0 0) := cell_of q3; have q5 : w5.cell? ⟨wo.heap.size, 1, none⟩ = some (.int .i64 0) := cell_of q3; have q6 : w5.frozen? ⟨wo.heap.size, 0, none⟩ = false := free_of q3; have q7 : w5.frozen? ⟨wo.heap.size, 1, none⟩ = false := free_of q3)))
            all_goals (try go_wp2_with fail)
            all_goals go_meet
            · exact ⟨w5.heap.size, rfl, rfl, rfl, hz.alloc _, hz.le, alloc_heap _ _⟩
            · obtain ⟨g1, g2⟩ := set2 (a' := .slice xa l.length xc) (b' := .int .i64 (r : Int)) q3
              exact ⟨wo.heap.size, rfl, rfl, rfl, hz.mod g2 (fun q hq => by rw [hq]; exact Nat.le_refl _), Nat.le_refl _, g1⟩
          case rest =>
            obtain ⟨B2, rfl, rfl, rfl, hx5, hB2, b5⟩ := hcut
            have hx6 := HX1.out.trans hx5
            have hb0 := hx5.heap K0.out
            have hb1 := hx5.heap K1.out
            have hb2 := hx5.heap K2.out
            have k0 : wc.cell? ⟨B2, 0, none⟩ = some (.slice xa l.length xc) := cell_of b5
            have k1 : wc.cell? ⟨B2, 1, none⟩ = some (.int .i64 r) := cell_of b5
            have k4 : wc.cell? ⟨W.heap.size + 1, 0, none⟩ = some (.slice xa l.length xc) := cell_of hb1
            have k5 : wc.cell? ⟨W.heap.size + 1, 1, none⟩ = some (.int .i64 q) := cell_of hb1
            have k6 : wc.frozen? ⟨W.heap.size + 1, 0, none⟩ = false := free_of hb1
            have k7 : wc.frozen? ⟨W.heap.size + 1, 1, none⟩ = false := free_of hb1
            obtain ⟨g1, g2⟩ := set2 (a' := .slice xa l.length xc) (b' := .int .i64 (r : Int)) hb1
            obtain ⟨wm, hwm⟩ : ∃ wm, wm = ((wc.setCell ⟨W.heap.size + 1, 0, none⟩ (.slice xa l.length xc)).setCell ⟨W.heap.size + 1, 1, none⟩ (.int .i64 (r : Int))) := ⟨_, rfl⟩
            rw [← hwm] at g1 g2
            have hxm := hx6.mod g2 (fun q hq => by rw [hq]; omega)
            have hm0 := g2.heap hb0 (by omega)
            have hm2 := g2.heap hb2 (by omega)
            have hom := own_mod (own_ext HO1.out hx5) g2 (own_not (own_ext HO1.out hx5) hb1 (by decide))
            have hlm := g2.size
            have hl5 := hx5.le
            have XM := Lib.hid hxm
            have M0 := Lib.hid hm0
            have M1 := Lib.hid g1
            have M2 := Lib.hid hm2
            have HWM := Lib.hid hwm
            have HS4 := Lib.hid (src_one wm (.int .u32 (Io.val l q x.toNat)) 64 rfl)
            have HO4 := Lib.hid (own_ext hom ((Ext.refl wm).alloc (.cells #[.int .u32 (Io.val l q x.toNat)] 64)))
            clear hx5 b5 hx6 hb0 hb1 hb2 g1 g2 hxm hm0 hm2 hom hwm d1 d2 d3 d4 D1 D2 D3 D4 n1 n2 n4
            go_upto_region 12 with (fail)
            rw [← HWM.out]
            go_wp2_with (at_builtin; refine wpList_append_fresh rfl (.tmp 47) (.tmp 49) 34 rfl W.heap.size 64 (.int .u32 0) 1 4 Try.underlying34 info_u32 rfl (by decide) _ k (u32s (Hd.vals l (Hd.wds (fs.take k)) pos)) rfl HO4.out _ 1 [.int .u32 (Io.val l q x.toNat)] rfl HS4.out ?d1 ?d2 ?d3 ?_)
            case d1 => unfold maxLen; omega
            case d2 => omega
            case d3 => (try simp); omega
            intro v' w' hown hgr _
            have hnr : ∀ {B : Nat} {cs : Array Value} {t : TypeId}, t ≠ 64 → wm.heap[B]? = some (.cells cs t (0, 0)) → w'.heap[B]? = some (.cells cs t (0, 0)) := fun ht hb =>
              (grown_mod hgr).heap (((Ext.refl wm).alloc _).heap hb) (fun e1 => by
                obtain ⟨cur, hc⟩ := own_type HO4.out e1.symm
                exact ne_of_type hc (((Ext.refl wm).alloc (.cells #[.int .u32 (Io.val l q x.toNat)] 64)).heap hb) (Ne.symm ht) rfl)
            have hx7 := (XM.out.alloc (.cells #[.int .u32 (Io.val l q x.toNat)] 64)).mod (grown_mod hgr) (fun g hg => (HO4.out.lt g hg.symm).1)
            have Z0 := Lib.hid (hnr (by decide) M0.out)
            have Z1 := Lib.hid (hnr (by decide) M1.out)
            have Z2 := Lib.hid (hnr (by decide) M2.out)
            have X7 := Lib.hid hx7
            have HA7 := Lib.hid hown
            have hl7 := hgr.size
            rw [World.size_alloc] at hl7
            clear hnr hx7 hown hgr
            go_wp2
            go_roundw
            case rel =>
              refine ⟨k + 1, r, by omega, by go_num, X7.out, Z0.out, Z1.out, Z2.out, ?_, ?_, by omega⟩
              · rw [HWS.out, Hd.tot_snoc]; have := HQ.out; have := HRR.out; omega
              · rw [HWS.out, HVS.out]; simpa [u32s] using HA7.out
            case measure => simp [intOf]; omega
        · obtain rfl : k = fs.length := by omega
          have ho2 := HO1.out
          have hq2 := HQ.out
          rw [List.take_length] at ho2 hq2
          have HO2 := Lib.hid ho2
          have hqe : pos + (Hd.tot (Hd.wds fs)).toNat = q := by omega
          have HQE := Lib.hid hqe
          have p0 : wo.cell? ⟨W.heap.size + 1 + 1, 0, none⟩ = some (.slice none 0 0) := cell_of hb2
          have p1 : wo.cell? ⟨W.heap.size + 1 + 1, 1, none⟩ = some (.int .i64 0) := cell_of hb2
          have p2 : wo.frozen? ⟨W.heap.size + 1 + 1, 0, none⟩ = false := free_of hb2
          have p3 : wo.frozen? ⟨W.heap.size + 1 + 1, 1, none⟩ = false := free_of hb2
          clear ho2 hq2 hq hqe hx hb0 hb1 hb2 ho
          go_wp2_with fail
          obtain ⟨g1, g2⟩ := set2 (a' := .slice xa l.length xc) (b' := .int .i64 q) K2.out
          have k0 := cell_of (o := 0) g1
          have k1 := cell_of (o := 1) g1
          exact bodyPost_ret (v := .tuple #[.agg #[.slice xa l.length xc, .int .i64 q], .slice oo fs.length co, .int .i64 0]) (by simp [results, Try.results105, go_sem, k0, k1]) rfl
            ⟨_, by rw [E1.out, E3.out, HQE.out], HX1.out.mod g2 (fun q hq => by rw [hq]; omega), by rw [E2.out, Hd.vals_len, Hd.wds_len]; exact own_mod HO2.out g2 (own_not HO2.out K2.out (by decide))⟩
  · have e1 : Hd.rE (nm, fs) l pos = Hd.chk (nm, fs) := by unfold Hd.rE; rw [if_neg hc]
    have e2 : Hd.rV (nm, fs) l pos = [] := by unfold Hd.rV; rw [e1, if_neg hc]
    have e3 : Hd.rP (nm, fs) l pos = pos := by unfold Hd.rP; rw [e1, if_neg hc]
    have hcb : (Hd.chk (nm, fs) != 0) = true := by simpa using hc
    have E1 := Lib.hid e1
    have E2 := Lib.hid e2
    have E3 := Lib.hid e3
    clear e1 e2 e3 hc
    go_enter Try.func105, Try.ntmps105
    go_upto_region 1 with (fail)
    rw [HWE.out]
    go_wp2_with fail
    refine (rhcheck_any (nm, fs) (Hd.Flds.ext HS.out HXC.out) hn).mono ?_
    rintro e w1 ⟨rfl, y1⟩
    have s1 : Step Wc w1 := ⟨y1⟩
    have hb2 := y1.heap HB2.out
    have K2 := Lib.hid hb2
    have d0 : w1.cell? ⟨W.heap.size + 1 + 1, 0, none⟩ = some (.slice none 0 0) := cell_of hb2
    have d1 : w1.cell? ⟨W.heap.size + 1 + 1, 1, none⟩ = some (.int .i64 0) := cell_of hb2
    have q0 : w1.frozen? ⟨W.heap.size + 1 + 1, 0, none⟩ = false := free_of hb2
    have q1 : w1.frozen? ⟨W.heap.size + 1 + 1, 1, none⟩ = false := free_of hb2
    clear hb2
    go_wp2_with fail
    obtain ⟨g1, g2⟩ := set2 (a' := .slice xa l.length xc) (b' := .int .i64 pos) K2.out
    have k0 := cell_of (o := 0) g1
    have k1 := cell_of (o := 1) g1
    exact bodyPost_ret (v := .tuple #[.agg #[.slice xa l.length xc, .int .i64 pos], .slice none 0 0, .int .i64 (Hd.chk (nm, fs))]) (by simp [results, Try.results105, go_sem, k0, k1]) rfl
      ⟨.slice none 0 0, by rw [E1.out, E3.out], (HXC.out.trans y1).mod g2 (fun q hq => by rw [hq]; omega), by rw [E2.out]; exact World.ownsRow_nil _ _ _ _⟩
end Go.Proofs.Ytonnlcjkgpahoaa
