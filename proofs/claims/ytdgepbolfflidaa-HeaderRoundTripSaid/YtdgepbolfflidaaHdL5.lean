/- Headers: the law of the round trip, walked. No condition. -/
import Derived.Test.YtdgepbolfflidaaHdL2
import Derived.Test.YtdgepbolfflidaaHdL3
import Derived.Test.YtdgepbolfflidaaHdR
import Derived.Test.YtdgepbolfflidaaStep
namespace Go.Proofs.Ytdgepbolfflidaa
open Go.RowKit

namespace Hd
theorem tot_ge {ns : List Int} (h : Wd ns) : (ns.length : Int) ≤ tot ns := by
  induction ns with
  | nil => simp [tot]
  | cons n ns ih =>
    have h1 := h n (by simp)
    have h2 := ih (fun m hm => h m (by simp [hm]))
    rw [tot_cons, List.length_cons]
    omega
theorem cut_len (vs ns : List Int) : (cut vs ns).length = ns.length := by simp [cut]
theorem cut_step {vs ns : List Int} {k : Nat} {x y : Int} (hx : vs[k]? = some x) (hy : ns[k]? = some y) : (cut vs ns).take (k + 1) = (cut vs ns).take k ++ [x / 2 ^ (32 - y.toNat)] := by
  have h1 := (List.getElem?_eq_some_iff.1 hy).1
  rw [List.take_add_one]
  congr 1
  have : (cut vs ns)[k]? = some (x / 2 ^ (32 - y.toNat)) := by
    have e : ns[k] = y := by rw [List.getElem?_eq_getElem h1] at hy; exact Option.some.inj hy
    simp [cut, h1, List.getD_eq_getElem?_getD, hx, e]
  rw [this]; rfl
end Hd

theorem row_cap {k : IntKind} {w : World} {a : Option Addr} {len cap : Nat} {zs : List Int} (h : IsRow k w a len cap zs) : len ≤ cap ∧ cap ≤ maxLen := by
  rcases h with ⟨rfl, rfl, rfl, rfl⟩ | ⟨x, rfl, h1, h2, h3, h4, h5⟩
  · exact ⟨Nat.le_refl _, Nat.zero_le _⟩
  · exact ⟨h1, h2⟩
theorem src_take {w : World} {b o n c : Nat} {l : List Int} (h : Src w (.slice (some ⟨b, o, none⟩) n c) 1 l.length (u8s l)) (hl : 0 < l.length) (q : Nat) (hq : q ≤ l.length) : Src w (.slice (some ⟨b, o, none⟩) q c) 1 (l.take q).length (u8s (l.take q)) := by
  obtain ⟨_, _, hc⟩ := h.at hl
  have hlen : (l.take q).length = q := by rw [List.length_take]; omega
  refine ⟨by rw [u8s_len, Nat.mul_one], u8s_one _, .inr ⟨⟨b, o, none⟩, c, by rw [hlen], fun j u hj => ?_⟩⟩
  rw [add_mk]
  refine hc j u ?_
  simp only [u8s, List.map_take, List.getElem?_take] at hj ⊢
  split at hj
  · exact hj
  · cases hj

set_option maxRecDepth 8000 in
set_option maxHeartbeats 2000000 in
theorem headerRoundTrip_walk (v0 : Value) (a1 : Option Addr) (n1 c1 : Nat) (z1 : List Int) (a2 : Option Addr) (n2 c2 : Nat) (z2 : List Int) (W : World) {b0 : Nat} {r0 : Reach} {H : Type} {enc : TypeId × Value → H} {d0 : DataW H} {p0 : List MemPlace}
    (ok0 : Value.okWide Try.prog W r0 b0 24 v0) (h0 : DataW.Trod enc Try.prog W 0 (fun _ => true) true 24 v0 d0 p0)
    (r1 : IsRow .u32 W a1 n1 c1 z1) (r2 : IsRow .u8 W a2 n2 c2 z2) :
    Calls Try.prog 11 #[v0, .slice a1 n1 c1, .slice a2 n2 c2] W (Rets W (.bool true)) := by
  obtain ⟨⟨nm, fs⟩, u, rfl, hnm, hfl⟩ := hdr_take ok0 h0
  obtain ⟨vs, rfl, hv, sv, bv⟩ := row_take r1
  obtain ⟨hcap, hcap2⟩ := row_cap r2
  obtain ⟨l, rfl, hl, sl, bl⟩ := row_take r2
  have hvb : ∀ x ∈ vs, 0 ≤ x ∧ x < 4294967296 := fun x hx => by have := bounds_u32 (bv x hx); omega
  have hby : Io.Bytes l := wf_any bl
  clear ok0 h0 r1 r2 bv bl
  dsimp only at hnm hfl ⊢
  obtain ⟨fa, fc, rfl, hlc, hcm⟩ := hfl.slice
  unfold maxLen at hcm hl hv hcap2
  have HF := Lib.hid hfl
  have SV := Lib.hid sv
  have SL := Lib.hid sl
  have HVB := Lib.hid hvb
  have HBY := Lib.hid hby
  clear hfl sv sl hvb hby
  have hbb := alloc_heap W (.cells #[.string nm, .slice fa fs.length fc] 24)
  have HBB := Lib.hid hbb
  have c0 := alw (cell_of (o := 0) hbb)
  have c1' := alw (cell_of (o := 1) hbb)
  clear hbb
  obtain ⟨sm, hsm⟩ : ∃ sm, sm = Hd.small (nm, fs) := ⟨_, rfl⟩
  have HSM := Lib.hid hsm
  clear hsm
  by_cases hgo : sm = true ∧ vs.length ≤ 30 ∧ l.length ≤ 100 ∧ Hd.chk (nm, fs) = 0 ∧ fs.length ≤ vs.length
  · obtain ⟨rfl, h30, h100, hc, hle⟩ := hgo
    obtain ⟨k1, k2, k3, k4, k5⟩ := Hd.chk_ok hc
    dsimp only at k2 k3 k4 k5
    have htb := Hd.tot_bd k4
    rw [Hd.wds_len] at htb
    have HC := Lib.hid hc
    have HWD := Lib.hid k4
    have hbt : Hd.bts (nm, fs) = Hd.tot (Hd.wds fs) := by unfold Hd.bts; rw [if_pos hc]
    have HBT := Lib.hid hbt
    have hfit := Hd.cut_fit HVB.out k4 (by rw [Hd.wds_len]; exact hle)
    obtain ⟨t1, t2, t3, t4, t5, t6⟩ := Hd.trip (h := (nm, fs)) hc hfit
    have hxnn : ∀ x ∈ Hd.cut vs (Hd.wds fs), 0 ≤ x ∧ x < 4294967296 := by
      intro x hx
      simp only [Hd.cut, List.mem_map, List.mem_range] at hx
      obtain ⟨i, hi, rfl⟩ := hx
      rw [Hd.wds_len] at hi
      have h1 := HVB.out (vs[i]'(by omega)) (List.getElem_mem _)
      have hi2 : i < vs.length := by omega
      have e : vs.getD i 0 = vs[i] := by simp [hi2]
      rw [e]
      have hp : (0 : Int) < 2 ^ (32 - ((Hd.wds fs).getD i 0).toNat) := Int.pow_pos (by decide)
      exact ⟨Int.ediv_nonneg h1.1 (by omega), by have := Int.ediv_le_self (2 ^ (32 - ((Hd.wds fs).getD i 0).toNat)) h1.1; omega⟩
    have T1 := Lib.hid t1
    have T2 := Lib.hid t2
    have T3 := Lib.hid t3
    have T4 := Lib.hid t4
    have T5 := Lib.hid t5
    have T6 := Lib.hid t6
    have HXN := Lib.hid hxnn
    have hxl : (Hd.cut vs (Hd.wds fs)).length = fs.length := by rw [Hd.cut_len, Hd.wds_len]
    have HXL := Lib.hid hxl
    clear hc k1 k4 k5 hbt hfit t1 t2 t3 t4 t5 t6 hxnn hxl
    have hd1 : decide (vs.length < fs.length) = false := by simp; omega
    have hd2 : decide ((30 : Int) < (vs.length : Int)) = false := by simp; omega
    have hd3 : decide ((100 : Int) < (l.length : Int)) = false := by simp; omega
    go_enter Try.func11, Try.ntmps11
    go_wp2_with fail
    refine (rsmall_any (nm, fs) (Hd.Flds.ext HF.out grows) hnm).mono ?_
    rintro e w1 ⟨rfl, x1⟩
    rw [← HSM.out]
    have s1 : Step (W.alloc (.cells #[.string nm, .slice fa fs.length fc] 24)) w1 := ⟨x1⟩
    go_wp2_with fail
    refine (rhcheck_any (nm, fs) (Hd.Flds.ext HF.out grows) hnm).mono ?_
    rintro e w2 ⟨rfl, x2⟩
    rw [HC.out]
    have s2 : Step w1 w2 := ⟨x2⟩
    have hle2 : W.heap.size + 1 ≤ w2.heap.size := by have := grows_le (a := W.alloc (.cells #[.string nm, .slice fa fs.length fc] 24)) (b := w2); simpa using this
    clear x1 x2
    go_wp2_with fail
    go_loopw [7, 8] (fun o i wr => ∃ k : Nat, k ≤ fs.length ∧ i = .int .i64 k ∧ Ext w2 wr ∧ wr.ownsRow w2.heap.size 39 1 o k (u32s ((Hd.cut vs (Hd.wds fs)).take k))) (fun _ i _ => fs.length - (intOf i).toNat)
    case atStart => exact ⟨0, Nat.zero_le _, rfl, Ext.refl _, World.ownsRow_nil _ _ _ _⟩
    case round =>
      obtain ⟨k, hk, rfl, hx, ho⟩ := hrel
      obtain ⟨wo, rfl⟩ : ∃ wo : World, wo = wr := ⟨_, rfl⟩
      obtain ⟨oo, co, rfl⟩ := own_slice ho
      have so : Step w2 wo := ⟨hx⟩
      have HX := Lib.hid hx
      have HO := Lib.hid ho
      have hlo := hx.le
      clear hx ho
      by_cases hlt : k < fs.length
      · obtain ⟨⟨nk, y⟩, hyk⟩ : ∃ x, fs[k]? = some x := ⟨_, List.getElem?_eq_getElem hlt⟩
        obtain ⟨x, hxk⟩ : ∃ x, vs[k]? = some x := ⟨_, List.getElem?_eq_getElem (by omega)⟩
        obtain ⟨b, o, hoa, _, _⟩ := Rows.at HF.out (by omega)
        subst hoa
        obtain ⟨f0, f1, hns, hx1, hx2⟩ := flds_at (Hd.Flds.ext HF.out (grows (a := W) (b := wo))) k nk y hyk rfl
        have hyb := HWD.out.at hyk
        obtain ⟨d, rfl⟩ := Int.eq_ofNat_of_zero_le (show 0 ≤ y by omega)
        have hyw : (Hd.wds fs)[k]? = some (d : Int) := by unfold Hd.wds; rw [List.getElem?_map, hyk]; rfl
        have hst := Hd.cut_step hxk hyw
        rw [Int.toNat_natCast] at hst
        obtain ⟨sh, hsh⟩ : ∃ sh, sh = 32 - d := ⟨_, rfl⟩
        rw [← hsh] at hst
        have hshw : IntKind.i64.wrap (sh : Int) = (sh : Int) := IntWalk.i64_in _ (by omega)
        have hshe : ((32 : Int) - (d : Int)) = (sh : Int) := by omega
        have hsh32 : sh < 32 := by omega
        have HST := Lib.hid hst
        have hxb := HVB.out x (List.mem_of_getElem? hxk)
        have hdb : 1 ≤ d ∧ d ≤ 32 := by omega
        cases a1 with
        | none =>
          rcases SV.out.2.2 with ⟨_, h0⟩ | ⟨_, _, h0, _⟩
          · omega
          · simp at h0
        | some ad =>
        obtain ⟨ea, _, ca⟩ := SV.out.at (by omega)
        obtain ⟨ab, ao, asp⟩ := ad
        simp only [Addr.mk.injEq, true_and] at ea
        subst ea
        dsimp only at ca
        have P0 := Lib.hid (c1' w2)
        have P1 := Lib.hid ((Hd.Flds.ext HF.out (grows (a := W) (b := w2))) |> fun hf => (flds_at hf k nk d hyk rfl).2.1 w2)
        have P2 : Hid (w2.cell? ⟨ab, ao + k, none⟩ = some (.int .u32 x)) := Lib.hid ((grows (a := W) (b := w2)).cell (ca k _ (u32s_get hxk)))
        have q0 := c1' wo
        have q1 := f1 wo
        have q2 : wo.cell? ⟨ab, ao + k, none⟩ = some (.int .u32 x) := (grows (a := W) (b := wo)).cell (ca k _ (u32s_get hxk))
        have Q0 := Lib.hid q0
        have Q1 := Lib.hid q1
        have Q2 := Lib.hid q2
        have n0 := World.new_ne wo _ q0
        have n1 := World.new_ne wo _ q1
        have n2 := World.new_ne wo _ q2
        have HO1 := Lib.hid (own_ext HO.out (((Ext.refl wo).alloc (.cells #[.int .u32 (x / 2 ^ sh)] 39)).drew))
        have HS1 := Lib.hid ((src_one wo (.int .u32 (x / 2 ^ sh)) 39 rfl).ext ((Ext.refl _).drew))
        have hklt : k < vs.length := by omega
        clear hyk hxk hyw hst hsh ca f0 f1
        go_wp2_with fail
        go_region_held3 (fun w' => w'.cell? ⟨W.heap.size, 1, none⟩ = some (.slice (some ⟨b, o, none⟩) fs.length fc) ∧ w'.cell? ⟨b, o + k * 2 + 1, none⟩ = some (.int .i64 d) ∧ w'.cell? ⟨ab, ao + k, none⟩ = some (.int .u32 x)) (go_keep)
          ((refine step_append_fresh (by rfl) (.tmp 55) (.tmp 68) 44 (by rfl) w2.heap.size 39 (.int .u32 0) 1 4 Try.underlying44 info_u32 (by rfl) (by decide) _ k (u32s ((Hd.cut vs (Hd.wds fs)).take k)) (by rfl) HO1.out _ 1 [.int .u32 (x / 2 ^ sh)] (by rfl) HS1.out (by decide) (by unfold maxLen; omega) (by omega) (by simp; omega) ?_; intro v' w' hown hgr; have hx6 : Ext w2 w' := Ext.mod (HX.out.trans (((Ext.refl wo).alloc (.cells #[.int .u32 (x / 2 ^ sh)] 39)).drew)) (grown_mod hgr) (fun q hq => (HO1.out.lt q hq.symm).1); have z0 := hx6.cell P0.out; have z1 := hx6.cell P1.out; have z2 := hx6.cell P2.out; have HA := Lib.hid hown; have HX6 := Lib.hid hx6; clear hown hgr hx6))
        all_goals
          go_wp2_with fail
          go_roundw
          case rel => exact ⟨k + 1, by omega, by go_num, HX6.out, by rw [HST.out]; simpa [u32s] using HA.out⟩
          case measure => simp [intOf]; omega
      · obtain rfl : k = fs.length := by omega
        have ho := HO.out
        rw [List.take_of_length_le (by rw [HXL.out]; exact Nat.le_refl _)] at ho
        obtain ⟨xs, hxs⟩ : ∃ xs, xs = Hd.cut vs (Hd.wds fs) := ⟨_, rfl⟩
        rw [← hxs] at ho T1 T2 T3 T4 T5 T6 HXN HXL
        have SX := Lib.hid (own_src ho (u32s_one _))
        have hxl : xs.length = fs.length := HXL.out
        have E1 := Lib.hid hxl
        clear ho hxs hxl
        have X0 := Lib.hid (grows (a := W) (b := wo))
        have hlw : W.heap.size + 1 ≤ wo.heap.size := by omega
        have sx2 : Hid (Src wo (.slice oo fs.length co) 1 xs.length (u32s xs)) := Lib.hid (by rw [E1.out]; have := SX.out; exact this)
        go_wp2_with fail
        refine (newWriter_any _).mono ?_
        rintro e w3 ⟨p, rfl, x3, hw⟩
        have s3 : Step wo w3 := ⟨x3⟩
        have hpl : wo.heap.size ≤ p := hw.raw.le
        have HW := Lib.hid hw
        have X3 := Lib.hid x3
        clear hw x3
        go_wp2_with fail
        refine (hwrite_any (L := []) HW.out (nm, fs) (vs := xs) (fun w' hm => by
          have hx : Ext wo w' := X3.out.mod hm HW.out.foot
          exact ⟨Hd.Flds.ext HF.out (X0.out.trans hx), sx2.out.ext hx⟩) hnm (by simp) (fun x hx => (HXN.out x hx).1) (by rw [E1.out]; omega)).mono ?_
        rintro e w4 ⟨rfl, oa4, n4, c4, m4, k4, i4⟩
        rw [T1.out]
        rw [T2.out] at k4
        have x4 := X3.out.mod m4 HW.out.foot
        have s4 : Step wo w4 := ⟨x4⟩
        have K4 := Lib.hid k4
        have hle4 := x4.le
        clear m4 k4 i4 x4
        obtain ⟨L, hL⟩ : ∃ L, L = Hd.bitsAll xs (Hd.wds fs) := ⟨_, rfl⟩
        rw [← hL] at K4 T3 T4 T5 T6
        have e8 : Io.byE L = 0 := by unfold Io.byE; rw [if_pos T3.out]
        have e9 : Io.byL L = Io.pack L := by unfold Io.byL; rw [if_pos T3.out]
        have hpl4 := T4.out
        rw [Io.pack_len] at hpl4
        have hLs : L.length ≤ 1000 := by omega
        have E8 := Lib.hid e8
        have E9 := Lib.hid e9
        have HPB := Lib.hid (Io.pack_bytes K4.out.bits)
        clear hL e8 e9 hpl4
        go_wp2_with fail
        refine (bytes_any K4.out (by omega)).mono ?_
        rintro e w5 ⟨u5, rfl, x5, o5⟩
        rw [E8.out]
        rw [E9.out] at o5
        have s5 : Step w4 w5 := ⟨x5⟩
        obtain ⟨cb, hcb⟩ : ∃ cb, cb = Io.pack L := ⟨_, rfl⟩
        rw [← hcb] at o5 T4 T5 T6 HPB
        have S5 := Lib.hid (own_src o5 (u8s_one _))
        obtain ⟨u5a, u5c, rfl⟩ := own_slice o5
        have hcl : ((cb.length : Int) != Hd.tot (Hd.wds fs) / 8) = false := by rw [T4.out]; simp
        have hcbl : cb.length ≤ 1000 := by have := T4.out; omega
        have q0 := c0 w5
        have q1 := c1' w5
        have n0 := World.new_ne w5 _ q0
        have n1 := World.new_ne w5 _ q1
        have XW5 := Lib.hid (grows (a := W) (b := w5))
        clear o5 x5 hcb
        go_wp2_with fail
        go_cut [13, 14] (fun v e wx => ∃ (oa : Option Addr) (c : Nat), v = .slice oa xs.length c ∧ e = .int .i64 0 ∧ Ext w5 wx ∧ Src wx (.slice oa xs.length c) 1 xs.length (u32s xs))
        case first =>
          go_region_held3 (fun w' => w'.cell? ⟨W.heap.size, 0, none⟩ = some (.string nm) ∧ w'.cell? ⟨W.heap.size, 1, none⟩ = some (.slice fa fs.length fc)) (go_keep)
            (first
              | (go_at_call 22; refine (newReader_any _ cb _ (S5.out.ext ((Ext.refl _).drew)) HPB.out (by omega)).mono ?_; rintro e w6 ⟨pr, ra, rn, rc, rfl, hy, hr⟩; have hz : Ext w5 w6 := ((Ext.refl w5).drew).trans hy; have HR := Lib.hid hr; have hpz : w5.heap.size ≤ pr := Nat.le_trans (by simp) hr.le; clear hr; have z0 := hz.cell q0; have z1 := hz.cell q1)
              | (go_at_call 26; refine (hread_any HR.out (nm, fs) (fun w' hm => Hd.Flds.ext HF.out (XW5.out.trans (hz.mod hm (fun q hq => by rw [hq]; exact hpz)))) hnm (by omega)).mono ?_; rintro e w7 ⟨u7, rfl, m7, r7, o7⟩; rw [T5.out]; rw [T6.out] at o7; have hz7 : Ext w5 w7 := hz.mod m7 (fun q hq => by rw [hq]; exact hpz); have z2 := hz7.cell q0; have z3 := hz7.cell q1; obtain ⟨oa7, c7, rfl⟩ := own_slice o7; have HO7 := Lib.hid o7; clear o7 r7 m7))
          all_goals (try go_wp2_with fail)
          all_goals go_meet
          exact ⟨oa7, c7, rfl, rfl, hz7, own_src HO7.out (u32s_one _)⟩
        case rest =>
          obtain ⟨oa7, c7, rfl, rfl, hx7, hsr⟩ := hcut
          have s7 : Step w5 wc := ⟨hx7⟩
          have S7 := Lib.hid hsr
          clear hsr q0 q1 n0 n1
          go_wp2_with fail
          refine (hbits_any (nm, fs) (Hd.Flds.ext HF.out (grows (a := W) (b := wc))) hnm).mono ?_
          rintro e w8 ⟨rfl, x8⟩
          rw [HBT.out]
          have s8 : Step wc w8 := ⟨x8⟩
          go_wp2_with fail
          refine (eqU_same (S7.out.ext (grows (a := wc) (b := w8))) (sx2.out.ext (grows (a := wo) (b := w8))) (by rw [E1.out]; omega)).mono ?_
          rintro e w9 ⟨rfl, x9⟩
          have s9 : Step w8 w9 := ⟨x9⟩
          have q0 := c0 w9
          have q1 := c1' w9
          have n0 := World.new_ne w9 _ q0
          have n1 := World.new_ne w9 _ q1
          have XW9 := Lib.hid (grows (a := W) (b := w9))
          have hrl := Hd.rV_len (nm, fs) l 0
          clear x8 x9
          go_wp2_with fail
          go_cut [15, 16] (fun v e wx => ∃ (oa : Option Addr) (c : Nat), v = .slice oa (Hd.rV (nm, fs) l 0).length c ∧ e = .int .i64 (Hd.rE (nm, fs) l 0) ∧ Ext w9 wx ∧ Src wx (.slice oa (Hd.rV (nm, fs) l 0).length c) 1 (Hd.rV (nm, fs) l 0).length (u32s (Hd.rV (nm, fs) l 0)))
          case first =>
            go_region_held3 (fun w' => w'.cell? ⟨W.heap.size, 0, none⟩ = some (.string nm) ∧ w'.cell? ⟨W.heap.size, 1, none⟩ = some (.slice fa fs.length fc)) (go_keep)
              (first
                | (go_at_call 22; refine (newReader_any _ l _ (SL.out.ext (XW9.out.trans ((Ext.refl _).drew))) HBY.out (by omega)).mono ?_; rintro e w6 ⟨pr, ra, rn, rc, rfl, hy, hr⟩; have hz : Ext w9 w6 := ((Ext.refl w9).drew).trans hy; have HR := Lib.hid hr; have hpz : w9.heap.size ≤ pr := Nat.le_trans (by simp) hr.le; clear hr; have z0 := hz.cell q0; have z1 := hz.cell q1)
                | (go_at_call 26; refine (hread_any HR.out (nm, fs) (fun w' hm => Hd.Flds.ext HF.out (XW9.out.trans (hz.mod hm (fun q hq => by rw [hq]; exact hpz)))) hnm (by omega)).mono ?_; rintro e w7 ⟨u7, rfl, m7, r7, o7⟩; have hz7 : Ext w9 w7 := hz.mod m7 (fun q hq => by rw [hq]; exact hpz); have z2 := hz7.cell q0; have z3 := hz7.cell q1; obtain ⟨oa7', c7', rfl⟩ := own_slice o7; have HO7 := Lib.hid o7; clear o7 r7 m7))
            all_goals (try go_wp2_with fail)
            all_goals go_meet
            exact ⟨oa7', c7', rfl, rfl, hz7, own_src HO7.out (u32s_one _)⟩
          case rest =>
            obtain ⟨oy, cy, rfl, rfl, hxa, hsy⟩ := hcut
            have sa : Step w9 wc := ⟨hxa⟩
            have SY := Lib.hid hsy
            clear hsy q0 q1 n0 n1 hxa
            by_cases hsh : 8 * (l.length : Int) < Hd.tot (Hd.wds fs)
            · have g1 : Hd.rE (nm, fs) l 0 = 3 := by unfold Hd.rE; rw [if_pos HC.out, if_pos (by dsimp only; omega)]
              have g2 : Hd.rV (nm, fs) l 0 = [] := by unfold Hd.rV; rw [g1]; rfl
              rw [g1, g2]
              clear g1 g2 SY
              go_wp2_with fail
              refine (hbits_any (nm, fs) (Hd.Flds.ext HF.out (grows (a := W) (b := wc))) hnm).mono ?_
              rintro e wb ⟨rfl, xb⟩
              rw [HBT.out]
              have sb : Step wc wb := ⟨xb⟩
              go_wp2_with (go_at_call 15; refine (hworks_any _).mono ?_; rintro e wd ⟨rfl, xd⟩; have sd : Step wb wd := ⟨xd⟩)
              go_ret
              exact ⟨rfl, grows⟩
            · have hsh2 : Hd.tot (Hd.wds fs) ≤ 8 * (l.length : Int) := by omega
              obtain ⟨q, hq1, hq2, g1, g2, g3, g4, g5⟩ := Hd.again (h := (nm, fs)) HC.out HBY.out hsh2
              have hwll : (Hd.wL (nm, fs) (Hd.rV (nm, fs) l 0) []).length ≤ 384 := by have := Hd.wL_len (nm, fs) (Hd.rV (nm, fs) l 0) []; simpa using this
              have G2 := Lib.hid g2
              have G3 := Lib.hid g3
              have G4 := Lib.hid g4
              have G5 := Lib.hid g5
              rw [g1]
              clear g1 g2 g3 g4 g5 hsh hq1
              go_wp2_with fail
              refine (hbits_any (nm, fs) (Hd.Flds.ext HF.out (grows (a := W) (b := wc))) hnm).mono ?_
              rintro e wb ⟨rfl, xb⟩
              rw [HBT.out]
              have sb : Step wc wb := ⟨xb⟩
              go_wp2_with fail
              refine (newWriter_any _).mono ?_
              rintro e wd ⟨pz, rfl, xd, hwz⟩
              have hpz : wb.heap.size ≤ pz := hwz.raw.le
              have HWZ := Lib.hid hwz
              have XB := Lib.hid (grows (a := W) (b := wb))
              have SY2 := Lib.hid (SY.out.ext (grows (a := wc) (b := wb)))
              have XD := Lib.hid xd
              have sd : Step wb wd := ⟨xd⟩
              clear hwz xd xb
              go_wp2_with fail
              refine (hwrite_any (L := []) HWZ.out (nm, fs) (vs := Hd.rV (nm, fs) l 0) (fun w' hm => by
                have hx : Ext wb w' := XD.out.mod hm HWZ.out.foot
                exact ⟨Hd.Flds.ext HF.out (XB.out.trans hx), SY2.out.ext hx⟩) hnm (by simp) G2.out (by omega)).mono ?_
              rintro e wf ⟨rfl, oaf, nf, cf, mf, kf, jf⟩
              rw [G3.out]
              have hxf := XD.out.mod mf HWZ.out.foot
              have sf : Step wb wf := ⟨hxf⟩
              have KF := Lib.hid kf
              clear mf kf jf hxf
              go_wp2_with fail
              refine (bytes_any KF.out (by omega)).mono ?_
              rintro e wg ⟨ug, rfl, xg, og⟩
              rw [G4.out]
              rw [G5.out] at og
              have sg : Step wf wg := ⟨xg⟩
              have PG := Lib.hid (own_src og (u8s_one _))
              have hlq : (l.take q).length = q := by rw [List.length_take]; omega
              rw [hlq] at og
              obtain ⟨uga, ugc, rfl⟩ := own_slice og
              have hlp : 0 < l.length := by have := Hd.tot_ge HWD.out; rw [Hd.wds_len] at this; omega
              have PG2 : Hid (Src wg (.slice uga q ugc) 1 (l.take q).length (u8s (l.take q))) := Lib.hid (by have := PG.out; exact this)
              cases a2 with
              | none =>
                rcases SL.out.2.2 with ⟨_, h0⟩ | ⟨_, _, h0, _⟩
                · omega
                · simp at h0
              | some bd =>
              obtain ⟨eb, _, _⟩ := SL.out.at hlp
              obtain ⟨bb, bo, bsp⟩ := bd
              simp only [Addr.mk.injEq, true_and] at eb
              subst eb
              have PL := Lib.hid (src_take SL.out hlp q hq2)
              have t1 : ∀ x : Later wg, _ := fun x => src_str (PG2.out.now (w := x.val))
              have t2 : ∀ x : Later wg, _ := fun x => src_str (PL.out.ext (grows (a := W) (b := x.val)))
              have hqc : (q : Int) ≤ c2 := by omega
              have hqd : decide (q ≤ l.length) = true := by simp; omega
              have hqd2 : decide ((q : Int) ≤ (l.length : Int)) = true := by simp; omega
              have hq0 : (0 : Int) ≤ (q : Int) := by omega
              clear og hlq PG
              go_wp2_with fail
              refine wp_region_later (W := wg) (by kernel_rfl) (by kernel_rfl) (Ext.refl _) ?_
              repeat (go_big_quiet_step (first
                | (go_at_call 15; exact Rets.later_at (hworks_any _))))
              refine wpQuiet_nil ?_
              intro wz hxz
              have sz : Step wg wz := ⟨hxz⟩
              go_wp2_with fail
              go_ret
              exact ⟨rfl, grows⟩
  · cases sm
    · clear hgo
      go_enter Try.func11, Try.ntmps11
      go_wp2_with fail
      refine (rsmall_any (nm, fs) (Hd.Flds.ext HF.out grows) hnm).mono ?_
      rintro e w1 ⟨rfl, x1⟩
      rw [← HSM.out]
      have s1 : Step (W.alloc (.cells #[.string nm, .slice fa fs.length fc] 24)) w1 := ⟨x1⟩
      go_wp2_with (first | (go_at_call 19; refine (rhcheck_any (nm, fs) (Hd.Flds.ext HF.out (grows (a := W) (b := w1))) hnm).mono ?_; rintro e w2 ⟨rfl, x2⟩; have s2 : Step w1 w2 := ⟨x2⟩) | (go_at_call 15; refine (hworks_any _).mono ?_; rintro e w3 ⟨rfl, x3⟩; have s3 := Step.mk x3))
      go_ret
      exact ⟨rfl, grows⟩
    · by_cases h30 : vs.length ≤ 30
      · by_cases h100 : l.length ≤ 100
        · by_cases hc : Hd.chk (nm, fs) = 0
          · have hlt : vs.length < fs.length := by
              rcases Nat.lt_or_ge vs.length fs.length with h | h
              · exact h
              · exact absurd ⟨rfl, h30, h100, hc, h⟩ hgo
            have hd1 : decide (vs.length < fs.length) = true := by simp; omega
            have HC := Lib.hid hc
            clear hgo hc
            go_enter Try.func11, Try.ntmps11
            go_wp2_with fail
            refine (rsmall_any (nm, fs) (Hd.Flds.ext HF.out grows) hnm).mono ?_
            rintro e w1 ⟨rfl, x1⟩
            rw [← HSM.out]
            have s1 : Step (W.alloc (.cells #[.string nm, .slice fa fs.length fc] 24)) w1 := ⟨x1⟩
            go_wp2_with (first | (go_at_call 19; refine (rhcheck_any (nm, fs) (Hd.Flds.ext HF.out (grows (a := W) (b := w1))) hnm).mono ?_; rintro e w2 ⟨rfl, x2⟩; rw [HC.out]; have s2 : Step w1 w2 := ⟨x2⟩) | (go_at_call 15; refine (hworks_any _).mono ?_; rintro e w3 ⟨rfl, x3⟩; have s3 := Step.mk x3))
            go_ret
            exact ⟨rfl, grows⟩
          · have hcb : (Hd.chk (nm, fs) != 0) = true := by simpa using hc
            clear hgo hc
            go_enter Try.func11, Try.ntmps11
            go_wp2_with fail
            refine (rsmall_any (nm, fs) (Hd.Flds.ext HF.out grows) hnm).mono ?_
            rintro e w1 ⟨rfl, x1⟩
            rw [← HSM.out]
            have s1 : Step (W.alloc (.cells #[.string nm, .slice fa fs.length fc] 24)) w1 := ⟨x1⟩
            go_wp2_with (first | (go_at_call 19; refine (rhcheck_any (nm, fs) (Hd.Flds.ext HF.out (grows (a := W) (b := w1))) hnm).mono ?_; rintro e w2 ⟨rfl, x2⟩; have s2 : Step w1 w2 := ⟨x2⟩) | (go_at_call 15; refine (hworks_any _).mono ?_; rintro e w3 ⟨rfl, x3⟩; have s3 := Step.mk x3))
            go_ret
            exact ⟨rfl, grows⟩
        · have h101 : 100 < l.length := by omega
          clear hgo
          go_enter Try.func11, Try.ntmps11
          go_wp2_with fail
          refine (rsmall_any (nm, fs) (Hd.Flds.ext HF.out grows) hnm).mono ?_
          rintro e w1 ⟨rfl, x1⟩
          rw [← HSM.out]
          have s1 : Step (W.alloc (.cells #[.string nm, .slice fa fs.length fc] 24)) w1 := ⟨x1⟩
          go_wp2_with (first | (go_at_call 19; refine (rhcheck_any (nm, fs) (Hd.Flds.ext HF.out (grows (a := W) (b := w1))) hnm).mono ?_; rintro e w2 ⟨rfl, x2⟩; have s2 : Step w1 w2 := ⟨x2⟩) | (go_at_call 15; refine (hworks_any _).mono ?_; rintro e w3 ⟨rfl, x3⟩; have s3 := Step.mk x3))
          go_ret
          exact ⟨rfl, grows⟩
      · have h31 : 30 < vs.length := by omega
        clear hgo
        go_enter Try.func11, Try.ntmps11
        go_wp2_with fail
        refine (rsmall_any (nm, fs) (Hd.Flds.ext HF.out grows) hnm).mono ?_
        rintro e w1 ⟨rfl, x1⟩
        rw [← HSM.out]
        have s1 : Step (W.alloc (.cells #[.string nm, .slice fa fs.length fc] 24)) w1 := ⟨x1⟩
        go_wp2_with (first | (go_at_call 19; refine (rhcheck_any (nm, fs) (Hd.Flds.ext HF.out (grows (a := W) (b := w1))) hnm).mono ?_; rintro e w2 ⟨rfl, x2⟩; have s2 : Step w1 w2 := ⟨x2⟩) | (go_at_call 15; refine (hworks_any _).mono ?_; rintro e w3 ⟨rfl, x3⟩; have s3 := Step.mk x3))
        go_ret
        exact ⟨rfl, grows⟩
end Go.Proofs.Ytdgepbolfflidaa
