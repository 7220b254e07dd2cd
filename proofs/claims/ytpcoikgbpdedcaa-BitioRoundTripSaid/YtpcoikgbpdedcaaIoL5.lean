/- The laws of layer 2, walked: the round trip. No condition. -/
import Derived.Test.YtpcoikgbpdedcaaIoL4
import Derived.Test.YtpcoikgbpdedcaaIoV2
namespace Go.Proofs.Ytpcoikgbpdedcaa
open Go.RowKit

theorem lwidth_nat {x : Int} (k : Nat) (hk : (k : Int) = 1 + x % 32) (h0 : 0 ≤ x) (h1 : x ≤ 255) (W : World) : Calls Try.prog 47 #[.int .u8 x] W fun e W' => e = .returned (.int .i64 (k : Int)) ∧ W = W' := by
  rw [hk]; exact lwidth_any x h0 h1 W
/-- a row of other elements than bytes grows: the writer stays as it is -/
theorem WrtAt.beside {w w' : World} {base b' p : Nat} {oa : Option Addr} {n c : Nat} {L : List Int} {e : TypeId} {size m : Nat} {v : Value} {xs : List Value} (h : WrtAt w base p oa n c L)
    (hr : w.ownsRow b' e size v m xs) (h1 : e ≠ 5) (h2 : e ≠ 90) (hg : w.grownBy w' v.ownBlock) : WrtAt w' base p oa n c L := by
  refine h.mod (grown_mod hg) (fun e1 => ?_) (fun k hk e1 => ?_)
  · obtain ⟨cur, hc⟩ := own_type hr e1.symm
    exact ne_of_type hc h.raw.blk h2 rfl
  · obtain ⟨cur, hc⟩ := own_type hr e1.symm
    obtain ⟨cur2, hc2⟩ := own_type h.raw.row hk
    exact ne_of_type hc hc2 h1 rfl
/-- and the other way round -/
theorem own_wrote {w w' : World} {base b' p : Nat} {oa : Option Addr} {n c : Nat} {L : List Int} {e : TypeId} {size m : Nat} {v : Value} {xs : List Value} (h : WrtAt w base p oa n c L)
    (hr : w.ownsRow b' e size v m xs) (h1 : e ≠ 5) (h2 : e ≠ 90) (hm : Mod (WS p oa n c) w w') : w'.ownsRow b' e size v m xs := by
  refine own_mod hr hm (fun k hk hs => ?_)
  obtain ⟨cur, hc⟩ := own_type hr hk
  rcases hs with rfl | hs
  · exact ne_of_type hc h.raw.blk h2 rfl
  · obtain ⟨cur2, hc2⟩ := own_type h.raw.row hs.symm
    exact ne_of_type hc hc2 h1 rfl

set_option maxRecDepth 8000 in
set_option maxHeartbeats 800000 in
theorem bitioRoundTrip_walk (a0 : Option Addr) (n0 c0 : Nat) (z0 : List Int) (a1 : Option Addr) (n1 c1 : Nat) (z1 : List Int) (W : World) (r0 : IsRow .u32 W a0 n0 c0 z0) (r1 : IsRow .u8 W a1 n1 c1 z1) :
    Calls Try.prog 11 #[.slice a0 n0 c0, .slice a1 n1 c1] W (Rets W (.bool true)) := by
  obtain ⟨vs, rfl, hl, sl, bl⟩ := row_take r0
  obtain ⟨ws, rfl, hw, sw, bw⟩ := row_take r1
  clear r0 r1
  have hvb : ∀ x ∈ vs, 0 ≤ x ∧ x < 4294967296 := fun x hx => wf_u32 (bl x hx)
  have hwb : Io.Bytes ws := fun x hx => wf_u8 (bw x hx)
  unfold maxLen at hl hw
  clear bl bw
  have SV := Lib.hid sl
  have SW := Lib.hid sw
  have HVB := Lib.hid hvb
  have HWB := Lib.hid hwb
  clear sl sw hvb hwb
  by_cases hsm : vs.length ≤ 60 ∧ ws.length = vs.length
  · obtain ⟨h1, h2⟩ := hsm
    have h3 : ((ws.length : Int) != vs.length) = false := by simp; omega
    have H2 := Lib.hid h2
    clear h2
    go_enter Try.func11, Try.ntmps11
    go_wp2_with fail
    refine (newWriter_any _).mono ?_
    rintro e w1 ⟨p, rfl, x1, k1⟩
    clear h3
    go_wp2_with fail
    go_loopw [6, 7, 8] (fun tt o i wr => ∃ (k T : Nat) (oa : Option Addr) (n c : Nat), k ≤ vs.length ∧ i = .int .i64 k ∧ tt = .int .i64 T ∧ T = (Io.enc vs ws k).length ∧ Ext W wr
      ∧ WrtAt wr W.heap.size p oa n c (Io.enc vs ws k) ∧ wr.ownsRow W.heap.size 22 1 o k (u32s (Io.vls vs ws k))) (fun _ _ i _ => vs.length - (intOf i).toNat)
    case atStart => exact ⟨0, 0, none, 0, 0, Nat.zero_le _, rfl, rfl, rfl, x1, k1, World.ownsRow_nil _ _ _ _⟩
    case round =>
      obtain ⟨k, T, oa, n, c, hk, rfl, rfl, hT, hx, hwr, ho⟩ := hrel
      clear x1 k1
      obtain ⟨oo, co, rfl⟩ := own_slice ho
      have hTb := Io.enc_le vs ws k
      rw [← hT] at hTb
      have HT := Lib.hid hT
      have HX := Lib.hid hx
      have HWR := Lib.hid hwr
      have HO := Lib.hid ho
      clear hT hx hwr ho
      by_cases hlt : k < vs.length
      · obtain ⟨x, hx⟩ : ∃ x, x = ws.getD k 0 := ⟨_, rfl⟩
        obtain ⟨y, hy⟩ : ∃ y, y = vs.getD k 0 := ⟨_, rfl⟩
        obtain ⟨d, hd⟩ : ∃ d, d = Io.wd ws k := ⟨_, rfl⟩
        have hxb := HWB.out.get k
        have hdb := Io.wd_bd ws k
        have hdc := Io.wd_cast ws k
        have hvd : Io.vl vs ws k = y / 2 ^ (32 - d) := by rw [hy, hd]; rfl
        have hvb2 := Io.vl_bd ws k HVB.out
        have hyb : 0 ≤ y ∧ y < 4294967296 := by
          rw [hy, List.getD_eq_getElem?_getD, List.getElem?_eq_getElem hlt]; exact HVB.out _ (List.getElem_mem hlt)
        rw [← hx] at hxb hdc
        rw [← hd] at hdb hdc
        have g1 : (u32s vs)[k]? = some (.int .u32 y) := by simp [u32s, hy, hlt]
        have g2 : (u8s ws)[k]? = some (.int .u8 x) := by rw [u8s_get ws k (by rw [H2.out]; exact hlt), hx]
        cases a0 with
        | none =>
          rcases SV.out.2.2 with ⟨_, h0⟩ | ⟨_, _, h0, _⟩
          · omega
          · simp at h0
        | some ad =>
        cases a1 with
        | none =>
          rcases SW.out.2.2 with ⟨_, h0⟩ | ⟨_, _, h0, _⟩
          · have := H2.out; omega
          · simp at h0
        | some bd =>
        obtain ⟨ea, _, ca'⟩ := SV.out.at (by omega)
        obtain ⟨eb, _, cb'⟩ := SW.out.at (by rw [H2.out]; omega)
        obtain ⟨ab, ao, asp⟩ := ad
        obtain ⟨bb, bo, bsp⟩ := bd
        simp only [Addr.mk.injEq, true_and] at ea eb
        subst ea; subst eb
        dsimp only at ca' cb'
        have f1 := HX.out.cell (ca' k _ g1)
        have f2 := HX.out.cell (cb' k _ g2)
        have hlw : k < ws.length := by rw [H2.out]; exact hlt
        have HD := Lib.hid hd
        have HDC := Lib.hid hdc
        have HVD := Lib.hid hvd
        clear ca' cb' g1 g2 hx hy hd hdc hvd
        go_wp2_with fail
        refine (lwidth_nat d HDC.out hxb.1 hxb.2 _).mono ?_
        rintro e w1 ⟨rfl, rfl⟩
        go_wp2_with fail
        rw [← HVD.out]
        have q1 := Io.rt_fits ws k HVB.out
        have q2 := Io.rt_wrL ws k HVB.out
        have q3 := Io.enc_len vs ws k
        rw [← HD.out] at q1 q2 q3
        refine (writeBits_any HWR.out _ _ hvb2.1 (by rw [← HT.out]; omega)).mono ?_
        rintro e w2 ⟨rfl, oa2, n2, c2, m2, k2, i2⟩
        rw [q1]
        rw [q2] at k2
        have ho2 := own_ext (own_wrote HWR.out HO.out (by decide) (by decide) m2) ((Ext.refl w2).alloc (.cells #[.int .u32 (Io.vl vs ws k)] 22))
        have hx2 := HX.out.mod m2 HWR.out.foot
        have hz := hx2.le
        have HS := Lib.hid (src_one w2 (.int .u32 (Io.vl vs ws k)) 22 rfl)
        have HO2 := Lib.hid ho2
        have HX2 := Lib.hid hx2
        have HK2 := Lib.hid k2
        have Q3 := Lib.hid q3
        clear ho2 hx2 k2 q1 q2 q3 m2 i2
        go_wp2_with (at_builtin; refine wpList_append_fresh rfl (.tmp 55) (.tmp 57) 43 rfl W.heap.size 22 (.int .u32 0) 1 4 Try.underlying43 info_u32 rfl (by decide) _ k (u32s (Io.vls vs ws k)) rfl HO2.out _ 1 [.int .u32 (Io.vl vs ws k)] rfl HS.out ?d1 ?d2 ?d3 ?_)
        case d1 => unfold maxLen; omega
        case d2 => omega
        case d3 => simp; omega
        intro v' w' hown hgr _
        have hk3 := (HK2.out.ext ((Ext.refl w2).alloc (.cells #[.int .u32 (Io.vl vs ws k)] 22))).beside HO2.out (by decide) (by decide) hgr
        have hx3 := (HX2.out.alloc (.cells #[.int .u32 (Io.vl vs ws k)] 22)).mod (grown_mod hgr) (fun q hq => (HO2.out.lt q hq.symm).1)
        have HA3 := Lib.hid hown
        have HK3 := Lib.hid hk3
        have HX3 := Lib.hid hx3
        clear hgr hown HO2 hk3 hx3
        go_wp2
        go_roundw
        case rel => exact ⟨k + 1, T + d, oa2, n2, c2, by omega, by go_num, by go_num, by rw [Q3.out, HT.out], HX3.out, HK3.out, by simpa [u32s, Io.vls_succ] using HA3.out⟩
        case measure => simp [intOf]; omega
      · obtain rfl : k = vs.length := by omega
        obtain ⟨pad, hpad⟩ : ∃ pad : Nat, pad = (8 - T % 8) % 8 := ⟨_, rfl⟩
        have hpb : pad < 8 := by omega
        have HP := Lib.hid hpad
        have HT2 := HT
        clear hpad
        by_cases hp0 : T % 8 = 0
        · have hp1 : (8 - (T : Int) % 8) % 8 ≤ 0 := by omega
          obtain ⟨P, hPl, k2⟩ : ∃ P, P.length = T + pad ∧ (∃ Z, P = Io.enc vs ws vs.length ++ Z) ∧ WrtAt wr W.heap.size p oa n c P :=
            ⟨Io.enc vs ws vs.length, by rw [← HT.out]; have := HP.out; omega, ⟨[], by simp⟩, HWR.out⟩
          obtain ⟨⟨Z, hPZ⟩, k2⟩ := k2
          have K2 := Lib.hid k2
          have HPL := Lib.hid hPl
          clear hPl
          have PZ := Lib.hid hPZ
          have X2 := Lib.hid HX.out
          have O2 := Lib.hid HO.out
          clear hPZ k2 HX HO HWR HT
          go_wp2_with fail
          rw [show -((T : Int) % 8) % 8 = (pad : Int) by have := HP.out; omega]
          refine (bytes_ok K2.out (by have := HP.out; have := HPL.out; omega) (by have := HPL.out; omega)).mono ?_
          rintro e w4 ⟨v4, rfl, x4, o4⟩
          have hPK := Io.pack_len P
          obtain ⟨PK, hPKd⟩ : ∃ PK, PK = Io.pack P := ⟨_, rfl⟩
          rw [← hPKd] at o4 hPK
          obtain ⟨oa4, c4, rfl⟩ := own_slice o4
          have HPK := Lib.hid hPKd
          have HPK2 := Lib.hid hPK
          have hPKb : PK.length ≤ 1000 := by have := HPL.out; omega
          clear hPK
          have S4 := Lib.hid (own_src o4 (u8s_one _))
          have X4 := Lib.hid (X2.out.trans x4)
          have K4 := Lib.hid (K2.out.ext x4)
          have O4 := Lib.hid (own_ext O2.out x4)
          clear x4 o4 hPKd X2 K2 O2
          go_wp2_with fail
          refine (newReader_any _ PK _ S4.out (by rw [HPK.out]; exact Io.pack_bytes K4.out.bits) (by omega)).mono ?_
          rintro e w5 ⟨r, ra, rn, rc, rfl, x5, r5⟩
          have X5 := Lib.hid (X4.out.trans x5)
          have hrW : W.heap.size ≤ r := Nat.le_trans X4.out.le r5.le
          have K5 := Lib.hid (K4.out.ext x5)
          have O5 := Lib.hid (own_ext O4.out x5)
          have R5 := Lib.hid r5
          have hne1 : ((P.length : Int) != (T : Int) + pad) = false := by have := HPL.out; simp; omega
          have hne2 : ((PK.length : Int) != ((T : Int) + pad) / 8) = false := by have := HPL.out; have := HPK2.out; have := HP.out; simp; omega
          clear x5 r5 X4 K4 O4
          go_wp2_with (go_at_call 54; refine (wlen_at K5.out).mono ?_; rintro e w6 ⟨rfl, rfl⟩)
          clear hne1 hne2
          have KB := Lib.hid K5.out.bits
          go_loopw [15] (fun i wq => ∃ k : Nat, k ≤ vs.length ∧ i = .int .i64 k ∧ Ext W wq ∧ RdrAt wq w4.heap.size r ra rn rc PK (Io.enc vs ws k).length
            ∧ wq.ownsRow W.heap.size 22 1 (.slice oo vs.length co) vs.length (u32s (Io.vls vs ws vs.length))) (fun i _ => vs.length - (intOf i).toNat)
          case atStart => exact ⟨0, Nat.zero_le _, rfl, X5.out, R5.out, O5.out⟩
          case round =>
            obtain ⟨k, hk, rfl, x6, r6, o6⟩ := hrel
            have X6 := Lib.hid x6
            have R6 := Lib.hid r6
            have O6 := Lib.hid o6
            clear x6 r6 o6 X5 R5 O5 K5
            by_cases hlt2 : k < vs.length
            · obtain ⟨x, hx⟩ : ∃ x, x = ws.getD k 0 := ⟨_, rfl⟩
              obtain ⟨d, hd⟩ : ∃ d, d = Io.wd ws k := ⟨_, rfl⟩
              have hxb := HWB.out.get k
              have hdb := Io.wd_bd ws k
              have hdc := Io.wd_cast ws k
              rw [← hx] at hxb hdc
              rw [← hd] at hdb hdc
              have g2 : (u8s ws)[k]? = some (.int .u8 x) := by rw [u8s_get ws k (by rw [H2.out]; exact hlt2), hx]
              have rt := Io.rt_read ws Z vs.length k HVB.out hlt2 (by rw [← PZ.out]; exact KB.out) (by rw [← PZ.out]; have := HP.out; have := HPL.out; omega)
              rw [← PZ.out, ← HPK.out, ← hd] at rt
              obtain ⟨rt1, rt2, rt3⟩ := rt
              have RT1 := Lib.hid rt1
              have RT2 := Lib.hid rt2
              have RT3 := Lib.hid rt3
              cases a1 with
              | none =>
                rcases SW.out.2.2 with ⟨_, h0⟩ | ⟨_, _, h0, _⟩
                · have := H2.out; omega
                · simp at h0
              | some bd =>
              obtain ⟨eb, _, cb'⟩ := SW.out.at (by rw [H2.out]; omega)
              obtain ⟨bb, bo, bsp⟩ := bd
              simp only [Addr.mk.injEq, true_and] at eb
              subst eb
              dsimp only at cb'
              have f2 := X6.out.cell (cb' k _ g2)
              have hlw : k < ws.length := by rw [H2.out]; exact hlt2
              have HD := Lib.hid hd
              have HDC := Lib.hid hdc
              clear cb' g2 hx hd hdc rt1 rt2 rt3
              go_wp2_with fail
              refine (lwidth_nat d HDC.out hxb.1 hxb.2 _).mono ?_
              rintro e w7 ⟨rfl, rfl⟩
              go_wp2_with fail
              refine (readBits_any R6.out _).mono ?_
              rintro e w8 ⟨rfl, m8, r8⟩
              rw [RT1.out, RT2.out]
              rw [RT3.out] at r8
              have o8 := own_mod O6.out m8 (fun q hq e1 => by
                obtain ⟨cur, hc⟩ := own_type O6.out hq
                exact ne_of_type hc R6.out.blk (by decide) e1)
              have X8 := Lib.hid (X6.out.mod m8 (fun q hq => by rw [hq]; exact hrW))
              have R8 := Lib.hid r8
              have O8 := Lib.hid o8
              have s8 := own_src o8 (u32s_one _)
              cases oo with
              | none =>
                rcases s8.2.2 with ⟨_, h0⟩ | ⟨_, _, h0, _⟩
                · omega
                · simp at h0
              | some od =>
              obtain ⟨eo, _, co'⟩ := s8.at (by omega)
              obtain ⟨ob, of, osp⟩ := od
              simp only [Addr.mk.injEq, true_and] at eo
              subst eo
              dsimp only at co'
              have f8 := co' k _ (u32s_get (Io.vls_get vs ws vs.length k hlt2))
              clear co' s8 o8 r8 m8 f2
              go_wp2
              go_roundw
              case rel => exact ⟨k + 1, by omega, by go_num, X8.out, R8.out, O8.out⟩
              case measure => simp [intOf]; omega
            · obtain rfl : k = vs.length := by omega
              have hfin : 8 * (PK.length : Int) - (Io.enc vs ws vs.length).length = pad := by
                have h1 := HPK2.out; have h2 := HPL.out; have h3 := HP.out; have h4 := HT2.out
                omega
              have HF := Lib.hid hfin
              clear hfin
              go_wp2_with (first
                | (go_at_call 58; refine (remaining_at R6.out).mono ?_; rw [HF.out]; rintro e w9 ⟨rfl, x9⟩)
                | (go_at_call 41; refine (works_any _).mono ?_; rintro e w10 ⟨rfl, hy⟩))
              go_ret
              exact ⟨rfl, (X6.out.trans x9).trans hy⟩
        · have hp1 : 0 < (8 - (T : Int) % 8) % 8 := by omega
          go_wp2_with fail
          rw [show -((T : Int) % 8) % 8 = (pad : Int) by have := HP.out; omega]
          have hp2 : 1 ≤ pad := by have := HP.out; omega
          have hok := Bv.ok_of (show (1 : Int) ≤ pad by omega) (show (pad : Int) ≤ 32 by omega)
          have q1 : Io.wrE 0 pad = 0 := by
            unfold Io.wrE; rw [if_pos hok, if_pos]
            unfold Bv.fits; rw [hok, Bool.true_and]
            exact decide_eq_true (Int.pow_pos (by decide))
          have q2 : Io.wrL (Io.enc vs ws vs.length) 0 pad = Io.enc vs ws vs.length ++ Io.bitsTo 0 pad pad := by
            unfold Io.wrL; rw [if_pos q1]; rfl
          refine (writeBits_any HWR.out _ _ (Int.le_refl 0) (by rw [← HT.out]; omega)).mono ?_
          rintro e w2 ⟨rfl, oa2, n2, c2, m2, k2, i2⟩
          rw [q1]
          rw [q2] at k2
          obtain ⟨P, hPZ⟩ : ∃ P, P = Io.enc vs ws vs.length ++ Io.bitsTo 0 pad pad := ⟨_, rfl⟩
          rw [← hPZ] at k2
          have hPl : P.length = T + pad := by rw [hPZ, List.length_append, Io.bitsTo_len, ← HT.out]
          obtain ⟨Z, hZ⟩ : ∃ Z, Z = Io.bitsTo 0 pad pad := ⟨_, rfl⟩
          rw [← hZ] at hPZ
          have K2 := Lib.hid k2
          have HPL := Lib.hid hPl
          clear hPl
          have PZ := Lib.hid hPZ
          have X2 := Lib.hid (HX.out.mod m2 HWR.out.foot)
          have O2 := Lib.hid (own_wrote HWR.out HO.out (by decide) (by decide) m2)
          clear hPZ k2 HX HO HWR HT hok q1 q2 m2 i2 hZ
          go_wp2_with fail
          refine (bytes_ok K2.out (by have := HP.out; have := HPL.out; omega) (by have := HPL.out; omega)).mono ?_
          rintro e w4 ⟨v4, rfl, x4, o4⟩
          have hPK := Io.pack_len P
          obtain ⟨PK, hPKd⟩ : ∃ PK, PK = Io.pack P := ⟨_, rfl⟩
          rw [← hPKd] at o4 hPK
          obtain ⟨oa4, c4, rfl⟩ := own_slice o4
          have HPK := Lib.hid hPKd
          have HPK2 := Lib.hid hPK
          have hPKb : PK.length ≤ 1000 := by have := HPL.out; omega
          clear hPK
          have S4 := Lib.hid (own_src o4 (u8s_one _))
          have X4 := Lib.hid (X2.out.trans x4)
          have K4 := Lib.hid (K2.out.ext x4)
          have O4 := Lib.hid (own_ext O2.out x4)
          clear x4 o4 hPKd X2 K2 O2
          go_wp2_with fail
          refine (newReader_any _ PK _ S4.out (by rw [HPK.out]; exact Io.pack_bytes K4.out.bits) (by omega)).mono ?_
          rintro e w5 ⟨r, ra, rn, rc, rfl, x5, r5⟩
          have X5 := Lib.hid (X4.out.trans x5)
          have hrW : W.heap.size ≤ r := Nat.le_trans X4.out.le r5.le
          have K5 := Lib.hid (K4.out.ext x5)
          have O5 := Lib.hid (own_ext O4.out x5)
          have R5 := Lib.hid r5
          have hne1 : ((P.length : Int) != (T : Int) + pad) = false := by have := HPL.out; simp; omega
          have hne2 : ((PK.length : Int) != ((T : Int) + pad) / 8) = false := by have := HPL.out; have := HPK2.out; have := HP.out; simp; omega
          clear x5 r5 X4 K4 O4
          go_wp2_with (go_at_call 54; refine (wlen_at K5.out).mono ?_; rintro e w6 ⟨rfl, rfl⟩)
          clear hne1 hne2
          have KB := Lib.hid K5.out.bits
          go_loopw [15] (fun i wq => ∃ k : Nat, k ≤ vs.length ∧ i = .int .i64 k ∧ Ext W wq ∧ RdrAt wq w4.heap.size r ra rn rc PK (Io.enc vs ws k).length
            ∧ wq.ownsRow W.heap.size 22 1 (.slice oo vs.length co) vs.length (u32s (Io.vls vs ws vs.length))) (fun i _ => vs.length - (intOf i).toNat)
          case atStart => exact ⟨0, Nat.zero_le _, rfl, X5.out, R5.out, O5.out⟩
          case round =>
            obtain ⟨k, hk, rfl, x6, r6, o6⟩ := hrel
            have X6 := Lib.hid x6
            have R6 := Lib.hid r6
            have O6 := Lib.hid o6
            clear x6 r6 o6 X5 R5 O5 K5
            by_cases hlt2 : k < vs.length
            · obtain ⟨x, hx⟩ : ∃ x, x = ws.getD k 0 := ⟨_, rfl⟩
              obtain ⟨d, hd⟩ : ∃ d, d = Io.wd ws k := ⟨_, rfl⟩
              have hxb := HWB.out.get k
              have hdb := Io.wd_bd ws k
              have hdc := Io.wd_cast ws k
              rw [← hx] at hxb hdc
              rw [← hd] at hdb hdc
              have g2 : (u8s ws)[k]? = some (.int .u8 x) := by rw [u8s_get ws k (by rw [H2.out]; exact hlt2), hx]
              have rt := Io.rt_read ws Z vs.length k HVB.out hlt2 (by rw [← PZ.out]; exact KB.out) (by rw [← PZ.out]; have := HP.out; have := HPL.out; omega)
              rw [← PZ.out, ← HPK.out, ← hd] at rt
              obtain ⟨rt1, rt2, rt3⟩ := rt
              have RT1 := Lib.hid rt1
              have RT2 := Lib.hid rt2
              have RT3 := Lib.hid rt3
              cases a1 with
              | none =>
                rcases SW.out.2.2 with ⟨_, h0⟩ | ⟨_, _, h0, _⟩
                · have := H2.out; omega
                · simp at h0
              | some bd =>
              obtain ⟨eb, _, cb'⟩ := SW.out.at (by rw [H2.out]; omega)
              obtain ⟨bb, bo, bsp⟩ := bd
              simp only [Addr.mk.injEq, true_and] at eb
              subst eb
              dsimp only at cb'
              have f2 := X6.out.cell (cb' k _ g2)
              have hlw : k < ws.length := by rw [H2.out]; exact hlt2
              have HD := Lib.hid hd
              have HDC := Lib.hid hdc
              clear cb' g2 hx hd hdc rt1 rt2 rt3
              go_wp2_with fail
              refine (lwidth_nat d HDC.out hxb.1 hxb.2 _).mono ?_
              rintro e w7 ⟨rfl, rfl⟩
              go_wp2_with fail
              refine (readBits_any R6.out _).mono ?_
              rintro e w8 ⟨rfl, m8, r8⟩
              rw [RT1.out, RT2.out]
              rw [RT3.out] at r8
              have o8 := own_mod O6.out m8 (fun q hq e1 => by
                obtain ⟨cur, hc⟩ := own_type O6.out hq
                exact ne_of_type hc R6.out.blk (by decide) e1)
              have X8 := Lib.hid (X6.out.mod m8 (fun q hq => by rw [hq]; exact hrW))
              have R8 := Lib.hid r8
              have O8 := Lib.hid o8
              have s8 := own_src o8 (u32s_one _)
              cases oo with
              | none =>
                rcases s8.2.2 with ⟨_, h0⟩ | ⟨_, _, h0, _⟩
                · omega
                · simp at h0
              | some od =>
              obtain ⟨eo, _, co'⟩ := s8.at (by omega)
              obtain ⟨ob, of, osp⟩ := od
              simp only [Addr.mk.injEq, true_and] at eo
              subst eo
              dsimp only at co'
              have f8 := co' k _ (u32s_get (Io.vls_get vs ws vs.length k hlt2))
              clear co' s8 o8 r8 m8 f2
              go_wp2
              go_roundw
              case rel => exact ⟨k + 1, by omega, by go_num, X8.out, R8.out, O8.out⟩
              case measure => simp [intOf]; omega
            · obtain rfl : k = vs.length := by omega
              have hfin : 8 * (PK.length : Int) - (Io.enc vs ws vs.length).length = pad := by
                have h1 := HPK2.out; have h2 := HPL.out; have h3 := HP.out; have h4 := HT2.out
                omega
              have HF := Lib.hid hfin
              clear hfin
              go_wp2_with (first
                | (go_at_call 58; refine (remaining_at R6.out).mono ?_; rw [HF.out]; rintro e w9 ⟨rfl, x9⟩)
                | (go_at_call 41; refine (works_any _).mono ?_; rintro e w10 ⟨rfl, hy⟩))
              go_ret
              exact ⟨rfl, (X6.out.trans x9).trans hy⟩
  · go_enter Try.func11, Try.ntmps11
    by_cases h1 : vs.length ≤ 60
    · have h2 : ((ws.length : Int) != vs.length) = true := by simp; omega
      go_wp2_with (go_at_call 41; refine (works_any _).mono ?_; rintro e w1 ⟨rfl, hy⟩)
      go_ret
      exact ⟨rfl, hy⟩
    · have h2 : 60 < vs.length := by omega
      go_wp2_with (go_at_call 41; refine (works_any _).mono ?_; rintro e w1 ⟨rfl, hy⟩)
      go_ret
      exact ⟨rfl, hy⟩
end Go.Proofs.Ytpcoikgbpdedcaa
