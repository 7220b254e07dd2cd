/- Headers: Write, walked. No condition. -/
import Derived.Test.YtonnlcjkgpahoaaHd5
import Derived.Test.YtonnlcjkgpahoaaIoG
namespace Go.Proofs.Ytonnlcjkgpahoaa
open Go.RowKit

namespace Hd
theorem putAll_err : ∀ (vs ns L M : List Int), (Io.putAll vs ns L).1 = (Io.putAll vs ns M).1
  | [], _, _, _ => by simp [Io.putAll]
  | _ :: _, [], _, _ => by simp [Io.putAll]
  | v :: vs, n :: ns, L, M => by
    unfold Io.putAll
    by_cases h : Io.wrE v n = 0
    · rw [if_pos h, if_pos h]; exact putAll_err vs ns _ _
    · rw [if_neg h, if_neg h]
theorem putAll_len : ∀ (vs ns L : List Int), vs.length = ns.length → Wd ns → (Io.putAll vs ns L).1 = 0 → ((Io.putAll vs ns L).2.length : Int) = L.length + tot ns
  | [], [], L, _, _, _ => by simp [Io.putAll, tot]
  | [], _ :: _, _, h, _, _ => by simp at h
  | _ :: _, [], _, h, _, _ => by simp at h
  | v :: vs, n :: ns, L, h, hw, he => by
    unfold Io.putAll at he ⊢
    by_cases h1 : Io.wrE v n = 0
    · rw [if_pos h1] at he ⊢
      have h2 := hw n (by simp)
      have ih := putAll_len vs ns (Io.wrL L v n) (by simpa using h) (fun m hm => hw m (by simp [hm])) he
      rw [ih, tot_cons]
      unfold Io.wrL
      rw [if_pos h1, List.length_append, Io.bitsTo_len]
      omega
    · rw [if_neg h1] at he; exact absurd he h1
theorem putAll_snoc : ∀ (vs ns L : List Int) (v n : Int), vs.length = ns.length → (Io.putAll vs ns L).1 = 0 → Io.putAll (vs ++ [v]) (ns ++ [n]) L = if Io.wrE v n = 0 then (0, Io.wrL (Io.putAll vs ns L).2 v n) else (Io.wrE v n, [])
  | [], [], L, v, n, _, _ => by simp [Io.putAll]
  | [], _ :: _, _, _, _, h, _ => by simp at h
  | _ :: _, [], _, _, _, h, _ => by simp at h
  | x :: vs, m :: ns, L, v, n, h, he => by
    simp only [List.cons_append]
    unfold Io.putAll at he ⊢
    by_cases h1 : Io.wrE x m = 0
    · rw [if_pos h1] at he ⊢
      rw [if_pos h1]
      exact putAll_snoc vs ns _ v n (by simpa using h) he
    · rw [if_neg h1] at he; exact absurd he h1
/-- an error in the front is the error -/
theorem putAll_front : ∀ (vs ns vs' ns' L : List Int), vs.length = ns.length → (Io.putAll vs ns L).1 ≠ 0 → (Io.putAll (vs ++ vs') (ns ++ ns') L).1 = (Io.putAll vs ns L).1
  | [], [], _, _, _, _, h => by simp [Io.putAll] at h
  | [], _ :: _, _, _, _, h, _ => by simp at h
  | _ :: _, [], _, _, _, h, _ => by simp at h
  | x :: vs, m :: ns, vs', ns', L, h, he => by
    simp only [List.cons_append]
    unfold Io.putAll at he ⊢
    by_cases h1 : Io.wrE x m = 0
    · rw [if_pos h1] at he ⊢
      rw [if_pos h1]
      exact putAll_front vs ns vs' ns' _ (by simpa using h) he
    · rw [if_neg h1, if_neg h1]
/-- the error of Write, the bits behind it -/
def wE (h : Hdr) (vs : List Int) : Int := if chk h = 0 then (if vs.length = h.2.length then (Io.putAll vs (wds h.2) []).1 else 2) else chk h
def wL (h : Hdr) (vs L : List Int) : List Int := if wE h vs = 0 then (Io.putAll vs (wds h.2) L).2 else L
theorem put_take {vs ns : List Int} {k : Nat} (hl : vs.length = ns.length) (hk : k ≤ vs.length) (h : (Io.putAll vs ns []).1 = 0) (L : List Int) : (Io.putAll (vs.take k) (ns.take k) L).1 = 0 := by
  apply Classical.byContradiction
  intro hne
  have h1 := putAll_front (vs.take k) (ns.take k) (vs.drop k) (ns.drop k) L (by rw [List.length_take, List.length_take]; omega) hne
  rw [List.take_append_drop, List.take_append_drop, putAll_err _ _ L []] at h1
  rw [h1] at h; exact hne h
theorem wrL_of (L : List Int) (v n : Int) (h : Io.wrE v n = 0) : (Io.wrL L v n).length = L.length + n.toNat := by
  unfold Io.wrL; rw [if_pos h, List.length_append, Io.bitsTo_len]
/-- one more value -/
theorem put_step {vs : List Int} {fs : List Fld} {k : Nat} {x y : Int} {nk : ByteArray} (hl : vs.length = fs.length) (hx : vs[k]? = some x) (hy : fs[k]? = some (nk, y)) (h : (Io.putAll vs (wds fs) []).1 = 0) (L : List Int) :
    Io.wrE x y = 0 ∧ (Io.putAll (vs.take (k + 1)) (wds (fs.take (k + 1))) L).2 = Io.wrL (Io.putAll (vs.take k) (wds (fs.take k)) L).2 x y := by
  have hlt := (List.getElem?_eq_some_iff.1 hx).1
  have e1 : ∀ j, wds (fs.take j) = (wds fs).take j := fun j => by unfold wds; rw [List.map_take]
  have h1 : vs.take (k + 1) = vs.take k ++ [x] := by rw [List.take_add_one, hx]; rfl
  have h2 : wds (fs.take (k + 1)) = wds (fs.take k) ++ [y] := wds_step hy
  have hln : vs.length = (wds fs).length := by rw [wds_len]; exact hl
  have h3 := put_take (ns := wds fs) hln (k := k) (by omega) h L
  have h4 := put_take (ns := wds fs) hln (k := k + 1) (by omega) h L
  rw [← e1] at h3 h4
  have h5 := putAll_snoc (vs.take k) (wds (fs.take k)) L x y (by rw [wds_len, List.length_take, List.length_take]; omega) h3
  rw [← h1, ← h2] at h5
  rw [h5] at h4 ⊢
  by_cases h6 : Io.wrE x y = 0
  · rw [if_pos h6]; exact ⟨h6, rfl⟩
  · rw [if_neg h6] at h4; exact absurd h4 h6
end Hd
theorem WrtAt.mod {S : Nat → Prop} {w w' : World} {base p : Nat} {oa : Option Addr} {n c : Nat} {L : List Int} (h : WrtAt w base p oa n c L) (hm : Mod S w w') (hp : ¬ S p) (hs : ∀ k, (Value.slice oa n c).ownBlock = some k → ¬ S k) : WrtAt w' base p oa n c L :=
  ⟨⟨hm.heap h.raw.blk hp, own_mod h.raw.row hm hs, h.raw.len, h.raw.le⟩, h.bits⟩
theorem WrtAt.not {w : World} {base p : Nat} {oa : Option Addr} {n c : Nat} {L : List Int} (h : WrtAt w base p oa n c L) {B : Nat} {cs : Array Value} {t : TypeId} {f : Nat × Nat} (hb : w.heap[B]? = some (.cells cs t f)) (h1 : t ≠ 110) (h2 : t ≠ 5) : ¬ WS p oa n c B := by
  intro e
  rcases e with e | e
  · rw [e] at hb; exact ne_of_type hb h.raw.blk h1 rfl
  · obtain ⟨cur, hc⟩ := own_type h.raw.row e.symm
    exact ne_of_type hb hc h2 rfl
/-- a block of a writer is there -/
theorem WrtAt.lt {w : World} {base p : Nat} {oa : Option Addr} {n c : Nat} {L : List Int} (h : WrtAt w base p oa n c L) (q : Nat) (hq : WS p oa n c q) : q < w.heap.size := by
  rcases hq with rfl | hq
  · exact lt_of_block h.raw.blk
  · obtain ⟨cur, hc⟩ := own_type h.raw.row hq.symm
    exact lt_of_block hc

set_option maxRecDepth 8000 in
set_option maxHeartbeats 1000000 in
theorem hwrite_any {w : World} {base p : Nat} {oa : Option Addr} {n c : Nat} {L : List Int} (hw : WrtAt w base p oa n c L) (h : Hd.Hdr) {v u : Value} {vs : List Int} (hs : ∀ w', Mod (WS p oa n c) w w' → Hd.Flds w' v h.2 ∧ Src w' u 1 vs.length (u32s vs)) (hn : h.1.size ≤ maxLen) (hL : L.length ≤ 1000000000) (hvs : ∀ x ∈ vs, 0 ≤ x) (hvl : vs.length ≤ 1000000) :
    Calls Try.prog 47 #[.agg #[.string h.1, v], u, .pointer (some ⟨p, 0, none⟩)] w
      fun e w' => e = .returned (.int .i64 (Hd.wE h vs)) ∧ ∃ oa' n' c', Mod (WS p oa n c) w w' ∧ WrtAt w' base p oa' n' c' (Hd.wL h vs L) ∧ ∀ q, q < w.heap.size → WS p oa' n' c' q → WS p oa n c q := by
  obtain ⟨nm, fs⟩ := h
  dsimp only at hs hn ⊢
  obtain ⟨fa, fc, rfl, hlc, hcm⟩ := (hs w (Mod.refl _ _)).1.slice
  obtain ⟨ua, uc, rfl, hua⟩ := (hs w (Mod.refl _ _)).2.slice
  unfold maxLen at hcm
  have HS := Lib.hid hs
  have HW := Lib.hid hw
  have HUA := Lib.hid hua
  have HVS := Lib.hid hvs
  clear hs hw hua hvs
  have bb := alloc_heap w (.cells #[.string nm, .slice fa fs.length fc] 72)
  have c0 := alw (cell_of (o := 0) bb)
  have c1 := alw (cell_of (o := 1) bb)
  clear bb
  have HF : Hid (Hd.Flds (w.alloc (.cells #[.string nm, .slice fa fs.length fc] 72)) (.slice fa fs.length fc) fs) := Lib.hid (Hd.Flds.ext (HS.out w (Mod.refl _ _)).1 ((Ext.refl _).alloc _))
  by_cases hc : Hd.chk (nm, fs) = 0
  · obtain ⟨k1, k2, k3, k4, k5⟩ := Hd.chk_ok hc
    dsimp only at k2 k3 k4 k5
    have htb := Hd.tot_bd k4
    rw [Hd.wds_len] at htb
    have HC := Lib.hid hc
    have HWD := Lib.hid k4
    have H8 := Lib.hid k5
    have hbe : (Io.byE L == 1) = false := by unfold Io.byE; split <;> rfl
    clear hc k1 k4 k5
    by_cases hlen : vs.length = fs.length
    · have hne : ((vs.length : Int) != fs.length) = false := by simp [hlen]
      have hpk : Io.packE vs (Hd.wds fs) = (Io.putAll vs (Hd.wds fs) []).1 := by
        unfold Io.packE
        rw [if_pos (by rw [Hd.wds_len]; exact hlen)]
        by_cases h0 : (Io.putAll vs (Hd.wds fs) []).1 = 0
        · have h1 := Hd.putAll_len vs (Hd.wds fs) [] (by rw [Hd.wds_len]; exact hlen) HWD.out h0
          have h2 := H8.out
          rw [if_pos h0, h0, if_pos (by simp at h1; omega)]
        · rw [if_neg h0]
      have e1 : Hd.wE (nm, fs) vs = (Io.putAll vs (Hd.wds fs) []).1 := by unfold Hd.wE; rw [if_pos HC.out, if_pos hlen]
      have HPK := Lib.hid hpk
      have E1 := Lib.hid e1
      have HLEN := Lib.hid hlen
      have hvl2 : vs.length ≤ 12 := by omega
      clear hpk e1 hlen
      go_enter Try.func47, Try.ntmps47
      go_wp2_with fail
      refine (hcheck_any (nm, fs) HF.out hn).mono ?_
      rintro e w1 ⟨rfl, y1⟩
      rw [HC.out]
      have s1 : Step (w.alloc (.cells #[.string nm, .slice fa fs.length fc] 72)) w1 := ⟨y1⟩
      go_wp2_with fail
      refine (bytes_any (HW.out.ext grows) (by omega)).mono ?_
      rintro e w2 ⟨ur, rfl, y2, o2⟩
      obtain ⟨ura, urc, rfl⟩ := own_slice o2
      have s2 : Step w1 w2 := ⟨y2⟩
      clear o2 y1 y2
      go_wp2_with fail
      refine (widths_any nm fs (Hd.Flds.ext HF.out grows) (by omega)).mono ?_
      rintro e w3 ⟨un, rfl, y3, o3⟩
      have S3 := Lib.hid (own_src o3 (i64s_one _))
      obtain ⟨una, unc, rfl⟩ := own_slice o3
      have s3 : Step w2 w3 := ⟨y3⟩
      clear o3 y3
      go_wp2_with fail
      refine (pack_any _ _ vs (Hd.wds fs) w3 ((HS.out w (Mod.refl _ _)).2.ext (grows (a := w) (b := w3))) S3.out HVS.out hvl).mono ?_
      rintro e w4 ⟨up, rfl, y4, o4⟩
      obtain ⟨upa, upc, rfl⟩ := own_slice o4
      have s4 : Step w3 w4 := ⟨y4⟩
      rw [HPK.out]
      clear o4 y4
      by_cases hz : (Io.putAll vs (Hd.wds fs) []).1 = 0
      · have HX := Lib.hid (grows (a := w) (b := w4))
        have HZ := Lib.hid hz
        rw [hz]
        clear hz
        go_wp2_with fail
        go_loopw [46] (fun i wr => ∃ (k : Nat) (oa' : Option Addr) (n' c' : Nat), k ≤ fs.length ∧ i = .int .i64 k ∧ Mod (WS p oa n c) w wr ∧ WrtAt wr base p oa' n' c' (Io.putAll (vs.take k) (Hd.wds (fs.take k)) L).2 ∧ Hid (∀ q, q < w.heap.size → WS p oa' n' c' q → WS p oa n c q) ∧ (Io.putAll (vs.take k) (Hd.wds (fs.take k)) L).2.length ≤ L.length + 32 * k) (fun i _ => fs.length - (intOf i).toNat)
        case atStart => exact ⟨0, oa, n, c, Nat.zero_le _, rfl, Mod.of_ext HX.out, by simpa [Io.putAll] using HW.out.ext HX.out, Lib.hid (fun q _ h => h), by simp [Io.putAll]⟩
        case round =>
          obtain ⟨k, oa1, n1, c1', hk, rfl, hm, hw1, HI1, hll⟩ := hrel
          obtain ⟨wo, rfl⟩ : ∃ wo : World, wo = wr := ⟨_, rfl⟩
          have HM := Lib.hid hm
          have HW1 := Lib.hid hw1
          have hle := hm.size
          clear hm hw1
          by_cases hlt : k < fs.length
          · obtain ⟨⟨nk, y⟩, hyk⟩ : ∃ x, fs[k]? = some x := ⟨_, List.getElem?_eq_getElem hlt⟩
            obtain ⟨x, hxk⟩ : ∃ x, vs[k]? = some x := ⟨_, List.getElem?_eq_getElem (by rw [HLEN.out]; exact hlt)⟩
            obtain ⟨hfl, hsr⟩ := HS.out wo HM.out
            obtain ⟨b, o, hoa, _, _⟩ := Rows.at hfl (by omega)
            subst hoa
            obtain ⟨f0, f1, hns, hx1, hx2⟩ := flds_at hfl k nk y hyk rfl
            have hklt : k < vs.length := by rw [HLEN.out]; exact hlt
            cases ua with
            | none => have := HUA.out rfl; omega
            | some ud =>
            obtain ⟨ue, _, cu⟩ := hsr.at (by omega)
            obtain ⟨ub, uo, usp⟩ := ud
            simp only [Addr.mk.injEq, true_and] at ue
            subst ue
            dsimp only at cu
            have f2 := alw (cu k _ (u32s_get hxk))
            have hx0 := HVS.out x (List.mem_of_getElem? hxk)
            obtain ⟨hwr, hst⟩ := Hd.put_step HLEN.out hxk hyk HZ.out L
            have HST := Lib.hid hst
            have HWR := Lib.hid hwr
            have bf := alloc_heap wo (.cells #[.string nk, .int .i64 y] 84)
            have g1 := alw (cell_of (o := 1) bf)
            have hlw := Io.wrL_len (Io.putAll (vs.take k) (Hd.wds (fs.take k)) L).2 x y
            clear hxk hyk hfl hsr cu hst hwr bf
            go_wp2_with fail
            refine wp_region_later_tail (W := wo.alloc (.cells #[.string nk, .int .i64 y] 84)) 7 (by kernel_rfl) (by kernel_rfl) (Ext.refl _) ?_
            simp only [List.take_succ_cons, List.take_zero, List.drop_succ_cons, List.drop_zero]
            repeat (go_big_quiet_step (fail))
            refine wpQuiet_nil ?_
            intro w5 hx5
            have s5 : Step (wo.alloc (.cells #[.string nk, .int .i64 y] 84)) w5 := ⟨hx5⟩
            go_wp2_with fail
            refine (writeBits_any (HW1.out.ext (grows (a := wo) (b := w5))) _ _ hx0 (by omega)).mono ?_
            rintro e w6 ⟨rfl, oa6, n6, c6, m6, k6, i6⟩
            rw [HWR.out]
            have hxo : Ext wo w5 := grows
            have hm6 : Mod (WS p oa n c) w w6 := Mod.comp (HM.out.trans (Mod.of_ext hxo)) m6 (fun i hi hT => HI1.out i hi hT)
            have HI6 : Hid (∀ q, q < w.heap.size → WS p oa6 n6 c6 q → WS p oa n c q) := Lib.hid (fun q hq h => HI1.out q hq (i6 q (by have := hxo.le; omega) h))
            have HM6 := Lib.hid hm6
            have HK6 := Lib.hid k6
            clear hxo hm6 m6 k6 i6 f0 f1 f2 g1
            go_wp2
            go_roundw
            case rel => exact ⟨k + 1, oa6, n6, c6, by omega, by go_num, HM6.out, by rw [HST.out]; exact HK6.out, HI6, by rw [HST.out]; omega⟩
            case measure => simp [intOf]; omega
          · obtain rfl : k = fs.length := by omega
            have hwl : Hd.wL (nm, fs) vs L = (Io.putAll vs (Hd.wds fs) L).2 := by unfold Hd.wL; rw [E1.out, if_pos HZ.out]
            have ht1 : vs.take fs.length = vs := List.take_of_length_le (by rw [HLEN.out]; exact Nat.le_refl _)
            have hwv := HW1.out
            rw [ht1, List.take_length, ← hwl] at hwv
            have HWV := Lib.hid hwv
            clear hwl ht1 hwv
            go_wp2_with fail
            go_ret
            exact ⟨ret_int (by rw [E1.out, HZ.out]), oa1, n1, c1', HM.out, HWV.out, HI1.out⟩
      · have hzb : ((Io.putAll vs (Hd.wds fs) []).1 != 0) = true := by simpa using hz
        have HX := Lib.hid (grows (a := w) (b := w4))
        have hwl : Hd.wL (nm, fs) vs L = L := by unfold Hd.wL; rw [E1.out, if_neg hz]
        have HWL := Lib.hid hwl
        clear hz hwl
        go_wp2_with fail
        go_ret
        exact ⟨ret_int (by rw [E1.out]), oa, n, c, Mod.of_ext HX.out, by rw [HWL.out]; exact HW.out.ext HX.out, fun q _ h => h⟩
    · have hne : ((vs.length : Int) != fs.length) = true := by simp; omega
      have e1 : Hd.wE (nm, fs) vs = 2 := by unfold Hd.wE; rw [if_pos HC.out, if_neg hlen]
      have hwl : Hd.wL (nm, fs) vs L = L := by unfold Hd.wL; rw [e1]; rfl
      rw [e1, hwl]
      clear e1 hwl hlen
      go_enter Try.func47, Try.ntmps47
      go_wp2_with fail
      refine (hcheck_any (nm, fs) HF.out hn).mono ?_
      rintro e w1 ⟨rfl, y1⟩
      rw [HC.out]
      have s1 : Step (w.alloc (.cells #[.string nm, .slice fa fs.length fc] 72)) w1 := ⟨y1⟩
      go_wp2_with fail
      refine (bytes_any (HW.out.ext grows) (by omega)).mono ?_
      rintro e w2 ⟨ur, rfl, y2, o2⟩
      obtain ⟨ura, urc, rfl⟩ := own_slice o2
      have s2 : Step w1 w2 := ⟨y2⟩
      clear o2 y1 y2
      have HX := Lib.hid (grows (a := w) (b := w2))
      go_wp2_with fail
      go_ret
      exact ⟨rfl, oa, n, c, Mod.of_ext HX.out, HW.out.ext HX.out, fun q _ h => h⟩
  · have e1 : Hd.wE (nm, fs) vs = Hd.chk (nm, fs) := by unfold Hd.wE; rw [if_neg hc]
    have hwl : Hd.wL (nm, fs) vs L = L := by unfold Hd.wL; rw [e1, if_neg hc]
    have hcb : (Hd.chk (nm, fs) != 0) = true := by simpa using hc
    rw [e1, hwl]
    clear e1 hwl hc
    go_enter Try.func47, Try.ntmps47
    go_wp2_with fail
    refine (hcheck_any (nm, fs) HF.out hn).mono ?_
    rintro e w1 ⟨rfl, y1⟩
    have s1 : Step (w.alloc (.cells #[.string nm, .slice fa fs.length fc] 72)) w1 := ⟨y1⟩
    have HX := Lib.hid (grows (a := w) (b := w1))
    go_wp2_with fail
    go_ret
    exact ⟨rfl, oa, n, c, Mod.of_ext HX.out, HW.out.ext HX.out, fun q _ h => h⟩
end Go.Proofs.Ytonnlcjkgpahoaa
