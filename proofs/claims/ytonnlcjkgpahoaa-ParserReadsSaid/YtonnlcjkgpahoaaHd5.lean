/- Headers: Read, walked. No condition. -/
import Derived.Test.YtonnlcjkgpahoaaHd4
import Derived.Test.YtonnlcjkgpahoaaIoL6
namespace Go.Proofs.Ytonnlcjkgpahoaa
open Go.RowKit

namespace Hd
def vals (l : List Int) : List Int → Nat → List Int
  | [], _ => []
  | w :: ws, pos => Io.val l pos w.toNat :: vals l ws (pos + w.toNat)
theorem tot_cons (n : Int) (ns : List Int) : tot (n :: ns) = n + tot ns := by simp [tot]
theorem vals_snoc (l : List Int) : ∀ (ws : List Int) (w : Int) (pos : Nat), Wd ws → vals l (ws ++ [w]) pos = vals l ws pos ++ [Io.val l (pos + (tot ws).toNat) w.toNat]
  | [], w, pos, _ => by simp [vals, tot]
  | x :: ws, w, pos, h => by
    have h1 := h x (by simp)
    have h2 : Wd ws := fun n hn => h n (by simp [hn])
    have h3 := tot_bd h2
    simp only [List.cons_append, vals]
    rw [vals_snoc l ws w _ h2, tot_cons]
    congr 4; omega
theorem vals_len (l : List Int) : ∀ (ws : List Int) (pos : Nat), (vals l ws pos).length = ws.length
  | [], _ => rfl
  | w :: ws, pos => by simp [vals, vals_len l ws]
/-- the error of Read, the values, the position behind it -/
def rE (h : Hdr) (l : List Int) (pos : Nat) : Int := if chk h = 0 then (if 8 * (l.length : Int) - pos < tot (wds h.2) then 3 else 0) else chk h
def rV (h : Hdr) (l : List Int) (pos : Nat) : List Int := if rE h l pos = 0 then vals l (wds h.2) pos else []
def rP (h : Hdr) (l : List Int) (pos : Nat) : Nat := if rE h l pos = 0 then pos + (tot (wds h.2)).toNat else pos
theorem rdE_fits {l : List Int} {pos : Nat} {x : Int} (h1 : 1 ≤ x) (h2 : x ≤ 32) (h3 : x ≤ 8 * (l.length : Int) - pos) : Io.rdE l pos x = 0 := by
  unfold Io.rdE; rw [if_pos (Bv.ok_of h1 h2), if_neg (by omega)]
theorem wds_step {fs : List Fld} {k : Nat} {nk : ByteArray} {x : Int} (h : fs[k]? = some (nk, x)) : wds (fs.take (k + 1)) = wds (fs.take k) ++ [x] := by
  unfold wds; rw [List.take_add_one, h]; simp
theorem wds_take {fs : List Fld} {k : Nat} (h : k ≤ fs.length) : (wds (fs.take k)).length = k := by rw [wds_len, List.length_take]; omega
theorem Wd.take {fs : List Fld} (h : Wd (wds fs)) (k : Nat) : Wd (wds (fs.take k)) := by
  intro n hn
  unfold wds at hn
  obtain ⟨g, hg, rfl⟩ := List.mem_map.1 hn
  exact h _ (List.mem_map.2 ⟨g, List.mem_of_mem_take hg, rfl⟩)
theorem Wd.at {fs : List Fld} {k : Nat} {nk : ByteArray} {x : Int} (h : Wd (wds fs)) (hk : fs[k]? = some (nk, x)) : 1 ≤ x ∧ x ≤ 32 :=
  h x (List.mem_map.2 ⟨(nk, x), List.mem_of_getElem? hk, rfl⟩)
theorem tot_mono {fs : List Fld} (h : Wd (wds fs)) (k : Nat) : tot (wds (fs.take k)) ≤ tot (wds fs) := by
  have h1 : wds fs = wds (fs.take k) ++ wds (fs.drop k) := by unfold wds; rw [← List.map_append, List.take_append_drop]
  have h2 : Wd (wds (fs.drop k)) := fun n hn => h n (by rw [h1]; exact List.mem_append.2 (.inr hn))
  have h3 := tot_bd h2
  rw [h1]; unfold tot at *; rw [List.sum_append]; omega
end Hd

set_option maxRecDepth 8000 in
set_option maxHeartbeats 1000000 in
theorem hread_any {w : World} {base p : Nat} {oa : Option Addr} {n c : Nat} {l : List Int} {pos : Nat} (hr : RdrAt w base p oa n c l pos) (h : Hd.Hdr) {v : Value} (hs : ∀ w', Mod (· = p) w w' → Hd.Flds w' v h.2) (hn : h.1.size ≤ maxLen) (hl : l.length ≤ 140737488355328) :
    Calls Try.prog 40 #[.agg #[.string h.1, v], .pointer (some ⟨p, 0, none⟩)] w
      fun e w' => ∃ u, e = .returned (.tuple #[u, .int .i64 (Hd.rE h l pos)]) ∧ Mod (· = p) w w' ∧ RdrAt w' base p oa n c l (Hd.rP h l pos) ∧ w'.ownsRow w.heap.size 64 1 u (Hd.rV h l pos).length (u32s (Hd.rV h l pos)) := by
  obtain ⟨nm, fs⟩ := h
  dsimp only at hs hn ⊢
  obtain ⟨fa, fc, rfl, hlc, hcm⟩ := (hs w (Mod.refl _ _)).slice
  unfold maxLen at hcm
  have HS := Lib.hid hs
  have HR := Lib.hid hr
  have hpl := hr.pos_le
  have hpw : p < w.heap.size := lt_of_block hr.blk
  clear hs hr
  have bb := alloc_heap w (.cells #[.string nm, .slice fa fs.length fc] 72)
  have c0 := alw (cell_of (o := 0) bb)
  have c1 := alw (cell_of (o := 1) bb)
  clear bb
  have HF : Hid (Hd.Flds (w.alloc (.cells #[.string nm, .slice fa fs.length fc] 72)) (.slice fa fs.length fc) fs) := Lib.hid (Hd.Flds.ext (HS.out w (Mod.refl _ _)) ((Ext.refl _).alloc _))
  by_cases hc : Hd.chk (nm, fs) = 0
  · obtain ⟨k1, k2, k3, k4, k5⟩ := Hd.chk_ok hc
    dsimp only at k2 k3 k4
    have htb := Hd.tot_bd k4
    rw [Hd.wds_len] at htb
    have HC := Lib.hid hc
    have HWD := Lib.hid k4
    have hbt : Hd.bts (nm, fs) = Hd.tot (Hd.wds fs) := by unfold Hd.bts; rw [if_pos hc]
    have HBT := Lib.hid hbt
    have hrs : (Io.rsE pos == 1) = false := by unfold Io.rsE; split <;> rfl
    clear hc k1 k4 k5 hbt
    go_enter Try.func40, Try.ntmps40
    go_wp2_with fail
    refine (hcheck_any (nm, fs) HF.out hn).mono ?_
    rintro e w1 ⟨rfl, y1⟩
    rw [HC.out]
    have s1 : Step (w.alloc (.cells #[.string nm, .slice fa fs.length fc] 72)) w1 := ⟨y1⟩
    go_wp2_with fail
    refine (rest_any (HR.out.ext grows) hl).mono ?_
    rintro e w2 ⟨ur, rfl, y2, o2⟩
    obtain ⟨ura, urc, rfl⟩ := own_slice o2
    have s2 : Step w1 w2 := ⟨y2⟩
    have HR2 := Lib.hid (HR.out.ext (grows (a := w) (b := w2)))
    clear o2
    go_wp2_with fail
    refine wp_region_later (W := w2) (by kernel_rfl) (by kernel_rfl) (Ext.refl _) ?_
    repeat (go_big_quiet_step (first
      | (go_at_call 64; exact Rets.later_at (remaining_at (HR2.out.ext (Later.ext _))))
      | (go_at_call 65; exact Rets.later_at (hbits_any (nm, fs) (Hd.Flds.ext HF.out grows) hn))))
    refine wpQuiet_nil ?_
    intro w3 hx3
    have s3 : Step w2 w3 := ⟨hx3⟩
    have hx : Ext w w3 := grows
    have HX := Lib.hid hx
    clear y1 y2 hx3 hx HR2
    rw [HBT.out]
    by_cases hsh : 8 * (l.length : Int) - pos < Hd.tot (Hd.wds fs)
    · have e1 : Hd.rE (nm, fs) l pos = 3 := by unfold Hd.rE; rw [if_pos HC.out, if_pos hsh]
      have e2 : Hd.rV (nm, fs) l pos = [] := by unfold Hd.rV; rw [e1]; rfl
      have e3 : Hd.rP (nm, fs) l pos = pos := by unfold Hd.rP; rw [e1]; rfl
      have E1 := Lib.hid e1
      have E2 := Lib.hid e2
      have E3 := Lib.hid e3
      clear e1 e2 e3
      go_wp2_with fail
      go_ret2
      rw [E1.out, E2.out, E3.out]
      exact ⟨_, rfl, Mod.of_ext HX.out, HR.out.ext HX.out, World.ownsRow_nil _ _ _ _⟩
    · have e1 : Hd.rE (nm, fs) l pos = 0 := by unfold Hd.rE; rw [if_pos HC.out, if_neg hsh]
      have e2 : Hd.rV (nm, fs) l pos = Hd.vals l (Hd.wds fs) pos := by unfold Hd.rV; rw [e1]; rfl
      have e3 : Hd.rP (nm, fs) l pos = pos + (Hd.tot (Hd.wds fs)).toNat := by unfold Hd.rP; rw [e1]; rfl
      have E1 := Lib.hid e1
      have E2 := Lib.hid e2
      have E3 := Lib.hid e3
      have hroom : Hd.tot (Hd.wds fs) ≤ 8 * (l.length : Int) - pos := by omega
      clear e1 e2 e3 hsh
      go_wp2_with fail
      go_loopw [9, 34] (fun o i wr => ∃ (k q : Nat), k ≤ fs.length ∧ i = .int .i64 k ∧ Mod (· = p) w wr ∧ RdrAt wr base p oa n c l q ∧ (q : Int) = pos + Hd.tot (Hd.wds (fs.take k)) ∧ wr.ownsRow w.heap.size 64 1 o k (u32s (Hd.vals l (Hd.wds (fs.take k)) pos))) (fun _ i _ => fs.length - (intOf i).toNat)
      case atStart => exact ⟨0, pos, Nat.zero_le _, rfl, Mod.of_ext HX.out, HR.out.ext HX.out, by simp [Hd.wds, Hd.tot], World.ownsRow_nil _ _ _ _⟩
      case round =>
        obtain ⟨k, q, hk, rfl, hm, hr1, hq, ho⟩ := hrel
        obtain ⟨wo, rfl⟩ : ∃ wo : World, wo = wr := ⟨_, rfl⟩
        obtain ⟨oo, co, rfl⟩ := own_slice ho
        have hle := hm.size
        have HM := Lib.hid hm
        have HR1 := Lib.hid hr1
        have HO := Lib.hid ho
        have HQ := Lib.hid hq
        clear hm hr1 ho
        by_cases hlt : k < fs.length
        · obtain ⟨⟨nk, x⟩, hxk⟩ : ∃ x, fs[k]? = some x := ⟨_, List.getElem?_eq_getElem hlt⟩
          have hfl := HS.out wo HM.out
          obtain ⟨b, o, hoa, _, _⟩ := Rows.at hfl (by omega)
          subst hoa
          obtain ⟨f0, f1, hns, hx1, hx2⟩ := flds_at hfl k nk x hxk rfl
          have hxb := HWD.out.at hxk
          have hws := Hd.wds_step hxk
          have hmono := Hd.tot_mono HWD.out (k + 1)
          rw [hws, Hd.tot_snoc] at hmono
          have hrd : Io.rdE l q x = 0 := Hd.rdE_fits hxb.1 hxb.2 (by omega)
          have hrv : Io.rdV l q x = Io.val l q x.toNat := by unfold Io.rdV; rw [if_pos hrd]
          have hrp : Io.rdP l q x = q + x.toNat := by unfold Io.rdP; rw [if_pos hrd]
          have hvs := Hd.vals_snoc l (Hd.wds (fs.take k)) x pos (HWD.out.take k)
          have htk := Hd.tot_bd (HWD.out.take k)
          rw [show pos + (Hd.tot (Hd.wds (fs.take k))).toNat = q by omega] at hvs
          have HWS := Lib.hid hws
          have HVS := Lib.hid hvs
          have HRD := Lib.hid hrd
          have HRV := Lib.hid hrv
          have HRP := Lib.hid hrp
          have hv := Io.rdV_bd l q x
          rw [hrv] at hv
          clear hxk hfl hws hmono hrd hrv hrp hvs htk hq
          go_wp2_with fail
          refine (readBits_any (HR1.out.ext grows) _).mono ?_
          rintro e w4 ⟨rfl, hm4, hr4⟩
          rw [HRD.out, HRV.out]
          rw [HRP.out] at hr4
          have hm5 := HM.out.trans ((Mod.of_ext (grows (a := wo) (b := wo.alloc (.cells #[.string nk, .int .i64 x] 84)))).trans hm4)
          have ho4 := own_mod (own_now HO.out (w := wo.alloc (.cells #[.string nk, .int .i64 x] 84))) hm4 (fun g hg e1 => by
            obtain ⟨cur, hc⟩ := own_type (own_now HO.out (w := wo.alloc (.cells #[.string nk, .int .i64 x] 84))) hg
            exact ne_of_type hc (HR1.out.ext (grows (b := wo.alloc (.cells #[.string nk, .int .i64 x] 84)))).blk (by decide) e1)
          have HS4 := Lib.hid (src_one w4 (.int .u32 (Io.val l q x.toNat)) 64 rfl)
          have HO4 := Lib.hid (own_ext ho4 ((Ext.refl w4).alloc (.cells #[.int .u32 (Io.val l q x.toNat)] 64)))
          have HM5 := Lib.hid hm5
          have HR4 := Lib.hid hr4
          have hle5 := hm5.size
          have hz4 : w4.cell? ⟨wo.heap.size, 1, none⟩ = some (.int .i64 x) := by
            have := hm4.heap (alloc_heap wo (.cells #[.string nk, .int .i64 x] 84)) (fun e1 => by have := lt_of_block HR1.out.blk; omega)
            exact cell_of this
          clear hm4 hr4 hm5 ho4 f0 f1
          go_wp2_with (at_builtin; refine wpList_append_fresh rfl (.tmp 48) (.tmp 50) 34 rfl w.heap.size 64 (.int .u32 0) 1 4 Try.underlying34 info_u32 rfl (by decide) _ k (u32s (Hd.vals l (Hd.wds (fs.take k)) pos)) rfl HO4.out _ 1 [.int .u32 (Io.val l q x.toNat)] rfl HS4.out ?d1 ?d2 ?d3 ?_)
          case d1 => unfold maxLen; omega
          case d2 => omega
          case d3 => (try simp); omega
          intro v' w' hown hgr _
          have hr5 := (HR4.out.ext ((Ext.refl w4).alloc (.cells #[.int .u32 (Io.val l q x.toNat)] 64))).beside HO4.out (by decide) (by decide) hgr
          have hm6 := Mod.comp (HM5.out.alloc (.cells #[.int .u32 (Io.val l q x.toNat)] 64)) (grown_mod hgr) (fun i hi hT => by have := (HO4.out.lt i hT.symm).1; omega)
          have HA6 := Lib.hid hown
          have HR5 := Lib.hid hr5
          have HM6 := Lib.hid hm6
          clear hgr hown hr5 hm6 hz4
          go_wp2
          go_roundw
          case rel =>
            refine ⟨k + 1, q + x.toNat, by omega, by go_num, HM6.out, HR5.out, ?_, ?_⟩
            · rw [HWS.out, Hd.tot_snoc]; have := HQ.out; omega
            · rw [HWS.out, HVS.out]; simpa [u32s] using HA6.out
          case measure => simp [intOf]; omega
        · obtain rfl : k = fs.length := by omega
          have ho := HO.out
          have hq2 := HQ.out
          rw [List.take_length] at ho hq2
          have HO2 := Lib.hid ho
          have HQ2 := Lib.hid hq2
          clear ho hq2 hq
          go_wp2_with fail
          go_ret2
          rw [E1.out, E2.out, E3.out]
          refine ⟨_, rfl, HM.out, ?_, by rw [Hd.vals_len, Hd.wds_len]; exact HO2.out⟩
          rw [show pos + (Hd.tot (Hd.wds fs)).toNat = q by have := HQ2.out; omega]
          exact HR1.out
  · have e1 : Hd.rE (nm, fs) l pos = Hd.chk (nm, fs) := by unfold Hd.rE; rw [if_neg hc]
    have e2 : Hd.rV (nm, fs) l pos = [] := by unfold Hd.rV; rw [e1, if_neg hc]
    have e3 : Hd.rP (nm, fs) l pos = pos := by unfold Hd.rP; rw [e1, if_neg hc]
    have hcb : (Hd.chk (nm, fs) != 0) = true := by simpa using hc
    rw [e1, e2, e3]
    clear e1 e2 e3 hc
    go_enter Try.func40, Try.ntmps40
    go_wp2_with fail
    refine (hcheck_any (nm, fs) HF.out hn).mono ?_
    rintro e w1 ⟨rfl, y1⟩
    have s1 : Step (w.alloc (.cells #[.string nm, .slice fa fs.length fc] 72)) w1 := ⟨y1⟩
    have HX := Lib.hid (grows (a := w) (b := w1))
    go_wp2_with fail
    go_ret2
    exact ⟨_, rfl, Mod.of_ext HX.out, HR.out.ext HX.out, World.ownsRow_nil _ _ _ _⟩
end Go.Proofs.Ytonnlcjkgpahoaa
