/- Entries: Check, walked. Control flow: Count, Nesting, walked. Control flow: applies, checkNode, walked. Control flow: Check, walked. Control flow: Check, walked. Control flow: Check, walked. No condition. -/
import Derived.Test.YthmokhkkdgnbhaaGreatJqAF
set_option maxRecDepth 8000
set_option maxHeartbeats 16000000
namespace Go.Proofs.YthmokhkkdgnbhaaGreat
open Go.RowKit
namespace Tj
def keE (F : FP) (t : Int) (x : Ent) (i : Nat) : Int := kmE (x.ks.getD i ⟨0, 0⟩) ((tabAt F t).ks.getD i ⟨0, 0, 0⟩).k ((wids F t).getD i 0)
/-- what is wrong with an entry of table t -/
def entE (F : FP) (t : Int) (x : Ent) : Int :=
 if tabI F t ≠ 0 then tabI F t else if x.ks.length ≠ (tabAt F t).ks.length then 2
 else if firstE (keE F t x) (List.range x.ks.length) ≠ 0 then firstE (keE F t x) (List.range x.ks.length)
 else if x.pr < 0 ∨ 255 < x.pr then 9 else if x.pr ≠ 0 ∧ kind F t ≠ 3 then 11 else if allow F t x.cl.a then callE F x.cl else 8
theorem wids_len {F : FP} {t : Int} (h : tabI F t = 0) : (wids F t).length = (tabAt F t).ks.length := by
 unfold wids; rw [if_pos h, List.length_map]
end Tj
theorem echeck_any {W : World} {p : Pg.PV} {F : Tj.FP} (hF : Tj.IsF W p F) (t : Int) {x : Tj.Ent} {xv : Value} (hx : Tj.EntV W xv x) : Calls Tryz.prog 141 #[p.val, .int .i64 t, xv] W (Rets W (.int .i64 (Tj.entE F t x))) := by
 obtain ⟨ea, ec, ga, gc, rfl, _, hks0, har⟩ := hx.form
 have HTC := Lh (fun (w : World) (hx : Ext W w) => tcheck_any (hF.ext hx) t)
 have HWI := Lh (fun (w : World) (hx : Ext W w) => twidths_any (hF.ext hx) t)
 have HKD := Lh (fun (w : World) (hx : Ext W w) => tkind_any (hF.ext hx) t)
 have HAL : Hid (∀ w, Ext W w → Calls Tryz.prog 174 #[p.val, .int .i64 t, .int .i64 x.cl.a] w (Rets w (.bool (Tj.allow F t x.cl.a)))) := Lh (fun w hx => tallow_any (hF.ext hx) t _)
 have HCC := Lh (fun (w : World) (hx : Ext W w) => ccall_any (hF.ext hx) x.cl (har.ext hx))
 obtain ⟨a1, a2, a3, a4, a5, a6, a7, a8, m1, m2, m3, m4, m5, m6, n7, m7, m8, hf⟩ := hF.form
 obtain ⟨rfl, hnm, hhs, hmd, hrs, has, hts, hss, hct, hdp, l1, l2, l3, l4, l5, l6, l7, l8⟩ := hf
 obtain ⟨ks, pr, ca, ar⟩ := x
 obtain ⟨R, hR⟩ : ∃ z, z = Tj.entE F t ⟨ks, pr, ⟨ca, ar⟩⟩ := ⟨_, rfl⟩
 dsimp only [Pg.PV.val] at *
 rw [← hR]
 unfold Tj.entE at hR
 dsimp only at hR
 have HKS0 := Lh hks0
 obtain ⟨_, _, e0, hkl, hkm⟩ := hks0.slice
 simp only [Value.slice.injEq] at e0
 obtain ⟨rfl, _, rfl⟩ := e0
 unfold maxLen at hkm
 have bx := aH W (.cells (Yq0 F a1 m1 a2 m2 a3 m3 a4 m4 a5 m5 a6 m6 a7 m7 n7 a8 m8) 31)
 have k0 := alw (cQ 0 bx)
 have k1 := alw (cQ 1 bx)
 have k2 := alw (cQ 2 bx)
 have k3 := alw (cQ 3 bx)
 have k4 := alw (cQ 4 bx)
 have k5 := alw (cQ 5 bx)
 have k6 := alw (cQ 6 bx)
 have k7 := alw (cQ 7 bx)
 have k8 := alw (cQ 8 bx)
 clear bx
 have bx := aH (W.alloc (.cells (Yq0 F a1 m1 a2 m2 a3 m3 a4 m4 a5 m5 a6 m6 a7 m7 n7 a8 m8) 31)) (.cells #[.slice ea ks.length ec, .int .i64 pr, .int .i64 ca, .slice ga ar.length gc] 65)
 rw [szA] at bx
 have j0 := alw (cQ 0 bx)
 have j1 := alw (cQ 1 bx)
 have j2 := alw (cQ 2 bx)
 have j3 := alw (cQ 3 bx)
 clear bx
 clear hnm hhs hmd hrs has hss hct hdp hF hx hks0 har
 by_cases h0 : Tj.tabI F t = 0
 ·obtain ⟨x, hat, hx0, htA⟩ := Tj.tab_of h0
  obtain ⟨ht0, ht1, hq⟩ := Tj.at_get hat
  obtain ⟨q, rfl⟩ := Int.eq_ofNat_of_zero_le ht0
  rw [Int.toNat_natCast] at hq
  obtain ⟨hk6, _, _⟩ := Tj.tab_ks hx0
  have hwl := Tj.wids_len h0
  rw [htA] at hwl
  rw [if_neg (by simpa using h0), htA] at hR
  rw [h0] at HTC
  obtain ⟨tb, tq, rfl, _, _⟩ := Rows.at hts (by omega)
  obtain ⟨ka, kc, aa, cc, va, vc, hnm2, hbb, hks, hac, har, g0, g1, g2, g3, g4, g5⟩ := tabs_at hts q x hq rfl
  have y1 := alw g1
  have HKS := Lh hks
  obtain ⟨ws, hws⟩ : ∃ z, z = Tj.wids F (q : Int) := ⟨_, rfl⟩
  rw [← hws] at HWI hwl
  have hke : ∀ i, Tj.keE F q ⟨ks, pr, ⟨ca, ar⟩⟩ i = Tj.kmE (ks.getD i ⟨0, 0⟩) (x.ks.getD i ⟨0, 0, 0⟩).k (ws.getD i 0) := fun i => by unfold Tj.keE; rw [htA, ← hws]
  have HKE := Lh hke
  have HWL := Lh hwl
  have hwm : ws.length ≤ 6 := by omega
  clear hts hat hnm2 hbb hks hac har g0 g1 g2 g3 g4 g5 h0 htA hke hws hwl hq hx0
  by_cases hl : ks.length = x.ks.length
  ·rw [if_neg (by simpa using hl)] at hR
   have z0 : ((ks.length : Int) != (x.ks.length : Int)) = false := by rw [hl]; exact bne_self_eq_false _
   have HL := Lh hl
   have HR := Lh hR
   have hk6' : ks.length ≤ 6 := by omega
   clear hR hl
   go_enter Tryz.func141, Tryz.ntmps141
   go_wp2_with fail
   refine (HTC.out _ grows).mono ?_
   rintro e w3 ⟨i3, rfl, x3⟩
   have s3 := Sm x3
   go_wp2_with fail
   refine Rel.region (W := w3) (Rel.tab [(8, fun v w => ∃ oa c, v = .slice oa ws.length c ∧ Ns .i64 w v ws)]) (Rel.tab_lasts (by intro p hp v w w' hr hx; simp only [List.mem_cons, List.not_mem_nil, or_false] at hp; subst hp; obtain ⟨oa, c, e1, e2⟩ := hr; exact ⟨oa, c, e1, e2.ext hx⟩)) (by kernel_rfl) (by kernel_rfl) (eR _) ?_
   refine Rel.chunk 8 rfl rfl rfl ?_
   simp only [tkS, tkZ, dpS, dpZ, Nat.reduceAdd]
   repeat (go_big_quiet_step (fail))
   refine wpQuiet_nil ?_
   refine Rel.callG _ rfl rfl rfl Tryz.func171 (by nofun) (by decide) #[.agg (Yq3 F a1 m1 a2 m2 a3 m3 a4 m4 tb tq m5 a6 m6 a7 m7 n7 a8 m8), .int .i64 q] rfl (fun w hx _ => by refine (HWI.out w ((grows (a := W) (b := w3)).trans hx)).mono ?_; rintro e w9 ⟨sv, he, hx9, ho9⟩; obtain ⟨oa9, c9, rfl⟩ := ns_slice ho9; exact ⟨_, he, hx9, oa9, c9, rfl, ho9⟩) ?_
   intro v8 wq8 _ _ r8
   obtain ⟨oa8, c8, rfl, _⟩ := r8
   simp only [Act.put, stA, stS, stZ]
   refine Rel.chunk 2 rfl rfl rfl ?_
   simp only [tkS, tkZ, dpS, dpZ, Nat.reduceAdd]
   repeat (go_big_quiet_step (fail))
   refine wpQuiet_nil ?_
   refine Rel.fin ?_
   intro w4 x4 hf4
   obtain ⟨_, _, e4, HNW0⟩ := (hf4 8).2 rfl
   simp only [Value.slice.injEq] at e4
   obtain ⟨rfl, _, rfl⟩ := e4
   have HNW := Lh HNW0
   have s4 := Sm x4
   clear hf4 HNW0
   go_wp2_with fail
   go_loopw [41] (fun c wr => ∃ k : Nat, k ≤ ks.length ∧ c = .int .i64 k ∧ Hid (Ext w4 wr ∧ ∀ j, j < k → Tj.keE F q ⟨ks, pr, ⟨ca, ar⟩⟩ j = 0)) (fun c _ => ks.length - (intOf c).toNat)
   case atStart => exact ⟨0, Nat.zero_le _, rfl, Lh ⟨eR _, by intro j hj; omega⟩⟩
   case round =>
    obtain ⟨k, hk, rfl, HZ⟩ := hrel
    have sx : Step w4 wr := ⟨HZ.out.1⟩
    by_cases hlt : k < ks.length
    ·have hlt2 : k < x.ks.length := by rw [← HL.out]; exact hlt
     have hlt3 : k < ws.length := by rw [HWL.out]; exact hlt2
     obtain ⟨⟨x1, x2⟩, hx⟩ : ∃ y, ks[k]? = some y := ⟨_, gE hlt⟩
     obtain ⟨⟨y1, y2, y3⟩, hy⟩ : ∃ y, x.ks[k]? = some y := ⟨_, gE hlt2⟩
     obtain ⟨wd, hw⟩ : ∃ y, ws[k]? = some y := ⟨_, gE hlt3⟩
     obtain ⟨b1, o1, rfl, _, _⟩ := Rows.at HKS0.out (by omega)
     obtain ⟨b2, o2, rfl, _, _⟩ := Rows.at HKS.out (by omega)
     obtain ⟨b3, o3, rfl, hc3⟩ := ns_at HNW.out (by omega)
     obtain ⟨f0, f1, hu1, hu2⟩ := kms_at HKS0.out k _ hx rfl
     obtain ⟨h0, h1, h2⟩ := keys_at HKS.out k _ hy rfl
     dsimp only at f0 f1 h0 h1 h2 hu1 hu2
     have u0 := alw f0
     have u1 := alw f1
     have v2 := alw h2
     have v3 := hc3 k wd hw
     have bx := aH wr (.cells #[.int .u32 x1, .int .u32 x2] 209)
     have r0 := alw (cQ 0 bx)
     have r1 := alw (cQ 1 bx)
     clear bx
     have HKK : Hid (Tj.keE F q ⟨ks, pr, ⟨ca, ar⟩⟩ k = Tj.kmE ⟨x1, x2⟩ y3 wd) := Lh (by rw [HKE.out]; rw [List.getD_eq_getElem?_getD, List.getD_eq_getElem?_getD, List.getD_eq_getElem?_getD, hx, hy, hw]; rfl)
     obtain ⟨ee, hee⟩ : ∃ z, z = Tj.kmE ⟨x1, x2⟩ y3 wd := ⟨_, rfl⟩
     have HCK : Hid (∀ w, Calls Tryz.prog 172 #[.agg #[.int .u32 x1, .int .u32 x2], .int .i64 y3, .int .i64 wd] w (Rets w (.int .i64 ee))) := Lh (fun w => by have h := ckey_any ⟨x1, x2⟩ ⟨hu1, hu2⟩ y3 wd w; rw [← hee] at h; exact h)
     rw [← hee] at HKK
     clear hx hy hw hc3 f0 f1 h0 h1 h2 hee hu1 hu2
     have hlt' : ¬ ((x.ks.length : Int) ≤ k) := by omega
     by_cases hz : ee = 0
     ·subst hz
      go_wp2_with fail
      refine wp_region_later (W := (wr.alloc (.cells #[.int .u32 x1, .int .u32 x2] 209))) (by kernel_rfl) (by kernel_rfl) grows ?_
      repeat (go_big_quiet_step (first | (go_at_call 172; exact Rets.later_at (HCK.out _)) | fail))
      refine wpQuiet_nil ?_
      intro w9 hx9
      have s9 := Sm hx9
      go_wp2_with fail
      go_roundw
      case rel =>
       refine ⟨k + 1, by omega, by go_num, Lh ⟨grows, fun j hj => ?_⟩⟩
       rcases Nat.lt_or_ge j k with h3 | h3
       ·exact HZ.out.2 j h3
       ·obtain rfl : j = k := by omega
        exact HKK.out
      case measure => simp [intOf]; omega
     ·have z1 : (ee != 0) = true := nT hz
      have HE : Hid (R = ee) := Lh (by
       have e := rangeE_at hlt HZ.out.2 (by rw [HKK.out]; exact hz)
       rw [HR.out, if_pos (by rw [e, HKK.out]; exact hz), e, HKK.out])
      clear hz
      go_wp2_with fail
      refine wp_region_later (W := (wr.alloc (.cells #[.int .u32 x1, .int .u32 x2] 209))) (by kernel_rfl) (by kernel_rfl) grows ?_
      repeat (go_big_quiet_step (first | (go_at_call 172; exact Rets.later_at (HCK.out _)) | fail))
      refine wpQuiet_nil ?_
      intro w9 hx9
      have s9 := Sm hx9
      go_wp2_with fail
      go_ret
      exact ⟨ret_int (by rw [HE.out]), grows⟩
    ·obtain rfl : k = ks.length := by omega
     have hR2 : R = if pr < 0 ∨ 255 < pr then 9 else if pr ≠ 0 ∧ Tj.kind F q ≠ 3 then 11 else if Tj.allow F q ca then Tj.callE F ⟨ca, ar⟩ else 8 := by
      rw [HR.out, if_neg (by rw [rangeE_zero HZ.out.2]; simp)]
     obtain ⟨kd, hkd⟩ : ∃ z, z = Tj.kind F q := ⟨_, rfl⟩
     obtain ⟨al, hal⟩ : ∃ z, z = Tj.allow F q ca := ⟨_, rfl⟩
     obtain ⟨ce, hce⟩ : ∃ z, z = Tj.callE F ⟨ca, ar⟩ := ⟨_, rfl⟩
     rw [← hkd] at HKD hR2
     rw [← hal] at HAL hR2
     rw [← hce] at HCC hR2
     clear hkd hal hce
     by_cases hp0 : pr < 0
     ·have HE : Hid (R = 9) := Lh (by rw [hR2, if_pos (.inl hp0)])
      have d1 : decide (pr < 0) = true := dTt (by omega)
      clear hR2
      go_wp2_with fail
      go_ret
      exact ⟨ret_int (by rw [HE.out]), grows⟩
     ·have d1 : decide (pr < 0) = false := dF (by omega)
      by_cases hp1 : 255 < pr
      ·have HE : Hid (R = 9) := Lh (by rw [hR2, if_pos (.inr hp1)])
       have d2 : decide (255 < pr) = true := dTt (by omega)
       clear hR2
       go_wp2_with fail
       go_ret
       exact ⟨ret_int (by rw [HE.out]), grows⟩
      ·have d2 : decide (255 < pr) = false := dF (by omega)
       rw [if_neg (by omega)] at hR2
       have fin : (R = if al then ce else 8) → Hid (R = if al then ce else 8) := fun h => Lh h
       by_cases hpz : pr = 0
       ·have HE := fin (by rw [hR2, if_neg (fun h => h.1 hpz)])
        have z3 : (pr != 0) = false := by rw [hpz]; rfl
        clear hR2 fin hp0 hp1 hpz
        cases al with
        | true =>
         go_wp2_with fail
         refine via (HAL.out _ grows) fun w7 xw7 sw7 => ?_
         go_wp2_with fail
         refine via (HCC.out _ grows) fun w8 xw8 sw8 => ?_
         go_wp2_with fail
         go_ret
         exact ⟨ret_int (by rw [HE.out]; rfl), grows⟩
        | false =>
         go_wp2_with fail
         refine via (HAL.out _ grows) fun w7 xw7 sw7 => ?_
         go_wp2_with fail
         go_ret
         exact ⟨ret_int (by rw [HE.out]; rfl), grows⟩
       ·have z3 : (pr != 0) = true := nT hpz
        by_cases hk3 : kd = 3
        ·have HE := fin (by rw [hR2, if_neg (fun h => h.2 hk3)])
         have z4 : (kd != 3) = false := by rw [hk3]; rfl
         clear hR2 fin hp0 hp1 hpz hk3
         cases al with
         | true =>
          go_wp2_with fail
          refine via (HKD.out _ grows) fun w6 xw6 sw6 => ?_
          go_wp2_with fail
          refine via (HAL.out _ grows) fun w7 xw7 sw7 => ?_
          go_wp2_with fail
          refine via (HCC.out _ grows) fun w8 xw8 sw8 => ?_
          go_wp2_with fail
          go_ret
          exact ⟨ret_int (by rw [HE.out]; rfl), grows⟩
         | false =>
          go_wp2_with fail
          refine via (HKD.out _ grows) fun w6 xw6 sw6 => ?_
          go_wp2_with fail
          refine via (HAL.out _ grows) fun w7 xw7 sw7 => ?_
          go_wp2_with fail
          go_ret
          exact ⟨ret_int (by rw [HE.out]; rfl), grows⟩
        ·have HE : Hid (R = 11) := Lh (by rw [hR2, if_pos ⟨hpz, hk3⟩])
         have z4 : (kd != 3) = true := nT hk3
         clear hR2 fin hp0 hp1 hpz hk3
         go_wp2_with fail
         refine via (HKD.out _ grows) fun w6 xw6 sw6 => ?_
         go_wp2_with fail
         go_ret
         exact ⟨ret_int (by rw [HE.out]), grows⟩
  ·have HE : Hid (R = 2) := Lh (by rw [hR, if_pos hl])
   have z0 : ((ks.length : Int) != (x.ks.length : Int)) = true := nT (by omega)
   clear hR hl
   go_enter Tryz.func141, Tryz.ntmps141
   go_wp2_with fail
   refine (HTC.out _ grows).mono ?_
   rintro e w3 ⟨i3, rfl, x3⟩
   have s3 := Sm x3
   go_wp2_with fail
   refine Rel.region (W := w3) (Rel.tab [(8, fun v w => ∃ oa c, v = .slice oa ws.length c ∧ Ns .i64 w v ws)]) (Rel.tab_lasts (by intro p hp v w w' hr hx; simp only [List.mem_cons, List.not_mem_nil, or_false] at hp; subst hp; obtain ⟨oa, c, e1, e2⟩ := hr; exact ⟨oa, c, e1, e2.ext hx⟩)) (by kernel_rfl) (by kernel_rfl) (eR _) ?_
   refine Rel.chunk 8 rfl rfl rfl ?_
   simp only [tkS, tkZ, dpS, dpZ, Nat.reduceAdd]
   repeat (go_big_quiet_step (fail))
   refine wpQuiet_nil ?_
   refine Rel.callG _ rfl rfl rfl Tryz.func171 (by nofun) (by decide) #[.agg (Yq3 F a1 m1 a2 m2 a3 m3 a4 m4 tb tq m5 a6 m6 a7 m7 n7 a8 m8), .int .i64 q] rfl (fun w hx _ => by refine (HWI.out w ((grows (a := W) (b := w3)).trans hx)).mono ?_; rintro e w9 ⟨sv, he, hx9, ho9⟩; obtain ⟨oa9, c9, rfl⟩ := ns_slice ho9; exact ⟨_, he, hx9, oa9, c9, rfl, ho9⟩) ?_
   intro v8 wq8 _ _ r8
   obtain ⟨oa8, c8, rfl, _⟩ := r8
   simp only [Act.put, stA, stS, stZ]
   refine Rel.chunk 2 rfl rfl rfl ?_
   simp only [tkS, tkZ, dpS, dpZ, Nat.reduceAdd]
   repeat (go_big_quiet_step (fail))
   refine wpQuiet_nil ?_
   refine Rel.fin ?_
   intro w4 x4 hf4
   obtain ⟨_, _, e4, HNW0⟩ := (hf4 8).2 rfl
   simp only [Value.slice.injEq] at e4
   obtain ⟨rfl, _, rfl⟩ := e4
   have HNW := Lh HNW0
   have s4 := Sm x4
   clear hf4 HNW0
   go_wp2_with fail
   go_ret
   exact ⟨ret_int (by rw [HE.out]), grows⟩
 ·rw [if_pos (by simpa using h0)] at hR
  have HE := Lh hR
  have z1 : (Tj.tabI F t != 0) = true := nT h0
  obtain ⟨te, hte⟩ : ∃ z, z = Tj.tabI F t := ⟨_, rfl⟩
  rw [← hte] at HTC HE z1
  clear hR h0 hts hte
  go_enter Tryz.func141, Tryz.ntmps141
  go_wp2_with fail
  refine (HTC.out _ grows).mono ?_
  rintro e w3 ⟨i3, rfl, x3⟩
  have s3 := Sm x3
  go_wp2_with fail
  go_ret
  exact ⟨ret_int (by rw [HE.out]), grows⟩
namespace Tj
/-- a program in memory, with a control flow of a size that can be counted -/
def IsG (w : World) (p : Pg.PV) (F : FP) : Prop := IsF w p F ∧ F.cs.length ≤ 1048576 ∧ Pg.CapP p
theorem IsG.ext {w w' : World} {p : Pg.PV} {F : FP} (h : IsG w p F) (hx : Ext w w') : IsG w' p F := ⟨h.1.ext hx, h.2⟩
theorem flat_cons (x : NT) (l : List NT) : flat (x :: l) = x.d :: (x.tl ++ x.el) ++ flat l := rfl
theorem flat_snoc (l : List NT) (x : NT) : flat (l ++ [x]) = flat l ++ (x.d :: (x.tl ++ x.el)) := by
 unfold flat; rw [List.flatMap_append]; simp [NT.all]
theorem flat_take {ns : List NT} {k : Nat} {x : NT} (h : ns[k]? = some x) : flat (ns.take (k + 1)) = flat (ns.take k) ++ (x.d :: (x.tl ++ x.el)) := by
 rw [List.take_add_one, h]; exact flat_snoc _ _
theorem flat_split {ns : List NT} {k : Nat} {x : NT} (h : ns[k]? = some x) : flat ns = flat (ns.take k) ++ (x.d :: (x.tl ++ x.el)) ++ flat (ns.drop (k + 1)) := by
 obtain ⟨hlt, e⟩ := List.getElem?_eq_some_iff.1 h
 have h1 : ns = (ns.take k ++ [x]) ++ ns.drop (k + 1) := by
  rw [List.append_assoc, ← e, List.singleton_append, List.getElem_cons_drop, List.take_append_drop]
 have h2 : flat ns = flat ((ns.take k ++ [x]) ++ ns.drop (k + 1)) := by rw [← h1]
 rw [h2]
 show (List.flatMap NT.all ((ns.take k ++ [x]) ++ ns.drop (k + 1))) = _
 rw [List.flatMap_append]
 show flat (ns.take k ++ [x]) ++ flat (ns.drop (k + 1)) = _
 rw [flat_snoc]
theorem nodes_at {n : Nat} {w : World} {b o q c : Nat} {ns : List NT} {oa : Option Addr} (h : Rows w 5 (NodeR n) (.slice oa q c) ns) (k : Nat) (x : NT) (hk : ns[k]? = some x) (hoa : oa = some ⟨b, o, none⟩) :
 ∃ ca cc ta tn tc ea en ec, (B64 x.d.k ∧ B64 x.d.t) ∧ Exp w (.slice ca x.d.c.length cc) x.d.c ∧ Ctl n w (.slice ta tn tc) x.tl x.tn x.d.th ∧ Ctl n w (.slice ea en ec) x.el x.en x.d.el ∧ (tn = x.d.th ∧ en = x.d.el) ∧
  w.cell? ⟨b, o + k * 5, none⟩ = some (.int .i64 x.d.k) ∧ w.cell? ⟨b, o + k * 5 + 1, none⟩ = some (.int .i64 x.d.t) ∧ w.cell? ⟨b, o + k * 5 + 2, none⟩ = some (.slice ca x.d.c.length cc) ∧
  w.cell? ⟨b, o + k * 5 + 3, none⟩ = some (.slice ta tn tc) ∧ w.cell? ⟨b, o + k * 5 + 4, none⟩ = some (.slice ea en ec) := by
 obtain ⟨b', o', e, _, h4⟩ := h.at (by have := (List.getElem?_eq_some_iff.1 hk).1; omega)
 rw [hoa] at e
 simp only [Option.some.injEq, Addr.mk.injEq, and_true] at e
 obtain ⟨rfl, rfl⟩ := e
 obtain ⟨cs, _, ⟨cv, tv, ev, rfl, h1, h2, h3, h5⟩, hc⟩ := h4 k x hk
 obtain ⟨ca, cc, rfl, _⟩ := h2.slice
 obtain ⟨ta, tc, rfl, _⟩ := h3.slice
 obtain ⟨ea, ec, rfl, _⟩ := h5.slice
 exact ⟨ca, cc, ta, _, tc, ea, _, ec, h1, h2, h3, h5, ⟨rfl, rfl⟩, hc 0 _ rfl, hc 1 _ rfl, hc 2 _ rfl, hc 3 _ rfl, hc 4 _ rfl⟩
def mx (l : List Nat) : Nat := l.foldr max 0
theorem mx_snoc (l : List Nat) (x : Nat) : mx (l ++ [x]) = max (mx l) x := by
 unfold mx
 induction l with
 | nil => simp
 | cons y l ih => simp only [List.cons_append, List.foldr_cons, ih]; omega
theorem mx_take {ns : List NT} {k : Nat} {x : NT} (h : ns[k]? = some x) : mx ((ns.take (k + 1)).map NT.nest) = max (mx ((ns.take k).map NT.nest)) (max x.tn x.en) := by
 rw [List.take_add_one, h]
 show mx ((ns.take k ++ [x]).map NT.nest) = _
 rw [List.map_append]; exact mx_snoc _ _
theorem deep_eq {ns : List NT} (h : ns ≠ []) : deep ns = 1 + mx (ns.map NT.nest) := by unfold deep mx; rw [if_neg h]
end Tj
/-- the boxes of nodes are kept -/
def KeepN (w w' : World) : Prop := ∀ (k : Nat) (c : Array Value) (f : Nat × Nat), w.heap[k]? = some (.cells c 113 f) → w'.heap[k]? = some (.cells c 113 f)
theorem KeepN.refl (w : World) : KeepN w w := fun _ _ _ h => h
theorem KeepN.trans {a b c : World} (h : KeepN a b) (g : KeepN b c) : KeepN a c := fun k c f hk => g k c f (h k c f hk)
theorem KeepN.of_ext {a b : World} (h : Ext a b) : KeepN a b := fun _ _ _ hk => h.heap hk
theorem KeepN.set {w : World} {p o : Nat} {c : Array Value} {t : TypeId} {f : Nat × Nat} (h : w.heap[p]? = some (.cells c t f)) (hne : t ≠ 113) (v : Value) : KeepN w (w.setCell ⟨p, o, none⟩ v) := fun k c' f' hk => by
 have hkp : k ≠ p := by
  intro e; subst e; rw [h] at hk; simp only [Option.some.injEq, Obj.cells.injEq] at hk; exact hne hk.2.1
 rw [Below.heap_setCell _ _ _ _ (by first | exact hkp | exact fun e => hkp e.symm)]; exact hk
theorem run_max3 {P : Program} (w : World) (ts : Array TypeId) (t : TypeId) (x y z : Int) : (Builtin.max_ ts t #[.int .i64 x, .int .i64 y, .int .i64 z]).run P w = .ok (.int .i64 (max x (max y z))) w := by
 have e : ∀ a b : Int, (if b > a then b else a) = max a b := fun a b => by
  rw [Int.max_def]
  split <;> split <;> omega
 have e3 : max (max x y) z = max x (max y z) := by omega
 simp [Builtin.max_, Builtin.max2, e, e3]
/-- Count's variable holds n -/
def CntS (W : World) (cb : Nat) (n : Nat) (w : World) : Prop := Ext W w ∧ W.heap.size ≤ cb ∧ w.heap[cb]? = some (.cells #[.int .i64 n] 3 (0, 0))
theorem count1_any {W w : World} {cb n : Nat} (h : CntS W cb n w) (hn : n ≤ 1048576) (v0 v1 v2 v3 v4 : Value) : Calls Tryz.prog 169 #[.agg #[v0, v1, v2, v3, v4], .pointer (some ⟨cb, 0, none⟩)] w fun e w' => e = .returned (.bool true) ∧ CntS W cb (n + 1) w' ∧ KeepN w w' := by
 obtain ⟨hx, hb, hc⟩ := h
 have c0 := alw (cQ 0 hc)
 have f0 := alwF (o := 0) hc
 have hcb : cb < w.heap.size := lt_of_block hc
 have HC := Lh hc
 have HX := Lh hx
 clear hc hx
 go_enter Tryz.func169, Tryz.ntmps169
 go_wp2_with fail
 go_ret
 exact ⟨rfl, ⟨(HX.out.setCell hb _).alloc _, hb, ((eR _).alloc _).heap (by rw [setCell_heap HC.out]; simp)⟩, (KeepN.set HC.out (by decide) _).trans (KeepN.of_ext ((eR _).alloc _))⟩
abbrev Yq19 (x : Tj.NT) (ca : Option Addr) (cc : Nat) (ta : Option Addr) (tc : Nat) (ea : Option Addr) (ec : Nat) : Array Value := #[.int .i64 x.d.k, .int .i64 x.d.t, .slice ca x.d.c.length cc, .slice ta x.d.th tc, .slice ea x.d.el ec]
theorem precount_any {W : World} {cb : Nat} : ∀ (n : Nat) (v : Value) (l : List Tj.CN) (d m : Nat), Tj.Ctl n W v l d m → ∀ (i : Nat) (w : World), CntS W cb i w → i + l.length ≤ 1048576 →
 Calls Tryz.prog 136 #[v, .func (.func 169) #[] #[.pointer (some ⟨cb, 0, none⟩)]] w fun e w' => e = .returned (.bool true) ∧ CntS W cb (i + l.length) w' ∧ KeepN w w' := by
 intro n
 induction n with
 | zero => intro v l d m h; exact h.elim
 | succ n ih =>
  intro v l d m h i w hs hil
  rw [Tj.ctl_succ] at h
  obtain ⟨ns, hns, rfl, rfl, rfl⟩ := h
  obtain ⟨oa, c, rfl, hlc, hcm⟩ := hns.slice
  unfold maxLen at hcm
  have HNS := Lh hns
  have HIH := Lh ih
  have HS := Lh hs
  clear hns ih hs
  go_enter Tryz.func136, Tryz.ntmps136
  go_wp2_with fail
  go_loopw [9] (fun q wr => ∃ k : Nat, k ≤ ns.length ∧ q = .int .i64 k ∧ Hid (CntS W cb (i + (Tj.flat (ns.take k)).length) wr ∧ KeepN w wr)) (fun q _ => ns.length - (intOf q).toNat)
  case atStart => exact ⟨0, Nat.zero_le _, rfl, Lh ⟨HS.out, KeepN.refl _⟩⟩
  case round =>
   obtain ⟨k, hk1, rfl, HZ⟩ := hrel
   have sx : Step W wr := ⟨HZ.out.1.1⟩
   by_cases hlt : k < ns.length
   ·obtain ⟨x, hk⟩ : ∃ x, ns[k]? = some x := ⟨_, gE hlt⟩
    obtain ⟨b, o, rfl, _, _⟩ := Rows.at HNS.out (by omega)
    obtain ⟨ca, cc, ta, tn, tc, ea, en, ec, _, hcx, htl, hel, ⟨rfl, rfl⟩, g0, g1, g2, g3, g4⟩ := Tj.nodes_at HNS.out k x hk rfl
    have y0 := alw g0
    have y1 := alw g1
    have y2 := alw g2
    have y3 := alw g3
    have y4 := alw g4
    have hft := Tj.flat_take hk
    have hsp := Tj.flat_split hk
    have hlen : (Tj.flat (ns.take k)).length + (1 + (x.tl.length + x.el.length)) ≤ (Tj.flat ns).length := by
     rw [hsp]; simp only [List.length_append, List.length_cons]; omega
    have hlt' : (Tj.flat (ns.take (k + 1))).length = (Tj.flat (ns.take k)).length + (1 + (x.tl.length + x.el.length)) := by
     rw [hft]; simp only [List.length_append, List.length_cons]; omega
    have HL := Lh hlen
    have HLT := Lh hlt'
    have HTL := Lh (fun i w h1 h2 => HIH.out _ _ _ _ htl i w h1 h2)
    have HEL := Lh (fun i w h1 h2 => HIH.out _ _ _ _ hel i w h1 h2)
    obtain ⟨fl, hfl⟩ : ∃ z, z = (Tj.flat (ns.take k)).length := ⟨_, rfl⟩
    rw [← hfl] at HL HLT HZ
    have bx := aH wr (.cells (Yq19 x ca cc ta tc ea ec) 113)
    clear bx
    have bn := aH wr (.cells (Yq19 x ca cc ta tc ea ec) 113)
    have BN := Lh bn
    have m0 := alw (cQ 0 bn)
    have m1 := alw (cQ 1 bn)
    have m2 := alw (cQ 2 bn)
    have m3 := alw (cQ 3 bn)
    have m4 := alw (cQ 4 bn)
    have HC1 : Hid (CntS W cb (i + fl) (wr.alloc (.cells (Yq19 x ca cc ta tc ea ec) 113))) := Lh ⟨HZ.out.1.1.alloc _, HZ.out.1.2.1, ((eR wr).alloc _).heap HZ.out.1.2.2⟩
    clear bn hk hcx htl hel g0 g1 g2 g3 g4 hft hsp hlen hlt'
    go_wp2_with fail
    refine (count1_any HC1.out (by have := HL.out; omega) _ _ _ _ _).mono ?_
    rintro e w5 ⟨rfl, hs5, hk5⟩
    have h5 := hk5 _ _ _ BN.out
    have t3 : w5.cell? ⟨wr.heap.size, 3, none⟩ = some (.slice ta x.d.th tc) := cell_of h5
    have HS5 := Lh hs5
    have HK5 := Lh hk5
    have H5 := Lh h5
    clear hs5 hk5 h5
    go_wp2_with fail
    refine (HTL.out _ _ HS5.out (by have := HL.out; omega)).mono ?_
    rintro e w6 ⟨rfl, hs6, hk6⟩
    have h6 := hk6 _ _ _ H5.out
    have t4 : w6.cell? ⟨wr.heap.size, 4, none⟩ = some (.slice ea x.d.el ec) := cell_of h6
    have HS6 := Lh hs6
    have HK6 := Lh hk6
    clear hs6 hk6 h6
    go_wp2_with fail
    refine (HEL.out _ _ HS6.out (by have := HL.out; omega)).mono ?_
    rintro e w7 ⟨rfl, hs7, hk7⟩
    have HS7 := Lh hs7
    have HK7 := Lh hk7
    clear hs7 hk7
    go_wp2_with fail
    go_roundw
    case rel =>
     refine ⟨k + 1, by omega, by go_num, Lh ⟨?_, (HZ.out.2.trans (KeepN.of_ext ((eR _).alloc _))).trans ((HK5.out.trans HK6.out).trans HK7.out)⟩⟩
     have e : i + (Tj.flat (ns.take (k + 1))).length = i + fl + 1 + x.tl.length + x.el.length := by rw [HLT.out]; omega
     rw [e]; exact HS7.out
    case measure => simp [intOf]; omega
   ·obtain rfl : k = ns.length := by omega
    go_wp2_with fail
    go_ret
    refine ⟨rfl, ?_, HZ.out.2⟩
    have h := HZ.out.1
    rw [List.take_length] at h
    exact h
theorem count_any {W : World} {n : Nat} {v : Value} {l : List Tj.CN} {d m : Nat} (h : Tj.Ctl n W v l d m) (hl : l.length ≤ 1048576) : Calls Tryz.prog 134 #[v] W (Rets W (.int .i64 l.length)) := by
 obtain ⟨oa, c, rfl, _, _⟩ := h.slice
 have hb := aH W (.cells #[.int .i64 0] 3)
 have HP := Lh (precount_any (W := W) (cb := W.heap.size) n _ l d m h 0 (W.alloc (.cells #[.int .i64 0] 3)) ⟨(eR W).alloc _, Nat.le_refl _, hb⟩ (by omega))
 have hmf : ∀ (fn : Fn) (first cap : Array Value) (w : World), (Instr.makeFunc fn first cap).run Tryz.prog w = .ok (.func fn first cap) w := fun _ _ _ _ => rfl
 clear h hb
 go_enter Tryz.func134, Tryz.ntmps134
 go_wp2_with fail
 refine HP.out.mono ?_
 rintro e w5 ⟨rfl, ⟨hx, _, hc⟩, _⟩
 have c0 := cQ 0 hc
 rw [Nat.zero_add] at c0
 have HX := Lh hx
 clear hc hx
 go_wp2_with fail
 go_ret
 exact ⟨rfl, HX.out⟩
namespace Tj
theorem mx_le {l : List Nat} {B : Nat} (h : ∀ x ∈ l, x ≤ B) : mx l ≤ B := by
 unfold mx
 induction l with
 | nil => exact Nat.zero_le _
 | cons y l ih =>
  rw [List.foldr_cons]
  exact Nat.max_le.2 ⟨h y (by simp), ih (fun x hx => h x (by simp [hx]))⟩
theorem ctl_deep : ∀ {n : Nat} {w : World} {v : Value} {l : List CN} {d m : Nat}, Ctl n w v l d m → d ≤ l.length
 | 0, _, _, _, _, _, h => h.elim
 | n + 1, w, v, l, d, m, h => by
  rw [ctl_succ] at h
  obtain ⟨ns, h1, rfl, rfl, _⟩ := h
  by_cases h0 : ns = []
  ·subst h0; exact Nat.zero_le _
  ·rw [deep_eq h0]
   have hm : mx (ns.map NT.nest) ≤ (flat ns).length - 1 := by
    refine mx_le (fun y hy => ?_)
    obtain ⟨x, hx, rfl⟩ := List.mem_map.1 hy
    obtain ⟨k, hk, rfl⟩ := List.mem_iff_getElem.1 hx
    have hk' := gE hk
    rcases h1 with ⟨_, e⟩ | ⟨ad, c, _, _, _, _, h4⟩
    ·exact absurd e h0
    ·obtain ⟨cs, _, ⟨cv, tv, ev, _, _, _, g1, g2⟩, _⟩ := h4 k _ hk'
     have a1 := ctl_deep g1
     have a2 := ctl_deep g2
     have := flat_split hk'
     have hl : (flat ns).length = (flat (ns.take k)).length + (1 + ((ns[k]).tl.length + (ns[k]).el.length)) + (flat (ns.drop (k + 1))).length := by
      rw [this]; simp only [List.length_append, List.length_cons]; omega
     unfold NT.nest
     omega
   have hp : 0 < (flat ns).length := by
    cases ns with
    | nil => exact absurd rfl h0
    | cons x l => rw [flat_cons]; simp
   omega
end Tj
theorem nest_any {W : World} : ∀ (n : Nat) (v : Value) (l : List Tj.CN) (d m : Nat), Tj.Ctl n W v l d m → l.length ≤ 1048576 → ∀ w, Ext W w → Calls Tryz.prog 135 #[v] w (Rets w (.int .i64 d)) := by
 intro n
 induction n with
 | zero => intro v l d m h; exact h.elim
 | succ n ih =>
  intro v l d m h hl w hw
  have hdl := Tj.ctl_deep h
  rw [Tj.ctl_succ] at h
  obtain ⟨ns, hns, rfl, rfl, rfl⟩ := h
  obtain ⟨oa, c, rfl, hlc, hcm⟩ := hns.slice
  unfold maxLen at hcm
  have HNS := Lh hns
  have HIH := Lh ih
  have sw := Sm hw
  clear hns ih hw
  by_cases h0 : ns = []
  ·subst h0
   go_enter Tryz.func135, Tryz.ntmps135
   go_wp2_with fail
   go_ret
   exact ⟨rfl, eR _⟩
  ·have hpos : 0 < ns.length := List.length_pos_iff.2 h0
   have z0 : ((ns.length : Int) == 0) = false := bF (by omega)
   have hde := Tj.deep_eq h0
   rw [hde] at hdl
   have HDE := Lh hde
   obtain ⟨D, hD⟩ : ∃ z, z = Tj.mx (ns.map Tj.NT.nest) := ⟨_, rfl⟩
   rw [← hD] at hdl HDE
   have HD := Lh hD
   clear h0 hde hD
   go_enter Tryz.func135, Tryz.ntmps135
   go_wp2_with fail
   go_loopw [3, 11] (fun u q wr => ∃ k : Nat, k ≤ ns.length ∧ q = .int .i64 k ∧ ∃ b : Nat, u = .int .i64 b ∧ b ≤ D ∧ Hid (Ext w wr ∧ b = Tj.mx ((ns.take k).map Tj.NT.nest))) (fun _ q _ => ns.length - (intOf q).toNat)
   case atStart => exact ⟨0, Nat.zero_le _, rfl, 0, rfl, Nat.zero_le _, Lh ⟨eR _, rfl⟩⟩
   case round =>
    obtain ⟨k, hk1, rfl, b, rfl, hb, HZ⟩ := hrel
    have sx : Step w wr := ⟨HZ.out.1⟩
    by_cases hlt : k < ns.length
    ·obtain ⟨x, hk⟩ : ∃ x, ns[k]? = some x := ⟨_, gE hlt⟩
     obtain ⟨b', o, rfl, _, _⟩ := Rows.at HNS.out (by omega)
     obtain ⟨ca, cc, ta, tn, tc, ea, en, ec, _, hcx, htl, hel, ⟨rfl, rfl⟩, g0, g1, g2, g3, g4⟩ := Tj.nodes_at HNS.out k x hk rfl
     have y0 := alw g0
     have y1 := alw g1
     have y2 := alw g2
     have y3 := alw g3
     have y4 := alw g4
     have hsp := Tj.flat_split hk
     have hlen : (Tj.flat (ns.take k)).length + (1 + (x.tl.length + x.el.length)) ≤ (Tj.flat ns).length := by
      rw [hsp]; simp only [List.length_append, List.length_cons]; omega
     have hmt := Tj.mx_take hk
     have hmle : Tj.mx ((ns.take (k + 1)).map Tj.NT.nest) ≤ D := by
      rw [HD.out]
      refine Tj.mx_le (fun y hy => ?_)
      have hy2 : y ∈ ns.map Tj.NT.nest := by
       rw [List.map_take] at hy
       exact List.mem_of_mem_take hy
      have key : ∀ (l : List Nat) (y : Nat), y ∈ l → y ≤ Tj.mx l := by
       intro l
       induction l with
       | nil => intro y hy; cases hy
       | cons a l ih2 =>
        intro y hy
        show y ≤ max a (Tj.mx l)
        rcases List.mem_cons.1 hy with rfl | hy
        ·omega
        ·have := ih2 y hy; omega
      exact key _ y hy2
     have HMT := Lh hmt
     have HML := Lh hmle
     have HTL : Hid (∀ w, Ext W w → Calls Tryz.prog 135 #[.slice ta x.d.th tc] w (Rets w (.int .i64 x.tn))) := Lh (fun w h => HIH.out _ _ _ _ htl (by omega) w h)
     have HEL : Hid (∀ w, Ext W w → Calls Tryz.prog 135 #[.slice ea x.d.el ec] w (Rets w (.int .i64 x.en))) := Lh (fun w h => HIH.out _ _ _ _ hel (by omega) w h)
     have ht2 := Tj.ctl_deep htl
     have he2 := Tj.ctl_deep hel
     have bt : x.tn ≤ 1048576 := by omega
     have be : x.en ≤ 1048576 := by omega
     have bx := aH wr (.cells (Yq19 x ca cc ta tc ea ec) 113)
     have m0 := alw (cQ 0 bx)
     have m1 := alw (cQ 1 bx)
     have m2 := alw (cQ 2 bx)
     have m3 := alw (cQ 3 bx)
     have m4 := alw (cQ 4 bx)
     clear bx
     obtain ⟨r, hr⟩ : ∃ z, z = max b (max x.tn x.en) := ⟨_, rfl⟩
     have HR : Hid (r = Tj.mx ((ns.take (k + 1)).map Tj.NT.nest)) := Lh (by rw [hmt, hr, HZ.out.2])
     have hmax : ∀ w, (Builtin.max_ #[3, 3, 3] 3 #[.int .i64 (b : Int), .int .i64 (x.tn : Int), .int .i64 (x.en : Int)]).run Tryz.prog w = .ok (.int .i64 (r : Int)) w := fun w => by
      rw [run_max3, show max (b : Int) (max (x.tn : Int) (x.en : Int)) = (r : Int) by rw [hr]; omega]
     clear hk hcx htl hel g0 g1 g2 g3 g4 hsp hlen hmt hmle ht2 he2 hr
     go_wp2_with fail
     refine wp_region_later (W := (wr.alloc (.cells (Yq19 x ca cc ta tc ea ec) 113))) (by kernel_rfl) (by kernel_rfl) grows ?_
     repeat (go_big_quiet_step (fail))
     go_big_quiet_step (first | (go_at_call 135; exact Rets.later_at (HTL.out _ grows)) | fail)
     repeat (go_big_quiet_step (fail))
     go_big_quiet_step (first | (go_at_call 135; exact Rets.later_at (HEL.out _ grows)) | fail)
     repeat (go_big_quiet_step (fail))
     refine wpQuiet_nil ?_
     intro w9 hx9
     have s9 := Sm hx9
     go_wp2_with fail
     go_roundw
     case rel => exact ⟨k + 1, by omega, by go_num, r, rfl, by rw [HR.out]; exact HML.out, Lh ⟨grows, HR.out⟩⟩
     case measure => simp [intOf]; omega
    ·obtain rfl : k = ns.length := by omega
     have hbD : b = D := by rw [HZ.out.2, List.take_length, HD.out]
     subst hbD
     go_wp2_with fail
     go_ret
     exact ⟨ret_int (by rw [HDE.out]; omega), grows⟩
theorem applies_any (x : Tj.CN) (ca ta ea : Option Addr) (cc tc ec : Nat) (W : World) : Calls Tryz.prog 139 #[.agg #[.int .i64 x.k, .int .i64 x.t, .slice ca x.c.length cc, .slice ta x.th tc, .slice ea x.el ec]] W (Rets W (.bool (Tj.apl x))) := by
 obtain ⟨nk, nt, c, th, el⟩ := x
 dsimp only
 obtain ⟨R, hR⟩ : ∃ z, z = Tj.apl ⟨nk, nt, c, th, el⟩ := ⟨_, rfl⟩
 rw [← hR]
 unfold Tj.apl at hR
 dsimp only at hR
 have bx := aH W (.cells #[.int .i64 nk, .int .i64 nt, .slice ca c.length cc, .slice ta th tc, .slice ea el ec] 113)
 have k0 := alw (cQ 0 bx)
 have k1 := alw (cQ 1 bx)
 have k2 := alw (cQ 2 bx)
 have k3 := alw (cQ 3 bx)
 have k4 := alw (cQ 4 bx)
 clear bx
 by_cases h1 : nk = 1
 ·subst h1
  have HE : Hid (R = true) := Lh (by rw [hR]; rfl)
  clear hR
  go_enter Tryz.func139, Tryz.ntmps139
  go_wp2_with fail
  go_ret
  exact ⟨ret_bool (by rw [HE.out]), grows⟩
 ·have e1 : (nk == 1) = false := bF (by omega)
  rw [e1, Bool.false_or] at hR
  have HE := Lh hR
  clear hR h1
  go_enter Tryz.func139, Tryz.ntmps139
  go_wp2_with fail
  go_ret
  exact ⟨ret_bool (by rw [HE.out]), grows⟩
theorem cnode_any {W : World} {p : Pg.PV} {F : Tj.FP} (hF : Tj.IsF W p F) (x : Tj.CN) {ca : Option Addr} {cc : Nat} (hc : Tj.Exp W (.slice ca x.c.length cc) x.c) (ta ea : Option Addr) (tc ec : Nat) (hte : x.th + x.el ≤ 1048576) {uv : Value} {us : List Int} (hu : Ns .i64 W uv us) :
 Calls Tryz.prog 138 #[p.val, .agg #[.int .i64 x.k, .int .i64 x.t, .slice ca x.c.length cc, .slice ta x.th tc, .slice ea x.el ec], uv] W (Rets W (.int .i64 (Tj.nodeE F us x))) := by
 have HXC := Lh (fun (w : World) (hx : Ext W w) => xcheck_any (hF.ext hx) (ps := []) (pv := .slice none 0 0) (.inl ⟨rfl, rfl⟩) (hc.ext hx))
 obtain ⟨a1, a2, a3, a4, a5, a6, a7, a8, m1, m2, m3, m4, m5, m6, n7, m7, m8, hf⟩ := hF.form
 obtain ⟨rfl, hnm, hhs, hmd, hrs, has, hts, hss, hct, hdp, l1, l2, l3, l4, l5, l6, l7, l8⟩ := hf
 obtain ⟨ua, uc, rfl⟩ := ns_slice hu
 have hul := hu.2
 unfold maxLen at hul
 obtain ⟨nk, nt, c, th, el⟩ := x
 obtain ⟨R, hR⟩ : ∃ z, z = Tj.nodeE F us ⟨nk, nt, c, th, el⟩ := ⟨_, rfl⟩
 dsimp only [Pg.PV.val, Tj.scv] at *
 rw [← hR]
 unfold Tj.nodeE at hR
 dsimp only at hR
 have HU := Lh hu
 have bx := aH W (.cells (Yq0 F a1 m1 a2 m2 a3 m3 a4 m4 a5 m5 a6 m6 a7 m7 n7 a8 m8) 31)
 have k0 := alw (cQ 0 bx)
 have k1 := alw (cQ 1 bx)
 have k2 := alw (cQ 2 bx)
 have k3 := alw (cQ 3 bx)
 have k4 := alw (cQ 4 bx)
 have k5 := alw (cQ 5 bx)
 have k6 := alw (cQ 6 bx)
 have k7 := alw (cQ 7 bx)
 have k8 := alw (cQ 8 bx)
 clear bx
 have bx := aH (W.alloc (.cells (Yq0 F a1 m1 a2 m2 a3 m3 a4 m4 a5 m5 a6 m6 a7 m7 n7 a8 m8) 31)) (.cells #[.int .i64 nk, .int .i64 nt, .slice ca c.length cc, .slice ta th tc, .slice ea el ec] 113)
 rw [szA] at bx
 have j0 := alw (cQ 0 bx)
 have j1 := alw (cQ 1 bx)
 have j2 := alw (cQ 2 bx)
 have j3 := alw (cQ 3 bx)
 have j4 := alw (cQ 4 bx)
 clear bx
 clear hF hnm hhs hmd hrs has hts hss hct hdp
 clear hc hu
 by_cases h13 : nk = 1 ∨ nk = 3
 ·rw [if_pos h13] at hR
  clear HXC
  have hz : ∀ (z : Int), (nk = 1 → z = if 0 < th + el then 5 else 0) → (nk = 3 → z = 0) → True := fun _ _ _ => trivial
  by_cases ht0 : nt < 0
  ·have HE : Hid (R = 8) := Lh (by rw [hR, if_pos (.inl ht0)])
   have d1 : decide (nt < 0) = true := dTt (by omega)
   clear hR
   rcases h13 with rfl | rfl
   all_goals
    go_enter Tryz.func138, Tryz.ntmps138
    go_wp2_with fail
    go_ret
    exact ⟨ret_int (by rw [HE.out]), grows⟩
  ·have d1 : decide (nt < 0) = false := dF (by omega)
   by_cases ht1 : (F.ts.length : Int) ≤ nt
   ·have HE : Hid (R = 8) := Lh (by rw [hR, if_pos (.inr ht1)])
    have d2 : decide ((F.ts.length : Int) ≤ nt) = true := dTt (by omega)
    clear hR
    rcases h13 with rfl | rfl
    all_goals
     go_enter Tryz.func138, Tryz.ntmps138
     go_wp2_with fail
     go_ret
     exact ⟨ret_int (by rw [HE.out]), grows⟩
   ·have d2 : decide ((F.ts.length : Int) ≤ nt) = false := dF (by omega)
    rw [if_neg (by omega)] at hR
    have HR := Lh hR
    have H13 := Lh h13
    have hb1 : (nk == 1) = true ∨ (nk == 1) = false := by cases (nk == 1) <;> simp
    clear hR ht0 ht1 hz hb1
    have key : ∀ (bb : Bool), bb = decide (nk = 1) → Hid (∀ (Q : Prop), Q → Q) := fun _ _ => Lh (fun _ h => h)
    clear key
    rcases h13 with rfl | rfl
    all_goals
     go_enter Tryz.func138, Tryz.ntmps138
     go_wp2_with fail
     go_loopw [29] (fun q wr => ∃ k : Nat, k ≤ us.length ∧ q = .int .i64 k ∧ Hid (Ext ((W.alloc (.cells (Yq0 F a1 m1 a2 m2 a3 m3 a4 m4 a5 m5 a6 m6 a7 m7 n7 a8 m8) 31)).alloc (.cells #[.int .i64 _, .int .i64 nt, .slice ca c.length cc, .slice ta th tc, .slice ea el ec] 113)) wr ∧ ∀ j, j < k → (us.getD j 0 == nt) = false)) (fun q _ => us.length - (intOf q).toNat)
     case atStart => exact ⟨0, Nat.zero_le _, rfl, Lh ⟨eR _, by intro j hj; omega⟩⟩
     case round =>
      obtain ⟨k, hk, rfl, HZ⟩ := hrel
      have sx := Sm HZ.out.1
      by_cases hlt : k < us.length
      ·obtain ⟨y, hx⟩ : ∃ y, us[k]? = some y := ⟨_, gE hlt⟩
       obtain ⟨b, o, rfl, hc⟩ := ns_at HU.out (by omega)
       have v0 := hc k y hx
       have hg : us.getD k 0 = y := by rw [List.getD_eq_getElem?_getD, hx]; rfl
       have HG := Lh hg
       clear hx hc hg
       by_cases hy : y = nt
       ·have z1 : (y == nt) = true := bT hy
        have HE : Hid (R = 7) := Lh (by
         have := Dp.any_take_yes (l := us) (k := us.length) (j := k) (x := nt) (by rw [HG.out]; exact z1) hlt (Nat.le_refl _)
         rw [List.take_length] at this
         rw [HR.out, if_pos this])
        clear hy
        go_wp2_with fail
        go_ret
        exact ⟨ret_int (by rw [HE.out]), grows⟩
       ·have z1 : (y == nt) = false := bF hy
        have HY := Lh z1
        clear hy
        go_wp2_with fail
        go_roundw
        case rel =>
         refine ⟨k + 1, by omega, by go_num, Lh ⟨grows, fun j hj => ?_⟩⟩
         rcases Nat.lt_or_ge j k with h1 | h1
         ·exact HZ.out.2 j h1
         ·obtain rfl : j = k := by omega
          rw [HG.out]; exact HY.out
        case measure => simp [intOf]; omega
      ·obtain rfl : k = us.length := by omega
       have hno : us.any (· == nt) = false := by
        have := Dp.any_take_no (l := us) (k := us.length) (x := nt) HZ.out.2 (Nat.le_refl _)
        rw [List.take_length] at this
        exact this
       by_cases hte0 : 0 < th + el
       ·have d4 : decide ((0 : Int) < (th : Int) + (el : Int)) = true := dTt (by omega)
        have HE := Lh (HR.out.trans (by rw [hno, if_neg (by decide)]))
        clear hno
        go_wp2_with fail
        go_ret
        exact ⟨ret_int (by rw [HE.out]; simp [hte0]), grows⟩
       ·have d4 : decide ((0 : Int) < (th : Int) + (el : Int)) = false := dF (by omega)
        have HE := Lh (HR.out.trans (by rw [hno, if_neg (by decide)]))
        clear hno
        go_wp2_with fail
        go_ret
        exact ⟨ret_int (by rw [HE.out]; simp [hte0]), grows⟩
 ·rw [if_neg h13] at hR
  have e1 : (nk == 1) = false := bF (by omega)
  have e3 : (nk == 3) = false := bF (by omega)
  clear h13
  by_cases h2 : nk = 2
  ·subst h2
   rw [if_pos rfl] at hR
   obtain ⟨⟨xw, xe⟩, hxr⟩ : ∃ z, z = Tj.xchk F.P [] c := ⟨_, rfl⟩
   rw [← hxr] at HXC hR
   dsimp only at HXC hR
   clear hxr e1 e3
   by_cases hx0 : xe = 0
   ·subst hx0
    rw [if_neg (by simp)] at hR
    by_cases hw : xw = 1
    ·subst hw
     have HE : Hid (R = 0) := Lh (by rw [hR, if_neg (by simp)])
     clear hR
     go_enter Tryz.func138, Tryz.ntmps138
     go_wp2_with fail
     refine via (HXC.out _ grows) fun w5 xw5 sw5 => ?_
     go_wp2_with fail
     go_ret
     exact ⟨ret_int (by rw [HE.out]), grows⟩
    ·have HE : Hid (R = 10) := Lh (by rw [hR, if_pos hw])
     have z1 : (xw != 1) = true := nT hw
     clear hR hw
     go_enter Tryz.func138, Tryz.ntmps138
     go_wp2_with fail
     refine via (HXC.out _ grows) fun w5 xw5 sw5 => ?_
     go_wp2_with fail
     go_ret
     exact ⟨ret_int (by rw [HE.out]), grows⟩
   ·have HE : Hid (R = xe) := Lh (by rw [hR, if_pos hx0])
    have z1 : (xe != 0) = true := nT hx0
    clear hR hx0
    go_enter Tryz.func138, Tryz.ntmps138
    go_wp2_with fail
    refine via (HXC.out _ grows) fun w5 xw5 sw5 => ?_
    go_wp2_with fail
    go_ret
    exact ⟨ret_int (by rw [HE.out]), grows⟩
  ·have HE : Hid (R = 11) := Lh (by rw [hR, if_neg h2])
   have e2 : (nk == 2) = false := bF (by omega)
   clear hR h2 HXC
   go_enter Tryz.func138, Tryz.ntmps138
   go_wp2_with fail
   go_ret
   exact ⟨ret_int (by rw [HE.out]), grows⟩
namespace Tj
/-- the first node that is wrong, and what stands ahead of it -/
def badN (F : FP) : List CN → List CN → Option (List CN × CN)
 | _, [] => none
 | pre, x :: l => if nodeE F (usedBy pre) x = 0 then badN F (pre ++ [x]) l else some (pre, x)
theorem badN_cons (F : FP) (pre : List CN) (x : CN) (l : List CN) : badN F pre (x :: l) = if nodeE F (usedBy pre) x = 0 then badN F (pre ++ [x]) l else some (pre, x) := rfl
theorem badN_append {F : FP} : ∀ (l pre m : List CN), badN F pre (l ++ m) = match badN F pre l with | none => badN F (pre ++ l) m | some r => some r
 | [], pre, m => by simp [badN]
 | x :: l, pre, m => by
  rw [List.cons_append, badN_cons, badN_cons]
  by_cases h : nodeE F (usedBy pre) x = 0
  ·rw [if_pos h, if_pos h, badN_append l (pre ++ [x]) m, List.append_assoc]; rfl
  ·rw [if_neg h, if_neg h]
theorem badN_none {F : FP} {l pre m : List CN} (h : badN F pre l = none) : badN F pre (l ++ m) = badN F (pre ++ l) m := by rw [badN_append, h]
theorem badN_stop {F : FP} {l pre m : List CN} {r : List CN × CN} (h : badN F pre l = some r) : badN F pre (l ++ m) = some r := by rw [badN_append, h]
theorem scan_bad {F : FP} : ∀ (l pre : List CN), scanE F pre l = match badN F pre l with | none => 0 | some r => nodeE F (usedBy r.1) r.2
 | [], _ => rfl
 | x :: l, pre => by
  rw [scanE_cons, badN_cons]
  by_cases h : nodeE F (usedBy pre) x = 0
  ·rw [if_neg (by simpa using h), if_pos h]; exact scan_bad l (pre ++ [x])
  ·rw [if_pos h, if_neg h]
theorem badN_ne {F : FP} : ∀ {l pre : List CN} {r : List CN × CN}, badN F pre l = some r → nodeE F (usedBy r.1) r.2 ≠ 0
 | [], _, _, h => by cases h
 | x :: l, pre, r, h => by
  rw [badN_cons] at h
  by_cases h0 : nodeE F (usedBy pre) x = 0
  ·rw [if_pos h0] at h; exact badN_ne h
  ·rw [if_neg h0] at h
   obtain rfl := Option.some.inj h
   exact h0
theorem usedBy_snoc (l : List CN) (x : CN) : usedBy (l ++ [x]) = if apl x then usedBy l ++ [x.t] else usedBy l := by
 unfold usedBy
 rw [List.filter_append, List.map_append]
 cases h : apl x <;> simp [h]
theorem usedBy_len (l : List CN) : (usedBy l).length ≤ l.length := by
 unfold usedBy; rw [List.length_map]; exact List.length_filter_le _ _
theorem ctl_len {n : Nat} {w : World} {v : Value} {l : List CN} {d m : Nat} (h : Ctl n w v l d m) : m ≤ l.length := by
 cases n with
 | zero => exact h.elim
 | succ n =>
  rw [ctl_succ] at h
  obtain ⟨ns, h1, rfl, h2, rfl⟩ := h
  clear h1 h2
  induction ns with
  | nil => exact Nat.zero_le _
  | cons x l ih => rw [flat_cons]; simp only [List.length_cons, List.length_append]; omega
end Tj
theorem KeepN.grown {w w' : World} {B : Nat} {e : TypeId} {v : Value} {n : Nat} {xs : List Value} (ho : w.ownsRow B e 1 v n xs) (hg : w.grownBy w' v.ownBlock) (hne : e ≠ 113) : KeepN w w' := fun k c f hk => by
 rw [hg.block k (lt_of_block hk) (fun hr => by
  obtain ⟨cur, hc⟩ := own_type ho hr.symm
  rw [hk] at hc
  simp only [Option.some.injEq, Obj.cells.injEq] at hc
  exact hne hc.2.1.symm)]
 exact hk
/-- the variables of Check while it goes through the nodes -/
structure ChkS (W : World) (p : Pg.PV) (bp be bn bu : Nat) (n : Nat) (us : List Int) (err : Int) (w : World) : Prop where
 x : Ext W w
 hp : w.heap[bp]? = some (.cells #[p.c0, p.c1, p.c2, p.c3, p.c4, p.c5, p.c6, p.c7, p.c8] 31 (0, 0))
 he : w.heap[be]? = some (.cells #[.int .i64 err] 38 (0, 0))
 hn : w.heap[bn]? = some (.cells #[.int .i64 n] 3 (0, 0))
 hu : ∃ uv, w.heap[bu]? = some (.cells #[uv] 29 (0, 0)) ∧ w.ownsRow (bu + 1) 3 1 uv us.length (i64s us)
 o : W.heap.size ≤ bp ∧ bp < be ∧ be < bn ∧ bn < bu
section
variable {W : World} {p : Pg.PV} {bp be bn bu n : Nat} {us : List Int} {err : Int} {w w' : World}
theorem heap_other {w : World} {b k : Nat} {v : Value} (h : k ≠ b) : (w.setCell ⟨b, 0, none⟩ v).heap[k]? = w.heap[k]? := by
 rw [Below.heap_setCell _ _ _ _ (by first | exact h | exact fun e => h e.symm)]
theorem own_set {B : Nat} {e : TypeId} {v : Value} {m : Nat} {xs : List Value} (h : w.ownsRow B e 1 v m xs) {b : Nat} (hb : b < B) (u : Value) : (w.setCell ⟨b, 0, none⟩ u).ownsRow B e 1 v m xs :=
 own_keep h (fun k hk => heap_other (by have := (h.lt k hk).1; omega))
theorem ChkS.ext (h : ChkS W p bp be bn bu n us err w) (hx : Ext w w') : ChkS W p bp be bn bu n us err w' :=
 ⟨h.x.trans hx, hx.heap h.hp, hx.heap h.he, hx.heap h.hn, let ⟨uv, h1, h2⟩ := h.hu; ⟨uv, hx.heap h1, own_ext h2 hx⟩, h.o⟩
theorem ChkS.setE (h : ChkS W p bp be bn bu n us err w) (e' : Int) : ChkS W p bp be bn bu n us e' (w.setCell ⟨be, 0, none⟩ (.int .i64 e')) := by
 obtain ⟨o1, o2, o3, o4⟩ := h.o
 obtain ⟨uv, h1, h2⟩ := h.hu
 exact ⟨h.x.setCell (by show W.heap.size ≤ be; omega) _, by rw [heap_other (by omega)]; exact h.hp, by rw [setCell_heap h.he]; rfl, by rw [heap_other (by omega)]; exact h.hn, ⟨uv, by rw [heap_other (by omega)]; exact h1, own_set h2 (by omega) _⟩, h.o⟩
theorem ChkS.setN (h : ChkS W p bp be bn bu n us err w) (n' : Nat) : ChkS W p bp be bn bu n' us err (w.setCell ⟨bn, 0, none⟩ (.int .i64 n')) := by
 obtain ⟨o1, o2, o3, o4⟩ := h.o
 obtain ⟨uv, h1, h2⟩ := h.hu
 exact ⟨h.x.setCell (by show W.heap.size ≤ bn; omega) _, by rw [heap_other (by omega)]; exact h.hp, by rw [heap_other (by omega)]; exact h.he, by rw [setCell_heap h.hn]; rfl, ⟨uv, by rw [heap_other (by omega)]; exact h1, own_set h2 (by omega) _⟩, h.o⟩
theorem ChkS.setU {uv uv' : Value} {us' : List Int} (h : ChkS W p bp be bn bu n us err w) (h2 : w.ownsRow (bu + 1) 3 1 uv us.length (i64s us)) (hb : w.heap[bu]? = some (.cells #[uv] 29 (0, 0))) (hg : w.grownBy w' uv.ownBlock)
 (ho : w'.ownsRow (bu + 1) 3 1 uv' us'.length (i64s us')) : ChkS W p bp be bn bu n us' err (w'.setCell ⟨bu, 0, none⟩ uv') := by
 obtain ⟨o1, o2, o3, o4⟩ := h.o
 have hk : ∀ k, k < bu + 1 → ∀ o, w.heap[k]? = some o → w'.heap[k]? = some o := fun k hk o hc => by
  rw [hg.block k (lt_of_block hc) (fun hr => by have := (h2.lt k hr.symm).1; omega)]; exact hc
 refine ⟨(h.x.mod (grown_mod hg) (fun q hq => by have := (h2.lt q hq.symm).1; omega)).setCell (by show W.heap.size ≤ bu; omega) _, ?_, ?_, ?_, ⟨uv', ?_, own_set ho (by omega) _⟩, h.o⟩
 ·rw [heap_other (by omega)]; exact hk bp (by omega) _ h.hp
 ·rw [heap_other (by omega)]; exact hk be (by omega) _ h.he
 ·rw [heap_other (by omega)]; exact hk bn (by omega) _ h.hn
 ·rw [setCell_heap (hk bu (by omega) _ hb)]; rfl
end
/-- what Check's closure leaves: the node is right and counted, or its error lies in the variable -/
def Chk1P (W : World) (p : Pg.PV) (F : Tj.FP) (bp be bn bu : Nat) (pre : List Tj.CN) (x : Tj.CN) (w : World) (e : Ending) (w' : World) : Prop := KeepN w w' ∧
 ((Tj.nodeE F (Tj.usedBy pre) x = 0 ∧ e = .returned (.bool true) ∧ ChkS W p bp be bn bu (pre.length + 1) (Tj.usedBy (pre ++ [x])) 0 w') ∨ (Tj.nodeE F (Tj.usedBy pre) x ≠ 0 ∧ e = .returned (.bool false) ∧ ChkS W p bp be bn bu pre.length (Tj.usedBy pre) (Tj.nodeE F (Tj.usedBy pre) x) w'))
theorem chk1_any {W w : World} {p : Pg.PV} {F : Tj.FP} (hF : Tj.IsF W p F) {bp be bn bu : Nat} (pre : List Tj.CN) (h : ChkS W p bp be bn bu pre.length (Tj.usedBy pre) 0 w) (hpl : pre.length ≤ 1048576) (x : Tj.CN) {ca : Option Addr} {cc : Nat} (hc : Tj.Exp W (.slice ca x.c.length cc) x.c) (ta ea : Option Addr) (tc ec : Nat) (hte : x.th + x.el ≤ 1048576) :
 Calls Tryz.prog 137 #[.agg #[.int .i64 x.k, .int .i64 x.t, .slice ca x.c.length cc, .slice ta x.th tc, .slice ea x.el ec], .pointer (some ⟨bp, 0, none⟩), .pointer (some ⟨bu, 0, none⟩), .pointer (some ⟨be, 0, none⟩), .pointer (some ⟨bn, 0, none⟩)] w (Chk1P W p F bp be bn bu pre x w) := by
 obtain ⟨uv, hu1, hu2⟩ := h.hu
 obtain ⟨ua, uc, rfl⟩ := own_slice hu2
 have hul := Tj.usedBy_len pre
 have HCN : Hid (∀ w', Ext w w' → Calls Tryz.prog 138 #[p.val, .agg #[.int .i64 x.k, .int .i64 x.t, .slice ca x.c.length cc, .slice ta x.th tc, .slice ea x.el ec], .slice ua (Tj.usedBy pre).length uc] w' (Rets w' (.int .i64 (Tj.nodeE F (Tj.usedBy pre) x)))) := Lh (fun w' hx => cnode_any (hF.ext (h.x.trans hx)) x (hc.ext (h.x.trans hx)) ta ea tc ec hte ⟨own_src (own_ext hu2 hx) (i64s_one _), by unfold maxLen; omega⟩)
 obtain ⟨o1, o2, o3, o4⟩ := h.o
 have bup : bu < w.heap.size := lt_of_block hu1
 have pc0 := alw (cQ 0 h.hp)
 have pc1 := alw (cQ 1 h.hp)
 have pc2 := alw (cQ 2 h.hp)
 have pc3 := alw (cQ 3 h.hp)
 have pc4 := alw (cQ 4 h.hp)
 have pc5 := alw (cQ 5 h.hp)
 have pc6 := alw (cQ 6 h.hp)
 have pc7 := alw (cQ 7 h.hp)
 have pc8 := alw (cQ 8 h.hp)
 have ue0 := alw (cQ 0 hu1)
 have ee0 := alw (cQ 0 h.he)
 have ef0 := alwF (o := 0) h.he
 have HS := Lh h
 obtain ⟨nk, nt, c, th, el⟩ := x
 dsimp only [Pg.PV.val] at *
 obtain ⟨ne, hne⟩ : ∃ z, z = Tj.nodeE F (Tj.usedBy pre) ⟨nk, nt, c, th, el⟩ := ⟨_, rfl⟩
 unfold Chk1P
 rw [← hne] at HCN ⊢
 obtain ⟨ap, hap⟩ : ∃ z, z = Tj.apl ⟨nk, nt, c, th, el⟩ := ⟨_, rfl⟩
 have HAP : Hid (∀ w, Calls Tryz.prog 139 #[.agg #[.int .i64 nk, .int .i64 nt, .slice ca c.length cc, .slice ta th tc, .slice ea el ec]] w (Rets w (.bool ap))) := Lh (fun w => by have h := applies_any ⟨nk, nt, c, th, el⟩ ca ta ea cc tc ec w; rw [← hap] at h; exact h)
 have HSN := Lh (Tj.usedBy_snoc pre ⟨nk, nt, c, th, el⟩)
 rw [← hap] at HSN
 have bnd := aH w (.cells #[.int .i64 nk, .int .i64 nt, .slice ca c.length cc, .slice ta th tc, .slice ea el ec] 113)
 have BND := Lh bnd
 have nd0 := alw (cQ 0 bnd)
 have nd1 := alw (cQ 1 bnd)
 have nd2 := alw (cQ 2 bnd)
 have nd3 := alw (cQ 3 bnd)
 have nd4 := alw (cQ 4 bnd)
 have n1 : ¬ be = w.heap.size := by omega
 have n2 : ¬ w.heap.size = be := by omega
 clear bnd h hc hF hu1 hu2 hne hap
 by_cases h0 : ne = 0
 ·subst h0
  go_enter Tryz.func137, Tryz.ntmps137
  go_wp2_with fail
  refine via (HCN.out _ grows) fun w3 x3 s3 => ?_
  have HS3 := Lh (HS.out.ext (((eR w).alloc _).trans x3))
  have HS4 := Lh (HS3.out.setE 0)
  have HK4 : Hid (KeepN (w.alloc (.cells #[.int .i64 nk, .int .i64 nt, .slice ca c.length cc, .slice ta th tc, .slice ea el ec] 113)) (w3.setCell ⟨be, 0, none⟩ (.int .i64 0))) := Lh ((KeepN.of_ext x3).trans (KeepN.set HS3.out.he (by decide) _))
  go_wp2_with fail
  refine (HAP.out _).mono ?_
  rintro e w5 ⟨rfl, x5⟩
  have HS5 := Lh (HS4.out.ext x5)
  have HK5 := Lh (HK4.out.trans (KeepN.of_ext x5))
  have hb5 := HK5.out _ _ _ BND.out
  have q1 := alw (cQ 1 hb5)
  have bn0 := alw (cQ 0 HS5.out.hn)
  have bn1 := alwF (o := 0) HS5.out.hn
  have ecast : ((pre.length + 1 : Nat) : Int) = (pre.length : Int) + 1 := by omega
  cases ap with
  | false =>
   have HS6 := Lh (HS5.out.setN (pre.length + 1))
   rw [ecast] at HS6
   have HK6 : Hid (KeepN w (w5.setCell ⟨bn, 0, none⟩ (.int .i64 ((pre.length : Int) + 1)))) := Lh ((KeepN.of_ext ((eR w).alloc (.cells #[.int .i64 nk, .int .i64 nt, .slice ca c.length cc, .slice ta th tc, .slice ea el ec] 113))).trans (HK5.out.trans (KeepN.set HS5.out.hn (by decide) _)))
   clear hb5 ecast
   go_wp2_with fail
   go_ret
   exact ⟨HK6.out, .inl ⟨by first | trivial | rfl, by first | rfl | trivial, by rw [HSN.out]; exact HS6.out⟩⟩
  | true =>
   obtain ⟨uv5, hu5, ho5⟩ := HS5.out.hu
   obtain ⟨ua5, uc5, rfl⟩ := own_slice ho5
   have u5 := alw (cQ 0 hu5)
   have HU5 := Lh hu5
   have HO5 := Lh (own_ext ho5 ((eR w5).alloc (.cells #[.int .i64 nt] 3)))
   have HS1 := Lh (src_one w5 (.int .i64 nt) 3 rfl)
   have hle5 : bu + 1 ≤ w5.heap.size := lt_of_block hu5
   have n3 : ¬ bu = bn := by omega
   have n4 : ¬ bn = bu := by omega
   clear hu5 ho5 hb5
   go_wp2_with (at_builtin; refine wpList_append_fresh rfl (.tmp 15) (.tmp 18) 29 rfl (bu + 1) 3 (.int .i64 0) 1 8 Tryz.underlying29 info_i64 rfl (by decide) _ (Tj.usedBy pre).length (i64s (Tj.usedBy pre)) rfl HO5.out _ 1 [.int .i64 nt] rfl HS1.out ?d1 ?d2 ?d3 ?_)
   case d1 => unfold maxLen; omega
   case d2 => omega
   case d3 => (try simp); omega
   intro v' w' hown hgr _
   have hk : ∀ k, k < bu + 1 → ∀ o, w5.heap[k]? = some o → w'.heap[k]? = some o := fun k hk o hc => by
    rw [hgr.block k (by rw [szA]; have := lt_of_block hc; omega) (fun hr => by have := (HO5.out.lt k hr.symm).1; omega)]
    exact ((eR w5).alloc _).heap hc
   have c6 := cQ 0 (hk bu (by omega) _ HU5.out)
   have f6 := free_of (o := 0) (hk bu (by omega) _ HU5.out)
   have c7 := cQ 0 (hk bn (by omega) _ HS5.out.hn)
   have f7 := free_of (o := 0) (hk bn (by omega) _ HS5.out.hn)
   have HS6 := Lh (((HS5.out.ext ((eR w5).alloc (.cells #[.int .i64 nt] 3))).setU (us' := Tj.usedBy pre ++ [nt]) (uv' := v') HO5.out (((eR w5).alloc _).heap HU5.out) hgr (by simpa [i64s] using hown)))
   have HS7 := Lh (HS6.out.setN (pre.length + 1))
   rw [ecast] at HS7
   have HK6 : Hid (KeepN w ((w'.setCell ⟨bu, 0, none⟩ v').setCell ⟨bn, 0, none⟩ (.int .i64 ((pre.length : Int) + 1)))) := Lh ((KeepN.of_ext ((eR w).alloc (.cells #[.int .i64 nk, .int .i64 nt, .slice ca c.length cc, .slice ta th tc, .slice ea el ec] 113))).trans (HK5.out.trans ((KeepN.of_ext ((eR w5).alloc _)).trans ((KeepN.grown HO5.out hgr (by decide)).trans ((KeepN.set (hk bu (by omega) _ HU5.out) (by decide) _).trans (KeepN.set HS6.out.hn (by decide) _))))))
   obtain ⟨o6, c8, rfl⟩ := own_slice hown
   clear hown hgr hk ecast
   go_wp2_with fail
   go_ret
   exact ⟨HK6.out, .inl ⟨by first | trivial | rfl, by first | rfl | trivial, by rw [HSN.out]; exact HS7.out⟩⟩
 ·have z1 : (ne != 0) = true := nT h0
  have H0 := Lh h0
  clear h0
  go_enter Tryz.func137, Tryz.ntmps137
  go_wp2_with fail
  refine via (HCN.out _ grows) fun w3 x3 s3 => ?_
  have HS3 := Lh (HS.out.ext (((eR w).alloc _).trans x3))
  have HS4 := Lh (HS3.out.setE ne)
  have HK4 : Hid (KeepN w (w3.setCell ⟨be, 0, none⟩ (.int .i64 ne))) := Lh ((KeepN.of_ext (((eR w).alloc _).trans x3)).trans (KeepN.set HS3.out.he (by decide) _))
  go_wp2_with fail
  go_ret
  exact ⟨HK4.out, .inr ⟨H0.out, rfl, HS4.out⟩⟩
/-- what preorder leaves of Check's variables -/
def PreP (W : World) (p : Pg.PV) (F : Tj.FP) (bp be bn bu : Nat) (pre l : List Tj.CN) (w : World) (e : Ending) (w' : World) : Prop := KeepN w w' ∧
 ((Tj.badN F pre l = none ∧ e = .returned (.bool true) ∧ ChkS W p bp be bn bu (pre ++ l).length (Tj.usedBy (pre ++ l)) 0 w') ∨
  (∃ r, Tj.badN F pre l = some r ∧ e = .returned (.bool false) ∧ ChkS W p bp be bn bu r.1.length (Tj.usedBy r.1) (Tj.nodeE F (Tj.usedBy r.1) r.2) w'))
theorem prechk_any {W : World} {p : Pg.PV} {F : Tj.FP} (hF : Tj.IsF W p F) {bp be bn bu : Nat} : ∀ (n : Nat) (v : Value) (l : List Tj.CN) (d m : Nat), Tj.Ctl n W v l d m → ∀ (pre : List Tj.CN) (w : World), ChkS W p bp be bn bu pre.length (Tj.usedBy pre) 0 w → pre.length + l.length ≤ 1048576 →
 Calls Tryz.prog 136 #[v, .func (.func 137) #[] #[.pointer (some ⟨bp, 0, none⟩), .pointer (some ⟨bu, 0, none⟩), .pointer (some ⟨be, 0, none⟩), .pointer (some ⟨bn, 0, none⟩)]] w (PreP W p F bp be bn bu pre l w) := by
 intro n
 induction n with
 | zero => intro v l d m h; exact h.elim
 | succ n ih =>
  intro v l d m h pre w hs hil
  rw [Tj.ctl_succ] at h
  obtain ⟨ns, hns, rfl, rfl, rfl⟩ := h
  obtain ⟨oa, c, rfl, hlc, hcm⟩ := hns.slice
  unfold maxLen at hcm
  have HNS := Lh hns
  have HIH := Lh ih
  have HS := Lh hs
  have HF := Lh hF
  clear hns ih hs hF
  unfold PreP
  go_enter Tryz.func136, Tryz.ntmps136
  go_wp2_with fail
  go_loopw [9] (fun q wr => ∃ k : Nat, k ≤ ns.length ∧ q = .int .i64 k ∧ Hid (ChkS W p bp be bn bu (pre ++ Tj.flat (ns.take k)).length (Tj.usedBy (pre ++ Tj.flat (ns.take k))) 0 wr ∧ KeepN w wr ∧ Tj.badN F pre (Tj.flat (ns.take k)) = none)) (fun q _ => ns.length - (intOf q).toNat)
  case atStart => exact ⟨0, Nat.zero_le _, rfl, Lh ⟨by show ChkS W p bp be bn bu (pre ++ []).length (Tj.usedBy (pre ++ [])) 0 w; rw [List.append_nil]; exact HS.out, KeepN.refl _, rfl⟩⟩
  case round =>
   obtain ⟨k, hk1, rfl, HZ⟩ := hrel
   have sx : Step W wr := ⟨HZ.out.1.x⟩
   by_cases hlt : k < ns.length
   ·obtain ⟨x, hk⟩ : ∃ x, ns[k]? = some x := ⟨_, gE hlt⟩
    obtain ⟨b, o, rfl, _, _⟩ := Rows.at HNS.out (by omega)
    obtain ⟨ca, cc, ta, tn, tc, ea, en, ec, _, hcx, htl, hel, ⟨rfl, rfl⟩, g0, g1, g2, g3, g4⟩ := Tj.nodes_at HNS.out k x hk rfl
    have y0 := alw g0
    have y1 := alw g1
    have y2 := alw g2
    have y3 := alw g3
    have y4 := alw g4
    have hft := Tj.flat_take hk
    have hsp := Tj.flat_split hk
    have hlen : (Tj.flat (ns.take k)).length + (1 + (x.tl.length + x.el.length)) ≤ (Tj.flat ns).length := by
     rw [hsp]; simp only [List.length_append, List.length_cons]; omega
    have hl1 := Tj.ctl_len htl
    have hl2 := Tj.ctl_len hel
    obtain ⟨P0, hP0⟩ : ∃ z, z = pre ++ Tj.flat (ns.take k) := ⟨_, rfl⟩
    have hP0l : P0.length = pre.length + (Tj.flat (ns.take k)).length := by rw [hP0, List.length_append]
    have HFT : Hid (Tj.flat (ns.take (k + 1)) = Tj.flat (ns.take k) ++ ([x.d] ++ (x.tl ++ x.el))) := Lh hft
    have HSP : Hid (∃ m, Tj.flat ns = (Tj.flat (ns.take k) ++ ([x.d] ++ (x.tl ++ x.el))) ++ m) := Lh ⟨_, hsp⟩
    have HB0 := Lh HZ.out.2.2
    have HCH : Hid (Chk1P W p F bp be bn bu P0 x.d = Chk1P W p F bp be bn bu P0 x.d) := Lh rfl
    have HV : Hid (∀ w, ChkS W p bp be bn bu P0.length (Tj.usedBy P0) 0 w → Calls Tryz.prog 137 #[.agg (Yq19 x ca cc ta tc ea ec), .pointer (some ⟨bp, 0, none⟩), .pointer (some ⟨bu, 0, none⟩), .pointer (some ⟨be, 0, none⟩), .pointer (some ⟨bn, 0, none⟩)] w (Chk1P W p F bp be bn bu P0 x.d w)) := Lh (fun w h => chk1_any HF.out P0 h (by omega) x.d hcx ta ea tc ec (by omega))
    have HTL : Hid (∀ w, ChkS W p bp be bn bu (P0 ++ [x.d]).length (Tj.usedBy (P0 ++ [x.d])) 0 w → Calls Tryz.prog 136 #[.slice ta x.d.th tc, .func (.func 137) #[] #[.pointer (some ⟨bp, 0, none⟩), .pointer (some ⟨bu, 0, none⟩), .pointer (some ⟨be, 0, none⟩), .pointer (some ⟨bn, 0, none⟩)]] w (PreP W p F bp be bn bu (P0 ++ [x.d]) x.tl w)) := Lh (fun w h => HIH.out _ _ _ _ htl _ w h (by rw [List.length_append]; simp only [List.length_cons, List.length_nil]; omega))
    have HEL : Hid (∀ w, ChkS W p bp be bn bu (P0 ++ [x.d] ++ x.tl).length (Tj.usedBy (P0 ++ [x.d] ++ x.tl)) 0 w → Calls Tryz.prog 136 #[.slice ea x.d.el ec, .func (.func 137) #[] #[.pointer (some ⟨bp, 0, none⟩), .pointer (some ⟨bu, 0, none⟩), .pointer (some ⟨be, 0, none⟩), .pointer (some ⟨bn, 0, none⟩)]] w (PreP W p F bp be bn bu (P0 ++ [x.d] ++ x.tl) x.el w)) := Lh (fun w h => HIH.out _ _ _ _ hel _ w h (by simp only [List.length_append, List.length_cons, List.length_nil]; omega))
    have HP0 := Lh hP0
    have bn' := aH wr (.cells (Yq19 x ca cc ta tc ea ec) 113)
    have BN := Lh bn'
    have m0 := alw (cQ 0 bn')
    have m1 := alw (cQ 1 bn')
    have m2 := alw (cQ 2 bn')
    have m3 := alw (cQ 3 bn')
    have m4 := alw (cQ 4 bn')
    have HC1 : Hid (ChkS W p bp be bn bu P0.length (Tj.usedBy P0) 0 (wr.alloc (.cells (Yq19 x ca cc ta tc ea ec) 113))) := Lh (by have h := HZ.out.1.ext ((eR wr).alloc (.cells (Yq19 x ca cc ta tc ea ec) 113)); rw [hP0]; exact h)
    have HK0 : Hid (KeepN w (wr.alloc (.cells (Yq19 x ca cc ta tc ea ec) 113))) := Lh (HZ.out.2.1.trans (KeepN.of_ext ((eR _).alloc _)))
    clear bn' hk hcx htl hel g0 g1 g2 g3 g4 hft hsp hlen hl1 hl2 hP0l hP0 HCH
    go_wp2_with fail
    refine (HV.out _ HC1.out).mono ?_
    rintro e w5 ⟨hk5, ⟨hz5, rfl, hs5⟩ | ⟨hz5, rfl, hs5⟩⟩
    ·have h5 := hk5 _ _ _ BN.out
     have t3 : w5.cell? ⟨wr.heap.size, 3, none⟩ = some (.slice ta x.d.th tc) := cell_of h5
     have HS5 : Hid (ChkS W p bp be bn bu (P0 ++ [x.d]).length (Tj.usedBy (P0 ++ [x.d])) 0 w5) := Lh (by rw [List.length_append]; exact hs5)
     have HK5 := Lh hk5
     have H5 := Lh h5
     have HZ5 := Lh hz5
     clear hs5 hk5 h5 hz5
     go_wp2_with fail
     refine (HTL.out _ HS5.out).mono ?_
     rintro e w6 ⟨hk6, ⟨hz6, rfl, hs6⟩ | ⟨r, hz6, rfl, hs6⟩⟩
     ·have h6 := hk6 _ _ _ H5.out
      have t4 : w6.cell? ⟨wr.heap.size, 4, none⟩ = some (.slice ea x.d.el ec) := cell_of h6
      have HS6 := Lh hs6
      have HK6 := Lh hk6
      have HZ6 := Lh hz6
      clear hs6 hk6 h6 hz6
      go_wp2_with fail
      refine (HEL.out _ HS6.out).mono ?_
      rintro e w7 ⟨hk7, ⟨hz7, rfl, hs7⟩ | ⟨r, hz7, rfl, hs7⟩⟩
      ·have HS7 := Lh hs7
       have HK7 := Lh hk7
       have HZ7 := Lh hz7
       clear hs7 hk7 hz7
       go_wp2_with fail
       go_roundw
       case rel =>
        have e1 : pre ++ Tj.flat (ns.take (k + 1)) = P0 ++ [x.d] ++ x.tl ++ x.el := by rw [HFT.out, HP0.out]; simp only [List.append_assoc]
        refine ⟨k + 1, by omega, by go_num, Lh ⟨by rw [e1]; exact HS7.out, HK0.out.trans ((HK5.out.trans HK6.out).trans HK7.out), ?_⟩⟩
        rw [HFT.out, Tj.badN_none HB0.out, ← HP0.out, List.singleton_append, Tj.badN_cons, if_pos HZ5.out, Tj.badN_none HZ6.out]
        exact HZ7.out
       case measure => simp [intOf]; omega
      ·have HS7 := Lh hs7
       have HK7 := Lh hk7
       have HZ7 := Lh hz7
       clear hs7 hk7 hz7
       go_wp2_with fail
       go_ret
       refine ⟨HK0.out.trans ((HK5.out.trans HK6.out).trans HK7.out), .inr ⟨r, ?_, by first | rfl | trivial, HS7.out⟩⟩
       obtain ⟨m, hm⟩ := HSP.out
       rw [hm, Tj.badN_stop (r := r)]
       rw [Tj.badN_none HB0.out, ← HP0.out, List.singleton_append, Tj.badN_cons, if_pos HZ5.out, Tj.badN_none HZ6.out]
       exact HZ7.out
     ·have HS6 := Lh hs6
      have HK6 := Lh hk6
      have HZ6 := Lh hz6
      clear hs6 hk6 hz6
      go_wp2_with fail
      go_ret
      refine ⟨HK0.out.trans (HK5.out.trans HK6.out), .inr ⟨r, ?_, by first | rfl | trivial, HS6.out⟩⟩
      obtain ⟨m, hm⟩ := HSP.out
      rw [hm, Tj.badN_stop (r := r)]
      rw [Tj.badN_none HB0.out, ← HP0.out, List.singleton_append, Tj.badN_cons, if_pos HZ5.out, Tj.badN_stop HZ6.out]
    ·have HS5 := Lh hs5
     have HK5 := Lh hk5
     have HZ5 := Lh hz5
     clear hs5 hk5 hz5
     go_wp2_with fail
     go_ret
     refine ⟨HK0.out.trans HK5.out, .inr ⟨(P0, x.d), ?_, by first | rfl | trivial, HS5.out⟩⟩
     obtain ⟨m, hm⟩ := HSP.out
     rw [hm, Tj.badN_stop (r := (P0, x.d))]
     rw [Tj.badN_none HB0.out, ← HP0.out, List.singleton_append, Tj.badN_cons, if_neg HZ5.out]
   ·obtain rfl : k = ns.length := by omega
    go_wp2_with fail
    go_ret
    have h := HZ.out
    rw [List.take_length] at h
    exact ⟨h.2.1, .inl ⟨h.2.2, by first | rfl | trivial, h.1⟩⟩
theorem ccheck_any {W : World} {p : Pg.PV} {F : Tj.FP} (hG : Tj.IsG W p F) : Calls Tryz.prog 96 #[p.val] W (AtP W (Tj.ctlE F)) := by
 obtain ⟨hF, hcs, _⟩ := hG
 have HF := Lh hF
 obtain ⟨a1, a2, a3, a4, a5, a6, a7, a8, m1, m2, m3, m4, m5, m6, n7, m7, m8, hf⟩ := hF.form
 obtain ⟨rfl, hnm, hhs, hmd, hrs, has, hts, hss, hct, hdp, l1, l2, l3, l4, l5, l6, l7, l8⟩ := hf
 obtain ⟨n, hct⟩ := hct
 obtain ⟨R, hR⟩ : ∃ z, z = Tj.ctlE F := ⟨_, rfl⟩
 rw [← hR]
 unfold Tj.ctlE at hR
 dsimp only [Pg.PV.val]
 have HCT := Lh (fun (w : World) (hx : Ext W w) => count_any (hct.ext hx) hcs)
 have HNE : Hid (∀ w, Ext W w → Calls Tryz.prog 135 #[.slice a7 n7 m7] w (Rets w (.int .i64 F.nest))) := Lh (fun w hx => nest_any n _ _ _ _ hct hcs w hx)
 have HPR : Hid (∀ (bn : Nat) (w : World), ChkS W ⟨.string F.nm, .slice a1 F.P.hs.length m1, .slice a2 F.P.md.length m2, .slice a3 F.rs.length m3, .slice a4 F.ac.length m4, .slice a5 F.ts.length m5, .slice a6 F.ss.length m6, .slice a7 n7 m7, .slice a8 F.P.dp.length m8⟩ W.heap.size (W.heap.size + 1) bn (bn + 1) 0 [] 0 w → Calls Tryz.prog 136 #[.slice a7 n7 m7, .func (.func 137) #[] #[.pointer (some ⟨W.heap.size, 0, none⟩), .pointer (some ⟨bn + 1, 0, none⟩), .pointer (some ⟨W.heap.size + 1, 0, none⟩), .pointer (some ⟨bn, 0, none⟩)]] w (PreP W ⟨.string F.nm, .slice a1 F.P.hs.length m1, .slice a2 F.P.md.length m2, .slice a3 F.rs.length m3, .slice a4 F.ac.length m4, .slice a5 F.ts.length m5, .slice a6 F.ss.length m6, .slice a7 n7 m7, .slice a8 F.P.dp.length m8⟩ F W.heap.size (W.heap.size + 1) bn (bn + 1) [] F.cs w)) := Lh (fun bn w h => prechk_any HF.out n _ _ _ _ hct [] w h (by simp only [List.length_nil]; omega))
 have hnl := Tj.ctl_deep hct
 have hmf : ∀ (fn : Fn) (first cap : Array Value) (w : World), (Instr.makeFunc fn first cap).run Tryz.prog w = .ok (.func fn first cap) w := fun _ _ _ _ => rfl
 have bx := aH W (.cells (Yq0 F a1 m1 a2 m2 a3 m3 a4 m4 a5 m5 a6 m6 a7 m7 n7 a8 m8) 31)
 have k0 := alw (cQ 0 bx)
 have k1 := alw (cQ 1 bx)
 have k2 := alw (cQ 2 bx)
 have k3 := alw (cQ 3 bx)
 have k4 := alw (cQ 4 bx)
 have k5 := alw (cQ 5 bx)
 have k6 := alw (cQ 6 bx)
 have k7 := alw (cQ 7 bx)
 have k8 := alw (cQ 8 bx)
 clear bx
 have bp := aH W (.cells (Yq0 F a1 m1 a2 m2 a3 m3 a4 m4 a5 m5 a6 m6 a7 m7 n7 a8 m8) 31)
 have BP := Lh (((eR _).alloc (.cells #[.int .i64 0] 38)).heap bp)
 have be := aH (W.alloc (.cells (Yq0 F a1 m1 a2 m2 a3 m3 a4 m4 a5 m5 a6 m6 a7 m7 n7 a8 m8) 31)) (.cells #[.int .i64 0] 38)
 rw [szA] at be
 have BE := Lh be
 have e0 := alw (cQ 0 be)
 have ef := alwF (o := 0) be
 clear bp be hnm hhs hmd hrs has hts hss hct hdp hF
 by_cases h24 : 24 < F.cs.length
 ·have HE : Hid (R = 12) := Lh (by rw [hR, if_pos h24])
  have d1 : decide ((24 : Int) < (F.cs.length : Int)) = true := dTt (by omega)
  clear hR HPR
  go_enter Tryz.func96, Tryz.ntmps96
  go_wp2_with fail
  refine via (HCT.out _ grows) fun w3 x3 s3 => ?_
  have HX : Hid (Ext W (w3.setCell ⟨W.heap.size + 1, 0, none⟩ (.int .i64 12))) := Lh ((grows (a := W) (b := w3)).setCell (by show W.heap.size ≤ W.heap.size + 1; omega) _)
  have rc : (w3.setCell ⟨W.heap.size + 1, 0, none⟩ (.int .i64 12)).cell? ⟨W.heap.size + 1, 0, none⟩ = some (.int .i64 12) := cell_of (setCell_heap (x3.heap BE.out))
  go_wp2_with fail
  exact bodyPost_ret (v := .tuple #[.int .i64 (-1), .int .i64 (12)]) (by simp [results, Tryz.results96, go_sem, rc]) rfl (at_ret _ (by rw [HE.out]) HX.out)
 ·rw [if_neg h24] at hR
  have d1 : decide ((24 : Int) < (F.cs.length : Int)) = false := dF (by omega)
  by_cases h6 : 6 < F.nest
  ·have HE : Hid (R = 14) := Lh (by rw [hR, if_pos h6])
   have d2 : decide ((6 : Int) < (F.nest : Int)) = true := dTt (by omega)
   clear hR HPR
   go_enter Tryz.func96, Tryz.ntmps96
   go_wp2_with fail
   refine via (HCT.out _ grows) fun w3 x3 s3 => ?_
   go_wp2_with fail
   refine via (HNE.out _ grows) fun w4 x4 s4 => ?_
   have HX : Hid (Ext W (w4.setCell ⟨W.heap.size + 1, 0, none⟩ (.int .i64 14))) := Lh ((grows (a := W) (b := w4)).setCell (by show W.heap.size ≤ W.heap.size + 1; omega) _)
   have rc : (w4.setCell ⟨W.heap.size + 1, 0, none⟩ (.int .i64 14)).cell? ⟨W.heap.size + 1, 0, none⟩ = some (.int .i64 14) := cell_of (setCell_heap (x4.heap (x3.heap BE.out)))
   go_wp2_with fail
   exact bodyPost_ret (v := .tuple #[.int .i64 (-1), .int .i64 (14)]) (by simp [results, Tryz.results96, go_sem, rc]) rfl (at_ret _ (by rw [HE.out]) HX.out)
  ·rw [if_neg h6] at hR
   have d2 : decide ((6 : Int) < (F.nest : Int)) = false := dF (by omega)
   have HR := Lh hR
   clear hR
   go_enter Tryz.func96, Tryz.ntmps96
   go_wp2_with fail
   refine via (HCT.out _ grows) fun w3 x3 s3 => ?_
   go_wp2_with fail
   refine via (HNE.out _ grows) fun w4 x4 s4 => ?_
   have hle4 : W.heap.size + 1 + 1 ≤ w4.heap.size := by
    have h := (x3.trans x4).le
    rw [szA, szA] at h; exact h
   have hc1 := aH w4 (.cells #[.int .i64 0] 3)
   have hc2 := aH (w4.alloc (.cells #[.int .i64 0] 3)) (.cells #[.slice none 0 0] 29)
   rw [szA] at hc2
   have HS0 : Hid (ChkS W ⟨.string F.nm, .slice a1 F.P.hs.length m1, .slice a2 F.P.md.length m2, .slice a3 F.rs.length m3, .slice a4 F.ac.length m4, .slice a5 F.ts.length m5, .slice a6 F.ss.length m6, .slice a7 n7 m7, .slice a8 F.P.dp.length m8⟩ W.heap.size (W.heap.size + 1) w4.heap.size (w4.heap.size + 1) 0 [] 0 ((w4.alloc (.cells #[.int .i64 0] 3)).alloc (.cells #[.slice none 0 0] 29))) := Lh
    ⟨grows, (grows (a := ((W.alloc (.cells (Yq0 F a1 m1 a2 m2 a3 m3 a4 m4 a5 m5 a6 m6 a7 m7 n7 a8 m8) 31)).alloc (.cells #[.int .i64 0] 38))) (b := ((w4.alloc (.cells #[.int .i64 0] 3)).alloc (.cells #[.slice none 0 0] 29)))).heap BP.out, (grows (a := ((W.alloc (.cells (Yq0 F a1 m1 a2 m2 a3 m3 a4 m4 a5 m5 a6 m6 a7 m7 n7 a8 m8) 31)).alloc (.cells #[.int .i64 0] 38))) (b := ((w4.alloc (.cells #[.int .i64 0] 3)).alloc (.cells #[.slice none 0 0] 29)))).heap BE.out,
     ((eR _).alloc _).heap hc1, ⟨.slice none 0 0, hc2, World.ownsRow_nil _ _ _ _⟩, by omega⟩
   clear hc1 hc2
   go_wp2_with fail
   refine (HPR.out _ _ HS0.out).mono ?_
   rintro e w5 ⟨hk5, ⟨hz5, rfl, hs5⟩ | ⟨r, hz5, rfl, hs5⟩⟩
   ·have HE : Hid (R = 0) := Lh (by rw [HR.out, Tj.scan_bad, hz5])
    have q0 := cQ 0 hs5.he
    have qf := free_of (o := 0) hs5.he
    have HX : Hid (Ext W (w5.setCell ⟨W.heap.size + 1, 0, none⟩ (.int .i64 0))) := Lh (hs5.x.setCell (by show W.heap.size ≤ W.heap.size + 1; omega) _)
    have rc : (w5.setCell ⟨W.heap.size + 1, 0, none⟩ (.int .i64 0)).cell? ⟨W.heap.size + 1, 0, none⟩ = some (.int .i64 0) := cell_of (setCell_heap hs5.he)
    clear hs5 hk5 hz5
    go_wp2_with fail
    exact bodyPost_ret (v := .tuple #[.int .i64 (0), .int .i64 (0)]) (by simp [results, Tryz.results96, go_sem, rc]) rfl (at_ret _ (by rw [HE.out]) HX.out)
   ·have hne := Tj.badN_ne hz5
    obtain ⟨ne, hnE⟩ : ∃ z, z = Tj.nodeE F (Tj.usedBy r.1) r.2 := ⟨_, rfl⟩
    have HE : Hid (R = ne) := Lh (by rw [HR.out, Tj.scan_bad, hz5, hnE])
    rw [← hnE] at hs5 hne
    have z1 : (ne != 0) = true := nT hne
    obtain ⟨rn, hrn⟩ : ∃ z, z = r.1.length := ⟨_, rfl⟩
    rw [← hrn] at hs5
    have q0 := cQ 0 hs5.he
    have qf := free_of (o := 0) hs5.he
    have qn := cQ 0 hs5.hn
    have HX : Hid (Ext W (w5.setCell ⟨W.heap.size + 1, 0, none⟩ (.int .i64 ne))) := Lh (hs5.x.setCell (by show W.heap.size ≤ W.heap.size + 1; omega) _)
    have rc : (w5.setCell ⟨W.heap.size + 1, 0, none⟩ (.int .i64 ne)).cell? ⟨W.heap.size + 1, 0, none⟩ = some (.int .i64 ne) := cell_of (setCell_heap hs5.he)
    clear hs5 hk5 hz5 hne hnE hrn
    go_wp2_with fail
    go_region
    go_wp2_with fail
    exact bodyPost_ret (v := .tuple #[.int .i64 rn, .int .i64 ne]) (by simp [results, Tryz.results96, go_sem, rc]) rfl (at_ret _ (by rw [HE.out]) HX.out.drew)
end Go.Proofs.YthmokhkkdgnbhaaGreat
