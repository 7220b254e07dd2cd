/- Dependencies that an assignment meets: deps.Satisfied, walked. Valid assignments: placement.Valid, walked. The law's TooLarge, precedes, placementWorks, walked. The law TopPlacement, walked. What came in, read part by part, with its bulk. No condition. -/
import Derived.Test.YtkiafiaodockbaaGreatKqAT
import Derived.BigQuiet
import Derived.Test.YtkiafiaodockbaaGreatRows
set_option maxRecDepth 8000
set_option maxHeartbeats 16000000
namespace Go.Proofs.YtkiafiaodockbaaGreat
open Go.RowKit
namespace Pl
def fq (dp : Nat → Nat → Int) (σ : List Int) (j i : Nat) : Bool := if dp i j = 2 then decide (σ.getD i 0 < σ.getD j 0) else if dp i j = 1 then decide (σ.getD i 0 ≤ σ.getD j 0) else true
def satB (dp : Nat → Nat → Int) (n : Nat) (σ : List Int) : Bool := decide (σ.length = n) && (List.range n).all (fun j => (List.range j).all (fq dp σ j))
theorem sat_bad {dp : Nat → Nat → Int} {n : Nat} {σ : List Int} {i j : Nat} (hij : i < j) (hj : j < n) (h : fq dp σ j i = false) : satB dp n σ = false := by
 unfold satB
 rw [Bool.and_eq_false_iff]
 right
 rw [List.all_eq_false]
 exact ⟨j, List.mem_range.2 hj, by rw [Bool.not_eq_true, List.all_eq_false]; exact ⟨i, List.mem_range.2 hij, by rw [h]; decide⟩⟩
theorem sat_len {dp : Nat → Nat → Int} {n : Nat} {σ : List Int} (h : σ.length ≠ n) : satB dp n σ = false := by
 unfold satB; rw [dF h]; rfl
theorem sat_ok {dp : Nat → Nat → Int} {n : Nat} {σ : List Int} (hl : σ.length = n) (h : ∀ j, j < n → (List.range j).all (fq dp σ j) = true) : satB dp n σ = true := by
 unfold satB
 rw [dTt hl, Bool.true_and, List.all_eq_true]
 exact fun j hj => h j (List.mem_range.1 hj)
theorem all_step {f : Nat → Bool} {i : Nat} (h : (List.range i).all f = true) (hi : f i = true) : (List.range (i + 1)).all f = true := by
 rw [List.range_succ, List.all_append, h]; simp [hi]
end Pl
theorem sat_any {W : World} {oa : Option Addr} {c n : Nat} {dp : Nat → Nat → Int} (h : Pl.Dm W oa c n dp) (hd : Pl.D012 dp) (hn : n ≤ 1000) {sv : Value} {σ : List Int} (hs : Rows W 1 Pl.IrR sv σ) : Calls Tryz.prog 16 #[.slice oa n c, sv] W (Rets W (.bool (Pl.satB dp n σ))) := by
 have HKD : Hid (∀ w, Ext W w → ∀ i j : Nat, i < j → j < n → Calls Tryz.prog 32 #[.slice oa n c, .int .i64 i, .int .i64 j] w (Rets w (.int .i64 (dp i j)))) := Lh (fun w hx i j h1 h2 => dkind_any (h.ext hx) hd h1 h2)
 have HD := Lh hd
 have HS := Lh hs
 obtain ⟨sa, sc, rfl, hl1, hl2⟩ := hs.slice
 unfold maxLen at hl2
 obtain ⟨R, hR⟩ : ∃ z, z = Pl.satB dp n σ := ⟨_, rfl⟩
 rw [← hR]
 have HR := Lh hR
 clear h hd hs hR
 by_cases hlen : σ.length = n
 ·have HL := Lh hlen
  have z0 : ((σ.length : Int) != (n : Int)) = false := by rw [hlen]; exact bne_self_eq_false _
  have z00 : (σ.length != n) = false := by rw [hlen]; exact bne_self_eq_false _
  have hle1 : σ.length ≤ n := by omega
  have hle2 : n ≤ σ.length := by omega
  clear hlen
  go_enter Tryz.func16, Tryz.ntmps16
  go_wp2_with fail
  go_loopw [14] (fun q wr => ∃ j : Nat, j ≤ n ∧ q = .int .i64 j ∧ Hid (Ext W wr ∧ (∀ b, b < j → (List.range b).all (Pl.fq dp σ b) = true) ∧ (List.range 0).all (Pl.fq dp σ j) = true)) (fun q _ => n - (intOf q).toNat)
  case atStart => exact ⟨0, Nat.zero_le _, rfl, Lh ⟨by first | exact eR _ | exact grows, fun b hb => by omega, rfl⟩⟩
  case round =>
   obtain ⟨j, hj, rfl, HZ⟩ := hrel
   obtain ⟨wo, rfl⟩ : ∃ wo : World, wo = wr := ⟨_, rfl⟩
   by_cases hjt : j < n
   ·go_wp2_with fail
    go_loopw [18] (fun q wr => ∃ i : Nat, i ≤ j ∧ q = .int .i64 i ∧ Hid (Ext W wr ∧ (∀ b, b < j → (List.range b).all (Pl.fq dp σ b) = true) ∧ (List.range i).all (Pl.fq dp σ j) = true)) (fun q _ => j - (intOf q).toNat)
    case atStart => exact ⟨0, Nat.zero_le _, rfl, HZ⟩
    case round =>
     obtain ⟨i, hi, rfl, HY⟩ := hrel
     have sx : Step W wr := ⟨HY.out.1⟩
     by_cases hij : i < j
     ·obtain ⟨xj, hxj⟩ : ∃ y, σ[j]? = some y := ⟨_, gE (by omega)⟩
      obtain ⟨xi, hxi⟩ : ∃ y, σ[i]? = some y := ⟨_, gE (by omega)⟩
      obtain ⟨sb, so, rfl, c0⟩ := Pl.ir_at HS.out hxj
      obtain ⟨sb', so', hsa, c1⟩ := Pl.ir_at HS.out hxi
      simp only [Option.some.injEq, Addr.mk.injEq, and_true] at hsa
      obtain ⟨rfl, rfl⟩ := hsa
      obtain ⟨aj, haj⟩ : ∃ z, z = σ.getD j 0 := ⟨_, rfl⟩
      obtain ⟨ai, hai⟩ : ∃ z, z = σ.getD i 0 := ⟨_, rfl⟩
      have e1 : xj = aj := by rw [haj, List.getD_eq_getElem?_getD, hxj]; rfl
      have e2 : xi = ai := by rw [hai, List.getD_eq_getElem?_getD, hxi]; rfl
      rw [e1] at c0
      rw [e2] at c1
      have cj := alw c0
      have ci := alw c1
      have HAJ := Lh haj
      have HAI := Lh hai
      have HKC := Lh (HKD.out wr HY.out.1 i j hij hjt)
      have hdd := HD.out i j
      obtain ⟨y, hy⟩ : ∃ y, y = dp i j := ⟨_, rfl⟩
      rw [← hy] at HKC hdd
      clear haj hai hxj hxi c0 c1 e1 e2
      rcases hdd with rfl | rfl | rfl
      ·have HK : Hid (dp i j = 0) := Lh hy.symm
       clear hy
       go_wp2_with fail
       refine HKC.out.mono ?_
       rintro e w3 ⟨rfl, x3⟩
       have s3 := Sm x3
       have HN : Hid (Ext W w3 ∧ (∀ b, b < j → (List.range b).all (Pl.fq dp σ b) = true) ∧ (List.range (i + 1)).all (Pl.fq dp σ j) = true) := Lh ⟨HY.out.1.trans x3, HY.out.2.1, Pl.all_step HY.out.2.2 (by unfold Pl.fq; rw [HK.out]; rfl)⟩
       go_wp2_with fail
       go_roundw
       case rel => exact ⟨i + 1, by omega, by go_num, HN⟩
       case measure => simp [intOf]; omega
      ·have HK : Hid (dp i j = 1) := Lh hy.symm
       clear hy
       by_cases ht : aj < ai
       ·have z1 : decide (aj < ai) = true := dTt ht
        have HE : Hid (R = false) := Lh (by rw [HR.out]; exact Pl.sat_bad hij hjt (by unfold Pl.fq; rw [HK.out, ← HAJ.out, ← HAI.out]; exact dF (Int.not_le.2 ht)))
        clear ht
        go_wp2_with fail
        refine HKC.out.mono ?_
        rintro e w3 ⟨rfl, x3⟩
        have s3 := Sm x3
        clear x3
        go_wp2_with fail
        refine wp_region_later (W := w3) (by kernel_rfl) (by kernel_rfl) grows ?_
        repeat (go_big_quiet_step (fail))
        refine wpQuiet_nil ?_
        intro w9 hx9
        have s9 := Sm hx9
        go_wp2_with fail
        go_ret
        exact ⟨by rw [HE.out]; rfl, grows⟩
       ·have z1 : decide (aj < ai) = false := dF ht
        have HQ : Hid (Pl.fq dp σ j i = true) := Lh (by unfold Pl.fq; rw [HK.out, ← HAJ.out, ← HAI.out]; exact dTt (Int.not_lt.1 ht))
        clear ht
        go_wp2_with fail
        refine HKC.out.mono ?_
        rintro e w3 ⟨rfl, x3⟩
        have s3 := Sm x3
        clear x3
        go_wp2_with fail
        refine wp_region_later (W := w3) (by kernel_rfl) (by kernel_rfl) grows ?_
        repeat (go_big_quiet_step (fail))
        refine wpQuiet_nil ?_
        intro w9 hx9
        have s9 := Sm hx9
        have HN : Hid (Ext W w9 ∧ (∀ b, b < j → (List.range b).all (Pl.fq dp σ b) = true) ∧ (List.range (i + 1)).all (Pl.fq dp σ j) = true) := Lh ⟨HY.out.1.trans (grows (a := wr) (b := w9)), HY.out.2.1, Pl.all_step HY.out.2.2 HQ.out⟩
        go_wp2_with fail
        go_roundw
        case rel => exact ⟨i + 1, by omega, by go_num, HN⟩
        case measure => simp [intOf]; omega
      ·have HK : Hid (dp i j = 2) := Lh hy.symm
       clear hy
       by_cases ht : aj ≤ ai
       ·have z1 : decide (aj ≤ ai) = true := dTt ht
        have HE : Hid (R = false) := Lh (by rw [HR.out]; exact Pl.sat_bad hij hjt (by unfold Pl.fq; rw [HK.out, ← HAJ.out, ← HAI.out]; exact dF (Int.not_lt.2 ht)))
        clear ht
        go_wp2_with fail
        refine HKC.out.mono ?_
        rintro e w3 ⟨rfl, x3⟩
        have s3 := Sm x3
        clear x3
        go_wp2_with fail
        refine wp_region_later (W := w3) (by kernel_rfl) (by kernel_rfl) grows ?_
        repeat (go_big_quiet_step (fail))
        refine wpQuiet_nil ?_
        intro w9 hx9
        have s9 := Sm hx9
        go_wp2_with fail
        go_ret
        exact ⟨by rw [HE.out]; rfl, grows⟩
       ·have z1 : decide (aj ≤ ai) = false := dF ht
        have HQ : Hid (Pl.fq dp σ j i = true) := Lh (by unfold Pl.fq; rw [HK.out, ← HAJ.out, ← HAI.out]; exact dTt (Int.not_le.1 ht))
        clear ht
        go_wp2_with fail
        refine HKC.out.mono ?_
        rintro e w3 ⟨rfl, x3⟩
        have s3 := Sm x3
        clear x3
        go_wp2_with fail
        refine wp_region_later (W := w3) (by kernel_rfl) (by kernel_rfl) grows ?_
        repeat (go_big_quiet_step (fail))
        refine wpQuiet_nil ?_
        intro w9 hx9
        have s9 := Sm hx9
        have HN : Hid (Ext W w9 ∧ (∀ b, b < j → (List.range b).all (Pl.fq dp σ b) = true) ∧ (List.range (i + 1)).all (Pl.fq dp σ j) = true) := Lh ⟨HY.out.1.trans (grows (a := wr) (b := w9)), HY.out.2.1, Pl.all_step HY.out.2.2 HQ.out⟩
        go_wp2_with fail
        go_roundw
        case rel => exact ⟨i + 1, by omega, by go_num, HN⟩
        case measure => simp [intOf]; omega
     ·obtain rfl : j = i := by omega
      have HO : Hid (Ext W wr ∧ (∀ b, b < (j + 1) → (List.range b).all (Pl.fq dp σ b) = true) ∧ (List.range 0).all (Pl.fq dp σ (j + 1)) = true) := Lh ⟨HY.out.1, fun b hb => by
       by_cases e : b = j
       ·rw [e]; exact HY.out.2.2
       ·exact HY.out.2.1 b (by omega), rfl⟩
      go_wp2_with fail
      go_roundw
      case rel => exact ⟨j + 1, by omega, by go_num, HO⟩
      case measure => simp [intOf]; omega
   ·have HE : Hid (R = true ∧ Ext W wo) := Lh ⟨by rw [HR.out]; exact Pl.sat_ok HL.out (fun b hb => HZ.out.2.1 b (by omega)), HZ.out.1⟩
    obtain rfl : n = j := by omega
    go_wp2_with fail
    go_ret
    exact ⟨by rw [HE.out.1]; rfl, HE.out.2⟩
 ·have z0 : ((σ.length : Int) != (n : Int)) = true := nT (by omega)
  have z00 : (σ.length != n) = true := bne_iff_ne.2 hlen
  have HE : Hid (R = false) := Lh (by rw [HR.out]; exact Pl.sat_len hlen)
  clear hlen
  go_enter Tryz.func16, Tryz.ntmps16
  go_wp2_with fail
  go_ret
  exact ⟨by rw [HE.out]; rfl, by first | exact eR _ | exact grows⟩
namespace Pl
theorem ir_ns {w : World} {v : Value} {l : List Int} (h : Rows w 1 IrR v l) : Ns .i64 w v l := by
 rcases h with ⟨rfl, rfl⟩ | ⟨ad, c, rfl, h2, h3, h5, h4⟩
 ·exact ⟨⟨rfl, by simp, .inl ⟨rfl, rfl⟩⟩, Nat.zero_le _⟩
 ·refine ⟨⟨by simp, fun v hv => ?_, .inr ⟨ad, c, rfl, fun j u hj => ?_⟩⟩, Nat.le_trans h2 h3⟩
  ·obtain ⟨x, _, rfl⟩ := List.mem_map.1 hv; rfl
  ·rw [List.getElem?_map] at hj
   cases hd : l[j]? with
   | none => rw [hd] at hj; cases hj
   | some d =>
    rw [hd] at hj
    simp only [Option.map_some, Option.some.injEq] at hj
    subst hj
    obtain ⟨cs, _, rfl, g⟩ := h4 j d hd
    rw [h5 (by intro e; subst e; simp at hd), Addr.add_mid]
    have := g 0 _ rfl
    rwa [Nat.mul_one, Nat.add_zero] at this
def valB (F : Tj.FP) (C : Chip) (us : List Un) (σ : List Int) : Bool :=
 decide (Tj.chkF F = 0) && (decide (chipE C = 0) && (satB (dep F us) us.length σ && ((List.range σ.length).all (fun i => decide (0 ≤ σ.getD i 0 ∧ σ.getD i 0 < C.S)) && (List.range C.S.toNat).all (fun s => wiU C (Pl.us (job F C us) σ (s : Int))))))
theorem valB_0 {F : Tj.FP} {C : Chip} {us : List Un} {σ : List Int} (h : Tj.chkF F ≠ 0) : valB F C us σ = false := by
 unfold valB; rw [dF h, Bool.false_and]
theorem valB_1 {F : Tj.FP} {C : Chip} {us : List Un} {σ : List Int} (h : chipE C ≠ 0) : valB F C us σ = false := by
 unfold valB; rw [dF h, Bool.false_and, Bool.and_false]
theorem valB_2 {F : Tj.FP} {C : Chip} {us : List Un} {σ : List Int} (h : satB (dep F us) us.length σ = false) : valB F C us σ = false := by
 unfold valB; rw [h, Bool.false_and, Bool.and_false, Bool.and_false]
theorem valB_3 {F : Tj.FP} {C : Chip} {us : List Un} {σ : List Int} {i : Nat} (hi : i < σ.length) (h : ¬ (0 ≤ σ.getD i 0 ∧ σ.getD i 0 < C.S)) : valB F C us σ = false := by
 have h1 : (List.range σ.length).all (fun i => decide (0 ≤ σ.getD i 0 ∧ σ.getD i 0 < C.S)) = false := by
  rw [Bool.eq_false_iff]; intro e
  exact h (of_decide_eq_true (List.all_eq_true.1 e i (List.mem_range.2 hi)))
 unfold valB; rw [h1, Bool.false_and, Bool.and_false, Bool.and_false, Bool.and_false]
theorem valB_4 {F : Tj.FP} {C : Chip} {us : List Un} {σ : List Int} {s : Nat} (hs : (s : Int) < C.S) (h : wiU C (Pl.us (job F C us) σ (s : Int)) = false) : valB F C us σ = false := by
 have h1 : (List.range C.S.toNat).all (fun s => wiU C (Pl.us (job F C us) σ (s : Int))) = false := by
  rw [Bool.eq_false_iff]; intro e
  have := List.all_eq_true.1 e s (List.mem_range.2 (by omega))
  rw [h] at this; cases this
 unfold valB; rw [h1, Bool.and_false, Bool.and_false, Bool.and_false, Bool.and_false]
theorem valB_t {F : Tj.FP} {C : Chip} {us : List Un} {σ : List Int} (h0 : Tj.chkF F = 0) (h1 : chipE C = 0) (h2 : satB (dep F us) us.length σ = true) (h3 : ∀ i, i < σ.length → 0 ≤ σ.getD i 0 ∧ σ.getD i 0 < C.S) (h4 : ∀ s : Nat, (s : Int) < C.S → wiU C (Pl.us (job F C us) σ (s : Int)) = true) : valB F C us σ = true := by
 have e3 : (List.range σ.length).all (fun i => decide (0 ≤ σ.getD i 0 ∧ σ.getD i 0 < C.S)) = true := List.all_eq_true.2 (fun i hi => dTt (h3 i (List.mem_range.1 hi)))
 have e4 : (List.range C.S.toNat).all (fun s => wiU C (Pl.us (job F C us) σ (s : Int))) = true := List.all_eq_true.2 (fun s hs => h4 s (by have := List.mem_range.1 hs; omega))
 unfold valB; rw [dTt h0, dTt h1, h2, e3, e4]; rfl
/-- what Valid says -/
theorem valB_iff {F : Tj.FP} {C : Chip} {us : List Un} {σ : List Int} : valB F C us σ = true ↔ Good F C us σ := by
 constructor
 ·intro h
  unfold valB at h
  simp only [Bool.and_eq_true, decide_eq_true_eq, List.all_eq_true, List.mem_range] at h
  obtain ⟨h0, h1, h2, h3, h4⟩ := h
  unfold satB at h2
  simp only [Bool.and_eq_true, decide_eq_true_eq, List.all_eq_true, List.mem_range] at h2
  refine ⟨h0, h1, h2.1, fun j hj => List.all_eq_true.2 (fun i hi => h2.2 j hj i (List.mem_range.1 hi)), fun x hx => ?_, fun s hs1 hs2 => ?_⟩
  ·obtain ⟨i, hi, rfl⟩ := List.mem_iff_getElem.1 hx
   have := h3 i hi
   rwa [List.getD_eq_getElem?_getD, gE hi] at this
  ·have h5 : s < C.S := hs2
   have := h4 s.toNat (by omega)
   rwa [show ((s.toNat : Nat) : Int) = s by omega] at this
 ·rintro ⟨h0, h1, hv⟩
  refine valB_t h0 h1 ?_ (fun i hi => hv.rg _ (getD_mem hi)) (fun s hs => hv.wi _ (by omega) hs)
  unfold satB
  simp only [Bool.and_eq_true, decide_eq_true_eq, List.all_eq_true, List.mem_range]
  exact ⟨hv.len, fun j hj i hi => List.all_eq_true.1 (hv.fo j hj) i (List.mem_range.2 hi)⟩
end Pl
theorem valid_any {W : World} {p : Pg.PV} {F : Tj.FP} (hG : Tj.IsG W p F) {oc7 : Option Addr} {m c7 : Nat} (hp : p.c7 = .slice oc7 m c7) (C : Pl.Chip) {sv : Value} {σ : List Int} (hs : Rows W 1 Pl.IrR sv σ) : Calls Tryz.prog 7 #[p.val, .agg (Pl.chL C).toArray, sv] W (Rets W (.bool (Pl.valB F C (Pl.unF F m) σ))) := by
 have hF := hG.1
 have HCK := Lh (fun (w : World) (hx : Ext W w) => pcheck2_any (hG.ext hx))
 have HNJ : Hid (Tj.chkF F = 0 → ∀ w, Ext W w → Calls Tryz.prog 13 #[p.val, .agg (Pl.chL C).toArray] w (Pl.NewP w F C (Pl.unF F m))) := Lh (fun hc w hx => newjob_any (hG.ext hx) hc hp C)
 have HCC : Hid (∀ w, Calls Tryz.prog 12 #[.agg (Pl.chL C).toArray] w (Rets w (.int .i64 (Pl.chipE C)))) := Lh (chip_any C)
 have HWI : Hid (∀ (u : Pl.Us) (w : World), Calls Tryz.prog 18 #[.agg #[.int .i64 u.t, .int .i64 u.g, .int .i64 u.r, .int .i64 u.c], .agg (Pl.chL C).toArray] w (Rets w (.bool (Pl.wiU C u)))) := Lh (fun u w => within_any u C w)
 have HBD := Lh (fun hc => Pl.bd_of (F := F) hc)
 have HUF := Lh (fun hc => Pl.uf_of hF (Pl.bd_of hc) hp)
 have HNS := Lh (Pl.ir_ns hs)
 have HS := Lh hs
 obtain ⟨us, hus⟩ : ∃ us, us = (Pl.unF F m) := ⟨_, rfl⟩
 rw [← hus] at HNJ HUF ⊢
 obtain ⟨sa, sc, rfl, hsl1, hsl2⟩ := hs.slice
 obtain ⟨a1, a2, a3, a4, a5, a6, a7, a8, m1, m2, m3, m4, m5, m6, n7, m7, m8, hf⟩ := hF.form
 obtain ⟨rfl, hnm, hhs, hmd, hrs, has, hts, hss, hct, hdp, l1, l2, l3, l4, l5, l6, l7, l8⟩ := hf
 obtain ⟨s0, s1, s2, s3, s4, s5, s6, s7⟩ := C
 unfold Pl.chL at HNJ HCC HWI ⊢
 dsimp only [Pg.PV.val] at HCK HNJ HCC HWI ⊢
 unfold DiagP at HCK
 have bx := aH W (.cells (Yq0 F a1 m1 a2 m2 a3 m3 a4 m4 a5 m5 a6 m6 a7 m7 n7 a8 m8) 31)
 have k0 := alw (cQ 0 bx)
 have k1 := alw (cQ 1 bx)
 have k2 := alw (cQ 2 bx)
 have k3 := alw (cQ 3 bx)
 have k4 := alw (cQ 4 bx)
 have k5 := alw (cQ 5 bx)
 have k6 := alw (cQ 6 bx)
 have k7 := alw (cQ 7 bx)
 have k8 := alw (cQ 8 bx)
 clear bx
 have bx := aH (W.alloc (.cells (Yq0 F a1 m1 a2 m2 a3 m3 a4 m4 a5 m5 a6 m6 a7 m7 n7 a8 m8) 31)) (.cells (Yq7 s0 s1 s2 s3 s4 s5 s6 s7) 33)
 rw [szA] at bx
 have c0 := alw (cQ 0 bx)
 have c1 := alw (cQ 1 bx)
 have c2 := alw (cQ 2 bx)
 have c3 := alw (cQ 3 bx)
 have c4 := alw (cQ 4 bx)
 have c5 := alw (cQ 5 bx)
 have c6 := alw (cQ 6 bx)
 have c7 := alw (cQ 7 bx)
 clear bx
 clear hF hG hp hus hnm hhs hmd hrs has hts hss hct hdp hs
 obtain ⟨R, hR⟩ : ∃ z, z = Pl.valB F ⟨s0, s1, s2, s3, s4, s5, s6, s7⟩ us σ := ⟨_, rfl⟩
 rw [← hR]
 have HR := Lh hR
 obtain ⟨x0, hx0⟩ : ∃ z, z = Tj.chkF F := ⟨_, rfl⟩
 obtain ⟨x1, hx1⟩ : ∃ z, z = Pl.chipE ⟨s0, s1, s2, s3, s4, s5, s6, s7⟩ := ⟨_, rfl⟩
 rw [← hx0] at HCK HNJ HBD HUF
 rw [← hx1] at HCC
 have HX0 := Lh hx0
 have HX1 := Lh hx1
 clear hx0 hx1 hR
 go_enter Tryz.func7, Tryz.ntmps7
 go_wp2_with fail
 refine (HCK.out _ grows).mono ?_
 rintro e w3 ⟨d1, d2, d3, rfl, x3⟩
 have sw3 := Sm x3
 have hfd : ∀ w, (Instr.field 57 (.agg #[.int .i64 x0, .int .i64 d1, .int .i64 d2, .int .i64 d3]) 0).run Tryz.prog w = .ok (.int .i64 x0) w := fun w => by kernel_rfl
 by_cases h0 : x0 = 0
 ·subst h0
  go_wp2_with fail
  refine via (HCC.out _) fun w4 x4 sw4 => ?_
  by_cases h1 : x1 = 0
  ·subst h1
   have HCS : Hid (1 ≤ s0 ∧ s0 ≤ 16) := Lh (Pl.chip_S (C := ⟨s0, s1, s2, s3, s4, s5, s6, s7⟩) HX1.out.symm)
   go_wp2_with fail
   refine (HNJ.out trivial _ grows).mono ?_
   rintro e w5 ⟨g, rfl, x5, hj⟩
   have sw5 := Sm x5
   have hn : us.length ≤ 1000 := by have := (HUF.out trivial).le; omega
   have HUS : Hid (σ.length ≤ us.length → ∀ w, Ext w5 w → ∀ s : Int, Calls Tryz.prog 17 #[.pointer (some ⟨g, 0, none⟩), .slice sa σ.length sc, .int .i64 s] w (Rets w (.agg #[.int .i64 (Pl.us (Pl.job F ⟨s0, s1, s2, s3, s4, s5, s6, s7⟩ us) σ s).t, .int .i64 (Pl.us (Pl.job F ⟨s0, s1, s2, s3, s4, s5, s6, s7⟩ us) σ s).g, .int .i64 (Pl.us (Pl.job F ⟨s0, s1, s2, s3, s4, s5, s6, s7⟩ us) σ s).r, .int .i64 (Pl.us (Pl.job F ⟨s0, s1, s2, s3, s4, s5, s6, s7⟩ us) σ s).c]))) := Lh (fun hl w hx s => jusage_any (HBD.out trivial) (hj.ext hx) (HNS.out.ext ((grows (a := W) (b := w5)).trans hx)) hl s hn)
   obtain ⟨ua, uc, ca, cc, oa, oc, hb, _, _, hd⟩ := hj
   have b10 := alw (cQ 10 hb)
   have HSA : Hid (∀ w, Ext w5 w → Calls Tryz.prog 16 #[.slice oa us.length oc, .slice sa σ.length sc] w (Rets w (.bool (Pl.satB (Pl.dep F us) us.length σ)))) := Lh (fun w hx => sat_any (hd.ext hx) (Pl.dep_012 F us) hn (Rows.ext (w' := w) HS.out (fun _ _ h => h) ((grows (a := W) (b := w5)).trans hx)))
   obtain ⟨b, hbb⟩ : ∃ z, z = Pl.satB (Pl.dep F us) us.length σ := ⟨_, rfl⟩
   rw [← hbb] at HSA
   have HSB := Lh hbb
   clear hb hd hbb x5 HNJ HCC HCK HBD HUF x3 x4
   go_wp2_with fail
   refine via (HSA.out _ grows) fun w6 x6 sw6 => ?_
   rcases b with _ | _
   ·have HE : Hid (R = false) := Lh (by rw [HR.out]; exact Pl.valB_2 HSB.out.symm)
    go_wp2_with fail
    go_ret
    rw [HE.out]
    exact ⟨rfl, grows⟩
   ·have hsl : σ.length ≤ us.length := by
     have h := HSB.out.symm
     unfold Pl.satB at h
     simp only [Bool.and_eq_true, decide_eq_true_eq] at h
     omega
    have HUS2 := Lh (HUS.out hsl)
    clear HUS x6
    go_wp2_with fail
    go_loopw [32] (fun q wr => ∃ i : Nat, i ≤ σ.length ∧ q = .int .i64 i ∧ Hid (∀ j, j < i → 0 ≤ σ.getD j 0 ∧ σ.getD j 0 < s0) ∧ Hid (Ext w6 wr)) (fun q _ => σ.length - (intOf q).toNat)
    case atStart => exact ⟨0, Nat.zero_le _, rfl, Lh (fun j hj => by omega), Lh (eR _)⟩
    case round =>
     obtain ⟨i, hi, rfl, HP, HX⟩ := hrel
     have sx : Step w6 wr := ⟨HX.out⟩
     by_cases hik : i < σ.length
     ·obtain ⟨x, hx⟩ : ∃ x, σ[i]? = some x := ⟨_, gE hik⟩
      obtain ⟨sb, so, rfl, hc⟩ := ns_at HNS.out (by omega)
      have cx := hc i x hx
      have hgx : σ.getD i 0 = x := by rw [List.getD_eq_getElem?_getD, hx]; rfl
      have HGX := Lh hgx
      clear hx hc hgx
      by_cases hx0 : x < 0
      ·have z1 : decide (x < 0) = true := dTt hx0
       have HE : Hid (R = false) := Lh (by rw [HR.out]; exact Pl.valB_3 hik (by rw [HGX.out]; omega))
       go_wp2_with fail
       go_ret
       rw [HE.out]
       exact ⟨rfl, grows⟩
      ·have z1 : decide (x < 0) = false := dF hx0
       by_cases hx1 : s0 ≤ x
       ·have z2 : decide (s0 ≤ x) = true := dTt hx1
        have HE : Hid (R = false) := Lh (by rw [HR.out]; exact Pl.valB_3 hik (by rw [HGX.out]; show ¬ (0 ≤ x ∧ x < s0); omega))
        go_wp2_with fail
        go_ret
        rw [HE.out]
        exact ⟨rfl, grows⟩
       ·have z2 : decide (s0 ≤ x) = false := dF hx1
        have HN : Hid (∀ j, j < i + 1 → 0 ≤ σ.getD j 0 ∧ σ.getD j 0 < s0) := Lh (fun j hj => by
         rcases (show j < i ∨ j = i by omega) with h | rfl
         ·exact HP.out j h
         ·rw [HGX.out]; omega)
        clear HP
        go_wp2_with fail
        go_roundw
        case rel => exact ⟨i + 1, by omega, by go_num, HN, HX⟩
        case measure => simp [intOf]; omega
     ·obtain rfl : i = σ.length := by omega
      go_wp2_with fail
      go_loopw [47] (fun q wr => ∃ s : Nat, s ≤ s0.toNat ∧ q = .int .i64 s ∧ Hid (∀ t : Nat, t < s → Pl.wiU ⟨s0, s1, s2, s3, s4, s5, s6, s7⟩ (Pl.us (Pl.job F ⟨s0, s1, s2, s3, s4, s5, s6, s7⟩ us) σ (t : Int)) = true) ∧ Hid (Ext w6 wr)) (fun q _ => s0.toNat - (intOf q).toNat)
      case atStart => exact ⟨0, Nat.zero_le _, rfl, Lh (fun j hj => by omega), Lh HX.out⟩
      case round =>
       obtain ⟨s, hs, rfl, HP2, HX2⟩ := hrel
       have sx2 : Step w6 wr := ⟨HX2.out⟩
       by_cases hsk : (s : Int) < s0
       ·have hs16 := HCS.out
        have HSN : Hid (s < s0.toNat) := Lh (by omega)
        have z1 : decide ((s : Int) < s0) = true := dTt hsk
        have HU1 := Lh (fun w (hx : Ext wr w) => HUS2.out w ((grows (a := w5) (b := wr)).trans hx) (s : Int))
        obtain ⟨u, hu⟩ : ∃ u, u = Pl.us (Pl.job F ⟨s0, s1, s2, s3, s4, s5, s6, s7⟩ us) σ (s : Int) := ⟨_, rfl⟩
        rw [← hu] at HU1
        have HUU := Lh hu
        obtain ⟨u1, u2, u3, u4⟩ := u
        have HW1 := Lh (fun w => HWI.out ⟨u1, u2, u3, u4⟩ w)
        dsimp only at HU1 HW1
        obtain ⟨b, hbb⟩ : ∃ b, b = Pl.wiU ⟨s0, s1, s2, s3, s4, s5, s6, s7⟩ ⟨u1, u2, u3, u4⟩ := ⟨_, rfl⟩
        rw [← hbb] at HW1
        have HBB := Lh hbb
        clear hu hbb
        go_wp2_with fail
        refine wp_region_later (W := wr) (by kernel_rfl) (by kernel_rfl) grows ?_
        repeat (go_big_quiet_step (first | (go_at_call 17; with_reducible exact Rets.later_at (HU1.out _ grows)) | (go_at_call 18; with_reducible exact Rets.later_at (HW1.out _)) | fail))
        refine wpQuiet_nil ?_
        intro w9 hx9
        have sw9 := Sm hx9
        rcases b with _ | _
        ·have HE : Hid (R = false) := Lh (by rw [HR.out]; exact Pl.valB_4 hsk (by rw [← HUU.out]; exact HBB.out.symm))
         go_wp2_with fail
         go_ret
         rw [HE.out]
         exact ⟨rfl, grows⟩
        ·have HN : Hid (∀ t : Nat, t < s + 1 → Pl.wiU ⟨s0, s1, s2, s3, s4, s5, s6, s7⟩ (Pl.us (Pl.job F ⟨s0, s1, s2, s3, s4, s5, s6, s7⟩ us) σ (t : Int)) = true) := Lh (fun t ht => by
          rcases (show t < s ∨ t = s by omega) with h | rfl
          ·exact HP2.out t h
          ·rw [← HUU.out]; exact HBB.out.symm)
         have HX9 : Hid (Ext w6 w9) := Lh (HX2.out.trans hx9)
         go_wp2_with fail
         go_roundw
         case rel => exact ⟨s + 1, HSN.out, by go_num, HN, HX9⟩
         case measure =>
          have := HSN.out
          simp [intOf]; omega
       ·have z1 : decide ((s : Int) < s0) = false := dF hsk
        have HE : Hid (R = true) := Lh (by rw [HR.out]; exact Pl.valB_t HX0.out.symm HX1.out.symm HSB.out.symm HP.out (fun t ht => HP2.out t (by have ht2 : (t : Int) < s0 := ht; omega)))
        go_wp2_with fail
        go_ret
        rw [HE.out]
        exact ⟨rfl, grows⟩
  ·have z1 : (x1 != 0) = true := nT h1
   have HE : Hid (R = false) := Lh (by rw [HR.out]; exact Pl.valB_1 (by rw [← HX1.out]; exact h1))
   go_wp2_with fail
   go_ret
   rw [HE.out]
   exact ⟨rfl, grows⟩
 ·have z0 : (x0 != 0) = true := nT h0
  have HE : Hid (R = false) := Lh (by rw [HR.out]; exact Pl.valB_0 (by rw [← HX0.out]; exact h0))
  go_wp2_with fail
  go_ret
  rw [HE.out]
  exact ⟨rfl, grows⟩
/-- some answer -/
def SomeB (W : World) (e : Ending) (w' : World) : Prop := ∃ b, e = .returned (.bool b) ∧ Ext W w'
theorem large26_any {W : World} {p : Pg.PV} {F : Tj.FP} (hF : Tj.IsF W p F) : Calls Tryz.prog 4 #[p.val, .agg #[.slice none 0 0, .slice none 0 0, .slice none 0 0, .slice none 0 0]] W (SomeB W) := by
 obtain ⟨a1, a2, a3, a4, a5, a6, a7, a8, m1, m2, m3, m4, m5, m6, n7, m7, m8, hf⟩ := hF.form
 obtain ⟨rfl, hnm, hhs, hmd, hrs, has, hts, hss, hct, hdp, l1, l2, l3, l4, l5, l6, l7, l8⟩ := hf
 dsimp only [Pg.PV.val] at *
 have HAS := Lh has
 clear hF hnm hhs hmd hrs has hts hss hct hdp
 have bx := aH W (.cells (Yq0 F a1 m1 a2 m2 a3 m3 a4 m4 a5 m5 a6 m6 a7 m7 n7 a8 m8) 31)
 have k0 := alw (cQ 0 bx)
 have k1 := alw (cQ 1 bx)
 have k2 := alw (cQ 2 bx)
 have k3 := alw (cQ 3 bx)
 have k4 := alw (cQ 4 bx)
 have k5 := alw (cQ 5 bx)
 have k6 := alw (cQ 6 bx)
 have k7 := alw (cQ 7 bx)
 have k8 := alw (cQ 8 bx)
 clear bx
 have b2 := aH (W.alloc (.cells (Yq0 F a1 m1 a2 m2 a3 m3 a4 m4 a5 m5 a6 m6 a7 m7 n7 a8 m8) 31)) (.cells #[.slice none 0 0, .slice none 0 0, .slice none 0 0, .slice none 0 0] 42)
 rw [szA] at b2
 have j0 := alw (cQ 0 b2)
 have j3 := alw (cQ 3 b2)
 clear b2
 go_enter Tryz.func4, Tryz.ntmps4
 go_wp2_with fail
 go_loopw [5, 7] (fun m q wr => m = .int .i64 0 ∧ q = .int .i64 0 ∧ Hid (Ext ((W.alloc (.cells (Yq0 F a1 m1 a2 m2 a3 m3 a4 m4 a5 m5 a6 m6 a7 m7 n7 a8 m8) 31)).alloc (.cells #[.slice none 0 0, .slice none 0 0, .slice none 0 0, .slice none 0 0] 42)) wr)) (fun _ _ _ => 0)
 case atStart => exact ⟨rfl, rfl, Lh (eR _)⟩
 case round =>
  obtain ⟨rfl, rfl, HX⟩ := hrel
  have sx := Sm HX.out
  have HXW : Hid (Ext W wr) := Lh ((grows (a := W) (b := ((W.alloc (.cells (Yq0 F a1 m1 a2 m2 a3 m3 a4 m4 a5 m5 a6 m6 a7 m7 n7 a8 m8) 31)).alloc (.cells #[.slice none 0 0, .slice none 0 0, .slice none 0 0, .slice none 0 0] 42)))).trans HX.out)
  have sw := Sm HXW.out
  go_wp2_with fail
  go_loopw [6, 8] (fun m q wz => ∃ k : Nat, k ≤ F.ac.length ∧ q = .int .i64 k ∧ (∃ z : Int, m = .int .i64 z) ∧ Hid (Ext wr wz)) (fun _ q _ => F.ac.length - (intOf q).toNat)
  case atStart => exact ⟨0, Nat.zero_le _, rfl, ⟨0, rfl⟩, Lh (eR _)⟩
  case round =>
   obtain ⟨k, hk, rfl, ⟨z, rfl⟩, HX2⟩ := hrel
   have sz := Sm HX2.out
   by_cases hlt : k < F.ac.length
   ·obtain ⟨x, hx⟩ : ∃ u, F.ac[k]? = some u := ⟨_, gE hlt⟩
    obtain ⟨p1, o1, rfl, _, _⟩ := Rows.at HAS.out (by omega)
    obtain ⟨pa, pc, ba, bc, hn, hps, hbd, _, _, u0, u1, u2⟩ := acts_at HAS.out k x hx rfl
    have y2 := alw u2
    have ql : ¬ ((F.ac.length : Int) ≤ k) := by omega
    clear hx hn hps hbd u0 u1 u2
    go_wp2_with fail
    go_roundw
    case rel => exact ⟨k + 1, by omega, by go_num, ⟨_, rfl⟩, HX2⟩
    case measure => simp [intOf]; omega
   ·obtain rfl : k = F.ac.length := by omega
    by_cases q0 : (60 : Int) < z
    ·have g0 : decide ((60 : Int) < z) = true := dTt q0
     go_wp2_with fail
     go_ret
     exact ⟨_, rfl, grows⟩
    ·have g0 : decide ((60 : Int) < z) = false := dF q0
     by_cases q1 : (12 : Int) < (F.P.hs.length : Int)
     ·have g1 : decide ((12 : Int) < (F.P.hs.length : Int)) = true := dTt q1
      go_wp2_with fail
      go_ret
      exact ⟨_, rfl, grows⟩
     ·have g1 : decide ((12 : Int) < (F.P.hs.length : Int)) = false := dF q1
      by_cases q2 : (16 : Int) < (F.ts.length : Int)
      ·have g2 : decide ((16 : Int) < (F.ts.length : Int)) = true := dTt q2
       go_wp2_with fail
       go_ret
       exact ⟨_, rfl, grows⟩
      ·have g2 : decide ((16 : Int) < (F.ts.length : Int)) = false := dF q2
       by_cases q3 : (16 : Int) < (F.ss.length : Int)
       ·have g3 : decide ((16 : Int) < (F.ss.length : Int)) = true := dTt q3
        go_wp2_with fail
        go_ret
        exact ⟨_, rfl, grows⟩
       ·have g3 : decide ((16 : Int) < (F.ss.length : Int)) = false := dF q3
        by_cases q4 : (30 : Int) < (n7 : Int)
        ·have g4 : decide ((30 : Int) < (n7 : Int)) = true := dTt q4
         go_wp2_with fail
         go_ret
         exact ⟨_, rfl, grows⟩
        ·have g4 : decide ((30 : Int) < (n7 : Int)) = false := dF q4
         go_wp2_with fail
         go_ret
         exact ⟨_, rfl, grows⟩
namespace Pl
theorem prec_ne : ∀ {a b : List Int} {i : Nat}, i < a.length → i < b.length → (∀ j, j < i → a.getD j 0 = b.getD j 0) → a.getD i 0 ≠ b.getD i 0 → prec a b = decide (a.getD i 0 < b.getD i 0)
 | [], _, _, h, _, _, _ => by simp at h
 | _ :: _, [], _, _, h, _, _ => by simp at h
 | x :: a, y :: b, 0, _, _, _, h => by
  have h : x ≠ y := h
  show (if x ≠ y then decide (x < y) else prec a b) = decide (x < y)
  rw [if_pos h]
 | x :: a, y :: b, i + 1, h1, h2, h3, h4 => by
  have e : x = y := h3 0 (by omega)
  show (if x ≠ y then decide (x < y) else prec a b) = _
  rw [if_neg (by simp [e]), prec_ne (a := a) (b := b) (i := i) (by simpa using h1) (by simpa using h2) (fun j hj => h3 (j + 1) (by omega)) h4]; rfl
theorem prec_end : ∀ {a b : List Int} {i : Nat}, (a.length ≤ i ∨ b.length ≤ i) → (∀ j, j < i → a.getD j 0 = b.getD j 0) → prec a b = false
 | [], _, _, _, _ => rfl
 | _ :: _, [], _, _, _ => rfl
 | _ :: _, _ :: _, 0, h, _ => by simp at h
 | x :: a, y :: b, i + 1, h, h3 => by
  have e : x = y := h3 0 (by omega)
  show (if x ≠ y then decide (x < y) else prec a b) = _
  rw [if_neg (by simp [e])]
  exact prec_end (i := i) (by simpa using h) (fun j hj => h3 (j + 1) (by omega))
theorem ir_get {l : List Int} {i : Nat} (h : i < l.length) : l[i]? = some (l.getD i 0) := by
 rw [List.getD_eq_getElem?_getD, gE h]; rfl
theorem wf_one {m : Nat} {l : List Tj.CN} (h : WF m l) (hl : l.length = 1) : m = 1 := by
 cases h with
 | nil => simp at hl
 | @cons x k a b c ha hb hc =>
  simp only [List.length_cons, List.length_append] at hl
  cases hc with
  | nil => rfl
  | cons _ _ _ => simp at hl
theorem small_m {W : World} {p : Pg.PV} (hG : Tj.IsG W p Tj.small) {oa : Option Addr} {m c : Nat} (hp : p.c7 = .slice oa m c) : m = 1 := by
 obtain ⟨⟨_, _, _, _, _, ⟨n, m', h7⟩, _⟩, _⟩ := hG
 obtain ⟨oa', c', h8, _⟩ := h7.slice
 rw [hp] at h8
 simp only [Value.slice.injEq] at h8
 obtain ⟨_, rfl, _⟩ := h8
 exact wf_one (ctl_wf h7) rfl
theorem works_a {W w' : World} {e : Ending} (h : PlaP W Tj.small chA (unF Tj.small 1) 10 e w') : ∃ (rb : Nat) (st : Int), e = .returned (.agg #[.int .i64 1, .slice (some ⟨rb, 0, none⟩) 1 1, .int .i64 st, .int .i64 0, .slice none 0 0]) ∧ Ext W w' ∧ w'.cell? ⟨rb, 0, none⟩ = some (.int .i64 0) := by
 obtain ⟨hx, h | h | h⟩ := h
 ·obtain ⟨rb, σ, st, rfl, hr, hg, _⟩ := h
  have hl := hg.2.2.len
  have hl : σ.length = 1 := hl
  have h0 : (0 : Nat) < σ.length := by omega
  have h1 := hg.2.2.rg _ (getD_mem h0)
  have h2 : σ.getD 0 0 < 1 := h1.2
  have e0 : σ.getD 0 0 = 0 := by omega
  have hc := hr.cell h0
  rw [e0] at hc
  exact ⟨rb, st, rfl, hx, hc⟩
 ·obtain ⟨_, _, _, _, _, _, _, h, _⟩ := h
  exact absurd ⟨Tj.small_chk, chA_ok, small_val⟩ (h [0])
 ·obtain ⟨_, _, _, h⟩ := h
  have := h rfl
  exact absurd this (by decide)
theorem works_b {W w' : World} {e : Ending} (h : PlaP W Tj.small chB (unF Tj.small 1) 10 e w') : ∃ (st : Int) (a : Option Addr) (k c : Nat), e = .returned (.agg #[.int .i64 2, .slice none 0 0, .int .i64 st, .int .i64 18, .slice a k c]) ∧ Ext W w' := by
 have hne : obsE Tj.small chB (unF Tj.small 1) ≠ 0 := by rw [small_obsB]; decide
 obtain ⟨hx, h | h | h⟩ := h
 ·obtain ⟨_, σ, _, _, _, hg, _⟩ := h
  exact absurd hg.2.2 (obs_none chB_ok hne σ)
 ·obtain ⟨st, er, a, k, c, rfl, _, _, h⟩ := h
  have := h Tj.small_chk chB_ok hne
  rw [small_obsB] at this
  subst this
  exact ⟨st, a, k, c, rfl, hx⟩
 ·obtain ⟨_, _, h, _⟩ := h
  exact absurd h hne
end Pl
theorem precedes_any {W : World} {va vb : Value} {a b : List Int} (ha : Rows W 1 Pl.IrR va a) (hb : Rows W 1 Pl.IrR vb b) : Calls Tryz.prog 8 #[va, vb] W (Rets W (.bool (Pl.prec a b))) := by
 obtain ⟨oa, ca, rfl, hla, hma⟩ := ha.slice
 obtain ⟨ob, cb, rfl, hlb, hmb⟩ := hb.slice
 have hml : a.length ≤ 9223372036854775807 := Nat.le_trans (Nat.le_trans hla hma) (by decide)
 have HA := Lh (Pl.ir_ns ha)
 have HB := Lh (Pl.ir_ns hb)
 obtain ⟨R, hR⟩ : ∃ z, z = Pl.prec a b := ⟨_, rfl⟩
 rw [← hR]
 have HR := Lh hR
 clear ha hb hR
 go_enter Tryz.func8, Tryz.ntmps8
 go_wp2_with fail
 go_loopw [5] (fun q wr => ∃ i : Nat, q = .int .i64 i ∧ i ≤ a.length ∧ Hid (∀ j, j < i → a.getD j 0 = b.getD j 0) ∧ Hid (Ext W wr)) (fun q _ => a.length - (intOf q).toNat)
 case atStart => exact ⟨0, rfl, Nat.zero_le _, Lh (fun j hj => by omega), Lh (eR _)⟩
 case round =>
  obtain ⟨i, rfl, hi, HP, HX⟩ := hrel
  have sx : Step W wr := ⟨HX.out⟩
  by_cases h1 : i < a.length
  ·have z1 : decide ((i : Int) < (a.length : Int)) = true := dTt (by omega)
   by_cases h2 : i < b.length
   ·have z2 : decide ((i : Int) < (b.length : Int)) = true := dTt (by omega)
    obtain ⟨sa, so, rfl, hca⟩ := ns_at HA.out (by omega)
    obtain ⟨sb, sp, rfl, hcb⟩ := ns_at HB.out (by omega)
    have cx := hca i _ (Pl.ir_get h1)
    have cy := hcb i _ (Pl.ir_get h2)
    obtain ⟨x, hx⟩ : ∃ z, z = a.getD i 0 := ⟨_, rfl⟩
    obtain ⟨y, hy⟩ : ∃ z, z = b.getD i 0 := ⟨_, rfl⟩
    rw [← hx] at cx
    rw [← hy] at cy
    have HXX := Lh hx
    have HYY := Lh hy
    clear hx hy hca hcb
    by_cases he : x = y
    ·have z3 : (x != y) = false := by simp [he]
     have HN : Hid (∀ j, j < i + 1 → a.getD j 0 = b.getD j 0) := Lh (fun j hj => by
      rcases (show j < i ∨ j = i by omega) with h | rfl
      ·exact HP.out j h
      ·rw [← HXX.out, ← HYY.out]; exact he)
     clear he
     go_wp2_with fail
     refine wp_region_later (W := wr) (by kernel_rfl) (by kernel_rfl) (eR _) ?_
     repeat (go_big_quiet_step (fail))
     refine wpQuiet_nil ?_
     intro w3 xw3
     have sw3 := Sm xw3
     have Hw3 : Hid (Ext W w3) := Lh grows
     go_wp2_with fail
     go_roundw
     case rel => exact ⟨i + 1, by go_num, by omega, HN, Hw3⟩
     case measure => simp [intOf]; omega
    ·have z3 : (x != y) = true := nT he
     have HE : Hid (R = decide (x < y)) := Lh (by rw [HR.out, Pl.prec_ne h1 h2 HP.out (by rw [← HXX.out, ← HYY.out]; exact he), ← HXX.out, ← HYY.out])
     go_wp2_with fail
     refine wp_region_later (W := wr) (by kernel_rfl) (by kernel_rfl) (eR _) ?_
     repeat (go_big_quiet_step (fail))
     refine wpQuiet_nil ?_
     intro w3 xw3
     have sw3 := Sm xw3
     have Hw3 : Hid (Ext W w3) := Lh grows
     go_wp2_with fail
     refine wp_region_later (W := w3) (by kernel_rfl) (by kernel_rfl) (eR _) ?_
     repeat (go_big_quiet_step (fail))
     refine wpQuiet_nil ?_
     intro w4 xw4
     have sw4 := Sm xw4
     have Hw4 : Hid (Ext W w4) := Lh grows
     go_wp2_with fail
     go_ret
     rw [HE.out]
     exact ⟨rfl, grows⟩
   ·have z2 : decide ((i : Int) < (b.length : Int)) = false := dF (by omega)
    have HE : Hid (R = false) := Lh (by rw [HR.out]; exact Pl.prec_end (.inr (by omega)) HP.out)
    go_wp2_with fail
    go_ret
    rw [HE.out]
    exact ⟨rfl, grows⟩
  ·have z1 : decide ((i : Int) < (a.length : Int)) = false := dF (by omega)
   have HE : Hid (R = false) := Lh (by rw [HR.out]; exact Pl.prec_end (.inl (by omega)) HP.out)
   go_wp2_with fail
   go_ret
   rw [HE.out]
   exact ⟨rfl, grows⟩
theorem pworks_any (W : World) : Calls Tryz.prog 5 #[] W (Rets W (.bool true)) := by
 have HSP := Lh smallp_any
 go_enter Tryz.func5, Tryz.ntmps5
 go_wp2_with fail
 refine (HSP.out _).mono ?_
 rintro e w1 ⟨p, rfl, x1, hG⟩
 have s1 := Sm x1
 obtain ⟨F, hF⟩ : ∃ z, z = Tj.small := ⟨_, rfl⟩
 have hFF := hG.1
 have hsm := fun (oa : Option Addr) (m c : Nat) (h : p.c7 = .slice oa m c) => Pl.small_m hG h
 rw [← hF] at hFF
 obtain ⟨a1, a2, a3, a4, a5, a6, a7, a8, m1, m2, m3, m4, m5, m6, n7, m7, m8, hf⟩ := hFF.form
 obtain ⟨rfl, hnm, hhs, hmd, hrs, has, hts, hss, hct, hdp, l1, l2, l3, l4, l5, l6, l7, l8⟩ := hf
 obtain rfl := hsm _ _ _ rfl
 clear hFF hnm hhs hmd hrs has hts hss hct hdp hsm x1
 have HPA : Hid (∀ w, Ext w1 w → Calls Tryz.prog 6 #[.agg #[.string F.nm, .slice a1 F.P.hs.length m1, .slice a2 F.P.md.length m2, .slice a3 F.rs.length m3, .slice a4 F.ac.length m4, .slice a5 F.ts.length m5, .slice a6 F.ss.length m6, .slice a7 1 m7, .slice a8 F.P.dp.length m8], .agg #[.int .i64 1, .int .i64 1, .int .i64 1, .int .i64 1, .int .i64 1, .int .i64 8, .int .i64 8, .int .i64 8], .int .i64 10] w (fun e w' => ∃ (rb : Nat) (st : Int), e = .returned (.agg #[.int .i64 1, .slice (some ⟨rb, 0, none⟩) 1 1, .int .i64 st, .int .i64 0, .slice none 0 0]) ∧ Ext w w' ∧ w'.cell? ⟨rb, 0, none⟩ = some (.int .i64 0))) := Lh (fun w hx => (place_any (hG.ext hx) rfl Pl.chA 10).mono (fun e w' h => Pl.works_a h))
 have HPB : Hid (∀ w, Ext w1 w → Calls Tryz.prog 6 #[.agg #[.string F.nm, .slice a1 F.P.hs.length m1, .slice a2 F.P.md.length m2, .slice a3 F.rs.length m3, .slice a4 F.ac.length m4, .slice a5 F.ts.length m5, .slice a6 F.ss.length m6, .slice a7 1 m7, .slice a8 F.P.dp.length m8], .agg #[.int .i64 1, .int .i64 0, .int .i64 1, .int .i64 1, .int .i64 1, .int .i64 8, .int .i64 8, .int .i64 8], .int .i64 10] w (fun e w' => ∃ (st : Int) (a : Option Addr) (k c : Nat), e = .returned (.agg #[.int .i64 2, .slice none 0 0, .int .i64 st, .int .i64 18, .slice a k c]) ∧ Ext w w')) := Lh (fun w hx => (place_any (hG.ext hx) rfl Pl.chB 10).mono (fun e w' h => Pl.works_b h))
 clear hG hF
 have bx := aH w1 (.cells #[.string F.nm, .slice a1 F.P.hs.length m1, .slice a2 F.P.md.length m2, .slice a3 F.rs.length m3, .slice a4 F.ac.length m4, .slice a5 F.ts.length m5, .slice a6 F.ss.length m6, .slice a7 1 m7, .slice a8 F.P.dp.length m8] 31)
 have k0 := alw (cQ 0 bx)
 have k1 := alw (cQ 1 bx)
 have k2 := alw (cQ 2 bx)
 have k3 := alw (cQ 3 bx)
 have k4 := alw (cQ 4 bx)
 have k5 := alw (cQ 5 bx)
 have k6 := alw (cQ 6 bx)
 have k7 := alw (cQ 7 bx)
 have k8 := alw (cQ 8 bx)
 clear bx
 go_wp2_with fail
 refine (HPA.out _ grows).mono ?_
 rintro e w3 ⟨rb, st, rfl, x3, c3⟩
 have s3 := Sm x3
 have c3' := alw c3
 clear c3
 have bx := aH w3 (.cells #[.int .i64 1, .slice (some ⟨rb, 0, none⟩) 1 1, .int .i64 st, .int .i64 0, .slice none 0 0] 46)
 have j0 := alw (cQ 0 bx)
 have j1 := alw (cQ 1 bx)
 clear bx
 go_wp2_with fail
 refine (HPB.out _ grows).mono ?_
 rintro e w5 ⟨st2, oa, k, c, rfl, x5⟩
 have s5 := Sm x5
 go_wp2_with fail
 go_ret
 exact ⟨rfl, grows⟩
theorem topp_any {W : World} {p : Pg.PV} {F : Tj.FP} (hG : Tj.IsG W p F) (s0 s1 s2 s3 s4 s5 s6 s7 : Int) {B : Nat} (hb : B ≤ 65535) {sv : Value} {σ : List Int} (hs : Rows W 1 Pl.IrR sv σ) : Calls Tryz.prog 3 #[.agg #[p.c0, p.c1, p.c2, p.c3, p.c4, p.c5, p.c6, p.c7, p.c8, .int .i64 s0, .int .i64 s1, .int .i64 s2, .int .i64 s3, .int .i64 s4, .int .i64 s5, .int .i64 s6, .int .i64 s7, .int .u16 (B : Int)], sv] W (Rets W (.bool true)) := by
 have HPW := Lh pworks_any
 obtain ⟨sa, sc, rfl, hsl1, hsl2⟩ := hs.slice
 have HS := Lh hs
 have hF := hG.1
 have HTL := Lh (fun (w : World) (hx : Ext W w) => large26_any (hF.ext hx))
 obtain ⟨a1, a2, a3, a4, a5, a6, a7, a8, m1, m2, m3, m4, m5, m6, n7, m7, m8, hf⟩ := hF.form
 obtain ⟨rfl, hnm, hhs, hmd, hrs, has, hts, hss, hct, hdp, l1, l2, l3, l4, l5, l6, l7, l8⟩ := hf
 have HPL := Lh (fun (w : World) (hx : Ext W w) => place_any (hG.ext hx) rfl ⟨s0, s1, s2, s3, s4, s5, s6, s7⟩ B)
 have HVA : Hid (∀ w, Ext W w → ∀ (v : Value) (l : List Int), Rows w 1 Pl.IrR v l → Calls Tryz.prog 7 #[.agg (Yq0 F a1 m1 a2 m2 a3 m3 a4 m4 a5 m5 a6 m6 a7 m7 n7 a8 m8), .agg (Yq7 s0 s1 s2 s3 s4 s5 s6 s7), v] w (Rets w (.bool (Pl.valB F ⟨s0, s1, s2, s3, s4, s5, s6, s7⟩ (Pl.unF F n7) l)))) := Lh (fun w hx v l h => valid_any (hG.ext hx) rfl ⟨s0, s1, s2, s3, s4, s5, s6, s7⟩ h)
 have HUF : Hid (Tj.chkF F = 0 → (Pl.unF F n7).length ≤ 24) := Lh (fun hc => (Pl.uf_of hF (Pl.bd_of hc) rfl).le)
 obtain ⟨us, hus⟩ : ∃ us, us = Pl.unF F n7 := ⟨_, rfl⟩
 rw [← hus] at HPL HVA HUF
 dsimp only [Pg.PV.val] at HTL HPL HVA ⊢
 unfold SomeB at HTL
 have HV : Hid (∀ w, Ext W w → Calls Tryz.prog 7 #[.agg (Yq0 F a1 m1 a2 m2 a3 m3 a4 m4 a5 m5 a6 m6 a7 m7 n7 a8 m8), .agg (Yq7 s0 s1 s2 s3 s4 s5 s6 s7), .slice sa σ.length sc] w (Rets w (.bool (Pl.valB F ⟨s0, s1, s2, s3, s4, s5, s6, s7⟩ us σ)))) := Lh (fun w hx => HVA.out w hx _ _ (Rows.ext (w' := w) HS.out (fun _ _ h => h) hx))
 obtain ⟨vb, hvb⟩ : ∃ z, z = Pl.valB F ⟨s0, s1, s2, s3, s4, s5, s6, s7⟩ us σ := ⟨_, rfl⟩
 rw [← hvb] at HV
 have HVB := Lh hvb
 clear hF hG hus hnm hhs hmd hrs has hts hss hct hdp hs hvb
 have bx := aH W (.cells #[.string F.nm, .slice a1 F.P.hs.length m1, .slice a2 F.P.md.length m2, .slice a3 F.rs.length m3, .slice a4 F.ac.length m4, .slice a5 F.ts.length m5, .slice a6 F.ss.length m6, .slice a7 n7 m7, .slice a8 F.P.dp.length m8, .int .i64 s0, .int .i64 s1, .int .i64 s2, .int .i64 s3, .int .i64 s4, .int .i64 s5, .int .i64 s6, .int .i64 s7, .int .u16 (B : Int)] 36)
 have k0 := alw (cQ 0 bx)
 have k1 := alw (cQ 1 bx)
 have k2 := alw (cQ 2 bx)
 have k3 := alw (cQ 3 bx)
 have k4 := alw (cQ 4 bx)
 have k5 := alw (cQ 5 bx)
 have k6 := alw (cQ 6 bx)
 have k7 := alw (cQ 7 bx)
 have k8 := alw (cQ 8 bx)
 have k9 := alw (cQ 9 bx)
 have k10 := alw (cQ 10 bx)
 have k11 := alw (cQ 11 bx)
 have k12 := alw (cQ 12 bx)
 have k13 := alw (cQ 13 bx)
 have k14 := alw (cQ 14 bx)
 have k15 := alw (cQ 15 bx)
 have k16 := alw (cQ 16 bx)
 have k17 := alw (cQ 17 bx)
 clear bx
 go_enter Tryz.func3, Tryz.ntmps3
 go_wp2_with fail
 refine (HTL.out _ grows).mono ?_
 rintro e w3 ⟨b, rfl, x3⟩
 have sw3 := Sm x3
 clear x3
 rcases b with _ | _
 rotate_left
 ·go_wp2_with fail
  refine via (HPW.out _) fun wz xz sz => ?_
  go_wp2_with fail
  go_ret
  exact ⟨rfl, grows⟩
 by_cases h40 : 40 < σ.length
 ·have z1 : decide ((40 : Int) < (σ.length : Int)) = true := dTt (by omega)
  go_wp2_with fail
  refine via (HPW.out _) fun wz xz sz => ?_
  go_wp2_with fail
  go_ret
  exact ⟨rfl, grows⟩
 have z1 : decide ((40 : Int) < (σ.length : Int)) = false := dF (by omega)
 go_wp2_with fail
 refine (HPL.out _ grows).mono ?_
 rintro e w4 ⟨x4, h | h | h⟩
 ·obtain ⟨rb, ρ, st, rfl, hrow, hgd, hfst⟩ := h
  have sw4 := Sm x4
  have HROW : Hid (∀ w, Ext w4 w → Rows w 1 Pl.IrR (.slice (some ⟨rb, 0, none⟩) us.length us.length) ρ) := Lh (fun w hx => by
   have hl : ρ.length = us.length := hgd.2.2.len
   have h := Pl.ir_own (Pl.RowB.own (hx.heap hrow) (Nat.zero_le _) (Nat.le_trans (show ρ.length ≤ 24 by have := HUF.out hgd.1; omega) (by decide)))
   rw [hl] at h; exact h)
  have HV2 : Hid (∀ w, Ext w4 w → Calls Tryz.prog 7 #[.agg (Yq0 F a1 m1 a2 m2 a3 m3 a4 m4 a5 m5 a6 m6 a7 m7 n7 a8 m8), .agg (Yq7 s0 s1 s2 s3 s4 s5 s6 s7), .slice (some ⟨rb, 0, none⟩) us.length us.length] w (Rets w (.bool true))) := Lh (fun w hx => by have h := HVA.out w ((grows (a := W) (b := w4)).trans hx) _ _ (HROW.out w hx); rw [Pl.valB_iff.2 hgd] at h; exact h)
  have bx := aH w4 (.cells #[.int .i64 1, .slice (some ⟨rb, 0, none⟩) us.length us.length, .int .i64 st, .int .i64 0, .slice none 0 0] 46)
  have j0 := alw (cQ 0 bx)
  have j1 := alw (cQ 1 bx)
  have j3 := alw (cQ 3 bx)
  clear bx
  rcases vb with _ | _
  ·clear hrow hgd hfst x4
   go_wp2_with fail
   refine via (HV.out _ grows) fun w5 x5 sw5 => ?_
   go_wp2_with fail
   refine via (HV2.out _ grows) fun w6 x6 sw6 => ?_
   go_wp2_with fail
   refine via (HPW.out _) fun wz xz sz => ?_
   go_wp2_with fail
   go_ret
   exact ⟨rfl, grows⟩
  ·have HPR : Hid (∀ w, Ext w4 w → Calls Tryz.prog 8 #[.slice sa σ.length sc, .slice (some ⟨rb, 0, none⟩) us.length us.length] w (Rets w (.bool false))) := Lh (fun w hx => by have h := precedes_any (Rows.ext (w' := w) HS.out (fun _ _ h => h) ((grows (a := W) (b := w4)).trans hx)) (HROW.out w hx); rw [hfst σ (Pl.valB_iff.1 HVB.out.symm)] at h; exact h)
   clear hrow hgd hfst x4
   go_wp2_with fail
   refine via (HV.out _ grows) fun w5 x5 sw5 => ?_
   go_wp2_with fail
   refine via (HV2.out _ grows) fun w6 x6 sw6 => ?_
   go_wp2_with fail
   refine via (HPR.out _ grows) fun w7 x7 sw7 => ?_
   go_wp2_with fail
   refine via (HPW.out _) fun wz xz sz => ?_
   go_wp2_with fail
   go_ret
   exact ⟨rfl, grows⟩
 ·obtain ⟨st, er, oa, ok, oc, rfl, her, hno, _⟩ := h
  have sw4 := Sm x4
  rcases vb with _ | _
  rotate_left
  ·exact absurd (Pl.valB_iff.1 HVB.out.symm) (hno σ)
  have z2 : (er != 0) = true := nT her
  have bx := aH w4 (.cells #[.int .i64 2, .slice none 0 0, .int .i64 st, .int .i64 er, .slice oa ok oc] 46)
  have j0 := alw (cQ 0 bx)
  have j1 := alw (cQ 1 bx)
  have j3 := alw (cQ 3 bx)
  clear bx
  clear hno her x4
  go_wp2_with fail
  refine via (HV.out _ grows) fun w5 x5 sw5 => ?_
  go_wp2_with fail
  refine via (HPW.out _) fun wz xz sz => ?_
  go_wp2_with fail
  go_ret
  exact ⟨rfl, grows⟩
 ·obtain ⟨st, rfl, _⟩ := h
  have sw4 := Sm x4
  have bx := aH w4 (.cells #[.int .i64 3, .slice none 0 0, .int .i64 st, .int .i64 19, .slice none 0 0] 46)
  have j0 := alw (cQ 0 bx)
  have j1 := alw (cQ 1 bx)
  have j3 := alw (cQ 3 bx)
  clear bx
  clear x4
  go_wp2_with fail
  refine via (HV.out _ grows) fun w5 x5 sw5 => ?_
  go_wp2_with fail
  refine via (HPW.out _) fun wz xz sz => ?_
  go_wp2_with fail
  go_ret
  exact ⟨rfl, grows⟩
/-- the cells cs can be read at type t, within a bulk of n, at depth f -/
def RdF (P : Program) (W : World) (t : TypeId) (cs : List Value) (n f : Nat) : Prop :=
 ∃ (H : Type) (enc : TypeId × Value → H) (spare : Nat → Bool) (held : Bool) (x : DataW H × List MemPlace), DataW.trod enc P W 0 spare held f t cs = some x ∧ Rows.uptoBulk x.1 ≤ n
theorem bulk_one {H : Type} (d : DataW H) : 1 ≤ Rows.uptoBulk d := by
 cases d with
 | lit l => cases l <;> simp [Rows.uptoBulk]
 | nil => simp [Rows.uptoBulk]
 | ptr d => simp [Rows.uptoBulk]
 | slice elems spare => simp [Rows.uptoBulk]
 | agg parts => simp [Rows.uptoBulk]
 | iface t d => simp [Rows.uptoBulk]
 | map entries => simp [Rows.uptoBulk]
 | held h => simp [Rows.uptoBulk]
theorem bulk_all {H : Type} : ∀ (l : List (DataW H)), Rows.uptoBulkAll l = (l.map Rows.uptoBulk).sum
 | [] => by simp [Rows.uptoBulkAll]
 | d :: l => by simp only [Rows.uptoBulkAll, List.map_cons, List.sum_cons, bulk_all l]
theorem sum_ge {ns : List Nat} : (∀ m ∈ ns, 1 ≤ m) → ns.length ≤ ns.sum := by
 induction ns with
 | nil => intro _; simp
 | cons m l ih =>
  intro h
  have h1 := h m List.mem_cons_self
  have h2 := ih (fun k hk => h k (List.mem_cons_of_mem _ hk))
  simp only [List.length_cons, List.sum_cons]; omega
theorem sum_mem {ns : List Nat} {m : Nat} : m ∈ ns → m ≤ ns.sum := by
 induction ns with
 | nil => intro h; cases h
 | cons k l ih =>
  intro h
  simp only [List.sum_cons]
  rcases List.mem_cons.1 h with h | h
  ·omega
  ·have := ih h; omega
section
variable {P : Program} {W : World} {t : TypeId} {cs : List Value} {n f : Nat}
theorem RdF.rd (h : RdF P W t cs n f) : Rd P W t cs := by
 obtain ⟨H, enc, spare, held, x, h1, _⟩ := h; exact ⟨H, enc, spare, held, f, x, h1⟩
theorem RdF.mono {m : Nat} (h : RdF P W t cs n f) (hm : n ≤ m) : RdF P W t cs m f := by
 obtain ⟨H, enc, spare, held, x, h1, h2⟩ := h; exact ⟨H, enc, spare, held, x, h1, Nat.le_trans h2 hm⟩
theorem RdF.struct {fs : Array Field} (hu : P.underlying t = some (.struct fs)) (h : RdF P W t cs n f) :
 cs.length = P.cellsOf t ∧ ∃ (ns : List Nat) (f' : Nat), f = f' + 1 ∧ ns.length = fs.size ∧ ns.sum + 1 ≤ n ∧ ∀ (i : Nat) (fd : Field) (m : Nat), fs[i]? = some fd → ns[i]? = some m → RdF P W fd.type ((cs.drop fd.offset).take (P.cellsOf fd.type)) m f' := by
 obtain ⟨H, enc, spare, held, x, hf, hb⟩ := h
 obtain ⟨xs, k, h1, h2, hl, hlen, hfi⟩ := DataW.trod_struct hu hf
 refine ⟨hl, xs.map (fun y => Rows.uptoBulk y.1), k, h1, by simpa using hlen, ?_, fun i fd m hi hm => ?_⟩
 ·rw [h2] at hb
  simp only [Rows.uptoBulk, bulk_all, List.map_map] at hb
  exact hb
 ·have hlt : i < fs.size := (Array.getElem?_eq_some_iff.1 hi).1
  have h3 := hfi i fd hi
  rw [gE (by omega)] at h3
  rw [List.getElem?_map, gE (by omega)] at hm
  simp only [Option.map_some, Option.some.injEq] at hm
  exact ⟨H, enc, spare, held, _, h3, by omega⟩
theorem RdF.slice {e : TypeId} (hu : P.underlying t = some (.slice e)) (h : RdF P W t cs n f) :
 (cs = [.slice none 0 0] ∧ 1 ≤ n) ∨ ∃ (a : Addr) (len cap : Nat) (ns : List Nat) (f' : Nat), f = f' + 1 ∧ cs = [.slice (some a) len cap] ∧ len ≤ cap ∧ cap ≤ maxLen ∧ ns.length = len ∧ (∀ m ∈ ns, 1 ≤ m) ∧ ns.sum + 1 ≤ n ∧
  ∀ (i m : Nat), ns[i]? = some m → ∃ row : List Value, row.length = P.cellsOf e ∧ (∀ j, j < P.cellsOf e → W.cell? ((a.add (i * P.cellsOf e)).add j) = row[j]?) ∧ RdF P W e row m f' := by
 obtain ⟨H, enc, spare, held, x, hf, hb⟩ := h
 rcases DataW.trod_slice hu hf with ⟨h1, h2⟩ | ⟨a, len, cap, elems, rest, k, hk, h1, hx, _, h2, h3, h4, h5, _, _⟩
 ·refine .inl ⟨h1, ?_⟩
  have := bulk_one x.1; omega
 ·refine .inr ⟨a, len, cap, elems.map (fun y => Rows.uptoBulk y.1), k, hk, h1, h2, h3, by simpa using h4, fun m hm => ?_, ?_, fun i m hm => ?_⟩
  ·obtain ⟨y, _, rfl⟩ := List.mem_map.1 hm; exact bulk_one y.1
  ·rw [hx] at hb
   simp only [Rows.uptoBulk, bulk_all, List.map_map] at hb
   exact Nat.le_trans (Nat.add_le_add_right (Nat.le_add_right _ _) 1) hb
  ·rw [List.getElem?_map] at hm
   obtain ⟨y, hy, rfl⟩ := Option.map_eq_some_iff.1 hm
   have hi : i < len := by have := (List.getElem?_eq_some_iff.1 hy).1; omega
   have h6 := h5 i hi
   rw [hy] at h6
   cases hc : W.cells? 0 (a.add (i * P.cellsOf e)) (P.cellsOf e) with
   | none => rw [hc] at h6; cases h6
   | some row =>
    rw [hc] at h6
    obtain ⟨g1, g2⟩ := cells_get hc
    exact ⟨row, g1, g2, H, enc, spare, held, _, h6, Nat.le_refl _⟩
/-- a slice that came in, with its elements' bulks -/
theorem RdF.rows {α : Type} {e : TypeId} {sz : Nat} {R : World → List Value → α → Prop} {Q : α → Nat → Prop} (hu : P.underlying t = some (.slice e)) (hc : P.cellsOf e = sz) (hs : 0 < sz)
 (hR : ∀ row m f', row.length = sz → f = f' + 1 → m + 1 ≤ n → RdF P W e row m f' → ∃ d, R W row d ∧ Q d m) (h : RdF P W t cs n f) :
 ∃ (a : Option Addr) (c : Nat) (ds : List α) (ns : List Nat), cs = [.slice a ds.length c] ∧ (ds.length ≤ c ∧ c ≤ maxLen) ∧ Rows W sz R (.slice a ds.length c) ds ∧ ns.length = ds.length ∧ (∀ m ∈ ns, 1 ≤ m) ∧ ns.sum + 1 ≤ n ∧ ∀ (i : Nat) (d : α) (m : Nat), ds[i]? = some d → ns[i]? = some m → Q d m := by
 rcases h.slice hu with ⟨rfl, h1⟩ | ⟨a, len, cap, ns, f', hf, rfl, h1, h2, h3, h4, h5, h6⟩
 ·exact ⟨none, 0, [], [], rfl, ⟨Nat.le_refl _, Nat.zero_le _⟩, .inl ⟨rfl, rfl⟩, rfl, by simp, by simpa using h1, fun i d m hd _ => by simp at hd⟩
 ·rw [hc] at h6
  obtain ⟨ds, g1, g2⟩ := choose_list (α := α) (n := len) (p := fun i d => ∃ row : List Value, row.length = sz ∧ R W row d ∧ (∀ m, ns[i]? = some m → Q d m) ∧ ∀ j, j < sz → W.cell? ((a.add (i * sz)).add j) = row[j]?) (fun i hi => by
   obtain ⟨m, hm⟩ : ∃ m, ns[i]? = some m := ⟨_, gE (by omega)⟩
   obtain ⟨row, k1, k2, k3⟩ := h6 i m hm
   obtain ⟨d, hd, hq⟩ := hR row m f' k1 hf (by have := sum_mem (List.mem_of_getElem? hm); omega) k3
   exact ⟨d, row, k1, hd, fun m' hm' => by rw [hm] at hm'; obtain rfl := Option.some.inj hm'; exact hq, k2⟩)
  have hsp : ds ≠ [] → a = ⟨a.block, a.off, none⟩ := by
   intro hne
   have hpos := List.length_pos_iff.2 hne
   obtain ⟨row, k1, _, _, k3⟩ := g2 0 ds[0] (by simp)
   have k4 := k3 0 hs
   rw [gE (by omega)] at k4
   have : a.spot = none := by simpa [Addr.add] using World.cell?_spot k4
   cases a; simp_all
  subst g1
  refine ⟨some a, cap, ds, ns, rfl, ⟨h1, h2⟩, .inr ⟨a, cap, rfl, h1, h2, hsp, fun i d hi => ?_⟩, h3, h4, h5, fun i d m hd hm => ?_⟩
  ·obtain ⟨row, k1, k2, _, k3⟩ := g2 i d hi
   refine ⟨row, k1, k2, fun j u hj => ?_⟩
   have hjs : j < sz := by rw [← k1]; exact (List.getElem?_eq_some_iff.1 hj).1
   have k4 := k3 j hjs
   rw [hsp (by intro h0; subst h0; simp at hi), add_mk, add_mk, hj] at k4
   exact k4
  ·obtain ⟨_, _, _, hq, _⟩ := g2 i d hd; exact hq m hm
/-- the same, where only a bound for all is asked -/
theorem RdF.rowsB {α : Type} {e : TypeId} {sz : Nat} {R : World → List Value → α → Prop} {Q : α → Prop} (hu : P.underlying t = some (.slice e)) (hc : P.cellsOf e = sz) (hs : 0 < sz)
 (hR : ∀ row f', row.length = sz → RdF P W e row n f' → ∃ d, R W row d ∧ Q d) (h : RdF P W t cs n f) :
 ∃ (a : Option Addr) (c : Nat) (ds : List α), cs = [.slice a ds.length c] ∧ (ds.length ≤ c ∧ c ≤ maxLen) ∧ Rows W sz R (.slice a ds.length c) ds ∧ ds.length ≤ n ∧ ∀ d ∈ ds, Q d := by
 obtain ⟨a, c, ds, ns, h1, h2, h3, h4, h5, h6, h7⟩ := RdF.rows (Q := fun d _ => Q d) hu hc hs (fun row m f' hl _ hm hr => hR row f' hl (hr.mono (by omega))) h
 refine ⟨a, c, ds, h1, h2, h3, by have := sum_ge h5; omega, fun d hd => ?_⟩
 obtain ⟨i, hi⟩ := List.getElem?_of_mem hd
 have hlt := (List.getElem?_eq_some_iff.1 hi).1
 exact h7 i d ns[i] hi (gE (by omega))
end
end Go.Proofs.YtkiafiaodockbaaGreat
