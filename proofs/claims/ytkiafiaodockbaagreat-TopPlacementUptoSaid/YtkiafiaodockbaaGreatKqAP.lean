/- The cells that a unit reads: access.Reads, walked. The units of a program: units.Build, walked. deps.common, walked. The memory of deps.Build: lists of what is read and written, the matrix. No program in sight. No condition. -/
import Derived.Test.YtkiafiaodockbaaGreatKqAO
set_option maxRecDepth 8000
set_option maxHeartbeats 16000000
namespace Go.Proofs.YtkiafiaodockbaaGreat
open Go.RowKit
namespace Pl
theorem fr_lit {w : World} {q : Nat} {x1 x2 : Int} {T : TypeId} (h : w.heap[q]? = some (.cells #[.int .i64 x1, .int .i64 x2] T (0, 0))) : Rows w 2 FrR (.slice (some ⟨q, 0, none⟩) 1 1) [(x1, x2)] := by
 refine .inr ⟨⟨q, 0, none⟩, 1, rfl, Nat.le_refl _, by unfold maxLen; omega, fun _ => rfl, fun i d hi => ?_⟩
 match i with
 | 0 =>
  simp only [List.getElem?_cons_zero, Option.some.injEq] at hi
  subst hi
  refine ⟨_, rfl, rfl, fun j u hj => ?_⟩
  match j with
  | 0 => simp at hj; subst hj; exact cQ 0 h
  | 1 => simp at hj; subst hj; exact cQ 1 h
  | j + 2 => simp at hj
 | i + 1 => simp at hi
end Pl
theorem ureads_any {W : World} {p : Pg.PV} {F : Tj.FP} (hF : Tj.IsF W p F) (hB : Pl.Bd F) (tb : Int) (cd : List Tj.EN) (gs : List (Int × Bool)) (ca ga : Option Addr) (cc gn gc : Nat) (hcd : Tj.Exp W (.slice ca cd.length cc) cd) (hcl : cd.length ≤ 1000) : Calls Tryz.prog 60 #[p.val, .agg #[.int .i64 tb, .slice ca cd.length cc, .slice ga gn gc]] W (Pl.SetP W (Pl.rdL F ⟨tb, cd, gs⟩)) := by
 have HDC := Lh (fun (w : World) (hx : Ext W w) => declared_any hF hx tb ca ga cd.length cc gn gc)
 have HRD : Hid (∀ (i : Int) w, Ext W w → Calls Tryz.prog 91 #[p.val, .int .i64 i] w (Pl.AccR w (Pl.acR F i))) := Lh (fun i w hx => areads_any (hF.ext hx) i)
 have HEF := Lh (fun (w : World) (hx : Ext W w) => efields_any (hcd.ext hx) (by omega))
 have HEH := Lh (fun (w : World) (hx : Ext W w) => eheaders_any (hcd.ext hx) (by omega))
 have HFF := Lh hF
 have HBB := Lh hB
 obtain ⟨a1, a2, a3, a4, a5, a6, a7, a8, m1, m2, m3, m4, m5, m6, n7, m7, m8, hf⟩ := hF.form
 obtain ⟨rfl, hnm, hhs, hmd, hrs, has, hts, hss, hct, hdp, l1, l2, l3, l4, l5, l6, l7, l8⟩ := hf
 dsimp only [Pg.PV.val] at HDC HRD ⊢
 unfold Pl.DeclP at HDC
 unfold Pl.AccR at HRD
 have bx := aH W (.cells (Yq0 F a1 m1 a2 m2 a3 m3 a4 m4 a5 m5 a6 m6 a7 m7 n7 a8 m8) 31)
 have k0 := alw (cQ 0 bx)
 have k1 := alw (cQ 1 bx)
 have k2 := alw (cQ 2 bx)
 have k3 := alw (cQ 3 bx)
 have k4 := alw (cQ 4 bx)
 have k5 := alw (cQ 5 bx)
 have k6 := alw (cQ 6 bx)
 have k7 := alw (cQ 7 bx)
 have k8 := alw (cQ 8 bx)
 clear bx
 clear hF hnm hhs hmd hrs has hts hss hct hdp hB hcd
 by_cases htb : tb = -1
 ·subst htb
  have HPO : Hid (Pl.SetP W (Pl.rdL F ⟨-1, cd, gs⟩) = Pl.SetP W ([] ++ Pl.cells F (Pl.exA cd))) := Lh (by unfold Pl.rdL; rw [if_pos rfl]; rfl)
  have HSZ : Hid (((W.alloc (.cells (Yq0 F a1 m1 a2 m2 a3 m3 a4 m4 a5 m5 a6 m6 a7 m7 n7 a8 m8) 31)).alloc (.cells #[.int .i64 (-1), .slice ca cd.length cc, .slice ga gn gc] 111)).heap.size ≤ W.heap.size + 1 + 1 ∧ W.heap.size ≤ W.heap.size + 1 + 1) := Lh (by rw [szA, szA]; omega)
  have HIA : Hid (Pl.ColI ((W.alloc (.cells (Yq0 F a1 m1 a2 m2 a3 m3 a4 m4 a5 m5 a6 m6 a7 m7 n7 a8 m8) 31)).alloc (.cells #[.int .i64 (-1), .slice ca cd.length cc, .slice ga gn gc] 111)) (W.heap.size + 1 + 1) ⟨.string F.nm, .slice a1 F.P.hs.length m1, .slice a2 F.P.md.length m2, .slice a3 F.rs.length m3, .slice a4 F.ac.length m4, .slice a5 F.ts.length m5, .slice a6 F.ss.length m6, .slice a7 n7 m7, .slice a8 F.P.dp.length m8⟩ [] 0 (((W.alloc (.cells (Yq0 F a1 m1 a2 m2 a3 m3 a4 m4 a5 m5 a6 m6 a7 m7 n7 a8 m8) 31)).alloc (.cells #[.int .i64 (-1), .slice ca cd.length cc, .slice ga gn gc] 111)).alloc (.cells (Yq6 F a1 m1 a2 m2 a3 m3 a4 m4 a5 m5 a6 m6 a7 m7 n7 a8 m8) 179))) := Lh (Pl.ColI.start (by rw [szA, szA]) _)
  have bx := aH (W.alloc (.cells (Yq0 F a1 m1 a2 m2 a3 m3 a4 m4 a5 m5 a6 m6 a7 m7 n7 a8 m8) 31)) (.cells #[.int .i64 (-1), .slice ca cd.length cc, .slice ga gn gc] 111)
  rw [szA] at bx
  have j0 := alw (cQ 0 bx)
  have j1 := alw (cQ 1 bx)
  have j2 := alw (cQ 2 bx)
  clear bx
  clear HDC HRD
  go_enter Tryz.func60, Tryz.ntmps60
  go_upto_region 3 with (fail)
  refine Rel.region_tail (W := (((W.alloc (.cells (Yq0 F a1 m1 a2 m2 a3 m3 a4 m4 a5 m5 a6 m6 a7 m7 n7 a8 m8) 31)).alloc (.cells #[.int .i64 (-1), .slice ca cd.length cc, .slice ga gn gc] 111)).alloc (.cells (Yq6 F a1 m1 a2 m2 a3 m3 a4 m4 a5 m5 a6 m6 a7 m7 n7 a8 m8) 179))) 7 (Rel.tab [(3, fun v w => ∃ l1 : List (Int × Int), Pl.Same l1 (Pl.exF cd) ∧ l1.length ≤ cd.length ∧ w.ownsRow (((W.alloc (.cells (Yq0 F a1 m1 a2 m2 a3 m3 a4 m4 a5 m5 a6 m6 a7 m7 n7 a8 m8) 31)).alloc (.cells #[.int .i64 (-1), .slice ca cd.length cc, .slice ga gn gc] 111)).alloc (.cells (Yq6 F a1 m1 a2 m2 a3 m3 a4 m4 a5 m5 a6 m6 a7 m7 n7 a8 m8) 179)).heap.size 88 2 v l1.length (l1.flatMap Pl.fE)), (6, fun v w => ∃ l1 : List Int, Pl.Same l1 (Pl.exH cd) ∧ l1.length ≤ cd.length ∧ w.ownsRow (((W.alloc (.cells (Yq0 F a1 m1 a2 m2 a3 m3 a4 m4 a5 m5 a6 m6 a7 m7 n7 a8 m8) 31)).alloc (.cells #[.int .i64 (-1), .slice ca cd.length cc, .slice ga gn gc] 111)).alloc (.cells (Yq6 F a1 m1 a2 m2 a3 m3 a4 m4 a5 m5 a6 m6 a7 m7 n7 a8 m8) 179)).heap.size 3 1 v l1.length (l1.map (Value.int .i64)))]) (Rel.tab_lasts (by intro p hp v w w' hr hx; simp only [List.mem_cons, List.not_mem_nil, or_false] at hp; rcases hp with rfl | rfl <;> (obtain ⟨l1, h1, h2, h3⟩ := hr; exact ⟨l1, h1, h2, own_ext h3 hx⟩))) (by kernel_rfl) (by kernel_rfl) (eR _) ?_
  simp only [tkS, tkZ]
  refine Rel.chunkT 3 rfl rfl rfl ?_
  simp only [tkS, tkZ, dpS, dpZ, Nat.reduceAdd]
  repeat (go_big_quiet_step (fail))
  refine wpQuiet_nil ?_
  refine Rel.callG _ rfl rfl rfl Tryz.func87 (by nofun) (by decide) #[.slice ca cd.length cc] rfl (fun w hx _ => by refine (HEF.out w ((grows (a := W) (b := (((W.alloc (.cells (Yq0 F a1 m1 a2 m2 a3 m3 a4 m4 a5 m5 a6 m6 a7 m7 n7 a8 m8) 31)).alloc (.cells #[.int .i64 (-1), .slice ca cd.length cc, .slice ga gn gc] 111)).alloc (.cells (Yq6 F a1 m1 a2 m2 a3 m3 a4 m4 a5 m5 a6 m6 a7 m7 n7 a8 m8) 179)))).trans hx)).mono ?_; rintro e w9 ⟨v', l', h1, h2, h3, h4, h5⟩; exact ⟨_, h1, h5, l', h2, h3, own_base h4 hx.le⟩) ?_
  intro u1 vf1 _ _ r1
  obtain ⟨l1, _, _, ho1⟩ := r1
  obtain ⟨fa1, fc1, rfl⟩ := own_slice ho1
  clear ho1
  simp only [Act.put, stA, stS, stZ]
  refine Rel.chunkT 2 rfl rfl rfl ?_
  simp only [tkS, tkZ, dpS, dpZ, Nat.reduceAdd]
  repeat (go_big_quiet_step (fail))
  refine wpQuiet_nil ?_
  refine Rel.callG _ rfl rfl rfl Tryz.func88 (by nofun) (by decide) #[.slice ca cd.length cc] rfl (fun w hx _ => by refine (HEH.out w ((grows (a := W) (b := (((W.alloc (.cells (Yq0 F a1 m1 a2 m2 a3 m3 a4 m4 a5 m5 a6 m6 a7 m7 n7 a8 m8) 31)).alloc (.cells #[.int .i64 (-1), .slice ca cd.length cc, .slice ga gn gc] 111)).alloc (.cells (Yq6 F a1 m1 a2 m2 a3 m3 a4 m4 a5 m5 a6 m6 a7 m7 n7 a8 m8) 179)))).trans hx)).mono ?_; rintro e w9 ⟨v', l', h1, h2, h3, h4, h5⟩; exact ⟨_, h1, h5, l', h2, h3, own_base h4 hx.le⟩) ?_
  intro u2 vf2 _ _ r2
  obtain ⟨l2, _, _, ho2⟩ := r2
  obtain ⟨fa2, fc2, rfl⟩ := own_slice ho2
  clear ho2
  simp only [Act.put, stA, stS, stZ]
  refine Rel.fin ?_
  intro w7 x7 hf7
  obtain ⟨l1', hs1, hl1, ho1⟩ := (hf7 3).1.2 rfl
  obtain ⟨l2', hs2, hl2, ho2⟩ := (hf7 6).2 rfl
  have s7 := Sm x7
  obtain ⟨hx, v, xs, hcb, hsx, hnx⟩ := HIA.out
  have HX7 := Lh x7
  have HCB0 := Lh hcb
  have HO1 := Lh ho1
  have HO2 := Lh ho2
  have HSA : Hid (Pl.SameA ⟨l1', l2', []⟩ (Pl.exA cd)) := Lh ⟨hs1, hs2, Pl.Same.refl _⟩
  have HSX0 := Lh hsx
  have HNX0 := Lh hnx
  have HX0 := Lh hx
  have hclen := Pl.cells_len F ⟨l1', l2', []⟩
  dsimp only [List.length_nil] at hclen
  clear hf7 hs1 hs2 ho1 ho2 x7 hx hcb hsx hnx
  go_wp2_with fail
  refine (cadd_any (W0 := W) (hl := l2') (fl := l1') (rl := []) HFF.out HBB.out (grows (a := W) (b := w7)) HSZ.out.2 (HCB0.out.ext HX7.out) (fun w' hm => HCB0.out.frs HO1.out (Nat.le_refl _) hm) (fun w' hm => HCB0.out.irs HO2.out (Nat.le_refl _) hm) (fun w' _ => Pl.IrR.nil w') (by have := HNX0.out; show xs.length + l1'.length + l2'.length + 0 ≤ _; omega)).mono ?_
  rintro e w6 ⟨rfl, hp6⟩
  obtain ⟨hx, v, xs, hcb, hsx, hnx⟩ := Pl.ColI.add (m := 3000) HSZ.out.1 HX0.out HCB0.out HSX0.out HNX0.out HX7.out hp6 HSA.out (by omega)
  have s6 : Step ((W.alloc (.cells (Yq0 F a1 m1 a2 m2 a3 m3 a4 m4 a5 m5 a6 m6 a7 m7 n7 a8 m8) 31)).alloc (.cells #[.int .i64 (-1), .slice ca cd.length cc, .slice ga gn gc] 111)) w6 := ⟨hx⟩
  clear hp6
  have HX := Lh hx
  have HCB := Lh hcb
  have HNX := Lh hnx
  have HSX := Lh hsx
  have HQ := Lh (csorted_any hcb (by omega))
  clear hx hcb hsx hnx
  go_wp2_with fail
  refine HQ.out.mono ?_
  rintro e w9 ⟨v9, l9, rfl, hs9, hl9, ho9, _, hm9⟩
  have HF : Hid (Pl.SetP W ([] ++ Pl.cells F (Pl.exA cd)) (.returned v9) w9) := Lh ⟨v9, l9, rfl, hs9.trans HSX.out, by have := HNX.out; omega, own_base ho9 (by have := HSZ.out.2; omega), Pl.mod_low ((grows (a := W) (b := ((W.alloc (.cells (Yq0 F a1 m1 a2 m2 a3 m3 a4 m4 a5 m5 a6 m6 a7 m7 n7 a8 m8) 31)).alloc (.cells #[.int .i64 (-1), .slice ca cd.length cc, .slice ga gn gc] 111)))).trans HX.out) hm9 (fun k hk => HCB.out.ge HSZ.out.2 k hk)⟩
  obtain ⟨d9, c9, rfl⟩ := own_slice ho9
  clear hs9 hl9 ho9 hm9
  go_wp2_with fail
  go_ret
  rw [HPO.out]
  exact HF.out
 ·have z0 : (tb == -1) = false := bF htb
  have HSZ : Hid (((W.alloc (.cells (Yq0 F a1 m1 a2 m2 a3 m3 a4 m4 a5 m5 a6 m6 a7 m7 n7 a8 m8) 31)).alloc (.cells #[.int .i64 tb, .slice ca cd.length cc, .slice ga gn gc] 111)).heap.size ≤ W.heap.size + 1 + 1 ∧ W.heap.size ≤ W.heap.size + 1 + 1) := Lh (by rw [szA, szA]; omega)
  have HIA0 : Hid (Pl.ColI ((W.alloc (.cells (Yq0 F a1 m1 a2 m2 a3 m3 a4 m4 a5 m5 a6 m6 a7 m7 n7 a8 m8) 31)).alloc (.cells #[.int .i64 tb, .slice ca cd.length cc, .slice ga gn gc] 111)) (W.heap.size + 1 + 1) ⟨.string F.nm, .slice a1 F.P.hs.length m1, .slice a2 F.P.md.length m2, .slice a3 F.rs.length m3, .slice a4 F.ac.length m4, .slice a5 F.ts.length m5, .slice a6 F.ss.length m6, .slice a7 n7 m7, .slice a8 F.P.dp.length m8⟩ [] 0 (((W.alloc (.cells (Yq0 F a1 m1 a2 m2 a3 m3 a4 m4 a5 m5 a6 m6 a7 m7 n7 a8 m8) 31)).alloc (.cells #[.int .i64 tb, .slice ca cd.length cc, .slice ga gn gc] 111)).alloc (.cells (Yq6 F a1 m1 a2 m2 a3 m3 a4 m4 a5 m5 a6 m6 a7 m7 n7 a8 m8) 179))) := Lh (Pl.ColI.start (by rw [szA, szA]) _)
  have bx := aH (W.alloc (.cells (Yq0 F a1 m1 a2 m2 a3 m3 a4 m4 a5 m5 a6 m6 a7 m7 n7 a8 m8) 31)) (.cells #[.int .i64 tb, .slice ca cd.length cc, .slice ga gn gc] 111)
  rw [szA] at bx
  have j0 := alw (cQ 0 bx)
  have j1 := alw (cQ 1 bx)
  have j2 := alw (cQ 2 bx)
  clear bx
  have hrl : Pl.rdL F ⟨tb, cd, gs⟩ = match Tj.at? F.ts tb with
   | some t => t.ks.flatMap (fun k => Pl.cells F ⟨[(k.h, k.f)], [], []⟩) ++ t.ac.flatMap (fun a => Pl.cells F (Pl.acR F a))
   | none => [] := by unfold Pl.rdL; rw [if_neg htb]; rfl
  clear htb HEF HEH
  cases hat : Tj.at? F.ts tb with
  | none =>
   have HPO : Hid (Pl.SetP W (Pl.rdL F ⟨tb, cd, gs⟩) = Pl.SetP W []) := Lh (by rw [hrl, hat])
   have HTT : Tj.tabAt F tb = Tj.tab0 := by unfold Tj.tabAt; rw [hat]; rfl
   rw [hat, HTT] at HDC
   rw [show (none : Option Tj.Tab).isSome = false from rfl] at HDC
   clear hat HTT hrl
   obtain ⟨t, ht⟩ : ∃ z, z = Tj.tab0 := ⟨_, rfl⟩
   rw [← ht] at HDC
   clear ht
   go_enter Tryz.func60, Tryz.ntmps60
   go_wp2_with fail
   refine (HDC.out _ grows).mono ?_
   rintro e w3 ⟨tv, rfl, x3, htv⟩
   have s3 := Sm x3
   obtain ⟨ka, kc, aa, ac, da, dc, rfl, _, _, hks, hac, _⟩ := htv
   have HKS := Lh hks
   have HAC := Lh hac
   clear x3 hks hac
   go_wp2_with fail
   go_ret
   rw [HPO.out]
   exact ⟨_, [], rfl, Pl.Same.refl _, Nat.zero_le _, World.ownsRow_nil _ _ _ _, grows⟩
  | some t =>
   have HPO : Hid (Pl.SetP W (Pl.rdL F ⟨tb, cd, gs⟩) = Pl.SetP W (t.ks.flatMap (fun k : Tj.Key => Pl.cells F ⟨[(k.h, k.f)], [], []⟩) ++ t.ac.flatMap (fun a => Pl.cells F (Pl.acR F a)))) := Lh (by rw [hrl, hat])
   have HTT : Tj.tabAt F tb = t := by unfold Tj.tabAt; rw [hat]; rfl
   obtain ⟨htk, htl, _⟩ := Tj.tab_ks (HBB.out.tE t (List.mem_of_getElem? (Tj.at_get hat).2.2))
   rw [hat, HTT] at HDC
   rw [show (some t).isSome = true from rfl] at HDC
   clear hat HTT hrl
   go_enter Tryz.func60, Tryz.ntmps60
   go_wp2_with fail
   refine (HDC.out _ grows).mono ?_
   rintro e w3 ⟨tv, rfl, x3, htv⟩
   have s3 := Sm x3
   obtain ⟨ka, kc, aa, ac, da, dc, rfl, _, _, hks, hac, _⟩ := htv
   have HKS := Lh hks
   have HAC := Lh hac
   clear x3 hks hac
   have bx := aH w3 (.cells (Yq8 t ka kc aa ac da dc) 96)
   have tc0 := alw (cQ 0 bx)
   have tc1 := alw (cQ 1 bx)
   have tc2 := alw (cQ 2 bx)
   have tc3 := alw (cQ 3 bx)
   have tc4 := alw (cQ 4 bx)
   have tc5 := alw (cQ 5 bx)
   clear bx
   have HX3 : Hid (Ext (((W.alloc (.cells (Yq0 F a1 m1 a2 m2 a3 m3 a4 m4 a5 m5 a6 m6 a7 m7 n7 a8 m8) 31)).alloc (.cells #[.int .i64 tb, .slice ca cd.length cc, .slice ga gn gc] 111)).alloc (.cells (Yq6 F a1 m1 a2 m2 a3 m3 a4 m4 a5 m5 a6 m6 a7 m7 n7 a8 m8) 179)) w3) := Lh grows
   have HX3T : Hid (Ext (((W.alloc (.cells (Yq0 F a1 m1 a2 m2 a3 m3 a4 m4 a5 m5 a6 m6 a7 m7 n7 a8 m8) 31)).alloc (.cells #[.int .i64 tb, .slice ca cd.length cc, .slice ga gn gc] 111)).alloc (.cells (Yq6 F a1 m1 a2 m2 a3 m3 a4 m4 a5 m5 a6 m6 a7 m7 n7 a8 m8) 179)) (w3.alloc (.cells (Yq8 t ka kc aa ac da dc) 96))) := Lh grows
   have HIK : Hid (Pl.ColI ((W.alloc (.cells (Yq0 F a1 m1 a2 m2 a3 m3 a4 m4 a5 m5 a6 m6 a7 m7 n7 a8 m8) 31)).alloc (.cells #[.int .i64 tb, .slice ca cd.length cc, .slice ga gn gc] 111)) (W.heap.size + 1 + 1) ⟨.string F.nm, .slice a1 F.P.hs.length m1, .slice a2 F.P.md.length m2, .slice a3 F.rs.length m3, .slice a4 F.ac.length m4, .slice a5 F.ts.length m5, .slice a6 F.ss.length m6, .slice a7 n7 m7, .slice a8 F.P.dp.length m8⟩ ((t.ks.take 0).flatMap (fun k : Tj.Key => Pl.cells F ⟨[(k.h, k.f)], [], []⟩)) 0 (w3.alloc (.cells (Yq8 t ka kc aa ac da dc) 96)) ∧ (w3.alloc (.cells (Yq8 t ka kc aa ac da dc) 96)).heap[w3.heap.size]? = some (.cells (Yq8 t ka kc aa ac da dc) 96 (0, 0))) := Lh ⟨by obtain ⟨hx, v, xs, hcb, hsx, hnx⟩ := HIA0.out; exact ⟨hx.trans HX3T.out, v, xs, hcb.ext HX3T.out, hsx, hnx⟩, aH _ _⟩
   clear HIA0
   go_wp2_with fail
   go_loopw [39] (fun q wr => ∃ k : Nat, k ≤ t.ks.length ∧ q = .int .i64 k ∧ Hid (Pl.ColI ((W.alloc (.cells (Yq0 F a1 m1 a2 m2 a3 m3 a4 m4 a5 m5 a6 m6 a7 m7 n7 a8 m8) 31)).alloc (.cells #[.int .i64 tb, .slice ca cd.length cc, .slice ga gn gc] 111)) (W.heap.size + 1 + 1) ⟨.string F.nm, .slice a1 F.P.hs.length m1, .slice a2 F.P.md.length m2, .slice a3 F.rs.length m3, .slice a4 F.ac.length m4, .slice a5 F.ts.length m5, .slice a6 F.ss.length m6, .slice a7 n7 m7, .slice a8 F.P.dp.length m8⟩ ((t.ks.take k).flatMap (fun k : Tj.Key => Pl.cells F ⟨[(k.h, k.f)], [], []⟩)) k wr ∧ wr.heap[w3.heap.size]? = some (.cells (Yq8 t ka kc aa ac da dc) 96 (0, 0)))) (fun q _ => t.ks.length - (intOf q).toNat)
   case atStart => exact ⟨0, Nat.zero_le _, rfl, HIK⟩
   case round =>
    obtain ⟨k, hk, rfl, HZ⟩ := hrel
    obtain ⟨hx, v, xs, hcb, hsx, hnx⟩ := HZ.out.1
    by_cases hlt : k < t.ks.length
    ·have HXW : Hid (Ext W wr) := Lh ((grows (a := W) (b := ((W.alloc (.cells (Yq0 F a1 m1 a2 m2 a3 m3 a4 m4 a5 m5 a6 m6 a7 m7 n7 a8 m8) 31)).alloc (.cells #[.int .i64 tb, .slice ca cd.length cc, .slice ga gn gc] 111)))).trans hx)
     have sx : Step ((W.alloc (.cells (Yq0 F a1 m1 a2 m2 a3 m3 a4 m4 a5 m5 a6 m6 a7 m7 n7 a8 m8) 31)).alloc (.cells #[.int .i64 tb, .slice ca cd.length cc, .slice ga gn gc] 111)) wr := ⟨hx⟩
     obtain ⟨⟨x1, x2, x3⟩, hxk⟩ : ∃ y, t.ks[k]? = some y := ⟨_, gE hlt⟩
     obtain ⟨kb, ko, rfl, _, _⟩ := Rows.at HKS.out (by omega)
     obtain ⟨g0, g1, g2⟩ := keys_at HKS.out k _ hxk rfl
     dsimp only at g0 g1 g2
     have v0 := alw g0
     have v1 := alw g1
     have v2 := alw g2
     have bx := aH wr (.cells #[.int .i64 x1, .int .i64 x2, .int .i64 x3] 188)
     have qk0 := alw (cQ 0 bx)
     have qk1 := alw (cQ 1 bx)
     have qk2 := alw (cQ 2 bx)
     clear bx
     have hlit := aH (wr.alloc (.cells #[.int .i64 x1, .int .i64 x2, .int .i64 x3] 188)) (.cells #[.int .i64 x1, .int .i64 x2] 88)
     rw [szA] at hlit
     have HLIT := Lh hlit
     have HXK := Lh hxk
     have HX := Lh hx
     have HCB := Lh hcb
     have HSX := Lh hsx
     have HNX := Lh hnx
     have HTB := Lh HZ.out.2
     have hbl := hcb.lt
     have hrl := fun k hk => (hcb.2.lt k hk).2
     have HRL := Lh hrl
     have hclen := Pl.cells_len F ⟨[(x1, x2)], [], []⟩
     dsimp only [List.length_nil, List.length_cons] at hclen
     clear hxk hx hcb hsx hnx g0 g1 g2 hlit hrl HZ
     go_wp2_with fail
     refine (cadd_any (W0 := W) (W := ((wr.alloc (.cells #[.int .i64 x1, .int .i64 x2, .int .i64 x3] 188)).alloc (.cells #[.int .i64 x1, .int .i64 x2] 88))) (hl := []) (fl := [(x1, x2)]) (rl := []) HFF.out HBB.out (HXW.out.trans grows) HSZ.out.2 (HCB.out.ext grows) (fun w' hm => Pl.fr_lit (hm.heap HLIT.out (fun hs => by
      rcases hs with hs | hs
      ·omega
      ·have := HRL.out _ hs; omega))) (fun w' _ => Pl.IrR.nil w') (fun w' _ => Pl.IrR.nil w') (by have := HNX.out; show xs.length + 1 + 0 + 0 ≤ _; omega)).mono ?_
     rintro e w6 ⟨rfl, hp6⟩
     have HI6 : Hid (Pl.ColI ((W.alloc (.cells (Yq0 F a1 m1 a2 m2 a3 m3 a4 m4 a5 m5 a6 m6 a7 m7 n7 a8 m8) 31)).alloc (.cells #[.int .i64 tb, .slice ca cd.length cc, .slice ga gn gc] 111)) (W.heap.size + 1 + 1) ⟨.string F.nm, .slice a1 F.P.hs.length m1, .slice a2 F.P.md.length m2, .slice a3 F.rs.length m3, .slice a4 F.ac.length m4, .slice a5 F.ts.length m5, .slice a6 F.ss.length m6, .slice a7 n7 m7, .slice a8 F.P.dp.length m8⟩ ((t.ks.take (k + 1)).flatMap (fun k : Tj.Key => Pl.cells F ⟨[(k.h, k.f)], [], []⟩)) (k + 1) w6 ∧ w6.heap[w3.heap.size]? = some (.cells #[.string t.nm, .slice (some ⟨kb, ko, none⟩) t.ks.length kc, .slice aa t.ac.length ac, .int .i64 t.df.a, .slice da t.df.ar.length dc, .int .i64 t.sz] 96 (0, 0))) := Lh ⟨by
      have h := Pl.ColI.add (m := 1) HSZ.out.1 HX.out HCB.out HSX.out HNX.out grows hp6 (Pl.SameA.refl _) (by show (Pl.cells F ⟨[(x1, x2)], [], []⟩).length ≤ _; omega)
      rw [Pl.fm_add HXK.out]
      exact h, hp6.keep (HCB.out.ext grows) ((grows (a := wr) (b := ((wr.alloc (.cells #[.int .i64 x1, .int .i64 x2, .int .i64 x3] 188)).alloc (.cells #[.int .i64 x1, .int .i64 x2] 88)))).heap HTB.out) (by decide) (by have := HX3.out.size; intro e; have h9 := lt_of_block HTB.out; simp only [szA] at this; omega)⟩
     clear hp6
     go_wp2_with fail
     go_roundw
     case rel => exact ⟨k + 1, by omega, by go_num, HI6⟩
     case measure => simp [intOf]; omega
    ·obtain rfl : k = t.ks.length := by omega
     obtain ⟨wo, rfl⟩ : ∃ wo : World, wo = wr := ⟨_, rfl⟩
     have so : Step ((W.alloc (.cells (Yq0 F a1 m1 a2 m2 a3 m3 a4 m4 a5 m5 a6 m6 a7 m7 n7 a8 m8) 31)).alloc (.cells #[.int .i64 tb, .slice ca cd.length cc, .slice ga gn gc] 111)) wo := ⟨hx⟩
     have tc2' := alw (cQ 2 HZ.out.2)
     have HIA : Hid (Pl.ColI ((W.alloc (.cells (Yq0 F a1 m1 a2 m2 a3 m3 a4 m4 a5 m5 a6 m6 a7 m7 n7 a8 m8) 31)).alloc (.cells #[.int .i64 tb, .slice ca cd.length cc, .slice ga gn gc] 111)) (W.heap.size + 1 + 1) ⟨.string F.nm, .slice a1 F.P.hs.length m1, .slice a2 F.P.md.length m2, .slice a3 F.rs.length m3, .slice a4 F.ac.length m4, .slice a5 F.ts.length m5, .slice a6 F.ss.length m6, .slice a7 n7 m7, .slice a8 F.P.dp.length m8⟩ (t.ks.flatMap (fun k : Tj.Key => Pl.cells F ⟨[(k.h, k.f)], [], []⟩) ++ (t.ac.take 0).flatMap (fun a => Pl.cells F (Pl.acR F a))) (6 + 30000 * 0) wo) := Lh ⟨hx, v, xs, hcb, by
      rw [List.take_length] at hsx
      rw [tkZ, List.flatMap_nil, List.append_nil]
      exact hsx, by omega⟩
     clear hx hcb hsx hnx HZ
     go_wp2_with fail
     go_loopw [52] (fun q wr => ∃ k : Nat, k ≤ t.ac.length ∧ q = .int .i64 k ∧ Hid (Pl.ColI ((W.alloc (.cells (Yq0 F a1 m1 a2 m2 a3 m3 a4 m4 a5 m5 a6 m6 a7 m7 n7 a8 m8) 31)).alloc (.cells #[.int .i64 tb, .slice ca cd.length cc, .slice ga gn gc] 111)) (W.heap.size + 1 + 1) ⟨.string F.nm, .slice a1 F.P.hs.length m1, .slice a2 F.P.md.length m2, .slice a3 F.rs.length m3, .slice a4 F.ac.length m4, .slice a5 F.ts.length m5, .slice a6 F.ss.length m6, .slice a7 n7 m7, .slice a8 F.P.dp.length m8⟩ (t.ks.flatMap (fun k : Tj.Key => Pl.cells F ⟨[(k.h, k.f)], [], []⟩) ++ (t.ac.take k).flatMap (fun a => Pl.cells F (Pl.acR F a))) (6 + 30000 * k) wr)) (fun q _ => t.ac.length - (intOf q).toNat)
     case atStart => exact ⟨0, Nat.zero_le _, rfl, HIA⟩
     case round =>
      obtain ⟨k, hk, rfl, HZ⟩ := hrel
      by_cases hlt : k < t.ac.length
      ·obtain ⟨hx, v, xs, hcb, hsx, hnx⟩ := HZ.out
       have HXW : Hid (Ext W wr) := Lh ((grows (a := W) (b := ((W.alloc (.cells (Yq0 F a1 m1 a2 m2 a3 m3 a4 m4 a5 m5 a6 m6 a7 m7 n7 a8 m8) 31)).alloc (.cells #[.int .i64 tb, .slice ca cd.length cc, .slice ga gn gc] 111)))).trans hx)
       have sx : Step ((W.alloc (.cells (Yq0 F a1 m1 a2 m2 a3 m3 a4 m4 a5 m5 a6 m6 a7 m7 n7 a8 m8) 31)).alloc (.cells #[.int .i64 tb, .slice ca cd.length cc, .slice ga gn gc] 111)) wr := ⟨hx⟩
       obtain ⟨x, hxk⟩ : ∃ y, t.ac[k]? = some y := ⟨_, gE hlt⟩
       obtain ⟨ab, ao, rfl, hec⟩ := ns_at HAC.out.1 (by omega)
       have y0 := hec k x hxk
       have HXK := Lh hxk
       have HX := Lh hx
       have HCB := Lh hcb
       have HSX := Lh hsx
       have HNX := Lh hnx
       clear hxk hec hx hcb hsx hnx
       go_wp2_with fail
       refine (HRD.out x _ HXW.out).mono ?_
       rintro e w5 ⟨q1, q2, q3, a9, rfl, hs9, hl9, o1, o2, o3, x5⟩
       obtain ⟨d1, c1, rfl⟩ := own_slice o1
       obtain ⟨d2, c2, rfl⟩ := own_slice o2
       obtain ⟨d3, c3, rfl⟩ := own_slice o3
       have HO1 := Lh o1
       have HO2 := Lh o2
       have HO3 := Lh o3
       have HX5 := Lh x5
       have HS9 := Lh hs9
       have hl90 := hl9.1
       have hl91 := hl9.2.1
       have hl92 := hl9.2.2
       have s5 := Sm x5
       have hclen := Pl.cells_len F a9
       clear o1 o2 o3 x5 hs9 hl9
       go_wp2_with fail
       refine (cadd_any (W0 := W) HFF.out HBB.out (HXW.out.trans HX5.out) HSZ.out.2 (HCB.out.ext HX5.out) (fun w' hm => HCB.out.frs HO1.out (Nat.le_refl _) hm) (fun w' hm => HCB.out.irs HO2.out (Nat.le_refl _) hm) (fun w' hm => HCB.out.irs HO3.out (Nat.le_refl _) hm) (by have := HNX.out; omega)).mono ?_
       rintro e w6 ⟨rfl, hp6⟩
       have HI6 : Hid (Pl.ColI ((W.alloc (.cells (Yq0 F a1 m1 a2 m2 a3 m3 a4 m4 a5 m5 a6 m6 a7 m7 n7 a8 m8) 31)).alloc (.cells #[.int .i64 tb, .slice ca cd.length cc, .slice ga gn gc] 111)) (W.heap.size + 1 + 1) ⟨.string F.nm, .slice a1 F.P.hs.length m1, .slice a2 F.P.md.length m2, .slice a3 F.rs.length m3, .slice a4 F.ac.length m4, .slice a5 F.ts.length m5, .slice a6 F.ss.length m6, .slice a7 n7 m7, .slice a8 F.P.dp.length m8⟩ (t.ks.flatMap (fun k : Tj.Key => Pl.cells F ⟨[(k.h, k.f)], [], []⟩) ++ (t.ac.take (k + 1)).flatMap (fun a => Pl.cells F (Pl.acR F a))) (6 + 30000 * (k + 1)) w6) := Lh (by
        have h := Pl.ColI.add (m := 30000) HSZ.out.1 HX.out HCB.out HSX.out HNX.out HX5.out hp6 HS9.out (by show (Pl.cells F a9).length ≤ _; omega)
        rw [Pl.fm_add HXK.out, ← List.append_assoc, show 6 + 30000 * (k + 1) = 6 + 30000 * k + 30000 by omega]
        exact h)
       clear hp6
       go_wp2_with fail
       go_roundw
       case rel => exact ⟨k + 1, by omega, by go_num, HI6⟩
       case measure => simp [intOf]; omega
      ·obtain rfl : k = t.ac.length := by omega
       obtain ⟨hx, v, xs, hcb, hsx, hnx⟩ := HZ.out
       have HX := Lh hx
       have HCB := Lh hcb
       have HNX := Lh hnx
       rw [List.take_length] at hsx
       have HSX := Lh hsx
       have HQ := Lh (csorted_any hcb (by omega))
       clear hx hcb hsx hnx
       go_wp2_with fail
       refine HQ.out.mono ?_
       rintro e w9 ⟨v9, l9, rfl, hs9, hl9, ho9, _, hm9⟩
       have HF : Hid (Pl.SetP W (t.ks.flatMap (fun k : Tj.Key => Pl.cells F ⟨[(k.h, k.f)], [], []⟩) ++ t.ac.flatMap (fun a => Pl.cells F (Pl.acR F a))) (.returned v9) w9) := Lh ⟨v9, l9, rfl, hs9.trans HSX.out, by have := HNX.out; omega, own_base ho9 (by have := HSZ.out.2; omega), Pl.mod_low ((grows (a := W) (b := ((W.alloc (.cells (Yq0 F a1 m1 a2 m2 a3 m3 a4 m4 a5 m5 a6 m6 a7 m7 n7 a8 m8) 31)).alloc (.cells #[.int .i64 tb, .slice ca cd.length cc, .slice ga gn gc] 111)))).trans HX.out) hm9 (fun k hk => HCB.out.ge HSZ.out.2 k hk)⟩
       obtain ⟨d9, c9, rfl⟩ := own_slice ho9
       clear hs9 hl9 ho9 hm9
       go_wp2_with fail
       go_ret
       rw [HPO.out]
       exact HF.out
namespace Pl
open Tj
theorem scan_nodes {F : FP} : ∀ {l pre : List CN}, scanE F pre l = 0 → ∀ x ∈ l, ∃ used, nodeE F used x = 0
 | [], _, _, x, hx => by cases hx
 | y :: l, pre, h, x, hx => by
  rw [scanE_cons] at h
  by_cases h0 : nodeE F (usedBy pre) y ≠ 0
  ·rw [if_pos h0] at h; exact absurd h h0
  ·rw [if_neg h0] at h
   rcases List.mem_cons.1 hx with rfl | hx
   ·exact ⟨_, by simpa using h0⟩
   ·exact scan_nodes h x hx
theorem cs_facts {F : FP} (h : ctlE F = 0) : F.cs.length ≤ 24 ∧ ∀ x ∈ F.cs, x.k = 2 → x.c.length ≤ 24 := by
 unfold ctlE at h
 split at h
 ·cases h
 ·split at h
  ·cases h
  ·refine ⟨by omega, fun x hx hk => ?_⟩
   obtain ⟨used, hn⟩ := scan_nodes h x hx
   unfold nodeE at hn
   rw [if_neg (by omega), if_pos hk] at hn
   split at hn
   ·rename_i h1; exact absurd hn h1
   ·rename_i h1; exact xchk_len (by simpa using h1)
theorem uns_cd {m : Nat} {l : List CN} (h : WF m l) : (∀ x ∈ l, x.k = 2 → x.c.length ≤ 24) → ∀ (gs : Gs) (i : Int), ∀ u ∈ uns m l gs i, u.cd.length ≤ 24 := by
 induction h with
 | nil => intro _ gs i u hu; rw [uns_nil] at hu; cases hu
 | @cons x m a b c ha hb hc iha ihb ihc =>
  intro hk gs i u hu
  rw [uns_cons ha hb hc] at hu
  have hm : ∀ y, y ∈ a ∨ y ∈ b ∨ y ∈ c → y ∈ x :: (a ++ b ++ c) := fun y hy => by
   simp only [List.mem_cons, List.mem_append]
   rcases hy with h | h | h
   ·exact .inr (.inl (.inl h))
   ·exact .inr (.inl (.inr h))
   ·exact .inr (.inr h)
  simp only [List.mem_cons, List.mem_append] at hu
  rcases hu with rfl | (hu | hu) | hu
  ·unfold un
   by_cases h2 : x.k = 2
   ·rw [if_pos h2]; exact hk x List.mem_cons_self h2
   ·rw [if_neg h2]; exact Nat.zero_le _
  ·exact iha (fun y hy => hk y (hm y (.inl hy))) _ _ u hu
  ·exact ihb (fun y hy => hk y (hm y (.inr (.inl hy)))) _ _ u hu
  ·exact ihc (fun y hy => hk y (hm y (.inr (.inr hy)))) _ _ u hu
/-- what Build returns -/
def BldP (W : World) (us : List Un) (e : Ending) (w' : World) : Prop := ∃ oa c, e = .returned (.slice oa us.length c) ∧ Ext W w' ∧ Units w' (.slice oa us.length c) us
/-- the units of a program in memory -/
structure UF (F : FP) (us : List Un) : Prop where
 len : us.length = F.cs.length
 le : us.length ≤ 24
 cd : ∀ u ∈ us, u.cd.length ≤ 24
theorem uf_of {W : World} {p : Pg.PV} {F : FP} (hF : IsF W p F) (hB : Bd F) {oa : Option Addr} {m c : Nat} (hp : p.c7 = .slice oa m c) : UF F (unF F m) := by
 obtain ⟨_, _, _, _, _, ⟨n, m', h7⟩, _⟩ := hF
 obtain ⟨oa', c', h8, _⟩ := h7.slice
 rw [hp] at h8
 simp only [Value.slice.injEq] at h8
 obtain ⟨_, rfl, _⟩ := h8
 have hw := ctl_wf h7
 obtain ⟨h1, h2⟩ := cs_facts hB.cE
 have h3 := (uns_vis hw [] 0).1
 exact ⟨h3, by show (uns m F.cs [] 0).length ≤ 24; omega, uns_cd hw h2 [] 0⟩
end Pl
theorem ubuild_any {W : World} {p : Pg.PV} {F : Tj.FP} (hG : Tj.IsG W p F) (hB : Pl.Bd F) {oa : Option Addr} {m c : Nat} (hp : p.c7 = .slice oa m c) : Calls Tryz.prog 25 #[p.val] W (Pl.BldP W (Pl.unF F m)) := by
 have HC := Lh (fun (w : World) (hx : Ext W w) => ccheck_any (hG.ext hx))
 have huf := Pl.uf_of hG.1 hB hp
 have hcs := Pl.cs_facts hB.cE
 obtain ⟨hF, _⟩ := hG
 obtain ⟨a1, a2, a3, a4, a5, a6, a7, a8, m1, m2, m3, m4, m5, m6, n7, m7, m8, hf⟩ := hF.form
 obtain ⟨rfl, hnm, hhs, hmd, hrs, has, hts, hss, hct, hdp, l1, l2, l3, l4, l5, l6, l7, l8⟩ := hf
 dsimp only [Pg.PV.val] at HC hp ⊢
 simp only [Value.slice.injEq] at hp
 obtain ⟨rfl, rfl, rfl⟩ := hp
 rw [hB.cE] at HC
 obtain ⟨n, hct⟩ := hct
 obtain ⟨hcs1, hcs2⟩ := hcs
 have HVI : Hid (∀ (bl bv : Nat) (w : World), Pl.VisS W bl bv [] w → Calls Tryz.prog 56 #[.slice a7 n7 m7, .slice none 0 0, .pointer (some ⟨bl, 0, none⟩), .pointer (some ⟨bv, 0, none⟩)] w (Pl.VisP W bl bv ([] ++ Pl.uns n7 F.cs [] 0) w)) := Lh (fun bl bv w h => by
  have h9 := visit_any (bl := bl) (bv := bv) n _ _ _ _ hct hcs2 [] (.slice none 0 0) [] w h (World.ownsRow_nil _ _ _ _) (by show 0 + F.cs.length ≤ 1000; omega) (by show 0 + F.cs.length ≤ 1000; omega)
  rw [show ((([] : List Pl.Un).length : Nat) : Int) = 0 from rfl] at h9
  exact h9)
 have HUF := Lh huf
 have bx := aH W (.cells (Yq0 F a1 m1 a2 m2 a3 m3 a4 m4 a5 m5 a6 m6 a7 m7 n7 a8 m8) 31)
 have k0 := alw (cQ 0 bx)
 have k1 := alw (cQ 1 bx)
 have k2 := alw (cQ 2 bx)
 have k3 := alw (cQ 3 bx)
 have k4 := alw (cQ 4 bx)
 have k5 := alw (cQ 5 bx)
 have k6 := alw (cQ 6 bx)
 have k7 := alw (cQ 7 bx)
 have k8 := alw (cQ 8 bx)
 clear bx
 have hmf : ∀ (fn : Fn) (first cap : Array Value) (w : World), (Instr.makeFunc fn first cap).run Tryz.prog w = .ok (.func fn first cap) w := fun _ _ _ _ => rfl
 clear hF hnm hhs hmd hrs has hts hss hct hdp hB huf hcs1 hcs2
 go_enter Tryz.func25, Tryz.ntmps25
 go_wp2_with fail
 refine (HC.out _ grows).mono ?_
 rintro e w3 ⟨i3, rfl, x3⟩
 have s3 := Sm x3
 have HX3 : Hid (Ext W w3) := Lh grows
 have bn := aH (w3.alloc (.cells #[.slice none 0 0] 67)) (.cells #[.nilFunc] 143)
 rw [szA] at bn
 have c0 : ((w3.alloc (.cells #[.slice none 0 0] 67)).alloc (.cells #[.nilFunc] 143)).cell? ⟨w3.heap.size + 1, 0, none⟩ = some .nilFunc := cQ 0 bn
 have f0 : ((w3.alloc (.cells #[.slice none 0 0] 67)).alloc (.cells #[.nilFunc] 143)).frozen? ⟨w3.heap.size + 1, 0, none⟩ = false := free_of bn
 have HBN := Lh bn
 clear bn x3
 go_wp2_with (refine wpList_store_cellK rfl 143 (.tmp 6) (.tmp 14) rfl (w3.heap.size + 1) 0 .nilFunc (.func (.func 56) #[] #[.pointer (some ⟨w3.heap.size, 0, none⟩), .pointer (some ⟨w3.heap.size + 1, 0, none⟩)]) rfl rfl (by kernel_rfl) rfl c0 f0 ?_)
 intro w4 hw4
 have hq4 : w4 = (w3.alloc (.cells #[.slice none 0 0] 67)).alloc (.cells #[.func (.func 56) #[] #[.pointer (some ⟨w3.heap.size, 0, none⟩), .pointer (some ⟨w3.heap.size + 1, 0, none⟩)]] 143) := by rw [hw4.out]
 have bq := aH (w3.alloc (.cells #[.slice none 0 0] 67)) (.cells #[.func (.func 56) #[] #[.pointer (some ⟨w3.heap.size, 0, none⟩), .pointer (some ⟨w3.heap.size + 1, 0, none⟩)]] 143)
 rw [szA, ← hq4] at bq
 have HB4 : Hid (w4.heap[w3.heap.size + 1]? = some (.cells #[.func (.func 56) #[] #[.pointer (some ⟨w3.heap.size, 0, none⟩), .pointer (some ⟨w3.heap.size + 1, 0, none⟩)]] 143 (0, 0))) := Lh bq
 have HX4 : Hid (Ext w3 w4) := Lh (by rw [hq4]; exact grows)
 have HL4 : Hid (w4.heap[w3.heap.size]? = some (.cells #[.slice none 0 0] 67 (0, 0))) := Lh (by rw [hq4]; exact (grows (a := (w3.alloc (.cells #[.slice none 0 0] 67))) (b := (w3.alloc (.cells #[.slice none 0 0] 67)).alloc (.cells #[.func (.func 56) #[] #[.pointer (some ⟨w3.heap.size, 0, none⟩), .pointer (some ⟨w3.heap.size + 1, 0, none⟩)]] 143))).heap (aH w3 _))
 clear bq hq4
 have HVS : Hid (Pl.VisS W w3.heap.size (w3.heap.size + 1) [] w4) := Lh ⟨HX3.out.trans HX4.out, ⟨.slice none 0 0, [], HL4.out, Tj.OLc.start _ _ _ _ _⟩, HB4.out, ⟨HX3.out.size, by omega⟩⟩
 have fv0 : w4.cell? ⟨w3.heap.size + 1, 0, none⟩ = some (.func (.func 56) #[] #[.pointer (some ⟨w3.heap.size, 0, none⟩), .pointer (some ⟨w3.heap.size + 1, 0, none⟩)]) := cQ 0 HB4.out
 have s4 : Step w3 w4 := ⟨HX4.out⟩
 clear hw4 c0 f0
 go_wp2_with fail
 refine (HVI.out _ _ _ HVS.out).mono ?_
 rintro e w5 ⟨rfl, hs5, _⟩
 obtain ⟨lv, css, hlb, hol⟩ := hs5.hl
 have hun : [] ++ Pl.uns n7 F.cs [] 0 = Pl.unF F n7 := rfl
 rw [hun] at hol
 obtain ⟨la, lc, rfl⟩ := own_slice hol.2.2.2.1
 have HR : Hid (Pl.BldP W (Pl.unF F n7) (.returned (.slice la (Pl.unF F n7).length lc)) w5) := Lh ⟨la, lc, rfl, hs5.x, Tj.OL.rows ⟨css, hol⟩ (fun _ _ h => h.r)⟩
 have l0 := cQ 0 hlb
 clear hs5 hlb hol hun
 go_wp2_with fail
 go_ret
 exact HR.out
theorem ownI_form {w : World} {B : Nat} {T : TypeId} {v : Value} {l : List Int} (h : w.ownsRow B T 1 v l.length (l.map (Value.int .i64))) : ∃ oa c, v = .slice oa l.length c ∧ l.length ≤ c ∧ c ≤ maxLen ∧ ∀ (j : Nat) (x : Int), l[j]? = some x → ∃ b, oa = some ⟨b, 0, none⟩ ∧ w.cell? ⟨b, j, none⟩ = some (.int .i64 x) := by
 rcases h.2 with ⟨rfl, h0⟩ | ⟨g, cap, cur, rfl, _, _, h1, h2, _⟩
 ·exact ⟨none, 0, by rw [h0], by omega, by unfold maxLen; omega, fun j x hj => by have := (List.getElem?_eq_some_iff.1 hj).1; omega⟩
 ·exact ⟨_, cap, rfl, h1, h2, fun j x hj => ⟨g, rfl, own_get h (by rw [List.getElem?_map, hj]; rfl)⟩⟩
namespace Pl
theorem comm_hit {a b : List Int} {i j : Nat} {x : Int} (h1 : a[i]? = some x) (h2 : b[j]? = some x) : comm a b = true := comm_iff.2 ⟨x, List.mem_of_getElem? h1, List.mem_of_getElem? h2⟩
theorem comm_miss {a b : List Int} (h : ∀ (i : Nat) (x : Int), i < a.length → a[i]? = some x → ∀ (j : Nat) (y : Int), b[j]? = some y → x ≠ y) : comm a b = false := by
 rw [← Bool.not_eq_true, comm_iff]
 rintro ⟨x, h1, h2⟩
 obtain ⟨i, hi⟩ := List.mem_iff_getElem?.1 h1
 obtain ⟨j, hj⟩ := List.mem_iff_getElem?.1 h2
 exact h i x (List.getElem?_eq_some_iff.1 hi).1 hi j x hj rfl
end Pl
theorem common_any {W : World} {B C : Nat} {va vb : Value} {a b : List Int} (ha : W.ownsRow B 3 1 va a.length (a.map (Value.int .i64))) (hb : W.ownsRow C 3 1 vb b.length (b.map (Value.int .i64))) : Calls Tryz.prog 64 #[va, vb] W (fun e w' => e = .returned (.bool (Pl.comm a b)) ∧ w' = W) := by
 obtain ⟨oa, ca, rfl, h1, h2, ga⟩ := ownI_form ha
 obtain ⟨ob, cb, rfl, h3, h4, gb⟩ := ownI_form hb
 unfold maxLen at h2 h4
 have GA := Lh ga
 have GB := Lh gb
 obtain ⟨R, hR⟩ : ∃ z, z = Pl.comm a b := ⟨_, rfl⟩
 have HR := Lh hR
 rw [← hR]
 clear ha hb ga gb hR
 go_enter Tryz.func64, Tryz.ntmps64
 go_wp2_with fail
 go_loopw [11] (fun q wr => Hid (wr = W) ∧ ∃ k : Nat, k ≤ a.length ∧ q = .int .i64 k ∧ Hid (∀ (i : Nat) (x : Int), i < k → a[i]? = some x → ∀ (j : Nat) (y : Int), b[j]? = some y → x ≠ y)) (fun q _ => a.length - (intOf q).toNat)
 case atStart => exact ⟨Lh rfl, 0, by omega, rfl, Lh (fun i x hi => by omega)⟩
 case round =>
  obtain ⟨hw, k, hk, rfl, HZ⟩ := hrel
  obtain rfl := hw.out
  clear hw
  by_cases hlt : k < a.length
  ·obtain ⟨x, hx⟩ : ∃ y, a[k]? = some y := ⟨_, gE hlt⟩
   obtain ⟨b1, rfl, hc⟩ := GA.out _ _ hx
   have HX := Lh hx
   have y0 := alw hc
   clear hx hc
   go_wp2_with fail
   go_loopw [17] (fun q wz => Hid (wz = wr) ∧ ∃ j : Nat, j ≤ b.length ∧ q = .int .i64 j ∧ Hid (∀ (i : Nat) (y : Int), i < j → b[i]? = some y → x ≠ y)) (fun q _ => b.length - (intOf q).toNat)
   case atStart => exact ⟨Lh rfl, 0, by omega, rfl, Lh (fun i y hi => by omega)⟩
   case round =>
    obtain ⟨hw, j, hj, rfl, HY⟩ := hrel
    obtain rfl := hw.out
    clear hw
    by_cases hjt : j < b.length
    ·obtain ⟨y, hy⟩ : ∃ y, b[j]? = some y := ⟨_, gE hjt⟩
     obtain ⟨b2, rfl, hd⟩ := GB.out _ _ hy
     have HYY := Lh hy
     have y1 := alw hd
     clear hy hd
     by_cases hxy : x = y
     ·have w1 : (x == y) = true := bT hxy
      have HE : Hid (R = true) := Lh (by rw [HR.out]; exact Pl.comm_hit HX.out (by rw [hxy]; exact HYY.out))
      clear hxy
      go_wp2_with fail
      go_ret
      exact ⟨by rw [HE.out]; rfl, rfl⟩
     ·have w1 : (x == y) = false := bF hxy
      have HN := Lh hxy
      clear hxy
      go_wp2_with fail
      go_roundw
      case rel =>
       refine ⟨by first | exact Lh rfl | exact Lh trivial, j + 1, by omega, by go_num, Lh (fun i z hi hz => ?_)⟩
       rcases Nat.lt_or_ge i j with h | h
       ·exact HY.out i z h hz
       ·obtain rfl : i = j := by omega
        rw [HYY.out] at hz; cases hz; exact HN.out
      case measure => simp [intOf]; omega
    ·obtain rfl : j = b.length := by omega
     go_wp2_with fail
     go_roundw
     case rel =>
      refine ⟨by first | exact Lh rfl | exact Lh trivial, k + 1, by omega, by go_num, Lh (fun i z hi hz j2 y2 hy2 => ?_)⟩
      rcases Nat.lt_or_ge i k with h | h
      ·exact HZ.out i z h hz j2 y2 hy2
      ·obtain rfl : i = k := by omega
       rw [HX.out] at hz; cases hz
       exact HY.out j2 y2 (List.getElem?_eq_some_iff.1 hy2).1 hy2
     case measure => simp [intOf]; omega
  ·obtain rfl : k = a.length := by omega
   have HE : Hid (R = false) := Lh (by rw [HR.out]; exact Pl.comm_miss HZ.out)
   go_wp2_with fail
   go_ret
   exact ⟨by rw [HE.out]; rfl, rfl⟩
namespace Pl
open Tj
/-- a row of one's own that is l as a set -/
def RowS (w : World) (B : Nat) (v : Value) (l : List Int) : Prop := ∃ l', Same l' l ∧ w.ownsRow B 3 1 v l'.length (l'.map (Value.int .i64))
theorem RowS.ext {w w' : World} {B : Nat} {v : Value} {l : List Int} (h : RowS w B v l) (hx : Ext w w') : RowS w' B v l := by
 obtain ⟨l', h1, h2⟩ := h; exact ⟨l', h1, own_ext h2 hx⟩
theorem RowS.low {w : World} {B C : Nat} {v : Value} {l : List Int} (h : RowS w B v l) (hc : C ≤ B) : RowS w C v l := by
 obtain ⟨l', h1, h2⟩ := h; exact ⟨l', h1, own_base h2 hc⟩
theorem RowS.mod {S : Nat → Prop} {w w' : World} {B : Nat} {v : Value} {l : List Int} (h : RowS w B v l) (hm : Mod S w w') (hs : ∀ k, v.ownBlock = some k → ¬ S k) : RowS w' B v l := by
 obtain ⟨l', h1, h2⟩ := h; exact ⟨l', h1, own_mod h2 hm hs⟩
theorem RowS.lt {w : World} {B : Nat} {v : Value} {l : List Int} (h : RowS w B v l) {k : Nat} (hk : v.ownBlock = some k) : B ≤ k ∧ k < w.heap.size := by
 obtain ⟨l', h1, h2⟩ := h; exact h2.lt k hk
/-- n places, the first k of them filled -/
def fillL (n : Nat) (R : Nat → Value) (k : Nat) : List Value := (List.range n).map (fun j => if j < k then R j else .slice none 0 0)
def upd {α : Type} (f : Nat → α) (k : Nat) (x : α) (j : Nat) : α := if j = k then x else f j
theorem upd_same {α : Type} (f : Nat → α) (k : Nat) (x : α) : upd f k x k = x := if_pos rfl
theorem upd_ne {α : Type} (f : Nat → α) {k j : Nat} (x : α) (h : j ≠ k) : upd f k x j = f j := if_neg h
theorem fillL_set {n k : Nat} (R : Nat → Value) (x : Value) (hk : k < n) : (fillL n R k).toArray.setIfInBounds k x = (fillL n (upd R k x) (k + 1)).toArray := by
 have _ := hk
 rw [stA]
 congr 1
 refine List.ext_getElem? fun i => ?_
 unfold fillL
 rw [List.getElem?_set]
 by_cases hi : i < n
 ·by_cases h : k = i
  ·subst h
   rw [if_pos rfl, if_pos (by simpa using hi)]
   simp [hi, upd_same]
  ·rw [if_neg h]
   simp only [List.getElem?_map, List.getElem?_range hi, Option.map_some, Option.some.injEq]
   rw [upd_ne R x (fun e => h e.symm)]
   by_cases h2 : i < k
   ·rw [if_pos h2, if_pos (by omega)]
   ·rw [if_neg h2, if_neg (by omega)]
 ·have h1 : ((List.range n).map (fun j => if j < k then R j else .slice none 0 0))[i]? = none := by rw [List.getElem?_eq_none]; simpa using hi
  have h2 : ((List.range n).map (fun j => if j < k + 1 then upd R k x j else .slice none 0 0))[i]? = none := by rw [List.getElem?_eq_none]; simpa using hi
  rw [h1, h2]
  split
  ·rename_i h; subst h; rw [if_neg (by simpa using hi)]
  ·rfl
theorem fillL_at {n k j : Nat} (R : Nat → Value) (hj : j < k) (hk : k ≤ n) : (fillL n R k).toArray[j]? = some (R j) := by
 rw [List.getElem?_toArray]
 unfold fillL
 rw [List.getElem?_map, List.getElem?_range (by omega)]
 simp [hj]
theorem fillL_new {n k : Nat} (R : Nat → Value) (hk : k < n) : (fillL n R k).toArray[k]? = some (.slice none 0 0) := by
 rw [List.getElem?_toArray]
 unfold fillL
 rw [List.getElem?_map, List.getElem?_range hk]
 simp
theorem made_fill (n : Nat) (R : Nat → Value) : madeCells #[.slice none 0 0] n = (fillL n R 0).toArray := by
 apply Array.toList_inj.1
 rw [toList_madeCells_one]
 unfold fillL
 simp [List.map_const']
theorem made_zero (n : Nat) : madeCells #[.int .i64 0] n = ((List.replicate n (0 : Int)).map (Value.int .i64)).toArray := by
 apply Array.toList_inj.1
 rw [toList_madeCells_one]; simp
def rowV (n : Nat) (g : Nat) : Value := .slice (some ⟨g, 0, none⟩) n n
/-- while the lists are filled: k units are done -/
structure DB1 (W : World) (F : FP) (us : List Un) (rb wb db n : Nat) (R V : Nat → Value) (gf : Nat → Nat) (k : Nat) (w : World) : Prop where
 x : Ext W w
 lo : W.heap.size ≤ rb ∧ W.heap.size ≤ wb ∧ W.heap.size ≤ db
 ne : rb ≠ wb ∧ rb ≠ db ∧ wb ≠ db
 hr : w.heap[rb]? = some (.cells (fillL n R k).toArray 29 (0, 0))
 hw : w.heap[wb]? = some (.cells (fillL n V k).toArray 29 (0, 0))
 hd : w.heap[db]? = some (.cells (fillL n (fun j => rowV n (gf j)) k).toArray 29 (0, 0))
 rr : ∀ j, j < k → RowS w W.heap.size (R j) (rdL F (us.getD j un0))
 vv : ∀ j, j < k → RowS w W.heap.size (V j) (wrL F (us.getD j un0))
 dd : ∀ j, j < k → w.heap[gf j]? = some (.cells ((List.replicate n (0 : Int)).map (Value.int .i64)).toArray 3 (0, 0)) ∧ W.heap.size ≤ gf j
 ij : ∀ i j, i < k → j < k → gf i = gf j → i = j
 ap : ∀ i j, i < k → j < k → (R j).ownBlock ≠ some (gf i) ∧ (V j).ownBlock ≠ some (gf i)
theorem DB1.ext {W w w' : World} {F : FP} {us : List Un} {rb wb db n k : Nat} {R V : Nat → Value} {gf : Nat → Nat} (h : DB1 W F us rb wb db n R V gf k w) (hx : Ext w w') : DB1 W F us rb wb db n R V gf k w' :=
 ⟨h.x.trans hx, h.lo, h.ne, hx.heap h.hr, hx.heap h.hw, hx.heap h.hd, fun j hj => (h.rr j hj).ext hx, fun j hj => (h.vv j hj).ext hx, fun j hj => ⟨hx.heap (h.dd j hj).1, (h.dd j hj).2⟩, h.ij, h.ap⟩
theorem heap_ne {w : World} {k g : Nat} {c c' : Array Value} {t t' : TypeId} {f f' : Nat × Nat} (h : w.heap[k]? = some (.cells c t f)) (h' : w.heap[g]? = some (.cells c' t' f')) (hne : t ≠ t') : k ≠ g := fun e => by
 subst e
 rw [h] at h'
 simp only [Option.some.injEq, Obj.cells.injEq] at h'
 exact hne h'.2.1
theorem RowS.ne {w : World} {B g : Nat} {v : Value} {l : List Int} {c : Array Value} {f : Nat × Nat} (h : RowS w B v l) (hg : w.heap[g]? = some (.cells c 29 f)) : v.ownBlock ≠ some g := fun e => by
 obtain ⟨l', _, h2⟩ := h
 obtain ⟨cu, hcu⟩ := row_heap h2 e
 exact heap_ne hcu hg (by decide) rfl
/-- one cell of a block stored -/
theorem mod_cell {w : World} {b o : Nat} {v : Value} : Mod (fun k => k = b) w (w.setCell ⟨b, o, none⟩ v) := Mod.setCell (S := fun k => k = b) (p := ⟨b, o, none⟩) (Mod.refl _ w) (.inl rfl) v
/-- a further unit is done -/
theorem DB1.next {W w w4 : World} {F : FP} {us : List Un} {rb wb db n k : Nat} {R V : Nat → Value} {gf : Nat → Nat} {v3 v4 : Value} (h : DB1 W F us rb wb db n R V gf k w) (hk : k < n) (hx : Ext w w4) (h3 : RowS w4 w.heap.size v3 (rdL F (us.getD k un0))) (h4 : RowS w4 w.heap.size v4 (wrL F (us.getD k un0))) :
 DB1 W F us rb wb db n (upd R k v3) (upd V k v4) (upd gf k w4.heap.size) (k + 1) (((((w4.setCell ⟨rb, k, none⟩ v3).setCell ⟨wb, k, none⟩ v4)).alloc (.cells ((List.replicate n (0 : Int)).map (Value.int .i64)).toArray 3)).setCell ⟨db, k, none⟩ (rowV n w4.heap.size)) := by
 have g := h.ext hx
 obtain ⟨o1, o2, o3⟩ := h.lo
 obtain ⟨n1, n2, n3⟩ := h.ne
 have hWw := h.x.size
 have hww := hx.size
 have m1 : Mod (fun j => j = rb) w4 (w4.setCell ⟨rb, k, none⟩ v3) := mod_cell
 have m2 : Mod (fun j => j = wb) (w4.setCell ⟨rb, k, none⟩ v3) ((w4.setCell ⟨rb, k, none⟩ v3).setCell ⟨wb, k, none⟩ v4) := mod_cell
 have sz : ((w4.setCell ⟨rb, k, none⟩ v3).setCell ⟨wb, k, none⟩ v4).heap.size = w4.heap.size := by simp
 obtain ⟨w6, e6⟩ : ∃ z, z = (w4.setCell ⟨rb, k, none⟩ v3).setCell ⟨wb, k, none⟩ v4 := ⟨_, rfl⟩
 have r5 : w6.heap[rb]? = some (.cells (fillL n (upd R k v3) (k + 1)).toArray 29 (0, 0)) := by
  rw [e6, ← fillL_set R v3 hk]; exact m2.heap (setCell_heap g.hr) (by omega)
 have q5 : w6.heap[wb]? = some (.cells (fillL n (upd V k v4) (k + 1)).toArray 29 (0, 0)) := by
  rw [e6, ← fillL_set V v4 hk]; exact setCell_heap (m1.heap g.hw (by omega))
 have mm : Mod (fun j => j = rb ∨ j = wb) w4 w6 := by
  rw [e6]; exact (m1.mono (fun _ _ h => .inl h)).trans (m2.mono (fun _ _ h => .inr h))
 rw [← e6] at sz ⊢
 obtain ⟨w7, e7⟩ : ∃ z, z = w6.alloc (.cells ((List.replicate n (0 : Int)).map (Value.int .i64)).toArray 3) := ⟨_, rfl⟩
 have x7 : Ext w6 w7 := by rw [e7]; exact (eR w6).alloc _
 have b7 : w7.heap[w4.heap.size]? = some (.cells ((List.replicate n (0 : Int)).map (Value.int .i64)).toArray 3 (0, 0)) := by rw [e7, ← sz]; exact aH w6 _
 rw [← e7]
 have m8 : Mod (fun j => j = db) w7 (w7.setCell ⟨db, k, none⟩ (rowV n w4.heap.size)) := mod_cell
 have d7 : w7.heap[db]? = some (.cells (fillL n (fun j => rowV n (gf j)) k).toArray 29 (0, 0)) := x7.heap (mm.heap g.hd (by omega))
 have mall : Mod (fun j => j = rb ∨ j = wb ∨ j = db) w4 (w7.setCell ⟨db, k, none⟩ (rowV n w4.heap.size)) := ((mm.mono (fun _ _ h => by omega)).trans (Mod.of_ext x7)).trans (m8.mono (fun _ _ h => by omega))
 have keepR : ∀ {v : Value} {l : List Int} {B : Nat}, RowS w4 B v l → RowS (w7.setCell ⟨db, k, none⟩ (rowV n w4.heap.size)) B v l := fun hv => hv.mod mall (fun j hj e => by
  rcases e with e | e | e
  ·subst e; exact hv.ne g.hr hj
  ·subst e; exact hv.ne g.hw hj
  ·subst e; exact hv.ne g.hd hj)
 refine ⟨?_, h.lo, h.ne, m8.heap (x7.heap r5) (by omega), m8.heap (x7.heap q5) (by omega), ?_, fun j hj => ?_, fun j hj => ?_, fun j hj => ?_, fun i j hi hj e => ?_, fun i j hi hj => ?_⟩
 ·exact mod_low g.x mall (fun j hj => by omega)
 ·have hs := setCell_heap (o := k) (v := rowV n w4.heap.size) d7
  rw [fillL_set _ _ hk] at hs
  rw [show (fun j => rowV n (upd gf k w4.heap.size j)) = upd (fun j => rowV n (gf j)) k (rowV n w4.heap.size) from by funext j; unfold upd; split <;> rfl]
  exact hs
 ·by_cases e : j = k
  ·subst e; rw [upd_same]; exact (keepR h3).low (by omega)
  ·rw [upd_ne R v3 e]; exact keepR (g.rr j (by omega))
 ·by_cases e : j = k
  ·subst e; rw [upd_same]; exact (keepR h4).low (by omega)
  ·rw [upd_ne V v4 e]; exact keepR (g.vv j (by omega))
 ·by_cases e : j = k
  ·subst e
   rw [upd_same]
   exact ⟨m8.heap b7 (by have := lt_of_block g.hd; omega), by omega⟩
  ·rw [upd_ne gf _ e]
   have hj2 := g.dd j (by omega)
   refine ⟨mall.heap hj2.1 (fun e2 => ?_), hj2.2⟩
   rcases e2 with e2 | e2 | e2
   ·exact heap_ne hj2.1 g.hr (by decide) e2
   ·exact heap_ne hj2.1 g.hw (by decide) e2
   ·exact heap_ne hj2.1 g.hd (by decide) e2
 ·unfold upd at e
  by_cases ei : i = k <;> by_cases ej : j = k
  ·omega
  ·rw [if_pos ei, if_neg ej] at e
   have := lt_of_block (g.dd j (by omega)).1; omega
  ·rw [if_neg ei, if_pos ej] at e
   have := lt_of_block (g.dd i (by omega)).1; omega
  ·rw [if_neg ei, if_neg ej] at e; exact h.ij i j (by omega) (by omega) e
 ·have hlt3 : ∀ q, v3.ownBlock = some q → w.heap.size ≤ q ∧ q < w4.heap.size := fun q hq => h3.lt hq
  have hlt4 : ∀ q, v4.ownBlock = some q → w.heap.size ≤ q ∧ q < w4.heap.size := fun q hq => h4.lt hq
  have hg : ∀ i, i < k → gf i < w.heap.size := fun i hi => lt_of_block (h.dd i hi).1
  by_cases ei : i = k
  ·subst ei
   rw [upd_same]
   by_cases ej : j = i
   ·subst ej
    rw [upd_same, upd_same]
    exact ⟨fun e => by have := hlt3 _ e; omega, fun e => by have := hlt4 _ e; omega⟩
   ·rw [upd_ne R v3 ej, upd_ne V v4 ej]
    exact ⟨fun e => by have := (h.rr j (by omega)).lt e; omega, fun e => by have := (h.vv j (by omega)).lt e; omega⟩
  ·rw [upd_ne gf _ ei]
   have := hg i (by omega)
   by_cases ej : j = k
   ·subst ej
    rw [upd_same, upd_same]
    exact ⟨fun e => by have := hlt3 _ e; omega, fun e => by have := hlt4 _ e; omega⟩
   ·rw [upd_ne R v3 ej, upd_ne V v4 ej]
    exact h.ap i j (by omega) (by omega)
/-- while the matrix is filled -/
structure DB2 (W : World) (F : FP) (us : List Un) (rb wb db n : Nat) (R V : Nat → Value) (gf : Nat → Nat) (M : Nat → List Int) (w : World) : Prop where
 x : Ext W w
 lo : W.heap.size ≤ rb ∧ W.heap.size ≤ wb ∧ W.heap.size ≤ db
 hr : w.heap[rb]? = some (.cells (fillL n R n).toArray 29 (0, 0))
 hw : w.heap[wb]? = some (.cells (fillL n V n).toArray 29 (0, 0))
 hd : w.heap[db]? = some (.cells (fillL n (fun j => rowV n (gf j)) n).toArray 29 (0, 0))
 rr : ∀ j, j < n → RowS w W.heap.size (R j) (rdL F (us.getD j un0))
 vv : ∀ j, j < n → RowS w W.heap.size (V j) (wrL F (us.getD j un0))
 dd : ∀ j, j < n → w.heap[gf j]? = some (.cells ((M j).map (Value.int .i64)).toArray 3 (0, 0)) ∧ W.heap.size ≤ gf j
 ij : ∀ i j, i < n → j < n → gf i = gf j → i = j
 ap : ∀ i j, i < n → j < n → (R j).ownBlock ≠ some (gf i) ∧ (V j).ownBlock ≠ some (gf i)
 ml : ∀ j, j < n → (M j).length = n
theorem DB2.start {W w : World} {F : FP} {us : List Un} {rb wb db n : Nat} {R V : Nat → Value} {gf : Nat → Nat} (h : DB1 W F us rb wb db n R V gf n w) : DB2 W F us rb wb db n R V gf (fun _ => List.replicate n 0) w :=
 ⟨h.x, h.lo, h.hr, h.hw, h.hd, h.rr, h.vv, h.dd, h.ij, h.ap, fun _ _ => by simp⟩
theorem DB2.ext {W w w' : World} {F : FP} {us : List Un} {rb wb db n : Nat} {R V : Nat → Value} {gf : Nat → Nat} {M : Nat → List Int} (h : DB2 W F us rb wb db n R V gf M w) (hx : Ext w w') : DB2 W F us rb wb db n R V gf M w' :=
 ⟨h.x.trans hx, h.lo, hx.heap h.hr, hx.heap h.hw, hx.heap h.hd, fun j hj => (h.rr j hj).ext hx, fun j hj => (h.vv j hj).ext hx, fun j hj => ⟨hx.heap (h.dd j hj).1, (h.dd j hj).2⟩, h.ij, h.ap, h.ml⟩
/-- one place of the matrix is set -/
theorem DB2.set {W w : World} {F : FP} {us : List Un} {rb wb db n : Nat} {R V : Nat → Value} {gf : Nat → Nat} {M : Nat → List Int} (h : DB2 W F us rb wb db n R V gf M w) {i j : Nat} (hi : i < n) (y : Int) : DB2 W F us rb wb db n R V gf (upd M i ((M i).set j y)) (w.setCell ⟨gf i, j, none⟩ (.int .i64 y)) := by
 have hm : Mod (fun k => k = gf i) w (w.setCell ⟨gf i, j, none⟩ (.int .i64 y)) := mod_cell
 obtain ⟨d1, d2⟩ := h.dd i hi
 refine ⟨mod_low h.x hm (fun k hk => by omega), h.lo, hm.heap h.hr (fun e => heap_ne h.hr d1 (by decide) e), hm.heap h.hw (fun e => heap_ne h.hw d1 (by decide) e), hm.heap h.hd (fun e => heap_ne h.hd d1 (by decide) e), fun a ha => (h.rr a ha).mod hm (fun k hk e => (h.ap i a hi ha).1 (by rw [← e]; exact hk)), fun a ha => (h.vv a ha).mod hm (fun k hk e => (h.ap i a hi ha).2 (by rw [← e]; exact hk)), fun a ha => ?_, h.ij, h.ap, fun a ha => ?_⟩
 ·by_cases e : a = i
  ·subst e
   rw [upd_same]
   refine ⟨?_, d2⟩
   have hs := setCell_heap (o := j) (v := Value.int .i64 y) d1
   rw [stA] at hs
   rw [List.map_set]; exact hs
  ·rw [upd_ne M _ e]
   exact ⟨hm.heap (h.dd a ha).1 (fun e2 => e (h.ij a i ha hi e2)), (h.dd a ha).2⟩
 ·by_cases e : a = i
  ·subst e; rw [upd_same, List.length_set]; exact h.ml a ha
  ·rw [upd_ne M _ e]; exact h.ml a ha
/-- a matrix in memory -/
def RowI (w : World) (cs : List Value) (r : List Int) : Prop := ∃ rv, cs = [rv] ∧ Rows w 1 IrR rv r
def mat (n : Nat) (dp : Nat → Nat → Int) : List (List Int) := (List.range n).map (fun i => (List.range n).map (fun j => dp i j))
/-- the first pairs hold what they should -/
def MI (n : Nat) (dp : Nat → Nat → Int) (i j : Nat) (M : Nat → List Int) : Prop := ∀ a b, a < n → b < n → (M a).getD b 0 = if a < i ∨ (a = i ∧ b < j) then dp a b else 0
theorem MI.start (n : Nat) (dp : Nat → Nat → Int) : MI n dp 0 0 (fun _ => List.replicate n 0) := fun a b _ hb => by
 rw [if_neg (by omega), List.getD_eq_getElem?_getD, List.getElem?_replicate, if_pos hb]; rfl
theorem MI.keep {n : Nat} {dp : Nat → Nat → Int} {i j : Nat} {M : Nat → List Int} (h : MI n dp i j M) (hz : dp i j = 0) : MI n dp i (j + 1) M := fun a b ha hb => by
 rw [h a b ha hb]
 by_cases e : a = i ∧ b = j
 ·obtain ⟨rfl, rfl⟩ := e
  rw [if_neg (by omega), if_pos (by omega), hz]
 ·by_cases e2 : a < i ∨ (a = i ∧ b < j)
  ·rw [if_pos e2, if_pos (by omega)]
  ·rw [if_neg e2, if_neg (by omega)]
theorem MI.set {n : Nat} {dp : Nat → Nat → Int} {i j : Nat} {M : Nat → List Int} (h : MI n dp i j M) (hl : (M i).length = n) (hj : j < n) {y : Int} (hy : dp i j = y) : MI n dp i (j + 1) (upd M i ((M i).set j y)) := fun a b ha hb => by
 by_cases e : a = i
 ·subst e
  rw [upd_same, List.getD_eq_getElem?_getD, List.getElem?_set]
  by_cases e2 : j = b
  ·subst e2
   rw [if_pos rfl, if_pos (by omega), if_pos (by omega), hy]; rfl
  ·rw [if_neg e2, ← List.getD_eq_getElem?_getD, h a b ha hb]
   by_cases e3 : a < a ∨ (a = a ∧ b < j)
   ·rw [if_pos e3, if_pos (by omega)]
   ·rw [if_neg e3, if_neg (by omega)]
 ·rw [upd_ne M _ e, h a b ha hb]
  by_cases e3 : a < i ∨ (a = i ∧ b < j)
  ·rw [if_pos e3, if_pos (by omega)]
  ·rw [if_neg e3, if_neg (by omega)]
theorem MI.line {n : Nat} {dp : Nat → Nat → Int} {i : Nat} {M : Nat → List Int} (h : MI n dp i n M) : MI n dp (i + 1) 0 M := fun a b ha hb => by
 rw [h a b ha hb]
 by_cases e : a < i ∨ (a = i ∧ b < n)
 ·rw [if_pos e, if_pos (by omega)]
 ·rw [if_neg e, if_neg (by omega)]
theorem mat_rows {w : World} {db n : Nat} {gf : Nat → Nat} {M : Nat → List Int} (h1 : w.heap[db]? = some (.cells (fillL n (fun j => rowV n (gf j)) n).toArray 29 (0, 0))) (h2 : ∀ j, j < n → w.heap[gf j]? = some (.cells ((M j).map (Value.int .i64)).toArray 3 (0, 0))) (h3 : ∀ j, j < n → (M j).length = n) (hn : n ≤ maxLen) {dp : Nat → Nat → Int} (hm : MI n dp n 0 M) : Rows w 1 RowI (.slice (some ⟨db, 0, none⟩) (mat n dp).length n) (mat n dp) := by
 have hl : (mat n dp).length = n := by simp [mat]
 refine .inr ⟨⟨db, 0, none⟩, n, by rw [hl], by omega, hn, fun _ => rfl, fun i d hi => ?_⟩
 have hlt : i < n := by rw [← hl]; exact (List.getElem?_eq_some_iff.1 hi).1
 have hd : d = (List.range n).map (fun j => dp i j) := by
  unfold mat at hi
  rw [List.getElem?_map, List.getElem?_range hlt] at hi
  simpa using hi.symm
 have hMi : M i = d := by
  rw [hd]
  refine List.ext_getElem? fun b => ?_
  by_cases hb : b < n
  ·have hq := hm i b hlt hb
   rw [if_pos (.inl hlt), List.getD_eq_getElem?_getD, gE (by rw [h3 i hlt]; exact hb)] at hq
   rw [gE (by rw [h3 i hlt]; exact hb), List.getElem?_map, List.getElem?_range hb]
   simpa using hq
  ·rw [List.getElem?_eq_none (by rw [h3 i hlt]; omega), List.getElem?_eq_none (by simp; omega)]
 refine ⟨[rowV n (gf i)], rfl, ⟨_, rfl, ?_⟩, fun j u hj => ?_⟩
 ·refine .inr ⟨⟨gf i, 0, none⟩, n, ?_, ?_, hn, fun _ => rfl, fun b y hb => ⟨[.int .i64 y], rfl, rfl, fun j u hj => ?_⟩⟩
  ·rw [hd]; simp [rowV]
  ·rw [hd]; simp
  ·match j with
   | 0 =>
    simp only [List.getElem?_cons_zero, Option.some.injEq] at hj
    subst hj
    rw [cell_of (h2 i hlt), hMi, List.getElem?_toArray, List.getElem?_map, show 0 + b * 1 + 0 = b by omega, hb]; rfl
   | j + 1 => simp at hj
 ·match j with
  | 0 =>
   simp only [List.getElem?_cons_zero, Option.some.injEq] at hj
   subst hj
   rw [cell_of h1, show 0 + i * 1 + 0 = i by omega]
   exact fillL_at (fun j => rowV n (gf j)) hlt (Nat.le_refl _)
  | j + 1 => simp at hj
theorem DB2.done {W w : World} {F : FP} {us : List Un} {rb wb db n : Nat} {R V : Nat → Value} {gf : Nat → Nat} {M : Nat → List Int} (h : DB2 W F us rb wb db n R V gf M w) (hn : n ≤ maxLen) {dp : Nat → Nat → Int} (hm : MI n dp n 0 M) : Rows w 1 RowI (.slice (some ⟨db, 0, none⟩) (mat n dp).length n) (mat n dp) :=
 mat_rows h.hd (fun j hj => (h.dd j hj).1) h.ml hn hm
theorem DB2.keep {S : Nat → Prop} {W w w' : World} {F : FP} {us : List Un} {rb wb db n : Nat} {R V : Nat → Value} {gf : Nat → Nat} {M : Nat → List Int} (h : DB2 W F us rb wb db n R V gf M w) (hn : n ≤ maxLen) {dp : Nat → Nat → Int} (hm : MI n dp n 0 M) (hk : Mod S w w') (hs : ∀ b, S b → b < W.heap.size ∨ w.heap.size ≤ b) : Rows w' 1 RowI (.slice (some ⟨db, 0, none⟩) (mat n dp).length n) (mat n dp) :=
 mat_rows (hk.heap h.hd (fun e => by have := lt_of_block h.hd; have := h.lo; have := hs _ e; omega)) (fun j hj => hk.heap (h.dd j hj).1 (fun e => by have := lt_of_block (h.dd j hj).1; have := (h.dd j hj).2; have := hs _ e; omega)) h.ml hn hm
end Pl
end Go.Proofs.YtkiafiaodockbaaGreat
