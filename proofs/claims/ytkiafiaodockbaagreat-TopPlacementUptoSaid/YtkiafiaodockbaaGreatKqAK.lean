/- slices.Sort, slices.Compact at ints, by the library's contracts. The collector of cells: sorted; the table of a unit: declared, walked. What is made anew and by whom it may be changed; slices.Clone, walked. Lists of copies: each, walked. What a store holds, in memory of its own; copies of calls, entries, rows, walked. Configurations in memory of their own; cloneConfig, walked. Units in memory of their own; slices.Clone at guards; the guards of a branch, walked. No condition. -/
import Derived.Test.YtkiafiaodockbaaGreatKqAJ
import Derived.Ground.Names2Prog
import Derived.Shelf.Slices.CompactI
import Derived.Shelf.Slices.In.SortNone
import Derived.Shelf.Slices.Turned
import Derived.Shelf.Sort.Plain
import Derived.Test.YtkiafiaodockbaaGreatProg
set_option maxRecDepth 8000
set_option maxHeartbeats 16000000
namespace Go.Proofs.YtkiafiaodockbaaGreat
open Go.RowKit
def YtkiafiaodockbaaGreatLayS_ren : Go.Shelf.Ren := ⟨fun | 189 => 127 | 125 => 143 | 257 => 145 | 128 => 161 | 129 => 162 | 294 => 163 | 295 => 164 | 296 => 165 | 297 => 166 | 298 => 167 | 299 => 168 | 216 => 169 | 300 => 170 | 301 => 171 | 328 => 179 | 329 => 175 | 330 => 176 | 331 => 180 | 332 => 181 | 215 => 144 | 343 => 183 | n => n, fun | 28 => 29 | 3 => 3 | 46 => 238 | 0 => 0 | 51 => 160 | 53 => 257 | 4 => 4 | 183 => 250 | 182 => 249 | 131 => 203 | 5 => 5 | 9 => 9 | 218 => 266 | 222 => 270 | 228 => 274 | 229 => 275 | n => n, fun | n => n⟩
theorem YtkiafiaodockbaaGreatLayS : Go.Proofs.Lays.n189 Tryz.prog YtkiafiaodockbaaGreatLayS_ren := {
 mixed := by kernel_rfl
 f125 := Tryz.func143.trans (congrArg some (by kernel_rfl))
 f128 := Tryz.func161.trans (congrArg some (by kernel_rfl))
 f129 := Tryz.func162.trans (congrArg some (by kernel_rfl))
 f189 := Tryz.func127.trans (congrArg some (by kernel_rfl))
 f215 := Tryz.func144.trans (congrArg some (by kernel_rfl))
 f216 := Tryz.func169.trans (congrArg some (by kernel_rfl))
 f257 := Tryz.func145.trans (congrArg some (by kernel_rfl))
 f294 := Tryz.func163.trans (congrArg some (by kernel_rfl))
 f295 := Tryz.func164.trans (congrArg some (by kernel_rfl))
 f296 := Tryz.func165.trans (congrArg some (by kernel_rfl))
 f297 := Tryz.func166.trans (congrArg some (by kernel_rfl))
 f298 := Tryz.func167.trans (congrArg some (by kernel_rfl))
 f299 := Tryz.func168.trans (congrArg some (by kernel_rfl))
 f300 := Tryz.func170.trans (congrArg some (by kernel_rfl))
 f301 := Tryz.func171.trans (congrArg some (by kernel_rfl))
 f328 := Tryz.func179.trans (congrArg some (by kernel_rfl))
 f329 := Tryz.func175.trans (congrArg some (by kernel_rfl))
 f330 := Tryz.func176.trans (congrArg some (by kernel_rfl))
 f331 := Tryz.func180.trans (congrArg some (by kernel_rfl))
 f332 := Tryz.func181.trans (congrArg some (by kernel_rfl))
 f343 := Tryz.func183.trans (congrArg some (by kernel_rfl))
 t0 := Tryz.underlying0
 a0 := Tryz.isAgg0
 z0 := Tryz.sizeOf0
 v0 := Tryz.zeroValue0
 t3 := Tryz.underlying3
 a3 := Tryz.isAgg3
 z3 := Tryz.sizeOf3
 v3 := Tryz.zeroValue3
 t4 := Tryz.underlying4
 a4 := Tryz.isAgg4
 z4 := Tryz.sizeOf4
 v4 := Tryz.zeroValue4
 t5 := Tryz.underlying5
 a5 := Tryz.isAgg5
 z5 := Tryz.sizeOf5
 v5 := Tryz.zeroValue5
 t9 := Tryz.underlying9
 a9 := Tryz.isAgg9
 z9 := Tryz.sizeOf9
 v9 := Tryz.zeroValue9
 t28 := Tryz.underlying29
 a28 := Tryz.isAgg29
 z28 := Tryz.sizeOf29
 v28 := Tryz.zeroValue29
 t46 := Tryz.underlying238
 a46 := Tryz.isAgg238
 z46 := Tryz.sizeOf238
 v46 := Tryz.zeroValue238
 t51 := Tryz.underlying160
 a51 := Tryz.isAgg160
 z51 := Tryz.sizeOf160
 v51 := Tryz.zeroValue160
 t53 := Tryz.underlying257
 a53 := Tryz.isAgg257
 z53 := Tryz.sizeOf257
 v53 := Tryz.zeroValue257
 t131 := Tryz.underlying203
 a131 := Tryz.isAgg203
 z131 := Tryz.sizeOf203
 v131 := Tryz.zeroValue203
 t182 := Tryz.underlying249
 a182 := Tryz.isAgg249
 z182 := Tryz.sizeOf249
 v182 := Tryz.zeroValue249
 t183 := Tryz.underlying250
 a183 := Tryz.isAgg250
 z183 := Tryz.sizeOf250
 v183 := Tryz.zeroValue250
 t218 := Tryz.underlying266
 a218 := Tryz.isAgg266
 z218 := Tryz.sizeOf266
 v218 := Tryz.zeroValue266
 t222 := Tryz.underlying270
 a222 := Tryz.isAgg270
 z222 := Tryz.sizeOf270
 v222 := Tryz.zeroValue270
 t228 := Tryz.underlying274
 a228 := Tryz.isAgg274
 z228 := Tryz.sizeOf274
 v228 := Tryz.zeroValue274
 t229 := Tryz.underlying275
 a229 := Tryz.isAgg275
 z229 := Tryz.sizeOf275
 v229 := Tryz.zeroValue275 }
def YtkiafiaodockbaaGreatLayC_ren : Go.Shelf.Ren := ⟨fun | 20 => 128 | n => n, fun | 22 => 29 | 3 => 3 | 4 => 4 | 0 => 0 | n => n, fun | n => n⟩
theorem YtkiafiaodockbaaGreatLayC : Go.Proofs.Lays2.n20 Tryz.prog YtkiafiaodockbaaGreatLayC_ren := {
 mixed := by kernel_rfl
 f20 := Tryz.func128.trans (congrArg some (by kernel_rfl))
 t0 := Tryz.underlying0
 a0 := Tryz.isAgg0
 z0 := Tryz.sizeOf0
 v0 := Tryz.zeroValue0
 t3 := Tryz.underlying3
 a3 := Tryz.isAgg3
 z3 := Tryz.sizeOf3
 v3 := Tryz.zeroValue3
 t4 := Tryz.underlying4
 a4 := Tryz.isAgg4
 z4 := Tryz.sizeOf4
 v4 := Tryz.zeroValue4
 t22 := Tryz.underlying29
 a22 := Tryz.isAgg29
 z22 := Tryz.sizeOf29
 v22 := Tryz.zeroValue29
 i3 := by kernel_rfl }
open Go.RowKit Go.Sort
theorem own_cases {w : World} {B sz n : Nat} {e : TypeId} {v : Value} {xs : List Value} (h : w.ownsRow B e sz v n xs) : (v = .slice none 0 0 ∧ n = 0) ∨ ∃ b c, v = .slice (some ⟨b, 0, none⟩) n c ∧ b < w.heap.size := by
 rcases h.2 with ⟨h1, h2⟩ | ⟨g, cap, cur, h2, _, hg, _⟩
 ·exact .inl ⟨h1, h2⟩
 ·exact .inr ⟨g, cap, h2, (Array.getElem?_eq_some_iff.1 hg).1⟩
theorem sortI_any {W : World} {B : Nat} {v : Value} {l : List Int} (h : W.ownsRow B 3 1 v l.length (l.map (Value.int .i64))) (hn : l.length < 4611686018427387904) : Calls Tryz.prog 127 #[v] W (fun e w' => e = .returned (.tuple #[]) ∧ ∃ l', Pl.Same l' l ∧ l'.length = l.length ∧ w'.ownsRow B 3 1 v l'.length (l'.map (Value.int .i64)) ∧ Mod (fun k => v.ownBlock = some k) W w') := by
 rcases own_cases h with ⟨rfl, h0⟩ | ⟨b, c, rfl, hb⟩
 ·exact (Any.slices_Sort_int_none YtkiafiaodockbaaGreatLayS none 0 W).mono (fun e w' g => ⟨g.1, l, Pl.Same.refl _, rfl, by rw [g.2]; exact h, by rw [g.2]; exact Mod.refl _ _⟩)
 ·refine (Any.slices_Sort_int YtkiafiaodockbaaGreatLayS b 0 c l W (Pl.IRow.holds h) hb hn).mono ?_
  rintro e w' ⟨rfl, n, os, rfl⟩
  have hl : (l.mergeSort fun x y => decide (x ≤ y)).length = l.length := List.length_mergeSort _
  refine ⟨rfl, _, Pl.sort_same l, hl, ?_, (Pl.mod_putI _).mono (fun k _ hk => by simp [Value.ownBlock, hk])⟩
  have g := Pl.IRow.put (n := n) (os := os) h hl
  unfold Pl.IRow at g
  rwa [hl] at g ⊢
theorem compactI_any {W : World} {B : Nat} {v : Value} {l : List Int} (h : W.ownsRow B 3 1 v l.length (l.map (Value.int .i64))) : Calls Tryz.prog 128 #[v] W (fun e w' => ∃ v' l', e = .returned v' ∧ Pl.Same l' l ∧ l'.length ≤ l.length ∧ w'.ownsRow B 3 1 v' l'.length (l'.map (Value.int .i64)) ∧ v'.ownBlock = v.ownBlock ∧ Mod (fun k => v.ownBlock = some k) W w') := by
 rcases own_cases h with ⟨rfl, h0⟩ | ⟨b, c, rfl, hb⟩
 ·exact (Any.slices_Compact_int_empty YtkiafiaodockbaaGreatLayC none 0 W).mono (fun e w' g => ⟨_, l, g.1, Pl.Same.refl _, Nat.le_refl _, by rw [g.2]; exact h, rfl, by rw [g.2]; exact Mod.refl _ _⟩)
 ·obtain ⟨cur, _, _, h3, h4, _, _⟩ := Pl.IRow.parts h
  unfold maxLen at h4
  refine (Any.slices_Compact_int YtkiafiaodockbaaGreatLayC b 0 c l W (Pl.IRow.holds h) (by omega) h3).mono ?_
  rintro e w' ⟨rfl, q, rfl⟩
  have hc := Lib.compact_length_le l
  have hl : (Lib.compact l ++ List.replicate (l.length - (Lib.compact l).length) 0).length = l.length := by rw [List.length_append, List.length_replicate]; omega
  have g := Pl.IRow.put (n := q) (os := #[]) h hl
  rw [Pl.grow_none] at g
  have m := Pl.mod_putI (w := W) (g := b) (n := q) (os := #[]) (Lib.compact l ++ List.replicate (l.length - (Lib.compact l).length) 0).toArray
  rw [Pl.grow_none] at m
  exact ⟨_, _, rfl, Pl.compact_same l, hc, g.cut, rfl, m.mono (fun k _ hk => by simp [Value.ownBlock, hk])⟩
namespace Pl
/-- a guard in two cells -/
def GuR (_w : World) (cs : List Value) (d : Int × Bool) : Prop := cs = [.int .i64 d.1, .bool d.2]
/-- the table of a unit, or the empty table -/
def DeclP (W0 W : World) (F : Tj.FP) (tb : Int) (e : Ending) (w' : World) : Prop := ∃ tv, e = .returned (.tuple #[tv, .bool (Tj.at? F.ts tb).isSome]) ∧ Ext W w' ∧ TabV W0 tv (Tj.tabAt F tb)
theorem ns_nil (k : IntKind) (w : World) : Ns k w (.slice none 0 0) [] := ⟨⟨rfl, (by intro u hu; cases hu), .inl ⟨rfl, rfl⟩⟩, Nat.zero_le _⟩
theorem tab0V (w : World) : TabV w (.agg #[.string ⟨#[]⟩, .slice none 0 0, .slice none 0 0, .int .i64 0, .slice none 0 0, .int .i64 0]) Tj.tab0 :=
 ⟨none, 0, none, 0, none, 0, rfl, Nat.zero_le _, ⟨by show Rg.B64 0; unfold Rg.B64; omega, by show Rg.B64 0; unfold Rg.B64; omega⟩, Or.inl ⟨rfl, rfl⟩, ⟨ns_nil _ w, by intro x hx; cases hx⟩, ⟨ns_nil _ w, by intro x hx; cases hx⟩⟩
/-- what sorted leaves -/
def SrtP (W : World) (b : Nat) (v : Value) (xs : List Int) (e : Ending) (w' : World) : Prop := ∃ v' l', e = .returned v' ∧ Same l' xs ∧ l'.length ≤ xs.length ∧ w'.ownsRow (b + 1) 3 1 v' l'.length (l'.map (Value.int .i64)) ∧ (∀ k, v'.ownBlock = some k → v.ownBlock = some k) ∧ Mod (ColS b v) W w'
end Pl
theorem csorted_any {W : World} {b : Nat} {p : Pg.PV} {v : Value} {xs : List Int} (hO : Pl.ColB W b p v xs) (hn : xs.length ≤ 1073741824) : Calls Tryz.prog 89 #[.pointer (some ⟨b, 0, none⟩)] W (Pl.SrtP W b v xs) := by
 obtain ⟨va, vc, rfl⟩ := own_slice hO.2
 have HO := Lh hO
 have HS := Lh (sortI_any hO.2 (by omega))
 have q1 := alw (cQ 9 hO.1)
 clear hO
 go_enter Tryz.func89, Tryz.ntmps89
 go_wp2_with fail
 refine HS.out.mono ?_
 rintro e w5 ⟨rfl, m, hsm, hml, hom, hmm⟩
 have HSM := Lh hsm
 have HM5 : Hid (Mod (Pl.ColS b (.slice va xs.length vc)) W w5) := Lh (hmm.mono (fun k _ hk => .inr hk))
 have HB5 := Lh (hmm.heap HO.out.1 (fun hk => by have := (HO.out.2.lt b hk).1; omega))
 have q2 := alw (cQ 9 HB5.out)
 rw [hml] at hom
 have HC := Lh (compactI_any (l := m) (by rw [hml]; exact hom))
 have HML := Lh hml
 clear hsm hml hom hmm HS
 go_wp2_with fail
 refine HC.out.mono ?_
 rintro e w6 ⟨v6, m6, rfl, hs6, hl6, ho6, hb6, hm6⟩
 have HR : Hid (Pl.SrtP W b (.slice va xs.length vc) xs (.returned v6) w6) := Lh ⟨v6, m6, rfl, hs6.trans HSM.out, by have := HML.out; omega, ho6, fun k hk => by rw [← hb6]; exact hk, HM5.out.trans (hm6.mono (fun k _ hk => .inr hk))⟩
 clear hs6 hl6 ho6 hm6 hb6 HC
 go_wp2_with fail
 go_ret
 exact HR.out
theorem declared_any {W0 W : World} {p : Pg.PV} {F : Tj.FP} (hF : Tj.IsF W0 p F) (hx0 : Ext W0 W) (tb : Int) (ca ga : Option Addr) (cn cc gn gc : Nat) : Calls Tryz.prog 90 #[p.val, .agg #[.int .i64 tb, .slice ca cn cc, .slice ga gn gc]] W (Pl.DeclP W0 W F tb) := by
 obtain ⟨a1, a2, a3, a4, a5, a6, a7, a8, m1, m2, m3, m4, m5, m6, n7, m7, m8, hf⟩ := hF.form
 obtain ⟨rfl, hnm, hhs, hmd, hrs, has, hts, hss, hct, hdp, l1, l2, l3, l4, l5, l6, l7, l8⟩ := hf
 dsimp only [Pg.PV.val]
 have bx := aH W (.cells (Yq0 F a1 m1 a2 m2 a3 m3 a4 m4 a5 m5 a6 m6 a7 m7 n7 a8 m8) 31)
 have k0 := alw (cQ 0 bx)
 have k1 := alw (cQ 1 bx)
 have k2 := alw (cQ 2 bx)
 have k3 := alw (cQ 3 bx)
 have k4 := alw (cQ 4 bx)
 have k5 := alw (cQ 5 bx)
 have k6 := alw (cQ 6 bx)
 have k7 := alw (cQ 7 bx)
 have k8 := alw (cQ 8 bx)
 clear bx
 have bx := aH (W.alloc (.cells (Yq0 F a1 m1 a2 m2 a3 m3 a4 m4 a5 m5 a6 m6 a7 m7 n7 a8 m8) 31)) (.cells #[.int .i64 tb, .slice ca cn cc, .slice ga gn gc] 111)
 rw [szA] at bx
 have j0 := alw (cQ 0 bx)
 have j1 := alw (cQ 1 bx)
 have j2 := alw (cQ 2 bx)
 clear bx
 clear hF hnm hhs hmd hrs has hss hct hdp
 have hno : Tj.at? F.ts tb = none → Hid (∀ w, Ext W w → Pl.DeclP W0 W F tb (.returned (.tuple #[.agg #[.string ⟨#[]⟩, .slice none 0 0, .slice none 0 0, .int .i64 0, .slice none 0 0, .int .i64 0], .bool false])) w) := fun h => Lh (fun w hx => ⟨_, by rw [h]; rfl, hx, by
  rw [show Tj.tabAt F tb = Tj.tab0 by unfold Tj.tabAt; rw [h]; rfl]; exact Pl.tab0V W0⟩)
 by_cases h0 : tb < 0
 ·have z1 : decide (tb < 0) = true := dTt h0
  have HE := hno (Tj.at_none (.inl h0))
  clear hno h0 hx0
  have bx := aH ((W.alloc (.cells (Yq0 F a1 m1 a2 m2 a3 m3 a4 m4 a5 m5 a6 m6 a7 m7 n7 a8 m8) 31)).alloc (.cells #[.int .i64 tb, .slice ca cn cc, .slice ga gn gc] 111)) (.cells #[.string ⟨#[]⟩, .slice none 0 0, .slice none 0 0, .int .i64 0, .slice none 0 0, .int .i64 0] 96)
  rw [szA, szA] at bx
  have r0 := alw (cQ 0 bx)
  have r1 := alw (cQ 1 bx)
  have r2 := alw (cQ 2 bx)
  have r3 := alw (cQ 3 bx)
  have r4 := alw (cQ 4 bx)
  have r5 := alw (cQ 5 bx)
  clear bx
  go_enter Tryz.func90, Tryz.ntmps90
  go_wp2_with fail
  refine bodyPost_ret (v := .tuple #[.agg #[.string ⟨#[]⟩, .slice none 0 0, .slice none 0 0, .int .i64 0, .slice none 0 0, .int .i64 0], .bool false]) (by simp [results, Tryz.results90, go_sem, r0, r1, r2, r3, r4, r5]) rfl (HE.out _ grows)
 ·have z1 : decide (tb < 0) = false := dF h0
  by_cases h1 : (F.ts.length : Int) ≤ tb
  ·have z2 : decide ((F.ts.length : Int) ≤ tb) = true := dTt h1
   have HE := hno (Tj.at_none (.inr h1))
   clear hno h0 h1 hx0
   have bx := aH ((W.alloc (.cells (Yq0 F a1 m1 a2 m2 a3 m3 a4 m4 a5 m5 a6 m6 a7 m7 n7 a8 m8) 31)).alloc (.cells #[.int .i64 tb, .slice ca cn cc, .slice ga gn gc] 111)) (.cells #[.string ⟨#[]⟩, .slice none 0 0, .slice none 0 0, .int .i64 0, .slice none 0 0, .int .i64 0] 96)
   rw [szA, szA] at bx
   have r0 := alw (cQ 0 bx)
   have r1 := alw (cQ 1 bx)
   have r2 := alw (cQ 2 bx)
   have r3 := alw (cQ 3 bx)
   have r4 := alw (cQ 4 bx)
   have r5 := alw (cQ 5 bx)
   clear bx
   go_enter Tryz.func90, Tryz.ntmps90
   go_wp2_with fail
   refine bodyPost_ret (v := .tuple #[.agg #[.string ⟨#[]⟩, .slice none 0 0, .slice none 0 0, .int .i64 0, .slice none 0 0, .int .i64 0], .bool false]) (by simp [results, Tryz.results90, go_sem, r0, r1, r2, r3, r4, r5]) rfl (HE.out _ grows)
  ·have z2 : decide ((F.ts.length : Int) ≤ tb) = false := dF h1
   clear hno
   obtain ⟨q, rfl⟩ := Int.eq_ofNat_of_zero_le (Int.not_lt.1 h0)
   have hql : q < F.ts.length := by omega
   have z3 : decide (F.ts.length ≤ q) = false := dF (by omega)
   obtain ⟨x, hq⟩ : ∃ x, F.ts[q]? = some x := ⟨_, gE hql⟩
   obtain ⟨tb, tq, rfl, _, _⟩ := Rows.at hts (by omega)
   obtain ⟨ka, kc, aa, cc2, va, vc, hnm2, hbb, hks, hac, har, g0, g1, g2, g3, g4, g5⟩ := tabs_at hts q x hq rfl
   have y0 := alw (hx0.cell g0)
   have y1 := alw (hx0.cell g1)
   have y2 := alw (hx0.cell g2)
   have y3 := alw (hx0.cell g3)
   have y4 := alw (hx0.cell g4)
   have y5 := alw (hx0.cell g5)
   have HE : Hid (∀ w, Ext W w → Pl.DeclP W0 W F (q : Int) (.returned (.tuple #[.agg #[.string x.nm, .slice ka x.ks.length kc, .slice aa x.ac.length cc2, .int .i64 x.df.a, .slice va x.df.ar.length vc, .int .i64 x.sz], .bool true])) w) := Lh (fun w hx => by
    have h : Tj.at? F.ts (q : Int) = some x := by unfold Tj.at?; rw [if_pos (by omega), Int.toNat_natCast]; exact hq
    exact ⟨_, by rw [h]; rfl, hx, by rw [show Tj.tabAt F (q : Int) = x by unfold Tj.tabAt; rw [h]; rfl]; exact ⟨ka, kc, aa, cc2, va, vc, rfl, hnm2, hbb, hks, hac, har⟩⟩)
   clear hx0 hts hq hnm2 hbb hks hac har g0 g1 g2 g3 g4 g5 h0 h1
   have bx := aH ((W.alloc (.cells (Yq5 F a1 m1 a2 m2 a3 m3 a4 m4 tb tq m5 a6 m6 a7 m7 n7 a8 m8) 31)).alloc (.cells #[.int .i64 (q : Int), .slice ca cn cc, .slice ga gn gc] 111)) (.cells #[.string x.nm, .slice ka x.ks.length kc, .slice aa x.ac.length cc2, .int .i64 x.df.a, .slice va x.df.ar.length vc, .int .i64 x.sz] 96)
   rw [szA, szA] at bx
   have r0 := alw (cQ 0 bx)
   have r1 := alw (cQ 1 bx)
   have r2 := alw (cQ 2 bx)
   have r3 := alw (cQ 3 bx)
   have r4 := alw (cQ 4 bx)
   have r5 := alw (cQ 5 bx)
   clear bx
   go_enter Tryz.func90, Tryz.ntmps90
   go_wp2_with fail
   refine bodyPost_ret (v := .tuple #[.agg #[.string x.nm, .slice ka x.ks.length kc, .slice aa x.ac.length cc2, .int .i64 x.df.a, .slice va x.df.ar.length vc, .int .i64 x.sz], .bool true]) (by simp [results, Tryz.results90, go_sem, r0, r1, r2, r3, r4, r5]) rfl (HE.out _ grows)
/-- a call whose result is a new row -/
def RowP (W : World) (T : TypeId) (sz n : Nat) (xs : List Value) (e : Ending) (w' : World) : Prop := ∃ v, e = .returned v ∧ Ext W w' ∧ w'.ownsRow W.heap.size T sz v n xs
theorem wpList_append_empty {P : Program} {w : World} {ops : Array Oper} {rest : List Oper} {o : Oper} {a : Act} {Q : Exit → Act → World → Prop} (hgd : o.guard = none) (s x : Operand) (t : TypeId)
 (ho : o.op = .call { callee := .builtin .append, args := #[s, x], argTypes := #[t, t] })
 (B : Nat) (e : TypeId) (z : Value) (size bytes : Nat) (ht : P.underlying t = some (.slice e)) (hi : (P.info? e).map (fun i => (i.zero, i.size, i.bytes)) = some (some z, size, bytes))
 (hzs : z.cells.size = size) (hsz : 0 < size) (g : Nat) (hs : a.eval s = .slice (some ⟨g, 0, none⟩) 0 0) (hg : w.heap[g]? = some (.cells #[] e (0, 0))) (hB : B ≤ g)
 (y : Value) (m : Nat) (news : List Value) (hx : a.eval x = y) (hsrc : Src w y size m news) (h63 : m ≤ maxLen) (hbytes : m * bytes ≤ 140737488355328)
 (h : ∀ v' w', w'.ownsRow B e size v' m news → Ext w w' → wpList P ops Q rest (a.put o.dst v') w') : wpList P ops Q (o :: rest) a w := by
 obtain ⟨v', w', hr, k2, k3⟩ := run_append_empty (P := P) w B t o.type e z size bytes ht hi hzs hsz g hg hB y m news hsrc h63 hbytes
 refine wpList_plain hgd fun _ hK => ?_
 unfold Oper.wp execOp
 simp only [ho, resolve, invoke, builtin, Sem.run_bind, Sem.run_pure, Result.andThen_ok, List.map_toArray, List.map_cons, List.map_nil, hs, hx, hr]
 exact hK _ _ (h v' w' k2 k3)
theorem flat_one {α : Type} {f : α → List Value} {sz : Nat} (hf : ∀ a, (f a).length = sz) : ∀ {l : List α} {i j : Nat} {a : α} {u : Value}, l[i]? = some a → (f a)[j]? = some u → (l.flatMap f)[i * sz + j]? = some u
 | [], _, _, _, _, h, _ => by simp at h
 | b :: l, 0, j, a, u, h, hu => by
  simp only [List.getElem?_cons_zero, Option.some.injEq] at h
  subst h
  rw [List.flatMap_cons, Nat.zero_mul, Nat.zero_add, List.getElem?_append_left (List.getElem?_eq_some_iff.1 hu).1]; exact hu
 | b :: l, i + 1, j, a, u, h, hu => by
  simp only [List.getElem?_cons_succ] at h
  have := flat_one hf h hu
  rw [List.flatMap_cons, List.getElem?_append_right (by rw [hf, Nat.succ_mul]; omega), hf, show (i + 1) * sz + j - sz = i * sz + j by rw [Nat.succ_mul]; omega]
  exact this
theorem flat_mem {α : Type} {f : α → List Value} {l : List α} {u : Value} (h : u ∈ l.flatMap f) : ∃ a ∈ l, u ∈ f a := List.mem_flatMap.1 h
theorem flat_inv {α : Type} {f : α → List Value} {sz : Nat} (hs : 0 < sz) (hf : ∀ a, (f a).length = sz) {l : List α} {j : Nat} {u : Value} (h : (l.flatMap f)[j]? = some u) : ∃ a, l[j / sz]? = some a ∧ (f a)[j % sz]? = some u := by
 have hl : (l.flatMap f).length = l.length * sz := by
  clear h
  induction l with
  | nil => simp
  | cons a l ih => rw [List.flatMap_cons, List.length_append, ih, hf, List.length_cons, Nat.succ_mul]; omega
 have hj := (List.getElem?_eq_some_iff.1 h).1
 rw [hl] at hj
 have hq : j / sz < l.length := (Nat.div_lt_iff_lt_mul hs).2 hj
 have hr : j % sz < sz := Nat.mod_lt _ hs
 obtain ⟨a, ha⟩ : ∃ a, l[j / sz]? = some a := ⟨_, gE hq⟩
 obtain ⟨u', hu⟩ : ∃ u', (f a)[j % sz]? = some u' := ⟨_, gE (by rw [hf]; exact hr)⟩
 have h2 := flat_one hf ha hu
 rw [Nat.div_add_mod' j sz, h] at h2
 exact ⟨a, ha, by rw [hu, h2]⟩
/-- a slice of flat things, as a source -/
theorem rows_src {α : Type} {w : World} {sz : Nat} {R : World → List Value → α → Prop} {v : Value} {ds : List α} (f : α → List Value) (hs : 0 < sz) (hf : ∀ a, (f a).length = sz) (h1 : ∀ a, ∀ u ∈ f a, u.oneCell' = true) (hR : ∀ cs d, R w cs d → cs = f d) (h : Rows w sz R v ds) : Src w v sz ds.length (ds.flatMap f) := by
 have hl : (ds.flatMap f).length = ds.length * sz := by
  clear h
  induction ds with
  | nil => simp
  | cons a l ih => rw [List.flatMap_cons, List.length_append, ih, hf, List.length_cons, Nat.succ_mul]; omega
 refine ⟨hl, fun u hu => by obtain ⟨a, _, ha⟩ := flat_mem hu; exact h1 a u ha, ?_⟩
 rcases h with ⟨rfl, rfl⟩ | ⟨ad, c, rfl, _, _, h5, h4⟩
 ·exact .inl ⟨rfl, rfl⟩
 ·refine .inr ⟨ad, c, rfl, fun j u hj => ?_⟩
  obtain ⟨a, ha, hu⟩ := flat_inv hs hf hj
  obtain ⟨cs, _, k2, k3⟩ := h4 _ a ha
  have k4 := hR cs a k2
  subst k4
  have k5 := k3 _ u hu
  have hne : ds ≠ [] := by intro h0; subst h0; simp at ha
  rw [h5 hne, add_mk]
  rw [Nat.add_assoc, Nat.div_add_mod' j sz] at k5; exact k5
/-- a row of one's own, read as a slice of flat things -/
theorem rows_flat {α : Type} {W : World} {B : Nat} {e : TypeId} {sz : Nat} {R : World → List Value → α → Prop} {f : α → List Value} {v : Value} {l : List α} (hf : ∀ a, (f a).length = sz) (hR : ∀ a ∈ l, R W (f a) a) (h : W.ownsRow B e sz v l.length (l.flatMap f)) : Rows W sz R v l := by
 have h0 := h
 obtain ⟨h1, h2⟩ := h
 rcases h2 with ⟨rfl, h2⟩ | ⟨g, cap, cur, rfl, _, hg, hc, hm, hs, ht⟩
 ·exact .inl ⟨rfl, List.eq_nil_of_length_eq_zero h2⟩
 ·refine .inr ⟨⟨g, 0, none⟩, cap, rfl, hc, hm, fun _ => rfl, fun i d hi => ⟨f d, hf d, hR d (List.mem_of_getElem? hi), fun j u hj => ?_⟩⟩
  have h4 := h0.cells (g := g) rfl _ _ (flat_one hf hi hj)
  rw [add_mk] at h4
  rw [Nat.add_assoc]; exact h4
theorem cinf_exn : (Tryz.prog.info? 85).map (fun i => (i.zero, i.size, i.bytes)) = some (some (.agg #[.int .i64 0, .int .i64 0, .int .i64 0]), 3, 24) := by kernel_rfl
theorem clone_exn {W : World} {v : Value} {n : Nat} {xs : List Value} (h : Src W v 3 n xs) (hn : n ≤ 1073741824) : Calls Tryz.prog 58 #[v] W (RowP W 85 3 n xs) := by
 obtain ⟨h1, h2, h3⟩ := h
 rcases h3 with ⟨rfl, rfl⟩ | ⟨ad, c, rfl, h4⟩
 ·obtain rfl : xs = [] := List.eq_nil_of_length_eq_zero (by simpa using h1)
  have e1 : ∀ w, (binOp .eql 86 (.slice none 0 0) (.slice none 0 0)).run Tryz.prog w = .ok (.bool true) w := fun _ => rfl
  go_enter Tryz.func58, Tryz.ntmps58
  go_wp2_with fail
  go_ret
  exact ⟨_, rfl, eR _, World.ownsRow_nil _ _ _ _⟩
 ·have hsrc : Src W (.slice (some ad) n c) 3 n xs := ⟨h1, h2, .inr ⟨ad, c, rfl, h4⟩⟩
  clear h1 h2 h4
  have e1 : ∀ w, (binOp .eql 86 (.slice (some ad) n c) (.slice none 0 0)).run Tryz.prog w = .ok (.bool false) w := fun _ => rfl
  go_enter Tryz.func58, Tryz.ntmps58
  go_wp2_with (at_builtin; refine wpList_append_empty rfl (.tmp 5) (.tmp 6) 86 rfl W.heap.size 85 (.agg #[.int .i64 0, .int .i64 0, .int .i64 0]) 3 24 Tryz.underlying86 cinf_exn (by rfl) (by decide) W.heap.size rfl (heap_alloc_new W _) (Nat.le_refl _) (.slice (some ad) n c) n xs rfl (hsrc.ext grows) (by unfold maxLen; omega) (by omega) ?_)
  intro v2 w2 ho2 x2
  have s2 := Sm x2
  go_wp2_with fail
  go_ret
  exact ⟨_, rfl, grows, ho2⟩
theorem flatten_one {sz : Nat} : ∀ {xss : List (List Value)} {i j : Nat} {cs : List Value} {u : Value}, (∀ x ∈ xss, x.length = sz) → xss[i]? = some cs → cs[j]? = some u → xss.flatten[i * sz + j]? = some u
 | [], _, _, _, _, _, h, _ => by simp at h
 | x :: l, 0, j, cs, u, hs, h, hu => by
  simp only [List.getElem?_cons_zero, Option.some.injEq] at h
  subst h
  rw [List.flatten_cons, Nat.zero_mul, Nat.zero_add, List.getElem?_append_left (List.getElem?_eq_some_iff.1 hu).1]; exact hu
 | x :: l, i + 1, j, cs, u, hs, h, hu => by
  simp only [List.getElem?_cons_succ] at h
  have := flatten_one (fun y hy => hs y (List.mem_cons_of_mem _ hy)) h hu
  have hx := hs x List.mem_cons_self
  rw [List.flatten_cons, List.getElem?_append_right (by rw [hx, Nat.succ_mul]; omega), hx, show (i + 1) * sz + j - sz = i * sz + j by rw [Nat.succ_mul]; omega]
  exact this
/-- blocks of these element types stay as they are -/
def Kp (Ts : List TypeId) (w w' : World) : Prop := ∀ (k : Nat) (cur : Array Value) (t : TypeId) (f : Nat × Nat), t ∈ Ts → w.heap[k]? = some (.cells cur t f) → w'.heap[k]? = some (.cells cur t f)
theorem Kp.refl (Ts : List TypeId) (w : World) : Kp Ts w w := fun _ _ _ _ _ h => h
theorem Kp.trans {Ts : List TypeId} {a b c : World} (h : Kp Ts a b) (g : Kp Ts b c) : Kp Ts a c := fun k cur t f ht hk => g k cur t f ht (h k cur t f ht hk)
theorem Kp.ext {Ts : List TypeId} {a b : World} (h : Ext a b) : Kp Ts a b := fun _ _ _ _ _ hk => h.heap hk
theorem Kp.mod {Ts : List TypeId} {a b : World} {S : Nat → Prop} (h : Mod S a b) (hs : ∀ k cur t f, S k → a.heap[k]? = some (.cells cur t f) → t ∉ Ts) : Kp Ts a b := fun k cur t f ht hk => h.heap hk (fun hS => hs k cur t f hS hk ht)
theorem Kp.box {Ts : List TypeId} {a b : World} {g : Nat} {c : Array Value} {t0 : TypeId} {f0 : Nat × Nat} (h : Mod (· = g) a b) (hg : a.heap[g]? = some (.cells c t0 f0)) (h0 : t0 ∉ Ts) : Kp Ts a b := Kp.mod h (fun k cur t f hk h1 => by
 subst hk; rw [hg] at h1; simp only [Option.some.injEq, Obj.cells.injEq] at h1; obtain ⟨_, rfl, _⟩ := h1; exact h0)
theorem Kp.grown {Ts : List TypeId} {a b : World} {B sz n : Nat} {e : TypeId} {v : Value} {xs : List Value} (h : a.grownBy b v.ownBlock) (ho : a.ownsRow B e sz v n xs) (h0 : e ∉ Ts) : Kp Ts a b := Kp.mod (grown_mod h) (fun k cur t f hk h1 => by
 obtain ⟨c, h2⟩ := row_heap ho hk.symm
 rw [h2] at h1; simp only [Option.some.injEq, Obj.cells.injEq] at h1; obtain ⟨_, rfl, _⟩ := h1; exact h0)
theorem own_kp {Ts : List TypeId} {w w' : World} {base : Nat} {e : TypeId} {size : Nat} {v : Value} {n : Nat} {xs : List Value} (h : w.ownsRow base e size v n xs) (k : Kp Ts w w') (he : e ∈ Ts) : w'.ownsRow base e size v n xs := by
 obtain ⟨h1, h2⟩ := h
 refine ⟨h1, ?_⟩
 rcases h2 with h2 | ⟨g, cap, cur, rfl, hb, hg, r⟩
 ·exact .inl h2
 ·exact .inr ⟨g, cap, cur, rfl, hb, k _ _ _ _ he hg, r⟩
namespace Tj
/-- a list of one's own: its elements' cells, each in the relation R to its datum -/
def OLc {α : Type} (B : Nat) (T : TypeId) (sz : Nat) (R : World → List Value → α → Prop) (w : World) (v : Value) (l : List α) (css : List (List Value)) : Prop :=
 css.length = l.length ∧ (∀ x ∈ css, x.length = sz) ∧ (∀ x ∈ css, ∀ u ∈ x, u.oneCell' = true) ∧ w.ownsRow B T sz v l.length css.flatten ∧ ∀ (i : Nat) (cs : List Value) (d : α), css[i]? = some cs → l[i]? = some d → R w cs d
def OL {α : Type} (B : Nat) (T : TypeId) (sz : Nat) (R : World → List Value → α → Prop) (w : World) (v : Value) (l : List α) : Prop := ∃ css, OLc B T sz R w v l css
theorem OLc.start {α : Type} (B : Nat) (T : TypeId) (sz : Nat) (R : World → List Value → α → Prop) (w : World) : OLc B T sz R w (.slice none 0 0) [] [] :=
 ⟨rfl, by simp, by simp, World.ownsRow_nil _ _ _ _, fun i cs d h => by simp at h⟩
theorem OLc.push {α : Type} {B : Nat} {T : TypeId} {sz : Nat} {R : World → List Value → α → Prop} {w w3 : World} {o o' : Value} {l : List α} {css : List (List Value)} {d : α} {cs : List Value} (h : OLc B T sz R w o l css) (hx : ∀ cs d, R w cs d → R w3 cs d)
 (ho : w3.ownsRow B T sz o' (l.length + 1) (css.flatten ++ cs)) (hd : R w3 cs d) (hl : cs.length = sz) (hc : ∀ u ∈ cs, u.oneCell' = true) : OLc B T sz R w3 o' (l ++ [d]) (css ++ [cs]) := by
 obtain ⟨h1, h2, h3, h4, h5⟩ := h
 refine ⟨by simp [h1], fun x hx => ?_, fun x hx => ?_, by simpa using ho, fun i ys e hy he => ?_⟩
 ·rcases List.mem_append.1 hx with hx | hx
  ·exact h2 x hx
  ·simp at hx; subst hx; exact hl
 ·rcases List.mem_append.1 hx with hx | hx
  ·exact h3 x hx
  ·simp at hx; subst hx; exact hc
 ·rcases Nat.lt_or_ge i l.length with hi | hi
  ·rw [List.getElem?_append_left (by omega)] at hy he
   exact hx _ _ (h5 i ys e hy he)
  ·rw [List.getElem?_append_right (by omega)] at hy he
   have h0 : i - l.length = 0 := by
    have := (List.getElem?_eq_some_iff.1 he).1; simp at this; omega
   rw [h1, h0] at hy; rw [h0] at he
   simp at hy he; subst hy he; exact hd
theorem OL.rows {α : Type} {B : Nat} {T : TypeId} {sz : Nat} {R R' : World → List Value → α → Prop} {w : World} {v : Value} {l : List α} (h : OL B T sz R w v l) (hR : ∀ cs d, R w cs d → R' w cs d) : Rows w sz R' v l := by
 obtain ⟨css, h1, h2, h3, h4, h5⟩ := h
 have h9 := h4
 rcases h4.2 with ⟨rfl, h0⟩ | ⟨g, cap, cur, rfl, _, hg, hc, hm, _⟩
 ·exact .inl ⟨rfl, List.eq_nil_of_length_eq_zero h0⟩
 ·refine .inr ⟨⟨g, 0, none⟩, cap, rfl, hc, hm, fun _ => rfl, fun i d hi => ?_⟩
  have hlt := (List.getElem?_eq_some_iff.1 hi).1
  obtain ⟨cs, hcs⟩ : ∃ cs, css[i]? = some cs := ⟨_, gE (by omega)⟩
  refine ⟨cs, h2 cs (List.mem_of_getElem? hcs), hR _ _ (h5 i cs d hcs hi), fun j u hj => ?_⟩
  have h4 := h9.cells (g := g) rfl _ _ (flatten_one h2 hcs hj)
  rw [add_mk] at h4
  rw [Nat.add_assoc]; exact h4
end Tj
namespace Pl
def guC (g : Int × Bool) : List Value := [.int .i64 g.1, .bool g.2]
def enC (e : Tj.EN) : List Value := [.int .i64 e.op, .int .i64 e.n, .int .i64 e.w]
theorem guC_all (l : List (Int × Bool)) : ∀ u ∈ l.flatMap guC, u.oneCell' = true := fun u hu => by
 obtain ⟨x, _, h⟩ := List.mem_flatMap.1 hu
 simp only [guC, List.mem_cons, List.not_mem_nil, or_false] at h
 rcases h with rfl | rfl <;> rfl
/-- a unit's three cells; what they point to is its own -/
def UnO (B : Nat) (w : World) (cs : List Value) (u : Un) : Prop := ∃ cv gv, cs = [.int .i64 u.tb, cv, gv] ∧ (w.ownsRow B 85 3 cv u.cd.length (u.cd.flatMap enC) ∧ ∀ x ∈ u.cd, Tj.B64 x.op ∧ Tj.B64 x.n ∧ Tj.B64 x.w) ∧ w.ownsRow B 146 2 gv u.gs.length (u.gs.flatMap guC)
/-- the kinds that a visit leaves alone -/
abbrev KV : List TypeId := [101, 109, 3, 85, 146]
theorem UnO.kp {B : Nat} {w w' : World} {cs : List Value} {u : Un} (h : UnO B w cs u) (k : Kp KV w w') : UnO B w' cs u := by
 obtain ⟨cv, gv, h1, ⟨h2, h3⟩, h4⟩ := h
 exact ⟨cv, gv, h1, ⟨own_kp h2 k (by decide), h3⟩, own_kp h4 k (by decide)⟩
/-- a unit's cells, as they are read -/
def UnR (w : World) (cs : List Value) (u : Un) : Prop := ∃ cv gv, cs = [.int .i64 u.tb, cv, gv] ∧ Tj.Exp w cv u.cd ∧ Rows w 2 GuR gv u.gs
theorem UnR.ext {w w' : World} {cs : List Value} {u : Un} (h : UnR w cs u) (hx : Ext w w') : UnR w' cs u := by
 obtain ⟨cv, gv, h1, h2, h3⟩ := h
 exact ⟨cv, gv, h1, h2.ext hx, h3.ext (fun _ _ h => h) hx⟩
theorem UnO.r {B : Nat} {w : World} {cs : List Value} {u : Un} (h : UnO B w cs u) : UnR w cs u := by
 obtain ⟨cv, gv, h1, ⟨h2, h3⟩, h4⟩ := h
 exact ⟨cv, gv, h1, rows_flat (f := enC) (fun _ => rfl) (fun d hd => ⟨rfl, h3 d hd⟩) h2, rows_flat (f := guC) (fun _ => rfl) (fun d _ => rfl) h4⟩
/-- a list of units in memory -/
abbrev Units (w : World) (v : Value) (us : List Un) : Prop := Rows w 3 UnR v us
theorem Units.ext {w w' : World} {v : Value} {us : List Un} (h : Units w v us) (hx : Ext w w') : Units w' v us := Rows.ext h (fun _ _ h => h.ext hx) hx
theorem units_at {w : World} {b o n c : Nat} {l : List Un} {oa : Option Addr} (h : Units w (.slice oa n c) l) (k : Nat) (x : Un) (hk : l[k]? = some x) (hoa : oa = some ⟨b, o, none⟩) :
 ∃ ca cc ga gc, Tj.Exp w (.slice ca x.cd.length cc) x.cd ∧ Rows w 2 GuR (.slice ga x.gs.length gc) x.gs ∧ w.cell? ⟨b, o + k * 3, none⟩ = some (.int .i64 x.tb) ∧ w.cell? ⟨b, o + k * 3 + 1, none⟩ = some (.slice ca x.cd.length cc) ∧ w.cell? ⟨b, o + k * 3 + 2, none⟩ = some (.slice ga x.gs.length gc) := by
 obtain ⟨b', o', e, _, h4⟩ := h.at (by have := (List.getElem?_eq_some_iff.1 hk).1; omega)
 rw [hoa] at e
 simp only [Option.some.injEq, Addr.mk.injEq, and_true] at e
 obtain ⟨rfl, rfl⟩ := e
 obtain ⟨cs, _, ⟨cv, gv, rfl, h2, h3⟩, hc⟩ := h4 k x hk
 obtain ⟨ca, cc, rfl, _⟩ := h2.slice
 obtain ⟨ga, gc, rfl, _⟩ := h3.slice
 exact ⟨ca, cc, ga, gc, h2, h3, hc 0 _ rfl, hc 1 _ rfl, hc 2 _ rfl⟩
end Pl
theorem cinf_grd : (Tryz.prog.info? 146).map (fun i => (i.zero, i.size, i.bytes)) = some (some (.agg #[.int .i64 0, .bool false]), 2, 16) := by kernel_rfl
theorem clone_grd {W : World} {v : Value} {n : Nat} {xs : List Value} (h : Src W v 2 n xs) (hn : n ≤ 1073741824) : Calls Tryz.prog 57 #[v] W (RowP W 146 2 n xs) := by
 obtain ⟨h1, h2, h3⟩ := h
 rcases h3 with ⟨rfl, rfl⟩ | ⟨ad, c, rfl, h4⟩
 ·obtain rfl : xs = [] := List.eq_nil_of_length_eq_zero (by simpa using h1)
  have e1 : ∀ w, (binOp .eql 109 (.slice none 0 0) (.slice none 0 0)).run Tryz.prog w = .ok (.bool true) w := fun _ => rfl
  go_enter Tryz.func57, Tryz.ntmps57
  go_wp2_with fail
  go_ret
  exact ⟨_, rfl, eR _, World.ownsRow_nil _ _ _ _⟩
 ·have hsrc : Src W (.slice (some ad) n c) 2 n xs := ⟨h1, h2, .inr ⟨ad, c, rfl, h4⟩⟩
  clear h1 h2 h4
  have e1 : ∀ w, (binOp .eql 109 (.slice (some ad) n c) (.slice none 0 0)).run Tryz.prog w = .ok (.bool false) w := fun _ => rfl
  go_enter Tryz.func57, Tryz.ntmps57
  go_wp2_with (at_builtin; refine wpList_append_empty rfl (.tmp 5) (.tmp 6) 109 rfl W.heap.size 146 (.agg #[.int .i64 0, .bool false]) 2 16 Tryz.underlying109 cinf_grd (by rfl) (by decide) W.heap.size rfl (heap_alloc_new W _) (Nat.le_refl _) (.slice (some ad) n c) n xs rfl (hsrc.ext grows) (by unfold maxLen; omega) (by omega) ?_)
  intro v2 w2 ho2 x2
  have s2 := Sm x2
  go_wp2_with fail
  go_ret
  exact ⟨_, rfl, grows, ho2⟩
theorem branch_any {W : World} {gb ib : Nat} {gv : Value} {gs : List (Int × Bool)} {i : Int} (hg : W.heap[gb]? = some (.cells #[gv] 109 (0, 0))) (hi : W.heap[ib]? = some (.cells #[.int .i64 i] 3 (0, 0))) (ho : W.ownsRow 0 146 2 gv gs.length (gs.flatMap Pl.guC)) (hn : gs.length ≤ 1000000) (b : Bool) :
 Calls Tryz.prog 59 #[.bool b, .pointer (some ⟨gb, 0, none⟩), .pointer (some ⟨ib, 0, none⟩)] W (RowP W 146 2 (gs.length + 1) ((gs ++ [(i, b)]).flatMap Pl.guC)) := by
 obtain ⟨va, vc, rfl⟩ := own_slice ho
 have HCL := Lh (fun (w : World) (hx : Ext W w) => clone_grd ((own_src ho (Pl.guC_all gs)).ext hx) (by omega))
 have q0 := alw (cQ 0 hg)
 have q1 := alw (cQ 0 hi)
 clear hg hi ho
 go_enter Tryz.func59, Tryz.ntmps59
 go_upto_region 1 with (fail)
 refine Rel.region_tail (W := W) 6 (Rel.tab [(1, fun v w => w.ownsRow W.heap.size 146 2 v gs.length (gs.flatMap Pl.guC)), (5, fun v w => ∃ g, v = .slice (some ⟨g, 0, none⟩) 1 1 ∧ Rel.Fresh W g (.cells #[.int .i64 i, .bool b] 146 (0, 0)) w)]) (Rel.tab_lasts (by intro p hp v w w' hr hx; simp only [List.mem_cons, List.not_mem_nil, or_false] at hp; rcases hp with rfl | rfl; (· exact own_ext hr hx); (· obtain ⟨g, h1, h2⟩ := hr; exact ⟨g, h1, h2.ext hx⟩))) (by kernel_rfl) (by kernel_rfl) (eR _) ?_
 simp only [tkS, tkZ]
 refine Rel.chunkT 1 rfl rfl rfl ?_
 simp only [tkS, tkZ, dpS, dpZ, Nat.reduceAdd]
 repeat (go_big_quiet_step (fail))
 refine wpQuiet_nil ?_
 refine Rel.callG _ rfl rfl rfl Tryz.func57 (by nofun) (by decide) #[.slice va gs.length vc] rfl (fun w hx _ => by refine (HCL.out w hx).mono ?_; rintro e w9 ⟨v9, h1, h2, h3⟩; exact ⟨_, h1, h2, own_base h3 hx.le⟩) ?_
 intro u1 v1 _ _ r1
 obtain ⟨ga1, gc1, rfl⟩ := own_slice r1
 clear r1
 simp only [Act.put, stA, stS, stZ]
 refine Rel.chunkT 3 rfl rfl rfl ?_
 simp only [tkS, tkZ, dpS, dpZ, Nat.reduceAdd]
 repeat (go_big_quiet_step (fail))
 refine wpQuiet_nil ?_
 refine Rel.fresh (fun g => .slice (some ⟨g, 0, none⟩) 1 1) (.cells #[.int .i64 i, .bool b] 146 (0, 0)) rfl rfl rfl (fun w hx => by kernel_rfl) ?_
 intro g5 y5 _ _ h5
 clear h5
 simp only [Act.put, stA, stS, stZ]
 refine Rel.fin ?_
 intro w7 x7 hf7
 have ho7 := (hf7 1).1.2 rfl
 obtain ⟨g7, e7, hg7⟩ := (hf7 5).2 rfl
 simp only [Value.slice.injEq, Option.some.injEq, Addr.mk.injEq, and_true] at e7
 subst e7
 have s7 := Sm x7
 have HO7 := Lh ho7
 have HS7 : Hid (Src w7 (.slice (some ⟨g5, 0, none⟩) 1 1) 2 1 (Pl.guC (i, b))) := Lh ⟨rfl, fun u hu => Pl.guC_all [(i, b)] u (by simpa using hu), .inr ⟨_, 1, rfl, fun j u hj => by
  rw [add_mk, Nat.zero_add]
  exact hg7.cell (by match j with | 0 => simpa [Pl.guC] using hj | 1 => simpa [Pl.guC] using hj | j + 2 => simp [Pl.guC] at hj)⟩⟩
 have hle7 := x7.le
 clear hf7 ho7 hg7 x7
 go_wp2_with (at_builtin; refine wpList_append_fresh rfl (.tmp 6) (.tmp 10) 109 rfl W.heap.size 146 (.agg #[.int .i64 0, .bool false]) 2 16 Tryz.underlying109 cinf_grd rfl (by decide) (.slice ga1 gs.length gc1) gs.length _ rfl HO7.out _ 1 _ rfl HS7.out ?d1 ?d2 ?d3 ?_)
 case d1 => unfold maxLen; omega
 case d2 => omega
 try (case d3 => omega)
 intro v' w' hown hgr hfr
 have HR : Hid (RowP W 146 2 (gs.length + 1) ((gs ++ [(i, b)]).flatMap Pl.guC) (.returned v') w') := Lh ⟨v', rfl, ((Mod.of_ext (S := fun k => some k = (Value.slice ga1 gs.length gc1).ownBlock) (grows (a := W) (b := w7))).trans (grown_mod hgr)).ext (fun k hk => (HO7.out.lt k hk.symm).1), by rw [List.flatMap_append]; exact hown⟩
 obtain ⟨ea, ec, rfl⟩ := own_slice hown
 clear hown hgr hfr
 go_wp2_with fail
 go_ret
 exact HR.out
end Go.Proofs.YtkiafiaodockbaaGreat
