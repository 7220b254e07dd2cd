/- resource.Sum of two, walked. resource.Fits, walked. placement.CheckChip, infeasible, usage.within, walked. A job in memory; job.follows, job.add, walked. job.add, walked. job.usage, walked. No condition. -/
import Derived.Test.YtkiafiaodockbaaGreatKqAR
import Derived.BigQuiet
import Derived.Deep.MidRow
set_option maxRecDepth 8000
set_option maxHeartbeats 16000000
namespace Go.Proofs.YtkiafiaodockbaaGreat
open Go.RowKit
theorem wpList_store_two {P : Program} {ops : Array Oper} {rest : List Oper} {o : Oper} {a : Act} {w : World} {Q : Exit → Act → World → Prop} (hgd : o.guard = none) (ty : TypeId) (x y : Operand) (ho : o.op = .store ty x y)
 (g : Nat) (v0 v1 : Value) (hx : a.eval x = .pointer (some ⟨g, 2, none⟩)) (hy : a.eval y = .agg #[v0, v1]) (t : TypeId) (c0 c1 c2 c3 : Value) (hg : w.heap[g]? = some (.cells #[c0, c1, c2, c3] t (0, 0))) (hi : (P.info? ty).map (·.size) = some 2) (h0 : v0.oneCell' = true) (h1 : v1.oneCell' = true)
 (h : ∀ w', Mod (· = g) w w' → w'.heap[g]? = some (.cells #[c0, c1, v0, v1] t (0, 0)) → wpList P ops Q rest (a.put o.dst undef) w') : wpList P ops Q (o :: rest) a w := by
 refine wpList_store_mid hgd ty x y ho g 2 #[v0, v1] hx hy (fun i hi => ?_) hi (by simp [h0, h1]) ?_
 ·have : i = 0 ∨ i = 1 := by simp at hi; omega
  rcases this with rfl | rfl
  ·exact ⟨by rw [cQ 2 hg]; rfl, free_of hg⟩
  ·exact ⟨by rw [cQ 3 hg]; rfl, free_of hg⟩
 ·show wpList P ops Q rest _ ((w.setCell ⟨g, 2, none⟩ v0).setCell ⟨g, 3, none⟩ v1)
  have e1 := setCell_heap (o := 2) (v := v0) hg
  have e2 := setCell_heap (o := 3) (v := v1) e1
  exact h _ ((Mod.setCell (S := fun k => k = g) (p := ⟨g, 2, none⟩) (Mod.refl _ _) (.inl rfl) _).trans (Mod.setCell (S := fun k => k = g) (p := ⟨g, 3, none⟩) (Mod.refl _ _) (.inl rfl) _)) e2
namespace Pl
def sumP (r1 r2 : Int) : Nat → Int
 | 0 => 0
 | 1 => max r1 0
 | _ => sumr r1 r2
theorem sadd_zero {x : Int} (h : 0 ≤ x ∧ x ≤ 9223372036854775807) : sadd 0 x = x := by
 unfold sadd MAXI
 rw [if_neg (by omega)]; omega
end Pl
theorem sum2_any {W : World} {b : Nat} {r1 c1 r2 c2 : Int} (hc : W.heap[b]? = some (.cells #[.int .i64 r1, .int .i64 c1, .int .i64 r2, .int .i64 c2] 73 (0, 0))) (hr1 : -9223372036854775808 ≤ r1 ∧ r1 ≤ 9223372036854775807) (hc1 : -9223372036854775808 ≤ c1 ∧ c1 ≤ 9223372036854775807) (hr2 : -9223372036854775808 ≤ r2 ∧ r2 ≤ 9223372036854775807) (hc2 : -9223372036854775808 ≤ c2 ∧ c2 ≤ 9223372036854775807) :
 Calls Tryz.prog 66 #[.slice (some ⟨b, 0, none⟩) 2 2] W (Rets W (.agg #[.int .i64 (Pl.sumr r1 r2), .int .i64 (Pl.sumr c1 c2)])) := by
 have m0 := alw (cQ 0 hc)
 have m1 := alw (cQ 1 hc)
 have m2 := alw (cQ 2 hc)
 have m3 := alw (cQ 3 hc)
 have HAD : Hid (∀ (a b : Int), 0 ≤ a ∧ a ≤ 9223372036854775807 → 0 ≤ b ∧ b ≤ 9223372036854775807 → ∀ w, Calls Tryz.prog 100 #[.int .i64 a, .int .i64 b] w (Rets w (.int .i64 (Pl.sadd a b)))) := Lh (fun a b ha hb w => (sadd_any a b ha hb w).mono (by rintro e w' ⟨rfl, rfl⟩; exact ⟨rfl, eR _⟩))
 have hrb := aH W (.cells #[.int .i64 0, .int .i64 0] 73)
 have hrt := aH (W.alloc (.cells #[.int .i64 0, .int .i64 0] 73)) (.cells #[.int .i64 0, .int .i64 0] 73)
 rw [szA] at hrt
 have HI0 : Hid (Ext W ((W.alloc (.cells #[.int .i64 0, .int .i64 0] 73)).alloc (.cells #[.int .i64 0, .int .i64 0] 73)) ∧ ((W.alloc (.cells #[.int .i64 0, .int .i64 0] 73)).alloc (.cells #[.int .i64 0, .int .i64 0] 73)).heap[W.heap.size + 1]? = some (.cells #[.int .i64 0, .int .i64 0] 73 (0, 0)) ∧ ((W.alloc (.cells #[.int .i64 0, .int .i64 0] 73)).alloc (.cells #[.int .i64 0, .int .i64 0] 73)).heap[W.heap.size]? = some (.cells #[.int .i64 0, .int .i64 0] 73 (0, 0))) := Lh ⟨grows, hrt, ((eR (W.alloc (.cells #[.int .i64 0, .int .i64 0] 73))).alloc _).heap hrb⟩
 clear hc hrb hrt
 have HZ := zero_res
 go_enter Tryz.func66, Tryz.ntmps66
 go_wp2_with fail
 go_loopw [7] (fun q wr => ∃ k : Nat, k ≤ 2 ∧ q = .int .i64 k ∧ Hid (Ext W wr ∧ wr.heap[W.heap.size + 1]? = some (.cells #[.int .i64 (Pl.sumP r1 r2 k), .int .i64 (Pl.sumP c1 c2 k)] 73 (0, 0)) ∧ wr.heap[W.heap.size]? = some (.cells #[.int .i64 0, .int .i64 0] 73 (0, 0)))) (fun q _ => 2 - (intOf q).toNat)
 case atStart => exact ⟨0, by omega, rfl, HI0⟩
 case round =>
  clear HI0
  obtain ⟨k, hk, rfl, HI⟩ := hrel
  have sx : Step W wr := ⟨HI.out.1⟩
  rcases (show k = 0 ∨ k = 1 ∨ k = 2 by omega) with rfl | rfl | rfl
  ·have HC1 := Lh (HAD.out 0 (max r1 0) (by omega) (by omega))
   have HC2 := Lh (HAD.out 0 (max c1 0) (by omega) (by omega))
   obtain ⟨v, hv1⟩ : ∃ v, v = Pl.sadd 0 (max r1 0) := ⟨_, rfl⟩
   obtain ⟨u, hu1⟩ : ∃ v, v = Pl.sadd 0 (max c1 0) := ⟨_, rfl⟩
   rw [← hv1] at HC1
   rw [← hu1] at HC2
   have HV : Hid (v = Pl.sumP r1 r2 1) := Lh (by rw [hv1]; exact Pl.sadd_zero (by omega))
   have HU : Hid (u = Pl.sumP c1 c2 1) := Lh (by rw [hu1]; exact Pl.sadd_zero (by omega))
   have Hwr : Hid (Ext W wr ∧ wr.heap[W.heap.size + 1]? = some (.cells #[.int .i64 0, .int .i64 0] 73 (0, 0)) ∧ wr.heap[W.heap.size]? = some (.cells #[.int .i64 0, .int .i64 0] 73 (0, 0))) := HI
   have bx := alw (cQ 0 Hwr.out.2.1)
   clear hv1 hu1 HI
   go_wp2_with fail
   refine wp_region_later_tail (W := wr) 9 (by kernel_rfl) (by kernel_rfl) grows ?_
   simp only [tkS, tkZ, dpS, dpZ]
   repeat (go_big_quiet_step (first | (go_at_call 100; with_reducible exact Rets.later_at (HC1.out _)) | fail))
   refine wpQuiet_nil ?_
   intro w5 hx5
   have sw5 : Step wr w5 := Sm hx5
   have Hw5 : Hid (Ext W w5 ∧ w5.heap[W.heap.size + 1]? = some (.cells #[.int .i64 0, .int .i64 0] 73 (0, 0)) ∧ w5.heap[W.heap.size]? = some (.cells #[.int .i64 0, .int .i64 0] 73 (0, 0))) := Lh ⟨Hwr.out.1.trans hx5, hx5.heap Hwr.out.2.1, hx5.heap Hwr.out.2.2⟩
   have cy : w5.cell? ⟨W.heap.size + 1, 0, none⟩ = some (.int .i64 0) := cQ 0 Hw5.out.2.1
   have fy : w5.frozen? ⟨W.heap.size + 1, 0, none⟩ = false := free_of Hw5.out.2.1
   clear hx5
   go_wp2_with (refine wpList_store_cellK rfl 3 (.tmp 19) (.tmp 18) rfl (W.heap.size + 1) 0 _ (.int .i64 v) rfl rfl (by kernel_rfl) rfl cy fy ?_)
   intro w6 hw6
   have m6 : Mod (fun q => q = W.heap.size + 1) w5 w6 := by rw [hw6.out]; exact Mod.setCell (S := fun k => k = W.heap.size + 1) (p := ⟨W.heap.size + 1, 0, none⟩) (Mod.refl _ _) (.inl rfl) _
   have Hw6 : Hid (Ext W w6 ∧ w6.heap[W.heap.size + 1]? = some (.cells #[.int .i64 v, .int .i64 0] 73 (0, 0)) ∧ w6.heap[W.heap.size]? = some (.cells #[.int .i64 0, .int .i64 0] 73 (0, 0))) := Lh ⟨Pl.mod_low Hw5.out.1 m6 (fun q hq => by omega), by rw [hw6.out]; exact setCell_heap Hw5.out.2.1, m6.heap Hw5.out.2.2 (by omega)⟩
   have sw6 : Step W w6 := ⟨Hw6.out.1⟩
   clear cy fy hw6 m6 sw5 Hw5
   have by1 := alw (cQ 1 Hw6.out.2.1)
   go_wp2_with fail
   refine wp_region_later_tail (W := w6) 9 (by kernel_rfl) (by kernel_rfl) grows ?_
   simp only [tkS, tkZ, dpS, dpZ]
   repeat (go_big_quiet_step (first | (go_at_call 100; with_reducible exact Rets.later_at (HC2.out _)) | fail))
   refine wpQuiet_nil ?_
   intro w7 hx5
   have sw7 : Step w6 w7 := Sm hx5
   have Hw7 : Hid (Ext W w7 ∧ w7.heap[W.heap.size + 1]? = some (.cells #[.int .i64 v, .int .i64 0] 73 (0, 0)) ∧ w7.heap[W.heap.size]? = some (.cells #[.int .i64 0, .int .i64 0] 73 (0, 0))) := Lh ⟨Hw6.out.1.trans hx5, hx5.heap Hw6.out.2.1, hx5.heap Hw6.out.2.2⟩
   have cy : w7.cell? ⟨W.heap.size + 1, 1, none⟩ = some (.int .i64 0) := cQ 1 Hw7.out.2.1
   have fy : w7.frozen? ⟨W.heap.size + 1, 1, none⟩ = false := free_of Hw7.out.2.1
   clear hx5
   go_wp2_with (refine wpList_store_cellK rfl 3 (.tmp 29) (.tmp 28) rfl (W.heap.size + 1) 1 _ (.int .i64 u) rfl rfl (by kernel_rfl) rfl cy fy ?_)
   intro w8 hw6
   have m6 : Mod (fun q => q = W.heap.size + 1) w7 w8 := by rw [hw6.out]; exact Mod.setCell (S := fun k => k = W.heap.size + 1) (p := ⟨W.heap.size + 1, 1, none⟩) (Mod.refl _ _) (.inl rfl) _
   have Hw8 : Hid (Ext W w8 ∧ w8.heap[W.heap.size + 1]? = some (.cells #[.int .i64 v, .int .i64 u] 73 (0, 0)) ∧ w8.heap[W.heap.size]? = some (.cells #[.int .i64 0, .int .i64 0] 73 (0, 0))) := Lh ⟨Pl.mod_low Hw7.out.1 m6 (fun q hq => by omega), by rw [hw6.out]; exact setCell_heap Hw7.out.2.1, m6.heap Hw7.out.2.2 (by omega)⟩
   have sw8 : Step W w8 := ⟨Hw8.out.1⟩
   clear cy fy hw6 m6 sw7 Hw7
   have HN : Hid (Ext W w8 ∧ w8.heap[W.heap.size + 1]? = some (.cells #[.int .i64 (Pl.sumP r1 r2 1), .int .i64 (Pl.sumP c1 c2 1)] 73 (0, 0)) ∧ w8.heap[W.heap.size]? = some (.cells #[.int .i64 0, .int .i64 0] 73 (0, 0))) := Lh (by rw [← HV.out, ← HU.out]; exact Hw8.out)
   go_wp2_with fail
   go_roundw
   case rel => exact ⟨1, by omega, by go_num, HN⟩
   case measure => simp [intOf]
  ·obtain ⟨x, hx⟩ : ∃ x, x = Pl.sumP r1 r2 1 := ⟨_, rfl⟩
   obtain ⟨y, hy⟩ : ∃ y, y = Pl.sumP c1 c2 1 := ⟨_, rfl⟩
   have hxb : 0 ≤ x ∧ x ≤ 9223372036854775807 := by rw [hx]; show 0 ≤ max r1 0 ∧ max r1 0 ≤ _; omega
   have hyb : 0 ≤ y ∧ y ≤ 9223372036854775807 := by rw [hy]; show 0 ≤ max c1 0 ∧ max c1 0 ≤ _; omega
   rw [← hx, ← hy] at HI
   have HC1 := Lh (HAD.out x (max r2 0) hxb (by omega))
   have HC2 := Lh (HAD.out y (max c2 0) hyb (by omega))
   obtain ⟨v, hv1⟩ : ∃ v, v = Pl.sadd x (max r2 0) := ⟨_, rfl⟩
   obtain ⟨u, hu1⟩ : ∃ v, v = Pl.sadd y (max c2 0) := ⟨_, rfl⟩
   rw [← hv1] at HC1
   rw [← hu1] at HC2
   have HV : Hid (v = Pl.sumP r1 r2 2) := Lh (by rw [hv1, hx]; rfl)
   have HU : Hid (u = Pl.sumP c1 c2 2) := Lh (by rw [hu1, hy]; rfl)
   have Hwr : Hid (Ext W wr ∧ wr.heap[W.heap.size + 1]? = some (.cells #[.int .i64 x, .int .i64 y] 73 (0, 0)) ∧ wr.heap[W.heap.size]? = some (.cells #[.int .i64 0, .int .i64 0] 73 (0, 0))) := HI
   have bx := alw (cQ 0 Hwr.out.2.1)
   clear hv1 hu1 HI hx hy
   go_wp2_with fail
   refine wp_region_later_tail (W := wr) 9 (by kernel_rfl) (by kernel_rfl) grows ?_
   simp only [tkS, tkZ, dpS, dpZ]
   repeat (go_big_quiet_step (first | (go_at_call 100; with_reducible exact Rets.later_at (HC1.out _)) | fail))
   refine wpQuiet_nil ?_
   intro w5 hx5
   have sw5 : Step wr w5 := Sm hx5
   have Hw5 : Hid (Ext W w5 ∧ w5.heap[W.heap.size + 1]? = some (.cells #[.int .i64 x, .int .i64 y] 73 (0, 0)) ∧ w5.heap[W.heap.size]? = some (.cells #[.int .i64 0, .int .i64 0] 73 (0, 0))) := Lh ⟨Hwr.out.1.trans hx5, hx5.heap Hwr.out.2.1, hx5.heap Hwr.out.2.2⟩
   have cy : w5.cell? ⟨W.heap.size + 1, 0, none⟩ = some (.int .i64 x) := cQ 0 Hw5.out.2.1
   have fy : w5.frozen? ⟨W.heap.size + 1, 0, none⟩ = false := free_of Hw5.out.2.1
   clear hx5
   go_wp2_with (refine wpList_store_cellK rfl 3 (.tmp 19) (.tmp 18) rfl (W.heap.size + 1) 0 _ (.int .i64 v) rfl rfl (by kernel_rfl) rfl cy fy ?_)
   intro w6 hw6
   have m6 : Mod (fun q => q = W.heap.size + 1) w5 w6 := by rw [hw6.out]; exact Mod.setCell (S := fun k => k = W.heap.size + 1) (p := ⟨W.heap.size + 1, 0, none⟩) (Mod.refl _ _) (.inl rfl) _
   have Hw6 : Hid (Ext W w6 ∧ w6.heap[W.heap.size + 1]? = some (.cells #[.int .i64 v, .int .i64 y] 73 (0, 0)) ∧ w6.heap[W.heap.size]? = some (.cells #[.int .i64 0, .int .i64 0] 73 (0, 0))) := Lh ⟨Pl.mod_low Hw5.out.1 m6 (fun q hq => by omega), by rw [hw6.out]; exact setCell_heap Hw5.out.2.1, m6.heap Hw5.out.2.2 (by omega)⟩
   have sw6 : Step W w6 := ⟨Hw6.out.1⟩
   clear cy fy hw6 m6 sw5 Hw5
   have by1 := alw (cQ 1 Hw6.out.2.1)
   go_wp2_with fail
   refine wp_region_later_tail (W := w6) 9 (by kernel_rfl) (by kernel_rfl) grows ?_
   simp only [tkS, tkZ, dpS, dpZ]
   repeat (go_big_quiet_step (first | (go_at_call 100; with_reducible exact Rets.later_at (HC2.out _)) | fail))
   refine wpQuiet_nil ?_
   intro w7 hx5
   have sw7 : Step w6 w7 := Sm hx5
   have Hw7 : Hid (Ext W w7 ∧ w7.heap[W.heap.size + 1]? = some (.cells #[.int .i64 v, .int .i64 y] 73 (0, 0)) ∧ w7.heap[W.heap.size]? = some (.cells #[.int .i64 0, .int .i64 0] 73 (0, 0))) := Lh ⟨Hw6.out.1.trans hx5, hx5.heap Hw6.out.2.1, hx5.heap Hw6.out.2.2⟩
   have cy : w7.cell? ⟨W.heap.size + 1, 1, none⟩ = some (.int .i64 y) := cQ 1 Hw7.out.2.1
   have fy : w7.frozen? ⟨W.heap.size + 1, 1, none⟩ = false := free_of Hw7.out.2.1
   clear hx5
   go_wp2_with (refine wpList_store_cellK rfl 3 (.tmp 29) (.tmp 28) rfl (W.heap.size + 1) 1 _ (.int .i64 u) rfl rfl (by kernel_rfl) rfl cy fy ?_)
   intro w8 hw6
   have m6 : Mod (fun q => q = W.heap.size + 1) w7 w8 := by rw [hw6.out]; exact Mod.setCell (S := fun k => k = W.heap.size + 1) (p := ⟨W.heap.size + 1, 1, none⟩) (Mod.refl _ _) (.inl rfl) _
   have Hw8 : Hid (Ext W w8 ∧ w8.heap[W.heap.size + 1]? = some (.cells #[.int .i64 v, .int .i64 u] 73 (0, 0)) ∧ w8.heap[W.heap.size]? = some (.cells #[.int .i64 0, .int .i64 0] 73 (0, 0))) := Lh ⟨Pl.mod_low Hw7.out.1 m6 (fun q hq => by omega), by rw [hw6.out]; exact setCell_heap Hw7.out.2.1, m6.heap Hw7.out.2.2 (by omega)⟩
   have sw8 : Step W w8 := ⟨Hw8.out.1⟩
   clear cy fy hw6 m6 sw7 Hw7
   have HN : Hid (Ext W w8 ∧ w8.heap[W.heap.size + 1]? = some (.cells #[.int .i64 (Pl.sumP r1 r2 2), .int .i64 (Pl.sumP c1 c2 2)] 73 (0, 0)) ∧ w8.heap[W.heap.size]? = some (.cells #[.int .i64 0, .int .i64 0] 73 (0, 0))) := Lh (by rw [← HV.out, ← HU.out]; exact Hw8.out)
   go_wp2_with fail
   go_roundw
   case rel => exact ⟨2, by omega, by go_num, HN⟩
   case measure => simp [intOf]
  ·have HX := Lh HI.out.1
   have HB := Lh HI.out.2.1
   have HRB := Lh HI.out.2.2
   have HE1 : Hid (Pl.sumP r1 r2 2 = Pl.sumr r1 r2) := Lh rfl
   have HE2 : Hid (Pl.sumP c1 c2 2 = Pl.sumr c1 c2) := Lh rfl
   rw [HE1.out, HE2.out] at HB
   have b0 := alw (cQ 0 HB.out)
   have b1 := alw (cQ 1 HB.out)
   clear HI HE1 HE2
   go_upto_region 8 with (fail)
   go_wp2_with (refine wpList_store_box rfl 73 (.tmp 2) (.tmp 31) rfl W.heap.size #[.int .i64 (Pl.sumr r1 r2), .int .i64 (Pl.sumr c1 c2)] rfl rfl 73 #[.int .i64 0, .int .i64 0] HRB.out (by kernel_rfl) rfl (by simp [Value.oneCell']) ?_)
   intro w9 hm hb
   have q0 := cQ 0 hb
   have q1 := cQ 1 hb
   go_wp2_with fail
   have HXF : Hid (Ext W w9) := Lh (Pl.mod_low HX.out hm (fun q hq => by omega))
   exact bodyPost_ret (v := .agg #[.int .i64 (Pl.sumr r1 r2), .int .i64 (Pl.sumr c1 c2)]) (by simp [results, Tryz.results66, go_sem, q0, q1]) rfl ⟨rfl, HXF.out⟩
namespace Pl
/-- a chip: its eight values -/
def chL (C : Chip) : List Value := [.int .i64 C.S, .int .i64 C.t, .int .i64 C.g, .int .i64 C.r, .int .i64 C.c, .int .i64 C.c8, .int .i64 C.c16, .int .i64 C.c32]
end Pl
abbrev Yq7 (s0 : Int) (s1 : Int) (s2 : Int) (s3 : Int) (s4 : Int) (s5 : Int) (s6 : Int) (s7 : Int) : Array Value := #[.int .i64 s0, .int .i64 s1, .int .i64 s2, .int .i64 s3, .int .i64 s4, .int .i64 s5, .int .i64 s6, .int .i64 s7]
theorem resfits_any (x y : Int) (C : Pl.Chip) (W : World) : Calls Tryz.prog 33 #[.agg #[.int .i64 x, .int .i64 y], .agg (Pl.chL C).toArray] W (fun e w' => e = .returned (.bool (decide (x ≤ C.r) && decide (y ≤ C.c))) ∧ Ext W w') := by
 obtain ⟨s0, s1, s2, s3, s4, s5, s6, s7⟩ := C
 show Calls Tryz.prog 33 #[.agg #[.int .i64 x, .int .i64 y], .agg (Yq7 s0 s1 s2 s3 s4 s5 s6 s7)] W (fun e w' => e = .returned (.bool (decide (x ≤ s3) && decide (y ≤ s4))) ∧ Ext W w')
 have bx := aH W (.cells #[.int .i64 x, .int .i64 y] 73)
 have j0 := alw (cQ 0 bx)
 have j1 := alw (cQ 1 bx)
 clear bx
 have bx := aH (W.alloc (.cells #[.int .i64 x, .int .i64 y] 73)) (.cells (Yq7 s0 s1 s2 s3 s4 s5 s6 s7) 33)
 rw [szA] at bx
 have i0 := alw (cQ 0 bx)
 have i1 := alw (cQ 1 bx)
 have i2 := alw (cQ 2 bx)
 have i3 := alw (cQ 3 bx)
 have i4 := alw (cQ 4 bx)
 have i5 := alw (cQ 5 bx)
 have i6 := alw (cQ 6 bx)
 have i7 := alw (cQ 7 bx)
 clear bx
 by_cases h1 : x ≤ s3
 ·have z1 : decide (x ≤ s3) = true := dTt h1
  by_cases h2 : y ≤ s4
  ·have z2 : decide (y ≤ s4) = true := dTt h2
   go_enter Tryz.func33, Tryz.ntmps33
   go_wp2_with fail
   go_ret
   exact ⟨by first | rfl | simp [z1, z2], grows⟩
  ·have z2 : decide (y ≤ s4) = false := dF h2
   go_enter Tryz.func33, Tryz.ntmps33
   go_wp2_with fail
   go_ret
   exact ⟨by first | rfl | simp [z1, z2], grows⟩
 ·have z1 : decide (x ≤ s3) = false := dF h1
  go_enter Tryz.func33, Tryz.ntmps33
  go_wp2_with fail
  go_ret
  exact ⟨by first | rfl | simp [z1], grows⟩
theorem ix5_0 (a b c d e : Int) (w : World) : (Instr.index 106 (.agg #[.int .i64 a, .int .i64 b, .int .i64 c, .int .i64 d, .int .i64 e]) (.int .i64 0)).run Tryz.prog w = .ok (.int .i64 a) w := by kernel_rfl
theorem ix5_1 (a b c d e : Int) (w : World) : (Instr.index 106 (.agg #[.int .i64 a, .int .i64 b, .int .i64 c, .int .i64 d, .int .i64 e]) (.int .i64 1)).run Tryz.prog w = .ok (.int .i64 b) w := by kernel_rfl
theorem ix5_2 (a b c d e : Int) (w : World) : (Instr.index 106 (.agg #[.int .i64 a, .int .i64 b, .int .i64 c, .int .i64 d, .int .i64 e]) (.int .i64 2)).run Tryz.prog w = .ok (.int .i64 c) w := by kernel_rfl
theorem ix5_3 (a b c d e : Int) (w : World) : (Instr.index 106 (.agg #[.int .i64 a, .int .i64 b, .int .i64 c, .int .i64 d, .int .i64 e]) (.int .i64 3)).run Tryz.prog w = .ok (.int .i64 d) w := by kernel_rfl
theorem ix5_4 (a b c d e : Int) (w : World) : (Instr.index 106 (.agg #[.int .i64 a, .int .i64 b, .int .i64 c, .int .i64 d, .int .i64 e]) (.int .i64 4)).run Tryz.prog w = .ok (.int .i64 e) w := by kernel_rfl
theorem chip_any (C : Pl.Chip) (W : World) : Calls Tryz.prog 12 #[.agg (Pl.chL C).toArray] W (Rets W (.int .i64 (Pl.chipE C))) := by
 obtain ⟨s0, s1, s2, s3, s4, s5, s6, s7⟩ := C
 show Calls Tryz.prog 12 #[.agg (Yq7 s0 s1 s2 s3 s4 s5 s6 s7)] W _
 obtain ⟨R, hR⟩ : ∃ z, z = Pl.chipE ⟨s0, s1, s2, s3, s4, s5, s6, s7⟩ := ⟨_, rfl⟩
 rw [← hR]
 unfold Pl.chipE at hR
 have HR := Lh hR
 clear hR
 have bx := aH W (.cells (Yq7 s0 s1 s2 s3 s4 s5 s6 s7) 33)
 have j0 := alw (cQ 0 bx)
 have j1 := alw (cQ 1 bx)
 have j2 := alw (cQ 2 bx)
 have j3 := alw (cQ 3 bx)
 have j4 := alw (cQ 4 bx)
 have j5 := alw (cQ 5 bx)
 have j6 := alw (cQ 6 bx)
 have j7 := alw (cQ 7 bx)
 clear bx
 by_cases h1 : s0 < 1
 ·have z1 : decide (s0 < 1) = true := dTt h1
  have HE : Hid (R = 9) := Lh (by rw [HR.out, if_pos (.inl h1)])
  go_enter Tryz.func12, Tryz.ntmps12
  go_wp2_with fail
  go_ret
  rw [HE.out]
  exact ⟨rfl, grows⟩
 ·have z1 : decide (s0 < 1) = false := dF h1
  by_cases h2 : 16 < s0
  ·have z2 : decide (16 < s0) = true := dTt h2
   have HE : Hid (R = 9) := Lh (by rw [HR.out, if_pos (.inr h2)])
   go_enter Tryz.func12, Tryz.ntmps12
   go_wp2_with fail
   go_ret
   rw [HE.out]
   exact ⟨rfl, grows⟩
  ·have z2 : decide (16 < s0) = false := dF h2
   have HS : Hid (¬ (s0 < 1 ∨ 16 < s0)) := Lh (by omega)
   clear h1 h2
   go_enter Tryz.func12, Tryz.ntmps12
   go_wp2_with fail
   go_loopw [24] (fun q wr => ∃ k : Nat, k ≤ 5 ∧ q = .int .i64 k ∧ Hid (∀ i : Nat, i < k → Pl.cbad ([s1, s2, s5, s6, s7].getD i 0) = false) ∧ Hid (Ext (W.alloc (.cells (Yq7 s0 s1 s2 s3 s4 s5 s6 s7) 33)) wr)) (fun q _ => 5 - (intOf q).toNat)
   case atStart => exact ⟨0, by omega, rfl, Lh (fun i hi => by omega), Lh (eR _)⟩
   case round =>
    obtain ⟨k, hk, rfl, HG, HX⟩ := hrel
    have sx : Step (W.alloc (.cells (Yq7 s0 s1 s2 s3 s4 s5 s6 s7) 33)) wr := ⟨HX.out⟩
    rcases (show k = 0 ∨ k = 1 ∨ k = 2 ∨ k = 3 ∨ k = 4 ∨ k = 5 by omega) with rfl | rfl | rfl | rfl | rfl | rfl
    ·have hix := ix5_0 s1 s2 s5 s6 s7
     by_cases b1 : s1 < 0
     ·have z1 : decide (s1 < 0) = true := dTt b1
      have HE : Hid (R = 9) := Lh (by rw [HR.out, if_neg HS.out, if_pos (by simp [Pl.cbad, b1])])
      go_wp2_with fail
      go_ret
      rw [HE.out]
      exact ⟨rfl, grows⟩
     ·have z1 : decide (s1 < 0) = false := dF b1
      by_cases b2 : 64 < s1
      ·have z2 : decide (64 < s1) = true := dTt b2
       have HE : Hid (R = 9) := Lh (by rw [HR.out, if_neg HS.out, if_pos (by simp [Pl.cbad, b2])])
       go_wp2_with fail
       go_ret
       rw [HE.out]
       exact ⟨rfl, grows⟩
      ·have z2 : decide (64 < s1) = false := dF b2
       have HG2 : Hid (∀ i : Nat, i < 0+1 → Pl.cbad ([s1, s2, s5, s6, s7].getD i 0) = false) := Lh (fun i hi => by
        rcases (show i < 0 ∨ i = 0 by omega) with h | rfl
        ·exact HG.out i h
        ·show (decide (s1 < 0) || decide (64 < s1)) = false
         rw [z1, z2]; rfl)
       go_wp2_with fail
       go_roundw
       case rel => exact ⟨0 + 1, by omega, by go_num, HG2, HX⟩
       case measure => simp [intOf]
    ·have hix := ix5_1 s1 s2 s5 s6 s7
     by_cases b1 : s2 < 0
     ·have z1 : decide (s2 < 0) = true := dTt b1
      have HE : Hid (R = 9) := Lh (by rw [HR.out, if_neg HS.out, if_pos (by simp [Pl.cbad, b1])])
      go_wp2_with fail
      go_ret
      rw [HE.out]
      exact ⟨rfl, grows⟩
     ·have z1 : decide (s2 < 0) = false := dF b1
      by_cases b2 : 64 < s2
      ·have z2 : decide (64 < s2) = true := dTt b2
       have HE : Hid (R = 9) := Lh (by rw [HR.out, if_neg HS.out, if_pos (by simp [Pl.cbad, b2])])
       go_wp2_with fail
       go_ret
       rw [HE.out]
       exact ⟨rfl, grows⟩
      ·have z2 : decide (64 < s2) = false := dF b2
       have HG2 : Hid (∀ i : Nat, i < 1+1 → Pl.cbad ([s1, s2, s5, s6, s7].getD i 0) = false) := Lh (fun i hi => by
        rcases (show i < 1 ∨ i = 1 by omega) with h | rfl
        ·exact HG.out i h
        ·show (decide (s2 < 0) || decide (64 < s2)) = false
         rw [z1, z2]; rfl)
       go_wp2_with fail
       go_roundw
       case rel => exact ⟨1 + 1, by omega, by go_num, HG2, HX⟩
       case measure => simp [intOf]
    ·have hix := ix5_2 s1 s2 s5 s6 s7
     by_cases b1 : s5 < 0
     ·have z1 : decide (s5 < 0) = true := dTt b1
      have HE : Hid (R = 9) := Lh (by rw [HR.out, if_neg HS.out, if_pos (by simp [Pl.cbad, b1])])
      go_wp2_with fail
      go_ret
      rw [HE.out]
      exact ⟨rfl, grows⟩
     ·have z1 : decide (s5 < 0) = false := dF b1
      by_cases b2 : 64 < s5
      ·have z2 : decide (64 < s5) = true := dTt b2
       have HE : Hid (R = 9) := Lh (by rw [HR.out, if_neg HS.out, if_pos (by simp [Pl.cbad, b2])])
       go_wp2_with fail
       go_ret
       rw [HE.out]
       exact ⟨rfl, grows⟩
      ·have z2 : decide (64 < s5) = false := dF b2
       have HG2 : Hid (∀ i : Nat, i < 2+1 → Pl.cbad ([s1, s2, s5, s6, s7].getD i 0) = false) := Lh (fun i hi => by
        rcases (show i < 2 ∨ i = 2 by omega) with h | rfl
        ·exact HG.out i h
        ·show (decide (s5 < 0) || decide (64 < s5)) = false
         rw [z1, z2]; rfl)
       go_wp2_with fail
       go_roundw
       case rel => exact ⟨2 + 1, by omega, by go_num, HG2, HX⟩
       case measure => simp [intOf]
    ·have hix := ix5_3 s1 s2 s5 s6 s7
     by_cases b1 : s6 < 0
     ·have z1 : decide (s6 < 0) = true := dTt b1
      have HE : Hid (R = 9) := Lh (by rw [HR.out, if_neg HS.out, if_pos (by simp [Pl.cbad, b1])])
      go_wp2_with fail
      go_ret
      rw [HE.out]
      exact ⟨rfl, grows⟩
     ·have z1 : decide (s6 < 0) = false := dF b1
      by_cases b2 : 64 < s6
      ·have z2 : decide (64 < s6) = true := dTt b2
       have HE : Hid (R = 9) := Lh (by rw [HR.out, if_neg HS.out, if_pos (by simp [Pl.cbad, b2])])
       go_wp2_with fail
       go_ret
       rw [HE.out]
       exact ⟨rfl, grows⟩
      ·have z2 : decide (64 < s6) = false := dF b2
       have HG2 : Hid (∀ i : Nat, i < 3+1 → Pl.cbad ([s1, s2, s5, s6, s7].getD i 0) = false) := Lh (fun i hi => by
        rcases (show i < 3 ∨ i = 3 by omega) with h | rfl
        ·exact HG.out i h
        ·show (decide (s6 < 0) || decide (64 < s6)) = false
         rw [z1, z2]; rfl)
       go_wp2_with fail
       go_roundw
       case rel => exact ⟨3 + 1, by omega, by go_num, HG2, HX⟩
       case measure => simp [intOf]
    ·have hix := ix5_4 s1 s2 s5 s6 s7
     by_cases b1 : s7 < 0
     ·have z1 : decide (s7 < 0) = true := dTt b1
      have HE : Hid (R = 9) := Lh (by rw [HR.out, if_neg HS.out, if_pos (by simp [Pl.cbad, b1])])
      go_wp2_with fail
      go_ret
      rw [HE.out]
      exact ⟨rfl, grows⟩
     ·have z1 : decide (s7 < 0) = false := dF b1
      by_cases b2 : 64 < s7
      ·have z2 : decide (64 < s7) = true := dTt b2
       have HE : Hid (R = 9) := Lh (by rw [HR.out, if_neg HS.out, if_pos (by simp [Pl.cbad, b2])])
       go_wp2_with fail
       go_ret
       rw [HE.out]
       exact ⟨rfl, grows⟩
      ·have z2 : decide (64 < s7) = false := dF b2
       have HG2 : Hid (∀ i : Nat, i < 4+1 → Pl.cbad ([s1, s2, s5, s6, s7].getD i 0) = false) := Lh (fun i hi => by
        rcases (show i < 4 ∨ i = 4 by omega) with h | rfl
        ·exact HG.out i h
        ·show (decide (s7 < 0) || decide (64 < s7)) = false
         rw [z1, z2]; rfl)
       go_wp2_with fail
       go_roundw
       case rel => exact ⟨4 + 1, by omega, by go_num, HG2, HX⟩
       case measure => simp [intOf]
    ·have HC : Hid (¬ (Pl.cbad s1 || Pl.cbad s2 || Pl.cbad s5 || Pl.cbad s6 || Pl.cbad s7) = true) := Lh (by
      have g0 := HG.out 0 (by omega)
      have g1 := HG.out 1 (by omega)
      have g2 := HG.out 2 (by omega)
      have g3 := HG.out 3 (by omega)
      have g4 := HG.out 4 (by omega)
      simp only [List.getD_cons_zero, List.getD_cons_succ] at g0 g1 g2 g3 g4
      rw [g0, g1, g2, g3, g4]; decide)
     by_cases e : s3 < 0
     ·have z4 : decide (s3 < 0) = true := dTt e
      have HE : Hid (R = 9) := Lh (by rw [HR.out, if_neg HS.out, if_neg HC.out, if_pos (by omega)])
      go_wp2_with fail
      go_ret
      rw [HE.out]
      exact ⟨rfl, grows⟩
     ·have z4 : decide (s3 < 0) = false := dF e
      by_cases e : 4096 < s3
      ·have z3 : decide (4096 < s3) = true := dTt e
       have HE : Hid (R = 9) := Lh (by rw [HR.out, if_neg HS.out, if_neg HC.out, if_pos (by omega)])
       go_wp2_with fail
       go_ret
       rw [HE.out]
       exact ⟨rfl, grows⟩
      ·have z3 : decide (4096 < s3) = false := dF e
       by_cases e : s4 < 0
       ·have z2 : decide (s4 < 0) = true := dTt e
        have HE : Hid (R = 9) := Lh (by rw [HR.out, if_neg HS.out, if_neg HC.out, if_pos (by omega)])
        go_wp2_with fail
        go_ret
        rw [HE.out]
        exact ⟨rfl, grows⟩
       ·have z2 : decide (s4 < 0) = false := dF e
        by_cases e : 4096 < s4
        ·have z1 : decide (4096 < s4) = true := dTt e
         have HE : Hid (R = 9) := Lh (by rw [HR.out, if_neg HS.out, if_neg HC.out, if_pos (by omega)])
         go_wp2_with fail
         go_ret
         rw [HE.out]
         exact ⟨rfl, grows⟩
        ·have z1 : decide (4096 < s4) = false := dF e
         have HE : Hid (R = 0) := Lh (by rw [HR.out, if_neg HS.out, if_neg HC.out, if_neg (by omega)])
         go_wp2_with fail
         go_ret
         rw [HE.out]
         exact ⟨rfl, grows⟩
theorem within_any (u : Pl.Us) (C : Pl.Chip) (W : World) : Calls Tryz.prog 18 #[.agg #[.int .i64 u.t, .int .i64 u.g, .int .i64 u.r, .int .i64 u.c], .agg (Pl.chL C).toArray] W (Rets W (.bool (Pl.wiU C u))) := by
 have HRF : Hid (∀ w, Calls Tryz.prog 33 #[.agg #[.int .i64 u.r, .int .i64 u.c], .agg (Pl.chL C).toArray] w (fun e w' => e = .returned (.bool (decide (u.r ≤ C.r) && decide (u.c ≤ C.c))) ∧ Ext w w')) := Lh (fun w => resfits_any u.r u.c C w)
 obtain ⟨x1, x2, x3, x4⟩ := u
 obtain ⟨s0, s1, s2, s3, s4, s5, s6, s7⟩ := C
 show Calls Tryz.prog 18 #[.agg #[.int .i64 x1, .int .i64 x2, .int .i64 x3, .int .i64 x4], .agg (Yq7 s0 s1 s2 s3 s4 s5 s6 s7)] W _
 unfold Pl.chL at HRF
 dsimp only at HRF
 obtain ⟨b, hb⟩ : ∃ b, b = (decide (x3 ≤ s3) && decide (x4 ≤ s4)) := ⟨_, rfl⟩
 rw [← hb] at HRF
 have hw : Pl.wiU ⟨s0, s1, s2, s3, s4, s5, s6, s7⟩ ⟨x1, x2, x3, x4⟩ = (decide (x1 ≤ s1) && (decide (x2 ≤ s2) && b)) := by rw [hb]; rfl
 rw [hw]
 clear hw hb
 have bx := aH W (.cells #[.int .i64 x1, .int .i64 x2, .int .i64 x3, .int .i64 x4] 75)
 have j0 := alw (cQ 0 bx)
 have j1 := alw (cQ 1 bx)
 have j2 := alw (cQ 2 bx)
 have j3 := alw (cQ 3 bx)
 clear bx
 have bx := aH (W.alloc (.cells #[.int .i64 x1, .int .i64 x2, .int .i64 x3, .int .i64 x4] 75)) (.cells (Yq7 s0 s1 s2 s3 s4 s5 s6 s7) 33)
 rw [szA] at bx
 have i0 := alw (cQ 0 bx)
 have i1 := alw (cQ 1 bx)
 have i2 := alw (cQ 2 bx)
 have i3 := alw (cQ 3 bx)
 have i4 := alw (cQ 4 bx)
 have i5 := alw (cQ 5 bx)
 have i6 := alw (cQ 6 bx)
 have i7 := alw (cQ 7 bx)
 clear bx
 by_cases h1 : x1 ≤ s1
 ·have z1 : decide (x1 ≤ s1) = true := dTt h1
  by_cases h2 : x2 ≤ s2
  ·have z2 : decide (x2 ≤ s2) = true := dTt h2
   go_enter Tryz.func18, Tryz.ntmps18
   go_wp2_with fail
   refine via (HRF.out _) fun w3 x3 s3 => ?_
   go_wp2_with fail
   go_ret
   exact ⟨by first | rfl | simp [z1, z2], grows⟩
  ·have z2 : decide (x2 ≤ s2) = false := dF h2
   go_enter Tryz.func18, Tryz.ntmps18
   go_wp2_with fail
   go_ret
   exact ⟨by first | rfl | simp [z1, z2], grows⟩
 ·have z1 : decide (x1 ≤ s1) = false := dF h1
  go_enter Tryz.func18, Tryz.ntmps18
  go_wp2_with fail
  go_ret
  exact ⟨by first | rfl | simp [z1], grows⟩
abbrev Yq12  : Array Value := #[.int .i64 0, .slice none 0 0, .int .i64 0, .int .i64 0, .slice none 0 0]
theorem infeas_any (er st : Int) (a : Option Addr) (m c : Nat) (W : World) : Calls Tryz.prog 11 #[.int .i64 er, .int .i64 st, .slice a m c] W (Rets W (.agg #[.int .i64 2, .slice none 0 0, .int .i64 st, .int .i64 er, .slice a m c])) := by
 have hrb := aH W (.cells (Yq12 ) 46)
 have HRB := Lh hrb
 clear hrb
 go_enter Tryz.func11, Tryz.ntmps11
 go_upto_region 1 with (fail)
 go_wp2_with (refine wpList_store_box rfl 46 (.tmp 6) (.tmp 10) rfl W.heap.size #[.int .i64 2, .slice none 0 0, .int .i64 st, .int .i64 er, .slice a m c] rfl rfl 46 (Yq12 ) HRB.out (by kernel_rfl) rfl (by simp [Value.oneCell']) ?_)
 intro w9 hm hb
 have q0 := cQ 0 hb
 have q1 := cQ 1 hb
 have q2 := cQ 2 hb
 have q3 := cQ 3 hb
 have q4 := cQ 4 hb
 go_wp2_with fail
 have HXF : Hid (Ext W w9) := Lh (Pl.mod_low (grows (a := W) (b := (W.alloc (.cells (Yq12 ) 46)))) hm (fun q hq => by omega))
 exact bodyPost_ret (v := .agg #[.int .i64 2, .slice none 0 0, .int .i64 st, .int .i64 er, .slice a m c]) (by simp [results, Tryz.results11, go_sem, q0, q1, q2, q3, q4]) rfl ⟨rfl, HXF.out⟩
namespace Pl
open Tj
def CoR (_ : World) (cs : List Value) (x : Int × Int) : Prop := cs = [.int .i64 x.1, .int .i64 x.2]
/-- a job in memory -/
def JobM (w : World) (F : FP) (C : Chip) (us : List Un) (g : Nat) : Prop := ∃ ua uc ca cc oa oc, w.heap[g]? = some (.cells #[.int .i64 C.S, .int .i64 C.t, .int .i64 C.g, .int .i64 C.r, .int .i64 C.c, .int .i64 C.c8, .int .i64 C.c16, .int .i64 C.c32, .slice ua us.length uc, .slice ca us.length cc, .slice oa us.length oc] 71 (0, 0)) ∧ Units w (.slice ua us.length uc) us ∧ Rows w 2 CoR (.slice ca us.length cc) (us.map (ucost F)) ∧ Dm w oa oc us.length (dep F us)
theorem JobM.ext {w w' : World} {F : FP} {C : Chip} {us : List Un} {g : Nat} (h : JobM w F C us g) (hx : Ext w w') : JobM w' F C us g := by
 obtain ⟨ua, uc, ca, cc, oa, oc, h1, h2, h3, h4⟩ := h
 exact ⟨ua, uc, ca, cc, oa, oc, hx.heap h1, h2.ext hx, Rows.ext (w' := w') h3 (fun _ _ h => h) hx, h4.ext hx⟩
theorem co_at {w : World} {ca : Option Addr} {n cc : Nat} {l : List (Int × Int)} (h : Rows w 2 CoR (.slice ca n cc) l) {k : Nat} {x : Int × Int} (hk : l[k]? = some x) : ∃ b o, ca = some ⟨b, o, none⟩ ∧ w.cell? ⟨b, o + k * 2, none⟩ = some (.int .i64 x.1) ∧ w.cell? ⟨b, o + k * 2 + 1, none⟩ = some (.int .i64 x.2) := by
 obtain ⟨b, o, e, _, h4⟩ := Rows.at h (by have := (List.getElem?_eq_some_iff.1 hk).1; omega)
 obtain ⟨cs, _, rfl, hc⟩ := h4 k x hk
 exact ⟨b, o, e, hc 0 _ rfl, hc 1 _ rfl⟩
theorem blk_bd {n s : Int} (hn : 0 ≤ n ∧ n ≤ 100000) (hs : 1 ≤ s ∧ s ≤ 10000) : 0 ≤ blk n s ∧ blk n s ≤ 200000 := by
 unfold blk
 rw [Int.tdiv_eq_ediv_of_nonneg (by omega)]
 have h1 : 0 ≤ (n + s - 1) / s := Int.ediv_nonneg (by omega) (by omega)
 have h2 : (n + s - 1) / s ≤ n + s - 1 := Int.ediv_le_self _ (by omega)
 omega
theorem ucost_bd {F : FP} (hB : Bd F) (u : Un) : (0 ≤ (ucost F u).1 ∧ (ucost F u).1 ≤ 200000) ∧ (0 ≤ (ucost F u).2 ∧ (ucost F u).2 ≤ 200000) := by
 unfold ucost
 split
 ·exact ⟨⟨Int.le_refl _, by show (0 : Int) ≤ 200000; decide⟩, ⟨Int.le_refl _, by show (0 : Int) ≤ 200000; decide⟩⟩
 ·unfold tcost
  cases hat : at? F.ts u.tb with
  | none => exact ⟨⟨Int.le_refl _, by show (0 : Int) ≤ 200000; decide⟩, ⟨Int.le_refl _, by show (0 : Int) ≤ 200000; decide⟩⟩
  | some x =>
   obtain ⟨_, _, hs1, hs2⟩ := tab_ks (hB.tE x (List.mem_of_getElem? (at_get hat).2.2))
   have hab : 0 ≤ abits F x ∧ abits F x ≤ 128 := abL_bd hB x.ac 0 (by omega)
   have htb := tbits_bd F u.tb
   have hm1 := mul_bd (x := x.sz) (a := 256) (y := tbits F u.tb + (8 + abits F x)) (b := 328) ⟨by omega, hs2⟩ (by omega)
   have hm2 := mul_bd (x := x.sz) (a := 256) (y := 8 + abits F x) (b := 136) ⟨by omega, hs2⟩ (by omega)
   have hm3 := mul_bd (x := x.sz) (a := 256) (y := tbits F u.tb) (b := 192) ⟨by omega, hs2⟩ (by omega)
   dsimp only
   split
   ·exact ⟨⟨Int.le_refl _, by show (0 : Int) ≤ 200000; decide⟩, ⟨Int.le_refl _, by show (0 : Int) ≤ 200000; decide⟩⟩
   ·split
    ·exact ⟨blk_bd (by omega) (by omega), ⟨Int.le_refl _, by show (0 : Int) ≤ 200000; decide⟩⟩
    ·exact ⟨blk_bd (by omega) (by omega), blk_bd (by omega) (by omega)⟩
/-- what a stage uses, within bounds -/
def UsB (k : Nat) (u : Us) : Prop := (0 ≤ u.t ∧ u.t ≤ k) ∧ (0 ≤ u.g ∧ u.g ≤ k) ∧ (0 ≤ u.r ∧ u.r ≤ MAXI) ∧ (0 ≤ u.c ∧ u.c ≤ MAXI)
theorem UsB.ad {F : FP} {us : List Un} {k : Nat} {u : Us} (h : UsB k u) (i : Nat) : UsB (k + 1) (adU F us u i) := by
 obtain ⟨h1, h2, h3, h4⟩ := h
 have g1 := sumr_ge (b := (ucost F (us.getD i un0)).1) h3.1 h3.2
 have g2 := sumr_ge (b := (ucost F (us.getD i un0)).2) h4.1 h4.2
 unfold adU
 split
 ·exact ⟨⟨h1.1, by show u.t ≤ ((k + 1 : Nat) : Int); omega⟩, ⟨by show 0 ≤ u.g + 1; omega, by show u.g + 1 ≤ ((k + 1 : Nat) : Int); omega⟩, g1.2, g2.2⟩
 ·exact ⟨⟨by show 0 ≤ u.t + 1; omega, by show u.t + 1 ≤ ((k + 1 : Nat) : Int); omega⟩, ⟨h2.1, by show u.g ≤ ((k + 1 : Nat) : Int); omega⟩, g1.2, g2.2⟩
theorem UsB.up {k m : Nat} {u : Us} (h : UsB k u) (hk : k ≤ m) : UsB m u := ⟨⟨h.1.1, by have := h.1.2; omega⟩, ⟨h.2.1.1, by have := h.2.1.2; omega⟩, h.2.2⟩
theorem usI_bd (F : FP) (C : Chip) (us : List Un) (s : Int) : ∀ (l : List Int) (i k : Nat) (u : Us), UsB k u → UsB (k + l.length) (usI (job F C us) l i s u)
 | [], _, _, _, h => h
 | x :: l, i, k, u, h => by
  unfold usI
  have e : k + (x :: l).length = (k + 1) + l.length := by rw [List.length_cons]; omega
  rw [e]
  refine usI_bd F C us s l (i + 1) (k + 1) _ ?_
  split
  ·exact h.ad i
  ·exact h.up (by omega)
theorem us_bd (F : FP) (C : Chip) (us : List Un) (l : List Int) (s : Int) : UsB l.length (Pl.us (job F C us) l s) := by
 have h := usI_bd F C us s l 0 0 ⟨0, 0, 0, 0⟩ ⟨⟨by decide, by decide⟩, ⟨by decide, by decide⟩, ⟨by decide, by decide⟩, ⟨by decide, by decide⟩⟩
 rw [Nat.zero_add] at h
 exact h
theorem fol_true {J : Job} {σ : List Int} {k : Nat} {s : Int} (h : ∀ i, i < k → folP J σ k s i = true) : fol J σ k s = true := List.all_eq_true.2 (fun i hi => h i (List.mem_range.1 hi))
theorem fol_false {J : Job} {σ : List Int} {k : Nat} {s : Int} {i : Nat} (hi : i < k) (h : folP J σ k s i = false) : fol J σ k s = false := by
 rw [Bool.eq_false_iff]
 intro e
 have := List.all_eq_true.1 e i (List.mem_range.2 hi)
 rw [h] at this; cases this
end Pl
theorem jfollows_any {W : World} {F : Tj.FP} {C : Pl.Chip} {us : List Pl.Un} {g rb k : Nat} {σ : List Int} (h : Pl.JobM W F C us g) (hs : Pl.RowB W rb σ) (hl : σ.length = us.length) (hk : k < us.length) (s : Int) (hn : us.length ≤ 1000) :
 Calls Tryz.prog 31 #[.pointer (some ⟨g, 0, none⟩), .slice (some ⟨rb, 0, none⟩) us.length us.length, .int .i64 k, .int .i64 s] W (Rets W (.bool (Pl.fol (Pl.job F C us) σ k s))) := by
 obtain ⟨ua, uc, ca, cc, oa, oc, hb, _, _, hd⟩ := h
 have b10 := alw (cQ 10 hb)
 have HD := Lh hd
 have HS := Lh hs
 have hlt := lt_of_block hb
 obtain ⟨n, hnn⟩ : ∃ n, n = us.length := ⟨_, rfl⟩
 rw [← hnn] at b10 HD hl hk hn ⊢
 clear hb hd hs hnn
 go_enter Tryz.func31, Tryz.ntmps31
 go_wp2_with fail
 go_loopw [15] (fun q wr => ∃ i : Nat, i ≤ k ∧ q = .int .i64 i ∧ Hid (∀ j, j < i → Pl.folP (Pl.job F C us) σ k s j = true) ∧ Hid (Ext W wr)) (fun q _ => k - (intOf q).toNat)
 case atStart => exact ⟨0, Nat.zero_le _, rfl, Lh (fun j hj => by omega), Lh (eR _)⟩
 case round =>
  obtain ⟨i, hi, rfl, HP, HX⟩ := hrel
  have sx : Step W wr := ⟨HX.out⟩
  by_cases hik : i < k
  ·have c0 := alw (HS.out.cell (a := i) (by omega))
   obtain ⟨db, dk, rb', ro, rc, rfl, e1, e2⟩ := HD.out.at (i := i) (j := k) (by omega) (by omega)
   have c1 := alw e1
   have c2 := alw e2
   have h012 := Pl.dep_012 F us i k
   obtain ⟨x, hx⟩ : ∃ x, x = σ.getD i 0 := ⟨_, rfl⟩
   obtain ⟨y, hy⟩ : ∃ y, y = Pl.dep F us i k := ⟨_, rfl⟩
   rw [← hx] at c0
   rw [← hy] at c2 h012
   have HF : Hid (Pl.folP (Pl.job F C us) σ k s i = if y = 2 then decide (x < s) else if y = 1 then decide (x ≤ s) else true) := Lh (by rw [hx, hy]; rfl)
   clear e1 e2 hx hy
   rcases h012 with rfl | rfl | rfl
   ·have HN : Hid (∀ j, j < i + 1 → Pl.folP (Pl.job F C us) σ k s j = true) := Lh (fun j hj => by
     rcases (show j < i ∨ j = i by omega) with h | rfl
     ·exact HP.out j h
     ·rw [HF.out]; rfl)
    go_wp2_with fail
    go_roundw
    case rel => exact ⟨i + 1, by omega, by go_num, HN, HX⟩
    case measure => simp [intOf]; omega
   ·by_cases hc : s < x
    ·have z1 : decide (s < x) = true := dTt hc
     have HE : Hid (Pl.fol (Pl.job F C us) σ k s = false) := Lh (Pl.fol_false hik (by rw [HF.out]; exact dF (by omega)))
     go_wp2_with fail
     go_ret
     rw [HE.out]
     exact ⟨rfl, grows⟩
    ·have z1 : decide (s < x) = false := dF hc
     have HN : Hid (∀ j, j < i + 1 → Pl.folP (Pl.job F C us) σ k s j = true) := Lh (fun j hj => by
      rcases (show j < i ∨ j = i by omega) with h | rfl
      ·exact HP.out j h
      ·rw [HF.out]; exact dTt (by omega))
     go_wp2_with fail
     go_roundw
     case rel => exact ⟨i + 1, by omega, by go_num, HN, HX⟩
     case measure => simp [intOf]; omega
   ·by_cases hc : s ≤ x
    ·have z1 : decide (s ≤ x) = true := dTt hc
     have HE : Hid (Pl.fol (Pl.job F C us) σ k s = false) := Lh (Pl.fol_false hik (by rw [HF.out]; exact dF (by omega)))
     go_wp2_with fail
     go_ret
     rw [HE.out]
     exact ⟨rfl, grows⟩
    ·have z1 : decide (s ≤ x) = false := dF hc
     have HN : Hid (∀ j, j < i + 1 → Pl.folP (Pl.job F C us) σ k s j = true) := Lh (fun j hj => by
      rcases (show j < i ∨ j = i by omega) with h | rfl
      ·exact HP.out j h
      ·rw [HF.out]; exact dTt (by omega))
     go_wp2_with fail
     go_roundw
     case rel => exact ⟨i + 1, by omega, by go_num, HN, HX⟩
     case measure => simp [intOf]; omega
  ·obtain rfl : i = k := by omega
   have HE : Hid (Pl.fol (Pl.job F C us) σ i s = true) := Lh (Pl.fol_true HP.out)
   go_wp2_with fail
   go_ret
   rw [HE.out]
   exact ⟨rfl, grows⟩
theorem zero_use (w : World) : (zeroValue 75).run Tryz.prog w = .ok (.agg #[.int .i64 0, .int .i64 0, .int .i64 0, .int .i64 0]) w := by kernel_rfl
theorem jadd_any {W : World} {F : Tj.FP} {C : Pl.Chip} {us : List Pl.Un} {g i : Nat} {u : Pl.Us} (hB : Pl.Bd F) (h : Pl.JobM W F C us g) (hu : Pl.UsB 1000000 u) (hi : i < us.length) (hn : us.length ≤ 1000) :
 Calls Tryz.prog 28 #[.pointer (some ⟨g, 0, none⟩), .agg #[.int .i64 u.t, .int .i64 u.g, .int .i64 u.r, .int .i64 u.c], .int .i64 i] W (Rets W (.agg #[.int .i64 (Pl.adU F us u i).t, .int .i64 (Pl.adU F us u i).g, .int .i64 (Pl.adU F us u i).r, .int .i64 (Pl.adU F us u i).c])) := by
 obtain ⟨ua, uc, ca, cc, oa, oc, hb, hun, hco, _⟩ := h
 have b8 := alw (cQ 8 hb)
 have b9 := alw (cQ 9 hb)
 have hlt := lt_of_block hb
 obtain ⟨x, hx⟩ : ∃ y, us[i]? = some y := ⟨_, gE hi⟩
 have hxd : us.getD i Pl.un0 = x := by rw [List.getD_eq_getElem?_getD, hx]; rfl
 obtain ⟨ub, uo, rfl, _, _⟩ := Rows.at hun (by omega)
 obtain ⟨_, _, _, _, _, _, g0, _, _⟩ := Pl.units_at hun i x hx rfl
 have y0 := alw g0
 obtain ⟨cb, co, rfl, e1, e2⟩ := Pl.co_at (k := i) (x := Pl.ucost F x) hco (by rw [List.getElem?_map, hx]; rfl)
 have y1 := alw e1
 have y2 := alw e2
 have hcb := Pl.ucost_bd hB x
 have had : Pl.adU F us u i = if x.tb < 0 then ⟨u.t, u.g + 1, Pl.sumr u.r (Pl.ucost F x).1, Pl.sumr u.c (Pl.ucost F x).2⟩ else ⟨u.t + 1, u.g, Pl.sumr u.r (Pl.ucost F x).1, Pl.sumr u.c (Pl.ucost F x).2⟩ := by unfold Pl.adU; rw [hxd]
 obtain ⟨v3, hv3⟩ : ∃ v, v = (Pl.ucost F x).1 := ⟨_, rfl⟩
 obtain ⟨v4, hv4⟩ : ∃ v, v = (Pl.ucost F x).2 := ⟨_, rfl⟩
 rw [← hv3, ← hv4] at had hcb
 rw [← hv3] at y1
 rw [← hv4] at y2
 obtain ⟨⟨hv31, hv32⟩, hv41, hv42⟩ := hcb
 obtain ⟨tb, htb⟩ : ∃ v, v = x.tb := ⟨_, rfl⟩
 rw [← htb] at had y0
 obtain ⟨u1, u2, u3, u4⟩ := u
 dsimp only at had ⊢
 obtain ⟨hu1, hu2, hu3, hu4⟩ := hu
 dsimp only at hu1 hu2 hu3 hu4
 have HAD := Lh had
 have hz := zero_use
 clear had hv3 hv4 htb hxd hx hun hco g0 e1 e2 hb
 by_cases h1 : tb < 0
 ·have z1 : decide (tb < 0) = true := dTt h1
  have HE : Hid (Pl.adU F us ⟨u1, u2, u3, u4⟩ i = ⟨u1, u2 + 1, Pl.sumr u3 v3, Pl.sumr u4 v4⟩) := Lh (by rw [HAD.out, if_pos h1])
  clear HAD
  go_enter Tryz.func28, Tryz.ntmps28
  go_wp2_with fail
  have hbx := aH W (.cells #[.int .i64 u1, .int .i64 (u2 + 1), .int .i64 u3, .int .i64 u4] 75)
  have hrz := aH (W.alloc (.cells #[.int .i64 u1, .int .i64 (u2 + 1), .int .i64 u3, .int .i64 u4] 75)) (.cells #[.int .i64 0, .int .i64 0, .int .i64 0, .int .i64 0] 75)
  rw [szA] at hrz
  have hbx2 := ((eR (W.alloc (.cells #[.int .i64 u1, .int .i64 (u2 + 1), .int .i64 u3, .int .i64 u4] 75))).alloc (.cells #[.int .i64 0, .int .i64 0, .int .i64 0, .int .i64 0] 75)).heap hbx
  have HBX := Lh hbx2
  have HRZ := Lh hrz
  have x2 := alw (cQ 2 hbx2)
  have x3 := alw (cQ 3 hbx2)
  clear hbx hrz hbx2
  refine wp_region_later_tail (W := ((W.alloc (.cells #[.int .i64 u1, .int .i64 (u2 + 1), .int .i64 u3, .int .i64 u4] 75)).alloc (.cells #[.int .i64 0, .int .i64 0, .int .i64 0, .int .i64 0] 75))) 9 (by kernel_rfl) (by kernel_rfl) grows ?_
  simp only [tkS, tkZ, dpS, dpZ]
  repeat (go_big_quiet_step (fail))
  refine wpQuiet_nil ?_
  intro w5 hx5
  have s5 := Sm hx5
  have HX5 : Hid (Ext W w5) := Lh grows
  have HBX5 := Lh (hx5.heap HBX.out)
  have HRZ5 := Lh (hx5.heap HRZ.out)
  have hnw := aH w5 (.cells #[.int .i64 u3, .int .i64 u4, .int .i64 v3, .int .i64 v4] 73)
  have HS := Lh (sum2_any hnw (by unfold Pl.MAXI at hu3; omega) (by unfold Pl.MAXI at hu4; omega) (by omega) (by omega))
  clear hnw
  go_wp2_with fail
  refine HS.out.mono ?_
  rintro e w7 ⟨rfl, x7⟩
  have s7 := Sm x7
  have HBX7 := Lh ((grows (a := w5) (b := w7)).heap HBX5.out)
  have HRZ7 := Lh ((grows (a := w5) (b := w7)).heap HRZ5.out)
  have HX7 : Hid (Ext W w7) := Lh (HX5.out.trans (grows (a := w5) (b := w7)))
  go_wp2_with (refine wpList_store_two rfl 73 (.tmp 35) (.tmp 34) rfl W.heap.size (.int .i64 (Pl.sumr u3 v3)) (.int .i64 (Pl.sumr u4 v4)) rfl rfl 75 _ _ _ _ HBX7.out (by kernel_rfl) rfl rfl ?_)
  intro w8 hm8 hb8
  have HX8 : Hid (Ext W w8) := Lh (Pl.mod_low HX7.out hm8 (fun q hq => by omega))
  have HRZ8 := Lh (hm8.heap HRZ7.out (by omega))
  have d0 := alw (cQ 0 hb8)
  have d1 := alw (cQ 1 hb8)
  have d2 := alw (cQ 2 hb8)
  have d3 := alw (cQ 3 hb8)
  clear hm8 hb8
  go_upto_region 5 with (fail)
  go_wp2_with (refine wpList_store_box rfl 75 (.tmp 6) (.tmp 36) rfl (W.heap.size + 1) #[.int .i64 (u1), .int .i64 ((u2 + 1)), .int .i64 (Pl.sumr u3 v3), .int .i64 (Pl.sumr u4 v4)] rfl rfl 75 #[.int .i64 0, .int .i64 0, .int .i64 0, .int .i64 0] HRZ8.out (by kernel_rfl) rfl (by simp [Value.oneCell']) ?_)
  intro w9 hm hb
  have q0 := cQ 0 hb
  have q1 := cQ 1 hb
  have q2 := cQ 2 hb
  have q3 := cQ 3 hb
  go_wp2_with fail
  have HXF : Hid (Ext W w9) := Lh (Pl.mod_low HX8.out hm (fun q hq => by omega))
  exact bodyPost_ret (v := .agg #[.int .i64 (u1), .int .i64 ((u2 + 1)), .int .i64 (Pl.sumr u3 v3), .int .i64 (Pl.sumr u4 v4)]) (by simp [results, Tryz.results28, go_sem, q0, q1, q2, q3]) rfl ⟨by rw [HE.out], HXF.out⟩
 ·have z1 : decide (tb < 0) = false := dF h1
  have HE : Hid (Pl.adU F us ⟨u1, u2, u3, u4⟩ i = ⟨u1 + 1, u2, Pl.sumr u3 v3, Pl.sumr u4 v4⟩) := Lh (by rw [HAD.out, if_neg h1])
  clear HAD
  go_enter Tryz.func28, Tryz.ntmps28
  go_wp2_with fail
  have hbx := aH W (.cells #[.int .i64 (u1 + 1), .int .i64 u2, .int .i64 u3, .int .i64 u4] 75)
  have hrz := aH (W.alloc (.cells #[.int .i64 (u1 + 1), .int .i64 u2, .int .i64 u3, .int .i64 u4] 75)) (.cells #[.int .i64 0, .int .i64 0, .int .i64 0, .int .i64 0] 75)
  rw [szA] at hrz
  have hbx2 := ((eR (W.alloc (.cells #[.int .i64 (u1 + 1), .int .i64 u2, .int .i64 u3, .int .i64 u4] 75))).alloc (.cells #[.int .i64 0, .int .i64 0, .int .i64 0, .int .i64 0] 75)).heap hbx
  have HBX := Lh hbx2
  have HRZ := Lh hrz
  have x2 := alw (cQ 2 hbx2)
  have x3 := alw (cQ 3 hbx2)
  clear hbx hrz hbx2
  refine wp_region_later_tail (W := ((W.alloc (.cells #[.int .i64 (u1 + 1), .int .i64 u2, .int .i64 u3, .int .i64 u4] 75)).alloc (.cells #[.int .i64 0, .int .i64 0, .int .i64 0, .int .i64 0] 75))) 9 (by kernel_rfl) (by kernel_rfl) grows ?_
  simp only [tkS, tkZ, dpS, dpZ]
  repeat (go_big_quiet_step (fail))
  refine wpQuiet_nil ?_
  intro w5 hx5
  have s5 := Sm hx5
  have HX5 : Hid (Ext W w5) := Lh grows
  have HBX5 := Lh (hx5.heap HBX.out)
  have HRZ5 := Lh (hx5.heap HRZ.out)
  have hnw := aH w5 (.cells #[.int .i64 u3, .int .i64 u4, .int .i64 v3, .int .i64 v4] 73)
  have HS := Lh (sum2_any hnw (by unfold Pl.MAXI at hu3; omega) (by unfold Pl.MAXI at hu4; omega) (by omega) (by omega))
  clear hnw
  go_wp2_with fail
  refine HS.out.mono ?_
  rintro e w7 ⟨rfl, x7⟩
  have s7 := Sm x7
  have HBX7 := Lh ((grows (a := w5) (b := w7)).heap HBX5.out)
  have HRZ7 := Lh ((grows (a := w5) (b := w7)).heap HRZ5.out)
  have HX7 : Hid (Ext W w7) := Lh (HX5.out.trans (grows (a := w5) (b := w7)))
  go_wp2_with (refine wpList_store_two rfl 73 (.tmp 35) (.tmp 34) rfl W.heap.size (.int .i64 (Pl.sumr u3 v3)) (.int .i64 (Pl.sumr u4 v4)) rfl rfl 75 _ _ _ _ HBX7.out (by kernel_rfl) rfl rfl ?_)
  intro w8 hm8 hb8
  have HX8 : Hid (Ext W w8) := Lh (Pl.mod_low HX7.out hm8 (fun q hq => by omega))
  have HRZ8 := Lh (hm8.heap HRZ7.out (by omega))
  have d0 := alw (cQ 0 hb8)
  have d1 := alw (cQ 1 hb8)
  have d2 := alw (cQ 2 hb8)
  have d3 := alw (cQ 3 hb8)
  clear hm8 hb8
  go_upto_region 5 with (fail)
  go_wp2_with (refine wpList_store_box rfl 75 (.tmp 6) (.tmp 36) rfl (W.heap.size + 1) #[.int .i64 ((u1 + 1)), .int .i64 (u2), .int .i64 (Pl.sumr u3 v3), .int .i64 (Pl.sumr u4 v4)] rfl rfl 75 #[.int .i64 0, .int .i64 0, .int .i64 0, .int .i64 0] HRZ8.out (by kernel_rfl) rfl (by simp [Value.oneCell']) ?_)
  intro w9 hm hb
  have q0 := cQ 0 hb
  have q1 := cQ 1 hb
  have q2 := cQ 2 hb
  have q3 := cQ 3 hb
  go_wp2_with fail
  have HXF : Hid (Ext W w9) := Lh (Pl.mod_low HX8.out hm (fun q hq => by omega))
  exact bodyPost_ret (v := .agg #[.int .i64 ((u1 + 1)), .int .i64 (u2), .int .i64 (Pl.sumr u3 v3), .int .i64 (Pl.sumr u4 v4)]) (by simp [results, Tryz.results28, go_sem, q0, q1, q2, q3]) rfl ⟨by rw [HE.out], HXF.out⟩
theorem jusage_any {W : World} {F : Tj.FP} {C : Pl.Chip} {us : List Pl.Un} {g c : Nat} {oa : Option Addr} {τ : List Int} (hB : Pl.Bd F) (h : Pl.JobM W F C us g) (hs : Ns .i64 W (.slice oa τ.length c) τ) (hl : τ.length ≤ us.length) (s : Int) (hn : us.length ≤ 1000) :
 Calls Tryz.prog 17 #[.pointer (some ⟨g, 0, none⟩), .slice oa τ.length c, .int .i64 s] W (Rets W (.agg #[.int .i64 (Pl.us (Pl.job F C us) τ s).t, .int .i64 (Pl.us (Pl.job F C us) τ s).g, .int .i64 (Pl.us (Pl.job F C us) τ s).r, .int .i64 (Pl.us (Pl.job F C us) τ s).c])) := by
 have HAD : Hid (∀ w, Ext W w → ∀ (u : Pl.Us), Pl.UsB 1000000 u → ∀ i : Nat, i < us.length → Calls Tryz.prog 28 #[.pointer (some ⟨g, 0, none⟩), .agg #[.int .i64 u.t, .int .i64 u.g, .int .i64 u.r, .int .i64 u.c], .int .i64 i] w (Rets w (.agg #[.int .i64 (Pl.adU F us u i).t, .int .i64 (Pl.adU F us u i).g, .int .i64 (Pl.adU F us u i).r, .int .i64 (Pl.adU F us u i).c]))) := Lh (fun w hx u hu i hi => jadd_any hB (h.ext hx) hu hi hn)
 have HS := Lh hs
 have hrb := aH W (.cells #[.int .i64 0, .int .i64 0, .int .i64 0, .int .i64 0] 75)
 have hrt := aH (W.alloc (.cells #[.int .i64 0, .int .i64 0, .int .i64 0, .int .i64 0] 75)) (.cells #[.int .i64 0, .int .i64 0, .int .i64 0, .int .i64 0] 75)
 rw [szA] at hrt
 have HI0 : Hid (Ext W ((W.alloc (.cells #[.int .i64 0, .int .i64 0, .int .i64 0, .int .i64 0] 75)).alloc (.cells #[.int .i64 0, .int .i64 0, .int .i64 0, .int .i64 0] 75)) ∧ ((W.alloc (.cells #[.int .i64 0, .int .i64 0, .int .i64 0, .int .i64 0] 75)).alloc (.cells #[.int .i64 0, .int .i64 0, .int .i64 0, .int .i64 0] 75)).heap[W.heap.size + 1]? = some (.cells #[.int .i64 (Pl.us (Pl.job F C us) (τ.take 0) s).t, .int .i64 (Pl.us (Pl.job F C us) (τ.take 0) s).g, .int .i64 (Pl.us (Pl.job F C us) (τ.take 0) s).r, .int .i64 (Pl.us (Pl.job F C us) (τ.take 0) s).c] 75 (0, 0)) ∧ ((W.alloc (.cells #[.int .i64 0, .int .i64 0, .int .i64 0, .int .i64 0] 75)).alloc (.cells #[.int .i64 0, .int .i64 0, .int .i64 0, .int .i64 0] 75)).heap[W.heap.size]? = some (.cells #[.int .i64 0, .int .i64 0, .int .i64 0, .int .i64 0] 75 (0, 0))) := Lh ⟨grows, hrt, ((eR (W.alloc (.cells #[.int .i64 0, .int .i64 0, .int .i64 0, .int .i64 0] 75))).alloc _).heap hrb⟩
 have hz := zero_use
 clear hs h hrb hrt hB
 go_enter Tryz.func17, Tryz.ntmps17
 go_wp2_with fail
 go_loopw [12] (fun q wr => ∃ i : Nat, i ≤ τ.length ∧ q = .int .i64 i ∧ Hid (Ext W wr ∧ wr.heap[W.heap.size + 1]? = some (.cells #[.int .i64 (Pl.us (Pl.job F C us) (τ.take i) s).t, .int .i64 (Pl.us (Pl.job F C us) (τ.take i) s).g, .int .i64 (Pl.us (Pl.job F C us) (τ.take i) s).r, .int .i64 (Pl.us (Pl.job F C us) (τ.take i) s).c] 75 (0, 0)) ∧ wr.heap[W.heap.size]? = some (.cells #[.int .i64 0, .int .i64 0, .int .i64 0, .int .i64 0] 75 (0, 0)))) (fun q _ => τ.length - (intOf q).toNat)
 case atStart => exact ⟨0, Nat.zero_le _, rfl, HI0⟩
 case round =>
  clear HI0
  obtain ⟨i, hi, rfl, HI⟩ := hrel
  have sx : Step W wr := ⟨HI.out.1⟩
  by_cases hik : i < τ.length
  ·obtain ⟨x, hx⟩ : ∃ x, τ[i]? = some x := ⟨_, gE hik⟩
   obtain ⟨b, o, rfl, hc⟩ := ns_at HS.out (by omega)
   have cx := hc i x hx
   have hst := Pl.us_step (J := (Pl.job F C us)) τ i hik s
   rw [show τ.getD i 0 = x by rw [List.getD_eq_getElem?_getD, hx]; rfl] at hst
   have hub := (Pl.us_bd F C us (τ.take i) s).up (m := 1000000) (by rw [List.length_take]; omega)
   have HST := Lh hst
   have HUB := Lh hub
   clear hst hub hx hc
   by_cases he : x = s
   ·subst he
    obtain ⟨v, hv⟩ : ∃ v, v = Pl.us (Pl.job F C us) (τ.take i) x := ⟨_, rfl⟩
    rw [if_pos rfl, ← hv] at HST
    rw [← hv] at HUB HI
    clear hv
    have HC := Lh (HAD.out wr HI.out.1 v HUB.out i (by omega))
    obtain ⟨v1, v2, v3, v4⟩ := v
    obtain ⟨⟨r1, r2, r3, r4⟩, hr⟩ : ∃ r, r = Pl.adU F us ⟨v1, v2, v3, v4⟩ i := ⟨_, rfl⟩
    rw [← hr] at HC
    dsimp only at HC HI
    have HR : Hid (Pl.us (Pl.job F C us) (τ.take (i + 1)) x = ⟨r1, r2, r3, r4⟩) := Lh (by rw [HST.out, hr]; rfl)
    have d0 := alw (cQ 0 HI.out.2.1)
    have d1 := alw (cQ 1 HI.out.2.1)
    have d2 := alw (cQ 2 HI.out.2.1)
    have d3 := alw (cQ 3 HI.out.2.1)
    clear hr HST HUB
    go_wp2_with fail
    refine HC.out.mono ?_
    rintro e w7 ⟨rfl, x7⟩
    have hbx := x7.heap HI.out.2.1
    have hrz := x7.heap HI.out.2.2
    have HX7 : Hid (Ext W w7) := Lh (HI.out.1.trans x7)
    have HRZ := Lh hrz
    clear hrz x7
    go_wp2_with (refine wpList_store_box rfl 75 (.tmp 7) (.tmp 23) rfl (W.heap.size + 1) #[.int .i64 r1, .int .i64 r2, .int .i64 r3, .int .i64 r4] rfl rfl 75 _ hbx (by kernel_rfl) rfl (by simp [Value.oneCell']) ?_)
    intro w8 hm hb
    have HN : Hid (Ext W w8 ∧ w8.heap[W.heap.size + 1]? = some (.cells #[.int .i64 (Pl.us (Pl.job F C us) (τ.take (i + 1)) x).t, .int .i64 (Pl.us (Pl.job F C us) (τ.take (i + 1)) x).g, .int .i64 (Pl.us (Pl.job F C us) (τ.take (i + 1)) x).r, .int .i64 (Pl.us (Pl.job F C us) (τ.take (i + 1)) x).c] 75 (0, 0)) ∧ w8.heap[W.heap.size]? = some (.cells #[.int .i64 0, .int .i64 0, .int .i64 0, .int .i64 0] 75 (0, 0))) := Lh (by
     rw [HR.out]
     exact ⟨Pl.mod_low HX7.out hm (fun q hq => by omega), hb, hm.heap HRZ.out (by omega)⟩)
    clear hm hb hbx HRZ HX7
    go_wp2_with fail
    go_roundw
    case rel => exact ⟨i + 1, by omega, by go_num, HN⟩
    case measure => simp [intOf]; omega
   ·have z1 : (x == s) = false := bF he
    have HN : Hid (Ext W wr ∧ wr.heap[W.heap.size + 1]? = some (.cells #[.int .i64 (Pl.us (Pl.job F C us) (τ.take (i + 1)) s).t, .int .i64 (Pl.us (Pl.job F C us) (τ.take (i + 1)) s).g, .int .i64 (Pl.us (Pl.job F C us) (τ.take (i + 1)) s).r, .int .i64 (Pl.us (Pl.job F C us) (τ.take (i + 1)) s).c] 75 (0, 0)) ∧ wr.heap[W.heap.size]? = some (.cells #[.int .i64 0, .int .i64 0, .int .i64 0, .int .i64 0] 75 (0, 0))) := Lh (by
     rw [HST.out, if_neg he]; exact HI.out)
    clear HST HUB
    go_wp2_with fail
    go_roundw
    case rel => exact ⟨i + 1, by omega, by go_num, HN⟩
    case measure => simp [intOf]; omega
  ·obtain rfl : i = τ.length := by omega
   rw [List.take_length] at HI
   obtain ⟨⟨r1, r2, r3, r4⟩, hr⟩ : ∃ r, r = Pl.us (Pl.job F C us) τ s := ⟨_, rfl⟩
   rw [← hr] at HI
   dsimp only at HI
   have HR := Lh hr
   have d0 := alw (cQ 0 HI.out.2.1)
   have d1 := alw (cQ 1 HI.out.2.1)
   have d2 := alw (cQ 2 HI.out.2.1)
   have d3 := alw (cQ 3 HI.out.2.1)
   clear hr
   go_upto_region 8 with (fail)
   go_wp2_with (refine wpList_store_box rfl 75 (.tmp 6) (.tmp 25) rfl W.heap.size #[.int .i64 r1, .int .i64 r2, .int .i64 r3, .int .i64 r4] rfl rfl 75 _ HI.out.2.2 (by kernel_rfl) rfl (by simp [Value.oneCell']) ?_)
   intro w9 hm hb
   have q0 := cQ 0 hb
   have q1 := cQ 1 hb
   have q2 := cQ 2 hb
   have q3 := cQ 3 hb
   go_wp2_with fail
   have HXF : Hid (Ext W w9) := Lh (Pl.mod_low HI.out.1 hm (fun q hq => by omega))
   exact bodyPost_ret (v := .agg #[.int .i64 r1, .int .i64 r2, .int .i64 r3, .int .i64 r4]) (by simp [results, Tryz.results17, go_sem, q0, q1, q2, q3]) rfl ⟨by rw [← HR.out], HXF.out⟩
end Go.Proofs.YtkiafiaodockbaaGreat
