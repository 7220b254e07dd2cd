/- The laws of layer 1, walked: the matches and the prefixes. No condition. -/
import Derived.Test.YtpcoikgbpdedcaaBvL
namespace Go.Proofs.Ytpcoikgbpdedcaa
open Go.RowKit

theorem args4 {W : World} {v : Value} {base : Nat} {r : Reach} (ok : Value.okWide Try.prog W r base 36 v) {H : Type} {enc : TypeId × Value → H} {d : DataW H} {ps : List MemPlace} (h : DataW.Trod enc Try.prog W 0 (fun _ => true) true 36 v d ps) :
    ∃ a b n w : Int, v = .agg #[.int .u32 a, .int .u32 b, .int .i64 n, .int .i64 w] ∧ (Lit.int .u32 a).wf = true ∧ (Lit.int .u32 b).wf = true ∧ (Lit.int .i64 n).wf = true ∧ (Lit.int .i64 w).wf = true := by
  have hc : Try.prog.cellsOf 36 = 4 := by kernel_rfl
  have h3 : Try.prog.cellsOf 3 = 1 := by kernel_rfl
  have h22 : Try.prog.cellsOf 22 = 1 := by kernel_rfl
  obtain ⟨l, rfl, hl⟩ := ok_struct Try.underlying36 ok
  rw [hc] at hl
  obtain ⟨_, hr⟩ := Rd.struct Try.underlying36 (Rd.of h)
  match l, hl with
  | [c0, c1, c2, c3], _ =>
    have r0 := hr 0 _ rfl
    have r1 := hr 1 _ rfl
    have r2 := hr 2 _ rfl
    have r3 := hr 3 _ rfl
    simp [Value.cells, h3, h22] at r0 r1 r2 r3
    obtain ⟨a, ha, wa⟩ := Rd.int Try.underlying22 r0
    obtain ⟨b, hb, wb⟩ := Rd.int Try.underlying22 r1
    obtain ⟨n, hn, wn⟩ := Rd.int Try.underlying3 r2
    obtain ⟨w, hw, ww⟩ := Rd.int Try.underlying3 r3
    simp at ha hb hn hw
    subst ha; subst hb; subst hn; subst hw
    exact ⟨a, b, n, w, rfl, wa, wb, wn, ww⟩

/-- what PrefixLen returns -/
theorem plen_or (m w : Int) : (∃ n : Nat, Bv.ok w = true ∧ n ≤ w ∧ Bv.pmask n w = m ∧ ∀ j : Nat, j < n → Bv.pmask j w ≠ m) ∨ (Bv.ok w = true → ∀ j : Nat, j ≤ w → Bv.pmask j w ≠ m) := by
  by_cases h : Bv.ok w = true
  · by_cases hx : ∃ n : Nat, n ≤ w ∧ Bv.pmask n w = m
    · left
      have key : ∀ k : Nat, (∃ n : Nat, n ≤ k ∧ (n ≤ w ∧ Bv.pmask n w = m)) → ∃ n : Nat, n ≤ w ∧ Bv.pmask n w = m ∧ ∀ j : Nat, j < n → Bv.pmask j w ≠ m := by
        intro k
        induction k with
        | zero => rintro ⟨n, h0, h1, h2⟩; exact ⟨n, h1, h2, fun j hj => by omega⟩
        | succ k ih =>
          rintro ⟨n, h0, h1, h2⟩
          by_cases hs : ∃ n' : Nat, n' ≤ k ∧ (n' ≤ w ∧ Bv.pmask n' w = m)
          · exact ih hs
          · exact ⟨n, h1, h2, fun j hj e => hs ⟨j, by omega, by omega, e⟩⟩
      obtain ⟨n, h1, h2⟩ := hx
      obtain ⟨n, h1, h2, h3⟩ := key n ⟨n, Nat.le_refl _, h1, h2⟩
      exact ⟨n, h, h1, h2, h3⟩
    · right; intro _ j hj e; exact hx ⟨j, hj, e⟩
  · right; intro h'; exact absurd h' h
theorem plen_same (m w : Int) : ∃ (n : Int) (o : Bool), (∀ W, Calls Try.prog 38 #[.int .u32 m, .int .i64 w] W (Rets W (.tuple #[.int .i64 n, .bool o]))) ∧
    ∀ W, Calls Try.prog 39 #[.int .u32 m, .int .i64 w] W fun e W' => e = .returned (.tuple #[.int .i64 n, .bool o]) ∧ W = W' := by
  rcases plen_or m w with ⟨n, h1, h2, h3, h4⟩ | h
  · exact ⟨n, true, fun W => plen_hit m w h1 n h2 h3 h4 W, fun W => rplen_hit m w h1 n h2 h3 h4 W⟩
  · exact ⟨0, false, fun W => plen_miss m w h W, fun W => rplen_miss m w h W⟩

set_option maxRecDepth 100000 in
theorem bitvecMatches_walk (v : Value) (W : World) {base : Nat} {r : Reach} {H : Type} {enc : TypeId × Value → H} {d : DataW H} {ps : List MemPlace}
    (ok : Value.okWide Try.prog W r base 36 v) (h : DataW.Trod enc Try.prog W 0 (fun _ => true) true 36 v d ps) :
    Calls Try.prog 6 #[v] W (Rets W (.bool true)) := by
  obtain ⟨a, b, n, w, rfl, wa, wb, wn, ww⟩ := args4 ok h
  have ba := bounds_u32 wa
  have bb := bounds_u32 wb
  have bn := bounds_i64 wn
  have bw := bounds_i64 ww
  clear ok h wa wb wn ww
  obtain ⟨pn, po, hp, hq⟩ := plen_same a w
  have HP := Lib.hid hp
  have HQ := Lib.hid hq
  clear hp hq
  obtain ⟨W1, hW1⟩ : ∃ W1, W1 = W.alloc (.cells #[.int .u32 a, .int .u32 b, .int .i64 n, .int .i64 w] 36) := ⟨_, rfl⟩
  have hx : Ext W W1 := by subst hW1; exact (Ext.refl W).alloc _
  have l0 := Later.cell (W := W1) (p := ⟨W.heap.size, 0, none⟩) (v := .int .u32 a) (by subst hW1; simp)
  have l1 := Later.cell (W := W1) (p := ⟨W.heap.size, 1, none⟩) (v := .int .u32 b) (by subst hW1; simp)
  have l2 := Later.cell (W := W1) (p := ⟨W.heap.size, 2, none⟩) (v := .int .i64 n) (by subst hW1; simp)
  have l3 := Later.cell (W := W1) (p := ⟨W.heap.size, 3, none⟩) (v := .int .i64 w) (by subst hW1; simp)
  have hW2 := hW1.symm
  clear hW1
  go_enter Try.func6, Try.ntmps6
  go_wp2_with fail
  refine wp_region_later (W := W1) (by kernel_rfl) (by kernel_rfl) (Ext.refl _) ?_
  simp only [List.append_eq, List.cons_append, List.nil_append]
  repeat (go_big_quiet_step (first
      | (go_at_call 16; exact Rets.later_at (mask_any _ _))
      | (go_at_call 23; exact Rets.later_eq (rmask_any _ _))
      | (go_at_call 22; exact Rets.later_at (fits_any _ _ _))
      | (go_at_call 24; exact Rets.later_eq (rfits_any _ _ (by omega) (by omega) _))
      | (go_at_call 18; exact Rets.later_at (add_any _ _ _ _))
      | (go_at_call 25; exact Rets.later_eq (radd_any _ _ _ (by omega) (by omega) (by omega) (by omega) _))
      | (go_at_call 17; exact Rets.later_at (sub_any _ _ _ _))
      | (go_at_call 26; exact Rets.later_eq (rsub_any _ _ _ (by omega) (by omega) (by omega) (by omega) _))
      | (go_at_call 19; exact Rets.later_at (not_any _ _ (by omega) (by omega) _))
      | (go_at_call 27; exact Rets.later_eq (rnot_any _ _ (by omega) (by omega) _))
      | (go_at_call 28; exact Rets.later_at (shl_any _ _ _ _))
      | (go_at_call 29; exact Rets.later_eq (rshl_any _ _ _ (by omega) (by omega) _))
      | (go_at_call 30; exact Rets.later_at (shr_any _ _ _ (by omega) (by omega) _))
      | (go_at_call 31; exact Rets.later_eq (rshr_any _ _ _ (by omega) (by omega) _))
      | (go_at_call 21; exact Rets.later_at (slice_any _ _ _ (by omega) (by omega) _))
      | (go_at_call 32; exact Rets.later_eq (rslice_any _ _ _ (by omega) (by omega) _))
      | (go_at_call 33; exact Rets.later_at (ones_any _ (by omega) (by omega) _))
      | (go_at_call 34; exact Rets.later_eq (rones_any _ (by omega) (by omega) _))
      | (go_at_call 35; exact Rets.later_at (pmask_any _ _ _))
      | (go_at_call 36; exact Rets.later_eq (rpmask_any _ _ _))))
  refine wpQuiet_nil ?_
  intro w2 hx2
  clear hW2
  have m0 := l0 ⟨w2, hx2⟩
  have m1 := l1 ⟨w2, hx2⟩
  have m2 := l2 ⟨w2, hx2⟩
  have m3 := l3 ⟨w2, hx2⟩
  dsimp only at m0 m1 m2 m3
  clear l0 l1 l2 l3
  replace hx := hx.trans hx2
  clear hx2
  have l0 := Later.cell m0
  have l1 := Later.cell m1
  have l2 := Later.cell m2
  have l3 := Later.cell m3
  go_wp2_with fail
  refine wp_region_later (W := w2) (by kernel_rfl) (by kernel_rfl) (Ext.refl _) ?_
  simp only [List.append_eq, List.cons_append, List.nil_append]
  repeat (go_big_quiet_step (first
      | (go_at_call 16; exact Rets.later_at (mask_any _ _))
      | (go_at_call 23; exact Rets.later_eq (rmask_any _ _))
      | (go_at_call 22; exact Rets.later_at (fits_any _ _ _))
      | (go_at_call 24; exact Rets.later_eq (rfits_any _ _ (by omega) (by omega) _))
      | (go_at_call 18; exact Rets.later_at (add_any _ _ _ _))
      | (go_at_call 25; exact Rets.later_eq (radd_any _ _ _ (by omega) (by omega) (by omega) (by omega) _))
      | (go_at_call 17; exact Rets.later_at (sub_any _ _ _ _))
      | (go_at_call 26; exact Rets.later_eq (rsub_any _ _ _ (by omega) (by omega) (by omega) (by omega) _))
      | (go_at_call 19; exact Rets.later_at (not_any _ _ (by omega) (by omega) _))
      | (go_at_call 27; exact Rets.later_eq (rnot_any _ _ (by omega) (by omega) _))
      | (go_at_call 28; exact Rets.later_at (shl_any _ _ _ _))
      | (go_at_call 29; exact Rets.later_eq (rshl_any _ _ _ (by omega) (by omega) _))
      | (go_at_call 30; exact Rets.later_at (shr_any _ _ _ (by omega) (by omega) _))
      | (go_at_call 31; exact Rets.later_eq (rshr_any _ _ _ (by omega) (by omega) _))
      | (go_at_call 21; exact Rets.later_at (slice_any _ _ _ (by omega) (by omega) _))
      | (go_at_call 32; exact Rets.later_eq (rslice_any _ _ _ (by omega) (by omega) _))
      | (go_at_call 33; exact Rets.later_at (ones_any _ (by omega) (by omega) _))
      | (go_at_call 34; exact Rets.later_eq (rones_any _ (by omega) (by omega) _))
      | (go_at_call 35; exact Rets.later_at (pmask_any _ _ _))
      | (go_at_call 36; exact Rets.later_eq (rpmask_any _ _ _))))
  refine wpQuiet_nil ?_
  intro w3 hx2
  have n0 := l0 ⟨w3, hx2⟩
  have n1 := l1 ⟨w3, hx2⟩
  have n2 := l2 ⟨w3, hx2⟩
  have n3 := l3 ⟨w3, hx2⟩
  dsimp only at n0 n1 n2 n3
  clear l0 l1 l2 l3 m0 m1 m2 m3
  replace hx := hx.trans hx2
  clear hx2
  go_wp2_with fail
  refine (concat_any _ _ _ _ (by omega) (by omega) (by omega) (by omega) _).mono ?_
  rintro e w4 ⟨rfl, hy⟩
  have n0 := hy.cell n0
  have n1 := hy.cell n1
  have n2 := hy.cell n2
  have n3 := hy.cell n3
  replace hx := hx.trans hy
  clear hy
  go_wp2_with fail
  refine (rconcat_any _ _ _ _ (by omega) (by omega) (by omega) (by omega) _).mono ?_
  rintro e w5 ⟨rfl, rfl⟩
  go_wp2_with fail
  refine (HP.out _).mono ?_
  rintro e w5 ⟨rfl, hy⟩
  have n0 := hy.cell n0
  have n1 := hy.cell n1
  have n2 := hy.cell n2
  have n3 := hy.cell n3
  replace hx := hx.trans hy
  clear hy
  go_wp2_with fail
  refine (HQ.out _).mono ?_
  rintro e w6 ⟨rfl, rfl⟩
  go_wp2_with (go_at_call 15; refine (awake_any _).mono ?_; rintro e w1 ⟨rfl, hy⟩; replace hx := hx.trans hy; clear hy)
  go_ret
  exact ⟨rfl, hx⟩
end Go.Proofs.Ytpcoikgbpdedcaa
