/- The laws of layer 1, walked. No condition. -/
import Derived.Test.YtpcoikgbpdedcaaBvP
import Derived.Test.YtpcoikgbpdedcaaRead
namespace Go.Proofs.Ytpcoikgbpdedcaa
open Go.RowKit

/-- a slice of integers that came in -/
def IsRow (k : IntKind) (w : World) (a : Option Addr) (len cap : Nat) (zs : List Int) : Prop :=
  (a = none ∧ len = 0 ∧ cap = 0 ∧ zs = []) ∨
  ∃ x, a = some x ∧ len ≤ cap ∧ cap ≤ maxLen ∧ zs.length = cap ∧ (∀ i, i < zs.length → w.cell? (x.add i) = some (.int k (zs.getD i 0))) ∧ ∀ n ∈ zs, (Lit.int k n).wf = true

theorem wf_u32 {a : Int} (h : (Lit.int .u32 a).wf = true) : 0 ≤ a ∧ a < 4294967296 := by
  simp [Lit.wf, IntKind.min, IntKind.max, IntKind.bits, IntKind.signed] at h; omega

theorem bitvecInverts_walk (a b w : Int) (W : World) (wa : (Lit.int .u32 a).wf = true) (wb : (Lit.int .u32 b).wf = true) (_ww : (Lit.int .i64 w).wf = true) :
    Calls Try.prog 3 #[.int .u32 a, .int .u32 b, .int .i64 w] W (Rets W (.bool true)) := by
  have ba := wf_u32 wa
  have bb := wf_u32 wb
  clear wa wb _ww
  have hx := Ext.refl W
  by_cases h1 : w < 1
  · go_enter Try.func3, Try.ntmps3
    go_wp2_with (go_at_call 15; refine (awake_any _).mono ?_; rintro e w1 ⟨rfl, hy⟩; replace hx := hx.trans hy; clear hy)
    go_ret
    exact ⟨rfl, hx⟩
  · by_cases h2 : 32 < w
    · go_enter Try.func3, Try.ntmps3
      go_wp2_with (go_at_call 15; refine (awake_any _).mono ?_; rintro e w1 ⟨rfl, hy⟩; replace hx := hx.trans hy; clear hy)
      go_ret
      exact ⟨rfl, hx⟩
    · have e0 : bits .and .u32 a (Bv.mask w) = Bv.red a w := Bv.and_mask ba.1 ba.2
      have e1 := Bv.sub_add a b w
      have e2 := Bv.add_sub a b w
      have e3 := Bv.nt_nt a w
      have e4 := Bv.add_nt a w
      have b1 := Bv.nt_bd a w
      go_enter Try.func3, Try.ntmps3
      go_wp2_with (first
        | (go_at_call 16; refine (mask_any _ _).mono ?_; rintro e w1 ⟨rfl, hy⟩; replace hx := hx.trans hy; clear hy)
        | (go_at_call 18; refine (add_any _ _ _ _).mono ?_; rintro e w1 ⟨rfl, hy⟩; replace hx := hx.trans hy; clear hy)
        | (go_at_call 17; refine (sub_any _ _ _ _).mono ?_; rintro e w1 ⟨rfl, hy⟩; replace hx := hx.trans hy; clear hy)
        | (go_at_call 19; refine (not_any _ _ (by omega) (by omega) _).mono ?_; rintro e w1 ⟨rfl, hy⟩; replace hx := hx.trans hy; clear hy)
        | (go_at_call 15; refine (awake_any _).mono ?_; rintro e w1 ⟨rfl, hy⟩; replace hx := hx.trans hy; clear hy))
      go_ret
      exact ⟨rfl, hx⟩
theorem arr2 {W : World} {v : Value} {base : Nat} {r : Reach} (ok : Value.okWide Try.prog W r base 28 v) {H : Type} {enc : TypeId × Value → H} {d : DataW H} {ps : List MemPlace} (h : DataW.Trod enc Try.prog W 0 (fun _ => true) true 28 v d ps) :
    ∃ x y : Int, v = .agg #[.int .i64 x, .int .i64 y] ∧ (Lit.int .i64 x).wf = true ∧ (Lit.int .i64 y).wf = true := by
  have hc : Try.prog.cellsOf 28 = 2 := by kernel_rfl
  have hce : Try.prog.cellsOf 3 = 1 := by kernel_rfl
  obtain ⟨l, rfl, hl⟩ := ok_array Try.underlying28 ok
  rw [hc] at hl
  obtain ⟨_, hr⟩ := Rd.array Try.underlying28 (Rd.of h)
  rw [hce] at hr
  match l, hl with
  | [c0, c1], _ =>
    obtain ⟨x, hx, wx⟩ := Rd.int Try.underlying3 (hr 0 (by decide))
    obtain ⟨y, hy, wy⟩ := Rd.int Try.underlying3 (hr 1 (by decide))
    simp [Value.cells] at hx hy
    subst hx; subst hy
    exact ⟨x, y, rfl, wx, wy⟩

theorem bitvecSlices_walk (a lo : Int) (v : Value) (W : World) {base : Nat} {r : Reach} {H : Type} {enc : TypeId × Value → H} {d : DataW H} {ps : List MemPlace}
    (wa : (Lit.int .u32 a).wf = true) (wl : (Lit.int .i64 lo).wf = true) (ok : Value.okWide Try.prog W r base 28 v) (h : DataW.Trod enc Try.prog W 0 (fun _ => true) true 28 v d ps) :
    Calls Try.prog 4 #[.int .u32 a, .int .i64 lo, v] W (Rets W (.bool true)) := by
  obtain ⟨x, y, rfl, wx, wy⟩ := arr2 ok h
  have ba := bounds_u32 wa
  have bl := bounds_i64 wl
  have bx := bounds_i64 wx
  have by_ := bounds_i64 wy
  clear ok h wa wl wx wy
  obtain ⟨W1, hW1⟩ : ∃ W1, W1 = W.alloc (.cells #[.int .i64 x, .int .i64 y] 28) := ⟨_, rfl⟩
  have hx : Ext W W1 := by subst hW1; exact (Ext.refl W).alloc _
  have l0 := Later.cell (W := W1) (p := ⟨W.heap.size, 0, none⟩) (v := .int .i64 x) (by subst hW1; simp)
  have l1 := Later.cell (W := W1) (p := ⟨W.heap.size, 1, none⟩) (v := .int .i64 y) (by subst hW1; simp)
  have c0 := l0 ⟨W1, Ext.refl W1⟩
  have c1 := l1 ⟨W1, Ext.refl W1⟩
  dsimp only at c0 c1
  have hW2 := hW1.symm
  clear hW1
  go_enter Try.func4, Try.ntmps4
  go_wp2_with (go_at_call 15; refine (awake_any _).mono ?_; rintro e w1 ⟨rfl, hy⟩; replace hx := hx.trans hy; clear hy)
  all_goals (first | (go_ret; exact ⟨rfl, hx⟩) | skip)
  have s1 := Bv.slice_bd a (lo + y) x
  have s2 := Bv.slice_bd a lo y
  have hc : Bv.cok x y = true := Bv.cok_iff.2 ⟨⟨by omega, by omega⟩, ⟨by omega, by omega⟩, by omega⟩
  have he := Bv.cat_slices (a := a) (lo := lo) (v := x) (w := y) (by omega) (by omega) (by omega) (by omega)
  refine wp_region_later (W := W1) (by kernel_rfl) (by kernel_rfl) (Ext.refl _) ?_
  repeat (go_big_quiet_step (first
    | (go_at_call 21; exact Rets.later_at (slice_any _ _ _ (by omega) (by omega) _))
    | (go_at_call 20; exact Rets.later_at (concat_any _ _ _ _ (by omega) (by omega) (by omega) (by omega) _))))
  refine wpQuiet_nil ?_
  intro w2 hx2
  have d0 := l0 ⟨w2, hx2⟩
  have d1 := l1 ⟨w2, hx2⟩
  dsimp only at d0 d1
  replace hx := hx.trans hx2
  clear hx2 l0 l1 c0 c1 hW2
  go_wp2_with (first
    | (go_at_call 21; refine (slice_any _ _ _ (by omega) (by omega) _).mono ?_; rintro e w1 ⟨rfl, hy⟩; replace hx := hx.trans hy; clear hy)
    | (go_at_call 15; refine (awake_any _).mono ?_; rintro e w1 ⟨rfl, hy⟩; replace hx := hx.trans hy; clear hy))
  go_ret
  exact ⟨rfl, hx⟩

theorem bitvecConcats_walk (a b : Int) (v : Value) (W : World) {base : Nat} {r : Reach} {H : Type} {enc : TypeId × Value → H} {d : DataW H} {ps : List MemPlace}
    (wa : (Lit.int .u32 a).wf = true) (wb : (Lit.int .u32 b).wf = true) (ok : Value.okWide Try.prog W r base 28 v) (h : DataW.Trod enc Try.prog W 0 (fun _ => true) true 28 v d ps) :
    Calls Try.prog 5 #[.int .u32 a, .int .u32 b, v] W (Rets W (.bool true)) := by
  obtain ⟨x, y, rfl, wx, wy⟩ := arr2 ok h
  have ba := bounds_u32 wa
  have bb := bounds_u32 wb
  have bx := bounds_i64 wx
  have by_ := bounds_i64 wy
  clear ok h wa wb wx wy
  obtain ⟨W1, hW1⟩ : ∃ W1, W1 = W.alloc (.cells #[.int .i64 x, .int .i64 y] 28) := ⟨_, rfl⟩
  have hx : Ext W W1 := by subst hW1; exact (Ext.refl W).alloc _
  have l0 := Later.cell (W := W1) (p := ⟨W.heap.size, 0, none⟩) (v := .int .i64 x) (by subst hW1; simp)
  have l1 := Later.cell (W := W1) (p := ⟨W.heap.size, 1, none⟩) (v := .int .i64 y) (by subst hW1; simp)
  have c0 := l0 ⟨W1, Ext.refl W1⟩
  have c1 := l1 ⟨W1, Ext.refl W1⟩
  dsimp only at c0 c1
  have hW2 := hW1.symm
  clear hW1
  by_cases hm : (1 ≤ x ∧ x ≤ 31) ∧ 1 ≤ y ∧ y ≤ 32 - x
  · obtain ⟨⟨m1, m2⟩, m3, m4⟩ := hm
    have hc : Bv.cok x y = true := Bv.cok_iff.2 ⟨⟨by omega, by omega⟩, ⟨by omega, by omega⟩, by omega⟩
    have cb := Bv.concat_bd a x b y
    have e1 := Bv.cat_lo (a := a) (b := b) hc
    have e2 := Bv.cat_hi (a := a) (b := b) hc
    have e3 := Bv.cat_fits (a := a) (b := b) hc
    have e4 : bits .and .u32 b (Bv.mask y) = Bv.red b y := Bv.and_mask bb.1 (by omega)
    have e5 : bits .and .u32 a (Bv.mask x) = Bv.red a x := Bv.and_mask ba.1 (by omega)
    go_enter Try.func5, Try.ntmps5
    go_wp2_with fail
    refine (concat_any _ _ _ _ (by omega) (by omega) (by omega) (by omega) _).mono ?_
    rintro e w2 ⟨rfl, hx2⟩
    have d0 := l0 ⟨w2, hx2⟩
    have d1 := l1 ⟨w2, hx2⟩
    dsimp only at d0 d1
    clear l0 l1 c0 c1 hW2
    replace hx := hx.trans hx2
    clear hx2
    have l0 := Later.cell d0
    have l1 := Later.cell d1
    go_wp2_with fail
    refine wp_region_later (W := w2) (by kernel_rfl) (by kernel_rfl) (Ext.refl _) ?_
    repeat (go_big_quiet_step (first
      | (go_at_call 21; exact Rets.later_at (slice_any _ _ _ (by omega) (by omega) _))
      | (go_at_call 16; exact Rets.later_at (mask_any _ _))
      | (go_at_call 22; exact Rets.later_at (fits_any _ _ _))
      | (go_at_call 15; exact Rets.later_at (awake_any _))))
    refine wpQuiet_nil ?_
    intro w3 hx3
    go_wp2
    go_ret
    exact ⟨rfl, hx.trans hx3⟩
  · have hc : Bv.cok x y = false := by
      cases e : Bv.cok x y
      · rfl
      · exact absurd (Bv.cok_iff.1 e) (by omega)
    have e0 : Bv.concat a x b y = 0 := by unfold Bv.concat; rw [hc]; rfl
    go_enter Try.func5, Try.ntmps5
    go_wp2_with fail
    refine (concat_any _ _ _ _ (by omega) (by omega) (by omega) (by omega) _).mono ?_
    rintro e w2 ⟨rfl, hx2⟩
    have d0 := l0 ⟨w2, hx2⟩
    have d1 := l1 ⟨w2, hx2⟩
    dsimp only at d0 d1
    clear l0 l1 c0 c1 hW2
    replace hx := hx.trans hx2
    clear hx2
    go_wp2_with (go_at_call 15; refine (awake_any _).mono ?_; rintro e w1 ⟨rfl, hy⟩; replace hx := hx.trans hy; clear hy)
    all_goals first
      | (go_ret; exact ⟨rfl, hx⟩)
      | (exfalso; have h := ‹(!decide (y ≤ 32 - x)) = false›; simp at h; omega)
end Go.Proofs.Ytpcoikgbpdedcaa
