/- Registers: the law Runs: what a sequence of writes leaves. No program in sight. No condition. -/
import Derived.Test.YtnmamcplbeiehaaRg14
namespace Go.Proofs.Ytnmamcplbeiehaa
open Go.RowKit

namespace Rg
structure Acc where
  r : Int
  i : Int
  x : Int
def AccR (_ : World) (cs : List Value) (a : Acc) : Prop := cs = [.int .i64 a.r, .int .u32 a.i, .int .u32 a.x] ∧ B64 a.r ∧ U32 a.i ∧ U32 a.x
def Shape (rs : List Reg) (c : List (List Int)) : Prop := c.length = rs.length ∧ ∀ (k : Nat) (r : Reg) (l : List Int), rs[k]? = some r → c[k]? = some l → (l.length : Int) = r.s ∧ ∀ y ∈ l, 0 ≤ y ∧ y ≤ Bv.mask r.w
def Good (rs : List Reg) : Prop := ∀ r ∈ rs, chk r = 0
theorem getD_of {α : Type} {l : List α} {k : Nat} {x d : α} (h : l[k]? = some x) : l.getD k d = x := by rw [List.getD_eq_getElem?_getD, h]; rfl
theorem chk_ok {r : Reg} (h : chk r = 0) : Bv.ok r.w = true ∧ 1 ≤ r.s ∧ r.s ≤ 64 := by
  unfold chk at h
  cases h1 : Id.ok r.nm <;> rw [h1] at h
  · cases h
  · cases h2 : Bv.ok r.w <;> rw [h2] at h
    · cases h
    · cases h3 : szB r <;> rw [h3] at h
      · cases h
      · unfold szB at h3
        simp only [Bool.and_eq_true, decide_eq_true_eq] at h3
        exact ⟨rfl, h3⟩
theorem red_mask (x w : Int) : 0 ≤ Bv.red x w ∧ Bv.red x w ≤ Bv.mask w := by
  refine ⟨Bv.red_nonneg x w, ?_⟩
  unfold Bv.red Bv.mask
  split
  · have hp : (0 : Int) < Bv.pw w := Int.pow_pos (by decide)
    have := Int.emod_lt_of_pos x hp
    omega
  · exact Int.le_refl _
theorem red_zero (w : Int) : Bv.red 0 w = 0 := by unfold Bv.red; split <;> simp
theorem shape_new {rs : List Reg} (h : Good rs) : Shape rs (new rs) := by
  refine ⟨new_len rs, fun k r l hr hl => ?_⟩
  have h1 := new_at hr
  obtain rfl := Option.some.inj (h1.symm.trans hl)
  obtain ⟨h2, h3, h4⟩ := chk_ok (h r (List.mem_of_getElem? hr))
  unfold newR
  rw [if_pos (by unfold szB; simp; omega)]
  refine ⟨by simp; omega, fun y hy => ?_⟩
  obtain rfl := List.eq_of_mem_replicate hy
  exact ⟨Int.le_refl _, (Bv.mask_bd r.w).1⟩
theorem shape_write {rs : List Reg} {c : List (List Int)} (h : Shape rs c) (r i x : Int) (hi : 0 ≤ i) : Shape rs (write rs c r i x) := by
  cases hb : has rs c r i
  · rw [write_no hb]; exact h
  · obtain ⟨k, n, g, l, y, rfl, rfl, hg, hl, hy, _⟩ := has_get hb hi
    cases hk : Bv.ok g.w
    · rw [write_zero hg hk]; exact h
    · rw [write_yes hb hg hl hk]
      refine ⟨by rw [List.length_set]; exact h.1, fun j r' l' hr' hl' => ?_⟩
      by_cases hj : k = j
      · subst hj
        rw [List.getElem?_set_self (List.getElem?_eq_some_iff.1 hl).1] at hl'
        obtain rfl := Option.some.inj hl'
        obtain rfl := Option.some.inj (hg.symm.trans hr')
        obtain ⟨q1, q2⟩ := h.2 k g l hg hl
        refine ⟨by rw [List.length_set]; exact q1, fun z hz => ?_⟩
        rcases List.mem_or_eq_of_mem_set hz with hz | rfl
        · exact q2 z hz
        · exact red_mask x g.w
      · rw [List.getElem?_set_ne hj] at hl'
        exact h.2 j r' l' hr' hl'
theorem shape_at {rs : List Reg} {c : List (List Int)} (h : Shape rs c) {k : Nat} (hk : k < rs.length) : ∃ r l, rs[k]? = some r ∧ c[k]? = some l ∧ rs.getD k z = r ∧ c.getD k [] = l ∧ (l.length : Int) = r.s ∧ ∀ y ∈ l, 0 ≤ y ∧ y ≤ Bv.mask r.w := by
  have h1 := List.getElem?_eq_getElem hk
  have h2 : c[k]? = some (c[k]'(by rw [h.1]; exact hk)) := List.getElem?_eq_getElem _
  exact ⟨_, _, h1, h2, by rw [List.getD_eq_getElem?_getD, h1]; rfl, by rw [List.getD_eq_getElem?_getD, h2]; rfl, h.2 k _ _ h1 h2⟩
theorem cc_zero {rs : List Reg} {c : List (List Int)} (h : Shape rs c) : cc rs c = 0 := by
  unfold cc
  rw [if_pos h.1, show lensB rs c = true from all_yes (fun j hj => ?_), show fitsB rs c = true from all_yes (fun j hj => ?_)]
  · rfl
  · obtain ⟨r, l, _, _, e1, e2, _, e4⟩ := shape_at h (k := j) (by rw [← h.1]; exact hj)
    rw [e1, e2, fit_iff]; exact fun y hy => (e4 y hy).2
  · obtain ⟨r, l, _, _, e1, e2, e3, _⟩ := shape_at h (k := j) (by rw [← h.1]; exact hj)
    rw [e1, e2]; exact decide_eq_true e3
theorem shape_small {rs : List Reg} {c : List (List Int)} (h : Shape rs c) (hG : Good rs) (h8 : rs.length ≤ 8) : c.length ≤ 8 ∧ ∀ l ∈ c, l.length ≤ 1000 := by
  refine ⟨by rw [h.1]; exact h8, fun l hl => ?_⟩
  obtain ⟨k, hk, rfl⟩ := List.mem_iff_getElem.1 hl
  obtain ⟨r, l, e1, e2, _, _, e3, _⟩ := shape_at h (k := k) (by rw [← h.1]; exact hk)
  have h1 := chk_ok (hG r (List.mem_of_getElem? e1))
  rw [List.getElem?_eq_getElem hk] at e2
  obtain rfl := Option.some.inj e2
  omega
theorem has_yes {rs : List Reg} {c : List (List Int)} (h : Shape rs c) {k : Nat} {g : Reg} {i : Int} (hg : rs[k]? = some g) (hi : i < g.s) : has rs c k i = true := by
  obtain ⟨r, l, e1, e2, _, _, e3, _⟩ := shape_at h (List.getElem?_eq_some_iff.1 hg).1
  obtain rfl := Option.some.inj (hg.symm.trans e1)
  rw [has_in hg e2, decide_eq_true hi, decide_eq_true (by omega)]; rfl
theorem has_no {rs : List Reg} {c : List (List Int)} {r i : Int} (h : r < 0 ∨ (rs.length : Int) ≤ r ∨ ∃ (k : Nat) (g : Reg), r = k ∧ rs[k]? = some g ∧ g.s ≤ i) : has rs c r i = false := by
  rcases h with h | h | ⟨k, g, rfl, hg, hi⟩
  · exact has_out (.inl h)
  · exact has_out (.inr (.inl h))
  · cases hc : c[k]? with
    | none => exact has_out (.inr (.inr (by have := List.getElem?_eq_none_iff.1 hc; omega)))
    | some l => rw [has_in hg hc, decide_eq_false (by omega)]; rfl
/-- the cell r, i holds w, as far as its width goes -/
def Last (rs : List Reg) (c : List (List Int)) (r i w : Int) : Prop := ∀ (k n : Nat) (g : Reg), r = k → i = n → rs[k]? = some g → has rs c k n = true → (c.getD k []).getD n 0 = Bv.red w g.w
theorem last_new (rs : List Reg) (r i : Int) : Last rs (new rs) r i 0 := by
  intro k n g _ _ hg hb
  have h1 := new_at hg
  rw [red_zero, getD_of h1]
  unfold newR
  split
  · rw [List.getD_eq_getElem?_getD, List.getElem?_replicate]; split <;> rfl
  · rfl
theorem last_write {rs : List Reg} {c : List (List Int)} {r i w : Int} (hs : Shape rs c) (hG : Good rs) (h : Last rs c r i w) (a : Acc) (ha : 0 ≤ a.i) : Last rs (write rs c a.r a.i a.x) r i (if a.r = r ∧ a.i = i then a.x else w) := by
  intro k n g hr hi hg hb
  subst hr hi
  have hsw := shape_write hs a.r a.i a.x ha
  have hb0 : has rs c k n = true := by
    obtain ⟨r1, l1, e1, e2, _, _, e3, _⟩ := shape_at hsw (List.getElem?_eq_some_iff.1 hg).1
    obtain rfl := Option.some.inj (hg.symm.trans e1)
    rw [has_in hg e2] at hb
    simp only [Bool.and_eq_true, decide_eq_true_eq] at hb
    exact has_yes hs hg hb.1
  have h0 := h k n g rfl rfl hg hb0
  cases hc : has rs c a.r a.i
  · rw [write_no hc]
    rw [if_neg]
    · exact h0
    · rintro ⟨e1, e2⟩; rw [e1, e2, hb0] at hc; cases hc
  · obtain ⟨k', n', g', l, y, e1, e2, hg', hl, hy, _, _, _, hn', _⟩ := has_get hc ha
    rw [e1, e2] at hc ⊢
    have hk := (chk_ok (hG g' (List.mem_of_getElem? hg'))).1
    rw [write_yes hc hg' hl hk]
    have hkl := (List.getElem?_eq_some_iff.1 hl).1
    by_cases hkk : k' = k
    · subst hkk
      obtain rfl := Option.some.inj (hg.symm.trans hg')
      rw [getD_of (List.getElem?_set_self hkl)]
      by_cases hnn : n' = n
      · subst hnn
        rw [if_pos ⟨rfl, rfl⟩, getD_of (List.getElem?_set_self hn')]
      · rw [if_neg (by rintro ⟨_, e⟩; omega), List.getD_eq_getElem?_getD, List.getElem?_set_ne hnn, ← List.getD_eq_getElem?_getD]
        rw [getD_of hl] at h0
        exact h0
    · have e : (c.set k' (l.set n' (Bv.red a.x g'.w))).getD k [] = c.getD k [] := by
        rw [List.getD_eq_getElem?_getD, List.getElem?_set_ne hkk, ← List.getD_eq_getElem?_getD]
      rw [if_neg (by rintro ⟨e, _⟩; omega), e]
      exact h0
def cts (rs : List Reg) (l : List Acc) : List (List Int) := l.foldl (fun c a => write rs c a.r a.i a.x) (new rs)
def wnt (r i : Int) (l : List Acc) : Int := l.foldl (fun w a => if a.r = r ∧ a.i = i then a.x else w) 0
theorem cts_add {rs : List Reg} {l : List Acc} {k : Nat} {a : Acc} (h : l[k]? = some a) : cts rs (l.take (k + 1)) = write rs (cts rs (l.take k)) a.r a.i a.x := by
  unfold cts; rw [take_at h, List.foldl_append]; rfl
theorem wnt_add {r i : Int} {l : List Acc} {k : Nat} {a : Acc} (h : l[k]? = some a) : wnt r i (l.take (k + 1)) = if a.r = r ∧ a.i = i then a.x else wnt r i (l.take k) := by
  unfold wnt; rw [take_at h, List.foldl_append]; rfl
theorem run_inv {rs : List Reg} (hG : Good rs) (r i : Int) : ∀ (l : List Acc) (c : List (List Int)) (w : Int), (∀ a ∈ l, U32 a.i ∧ U32 a.x) → Shape rs c → Last rs c r i w → U32 w →
    Shape rs (l.foldl (fun c a => write rs c a.r a.i a.x) c) ∧ Last rs (l.foldl (fun c a => write rs c a.r a.i a.x) c) r i (l.foldl (fun w a => if a.r = r ∧ a.i = i then a.x else w) w) ∧ U32 (l.foldl (fun w a => if a.r = r ∧ a.i = i then a.x else w) w)
  | [], c, w, _, hs, hl, hu => ⟨hs, hl, hu⟩
  | a :: l, c, w, h, hs, hl, hu => by
    obtain ⟨h1, h2⟩ := h a (List.mem_cons_self ..)
    simp only [List.foldl_cons]
    refine run_inv hG r i l _ _ (fun b hb => h b (List.mem_cons_of_mem _ hb)) (shape_write hs _ _ _ h1.1) (last_write hs hG hl a h1.1) ?_
    split
    · exact h2
    · exact hu
theorem run_all {rs : List Reg} (hG : Good rs) (r i : Int) {l : List Acc} (h : ∀ a ∈ l, U32 a.i ∧ U32 a.x) : Shape rs (cts rs l) ∧ Last rs (cts rs l) r i (wnt r i l) ∧ U32 (wnt r i l) :=
  run_inv hG r i l _ _ h (shape_new hG) (last_new rs r i) ⟨by decide, by decide⟩
theorem wrap_pow {m : Nat} (h1 : 1 ≤ m) (h2 : m ≤ 32) : IntKind.u32.wrap (IntKind.u32.wrap (2 ^ m) - 1) = 2 ^ m - 1 := by
  rw [IntKind.wrap_u32', IntKind.wrap_u32']
  have hp : (2 : Int) ^ 1 ≤ 2 ^ m := by exact_mod_cast Nat.pow_le_pow_right (by decide) h1
  rcases Nat.lt_or_ge m 32 with h | h
  · have h3 : (2 : Int) ^ m ≤ 2 ^ 31 := by exact_mod_cast Nat.pow_le_pow_right (by decide) (show m ≤ 31 by omega)
    omega
  · obtain rfl : m = 32 := by omega
    decide
/-- the bits below the width agree -/
theorem low_bits {w : Nat} (h1 : 1 ≤ w) (h2 : w ≤ 32) {a : Int} (ha : U32 a) : bits .and .u32 (bits .xor .u32 (Bv.red a w) a) (Bv.mask w) = 0 := by
  obtain ⟨a0, a1⟩ := ha
  have hk : Bv.ok (w : Int) = true := Bv.ok_of (by omega) (by omega)
  have hb := Bv.red_bd a w
  obtain ⟨n, rfl⟩ := Int.eq_ofNat_of_zero_le a0
  have hr : Bv.red (n : Int) w = ((n % 2 ^ w : Nat) : Int) := by rw [red_pow hk, Int.toNat_natCast]; simp
  have hp : 2 ^ w ≤ 2 ^ 32 := Nat.pow_le_pow_right (by decide) h2
  have hm : n % 2 ^ w < 4294967296 := by have := Nat.mod_lt n (Nat.two_pow_pos w); omega
  have hx : (n % 2 ^ w) ^^^ n < 2 ^ 32 := Nat.xor_lt_two_pow (by omega) (by omega)
  rw [hr, u32_xor _ _ (by omega) (by omega) (by omega) a1, Int.toNat_natCast, Int.toNat_natCast, Bv.and_mask (by omega) (by omega), red_pow hk, Int.toNat_natCast]
  have h3 : ((n % 2 ^ w) ^^^ n) % 2 ^ w = 0 := by rw [Nat.xor_mod_two_pow, Nat.mod_mod, Nat.xor_self]
  exact_mod_cast h3
end Rg
theorem accs_at {w : World} {b o n c : Nat} {l : List Rg.Acc} {oa : Option Addr} (h : Rows w 3 Rg.AccR (.slice oa n c) l) (k : Nat) (a : Rg.Acc) (hk : l[k]? = some a) (hoa : oa = some ⟨b, o, none⟩) :
    (∀ w' [Grows w w'], w'.cell? ⟨b, o + k * 3, none⟩ = some (.int .i64 a.r)) ∧ (∀ w' [Grows w w'], w'.cell? ⟨b, o + k * 3 + 1, none⟩ = some (.int .u32 a.i)) ∧ (∀ w' [Grows w w'], w'.cell? ⟨b, o + k * 3 + 2, none⟩ = some (.int .u32 a.x)) ∧ Rg.B64 a.r ∧ U32 a.i ∧ U32 a.x := by
  have hlt := (List.getElem?_eq_some_iff.1 hk).1
  obtain ⟨b', o', hb, hn, hc⟩ := Rows.at h (by omega)
  rw [hb] at hoa
  simp only [Option.some.injEq, Addr.mk.injEq, and_true] at hoa
  obtain ⟨rfl, rfl⟩ := hoa
  obtain ⟨cs, _, ⟨rfl, h1, h2, h3⟩, hcs⟩ := hc k _ hk
  exact ⟨alw (hcs 0 _ rfl), alw (hcs 1 _ rfl), alw (hcs 2 _ rfl), h1, h2, h3⟩
theorem accs_all {w : World} {v : Value} {l : List Rg.Acc} (h : Rows w 3 Rg.AccR v l) : ∀ a ∈ l, U32 a.i ∧ U32 a.x := fun a ha => by
  obtain ⟨k, hk, rfl⟩ := List.mem_iff_getElem.1 ha
  rcases h with ⟨_, rfl⟩ | ⟨ad, c, rfl, _, _, _, h4⟩
  · simp at hk
  · obtain ⟨cs, _, ⟨_, _, h2, h3⟩, _⟩ := h4 k _ (List.getElem?_eq_getElem hk)
    exact ⟨h2, h3⟩
set_option maxRecDepth 100000 in
theorem accs_take {v : Value} {W : World} {H : Type} {enc : TypeId × Value → H} {d : DataW H} {ps : List MemPlace} {base : Nat} {r : Reach} (ok : Value.okWide Try.prog W r base 88 v)
    (h : DataW.Trod enc Try.prog W 0 (fun _ => true) true 88 v d ps) : ∃ l, Rows W 3 Rg.AccR v l := by
  obtain ⟨a, n, c, rfl⟩ := Go.WideShapes.okWide_slice Try.underlying88 ok
  have hrd := Rd.of h
  simp only [Value.cells, List.toList_toArray] at hrd
  obtain ⟨u, l, h1, h2⟩ := Rd.rows (R := Rg.AccR) Try.underlying88 (show Try.prog.cellsOf 84 = 3 by kernel_rfl) (by decide) (fun row hl hr => by
    obtain ⟨r, i, x, h1, h2⟩ := rd_acc hl hr
    exact ⟨⟨r, i, x⟩, h1, h2⟩) hrd
  simp at h1
  subst h1
  exact ⟨l, h2⟩
end Go.Proofs.Ytnmamcplbeiehaa
