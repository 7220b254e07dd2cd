/- The deparser's list: Check, its data; slices.Index and slices.Contains of ints, walked. No condition. -/
import Derived.Test.YtonnlcjkgpahoaaEv3
namespace Go.Proofs.Ytonnlcjkgpahoaa
open Go.RowKit

namespace Dp
/-- the k-th of the list is no header (8), or stands in the list before (7) -/
def bad (P : Pg.Prog) (k : Nat) : Int := if P.dp.getD k 0 < 0 ∨ (P.hs.length : Int) ≤ P.dp.getD k 0 then 8 else if (P.dp.take k).any (· == P.dp.getD k 0) then 7 else 0
def chk (P : Pg.Prog) : Int × Int :=
  if 8 < P.dp.length then (-1, 12) else match (List.range P.dp.length).find? (fun k => bad P k != 0) with
    | some k => ((k : Int), bad P k)
    | none => (0, 0)
theorem chk_many {P : Pg.Prog} (h : 8 < P.dp.length) : chk P = (-1, 12) := by unfold chk; rw [if_pos h]
theorem chk_some {P : Pg.Prog} {k : Nat} {x : Int} (h : ¬ 8 < P.dp.length) (hk : k < P.dp.length) (h0 : ∀ j, j < k → bad P j = 0) (hb : bad P k = x) (hx : x ≠ 0) : chk P = ((k : Int), x) := by
  have hf : (List.range P.dp.length).find? (fun k => bad P k != 0) = some k := by
    rw [List.find?_range_eq_some]
    refine ⟨by simp [hb, hx], List.mem_range.2 hk, fun j hj => by simp [h0 j hj]⟩
  unfold chk; rw [if_neg h, hf]; simp [hb]
theorem chk_none {P : Pg.Prog} (h : ¬ 8 < P.dp.length) (h0 : ∀ j, j < P.dp.length → bad P j = 0) : chk P = (0, 0) := by
  have hf : (List.range P.dp.length).find? (fun k => bad P k != 0) = none := by
    rw [List.find?_range_eq_none]
    intro j hj; simp [h0 j hj]
  unfold chk; rw [if_neg h, hf]
theorem chk_ok {P : Pg.Prog} (h : (chk P).2 = 0) : P.dp.length ≤ 8 ∧ ∀ j, j < P.dp.length → bad P j = 0 := by
  unfold chk at h
  by_cases h8 : 8 < P.dp.length
  · rw [if_pos h8] at h; simp at h
  · rw [if_neg h8] at h
    refine ⟨by omega, fun j hj => ?_⟩
    cases hf : (List.range P.dp.length).find? (fun k => bad P k != 0) with
    | some k =>
      rw [hf] at h
      have := List.find?_some hf
      simp at this h
      exact absurd h this
    | none =>
      rw [List.find?_range_eq_none] at hf
      simpa using hf j hj
theorem bad_idx {P : Pg.Prog} {k : Nat} {x : Int} (hk : P.dp[k]? = some x) (h : x < 0 ∨ (P.hs.length : Int) ≤ x) : bad P k = 8 := by
  unfold bad; rw [List.getD_eq_getElem?_getD, hk]; exact if_pos h
theorem bad_dup {P : Pg.Prog} {k : Nat} {x : Int} (hk : P.dp[k]? = some x) (h0 : 0 ≤ x) (h1 : x < P.hs.length) (h : (P.dp.take k).any (· == x) = true) : bad P k = 7 := by
  unfold bad; rw [List.getD_eq_getElem?_getD, hk]
  rw [if_neg (by simp; omega), if_pos (by simpa using h)]
theorem bad_no {P : Pg.Prog} {k : Nat} {x : Int} (hk : P.dp[k]? = some x) (h0 : 0 ≤ x) (h1 : x < P.hs.length) (h : (P.dp.take k).any (· == x) = false) : bad P k = 0 := by
  unfold bad; rw [List.getD_eq_getElem?_getD, hk]
  rw [if_neg (by simp; omega)]
  show (if (P.dp.take k).any (· == x) = true then (7 : Int) else 0) = 0
  rw [h]; rfl
theorem bad_zero {P : Pg.Prog} {k : Nat} (h : bad P k = 0) : 0 ≤ P.dp.getD k 0 ∧ P.dp.getD k 0 < P.hs.length := by
  unfold bad at h
  by_cases h1 : P.dp.getD k 0 < 0 ∨ (P.hs.length : Int) ≤ P.dp.getD k 0
  · rw [if_pos h1] at h; simp at h
  · omega
theorem any_take_no {l : List Int} {k : Nat} {x : Int} (h : ∀ j, j < k → (l.getD j 0 == x) = false) (hk : k ≤ l.length) : (l.take k).any (· == x) = false := by
  rw [← Bool.not_eq_true, List.any_eq_true]
  rintro ⟨y, hy, he⟩
  obtain ⟨j, hj, rfl⟩ := List.mem_iff_getElem.1 hy
  have hjk : j < k := by simp at hj; omega
  have := h j hjk
  rw [List.getD_eq_getElem?_getD, List.getElem?_eq_getElem (by omega)] at this
  simp at he this
  exact this he
theorem any_take_yes {l : List Int} {k j : Nat} {x : Int} (h : (l.getD j 0 == x) = true) (hj : j < k) (hk : k ≤ l.length) : (l.take k).any (· == x) = true := by
  rw [List.any_eq_true]
  refine ⟨l[j]'(by omega), ?_, ?_⟩
  · exact List.mem_take_iff_getElem.2 ⟨j, by omega, rfl⟩
  · rw [List.getD_eq_getElem?_getD, List.getElem?_eq_getElem (by omega)] at h
    simpa using h
end Dp

/-- the front of a list -/
theorem ns_take {k : IntKind} {w : World} {oa : Option Addr} {n c j : Nat} {l : List Int} (h : Ns k w (.slice oa n c) l) (hj : j ≤ l.length) (hl : 0 < l.length) : Ns k w (.slice oa j c) (l.take j) := by
  obtain ⟨⟨h1, h2, h3⟩, h4⟩ := h
  have hlen : (l.take j).length = j := by rw [List.length_take]; omega
  refine ⟨⟨by simp, fun u hu => h2 u ?_, ?_⟩, by omega⟩
  · rw [List.map_take] at hu; exact List.mem_of_mem_take hu
  · rcases h3 with ⟨_, h0⟩ | ⟨ad, c', he, hc⟩
    · omega
    · simp only [Value.slice.injEq] at he
      obtain ⟨rfl, _, rfl⟩ := he
      refine .inr ⟨ad, c, by rw [hlen], fun i u hi => hc i u ?_⟩
      rw [List.map_take, List.getElem?_take] at hi
      split at hi
      · exact hi
      · cases hi
set_option maxRecDepth 8000 in
theorem indexI_any {W : World} {v : Value} {l : List Int} (x : Int) (h : Ns .i64 W v l) :
    Calls Try.prog 68 #[v, .int .i64 x] W fun e W' => (∃ r : Int, e = .returned (.int .i64 r) ∧ (decide (0 ≤ r) = l.any (· == x))) ∧ W = W' := by
  obtain ⟨oa, c, rfl⟩ := ns_slice h
  have hm := h.2
  unfold maxLen at hm
  have H := Lib.hid h
  clear h
  go_enter Try.func68, Try.ntmps68
  go_wp2_with fail
  go_loop [8] (fun i => ∃ k : Nat, k ≤ l.length ∧ i = .int .i64 k ∧ Hid (∀ j, j < k → (l.getD j 0 == x) = false)) (fun i => l.length - (intOf i).toNat)
  case atStart => exact ⟨0, Nat.zero_le _, rfl, Lib.hid (by intro j hj; omega)⟩
  case round =>
    obtain ⟨k, hk, rfl, HZ⟩ := hrel
    by_cases hlt : k < l.length
    · obtain ⟨y, hy⟩ : ∃ x, l[k]? = some x := ⟨_, List.getElem?_eq_getElem hlt⟩
      obtain ⟨b, o, rfl, hc⟩ := ns_at H.out (by omega)
      have f1 := hc k y hy
      have hg : l.getD k 0 = y := by rw [List.getD_eq_getElem?_getD, hy]; rfl
      have HG := Lib.hid hg
      clear hc hy hg
      by_cases h0 : x = y
      · have h0b : (x == y) = true := by simp [h0]
        have H0 := Lib.hid h0
        clear h0
        go_wp2_with fail
        go_ret
        refine ⟨⟨_, rfl, ?_⟩, rfl⟩
        have hz : l.any (· == x) = true := by
          have := Dp.any_take_yes (l := l) (k := l.length) (j := k) (x := x) (by rw [HG.out, H0.out]; simp) hlt (Nat.le_refl _)
          rwa [List.take_length] at this
        rw [hz]; simp
      · have h0b : (x == y) = false := by simp [h0]
        have H0 := Lib.hid h0
        clear h0
        go_wp2_with fail
        go_round
        case rel =>
          refine ⟨k + 1, by omega, by go_num, Lib.hid (fun j hj => ?_)⟩
          rcases Nat.lt_or_ge j k with h1 | h1
          · exact HZ.out j h1
          · obtain rfl : j = k := by omega
            rw [HG.out]; simpa using fun h => H0.out h.symm
        case measure => simp [intOf]; omega
    · obtain rfl : k = l.length := by omega
      go_wp2_with fail
      go_ret
      refine ⟨⟨_, rfl, ?_⟩, rfl⟩
      have hz : l.any (· == x) = false := by
        have := Dp.any_take_no (l := l) (k := l.length) (x := x) HZ.out (Nat.le_refl _)
        rwa [List.take_length] at this
      rw [hz]; decide
set_option maxRecDepth 8000 in
theorem containsI_any {W : World} {v : Value} {l : List Int} (x : Int) (h : Ns .i64 W v l) :
    Calls Try.prog 43 #[v, .int .i64 x] W fun e W' => e = .returned (.bool (l.any (· == x))) ∧ W = W' := by
  obtain ⟨oa, c, rfl⟩ := ns_slice h
  have H := Lib.hid h
  clear h
  go_enter Try.func43, Try.ntmps43
  go_wp2_with fail
  refine (indexI_any x H.out).mono ?_
  rintro e w1 ⟨⟨r, rfl, hr⟩, rfl⟩
  have HR := Lib.hid hr
  clear hr
  go_wp2_with fail
  go_ret
  exact ⟨ret_bool HR.out, rfl⟩
end Go.Proofs.Ytonnlcjkgpahoaa
