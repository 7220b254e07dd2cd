/- Tries of prefixes: Get and Lookup of the reference, walked. No condition. -/
import Derived.Test.YteefchbpojcklaaLp11
namespace Go.Proofs.Yteefchbpojcklaa
open Go.RowKit

namespace Lp
open Tr
def getL (L : List Item) (w v : Nat) (n : Int) : Option Int := bif pfx w v n then (match fnd L (trunc w v n.toNat) n.toNat with | some i => (L[i]?).map (·.2.2) | none => none) else none
theorem getL_items {w : Nat} (t : Tr) (v : Nat) (n : Int) : getL (items w t 0 0) w v n = get t w v n := by
  unfold getL get
  cases hp : pfx w v n with
  | false => rfl
  | true =>
    obtain ⟨⟨h0, h1⟩, h2⟩ := pfx_iff.1 hp
    simp only [cond_true]
    rcases fnd_con (t := t) (v := v) (n := n.toNat) (w := w) (by omega) h2 with ⟨h3, h4⟩ | ⟨i, X, h3, h4, h5⟩
    · rw [h3, h4]
    · rw [h3, h5]; simp only [h4]; rfl
def lkL (L : List Item) (w key : Nat) : Nat → Option (Int × Nat)
  | 0 => none
  | n + 1 => match getL L w key n with
    | some x => some (x, n)
    | none => lkL L w key n
theorem lkL_items {w : Nat} (t : Tr) (key : Nat) : ∀ n, n ≤ w + 1 → lkL (items w t 0 0) w key n = bif decide (key < 2 ^ w) then lk w t key n else none
  | 0, _ => by cases decide (key < 2 ^ w) <;> rfl
  | n + 1, hn => by
    have ih := lkL_items (w := w) t key n (by omega)
    unfold lkL
    rw [getL_items]
    unfold get
    by_cases hk : key < 2 ^ w
    · rw [decide_eq_true hk] at ih ⊢
      rw [(pfx_iff (w := w) (v := key) (n := (n : Int))).2 ⟨⟨by omega, by omega⟩, hk⟩, Int.toNat_natCast]
      simp only [cond_true] at ih ⊢
      rw [ih]; rfl
    · rw [decide_eq_false hk] at ih ⊢
      have : pfx w key (n : Int) = false := by unfold pfx; rw [decide_eq_false hk, Bool.and_false]
      rw [this]
      simp only [cond_false] at ih ⊢
      exact ih
theorem look_items {w : Nat} (t : Tr) (key : Nat) : lkL (items w t 0 0) w key (w + 1) = look t w key := lkL_items t key (w + 1) (Nat.le_refl _)
theorem fndI_cases {L : List Item} {w v : Nat} {n : Int} : (fndI L w v n = -1 ∧ getL L w v n = none) ∨ (∃ i V N X, fndI L w v n = ((i : Nat) : Int) ∧ L[i]? = some (V, N, X) ∧ getL L w v n = some X) := by
  unfold fndI getL
  cases hp : pfx w v n with
  | false => exact .inl ⟨rfl, rfl⟩
  | true =>
    simp only [cond_true]
    cases hf : fnd L (trunc w v n.toNat) n.toNat with
    | none => exact .inl ⟨rfl, rfl⟩
    | some i =>
      obtain ⟨X, hX⟩ := fnd_some hf
      exact .inr ⟨i, _, _, X, rfl, hX, by simp [hX]⟩
end Lp
theorem items_ext {W W' : World} {v : Value} {L : List Lp.Item} (h : Rows W 3 ItemR v L) (hx : Ext W W') : Rows W' 3 ItemR v L := h.ext (fun cs d (k : ItemR W cs d) => (show ItemR W' cs d from k)) hx
set_option maxRecDepth 8000 in
theorem r9get_any {W : World} {w : Nat} (h1 : 1 ≤ w) (h2 : w ≤ 32) {la : Option Addr} {lc : Nat} {L : List Lp.Item} (hr : Rows W 3 ItemR (.slice la L.length lc) L) (v : Nat) (hv : v < 4294967296) (n : Int) :
    Calls Try.prog 13 #[.agg #[.int .i64 w, .slice la L.length lc], .int .u32 v, .int .i64 n] W (Rets W (.tuple #[.int .i64 (Lp.gv (Lp.getL L w v n)), .bool (Lp.getL L w v n).isSome])) := by
  have HF : Hid (∀ w', Ext W w' → Calls Try.prog 24 #[.agg #[.int .i64 w, .slice la L.length lc], .int .u32 v, .int .i64 n] w' (Rets w' (.int .i64 (Lp.fndI L w v n)))) := Lib.hid (fun w' hx => r9find_any h1 h2 (items_ext hr hx) v hv n)
  have HR := Lib.hid hr
  obtain ⟨_, _, he, hlc, hcm⟩ := hr.slice
  simp only [Value.slice.injEq, true_and] at he
  obtain ⟨rfl, rfl⟩ := he
  unfold maxLen at hcm
  have bb := alloc_heap W (.cells #[.int .i64 w, .slice la L.length lc] 32)
  have p0 := alw (cell_of (o := 0) bb)
  have p1 := alw (cell_of (o := 1) bb)
  clear bb hr
  rcases Lp.fndI_cases (L := L) (w := w) (v := v) (n := n) with ⟨e1, e2⟩ | ⟨i, V, N, X, e1, e2, e3⟩
  · rw [e1] at HF
    rw [e2]
    clear e1 e2
    go_enter Try.func13, Try.ntmps13
    go_wp2_with fail
    refine (HF.out _ grows).mono ?_
    rintro e w1 ⟨rfl, x1⟩
    have s1 := Step.mk x1
    clear x1
    go_wp2_with fail
    go_ret2
    exact ⟨rfl, grows⟩
  · rw [e1] at HF
    rw [e3]
    have hil : i < L.length := (List.getElem?_eq_some_iff.1 e2).1
    obtain ⟨b, o, rfl, _, hat⟩ := items_at HR.out (by omega)
    obtain ⟨_, _, q2⟩ := hat i V N X e2
    have q2 := alw q2
    clear hat e1 e2 e3
    go_enter Try.func13, Try.ntmps13
    go_wp2_with fail
    refine (HF.out _ grows).mono ?_
    rintro e w1 ⟨rfl, x1⟩
    have s1 := Step.mk x1
    clear x1
    go_wp2_with fail
    go_ret2
    exact ⟨rfl, grows⟩
set_option maxRecDepth 8000 in
theorem r9lookup_any {W : World} {w : Nat} (h1 : 1 ≤ w) (h2 : w ≤ 32) {la : Option Addr} {lc : Nat} {L : List Lp.Item} (hr : Rows W 3 ItemR (.slice la L.length lc) L) (v : Nat) (hv : v < 4294967296) :
    Calls Try.prog 32 #[.agg #[.int .i64 w, .slice la L.length lc], .int .u32 v] W (Rets W (.tuple #[.int .i64 (Lp.lkA (Lp.lkL L w v (w + 1))), .int .i64 (Lp.lkN (Lp.lkL L w v (w + 1))), .bool (Lp.lkL L w v (w + 1)).isSome])) := by
  have HG : Hid (∀ w' (n : Int), Ext W w' → Calls Try.prog 13 #[.agg #[.int .i64 w, .slice la L.length lc], .int .u32 v, .int .i64 n] w' (Rets w' (.tuple #[.int .i64 (Lp.gv (Lp.getL L w v n)), .bool (Lp.getL L w v n).isSome]))) := Lib.hid (fun w' n hx => r9get_any h1 h2 (items_ext hr hx) v hv n)
  have bb := alloc_heap W (.cells #[.int .i64 w, .slice la L.length lc] 32)
  have p0 := alw (cell_of (o := 0) bb)
  have p1 := alw (cell_of (o := 1) bb)
  clear bb hr
  obtain ⟨R, hR⟩ : ∃ R, R = Lp.lkL L w v (w + 1) := ⟨_, rfl⟩
  rw [← hR]
  have HRR := Lib.hid hR
  clear hR
  go_enter Try.func32, Try.ntmps32
  go_wp2_with fail
  go_loopw [7] (fun i wr => ∃ k : Nat, k ≤ w + 1 ∧ i = .int .i64 ((k : Int) - 1) ∧ Ext (W.alloc (.cells #[.int .i64 w, .slice la L.length lc] 32)) wr ∧ Hid (R = Lp.lkL L w v k)) (fun i _ => (intOf i + 1).toNat)
  case atStart => exact ⟨w + 1, Nat.le_refl _, by go_num, grows, HRR⟩
  case round =>
    obtain ⟨k, hk, rfl, hx, HK⟩ := hrel
    have sr := Step.mk hx
    clear hx
    cases k with
    | zero =>
      have e1 : R = none := HK.out
      subst e1
      go_wp2_with fail
      go_ret3
      exact ⟨rfl, grows⟩
    | succ k =>
      have e0 : ((k + 1 : Nat) : Int) - 1 = (k : Int) := by omega
      rw [e0]
      have HG2 := Lib.hid (fun w' (hx : Ext W w') => HG.out w' (k : Int) hx)
      have HK2 : Hid (R = match Lp.getL L w v k with | some x => some (x, k) | none => Lp.lkL L w v k) := HK
      clear HK e0
      cases hg : Lp.getL L w v k with
      | some x =>
        rw [hg] at HG2 HK2
        have e1 : R = some (x, k) := HK2.out
        subst e1
        clear hg
        simp only [Lp.gv, Option.getD_some, Option.isSome_some] at HG2
        go_wp2_with fail
        refine (HG2.out _ grows).mono ?_
        rintro e w1 ⟨rfl, x1⟩
        have s1 := Step.mk x1
        clear x1
        go_wp2_with fail
        go_ret3
        exact ⟨rfl, grows⟩
      | none =>
        rw [hg] at HG2 HK2
        have HK3 : Hid (R = Lp.lkL L w v k) := HK2
        clear hg HK2
        simp only [Lp.gv, Option.getD_none, Option.isSome_none] at HG2
        go_wp2_with fail
        refine (HG2.out _ grows).mono ?_
        rintro e w1 ⟨rfl, x1⟩
        have s1 := Step.mk x1
        clear x1
        go_wp2_with fail
        go_roundw
        case rel => exact ⟨k, by omega, rfl, grows, HK3⟩
        case measure => simp [intOf]
end Go.Proofs.Yteefchbpojcklaa
