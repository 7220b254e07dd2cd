/- Tries of prefixes: the law's step and same, walked. No condition. -/
import Derived.Test.YteefchbpojcklaaLp16
namespace Go.Proofs.Yteefchbpojcklaa
open Go.RowKit

/-- the trie and the reference's list agree -/
structure Ag (W0 W : World) (g w : Nat) (T : Lp.Tr) (sl : Value) (L : List Lp.Item) : Prop where
  is : IsT W g w T
  bl : ∀ i ∈ T.blocks, W0.heap.size ≤ i
  own : OwnI W 0 sl L
  eq : Lp.items w T 0 0 = L
  ext : Ext W0 W
theorem Ag.form {W0 W : World} {g w : Nat} {T : Lp.Tr} {sl : Value} {L : List Lp.Item} (h : Ag W0 W g w T sl L) : ∃ la lc, sl = .slice la L.length lc ∧ L.length ≤ lc ∧ (la = none ∧ L = [] ∧ lc = 0 ∨ ∃ gl, la = some ⟨gl, 0, none⟩) := by
  rcases h.own.2 with ⟨h1, h2⟩ | ⟨gl, cap, cur, h1, _, _, h2, _⟩
  · exact ⟨none, 0, by rw [h1, h2], by omega, .inl ⟨rfl, List.eq_nil_of_length_eq_zero h2, rfl⟩⟩
  · exact ⟨_, cap, h1, h2, .inr ⟨gl, rfl⟩⟩
namespace Lp
theorem insLE_items {w : Nat} (t : Tr) (v : Nat) (n : Int) : insLE (items w t 0 0) w v n = insE t w v n := by
  rw [insE_list]
  unfold insLE
  cases pfx w v n with
  | false => rfl
  | true =>
    simp only [cond_true]
    rcases fndI_cases (L := items w t 0 0) (w := w) (v := v) (n := n) with ⟨e1, e2⟩ | ⟨i, V, N, X, e1, _, e3⟩
    · rw [e1, e2]; rfl
    · rw [e1, e3, decide_eq_true (by omega)]; rfl
theorem insLL_items {w : Nat} {t t' : Tr} {v : Nat} {n : Int} {x : Int} (h : ∀ q, t'.con q = bif (decide (insE t w v n = 0) && decide (q = path w v n.toNat)) then some x else t.con q) : items w t' 0 0 = insLL (items w t 0 0) w v n x := by
  unfold insLL
  rw [insLE_items]
  by_cases hE : insE t w v n = 0
  · rw [if_pos hE, ins_items hE h]
  · rw [if_neg hE]
    exact items_same (ins_same hE h)
end Lp
theorem delL_items {w : Nat} {t t' : Lp.Tr} {v : Nat} {n : Int} (h : ∀ q, t'.con q = bif (Lp.pfx w v n && decide (q = Lp.path w v n.toNat)) then none else t.con q) : Lp.items w t' 0 0 = delL (Lp.items w t 0 0) w v n ∧ decide (0 ≤ Lp.fndI (Lp.items w t 0 0) w v n) = (Lp.get t w v n).isSome := by
  unfold delL Lp.fndI Lp.get
  cases hp : Lp.pfx w v n with
  | false =>
    simp only [cond_false]
    rw [if_neg (show ¬ (0 : Int) ≤ -1 by decide)]
    exact ⟨Lp.items_same (fun q => by rw [h, hp]; rfl), rfl⟩
  | true =>
    obtain ⟨⟨h0, h1⟩, h2⟩ := Lp.pfx_iff.1 hp
    simp only [cond_true]
    have hc : ∀ q, t'.con q = if q = Lp.path w v n.toNat then none else t.con q := fun q => by
      rw [h, hp]
      by_cases hq : q = Lp.path w v n.toNat
      · rw [if_pos hq, decide_eq_true hq]; rfl
      · rw [if_neg hq, decide_eq_false hq]; rfl
    rcases Lp.fnd_con (t := t) (v := v) (n := n.toNat) (w := w) (by omega) h2 with ⟨h3, h4⟩ | ⟨i, X, h3, h4, h5⟩
    · rw [h3, h4]
      rw [if_neg (show ¬ (0 : Int) ≤ Lp.idxI none by decide)]
      refine ⟨Lp.items_same (fun q => ?_), rfl⟩
      rw [hc]
      by_cases hq : q = Lp.path w v n.toNat
      · rw [if_pos hq, hq, h4]
      · rw [if_neg hq]
    · rw [h3, h5]
      rw [if_pos (show (0 : Int) ≤ Lp.idxI (some i) from Int.natCast_nonneg i), decide_eq_true (show (0 : Int) ≤ Lp.idxI (some i) from Int.natCast_nonneg i)]
      exact ⟨Lp.del_law (i := i) (by omega) h2 h4 hc, rfl⟩
/-- Insert of the reference -/
theorem r9insert_any {W : World} {w : Nat} (h1 : 1 ≤ w) (h2 : w ≤ 32) {la : Option Addr} {lc : Nat} {L : List Lp.Item} (hr : OwnI W 0 (.slice la L.length lc) L) (hla : la = none ∧ L = [] ∧ lc = 0 ∨ ∃ gl, la = some ⟨gl, 0, none⟩) (hl : L.length ≤ 1000) (v : Nat) (hv : v < 4294967296) (n x : Int) :
    Calls Try.prog 11 #[.agg #[.int .i64 w, .slice la L.length lc], .int .u32 v, .int .i64 n, .int .i64 x] W (InsQ W L w v n x) := by
  by_cases hE : Lp.insLE L w v n = 0
  · have hp : Lp.pfx w v n = true := by
      cases hp : Lp.pfx w v n with
      | true => rfl
      | false => unfold Lp.insLE at hE; rw [hp] at hE; exact absurd hE (by simp)
    obtain ⟨⟨h3, h4⟩, h5⟩ := Lp.pfx_iff.1 hp
    obtain ⟨m, rfl⟩ := Int.eq_ofNat_of_zero_le h3
    rcases hla with ⟨rfl, rfl, rfl⟩ | ⟨gl, rfl⟩
    · exact r9insert_nil h1 h2 v hv m x (by omega) h5
    · refine r9insert_some h1 h2 hr hl v hv m x (by omega) h5 ?_
      rcases Lp.fndI_cases (L := L) (w := w) (v := v) (n := m) with ⟨e1, _⟩ | ⟨i, V, N, X, e1, _, _⟩
      · exact e1
      · unfold Lp.insLE at hE
        rw [hp, e1, decide_eq_true (by omega)] at hE
        exact absurd hE (by simp)
  · exact r9insert_not h1 h2 hr v hv n x hE
end Go.Proofs.Yteefchbpojcklaa
