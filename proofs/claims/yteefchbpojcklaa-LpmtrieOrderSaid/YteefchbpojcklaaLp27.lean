/- Tries of prefixes: what the law Order keeps, plain. No condition. -/
import Derived.Test.YteefchbpojcklaaLp21
namespace Go.Proofs.Yteefchbpojcklaa
open Go.RowKit

namespace Lp
/-- what a list of insertions holds at a path -/
def assoc (w : Nat) : List Ac → List Bool → Option Int
  | [], _ => none
  | a :: l, q => if q = path w a.v a.n.toNat then some a.x else assoc w l q
theorem assoc_none {w : Nat} {q : List Bool} : ∀ {l : List Ac}, assoc w l q = none ↔ ∀ a ∈ l, q ≠ path w a.v a.n.toNat
  | [] => by simp [assoc]
  | a :: l => by
    unfold assoc
    by_cases h : q = path w a.v a.n.toNat
    · rw [if_pos h]; simp [h]
    · rw [if_neg h, assoc_none]; simp [h]
theorem assoc_snoc {w : Nat} {q : List Bool} {a : Ac} : ∀ {l : List Ac}, assoc w l (path w a.v a.n.toNat) = none → assoc w (l ++ [a]) q = if q = path w a.v a.n.toNat then some a.x else assoc w l q
  | [], _ => rfl
  | b :: l, h => by
    have h1 := assoc_none.1 h
    have h2 : assoc w l (path w a.v a.n.toNat) = none := assoc_none.2 fun c hc => h1 c (List.mem_cons_of_mem _ hc)
    show (if q = path w b.v b.n.toNat then some b.x else assoc w (l ++ [a]) q) = _
    rw [assoc_snoc h2]
    by_cases hb : q = path w b.v b.n.toNat
    · rw [if_pos hb, if_neg (fun e => h1 b (List.mem_cons_self ..) (by rw [← e, hb]))]
      unfold assoc; rw [if_pos hb]
    · rw [if_neg hb]
      by_cases ha : q = path w a.v a.n.toNat
      · rw [if_pos ha, if_pos ha]
      · rw [if_neg ha, if_neg ha]
        show _ = (if q = path w b.v b.n.toNat then some b.x else assoc w l q)
        rw [if_neg hb]
/-- the insertions done: each fits, no two at the same path, the trie holds them -/
structure Done (w : Nat) (T : Tr) (D : List Ac) : Prop where
  con : ∀ q, T.con q = assoc w D q
  fit : ∀ a ∈ D, pfx w a.v a.n = true ∧ a.v < 4294967296
  dist : D.Pairwise (fun a b => path w a.v a.n.toNat ≠ path w b.v b.n.toNat)
theorem Done.nil {w : Nat} {T : Tr} (h : ∀ q, T.con q = none) : Done w T [] := ⟨h, fun _ h => (by cases h), List.Pairwise.nil⟩
theorem insE_zero {t : Tr} {w v : Nat} {n : Int} (h : insE t w v n = 0) : pfx w v n = true ∧ t.con (path w v n.toNat) = none := by
  unfold insE at h
  cases hp : pfx w v n with
  | false => rw [hp] at h; cases h
  | true =>
    rw [hp] at h
    cases hc : t.con (path w v n.toNat) with
    | none => exact ⟨rfl, rfl⟩
    | some y => rw [hc] at h; cases h
theorem Done.snoc {w : Nat} {T T' : Tr} {D : List Ac} {a : Ac} (h : Done w T D) (hv : a.v < 4294967296) (hE : insE T w a.v a.n = 0)
    (hc : ∀ q, T'.con q = bif (decide (insE T w a.v a.n = 0) && decide (q = path w a.v a.n.toNat)) then some a.x else T.con q) : Done w T' (D ++ [a]) := by
  obtain ⟨hp, hn⟩ := insE_zero hE
  rw [h.con] at hn
  refine ⟨fun q => ?_, fun b hb => ?_, ?_⟩
  · rw [hc, hE, assoc_snoc hn]
    by_cases hq : q = path w a.v a.n.toNat
    · rw [if_pos hq, decide_eq_true hq]; rfl
    · rw [if_neg hq, decide_eq_false hq]; exact h.con q
  · rcases List.mem_append.1 hb with hb | hb
    · exact h.fit b hb
    · rw [List.mem_singleton.1 hb]; exact ⟨hp, hv⟩
  · rw [List.pairwise_append]
    refine ⟨h.dist, List.pairwise_singleton .., fun b hb c hc' => ?_⟩
    rw [List.mem_singleton.1 hc']
    exact fun e => assoc_none.1 hn b hb e.symm
/-- inserted backwards, each insertion succeeds -/
theorem back_ok {w : Nat} {T U : Tr} {D : List Ac} {i : Nat} {a : Ac} (h : Done w T D) (hi : D[i]? = some a) (hU : ∀ q, U.con q = assoc w (D.drop (i + 1)) q) : insE U w a.v a.n = 0 := by
  have hlt := (List.getElem?_eq_some_iff.1 hi).1
  have hd := List.pairwise_iff_getElem.1 h.dist
  refine insE_ok (h.fit a (List.mem_of_getElem? hi)).1 ?_
  rw [hU]
  refine assoc_none.2 fun b hb => ?_
  obtain ⟨j, hj⟩ := List.getElem?_of_mem hb
  rw [List.getElem?_drop] at hj
  obtain ⟨hjl, hjb⟩ := List.getElem?_eq_some_iff.1 hj
  obtain ⟨_, hia⟩ := List.getElem?_eq_some_iff.1 hi
  have := hd i (i + 1 + j) hlt hjl (by omega)
  rw [hia, hjb] at this
  exact this
theorem back_con {w : Nat} {U U' : Tr} {D : List Ac} {i : Nat} {a : Ac} (hi : D[i]? = some a) (hU : ∀ q, U.con q = assoc w (D.drop (i + 1)) q) (hE : insE U w a.v a.n = 0)
    (hc : ∀ q, U'.con q = bif (decide (insE U w a.v a.n = 0) && decide (q = path w a.v a.n.toNat)) then some a.x else U.con q) (q : List Bool) : U'.con q = assoc w (D.drop i) q := by
  obtain ⟨hlt, hia⟩ := List.getElem?_eq_some_iff.1 hi
  rw [List.drop_eq_getElem_cons hlt, hia, hc, hE]
  show _ = (if q = path w a.v a.n.toNat then some a.x else assoc w (D.drop (i + 1)) q)
  by_cases hq : q = path w a.v a.n.toNat
  · rw [if_pos hq, decide_eq_true hq]; rfl
  · rw [if_neg hq, decide_eq_false hq]; exact hU q
end Lp
end Go.Proofs.Yteefchbpojcklaa
