/- Tries of prefixes, plain: the sorted list of the reference against the tree: insertion, deletion, look-up. No program in sight, no condition. -/
import Derived.Test.YteefchbpojcklaaLp2
namespace Go.Proofs.Yteefchbpojcklaa
open Go.RowKit

namespace Lp
open Tr
theorem con_le {w : Nat} (t : Tr) (v N : Nat) (X : Int) (h : (v, N, X) ∈ items w t 0 0) : N ≤ w ∧ 2 ^ (w - N) ∣ v ∧ v < 2 ^ w ∧ con t (path w v N) = some X := by
  have := (mem_items t 0 0 (Nat.zero_le _) (Nat.dvd_zero _)).1 h
  exact ⟨this.2.1, this.2.2.1, by simpa using this.2.2.2.2.1, by simpa [path] using this.2.2.2.2.2⟩
theorem mem_of_con {w : Nat} {t : Tr} {v N : Nat} {X : Int} (hN : N ≤ w) (hv : v < 2 ^ w) (h : con t (path w v N) = some X) : (trunc w v N, N, X) ∈ items w t 0 0 := by
  refine (mem_items t 0 0 (Nat.zero_le _) (Nat.dvd_zero _)).2 ⟨Nat.zero_le _, hN, trunc_dvd w v N, Nat.zero_le _, ?_, ?_⟩
  · rw [Nat.sub_zero, Nat.zero_add]; exact Nat.lt_of_le_of_lt (trunc_le w v N) hv
  · rw [Nat.sub_zero]; show con t (path w (trunc w v N) N) = _; rw [path_trunc hN]; exact h
theorem sorted_all (w : Nat) (t : Tr) : (items w t 0 0).Pairwise lt := sorted_items t 0 0 (Nat.zero_le _) (Nat.dvd_zero _)
theorem path_same {w V N v n : Nat} (hN : N ≤ w) (hd : 2 ^ (w - N) ∣ V) (hV : V < 2 ^ w) (hn : n ≤ w) (hv : v < 2 ^ w) : path w V N = path w v n ↔ N = n ∧ V = trunc w v n := by
  constructor
  · intro h
    have e : N = n := by rw [← path_len w V N, h, path_len]
    subst e
    exact ⟨rfl, path_inj hN hV hv hd h⟩
  · rintro ⟨rfl, rfl⟩; exact path_trunc hN
/-- what a tree holds says which list it is -/
theorem items_eq {w : Nat} {t : Tr} {L : List Item} (hs : L.Pairwise lt) (h : ∀ V N X, (V, N, X) ∈ L ↔ N ≤ w ∧ 2 ^ (w - N) ∣ V ∧ V < 2 ^ w ∧ con t (path w V N) = some X) : items w t 0 0 = L := by
  refine sorted_eq (sorted_all w t) hs ?_
  rintro ⟨V, N, X⟩
  rw [h]
  constructor
  · exact con_le t V N X
  · rintro ⟨h1, h2, h3, h4⟩
    have h5 := mem_of_con h1 h3 h4
    have e : trunc w V N = V := by unfold trunc; exact Nat.div_mul_cancel h2
    rwa [e] at h5
theorem items_same {w : Nat} {t t' : Tr} (h : ∀ q, con t' q = con t q) : items w t' 0 0 = items w t 0 0 := by
  refine items_eq (sorted_all w t) fun V N X => ?_
  constructor
  · intro hm; have := con_le t V N X hm; exact ⟨this.1, this.2.1, this.2.2.1, by rw [h]; exact this.2.2.2⟩
  · rintro ⟨h1, h2, h3, h4⟩
    rw [h] at h4
    have h5 := mem_of_con h1 h3 h4
    have e : trunc w V N = V := by unfold trunc; exact Nat.div_mul_cancel h2
    rwa [e] at h5
/-- the index of a prefix -/
def isP (V N : Nat) (a : Item) : Bool := decide (a.2.1 = N) && decide (a.1 = V)
def fnd (L : List Item) (V N : Nat) : Option Nat := L.findIdx? (isP V N)
theorem isP_iff {V N : Nat} {a : Item} : isP V N a = true ↔ a.1 = V ∧ a.2.1 = N := by simp [isP, and_comm]
theorem fnd_some {L : List Item} {V N i : Nat} (h : fnd L V N = some i) : ∃ X, L[i]? = some (V, N, X) := by
  obtain ⟨h1, h2, _⟩ := List.findIdx?_eq_some_iff_getElem.1 h
  obtain ⟨e1, e2⟩ := isP_iff.1 h2
  refine ⟨L[i].2.2, ?_⟩
  rw [List.getElem?_eq_getElem h1, ← e1, ← e2]
theorem fnd_none {L : List Item} {V N : Nat} (h : fnd L V N = none) : ∀ X, (V, N, X) ∉ L := by
  intro X hm
  have := (List.findIdx?_eq_none_iff.1 h) _ hm
  simp [isP] at this
theorem fnd_con {w : Nat} {t : Tr} {v n : Nat} (hn : n ≤ w) (hv : v < 2 ^ w) :
    (fnd (items w t 0 0) (trunc w v n) n = none ∧ con t (path w v n) = none) ∨ (∃ i X, fnd (items w t 0 0) (trunc w v n) n = some i ∧ (items w t 0 0)[i]? = some (trunc w v n, n, X) ∧ con t (path w v n) = some X) := by
  cases hf : fnd (items w t 0 0) (trunc w v n) n with
  | none =>
    refine .inl ⟨rfl, ?_⟩
    cases hc : con t (path w v n) with
    | none => rfl
    | some X => exact absurd (mem_of_con hn hv hc) (fnd_none hf X)
  | some i =>
    obtain ⟨X, hX⟩ := fnd_some hf
    have := con_le t _ _ _ (List.mem_of_getElem? hX)
    rw [path_trunc hn] at this
    exact .inr ⟨i, X, rfl, hX, this.2.2.2⟩
/-- insertion -/
def ltb (a b : Item) : Bool := decide (a.1 < b.1) || (decide (a.1 = b.1) && decide (a.2.1 < b.2.1))
theorem ltb_iff {a b : Item} : ltb a b = true ↔ lt a b := by simp [ltb, lt]
def pos : List Item → Item → Nat
  | [], _ => 0
  | a :: l, y => bif ltb a y then pos l y + 1 else 0
theorem pos_le (y : Item) : ∀ (l : List Item), pos l y ≤ l.length
  | [] => Nat.le_refl _
  | a :: l => by unfold pos; cases ltb a y; (· simp); (· have := pos_le y l; simpa using this)
theorem pos_lt (y : Item) : ∀ (l : List Item) (i : Nat), i < pos l y → ∃ a, l[i]? = some a ∧ ltb a y = true
  | [], i, h => by simp [pos] at h
  | a :: l, i, h => by
    unfold pos at h
    cases hb : ltb a y with
    | false => rw [hb] at h; simp at h
    | true =>
      rw [hb] at h
      cases i with
      | zero => exact ⟨a, rfl, hb⟩
      | succ i => exact pos_lt y l i (by simpa using h)
theorem pos_at (y : Item) : ∀ (l : List Item) (a : Item), l[pos l y]? = some a → ltb a y = false
  | [], a, h => by simp at h
  | c :: l, a, h => by
    unfold pos at h
    cases hb : ltb c y with
    | false => rw [hb] at h; simp at h; rw [← h]; exact hb
    | true => rw [hb] at h; exact pos_at y l a (by simpa using h)
def ins (l : List Item) (y : Item) : List Item := l.take (pos l y) ++ y :: l.drop (pos l y)
theorem mem_ins {l : List Item} {y a : Item} : a ∈ ins l y ↔ a ∈ l ∨ a = y := by
  have h : a ∈ l ↔ a ∈ l.take (pos l y) ∨ a ∈ l.drop (pos l y) := by rw [← List.mem_append, List.take_append_drop]
  unfold ins
  rw [h, List.mem_append, List.mem_cons]
  constructor
  · rintro (h | h | h); exact .inl (.inl h); exact .inr h; exact .inl (.inr h)
  · rintro ((h | h) | h); exact .inl h; exact .inr (.inr h); exact .inr (.inl h)
theorem ins_cons (a : Item) (l : List Item) (y : Item) : ins (a :: l) y = bif ltb a y then a :: ins l y else y :: a :: l := by
  have h : pos (a :: l) y = bif ltb a y then pos l y + 1 else 0 := rfl
  unfold ins
  rw [h]
  cases ltb a y <;> simp
theorem sorted_ins {y : Item} : ∀ {l : List Item}, l.Pairwise lt → (∀ a ∈ l, ¬ (a.1 = y.1 ∧ a.2.1 = y.2.1)) → (ins l y).Pairwise lt
  | [], _, _ => by simp [ins, pos]
  | a :: l, hl, hk => by
    have hl' := List.pairwise_cons.1 hl
    rw [ins_cons]
    cases hb : ltb a y with
    | true =>
      refine List.pairwise_cons.2 ⟨fun c hc => ?_, sorted_ins hl'.2 (fun c hc => hk c (by simp [hc]))⟩
      rcases mem_ins.1 hc with hc | hc
      · exact hl'.1 c hc
      · subst hc; exact ltb_iff.1 hb
    | false =>
      have h1 := hk a (by simp)
      have h2 : ¬ lt a y := fun h => by rw [ltb_iff.2 h] at hb; cases hb
      have h3 : lt y a := by unfold lt at h2 ⊢; omega
      refine List.pairwise_cons.2 ⟨fun c hc => ?_, hl⟩
      rcases List.mem_cons.1 hc with hc | hc
      · subst hc; exact h3
      · exact lt_trans h3 (hl'.1 c hc)
theorem ins_law {w : Nat} {t t' : Tr} {v n : Nat} {x : Int} (hn : n ≤ w) (hv : v < 2 ^ w) (h0 : con t (path w v n) = none) (h : ∀ q, con t' q = if q = path w v n then some x else con t q) :
    items w t' 0 0 = ins (items w t 0 0) (trunc w v n, n, x) := by
  have hk : ∀ a ∈ items w t 0 0, ¬ (a.1 = trunc w v n ∧ a.2.1 = n) := by
    rintro ⟨V, N, X⟩ ha ⟨h1, h2⟩
    dsimp only at h1 h2
    subst h1 h2
    have := con_le t _ _ _ ha
    rw [path_trunc hn, h0] at this
    cases this.2.2.2
  refine items_eq (sorted_ins (sorted_all w t) hk) fun V N X => ?_
  rw [mem_ins]
  constructor
  · rintro (hm | hm)
    · have h1 := con_le t V N X hm
      refine ⟨h1.1, h1.2.1, h1.2.2.1, ?_⟩
      rw [h, if_neg]; exact h1.2.2.2
      intro e
      have := (path_same h1.1 h1.2.1 h1.2.2.1 hn hv).1 e
      exact hk _ hm ⟨this.2, this.1⟩
    · simp only [Prod.mk.injEq] at hm
      obtain ⟨rfl, rfl, rfl⟩ := hm
      refine ⟨hn, trunc_dvd w v N, Nat.lt_of_le_of_lt (trunc_le w v N) hv, ?_⟩
      rw [path_trunc hn, h, if_pos rfl]
  · rintro ⟨h1, h2, h3, h4⟩
    rw [h] at h4
    by_cases e : path w V N = path w v n
    · rw [if_pos e] at h4
      have := (path_same h1 h2 h3 hn hv).1 e
      refine .inr ?_
      obtain rfl := Option.some.inj h4
      rw [this.1, this.2]
    · rw [if_neg e] at h4
      have h5 := mem_of_con h1 h3 h4
      have e2 : trunc w V N = V := by unfold trunc; exact Nat.div_mul_cancel h2
      rw [e2] at h5; exact .inl h5
/-- deletion -/
theorem mem_erase {l : List Item} (hl : l.Pairwise lt) {i : Nat} {y a : Item} (hy : l[i]? = some y) : a ∈ l.take i ++ l.drop (i + 1) ↔ a ∈ l ∧ a ≠ y := by
  have hi : i < l.length := (List.getElem?_eq_some_iff.1 hy).1
  have e : l = l.take i ++ (y :: l.drop (i + 1)) := by
    have h1 : l[i] = y := (List.getElem?_eq_some_iff.1 hy).2
    rw [← h1, List.getElem_cons_drop, List.take_append_drop]
  rw [e] at hl
  have hp := List.pairwise_append.1 hl
  have hq := List.pairwise_cons.1 hp.2.1
  have hm : a ∈ l ↔ a ∈ l.take i ∨ a = y ∨ a ∈ l.drop (i + 1) := by rw [← List.mem_cons, ← List.mem_append, ← e]
  rw [hm, List.mem_append]
  constructor
  · rintro (h | h)
    · refine ⟨.inl h, fun e => ?_⟩
      subst e
      exact lt_irrefl _ (hp.2.2 a h a (by simp))
    · refine ⟨.inr (.inr h), fun e => ?_⟩
      subst e
      exact lt_irrefl _ (hq.1 a h)
  · rintro ⟨h | h | h, hne⟩
    · exact .inl h
    · exact absurd h hne
    · exact .inr h
theorem del_law {w : Nat} {t t' : Tr} {v n i : Nat} {x : Int} (hn : n ≤ w) (hv : v < 2 ^ w) (hi : (items w t 0 0)[i]? = some (trunc w v n, n, x)) (h : ∀ q, con t' q = if q = path w v n then none else con t q) :
    items w t' 0 0 = (items w t 0 0).take i ++ (items w t 0 0).drop (i + 1) := by
  have hs := sorted_all w t
  refine items_eq ?_ fun V N X => ?_
  · rw [← List.eraseIdx_eq_take_drop_succ]; exact hs.sublist (List.eraseIdx_sublist _ _)
  · rw [mem_erase hs hi]
    have h0 := con_le t _ _ _ (List.mem_of_getElem? hi)
    rw [path_trunc hn] at h0
    constructor
    · rintro ⟨hm, hne⟩
      have h1 := con_le t V N X hm
      refine ⟨h1.1, h1.2.1, h1.2.2.1, ?_⟩
      rw [h, if_neg]; exact h1.2.2.2
      intro e
      have h2 := (path_same h1.1 h1.2.1 h1.2.2.1 hn hv).1 e
      have h3 := h1.2.2.2
      rw [e, h0.2.2.2] at h3
      obtain rfl := Option.some.inj h3
      exact hne (by rw [h2.1, h2.2])
    · rintro ⟨h1, h2, h3, h4⟩
      rw [h] at h4
      by_cases e : path w V N = path w v n
      · rw [if_pos e] at h4; cases h4
      · rw [if_neg e] at h4
        have h5 := mem_of_con h1 h3 h4
        have e2 : trunc w V N = V := by unfold trunc; exact Nat.div_mul_cancel h2
        rw [e2] at h5
        refine ⟨h5, fun e3 => ?_⟩
        simp only [Prod.mk.injEq] at e3
        exact e ((path_same h1 h2 h3 hn hv).2 ⟨e3.2.1, e3.1⟩)
/-- the longest prefix of a key, of fewer than n bits -/
def lk (w : Nat) (t : Tr) (key : Nat) : Nat → Option (Int × Nat)
  | 0 => none
  | n + 1 => match con t (path w key n) with
    | some x => some (x, n)
    | none => lk w t key n
theorem lk_some {w : Nat} {t : Tr} {key : Nat} : ∀ {n : Nat} {x : Int} {m : Nat}, lk w t key n = some (x, m) → m < n ∧ con t (path w key m) = some x ∧ ∀ j, m < j → j < n → con t (path w key j) = none
  | 0, x, m, h => by simp [lk] at h
  | n + 1, x, m, h => by
    unfold lk at h
    cases hc : con t (path w key n) with
    | some y =>
      rw [hc] at h
      simp only [Option.some.injEq, Prod.mk.injEq] at h
      obtain ⟨rfl, rfl⟩ := h
      exact ⟨by omega, hc, fun j h1 h2 => by omega⟩
    | none =>
      rw [hc] at h
      obtain ⟨h1, h2, h3⟩ := lk_some h
      refine ⟨by omega, h2, fun j h4 h5 => ?_⟩
      rcases Nat.lt_or_ge j n with h6 | h6
      · exact h3 j h4 h6
      · obtain rfl : j = n := by omega
        exact hc
theorem lk_none {w : Nat} {t : Tr} {key : Nat} : ∀ {n : Nat}, lk w t key n = none → ∀ j, j < n → con t (path w key j) = none
  | 0, _, j, h => by omega
  | n + 1, h, j, hj => by
    unfold lk at h
    cases hc : con t (path w key n) with
    | some y => rw [hc] at h; cases h
    | none =>
      rw [hc] at h
      rcases Nat.lt_or_ge j n with h6 | h6
      · exact lk_none h j h6
      · obtain rfl : j = n := by omega
        exact hc
theorem lk_eq {w : Nat} {t : Tr} {key d : Nat} : ∀ {n : Nat}, d ≤ n → (∀ j, d ≤ j → j < n → con t (path w key j) = none) → lk w t key n = lk w t key d
  | 0, h, _ => by obtain rfl : d = 0 := by omega
                  rfl
  | n + 1, h, hj => by
    rcases Nat.lt_or_ge n d with h1 | h1
    · obtain rfl : d = n + 1 := by omega
      rfl
    · show (match con t (path w key n) with | some x => some (x, n) | none => lk w t key n) = _
      rw [hj n h1 (by omega)]
      exact lk_eq h1 (fun j a b => hj j a (by omega))
end Lp
end Go.Proofs.Yteefchbpojcklaa
