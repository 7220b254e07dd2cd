/- Tries of prefixes, plain: the way from the root to a prefix; the prefixes that a tree holds, in ascending order. No program in sight, no condition. -/
import Derived.Test.YteefchbpojcklaaLp1
namespace Go.Proofs.Yteefchbpojcklaa
open Go.RowKit

namespace Lp
abbrev Item := Nat × Nat × Int
/-- m bits of v from depth d on, of w bits -/
def bits (w v : Nat) : Nat → Nat → List Bool
  | 0, _ => []
  | m + 1, d => v.testBit (w - 1 - d) :: bits w v m (d + 1)
def path (w v n : Nat) : List Bool := bits w v n 0
theorem bits_len (w v : Nat) : ∀ (m d : Nat), (bits w v m d).length = m
  | 0, _ => rfl
  | m + 1, d => by simp [bits, bits_len w v m]
theorem bits_snoc (w v : Nat) : ∀ (m d : Nat), bits w v (m + 1) d = bits w v m d ++ [v.testBit (w - 1 - (d + m))]
  | 0, d => rfl
  | m + 1, d => by
    show _ :: bits w v (m + 1) (d + 1) = _
    rw [bits_snoc w v m (d + 1), show d + 1 + m = d + (m + 1) by omega]; rfl
theorem path_snoc (w v n : Nat) : path w v (n + 1) = path w v n ++ [v.testBit (w - 1 - n)] := by
  unfold path; rw [bits_snoc, Nat.zero_add]
theorem path_len (w v n : Nat) : (path w v n).length = n := bits_len w v n 0
theorem bits_eq {w V v : Nat} : ∀ {m d : Nat}, bits w V m d = bits w v m d ↔ ∀ j, d ≤ j → j < d + m → V.testBit (w - 1 - j) = v.testBit (w - 1 - j)
  | 0, d => ⟨fun _ j h1 h2 => by omega, fun _ => rfl⟩
  | m + 1, d => by
    simp only [bits, List.cons.injEq, bits_eq (m := m) (d := d + 1)]
    constructor
    · rintro ⟨h1, h2⟩ j hj hk
      rcases Nat.eq_or_lt_of_le hj with rfl | hj
      · exact h1
      · exact h2 j hj (by omega)
    · exact fun h => ⟨h d (Nat.le_refl _) (by omega), fun j h1 h2 => h j (by omega) (by omega)⟩
/-- the n upper bits of w -/
def trunc (w v n : Nat) : Nat := v / 2 ^ (w - n) * 2 ^ (w - n)
theorem trunc_dvd (w v n : Nat) : 2 ^ (w - n) ∣ trunc w v n := Nat.dvd_mul_left _ _
theorem trunc_le (w v n : Nat) : trunc w v n ≤ v := Nat.div_mul_le_self _ _
theorem testBit_big {v w i : Nat} (h : v < 2 ^ w) (hi : w ≤ i) : v.testBit i = false :=
  Nat.testBit_lt_two_pow (Nat.lt_of_lt_of_le h (Nat.pow_le_pow_right (by decide) hi))
theorem path_trunc {w v n : Nat} (hn : n ≤ w) : path w (trunc w v n) n = path w v n := by
  unfold path
  rw [bits_eq]
  intro j _ hj
  unfold trunc
  rw [Nat.mul_comm, Nat.testBit_two_pow_mul, Nat.testBit_div_two_pow]
  rw [decide_eq_true (by omega : w - n ≤ w - 1 - j), Bool.true_and]
  congr 1; omega
theorem path_inj {w V v n : Nat} (hn : n ≤ w) (hV : V < 2 ^ w) (hv : v < 2 ^ w) (hd : 2 ^ (w - n) ∣ V) (h : path w V n = path w v n) : V = trunc w v n := by
  unfold path at h
  rw [bits_eq] at h
  have e : V / 2 ^ (w - n) = v / 2 ^ (w - n) := by
    apply Nat.eq_of_testBit_eq
    intro i
    rw [Nat.testBit_div_two_pow, Nat.testBit_div_two_pow]
    by_cases hi : i + (w - n) < w
    · have := h (w - 1 - (i + (w - n))) (Nat.zero_le _) (by omega)
      rwa [show w - 1 - (w - 1 - (i + (w - n))) = i + (w - n) by omega] at this
    · rw [testBit_big hV (by omega), testBit_big hv (by omega)]
  unfold trunc
  rw [← e, Nat.div_mul_cancel hd]
theorem dvd_one {m v V : Nat} (h1 : m ∣ v) (h2 : m ∣ V) (h3 : v ≤ V) (h4 : V < v + m) : V = v := by
  have h5 : m ∣ V - v := (Nat.dvd_sub h2 h1)
  have := Nat.eq_zero_of_dvd_of_lt h5 (by omega)
  omega
theorem bit_half {v V e : Nat} (h1 : 2 ^ (e + 1) ∣ v) (h2 : v ≤ V) (h3 : V < v + 2 ^ (e + 1)) : V.testBit e = decide (v + 2 ^ e ≤ V) := by
  obtain ⟨q, rfl⟩ := h1
  obtain ⟨r, rfl⟩ := Nat.exists_eq_add_of_le h2
  have hp : 0 < 2 ^ e := Nat.pos_of_ne_zero (by simp)
  rw [Nat.testBit_eq_decide_div_mod_eq, Nat.pow_succ, Nat.mul_assoc, Nat.mul_add_div hp]
  have hr : r < 2 ^ e * 2 := by rw [Nat.pow_succ] at h3; omega
  by_cases hc : 2 ^ e ≤ r
  · have : r / 2 ^ e = 1 := by
      apply Nat.div_eq_of_lt_le <;> omega
    rw [this, decide_eq_true, decide_eq_true]
    · omega
    · omega
  · have : r / 2 ^ e = 0 := Nat.div_eq_of_lt (by omega)
    rw [this, decide_eq_false, decide_eq_false]
    · omega
    · omega

open Tr
/-- what a tree holds below the prefix (v, d), in ascending order -/
def items (w : Nat) : Tr → Nat → Nat → List Item
  | .nil, _, _ => []
  | .node _ l r st x, v, d => (bif st then [(v, d, x)] else []) ++ (if d = w then [] else items w l v (d + 1) ++ items w r (v + 2 ^ (w - 1 - d)) (d + 1))
theorem con_nil (p : List Bool) : con .nil p = none := by simp [con, val]
theorem con_cons (t : Tr) (k : Bool) (p : List Bool) : con t (k :: p) = con (kid t k) p := by simp [con]
theorem con_top (b : Nat) (l r : Tr) (st : Bool) (x : Int) : con (.node b l r st x) [] = bif st then some x else none := rfl
theorem mem_items {w : Nat} {V N : Nat} {X : Int} : ∀ (t : Tr) (v d : Nat), d ≤ w → 2 ^ (w - d) ∣ v →
    ((V, N, X) ∈ items w t v d ↔ d ≤ N ∧ N ≤ w ∧ 2 ^ (w - N) ∣ V ∧ v ≤ V ∧ V < v + 2 ^ (w - d) ∧ con t (bits w V (N - d) d) = some X) := by
  intro t
  induction t with
  | nil => intro v d _ _; simp [items, con_nil]
  | node b l r st x ihl ihr =>
    intro v d hd hv
    have top : (V, N, X) ∈ (bif st then [(v, d, x)] else ([] : List Item)) ↔ N = d ∧ V = v ∧ con (.node b l r st x) [] = some X := by
      rw [con_top]
      cases st
      · simp
      · simp only [cond_true, List.mem_singleton, Prod.mk.injEq, Option.some.injEq]
        constructor
        · rintro ⟨h1, h2, h3⟩; exact ⟨h2, h1, h3.symm⟩
        · rintro ⟨h1, h2, h3⟩; exact ⟨h2, h1, h3.symm⟩
    have here : N = d → ((2 ^ (w - N) ∣ V ∧ v ≤ V ∧ V < v + 2 ^ (w - d)) ↔ V = v) := by
      rintro rfl
      constructor
      · rintro ⟨h1, h2, h3⟩; exact dvd_one hv h1 h2 h3
      · rintro rfl; exact ⟨hv, Nat.le_refl _, by have : 0 < 2 ^ (w - N) := Nat.pos_of_ne_zero (by simp); omega⟩
    unfold items
    rw [List.mem_append, top]
    by_cases hdw : d = w
    · rw [if_pos hdw]
      simp only [List.not_mem_nil, or_false]
      constructor
      · rintro ⟨rfl, rfl, hc⟩
        have := (here rfl).2 rfl
        exact ⟨Nat.le_refl _, by omega, this.1, this.2.1, this.2.2, by rw [Nat.sub_self]; exact hc⟩
      · rintro ⟨h1, h2, h3, h4, h5, h6⟩
        obtain rfl : N = d := by omega
        rw [Nat.sub_self] at h6
        exact ⟨rfl, (here rfl).1 ⟨h3, h4, h5⟩, h6⟩
    · rw [if_neg hdw, List.mem_append]
      obtain ⟨e, he⟩ : ∃ e, w - 1 - d = e := ⟨_, rfl⟩
      have e1 : w - d = e + 1 := by omega
      have e2 : w - (d + 1) = e := by omega
      rw [he]
      rw [e1] at hv here ⊢
      have hp : 2 ^ (e + 1) = 2 ^ e + 2 ^ e := by rw [Nat.pow_succ]; omega
      have hv2 : 2 ^ e ∣ v := Nat.dvd_trans ⟨2, by rw [Nat.pow_succ]⟩ hv
      rw [ihl v (d + 1) (by omega) (by rw [e2]; exact hv2), ihr (v + 2 ^ e) (d + 1) (by omega) (by rw [e2]; exact (Nat.dvd_add hv2 (Nat.dvd_refl _))), e2]
      rcases Nat.lt_trichotomy N d with hN | hN | hN
      · constructor
        · rintro (⟨h, _⟩ | ⟨h, _⟩ | ⟨h, _⟩) <;> omega
        · rintro ⟨h, _⟩; omega
      · constructor
        · rintro (⟨_, h2, h3⟩ | ⟨h, _⟩ | ⟨h, _⟩)
          · have := (here hN).2 h2
            exact ⟨by omega, by omega, this.1, this.2.1, this.2.2, by rw [hN, Nat.sub_self]; exact h3⟩
          · omega
          · omega
        · rintro ⟨h1, h2, h3, h4, h5, h6⟩
          rw [hN, Nat.sub_self] at h6
          exact .inl ⟨hN, (here hN).1 ⟨h3, h4, h5⟩, h6⟩
      · have hb : N - d = (N - (d + 1)) + 1 := by omega
        have hcn : v ≤ V → V < v + 2 ^ (e + 1) → con (.node b l r st x) (bits w V (N - d) d) = con (bif decide (v + 2 ^ e ≤ V) then r else l) (bits w V (N - (d + 1)) (d + 1)) := fun h1 h2 => by
          rw [hb]
          show con _ (V.testBit (w - 1 - d) :: _) = _
          rw [con_cons, he, bit_half hv h1 h2, kid_node]
        constructor
        · rintro (⟨h, _⟩ | ⟨h1, h2, h3, h4, h5, h6⟩ | ⟨h1, h2, h3, h4, h5, h6⟩)
          · omega
          · refine ⟨by omega, h2, h3, h4, by omega, ?_⟩
            rw [hcn h4 (by omega), decide_eq_false (by omega)]; exact h6
          · refine ⟨by omega, h2, h3, by omega, by omega, ?_⟩
            rw [hcn (by omega) (by omega), decide_eq_true (by omega)]; exact h6
        · rintro ⟨h1, h2, h3, h4, h5, h6⟩
          rw [hcn h4 h5] at h6
          by_cases hc : v + 2 ^ e ≤ V
          · rw [decide_eq_true hc] at h6
            exact .inr (.inr ⟨by omega, h2, h3, hc, by omega, h6⟩)
          · rw [decide_eq_false hc] at h6
            exact .inr (.inl ⟨by omega, h2, h3, h4, by omega, h6⟩)
/-- the order of prefixes -/
def lt (a b : Item) : Prop := a.1 < b.1 ∨ (a.1 = b.1 ∧ a.2.1 < b.2.1)
theorem lt_trans {a b c : Item} (h : lt a b) (k : lt b c) : lt a c := by unfold lt at *; omega
theorem lt_irrefl (a : Item) : ¬ lt a a := by unfold lt; omega
theorem sorted_items {w : Nat} : ∀ (t : Tr) (v d : Nat), d ≤ w → 2 ^ (w - d) ∣ v → (items w t v d).Pairwise lt := by
  intro t
  induction t with
  | nil => intro v d _ _; exact List.Pairwise.nil
  | node b l r st x ihl ihr =>
    intro v d hd hv
    unfold items
    by_cases hdw : d = w
    · rw [if_pos hdw, List.append_nil]; cases st <;> simp
    · rw [if_neg hdw]
      have e1 : w - d = (w - 1 - d) + 1 := by omega
      have e2 : w - (d + 1) = w - 1 - d := by omega
      obtain ⟨e, he⟩ : ∃ e, w - 1 - d = e := ⟨_, rfl⟩
      rw [he] at e1 e2 ⊢
      rw [e1] at hv
      have hv2 : 2 ^ e ∣ v := Nat.dvd_trans ⟨2, by rw [Nat.pow_succ]⟩ hv
      have hv3 : 2 ^ e ∣ v + 2 ^ e := Nat.dvd_add hv2 (Nat.dvd_refl _)
      have ml := fun (a : Item) (ha : a ∈ items w l v (d + 1)) => (mem_items (V := a.1) (N := a.2.1) (X := a.2.2) l v (d + 1) (by omega) (by rw [e2]; exact hv2)).1 ha
      have mr := fun (a : Item) (ha : a ∈ items w r (v + 2 ^ e) (d + 1)) => (mem_items (V := a.1) (N := a.2.1) (X := a.2.2) r (v + 2 ^ e) (d + 1) (by omega) (by rw [e2]; exact hv3)).1 ha
      rw [e2] at ml mr
      refine List.pairwise_append.2 ⟨by cases st <;> simp, List.pairwise_append.2 ⟨ihl v (d + 1) (by omega) (by rw [e2]; exact hv2), ihr _ (d + 1) (by omega) (by rw [e2]; exact hv3), fun a ha c hc => ?_⟩, fun a ha c hc => ?_⟩
      · have h1 := ml a ha
        have h2 := mr c hc
        exact .inl (by omega)
      · obtain rfl : a = (v, d, x) := by cases st <;> simp at ha; exact ha
        rcases List.mem_append.1 hc with hc | hc
        · have h1 := ml c hc; unfold lt; dsimp only; omega
        · have h1 := mr c hc; have : 0 < 2 ^ e := Nat.pos_of_ne_zero (by simp); unfold lt; dsimp only; omega
theorem sorted_eq : ∀ {l m : List Item}, l.Pairwise lt → m.Pairwise lt → (∀ a, a ∈ l ↔ a ∈ m) → l = m
  | [], [], _, _, _ => rfl
  | [], b :: m, _, _, h => absurd ((h b).2 (by simp)) (by simp)
  | a :: l, [], _, _, h => absurd ((h a).1 (by simp)) (by simp)
  | a :: l, b :: m, hl, hm, h => by
    rw [List.pairwise_cons] at hl hm
    have e : a = b := by
      rcases List.mem_cons.1 ((h a).1 (by simp)) with h1 | h1
      · exact h1
      · rcases List.mem_cons.1 ((h b).2 (by simp)) with h2 | h2
        · exact h2.symm
        · exact absurd (lt_trans (hl.1 b h2) (hm.1 a h1)) (lt_irrefl a)
    subst e
    rw [sorted_eq hl.2 hm.2 (fun c => ?_)]
    constructor
    · intro hc
      rcases List.mem_cons.1 ((h c).1 (by simp [hc])) with h1 | h1
      · subst h1; exact absurd (hl.1 c hc) (lt_irrefl c)
      · exact h1
    · intro hc
      rcases List.mem_cons.1 ((h c).2 (by simp [hc])) with h1 | h1
      · subst h1; exact absurd (hm.1 c hc) (lt_irrefl c)
      · exact h1
end Lp
end Go.Proofs.Yteefchbpojcklaa
