/- Registers: tables of rows of values that the code has made itself. No program in sight. No condition. -/
import Derived.Test.YtnmamcplbeiehaaRg5
import Derived.Test.YtnmamcplbeiehaaMem
namespace Go.Proofs.Ytnmamcplbeiehaa
open Go.RowKit

/-- a table with rows of its own: the cells vs of the table are the rows' slices, the data ls; every block is B or later, no two rows share one -/
def Tab (B : Nat) (w : World) (v : Value) (vs : List Value) (ls : List (List Int)) : Prop :=
  vs.length = ls.length ∧ w.ownsRow B 90 1 v ls.length vs ∧
  (∀ (i : Nat) (u : Value) (l : List Int), vs[i]? = some u → ls[i]? = some l → w.ownsRow B 23 1 u l.length (l.map (.int .u32)) ∧ ∀ x ∈ l, U32 x) ∧
  (∀ (i j : Nat) (u u' : Value) (k : Nat), vs[i]? = some u → vs[j]? = some u' → u.ownBlock = some k → u'.ownBlock = some k → i = j)

theorem own_keep {w w' : World} {base : Nat} {e : TypeId} {size : Nat} {v : Value} {n : Nat} {xs : List Value} (h : w.ownsRow base e size v n xs) (hb : ∀ k, v.ownBlock = some k → w'.heap[k]? = w.heap[k]?) : w'.ownsRow base e size v n xs := by
  obtain ⟨h1, h2⟩ := h
  refine ⟨h1, ?_⟩
  rcases h2 with h2 | ⟨g, cap, cur, rfl, hg, hh, r⟩
  · exact .inl h2
  · exact .inr ⟨g, cap, cur, rfl, hg, by rw [hb g rfl]; exact hh, r⟩
theorem own_heap {w : World} {base : Nat} {e : TypeId} {size : Nat} {v : Value} {n : Nat} {xs : List Value} (h : w.ownsRow base e size v n xs) {k : Nat} (hk : v.ownBlock = some k) : ∃ cur, w.heap[k]? = some (.cells cur e (0, 0)) ∧ base ≤ k := by
  rcases h.2 with ⟨rfl, _⟩ | ⟨g, cap, cur, rfl, hg, hh, r⟩
  · simp [Value.ownBlock] at hk
  · simp only [Value.ownBlock, Option.some.injEq] at hk
    subst hk
    exact ⟨cur, hh, hg⟩
theorem own_lt {w : World} {base : Nat} {e : TypeId} {size : Nat} {v : Value} {n : Nat} {xs : List Value} (h : w.ownsRow base e size v n xs) {k : Nat} (hk : v.ownBlock = some k) : k < w.heap.size := by
  obtain ⟨cur, hh, _⟩ := own_heap h hk
  exact lt_of_block hh
theorem own_one {w : World} {base : Nat} {e : TypeId} {size : Nat} {v : Value} {n : Nat} {xs : List Value} (h : w.ownsRow base e size v n xs) : v.oneCell' = true := by
  obtain ⟨oa, c, rfl⟩ := own_slice h
  rfl
theorem own_max {w : World} {base : Nat} {e : TypeId} {size : Nat} {v : Value} {n : Nat} {xs : List Value} (h : w.ownsRow base e size v n xs) : n ≤ maxLen := by
  rcases h.2 with ⟨_, rfl⟩ | ⟨g, cap, cur, rfl, hg, hh, h1, h2, _⟩
  · exact Nat.zero_le _
  · exact Nat.le_trans h1 h2
theorem ints_one {k : IntKind} {l : List Int} : ∀ u ∈ l.map (Value.int k), u.oneCell' = true := fun u hu => by
  rw [List.mem_map] at hu; obtain ⟨x, _, rfl⟩ := hu; rfl

namespace Tab
variable {B : Nat} {w w' : World} {v : Value} {vs : List Value} {ls : List (List Int)}
theorem ne (h : Tab B w v vs ls) {i : Nat} {u : Value} {k : Nat} (hi : vs[i]? = some u) (hk : u.ownBlock = some k) : v.ownBlock ≠ some k := by
  obtain ⟨h1, h2, h3, _⟩ := h
  intro e
  obtain ⟨l, hl⟩ : ∃ l, ls[i]? = some l := ⟨_, List.getElem?_eq_getElem (by rw [← h1]; exact (List.getElem?_eq_some_iff.1 hi).1)⟩
  obtain ⟨c1, g1, _⟩ := own_heap h2 e
  obtain ⟨c2, g2, _⟩ := own_heap (h3 i u l hi hl).1 hk
  exact ne_of_type g1 g2 (by decide) rfl
theorem row (h : Tab B w v vs ls) {i : Nat} {l : List Int} (hl : ls[i]? = some l) : ∃ u, vs[i]? = some u ∧ w.ownsRow B 23 1 u l.length (l.map (.int .u32)) ∧ ∀ x ∈ l, U32 x := by
  have hlt := (List.getElem?_eq_some_iff.1 hl).1
  obtain ⟨u, hu⟩ : ∃ u, vs[i]? = some u := ⟨_, List.getElem?_eq_getElem (by rw [h.1]; exact hlt)⟩
  exact ⟨u, hu, h.2.2.1 i u l hu hl⟩
theorem rows (h : Tab B w v vs ls) : Rows w 1 RowR v ls := by
  have hh := h
  obtain ⟨h1, h2, h3, h4⟩ := h
  rcases h2.2 with ⟨rfl, h0⟩ | ⟨g, cap, cur, rfl, hg, hx, q1, q2, _⟩
  · exact .inl ⟨rfl, List.eq_nil_of_length_eq_zero h0⟩
  · refine .inr ⟨⟨g, 0, none⟩, cap, rfl, q1, q2, fun _ => rfl, fun i d hi => ?_⟩
    obtain ⟨u, hu, ho, hU⟩ := hh.row hi
    refine ⟨[u], rfl, ⟨u, rfl, ⟨own_src ho ints_one, own_max ho⟩, hU⟩, fun j x hj => ?_⟩
    cases j with
    | succ j => simp at hj
    | zero =>
      simp only [List.getElem?_cons_zero, Option.some.injEq] at hj
      subst hj
      have := h2.cells (g := g) rfl i u hu
      rw [add_mk] at this
      rw [Nat.mul_one, Nat.add_zero]; exact this
theorem ext (h : Tab B w v vs ls) (hx : Ext w w') : Tab B w' v vs ls :=
  ⟨h.1, own_ext h.2.1 hx, fun i u l hu hl => ⟨own_ext (h.2.2.1 i u l hu hl).1 hx, (h.2.2.1 i u l hu hl).2⟩, h.2.2.2⟩
theorem nil : Tab B w (.slice none 0 0) [] [] :=
  ⟨rfl, World.ownsRow_nil _ _ _ _, fun i u l hu => by simp at hu, fun i j u u' k hu => by simp at hu⟩
/-- one row turned into another, in its own block -/
theorem rowTo (h : Tab B w v vs ls) {i g n c : Nat} {l0 l : List Int} (hu : vs[i]? = some (.slice (some ⟨g, 0, none⟩) n c)) (hl : ls[i]? = some l0) (hk : ∀ k, k ≠ g → k < w.heap.size → w'.heap[k]? = w.heap[k]?)
    (ho : w'.ownsRow B 23 1 (.slice (some ⟨g, 0, none⟩) n c) l.length (l.map (.int .u32))) (hU : ∀ x ∈ l, U32 x) : Tab B w' v vs (ls.set i l) := by
  have hh := h
  obtain ⟨h1, h2, h3, h4⟩ := h
  have hne := hh.ne hu rfl
  refine ⟨by rw [List.length_set]; exact h1, ?_, fun j u m hj hm => ?_, h4⟩
  · rw [List.length_set]
    exact own_keep h2 (fun k e => hk k (fun e' => hne (by rw [← e', ← e])) (own_lt h2 e))
  · by_cases hij : i = j
    · subst hij
      rw [List.getElem?_set_self (List.getElem?_eq_some_iff.1 hl).1] at hm
      obtain rfl := Option.some.inj hm
      obtain rfl := Option.some.inj (hu.symm.trans hj)
      exact ⟨ho, hU⟩
    · rw [List.getElem?_set_ne hij] at hm
      obtain ⟨q1, q2⟩ := h3 j u m hj hm
      exact ⟨own_keep q1 (fun k e => hk k (fun e' => hij (h4 i j _ _ k hu hj (by rw [e']; rfl) e)) (own_lt q1 e)), q2⟩
/-- a new row laid into the table's cell i -/
theorem setRow {G n c i g m k : Nat} {l : List Int} (h : Tab B w (.slice (some ⟨G, 0, none⟩) n c) vs ls) (hi : i < ls.length) (ho : w.ownsRow B 23 1 (.slice (some ⟨g, 0, none⟩) m k) l.length (l.map (.int .u32))) (hU : ∀ x ∈ l, U32 x)
    (hf : ∀ (j : Nat) (u : Value), vs[j]? = some u → u.ownBlock ≠ some g) : Tab B (w.setCell ⟨G, i, none⟩ (.slice (some ⟨g, 0, none⟩) m k)) (.slice (some ⟨G, 0, none⟩) n c) (vs.set i (.slice (some ⟨g, 0, none⟩) m k)) (ls.set i l) := by
  have hh := h
  obtain ⟨h1, h2, h3, h4⟩ := h
  rcases h2.2 with ⟨e, _⟩ | ⟨G', cap, cur, e, hB, hG, q1, q2, q3, q4⟩
  · cases e
  · simp only [Value.slice.injEq, Option.some.injEq, Addr.mk.injEq, and_true] at e
    obtain ⟨rfl, rfl, rfl⟩ := e
    have hother : ∀ q, q ≠ G → (w.setCell ⟨G, i, none⟩ (.slice (some ⟨g, 0, none⟩) m k)).heap[q]? = w.heap[q]? := fun q hq => Below.heap_setCell _ _ _ _ (fun e => hq e)
    obtain ⟨cg, hg, _⟩ := own_heap ho rfl
    refine ⟨by simp [h1], ?_, fun j u d hj hd => ?_, fun a b u u' q ha hb hu hu' => ?_⟩
    · rw [List.length_set]
      refine ⟨by simp [h2.1], .inr ⟨G, c, cur.setIfInBounds i (.slice (some ⟨g, 0, none⟩) m k), rfl, hB, setCell_heap hG, q1, q2, by simpa using q3, ?_⟩⟩
      rw [← q4, Array.toList_setIfInBounds, List.take_set]
    · by_cases hij : i = j
      · subst hij
        rw [List.getElem?_set_self hi] at hd
        rw [List.getElem?_set_self (by rw [h1]; exact hi)] at hj
        obtain rfl := Option.some.inj hd
        obtain rfl := Option.some.inj hj
        exact ⟨own_keep ho (fun q e => hother q (fun e' => by
          simp only [Value.ownBlock, Option.some.injEq] at e
          exact ne_of_type hG hg (by decide) (by rw [← e', e]))), hU⟩
      · rw [List.getElem?_set_ne hij] at hd hj
        obtain ⟨z1, z2⟩ := h3 j u d hj hd
        exact ⟨own_keep z1 (fun q e => hother q (fun e' => hh.ne hj e (by rw [e']; rfl))), z2⟩
    · by_cases hia : i = a <;> by_cases hib : i = b
      · omega
      · subst hia
        rw [List.getElem?_set_self (by rw [h1]; exact hi)] at ha
        rw [List.getElem?_set_ne hib] at hb
        obtain rfl := Option.some.inj ha
        simp only [Value.ownBlock, Option.some.injEq] at hu
        subst hu
        exact absurd hu' (hf b u' hb)
      · subst hib
        rw [List.getElem?_set_self (by rw [h1]; exact hi)] at hb
        rw [List.getElem?_set_ne hia] at ha
        obtain rfl := Option.some.inj hb
        simp only [Value.ownBlock, Option.some.injEq] at hu'
        subst hu'
        exact absurd hu (hf a u ha)
      · rw [List.getElem?_set_ne hia] at ha
        rw [List.getElem?_set_ne hib] at hb
        exact h4 a b u u' q ha hb hu hu'
/-- a row put behind the others -/
theorem push (h : Tab B w v vs ls) {u v' : Value} {l : List Int} (ho : w.ownsRow B 23 1 u l.length (l.map (.int .u32))) (hU : ∀ x ∈ l, U32 x) (hf : ∀ (j : Nat) (u' : Value) (k : Nat), vs[j]? = some u' → u'.ownBlock = some k → u.ownBlock ≠ some k)
    (hv : w'.ownsRow B 90 1 v' (ls.length + 1) (vs ++ [u])) (hg : w.grownBy w' v.ownBlock) : Tab B w' v' (vs ++ [u]) (ls ++ [l]) := by
  have hh := h
  obtain ⟨h1, h2, h3, h4⟩ := h
  have hu : ∀ k, u.ownBlock = some k → some k ≠ v.ownBlock := fun k e e' => by
    obtain ⟨c1, g1, _⟩ := own_heap ho e
    obtain ⟨c2, g2, _⟩ := own_heap h2 e'.symm
    exact ne_of_type g1 g2 (by decide) rfl
  refine ⟨by simp [h1], by rw [List.length_append]; exact hv, fun i x d hi hd => ?_, fun a b x y k ha hb hx hy => ?_⟩
  · rcases Nat.lt_or_ge i ls.length with hlt | hge
    · rw [List.getElem?_append_left (by omega)] at hi
      rw [List.getElem?_append_left hlt] at hd
      obtain ⟨z1, z2⟩ := h3 i x d hi hd
      exact ⟨own_keep z1 (fun k e => hg.block k (own_lt z1 e) (fun e' => hh.ne hi e e'.symm)), z2⟩
    · have hi2 := (List.getElem?_eq_some_iff.1 hi).1
      simp at hi2
      obtain rfl : i = ls.length := by omega
      rw [List.getElem?_append_right (by omega)] at hi hd
      simp [h1] at hi hd
      subst hi hd
      exact ⟨own_keep ho (fun k e => hg.block k (own_lt ho e) (hu k e)), hU⟩
  · rcases Nat.lt_or_ge a vs.length with ha1 | ha1 <;> rcases Nat.lt_or_ge b vs.length with hb1 | hb1
    · rw [List.getElem?_append_left ha1] at ha
      rw [List.getElem?_append_left hb1] at hb
      exact h4 a b x y k ha hb hx hy
    · have hb2 := (List.getElem?_eq_some_iff.1 hb).1
      simp at hb2
      rw [List.getElem?_append_left ha1] at ha
      rw [List.getElem?_append_right hb1, show b - vs.length = 0 by omega] at hb
      simp at hb; subst hb
      exact absurd hy (hf a x k ha hx)
    · have ha2 := (List.getElem?_eq_some_iff.1 ha).1
      simp at ha2
      rw [List.getElem?_append_left hb1] at hb
      rw [List.getElem?_append_right ha1, show a - vs.length = 0 by omega] at ha
      simp at ha; subst ha
      exact absurd hx (hf b y k hb hy)
    · have ha2 := (List.getElem?_eq_some_iff.1 ha).1
      have hb2 := (List.getElem?_eq_some_iff.1 hb).1
      simp at ha2 hb2
      omega
/-- a value laid into a row -/
theorem setCell (h : Tab B w v vs ls) {i j g n c : Nat} {l : List Int} {x : Int} (hu : vs[i]? = some (.slice (some ⟨g, 0, none⟩) n c)) (hl : ls[i]? = some l) (hx : U32 x) : Tab B (w.setCell ⟨g, j, none⟩ (.int .u32 x)) v vs (ls.set i (l.set j x)) := by
  obtain ⟨u, hu', ho, hU⟩ := h.row hl
  obtain rfl := Option.some.inj (hu.symm.trans hu')
  refine h.rowTo hu hl (fun k hk _ => Below.heap_setCell _ _ _ _ (fun e => hk e)) ?_ (fun y hy => ?_)
  · rcases ho.2 with ⟨e, _⟩ | ⟨g', cap, cur, e, hB, hG, q1, q2, q3, q4⟩
    · cases e
    · simp only [Value.slice.injEq, Option.some.injEq, Addr.mk.injEq, and_true] at e
      obtain ⟨rfl, rfl, rfl⟩ := e
      refine ⟨by simp, .inr ⟨g, c, cur.setIfInBounds j (.int .u32 x), ?_, hB, setCell_heap hG, by simpa using q1, q2, by simpa using q3, ?_⟩⟩
      · simp
      · rw [List.length_set, List.map_set, ← q4, Array.toList_setIfInBounds, List.take_set]
  · rcases List.mem_or_eq_of_mem_set hy with hy | rfl
    · exact hU y hy
    · exact hx
end Tab
end Go.Proofs.Ytnmamcplbeiehaa
