/- Facts that hold in every later world, found by the chain of worlds that the walk has come through; slices of aggregates. No program in sight, no condition. -/
import Derived.Test.YteefchbpojcklaaMem
import Derived.Test.YteefchbpojcklaaTail
import Derived.Test.YteefchbpojcklaaRead
namespace Go.Proofs.Yteefchbpojcklaa
open Go.RowKit

/-- b follows a: nothing that a has was changed -/
class Step (a : outParam World) (b : World) : Prop where
  out : Ext a b
/-- b is reached from a by such steps -/
class Grows (a b : World) : Prop where
  out : Ext a b
instance Grows.same (a : World) : Grows a a := ⟨Ext.refl a⟩
instance (priority := low) Grows.step {a b c : World} [h : Step b c] [g : Grows a b] : Grows a c := ⟨g.out.trans h.out⟩
instance Step.alloc (w : World) (o : Obj) : Step w (w.alloc o) := ⟨(Ext.refl w).alloc o⟩
instance Step.drew (w : World) : Step w w.drew := ⟨(Ext.refl w).drew⟩
instance Step.later {W : World} (x : Later W) : Step W x.val := ⟨x.ext⟩
theorem grows {a b : World} [h : Grows a b] : Ext a b := h.out
theorem grows_le {a b : World} [h : Grows a b] : a.heap.size ≤ b.heap.size := h.out.le

/-- a cell, for good -/
theorem alw {W : World} {p : Addr} {v : Value} (h : W.cell? p = some v) (w : World) [g : Grows W w] : w.cell? p = some v := g.out.cell h
/-- a block, for good -/
theorem alwB {W : World} {k : Nat} {o : Obj} (h : W.heap[k]? = some o) (w : World) [g : Grows W w] : w.heap[k]? = some o := g.out.heap h
/-- a source, for good -/
theorem Src.now {W w : World} {x : Value} {sz m : Nat} {xs : List Value} (h : Src W x sz m xs) [g : Grows W w] : Src w x sz m xs := h.ext g.out
theorem own_now {W w : World} {base : Nat} {e : TypeId} {size : Nat} {v : Value} {n : Nat} {xs : List Value} (h : W.ownsRow base e size v n xs) [g : Grows W w] : w.ownsRow base e size v n xs := own_ext h g.out

/-- a slice of m elements of sz cells each; element i's cells stand in the relation R to the datum ds[i] -/
def Rows {α : Type} (w : World) (sz : Nat) (R : World → List Value → α → Prop) (v : Value) (ds : List α) : Prop :=
  (v = .slice none 0 0 ∧ ds = []) ∨ ∃ ad c, v = .slice (some ad) ds.length c ∧ ds.length ≤ c ∧ c ≤ maxLen ∧ (ds ≠ [] → ad = ⟨ad.block, ad.off, none⟩) ∧
    ∀ i d, ds[i]? = some d → ∃ cs : List Value, cs.length = sz ∧ R w cs d ∧ ∀ j u, cs[j]? = some u → w.cell? ⟨ad.block, ad.off + i * sz + j, none⟩ = some u
theorem Rows.ext {α : Type} {w w' : World} {sz : Nat} {R : World → List Value → α → Prop} {v : Value} {ds : List α} (h : Rows w sz R v ds) (hR : ∀ cs d, R w cs d → R w' cs d) (hx : Ext w w') : Rows w' sz R v ds := by
  rcases h with h | ⟨ad, c, h1, h2, h3, h5, h4⟩
  · exact .inl h
  · exact .inr ⟨ad, c, h1, h2, h3, h5, fun i d hi => by
      obtain ⟨cs, g1, g2, g3⟩ := h4 i d hi
      exact ⟨cs, g1, hR _ _ g2, fun j u hj => hx.cell (g3 j u hj)⟩⟩
theorem Rows.slice {α : Type} {w : World} {sz : Nat} {R : World → List Value → α → Prop} {v : Value} {ds : List α} (h : Rows w sz R v ds) : ∃ oa c, v = .slice oa ds.length c ∧ ds.length ≤ c ∧ c ≤ maxLen := by
  rcases h with ⟨rfl, rfl⟩ | ⟨ad, c, rfl, h2, h3, h4⟩
  · exact ⟨none, 0, rfl, Nat.le_refl _, Nat.zero_le _⟩
  · exact ⟨_, c, rfl, h2, h3⟩
/-- not empty: where it lies -/
theorem Rows.at {α : Type} {w : World} {sz : Nat} {R : World → List Value → α → Prop} {oa : Option Addr} {n c : Nat} {ds : List α} (h : Rows w sz R (.slice oa n c) ds) (hn : 0 < ds.length) : ∃ b o, oa = some ⟨b, o, none⟩ ∧ n = ds.length ∧
    ∀ i d, ds[i]? = some d → ∃ cs : List Value, cs.length = sz ∧ R w cs d ∧ ∀ j u, cs[j]? = some u → w.cell? ⟨b, o + i * sz + j, none⟩ = some u := by
  rcases h with ⟨h, rfl⟩ | ⟨ad, c', h1, h2, h3, h5, h4⟩
  · simp at hn
  · simp only [Value.slice.injEq] at h1
    obtain ⟨rfl, rfl, rfl⟩ := h1
    exact ⟨ad.block, ad.off, by rw [← h5 (List.length_pos_iff.1 hn)], rfl, h4⟩
/-- data for each place of a list -/
theorem choose_list {α : Type} {n : Nat} {p : Nat → α → Prop} (h : ∀ i, i < n → ∃ d, p i d) : ∃ ds : List α, ds.length = n ∧ ∀ i d, ds[i]? = some d → p i d := by
  induction n with
  | zero => exact ⟨[], rfl, fun i d hi => by simp at hi⟩
  | succ n ih =>
    obtain ⟨ds, h1, h2⟩ := ih (fun i hi => h i (by omega))
    obtain ⟨d, hd⟩ := h n (by omega)
    refine ⟨ds ++ [d], by simp [h1], fun i e hi => ?_⟩
    rcases Nat.lt_or_ge i n with hl | hl
    · exact h2 i e (by rw [List.getElem?_append_left (by omega)] at hi; exact hi)
    · have hlt := (List.getElem?_eq_some_iff.1 hi).1
      simp at hlt
      obtain rfl : i = n := by omega
      rw [List.getElem?_append_right (by omega)] at hi
      simp [h1] at hi
      subst hi; exact hd
/-- a slice that came in -/
theorem Rd.rows {α : Type} {P : Program} {W : World} {t e : TypeId} {cs : List Value} {sz : Nat} {R : World → List Value → α → Prop} (hu : P.underlying t = some (.slice e)) (hc : P.cellsOf e = sz) (hs : 0 < sz)
    (hR : ∀ row, row.length = sz → Rd P W e row → ∃ d, R W row d) (h : Rd P W t cs) : ∃ v ds, cs = [v] ∧ Rows W sz R v ds := by
  rcases h.slice hu with rfl | ⟨a, len, cap, rfl, h1, h2, h3⟩
  · exact ⟨_, [], rfl, .inl ⟨rfl, rfl⟩⟩
  · rw [hc] at h3
    obtain ⟨ds, g1, g2⟩ := choose_list (α := α) (n := len) (p := fun i d => ∃ row : List Value, row.length = sz ∧ R W row d ∧ ∀ j, j < sz → W.cell? ((a.add (i * sz)).add j) = row[j]?) (fun i hi => by
      obtain ⟨row, k1, k2, k3⟩ := h3 i hi
      obtain ⟨d, hd⟩ := hR row k1 k3
      exact ⟨d, row, k1, hd, k2⟩)
    have hsp : ds ≠ [] → a = ⟨a.block, a.off, none⟩ := by
      intro hne
      have hpos := List.length_pos_iff.2 hne
      obtain ⟨row, k1, _, k3⟩ := g2 0 ds[0] (by simp)
      have k4 := k3 0 hs
      rw [List.getElem?_eq_getElem (by omega)] at k4
      have : a.spot = none := by simpa [Addr.add] using World.cell?_spot k4
      cases a; simp_all
    subst g1
    refine ⟨_, ds, rfl, .inr ⟨a, cap, rfl, h1, h2, hsp, fun i d hi => ?_⟩⟩
    obtain ⟨row, k1, k2, k3⟩ := g2 i d hi
    refine ⟨row, k1, k2, fun j u hj => ?_⟩
    have hjs : j < sz := by rw [← k1]; exact (List.getElem?_eq_some_iff.1 hj).1
    have k4 := k3 j hjs
    rw [hsp (by intro h0; subst h0; simp at hi), add_mk, add_mk, hj] at k4
    exact k4
end Go.Proofs.Yteefchbpojcklaa
