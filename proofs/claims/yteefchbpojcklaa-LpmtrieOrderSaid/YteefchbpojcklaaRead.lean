/- What is known of a value that came in and can be read as data: its cells, part by part. No program in sight, no condition. -/
import Derived.Test.YteefchbpojcklaaBase
import Derived.ProofKit
import Derived.OpenShut
namespace Go.Proofs.Yteefchbpojcklaa
open Go.RowKit

/-- the cells cs can be read at type t -/
def Rd (P : Program) (W : World) (t : TypeId) (cs : List Value) : Prop :=
  ∃ (H : Type) (enc : TypeId × Value → H) (spare : Nat → Bool) (held : Bool) (fuel : Nat) (x : DataW H × List MemPlace), DataW.trod enc P W 0 spare held fuel t cs = some x

theorem Rd.of {P : Program} {W : World} {t : TypeId} {v : Value} {H : Type} {enc : TypeId × Value → H} {d : DataW H} {ps : List MemPlace} (h : DataW.Trod enc P W 0 (fun _ => true) true t v d ps) : Rd P W t v.cells.toList := by
  obtain ⟨fuel, hf⟩ := h
  exact ⟨H, enc, _, _, fuel, _, hf⟩

theorem mapM_get {α β : Type} {f : α → Option β} : ∀ {l : List α} {xs : List β}, l.mapM f = some xs → xs.length = l.length ∧ ∀ (i : Nat) (a : α), l[i]? = some a → f a = xs[i]?
  | [], xs, h => by
    simp only [List.mapM_nil] at h
    obtain rfl := Option.some.inj h.symm
    exact ⟨rfl, fun i a hi => by simp at hi⟩
  | a :: l, xs, h => by
    rw [List.mapM_cons] at h
    cases hf : f a with
    | none => rw [hf] at h; cases h
    | some b =>
      cases hl : l.mapM f with
      | none => rw [hf, hl] at h; cases h
      | some ys =>
        rw [hf, hl] at h
        obtain rfl := Option.some.inj h.symm
        obtain ⟨h1, h2⟩ := mapM_get hl
        refine ⟨by simp [h1], fun i c hi => ?_⟩
        cases i with
        | zero => simp at hi; subst hi; simpa using hf
        | succ i => simpa using h2 i c (by simpa using hi)

section
variable {P : Program} {W : World} {t : TypeId} {cs : List Value}

theorem Rd.int {k : IntKind} (hu : P.underlying t = some (.int k)) (h : Rd P W t cs) : ∃ n : Int, cs = [.int k n] ∧ (Lit.int k n).wf = true := by
  obtain ⟨H, enc, spare, held, fuel, x, hf⟩ := h
  obtain ⟨n, h1, _, h2⟩ := DataW.trod_int hu hf
  exact ⟨n, h1, h2⟩
theorem Rd.bool (hu : P.underlying t = some .bool) (h : Rd P W t cs) : ∃ b : Bool, cs = [.bool b] := by
  obtain ⟨H, enc, spare, held, fuel, x, hf⟩ := h
  cases fuel with
  | zero => simp [DataW.trod] at hf
  | succ n =>
    unfold DataW.trod at hf; rw [hu] at hf
    split at hf <;> simp_all
theorem Rd.string (hu : P.underlying t = some .string) (h : Rd P W t cs) : ∃ s : ByteArray, cs = [.string s] ∧ s.size ≤ maxLen := by
  obtain ⟨H, enc, spare, held, fuel, x, hf⟩ := h
  cases fuel with
  | zero => simp [DataW.trod] at hf
  | succ n =>
    unfold DataW.trod at hf; rw [hu] at hf
    split at hf <;> simp_all
theorem Rd.struct {fs : Array Field} (hu : P.underlying t = some (.struct fs)) (h : Rd P W t cs) :
    cs.length = P.cellsOf t ∧ ∀ (i : Nat) (f : Field), fs[i]? = some f → Rd P W f.type ((cs.drop f.offset).take (P.cellsOf f.type)) := by
  obtain ⟨H, enc, spare, held, fuel, x, hf⟩ := h
  obtain ⟨xs, n, _, _, hl, hlen, hfi⟩ := DataW.trod_struct hu hf
  refine ⟨hl, fun i f hi => ?_⟩
  have hlt : i < fs.size := (Array.getElem?_eq_some_iff.1 hi).1
  have := hfi i f hi
  rw [List.getElem?_eq_getElem (by omega)] at this
  exact ⟨H, enc, spare, held, n, _, this⟩
theorem Rd.array {n : Nat} {e : TypeId} (hu : P.underlying t = some (.array n e)) (h : Rd P W t cs) :
    cs.length = P.cellsOf t ∧ ∀ i, i < n → Rd P W e ((cs.drop (i * P.cellsOf e)).take (P.cellsOf e)) := by
  obtain ⟨H, enc, spare, held, fuel, x, hf⟩ := h
  cases fuel with
  | zero => simp [DataW.trod] at hf
  | succ m =>
    unfold DataW.trod at hf; rw [hu] at hf
    dsimp only at hf
    split at hf
    · rename_i hl
      refine ⟨hl, fun i hi => ?_⟩
      cases hm : (List.range n).mapM (fun i => DataW.trod enc P W 0 spare held m e ((cs.drop (i * P.cellsOf e)).take (P.cellsOf e))) with
      | none => rw [hm] at hf; simp at hf
      | some xs =>
        obtain ⟨h1, h2⟩ := mapM_get hm
        have h3 := h2 i i (by simp [hi])
        rw [List.getElem?_eq_getElem (by rw [h1]; simpa using hi)] at h3
        exact ⟨H, enc, spare, held, m, _, h3⟩
    · cases hf
theorem cells_get {W : World} {a : Addr} {n : Nat} {row : List Value} (h : W.cells? 0 a n = some row) : row.length = n ∧ ∀ j, j < n → W.cell? (a.add j) = row[j]? := by
  unfold World.cells? at h
  rw [if_pos (Nat.zero_le _)] at h
  obtain ⟨h1, h2⟩ := mapM_get h
  exact ⟨by simpa using h1, fun j hj => h2 j j (by simp [hj])⟩
theorem Rd.slice {e : TypeId} (hu : P.underlying t = some (.slice e)) (h : Rd P W t cs) :
    cs = [.slice none 0 0] ∨ ∃ a len cap, cs = [.slice (some a) len cap] ∧ len ≤ cap ∧ cap ≤ maxLen ∧
      ∀ i, i < len → ∃ row : List Value, row.length = P.cellsOf e ∧ (∀ j, j < P.cellsOf e → W.cell? ((a.add (i * P.cellsOf e)).add j) = row[j]?) ∧ Rd P W e row := by
  obtain ⟨H, enc, spare, held, fuel, x, hf⟩ := h
  rcases DataW.trod_slice hu hf with ⟨h1, _⟩ | ⟨a, len, cap, elems, rest, n, _, h1, _, _, h2, h3, h4, h5, _, _⟩
  · exact .inl h1
  · refine .inr ⟨a, len, cap, h1, h2, h3, fun i hi => ?_⟩
    have h6 := h5 i hi
    rw [List.getElem?_eq_getElem (by omega)] at h6
    cases hc : W.cells? 0 (a.add (i * P.cellsOf e)) (P.cellsOf e) with
    | none => rw [hc] at h6; cases h6
    | some row =>
      rw [hc] at h6
      obtain ⟨g1, g2⟩ := cells_get hc
      exact ⟨row, g1, g2, H, enc, spare, held, n, _, h6⟩
theorem ok_struct {fs : Array Field} {base : Nat} {r : Reach} {v : Value} (hu : P.underlying t = some (.struct fs)) (ok : Value.okWide P W r base t v) : ∃ l : List Value, v = .agg l.toArray ∧ l.length = P.cellsOf t := by
  unfold Value.okWide at ok
  rw [hu] at ok
  obtain ⟨cs, rfl, hs, _⟩ := ok
  exact ⟨cs.toList, by simp, by simpa using hs⟩
theorem ok_array {n : Nat} {e : TypeId} {base : Nat} {r : Reach} {v : Value} (hu : P.underlying t = some (.array n e)) (ok : Value.okWide P W r base t v) : ∃ l : List Value, v = .agg l.toArray ∧ l.length = P.cellsOf t := by
  unfold Value.okWide at ok
  rw [hu] at ok
  obtain ⟨cs, rfl, hs, _⟩ := ok
  exact ⟨cs.toList, by simp, by simpa using hs⟩
end
end Go.Proofs.Yteefchbpojcklaa
