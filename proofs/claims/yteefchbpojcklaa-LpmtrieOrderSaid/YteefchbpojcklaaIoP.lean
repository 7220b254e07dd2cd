/- Pack and Unpack, walked. No condition. -/
import Derived.Test.YteefchbpojcklaaIoA
namespace Go.Proofs.Yteefchbpojcklaa
open Go.RowKit

namespace Io
def comb (acc : List Int) (r : Int × List Int × Nat) : Int × List Int × Nat := if r.1 = 0 then (0, acc ++ r.2.1, r.2.2) else (r.1, [], 0)
theorem comb_nil (l ws : List Int) (pos : Nat) : comb [] (getAll l ws pos) = getAll l ws pos := by
  unfold comb
  have : (getAll l ws pos).1 ≠ 0 → getAll l ws pos = ((getAll l ws pos).1, [], 0) := by
    cases ws with
    | nil => intro h; exact absurd rfl h
    | cons w ws =>
      intro h
      unfold getAll at h ⊢
      dsimp only at h ⊢
      split
      · rename_i h0
        simp only [h0, if_true] at h
        split
        · rename_i h1; rw [if_pos h1] at h; exact absurd rfl h
        · rfl
      · rfl
  split
  · rename_i h; rw [List.nil_append]
    conv => rhs; rw [← Prod.eta (getAll l ws pos)]
    rw [h]
  · rename_i h; exact (this h).symm
theorem comb_step {l : List Int} {pos : Nat} {w : Int} (ws acc : List Int) (h : rdE l pos w = 0) : comb acc (getAll l (w :: ws) pos) = comb (acc ++ [rdV l pos w]) (getAll l ws (rdP l pos w)) := by
  conv => lhs; unfold getAll
  rw [if_pos h]
  unfold comb
  by_cases h1 : (getAll l ws (rdP l pos w)).1 = 0
  · simp [h1]
  · simp [h1]
theorem comb_fail {l : List Int} {pos : Nat} {w : Int} (ws acc : List Int) (h : rdE l pos w ≠ 0) : comb acc (getAll l (w :: ws) pos) = (rdE l pos w, [], 0) := by
  unfold getAll comb
  rw [if_neg h]; simp [h]
end Io

def u32s (l : List Int) : List Value := l.map (.int .u32)
def i64s (l : List Int) : List Value := l.map (.int .i64)
theorem u32s_get {l : List Int} {j : Nat} {x : Int} (h : l[j]? = some x) : (u32s l)[j]? = some (.int .u32 x) := by simp [u32s, h]
theorem i64s_get {l : List Int} {j : Nat} {x : Int} (h : l[j]? = some x) : (i64s l)[j]? = some (.int .i64 x) := by simp [i64s, h]
theorem drop_cons {α : Type} {l : List α} {k : Nat} {x : α} (h : l[k]? = some x) : l.drop k = x :: l.drop (k + 1) := by
  obtain ⟨hk, rfl⟩ := List.getElem?_eq_some_iff.1 h
  exact List.drop_eq_getElem_cons hk
theorem Ext.mod {S : Nat → Prop} {a b c : World} (h : Ext a b) (k : Mod S b c) (hs : ∀ q, S q → a.heap.size ≤ q) : Ext a c :=
  ⟨k.os.trans h.os, k.tape.trans h.tape, k.output.trans h.output, Nat.le_trans h.size k.size,
    fun i hi => (k.block i (Nat.lt_of_lt_of_le hi h.size) (fun hS => by have := hs i hS; omega)).trans (h.block i hi)⟩

theorem info_u32 : (Try.prog.info? 23).map (fun i => (i.zero, i.size, i.bytes)) = some (some (.int .u32 0), 1, 4) := by kernel_rfl
theorem u32s_one (l : List Int) : ∀ u ∈ u32s l, u.oneCell' = true := by
  intro u hu; obtain ⟨x, _, rfl⟩ := List.mem_map.1 hu; rfl
theorem own_type {w : World} {base : Nat} {e : TypeId} {size : Nat} {v : Value} {n : Nat} {xs : List Value} (h : w.ownsRow base e size v n xs) {g : Nat} (hg : v.ownBlock = some g) : ∃ cur, w.heap[g]? = some (.cells cur e (0, 0)) := by
  rcases h.2 with ⟨rfl, _⟩ | ⟨g', cap, cur, rfl, _, hh, _⟩
  · simp [Value.ownBlock] at hg
  · simp [Value.ownBlock] at hg; subst hg; exact ⟨cur, hh⟩
end Go.Proofs.Yteefchbpojcklaa
