/- The deparser: the example of the chapter, walked. No condition. -/
import Derived.Test.YtonnlcjkgpahoaaDp6
import Derived.Test.YtonnlcjkgpahoaaHdW
namespace Go.Proofs.Ytonnlcjkgpahoaa
open Go.RowKit

namespace Dp
def tower (W : World) (os : List Obj) : World := os.foldl World.alloc W
theorem tower_heap : ∀ {os : List Obj} {W : World} {i : Nat} {o : Obj}, os[i]? = some o → (tower W os).heap[W.heap.size + i]? = some o
  | [], _, _, _, h => by simp at h
  | x :: os, W, 0, o, h => by
    simp only [List.getElem?_cons_zero, Option.some.injEq] at h
    subst h
    have h1 : Ext (W.alloc x) (tower (W.alloc x) os) := tower_ext os _
    exact h1.heap (alloc_heap W x)
  | x :: os, W, i + 1, o, h => by
    simp only [List.getElem?_cons_succ] at h
    have := tower_heap (W := W.alloc x) h
    rw [World.size_alloc] at this
    rw [show W.heap.size + (i + 1) = W.heap.size + 1 + i by omega]; exact this
where
  tower_ext : ∀ (os : List Obj) (W : World), Ext W (tower W os)
    | [], W => Ext.refl W
    | x :: os, W => ((Ext.refl W).alloc x).trans (tower_ext os (W.alloc x))
def hA : Hd.Hdr := (⟨#[97]⟩, [(⟨#[120]⟩, 8)])
def hB : Hd.Hdr := (⟨#[98]⟩, [(⟨#[121]⟩, 4), (⟨#[122]⟩, 4)])
def p0 : Pg.Prog := ⟨[hA, hB], [], [1, 0]⟩
def q0 : Pg.Prog := ⟨[hA, hB], [], [1, 1]⟩
def e0 : Pg.Env := ⟨[true, true], [[1], [2, 3]], [], [9]⟩
def d0 : Pg.Env := ⟨[true, false], [[1], [0, 0]], [], [9]⟩
theorem k_q0 : chk q0 = (1, 7) := by decide +kernel
theorem k_p0 : chk p0 = (0, 0) := by decide +kernel
theorem k_e0 : emit p0 e0 = [35, 1, 9] := by decide +kernel
theorem k_d0 : emit p0 d0 = [1, 9] := by decide +kernel
theorem k_hs : ∀ d ∈ hA.2 ++ hB.2, d.1.size ≤ maxLen ∧ -9223372036854775808 ≤ d.2 ∧ d.2 ≤ 9223372036854775807 := by
  intro d hd; simp [hA, hB] at hd; rcases hd with rfl | rfl | rfl <;> decide
theorem ns_new {w : World} {B c : Nat} {t : TypeId} {f : Nat × Nat} {k : IntKind} (l : List Int) (hb : w.heap[B]? = some (.cells (l.map (Value.int k)).toArray t f)) (h2 : l.length ≤ maxLen) : Ns k w (.slice (some ⟨B, 0, none⟩) l.length c) l :=
  ⟨⟨by simp, by intro u hu; simp at hu; obtain ⟨x, _, rfl⟩ := hu; rfl, .inr ⟨⟨B, 0, none⟩, c, rfl, fun j u hj => by
    rw [show (⟨B, 0, none⟩ : Addr).add j = ⟨B, j, none⟩ by simp [Addr.add]; exact fun h => h.symm]
    rw [cell_of hb, List.getElem?_toArray, hj]⟩⟩, h2⟩
theorem bs_new {w : World} {B c : Nat} {t : TypeId} {f : Nat × Nat} (l : List Bool) (hb : w.heap[B]? = some (.cells (l.map Value.bool).toArray t f)) (h2 : l.length ≤ maxLen) : Bs w (.slice (some ⟨B, 0, none⟩) l.length c) l :=
  ⟨⟨by simp, by intro u hu; simp at hu; rcases hu with ⟨_, rfl⟩ | ⟨_, rfl⟩ <;> rfl, .inr ⟨⟨B, 0, none⟩, c, rfl, fun j u hj => by
    rw [show (⟨B, 0, none⟩ : Addr).add j = ⟨B, j, none⟩ by simp [Addr.add]; exact fun h => h.symm]
    rw [cell_of hb, List.getElem?_toArray, hj]⟩⟩, h2⟩
/-- two of something, in a block of sz cells each -/
theorem rows_two {α : Type} {w : World} {B sz : Nat} {t : TypeId} {f : Nat × Nat} {R : World → List Value → α → Prop} {a b : α} (u v : List Value) (hu : u.length = sz) (hv : v.length = sz) (ha : R w u a) (hb' : R w v b) (hb : w.heap[B]? = some (.cells (u ++ v).toArray t f)) :
    Rows w sz R (.slice (some ⟨B, 0, none⟩) 2 2) [a, b] :=
  .inr ⟨⟨B, 0, none⟩, 2, rfl, Nat.le_refl _, by unfold maxLen; omega, fun _ => rfl, fun i d hi => by
    match i, hi with
    | 0, hi =>
      simp only [List.getElem?_cons_zero, Option.some.injEq] at hi
      subst hi
      refine ⟨u, hu, ha, fun j x hj => ?_⟩
      rw [cell_of hb, List.getElem?_toArray, Nat.zero_add, Nat.zero_mul, Nat.zero_add, List.getElem?_append_left (List.getElem?_eq_some_iff.1 hj).1, hj]
    | 1, hi =>
      simp only [List.getElem?_cons_succ, List.getElem?_cons_zero, Option.some.injEq] at hi
      subst hi
      refine ⟨v, hv, hb', fun j x hj => ?_⟩
      rw [cell_of hb, List.getElem?_toArray, List.getElem?_append_right (by omega), ← hj]
      congr 1; dsimp only; omega
    | i + 2, hi => simp at hi⟩
end Dp

set_option maxRecDepth 8000 in
set_option maxHeartbeats 1000000 in
theorem dawake_any (W : World) : Calls Try.prog 13 #[] W (Rets W (.bool true)) := by
  obtain ⟨OS, hOS⟩ : ∃ OS : List Obj, OS = [(.cells #[.string ⟨#[120]⟩, .int .i64 8] 84), (.cells #[.string ⟨#[121]⟩, .int .i64 4, .string ⟨#[122]⟩, .int .i64 4] 84), (.cells #[.string ⟨#[97]⟩, .slice (some ⟨W.heap.size, 0, none⟩) 1 1, .string ⟨#[98]⟩, .slice (some ⟨W.heap.size + 1, 0, none⟩) 2 2] 72), (.cells #[.int .i64 1, .int .i64 0] 3), (.cells #[.string ⟨#[]⟩, .slice (some ⟨W.heap.size + 1 + 1, 0, none⟩) 2 2, .slice none 0 0, .slice none 0 0, .slice none 0 0, .slice none 0 0, .slice none 0 0, .slice none 0 0, .slice (some ⟨W.heap.size + 1 + 1 + 1, 0, none⟩) 2 2] 31), (.cells #[.bool true, .bool true] 4), (.cells #[.int .u32 1] 64), (.cells #[.int .u32 2, .int .u32 3] 64), (.cells #[.slice (some ⟨W.heap.size + 1 + 1 + 1 + 1 + 1 + 1, 0, none⟩) 1 1, .slice (some ⟨W.heap.size + 1 + 1 + 1 + 1 + 1 + 1 + 1, 0, none⟩) 2 2] 34), (.cells #[.int .u8 9] 5), (.cells #[.slice (some ⟨W.heap.size + 1 + 1 + 1 + 1 + 1, 0, none⟩) 2 2, .slice (some ⟨W.heap.size + 1 + 1 + 1 + 1 + 1 + 1 + 1 + 1, 0, none⟩) 2 2, .slice none 0 0, .slice (some ⟨W.heap.size + 1 + 1 + 1 + 1 + 1 + 1 + 1 + 1 + 1, 0, none⟩) 1 1] 37), (.cells #[.bool true, .bool false] 4), (.cells #[.int .u32 1] 64), (.cells #[.int .u32 0, .int .u32 0] 64), (.cells #[.slice (some ⟨W.heap.size + 1 + 1 + 1 + 1 + 1 + 1 + 1 + 1 + 1 + 1 + 1 + 1, 0, none⟩) 1 1, .slice (some ⟨W.heap.size + 1 + 1 + 1 + 1 + 1 + 1 + 1 + 1 + 1 + 1 + 1 + 1 + 1, 0, none⟩) 2 2] 34), (.cells #[.int .u8 9] 5), (.cells #[.slice (some ⟨W.heap.size + 1 + 1 + 1 + 1 + 1 + 1 + 1 + 1 + 1 + 1 + 1, 0, none⟩) 2 2, .slice (some ⟨W.heap.size + 1 + 1 + 1 + 1 + 1 + 1 + 1 + 1 + 1 + 1 + 1 + 1 + 1 + 1, 0, none⟩) 2 2, .slice none 0 0, .slice (some ⟨W.heap.size + 1 + 1 + 1 + 1 + 1 + 1 + 1 + 1 + 1 + 1 + 1 + 1 + 1 + 1 + 1, 0, none⟩) 1 1] 37), (.cells #[.string ⟨#[]⟩, .slice (some ⟨W.heap.size + 1 + 1, 0, none⟩) 2 2, .slice none 0 0, .slice none 0 0, .slice none 0 0, .slice none 0 0, .slice none 0 0, .slice none 0 0, .slice (some ⟨W.heap.size + 1 + 1 + 1 + 1 + 1 + 1 + 1 + 1 + 1 + 1 + 1 + 1 + 1 + 1 + 1 + 1 + 1 + 1, 0, none⟩) 2 2] 31), (.cells #[.int .i64 1, .int .i64 1] 3)] := ⟨_, rfl⟩
  obtain ⟨W2, hW2⟩ : ∃ W2, W2 = Dp.tower W OS := ⟨_, rfl⟩
  have hx2 : Ext W W2 := by rw [hW2]; exact Dp.tower_heap.tower_ext OS W
  have HTW : Hid (W2 = (((((((((((((((((((W.alloc (.cells #[.string ⟨#[120]⟩, .int .i64 8] 84)).alloc (.cells #[.string ⟨#[121]⟩, .int .i64 4, .string ⟨#[122]⟩, .int .i64 4] 84)).alloc (.cells #[.string ⟨#[97]⟩, .slice (some ⟨W.heap.size, 0, none⟩) 1 1, .string ⟨#[98]⟩, .slice (some ⟨W.heap.size + 1, 0, none⟩) 2 2] 72)).alloc (.cells #[.int .i64 1, .int .i64 0] 3)).alloc (.cells #[.string ⟨#[]⟩, .slice (some ⟨W.heap.size + 1 + 1, 0, none⟩) 2 2, .slice none 0 0, .slice none 0 0, .slice none 0 0, .slice none 0 0, .slice none 0 0, .slice none 0 0, .slice (some ⟨W.heap.size + 1 + 1 + 1, 0, none⟩) 2 2] 31)).alloc (.cells #[.bool true, .bool true] 4)).alloc (.cells #[.int .u32 1] 64)).alloc (.cells #[.int .u32 2, .int .u32 3] 64)).alloc (.cells #[.slice (some ⟨W.heap.size + 1 + 1 + 1 + 1 + 1 + 1, 0, none⟩) 1 1, .slice (some ⟨W.heap.size + 1 + 1 + 1 + 1 + 1 + 1 + 1, 0, none⟩) 2 2] 34)).alloc (.cells #[.int .u8 9] 5)).alloc (.cells #[.slice (some ⟨W.heap.size + 1 + 1 + 1 + 1 + 1, 0, none⟩) 2 2, .slice (some ⟨W.heap.size + 1 + 1 + 1 + 1 + 1 + 1 + 1 + 1, 0, none⟩) 2 2, .slice none 0 0, .slice (some ⟨W.heap.size + 1 + 1 + 1 + 1 + 1 + 1 + 1 + 1 + 1, 0, none⟩) 1 1] 37)).alloc (.cells #[.bool true, .bool false] 4)).alloc (.cells #[.int .u32 1] 64)).alloc (.cells #[.int .u32 0, .int .u32 0] 64)).alloc (.cells #[.slice (some ⟨W.heap.size + 1 + 1 + 1 + 1 + 1 + 1 + 1 + 1 + 1 + 1 + 1 + 1, 0, none⟩) 1 1, .slice (some ⟨W.heap.size + 1 + 1 + 1 + 1 + 1 + 1 + 1 + 1 + 1 + 1 + 1 + 1 + 1, 0, none⟩) 2 2] 34)).alloc (.cells #[.int .u8 9] 5)).alloc (.cells #[.slice (some ⟨W.heap.size + 1 + 1 + 1 + 1 + 1 + 1 + 1 + 1 + 1 + 1 + 1, 0, none⟩) 2 2, .slice (some ⟨W.heap.size + 1 + 1 + 1 + 1 + 1 + 1 + 1 + 1 + 1 + 1 + 1 + 1 + 1 + 1, 0, none⟩) 2 2, .slice none 0 0, .slice (some ⟨W.heap.size + 1 + 1 + 1 + 1 + 1 + 1 + 1 + 1 + 1 + 1 + 1 + 1 + 1 + 1 + 1, 0, none⟩) 1 1] 37)).alloc (.cells #[.string ⟨#[]⟩, .slice (some ⟨W.heap.size + 1 + 1, 0, none⟩) 2 2, .slice none 0 0, .slice none 0 0, .slice none 0 0, .slice none 0 0, .slice none 0 0, .slice none 0 0, .slice (some ⟨W.heap.size + 1 + 1 + 1 + 1 + 1 + 1 + 1 + 1 + 1 + 1 + 1 + 1 + 1 + 1 + 1 + 1 + 1 + 1, 0, none⟩) 2 2] 31)).alloc (.cells #[.int .i64 1, .int .i64 1] 3))) := Lib.hid (by rw [hW2, hOS]; simp only [Dp.tower, List.foldl])
  have hb0 : W2.heap[W.heap.size]? = some (.cells #[.string ⟨#[120]⟩, .int .i64 8] 84) := by rw [hW2]; exact Dp.tower_heap (os := OS) (i := 0) (by rw [hOS]; rfl)
  have hb1 : W2.heap[W.heap.size + 1]? = some (.cells #[.string ⟨#[121]⟩, .int .i64 4, .string ⟨#[122]⟩, .int .i64 4] 84) := by rw [hW2]; exact Dp.tower_heap (os := OS) (i := 1) (by rw [hOS]; rfl)
  have hb2 : W2.heap[W.heap.size + 1 + 1]? = some (.cells #[.string ⟨#[97]⟩, .slice (some ⟨W.heap.size, 0, none⟩) 1 1, .string ⟨#[98]⟩, .slice (some ⟨W.heap.size + 1, 0, none⟩) 2 2] 72) := by rw [hW2]; exact Dp.tower_heap (os := OS) (i := 2) (by rw [hOS]; rfl)
  have hb3 : W2.heap[W.heap.size + 1 + 1 + 1]? = some (.cells #[.int .i64 1, .int .i64 0] 3) := by rw [hW2]; exact Dp.tower_heap (os := OS) (i := 3) (by rw [hOS]; rfl)
  have hb4 : W2.heap[W.heap.size + 1 + 1 + 1 + 1]? = some (.cells #[.string ⟨#[]⟩, .slice (some ⟨W.heap.size + 1 + 1, 0, none⟩) 2 2, .slice none 0 0, .slice none 0 0, .slice none 0 0, .slice none 0 0, .slice none 0 0, .slice none 0 0, .slice (some ⟨W.heap.size + 1 + 1 + 1, 0, none⟩) 2 2] 31) := by rw [hW2]; exact Dp.tower_heap (os := OS) (i := 4) (by rw [hOS]; rfl)
  have hb5 : W2.heap[W.heap.size + 1 + 1 + 1 + 1 + 1]? = some (.cells #[.bool true, .bool true] 4) := by rw [hW2]; exact Dp.tower_heap (os := OS) (i := 5) (by rw [hOS]; rfl)
  have hb6 : W2.heap[W.heap.size + 1 + 1 + 1 + 1 + 1 + 1]? = some (.cells #[.int .u32 1] 64) := by rw [hW2]; exact Dp.tower_heap (os := OS) (i := 6) (by rw [hOS]; rfl)
  have hb7 : W2.heap[W.heap.size + 1 + 1 + 1 + 1 + 1 + 1 + 1]? = some (.cells #[.int .u32 2, .int .u32 3] 64) := by rw [hW2]; exact Dp.tower_heap (os := OS) (i := 7) (by rw [hOS]; rfl)
  have hb8 : W2.heap[W.heap.size + 1 + 1 + 1 + 1 + 1 + 1 + 1 + 1]? = some (.cells #[.slice (some ⟨W.heap.size + 1 + 1 + 1 + 1 + 1 + 1, 0, none⟩) 1 1, .slice (some ⟨W.heap.size + 1 + 1 + 1 + 1 + 1 + 1 + 1, 0, none⟩) 2 2] 34) := by rw [hW2]; exact Dp.tower_heap (os := OS) (i := 8) (by rw [hOS]; rfl)
  have hb9 : W2.heap[W.heap.size + 1 + 1 + 1 + 1 + 1 + 1 + 1 + 1 + 1]? = some (.cells #[.int .u8 9] 5) := by rw [hW2]; exact Dp.tower_heap (os := OS) (i := 9) (by rw [hOS]; rfl)
  have hb10 : W2.heap[W.heap.size + 1 + 1 + 1 + 1 + 1 + 1 + 1 + 1 + 1 + 1]? = some (.cells #[.slice (some ⟨W.heap.size + 1 + 1 + 1 + 1 + 1, 0, none⟩) 2 2, .slice (some ⟨W.heap.size + 1 + 1 + 1 + 1 + 1 + 1 + 1 + 1, 0, none⟩) 2 2, .slice none 0 0, .slice (some ⟨W.heap.size + 1 + 1 + 1 + 1 + 1 + 1 + 1 + 1 + 1, 0, none⟩) 1 1] 37) := by rw [hW2]; exact Dp.tower_heap (os := OS) (i := 10) (by rw [hOS]; rfl)
  have hb11 : W2.heap[W.heap.size + 1 + 1 + 1 + 1 + 1 + 1 + 1 + 1 + 1 + 1 + 1]? = some (.cells #[.bool true, .bool false] 4) := by rw [hW2]; exact Dp.tower_heap (os := OS) (i := 11) (by rw [hOS]; rfl)
  have hb12 : W2.heap[W.heap.size + 1 + 1 + 1 + 1 + 1 + 1 + 1 + 1 + 1 + 1 + 1 + 1]? = some (.cells #[.int .u32 1] 64) := by rw [hW2]; exact Dp.tower_heap (os := OS) (i := 12) (by rw [hOS]; rfl)
  have hb13 : W2.heap[W.heap.size + 1 + 1 + 1 + 1 + 1 + 1 + 1 + 1 + 1 + 1 + 1 + 1 + 1]? = some (.cells #[.int .u32 0, .int .u32 0] 64) := by rw [hW2]; exact Dp.tower_heap (os := OS) (i := 13) (by rw [hOS]; rfl)
  have hb14 : W2.heap[W.heap.size + 1 + 1 + 1 + 1 + 1 + 1 + 1 + 1 + 1 + 1 + 1 + 1 + 1 + 1]? = some (.cells #[.slice (some ⟨W.heap.size + 1 + 1 + 1 + 1 + 1 + 1 + 1 + 1 + 1 + 1 + 1 + 1, 0, none⟩) 1 1, .slice (some ⟨W.heap.size + 1 + 1 + 1 + 1 + 1 + 1 + 1 + 1 + 1 + 1 + 1 + 1 + 1, 0, none⟩) 2 2] 34) := by rw [hW2]; exact Dp.tower_heap (os := OS) (i := 14) (by rw [hOS]; rfl)
  have hb15 : W2.heap[W.heap.size + 1 + 1 + 1 + 1 + 1 + 1 + 1 + 1 + 1 + 1 + 1 + 1 + 1 + 1 + 1]? = some (.cells #[.int .u8 9] 5) := by rw [hW2]; exact Dp.tower_heap (os := OS) (i := 15) (by rw [hOS]; rfl)
  have hb16 : W2.heap[W.heap.size + 1 + 1 + 1 + 1 + 1 + 1 + 1 + 1 + 1 + 1 + 1 + 1 + 1 + 1 + 1 + 1]? = some (.cells #[.slice (some ⟨W.heap.size + 1 + 1 + 1 + 1 + 1 + 1 + 1 + 1 + 1 + 1 + 1, 0, none⟩) 2 2, .slice (some ⟨W.heap.size + 1 + 1 + 1 + 1 + 1 + 1 + 1 + 1 + 1 + 1 + 1 + 1 + 1 + 1, 0, none⟩) 2 2, .slice none 0 0, .slice (some ⟨W.heap.size + 1 + 1 + 1 + 1 + 1 + 1 + 1 + 1 + 1 + 1 + 1 + 1 + 1 + 1 + 1, 0, none⟩) 1 1] 37) := by rw [hW2]; exact Dp.tower_heap (os := OS) (i := 16) (by rw [hOS]; rfl)
  have hb17 : W2.heap[W.heap.size + 1 + 1 + 1 + 1 + 1 + 1 + 1 + 1 + 1 + 1 + 1 + 1 + 1 + 1 + 1 + 1 + 1]? = some (.cells #[.string ⟨#[]⟩, .slice (some ⟨W.heap.size + 1 + 1, 0, none⟩) 2 2, .slice none 0 0, .slice none 0 0, .slice none 0 0, .slice none 0 0, .slice none 0 0, .slice none 0 0, .slice (some ⟨W.heap.size + 1 + 1 + 1 + 1 + 1 + 1 + 1 + 1 + 1 + 1 + 1 + 1 + 1 + 1 + 1 + 1 + 1 + 1, 0, none⟩) 2 2] 31) := by rw [hW2]; exact Dp.tower_heap (os := OS) (i := 17) (by rw [hOS]; rfl)
  have hb18 : W2.heap[W.heap.size + 1 + 1 + 1 + 1 + 1 + 1 + 1 + 1 + 1 + 1 + 1 + 1 + 1 + 1 + 1 + 1 + 1 + 1]? = some (.cells #[.int .i64 1, .int .i64 1] 3) := by rw [hW2]; exact Dp.tower_heap (os := OS) (i := 18) (by rw [hOS]; rfl)
  have c4_0 := alw (cell_of (o := 0) hb4)
  have c4_1 := alw (cell_of (o := 1) hb4)
  have c4_2 := alw (cell_of (o := 2) hb4)
  have c4_3 := alw (cell_of (o := 3) hb4)
  have c4_4 := alw (cell_of (o := 4) hb4)
  have c4_5 := alw (cell_of (o := 5) hb4)
  have c4_6 := alw (cell_of (o := 6) hb4)
  have c4_7 := alw (cell_of (o := 7) hb4)
  have c4_8 := alw (cell_of (o := 8) hb4)
  have c10_0 := alw (cell_of (o := 0) hb10)
  have c10_1 := alw (cell_of (o := 1) hb10)
  have c10_2 := alw (cell_of (o := 2) hb10)
  have c10_3 := alw (cell_of (o := 3) hb10)
  have c16_0 := alw (cell_of (o := 0) hb16)
  have c16_1 := alw (cell_of (o := 1) hb16)
  have c16_2 := alw (cell_of (o := 2) hb16)
  have c16_3 := alw (cell_of (o := 3) hb16)
  have c17_0 := alw (cell_of (o := 0) hb17)
  have c17_1 := alw (cell_of (o := 1) hb17)
  have c17_2 := alw (cell_of (o := 2) hb17)
  have c17_3 := alw (cell_of (o := 3) hb17)
  have c17_4 := alw (cell_of (o := 4) hb17)
  have c17_5 := alw (cell_of (o := 5) hb17)
  have c17_6 := alw (cell_of (o := 6) hb17)
  have c17_7 := alw (cell_of (o := 7) hb17)
  have c17_8 := alw (cell_of (o := 8) hb17)
  have hfa : Hd.Flds W2 (.slice (some ⟨W.heap.size, 0, none⟩) 1 1) Dp.hA.2 := Hd.flds_new Dp.hA.2 (fun d hd => Dp.k_hs d (List.mem_append_left _ hd)) hb0 (by decide)
  have hfb : Hd.Flds W2 (.slice (some ⟨W.heap.size + 1, 0, none⟩) 2 2) Dp.hB.2 := Hd.flds_new Dp.hB.2 (fun d hd => Dp.k_hs d (List.mem_append_right _ hd)) hb1 (by decide)
  have hhs : Rows W2 2 Hd.HdrR (.slice (some ⟨W.heap.size + 1 + 1, 0, none⟩) 2 2) [Dp.hA, Dp.hB] := Dp.rows_two [.string ⟨#[97]⟩, .slice (some ⟨W.heap.size, 0, none⟩) 1 1] [.string ⟨#[98]⟩, .slice (some ⟨W.heap.size + 1, 0, none⟩) 2 2] rfl rfl ⟨_, rfl, by decide, hfa⟩ ⟨_, rfl, by decide, hfb⟩ hb2
  have hp : Pg.IsP W2 ⟨.string ⟨#[]⟩, .slice (some ⟨W.heap.size + 1 + 1, 0, none⟩) 2 2, .slice none 0 0, .slice none 0 0, .slice none 0 0, .slice none 0 0, .slice none 0 0, .slice none 0 0, .slice (some ⟨W.heap.size + 1 + 1 + 1, 0, none⟩) 2 2⟩ Dp.p0 := ⟨⟨_, rfl⟩, hhs, Hd.flds_nil _, ⟨_, _, _, rfl⟩, ⟨_, _, _, rfl⟩, ⟨_, _, _, rfl⟩, ⟨_, _, _, rfl⟩, ⟨_, _, _, rfl⟩, Dp.ns_new [1, 0] hb3 (by decide)⟩
  have hq : Pg.IsP W2 ⟨.string ⟨#[]⟩, .slice (some ⟨W.heap.size + 1 + 1, 0, none⟩) 2 2, .slice none 0 0, .slice none 0 0, .slice none 0 0, .slice none 0 0, .slice none 0 0, .slice none 0 0, .slice (some ⟨W.heap.size + 1 + 1 + 1 + 1 + 1 + 1 + 1 + 1 + 1 + 1 + 1 + 1 + 1 + 1 + 1 + 1 + 1 + 1, 0, none⟩) 2 2⟩ Dp.q0 := ⟨⟨_, rfl⟩, hhs, Hd.flds_nil _, ⟨_, _, _, rfl⟩, ⟨_, _, _, rfl⟩, ⟨_, _, _, rfl⟩, ⟨_, _, _, rfl⟩, ⟨_, _, _, rfl⟩, Dp.ns_new [1, 1] hb18 (by decide)⟩
  have hcp : Pg.CapP ⟨.string ⟨#[]⟩, .slice (some ⟨W.heap.size + 1 + 1, 0, none⟩) 2 2, .slice none 0 0, .slice none 0 0, .slice none 0 0, .slice none 0 0, .slice none 0 0, .slice none 0 0, .slice (some ⟨W.heap.size + 1 + 1 + 1, 0, none⟩) 2 2⟩ := ⟨_, _, _, rfl, by decide, by decide⟩
  have hcq : Pg.CapP ⟨.string ⟨#[]⟩, .slice (some ⟨W.heap.size + 1 + 1, 0, none⟩) 2 2, .slice none 0 0, .slice none 0 0, .slice none 0 0, .slice none 0 0, .slice none 0 0, .slice none 0 0, .slice (some ⟨W.heap.size + 1 + 1 + 1 + 1 + 1 + 1 + 1 + 1 + 1 + 1 + 1 + 1 + 1 + 1 + 1 + 1 + 1 + 1, 0, none⟩) 2 2⟩ := ⟨_, _, _, rfl, by decide, by decide⟩
  have nsn : Ns .u32 W2 (.slice none 0 0) [] ∧ ∀ x ∈ ([] : List Int), U32 x := ⟨⟨⟨rfl, (by simp), .inl ⟨rfl, rfl⟩⟩, by decide⟩, by simp⟩
  have by9 : Io.Bytes [9] := by intro x hx; simp at hx; subst hx; decide
  have he : Pg.IsE W2 ⟨.slice (some ⟨W.heap.size + 1 + 1 + 1 + 1 + 1, 0, none⟩) 2 2, .slice (some ⟨W.heap.size + 1 + 1 + 1 + 1 + 1 + 1 + 1 + 1, 0, none⟩) 2 2, .slice none 0 0, .slice (some ⟨W.heap.size + 1 + 1 + 1 + 1 + 1 + 1 + 1 + 1 + 1, 0, none⟩) 1 1⟩ Dp.e0 := ⟨Dp.bs_new [true, true] hb5 (by decide), Dp.rows_two [.slice (some ⟨W.heap.size + 1 + 1 + 1 + 1 + 1 + 1, 0, none⟩) 1 1] [.slice (some ⟨W.heap.size + 1 + 1 + 1 + 1 + 1 + 1 + 1, 0, none⟩) 2 2] rfl rfl ⟨_, rfl, Dp.ns_new [1] hb6 (by decide), by intro x hx; simp at hx; subst hx; unfold U32; decide⟩ ⟨_, rfl, Dp.ns_new [2, 3] hb7 (by decide), by intro x hx; simp at hx; rcases hx with rfl | rfl <;> (unfold U32; decide)⟩ hb8, nsn, Dp.ns_new [9] hb9 (by decide), by9⟩
  have hd : Pg.IsE W2 ⟨.slice (some ⟨W.heap.size + 1 + 1 + 1 + 1 + 1 + 1 + 1 + 1 + 1 + 1 + 1, 0, none⟩) 2 2, .slice (some ⟨W.heap.size + 1 + 1 + 1 + 1 + 1 + 1 + 1 + 1 + 1 + 1 + 1 + 1 + 1 + 1, 0, none⟩) 2 2, .slice none 0 0, .slice (some ⟨W.heap.size + 1 + 1 + 1 + 1 + 1 + 1 + 1 + 1 + 1 + 1 + 1 + 1 + 1 + 1 + 1, 0, none⟩) 1 1⟩ Dp.d0 := ⟨Dp.bs_new [true, false] hb11 (by decide), Dp.rows_two [.slice (some ⟨W.heap.size + 1 + 1 + 1 + 1 + 1 + 1 + 1 + 1 + 1 + 1 + 1 + 1, 0, none⟩) 1 1] [.slice (some ⟨W.heap.size + 1 + 1 + 1 + 1 + 1 + 1 + 1 + 1 + 1 + 1 + 1 + 1 + 1, 0, none⟩) 2 2] rfl rfl ⟨_, rfl, Dp.ns_new [1] hb12 (by decide), by intro x hx; simp at hx; subst hx; unfold U32; decide⟩ ⟨_, rfl, Dp.ns_new [0, 0] hb13 (by decide), by intro x hx; simp at hx; subst hx; unfold U32; decide⟩ hb14, nsn, Dp.ns_new [9] hb15 (by decide), by9⟩
  have HCQ : Hid (∀ w, Ext W2 w → Calls Try.prog 14 #[.agg #[.string ⟨#[]⟩, .slice (some ⟨W.heap.size + 1 + 1, 0, none⟩) 2 2, .slice none 0 0, .slice none 0 0, .slice none 0 0, .slice none 0 0, .slice none 0 0, .slice none 0 0, .slice (some ⟨W.heap.size + 1 + 1 + 1 + 1 + 1 + 1 + 1 + 1 + 1 + 1 + 1 + 1 + 1 + 1 + 1 + 1 + 1 + 1, 0, none⟩) 2 2]] w (Rets w (.tuple #[.int .i64 1, .int .i64 7]))) := Lib.hid (fun w hx => by have h := dcheck_any (hq.ext hx) hcq; rw [Dp.chkV_of Dp.k_q0] at h; exact h)
  have HCP : Hid (∀ w, Ext W2 w → Calls Try.prog 14 #[.agg #[.string ⟨#[]⟩, .slice (some ⟨W.heap.size + 1 + 1, 0, none⟩) 2 2, .slice none 0 0, .slice none 0 0, .slice none 0 0, .slice none 0 0, .slice none 0 0, .slice none 0 0, .slice (some ⟨W.heap.size + 1 + 1 + 1, 0, none⟩) 2 2]] w (Rets w (.tuple #[.int .i64 0, .int .i64 0]))) := Lib.hid (fun w hx => by have h := dcheck_any (hp.ext hx) hcp; rw [Dp.chkV_of Dp.k_p0] at h; exact h)
  have HEE : Hid (∀ w, Ext W2 w → Calls Try.prog 16 #[.agg #[.string ⟨#[]⟩, .slice (some ⟨W.heap.size + 1 + 1, 0, none⟩) 2 2, .slice none 0 0, .slice none 0 0, .slice none 0 0, .slice none 0 0, .slice none 0 0, .slice none 0 0, .slice (some ⟨W.heap.size + 1 + 1 + 1, 0, none⟩) 2 2], .agg #[.slice (some ⟨W.heap.size + 1 + 1 + 1 + 1 + 1, 0, none⟩) 2 2, .slice (some ⟨W.heap.size + 1 + 1 + 1 + 1 + 1 + 1 + 1 + 1, 0, none⟩) 2 2, .slice none 0 0, .slice (some ⟨W.heap.size + 1 + 1 + 1 + 1 + 1 + 1 + 1 + 1 + 1, 0, none⟩) 1 1]] w fun e' w' => ∃ v, e' = .returned v ∧ Ext w w' ∧ Src w' v 1 3 (u8s [35, 1, 9])) := Lib.hid (fun w hx => by have h := demit_any (hp.ext hx) hcp (he.ext hx) (by decide); rw [Dp.k_e0] at h; exact h)
  have HED : Hid (∀ w, Ext W2 w → Calls Try.prog 16 #[.agg #[.string ⟨#[]⟩, .slice (some ⟨W.heap.size + 1 + 1, 0, none⟩) 2 2, .slice none 0 0, .slice none 0 0, .slice none 0 0, .slice none 0 0, .slice none 0 0, .slice none 0 0, .slice (some ⟨W.heap.size + 1 + 1 + 1, 0, none⟩) 2 2], .agg #[.slice (some ⟨W.heap.size + 1 + 1 + 1 + 1 + 1 + 1 + 1 + 1 + 1 + 1 + 1, 0, none⟩) 2 2, .slice (some ⟨W.heap.size + 1 + 1 + 1 + 1 + 1 + 1 + 1 + 1 + 1 + 1 + 1 + 1 + 1 + 1, 0, none⟩) 2 2, .slice none 0 0, .slice (some ⟨W.heap.size + 1 + 1 + 1 + 1 + 1 + 1 + 1 + 1 + 1 + 1 + 1 + 1 + 1 + 1 + 1, 0, none⟩) 1 1]] w fun e' w' => ∃ v, e' = .returned v ∧ Ext w w' ∧ Src w' v 1 2 (u8s [1, 9])) := Lib.hid (fun w hx => by have h := demit_any (hp.ext hx) hcp (hd.ext hx) (by decide); rw [Dp.k_d0] at h; exact h)
  have HSE : Hid (∀ w, Ext W2 w → Calls Try.prog 18 #[.agg #[.string ⟨#[]⟩, .slice (some ⟨W.heap.size + 1 + 1, 0, none⟩) 2 2, .slice none 0 0, .slice none 0 0, .slice none 0 0, .slice none 0 0, .slice none 0 0, .slice none 0 0, .slice (some ⟨W.heap.size + 1 + 1 + 1, 0, none⟩) 2 2], .agg #[.slice (some ⟨W.heap.size + 1 + 1 + 1 + 1 + 1, 0, none⟩) 2 2, .slice (some ⟨W.heap.size + 1 + 1 + 1 + 1 + 1 + 1 + 1 + 1, 0, none⟩) 2 2, .slice none 0 0, .slice (some ⟨W.heap.size + 1 + 1 + 1 + 1 + 1 + 1 + 1 + 1 + 1, 0, none⟩) 1 1]] w (Rets w (.int .i64 3))) := Lib.hid (fun w hx => by have h := dsize_any (hp.ext hx) hcp (he.ext hx) (by decide); rw [Dp.k_e0] at h; exact h)
  have HX2 := Lib.hid hx2
  clear hOS hfa hfb hhs hp hq hcp hcq nsn by9 he hd hx2 hW2 hb0 hb1 hb2 hb3 hb4 hb5 hb6 hb7 hb8 hb9 hb10 hb11 hb12 hb13 hb14 hb15 hb16 hb17 hb18
  go_enter Try.func13, Try.ntmps13
  go_wp2_with fail
  rw [← HTW.out]
  refine (HCQ.out _ (grows (a := W2))).mono ?_
  rintro e' w1 ⟨rfl, x1⟩
  have s1 := Step.mk x1
  go_wp2_with fail
  refine (HCP.out _ (grows (a := W2))).mono ?_
  rintro e' w2 ⟨rfl, x2⟩
  have s2 := Step.mk x2
  go_wp2_with fail
  refine (HEE.out _ (grows (a := W2))).mono ?_
  rintro e' w3 ⟨v3, rfl, x3, r3⟩
  have s3 := Step.mk x3
  have t3 := src_str (l := [35, 1, 9]) r3
  rw [show strOfNums [35, 1, 9] = ⟨#[35, 1, 9]⟩ by rfl] at t3
  obtain ⟨va3, vc3, hv3, _⟩ := r3.slice
  subst hv3
  clear r3
  go_wp2_with fail
  refine (HED.out _ (grows (a := W2))).mono ?_
  rintro e' w4 ⟨v4, rfl, x4, r4⟩
  have s4 := Step.mk x4
  have t4 := src_str (l := [1, 9]) r4
  rw [show strOfNums [1, 9] = ⟨#[1, 9]⟩ by rfl] at t4
  obtain ⟨va4, vc4, hv4, _⟩ := r4.slice
  subst hv4
  clear r4
  go_wp2_with fail
  refine (HSE.out _ (grows (a := W2))).mono ?_
  rintro e' w5 ⟨rfl, x5⟩
  have s5 := Step.mk x5
  go_wp2_with fail
  go_ret
  exact ⟨rfl, HX2.out.trans grows⟩
end Go.Proofs.Ytonnlcjkgpahoaa
