/- The small program: its data; SmallProgram, walked. Placement, plainly: what stands in the way; the small program. Comparing numbers and fields: cmp.Compare, cmp.Or, the closures of the sorts, walked. slices.SortFunc at fields, by the library's contract. slices.Compact at fields, walked. expr.Fields, expr.Headers, walked. The box of what an action reads or writes: three rows of one's own. No program in sight. No condition. -/
import Derived.Test.YtkiafiaodockbaaGreatKqAL
import Derived.BigQuiet
import Derived.Deep.QuietTactic
import Derived.Ground.SlsfProg
import Derived.Shelf.SlSortCmp.NoneTotal
import Derived.Test.YtkiafiaodockbaaGreatProg
set_option maxRecDepth 8000
set_option maxHeartbeats 16000000
namespace Go.Proofs.YtkiafiaodockbaaGreat
open Go.RowKit
theorem flatten_oneS {sz : Nat} : ∀ {xss : List (List Value)} {i j : Nat} {cs : List Value} {u : Value}, (∀ x ∈ xss, x.length = sz) → xss[i]? = some cs → cs[j]? = some u → xss.flatten[i * sz + j]? = some u
 | [], _, _, _, _, _, h, _ => by simp at h
 | x :: l, 0, j, cs, u, hs, h, hu => by
  simp only [List.getElem?_cons_zero, Option.some.injEq] at h
  subst h
  rw [List.flatten_cons, Nat.zero_mul, Nat.zero_add, List.getElem?_append_left (List.getElem?_eq_some_iff.1 hu).1]; exact hu
 | x :: l, i + 1, j, cs, u, hs, h, hu => by
  simp only [List.getElem?_cons_succ] at h
  have := flatten_oneS (fun y hy => hs y (List.mem_cons_of_mem _ hy)) h hu
  have hx := hs x List.mem_cons_self
  rw [List.flatten_cons, List.getElem?_append_right (by rw [hx, Nat.succ_mul]; omega), hx, show (i + 1) * sz + j - sz = i * sz + j by rw [Nat.succ_mul]; omega]
  exact this
namespace Tj
def tower (W : World) (os : List Obj) : World := os.foldl World.alloc W
theorem tower_ext : ∀ (os : List Obj) (W : World), Ext W (tower W os)
 | [], W => eR W
 | x :: os, W => ((eR W).alloc x).trans (tower_ext os (W.alloc x))
theorem tower_heap : ∀ {os : List Obj} {W : World} {i : Nat} {o : Obj}, os[i]? = some o → (tower W os).heap[W.heap.size + i]? = some o
 | [], _, _, _, h => by simp at h
 | x :: os, W, 0, o, h => by
  simp only [List.getElem?_cons_zero, Option.some.injEq] at h
  subst h
  have h1 : Ext (W.alloc x) (tower (W.alloc x) os) := tower_ext os _
  exact h1.heap (aH W x)
 | x :: os, W, i + 1, o, h => by
  simp only [List.getElem?_cons_succ] at h
  have := tower_heap (W := W.alloc x) h
  rw [szA] at this
  rw [show W.heap.size + (i + 1) = W.heap.size + 1 + i by omega]; exact this
/-- elements in a block, each with its cells -/
theorem rows_lit {α : Type} {w : World} {B sz n : Nat} {t : TypeId} {f : Nat × Nat} {R : World → List Value → α → Prop} (css : List (List Value)) (ds : List α) (hn : ds.length = n) (hl : css.length = ds.length) (hs : ∀ x ∈ css, x.length = sz) (hR : ∀ (i : Nat) (cs : List Value) (d : α), css[i]? = some cs → ds[i]? = some d → R w cs d)
 (hb : w.heap[B]? = some (.cells css.flatten.toArray t f)) (hm : ds.length ≤ maxLen) : Rows w sz R (.slice (some ⟨B, 0, none⟩) n n) ds := by
 subst hn
 refine .inr ⟨⟨B, 0, none⟩, _, rfl, Nat.le_refl _, hm, fun _ => rfl, fun i d hi => ?_⟩
 have hlt := (List.getElem?_eq_some_iff.1 hi).1
 obtain ⟨cs, hcs⟩ : ∃ cs, css[i]? = some cs := ⟨_, gE (by omega)⟩
 refine ⟨cs, hs cs (List.mem_of_getElem? hcs), hR i cs d hcs hi, fun j u hj => ?_⟩
 have h4 := flatten_oneS hs hcs hj
 rw [cell_of hb, List.getElem?_toArray, Nat.zero_add]; exact h4
theorem rows_lit1 {α : Type} {w : World} {B sz : Nat} {t : TypeId} {f : Nat × Nat} {R : World → List Value → α → Prop} {a : α} (u : List Value) (hu : u.length = sz) (ha : R w u a) (hb : w.heap[B]? = some (.cells u.toArray t f)) : Rows w sz R (.slice (some ⟨B, 0, none⟩) 1 1) [a] :=
 rows_lit [u] [a] rfl rfl (fun x hx => by simp only [List.mem_singleton] at hx; subst hx; exact hu) (fun i cs d h1 h2 => by
  match i, h1, h2 with
  | 0, h1, h2 => simp only [List.getElem?_cons_zero, Option.some.injEq] at h1 h2; subst h1 h2; exact ha
  | i + 1, h1, _ => simp at h1) (by simpa using hb) (by unfold maxLen; simp)
theorem ns_lit {w : World} {B n : Nat} {t : TypeId} {f : Nat × Nat} {k : IntKind} (l : List Int) (hn : l.length = n) (hb : w.heap[B]? = some (.cells (l.map (Value.int k)).toArray t f)) (h2 : l.length ≤ maxLen) : Ns k w (.slice (some ⟨B, 0, none⟩) n n) l := by
 subst hn
 exact ⟨⟨by simp, by intro u hu; simp at hu; obtain ⟨x, _, rfl⟩ := hu; rfl, .inr ⟨⟨B, 0, none⟩, _, rfl, fun j u hj => by
  rw [show (⟨B, 0, none⟩ : Addr).add j = ⟨B, j, none⟩ by simp [Addr.add]; exact fun h => h.symm]
  rw [cell_of hb, List.getElem?_toArray, hj]⟩⟩, h2⟩
theorem ns_none (k : IntKind) (w : World) : Ns k w (.slice none 0 0) [] := ⟨⟨rfl, by simp, .inl ⟨rfl, rfl⟩⟩, Nat.zero_le _⟩
def sm1 : Stm := ⟨1, -1, 1, 0, 0, [], [⟨1, 3, 8⟩]⟩
def sm2 : Stm := ⟨4, -1, 3, 0, 0, [⟨1, 0, 1⟩], []⟩
def sm3 : Stm := ⟨5, 0, 0, 0, 0, [⟨1, 0, 1⟩], [⟨9, 0, 0⟩, ⟨2, -1, 3⟩, ⟨1, 1, 8⟩]⟩
def smh : Hd.Hdr := (⟨#[104]⟩, [(⟨#[97]⟩, 8)])
def smm : List Hd.Fld := [(⟨#[105, 110]⟩, 8), (⟨#[111, 117, 116]⟩, 8), (⟨#[100, 114, 111, 112]⟩, 1), (⟨#[110]⟩, 8)]
/-- the small program -/
def small : FP := ⟨⟨#[115, 109, 97, 108, 108]⟩, ⟨[smh], smm, [0]⟩, [⟨⟨#[115, 101, 101, 110]⟩, 8, 2⟩], [⟨⟨#[115, 101, 110, 100]⟩, [], [sm1, sm2, sm3]⟩], [⟨⟨#[97, 108, 108]⟩, [], [0], ⟨0, []⟩, 1⟩], [⟨⟨#[115, 116, 97, 114, 116]⟩, [0], false, 0, 0, [], -1⟩], [⟨1, 0, [], 0, 0⟩], 1⟩
theorem small_chk : chkF small = 0 := by kernel_rfl
theorem smk_e : ∀ d ∈ ([⟨1, 3, 8⟩, ⟨1, 0, 1⟩, ⟨9, 0, 0⟩, ⟨2, -1, 3⟩, ⟨1, 1, 8⟩] : List EN), B64 d.op ∧ B64 d.n ∧ B64 d.w := by intro d hd; simp at hd; rcases hd with rfl | rfl | rfl | rfl | rfl <;> (unfold B64 Rg.B64; decide)
theorem exp_none (w : World) : Exp w (.slice none 0 0) [] := .inl ⟨rfl, rfl⟩
end Tj
theorem smallp_any (W : World) : Calls Tryz.prog 9 #[] W (fun e w' => ∃ p : Pg.PV, e = .returned p.val ∧ Ext W w' ∧ Tj.IsG w' p Tj.small) := by
 obtain ⟨OS, hOS⟩ : ∃ OS : List Obj, OS = [(.cells #[.string ⟨#[115, 109, 97, 108, 108]⟩, .slice (some ⟨W.heap.size + 4, 0, none⟩) 1 1, .slice (some ⟨W.heap.size + 5, 0, none⟩) 4 4, .slice (some ⟨W.heap.size + 6, 0, none⟩) 1 1, .slice (some ⟨W.heap.size + 15, 0, none⟩) 1 1, .slice (some ⟨W.heap.size + 17, 0, none⟩) 1 1, .slice (some ⟨W.heap.size + 19, 0, none⟩) 1 1, .slice (some ⟨W.heap.size + 20, 0, none⟩) 1 1, .slice (some ⟨W.heap.size + 1, 0, none⟩) 1 1] 31), (.cells #[.int .i64 0] 3), (.cells #[.string ⟨#[115, 109, 97, 108, 108]⟩, .slice (some ⟨W.heap.size + 4, 0, none⟩) 1 1, .slice (some ⟨W.heap.size + 5, 0, none⟩) 4 4, .slice (some ⟨W.heap.size + 6, 0, none⟩) 1 1, .slice (some ⟨W.heap.size + 15, 0, none⟩) 1 1, .slice (some ⟨W.heap.size + 17, 0, none⟩) 1 1, .slice (some ⟨W.heap.size + 19, 0, none⟩) 1 1, .slice (some ⟨W.heap.size + 20, 0, none⟩) 1 1, .slice (some ⟨W.heap.size + 1, 0, none⟩) 1 1] 31), (.cells #[.string ⟨#[97]⟩, .int .i64 8] 79), (.cells #[.string ⟨#[104]⟩, .slice (some ⟨W.heap.size + 3, 0, none⟩) 1 1] 81), (.cells #[.string ⟨#[105, 110]⟩, .int .i64 8, .string ⟨#[111, 117, 116]⟩, .int .i64 8, .string ⟨#[100, 114, 111, 112]⟩, .int .i64 1, .string ⟨#[110]⟩, .int .i64 8] 79), (.cells #[.string ⟨#[115, 101, 101, 110]⟩, .int .i64 8, .int .i64 2] 83), (.cells #[.int .i64 1, .int .i64 0, .int .i64 1] 85), (.cells #[.int .i64 (-1), .int .i64 3] 88), (.cells #[.int .i64 1, .int .i64 3, .int .i64 8] 85), (.cells #[.int .i64 1, .int .i64 (-1), .int .i64 1, .int .i64 0, .int .i64 0, .slice none 0 0, .slice (some ⟨W.heap.size + 9, 0, none⟩) 1 1] 90), (.cells #[.int .i64 4, .int .i64 (-1), .int .i64 3, .int .i64 0, .int .i64 0, .slice (some ⟨W.heap.size + 7, 0, none⟩) 1 1, .slice none 0 0] 90), (.cells #[.int .i64 9, .int .i64 0, .int .i64 0, .int .i64 2, .int .i64 (-1), .int .i64 3, .int .i64 1, .int .i64 1, .int .i64 8] 85), (.cells #[.int .i64 5, .int .i64 0, .int .i64 0, .int .i64 0, .int .i64 0, .slice (some ⟨W.heap.size + 7, 0, none⟩) 1 1, .slice (some ⟨W.heap.size + 12, 0, none⟩) 3 3] 90), (.cells #[.int .i64 1, .int .i64 (-1), .int .i64 1, .int .i64 0, .int .i64 0, .slice none 0 0, .slice (some ⟨W.heap.size + 9, 0, none⟩) 1 1, .int .i64 4, .int .i64 (-1), .int .i64 3, .int .i64 0, .int .i64 0, .slice (some ⟨W.heap.size + 7, 0, none⟩) 1 1, .slice none 0 0, .int .i64 5, .int .i64 0, .int .i64 0, .int .i64 0, .int .i64 0, .slice (some ⟨W.heap.size + 7, 0, none⟩) 1 1, .slice (some ⟨W.heap.size + 12, 0, none⟩) 3 3] 90), (.cells #[.string ⟨#[115, 101, 110, 100]⟩, .slice none 0 0, .slice (some ⟨W.heap.size + 14, 0, none⟩) 3 3] 54), (.cells #[.int .i64 0] 3), (.cells #[.string ⟨#[97, 108, 108]⟩, .slice none 0 0, .slice (some ⟨W.heap.size + 16, 0, none⟩) 1 1, .int .i64 0, .slice none 0 0, .int .i64 1] 96), (.cells #[.int .i64 0] 3), (.cells #[.string ⟨#[115, 116, 97, 114, 116]⟩, .slice (some ⟨W.heap.size + 18, 0, none⟩) 1 1, .bool false, .int .i64 0, .int .i64 0, .slice none 0 0, .int .i64 (-1)] 99), (.cells #[.int .i64 1, .int .i64 0, .slice none 0 0, .slice none 0 0, .slice none 0 0] 101)] := ⟨_, rfl⟩
 obtain ⟨W2, hW2⟩ : ∃ W2, W2 = Tj.tower W OS := ⟨_, rfl⟩
 have hx2 : Ext W W2 := by rw [hW2]; exact Tj.tower_ext OS W
 have HTW : Hid (W2 = (((((((((((((((((((((W.alloc (.cells #[.string ⟨#[115, 109, 97, 108, 108]⟩, .slice (some ⟨W.heap.size + 1 + 1 + 1 + 1, 0, none⟩) 1 1, .slice (some ⟨W.heap.size + 1 + 1 + 1 + 1 + 1, 0, none⟩) 4 4, .slice (some ⟨W.heap.size + 1 + 1 + 1 + 1 + 1 + 1, 0, none⟩) 1 1, .slice (some ⟨W.heap.size + 1 + 1 + 1 + 1 + 1 + 1 + 1 + 1 + 1 + 1 + 1 + 1 + 1 + 1 + 1, 0, none⟩) 1 1, .slice (some ⟨W.heap.size + 1 + 1 + 1 + 1 + 1 + 1 + 1 + 1 + 1 + 1 + 1 + 1 + 1 + 1 + 1 + 1 + 1, 0, none⟩) 1 1, .slice (some ⟨W.heap.size + 1 + 1 + 1 + 1 + 1 + 1 + 1 + 1 + 1 + 1 + 1 + 1 + 1 + 1 + 1 + 1 + 1 + 1 + 1, 0, none⟩) 1 1, .slice (some ⟨W.heap.size + 1 + 1 + 1 + 1 + 1 + 1 + 1 + 1 + 1 + 1 + 1 + 1 + 1 + 1 + 1 + 1 + 1 + 1 + 1 + 1, 0, none⟩) 1 1, .slice (some ⟨W.heap.size + 1, 0, none⟩) 1 1] 31)).alloc (.cells #[.int .i64 0] 3)).alloc (.cells #[.string ⟨#[115, 109, 97, 108, 108]⟩, .slice (some ⟨W.heap.size + 1 + 1 + 1 + 1, 0, none⟩) 1 1, .slice (some ⟨W.heap.size + 1 + 1 + 1 + 1 + 1, 0, none⟩) 4 4, .slice (some ⟨W.heap.size + 1 + 1 + 1 + 1 + 1 + 1, 0, none⟩) 1 1, .slice (some ⟨W.heap.size + 1 + 1 + 1 + 1 + 1 + 1 + 1 + 1 + 1 + 1 + 1 + 1 + 1 + 1 + 1, 0, none⟩) 1 1, .slice (some ⟨W.heap.size + 1 + 1 + 1 + 1 + 1 + 1 + 1 + 1 + 1 + 1 + 1 + 1 + 1 + 1 + 1 + 1 + 1, 0, none⟩) 1 1, .slice (some ⟨W.heap.size + 1 + 1 + 1 + 1 + 1 + 1 + 1 + 1 + 1 + 1 + 1 + 1 + 1 + 1 + 1 + 1 + 1 + 1 + 1, 0, none⟩) 1 1, .slice (some ⟨W.heap.size + 1 + 1 + 1 + 1 + 1 + 1 + 1 + 1 + 1 + 1 + 1 + 1 + 1 + 1 + 1 + 1 + 1 + 1 + 1 + 1, 0, none⟩) 1 1, .slice (some ⟨W.heap.size + 1, 0, none⟩) 1 1] 31)).alloc (.cells #[.string ⟨#[97]⟩, .int .i64 8] 79)).alloc (.cells #[.string ⟨#[104]⟩, .slice (some ⟨W.heap.size + 1 + 1 + 1, 0, none⟩) 1 1] 81)).alloc (.cells #[.string ⟨#[105, 110]⟩, .int .i64 8, .string ⟨#[111, 117, 116]⟩, .int .i64 8, .string ⟨#[100, 114, 111, 112]⟩, .int .i64 1, .string ⟨#[110]⟩, .int .i64 8] 79)).alloc (.cells #[.string ⟨#[115, 101, 101, 110]⟩, .int .i64 8, .int .i64 2] 83)).alloc (.cells #[.int .i64 1, .int .i64 0, .int .i64 1] 85)).alloc (.cells #[.int .i64 (-1), .int .i64 3] 88)).alloc (.cells #[.int .i64 1, .int .i64 3, .int .i64 8] 85)).alloc (.cells #[.int .i64 1, .int .i64 (-1), .int .i64 1, .int .i64 0, .int .i64 0, .slice none 0 0, .slice (some ⟨W.heap.size + 1 + 1 + 1 + 1 + 1 + 1 + 1 + 1 + 1, 0, none⟩) 1 1] 90)).alloc (.cells #[.int .i64 4, .int .i64 (-1), .int .i64 3, .int .i64 0, .int .i64 0, .slice (some ⟨W.heap.size + 1 + 1 + 1 + 1 + 1 + 1 + 1, 0, none⟩) 1 1, .slice none 0 0] 90)).alloc (.cells #[.int .i64 9, .int .i64 0, .int .i64 0, .int .i64 2, .int .i64 (-1), .int .i64 3, .int .i64 1, .int .i64 1, .int .i64 8] 85)).alloc (.cells #[.int .i64 5, .int .i64 0, .int .i64 0, .int .i64 0, .int .i64 0, .slice (some ⟨W.heap.size + 1 + 1 + 1 + 1 + 1 + 1 + 1, 0, none⟩) 1 1, .slice (some ⟨W.heap.size + 1 + 1 + 1 + 1 + 1 + 1 + 1 + 1 + 1 + 1 + 1 + 1, 0, none⟩) 3 3] 90)).alloc (.cells #[.int .i64 1, .int .i64 (-1), .int .i64 1, .int .i64 0, .int .i64 0, .slice none 0 0, .slice (some ⟨W.heap.size + 1 + 1 + 1 + 1 + 1 + 1 + 1 + 1 + 1, 0, none⟩) 1 1, .int .i64 4, .int .i64 (-1), .int .i64 3, .int .i64 0, .int .i64 0, .slice (some ⟨W.heap.size + 1 + 1 + 1 + 1 + 1 + 1 + 1, 0, none⟩) 1 1, .slice none 0 0, .int .i64 5, .int .i64 0, .int .i64 0, .int .i64 0, .int .i64 0, .slice (some ⟨W.heap.size + 1 + 1 + 1 + 1 + 1 + 1 + 1, 0, none⟩) 1 1, .slice (some ⟨W.heap.size + 1 + 1 + 1 + 1 + 1 + 1 + 1 + 1 + 1 + 1 + 1 + 1, 0, none⟩) 3 3] 90)).alloc (.cells #[.string ⟨#[115, 101, 110, 100]⟩, .slice none 0 0, .slice (some ⟨W.heap.size + 1 + 1 + 1 + 1 + 1 + 1 + 1 + 1 + 1 + 1 + 1 + 1 + 1 + 1, 0, none⟩) 3 3] 54)).alloc (.cells #[.int .i64 0] 3)).alloc (.cells #[.string ⟨#[97, 108, 108]⟩, .slice none 0 0, .slice (some ⟨W.heap.size + 1 + 1 + 1 + 1 + 1 + 1 + 1 + 1 + 1 + 1 + 1 + 1 + 1 + 1 + 1 + 1, 0, none⟩) 1 1, .int .i64 0, .slice none 0 0, .int .i64 1] 96)).alloc (.cells #[.int .i64 0] 3)).alloc (.cells #[.string ⟨#[115, 116, 97, 114, 116]⟩, .slice (some ⟨W.heap.size + 1 + 1 + 1 + 1 + 1 + 1 + 1 + 1 + 1 + 1 + 1 + 1 + 1 + 1 + 1 + 1 + 1 + 1, 0, none⟩) 1 1, .bool false, .int .i64 0, .int .i64 0, .slice none 0 0, .int .i64 (-1)] 99)).alloc (.cells #[.int .i64 1, .int .i64 0, .slice none 0 0, .slice none 0 0, .slice none 0 0] 101))) := Lh (by rw [hW2, hOS]; rfl)
 have hb0 : W2.heap[W.heap.size]? = some (.cells #[.string ⟨#[115, 109, 97, 108, 108]⟩, .slice (some ⟨W.heap.size + 4, 0, none⟩) 1 1, .slice (some ⟨W.heap.size + 5, 0, none⟩) 4 4, .slice (some ⟨W.heap.size + 6, 0, none⟩) 1 1, .slice (some ⟨W.heap.size + 15, 0, none⟩) 1 1, .slice (some ⟨W.heap.size + 17, 0, none⟩) 1 1, .slice (some ⟨W.heap.size + 19, 0, none⟩) 1 1, .slice (some ⟨W.heap.size + 20, 0, none⟩) 1 1, .slice (some ⟨W.heap.size + 1, 0, none⟩) 1 1] 31) := by rw [hW2]; exact Tj.tower_heap (os := OS) (i := 0) (by rw [hOS]; rfl)
 have hb1 : W2.heap[W.heap.size + 1]? = some (.cells #[.int .i64 0] 3) := by rw [hW2]; exact Tj.tower_heap (os := OS) (i := 1) (by rw [hOS]; rfl)
 have hb3 : W2.heap[W.heap.size + 3]? = some (.cells #[.string ⟨#[97]⟩, .int .i64 8] 79) := by rw [hW2]; exact Tj.tower_heap (os := OS) (i := 3) (by rw [hOS]; rfl)
 have hb4 : W2.heap[W.heap.size + 4]? = some (.cells #[.string ⟨#[104]⟩, .slice (some ⟨W.heap.size + 3, 0, none⟩) 1 1] 81) := by rw [hW2]; exact Tj.tower_heap (os := OS) (i := 4) (by rw [hOS]; rfl)
 have hb5 : W2.heap[W.heap.size + 5]? = some (.cells #[.string ⟨#[105, 110]⟩, .int .i64 8, .string ⟨#[111, 117, 116]⟩, .int .i64 8, .string ⟨#[100, 114, 111, 112]⟩, .int .i64 1, .string ⟨#[110]⟩, .int .i64 8] 79) := by rw [hW2]; exact Tj.tower_heap (os := OS) (i := 5) (by rw [hOS]; rfl)
 have hb6 : W2.heap[W.heap.size + 6]? = some (.cells #[.string ⟨#[115, 101, 101, 110]⟩, .int .i64 8, .int .i64 2] 83) := by rw [hW2]; exact Tj.tower_heap (os := OS) (i := 6) (by rw [hOS]; rfl)
 have hb7 : W2.heap[W.heap.size + 7]? = some (.cells #[.int .i64 1, .int .i64 0, .int .i64 1] 85) := by rw [hW2]; exact Tj.tower_heap (os := OS) (i := 7) (by rw [hOS]; rfl)
 have hb9 : W2.heap[W.heap.size + 9]? = some (.cells #[.int .i64 1, .int .i64 3, .int .i64 8] 85) := by rw [hW2]; exact Tj.tower_heap (os := OS) (i := 9) (by rw [hOS]; rfl)
 have hb12 : W2.heap[W.heap.size + 12]? = some (.cells #[.int .i64 9, .int .i64 0, .int .i64 0, .int .i64 2, .int .i64 (-1), .int .i64 3, .int .i64 1, .int .i64 1, .int .i64 8] 85) := by rw [hW2]; exact Tj.tower_heap (os := OS) (i := 12) (by rw [hOS]; rfl)
 have hb14 : W2.heap[W.heap.size + 14]? = some (.cells #[.int .i64 1, .int .i64 (-1), .int .i64 1, .int .i64 0, .int .i64 0, .slice none 0 0, .slice (some ⟨W.heap.size + 9, 0, none⟩) 1 1, .int .i64 4, .int .i64 (-1), .int .i64 3, .int .i64 0, .int .i64 0, .slice (some ⟨W.heap.size + 7, 0, none⟩) 1 1, .slice none 0 0, .int .i64 5, .int .i64 0, .int .i64 0, .int .i64 0, .int .i64 0, .slice (some ⟨W.heap.size + 7, 0, none⟩) 1 1, .slice (some ⟨W.heap.size + 12, 0, none⟩) 3 3] 90) := by rw [hW2]; exact Tj.tower_heap (os := OS) (i := 14) (by rw [hOS]; rfl)
 have hb15 : W2.heap[W.heap.size + 15]? = some (.cells #[.string ⟨#[115, 101, 110, 100]⟩, .slice none 0 0, .slice (some ⟨W.heap.size + 14, 0, none⟩) 3 3] 54) := by rw [hW2]; exact Tj.tower_heap (os := OS) (i := 15) (by rw [hOS]; rfl)
 have hb16 : W2.heap[W.heap.size + 16]? = some (.cells #[.int .i64 0] 3) := by rw [hW2]; exact Tj.tower_heap (os := OS) (i := 16) (by rw [hOS]; rfl)
 have hb17 : W2.heap[W.heap.size + 17]? = some (.cells #[.string ⟨#[97, 108, 108]⟩, .slice none 0 0, .slice (some ⟨W.heap.size + 16, 0, none⟩) 1 1, .int .i64 0, .slice none 0 0, .int .i64 1] 96) := by rw [hW2]; exact Tj.tower_heap (os := OS) (i := 17) (by rw [hOS]; rfl)
 have hb18 : W2.heap[W.heap.size + 18]? = some (.cells #[.int .i64 0] 3) := by rw [hW2]; exact Tj.tower_heap (os := OS) (i := 18) (by rw [hOS]; rfl)
 have hb19 : W2.heap[W.heap.size + 19]? = some (.cells #[.string ⟨#[115, 116, 97, 114, 116]⟩, .slice (some ⟨W.heap.size + 18, 0, none⟩) 1 1, .bool false, .int .i64 0, .int .i64 0, .slice none 0 0, .int .i64 (-1)] 99) := by rw [hW2]; exact Tj.tower_heap (os := OS) (i := 19) (by rw [hOS]; rfl)
 have hb20 : W2.heap[W.heap.size + 20]? = some (.cells #[.int .i64 1, .int .i64 0, .slice none 0 0, .slice none 0 0, .slice none 0 0] 101) := by rw [hW2]; exact Tj.tower_heap (os := OS) (i := 20) (by rw [hOS]; rfl)
 have r3 : Hd.Flds W2 (.slice (some ⟨W.heap.size + 3, 0, none⟩) 1 1) Tj.smh.2 := Tj.rows_lit1 [.string ⟨#[97]⟩, .int .i64 8] rfl ⟨rfl, by decide⟩ hb3
 have r4 : Rows W2 2 Hd.HdrR (.slice (some ⟨W.heap.size + 4, 0, none⟩) 1 1) [Tj.smh] := Tj.rows_lit1 [.string ⟨#[104]⟩, .slice (some ⟨W.heap.size + 3, 0, none⟩) 1 1] rfl ⟨_, rfl, by decide, r3⟩ hb4
 have r5 : Hd.Flds W2 (.slice (some ⟨W.heap.size + 5, 0, none⟩) 4 4) Tj.smm := Hd.flds_new Tj.smm (fun d hd => by simp [Tj.smm] at hd; rcases hd with rfl | rfl | rfl | rfl <;> decide) hb5 (by decide)
 have r6 : Rows W2 3 Rg.RegR (.slice (some ⟨W.heap.size + 6, 0, none⟩) 1 1) Tj.small.rs := Tj.rows_lit1 [.string ⟨#[115, 101, 101, 110]⟩, .int .i64 8, .int .i64 2] rfl ⟨rfl, by decide, by unfold Rg.B64; decide, by unfold Rg.B64; decide⟩ hb6
 have r7 : Tj.Exp W2 (.slice (some ⟨W.heap.size + 7, 0, none⟩) 1 1) [⟨1, 0, 1⟩] := Tj.rows_lit1 [.int .i64 1, .int .i64 0, .int .i64 1] rfl ⟨rfl, Tj.smk_e _ (by simp)⟩ hb7
 have r9 : Tj.Exp W2 (.slice (some ⟨W.heap.size + 9, 0, none⟩) 1 1) [⟨1, 3, 8⟩] := Tj.rows_lit1 [.int .i64 1, .int .i64 3, .int .i64 8] rfl ⟨rfl, Tj.smk_e _ (by simp)⟩ hb9
 have r12 : Tj.Exp W2 (.slice (some ⟨W.heap.size + 12, 0, none⟩) 3 3) Tj.sm3.va := Tj.rows_lit [[.int .i64 9, .int .i64 0, .int .i64 0], [.int .i64 2, .int .i64 (-1), .int .i64 3], [.int .i64 1, .int .i64 1, .int .i64 8]] Tj.sm3.va rfl rfl (by intro x hx; simp at hx; rcases hx with rfl | rfl | rfl <;> rfl) (by
  intro i cs d h1 h2
  match i, h1, h2 with
  | 0, h1, h2 => simp [Tj.sm3] at h1 h2; subst h1 h2; exact ⟨rfl, Tj.smk_e _ (by simp)⟩
  | 1, h1, h2 => simp [Tj.sm3] at h1 h2; subst h1 h2; exact ⟨rfl, Tj.smk_e _ (by simp)⟩
  | 2, h1, h2 => simp [Tj.sm3] at h1 h2; subst h1 h2; exact ⟨rfl, Tj.smk_e _ (by simp)⟩
  | i + 3, h1, _ => simp at h1) hb12 (by decide)
 have r14 : Tj.Stms W2 (.slice (some ⟨W.heap.size + 14, 0, none⟩) 3 3) [Tj.sm1, Tj.sm2, Tj.sm3] := Tj.rows_lit [[.int .i64 1, .int .i64 (-1), .int .i64 1, .int .i64 0, .int .i64 0, .slice none 0 0, .slice (some ⟨W.heap.size + 9, 0, none⟩) 1 1], [.int .i64 4, .int .i64 (-1), .int .i64 3, .int .i64 0, .int .i64 0, .slice (some ⟨W.heap.size + 7, 0, none⟩) 1 1, .slice none 0 0], [.int .i64 5, .int .i64 0, .int .i64 0, .int .i64 0, .int .i64 0, .slice (some ⟨W.heap.size + 7, 0, none⟩) 1 1, .slice (some ⟨W.heap.size + 12, 0, none⟩) 3 3]] _ rfl rfl (by intro x hx; simp at hx; rcases hx with rfl | rfl | rfl <;> rfl) (by
  intro i cs d h1 h2
  match i, h1, h2 with
  | 0, h1, h2 => simp at h1 h2; subst h1 h2; exact ⟨_, _, rfl, by unfold Tj.B64 Rg.B64; decide, Tj.exp_none _, r9⟩
  | 1, h1, h2 => simp at h1 h2; subst h1 h2; exact ⟨_, _, rfl, by unfold Tj.B64 Rg.B64; decide, r7, Tj.exp_none _⟩
  | 2, h1, h2 => simp at h1 h2; subst h1 h2; exact ⟨_, _, rfl, by unfold Tj.B64 Rg.B64; decide, r7, r12⟩
  | i + 3, h1, _ => simp at h1) hb14 (by decide)
 have r15 : Tj.Acts W2 (.slice (some ⟨W.heap.size + 15, 0, none⟩) 1 1) Tj.small.ac := Tj.rows_lit1 [.string ⟨#[115, 101, 110, 100]⟩, .slice none 0 0, .slice (some ⟨W.heap.size + 14, 0, none⟩) 3 3] rfl ⟨_, _, rfl, by decide, .inl ⟨rfl, rfl⟩, r14⟩ hb15
 have r16 : Tj.Is W2 (.slice (some ⟨W.heap.size + 16, 0, none⟩) 1 1) [0] := ⟨Tj.ns_lit [0] rfl hb16 (by decide), by intro x hx; simp at hx; subst hx; unfold Tj.B64 Rg.B64; decide⟩
 have r17 : Tj.Tabs W2 (.slice (some ⟨W.heap.size + 17, 0, none⟩) 1 1) Tj.small.ts := Tj.rows_lit1 [.string ⟨#[97, 108, 108]⟩, .slice none 0 0, .slice (some ⟨W.heap.size + 16, 0, none⟩) 1 1, .int .i64 0, .slice none 0 0, .int .i64 1] rfl ⟨_, _, _, rfl, by decide, by unfold Tj.B64 Rg.B64; decide, .inl ⟨rfl, rfl⟩, r16, Tj.ns_none _ _, by simp⟩ hb17
 have r18 : Ns .i64 W2 (.slice (some ⟨W.heap.size + 18, 0, none⟩) 1 1) [0] := Tj.ns_lit [0] rfl hb18 (by decide)
 have r19 : Rows W2 7 Ps.StR (.slice (some ⟨W.heap.size + 19, 0, none⟩) 1 1) Tj.small.ss := Tj.rows_lit1 [.string ⟨#[115, 116, 97, 114, 116]⟩, .slice (some ⟨W.heap.size + 18, 0, none⟩) 1 1, .bool false, .int .i64 0, .int .i64 0, .slice none 0 0, .int .i64 (-1)] rfl ⟨_, _, rfl, by decide, r18, .inl ⟨rfl, rfl⟩⟩ hb19
 have r20 : Tj.Ctl 2 W2 (.slice (some ⟨W.heap.size + 20, 0, none⟩) 1 1) Tj.small.cs Tj.small.nest 1 := Tj.ctl_succ.2 ⟨[⟨⟨1, 0, [], 0, 0⟩, [], 0, [], 0⟩], Tj.rows_lit1 [.int .i64 1, .int .i64 0, .slice none 0 0, .slice none 0 0, .slice none 0 0] rfl ⟨_, _, _, rfl, by unfold Tj.B64 Rg.B64; decide, Tj.exp_none _, Tj.ctl_succ.2 ⟨[], .inl ⟨rfl, rfl⟩, rfl, rfl, rfl⟩, Tj.ctl_succ.2 ⟨[], .inl ⟨rfl, rfl⟩, rfl, rfl, rfl⟩⟩ hb20, rfl, rfl, rfl⟩
 have r1 : Ns .i64 W2 (.slice (some ⟨W.heap.size + 1, 0, none⟩) 1 1) [0] := Tj.ns_lit [0] rfl hb1 (by decide)
 have hG : Tj.IsG W2 ⟨.string ⟨#[115, 109, 97, 108, 108]⟩, .slice (some ⟨W.heap.size + 4, 0, none⟩) 1 1, .slice (some ⟨W.heap.size + 5, 0, none⟩) 4 4, .slice (some ⟨W.heap.size + 6, 0, none⟩) 1 1, .slice (some ⟨W.heap.size + 15, 0, none⟩) 1 1, .slice (some ⟨W.heap.size + 17, 0, none⟩) 1 1, .slice (some ⟨W.heap.size + 19, 0, none⟩) 1 1, .slice (some ⟨W.heap.size + 20, 0, none⟩) 1 1, .slice (some ⟨W.heap.size + 1, 0, none⟩) 1 1⟩ Tj.small := ⟨⟨⟨rfl, by decide⟩, ⟨⟨⟨_, rfl⟩, r4, r5, ⟨_, _, _, rfl⟩, ⟨_, _, _, rfl⟩, ⟨_, _, _, rfl⟩, ⟨_, _, _, rfl⟩, ⟨_, _, _, rfl⟩, r1⟩, r19⟩, r6, r15, r17, ⟨_, _, r20⟩, by intro x hx; simp [Tj.small] at hx; subst hx; unfold Tj.B64 Rg.B64; decide⟩, by decide, ⟨_, _, _, rfl, by decide, by decide⟩⟩
 have HG := Lh hG
 have HX2 := Lh hx2
 have q0 := cQ 0 hb0
 have q1 := cQ 1 hb0
 have q2 := cQ 2 hb0
 have q3 := cQ 3 hb0
 have q4 := cQ 4 hb0
 have q5 := cQ 5 hb0
 have q6 := cQ 6 hb0
 have q7 := cQ 7 hb0
 have q8 := cQ 8 hb0
 clear hOS hW2 hG hx2 hb0 hb1 hb3 hb4 hb5 hb6 hb7 hb9 hb12 hb14 hb15 hb16 hb17 hb18 hb19 hb20 r1 r3 r4 r5 r6 r7 r9 r12 r14 r15 r16 r17 r18 r19 r20
 go_enter Tryz.func9, Tryz.ntmps9
 go_wp2_with fail
 rw [← HTW.out]
 exact bodyPost_ret (v := .agg #[.string ⟨#[115, 109, 97, 108, 108]⟩, .slice (some ⟨W.heap.size + 4, 0, none⟩) 1 1, .slice (some ⟨W.heap.size + 5, 0, none⟩) 4 4, .slice (some ⟨W.heap.size + 6, 0, none⟩) 1 1, .slice (some ⟨W.heap.size + 15, 0, none⟩) 1 1, .slice (some ⟨W.heap.size + 17, 0, none⟩) 1 1, .slice (some ⟨W.heap.size + 19, 0, none⟩) 1 1, .slice (some ⟨W.heap.size + 20, 0, none⟩) 1 1, .slice (some ⟨W.heap.size + 1, 0, none⟩) 1 1]) (by simp [results, Tryz.results9, go_sem, q0, q1, q2, q3, q4, q5, q6, q7, q8]) rfl ⟨⟨.string ⟨#[115, 109, 97, 108, 108]⟩, .slice (some ⟨W.heap.size + 4, 0, none⟩) 1 1, .slice (some ⟨W.heap.size + 5, 0, none⟩) 4 4, .slice (some ⟨W.heap.size + 6, 0, none⟩) 1 1, .slice (some ⟨W.heap.size + 15, 0, none⟩) 1 1, .slice (some ⟨W.heap.size + 17, 0, none⟩) 1 1, .slice (some ⟨W.heap.size + 19, 0, none⟩) 1 1, .slice (some ⟨W.heap.size + 20, 0, none⟩) 1 1, .slice (some ⟨W.heap.size + 1, 0, none⟩) 1 1⟩, rfl, HX2.out, HG.out⟩
namespace Pl
open Tj
/-- a unit alone that is too much -/
def heavy (F : FP) (C : Chip) (us : List Un) (i : Nat) : Bool := !wiU C (adU F us ⟨0, 0, 0, 0⟩ i)
def obsE (F : FP) (C : Chip) (us : List Un) : Int :=
 if (List.range us.length).any (heavy F C us) then 18 else if (ear (dep F us) us.length).any (fun s => decide (C.S ≤ s)) then 17 else 0
theorem obs_none {F : FP} {C : Chip} {us : List Un} (hc : chipE C = 0) (h : obsE F C us ≠ 0) : ∀ τ, ¬ Val (job F C us) τ := by
 unfold obsE at h
 split at h
 ·rename_i h1
  obtain ⟨i, hi, h2⟩ := List.any_eq_true.1 h1
  have h3 : wiU C (adU F us ⟨0, 0, 0, 0⟩ i) = false := by simpa [heavy] using h2
  exact alone (J := job F C us) (job_ok hc) (List.mem_range.1 hi) h3
 ·split at h
  ·rename_i h1
   obtain ⟨s, hs, h2⟩ := List.any_eq_true.1 h1
   obtain ⟨i, hi, rfl⟩ := List.mem_iff_getElem.1 hs
   rw [ear_len] at hi
   refine late (J := job F C us) hi ?_
   have h3 := of_decide_eq_true h2
   show C.S ≤ _
   rw [List.getD_eq_getElem?_getD, gE (by rw [ear_len]; exact hi)]
   exact h3
  ·exact absurd rfl h
/-- the units of a program whose control flow has m nodes at its head -/
def unF (F : FP) (m : Nat) : List Un := uns m F.cs [] 0
theorem small_un : unF small 1 = [⟨0, [], []⟩] := by rfl
def chA : Chip := ⟨1, 1, 1, 1, 1, 8, 8, 8⟩
def chB : Chip := ⟨1, 0, 1, 1, 1, 8, 8, 8⟩
theorem chA_ok : chipE chA = 0 := by decide
theorem chB_ok : chipE chB = 0 := by decide
theorem small_obsB : obsE small chB (unF small 1) = 18 := by decide +kernel
theorem small_val : Val (job small chA (unF small 1)) [0] := by
 refine ⟨by rw [small_un]; rfl, fun j hj => ?_, fun x hx => ?_, fun s h0 h1 => ?_⟩
 ·have hj : j < 1 := hj
  obtain rfl : j = 0 := by omega
  rfl
 ·simp only [List.mem_singleton] at hx; subst hx; exact ⟨by decide, by decide⟩
 ·have h1 : s < 1 := h1
  obtain rfl : s = 0 := by omega
  decide +kernel
end Pl
theorem grow3 (W : World) (q : Nat) (a b c : Obj) : (((W.alloc a).alloc b).drewN q).alloc c = Sort.grow (W.drewN q) #[a, b, c] := by
 rw [Sort.alloc_eq_grow, Sort.alloc_eq_grow, Sort.alloc_eq_grow]
 show Sort.grow (Sort.grow (Sort.grow (W.drewN q) #[a]) #[b]) #[c] = _
 rw [Sort.grow_grow, Sort.grow_grow]; rfl
namespace Pl
def cmpI (x y : Int) : Int := if x < y then -1 else if y < x then 1 else 0
/-- fields in their order -/
def cmpF (a b : Int × Int) : Int := if cmpI a.1 b.1 ≠ 0 then cmpI a.1 b.1 else cmpI a.2 b.2
end Pl
theorem isnan_any (x : Int) (W : World) : Calls Tryz.prog 144 #[.int .i64 x] W (fun e w' => e = .returned (.bool false) ∧ w' = W) := by
 go_enter Tryz.func144, Tryz.ntmps144
 go_wp2_with fail
 go_ret
 exact ⟨by simp, rfl⟩
theorem ccmp_any (x y : Int) (W : World) : Calls Tryz.prog 125 #[.int .i64 x, .int .i64 y] W (fun e w' => e = .returned (.int .i64 (Pl.cmpI x y)) ∧ w' = W) := by
 by_cases h1 : x < y
 ·have e : Pl.cmpI x y = -1 := by unfold Pl.cmpI; rw [if_pos h1]
  rw [e]
  go_enter Tryz.func125, Tryz.ntmps125
  go_wp2_with (go_at_call 144; refine (isnan_any _ _).mono ?_; rintro e w ⟨rfl, rfl⟩)
  go_ret
  exact ⟨rfl, rfl⟩
 ·by_cases h2 : y < x
  ·have e : Pl.cmpI x y = 1 := by unfold Pl.cmpI; rw [if_neg h1, if_pos h2]
   rw [e]
   go_enter Tryz.func125, Tryz.ntmps125
   go_wp2_with (go_at_call 144; refine (isnan_any _ _).mono ?_; rintro e w ⟨rfl, rfl⟩)
   go_ret
   exact ⟨rfl, rfl⟩
  ·have e : Pl.cmpI x y = 0 := by unfold Pl.cmpI; rw [if_neg h1, if_neg h2]
   rw [e]
   go_enter Tryz.func125, Tryz.ntmps125
   go_wp2_with (go_at_call 144; refine (isnan_any _ _).mono ?_; rintro e w ⟨rfl, rfl⟩)
   go_ret
   exact ⟨rfl, rfl⟩
theorem cor_any {W : World} {b : Nat} {x y R : Int} (h0 : W.cell? ⟨b, 0, none⟩ = some (.int .i64 x)) (h1 : W.cell? ⟨b, 1, none⟩ = some (.int .i64 y)) (hR : Hid (R = if x ≠ 0 then x else y)) : Calls Tryz.prog 124 #[.slice (some ⟨b, 0, none⟩) 2 2] W (fun e w' => e = .returned (.int .i64 R) ∧ w' = W) := by
 go_enter Tryz.func124, Tryz.ntmps124
 go_wp2_with fail
 go_loopw [8] (fun q wr => Hid (wr = W) ∧ ∃ k : Nat, k ≤ 2 ∧ q = .int .i64 k ∧ Hid ((1 ≤ k → x = 0) ∧ (2 ≤ k → y = 0))) (fun q _ => 2 - (intOf q).toNat)
 case atStart => exact ⟨Lh rfl, 0, by omega, rfl, Lh ⟨fun h => by omega, fun h => by omega⟩⟩
 case round =>
  obtain ⟨hw, k, hk, rfl, HK⟩ := hrel
  obtain rfl := hw.out
  clear hw
  by_cases hk0 : k = 0
  ·subst hk0
   by_cases hx : x = 0
   ·have z1 : (x != 0) = false := by rw [hx]; rfl
    have HX := Lh hx
    clear hx
    go_wp2_with fail
    go_roundw
    case rel => exact ⟨by first | exact Lh rfl | exact Lh trivial, 1, by omega, by go_num, Lh ⟨fun _ => HX.out, fun h => by omega⟩⟩
    case measure => simp [intOf]
   ·have z1 : (x != 0) = true := nT hx
    have e : R = x := by rw [hR.out, if_pos hx]
    clear hR
    subst e
    go_wp2_with fail
    go_ret
    exact ⟨rfl, rfl⟩
  ·by_cases hk1 : k = 1
   ·subst hk1
    have hx := HK.out.1 (Nat.le_refl _)
    have e : R = y := by rw [hR.out, if_neg (by simp [hx])]
    have HE := Lh e
    have HX := Lh hx
    clear hx e hR
    by_cases hy : y = 0
    ·have z1 : (y != 0) = false := by rw [hy]; rfl
     have HY := Lh hy
     clear hy
     go_wp2_with fail
     go_roundw
     case rel => exact ⟨by first | exact Lh rfl | exact Lh trivial, 2, by omega, by go_num, Lh ⟨fun _ => HX.out, fun _ => HY.out⟩⟩
     case measure => simp [intOf]
    ·have z1 : (y != 0) = true := nT hy
     go_wp2_with fail
     go_ret
     exact ⟨by rw [HE.out]; rfl, rfl⟩
   ·obtain rfl : k = 2 := by omega
    have e : R = 0 := by rw [hR.out, HK.out.1 (by omega), HK.out.2 (by omega)]; rfl
    have HE := Lh e
    clear e hR
    go_wp2_with fail
    go_ret
    exact ⟨by rw [HE.out]; rfl, rfl⟩
theorem fcl1_any (a b : Int × Int) (W : World) : Calls Tryz.prog 123 #[.agg #[.int .i64 a.1, .int .i64 a.2], .agg #[.int .i64 b.1, .int .i64 b.2]] W (fun e w' => e = .returned (.int .i64 (Pl.cmpF a b)) ∧ ∃ q os', w' = Sort.grow (W.drewN q) os') := by
 have b1 := aH W (.cells #[.int .i64 a.1, .int .i64 a.2] 88)
 have k0 := alw (cQ 0 b1) ((W.alloc (.cells #[.int .i64 a.1, .int .i64 a.2] 88)).alloc (.cells #[.int .i64 b.1, .int .i64 b.2] 88))
 have k1 := alw (cQ 1 b1) ((W.alloc (.cells #[.int .i64 a.1, .int .i64 a.2] 88)).alloc (.cells #[.int .i64 b.1, .int .i64 b.2] 88))
 have b2 := aH (W.alloc (.cells #[.int .i64 a.1, .int .i64 a.2] 88)) (.cells #[.int .i64 b.1, .int .i64 b.2] 88)
 rw [szA] at b2
 have j0 := cQ 0 b2
 have j1 := cQ 1 b2
 clear b1 b2
 go_enter Tryz.func123, Tryz.ntmps123
 go_wp2_with fail
 refine wp_region_drawn_tail (W := ((W.alloc (.cells #[.int .i64 a.1, .int .i64 a.2] 88)).alloc (.cells #[.int .i64 b.1, .int .i64 b.2] 88))) 10 0 (by kernel_rfl) (by kernel_rfl) ?_
 simp only [tkS, tkZ]
 repeat (go_big_quiet_step (first | (go_at_call 125; exact (ccmp_any _ _ _).mono (fun _ _ h => ⟨h.1, _, h.2⟩)) | fail))
 refine wpQuiet_nil ?_
 intro q
 have b3 := aH (((W.alloc (.cells #[.int .i64 a.1, .int .i64 a.2] 88)).alloc (.cells #[.int .i64 b.1, .int .i64 b.2] 88)).drewN q) (.cells #[.int .i64 (Pl.cmpI a.1 b.1), .int .i64 (Pl.cmpI a.2 b.2)] 3)
 rw [show (((W.alloc (.cells #[.int .i64 a.1, .int .i64 a.2] 88)).alloc (.cells #[.int .i64 b.1, .int .i64 b.2] 88)).drewN q).heap.size = W.heap.size + 1 + 1 by show ((W.alloc (.cells #[.int .i64 a.1, .int .i64 a.2] 88)).alloc (.cells #[.int .i64 b.1, .int .i64 b.2] 88)).heap.size = _; rw [szA, szA]] at b3
 have c0 := cQ 0 b3
 have c1 := cQ 1 b3
 have hR : Hid (Pl.cmpF a b = if Pl.cmpI a.1 b.1 ≠ 0 then Pl.cmpI a.1 b.1 else Pl.cmpI a.2 b.2) := Lh rfl
 clear b3 k0 k1 j0 j1
 go_wp2_with fail
 refine (cor_any c0 c1 hR).mono ?_
 rintro e w ⟨rfl, rfl⟩
 go_wp2_with fail
 go_ret
 exact ⟨rfl, q, #[.cells #[.int .i64 a.1, .int .i64 a.2] 88 (0, 0), .cells #[.int .i64 b.1, .int .i64 b.2] 88 (0, 0), .cells #[.int .i64 (Pl.cmpI a.1 b.1), .int .i64 (Pl.cmpI a.2 b.2)] 3 (0, 0)], grow3 W q _ _ _⟩
theorem fcl2_any (a b : Int × Int) (W : World) : Calls Tryz.prog 146 #[.agg #[.int .i64 a.1, .int .i64 a.2], .agg #[.int .i64 b.1, .int .i64 b.2]] W (fun e w' => e = .returned (.int .i64 (Pl.cmpF a b)) ∧ ∃ q os', w' = Sort.grow (W.drewN q) os') := by
 have b1 := aH W (.cells #[.int .i64 a.1, .int .i64 a.2] 88)
 have k0 := alw (cQ 0 b1) ((W.alloc (.cells #[.int .i64 a.1, .int .i64 a.2] 88)).alloc (.cells #[.int .i64 b.1, .int .i64 b.2] 88))
 have k1 := alw (cQ 1 b1) ((W.alloc (.cells #[.int .i64 a.1, .int .i64 a.2] 88)).alloc (.cells #[.int .i64 b.1, .int .i64 b.2] 88))
 have b2 := aH (W.alloc (.cells #[.int .i64 a.1, .int .i64 a.2] 88)) (.cells #[.int .i64 b.1, .int .i64 b.2] 88)
 rw [szA] at b2
 have j0 := cQ 0 b2
 have j1 := cQ 1 b2
 clear b1 b2
 go_enter Tryz.func146, Tryz.ntmps146
 go_wp2_with fail
 refine wp_region_drawn_tail (W := ((W.alloc (.cells #[.int .i64 a.1, .int .i64 a.2] 88)).alloc (.cells #[.int .i64 b.1, .int .i64 b.2] 88))) 10 0 (by kernel_rfl) (by kernel_rfl) ?_
 simp only [tkS, tkZ]
 repeat (go_big_quiet_step (first | (go_at_call 125; exact (ccmp_any _ _ _).mono (fun _ _ h => ⟨h.1, _, h.2⟩)) | fail))
 refine wpQuiet_nil ?_
 intro q
 have b3 := aH (((W.alloc (.cells #[.int .i64 a.1, .int .i64 a.2] 88)).alloc (.cells #[.int .i64 b.1, .int .i64 b.2] 88)).drewN q) (.cells #[.int .i64 (Pl.cmpI a.1 b.1), .int .i64 (Pl.cmpI a.2 b.2)] 3)
 rw [show (((W.alloc (.cells #[.int .i64 a.1, .int .i64 a.2] 88)).alloc (.cells #[.int .i64 b.1, .int .i64 b.2] 88)).drewN q).heap.size = W.heap.size + 1 + 1 by show ((W.alloc (.cells #[.int .i64 a.1, .int .i64 a.2] 88)).alloc (.cells #[.int .i64 b.1, .int .i64 b.2] 88)).heap.size = _; rw [szA, szA]] at b3
 have c0 := cQ 0 b3
 have c1 := cQ 1 b3
 have hR : Hid (Pl.cmpF a b = if Pl.cmpI a.1 b.1 ≠ 0 then Pl.cmpI a.1 b.1 else Pl.cmpI a.2 b.2) := Lh rfl
 clear b3 k0 k1 j0 j1
 go_wp2_with fail
 refine (cor_any c0 c1 hR).mono ?_
 rintro e w ⟨rfl, rfl⟩
 go_wp2_with fail
 go_ret
 exact ⟨rfl, q, #[.cells #[.int .i64 a.1, .int .i64 a.2] 88 (0, 0), .cells #[.int .i64 b.1, .int .i64 b.2] 88 (0, 0), .cells #[.int .i64 (Pl.cmpI a.1 b.1), .int .i64 (Pl.cmpI a.2 b.2)] 3 (0, 0)], grow3 W q _ _ _⟩
def YtkiafiaodockbaaGreatLayF_ren : Go.Shelf.Ren := ⟨fun | 6 => 122 | 15 => 143 | 14 => 142 | 28 => 161 | 29 => 162 | 20 => 153 | 21 => 154 | 22 => 155 | 23 => 156 | 24 => 157 | 25 => 158 | 26 => 159 | 27 => 160 | 46 => 174 | 47 => 175 | 48 => 176 | 49 => 177 | 50 => 178 | 57 => 182 | n => n, fun | 22 => 181 | 24 => 88 | 25 => 217 | 3 => 3 | 39 => 238 | 0 => 0 | 53 => 160 | 55 => 257 | 4 => 4 | 46 => 250 | 45 => 249 | 50 => 203 | 5 => 5 | 9 => 9 | 66 => 266 | 70 => 270 | 76 => 274 | 77 => 275 | n => n, fun | n => n⟩
theorem YtkiafiaodockbaaGreatLayF : Go.Proofs.SlLaysF0.n6 Tryz.prog YtkiafiaodockbaaGreatLayF_ren := {
 mixed := by kernel_rfl
 f6 := ⟨Tryz.f122.name, by decide, Tryz.func122.trans (congrArg some (by kernel_rfl))⟩
 f14 := ⟨Tryz.f142.name, by decide, Tryz.func142.trans (congrArg some (by kernel_rfl))⟩
 f15 := Tryz.func143.trans (congrArg some (by kernel_rfl))
 f20 := ⟨Tryz.f153.name, by decide, Tryz.func153.trans (congrArg some (by kernel_rfl))⟩
 f21 := ⟨Tryz.f154.name, by decide, Tryz.func154.trans (congrArg some (by kernel_rfl))⟩
 f22 := ⟨Tryz.f155.name, by decide, Tryz.func155.trans (congrArg some (by kernel_rfl))⟩
 f23 := ⟨Tryz.f156.name, by decide, Tryz.func156.trans (congrArg some (by kernel_rfl))⟩
 f24 := ⟨Tryz.f157.name, by decide, Tryz.func157.trans (congrArg some (by kernel_rfl))⟩
 f25 := ⟨Tryz.f158.name, by decide, Tryz.func158.trans (congrArg some (by kernel_rfl))⟩
 f26 := ⟨Tryz.f159.name, by decide, Tryz.func159.trans (congrArg some (by kernel_rfl))⟩
 f27 := ⟨Tryz.f160.name, by decide, Tryz.func160.trans (congrArg some (by kernel_rfl))⟩
 f28 := Tryz.func161.trans (congrArg some (by kernel_rfl))
 f29 := Tryz.func162.trans (congrArg some (by kernel_rfl))
 f46 := ⟨Tryz.f174.name, by decide, Tryz.func174.trans (congrArg some (by kernel_rfl))⟩
 f47 := Tryz.func175.trans (congrArg some (by kernel_rfl))
 f48 := Tryz.func176.trans (congrArg some (by kernel_rfl))
 f49 := ⟨Tryz.f177.name, by decide, Tryz.func177.trans (congrArg some (by kernel_rfl))⟩
 f50 := ⟨Tryz.f178.name, by decide, Tryz.func178.trans (congrArg some (by kernel_rfl))⟩
 f57 := ⟨Tryz.f182.name, by decide, Tryz.func182.trans (congrArg some (by kernel_rfl))⟩
 t0 := Tryz.underlying0
 a0 := Tryz.isAgg0
 z0 := Tryz.sizeOf0
 v0 := Tryz.zeroValue0
 t3 := Tryz.underlying3
 a3 := Tryz.isAgg3
 z3 := Tryz.sizeOf3
 v3 := Tryz.zeroValue3
 t4 := Tryz.underlying4
 a4 := Tryz.isAgg4
 z4 := Tryz.sizeOf4
 v4 := Tryz.zeroValue4
 t5 := Tryz.underlying5
 a5 := Tryz.isAgg5
 z5 := Tryz.sizeOf5
 v5 := Tryz.zeroValue5
 t9 := Tryz.underlying9
 a9 := Tryz.isAgg9
 z9 := Tryz.sizeOf9
 v9 := Tryz.zeroValue9
 t22 := Tryz.underlying181
 a22 := Tryz.isAgg181
 z22 := Tryz.sizeOf181
 v22 := Tryz.zeroValue181
 t25 := Tryz.underlying217
 a25 := Tryz.isAgg217
 z25 := Tryz.sizeOf217
 v25 := Tryz.zeroValue217
 t39 := Tryz.underlying238
 a39 := Tryz.isAgg238
 z39 := Tryz.sizeOf238
 v39 := Tryz.zeroValue238
 t45 := Tryz.underlying249
 a45 := Tryz.isAgg249
 z45 := Tryz.sizeOf249
 v45 := Tryz.zeroValue249
 t46 := Tryz.underlying250
 a46 := Tryz.isAgg250
 z46 := Tryz.sizeOf250
 v46 := Tryz.zeroValue250
 t50 := Tryz.underlying203
 a50 := Tryz.isAgg203
 z50 := Tryz.sizeOf203
 v50 := Tryz.zeroValue203
 t53 := Tryz.underlying160
 a53 := Tryz.isAgg160
 z53 := Tryz.sizeOf160
 v53 := Tryz.zeroValue160
 t55 := Tryz.underlying257
 a55 := Tryz.isAgg257
 z55 := Tryz.sizeOf257
 v55 := Tryz.zeroValue257
 t66 := Tryz.underlying266
 a66 := Tryz.isAgg266
 z66 := Tryz.sizeOf266
 v66 := Tryz.zeroValue266
 t70 := Tryz.underlying270
 a70 := Tryz.isAgg270
 z70 := Tryz.sizeOf270
 v70 := Tryz.zeroValue270
 t76 := Tryz.underlying274
 a76 := Tryz.isAgg274
 z76 := Tryz.sizeOf274
 v76 := Tryz.zeroValue274
 t77 := Tryz.underlying275
 a77 := Tryz.isAgg275
 z77 := Tryz.sizeOf275
 v77 := Tryz.zeroValue275 }
open Go.RowKit Go.Sort
namespace Pl
theorem ltF (x y : Int × Int) : ltOf Pl.cmpF x y = decide (x.1 < y.1 ∨ (x.1 = y.1 ∧ x.2 < y.2)) := by
 unfold ltOf
 rw [decide_eq_decide]
 unfold Pl.cmpF Pl.cmpI
 repeat' split
 all_goals omega
theorem swoF : SWO (ltOf Pl.cmpF) where
 irrefl x := by rw [ltF]; simp
 trans x y z h1 h2 := by rw [ltF, decide_eq_true_eq] at *; omega
 ntrans x y z h1 h2 := by rw [ltF, decide_eq_false_iff_not] at *; omega
theorem antiF (x y : Int × Int) (h1 : ltOf Pl.cmpF x y = false) (h2 : ltOf Pl.cmpF y x = false) : x = y := by
 rw [ltF, decide_eq_false_iff_not] at h1 h2
 exact Prod.ext (by omega) (by omega)
theorem sortF_of {W : World} {B : Nat} {v : Value} {l : List (Int × Int)} (g : Nat) (eg : ∀ args w, (callFunc g args).run Tryz.prog w = .ok (.enter g args) w)
 (hg : ∀ (a b : Int × Int) (W : World), Calls Tryz.prog g #[.agg #[.int .i64 a.1, .int .i64 a.2], .agg #[.int .i64 b.1, .int .i64 b.2]] W (fun e w' => e = .returned (.int .i64 (Pl.cmpF a b)) ∧ ∃ q os', w' = Sort.grow (W.drewN q) os'))
 (h : W.ownsRow B 88 2 v l.length (l.flatMap fE)) (hn : l.length < 4611686018427387904) : Calls Tryz.prog 122 #[v, .func (.func g) #[] #[]] W (fun e w' => e = .returned (.tuple #[]) ∧ ∃ l', Pl.Same l' l ∧ l'.length = l.length ∧ w'.ownsRow B 88 2 v l'.length (l'.flatMap fE) ∧ Mod (fun k => v.ownBlock = some k) W w') := by
 rcases own_cases h with ⟨rfl, h0⟩ | ⟨b, c, rfl, hb⟩
 ·exact (AnyF.slices_SortFunc_none YtkiafiaodockbaaGreatLayF none 0 _ W).mono (fun e w' g => ⟨g.1, l, Pl.Same.refl _, rfl, by rw [g.2]; exact h, by rw [g.2]; exact Mod.refl _ _⟩)
 ·obtain ⟨cur, hcu⟩ := own_obj h
  have hH : HoldsK fE 2 W b 0 l.toArray := by
   rcases h.2 with ⟨h2, _⟩ | ⟨g', cap, cur, h2, _, hg, hc, hm, hs, ht⟩
   ·cases h2
   ·simp only [Value.slice.injEq, Option.some.injEq, Addr.mk.injEq, and_true, true_and] at h2
    obtain ⟨rfl, rfl⟩ := h2
    exact holdsK_own fE_len (by decide) hg ht
  refine (AnyQ.slices_SortFunc_total YtkiafiaodockbaaGreatLayF 2 Tryz.isAgg88 Tryz.sizeOf88 fE fE_len fE_one Pl.cmpF swoF g #[] b 0 c l.toArray W eg (fun _ _ _ _ x y => hg x y _) hH hb (by simpa using hn) antiF).mono ?_
  rintro e w' ⟨rfl, n, os, rfl⟩
  have hl : (l.toArray.toList.mergeSort fun x y => !(ltOf Pl.cmpF) y x).length = l.length := List.length_mergeSort _
  obtain ⟨g1, g2⟩ := own_sortK (os := os) (m := n) fE_len (by decide) (l.toArray.toList.mergeSort fun x y => !(ltOf Pl.cmpF) y x).toArray (by simp) h
  refine ⟨rfl, _, Same.perm (List.mergeSort_perm _ _), hl, ?_, g2.mono (fun k _ hk => by simp [Value.ownBlock, hk])⟩
  rw [hl]
  exact g1
end Pl
theorem sortF1_any {W : World} {B : Nat} {v : Value} {l : List (Int × Int)} (h : W.ownsRow B 88 2 v l.length (l.flatMap Pl.fE)) (hn : l.length < 4611686018427387904) : Calls Tryz.prog 122 #[v, .func (.func 123) #[] #[]] W (fun e w' => e = .returned (.tuple #[]) ∧ ∃ l', Pl.Same l' l ∧ l'.length = l.length ∧ w'.ownsRow B 88 2 v l'.length (l'.flatMap Pl.fE) ∧ Mod (fun k => v.ownBlock = some k) W w') :=
 Pl.sortF_of _ (enters_of Tryz.func123 (by kernel_rfl) rfl) fcl1_any h hn
theorem sortF2_any {W : World} {B : Nat} {v : Value} {l : List (Int × Int)} (h : W.ownsRow B 88 2 v l.length (l.flatMap Pl.fE)) (hn : l.length < 4611686018427387904) : Calls Tryz.prog 122 #[v, .func (.func 146) #[] #[]] W (fun e w' => e = .returned (.tuple #[]) ∧ ∃ l', Pl.Same l' l ∧ l'.length = l.length ∧ w'.ownsRow B 88 2 v l'.length (l'.flatMap Pl.fE) ∧ Mod (fun k => v.ownBlock = some k) W w') :=
 Pl.sortF_of _ (enters_of Tryz.func146 (by kernel_rfl) rfl) fcl2_any h hn
theorem zero_fld (w : World) : (zeroValue 88).run Tryz.prog w = .ok (.agg #[.int .i64 0, .int .i64 0]) w := by kernel_rfl
theorem neqF (a b c d : Int) (w : World) : (binOp .neq 88 (.agg #[.int .i64 a, .int .i64 b]) (.agg #[.int .i64 c, .int .i64 d])).run Tryz.prog w = .ok (.bool (!(a == c && b == d))) w := by
 rw [run_neq_struct, show (10000 : Nat) = 9999 + 1 from rfl, run_equalIn_struct w 9999 88 _ _ (by kernel_rfl) (by kernel_rfl)]
 have hf : (Tryz.prog.fieldsOf 88).toList = (Tryz.prog.fieldsOf 88).toList := rfl
 by_cases h1 : a = c <;> by_cases h2 : b = d <;> simp [go_sem, h1, h2]
theorem compactF_any {W : World} {B b c : Nat} {l : List (Int × Int)} (h : Pl.FRow W B 88 b c l) : Calls Tryz.prog 126 #[.slice (some ⟨b, 0, none⟩) l.length c] W (fun e w' => ∃ l', e = .returned (.slice (some ⟨b, 0, none⟩) l'.length c) ∧ Pl.Same l' l ∧ l'.length ≤ l.length ∧ Pl.FRow w' B 88 b c l' ∧ Mod (· = b) W w') := by
 obtain ⟨hlc, hcm⟩ := h.mx
 unfold maxLen at hcm
 have HF := Lh h
 clear h
 by_cases hl : l.length < 2
 ·have z1 : decide ((l.length : Int) < 2) = true := dTt (by omega)
  go_enter Tryz.func126, Tryz.ntmps126
  go_wp2_with fail
  go_ret
  exact ⟨l, rfl, Pl.Same.refl _, Nat.le_refl _, HF.out, Mod.refl _ _⟩
 ·have z1 : decide ((l.length : Int) < 2) = false := dF (by omega)
  go_enter Tryz.func126, Tryz.ntmps126
  go_wp2_with fail
  go_loopw [3] (fun q wr => ∃ k : Nat, q = .int .i64 k ∧ 1 ≤ k ∧ k ≤ l.length ∧ Hid (Ext W wr)) (fun q _ => l.length - (intOf q).toNat)
  case atStart => exact ⟨1, rfl, Nat.le_refl _, by omega, Lh (by first | exact eR _ | exact grows)⟩
  case round =>
   obtain ⟨k, rfl, hk1, hkl, HX⟩ := hrel
   by_cases hlt : k < l.length
   ·have z2 : decide ((k : Int) < (l.length : Int)) = true := dTt (by omega)
    have HO := Lh (own_ext HF.out HX.out)
    obtain ⟨p, rfl⟩ : ∃ p, k = p + 1 := ⟨k - 1, by omega⟩
    obtain ⟨⟨x1, x2⟩, hx⟩ : ∃ y, l[p + 1]? = some y := ⟨_, gE (by omega)⟩
    obtain ⟨x0, x3⟩ := Pl.FRow.at HO.out hx
    dsimp only at x0 x3
    have xu := alw x0
    have xv := alw x3
    have Hx := Lh hx
    clear hx x0 x3
    obtain ⟨⟨y1, y2⟩, hy⟩ : ∃ y, l[p]? = some y := ⟨_, gE (by omega)⟩
    obtain ⟨y0, y3⟩ := Pl.FRow.at HO.out hy
    dsimp only at y0 y3
    have yu := alw y0
    have yv := alw y3
    have Hy := Lh hy
    clear hy y0 y3
    by_cases hq : x1 = y1 ∧ x2 = y2
    ·have w1 : (x1 == y1) = true := bT hq.1
     have w2 : (x2 == y2) = true := bT hq.2
     have HQ := Lh hq
     clear hq
     go_wp2_with fail
     refine wp_region_later (W := wr) (by kernel_rfl) (by kernel_rfl) (eR _) ?_
     repeat (go_big_quiet_step (fail))
     refine wpQuiet_nil ?_
     intro w5 xw5
     have sw5 := Sm xw5
     go_wp2_with fail
     have XW := Lh (HX.out.trans (grows (a := wr) (b := w5)))
     clear xu xv yu yv
     have e1 : ((p + 1 : Nat) : Int) = (p : Int) + 1 := rfl
     have e2 : decide ((p : Int) + 1 < (l.length : Int)) = true := dTt (by omega)
     simp only [e1, e2]
     go_loopw [3, 5] (fun q r wz => ∃ (k j : Nat) (ys : List (Int × Int)), q = .int .i64 k ∧ r = .int .i64 j ∧ 1 ≤ j ∧ p + 1 + j ≤ l.length ∧ Hid (Pl.Cmp l ys k (p + 1 + j) ∧ Pl.FRow wz B 88 b c ys ∧ Mod (· = b) W wz)) (fun _ r _ => l.length - (intOf r).toNat)
     case atStart =>
      refine ⟨p + 1, 1, l, rfl, rfl, Nat.le_refl _, by omega, Lh ⟨Pl.Cmp.start hk1 hlt ?_, own_ext HF.out ?_, Mod.of_ext ?_⟩⟩
      ·rw [Hx.out, show p + 1 - 1 = p by omega, Hy.out, HQ.out.1, HQ.out.2]
      ·exact XW.out.trans grows
      ·exact XW.out.trans grows
     case round =>
      obtain ⟨k, j, ys, rfl, rfl, hj1, hjl, HZ⟩ := hrel
      have hyl := HZ.out.1.len
      have hkm := HZ.out.1.km
      have hk0 := HZ.out.1.k1
      have HO := Lh HZ.out.2.1
      obtain ⟨i, rfl⟩ : ∃ i, j = i + 1 := ⟨j - 1, by omega⟩
      by_cases hjt : p + 1 + (i + 1) < l.length
      ·have z3 : decide (((i + 1 : Nat) : Int) < ((l.length - (p + 1) : Nat) : Int)) = true := dTt (by omega)
       have ea : (p + 1 + (i + 1)) * 2 = (p + 1) * 2 + (i + 1) * 2 := by omega
       have eb : (p + 1 + i) * 2 = (p + 1) * 2 + i * 2 := by omega
       obtain ⟨⟨s1, s2⟩, hs⟩ : ∃ y, ys[p + 1 + (i + 1)]? = some y := ⟨_, gE (by omega)⟩
       obtain ⟨s0, s3⟩ := Pl.FRow.at HO.out hs
       obtain ⟨⟨t1, t2⟩, ht⟩ : ∃ y, ys[p + 1 + i]? = some y := ⟨_, gE (by omega)⟩
       obtain ⟨t0, t3⟩ := Pl.FRow.at HO.out ht
       dsimp only at s0 s3 t0 t3
       rw [ea] at s0 s3
       rw [eb] at t0 t3
       have su := alw s0
       have sv := alw s3
       have tu := alw t0
       have tv := alw t3
       rw [HZ.out.1.old _ (by omega)] at hs ht
       have Hs := Lh hs
       have Ht := Lh ht
       clear hs ht s0 s3 t0 t3 ea eb
       have hth : Hid (∀ w, Ext wr w → w.there b (k * 2) 2) := Lh (fun w hw => Pl.FRow.there (own_ext HO.out hw) (by omega))
       by_cases hq : s1 = t1 ∧ s2 = t2
       ·have w3 : (s1 == t1) = true := bT hq.1
        have w4 : (s2 == t2) = true := bT hq.2
        have HQ2 := Lh hq
        clear hq
        have hneq : ∀ W', (binOp .neq 88 (.agg #[.int .i64 s1, .int .i64 s2]) (.agg #[.int .i64 t1, .int .i64 t2])).run Tryz.prog W' = .ok (.bool false) W' := fun W' => by rw [neqF, w3, w4]; rfl
        go_wp2_with fail
        refine wp_region_later (W := wr) (by kernel_rfl) (by kernel_rfl) (eR _) ?_
        repeat (go_big_quiet_step (fail))
        refine wpQuiet_nil ?_
        intro w6 xw6
        have sw6 := Sm xw6
        go_wp2_with fail
        go_roundw
        case rel =>
         exact ⟨k, i + 1 + 1, ys, rfl, by go_num, by omega, by omega, Lh ⟨HZ.out.1.skip (by omega) (by rw [Hs.out, show p + 1 + (i + 1) - 1 = p + 1 + i by omega, Ht.out, HQ2.out.1, HQ2.out.2]), own_ext HO.out grows, HZ.out.2.2.trans (Mod.of_ext grows)⟩⟩
        case measure => simp [intOf]; omega
       ·have w3 : (s1 == t1 && s2 == t2) = false := by
         rw [Bool.and_eq_false_iff]
         rcases Classical.em (s1 = t1) with h | h
         ·exact .inr (bF (fun g => hq ⟨h, g⟩))
         ·exact .inl (bF h)
        have hneq : ∀ W', (binOp .neq 88 (.agg #[.int .i64 s1, .int .i64 s2]) (.agg #[.int .i64 t1, .int .i64 t2])).run Tryz.prog W' = .ok (.bool true) W' := fun W' => by rw [neqF, w3]; rfl
        clear hq
        go_wp2_with fail
        refine wp_region_later (W := wr) (by kernel_rfl) (by kernel_rfl) (eR _) ?_
        repeat (go_big_quiet_step (fail))
        refine wpQuiet_nil ?_
        intro w6 xw6
        have sw6 := Sm xw6
        have HX6 := Lh xw6
        have HO6 := Lh (own_ext HO.out xw6)
        have hth6 := hth.out _ xw6
        clear hth
        go_wp2_with (refine wpList_store_mid rfl 88 (.tmp 51) (.tmp 50) rfl b (k * 2) #[.int .i64 s1, .int .i64 s2] (by simp [go_sem]) rfl hth6 (by kernel_rfl) (by simp [Value.oneCell']) ?_)
        obtain ⟨w7, hw7⟩ : ∃ z, z = w6.setCells b (k * 2) [.int .i64 s1, .int .i64 s2] := ⟨_, rfl⟩
        rw [show w6.setCells b (k * 2) #[Value.int .i64 s1, .int .i64 s2].toList = w7 by rw [hw7]]
        have HR7 : Hid (Pl.FRow w7 B 88 b c (ys.set k (s1, s2))) := Lh (by rw [hw7]; exact Pl.FRow.put HO6.out (by omega) (s1, s2))
        have HM7 : Hid (Mod (· = b) W w7) := Lh (HZ.out.2.2.trans ((Mod.of_ext HX6.out).trans (by rw [hw7]; exact mod_setCells)))
        clear hw7 su sv tu tv hth6
        go_wp2_with fail
        go_roundw
        case rel =>
         exact ⟨k + 1, i + 1 + 1, ys.set k (s1, s2), by go_num, by go_num, by omega, by omega, Lh ⟨HZ.out.1.put Hs.out, HR7.out, HM7.out⟩⟩
        case measure => simp [intOf]; omega
      ·have z3 : decide (((i + 1 : Nat) : Int) < ((l.length - (p + 1) : Nat) : Int)) = false := dF (by omega)
       have hpos : 0 < l.length - k := by omega
       have HZ1 := Lh (zc_one (n := l.length - k) (zs := (.agg #[.int .i64 0, .int .i64 0] : Value).cells) (by decide) (by decide))
       have HTH : Hid (∀ w, Ext wr w → w.there b (k * 2) (Builtin.zeroCells (.agg #[.int .i64 0, .int .i64 0] : Value).cells (l.length - k)).toList.length) := Lh (fun w hw => Pl.FRow.there (own_ext HO.out hw) (by simp [Builtin.zeroCells, Value.cells]; omega))
       go_wp2_with (refine wpList_clearH rfl (.tmp 56) 181 88 (.agg #[.int .i64 0, .int .i64 0]) rfl Tryz.underlying181 zero_fld b (k * 2) (l.length - k) (c - k) rfl hpos (HTH.out _ (by first | exact eR _ | exact grows)) HZ1.out ?_)
       intro w4 hw4
       have hw4 := hw4.out
       have HM4 : Hid (Mod (· = b) W w4) := Lh (HZ.out.2.2.trans (by rw [hw4]; first | exact mod_setCells | exact (Mod.of_ext grows).trans mod_setCells))
       have HO4 : Hid (Pl.FRow w4 B 88 b c (ys.take k)) := Lh (by rw [hw4]; exact Pl.FRow.beyond (Pl.FRow.cut (own_ext HO.out (by first | exact eR _ | exact grows)) (by omega)) (by rw [List.length_take]; omega) _)
       have HS4 : Hid (Pl.Same (ys.take k) l) := Lh (by
        have h := HZ.out.1
        rw [show p + 1 + (i + 1) = l.length by omega] at h
        exact h.done)
       have hlen : (ys.take k).length = k := by rw [List.length_take]; omega
       have HL := Lh hlen
       clear hw4 hlen
       go_wp2_with fail
       go_ret
       exact ⟨ys.take k, by rw [HL.out]; rfl, HS4.out, by rw [HL.out]; omega, HO4.out, HM4.out⟩
    ·by_cases hx : x1 = y1
     ·have w1 : (x1 == y1) = true := bT hx
      have w2 : (x2 == y2) = false := bF (fun h => hq ⟨hx, h⟩)
      clear hq hx
      go_wp2_with fail
      refine wp_region_later (W := wr) (by kernel_rfl) (by kernel_rfl) (eR _) ?_
      repeat (go_big_quiet_step (fail))
      refine wpQuiet_nil ?_
      intro w5 xw5
      have sw5 := Sm xw5
      go_wp2_with fail
      go_roundw
      case rel => exact ⟨p + 1 + 1, by go_num, by omega, by omega, Lh (HX.out.trans grows)⟩
      case measure => simp [intOf]; omega
     ·have w1 : (x1 == y1) = false := bF hx
      clear hq hx
      go_wp2_with fail
      refine wp_region_later (W := wr) (by kernel_rfl) (by kernel_rfl) (eR _) ?_
      repeat (go_big_quiet_step (fail))
      refine wpQuiet_nil ?_
      intro w5 xw5
      have sw5 := Sm xw5
      go_wp2_with fail
      go_roundw
      case rel => exact ⟨p + 1 + 1, by go_num, by omega, by omega, Lh (HX.out.trans grows)⟩
      case measure => simp [intOf]; omega
   ·have z2 : decide ((k : Int) < (l.length : Int)) = false := dF (by omega)
    go_wp2_with fail
    go_ret
    exact ⟨l, rfl, Pl.Same.refl _, Nat.le_refl _, own_ext HF.out HX.out, Mod.of_ext HX.out⟩
theorem cinf_fref : (Tryz.prog.info? 88).map (fun i => (i.zero, i.size, i.bytes)) = some (some (.agg #[.int .i64 0, .int .i64 0]), 2, 16) := by kernel_rfl
theorem src_fld (w : World) (x y : Int) : Src (w.alloc (.cells #[.int .i64 x, .int .i64 y] 88)) (.slice (some ⟨w.heap.size, 0, none⟩) 1 1) 2 1 (Pl.fE (x, y)) :=
 ⟨rfl, Pl.fE_one _, .inr ⟨_, 1, rfl, fun j v hj => by
  match j with
  | 0 => simp [Pl.fE] at hj; subst hj; simp [Addr.add]
  | 1 => simp [Pl.fE] at hj; subst hj; simp [Addr.add]
  | j + 2 => simp [Pl.fE] at hj⟩⟩
namespace Pl
theorem exF_add {l : List Tj.EN} {k : Nat} {x : Tj.EN} (h : l[k]? = some x) : exF (l.take (k + 1)) = exF (l.take k) ++ (if x.op = 2 then [(x.n, x.w)] else []) := by
 unfold exF
 rw [List.take_add_one, h, List.filter_append, List.map_append]
 by_cases h2 : x.op = 2
 ·simp [h2]
 ·simp [h2]
theorem exH_add {l : List Tj.EN} {k : Nat} {x : Tj.EN} (h : l[k]? = some x) : exH (l.take (k + 1)) = exH (l.take k) ++ (if x.op = 4 then [x.n] else []) := by
 unfold exH
 rw [List.take_add_one, h, List.filter_append, List.map_append]
 by_cases h2 : x.op = 4
 ·simp [h2]
 ·simp [h2]
theorem exH_le (l : List Tj.EN) : (exH l).length ≤ l.length := by
 unfold exH; rw [List.length_map]; exact List.length_filter_le _ _
theorem exF_le (l : List Tj.EN) : (exF l).length ≤ l.length := by
 unfold exF; rw [List.length_map]; exact List.length_filter_le _ _
end Pl
theorem compactFv_any {W : World} {B : Nat} {v : Value} {l : List (Int × Int)} (h : W.ownsRow B 88 2 v l.length (l.flatMap Pl.fE)) : Calls Tryz.prog 126 #[v] W (fun e w' => ∃ v' l', e = .returned v' ∧ Pl.Same l' l ∧ l'.length ≤ l.length ∧ w'.ownsRow B 88 2 v' l'.length (l'.flatMap Pl.fE) ∧ v'.ownBlock = v.ownBlock ∧ Mod (fun k => v.ownBlock = some k) W w') := by
 rcases own_cases h with ⟨rfl, h0⟩ | ⟨b, c, rfl, hb⟩
 ·have HH := Lh h
  clear h
  go_enter Tryz.func126, Tryz.ntmps126
  go_wp2_with fail
  go_ret
  exact ⟨_, l, rfl, Pl.Same.refl _, Nat.le_refl _, HH.out, rfl, Mod.refl _ _⟩
 ·exact (compactF_any h).mono (fun e w' g => by
   obtain ⟨l', h1, h2, h3, h4, h5⟩ := g
   exact ⟨_, l', h1, h2, h3, h4, rfl, h5.mono (fun k _ hk => by simp [Value.ownBlock, hk])⟩)
theorem efields_any {W : World} {v : Value} {l : List Tj.EN} (h : Tj.Exp W v l) (hn : l.length ≤ 1073741824) : Calls Tryz.prog 87 #[v] W (fun e w' => ∃ v' l', e = .returned v' ∧ Pl.Same l' (Pl.exF l) ∧ l'.length ≤ l.length ∧ w'.ownsRow W.heap.size 88 2 v' l'.length (l'.flatMap Pl.fE) ∧ Ext W w') := by
 obtain ⟨oa, c, rfl, hlc, hcm⟩ := h.slice
 unfold maxLen at hcm
 have HX := Lh h
 clear h
 go_enter Tryz.func87, Tryz.ntmps87
 go_wp2_with fail
 go_loopw [3, 8] (fun u q wr => ∃ k : Nat, k ≤ l.length ∧ q = .int .i64 k ∧ ∃ va vc, u = .slice va (Pl.exF (l.take k)).length vc ∧ Hid (Ext W wr ∧ wr.ownsRow W.heap.size 88 2 u (Pl.exF (l.take k)).length ((Pl.exF (l.take k)).flatMap Pl.fE))) (fun _ q _ => l.length - (intOf q).toNat)
 case atStart => exact ⟨0, Nat.zero_le _, rfl, none, 0, rfl, Lh ⟨by first | exact eR _ | exact grows, World.ownsRow_nil _ _ _ _⟩⟩
 case round =>
  obtain ⟨k, hk, rfl, va, vc, rfl, HZ⟩ := hrel
  by_cases hlt : k < l.length
  ·obtain ⟨⟨eo, en, ew⟩, he⟩ : ∃ y, l[k]? = some y := ⟨_, gE hlt⟩
   obtain ⟨b1, o1, rfl, _, hat⟩ := Rows.at HX.out (by omega)
   obtain ⟨cs, _, ⟨rfl, _, _, _⟩, hcs⟩ := hat k _ he
   have g0 := hcs 0 _ rfl
   have g1 := hcs 1 _ rfl
   have g2 := hcs 2 _ rfl
   rw [Nat.add_zero] at g0
   have y0 := alw (HZ.out.1.cell g0)
   have y1 := alw (HZ.out.1.cell g1)
   have y2 := alw (HZ.out.1.cell g2)
   clear hat hcs g0 g1 g2
   dsimp only at y0 y1 y2
   have bx := aH wr (.cells #[.int .i64 eo, .int .i64 en, .int .i64 ew] 85)
   have q0 := alw (cQ 0 bx)
   have q1 := alw (cQ 1 bx)
   have q2 := alw (cQ 2 bx)
   clear bx
   have HT := Lh (Pl.exF_add he)
   clear he
   have hex : (Pl.exF (l.take k)).length ≤ k := Nat.le_trans (Pl.exF_le _) (by rw [List.length_take]; omega)
   by_cases h2 : eo = 2
   ·have w1 : (eo == 2) = true := bT h2
    have HT2 : Hid (Pl.exF (l.take (k + 1)) = Pl.exF (l.take k) ++ [(en, ew)]) := Lh (by rw [HT.out, if_pos h2])
    have HO := Lh (own_ext HZ.out.2 (((eR wr).alloc ((.cells #[.int .i64 eo, .int .i64 en, .int .i64 ew] 85))).alloc (.cells #[.int .i64 en, .int .i64 ew] 88)))
    have HS := Lh (src_fld (wr.alloc ((.cells #[.int .i64 eo, .int .i64 en, .int .i64 ew] 85))) en ew)
    rw [szA] at HS
    clear h2 HT
    go_wp2_with (at_builtin; refine wpList_append_fresh rfl (.tmp 15) (.tmp 21) 181 rfl W.heap.size 88 (.agg #[.int .i64 0, .int .i64 0]) 2 16 Tryz.underlying181 cinf_fref rfl (by decide) (.slice va (Pl.exF (l.take k)).length vc) (Pl.exF (l.take k)).length _ rfl HO.out _ 1 _ rfl HS.out ?d1 ?d2 ?d3 ?_)
    case d1 => unfold maxLen; omega
    case d2 => omega
    case d3 => (have := HZ.out.1.size; (try simp only [szA]); omega)
    intro v' w' hown hgr _
    obtain ⟨va', vc', rfl⟩ := own_slice hown
    have hlen : (Pl.exF (l.take (k + 1))).length = (Pl.exF (l.take k)).length + 1 := by rw [HT2.out, List.length_append]; rfl
    have HL := Lh hlen
    have HO2 := Lh hown
    have HX2 : Hid (Ext W w') := Lh (((Mod.of_ext (S := fun j => some j = (Value.slice va (Pl.exF (l.take k)).length vc).ownBlock) (HZ.out.1.trans (((eR wr).alloc ((.cells #[.int .i64 eo, .int .i64 en, .int .i64 ew] 85))).alloc (.cells #[.int .i64 en, .int .i64 ew] 88)))).trans (grown_mod hgr)).ext (fun j hj => (HO.out.lt j hj.symm).1))
    clear hown hgr hlen q0 q1 q2 y0 y1 y2
    go_wp2_with fail
    go_roundw
    case rel =>
     refine ⟨k + 1, by omega, by go_num, va', vc', by rw [HL.out], Lh ⟨HX2.out, ?_⟩⟩
     rw [HL.out, HT2.out, List.flatMap_append]
     exact HO2.out
    case measure => simp [intOf]; omega
   ·have w1 : (eo == 2) = false := bF h2
    have HT2 : Hid (Pl.exF (l.take (k + 1)) = Pl.exF (l.take k)) := Lh (by rw [HT.out, if_neg h2, List.append_nil])
    clear h2 HT
    go_wp2_with fail
    go_roundw
    case rel =>
     refine ⟨k + 1, by omega, by go_num, va, vc, by rw [HT2.out], Lh ⟨HZ.out.1.trans grows, ?_⟩⟩
     rw [HT2.out]
     exact own_ext HZ.out.2 grows
    case measure => simp [intOf]; omega
  ·obtain rfl : k = l.length := by omega
   rw [List.take_length] at HZ ⊢
   have hex := Pl.exF_le l
   have HP := Lh (sortF1_any HZ.out.2 (by omega))
   go_wp2_with fail
   refine HP.out.mono ?_
   rintro e w5 ⟨rfl, m, hsm, hml, hom, hmm⟩
   rw [← hml]
   have HSM := Lh hsm
   have HML := Lh hml
   have HX5 : Hid (Ext W w5) := Lh (((Mod.of_ext (S := fun j => (Value.slice va (Pl.exF l).length vc).ownBlock = some j) HZ.out.1).trans hmm).ext (fun j hj => (HZ.out.2.lt j hj).1))
   rw [← hml] at hom
   have HOM := Lh hom
   have HC := Lh (compactFv_any hom)
   have hbl : ∀ k, (Value.slice va m.length vc).ownBlock = some k → W.heap.size ≤ k := fun k hk => (hom.lt k hk).1
   have HBL := Lh hbl
   clear HP hsm hml hom hmm hbl
   go_wp2_with fail
   refine HC.out.mono ?_
   rintro e w6 ⟨v6, m6, rfl, hs6, hl6, ho6, _, hm6⟩
   have HS6 := Lh (hs6.trans HSM.out)
   have HL6 : Hid (m6.length ≤ l.length) := Lh (by have := HML.out; omega)
   have HO6 := Lh ho6
   have HX6 : Hid (Ext W w6) := Lh (((Mod.of_ext HX5.out).trans hm6).ext (fun j hj => HBL.out j hj))
   clear hs6 hl6 ho6 hm6 HC
   go_wp2_with fail
   go_ret
   exact ⟨_, m6, rfl, HS6.out, HL6.out, HO6.out, HX6.out⟩
theorem eheaders_any {W : World} {v : Value} {l : List Tj.EN} (h : Tj.Exp W v l) (hn : l.length ≤ 1073741824) : Calls Tryz.prog 88 #[v] W (fun e w' => ∃ v' l', e = .returned v' ∧ Pl.Same l' (Pl.exH l) ∧ l'.length ≤ l.length ∧ w'.ownsRow W.heap.size 3 1 v' l'.length (l'.map (Value.int .i64)) ∧ Ext W w') := by
 obtain ⟨oa, c, rfl, hlc, hcm⟩ := h.slice
 unfold maxLen at hcm
 have HX := Lh h
 clear h
 go_enter Tryz.func88, Tryz.ntmps88
 go_wp2_with fail
 go_loopw [3, 8] (fun u q wr => ∃ k : Nat, k ≤ l.length ∧ q = .int .i64 k ∧ ∃ va vc, u = .slice va (Pl.exH (l.take k)).length vc ∧ Hid (Ext W wr ∧ wr.ownsRow W.heap.size 3 1 u (Pl.exH (l.take k)).length ((Pl.exH (l.take k)).map (Value.int .i64)))) (fun _ q _ => l.length - (intOf q).toNat)
 case atStart => exact ⟨0, Nat.zero_le _, rfl, none, 0, rfl, Lh ⟨by first | exact eR _ | exact grows, World.ownsRow_nil _ _ _ _⟩⟩
 case round =>
  obtain ⟨k, hk, rfl, va, vc, rfl, HZ⟩ := hrel
  by_cases hlt : k < l.length
  ·obtain ⟨⟨eo, en, ew⟩, he⟩ : ∃ y, l[k]? = some y := ⟨_, gE hlt⟩
   obtain ⟨b1, o1, rfl, _, hat⟩ := Rows.at HX.out (by omega)
   obtain ⟨cs, _, ⟨rfl, _, _, _⟩, hcs⟩ := hat k _ he
   have g0 := hcs 0 _ rfl
   have g1 := hcs 1 _ rfl
   have g2 := hcs 2 _ rfl
   rw [Nat.add_zero] at g0
   have y0 := alw (HZ.out.1.cell g0)
   have y1 := alw (HZ.out.1.cell g1)
   have y2 := alw (HZ.out.1.cell g2)
   clear hat hcs g0 g1 g2
   dsimp only at y0 y1 y2
   have bx := aH wr (.cells #[.int .i64 eo, .int .i64 en, .int .i64 ew] 85)
   have q0 := alw (cQ 0 bx)
   have q1 := alw (cQ 1 bx)
   have q2 := alw (cQ 2 bx)
   clear bx
   have HT := Lh (Pl.exH_add he)
   clear he
   have hex : (Pl.exH (l.take k)).length ≤ k := Nat.le_trans (Pl.exH_le _) (by rw [List.length_take]; omega)
   by_cases h2 : eo = 4
   ·have w1 : (eo == 4) = true := bT h2
    have HT2 : Hid (Pl.exH (l.take (k + 1)) = Pl.exH (l.take k) ++ [en]) := Lh (by rw [HT.out, if_pos h2])
    have HO := Lh (own_ext HZ.out.2 (((eR wr).alloc ((.cells #[.int .i64 eo, .int .i64 en, .int .i64 ew] 85))).alloc (.cells #[.int .i64 en] 3)))
    have HS := Lh (src_one (wr.alloc ((.cells #[.int .i64 eo, .int .i64 en, .int .i64 ew] 85))) (.int .i64 en) 3 rfl)
    rw [szA] at HS
    clear h2 HT
    go_wp2_with (at_builtin; refine wpList_append_fresh rfl (.tmp 15) (.tmp 18) 29 rfl W.heap.size 3 (.int .i64 0) 1 8 Tryz.underlying29 info_i64 rfl (by decide) (.slice va (Pl.exH (l.take k)).length vc) (Pl.exH (l.take k)).length _ rfl HO.out _ 1 _ rfl HS.out ?d1 ?d2 ?d3 ?_)
    case d1 => unfold maxLen; omega
    case d2 => omega
    case d3 => (have := HZ.out.1.size; (try simp only [szA]); omega)
    intro v' w' hown hgr _
    obtain ⟨va', vc', rfl⟩ := own_slice hown
    have hlen : (Pl.exH (l.take (k + 1))).length = (Pl.exH (l.take k)).length + 1 := by rw [HT2.out, List.length_append]; rfl
    have HL := Lh hlen
    have HO2 := Lh hown
    have HX2 : Hid (Ext W w') := Lh (((Mod.of_ext (S := fun j => some j = (Value.slice va (Pl.exH (l.take k)).length vc).ownBlock) (HZ.out.1.trans (((eR wr).alloc ((.cells #[.int .i64 eo, .int .i64 en, .int .i64 ew] 85))).alloc (.cells #[.int .i64 en] 3)))).trans (grown_mod hgr)).ext (fun j hj => (HO.out.lt j hj.symm).1))
    clear hown hgr hlen q0 q1 q2 y0 y1 y2
    go_wp2_with fail
    go_roundw
    case rel =>
     refine ⟨k + 1, by omega, by go_num, va', vc', by rw [HL.out], Lh ⟨HX2.out, ?_⟩⟩
     rw [HL.out, HT2.out, List.map_append]
     exact HO2.out
    case measure => simp [intOf]; omega
   ·have w1 : (eo == 4) = false := bF h2
    have HT2 : Hid (Pl.exH (l.take (k + 1)) = Pl.exH (l.take k)) := Lh (by rw [HT.out, if_neg h2, List.append_nil])
    clear h2 HT
    go_wp2_with fail
    go_roundw
    case rel =>
     refine ⟨k + 1, by omega, by go_num, va, vc, by rw [HT2.out], Lh ⟨HZ.out.1.trans grows, ?_⟩⟩
     rw [HT2.out]
     exact own_ext HZ.out.2 grows
    case measure => simp [intOf]; omega
  ·obtain rfl : k = l.length := by omega
   rw [List.take_length] at HZ ⊢
   have hex := Pl.exH_le l
   have HP := Lh (sortI_any HZ.out.2 (by omega))
   go_wp2_with fail
   refine HP.out.mono ?_
   rintro e w5 ⟨rfl, m, hsm, hml, hom, hmm⟩
   rw [← hml]
   have HSM := Lh hsm
   have HML := Lh hml
   have HX5 : Hid (Ext W w5) := Lh (((Mod.of_ext (S := fun j => (Value.slice va (Pl.exH l).length vc).ownBlock = some j) HZ.out.1).trans hmm).ext (fun j hj => (HZ.out.2.lt j hj).1))
   rw [← hml] at hom
   have HOM := Lh hom
   have HC := Lh (compactI_any hom)
   have hbl : ∀ k, (Value.slice va m.length vc).ownBlock = some k → W.heap.size ≤ k := fun k hk => (hom.lt k hk).1
   have HBL := Lh hbl
   clear HP hsm hml hom hmm hbl
   go_wp2_with fail
   refine HC.out.mono ?_
   rintro e w6 ⟨v6, m6, rfl, hs6, hl6, ho6, _, hm6⟩
   have HS6 := Lh (hs6.trans HSM.out)
   have HL6 : Hid (m6.length ≤ l.length) := Lh (by have := HML.out; omega)
   have HO6 := Lh ho6
   have HX6 : Hid (Ext W w6) := Lh (((Mod.of_ext HX5.out).trans hm6).ext (fun j hj => HBL.out j hj))
   clear hs6 hl6 ho6 hm6 HC
   go_wp2_with fail
   go_ret
   exact ⟨_, m6, rfl, HS6.out, HL6.out, HO6.out, HX6.out⟩
namespace Pl
/-- the box at b holds three rows of one's own: fields, headers, registers -/
structure AccB (w : World) (b : Nat) (vf vh vr : Value) (a : Acc) : Prop where
 box : w.heap[b]? = some (.cells #[vf, vh, vr] 222 (0, 0))
 rf : w.ownsRow (b + 1) 88 2 vf a.f.length (a.f.flatMap fE)
 rh : w.ownsRow (b + 1) 3 1 vh a.h.length (a.h.map (Value.int .i64))
 rr : w.ownsRow (b + 1) 3 1 vr a.r.length (a.r.map (Value.int .i64))
 ap : ∀ k, vh.ownBlock = some k → vr.ownBlock ≠ some k
/-- nothing below b has changed, and no statement -/
def Kx (b : Nat) (w w' : World) : Prop := Below b w w' ∧ ∀ (k : Nat) (cur : Array Value) (f : Nat × Nat), w.heap[k]? = some (.cells cur 90 f) → w'.heap[k]? = some (.cells cur 90 f)
theorem Kx.trans {b : Nat} {a c d : World} (h : Kx b a c) (g : Kx b c d) : Kx b a d := ⟨h.1.trans g.1, fun k cur f hk => g.2 k cur f (h.2 k cur f hk)⟩
theorem Kx.ext {b : Nat} {w w' : World} (hx : Ext w w') (hb : b ≤ w.heap.size) : Kx b w w' := ⟨Below.mono hx hb, fun _ _ _ h => hx.heap h⟩
theorem Kx.mod {b : Nat} {S : Nat → Prop} {w w' : World} (hm : Mod S w w') (hb : b ≤ w.heap.size) (hs : ∀ k, S k → b ≤ k ∧ ∀ cur f, w.heap[k]? ≠ some (.cells cur 90 f)) : Kx b w w' :=
 ⟨⟨hm.os, hm.tape, hm.output, hm.size, fun k hk => hm.block k (by omega) (fun h => by have := (hs k h).1; omega)⟩, fun k cur f hk => hm.heap hk (fun h => (hs k h).2 cur f hk)⟩
theorem Kx.low {b : Nat} {w0 w w' : World} (hx : Ext w0 w) (hb : w0.heap.size ≤ b) (h : Kx b w w') : Ext w0 w' := Below.trans hx (h.1.mono hb)
theorem AccB.ext {w w' : World} {b : Nat} {vf vh vr : Value} {a : Acc} (h : AccB w b vf vh vr a) (hx : Ext w w') : AccB w' b vf vh vr a :=
 ⟨hx.heap h.box, own_ext h.rf hx, own_ext h.rh hx, own_ext h.rr hx, h.ap⟩
theorem AccB.lt {w : World} {b : Nat} {vf vh vr : Value} {a : Acc} (h : AccB w b vf vh vr a) : b < w.heap.size := lt_of_block h.box
theorem AccB.start (w : World) : AccB (w.alloc (.cells #[.slice none 0 0, .slice none 0 0, .slice none 0 0] 222)) w.heap.size (.slice none 0 0) (.slice none 0 0) (.slice none 0 0) ⟨[], [], []⟩ :=
 ⟨aH _ _, World.ownsRow_nil _ _ _ _, World.ownsRow_nil _ _ _ _, World.ownsRow_nil _ _ _ _, fun k hk => by cases hk⟩
/-- rows of different kinds are two -/
theorem own_two {w : World} {B C sz sz' n m k : Nat} {e e' : TypeId} {v v' : Value} {xs ys : List Value} (h : w.ownsRow B e sz v n xs) (g : w.ownsRow C e' sz' v' m ys) (hne : e ≠ e') (hk : v.ownBlock = some k) : v'.ownBlock ≠ some k := fun hk' => by
 obtain ⟨c1, h1⟩ := row_heap h hk
 obtain ⟨c2, h2⟩ := row_heap g hk'
 rw [h1] at h2
 simp only [Option.some.injEq, Obj.cells.injEq] at h2
 exact hne h2.2.1
theorem row_kind {w : World} {B sz n k : Nat} {e : TypeId} {v : Value} {xs : List Value} (h : w.ownsRow B e sz v n xs) (hne : e ≠ 90) (hk : v.ownBlock = some k) : ∀ cur f, w.heap[k]? ≠ some (.cells cur 90 f) := fun cur f e2 => by
 obtain ⟨c1, h1⟩ := row_heap h hk
 rw [h1] at e2
 simp only [Option.some.injEq, Obj.cells.injEq] at e2
 exact hne e2.2.1
theorem AccB.putf {w w1 w4 : World} {b : Nat} {vf vh vr v4 : Value} {a : Acc} {l : List (Int × Int)} (h : AccB w b vf vh vr a) (hx : Ext w w1) (hown : w4.ownsRow (b + 1) 88 2 v4 (a.f.length + l.length) (a.f.flatMap fE ++ l.flatMap fE)) (hgr : w1.grownBy w4 vf.ownBlock) :
 AccB (w4.setCell ⟨b, 0, none⟩ v4) b v4 vh vr ⟨a.f ++ l, a.h, a.r⟩ ∧ Kx b w (w4.setCell ⟨b, 0, none⟩ v4) := by
 have h1 := h.ext hx
 have hg := grown_mod hgr
 have box4 := hg.heap h1.box (fun hk => by have := (h1.rf.lt b hk.symm).1; omega)
 have hm5 : Mod (fun k => k = b) w4 (w4.setCell ⟨b, 0, none⟩ v4) := Mod.setCell (S := fun k => k = b) (p := ⟨b, 0, none⟩) (Mod.refl _ _) (.inl rfl) _
 refine ⟨⟨setCell_heap box4, by
  have h := own_mod hown hm5 (fun k hk e => by have := (hown.lt k hk).1; omega)
  rw [List.length_append, List.flatMap_append]
  exact h, own_mod (own_mod h1.rh hg (fun k hk e => own_two h1.rh h1.rf (by decide) hk e.symm)) hm5 (fun k hk e => by have := (h1.rh.lt k hk).1; omega), own_mod (own_mod h1.rr hg (fun k hk e => own_two h1.rr h1.rf (by decide) hk e.symm)) hm5 (fun k hk e => by have := (h1.rr.lt k hk).1; omega), h1.ap⟩, ?_⟩
 have hmm : Mod (fun k => k = b ∨ vf.ownBlock = some k) w (w4.setCell ⟨b, 0, none⟩ v4) := ((Mod.of_ext hx).trans (hg.mono (fun k _ hk => .inr hk.symm))).trans (hm5.mono (fun k _ hk => .inl hk))
 refine Kx.mod hmm (Nat.le_of_lt h.lt) (fun k hk => ?_)
 rcases hk with rfl | hk
 ·refine ⟨Nat.le_refl _, fun cur f e => ?_⟩
  rw [h.box] at e
  simp at e
 ·exact ⟨by have := (h.rf.lt k hk).1; omega, row_kind h.rf (by decide) hk⟩
theorem AccB.puth {w w1 w4 : World} {b : Nat} {vf vh vr v4 : Value} {a : Acc} {l : List Int} (h : AccB w b vf vh vr a) (hx : Ext w w1) (hown : w4.ownsRow (b + 1) 3 1 v4 (a.h.length + l.length) (a.h.map (Value.int .i64) ++ l.map (Value.int .i64))) (hgr : w1.grownBy w4 vh.ownBlock) (hfr : v4.ownBlock = vh.ownBlock ∨ ∀ k, v4.ownBlock = some k → w1.heap.size ≤ k) :
 AccB (w4.setCell ⟨b, 1, none⟩ v4) b vf v4 vr ⟨a.f, a.h ++ l, a.r⟩ ∧ Kx b w (w4.setCell ⟨b, 1, none⟩ v4) := by
 have h1 := h.ext hx
 have hg := grown_mod hgr
 have box4 := hg.heap h1.box (fun hk => by have := (h1.rh.lt b hk.symm).1; omega)
 have hm5 : Mod (fun k => k = b) w4 (w4.setCell ⟨b, 1, none⟩ v4) := Mod.setCell (S := fun k => k = b) (p := ⟨b, 1, none⟩) (Mod.refl _ _) (.inl rfl) _
 refine ⟨⟨setCell_heap box4, own_mod (own_mod h1.rf hg (fun k hk e => own_two h1.rf h1.rh (by decide) hk e.symm)) hm5 (fun k hk e => by have := (h1.rf.lt k hk).1; omega), by
  have h := own_mod hown hm5 (fun k hk e => by have := (hown.lt k hk).1; omega)
  rw [List.length_append, List.map_append]
  exact h, own_mod (own_mod h1.rr hg (fun k hk e => h1.ap k e.symm hk)) hm5 (fun k hk e => by have := (h1.rr.lt k hk).1; omega), fun k hk hk2 => by
  rcases hfr with g | g
  ·exact h1.ap k (by rw [← g]; exact hk) hk2
  ·have := g k hk; have := (h1.rr.lt k hk2).2; omega⟩, ?_⟩
 have hmm : Mod (fun k => k = b ∨ vh.ownBlock = some k) w (w4.setCell ⟨b, 1, none⟩ v4) := ((Mod.of_ext hx).trans (hg.mono (fun k _ hk => .inr hk.symm))).trans (hm5.mono (fun k _ hk => .inl hk))
 refine Kx.mod hmm (Nat.le_of_lt h.lt) (fun k hk => ?_)
 rcases hk with rfl | hk
 ·refine ⟨Nat.le_refl _, fun cur f e => ?_⟩
  rw [h.box] at e
  simp at e
 ·exact ⟨by have := (h.rh.lt k hk).1; omega, row_kind h.rh (by decide) hk⟩
theorem AccB.putr {w w1 w4 : World} {b : Nat} {vf vh vr v4 : Value} {a : Acc} {l : List Int} (h : AccB w b vf vh vr a) (hx : Ext w w1) (hown : w4.ownsRow (b + 1) 3 1 v4 (a.r.length + l.length) (a.r.map (Value.int .i64) ++ l.map (Value.int .i64))) (hgr : w1.grownBy w4 vr.ownBlock) (hfr : v4.ownBlock = vr.ownBlock ∨ ∀ k, v4.ownBlock = some k → w1.heap.size ≤ k) :
 AccB (w4.setCell ⟨b, 2, none⟩ v4) b vf vh v4 ⟨a.f, a.h, a.r ++ l⟩ ∧ Kx b w (w4.setCell ⟨b, 2, none⟩ v4) := by
 have h1 := h.ext hx
 have hg := grown_mod hgr
 have box4 := hg.heap h1.box (fun hk => by have := (h1.rr.lt b hk.symm).1; omega)
 have hm5 : Mod (fun k => k = b) w4 (w4.setCell ⟨b, 2, none⟩ v4) := Mod.setCell (S := fun k => k = b) (p := ⟨b, 2, none⟩) (Mod.refl _ _) (.inl rfl) _
 refine ⟨⟨setCell_heap box4, own_mod (own_mod h1.rf hg (fun k hk e => own_two h1.rf h1.rr (by decide) hk e.symm)) hm5 (fun k hk e => by have := (h1.rf.lt k hk).1; omega), own_mod (own_mod h1.rh hg (fun k hk e => h1.ap k hk e.symm)) hm5 (fun k hk e => by have := (h1.rh.lt k hk).1; omega), by
  have h := own_mod hown hm5 (fun k hk e => by have := (hown.lt k hk).1; omega)
  rw [List.length_append, List.map_append]
  exact h, fun k hk hk2 => by
  rcases hfr with g | g
  ·exact h1.ap k hk (by rw [← g]; exact hk2)
  ·have := g k hk2; have := (h1.rh.lt k hk).2; omega⟩, ?_⟩
 have hmm : Mod (fun k => k = b ∨ vr.ownBlock = some k) w (w4.setCell ⟨b, 2, none⟩ v4) := ((Mod.of_ext hx).trans (hg.mono (fun k _ hk => .inr hk.symm))).trans (hm5.mono (fun k _ hk => .inl hk))
 refine Kx.mod hmm (Nat.le_of_lt h.lt) (fun k hk => ?_)
 rcases hk with rfl | hk
 ·refine ⟨Nat.le_refl _, fun cur f e => ?_⟩
  rw [h.box] at e
  simp at e
 ·exact ⟨by have := (h.rr.lt k hk).1; omega, row_kind h.rr (by decide) hk⟩
/-- the same as sets -/
def SameA (a b : Acc) : Prop := Same a.f b.f ∧ Same a.h b.h ∧ Same a.r b.r
theorem SameA.refl (a : Acc) : SameA a a := ⟨Same.refl _, Same.refl _, Same.refl _⟩
theorem SameA.trans {a b c : Acc} (h : SameA a b) (g : SameA b c) : SameA a c := ⟨h.1.trans g.1, h.2.1.trans g.2.1, h.2.2.trans g.2.2⟩
theorem SameA.app {a b c d : Acc} (h : SameA a b) (g : SameA c d) : SameA (a.app c) (b.app d) := ⟨h.1.app g.1, h.2.1.app g.2.1, h.2.2.app g.2.2⟩
/-- the lists' lengths are at most n -/
def Acc.le (a : Acc) (n : Nat) : Prop := a.f.length ≤ n ∧ a.h.length ≤ n ∧ a.r.length ≤ n
end Pl
end Go.Proofs.YtkiafiaodockbaaGreat
