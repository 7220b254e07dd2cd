/- Rows of one's own: an element put, the rest cleared. No program in sight, no condition. Compacting and sorting as sets; rows of ints of one's own. No program in sight, no condition. A region that draws its order, walked in the order of the text: what only reads is taken under a condition C on the world, which must hold till the operation number d (the last that writes) has come up; d waits for all of them. No program in sight, no condition. A region that draws its order, walked (XRelD) in an order that the walk names: one operation at a time, what has come up is an array. No program in sight, no condition. A collector of cells in memory; its closure, walked. The collector of cells: add, walked. No condition. -/
import Derived.Test.YtkiafiaodockbaaGreatKqAI
import Derived.Deep.MidRow
import Derived.Lib.RowBridge
import Derived.Lib.SlicesCompact
import Derived.OrdersHeld
set_option maxRecDepth 8000
set_option maxHeartbeats 16000000
namespace Go.Proofs.YtkiafiaodockbaaGreat
open Go.RowKit
theorem row_heap {w : World} {base : Nat} {e : TypeId} {size : Nat} {v : Value} {n : Nat} {xs : List Value} (h : w.ownsRow base e size v n xs) {k : Nat} (hk : v.ownBlock = some k) : ∃ cur, w.heap[k]? = some (.cells cur e (0, 0)) := by
 rcases h.2 with ⟨rfl, _⟩ | ⟨g, cap, cur, rfl, hb, hg, _⟩
 ·cases hk
 ·simp only [Value.ownBlock, Option.some.injEq] at hk; subst hk; exact ⟨cur, hg⟩
theorem own_put {w : World} {B sz n g c j : Nat} {e : TypeId} {xs : List Value} {u : Value} (h : w.ownsRow B e sz (.slice (some ⟨g, 0, none⟩) n c) n xs) (hj : j < xs.length) : (w.setCell ⟨g, j, none⟩ u).ownsRow B e sz (.slice (some ⟨g, 0, none⟩) n c) n (xs.set j u) := by
 have _ := hj
 obtain ⟨h1, h2⟩ := h
 refine ⟨by rw [List.length_set]; exact h1, ?_⟩
 rcases h2 with ⟨h2, _⟩ | ⟨g', cap, cur, h2, hb, hg, hc, hm, hs, ht⟩
 ·cases h2
 ·simp only [Value.slice.injEq, Option.some.injEq, Addr.mk.injEq, and_true, true_and] at h2
  obtain ⟨rfl, rfl⟩ := h2
  refine .inr ⟨g, c, cur.setIfInBounds j u, rfl, hb, setCell_heap hg, hc, hm, by simpa using hs, ?_⟩
  rw [Array.toList_setIfInBounds, List.take_set, ht]
theorem own_get {w : World} {B g n c j : Nat} {e : TypeId} {sz : Nat} {xs : List Value} {u : Value} (h : w.ownsRow B e sz (.slice (some ⟨g, 0, none⟩) n c) n xs) (hj : xs[j]? = some u) : w.cell? ⟨g, j, none⟩ = some u := by
 have h4 := h.cells (g := g) rfl _ _ hj
 rw [add_mk, Nat.zero_add] at h4; exact h4
theorem own_obj {w : World} {B g n c : Nat} {e : TypeId} {sz : Nat} {xs : List Value} (h : w.ownsRow B e sz (.slice (some ⟨g, 0, none⟩) n c) n xs) : ∃ cur, w.heap[g]? = some (.cells cur e (0, 0)) := row_heap h rfl
theorem own_take {w : World} {B sz g n c i : Nat} {e : TypeId} {xs : List Value} (h : w.ownsRow B e sz (.slice (some ⟨g, 0, none⟩) n c) n xs) (hi : i ≤ n) : w.ownsRow B e sz (.slice (some ⟨g, 0, none⟩) i c) i (xs.take (i * sz)) := by
 obtain ⟨h1, h2⟩ := h
 have hle : i * sz ≤ n * sz := Nat.mul_le_mul_right _ hi
 refine ⟨by rw [List.length_take, h1]; omega, ?_⟩
 rcases h2 with ⟨h2, _⟩ | ⟨g', cap, cur, h2, hb, hg, hc, hm, hs, ht⟩
 ·cases h2
 ·simp only [Value.slice.injEq, Option.some.injEq, Addr.mk.injEq, and_true, true_and] at h2
  obtain ⟨rfl, rfl⟩ := h2
  exact .inr ⟨g, c, cur, rfl, hb, hg, by omega, hm, hs, by rw [← ht, List.take_take]; congr 1; omega⟩
theorem own_beyond {w : World} {B sz g n c j : Nat} {e : TypeId} {xs : List Value} {u : Value} (h : w.ownsRow B e sz (.slice (some ⟨g, 0, none⟩) n c) n xs) (hj : xs.length ≤ j) : (w.setCell ⟨g, j, none⟩ u).ownsRow B e sz (.slice (some ⟨g, 0, none⟩) n c) n xs := by
 obtain ⟨h1, h2⟩ := h
 refine ⟨h1, ?_⟩
 rcases h2 with ⟨h2, _⟩ | ⟨g', cap, cur, h2, hb, hg, hc, hm, hs, ht⟩
 ·cases h2
 ·simp only [Value.slice.injEq, Option.some.injEq, Addr.mk.injEq, and_true, true_and] at h2
  obtain ⟨rfl, rfl⟩ := h2
  refine .inr ⟨g, c, cur.setIfInBounds j u, rfl, hb, setCell_heap hg, hc, hm, by simpa using hs, ?_⟩
  rw [Array.toList_setIfInBounds, List.take_set, ht, List.set_eq_of_length_le hj]
theorem own_beyonds {B sz g n c : Nat} {e : TypeId} {xs : List Value} : ∀ {us : List Value} {j : Nat} {w : World}, w.ownsRow B e sz (.slice (some ⟨g, 0, none⟩) n c) n xs → xs.length ≤ j → (w.setCells g j us).ownsRow B e sz (.slice (some ⟨g, 0, none⟩) n c) n xs
 | [], _, _, h, _ => h
 | u :: us, j, w, h, hj => own_beyonds (us := us) (own_beyond (u := u) h hj) (by omega)
theorem mod_setCells {g : Nat} : ∀ {us : List Value} {j : Nat} {w : World}, Mod (· = g) w (w.setCells g j us)
 | [], _, w => Mod.refl _ w
 | u :: us, j, w => (Mod.setCell (S := fun k => k = g) (p := ⟨g, j, none⟩) (Mod.refl _ w) (.inl rfl) u).trans (mod_setCells (us := us))
/-- clear of a slice -/
theorem wpList_clearH {P : Program} {ops : Array Oper} {rest : List Oper} {o : Oper} {a : Act} {w : World} {Q : Exit → Act → World → Prop} (hgd : o.guard = none) (x : Operand) (t e : TypeId) (z : Value)
 (ho : o.op = .call { callee := .builtin .clear, args := #[x], argTypes := #[t] }) (ht : P.underlying t = some (.slice e)) (hv : ∀ w, (zeroValue e).run P w = .ok z w)
 (b k n c : Nat) (hx : a.eval x = .slice (some ⟨b, k, none⟩) n c) (hn : 0 < n) (hth : w.there b k (Builtin.zeroCells z.cells n).toList.length) (h1 : ∀ v ∈ (Builtin.zeroCells z.cells n).toList, v.oneCell' = true)
 (h : ∀ w', Hid (w' = w.setCells b k (Builtin.zeroCells z.cells n).toList) → wpList P ops Q rest (a.put o.dst (.tuple #[])) w') : wpList P ops Q (o :: rest) a w :=
 wpList_plain hgd fun _ hK => by
  have hst := run_storeCells_cells (P := P) b k (Builtin.zeroCells z.cells n).toList 0 w (fun j hj => by simpa using (hth j hj).1) (fun j hj => by simpa using (hth j hj).2) h1
  simp only [Nat.add_zero] at hst
  obtain ⟨m, rfl⟩ : ∃ m, n = m + 1 := ⟨n - 1, by omega⟩
  have hr : (Builtin.clear_ #[t] o.type #[.slice (some ⟨b, k, none⟩) (m + 1) c]).run P w = .ok (.tuple #[]) (w.setCells b k (Builtin.zeroCells z.cells (m + 1)).toList) := by
   simp [Builtin.clear_, run_underlying ht, hv, hst]
  unfold Oper.wp execOp
  simp only [ho, resolve, invoke, builtin, Sem.run_bind, Sem.run_pure, Result.andThen_ok, List.map_toArray, List.map_cons, List.map_nil, hx, hr]
  exact hK _ _ (h _ (Lh rfl))
theorem zc_one {n : Nat} {zs : Array Value} (h0 : 0 < zs.size) (h : ∀ k, k < zs.size → (zs[k]!).oneCell' = true) : ∀ v ∈ (Builtin.zeroCells zs n).toList, v.oneCell' = true := by
 intro v hv
 simp only [Builtin.zeroCells, Array.toList_map, List.mem_map] at hv
 obtain ⟨k, _, rfl⟩ := hv
 exact h _ (Nat.mod_lt _ h0)
namespace Pl
/-- a field's two values -/
def fE (a : Int × Int) : List Value := [.int .i64 a.1, .int .i64 a.2]
theorem fE_len (a : Int × Int) : (fE a).length = 2 := rfl
theorem fE_set : ∀ {l : List (Int × Int)} {k : Nat} (v : Int × Int), k < l.length → ((l.flatMap fE).set (k * 2) (.int .i64 v.1)).set (k * 2 + 1) (.int .i64 v.2) = (l.set k v).flatMap fE
 | [], _, _, h => by simp at h
 | x :: l, 0, v, _ => by simp [fE]
 | x :: l, k + 1, v, h => by
  have ih := fE_set (l := l) (k := k) v (by simpa using h)
  rw [stS, List.flatMap_cons, List.flatMap_cons, ← ih, show (k + 1) * 2 = k * 2 + 1 + 1 by omega]
  simp [fE]
theorem fE_get : ∀ {l : List (Int × Int)} {k : Nat} {v : Int × Int}, l[k]? = some v → (l.flatMap fE)[k * 2]? = some (.int .i64 v.1) ∧ (l.flatMap fE)[k * 2 + 1]? = some (.int .i64 v.2)
 | [], _, _, h => by simp at h
 | x :: l, 0, v, h => by
  simp only [List.getElem?_cons_zero, Option.some.injEq] at h
  subst h
  simp [fE]
 | x :: l, k + 1, v, h => by
  have ih := fE_get (l := l) (k := k) (v := v) (by simpa using h)
  rw [List.flatMap_cons, show (k + 1) * 2 = k * 2 + 1 + 1 by omega]
  simpa [fE] using ih
theorem fE_take : ∀ (l : List (Int × Int)) (k : Nat), (l.flatMap fE).take (k * 2) = (l.take k).flatMap fE
 | [], k => by simp
 | x :: l, 0 => by simp
 | x :: l, k + 1 => by
  have ih := fE_take l k
  rw [tkS, List.flatMap_cons, List.flatMap_cons, ← ih, show (k + 1) * 2 = k * 2 + 1 + 1 by omega]
  simp [fE]
/-- a row of fields of one's own, at block b -/
abbrev FRow (w : World) (B : Nat) (T : TypeId) (b c : Nat) (l : List (Int × Int)) : Prop := w.ownsRow B T 2 (.slice (some ⟨b, 0, none⟩) l.length c) l.length (l.flatMap fE)
theorem FRow.at {w : World} {B b c k : Nat} {T : TypeId} {l : List (Int × Int)} {v : Int × Int} (h : FRow w B T b c l) (hk : l[k]? = some v) : w.cell? ⟨b, k * 2, none⟩ = some (.int .i64 v.1) ∧ w.cell? ⟨b, k * 2 + 1, none⟩ = some (.int .i64 v.2) :=
 ⟨own_get h (fE_get hk).1, own_get h (fE_get hk).2⟩
theorem FRow.put {w : World} {B b c k : Nat} {T : TypeId} {l : List (Int × Int)} (h : FRow w B T b c l) (hk : k < l.length) (v : Int × Int) : FRow (w.setCells b (k * 2) [.int .i64 v.1, .int .i64 v.2]) B T b c (l.set k v) := by
 have hl : (l.flatMap fE).length = l.length * 2 := flatMap_len fE_len l
 have h1 := own_put h (j := k * 2) (u := .int .i64 v.1) (by omega)
 have h2 := own_put h1 (j := k * 2 + 1) (u := .int .i64 v.2) (by rw [List.length_set]; omega)
 rw [fE_set v hk] at h2
 have e : (l.set k v).length = l.length := List.length_set
 unfold FRow
 rw [e]; exact h2
theorem FRow.cut {w : World} {B b c k : Nat} {T : TypeId} {l : List (Int × Int)} (h : FRow w B T b c l) (hk : k ≤ l.length) : FRow w B T b c (l.take k) := by
 have h1 := own_take h hk
 rw [fE_take] at h1
 have e : (l.take k).length = k := by rw [List.length_take]; omega
 unfold FRow
 rw [e]; exact h1
theorem FRow.beyond {w : World} {B b c j : Nat} {T : TypeId} {l : List (Int × Int)} (h : FRow w B T b c l) (hj : l.length * 2 ≤ j) (us : List Value) : FRow (w.setCells b j us) B T b c l :=
 own_beyonds h (by rw [flatMap_len fE_len]; exact hj)
theorem FRow.there {w : World} {B b c j n : Nat} {T : TypeId} {l : List (Int × Int)} (h : FRow w B T b c l) (hj : j + n ≤ l.length * 2) : w.there b j n := fun t ht => by
 obtain ⟨cu, hcu⟩ := own_obj h
 have hl : (l.flatMap fE).length = l.length * 2 := flatMap_len fE_len l
 have hlt : j + t < (l.flatMap fE).length := by omega
 have hc := own_get h (gE hlt)
 exact ⟨by rw [hc]; rfl, free_of hcu⟩
theorem FRow.mx {w : World} {B b c : Nat} {T : TypeId} {l : List (Int × Int)} (h : FRow w B T b c l) : l.length ≤ c ∧ c ≤ maxLen := by
 rcases h.2 with ⟨h2, _⟩ | ⟨g', cap, cur, h2, hb, hg, hc, hm, hs, ht⟩
 ·cases h2
 ·simp only [Value.slice.injEq, Option.some.injEq, Addr.mk.injEq, and_true, true_and] at h2
  obtain ⟨rfl, rfl⟩ := h2
  exact ⟨hc, hm⟩
end Pl
open Go.RowKit Go.Sort
namespace Pl
theorem compactUpTo_same (zs : List Int) : ∀ m, m ≤ zs.length → Same (Lib.compactUpTo zs.toArray m) (zs.take m)
 | 0, _ => by simp [Lib.compactUpTo, Same]
 | m + 1, h => fun x => by
  have ih := compactUpTo_same zs m (by omega)
  have hm : m < zs.length := by omega
  have e1 : zs.take (m + 1) = zs.take m ++ [zs[m]] := by rw [List.take_add_one, gE hm]; rfl
  have e2 : zs.toArray[m]! = zs[m] := by rw [getElem!_pos _ m (by simpa using hm)]; simp
  rw [Lib.compactUpTo_succ, e1, List.mem_append, List.mem_append, ih x]
  by_cases hk : Lib.keeps zs.toArray m = true
  ·rw [if_pos hk, e2]
  ·rw [if_neg hk]
   refine ⟨fun g => .inl (by simpa using g), fun g => ?_⟩
   rcases g with g | g
   ·exact .inl g
   ·simp only [List.mem_singleton] at g
    simp only [Lib.keeps, decide_eq_true_eq, not_or, Decidable.not_not] at hk
    obtain ⟨h0, h1⟩ := hk
    have hp : m - 1 < zs.length := by omega
    rw [e2, getElem!_pos _ (m - 1) (by simpa using hp)] at h1
    refine .inl (List.mem_of_getElem? (i := m - 1) ?_)
    rw [List.getElem?_take, if_pos (by omega), gE hp, g, h1]; simp
theorem compact_same (zs : List Int) : Same (Lib.compact zs) zs := by
 have h := compactUpTo_same zs zs.length (Nat.le_refl _)
 rwa [List.take_length] at h
theorem sort_same (zs : List Int) : Same (zs.mergeSort fun x y => decide (x ≤ y)) zs := Same.perm (List.mergeSort_perm _ _)
/-- a row of ints of one's own, at block b -/
abbrev IRow (w : World) (B : Nat) (T : TypeId) (b c : Nat) (l : List Int) : Prop := w.ownsRow B T 1 (.slice (some ⟨b, 0, none⟩) l.length c) l.length (l.map (Value.int .i64))
theorem IRow.parts {w : World} {B b c : Nat} {T : TypeId} {l : List Int} (h : IRow w B T b c l) : ∃ cur, B ≤ b ∧ w.heap[b]? = some (.cells cur T (0, 0)) ∧ l.length ≤ c ∧ c ≤ maxLen ∧ cur.size = c * 1 ∧ cur.toList.take l.length = l.map (Value.int .i64) := by
 rcases h.2 with ⟨h2, _⟩ | ⟨g', cap, cur, h2, hb, hg, hc, hm, hs, ht⟩
 ·cases h2
 ·simp only [Value.slice.injEq, Option.some.injEq, Addr.mk.injEq, and_true, true_and] at h2
  obtain ⟨rfl, rfl⟩ := h2
  exact ⟨cur, hb, hg, hc, hm, hs, by simpa using ht⟩
theorem IRow.holds {w : World} {B b c : Nat} {T : TypeId} {l : List Int} (h : IRow w B T b c l) : Holds (Value.int .i64) w b 0 l.toArray := by
 obtain ⟨cur, _, h2, _, _, _, h6⟩ := h.parts
 exact holds_of_blockI h2 h6
theorem mod_putI {w : World} {g n : Nat} {os : Array Obj} (d : Array Int) : Mod (· = g) w (grow (putRow (Value.int .i64) (Sort.ahead w n) g 0 d) os) := by
 refine ⟨rfl, rfl, rfl, by simp, fun k hk hne => ?_⟩
 rw [heap_grow_old _ _ (by simpa using hk)]
 have : g ≠ k := fun e => hne e.symm
 simp [putRow, mapBlock, Sort.ahead, Array.getElem?_modify, this]
theorem grow_none (w : World) : grow w #[] = w := by cases w; simp [grow]
/-- what a sort, or a compacting, leaves of the row -/
theorem IRow.put {w : World} {B b c n : Nat} {T : TypeId} {l t : List Int} {os : Array Obj} (h : IRow w B T b c l) (hl : t.length = l.length) : IRow (grow (putRow (Value.int .i64) (Sort.ahead w n) b 0 t.toArray) os) B T b c t := by
 obtain ⟨cur, h1, h2, h3, h4, h5, _⟩ := h.parts
 have h := ownsRow_sortedI (n := n) (os := os) hl h1 h2 h3 h4 h5
 unfold IRow
 rw [hl]
 exact h
theorem IRow.cut {w : World} {B b c : Nat} {T : TypeId} {l m : List Int} (h : IRow w B T b c (l ++ m)) : IRow w B T b c l := by
 have h1 := own_take h (i := l.length) (by rw [List.length_append]; omega)
 rw [List.map_append, Nat.mul_one, List.take_left' (by simp)] at h1
 exact h1
theorem fE_one (x : Int × Int) : ∀ v ∈ fE x, v.oneCell' = true := fun v hv => by
 simp only [fE, List.mem_cons, List.not_mem_nil, or_false] at hv
 rcases hv with rfl | rfl <;> rfl
end Pl
/-- the worlds that meet C -/
structure Wh (C : World → Prop) where
 val : World
 out : C val
namespace RelD
section
variable {P : Program} {ops : Array Oper} {Q : Exit → Act → World → Prop} {md : Region.Mode} {C : World → Prop} {d : Nat}
/-- o leaves v and does nothing else, in every world that meets C -/
def YD (P : Program) (ops : Array Oper) (C : World → Prop) (o : Oper) (v : Value) (a : Act) : Prop :=
 (Region.wanted o (yielded ops a.tmps) = true ∧ ∀ w, C w → (execOp a.eval o).run P w = .ok (.value v) w ∨ ((execOp a.eval o).run P w = .ok .skip w ∧ v = undef)) ∨
 (Region.wanted o (yielded ops a.tmps) = false ∧ v = undef)
theorem YD.wpOp {i : Nat} {o : Oper} {v : Value} {a : Act} (hi : ops[i]? = some o) (hy : YD P ops C o v a) {K : Act → World → Prop} {w : World} (hC : C w) (h : K (a.put o.dst v) w) : wpOp P ops Q i K a w := by
 unfold Go.wpOp
 simp only [hi]
 rcases hy with ⟨hw, hv⟩ | ⟨hw, rfl⟩
 ·rw [if_pos hw]
  left
  unfold Oper.wp
  rcases hv w hC with h1 | ⟨h1, rfl⟩
  ·rw [h1]; exact h
  ·rw [h1]; exact h
 ·simp only [hw, Bool.false_eq_true, if_false]; exact h
theorem YD.of_same {o : Oper} {v : Value} {a a' : Act} (hy : YD P ops C o v a) (he : execOp a'.eval o = execOp a.eval o) (hw : Region.wanted o (yielded ops a'.tmps) = Region.wanted o (yielded ops a.tmps)) : YD P ops C o v a' := by
 unfold YD at *
 rw [he, hw]
 exact hy
theorem wpOp_putD {j : Nat} {oi oj : Oper} {v : Value} (hj : ops[j]? = some oj) (hap : oi.apart ops oj = true)
 (hsi : ∀ cs b, oi.op ≠ .select cs b) (hsj : ∀ cs b, oj.op ≠ .select cs b)
 (hQ : ∀ c a w, Q (.panic c) (a.put oi.dst v) w → Q (.panic c) a w) {K : Act → World → Prop} {a : Act} {w : World}
 (hy : YD P ops C oi v a) (h : wpOp P ops Q j K (a.put oi.dst v) w) :
 wpOp P ops Q j (fun a' w' => YD P ops C oi v a' ∧ K (a'.put oi.dst v) w') a w := by
 obtain ⟨h1, h2, h3⟩ := Oper.apart_spec hap
 have keep : ∀ (a : Act), YD P ops C oi v a → ∀ u, YD P ops C oi v (a.put oj.dst u) := fun a hy u =>
  hy.of_same (execOp_put oi hsi a oj.dst u h3) (wanted_put oi a oj.dst u h3)
 have keepD : ∀ d, YD P ops C oi v { a with defers := d :: a.defers } := fun d => hy.of_same rfl rfl
 unfold wpOp at *
 simp only [hj] at *
 rw [wanted_put oj a oi.dst v h1] at h
 split
 ·rename_i hw
  simp only [hw, if_true] at h
  rcases h with h | ⟨hasks, hlets⟩
  case inr => exact .inr ⟨by unfold Oper.asks at *; rw [execOp_put oj hsj a oi.dst v h1] at hasks; exact hasks, hlets⟩
  refine .inl ?_
  unfold Oper.wp at *
  rw [execOp_put oj hsj a oi.dst v h1] at h
  generalize (execOp a.eval oj).run P w = r at *
  cases r with
  | ok n w' =>
   cases n <;> simp only [Oper.upon] at h ⊢
   case value u => exact ⟨keep a hy u, by rw [← Act.put_comm a v u h2]; exact h⟩
   case skip => exact ⟨keep a hy _, by rw [← Act.put_comm a v undef h2]; exact h⟩
   case defer d =>
    refine ⟨keep _ (keepD d) _, ?_⟩
    rw [← Act.put_comm _ v undef h2, ← Act.put_defers]
    exact h
   case enter f args =>
    refine Calls.mono h fun e w'' he => ?_
    cases e with
    | returned u => exact ⟨keep a hy u, by rw [← Act.put_comm a v u h2]; exact he⟩
    | panicked c => exact hQ _ _ _ he
    | outgrown => exact he
   case row row args => exact Rows.mono h fun u w'' he => ⟨keep a hy u, by rw [← Act.put_comm a v u h2]; exact he⟩
  | halt x w' =>
   cases x <;> simp only [Oper.upon] at h ⊢
   case panic u => exact hQ _ _ _ h
 ·rename_i hw
  simp only [hw] at h
  exact ⟨keep a hy _, by rw [← Act.put_comm a v undef h2]; exact h⟩
/-- whatever order; behind each operation C holds, as long as number d has not come up -/
def anyD (P : Program) (md : Region.Mode) (ops : Array Oper) (Q : Exit → Act → World → Prop) (C : World → Prop) (d : Nat) : Nat → Array Bool → Act → World → Prop
 | 0, listed, a, w => Region.ready md ops listed = [] ∧ Q .normal a w
 | fuel + 1, listed, a, w =>
  (Region.ready md ops listed = [] → Q .normal a w) ∧
  ∀ i ∈ Region.ready md ops listed, wpOp P ops Q i (fun a' w' => ((listed.setIfInBounds i true).getD d true = false → C w') ∧ anyD P md ops Q C d fuel (listed.setIfInBounds i true) a' w') a w
theorem wpAny_of_D : ∀ (fuel : Nat) (listed : Array Bool) (a : Act) (w : World), anyD P md ops Q C d fuel listed a w → wpAny P md ops Q fuel listed a w
 | 0, _, _, _, h => h
 | fuel + 1, _, _, _, h => ⟨h.1, fun i hi => wpOp_mono (fun a' w' h' => wpAny_of_D fuel _ a' w' h'.2) (h.2 i hi)⟩
theorem anyD_first {i : Nat} {oi od : Oper} {v : Value} (hi : ops[i]? = some oi) (hsel : ∀ (j : Nat) (o : Oper) cs b, ops[j]? = some o → o.op ≠ .select cs b)
 (hQ : ∀ c a w, Q (.panic c) (a.put oi.dst v) w → Q (.panic c) a w) (hd : ops[d]? = some od) (hdi : ∃ e ∈ od.after, Region.binds md e = true ∧ e.on = i) :
 ∀ (fuel : Nat) (listed : Array Bool) (a : Act) (w : World),
  (∀ j oj, ops[j]? = some oj → j ≠ i → listed.getD j true = false → (∀ e ∈ oj.after, Region.binds md e = true → e.on ≠ i) → oi.apart ops oj = true) →
  i ∈ Region.ready md ops listed → listed.getD d true = false → YD P ops C oi v a → C w →
  anyD P md ops Q C d fuel (listed.setIfInBounds i true) (a.put oi.dst v) w → anyD P md ops Q C d (fuel + 1) listed a w := by
 intro fuel
 induction fuel with
 | zero =>
  intro listed a w _ hr _ hy hS H
  refine ⟨fun h => (by rw [h] at hr; cases hr), fun j hj => ?_⟩
  by_cases hji : j = i
  ·subst hji; exact hy.wpOp hi hS ⟨fun _ => hS, H⟩
  ·have := ready_mono hj hji
   rw [H.1] at this
   cases this
 | succ fuel ih =>
  intro listed a w hfree hr hdl hy hS H
  refine ⟨fun h => (by rw [h] at hr; cases hr), fun j hj => ?_⟩
  by_cases hji : j = i
  ·subst hji; exact hy.wpOp hi hS ⟨fun _ => hS, H⟩
  ·have h1 := H.2 j (ready_mono hj hji)
   obtain ⟨hjun, oj, hoj, hall⟩ := mem_ready.1 hj
   have hnl : listed.getD i false = true → False := fun h1 => by
    have h0 := (mem_ready.1 hr).1
    rcases Nat.lt_or_ge i listed.size with h' | h'
    ·simp [h'] at h0 h1; rw [h0] at h1; cases h1
    ·simp [Array.getElem?_eq_none h'] at h1
   have hnot : ∀ e ∈ oj.after, Region.binds md e = true → e.on ≠ i := fun e he hb heq => by
    have h1 := hall e he hb
    rw [heq] at h1; exact hnl h1
   have hjd : j ≠ d := fun e => by
    subst e
    rw [hoj] at hd
    obtain rfl := Option.some.inj hd
    obtain ⟨e, he, hb, he2⟩ := hdi
    exact hnot e he hb he2
   have hdl' : (listed.setIfInBounds j true).getD d true = false := by rw [getD_set_ne true hjd]; exact hdl
   have h2 := wpOp_putD hoj (hfree j oj hoj hji hjun hnot) (fun cs b => hsel i oi cs b hi) (fun cs b => hsel j oj cs b hoj) hQ hy h1
   have hfree' : ∀ k ok, ops[k]? = some ok → k ≠ i → (listed.setIfInBounds j true).getD k true = false →
    (∀ e ∈ ok.after, Region.binds md e = true → e.on ≠ i) → oi.apart ops ok = true := fun k ok hk hki hun hno => by
    refine hfree k ok hk hki ?_ hno
    by_cases hjk : j = k
    ·subst hjk; exact hjun
    ·rw [getD_set_ne true hjk] at hun; exact hun
   have hcm : (listed.setIfInBounds i true).setIfInBounds j true = (listed.setIfInBounds j true).setIfInBounds i true := Array.setIfInBounds_comm _ _ (fun e => hji e.symm)
   refine wpOp_mono (fun a' w' h3 => ?_) h2
   obtain ⟨h4, h5, h6⟩ := h3
   have hi' : i ≠ d := fun e => by
    subst e
    rw [hi] at hd
    obtain rfl := Option.some.inj hd
    obtain ⟨e, he, hb, he2⟩ := hdi
    obtain ⟨_, o2, ho2, hall2⟩ := mem_ready.1 hr
    rw [hi] at ho2
    obtain rfl := Option.some.inj ho2
    have := hall2 e he hb
    rw [he2] at this; exact hnl this
   have hC' : C w' := h5 (by rw [getD_set_ne true hjd, getD_set_ne true hi']; exact hdl)
   rw [hcm] at h6
   exact ⟨fun _ => hC', ih (listed.setIfInBounds j true) a' w' hfree' (ready_mono hr (Ne.symm hji)) hdl' h4 hC' h6⟩
/-- the first k of n have come up -/
def upto (n k : Nat) : Array Bool := (List.replicate k true ++ List.replicate (n - k) false).toArray
theorem upto_zero (n : Nat) : Array.replicate n false = upto n 0 := by simp [upto]
theorem upto_set {n k : Nat} (h : k < n) : (upto n k).setIfInBounds k true = upto n (k + 1) := by
 unfold upto
 rw [stA, show n - k = (n - (k + 1)) + 1 by omega, List.replicate_succ, List.set_append_right _ _ (by simp), List.length_replicate, Nat.sub_self, stZ, List.replicate_succ' (n := k), List.append_assoc]
 rfl
/-- operation k may be taken, and d waits for it -/
def takeB (md : Region.Mode) (ops : Array Oper) (d k : Nat) : Bool :=
 Region.free md ops (upto ops.size k) k && (Region.ready md ops (upto ops.size k)).contains k && Region.waitsFor md ops d k && decide (k < d) && decide (d < ops.size)
/-- no panic is borne -/
def calm (Q : Exit → Act → World → Prop) : Exit → Act → World → Prop
 | .normal, a, w => Q .normal a w
 | _, _, _ => False
theorem upto_getD {n k d : Nat} (h1 : k ≤ d) (h2 : d < n) : (upto n k).getD d true = false := by
 unfold upto
 simp only [Array.getD_eq_getD_getElem?, List.getElem?_toArray]
 rw [List.getElem?_append_right (by simpa using h1), List.getElem?_replicate, if_pos (by simp; omega)]
 rfl
theorem take1 {k : Nat} {o : Oper} {v : Value} {fuel : Nat} {a : Act} {w : World} (ho : ops[k]? = some o) (hs : Region.noSelect ops = true) (hb : takeB md ops d k = true) (hy : YD P ops C o v a) (hC : C w)
 (h : anyD P md ops (calm Q) C d fuel (upto ops.size (k + 1)) (a.put o.dst v) w) : anyD P md ops (calm Q) C d (fuel + 1) (upto ops.size k) a w := by
 simp only [takeB, Bool.and_eq_true, decide_eq_true_eq] at hb
 obtain ⟨⟨⟨⟨h1, h2⟩, h3⟩, h4⟩, h5⟩ := hb
 obtain ⟨od, hd, e, he, hbi, hon⟩ := Region.waitsFor_spec h3
 exact anyD_first (Q := calm Q) ho (Region.noSelect_spec hs) (fun c a w h => h) hd ⟨e, he, hbi, hon⟩ fuel _ a w (Region.free_spec ho h1) (by simpa using h2) (upto_getD (by omega) h5) hy hC (by rw [upto_set (by omega)]; exact h)
/-- some operations that only read -/
theorem chunk : ∀ (m : Nat) {l : List Oper} {k fuel : Nat} {a : Act} {w : World}, m ≤ l.length → (∀ j, j < l.length → l[j]? = ops[k + j]?) → Region.noSelect ops = true → ((List.range m).all fun j => takeB md ops d (k + j)) = true → (l.take m).all Rel.pureB = true → C w →
 wpQuiet P ops (fun w' => ∃ x : Wh C, w' = x.val) (fun a' => anyD P md ops (calm Q) C d fuel (upto ops.size (k + m)) a' w) (l.take m) a → anyD P md ops (calm Q) C d (fuel + m) (upto ops.size k) a w
 | 0, l, k, fuel, a, w, _, _, _, _, _, _, h => by simpa [wpQuiet] using h
 | m + 1, [], k, fuel, a, w, hm, _, _, _, _, _, _ => by simp at hm
 | m + 1, o :: l, k, fuel, a, w, hm, hl, hs, hb, hp, hC, h => by
  have h0 : ops[k]? = some o := by simpa using (hl 0 (by simp)).symm
  simp only [tkS, List.all_cons, Bool.and_eq_true] at hp
  have hl' : ∀ j, j < l.length → l[j]? = ops[k + 1 + j]? := fun j hj => by have := hl (j + 1) (by simp; omega); simpa [Nat.add_assoc, Nat.add_comm 1 j] using this
  have hb0 : takeB md ops d k = true := by have := List.all_eq_true.1 hb 0 (List.mem_range.2 (by omega)); simpa using this
  have hb' : ((List.range m).all fun j => takeB md ops d (k + 1 + j)) = true := List.all_eq_true.2 fun j hj => by
   have := List.all_eq_true.1 hb (j + 1) (List.mem_range.2 (by have := List.mem_range.1 hj; omega))
   rw [show k + 1 + j = k + (j + 1) by omega]; exact this
  have go : ∀ a', wpQuiet P ops (fun w' => ∃ x : Wh C, w' = x.val) (fun a' => anyD P md ops (calm Q) C d fuel (upto ops.size (k + (m + 1))) a' w) (l.take m) a' → anyD P md ops (calm Q) C d (fuel + m) (upto ops.size (k + 1)) a' w := fun a' h' =>
   chunk m (by simpa using hm) hl' hs hb' hp.2 hC (by rw [show k + 1 + m = k + (m + 1) by omega]; exact h')
  simp only [tkS, wpQuiet] at h
  rw [show fuel + (m + 1) = (fuel + m) + 1 by omega]
  by_cases hw : Region.wanted o (yielded ops a.tmps) = true
  ·rw [if_pos hw] at h
   obtain ⟨v0, hv, hk⟩ := h
   refine take1 (v := v0) h0 hs hb0 (.inl ⟨hw, fun w' hw' => ?_⟩) hC (go _ hk)
   have h1 := hv w' ⟨⟨w', hw'⟩, rfl⟩
   have hn := fun w'' f args => Rel.no_enter (P := P) (w := w') (w' := w'') (f := f) (args := args) hp.1 (ρ := a.eval)
   unfold Oper.quietAt at h1
   generalize (execOp a.eval o).run P w' = res at h1 hn
   cases res with
   | ok n w2 =>
    cases n <;> simp only [Oper.quietUpon] at h1
    case value x => left; rw [h1.1, h1.2]
    case skip => right; exact ⟨by rw [h1.1], h1.2⟩
    case enter f args => exact absurd rfl (hn w2 f args)
   | halt x w2 => simp only [Oper.quietUpon] at h1
  ·rw [if_neg hw] at h
   exact take1 (v := undef) h0 hs hb0 (.inr ⟨by simpa using hw, rfl⟩) hC (go _ h)
/-- what stands behind an operation that acts -/
def next (C : World → Prop) (b : Bool) (K : Act → World → Prop) : Exit → Act → World → Prop
 | .normal, a, w => (b = true → C w) ∧ K a w
 | _, _, _ => False
theorem next_mk {b : Bool} {K : Act → World → Prop} {a : Act} {w : World} (h : b = true → C w) (k : K a w) : next C b K .normal a w := ⟨h, k⟩
/-- an operation that acts: none other may come up -/
theorem real {k : Nat} {o : Oper} {fuel : Nat} {a : Act} {w : World} (ho : ops[k]? = some o) (hg : o.guard = none) (hr : Region.ready md ops (upto ops.size k) = [k]) (hk : k < ops.size)
 (h : wpList P ops (next C (decide (k < d)) (fun a' w' => anyD P md ops (calm Q) C d fuel (upto ops.size (k + 1)) a' w')) [o] a w) : anyD P md ops (calm Q) C d (fuel + 1) (upto ops.size k) a w := by
 refine ⟨fun h0 => (by rw [hr] at h0; cases h0), fun i hi => ?_⟩
 rw [hr] at hi
 obtain rfl : i = k := by simpa using hi
 unfold wpOp
 have hw : Region.wanted o (yielded ops a.tmps) = true := by simp [Region.wanted, hg]
 simp only [ho]
 rw [if_pos hw]
 simp only [wpList] at h
 rw [if_pos hw] at h
 rcases h with h | ⟨_, h⟩
 ·left
  unfold Oper.wp at *
  generalize (execOp a.eval o).run P w = r at *
  have fin : ∀ a' w', next C (decide (i < d)) (fun a' w' => anyD P md ops (calm Q) C d fuel (upto ops.size (i + 1)) a' w') .normal a' w' →
   ((((upto ops.size i).setIfInBounds i true).getD d true = false → C w') ∧ anyD P md ops (calm Q) C d fuel ((upto ops.size i).setIfInBounds i true) a' w') := fun a' w' h => by
   rw [upto_set hk]
   refine ⟨fun hd => h.1 (dTt ?_), h.2⟩
   rcases Nat.lt_or_ge i d with h1 | h1
   ·exact h1
   ·exfalso
    have : (upto ops.size (i + 1)).getD d true = true := by
     unfold upto
     simp only [Array.getD_eq_getD_getElem?, List.getElem?_toArray]
     rw [List.getElem?_append_left (by simp; omega), List.getElem?_replicate, if_pos (by omega)]
     rfl
    rw [this] at hd; cases hd
  cases r with
  | ok n w' =>
   cases n <;> simp only [Oper.upon] at h ⊢
   case value u => exact fin _ _ h
   case skip => exact fin _ _ h
   case defer d => exact fin _ _ h
   case enter f args =>
    refine Calls.mono h fun e w'' he => ?_
    cases e with
    | returned u => exact fin _ _ he
    | panicked c => exact he.elim
    | outgrown => obtain ⟨_, _, he⟩ := he; exact he.elim
   case row row args => exact Rows.mono h fun u w'' he => fin _ _ he
  | halt x w' =>
   cases x <;> simp only [Oper.upon] at h ⊢
   case panic u => exact h.elim
 ·obtain ⟨_, _, h⟩ := h; exact h.elim
theorem done {fuel : Nat} {a : Act} {w : World} (hr : Region.ready md ops (upto ops.size ops.size) = []) (h : Q .normal a w) : anyD P md ops (calm Q) C d fuel (upto ops.size ops.size) a w := by
 cases fuel with
 | zero => exact ⟨hr, h⟩
 | succ n => exact ⟨fun _ => h, by rw [hr]; simp⟩
/-- the region -/
theorem region {id : Nat} {a : Act} {w : World} {l : List Oper} (C : World → Prop) (d : Nat) (hm : P.follows .mixedOrders = true)
 (h : anyD P .any l.toArray (calm Q) C d l.toArray.size (upto l.toArray.size 0) a w.drew) : (Code.region id l.toArray true).wp P Q a w := by
 have h1 : (Code.region id l.toArray true).wp P (calm Q) a w := wp_region_any hm (wpAny_of_D _ _ _ _ (by rw [upto_zero]; exact h))
 refine wp_mono h1 (fun e a w he => ?_)
 cases e with
 | normal => exact he
 | _ => exact he.elim
/-- the checks of a piece of m operations from k on -/
def chunkB (md : Region.Mode) (L : List Oper) (d k m : Nat) : Bool :=
 Region.noSelect L.toArray && ((List.range m).all fun j => takeB md L.toArray d (k + j)) && ((L.drop k).take m).all Rel.pureB && decide (k + m ≤ L.length)
theorem chunkL {L : List Oper} (m : Nat) {k k' fuel' : Nat} (fuel : Nat) {a : Act} {w : World} (hf : fuel' = fuel + m) (hk : k' = k + m) (hb : chunkB md L d k m = true) (hC : C w)
 (h : wpQuiet P L.toArray (fun w' => ∃ x : Wh C, w' = x.val) (fun a' => anyD P md L.toArray (calm Q) C d fuel (upto L.toArray.size k') a' w) ((L.drop k).take m) a) : anyD P md L.toArray (calm Q) C d fuel' (upto L.toArray.size k) a w := by
 subst hf hk
 simp only [chunkB, Bool.and_eq_true, decide_eq_true_eq] at hb
 obtain ⟨⟨⟨h1, h2⟩, h3⟩, h4⟩ := hb
 exact chunk m (l := L.drop k) (by simp; omega) (fun j _ => by simp) h1 h2 h3 hC h
/-- the checks of an operation that acts -/
def realB (md : Region.Mode) (L : List Oper) (k : Nat) : Bool :=
 decide (k < L.length) && decide (Region.ready md L.toArray (upto L.toArray.size k) = [k]) && (match L[k]? with | some o => o.guard.isNone | none => false)
theorem realL {L : List Oper} {k k' fuel' : Nat} (fuel : Nat) {a : Act} {w : World} (hf : fuel' = fuel + 1) (hk : k' = k + 1) (hb : realB md L k = true)
 (h : wpList P L.toArray (next C (decide (k < d)) (fun a' w' => anyD P md L.toArray (calm Q) C d fuel (upto L.toArray.size k') a' w')) ((L.drop k).take 1) a w) : anyD P md L.toArray (calm Q) C d fuel' (upto L.toArray.size k) a w := by
 subst hf hk
 simp only [realB, Bool.and_eq_true, decide_eq_true_eq] at hb
 obtain ⟨⟨h1, h2⟩, h3⟩ := hb
 obtain ⟨o, ho⟩ : ∃ o, L[k]? = some o := ⟨_, gE h1⟩
 rw [ho] at h3
 have e : (L.drop k).take 1 = [o] := by
  rw [List.drop_eq_getElem_cons h1]
  have := (List.getElem?_eq_some_iff.1 ho).2
  rw [this]; rfl
 rw [e] at h
 exact real (by simpa using ho) (by simpa using h3) h2 (by simpa using h1) h
theorem doneL {L : List Oper} {k fuel : Nat} {a : Act} {w : World} (hk : k = L.toArray.size) (hr : Region.ready md L.toArray (upto L.toArray.size k) = []) (h : Q .normal a w) : anyD P md L.toArray (calm Q) C d fuel (upto L.toArray.size k) a w := by
 subst hk; exact done hr h
end
end RelD
namespace RelD
section
variable {P : Program} {Q : Exit → Act → World → Prop} {md : Region.Mode} {C : World → Prop} {d : Nat}
/-- operation k may be taken where D has come up, and d waits for it -/
def oneB (md : Region.Mode) (L : List Oper) (d : Nat) (D : Array Bool) (k : Nat) : Bool :=
 Region.noSelect L.toArray && Region.free md L.toArray D k && (Region.ready md L.toArray D).contains k && Region.waitsFor md L.toArray d k && !(D.getD d true) && ((L.drop k).take 1).all Rel.pureB && decide (k < L.length)
theorem takeG {L : List Oper} {k fuel : Nat} {D : Array Bool} {o : Oper} {v : Value} {a : Act} {w : World} (ho : L.toArray[k]? = some o) (hb : oneB md L d D k = true) (hy : YD P L.toArray C o v a) (hC : C w)
 (h : anyD P md L.toArray (calm Q) C d fuel (D.setIfInBounds k true) (a.put o.dst v) w) : anyD P md L.toArray (calm Q) C d (fuel + 1) D a w := by
 simp only [oneB, Bool.and_eq_true, decide_eq_true_eq, Bool.not_eq_true'] at hb
 obtain ⟨⟨⟨⟨⟨⟨hs, h1⟩, h2⟩, h3⟩, h4⟩, _⟩, _⟩ := hb
 obtain ⟨od, hd, e, he, hbi, hon⟩ := Region.waitsFor_spec h3
 exact anyD_first (Q := calm Q) ho (Region.noSelect_spec hs) (fun c a w h => h) hd ⟨e, he, hbi, hon⟩ fuel _ a w (Region.free_spec ho h1) (by simpa using h2) h4 hy hC h
/-- one operation that only reads -/
theorem oneL {L : List Oper} (k : Nat) {fuel' : Nat} (fuel : Nat) {D : Array Bool} {a : Act} {w : World} (hf : fuel' = fuel + 1) (hb : oneB md L d D k = true) (hC : C w)
 (h : wpQuiet P L.toArray (fun w' => ∃ x : Wh C, w' = x.val) (fun a' => anyD P md L.toArray (calm Q) C d fuel (D.setIfInBounds k true) a' w) ((L.drop k).take 1) a) : anyD P md L.toArray (calm Q) C d fuel' D a w := by
 subst hf
 have hb' := hb
 simp only [oneB, Bool.and_eq_true, decide_eq_true_eq] at hb'
 obtain ⟨⟨_, hp⟩, hk⟩ := hb'
 obtain ⟨o, ho⟩ : ∃ o, L[k]? = some o := ⟨_, gE hk⟩
 have e : (L.drop k).take 1 = [o] := by
  rw [List.drop_eq_getElem_cons hk]
  have := (List.getElem?_eq_some_iff.1 ho).2
  rw [this]; rfl
 rw [e] at h hp
 have h0 : L.toArray[k]? = some o := by simpa using ho
 simp only [List.all_cons, List.all_nil, Bool.and_true] at hp
 simp only [wpQuiet] at h
 by_cases hw : Region.wanted o (yielded L.toArray a.tmps) = true
 ·rw [if_pos hw] at h
  obtain ⟨v0, hv, hk⟩ := h
  refine takeG (v := v0) h0 hb (.inl ⟨hw, fun w' hw' => ?_⟩) hC hk
  have h1 := hv w' ⟨⟨w', hw'⟩, rfl⟩
  have hn := fun w'' f args => Rel.no_enter (P := P) (w := w') (w' := w'') (f := f) (args := args) hp (ρ := a.eval)
  unfold Oper.quietAt at h1
  generalize (execOp a.eval o).run P w' = res at h1 hn
  cases res with
  | ok n w2 =>
   cases n <;> simp only [Oper.quietUpon] at h1
   case value x => left; rw [h1.1, h1.2]
   case skip => right; exact ⟨by rw [h1.1], h1.2⟩
   case enter f args => exact absurd rfl (hn w2 f args)
  | halt x w2 => simp only [Oper.quietUpon] at h1
 ·rw [if_neg hw] at h
  exact takeG (v := undef) h0 hb (.inr ⟨by simpa using hw, rfl⟩) hC h
theorem anyD_firstT {ops : Array Oper} {i : Nat} {oi : Oper} {v : Value} (hi : ops[i]? = some oi) (hsel : ∀ (j : Nat) (o : Oper) cs b, ops[j]? = some o → o.op ≠ .select cs b)
 (hQ : ∀ c a w, Q (.panic c) (a.put oi.dst v) w → Q (.panic c) a w) (hid : i ≠ d) :
 ∀ (fuel : Nat) (listed : Array Bool) (a : Act) (w : World),
  (∀ j oj, ops[j]? = some oj → j ≠ i → listed.getD j true = false → (∀ e ∈ oj.after, Region.binds md e = true → e.on ≠ i) → oi.apart ops oj = true) →
  i ∈ Region.ready md ops listed → YD P ops (fun _ => True) oi v a → (listed.getD d true = false → C w) →
  anyD P md ops Q C d fuel (listed.setIfInBounds i true) (a.put oi.dst v) w → anyD P md ops Q C d (fuel + 1) listed a w := by
 intro fuel
 induction fuel with
 | zero =>
  intro listed a w _ hr hy hS H
  refine ⟨fun h => (by rw [h] at hr; cases hr), fun j hj => ?_⟩
  by_cases hji : j = i
  ·subst hji; exact hy.wpOp hi trivial ⟨fun h => hS (by rw [getD_set_ne true hid] at h; exact h), H⟩
  ·have := ready_mono hj hji
   rw [H.1] at this
   cases this
 | succ fuel ih =>
  intro listed a w hfree hr hy hS H
  refine ⟨fun h => (by rw [h] at hr; cases hr), fun j hj => ?_⟩
  by_cases hji : j = i
  ·subst hji; exact hy.wpOp hi trivial ⟨fun h => hS (by rw [getD_set_ne true hid] at h; exact h), H⟩
  ·have h1 := H.2 j (ready_mono hj hji)
   obtain ⟨hjun, oj, hoj, hall⟩ := mem_ready.1 hj
   have hnl : listed.getD i false = true → False := fun h1 => by
    have h0 := (mem_ready.1 hr).1
    rcases Nat.lt_or_ge i listed.size with h' | h'
    ·simp [h'] at h0 h1; rw [h0] at h1; cases h1
    ·simp [Array.getElem?_eq_none h'] at h1
   have hnot : ∀ e ∈ oj.after, Region.binds md e = true → e.on ≠ i := fun e he hb heq => by
    have h1 := hall e he hb
    rw [heq] at h1; exact hnl h1
   have h2 := wpOp_putD hoj (hfree j oj hoj hji hjun hnot) (fun cs b => hsel i oi cs b hi) (fun cs b => hsel j oj cs b hoj) hQ hy h1
   have hfree' : ∀ k ok, ops[k]? = some ok → k ≠ i → (listed.setIfInBounds j true).getD k true = false →
    (∀ e ∈ ok.after, Region.binds md e = true → e.on ≠ i) → oi.apart ops ok = true := fun k ok hk hki hun hno => by
    refine hfree k ok hk hki ?_ hno
    by_cases hjk : j = k
    ·subst hjk; exact hjun
    ·rw [getD_set_ne true hjk] at hun; exact hun
   have hcm : (listed.setIfInBounds i true).setIfInBounds j true = (listed.setIfInBounds j true).setIfInBounds i true := Array.setIfInBounds_comm _ _ (fun e => hji e.symm)
   refine wpOp_mono (fun a' w' h3 => ?_) h2
   obtain ⟨h4, h5, h6⟩ := h3
   rw [hcm] at h5 h6
   have hC' : (listed.setIfInBounds j true).getD d true = false → C w' := fun h => h5 (by rw [getD_set_ne true hid]; exact h)
   exact ⟨hC', ih (listed.setIfInBounds j true) a' w' hfree' (ready_mono hr (Ne.symm hji)) h4 hC' h6⟩
/-- operation k, which reads no memory, may be taken where D has come up -/
def oneTB (md : Region.Mode) (L : List Oper) (d : Nat) (D : Array Bool) (k : Nat) : Bool :=
 Region.noSelect L.toArray && Region.free md L.toArray D k && (Region.ready md L.toArray D).contains k && ((L.drop k).take 1).all Rel.pureB && decide (k < L.length) && decide (k ≠ d)
theorem oneT {L : List Oper} (k : Nat) {fuel' : Nat} (fuel : Nat) {D : Array Bool} {a : Act} {w : World} (hf : fuel' = fuel + 1) (hb : oneTB md L d D k = true) (hC : D.getD d true = false → C w)
 (h : wpQuiet P L.toArray (fun w' => ∃ x : Wh (fun _ => True), w' = x.val) (fun a' => anyD P md L.toArray (calm Q) C d fuel (D.setIfInBounds k true) a' w) ((L.drop k).take 1) a) : anyD P md L.toArray (calm Q) C d fuel' D a w := by
 subst hf
 simp only [oneTB, Bool.and_eq_true, decide_eq_true_eq] at hb
 obtain ⟨⟨⟨⟨⟨hs, h1⟩, h2⟩, hp⟩, hk⟩, hkd⟩ := hb
 obtain ⟨o, ho⟩ : ∃ o, L[k]? = some o := ⟨_, gE hk⟩
 have e : (L.drop k).take 1 = [o] := by
  rw [List.drop_eq_getElem_cons hk]
  have := (List.getElem?_eq_some_iff.1 ho).2
  rw [this]; rfl
 rw [e] at h hp
 have h0 : L.toArray[k]? = some o := by simpa using ho
 simp only [List.all_cons, List.all_nil, Bool.and_true] at hp
 simp only [wpQuiet] at h
 have take : ∀ v, YD P L.toArray (fun _ => True) o v a → anyD P md L.toArray (calm Q) C d fuel (D.setIfInBounds k true) (a.put o.dst v) w → anyD P md L.toArray (calm Q) C d (fuel + 1) D a w := fun v hy h =>
  anyD_firstT (Q := calm Q) h0 (Region.noSelect_spec hs) (fun c a w h => h) hkd fuel _ a w (Region.free_spec h0 h1) (by simpa using h2) hy hC h
 by_cases hw : Region.wanted o (yielded L.toArray a.tmps) = true
 ·rw [if_pos hw] at h
  obtain ⟨v0, hv, hk⟩ := h
  refine take v0 (.inl ⟨hw, fun w' hw' => ?_⟩) hk
  have h1 := hv w' ⟨⟨w', hw'⟩, rfl⟩
  have hn := fun w'' f args => Rel.no_enter (P := P) (w := w') (w' := w'') (f := f) (args := args) hp (ρ := a.eval)
  unfold Oper.quietAt at h1
  generalize (execOp a.eval o).run P w' = res at h1 hn
  cases res with
  | ok n w2 =>
   cases n <;> simp only [Oper.quietUpon] at h1
   case value x => left; rw [h1.1, h1.2]
   case skip => right; exact ⟨by rw [h1.1], h1.2⟩
   case enter f args => exact absurd rfl (hn w2 f args)
  | halt x w2 => simp only [Oper.quietUpon] at h1
 ·rw [if_neg hw] at h
  exact take undef (.inr ⟨by simpa using hw, rfl⟩) h
/-- the checks of an operation that acts -/
def actB (md : Region.Mode) (L : List Oper) (D : Array Bool) (k : Nat) : Bool :=
 decide (k < L.length) && decide (Region.ready md L.toArray D = [k]) && (match L[k]? with | some o => o.guard.isNone | none => false)
/-- an operation that acts: none other may come up -/
theorem actL {L : List Oper} (k : Nat) {fuel' : Nat} (fuel : Nat) {D : Array Bool} {a : Act} {w : World} (hf : fuel' = fuel + 1) (hb : actB md L D k = true)
 (h : wpList P L.toArray (next C (!((D.setIfInBounds k true).getD d true)) (fun a' w' => anyD P md L.toArray (calm Q) C d fuel (D.setIfInBounds k true) a' w')) ((L.drop k).take 1) a w) : anyD P md L.toArray (calm Q) C d fuel' D a w := by
 subst hf
 simp only [actB, Bool.and_eq_true, decide_eq_true_eq] at hb
 obtain ⟨⟨h1, hr⟩, h3⟩ := hb
 obtain ⟨o, ho⟩ : ∃ o, L[k]? = some o := ⟨_, gE h1⟩
 rw [ho] at h3
 have hg : o.guard = none := by simpa using h3
 have e : (L.drop k).take 1 = [o] := by
  rw [List.drop_eq_getElem_cons h1]
  have := (List.getElem?_eq_some_iff.1 ho).2
  rw [this]; rfl
 rw [e] at h
 refine ⟨fun h0 => (by rw [hr] at h0; cases h0), fun i hi => ?_⟩
 rw [hr] at hi
 obtain rfl : i = k := by simpa using hi
 unfold wpOp
 have hw : Region.wanted o (yielded L.toArray a.tmps) = true := by simp [Region.wanted, hg]
 have ho' : L.toArray[i]? = some o := by simpa using ho
 simp only [ho']
 rw [if_pos hw]
 simp only [wpList] at h
 rw [if_pos hw] at h
 rcases h with h | ⟨_, h⟩
 ·left
  unfold Oper.wp at *
  generalize (execOp a.eval o).run P w = r at *
  have fin : ∀ a' w', next C (!((D.setIfInBounds i true).getD d true)) (fun a' w' => anyD P md L.toArray (calm Q) C d fuel (D.setIfInBounds i true) a' w') .normal a' w' →
   (((D.setIfInBounds i true).getD d true = false → C w') ∧ anyD P md L.toArray (calm Q) C d fuel (D.setIfInBounds i true) a' w') := fun a' w' h => ⟨fun hd => h.1 (by rw [hd]; rfl), h.2⟩
  cases r with
  | ok n w' =>
   cases n <;> simp only [Oper.upon] at h ⊢
   case value u => exact fin _ _ h
   case skip => exact fin _ _ h
   case defer d => exact fin _ _ h
   case enter f args =>
    refine Calls.mono h fun e w'' he => ?_
    cases e with
    | returned u => exact fin _ _ he
    | panicked c => exact he.elim
    | outgrown => obtain ⟨_, _, he⟩ := he; exact he.elim
   case row row args => exact Rows.mono h fun u w'' he => fin _ _ he
  | halt x w' =>
   cases x <;> simp only [Oper.upon] at h ⊢
   case panic u => exact h.elim
 ·obtain ⟨_, _, h⟩ := h; exact h.elim
theorem endL {L : List Oper} {fuel : Nat} {D : Array Bool} {a : Act} {w : World} (hr : Region.ready md L.toArray D = []) (h : Q .normal a w) : anyD P md L.toArray (calm Q) C d fuel D a w := by
 cases fuel with
 | zero => exact ⟨hr, h⟩
 | succ n => exact ⟨fun _ => h, by rw [hr]; simp⟩
end
end RelD
namespace Pl
/-- the collector at b holds the program p and the row v, a row of one's own of the numbers xs -/
def ColB (w : World) (b : Nat) (p : Pg.PV) (v : Value) (xs : List Int) : Prop := w.heap[b]? = some (.cells #[p.c0, p.c1, p.c2, p.c3, p.c4, p.c5, p.c6, p.c7, p.c8, v] 179 (0, 0)) ∧ w.ownsRow (b + 1) 3 1 v xs.length (xs.map (Value.int .i64))
/-- what may have changed since: the collector, its row -/
abbrev ColS (b : Nat) (v : Value) (k : Nat) : Prop := k = b ∨ v.ownBlock = some k
/-- behind a call that adds: the collector holds xs now -/
def ColP (w : World) (b : Nat) (p : Pg.PV) (v : Value) (xs : List Int) (w' : World) : Prop := ∃ v', ColB w' b p v' xs ∧ (∀ k, v'.ownBlock = some k → v.ownBlock = some k ∨ w.heap.size ≤ k) ∧ Mod (ColS b v) w w'
theorem ColB.lt {w : World} {b : Nat} {p : Pg.PV} {v : Value} {xs : List Int} (h : ColB w b p v xs) : b < w.heap.size := lt_of_block h.1
theorem ColB.ext {w w' : World} {b : Nat} {p : Pg.PV} {v : Value} {xs : List Int} (h : ColB w b p v xs) (hx : Ext w w') : ColB w' b p v xs := ⟨hx.heap h.1, own_ext h.2 hx⟩
theorem ColP.refl {w : World} {b : Nat} {p : Pg.PV} {v : Value} {xs : List Int} (h : ColB w b p v xs) : ColP w b p v xs w := ⟨v, h, fun _ h => .inl h, Mod.refl _ _⟩
theorem ColP.ext {w w' w2 : World} {b : Nat} {p : Pg.PV} {v : Value} {xs : List Int} (h : ColP w b p v xs w') (hx : Ext w' w2) : ColP w b p v xs w2 := by
 obtain ⟨v', h1, h2, h3⟩ := h
 exact ⟨v', h1.ext hx, h2, h3.trans (Mod.of_ext hx)⟩
/-- from a world that has grown on -/
theorem ColP.pre {w0 w w' : World} {b : Nat} {p : Pg.PV} {v : Value} {xs : List Int} (hx : Ext w0 w) (h : ColP w b p v xs w') : ColP w0 b p v xs w' := by
 obtain ⟨v', h1, h2, h3⟩ := h
 exact ⟨v', h1, fun k hk => (h2 k hk).imp id (fun h => Nat.le_trans hx.size h), (Mod.of_ext hx).trans h3⟩
theorem ColP.step {w w1 w2 : World} {b : Nat} {p : Pg.PV} {v v1 : Value} {xs : List Int} (h1 : ∀ k, v1.ownBlock = some k → v.ownBlock = some k ∨ w.heap.size ≤ k) (hm : Mod (ColS b v) w w1) (h : ColP w1 b p v1 xs w2) : ColP w b p v xs w2 := by
 obtain ⟨v', g1, g2, g3⟩ := h
 refine ⟨v', g1, fun k hk => ?_, hm.comp g3 (fun i hi ht => ?_)⟩
 ·rcases g2 k hk with g | g
  ·exact h1 k g
  ·exact .inr (Nat.le_trans hm.size g)
 ·rcases ht with rfl | ht
  ·exact .inl rfl
  ·rcases h1 i ht with g | g
   ·exact .inr g
   ·omega
end Pl
theorem cput_any {W : World} {b c : Nat} {p : Pg.PV} {v : Value} {xs : List Int} (hc : W.heap[c]? = some (.cells #[.pointer (some ⟨b, 0, none⟩)] 177 (0, 0))) (hO : Pl.ColB W b p v xs) (hn : xs.length ≤ 1073741824) (n : Int) :
 Calls Tryz.prog 118 #[.int .i64 n, .pointer (some ⟨c, 0, none⟩)] W (fun e w' => e = .returned (.tuple #[]) ∧ Pl.ColP W b p v (xs ++ if 0 ≤ n then [n] else []) w') := by
 have hcb : b ≠ c := ne_of_type hO.1 hc (by decide)
 have hlt := hO.lt
 obtain ⟨va, vc, rfl⟩ := own_slice hO.2
 have HO := Lh hO
 have q0 := alw (cQ 0 hc)
 have q1 := alw (cQ 9 hO.1)
 have HC := Lh hc
 clear hO hc
 by_cases h0 : 0 ≤ n
 ·have z1 : decide (0 ≤ n) = true := dTt h0
  rw [if_pos h0]
  clear h0
  go_enter Tryz.func118, Tryz.ntmps118
  go_wp2_with fail
  obtain ⟨CC, hCC⟩ : ∃ z : World → Prop, z = (fun w' => w'.cell? ⟨c, 0, none⟩ = some (.pointer (some ⟨b, 0, none⟩)) ∧ w'.cell? ⟨b, 9, none⟩ = some (.slice va xs.length vc)) := ⟨_, rfl⟩
  have HCC := Lh hCC
  clear hCC
  refine RelD.region CC 10 (by kernel_rfl) ?_
  have cq0 : ∀ y : Wh CC, y.val.cell? ⟨c, 0, none⟩ = some (.pointer (some ⟨b, 0, none⟩)) := fun y => by have h := Eq.mp (congrFun HCC.out y.val) y.out; exact h.1
  have cq1 : ∀ y : Wh CC, y.val.cell? ⟨b, 9, none⟩ = some (.slice va xs.length vc) := fun y => by have h := Eq.mp (congrFun HCC.out y.val) y.out; exact h.2
  have HC2 : Hid (CC W.drew) := Lh (by rw [HCC.out]; exact ⟨q0 _, q1 _⟩)
  have hNE : Nonempty (Wh CC) := ⟨⟨_, HC2.out⟩⟩
  refine RelD.chunkL (k' := 6) 6 5 (by kernel_rfl) rfl (by kernel_rfl) HC2.out ?_
  simp only [dpZ, tkS, tkZ]
  repeat (go_big_quiet_step (fail))
  refine wpQuiet_nil ?_
  refine RelD.realL (k' := 7) 4 (by kernel_rfl) rfl (by kernel_rfl) ?_
  simp only [dpZ, dpS, tkS, tkZ]
  go_wp2_with fail
  have HC3 : Hid (CC (W.drew.alloc (.cells #[.int .i64 n] 3))) := Lh (by rw [HCC.out]; exact ⟨q0 _, q1 _⟩)
  refine RelD.next_mk (fun _ => HC3.out) ?_
  refine RelD.realL (k' := 8) 3 (by kernel_rfl) rfl (by kernel_rfl) ?_
  simp only [dpZ, dpS, tkS, tkZ]
  go_wp2_with (at_builtin; refine wpList_append_fresh rfl (.tmp 9) (.tmp 11) 29 rfl (b + 1) 3 (.int .i64 0) 1 8 Tryz.underlying29 info_i64 rfl (by decide) (.slice va xs.length vc) xs.length _ rfl (own_ext HO.out.2 (grows (a := W) (b := (W.drew.alloc (.cells #[.int .i64 n] 3))))) _ 1 _ rfl (src_one W.drew _ _ rfl) (by unfold maxLen; omega) (by omega) ?d3 ?_)
  case d3 => (show b + 1 ≤ (W.drew.alloc (.cells #[.int .i64 n] 3)).heap.size; rw [szA]; show b + 1 ≤ W.heap.size + 1; omega)
  intro v' w4 hown hgr hfr
  obtain ⟨va4, vc4, rfl⟩ := own_slice hown
  have hO1 := own_ext HO.out.2 (grows (a := W) (b := (W.drew.alloc (.cells #[.int .i64 n] 3))))
  have hsz : W.heap.size ≤ W.heap.size + 1 := Nat.le_succ _
  have HM4 : Hid (Mod (Pl.ColS b (.slice va xs.length vc)) W w4) := Lh ((Mod.of_ext (grows (a := W) (b := (W.drew.alloc (.cells #[.int .i64 n] 3))))).trans ((grown_mod hgr).mono (fun k _ hk => .inr hk.symm)))
  have HB4 := Lh ((grown_mod hgr).heap ((grows (a := W) (b := (W.drew.alloc (.cells #[.int .i64 n] 3)))).heap HO.out.1) (fun hk => by have := (hO1.lt b hk.symm).1; omega))
  have HK4 := Lh ((grown_mod hgr).heap ((grows (a := W) (b := (W.drew.alloc (.cells #[.int .i64 n] 3)))).heap HC.out) (fun hk => by
   obtain ⟨cu, hcu⟩ := row_heap hO1 hk.symm
   rw [(grows (a := W) (b := (W.drew.alloc (.cells #[.int .i64 n] 3)))).heap HC.out] at hcu
   simp at hcu))
  have HF4 : Hid (∀ k, (Value.slice va4 (xs.length + 1) vc4).ownBlock = some k → (Value.slice va xs.length vc).ownBlock = some k ∨ W.heap.size ≤ k) := Lh (fun k hk => by
   rcases hfr with h | h
   ·exact .inl (by rw [← h]; exact hk)
   ·exact .inr (Nat.le_trans hsz (h k hk)))
  have HO4 := Lh hown
  have HC4 : Hid (CC w4) := Lh (by rw [HCC.out]; exact ⟨cQ 0 HK4.out, cQ 9 HB4.out⟩)
  have y1 : w4.cell? ⟨b, 9, none⟩ = some (.slice va xs.length vc) := cQ 9 HB4.out
  have yf : w4.frozen? ⟨b, 9, none⟩ = false := free_of HB4.out
  clear hown hgr hfr hO1 hsz
  go_wp2_with fail
  refine RelD.next_mk (fun _ => HC4.out) ?_
  refine RelD.realL (k' := 9) 2 (by kernel_rfl) rfl (by kernel_rfl) ?_
  simp only [dpZ, dpS, tkS, tkZ]
  go_wp2_with fail
  refine RelD.next_mk (fun _ => HC4.out) ?_
  refine RelD.realL (k' := 10) 1 (by kernel_rfl) rfl (by kernel_rfl) ?_
  simp only [dpZ, dpS, tkS, tkZ]
  go_wp2_with fail
  refine RelD.next_mk (fun _ => HC4.out) ?_
  refine RelD.realL (k' := 11) 0 (by kernel_rfl) rfl (by kernel_rfl) ?_
  simp only [dpZ, dpS, tkS, tkZ]
  go_wp2_with (refine wpList_store_cellK rfl 29 (.tmp 14) (.tmp 12) rfl b 9 (.slice va xs.length vc) (.slice va4 (xs.length + 1) vc4) rfl rfl (by kernel_rfl) rfl y1 yf ?_)
  intro w5 hw5
  have hm5 : Mod (· = b) w4 w5 := by rw [hw5.out]; exact Mod.setCell (S := fun k => k = b) (p := ⟨b, 9, none⟩) (Mod.refl _ _) (.inl rfl) _
  have hb5 : w5.heap[b]? = some (.cells #[p.c0, p.c1, p.c2, p.c3, p.c4, p.c5, p.c6, p.c7, p.c8, .slice va4 (xs.length + 1) vc4] 179 (0, 0)) := by rw [hw5.out]; exact setCell_heap HB4.out
  have HP : Hid (Pl.ColP W b p (.slice va xs.length vc) (xs ++ [n]) w5) := Lh ⟨.slice va4 (xs.length + 1) vc4, ⟨hb5, by
   have h := own_mod HO4.out hm5 (fun k hk e => by have := (HO4.out.lt k hk).1; omega)
   rw [List.length_append, List.map_append]
   exact h⟩, HF4.out, HM4.out.comp hm5 (fun i _ hi => .inl hi)⟩
  clear hw5 hm5 hb5
  go_wp2_with fail
  refine RelD.next_mk (fun h => absurd h (by decide)) ?_
  refine RelD.doneL (by kernel_rfl) (by kernel_rfl) ?_
  go_wp2_with fail
  first | go_end0 | skip
  exact ⟨rfl, HP.out⟩
 ·have z1 : decide (0 ≤ n) = false := dF h0
  rw [if_neg h0, List.append_nil]
  clear h0
  go_enter Tryz.func118, Tryz.ntmps118
  go_wp2_with fail
  first | go_end0 | skip
  exact ⟨rfl, Pl.ColP.refl HO.out⟩
namespace Pl
theorem ColP.keep {w w' : World} {b k : Nat} {p : Pg.PV} {v : Value} {xs ys : List Int} {cur : Array Value} {t : TypeId} {f : Nat × Nat} (h : ColP w b p v xs w') (hO : ColB w b p v ys) (hk : w.heap[k]? = some (.cells cur t f)) (h1 : 3 ≠ t) (h2 : k ≠ b) : w'.heap[k]? = some (.cells cur t f) := by
 obtain ⟨_, _, _, hm⟩ := h
 refine hm.heap hk (fun hs => ?_)
 rcases hs with hs | hs
 ·exact h2 hs
 ·obtain ⟨cu, hcu⟩ := row_heap hO.2 hs
  rw [hk] at hcu
  simp only [Option.some.injEq, Obj.cells.injEq] at hcu
  exact h1 hcu.2.1.symm
/-- the collector's blocks lie above B -/
theorem ColB.ge {w : World} {b B : Nat} {p : Pg.PV} {v : Value} {xs : List Int} (h : ColB w b p v xs) (hb : B ≤ b) : ∀ k, ColS b v k → B ≤ k := by
 intro k hk
 rcases hk with rfl | hk
 ·exact hb
 ·have := (h.2.lt k hk).1; omega
/-- a field in two cells, a number in one -/
def FrR (_w : World) (cs : List Value) (d : Int × Int) : Prop := cs = [.int .i64 d.1, .int .i64 d.2]
def IrR (_w : World) (cs : List Value) (d : Int) : Prop := cs = [.int .i64 d]
def cf (F : Tj.FP) (l : List (Int × Int)) : List Int := (l.map (fun q => fcell F q.1 q.2)).filter (fun x => decide (0 ≤ x))
def ch (F : Tj.FP) (l : List Int) : List Int := (l.map (vcell F)).filter (fun x => decide (0 ≤ x))
def cr (F : Tj.FP) (l : List Int) : List Int := (l.map (rcell F)).filter (fun x => decide (0 ≤ x))
theorem cells_eq (F : Tj.FP) (a : Acc) : cells F a = cf F a.f ++ (ch F a.h ++ cr F a.r) := by
 unfold cells cf ch cr; rw [List.filter_append, List.filter_append, List.append_assoc]
theorem filter_one (x : Int) : [x].filter (fun x => decide (0 ≤ x)) = if 0 ≤ x then [x] else [] := by
 by_cases h : 0 ≤ x
 ·rw [if_pos h]; simp [h]
 ·rw [if_neg h]; simp [h]
theorem cf_add {F : Tj.FP} {l : List (Int × Int)} {k : Nat} {x : Int × Int} (h : l[k]? = some x) : cf F (l.take (k + 1)) = cf F (l.take k) ++ if 0 ≤ fcell F x.1 x.2 then [fcell F x.1 x.2] else [] := by
 unfold cf; rw [List.take_add_one, h, List.map_append, List.filter_append, ← filter_one]; rfl
theorem ch_add {F : Tj.FP} {l : List Int} {k : Nat} {x : Int} (h : l[k]? = some x) : ch F (l.take (k + 1)) = ch F (l.take k) ++ if 0 ≤ vcell F x then [vcell F x] else [] := by
 unfold ch; rw [List.take_add_one, h, List.map_append, List.filter_append, ← filter_one]; rfl
theorem cr_add {F : Tj.FP} {l : List Int} {k : Nat} {x : Int} (h : l[k]? = some x) : cr F (l.take (k + 1)) = cr F (l.take k) ++ if 0 ≤ rcell F x then [rcell F x] else [] := by
 unfold cr; rw [List.take_add_one, h, List.map_append, List.filter_append, ← filter_one]; rfl
theorem flt_le {α : Type} (f : α → Int) (l : List α) : ((l.map f).filter (fun x => decide (0 ≤ x))).length ≤ l.length := by
 refine Nat.le_trans (List.length_filter_le _ _) ?_
 rw [List.length_map]; exact Nat.le_refl _
theorem mod_low {S : Nat → Prop} {W0 W w : World} (hx : Ext W0 W) (h : Mod S W w) (hs : ∀ k, S k → W0.heap.size ≤ k) : Ext W0 w :=
 ⟨h.os.trans hx.os, h.tape.trans hx.tape, h.output.trans hx.output, Nat.le_trans hx.size h.size, fun i hi => (h.block i (Nat.lt_of_lt_of_le hi hx.size) (fun hS => by have := hs i hS; omega)).trans (hx.block i hi)⟩
theorem IrR.nil (w : World) : Rows w 1 IrR (.slice none 0 0) [] := .inl ⟨rfl, rfl⟩
theorem fr_at {w : World} {oa : Option Addr} {n c k : Nat} {l : List (Int × Int)} {x : Int × Int} (h : Rows w 2 FrR (.slice oa n c) l) (hk : l[k]? = some x) : ∃ b o, oa = some ⟨b, o, none⟩ ∧ w.cell? ⟨b, o + k * 2, none⟩ = some (.int .i64 x.1) ∧ w.cell? ⟨b, o + k * 2 + 1, none⟩ = some (.int .i64 x.2) := by
 obtain ⟨b, o, e, _, h4⟩ := h.at (by have := (List.getElem?_eq_some_iff.1 hk).1; omega)
 obtain ⟨cs, _, rfl, hc⟩ := h4 k x hk
 exact ⟨b, o, e, hc 0 _ rfl, hc 1 _ rfl⟩
theorem ir_at {w : World} {oa : Option Addr} {n c k : Nat} {l : List Int} {x : Int} (h : Rows w 1 IrR (.slice oa n c) l) (hk : l[k]? = some x) : ∃ b o, oa = some ⟨b, o, none⟩ ∧ w.cell? ⟨b, o + k, none⟩ = some (.int .i64 x) := by
 obtain ⟨b, o, e, _, h4⟩ := h.at (by have := (List.getElem?_eq_some_iff.1 hk).1; omega)
 obtain ⟨cs, _, rfl, hc⟩ := h4 k x hk
 have := hc 0 _ rfl
 rw [Nat.mul_one, Nat.add_zero] at this
 exact ⟨b, o, e, this⟩
end Pl
theorem cadd_any {W0 W : World} {b : Nat} {p : Pg.PV} {F : Tj.FP} {v fv hv rv : Value} {xs hl rl : List Int} {fl : List (Int × Int)} (hF : Tj.IsF W0 p F) (hB : Pl.Bd F) (hx : Ext W0 W) (hW0 : W0.heap.size ≤ b) (hO : Pl.ColB W b p v xs)
 (hf : ∀ w', Mod (Pl.ColS b v) W w' → Rows w' 2 Pl.FrR fv fl) (hh : ∀ w', Mod (Pl.ColS b v) W w' → Rows w' 1 Pl.IrR hv hl) (hr : ∀ w', Mod (Pl.ColS b v) W w' → Rows w' 1 Pl.IrR rv rl) (hn : xs.length + fl.length + hl.length + rl.length ≤ 1073741824) :
 Calls Tryz.prog 86 #[.pointer (some ⟨b, 0, none⟩), fv, hv, rv] W (fun e w' => e = .returned (.tuple #[]) ∧ Pl.ColP W b p v (xs ++ Pl.cells F ⟨fl, hl, rl⟩) w') := by
 have HFC : Hid (∀ (h f : Int) w, Ext W0 w → Calls Tryz.prog 119 #[p.val, .agg #[.int .i64 h, .int .i64 f]] w (Rets w (.int .i64 (Pl.fcell F h f)))) := Lh (fun h f w hx => afcell_any (hF.ext hx) hB h f)
 have HVC : Hid (∀ (i : Int) w, Ext W0 w → Calls Tryz.prog 120 #[p.val, .int .i64 i] w (Rets w (.int .i64 (Pl.vcell F i)))) := Lh (fun i w hx => avcell_any (hF.ext hx) hB i)
 have HRC : Hid (∀ (i : Int) w, Ext W0 w → Calls Tryz.prog 121 #[p.val, .int .i64 i] w (Rets w (.int .i64 (Pl.rcell F i)))) := Lh (fun i w hx => arcell_any (hF.ext hx) hB i)
 obtain ⟨a1, a2, a3, a4, a5, a6, a7, a8, m1, m2, m3, m4, m5, m6, n7, m7, m8, hf⟩ := hF.form
 obtain ⟨rfl, hnm, hhs, hmd, hrs, has, hts, hss, hct, hdp, l1, l2, l3, l4, l5, l6, l7, l8⟩ := hf
 obtain ⟨fa, fc, rfl, lf1, lf2⟩ := (hf W (Mod.refl _ _)).slice
 obtain ⟨ha, hc, rfl, lh1, lh2⟩ := (hh W (Mod.refl _ _)).slice
 obtain ⟨ra, rc, rfl, lr1, lr2⟩ := (hr W (Mod.refl _ _)).slice
 unfold maxLen at lf2 lh2 lr2
 dsimp only [Pg.PV.val] at HFC HVC HRC hO
 have hblt := hO.lt
 have HO := Lh hO
 have HX := Lh hx
 have HGE := Lh (hO.ge hW0)
 have HFL := Lh hf
 have HHL := Lh hh
 have HRL := Lh hr
 have hc1 := Pl.flt_le (fun q : Int × Int => Pl.fcell F q.1 q.2)
 have bx := aH W (.cells #[.pointer (some ⟨b, 0, none⟩)] 177)
 have k0 := alw (cQ 0 bx)
 have HI0 : Hid (Pl.ColP W b ⟨.string F.nm, .slice a1 F.P.hs.length m1, .slice a2 F.P.md.length m2, .slice a3 F.rs.length m3, .slice a4 F.ac.length m4, .slice a5 F.ts.length m5, .slice a6 F.ss.length m6, .slice a7 n7 m7, .slice a8 F.P.dp.length m8⟩ v (xs ++ Pl.cf F (fl.take 0)) (W.alloc (.cells #[.pointer (some ⟨b, 0, none⟩)] 177)) ∧ (W.alloc (.cells #[.pointer (some ⟨b, 0, none⟩)] 177)).heap[W.heap.size]? = some (.cells #[.pointer (some ⟨b, 0, none⟩)] 177 (0, 0))) := Lh ⟨(Pl.ColP.refl (by rw [show Pl.cf F (fl.take 0) = [] from rfl, List.append_nil]; exact HO.out)).ext grows, bx⟩
 have hmf : ∀ (fn : Fn) (first cap : Array Value) (w : World), (Instr.makeFunc fn first cap).run Tryz.prog w = .ok (.func fn first cap) w := fun _ _ _ _ => rfl
 clear hF hnm hhs hmd hrs has hts hss hct hdp hB hx hW0 hO hf hh hr bx k0 hc1
 go_enter Tryz.func86, Tryz.ntmps86
 go_wp2_with fail
 go_loopw [18] (fun q wr => ∃ k : Nat, k ≤ fl.length ∧ q = .int .i64 k ∧ Hid (Pl.ColP W b ⟨.string F.nm, .slice a1 F.P.hs.length m1, .slice a2 F.P.md.length m2, .slice a3 F.rs.length m3, .slice a4 F.ac.length m4, .slice a5 F.ts.length m5, .slice a6 F.ss.length m6, .slice a7 n7 m7, .slice a8 F.P.dp.length m8⟩ v (xs ++ Pl.cf F (fl.take k)) wr ∧ wr.heap[W.heap.size]? = some (.cells #[.pointer (some ⟨b, 0, none⟩)] 177 (0, 0)))) (fun q _ => fl.length - (intOf q).toNat)
 case atStart => exact ⟨0, Nat.zero_le _, rfl, HI0⟩
 case round =>
  obtain ⟨k, hk, rfl, HZ⟩ := hrel
  obtain ⟨v1, hb1, hf1, hm1⟩ := HZ.out.1
  by_cases hlt : k < fl.length
  ·have HXR : Hid (Ext W0 wr) := Lh (Pl.mod_low HX.out hm1 HGE.out)
   obtain ⟨⟨x1, x2⟩, hxk⟩ : ∃ y, fl[k]? = some y := ⟨_, gE hlt⟩
   obtain ⟨fb, fo, rfl, g0, g1⟩ := Pl.fr_at (HFL.out wr hm1) hxk
   dsimp only at g0 g1
   have y0 := alw g0
   have y1 := alw g1
   have p0 := alw (cQ 0 hb1.1)
   have p1 := alw (cQ 1 hb1.1)
   have p2 := alw (cQ 2 hb1.1)
   have p3 := alw (cQ 3 hb1.1)
   have p4 := alw (cQ 4 hb1.1)
   have p5 := alw (cQ 5 hb1.1)
   have p6 := alw (cQ 6 hb1.1)
   have p7 := alw (cQ 7 hb1.1)
   have p8 := alw (cQ 8 hb1.1)
   have c0 := alw (cQ 0 HZ.out.2)
   have bx := aH wr (.cells #[.int .i64 x1, .int .i64 x2] 88)
   have mz0 := alw (cQ 0 bx)
   have mz1 := alw (cQ 1 bx)
   clear bx
   have HAD := Lh (Pl.cf_add (F := F) hxk)
   have HCC := Lh (HFC.out x1 x2)
   dsimp only at HAD
   obtain ⟨z, hz⟩ : ∃ z, z = Pl.fcell F x1 x2 := ⟨_, rfl⟩
   rw [← hz] at HAD HCC
   have HLN : Hid ((xs ++ Pl.cf F (fl.take k)).length ≤ 1073741824) := Lh (by
    have e3 : (Pl.cf F (fl.take k)).length ≤ (fl.take k).length := Pl.flt_le _ _
    rw [List.length_take] at e3
    simp only [List.length_append]
    omega)
   have HM1 := Lh hm1
   have HF1 := Lh hf1
   have HB1 := Lh hb1
   clear hz hxk g0 g1 hb1 hf1 hm1
   go_wp2_with fail
   refine wp_region_later_tail (W := wr.alloc (.cells #[.int .i64 x1, .int .i64 x2] 88)) 7 (by kernel_rfl) (by kernel_rfl) grows ?_
   simp only [tkS, tkZ, dpS, dpZ]
   repeat (go_big_quiet_step (first | (go_at_call 119; exact Rets.later_at (HCC.out _ (HXR.out.trans grows))) | fail))
   refine wpQuiet_nil ?_
   intro w5 hx5
   have s5 := Sm hx5
   have HX5 : Hid (Ext wr w5) := Lh grows
   go_wp2_with fail
   refine (cput_any (HX5.out.heap HZ.out.2) (HB1.out.ext HX5.out) HLN.out z).mono ?_
   rintro e w6 ⟨rfl, hp6⟩
   have HI6 : Hid (Pl.ColP W b ⟨.string F.nm, .slice a1 F.P.hs.length m1, .slice a2 F.P.md.length m2, .slice a3 F.rs.length m3, .slice a4 F.ac.length m4, .slice a5 F.ts.length m5, .slice a6 F.ss.length m6, .slice a7 n7 m7, .slice a8 F.P.dp.length m8⟩ v (xs ++ Pl.cf F (fl.take (k + 1))) w6 ∧ w6.heap[W.heap.size]? = some (.cells #[.pointer (some ⟨b, 0, none⟩)] 177 (0, 0))) := Lh ⟨by
    rw [HAD.out, ← List.append_assoc]
    exact Pl.ColP.step HF1.out HM1.out (Pl.ColP.pre HX5.out hp6), hp6.keep (HB1.out.ext HX5.out) (HX5.out.heap HZ.out.2) (by decide) (by omega)⟩
   clear hp6
   go_wp2_with fail
   go_roundw
   case rel => exact ⟨k + 1, by omega, by go_num, HI6⟩
   case measure => simp [intOf]; omega
  ·obtain rfl : k = fl.length := by omega
   have HIh : Hid (Pl.ColP W b ⟨.string F.nm, .slice a1 F.P.hs.length m1, .slice a2 F.P.md.length m2, .slice a3 F.rs.length m3, .slice a4 F.ac.length m4, .slice a5 F.ts.length m5, .slice a6 F.ss.length m6, .slice a7 n7 m7, .slice a8 F.P.dp.length m8⟩ v (xs ++ Pl.cf F fl ++ Pl.ch F (hl.take 0)) wr ∧ wr.heap[W.heap.size]? = some (.cells #[.pointer (some ⟨b, 0, none⟩)] 177 (0, 0))) := Lh (by
    have h := HZ.out
    rw [List.take_length] at h
    rw [show Pl.ch F (hl.take 0) = [] from rfl, List.append_nil]
    exact h)
   clear HZ hb1 hf1 hm1
   go_wp2_with fail
   go_loopw [33] (fun q wr => ∃ k : Nat, k ≤ hl.length ∧ q = .int .i64 k ∧ Hid (Pl.ColP W b ⟨.string F.nm, .slice a1 F.P.hs.length m1, .slice a2 F.P.md.length m2, .slice a3 F.rs.length m3, .slice a4 F.ac.length m4, .slice a5 F.ts.length m5, .slice a6 F.ss.length m6, .slice a7 n7 m7, .slice a8 F.P.dp.length m8⟩ v (xs ++ Pl.cf F fl ++ Pl.ch F (hl.take k)) wr ∧ wr.heap[W.heap.size]? = some (.cells #[.pointer (some ⟨b, 0, none⟩)] 177 (0, 0)))) (fun q _ => hl.length - (intOf q).toNat)
   case atStart => exact ⟨0, Nat.zero_le _, rfl, HIh⟩
   case round =>
    obtain ⟨k, hk, rfl, HZ⟩ := hrel
    obtain ⟨v1, hb1, hf1, hm1⟩ := HZ.out.1
    by_cases hlt : k < hl.length
    ·have HXR : Hid (Ext W0 wr) := Lh (Pl.mod_low HX.out hm1 HGE.out)
     obtain ⟨x, hxk⟩ : ∃ y, hl[k]? = some y := ⟨_, gE hlt⟩
     obtain ⟨fb2, fo2, rfl, g0⟩ := Pl.ir_at (HHL.out wr hm1) hxk
     have y0 := alw g0
     have p0 := alw (cQ 0 hb1.1)
     have p1 := alw (cQ 1 hb1.1)
     have p2 := alw (cQ 2 hb1.1)
     have p3 := alw (cQ 3 hb1.1)
     have p4 := alw (cQ 4 hb1.1)
     have p5 := alw (cQ 5 hb1.1)
     have p6 := alw (cQ 6 hb1.1)
     have p7 := alw (cQ 7 hb1.1)
     have p8 := alw (cQ 8 hb1.1)
     have c0 := alw (cQ 0 HZ.out.2)
     have HAD := Lh (Pl.ch_add (F := F) hxk)
     have HCC := Lh (HVC.out x)
     obtain ⟨z, hz⟩ : ∃ z, z = Pl.vcell F x := ⟨_, rfl⟩
     rw [← hz] at HAD HCC
     have HLN : Hid ((xs ++ Pl.cf F fl ++ Pl.ch F (hl.take k)).length ≤ 1073741824) := Lh (by
      have e1 : (Pl.cf F fl).length ≤ fl.length := Pl.flt_le _ _
      have e2 : (Pl.ch F hl).length ≤ hl.length := Pl.flt_le _ _
      have e3 : (Pl.ch F (hl.take k)).length ≤ (hl.take k).length := Pl.flt_le _ _
      rw [List.length_take] at e3
      simp only [List.length_append]
      omega)
     have HM1 := Lh hm1
     have HF1 := Lh hf1
     have HB1 := Lh hb1
     clear hz hxk g0 hb1 hf1 hm1
     go_wp2_with fail
     refine via (HCC.out _ HXR.out) fun w5 x5 s5 => ?_
     have HX5 : Hid (Ext wr w5) := Lh x5
     clear x5
     go_wp2_with fail
     refine (cput_any (HX5.out.heap HZ.out.2) (HB1.out.ext HX5.out) HLN.out z).mono ?_
     rintro e w6 ⟨rfl, hp6⟩
     have HI6 : Hid (Pl.ColP W b ⟨.string F.nm, .slice a1 F.P.hs.length m1, .slice a2 F.P.md.length m2, .slice a3 F.rs.length m3, .slice a4 F.ac.length m4, .slice a5 F.ts.length m5, .slice a6 F.ss.length m6, .slice a7 n7 m7, .slice a8 F.P.dp.length m8⟩ v (xs ++ Pl.cf F fl ++ Pl.ch F (hl.take (k + 1))) w6 ∧ w6.heap[W.heap.size]? = some (.cells #[.pointer (some ⟨b, 0, none⟩)] 177 (0, 0))) := Lh ⟨by
      rw [HAD.out, ← List.append_assoc]
      exact Pl.ColP.step HF1.out HM1.out (Pl.ColP.pre HX5.out hp6), hp6.keep (HB1.out.ext HX5.out) (HX5.out.heap HZ.out.2) (by decide) (by omega)⟩
     clear hp6
     go_wp2_with fail
     go_roundw
     case rel => exact ⟨k + 1, by omega, by go_num, HI6⟩
     case measure => simp [intOf]; omega
    ·obtain rfl : k = hl.length := by omega
     have HIr : Hid (Pl.ColP W b ⟨.string F.nm, .slice a1 F.P.hs.length m1, .slice a2 F.P.md.length m2, .slice a3 F.rs.length m3, .slice a4 F.ac.length m4, .slice a5 F.ts.length m5, .slice a6 F.ss.length m6, .slice a7 n7 m7, .slice a8 F.P.dp.length m8⟩ v (xs ++ Pl.cf F fl ++ Pl.ch F hl ++ Pl.cr F (rl.take 0)) wr ∧ wr.heap[W.heap.size]? = some (.cells #[.pointer (some ⟨b, 0, none⟩)] 177 (0, 0))) := Lh (by
      have h := HZ.out
      rw [List.take_length] at h
      rw [show Pl.cr F (rl.take 0) = [] from rfl, List.append_nil]
      exact h)
     clear HZ hb1 hf1 hm1
     go_wp2_with fail
     go_loopw [48] (fun q wr => ∃ k : Nat, k ≤ rl.length ∧ q = .int .i64 k ∧ Hid (Pl.ColP W b ⟨.string F.nm, .slice a1 F.P.hs.length m1, .slice a2 F.P.md.length m2, .slice a3 F.rs.length m3, .slice a4 F.ac.length m4, .slice a5 F.ts.length m5, .slice a6 F.ss.length m6, .slice a7 n7 m7, .slice a8 F.P.dp.length m8⟩ v (xs ++ Pl.cf F fl ++ Pl.ch F hl ++ Pl.cr F (rl.take k)) wr ∧ wr.heap[W.heap.size]? = some (.cells #[.pointer (some ⟨b, 0, none⟩)] 177 (0, 0)))) (fun q _ => rl.length - (intOf q).toNat)
     case atStart => exact ⟨0, Nat.zero_le _, rfl, HIr⟩
     case round =>
      obtain ⟨k, hk, rfl, HZ⟩ := hrel
      obtain ⟨v1, hb1, hf1, hm1⟩ := HZ.out.1
      by_cases hlt : k < rl.length
      ·have HXR : Hid (Ext W0 wr) := Lh (Pl.mod_low HX.out hm1 HGE.out)
       obtain ⟨x, hxk⟩ : ∃ y, rl[k]? = some y := ⟨_, gE hlt⟩
       obtain ⟨fb2, fo2, rfl, g0⟩ := Pl.ir_at (HRL.out wr hm1) hxk
       have y0 := alw g0
       have p0 := alw (cQ 0 hb1.1)
       have p1 := alw (cQ 1 hb1.1)
       have p2 := alw (cQ 2 hb1.1)
       have p3 := alw (cQ 3 hb1.1)
       have p4 := alw (cQ 4 hb1.1)
       have p5 := alw (cQ 5 hb1.1)
       have p6 := alw (cQ 6 hb1.1)
       have p7 := alw (cQ 7 hb1.1)
       have p8 := alw (cQ 8 hb1.1)
       have c0 := alw (cQ 0 HZ.out.2)
       have HAD := Lh (Pl.cr_add (F := F) hxk)
       have HCC := Lh (HRC.out x)
       obtain ⟨z, hz⟩ : ∃ z, z = Pl.rcell F x := ⟨_, rfl⟩
       rw [← hz] at HAD HCC
       have HLN : Hid ((xs ++ Pl.cf F fl ++ Pl.ch F hl ++ Pl.cr F (rl.take k)).length ≤ 1073741824) := Lh (by
        have e1 : (Pl.cf F fl).length ≤ fl.length := Pl.flt_le _ _
        have e2 : (Pl.ch F hl).length ≤ hl.length := Pl.flt_le _ _
        have e3 : (Pl.cr F (rl.take k)).length ≤ (rl.take k).length := Pl.flt_le _ _
        rw [List.length_take] at e3
        simp only [List.length_append]
        omega)
       have HM1 := Lh hm1
       have HF1 := Lh hf1
       have HB1 := Lh hb1
       clear hz hxk g0 hb1 hf1 hm1
       go_wp2_with fail
       refine via (HCC.out _ HXR.out) fun w5 x5 s5 => ?_
       have HX5 : Hid (Ext wr w5) := Lh x5
       clear x5
       go_wp2_with fail
       refine (cput_any (HX5.out.heap HZ.out.2) (HB1.out.ext HX5.out) HLN.out z).mono ?_
       rintro e w6 ⟨rfl, hp6⟩
       have HI6 : Hid (Pl.ColP W b ⟨.string F.nm, .slice a1 F.P.hs.length m1, .slice a2 F.P.md.length m2, .slice a3 F.rs.length m3, .slice a4 F.ac.length m4, .slice a5 F.ts.length m5, .slice a6 F.ss.length m6, .slice a7 n7 m7, .slice a8 F.P.dp.length m8⟩ v (xs ++ Pl.cf F fl ++ Pl.ch F hl ++ Pl.cr F (rl.take (k + 1))) w6 ∧ w6.heap[W.heap.size]? = some (.cells #[.pointer (some ⟨b, 0, none⟩)] 177 (0, 0))) := Lh ⟨by
        rw [HAD.out, ← List.append_assoc]
        exact Pl.ColP.step HF1.out HM1.out (Pl.ColP.pre HX5.out hp6), hp6.keep (HB1.out.ext HX5.out) (HX5.out.heap HZ.out.2) (by decide) (by omega)⟩
       clear hp6
       go_wp2_with fail
       go_roundw
       case rel => exact ⟨k + 1, by omega, by go_num, HI6⟩
       case measure => simp [intOf]; omega
      ·obtain rfl : k = rl.length := by omega
       have HE : Hid (Pl.ColP W b ⟨.string F.nm, .slice a1 F.P.hs.length m1, .slice a2 F.P.md.length m2, .slice a3 F.rs.length m3, .slice a4 F.ac.length m4, .slice a5 F.ts.length m5, .slice a6 F.ss.length m6, .slice a7 n7 m7, .slice a8 F.P.dp.length m8⟩ v (xs ++ Pl.cells F ⟨fl, hl, rl⟩) wr) := Lh (by
        rw [Pl.cells_eq]
        have h := HZ.out.1
        rw [List.take_length, List.append_assoc, List.append_assoc] at h
        exact h)
       clear HZ hb1 hf1 hm1
       go_wp2_with fail
       first | go_end0 | skip
       exact ⟨rfl, HE.out⟩
end Go.Proofs.YtkiafiaodockbaaGreat
