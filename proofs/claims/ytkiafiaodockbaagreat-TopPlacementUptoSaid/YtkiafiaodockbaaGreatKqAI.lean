/- Regions that draw their order, walked by relations (XRel), with a tail in order; makes, allocations and literals of one element as such steps. No program in sight, no condition. Operations that make a block, as steps of a region that draws its order (XRel). No program in sight, no condition. Cells of a program: access.counts, first, cell, ValidCell, RegisterCell, walked. resource.blocks, resource.add, walked. What tables take: table.Bits, resource.argumentBits, walked. Cells of a program: access.cell, ValidCell, RegisterCell, FieldCell, walked. Lists as sets: what sorting and compacting keep. No program in sight, no condition. Slices of a call's own, sorted by the library: the bridge to its contracts. No program in sight, no condition. No condition. -/
import Derived.Test.YtkiafiaodockbaaGreatKqAH
import Derived.Deep.Draws
import Derived.Deep.OwnRows
import Derived.Laws.CopyRow
import Derived.Laws.Tables
import Derived.Shelf.GgSortFunc.RowK
import Derived.Sort.OwnSortedInts
import Derived.Test.YtkiafiaodockbaaGreatProg
import Derived.WalkKit
import Derived.WalkMore
set_option maxRecDepth 8000
set_option maxHeartbeats 16000000
namespace Go.Proofs.YtkiafiaodockbaaGreat
open Go.RowKit
namespace Rel
section
variable {P : Program} {ops : Array Oper} {md : Region.Mode} {W0 : World} {R : Nat → Option (Value → World → Prop)}
/-- the head's operations in whatever order, f of them to come, then L -/
def head (P : Program) (md : Region.Mode) (ops : Array Oper) (W0 : World) (R : Nat → Option (Value → World → Prop)) (n : Nat) (L : Array Bool → Facts → Act → Prop) : Nat → Array Bool → Facts → Act → Prop
 | 0, done, Φ, a => L done Φ a
 | f + 1, done, Φ, a => Region.ready md ops done ≠ [] ∧ ∀ i ∈ Region.ready md ops done, i < n ∧ step P md ops W0 R Φ i (head P md ops W0 R n L f (done.setIfInBounds i true)) a
theorem any_of_head {n g : Nat} {L : Array Bool → Facts → Act → Prop} {Q' : Exit → Act → World → Prop} (hR : LastsR R) (hL : ∀ done Φ a w, Ext W0 w → (∀ k, Φ k w) → L done Φ a → wpAny P md ops Q' g done a w) :
 ∀ (f : Nat) (done : Array Bool) (Φ : Facts) (a : Act) (w : World), Lasts Φ → Ext W0 w → (∀ k, Φ k w) → head P md ops W0 R n L f done Φ a → wpAny P md ops Q' (f + g) done a w
 | 0, _, _, _, _, _, hw, hf, h => by rw [Nat.zero_add]; exact hL _ _ _ _ hw hf h
 | f + 1, _, _, _, _, hl, hw, hf, h => by
  rw [show f + 1 + g = (f + g) + 1 by omega]
  exact ⟨fun h0 => absurd h0 h.1, fun i hi => wp_of_step hR hl hw hf (fun Φ' a' w' hl' hw' hf' => any_of_head hR hL f _ Φ' a' w' hl' hw' hf') (h.2 i hi).2⟩
theorem head_first {n i : Nat} {oi : Oper} {L : Array Bool → Facts → Act → Prop} (hR : LastsR R) (hi : ops[i]? = some oi) (hsel : ∀ (j : Nat) (o : Oper) cs b, ops[j]? = some o → o.op ≠ .select cs b)
 (hs : Region.sinkB md ops n = true) (hc : Region.chainB md ops n = true) (hn : n < ops.size) (hin : i < n) (hdone : ∀ done Φ a, L done Φ a → ∀ j ∈ Region.ready md ops done, n ≤ j) :
 ∀ (f : Nat) (done : Array Bool) (Φ : Facts) (a : Act), HeadInv md ops n done → Lasts Φ → Sat W0 Φ →
  (∀ j oj, ops[j]? = some oj → j ≠ i → done.getD j true = false → (∀ e ∈ oj.after, Region.binds md e = true → e.on ≠ i) → oi.apart ops oj = true) →
  i ∈ Region.ready md ops done → step P md ops W0 R Φ i (head P md ops W0 R n L f (done.setIfInBounds i true)) a → head P md ops W0 R n L (f + 1) done Φ a := by
 intro f
 induction f with
 | zero =>
  intro done Φ a inv hl hS _ hr H
  have hun := (mem_ready.1 hr).1
  refine ⟨fun h => (by rw [h] at hr; cases hr), fun j hj => ?_⟩
  have hjn : j < n := Nat.lt_of_not_le fun h => absurd hj (tail_waits hs hc hn inv _ i rfl hin hun j h)
  refine ⟨hjn, ?_⟩
  by_cases hji : j = i
  ·subst hji; exact H
  ·have hm := ready_mono hj hji
   obtain ⟨o, V, F, _, hmd, hk⟩ := H
   obtain ⟨v, hv⟩ := hmd.some hl hS
   have := hdone _ _ _ (hk v hv) j hm; omega
 | succ f ih =>
  intro done Φ a inv hl hS hfree hr H
  have hun := (mem_ready.1 hr).1
  refine ⟨fun h => (by rw [h] at hr; cases hr), fun j hj => ?_⟩
  have hjn : j < n := Nat.lt_of_not_le fun h => absurd hj (tail_waits hs hc hn inv _ i rfl hin hun j h)
  refine ⟨hjn, ?_⟩
  by_cases hji : j = i
  ·subst hji; exact H
  ·obtain ⟨hjun, oj, hoj, hall⟩ := mem_ready.1 hj
   obtain ⟨hiun, oi', hoi', halli⟩ := mem_ready.1 hr
   obtain rfl : oi = oi' := Option.some.inj (hi.symm.trans hoi')
   have hnot : ∀ e ∈ oj.after, Region.binds md e = true → e.on ≠ i := fun e he hb heq => by
    have h1 := hall e he hb
    rw [heq, getD_both hiun] at h1; cases h1
   have wji : Region.waitsFor md ops j i = false := by
    rw [← Bool.not_eq_true]; intro hw
    obtain ⟨o, ho, e, he, hb, hon⟩ := Region.waitsFor_spec hw
    obtain rfl : oj = o := Option.some.inj (hoj.symm.trans ho)
    exact hnot e he hb hon
   have wij : Region.waitsFor md ops i j = false := by
    rw [← Bool.not_eq_true]; intro hw
    obtain ⟨o, ho, e, he, hb, hon⟩ := Region.waitsFor_spec hw
    obtain rfl : oi = o := Option.some.inj (hi.symm.trans ho)
    have h1 := halli e he hb
    rw [hon, getD_both hjun] at h1; cases h1
   have hfree' : ∀ k ok, ops[k]? = some ok → k ≠ i → (done.setIfInBounds j true).getD k true = false →
    (∀ e ∈ ok.after, Region.binds md e = true → e.on ≠ i) → oi.apart ops ok = true := fun k ok hk hki hun hno => by
    refine hfree k ok hk hki ?_ hno
    by_cases hjk : j = k
    ·subst hjk; exact hjun
    ·rw [getD_set_ne true hjk] at hun; exact hun
   have H2 : step P md ops W0 R Φ i (fun Φ1 a1 => step P md ops W0 R Φ1 j (head P md ops W0 R n L f ((done.setIfInBounds i true).setIfInBounds j true)) a1) a :=
    step_mono hR hl hS (fun Φ' a' _ _ h => (h.2 j (ready_mono hj hji)).2) H
   refine step_mono hR hl hS (fun Φ' a' hl' hs' h3 => ih (done.setIfInBounds j true) Φ' a' (inv.set hj hjn) hl' hs' hfree' (ready_mono hr (Ne.symm hji)) ?_)
    (swap hl hS hi hoj (hfree j oj hoj hji hjun hnot) (fun cs b => hsel i oi cs b hi) (fun cs b => hsel j oj cs b hoj) wji wij H2)
   rw [Array.setIfInBounds_comm _ _ hji]
   exact h3
theorem head_lex {n g : Nat} {Lq : Facts → Act → Prop} (hR : LastsR R) (hsel : Region.noSelect ops = true) (hs : Region.sinkB md ops n = true) (hc : Region.chainB md ops n = true) (hn : n < ops.size) (l : List Oper) :
 ∀ (k : Nat) (done : Array Bool) (Φ : Facts) (a : Act), (∀ j, j < l.length → l[j]? = ops[k + j]?) → k + l.length = n → HeadInv md ops n done → Lasts Φ → Sat W0 Φ →
 Region.lexHead md ops g l.length k done = true → walk P md ops W0 R Lq l k Φ a →
 head P md ops W0 R n (fun done' Φ' a' => Region.seqB md ops g n done' = true ∧ Lq Φ' a') l.length done Φ a := by
 induction l with
 | nil =>
  intro k done Φ a _ hk _ _ _ hB h
  obtain rfl : k = n := by simpa using hk
  exact ⟨by simpa [Region.lexHead] using hB, h⟩
 | cons o l ih =>
  intro k done Φ a hl hk inv hL hS hB h
  have h0 : ops[k]? = some o := by simpa using (hl 0 (by simp)).symm
  simp only [List.length_cons, Region.lexHead, Bool.and_eq_true] at hB
  obtain ⟨⟨hr, hf⟩, hB'⟩ := hB
  have hkn : k < n := by simp only [List.length_cons] at hk; omega
  have hr' : k ∈ Region.ready md ops done := by simpa using hr
  exact head_first hR h0 (Region.noSelect_spec hsel) hs hc hn hkn (fun _ _ _ hL => seqB_ready hL.1) l.length done Φ a inv hL hS (Region.free_spec h0 hf) hr'
   (step_mono hR hL hS (fun Φ' a' hL' hS' h' => ih (k + 1) _ Φ' a' (fun j hj => by have := hl (j + 1) (by simp; omega); simpa [Nat.add_assoc, Nat.add_comm 1 j] using this) (by simp only [List.length_cons] at hk; omega) (inv.set hr' hkn) hL' hS' hB' h') h)
/-- The region: the first n operations by relations, the others in order behind them. -/
theorem region_tail {id : Nat} {Q : Exit → Act → World → Prop} {a : Act} {w W : World} {l : List Oper} (n : Nat) (R : Nat → Option (Value → World → Prop)) (hR : LastsR R) (hm : P.follows .mixedOrders = true) (hB : Region.lexTailB .any l.toArray n = true) (hW : Ext W w)
 (h : walk P .any l.toArray W R (fun Φ a' => ∀ w' : World, Ext W w' → (∀ k, Φ k w') → wpList P l.toArray Q (l.drop n) a' w') (l.take n) 0 (fun _ _ => True) a) : (Code.region id l.toArray true).wp P Q a w := by
 simp only [Region.lexTailB, Bool.and_eq_true, decide_eq_true_eq] at hB
 obtain ⟨⟨⟨⟨hsel, hn⟩, hs⟩, hc⟩, hlex⟩ := hB
 have hn' : n < l.length := by simpa using hn
 have htl : (l.take n).length = n := by simp; omega
 have hdl : (l.drop n).length = l.toArray.size - n := by simp
 have inv0 : HeadInv .any l.toArray n (Array.replicate l.toArray.size false) :=
  ⟨by simp, fun j oj _ hl => (by rw [getD_replicate_false] at hl; cases hl), fun t _ ht => getD_in (by simpa using ht) (getD_replicate_false _ _)⟩
 have H := head_lex (P := P) (W0 := W) (md := .any) (g := l.toArray.size - n) hR hsel hs hc hn (l.take n) 0 _ (fun _ _ => True) a (fun j hj => by
  rw [htl] at hj; simp [hj]) (by simpa using htl) inv0 (fun _ _ _ _ _ => trivial) ⟨W, eR W, fun _ => trivial⟩ (by rw [htl]; exact hlex) h
 refine wp_region_any hm ?_
 have := any_of_head (Q' := Q) (g := l.toArray.size - n) hR (fun done Φ' a' w' hw' hf' hL => by
  have := wpAny_of_seq (md := .any) (Q' := Q) (l.drop n) n done a' w' (fun j => by simp [List.getElem?_drop]) (by rw [hdl]; exact hL.1) (hL.2 w' hw' hf')
  rwa [hdl] at this) _ _ _ _ _ (fun _ _ _ _ _ => trivial) hW.drew (fun _ => trivial) H
 rw [htl, show n + (l.toArray.size - n) = l.toArray.size by omega] at this
 exact this
/-- some operations that need no fact, within a part of the region -/
theorem chunkT' {Q : Facts → Act → Prop} : ∀ (m : Nat) {l : List Oper} {k : Nat} {Φ : Facts} {a : Act}, (∀ j, j < l.length → l[j]? = ops[k + j]?) → (List.range m).all (fun j => (R (k + j)).isNone) = true → (l.take m).all pureB = true →
 wpQuiet P ops (fun w' => ∃ x : Later W0, w' = x.val) (fun a' => walk P md ops W0 R Q (l.drop m) (k + m) Φ a') (l.take m) a → walk P md ops W0 R Q l k Φ a
 | 0, l, k, Φ, a, _, _, _, h => by simpa [wpQuiet] using h
 | m + 1, [], k, Φ, a, _, _, _, h => by simpa [wpQuiet, walk] using h
 | m + 1, o :: l, k, Φ, a, hl, hR, hp, h => by
  have h0 : ops[k]? = some o := by simpa using (hl 0 (by simp)).symm
  have hn : R k = none := by
   have := List.all_eq_true.1 hR 0 (List.mem_range.2 (by omega))
   simpa using this
  simp only [tkS, List.all_cons, Bool.and_eq_true] at hp
  have hl' : ∀ j, j < l.length → l[j]? = ops[k + 1 + j]? := fun j hj => by have := hl (j + 1) (by simp; omega); simpa [Nat.add_assoc, Nat.add_comm 1 j] using this
  have hR' : (List.range m).all (fun j => (R (k + 1 + j)).isNone) = true := List.all_eq_true.2 fun j hj => by
   have := List.all_eq_true.1 hR (j + 1) (List.mem_range.2 (by have := List.mem_range.1 hj; omega))
   rw [show k + 1 + j = k + (j + 1) by omega]; exact this
  have go : ∀ a', wpQuiet P ops (fun w' => ∃ x : Later W0, w' = x.val) (fun a' => walk P md ops W0 R Q ((o :: l).drop (m + 1)) (k + (m + 1)) Φ a') (l.take m) a' → walk P md ops W0 R Q l (k + 1) Φ a' := fun a' h' =>
   chunkT' m hl' hR' hp.2 (by rw [show k + 1 + m = k + (m + 1) by omega]; simpa using h')
  simp only [tkS, wpQuiet] at h
  by_cases hw : Region.wanted o (yielded ops a.tmps) = true
  ·rw [if_pos hw] at h
   obtain ⟨v0, hv, hk⟩ := h
   refine ⟨o, _, _, h0, .exact v0 hw hn hp.1 (fun w hc => ?_), fun v hv => ?_⟩
   ·have := hv w ⟨⟨w, hc.1⟩, rfl⟩
    have e : (fun w' => ∃ x : Later W0, w' = x.val) = Ext W0 := by
     funext w'; exact propext ⟨fun ⟨x, hx⟩ => by subst hx; exact x.ext, fun h => ⟨⟨w', h⟩, rfl⟩⟩
    rw [e] at this; exact this
   ·subst hv; rw [add_true]; exact go _ hk
  ·rw [if_neg hw] at h
   refine ⟨o, _, _, h0, .skip (by simpa using hw), fun v hv => ?_⟩
   subst hv; rw [add_true]; exact go _ h
theorem chunkT (m : Nat) {Q : Facts → Act → Prop} {l : List Oper} {k : Nat} {Φ : Facts} {a : Act} (hl : (ops.toList.drop k).take l.length = l) (hR : (List.range m).all (fun j => (R (k + j)).isNone) = true) (hp : (l.take m).all pureB = true)
 (h : wpQuiet P ops (fun w' => ∃ x : Later W0, w' = x.val) (fun a' => walk P md ops W0 R Q (l.drop m) (k + m) Φ a') (l.take m) a) : walk P md ops W0 R Q l k Φ a :=
 chunkT' m (fun j hj => by
  have h1 : ((ops.toList.drop k).take l.length)[j]? = l[j]? := by rw [hl]
  rw [List.getElem?_take, if_pos hj, List.getElem?_drop] at h1
  rw [← h1]; simp) hR hp h
/-- a fresh block g with these contents -/
def Fresh (W0 : World) (g : Nat) (o : Obj) (w : World) : Prop := W0.heap.size ≤ g ∧ w.heap[g]? = some o
theorem Fresh.ext {g : Nat} {o : Obj} {w w' : World} (h : Fresh W0 g o w) (hx : Ext w w') : Fresh W0 g o w' := ⟨h.1, hx.heap h.2⟩
end
end Rel
namespace Rel
section
variable {P : Program} {ops : Array Oper} {md : Region.Mode} {W0 : World} {R : Nat → Option (Value → World → Prop)}
/-- an operation that lays one new block and yields a value that names it -/
theorem fresh {Q : Facts → Act → Prop} {o : Oper} {l : List Oper} {k : Nat} {Φ : Facts} {a : Act} (f : Nat → Value) (ob : Obj) (hk : ops[k]? = some o)
 (hr : R k = some (fun v w => ∃ g, v = f g ∧ Fresh W0 g ob w)) (hw : Region.wanted o (yielded ops a.tmps) = true)
 (hrun : ∀ w, Ext W0 w → (execOp a.eval o).run P w = .ok (.value (f w.heap.size)) (w.alloc ob))
 (h2 : ∀ g w, Ext W0 w → (∀ i, Φ i w) → Fresh W0 g ob w → walk P md ops W0 R Q l (k + 1) (add Φ k (fun w => ∃ g', f g = f g' ∧ Fresh W0 g' ob w)) (a.put o.dst (f g))) :
 walk P md ops W0 R Q (o :: l) k Φ a :=
 call _ hk hr hw (fun w h3 _ => by
  unfold leaves
  rw [hrun w h3]
  exact ⟨(eR w).alloc _, _, rfl, h3.le, heap_alloc_new w _⟩) (fun v w h3 h4 ⟨g, hg, h5⟩ => by subst hg; exact h2 g w h3 h4 h5)
theorem Fresh.cell {g o : Nat} {c : Array Value} {t : TypeId} {w : World} (h : Fresh W0 g (.cells c t (0, 0)) w) {v : Value} (hv : c[o]? = some v) : w.cell? ⟨g, o, none⟩ = some v := by rw [cell_of h.2]; exact hv
end
end Rel
theorem run_storeAt_cell {P : Program} (w : World) (ty : TypeId) (b o : Nat) (old v : Value) (hi : (P.info? ty).map (·.size) = some 1) (h1 : v.oneCell' = true) (hc : w.cell? ⟨b, o, none⟩ = some old) (hf : w.frozen? ⟨b, o, none⟩ = false) :
 (Instr.storeAt ty (.pointer (some ⟨b, o, none⟩)) v).run P w = .ok () (w.setCell ⟨b, o, none⟩ v) := by
 have e1 : v.cells = #[v] := by cases v <;> first | rfl | cases h1
 cases hq : P.info? ty with
 | none => simp [hq] at hi
 | some i =>
  have hs : i.size = 1 := by simpa [hq] using hi
  have hst := run_store P w ⟨b, o, none⟩ v .plain h1
  rw [hc] at hst
  simp only [hf] at hst
  have e0 : (⟨b, o, none⟩ : Addr).add 0 = ⟨b, o, none⟩ := by simp [Addr.add]
  simp [Instr.storeAt, Instr.sureAddr, storeVar, sizeOf, typeInfo, hq, e1, hs, storeCells, e0, hst]
/-- one cell stored: the world behind it is a letter -/
theorem wpList_store_cell {P : Program} {ops : Array Oper} {rest : List Oper} {o : Oper} {a : Act} {w : World} {Q : Exit → Act → World → Prop} (hgd : o.guard = none) (ty : TypeId) (x y : Operand) (ho : o.op = .store ty x y)
 (b k : Nat) (old v : Value) (hx : a.eval x = .pointer (some ⟨b, k, none⟩)) (hy : a.eval y = v) (hi : (P.info? ty).map (·.size) = some 1) (h1 : v.oneCell' = true) (hc : w.cell? ⟨b, k, none⟩ = some old) (hf : w.frozen? ⟨b, k, none⟩ = false)
 (h : ∀ w', w' = w.setCell ⟨b, k, none⟩ v → wpList P ops Q rest (a.put o.dst undef) w') : wpList P ops Q (o :: rest) a w :=
 wpList_plain hgd fun _ hK => by
  unfold Oper.wp execOp
  simp only [ho, hx, hy, Sem.run_bind, Result.andThen_ok, run_storeAt_cell w ty b k old v hi h1 hc hf]
  exact hK _ _ (h _ rfl)
/-- append to an empty literal: whatever comes lies in a new block, or nothing comes -/
theorem run_append_empty {P : Program} (w : World) (B : Nat) (t ty e : TypeId) (z : Value) (size bytes : Nat) (ht : P.underlying t = some (.slice e)) (hi : (P.info? e).map (fun i => (i.zero, i.size, i.bytes)) = some (some z, size, bytes))
 (hzs : z.cells.size = size) (hsz : 0 < size) (g : Nat) (hg : w.heap[g]? = some (.cells #[] e (0, 0))) (hB : B ≤ g) (y : Value) (m : Nat) (news : List Value) (hsrc : Src w y size m news)
 (h63 : m ≤ maxLen) (hbytes : m * bytes ≤ 140737488355328) :
 ∃ v' w', (Builtin.append_ #[t, t] ty #[.slice (some ⟨g, 0, none⟩) 0 0, y]).run P w = .ok v' w' ∧ w'.ownsRow B e size v' m news ∧ Ext w w' := by
 obtain ⟨i, hi', hz, hs1, hs2⟩ := info_parts hi
 clear hi
 have hi := hi'
 clear hi'
 have hlt := lt_of_block hg
 have ho : w.ownsRow B e size (.slice (some ⟨g, 0, none⟩) 0 0) 0 [] := ⟨by simp, .inr ⟨g, 0, #[], rfl, hB, hg, Nat.le_refl _, Nat.zero_le _, by simp, by simp⟩⟩
 obtain ⟨h1, h2, h3⟩ := hsrc
 rcases h3 with ⟨rfl, rfl⟩ | ⟨ad, c, rfl, h4⟩
 ·obtain rfl : news = [] := List.eq_nil_of_length_eq_zero (by simpa using h1)
  exact ⟨_, _, run_append_owned_none (P := P) (w := w) B t ty e i size ht hi _ 0 [] ho, ho, eR w⟩
 ·subst hs1 hs2
  rcases Nat.eq_zero_or_pos m with rfl | hm
  ·obtain rfl : news = [] := List.eq_nil_of_length_eq_zero (by simpa using h1)
   have hr := run_append_room (P := P) (w := w) t ty e i ht hi g 0 0 #[] hg ad 0 c [] (by simp) (fun j u hj => by simp at hj) (fun u hu => by simp at hu) (Nat.le_refl _) (by simp)
   have e2 := setRow_self w g #[] e (0, 0) hg
   exact ⟨.slice (some ⟨g, 0, none⟩) 0 0, w, by simpa [e2] using hr, ho, eR w⟩
  ·have hsmall : m ≤ 9223372036854775807 := by simp only [maxLen] at h63; omega
   obtain ⟨v', w', hr, k2, _, _⟩ := run_append_fresh (P := P) w B t ty e i z i.size i.bytes ht hi hz rfl rfl hzs hsz _ 0 [] ho ad m c news h1 h4 h2 (by simpa using h63) (by simpa using hbytes) (by omega)
   have hr2 := run_append_grow (P := P) (w := w) t ty e i z ht hi hz ⟨g, 0, none⟩ 0 0 [] (by simp) (fun j u hj => by simp at hj) ad m c news h1 h4 (by omega) (by omega) (growslice_fits (by omega) (by simpa using hbytes))
   rw [hr] at hr2
   simp only [Result.ok.injEq] at hr2
   refine ⟨v', w', hr, by simpa using k2, ?_⟩
   rw [hr2.2]
   exact ((eR w).drew).alloc _
theorem mod_setRow {w : World} {g : Nat} {cs : Array Value} : Mod (· = g) w (w.setRow g cs) :=
 ⟨rfl, rfl, rfl, by rw [size_setRow]; exact Nat.le_refl _, fun k _ hk => setRow_other w g k cs hk⟩
/-- a whole box stored: the world behind it is a letter -/
theorem wpList_store_box {P : Program} {ops : Array Oper} {rest : List Oper} {o : Oper} {a : Act} {w : World} {Q : Exit → Act → World → Prop} (hgd : o.guard = none) (ty : TypeId) (x y : Operand) (ho : o.op = .store ty x y)
 (g : Nat) (cells : Array Value) (hx : a.eval x = .pointer (some ⟨g, 0, none⟩)) (hy : a.eval y = .agg cells)
 (t : TypeId) (old : Array Value) (hg : w.heap[g]? = some (.cells old t (0, 0))) (hi : (P.info? ty).map (·.size) = some cells.size)
 (hold : old.size = cells.size) (h1 : cells.all (·.oneCell') = true)
 (h : ∀ w', Mod (· = g) w w' → w'.heap[g]? = some (.cells cells t (0, 0)) → wpList P ops Q rest (a.put o.dst undef) w') : wpList P ops Q (o :: rest) a w :=
 wpList_store_row hgd ty x y ho g cells hx hy t old hg hi hold h1 (h _ mod_setRow (setRow_heap w g old cells t (0, 0) hg))
theorem wpList_store_cellK {P : Program} {ops : Array Oper} {rest : List Oper} {o : Oper} {a : Act} {w : World} {Q : Exit → Act → World → Prop} (hgd : o.guard = none) (ty : TypeId) (x y : Operand) (ho : o.op = .store ty x y)
 (b k : Nat) (old v : Value) (hx : a.eval x = .pointer (some ⟨b, k, none⟩)) (hy : a.eval y = v) (hi : (P.info? ty).map (·.size) = some 1) (h1 : v.oneCell' = true) (hc : w.cell? ⟨b, k, none⟩ = some old) (hf : w.frozen? ⟨b, k, none⟩ = false)
 (h : ∀ w', Hid (w' = w.setCell ⟨b, k, none⟩ v) → wpList P ops Q rest (a.put o.dst undef) w') : wpList P ops Q (o :: rest) a w :=
 wpList_store_cell hgd ty x y ho b k old v hx hy hi h1 hc hf (fun w' hw => h w' (Lh hw))
namespace Pl
open Tj
theorem orE_00 {a b : Int} (h : orE a b = 0) : a = 0 ∧ b = 0 := by
 unfold orE at h
 by_cases h1 : a ≠ 0
 ·rw [if_pos h1] at h; exact absurd h h1
 ·rw [if_neg h1] at h; exact ⟨by simpa using h1, h⟩
theorem named_ok {α : Type} {nm : α → ByteArray} {f : α → Int} {l : List α} (h : namedE nm f l = 0) : ∀ x ∈ l, f x = 0 := by
 intro x hx
 obtain ⟨i, hi, rfl⟩ := List.mem_iff_getElem.1 hx
 have h1 := firstE_ok (f := fun i => match l[i]? with | some x => if f x ≠ 0 then f x else if rep (l.map nm) i then 7 else 0 | none => 0) h i (List.mem_range.2 hi)
 rw [gE hi] at h1
 dsimp only at h1
 by_cases h2 : f l[i] ≠ 0
 ·rw [if_pos h2] at h1; exact absurd h1 h2
 ·simpa using h2
/-- what is known of a program that is right -/
structure Bd (F : FP) : Prop where
 hs : F.P.hs.length ≤ 8
 fs : ∀ h ∈ F.P.hs, h.2.length ≤ 12
 md : F.P.md.length ≤ 12
 rs : F.rs.length ≤ 4
 ac : F.ac.length ≤ 16
 ts : F.ts.length ≤ 12
 aE : ∀ a ∈ F.ac, actE F a = 0
 tE : ∀ t ∈ F.ts, tabE F t = 0
 cE : ctlE F = 0
theorem bd_of {F : FP} (h : chkF F = 0) : Bd F := by
 unfold chkF at h
 obtain ⟨h1, h⟩ := orE_00 h
 obtain ⟨h2, h⟩ := orE_00 h
 obtain ⟨h3, h⟩ := orE_00 h
 obtain ⟨_, h⟩ := orE_00 h
 obtain ⟨h5, h⟩ := orE_00 h
 obtain ⟨h6, h⟩ := orE_00 h
 obtain ⟨_, h⟩ := orE_00 h
 obtain ⟨h8, _⟩ := orE_00 h
 obtain ⟨l1, l2, l3, l4⟩ := limE_ok h1
 refine ⟨l1, fun x hx => ?_, ?_, l2, l3, l4, named_ok h5, named_ok h6, h8⟩
 ·have h9 := named_ok h2 x hx
  unfold hdE at h9
  split at h9
  ·rename_i h10; exact absurd h9 h10
  ·rename_i h10
   exact (Hd.chk_ok (by simpa using h10)).2.2.1
 ·unfold metE at h3
  split at h3
  ·cases h3
  ·omega
theorem foldl_addI : ∀ (l : List Int) (a : Int), l.foldl (· + ·) a = a + l.foldl (· + ·) 0
 | [], a => by simp
 | x :: l, a => by rw [List.foldl_cons, List.foldl_cons, foldl_addI l (a + x), foldl_addI l (0 + x)]; omega
theorem nfl_add {hs : List Hd.Hdr} {k : Nat} {h : Hd.Hdr} (hk : hs[k]? = some h) : nfl (hs.take (k + 1)) = nfl (hs.take k) + h.2.length := by
 unfold nfl
 rw [List.take_add_one, hk, List.map_append, List.foldl_append]; rfl
theorem nfl_bd : ∀ {hs : List Hd.Hdr}, (∀ h ∈ hs, h.2.length ≤ 12) → 0 ≤ nfl hs ∧ nfl hs ≤ 12 * hs.length
 | [], _ => ⟨Int.le_refl _, Int.le_refl _⟩
 | x :: l, h => by
  have h1 := nfl_bd (hs := l) (fun y hy => h y (List.mem_cons_of_mem _ hy))
  have h2 := h x List.mem_cons_self
  unfold nfl at h1 ⊢
  rw [List.map_cons, List.foldl_cons, foldl_addI, List.length_cons]
  omega
theorem nfl_tk {F : FP} (hb : Bd F) (k : Nat) : 0 ≤ nfl (F.P.hs.take k) ∧ nfl (F.P.hs.take k) ≤ 96 := by
 have h1 := nfl_bd (hs := F.P.hs.take k) (fun h hh => hb.fs h (List.mem_of_mem_take hh))
 have h2 := hb.hs
 have h3 : (F.P.hs.take k).length ≤ F.P.hs.length := by rw [List.length_take]; omega
 omega
def cntA (F : FP) : Value := .agg #[.int .i64 (nfl F.P.hs), .int .i64 F.P.hs.length, .int .i64 F.P.md.length, .int .i64 F.rs.length]
end Pl
theorem counts_any {W : World} {p : Pg.PV} {F : Tj.FP} (hF : Tj.IsF W p F) (hB : Pl.Bd F) : Calls Tryz.prog 151 #[p.val] W (Rets W (Pl.cntA F)) := by
 obtain ⟨a1, a2, a3, a4, a5, a6, a7, a8, m1, m2, m3, m4, m5, m6, n7, m7, m8, hf⟩ := hF.form
 obtain ⟨rfl, hnm, hhs, hmd, hrs, has, hts, hss, hct, hdp, l1, l2, l3, l4, l5, l6, l7, l8⟩ := hf
 have HH := Lh hhs
 have HB := Lh hB
 have hb1 := hB.hs
 have hb3 := hB.md
 have hb4 := hB.rs
 dsimp only [Pg.PV.val] at *
 have bx := aH W (.cells (Yq0 F a1 m1 a2 m2 a3 m3 a4 m4 a5 m5 a6 m6 a7 m7 n7 a8 m8) 31)
 have k0 := alw (cQ 0 bx)
 have k1 := alw (cQ 1 bx)
 have k2 := alw (cQ 2 bx)
 have k3 := alw (cQ 3 bx)
 have k4 := alw (cQ 4 bx)
 have k5 := alw (cQ 5 bx)
 have k6 := alw (cQ 6 bx)
 have k7 := alw (cQ 7 bx)
 have k8 := alw (cQ 8 bx)
 clear bx
 clear hF hnm hhs hmd hrs has hts hss hct hdp
 clear hB
 have h00 : W.heap.size ≤ W.heap.size + 1 + 1 := by omega
 go_enter Tryz.func151, Tryz.ntmps151
 go_wp2_with fail
 go_loopw [19] (fun q wr => ∃ k : Nat, k ≤ F.P.hs.length ∧ q = .int .i64 k ∧ Hid (Ext W wr ∧ wr.heap[W.heap.size + 1]? = some (.cells #[.int .i64 0, .int .i64 0, .int .i64 0, .int .i64 0] 246 (0, 0)) ∧ wr.heap[W.heap.size + 1 + 1]? = some (.cells #[.int .i64 (Pl.nfl (F.P.hs.take k)), .int .i64 F.P.hs.length, .int .i64 F.P.md.length, .int .i64 F.rs.length] 246 (0, 0)))) (fun q _ => F.P.hs.length - (intOf q).toNat)
 case atStart => exact ⟨0, Nat.zero_le _, rfl, Lh ⟨by first | exact eR _ | exact grows, by first | exact alwB (aH _ _) _ | (have h := aH (W.alloc (.cells (Yq0 F a1 m1 a2 m2 a3 m3 a4 m4 a5 m5 a6 m6 a7 m7 n7 a8 m8) 31)) (.cells #[.int .i64 0, .int .i64 0, .int .i64 0, .int .i64 0] 246); rw [szA] at h; exact alwB h _), by first | (have h := aH ((W.alloc (.cells (Yq0 F a1 m1 a2 m2 a3 m3 a4 m4 a5 m5 a6 m6 a7 m7 n7 a8 m8) 31)).alloc (.cells #[.int .i64 0, .int .i64 0, .int .i64 0, .int .i64 0] 246)) (.cells #[.int .i64 0, .int .i64 F.P.hs.length, .int .i64 F.P.md.length, .int .i64 F.rs.length] 246); rw [szA, szA] at h; exact h)⟩⟩
 case round =>
  obtain ⟨k, hk, rfl, HZ⟩ := hrel
  have c0 := alw (cQ 0 HZ.out.2.2)
  have hg1 := (Pl.nfl_tk HB.out k).1
  have hg2 := (Pl.nfl_tk HB.out k).2
  obtain ⟨g, hg⟩ : ∃ z, z = Pl.nfl (F.P.hs.take k) := ⟨_, rfl⟩
  rw [← hg] at hg1 hg2 c0 HZ
  have HG := Lh hg
  clear hg
  by_cases hlt : k < F.P.hs.length
  ·obtain ⟨⟨hn, fs⟩, hx⟩ : ∃ x, F.P.hs[k]? = some x := ⟨_, gE hlt⟩
   obtain ⟨b, o, rfl, _, _⟩ := Rows.at HH.out (by omega)
   obtain ⟨fa, fc, u0, u1, hns, hfs, hf1, hf2⟩ := hdrs_at HH.out k hn fs hx rfl
   have sx : Step W wr := ⟨HZ.out.1⟩
   have hf3 := HB.out.fs _ (List.mem_of_getElem? hx)
   dsimp only at hf3
   have HX := Lh hx
   have bx := aH wr (.cells #[.string hn, .slice fa fs.length fc] 81)
   have m0 := alw (cQ 0 bx)
   have m1 := alw (cQ 1 bx)
   clear bx
   have fz : (wr.alloc (.cells #[.string hn, .slice fa fs.length fc] 81)).frozen? ⟨W.heap.size + 1 + 1, 0, none⟩ = false := free_of (((eR wr).alloc _).heap HZ.out.2.2)
   clear hx hfs hns
   go_wp2_with (refine wpList_store_cellK rfl 3 (.tmp 29) (.tmp 28) rfl (W.heap.size + 1 + 1) 0 (.int .i64 g) (.int .i64 (g + fs.length)) rfl rfl (by kernel_rfl) rfl (c0 _) fz ?_)
   intro w5 hw5
   have hw5 := hw5.out
   have X5 : Hid (Ext W w5) := Lh (by rw [hw5]; exact ((HZ.out.1.alloc _).setCell (by show W.heap.size ≤ W.heap.size + 1 + 1; omega) _))
   have R5 : Hid (w5.heap[W.heap.size + 1]? = some (.cells #[.int .i64 0, .int .i64 0, .int .i64 0, .int .i64 0] 246 (0, 0))) := Lh (by rw [hw5]; exact (Mod.setCell (S := fun k => k = W.heap.size + 1 + 1) (p := ⟨W.heap.size + 1 + 1, 0, none⟩) (Mod.refl _ _) (.inl rfl) _).heap (((eR wr).alloc _).heap HZ.out.2.1) (by omega))
   have B5 : Hid (w5.heap[W.heap.size + 1 + 1]? = some (.cells #[.int .i64 (Pl.nfl (F.P.hs.take (k + 1))), .int .i64 F.P.hs.length, .int .i64 F.P.md.length, .int .i64 F.rs.length] 246 (0, 0))) := Lh (by rw [hw5, Pl.nfl_add HX.out, ← HG.out]; exact setCell_heap (((eR wr).alloc _).heap HZ.out.2.2))
   clear hw5 fz
   go_wp2_with fail
   go_roundw
   case rel => exact ⟨k + 1, by omega, by go_num, Lh ⟨X5.out, R5.out, B5.out⟩⟩
   case measure => simp [intOf]; omega
  ·obtain rfl : k = F.P.hs.length := by omega
   have c1 := alw (cQ 1 HZ.out.2.2)
   have c2 := alw (cQ 2 HZ.out.2.2)
   have c3 := alw (cQ 3 HZ.out.2.2)
   have HG2 : Hid (Pl.cntA F = .agg #[.int .i64 g, .int .i64 F.P.hs.length, .int .i64 F.P.md.length, .int .i64 F.rs.length]) := Lh (by rw [HG.out, List.take_length]; rfl)
   go_wp2_with (refine wpList_store_box rfl 246 (.tmp 2) (.tmp 31) rfl (W.heap.size + 1) #[.int .i64 g, .int .i64 F.P.hs.length, .int .i64 F.P.md.length, .int .i64 F.rs.length] rfl rfl 246 #[.int .i64 0, .int .i64 0, .int .i64 0, .int .i64 0] HZ.out.2.1 (by kernel_rfl) rfl (by simp [Value.oneCell']) ?_)
   intro wf hmf hbf
   have HXF : Hid (Ext W wf) := Lh (((Mod.of_ext HZ.out.1).trans hmf).ext (fun q hq => by omega))
   have q0 := cQ 0 hbf
   have q1 := cQ 1 hbf
   have q2 := cQ 2 hbf
   have q3 := cQ 3 hbf
   clear hmf hbf c0 c1 c2 c3
   go_wp2_with fail
   rw [HG2.out]
   refine bodyPost_ret (v := .agg #[.int .i64 g, .int .i64 F.P.hs.length, .int .i64 F.P.md.length, .int .i64 F.rs.length]) (by simp [results, Tryz.results151, go_sem, q0, q1, q2, q3]) rfl ⟨rfl, HXF.out⟩
namespace Pl
/-- the sum of the first numbers, as first reckons it -/
def prt (F : Tj.FP) (kd : Int) (k : Int) : Int := (if 0 < k ∧ 0 < kd then nfl F.P.hs else 0) + (if 1 < k ∧ 1 < kd then (F.P.hs.length : Int) else 0) + (if 2 < k ∧ 2 < kd then (F.P.md.length : Int) else 0)
def fstV (F : Tj.FP) (kd : Int) : Int := if kd = 1 then c0 F else if kd = 2 then c0 F + F.P.hs.length else c0 F + F.P.hs.length + F.P.md.length
def cntV (F : Tj.FP) (kd : Int) : Int := if kd = 1 then F.P.hs.length else if kd = 2 then F.P.md.length else F.rs.length
def cellV (F : Tj.FP) (kd i : Int) : Int := if i < 0 ∨ cntV F kd ≤ i then -1 else fstV F kd + i
theorem nfl_all {F : Tj.FP} (hb : Bd F) : 0 ≤ nfl F.P.hs ∧ nfl F.P.hs ≤ 96 := by
 have h := nfl_tk hb F.P.hs.length
 rwa [List.take_length] at h
end Pl
theorem ix4_0 (a b c d : Int) (w : World) : (Instr.index 246 (.agg #[.int .i64 a, .int .i64 b, .int .i64 c, .int .i64 d]) (.int .i64 0)).run Tryz.prog w = .ok (.int .i64 a) w := by kernel_rfl
theorem ix4_1 (a b c d : Int) (w : World) : (Instr.index 246 (.agg #[.int .i64 a, .int .i64 b, .int .i64 c, .int .i64 d]) (.int .i64 1)).run Tryz.prog w = .ok (.int .i64 b) w := by kernel_rfl
theorem ix4_2 (a b c d : Int) (w : World) : (Instr.index 246 (.agg #[.int .i64 a, .int .i64 b, .int .i64 c, .int .i64 d]) (.int .i64 2)).run Tryz.prog w = .ok (.int .i64 c) w := by kernel_rfl
theorem ix4_3 (a b c d : Int) (w : World) : (Instr.index 246 (.agg #[.int .i64 a, .int .i64 b, .int .i64 c, .int .i64 d]) (.int .i64 3)).run Tryz.prog w = .ok (.int .i64 d) w := by kernel_rfl
theorem first_any {W : World} {p : Pg.PV} {F : Tj.FP} (hF : Tj.IsF W p F) (hB : Pl.Bd F) (kd : Int) (hk : kd = 1 ∨ kd = 2 ∨ kd = 3) : Calls Tryz.prog 152 #[p.val, .int .i64 kd] W (Rets W (.int .i64 (Pl.fstV F kd))) := by
 have HC := Lh (fun (w : World) (hx : Ext W w) => counts_any (hF.ext hx) hB)
 obtain ⟨a1, a2, a3, a4, a5, a6, a7, a8, m1, m2, m3, m4, m5, m6, n7, m7, m8, hf⟩ := hF.form
 obtain ⟨rfl, hnm, hhs, hmd, hrs, has, hts, hss, hct, hdp, l1, l2, l3, l4, l5, l6, l7, l8⟩ := hf
 have hb1 := hB.hs
 have hb3 := hB.md
 have hb4 := hB.rs
 have hb5 := Pl.nfl_all hB
 dsimp only [Pg.PV.val] at HC ⊢
 unfold Pl.cntA at HC
 obtain ⟨a, ha⟩ : ∃ z, z = Pl.nfl F.P.hs := ⟨_, rfl⟩
 obtain ⟨b, hb⟩ : ∃ z : Int, z = F.P.hs.length := ⟨_, rfl⟩
 obtain ⟨c, hc⟩ : ∃ z : Int, z = F.P.md.length := ⟨_, rfl⟩
 obtain ⟨d, hd⟩ : ∃ z : Int, z = F.rs.length := ⟨_, rfl⟩
 have hA : 0 ≤ a ∧ a ≤ 96 ∧ 0 ≤ b ∧ b ≤ 8 ∧ 0 ≤ c ∧ c ≤ 12 ∧ 0 ≤ d ∧ d ≤ 4 := by omega
 have HP : Hid (∀ k, Pl.prt F kd k = (if 0 < k ∧ 0 < kd then a else 0) + (if 1 < k ∧ 1 < kd then b else 0) + (if 2 < k ∧ 2 < kd then c else 0)) := Lh (fun k => by rw [ha, hb, hc]; rfl)
 have HV : Hid (Pl.fstV F kd = Pl.prt F kd 4) := Lh (by rcases hk with rfl | rfl | rfl <;> simp [Pl.fstV, Pl.prt, Pl.c0])
 rw [← ha, ← hb, ← hc, ← hd] at HC
 have bx := aH W (.cells (Yq0 F a1 m1 a2 m2 a3 m3 a4 m4 a5 m5 a6 m6 a7 m7 n7 a8 m8) 31)
 have k0 := alw (cQ 0 bx)
 have k1 := alw (cQ 1 bx)
 have k2 := alw (cQ 2 bx)
 have k3 := alw (cQ 3 bx)
 have k4 := alw (cQ 4 bx)
 have k5 := alw (cQ 5 bx)
 have k6 := alw (cQ 6 bx)
 have k7 := alw (cQ 7 bx)
 have k8 := alw (cQ 8 bx)
 clear bx
 clear hF hnm hhs hmd hrs has hts hss hct hdp
 clear hB hb1 hb3 hb4 hb5 ha hb hc hd
 obtain ⟨hA1, hA2, hA3, hA4, hA5, hA6, hA7, hA8⟩ := hA
 go_enter Tryz.func152, Tryz.ntmps152
 go_wp2_with fail
 refine via (HC.out _ grows) fun w3 x3 s3 => ?_
 go_wp2_with fail
 go_loopw [5, 10] (fun o q wr => ∃ k : Int, (0 ≤ k ∧ k ≤ 4) ∧ q = .int .i64 k ∧ ∃ g : Int, o = .int .i64 g ∧ (0 ≤ g ∧ g ≤ 200) ∧ Hid (Ext W wr ∧ g = Pl.prt F kd k)) (fun _ q _ => 4 - (intOf q).toNat)
 case atStart => exact ⟨0, by omega, rfl, 0, rfl, by omega, Lh ⟨grows, by rw [HP.out]; simp⟩⟩
 case round =>
  obtain ⟨k, ⟨hk0, hk4⟩, rfl, g, rfl, ⟨hg0, hg1⟩, HZ⟩ := hrel
  have sx : Step W wr := ⟨HZ.out.1⟩
  by_cases hk4' : k = 4
  ·subst hk4'
   have HE : Hid (g = Pl.fstV F kd) := Lh (by rw [HV.out]; exact HZ.out.2)
   go_wp2_with fail
   go_ret
   exact ⟨ret_int HE.out, grows⟩
  ·have hcase : k = 0 ∨ k = 1 ∨ k = 2 ∨ k = 3 := by omega
   clear hk0 hk4 hk4'
   have X0 := ix4_0 a b c d
   have X1 := ix4_1 a b c d
   have X2 := ix4_2 a b c d
   have X3 := ix4_3 a b c d
   rcases hk with rfl | rfl | rfl <;> rcases hcase with rfl | rfl | rfl | rfl
   all_goals
    have HN := Lh (HZ.out.2)
    have hq := HZ.out.2
    rw [HP.out] at hq
    simp at hq
    have HQ := Lh hq
    clear hq
    go_wp2_with fail
    go_roundw
    case rel => exact ⟨_, ⟨by decide, by decide⟩, rfl, _, rfl, ⟨by have := HQ.out; omega, by have := HQ.out; omega⟩, Lh ⟨grows, by rw [HP.out]; have := HQ.out; simp; try omega⟩⟩
    case measure => simp [intOf]
theorem blk_any (n s : Int) (hn : 0 ≤ n ∧ n < 4611686018427387904) (hs : 1 ≤ s ∧ s ≤ 4611686018427387904) (W : World) : Calls Tryz.prog 99 #[.int .i64 n, .int .i64 s] W (fun e w' => e = .returned (.int .i64 (Pl.blk n s)) ∧ w' = W) := by
 have h0 : s ≠ 0 := by omega
 have e : Pl.blk n s = (n + s - 1) / s := by
  unfold Pl.blk; rw [Int.tdiv_eq_ediv_of_nonneg (by omega)]
 have hb : 0 ≤ (n + s - 1) / s ∧ (n + s - 1) / s ≤ n + s - 1 := ⟨Int.ediv_nonneg (by omega) (by omega), Int.ediv_le_self _ (by omega)⟩
 rw [e]
 obtain ⟨q, hq⟩ : ∃ q, q = (n + s - 1) / s := ⟨_, rfl⟩
 have ht : (n + s - 1).tdiv s = q := by rw [hq, Int.tdiv_eq_ediv_of_nonneg (by omega)]
 rw [← hq] at hb ⊢
 clear e hq
 go_enter Tryz.func99, Tryz.ntmps99
 go_wp2_with fail
 go_ret
 exact ⟨by simp, rfl⟩
theorem sadd_any (a b : Int) (ha : 0 ≤ a ∧ a ≤ 9223372036854775807) (hb : 0 ≤ b ∧ b ≤ 9223372036854775807) (W : World) : Calls Tryz.prog 100 #[.int .i64 a, .int .i64 b] W (fun e w' => e = .returned (.int .i64 (Pl.sadd a b)) ∧ w' = W) := by
 by_cases h : 9223372036854775807 - a < b
 ·have z1 : decide (9223372036854775807 - a < b) = true := dTt h
  have e : Pl.sadd a b = 9223372036854775807 := by unfold Pl.sadd Pl.MAXI; rw [if_pos h]
  rw [e]
  go_enter Tryz.func100, Tryz.ntmps100
  go_wp2_with fail
  go_ret
  exact ⟨rfl, rfl⟩
 ·have z1 : decide (9223372036854775807 - a < b) = false := dF h
  have e : Pl.sadd a b = a + b := by unfold Pl.sadd Pl.MAXI; rw [if_neg h]
  rw [e]
  go_enter Tryz.func100, Tryz.ntmps100
  go_wp2_with fail
  go_ret
  exact ⟨rfl, rfl⟩
namespace Pl
open Tj
theorem fold_add_bd {b : Int} (hb : 0 ≤ b) : ∀ (l : List Int) (x : Int), (∀ y ∈ l, 0 ≤ y ∧ y ≤ b) → x ≤ l.foldl (· + ·) x ∧ l.foldl (· + ·) x ≤ x + b * l.length
 | [], x, _ => ⟨Int.le_refl _, by simp⟩
 | y :: l, x, h => by
  have h1 := h y List.mem_cons_self
  have h2 := fold_add_bd hb l (x + y) (fun z hz => h z (List.mem_cons_of_mem _ hz))
  rw [List.foldl_cons, List.length_cons]
  have : b * ((l.length + 1 : Nat) : Int) = b * l.length + b := by rw [Int.natCast_add, Int.mul_add]; simp
  omega
theorem fold_snoc {f : Int → Int → Int} {l : List Int} {k : Nat} {x z : Int} (h : l[k]? = some x) : (l.take (k + 1)).foldl f z = f ((l.take k).foldl f z) x := by
 rw [List.take_add_one, h, List.foldl_append]; rfl
theorem wid_le (P : Pg.Prog) (h f : Int) : 0 ≤ Pg.wid P h f ∧ Pg.wid P h f ≤ 32 := by
 unfold Pg.wid
 split
 ·rename_i e
  unfold Bv.ok at e
  simp only [Bool.and_eq_true, decide_eq_true_eq] at e
  omega
 ·omega
theorem wids_bd {F : FP} {t : Int} : (∀ y ∈ wids F t, 0 ≤ y ∧ y ≤ 32) ∧ (wids F t).length ≤ 6 := by
 unfold wids
 split
 ·rename_i h
  obtain ⟨x, _, hx, e⟩ := tab_of h
  rw [e]
  refine ⟨fun y hy => ?_, by rw [List.length_map]; exact (tab_ks hx).1⟩
  obtain ⟨k, _, rfl⟩ := List.mem_map.1 hy
  exact wid_le _ _ _
 ·exact ⟨fun y hy => (by cases hy), by simp⟩
theorem tbits_bd (F : FP) (t : Int) : 0 ≤ tbits F t ∧ tbits F t ≤ 192 := by
 have h := fold_add_bd (b := 32) (by omega) (wids F t) 0 wids_bd.1
 have h2 := (wids_bd (F := F) (t := t)).2
 unfold tbits
 omega
theorem act_ps {F : FP} {a : Tj.Act} (h : actE F a = 0) : a.ps.length ≤ 4 ∧ ∀ y ∈ a.ps.map (·.2), 0 ≤ y ∧ y ≤ 32 := by
 unfold actE at h
 split at h
 ·rename_i h2; exact absurd h h2
 ·rename_i h2
  have h2 : declE a = 0 := Classical.byContradiction fun e => h2 e
  unfold declE at h2
  split at h2
  ·split at h2
   ·cases h2
   ·have h3 := Hd.fE_ok _ _ h2
    exact ⟨by omega, fun y hy => by
     have := h3 y hy; omega⟩
  ·cases h2
/-- the most bits of the actions of a list -/
def abS (F : FP) (w a : Int) : Int := match at? F.ac a with | some x => max w (pbits x) | none => w
def abL (F : FP) (L : List Int) : Int := L.foldl (abS F) 0
theorem pbits_bd {F : FP} (h : Bd F) {a : Int} {x : Tj.Act} (hx : at? F.ac a = some x) : (0 ≤ pbits x ∧ pbits x ≤ 128) ∧ x.ps.length ≤ 4 ∧ ∀ y ∈ x.ps.map (·.2), 0 ≤ y ∧ y ≤ 32 := by
 obtain ⟨h1, h2⟩ := act_ps (h.aE x (List.mem_of_getElem? (at_get hx).2.2))
 have h3 := fold_add_bd (b := 32) (by omega) _ 0 h2
 rw [List.length_map] at h3
 refine ⟨?_, h1, h2⟩
 unfold pbits
 omega
theorem abL_bd {F : FP} (h : Bd F) : ∀ (L : List Int) (w : Int), 0 ≤ w ∧ w ≤ 128 → 0 ≤ L.foldl (abS F) w ∧ L.foldl (abS F) w ≤ 128
 | [], _, hw => hw
 | a :: L, w, hw => abL_bd h L (abS F w a) (by
  unfold abS
  cases hx : at? F.ac a with
  | none => exact hw
  | some x =>
   have := (pbits_bd h hx).1
   show 0 ≤ max w (pbits x) ∧ max w (pbits x) ≤ 128
   omega)
end Pl
theorem tbits_any {W : World} {p : Pg.PV} {F : Tj.FP} (hF : Tj.IsF W p F) (t : Int) : Calls Tryz.prog 96 #[p.val, .int .i64 t] W (Rets W (.int .i64 (Pl.tbits F t))) := by
 have HW := Lh (fun (w : World) (hx : Ext W w) => twidths_any (hF.ext hx) t)
 obtain ⟨hb1, hb2⟩ := Pl.wids_bd (F := F) (t := t)
 have HB1 := Lh hb1
 unfold Pl.tbits
 obtain ⟨L, hL⟩ : ∃ z, z = Tj.wids F t := ⟨_, rfl⟩
 rw [← hL] at HW HB1 hb2 ⊢
 unfold IntsP at HW
 obtain ⟨R, hR⟩ : ∃ z, z = L.foldl (· + ·) 0 := ⟨_, rfl⟩
 rw [← hR]
 have HR := Lh hR
 obtain ⟨a1, a2, a3, a4, a5, a6, a7, a8, m1, m2, m3, m4, m5, m6, n7, m7, m8, hf⟩ := hF.form
 obtain ⟨rfl, hnm, hhs, hmd, hrs, has, hts, hss, hct, hdp, l1, l2, l3, l4, l5, l6, l7, l8⟩ := hf
 dsimp only [Pg.PV.val] at HW ⊢
 have bx := aH W (.cells (Yq0 F a1 m1 a2 m2 a3 m3 a4 m4 a5 m5 a6 m6 a7 m7 n7 a8 m8) 31)
 have k0 := alw (cQ 0 bx)
 have k1 := alw (cQ 1 bx)
 have k2 := alw (cQ 2 bx)
 have k3 := alw (cQ 3 bx)
 have k4 := alw (cQ 4 bx)
 have k5 := alw (cQ 5 bx)
 have k6 := alw (cQ 6 bx)
 have k7 := alw (cQ 7 bx)
 have k8 := alw (cQ 8 bx)
 clear bx
 clear hF hnm hhs hmd hrs has hts hss hct hdp hb1 hL hR
 go_enter Tryz.func96, Tryz.ntmps96
 go_wp2_with fail
 refine (HW.out _ grows).mono ?_
 rintro e w3 ⟨v3, rfl, x3, hns⟩
 have s3 := Sm x3
 obtain ⟨oa, c, rfl⟩ := ns_slice hns
 have HNS := Lh hns
 clear hns x3
 go_wp2_with fail
 go_loopw [5, 12] (fun s5 q wr => ∃ (k : Nat) (z : Int), k ≤ L.length ∧ q = .int .i64 k ∧ s5 = .int .i64 z ∧ Hid (z = (L.take k).foldl (· + ·) 0) ∧ Hid (Ext w3 wr)) (fun _ q _ => L.length - (intOf q).toNat)
 case atStart => exact ⟨0, 0, Nat.zero_le _, rfl, rfl, Lh rfl, Lh (eR _)⟩
 case round =>
  obtain ⟨k, z, hk, rfl, rfl, HZ, HX⟩ := hrel
  have sx : Step w3 wr := ⟨HX.out⟩
  by_cases hlt : k < L.length
  ·obtain ⟨x, hx⟩ : ∃ x, L[k]? = some x := ⟨_, gE hlt⟩
   obtain ⟨b, o, rfl, hc⟩ := ns_at HNS.out (by omega)
   have cx := hc k x hx
   have hzb := Pl.fold_add_bd (b := 32) (by omega) (L.take k) 0 (fun y hy => HB1.out y (List.mem_of_mem_take hy))
   rw [← HZ.out, List.length_take] at hzb
   have hxb := HB1.out x (List.mem_of_getElem? hx)
   have HN : Hid (z + x = (L.take (k + 1)).foldl (· + ·) 0) := Lh (by rw [Pl.fold_snoc hx, HZ.out])
   clear hx hc
   go_wp2_with fail
   go_roundw
   case rel => exact ⟨k + 1, _, by omega, by go_num, rfl, HN, Lh HX.out⟩
   case measure => simp [intOf]; omega
  ·obtain rfl : k = L.length := by omega
   have HN : Hid (z = R) := Lh (by rw [HR.out, HZ.out, List.take_length])
   go_wp2_with fail
   go_ret
   rw [HN.out]
   exact ⟨rfl, grows⟩
theorem abits_any {W : World} {p : Pg.PV} {F : Tj.FP} (hF : Tj.IsF W p F) (hB : Pl.Bd F) (nm : ByteArray) (ka aa da : Option Addr) (kn kc ac dn dc : Nat) (d sz : Int) {L : List Int} (hL : Ns .i64 W (.slice aa L.length ac) L) (hl : L.length ≤ 16) :
 Calls Tryz.prog 97 #[p.val, .agg #[.string nm, .slice ka kn kc, .slice aa L.length ac, .int .i64 d, .slice da dn dc, .int .i64 sz]] W (Rets W (.int .i64 (Pl.abL F L))) := by
 have HB := Lh hB
 have HNS := Lh hL
 obtain ⟨R, hR⟩ : ∃ z, z = Pl.abL F L := ⟨_, rfl⟩
 rw [← hR]
 have HR := Lh hR
 obtain ⟨a1, a2, a3, a4, a5, a6, a7, a8, m1, m2, m3, m4, m5, m6, n7, m7, m8, hf⟩ := hF.form
 obtain ⟨rfl, hnm, hhs, hmd, hrs, has, hts, hss, hct, hdp, l1, l2, l3, l4, l5, l6, l7, l8⟩ := hf
 dsimp only [Pg.PV.val] at ⊢
 have h16 := hB.ac
 have HAS := Lh has
 have bx := aH W (.cells (Yq0 F a1 m1 a2 m2 a3 m3 a4 m4 a5 m5 a6 m6 a7 m7 n7 a8 m8) 31)
 have k0 := alw (cQ 0 bx)
 have k1 := alw (cQ 1 bx)
 have k2 := alw (cQ 2 bx)
 have k3 := alw (cQ 3 bx)
 have k4 := alw (cQ 4 bx)
 have k5 := alw (cQ 5 bx)
 have k6 := alw (cQ 6 bx)
 have k7 := alw (cQ 7 bx)
 have k8 := alw (cQ 8 bx)
 clear bx
 have bx := aH (W.alloc (.cells (Yq0 F a1 m1 a2 m2 a3 m3 a4 m4 a5 m5 a6 m6 a7 m7 n7 a8 m8) 31)) (.cells #[.string nm, .slice ka kn kc, .slice aa L.length ac, .int .i64 d, .slice da dn dc, .int .i64 sz] 96)
 rw [szA] at bx
 have j0 := alw (cQ 0 bx)
 have j1 := alw (cQ 1 bx)
 have j2 := alw (cQ 2 bx)
 have j3 := alw (cQ 3 bx)
 have j4 := alw (cQ 4 bx)
 have j5 := alw (cQ 5 bx)
 clear bx
 clear hF hnm hhs hmd hrs hts hss hct hdp hR hL hB
 go_enter Tryz.func97, Tryz.ntmps97
 go_wp2_with fail
 go_step3
 go_wp2_with fail
 go_step3
 go_wp2_with fail
 go_loopw [5, 14] (fun s5 q wr => ∃ (k : Nat) (z : Int), k ≤ L.length ∧ q = .int .i64 k ∧ s5 = .int .i64 z ∧ Hid (z = (L.take k).foldl (Pl.abS F) 0) ∧ Hid (Ext ((W.alloc (.cells (Yq0 F a1 m1 a2 m2 a3 m3 a4 m4 a5 m5 a6 m6 a7 m7 n7 a8 m8) 31)).alloc (.cells #[.string nm, .slice ka kn kc, .slice aa L.length ac, .int .i64 d, .slice da dn dc, .int .i64 sz] 96)) wr)) (fun _ q _ => L.length - (intOf q).toNat)
 case atStart => exact ⟨0, 0, Nat.zero_le _, rfl, rfl, Lh rfl, Lh (eR _)⟩
 case round =>
  obtain ⟨k, z, hk, rfl, rfl, HZ, HX⟩ := hrel
  have sx : Step ((W.alloc (.cells (Yq0 F a1 m1 a2 m2 a3 m3 a4 m4 a5 m5 a6 m6 a7 m7 n7 a8 m8) 31)).alloc (.cells #[.string nm, .slice ka kn kc, .slice aa L.length ac, .int .i64 d, .slice da dn dc, .int .i64 sz] 96)) wr := ⟨HX.out⟩
  by_cases hlt : k < L.length
  ·obtain ⟨x, hx⟩ : ∃ x, L[k]? = some x := ⟨_, gE hlt⟩
   obtain ⟨b, o, rfl, hc⟩ := ns_at HNS.out (by omega)
   have cx := hc k x hx
   have hsn := Pl.fold_snoc (f := Pl.abS F) (z := 0) hx
   rw [← HZ.out] at hsn
   have hzb := Pl.abL_bd HB.out (L.take k) 0 (by omega)
   rw [← HZ.out] at hzb
   by_cases h0 : x < 0
   ·have z1 : decide (x < 0) = true := dTt h0
    have HN : Hid (z = (L.take (k + 1)).foldl (Pl.abS F) 0) := Lh (by
     rw [hsn]; unfold Pl.abS Tj.at?; rw [if_neg (by omega)])
    clear hx hc hsn
    go_wp2_with fail
    go_roundw
    case rel => exact ⟨k + 1, z, by omega, by go_num, rfl, HN, Lh HX.out⟩
    case measure => simp [intOf]; omega
   ·have z1 : decide (x < 0) = false := dF h0
    by_cases h1 : (F.ac.length : Int) ≤ x
    ·have z2 : decide ((F.ac.length : Int) ≤ x) = true := dTt h1
     have HN : Hid (z = (L.take (k + 1)).foldl (Pl.abS F) 0) := Lh (by
      rw [hsn]; unfold Pl.abS
      cases hat : Tj.at? F.ac x with
      | none => rfl
      | some y => have := (Tj.at_get hat).2.1; omega)
     clear hx hc hsn
     go_wp2_with fail
     go_roundw
     case rel => exact ⟨k + 1, z, by omega, by go_num, rfl, HN, Lh HX.out⟩
     case measure => simp [intOf]; omega
    ·obtain ⟨q, rfl⟩ := Int.eq_ofNat_of_zero_le (show 0 ≤ x by omega)
     have hql : q < F.ac.length := by omega
     obtain ⟨a, hq⟩ : ∃ y, F.ac[q]? = some y := ⟨_, gE hql⟩
     have hat : Tj.at? F.ac (q : Int) = some a := by unfold Tj.at?; rw [if_pos (by omega), Int.toNat_natCast]; exact hq
     have hsn2 : (L.take (k + 1)).foldl (Pl.abS F) 0 = max z (Pl.pbits a) := by rw [hsn]; unfold Pl.abS; rw [hat]
     obtain ⟨hpb, hp4, hpw⟩ := Pl.pbits_bd HB.out hat
     obtain ⟨v, hv⟩ : ∃ v, v = Pl.pbits a := ⟨_, rfl⟩
     rw [← hv] at hsn2 hpb
     have HV := Lh hv
     have HN : Hid (max z v = (L.take (k + 1)).foldl (Pl.abS F) 0) := Lh hsn2.symm
     have z2 : decide ((F.ac.length : Int) ≤ (q : Int)) = false := dF h1
     have z3 : decide (F.ac.length ≤ q) = false := dF (by omega)
     obtain ⟨ab, ao, rfl, _, _⟩ := Rows.at HAS.out (by omega)
     obtain ⟨pa, pc, ba, bc, _, hps, _, ⟨lp, lp'⟩, _, g0, g1, g2⟩ := acts_at HAS.out q a hq rfl
     have y1 := alw g1
     have HPS := Lh hps
     have HPW := Lh hpw
     unfold maxLen at lp'
     clear hx hc hsn hsn2 hv hq hat hps hpw g0 g1 g2
     obtain ⟨w1, rfl⟩ : ∃ w1 : World, w1 = wr := ⟨_, rfl⟩
     go_wp2_with fail
     go_loopw [9, 35] (fun s9 q wr => ∃ (j : Nat) (u : Int), j ≤ a.ps.length ∧ q = .int .i64 j ∧ s9 = .int .i64 u ∧ Hid (u = ((a.ps.map (·.2)).take j).foldl (· + ·) 0) ∧ Hid (Ext w1 wr)) (fun _ q _ => a.ps.length - (intOf q).toNat)
     case atStart => exact ⟨0, 0, Nat.zero_le _, rfl, rfl, Lh rfl, Lh (eR _)⟩
     case round =>
      obtain ⟨j, u, hj, rfl, rfl, HU, HY⟩ := hrel
      have sy : Step w1 wr := ⟨HY.out⟩
      have hub := Pl.fold_add_bd (b := 32) (by omega) ((a.ps.map (·.2)).take j) 0 (fun y hy => HPW.out y (List.mem_of_mem_take hy))
      rw [← HU.out, List.length_take, List.length_map] at hub
      by_cases hjt : j < a.ps.length
      ·obtain ⟨⟨fn, fw⟩, hf⟩ : ∃ y, a.ps[j]? = some y := ⟨_, gE hjt⟩
       obtain ⟨pb, po, rfl, _, _⟩ := Rows.at HPS.out (by omega)
       obtain ⟨c0, c1, _, _, _⟩ := flds_at HPS.out j fn fw hf rfl
       have hf2 : (a.ps.map (·.2))[j]? = some fw := by rw [List.getElem?_map, hf]; rfl
       have hfw := HPW.out fw (List.mem_of_getElem? hf2)
       have HNU : Hid (u + fw = ((a.ps.map (·.2)).take (j + 1)).foldl (· + ·) 0) := Lh (by rw [Pl.fold_snoc hf2, HU.out])
       clear hf hf2 c0
       go_wp2_with fail
       go_roundw
       case rel => exact ⟨j + 1, _, by omega, by go_num, rfl, HNU, Lh HY.out⟩
       case measure => simp [intOf]; omega
      ·obtain rfl : j = a.ps.length := by omega
       obtain rfl : u = v := by rw [HU.out, HV.out, List.take_of_length_le (by simp)]; rfl
       go_wp2_with fail
       go_roundw
       case rel => exact ⟨k + 1, _, by omega, by go_num, rfl, Lh (by rw [← HN.out] <;> split <;> omega), Lh (HX.out.trans HY.out)⟩
       case measure => simp [intOf]; omega
  ·obtain rfl : k = L.length := by omega
   have HN : Hid (z = R) := Lh (by rw [HR.out, HZ.out, List.take_length]; rfl)
   go_wp2_with fail
   go_ret
   rw [HN.out]
   exact ⟨rfl, grows⟩
namespace Pl
theorem cellV_1 (F : Tj.FP) (i : Int) : cellV F 1 i = vcell F i := by unfold cellV vcell cntV fstV; simp
theorem cellV_2 (F : Tj.FP) (i : Int) : cellV F 2 i = fcell F (-1) i := by unfold cellV fcell cntV fstV; simp
theorem cellV_3 (F : Tj.FP) (i : Int) : cellV F 3 i = rcell F i := by unfold cellV rcell cntV fstV; simp
end Pl
theorem acell_any {W : World} {p : Pg.PV} {F : Tj.FP} (hF : Tj.IsF W p F) (hB : Pl.Bd F) (kd i : Int) (hk : kd = 1 ∨ kd = 2 ∨ kd = 3) : Calls Tryz.prog 141 #[p.val, .int .i64 kd, .int .i64 i] W (Rets W (.int .i64 (Pl.cellV F kd i))) := by
 have HC := Lh (fun (w : World) (hx : Ext W w) => counts_any (hF.ext hx) hB)
 have HT := Lh (fun (w : World) (hx : Ext W w) => first_any (hF.ext hx) hB kd hk)
 obtain ⟨a1, a2, a3, a4, a5, a6, a7, a8, m1, m2, m3, m4, m5, m6, n7, m7, m8, hf⟩ := hF.form
 obtain ⟨rfl, hnm, hhs, hmd, hrs, has, hts, hss, hct, hdp, l1, l2, l3, l4, l5, l6, l7, l8⟩ := hf
 have hb1 := hB.hs
 have hb3 := hB.md
 have hb4 := hB.rs
 have hb5 := Pl.nfl_all hB
 have hf1 : 0 ≤ Pl.fstV F kd ∧ Pl.fstV F kd ≤ 200 := by unfold Pl.fstV Pl.c0; split <;> (try split) <;> omega
 dsimp only [Pg.PV.val] at HC HT ⊢
 unfold Pl.cntA at HC
 have hcv : Pl.cntV F kd = if kd = 1 then (F.P.hs.length : Int) else if kd = 2 then F.P.md.length else F.rs.length := rfl
 obtain ⟨R, hR⟩ : ∃ z, z = Pl.cellV F kd i := ⟨_, rfl⟩
 rw [← hR]
 unfold Pl.cellV at hR
 obtain ⟨g, hg⟩ : ∃ z, z = Pl.fstV F kd := ⟨_, rfl⟩
 rw [← hg] at hR hf1 HT
 obtain ⟨hf1, hf2⟩ := hf1
 obtain ⟨a, ha⟩ : ∃ z, z = Pl.nfl F.P.hs := ⟨_, rfl⟩
 obtain ⟨b, hb⟩ : ∃ z : Int, z = F.P.hs.length := ⟨_, rfl⟩
 obtain ⟨c, hc⟩ : ∃ z : Int, z = F.P.md.length := ⟨_, rfl⟩
 obtain ⟨d, hd⟩ : ∃ z : Int, z = F.rs.length := ⟨_, rfl⟩
 have hA1 : b ≤ 8 := by omega
 have hA2 : c ≤ 12 := by omega
 have hA3 : d ≤ 4 := by omega
 rw [← ha, ← hb, ← hc, ← hd] at HC
 rw [← hb, ← hc, ← hd] at hcv
 have bx := aH W (.cells (Yq0 F a1 m1 a2 m2 a3 m3 a4 m4 a5 m5 a6 m6 a7 m7 n7 a8 m8) 31)
 have k0 := alw (cQ 0 bx)
 have k1 := alw (cQ 1 bx)
 have k2 := alw (cQ 2 bx)
 have k3 := alw (cQ 3 bx)
 have k4 := alw (cQ 4 bx)
 have k5 := alw (cQ 5 bx)
 have k6 := alw (cQ 6 bx)
 have k7 := alw (cQ 7 bx)
 have k8 := alw (cQ 8 bx)
 clear bx
 clear hF hnm hhs hmd hrs has hts hss hct hdp
 clear hB hb1 hb3 hb4 hb5 ha hb hc hd hg
 by_cases h0 : i < 0
 ·have z1 : decide (i < 0) = true := dTt h0
  have HE : Hid (R = -1) := Lh (by rw [hR, if_pos (.inl h0)])
  clear hR HC HT hcv
  go_enter Tryz.func141, Tryz.ntmps141
  go_wp2_with fail
  go_ret
  exact ⟨ret_int HE.out.symm, grows⟩
 ·have z1 : decide (i < 0) = false := dF h0
  have X1 := ix4_1 a b c d
  have X2 := ix4_2 a b c d
  have X3 := ix4_3 a b c d
  by_cases h1 : Pl.cntV F kd ≤ i
  ·have HE : Hid (R = -1) := Lh (by rw [hR, if_pos (.inr h1)])
   clear hR HT
   rw [hcv] at h1
   rcases hk with rfl | rfl | rfl
   all_goals
    simp at h1
    have z2 := dTt h1
    clear hcv
    go_enter Tryz.func141, Tryz.ntmps141
    go_wp2_with fail
    refine via (HC.out _ grows) fun w3 x3 s3 => ?_
    go_wp2_with fail
    go_ret
    exact ⟨ret_int HE.out.symm, grows⟩
  ·have HE : Hid (R = g + i) := Lh (by rw [hR, if_neg (by omega)])
   clear hR
   rw [hcv] at h1
   rcases hk with rfl | rfl | rfl
   all_goals
    simp at h1
    have z2 := dF (Int.not_le.2 h1)
    clear hcv
    go_enter Tryz.func141, Tryz.ntmps141
    go_wp2_with fail
    refine via (HC.out _ grows) fun w3 x3 s3 => ?_
    go_wp2_with fail
    refine via (HT.out _ grows) fun w4 x4 s4 => ?_
    go_wp2_with fail
    go_ret
    exact ⟨ret_int HE.out.symm, grows⟩
theorem avcell_any {W : World} {p : Pg.PV} {F : Tj.FP} (hF : Tj.IsF W p F) (hB : Pl.Bd F) (i : Int) : Calls Tryz.prog 120 #[p.val, .int .i64 i] W (Rets W (.int .i64 (Pl.vcell F i))) := by
 have HC : Hid (∀ w, Ext W w → Calls Tryz.prog 141 #[p.val, .int .i64 1, .int .i64 i] w (Rets w (.int .i64 (Pl.vcell F i)))) := Lh (fun w hx => by have h := acell_any (hF.ext hx) hB 1 i (by decide); rw [Pl.cellV_1] at h; exact h)
 obtain ⟨a1, a2, a3, a4, a5, a6, a7, a8, m1, m2, m3, m4, m5, m6, n7, m7, m8, hf⟩ := hF.form
 obtain ⟨rfl, hnm, hhs, hmd, hrs, has, hts, hss, hct, hdp, l1, l2, l3, l4, l5, l6, l7, l8⟩ := hf
 dsimp only [Pg.PV.val] at HC ⊢
 have bx := aH W (.cells (Yq0 F a1 m1 a2 m2 a3 m3 a4 m4 a5 m5 a6 m6 a7 m7 n7 a8 m8) 31)
 have k0 := alw (cQ 0 bx)
 have k1 := alw (cQ 1 bx)
 have k2 := alw (cQ 2 bx)
 have k3 := alw (cQ 3 bx)
 have k4 := alw (cQ 4 bx)
 have k5 := alw (cQ 5 bx)
 have k6 := alw (cQ 6 bx)
 have k7 := alw (cQ 7 bx)
 have k8 := alw (cQ 8 bx)
 clear bx
 clear hF hnm hhs hmd hrs has hts hss hct hdp
 go_enter Tryz.func120, Tryz.ntmps120
 go_wp2_with fail
 refine via (HC.out _ grows) fun w3 x3 s3 => ?_
 go_wp2_with fail
 go_ret
 exact ⟨rfl, grows⟩
theorem arcell_any {W : World} {p : Pg.PV} {F : Tj.FP} (hF : Tj.IsF W p F) (hB : Pl.Bd F) (i : Int) : Calls Tryz.prog 121 #[p.val, .int .i64 i] W (Rets W (.int .i64 (Pl.rcell F i))) := by
 have HC : Hid (∀ w, Ext W w → Calls Tryz.prog 141 #[p.val, .int .i64 3, .int .i64 i] w (Rets w (.int .i64 (Pl.rcell F i)))) := Lh (fun w hx => by have h := acell_any (hF.ext hx) hB 3 i (by decide); rw [Pl.cellV_3] at h; exact h)
 obtain ⟨a1, a2, a3, a4, a5, a6, a7, a8, m1, m2, m3, m4, m5, m6, n7, m7, m8, hf⟩ := hF.form
 obtain ⟨rfl, hnm, hhs, hmd, hrs, has, hts, hss, hct, hdp, l1, l2, l3, l4, l5, l6, l7, l8⟩ := hf
 dsimp only [Pg.PV.val] at HC ⊢
 have bx := aH W (.cells (Yq0 F a1 m1 a2 m2 a3 m3 a4 m4 a5 m5 a6 m6 a7 m7 n7 a8 m8) 31)
 have k0 := alw (cQ 0 bx)
 have k1 := alw (cQ 1 bx)
 have k2 := alw (cQ 2 bx)
 have k3 := alw (cQ 3 bx)
 have k4 := alw (cQ 4 bx)
 have k5 := alw (cQ 5 bx)
 have k6 := alw (cQ 6 bx)
 have k7 := alw (cQ 7 bx)
 have k8 := alw (cQ 8 bx)
 clear bx
 clear hF hnm hhs hmd hrs has hts hss hct hdp
 go_enter Tryz.func121, Tryz.ntmps121
 go_wp2_with fail
 refine via (HC.out _ grows) fun w3 x3 s3 => ?_
 go_wp2_with fail
 go_ret
 exact ⟨rfl, grows⟩
theorem afcell_any {W : World} {p : Pg.PV} {F : Tj.FP} (hF : Tj.IsF W p F) (hB : Pl.Bd F) (h f : Int) : Calls Tryz.prog 119 #[p.val, .agg #[.int .i64 h, .int .i64 f]] W (Rets W (.int .i64 (Pl.fcell F h f))) := by
 have HC : Hid (∀ w, Ext W w → Calls Tryz.prog 141 #[p.val, .int .i64 2, .int .i64 f] w (Rets w (.int .i64 (Pl.fcell F (-1) f)))) := Lh (fun w hx => by have h := acell_any (hF.ext hx) hB 2 f (by decide); rw [Pl.cellV_2] at h; exact h)
 have HB := Lh hB
 obtain ⟨a1, a2, a3, a4, a5, a6, a7, a8, m1, m2, m3, m4, m5, m6, n7, m7, m8, hf⟩ := hF.form
 obtain ⟨rfl, hnm, hhs, hmd, hrs, has, hts, hss, hct, hdp, l1, l2, l3, l4, l5, l6, l7, l8⟩ := hf
 have HH := Lh hhs
 have hb1 := hB.hs
 dsimp only [Pg.PV.val] at HC ⊢
 have bx := aH W (.cells (Yq0 F a1 m1 a2 m2 a3 m3 a4 m4 a5 m5 a6 m6 a7 m7 n7 a8 m8) 31)
 have k0 := alw (cQ 0 bx)
 have k1 := alw (cQ 1 bx)
 have k2 := alw (cQ 2 bx)
 have k3 := alw (cQ 3 bx)
 have k4 := alw (cQ 4 bx)
 have k5 := alw (cQ 5 bx)
 have k6 := alw (cQ 6 bx)
 have k7 := alw (cQ 7 bx)
 have k8 := alw (cQ 8 bx)
 clear bx
 have bx := aH (W.alloc (.cells (Yq0 F a1 m1 a2 m2 a3 m3 a4 m4 a5 m5 a6 m6 a7 m7 n7 a8 m8) 31)) (.cells #[.int .i64 h, .int .i64 f] 88)
 rw [szA] at bx
 have j0 := alw (cQ 0 bx)
 have j1 := alw (cQ 1 bx)
 clear bx
 clear hF hnm hhs hmd hrs has hts hss hct hdp
 clear hB
 obtain ⟨R, hR⟩ : ∃ z, z = Pl.fcell F h f := ⟨_, rfl⟩
 rw [← hR]
 by_cases hm : h = -1
 ·subst hm
  have HE : Hid (Pl.fcell F (-1) f = R) := Lh hR.symm
  clear hR
  go_enter Tryz.func119, Tryz.ntmps119
  go_wp2_with fail
  refine via (HC.out _ grows) fun w3 x3 s3 => ?_
  go_wp2_with fail
  go_ret
  exact ⟨ret_int (by rw [HE.out]), grows⟩
 ·have z0 : (h == -1) = false := bF hm
  unfold Pl.fcell at hR
  rw [if_neg hm] at hR
  clear HC
  by_cases h0 : h < 0
  ·have HE : Hid (R = -1) := Lh (by rw [hR, if_pos (.inl h0)])
   have z1 : decide (h < 0) = true := dTt h0
   clear hR hm h0
   go_enter Tryz.func119, Tryz.ntmps119
   go_wp2_with fail
   refine wp_region_later (W := ((W.alloc (.cells (Yq0 F a1 m1 a2 m2 a3 m3 a4 m4 a5 m5 a6 m6 a7 m7 n7 a8 m8) 31)).alloc (.cells #[.int .i64 h, .int .i64 f] 88))) (by kernel_rfl) (by kernel_rfl) grows ?_
   repeat (go_big_quiet_step (fail))
   refine wpQuiet_nil ?_
   intro w9 hx9
   have s9 := Sm hx9
   go_wp2_with fail
   go_ret
   exact ⟨ret_int HE.out.symm, grows⟩
  ·have z1 : decide (h < 0) = false := dF h0
   by_cases h1 : (F.P.hs.length : Int) ≤ h
   ·have HE : Hid (R = -1) := Lh (by rw [hR, if_pos (.inr (.inl h1))])
    have z2 : decide ((F.P.hs.length : Int) ≤ h) = true := dTt h1
    clear hR hm h0 h1
    go_enter Tryz.func119, Tryz.ntmps119
    go_wp2_with fail
    refine wp_region_later (W := ((W.alloc (.cells (Yq0 F a1 m1 a2 m2 a3 m3 a4 m4 a5 m5 a6 m6 a7 m7 n7 a8 m8) 31)).alloc (.cells #[.int .i64 h, .int .i64 f] 88))) (by kernel_rfl) (by kernel_rfl) grows ?_
    repeat (go_big_quiet_step (fail))
    refine wpQuiet_nil ?_
    intro w9 hx9
    have s9 := Sm hx9
    go_wp2_with fail
    go_ret
    exact ⟨ret_int HE.out.symm, grows⟩
   ·have z2 : decide ((F.P.hs.length : Int) ≤ h) = false := dF h1
    by_cases h2 : f < 0
    ·have HE : Hid (R = -1) := Lh (by rw [hR, if_pos (.inr (.inr (.inl h2)))])
     have z3 : decide (f < 0) = true := dTt h2
     clear hR hm h0 h1 h2
     go_enter Tryz.func119, Tryz.ntmps119
     go_wp2_with fail
     refine wp_region_later (W := ((W.alloc (.cells (Yq0 F a1 m1 a2 m2 a3 m3 a4 m4 a5 m5 a6 m6 a7 m7 n7 a8 m8) 31)).alloc (.cells #[.int .i64 h, .int .i64 f] 88))) (by kernel_rfl) (by kernel_rfl) grows ?_
     repeat (go_big_quiet_step (fail))
     refine wpQuiet_nil ?_
     intro w9 hx9
     have s9 := Sm hx9
     go_wp2_with fail
     go_ret
     exact ⟨ret_int HE.out.symm, grows⟩
    ·have z3 : decide (f < 0) = false := dF h2
     obtain ⟨q, rfl⟩ := Int.eq_ofNat_of_zero_le (Int.not_lt.1 h0)
     have hql : q < F.P.hs.length := by omega
     have z2b : decide (F.P.hs.length ≤ q) = false := dF (by omega)
     obtain ⟨⟨hn, fs⟩, hx⟩ : ∃ x, F.P.hs[q]? = some x := ⟨_, gE hql⟩
     obtain ⟨b, o, rfl, _, _⟩ := Rows.at HH.out (by omega)
     obtain ⟨fa, fc, u0, u1, hns, hfs, hf1, hf2⟩ := hdrs_at HH.out q hn fs hx rfl
     have hgd : F.P.hs.getD q (⟨#[]⟩, []) = (hn, fs) := by rw [List.getD_eq_getElem?_getD, hx]; rfl
     have hf3 := HB.out.fs _ (List.mem_of_getElem? hx)
     dsimp only at hf3
     rw [Int.toNat_natCast, hgd] at hR
     dsimp only at hR
     by_cases h3 : (fs.length : Int) ≤ f
     ·have HE : Hid (R = -1) := Lh (by rw [hR, if_pos (.inr (.inr (.inr h3)))])
      have z4 : decide ((fs.length : Int) ≤ f) = true := dTt h3
      clear hR hm h0 h1 h2 h3 hx hgd hns hfs hf1 hf2 hf3
      go_enter Tryz.func119, Tryz.ntmps119
      go_wp2_with fail
      refine wp_region_later (W := ((W.alloc (.cells #[.string F.nm, .slice (some ⟨b, o, none⟩) F.P.hs.length m1, .slice a2 F.P.md.length m2, .slice a3 F.rs.length m3, .slice a4 F.ac.length m4, .slice a5 F.ts.length m5, .slice a6 F.ss.length m6, .slice a7 n7 m7, .slice a8 F.P.dp.length m8] 31)).alloc (.cells #[.int .i64 (q : Int), .int .i64 f] 88))) (by kernel_rfl) (by kernel_rfl) grows ?_
      repeat (go_big_quiet_step (fail))
      refine wpQuiet_nil ?_
      intro w9 hx9
      have s9 := Sm hx9
      go_wp2_with fail
      go_ret
      exact ⟨ret_int HE.out.symm, grows⟩
     ·have HE : Hid (R = f + Pl.nfl (F.P.hs.take q)) := Lh (by rw [hR, if_neg (by omega)])
      have z4 : decide ((fs.length : Int) ≤ f) = false := dF h3
      have hfb : 0 ≤ f ∧ f ≤ 12 := by omega
      obtain ⟨hfb0, hfb1⟩ := hfb
      clear hR hm h0 h1 h2 h3 hx hgd hns hfs hf1 hf2 hf3
      go_enter Tryz.func119, Tryz.ntmps119
      go_wp2_with fail
      refine wp_region_later (W := ((W.alloc (.cells #[.string F.nm, .slice (some ⟨b, o, none⟩) F.P.hs.length m1, .slice a2 F.P.md.length m2, .slice a3 F.rs.length m3, .slice a4 F.ac.length m4, .slice a5 F.ts.length m5, .slice a6 F.ss.length m6, .slice a7 n7 m7, .slice a8 F.P.dp.length m8] 31)).alloc (.cells #[.int .i64 (q : Int), .int .i64 f] 88))) (by kernel_rfl) (by kernel_rfl) grows ?_
      repeat (go_big_quiet_step (fail))
      refine wpQuiet_nil ?_
      intro w9 hx9
      have s9 := Sm hx9
      go_wp2_with fail
      go_loopw [5, 52] (fun o' c wr => ∃ k : Nat, k ≤ q ∧ c = .int .i64 k ∧ ∃ g : Int, o' = .int .i64 g ∧ (0 ≤ g ∧ g ≤ 200) ∧ Hid (Ext W wr ∧ g = f + Pl.nfl (F.P.hs.take k))) (fun _ c _ => q - (intOf c).toNat)
      case atStart => exact ⟨0, Nat.zero_le _, rfl, f, rfl, by omega, Lh ⟨grows, by show f = f + 0; omega⟩⟩
      case round =>
       obtain ⟨k, hk, rfl, g, rfl, ⟨hg0, hg1⟩, HZ⟩ := hrel
       have sx : Step W wr := ⟨HZ.out.1⟩
       by_cases hlt : k < q
       ·obtain ⟨⟨hn2, fs2⟩, hx2⟩ : ∃ x, F.P.hs[k]? = some x := ⟨_, gE (by omega)⟩
        obtain ⟨fa2, fc2, v0, v1, _, _, _, _⟩ := hdrs_at HH.out k hn2 fs2 hx2 rfl
        have hf4 := HB.out.fs _ (List.mem_of_getElem? hx2)
        dsimp only at hf4
        have HX2 := Lh hx2
        have bx := aH wr (.cells #[.string hn2, .slice fa2 fs2.length fc2] 81)
        have m0 := alw (cQ 0 bx)
        have m1 := alw (cQ 1 bx)
        clear bx
        have hbd := Pl.nfl_tk HB.out (k + 1)
        have HN : Hid (g + fs2.length = f + Pl.nfl (F.P.hs.take (k + 1))) := Lh (by rw [Pl.nfl_add HX2.out, HZ.out.2]; show _ = _ + (_ + (fs2.length : Int)); omega)
        have hbd2 : 0 ≤ g + fs2.length ∧ g + fs2.length ≤ 200 := by rw [HN.out]; omega
        obtain ⟨hbd3, hbd4⟩ := hbd2
        clear hx2 hbd
        go_wp2_with fail
        go_roundw
        case rel => exact ⟨k + 1, by omega, by go_num, g + fs2.length, by go_num, ⟨hbd3, hbd4⟩, Lh ⟨grows, HN.out⟩⟩
        case measure => simp [intOf]; omega
       ·obtain rfl : k = q := by omega
        have HE2 : Hid (g = R) := Lh (by rw [HE.out]; exact HZ.out.2)
        go_wp2_with fail
        go_ret
        exact ⟨ret_int HE2.out, grows⟩
namespace Pl
/-- the same elements -/
def Same {α : Type} (a b : List α) : Prop := ∀ x, x ∈ a ↔ x ∈ b
theorem Same.refl {α : Type} (a : List α) : Same a a := fun _ => Iff.rfl
theorem Same.trans {α : Type} {a b c : List α} (h : Same a b) (k : Same b c) : Same a c := fun x => (h x).trans (k x)
theorem Same.app {α : Type} {a b c d : List α} (h : Same a b) (k : Same c d) : Same (a ++ c) (b ++ d) := fun x => by
 rw [List.mem_append, List.mem_append, h x, k x]
theorem Same.map {α β : Type} {a b : List α} (f : α → β) (h : Same a b) : Same (a.map f) (b.map f) := fun x => by
 rw [List.mem_map, List.mem_map]
 exact ⟨fun ⟨y, h1, h2⟩ => ⟨y, (h y).1 h1, h2⟩, fun ⟨y, h1, h2⟩ => ⟨y, (h y).2 h1, h2⟩⟩
theorem Same.filter {α : Type} {a b : List α} (p : α → Bool) (h : Same a b) : Same (a.filter p) (b.filter p) := fun x => by
 rw [List.mem_filter, List.mem_filter, h x]
theorem Same.perm {α : Type} {a b : List α} (h : a.Perm b) : Same a b := fun _ => h.mem_iff
/-- compacting, as it goes: xs is what was there; of ys, the first k are kept, and what stands from place m - 1 on is as it was -/
structure Cmp {α : Type} (xs ys : List α) (k m : Nat) : Prop where
 len : ys.length = xs.length
 k1 : 1 ≤ k
 km : k + 1 ≤ m
 mn : m ≤ xs.length
 old : ∀ i, m ≤ i + 1 → ys[i]? = xs[i]?
 set : Same (ys.take k) (xs.take m)
theorem Cmp.start {α : Type} {xs : List α} {k : Nat} (h1 : 1 ≤ k) (h2 : k < xs.length) (h : xs[k]? = xs[k - 1]?) : Cmp xs xs k (k + 1) := by
 refine ⟨rfl, h1, Nat.le_refl _, h2, fun _ _ => rfl, fun x => ?_⟩
 have e : xs.take (k + 1) = xs.take k ++ [xs[k]] := by rw [List.take_add_one, gE h2]; rfl
 rw [e, List.mem_append]
 refine ⟨.inl, fun g => ?_⟩
 rcases g with g | g
 ·exact g
 ·simp only [List.mem_singleton] at g
  rw [gE h2] at h
  refine List.mem_of_getElem? (i := k - 1) ?_
  rw [List.getElem?_take, if_pos (by omega), ← h, g]
theorem Cmp.skip {α : Type} {xs ys : List α} {k m : Nat} (h : Cmp xs ys k m) (hm : m < xs.length) (he : xs[m]? = xs[m - 1]?) : Cmp xs ys k (m + 1) := by
 have h1 := h.k1
 have h2 := h.km
 refine ⟨h.len, h1, by omega, hm, fun i hi => h.old i (by omega), fun x => ?_⟩
 have e : xs.take (m + 1) = xs.take m ++ [xs[m]] := by rw [List.take_add_one, gE hm]; rfl
 rw [h.set x, e, List.mem_append]
 refine ⟨.inl, fun g => ?_⟩
 rcases g with g | g
 ·exact g
 ·simp only [List.mem_singleton] at g
  rw [gE hm] at he
  refine List.mem_of_getElem? (i := m - 1) ?_
  rw [List.getElem?_take, if_pos (by omega), ← he, g]
theorem Cmp.put {α : Type} {xs ys : List α} {k m : Nat} (h : Cmp xs ys k m) {v : α} (hm : xs[m]? = some v) : Cmp xs (ys.set k v) (k + 1) (m + 1) := by
 have h1 := h.k1
 have h2 := h.km
 have hlen := h.len
 obtain ⟨hml, hv⟩ := List.getElem?_eq_some_iff.1 hm
 have hk : k < ys.length := by omega
 refine ⟨by simp [hlen], by omega, by omega, hml, fun i hi => ?_, fun x => ?_⟩
 ·rw [List.getElem?_set_ne (by omega)]; exact h.old i (by omega)
 ·have e : xs.take (m + 1) = xs.take m ++ [v] := by rw [List.take_add_one, hm]; rfl
  have e2 : (ys.set k v).take (k + 1) = ys.take k ++ [v] := by
   rw [List.take_add_one, List.getElem?_set_self hk, List.take_set_of_le (Nat.le_refl _)]; rfl
  rw [e, e2, List.mem_append, List.mem_append, h.set x]
theorem Cmp.done {α : Type} {xs ys : List α} {k : Nat} (h : Cmp xs ys k xs.length) : Same (ys.take k) xs := by
 have := h.set
 rwa [List.take_length] at this
end Pl
open Go.RowKit Go.Sort
section
variable {α : Type} [Inhabited α]
theorem flatten_at {sz : Nat} : ∀ {xss : List (List Value)} {i j : Nat} {cs : List Value} {u : Value}, (∀ x ∈ xss, x.length = sz) → xss[i]? = some cs → cs[j]? = some u → xss.flatten[i * sz + j]? = some u
 | [], _, _, _, _, _, h, _ => by simp at h
 | x :: l, 0, j, cs, u, hs, h, hu => by
  simp only [List.getElem?_cons_zero, Option.some.injEq] at h
  subst h
  rw [List.flatten_cons, Nat.zero_mul, Nat.zero_add, List.getElem?_append_left (List.getElem?_eq_some_iff.1 hu).1]; exact hu
 | x :: l, i + 1, j, cs, u, hs, h, hu => by
  simp only [List.getElem?_cons_succ] at h
  have := flatten_at (fun y hy => hs y (List.mem_cons_of_mem _ hy)) h hu
  have hx := hs x List.mem_cons_self
  rw [List.flatten_cons, List.getElem?_append_right (by rw [hx, Nat.succ_mul]; omega), hx, show (i + 1) * sz + j - sz = i * sz + j by rw [Nat.succ_mul]; omega]
  exact this
theorem flatMap_len {β : Type} {enc : β → List Value} {k : Nat} (hk : ∀ x, (enc x).length = k) : ∀ (l : List β), (l.flatMap enc).length = l.length * k
 | [] => by simp
 | x :: l => by rw [List.flatMap_cons, List.length_append, hk, flatMap_len hk l, List.length_cons, Nat.succ_mul]; omega
theorem flatK_list {enc : α → List Value} {k : Nat} (hk : ∀ x, (enc x).length = k) (k0 : 0 < k) (l : List α) : (flatK enc k l.toArray).toList = l.flatMap enc := by
 refine List.ext_getElem? fun t => ?_
 by_cases ht : t < l.length * k
 ·have hq : t / k < l.length := Nat.div_lt_of_lt_mul (by rw [Nat.mul_comm]; exact ht)
  have hr : t % k < k := Nat.mod_lt _ k0
  have h1 : (l.flatMap enc)[t / k * k + t % k]? = some ((enc l[t / k])[t % k]'(by rw [hk]; exact hr)) := by
   rw [List.flatMap_def]
   exact flatten_at (xss := l.map enc) (cs := enc l[t / k]) (fun x hx => by obtain ⟨y, _, rfl⟩ := List.mem_map.1 hx; exact hk y) (by rw [List.getElem?_map, gE hq]; rfl) (gE _)
  rw [Nat.mul_comm, Nat.div_add_mod] at h1
  rw [h1, Array.getElem?_toList]
  have h2 : t < (flatK enc k l.toArray).size := by simpa using ht
  rw [Array.getElem?_eq_getElem h2, ← getElem!_pos _ t h2, get_flatK _ _ _ t (by simpa using ht)]
  simp [hq, hk, hr]
 ·rw [List.getElem?_eq_none (by simpa using ht), List.getElem?_eq_none (by rw [flatMap_len hk]; omega)]
theorem holdsK_own {enc : α → List Value} {k : Nat} (hk : ∀ x, (enc x).length = k) (k0 : 0 < k) {w : World} {g : Nat} {cur : Array Value} {e : TypeId} {l : List α} (hb : w.heap[g]? = some (.cells cur e (0, 0))) (ht : cur.toList.take (l.length * k) = l.flatMap enc) : HoldsK enc k w g 0 l.toArray := by
 intro j hj
 have hj' : j < l.length * k := by simpa using hj
 refine ⟨?_, by simp [World.frozen?, hb]⟩
 have h1 : (cur.toList.take (l.length * k))[j]? = (flatK enc k l.toArray).toList[j]? := by rw [ht, flatK_list hk k0]
 rw [List.getElem?_take_of_lt hj'] at h1
 simp only [World.cell?, hb, Nat.zero_add]
 simp only [Option.isSome_none, Bool.false_eq_true, if_false]
 rw [← Array.getElem?_toList, h1, Array.getElem?_toList, Array.getElem?_eq_getElem hj, getElem!_pos _ j hj]; rfl
theorem heap_put {w : World} {g n : Nat} {os : Array Obj} {cur : Array Value} {e : TypeId} {fr : Nat × Nat} (F : Array Value) (hb : w.heap[g]? = some (.cells cur e fr)) :
 (grow (putRow id (Sort.ahead w n) g 0 F) os).heap[g]? = some (.cells (putCells id 0 F cur) e fr) := by
 have hg : g < w.heap.size := (Array.getElem?_eq_some_iff.1 hb).1
 rw [heap_grow_old _ _ (by simpa using hg)]
 simp [putRow, mapBlock, Sort.ahead, Array.getElem?_modify, hb, onCells]
theorem mod_put {w : World} {g n : Nat} {os : Array Obj} (F : Array Value) : Mod (· = g) w (grow (putRow id (Sort.ahead w n) g 0 F) os) := by
 refine ⟨rfl, rfl, rfl, by simp, fun k hk hne => ?_⟩
 rw [heap_grow_old _ _ (by simpa using hk)]
 have : g ≠ k := fun e => hne e.symm
 simp [putRow, mapBlock, Sort.ahead, Array.getElem?_modify, this]
theorem take_put (cur F : Array Value) (h : F.size ≤ cur.size) : (putCells id 0 F cur).toList.take F.size = F.toList := by
 apply List.ext_getElem?
 intro j
 by_cases hj : j < F.size
 ·rw [List.getElem?_take_of_lt hj, Array.getElem?_toList]
  simp [putCells, hj, show j < cur.size by omega]
 ·rw [List.getElem?_take_eq_none (by omega), List.getElem?_eq_none (by simp; omega)]
/-- what a sort leaves of a slice of one's own, whatever it holds then -/
theorem own_sortK {enc : α → List Value} {k : Nat} (hk : ∀ x, (enc x).length = k) (k0 : 0 < k) {w : World} {base g cap m : Nat} {e : TypeId} {os : Array Obj} {l : List α} (d : Array α) (hd : d.size = l.length)
 (h : w.ownsRow base e k (.slice (some ⟨g, 0, none⟩) l.length cap) l.length (l.flatMap enc)) :
 (grow (putRowK enc k (Sort.ahead w m) g 0 d) os).ownsRow base e k (.slice (some ⟨g, 0, none⟩) l.length cap) l.length (d.toList.flatMap enc) ∧ Mod (· = g) w (grow (putRowK enc k (Sort.ahead w m) g 0 d) os) := by
 refine ⟨?_, mod_put _⟩
 rcases h.2 with ⟨h1, _⟩ | ⟨g', cap', cur, e1, hb, hg, h1, h2, h3, h4⟩
 ·cases h1
 ·simp only [Value.slice.injEq, Option.some.injEq, Addr.mk.injEq, true_and, and_true] at e1
  obtain ⟨rfl, rfl⟩ := e1
  have hF : (flatK enc k d).size = l.length * k := by simp [hd]
  have hle : l.length * k ≤ cap * k := Nat.mul_le_mul_right _ h1
  refine ⟨by rw [flatMap_len hk]; simp [hd], .inr ⟨g, cap, _, rfl, hb, heap_put _ hg, h1, h2, by simp [putCells, h3], ?_⟩⟩
  have h5 := take_put cur (flatK enc k d) (by rw [hF, h3]; exact hle)
  rw [hF] at h5
  rw [h5]
  have h6 := flatK_list hk k0 d.toList
  simpa using h6
end
/-- as wp_region_later_tail, where the head's calls draw at most: the world is known to the draw -/
theorem wp_region_drawn_tail {P : Program} {id : Nat} {Q : Exit → Act → World → Prop} {a : Act} {W : World} {l : List Oper} (n m : Nat) (hm : P.follows .mixedOrders = true) (hB : Region.lexTailB .any l.toArray n = true)
 (h : wpQuiet P l.toArray (fun w' => ∃ q, w' = W.drewN q) (fun a' => ∀ q, wpList P l.toArray Q (l.drop n) a' (W.drewN q)) (l.take n) a) : (Code.region id l.toArray true).wp P Q a (W.drewN m) := by
 simp only [Region.lexTailB, Bool.and_eq_true, decide_eq_true_eq] at hB
 obtain ⟨⟨⟨⟨hsel, hn⟩, hs⟩, hc⟩, hlex⟩ := hB
 have hn' : n < l.length := by simpa using hn
 have htl : (l.take n).length = n := by simp; omega
 have hdl : (l.drop n).length = l.toArray.size - n := by simp
 have inv0 : HeadInv .any l.toArray n (Array.replicate l.toArray.size false) :=
  ⟨by simp, fun j oj _ hl => (by rw [getD_replicate_false] at hl; cases hl), fun t _ ht => getD_in (by simpa using ht) (getD_replicate_false _ _)⟩
 have H := head_lex (md := .any) (g := l.toArray.size - n) hsel hs hc hn (l.take n) 0 _ a (fun j hj => by
  rw [htl] at hj; simp [hj]) (by simpa using htl) inv0 (by rw [htl]; exact hlex) h
 refine wp_region_any hm ?_
 have := any_of_head (Q' := Q) (g := l.toArray.size - n) (fun done a' w' hw' hL => by
  obtain ⟨q, rfl⟩ := hw'
  have := wpAny_of_seq (md := .any) (Q' := Q) (l.drop n) n done a' (W.drewN q) (fun j => by simp [List.getElem?_drop]) (by rw [hdl]; exact hL.1) (hL.2 q)
  rwa [hdl] at this) _ _ _ _ (⟨m + 1, rfl⟩ : ∃ q, { W.drewN m with drawn := (W.drewN m).drawn + 1 } = W.drewN q) H
 rw [htl, show n + (l.toArray.size - n) = l.toArray.size by omega] at this
 exact this
end Go.Proofs.YtkiafiaodockbaaGreat
