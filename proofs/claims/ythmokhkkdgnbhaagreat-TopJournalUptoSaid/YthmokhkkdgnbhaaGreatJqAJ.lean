/- Regions that draw their order, walked by relations (XRel), with a tail in order; makes, allocations and literals of one element as such steps. No program in sight, no condition. Operations that make a block, as steps of a region that draws its order (XRel). No program in sight, no condition. What is made anew and by whom it may be changed; slices.Clone, walked. Lists of copies: each, walked. No condition. -/
import Derived.Test.YthmokhkkdgnbhaaGreatJqAI
import Derived.Deep.OwnRows
import Derived.Laws.CopyRow
import Derived.Laws.Tables
set_option maxRecDepth 8000
set_option maxHeartbeats 16000000
namespace Go.Proofs.YthmokhkkdgnbhaaGreat
open Go.RowKit
namespace Rel
section
variable {P : Program} {ops : Array Oper} {md : Region.Mode} {W0 : World} {R : Nat → Option (Value → World → Prop)}
/-- the head's operations in whatever order, f of them to come, then L -/
def head (P : Program) (md : Region.Mode) (ops : Array Oper) (W0 : World) (R : Nat → Option (Value → World → Prop)) (n : Nat) (L : Array Bool → Facts → Act → Prop) : Nat → Array Bool → Facts → Act → Prop
 | 0, done, Φ, a => L done Φ a
 | f + 1, done, Φ, a => Region.ready md ops done ≠ [] ∧ ∀ i ∈ Region.ready md ops done, i < n ∧ step P md ops W0 R Φ i (head P md ops W0 R n L f (done.setIfInBounds i true)) a
theorem any_of_head {n g : Nat} {L : Array Bool → Facts → Act → Prop} {Q' : Exit → Act → World → Prop} (hR : LastsR R) (hL : ∀ done Φ a w, Ext W0 w → (∀ k, Φ k w) → L done Φ a → wpAny P md ops Q' g done a w) :
 ∀ (f : Nat) (done : Array Bool) (Φ : Facts) (a : Act) (w : World), Lasts Φ → Ext W0 w → (∀ k, Φ k w) → head P md ops W0 R n L f done Φ a → wpAny P md ops Q' (f + g) done a w
 | 0, _, _, _, _, _, hw, hf, h => by rw [Nat.zero_add]; exact hL _ _ _ _ hw hf h
 | f + 1, _, _, _, _, hl, hw, hf, h => by
  rw [show f + 1 + g = (f + g) + 1 by omega]
  exact ⟨fun h0 => absurd h0 h.1, fun i hi => wp_of_step hR hl hw hf (fun Φ' a' w' hl' hw' hf' => any_of_head hR hL f _ Φ' a' w' hl' hw' hf') (h.2 i hi).2⟩
theorem head_first {n i : Nat} {oi : Oper} {L : Array Bool → Facts → Act → Prop} (hR : LastsR R) (hi : ops[i]? = some oi) (hsel : ∀ (j : Nat) (o : Oper) cs b, ops[j]? = some o → o.op ≠ .select cs b)
 (hs : Region.sinkB md ops n = true) (hc : Region.chainB md ops n = true) (hn : n < ops.size) (hin : i < n) (hdone : ∀ done Φ a, L done Φ a → ∀ j ∈ Region.ready md ops done, n ≤ j) :
 ∀ (f : Nat) (done : Array Bool) (Φ : Facts) (a : Act), HeadInv md ops n done → Lasts Φ → Sat W0 Φ →
  (∀ j oj, ops[j]? = some oj → j ≠ i → done.getD j true = false → (∀ e ∈ oj.after, Region.binds md e = true → e.on ≠ i) → oi.apart ops oj = true) →
  i ∈ Region.ready md ops done → step P md ops W0 R Φ i (head P md ops W0 R n L f (done.setIfInBounds i true)) a → head P md ops W0 R n L (f + 1) done Φ a := by
 intro f
 induction f with
 | zero =>
  intro done Φ a inv hl hS _ hr H
  have hun := (mem_ready.1 hr).1
  refine ⟨fun h => (by rw [h] at hr; cases hr), fun j hj => ?_⟩
  have hjn : j < n := Nat.lt_of_not_le fun h => absurd hj (tail_waits hs hc hn inv _ i rfl hin hun j h)
  refine ⟨hjn, ?_⟩
  by_cases hji : j = i
  ·subst hji; exact H
  ·have hm := ready_mono hj hji
   obtain ⟨o, V, F, _, hmd, hk⟩ := H
   obtain ⟨v, hv⟩ := hmd.some hl hS
   have := hdone _ _ _ (hk v hv) j hm; omega
 | succ f ih =>
  intro done Φ a inv hl hS hfree hr H
  have hun := (mem_ready.1 hr).1
  refine ⟨fun h => (by rw [h] at hr; cases hr), fun j hj => ?_⟩
  have hjn : j < n := Nat.lt_of_not_le fun h => absurd hj (tail_waits hs hc hn inv _ i rfl hin hun j h)
  refine ⟨hjn, ?_⟩
  by_cases hji : j = i
  ·subst hji; exact H
  ·obtain ⟨hjun, oj, hoj, hall⟩ := mem_ready.1 hj
   obtain ⟨hiun, oi', hoi', halli⟩ := mem_ready.1 hr
   obtain rfl : oi = oi' := Option.some.inj (hi.symm.trans hoi')
   have hnot : ∀ e ∈ oj.after, Region.binds md e = true → e.on ≠ i := fun e he hb heq => by
    have h1 := hall e he hb
    rw [heq, getD_both hiun] at h1; cases h1
   have wji : Region.waitsFor md ops j i = false := by
    rw [← Bool.not_eq_true]; intro hw
    obtain ⟨o, ho, e, he, hb, hon⟩ := Region.waitsFor_spec hw
    obtain rfl : oj = o := Option.some.inj (hoj.symm.trans ho)
    exact hnot e he hb hon
   have wij : Region.waitsFor md ops i j = false := by
    rw [← Bool.not_eq_true]; intro hw
    obtain ⟨o, ho, e, he, hb, hon⟩ := Region.waitsFor_spec hw
    obtain rfl : oi = o := Option.some.inj (hi.symm.trans ho)
    have h1 := halli e he hb
    rw [hon, getD_both hjun] at h1; cases h1
   have hfree' : ∀ k ok, ops[k]? = some ok → k ≠ i → (done.setIfInBounds j true).getD k true = false →
    (∀ e ∈ ok.after, Region.binds md e = true → e.on ≠ i) → oi.apart ops ok = true := fun k ok hk hki hun hno => by
    refine hfree k ok hk hki ?_ hno
    by_cases hjk : j = k
    ·subst hjk; exact hjun
    ·rw [getD_set_ne true hjk] at hun; exact hun
   have H2 : step P md ops W0 R Φ i (fun Φ1 a1 => step P md ops W0 R Φ1 j (head P md ops W0 R n L f ((done.setIfInBounds i true).setIfInBounds j true)) a1) a :=
    step_mono hR hl hS (fun Φ' a' _ _ h => (h.2 j (ready_mono hj hji)).2) H
   refine step_mono hR hl hS (fun Φ' a' hl' hs' h3 => ih (done.setIfInBounds j true) Φ' a' (inv.set hj hjn) hl' hs' hfree' (ready_mono hr (Ne.symm hji)) ?_)
    (swap hl hS hi hoj (hfree j oj hoj hji hjun hnot) (fun cs b => hsel i oi cs b hi) (fun cs b => hsel j oj cs b hoj) wji wij H2)
   rw [Array.setIfInBounds_comm _ _ hji]
   exact h3
theorem head_lex {n g : Nat} {Lq : Facts → Act → Prop} (hR : LastsR R) (hsel : Region.noSelect ops = true) (hs : Region.sinkB md ops n = true) (hc : Region.chainB md ops n = true) (hn : n < ops.size) (l : List Oper) :
 ∀ (k : Nat) (done : Array Bool) (Φ : Facts) (a : Act), (∀ j, j < l.length → l[j]? = ops[k + j]?) → k + l.length = n → HeadInv md ops n done → Lasts Φ → Sat W0 Φ →
 Region.lexHead md ops g l.length k done = true → walk P md ops W0 R Lq l k Φ a →
 head P md ops W0 R n (fun done' Φ' a' => Region.seqB md ops g n done' = true ∧ Lq Φ' a') l.length done Φ a := by
 induction l with
 | nil =>
  intro k done Φ a _ hk _ _ _ hB h
  obtain rfl : k = n := by simpa using hk
  exact ⟨by simpa [Region.lexHead] using hB, h⟩
 | cons o l ih =>
  intro k done Φ a hl hk inv hL hS hB h
  have h0 : ops[k]? = some o := by simpa using (hl 0 (by simp)).symm
  simp only [List.length_cons, Region.lexHead, Bool.and_eq_true] at hB
  obtain ⟨⟨hr, hf⟩, hB'⟩ := hB
  have hkn : k < n := by simp only [List.length_cons] at hk; omega
  have hr' : k ∈ Region.ready md ops done := by simpa using hr
  exact head_first hR h0 (Region.noSelect_spec hsel) hs hc hn hkn (fun _ _ _ hL => seqB_ready hL.1) l.length done Φ a inv hL hS (Region.free_spec h0 hf) hr'
   (step_mono hR hL hS (fun Φ' a' hL' hS' h' => ih (k + 1) _ Φ' a' (fun j hj => by have := hl (j + 1) (by simp; omega); simpa [Nat.add_assoc, Nat.add_comm 1 j] using this) (by simp only [List.length_cons] at hk; omega) (inv.set hr' hkn) hL' hS' hB' h') h)
/-- The region: the first n operations by relations, the others in order behind them. -/
theorem region_tail {id : Nat} {Q : Exit → Act → World → Prop} {a : Act} {w W : World} {l : List Oper} (n : Nat) (R : Nat → Option (Value → World → Prop)) (hR : LastsR R) (hm : P.follows .mixedOrders = true) (hB : Region.lexTailB .any l.toArray n = true) (hW : Ext W w)
 (h : walk P .any l.toArray W R (fun Φ a' => ∀ w' : World, Ext W w' → (∀ k, Φ k w') → wpList P l.toArray Q (l.drop n) a' w') (l.take n) 0 (fun _ _ => True) a) : (Code.region id l.toArray true).wp P Q a w := by
 simp only [Region.lexTailB, Bool.and_eq_true, decide_eq_true_eq] at hB
 obtain ⟨⟨⟨⟨hsel, hn⟩, hs⟩, hc⟩, hlex⟩ := hB
 have hn' : n < l.length := by simpa using hn
 have htl : (l.take n).length = n := by simp; omega
 have hdl : (l.drop n).length = l.toArray.size - n := by simp
 have inv0 : HeadInv .any l.toArray n (Array.replicate l.toArray.size false) :=
  ⟨by simp, fun j oj _ hl => (by rw [getD_replicate_false] at hl; cases hl), fun t _ ht => getD_in (by simpa using ht) (getD_replicate_false _ _)⟩
 have H := head_lex (P := P) (W0 := W) (md := .any) (g := l.toArray.size - n) hR hsel hs hc hn (l.take n) 0 _ (fun _ _ => True) a (fun j hj => by
  rw [htl] at hj; simp [hj]) (by simpa using htl) inv0 (fun _ _ _ _ _ => trivial) ⟨W, eR W, fun _ => trivial⟩ (by rw [htl]; exact hlex) h
 refine wp_region_any hm ?_
 have := any_of_head (Q' := Q) (g := l.toArray.size - n) hR (fun done Φ' a' w' hw' hf' hL => by
  have := wpAny_of_seq (md := .any) (Q' := Q) (l.drop n) n done a' w' (fun j => by simp [List.getElem?_drop]) (by rw [hdl]; exact hL.1) (hL.2 w' hw' hf')
  rwa [hdl] at this) _ _ _ _ _ (fun _ _ _ _ _ => trivial) hW.drew (fun _ => trivial) H
 rw [htl, show n + (l.toArray.size - n) = l.toArray.size by omega] at this
 exact this
/-- some operations that need no fact, within a part of the region -/
theorem chunkT' {Q : Facts → Act → Prop} : ∀ (m : Nat) {l : List Oper} {k : Nat} {Φ : Facts} {a : Act}, (∀ j, j < l.length → l[j]? = ops[k + j]?) → (List.range m).all (fun j => (R (k + j)).isNone) = true → (l.take m).all pureB = true →
 wpQuiet P ops (fun w' => ∃ x : Later W0, w' = x.val) (fun a' => walk P md ops W0 R Q (l.drop m) (k + m) Φ a') (l.take m) a → walk P md ops W0 R Q l k Φ a
 | 0, l, k, Φ, a, _, _, _, h => by simpa [wpQuiet] using h
 | m + 1, [], k, Φ, a, _, _, _, h => by simpa [wpQuiet, walk] using h
 | m + 1, o :: l, k, Φ, a, hl, hR, hp, h => by
  have h0 : ops[k]? = some o := by simpa using (hl 0 (by simp)).symm
  have hn : R k = none := by
   have := List.all_eq_true.1 hR 0 (List.mem_range.2 (by omega))
   simpa using this
  simp only [tkS, List.all_cons, Bool.and_eq_true] at hp
  have hl' : ∀ j, j < l.length → l[j]? = ops[k + 1 + j]? := fun j hj => by have := hl (j + 1) (by simp; omega); simpa [Nat.add_assoc, Nat.add_comm 1 j] using this
  have hR' : (List.range m).all (fun j => (R (k + 1 + j)).isNone) = true := List.all_eq_true.2 fun j hj => by
   have := List.all_eq_true.1 hR (j + 1) (List.mem_range.2 (by have := List.mem_range.1 hj; omega))
   rw [show k + 1 + j = k + (j + 1) by omega]; exact this
  have go : ∀ a', wpQuiet P ops (fun w' => ∃ x : Later W0, w' = x.val) (fun a' => walk P md ops W0 R Q ((o :: l).drop (m + 1)) (k + (m + 1)) Φ a') (l.take m) a' → walk P md ops W0 R Q l (k + 1) Φ a' := fun a' h' =>
   chunkT' m hl' hR' hp.2 (by rw [show k + 1 + m = k + (m + 1) by omega]; simpa using h')
  simp only [tkS, wpQuiet] at h
  by_cases hw : Region.wanted o (yielded ops a.tmps) = true
  ·rw [if_pos hw] at h
   obtain ⟨v0, hv, hk⟩ := h
   refine ⟨o, _, _, h0, .exact v0 hw hn hp.1 (fun w hc => ?_), fun v hv => ?_⟩
   ·have := hv w ⟨⟨w, hc.1⟩, rfl⟩
    have e : (fun w' => ∃ x : Later W0, w' = x.val) = Ext W0 := by
     funext w'; exact propext ⟨fun ⟨x, hx⟩ => by subst hx; exact x.ext, fun h => ⟨⟨w', h⟩, rfl⟩⟩
    rw [e] at this; exact this
   ·subst hv; rw [add_true]; exact go _ hk
  ·rw [if_neg hw] at h
   refine ⟨o, _, _, h0, .skip (by simpa using hw), fun v hv => ?_⟩
   subst hv; rw [add_true]; exact go _ h
theorem chunkT (m : Nat) {Q : Facts → Act → Prop} {l : List Oper} {k : Nat} {Φ : Facts} {a : Act} (hl : (ops.toList.drop k).take l.length = l) (hR : (List.range m).all (fun j => (R (k + j)).isNone) = true) (hp : (l.take m).all pureB = true)
 (h : wpQuiet P ops (fun w' => ∃ x : Later W0, w' = x.val) (fun a' => walk P md ops W0 R Q (l.drop m) (k + m) Φ a') (l.take m) a) : walk P md ops W0 R Q l k Φ a :=
 chunkT' m (fun j hj => by
  have h1 : ((ops.toList.drop k).take l.length)[j]? = l[j]? := by rw [hl]
  rw [List.getElem?_take, if_pos hj, List.getElem?_drop] at h1
  rw [← h1]; simp) hR hp h
end
end Rel
namespace Rel
section
variable {P : Program} {ops : Array Oper} {md : Region.Mode} {W0 : World} {R : Nat → Option (Value → World → Prop)}
theorem made {r : Value → World → Prop} {o : Oper} {a : Act} {w : World} {v : Value} {ob : Obj} (hrun : (execOp a.eval o).run P w = .ok (.value v) (w.alloc ob)) (h : r v (w.alloc ob)) : leaves P r o a w := by
 unfold leaves; rw [hrun]; exact ⟨(eR w).alloc _, h⟩
end
end Rel
theorem run_storeAt_cell {P : Program} (w : World) (ty : TypeId) (b o : Nat) (old v : Value) (hi : (P.info? ty).map (·.size) = some 1) (h1 : v.oneCell' = true) (hc : w.cell? ⟨b, o, none⟩ = some old) (hf : w.frozen? ⟨b, o, none⟩ = false) :
 (Instr.storeAt ty (.pointer (some ⟨b, o, none⟩)) v).run P w = .ok () (w.setCell ⟨b, o, none⟩ v) := by
 have e1 : v.cells = #[v] := by cases v <;> first | rfl | cases h1
 cases hq : P.info? ty with
 | none => simp [hq] at hi
 | some i =>
  have hs : i.size = 1 := by simpa [hq] using hi
  have hst := run_store P w ⟨b, o, none⟩ v .plain h1
  rw [hc] at hst
  simp only [hf] at hst
  have e0 : (⟨b, o, none⟩ : Addr).add 0 = ⟨b, o, none⟩ := by simp [Addr.add]
  simp [Instr.storeAt, Instr.sureAddr, storeVar, sizeOf, typeInfo, hq, e1, hs, storeCells, e0, hst]
/-- one cell stored: the world behind it is a letter -/
theorem wpList_store_cell {P : Program} {ops : Array Oper} {rest : List Oper} {o : Oper} {a : Act} {w : World} {Q : Exit → Act → World → Prop} (hgd : o.guard = none) (ty : TypeId) (x y : Operand) (ho : o.op = .store ty x y)
 (b k : Nat) (old v : Value) (hx : a.eval x = .pointer (some ⟨b, k, none⟩)) (hy : a.eval y = v) (hi : (P.info? ty).map (·.size) = some 1) (h1 : v.oneCell' = true) (hc : w.cell? ⟨b, k, none⟩ = some old) (hf : w.frozen? ⟨b, k, none⟩ = false)
 (h : ∀ w', w' = w.setCell ⟨b, k, none⟩ v → wpList P ops Q rest (a.put o.dst undef) w') : wpList P ops Q (o :: rest) a w :=
 wpList_plain hgd fun _ hK => by
  unfold Oper.wp execOp
  simp only [ho, hx, hy, Sem.run_bind, Result.andThen_ok, run_storeAt_cell w ty b k old v hi h1 hc hf]
  exact hK _ _ (h _ rfl)
/-- append to an empty literal: whatever comes lies in a new block, or nothing comes -/
theorem run_append_empty {P : Program} (w : World) (B : Nat) (t ty e : TypeId) (z : Value) (size bytes : Nat) (ht : P.underlying t = some (.slice e)) (hi : (P.info? e).map (fun i => (i.zero, i.size, i.bytes)) = some (some z, size, bytes))
 (hzs : z.cells.size = size) (hsz : 0 < size) (g : Nat) (hg : w.heap[g]? = some (.cells #[] e (0, 0))) (hB : B ≤ g) (y : Value) (m : Nat) (news : List Value) (hsrc : Src w y size m news)
 (h63 : m ≤ maxLen) (hbytes : m * bytes ≤ 140737488355328) :
 ∃ v' w', (Builtin.append_ #[t, t] ty #[.slice (some ⟨g, 0, none⟩) 0 0, y]).run P w = .ok v' w' ∧ w'.ownsRow B e size v' m news ∧ Ext w w' := by
 obtain ⟨i, hi', hz, hs1, hs2⟩ := info_parts hi
 clear hi
 have hi := hi'
 clear hi'
 have hlt := lt_of_block hg
 have ho : w.ownsRow B e size (.slice (some ⟨g, 0, none⟩) 0 0) 0 [] := ⟨by simp, .inr ⟨g, 0, #[], rfl, hB, hg, Nat.le_refl _, Nat.zero_le _, by simp, by simp⟩⟩
 obtain ⟨h1, h2, h3⟩ := hsrc
 rcases h3 with ⟨rfl, rfl⟩ | ⟨ad, c, rfl, h4⟩
 ·obtain rfl : news = [] := List.eq_nil_of_length_eq_zero (by simpa using h1)
  exact ⟨_, _, run_append_owned_none (P := P) (w := w) B t ty e i size ht hi _ 0 [] ho, ho, eR w⟩
 ·subst hs1 hs2
  rcases Nat.eq_zero_or_pos m with rfl | hm
  ·obtain rfl : news = [] := List.eq_nil_of_length_eq_zero (by simpa using h1)
   have hr := run_append_room (P := P) (w := w) t ty e i ht hi g 0 0 #[] hg ad 0 c [] (by simp) (fun j u hj => by simp at hj) (fun u hu => by simp at hu) (Nat.le_refl _) (by simp)
   have e2 := setRow_self w g #[] e (0, 0) hg
   exact ⟨.slice (some ⟨g, 0, none⟩) 0 0, w, by simpa [e2] using hr, ho, eR w⟩
  ·have hsmall : m ≤ 9223372036854775807 := by simp only [maxLen] at h63; omega
   obtain ⟨v', w', hr, k2, _, _⟩ := run_append_fresh (P := P) w B t ty e i z i.size i.bytes ht hi hz rfl rfl hzs hsz _ 0 [] ho ad m c news h1 h4 h2 (by simpa using h63) (by simpa using hbytes) (by omega)
   have hr2 := run_append_grow (P := P) (w := w) t ty e i z ht hi hz ⟨g, 0, none⟩ 0 0 [] (by simp) (fun j u hj => by simp at hj) ad m c news h1 h4 (by omega) (by omega) (growslice_fits (by omega) (by simpa using hbytes))
   rw [hr] at hr2
   simp only [Result.ok.injEq] at hr2
   refine ⟨v', w', hr, by simpa using k2, ?_⟩
   rw [hr2.2]
   exact ((eR w).drew).alloc _
theorem mod_setRow {w : World} {g : Nat} {cs : Array Value} : Mod (· = g) w (w.setRow g cs) :=
 ⟨rfl, rfl, rfl, by rw [size_setRow]; exact Nat.le_refl _, fun k _ hk => setRow_other w g k cs hk⟩
/-- a whole box stored: the world behind it is a letter -/
theorem wpList_store_box {P : Program} {ops : Array Oper} {rest : List Oper} {o : Oper} {a : Act} {w : World} {Q : Exit → Act → World → Prop} (hgd : o.guard = none) (ty : TypeId) (x y : Operand) (ho : o.op = .store ty x y)
 (g : Nat) (cells : Array Value) (hx : a.eval x = .pointer (some ⟨g, 0, none⟩)) (hy : a.eval y = .agg cells)
 (t : TypeId) (old : Array Value) (hg : w.heap[g]? = some (.cells old t (0, 0))) (hi : (P.info? ty).map (·.size) = some cells.size)
 (hold : old.size = cells.size) (h1 : cells.all (·.oneCell') = true)
 (h : ∀ w', Mod (· = g) w w' → w'.heap[g]? = some (.cells cells t (0, 0)) → wpList P ops Q rest (a.put o.dst undef) w') : wpList P ops Q (o :: rest) a w :=
 wpList_store_row hgd ty x y ho g cells hx hy t old hg hi hold h1 (h _ mod_setRow (setRow_heap w g old cells t (0, 0) hg))
/-- P holds whatever becomes of the blocks below B -/
def Own (B : Nat) (w : World) (P : World → Prop) : Prop := ∀ w', Mod (fun b => b < B) w w' → P w'
theorem Own.now {B : Nat} {w : World} {P : World → Prop} (h : Own B w P) : P w := h w (Mod.refl _ _)
theorem Own.ext {B : Nat} {w w1 : World} {P : World → Prop} (h : Own B w P) (hx : Ext w w1) : Own B w1 P := fun w2 hm => h w2 ((Mod.of_ext hx).trans hm)
theorem Own.imp {B : Nat} {w : World} {P Q : World → Prop} (h : Own B w P) (hi : ∀ w', P w' → Q w') : Own B w Q := fun w' hm => hi w' (h w' hm)
theorem Own.and {B : Nat} {w : World} {P Q : World → Prop} (h : Own B w P) (g : Own B w Q) : Own B w (fun w => P w ∧ Q w) := fun w' hm => ⟨h w' hm, g w' hm⟩
theorem Own.low {B C : Nat} {w : World} {P : World → Prop} (h : Own B w P) (hc : C ≤ B) : Own C w P := fun w' hm => h w' (hm.mono (fun _ _ hk => Nat.lt_of_lt_of_le hk hc))
theorem row_ge {w : World} {base : Nat} {e : TypeId} {size : Nat} {v : Value} {n : Nat} {xs : List Value} (h : w.ownsRow base e size v n xs) {k : Nat} (hk : v.ownBlock = some k) : base ≤ k := by
 rcases h.2 with ⟨rfl, _⟩ | ⟨g, cap, cur, rfl, hb, _⟩
 ·cases hk
 ·simp only [Value.ownBlock, Option.some.injEq] at hk; omega
theorem Own.of_row {B : Nat} {w : World} {e : TypeId} {sz : Nat} {v : Value} {n : Nat} {xs : List Value} (h : w.ownsRow B e sz v n xs) : Own B w (fun w => w.ownsRow B e sz v n xs) := fun w' hm =>
 own_mod h hm (fun k hk => by have := row_ge h hk; omega)
/-- P holds whatever becomes of the blocks outside lo .. hi -/
def Held (lo hi : Nat) (w : World) (P : World → Prop) : Prop := hi ≤ w.heap.size ∧ ∀ w', Mod (fun b => b < lo ∨ hi ≤ b) w w' → P w'
theorem Held.now {lo hi : Nat} {w : World} {P : World → Prop} (h : Held lo hi w P) : P w := h.2 w (Mod.refl _ _)
theorem Own.held {B : Nat} {w : World} {P : World → Prop} (h : Own B w P) : Held B w.heap.size w P := ⟨Nat.le_refl _, fun w' hm => h w' (hm.mono (fun k hk h => by rcases h with h | h <;> omega))⟩
theorem Held.mod {lo hi : Nat} {w w1 : World} {P : World → Prop} (h : Held lo hi w P) {S : Nat → Prop} (hm : Mod S w w1) (hs : ∀ k, S k → k < lo ∨ hi ≤ k) : Held lo hi w1 P :=
 ⟨Nat.le_trans h.1 hm.size, fun w2 h2 => h.2 w2 ((hm.mono (fun k _ hk => hs k hk)).trans h2)⟩
theorem Held.ext {lo hi : Nat} {w w1 : World} {P : World → Prop} (h : Held lo hi w P) (hx : Ext w w1) : Held lo hi w1 P := h.mod (S := fun _ => False) (Mod.of_ext hx) (fun _ h => h.elim)
/-- a call whose result is made anew -/
def NewP (W : World) (P : World → Value → Prop) (e : Ending) (w' : World) : Prop := ∃ v, e = .returned v ∧ Ext W w' ∧ Own W.heap.size w' (fun w => P w v)
/-- a call whose result is a new row -/
def RowP (W : World) (T : TypeId) (sz n : Nat) (xs : List Value) (e : Ending) (w' : World) : Prop := ∃ v, e = .returned v ∧ Ext W w' ∧ w'.ownsRow W.heap.size T sz v n xs
theorem wpList_append_empty {P : Program} {w : World} {ops : Array Oper} {rest : List Oper} {o : Oper} {a : Act} {Q : Exit → Act → World → Prop} (hgd : o.guard = none) (s x : Operand) (t : TypeId)
 (ho : o.op = .call { callee := .builtin .append, args := #[s, x], argTypes := #[t, t] })
 (B : Nat) (e : TypeId) (z : Value) (size bytes : Nat) (ht : P.underlying t = some (.slice e)) (hi : (P.info? e).map (fun i => (i.zero, i.size, i.bytes)) = some (some z, size, bytes))
 (hzs : z.cells.size = size) (hsz : 0 < size) (g : Nat) (hs : a.eval s = .slice (some ⟨g, 0, none⟩) 0 0) (hg : w.heap[g]? = some (.cells #[] e (0, 0))) (hB : B ≤ g)
 (y : Value) (m : Nat) (news : List Value) (hx : a.eval x = y) (hsrc : Src w y size m news) (h63 : m ≤ maxLen) (hbytes : m * bytes ≤ 140737488355328)
 (h : ∀ v' w', w'.ownsRow B e size v' m news → Ext w w' → wpList P ops Q rest (a.put o.dst v') w') : wpList P ops Q (o :: rest) a w := by
 obtain ⟨v', w', hr, k2, k3⟩ := run_append_empty (P := P) w B t o.type e z size bytes ht hi hzs hsz g hg hB y m news hsrc h63 hbytes
 refine wpList_plain hgd fun _ hK => ?_
 unfold Oper.wp execOp
 simp only [ho, resolve, invoke, builtin, Sem.run_bind, Sem.run_pure, Result.andThen_ok, List.map_toArray, List.map_cons, List.map_nil, hs, hx, hr]
 exact hK _ _ (h v' w' k2 k3)
theorem flat_one {α : Type} {f : α → List Value} {sz : Nat} (hf : ∀ a, (f a).length = sz) : ∀ {l : List α} {i j : Nat} {a : α} {u : Value}, l[i]? = some a → (f a)[j]? = some u → (l.flatMap f)[i * sz + j]? = some u
 | [], _, _, _, _, h, _ => by simp at h
 | b :: l, 0, j, a, u, h, hu => by
  simp only [List.getElem?_cons_zero, Option.some.injEq] at h
  subst h
  rw [List.flatMap_cons, Nat.zero_mul, Nat.zero_add, List.getElem?_append_left (List.getElem?_eq_some_iff.1 hu).1]; exact hu
 | b :: l, i + 1, j, a, u, h, hu => by
  simp only [List.getElem?_cons_succ] at h
  have := flat_one hf h hu
  rw [List.flatMap_cons, List.getElem?_append_right (by rw [hf, Nat.succ_mul]; omega), hf, show (i + 1) * sz + j - sz = i * sz + j by rw [Nat.succ_mul]; omega]
  exact this
theorem flat_mem {α : Type} {f : α → List Value} {l : List α} {u : Value} (h : u ∈ l.flatMap f) : ∃ a ∈ l, u ∈ f a := List.mem_flatMap.1 h
theorem flat_inv {α : Type} {f : α → List Value} {sz : Nat} (hs : 0 < sz) (hf : ∀ a, (f a).length = sz) {l : List α} {j : Nat} {u : Value} (h : (l.flatMap f)[j]? = some u) : ∃ a, l[j / sz]? = some a ∧ (f a)[j % sz]? = some u := by
 have hl : (l.flatMap f).length = l.length * sz := by
  clear h
  induction l with
  | nil => simp
  | cons a l ih => rw [List.flatMap_cons, List.length_append, ih, hf, List.length_cons, Nat.succ_mul]; omega
 have hj := (List.getElem?_eq_some_iff.1 h).1
 rw [hl] at hj
 have hq : j / sz < l.length := (Nat.div_lt_iff_lt_mul hs).2 hj
 have hr : j % sz < sz := Nat.mod_lt _ hs
 obtain ⟨a, ha⟩ : ∃ a, l[j / sz]? = some a := ⟨_, gE hq⟩
 obtain ⟨u', hu⟩ : ∃ u', (f a)[j % sz]? = some u' := ⟨_, gE (by rw [hf]; exact hr)⟩
 have h2 := flat_one hf ha hu
 rw [Nat.div_add_mod' j sz, h] at h2
 exact ⟨a, ha, by rw [hu, h2]⟩
/-- a slice of flat things, as a source -/
theorem rows_src {α : Type} {w : World} {sz : Nat} {R : World → List Value → α → Prop} {v : Value} {ds : List α} (f : α → List Value) (hs : 0 < sz) (hf : ∀ a, (f a).length = sz) (h1 : ∀ a, ∀ u ∈ f a, u.oneCell' = true) (hR : ∀ cs d, R w cs d → cs = f d) (h : Rows w sz R v ds) : Src w v sz ds.length (ds.flatMap f) := by
 have hl : (ds.flatMap f).length = ds.length * sz := by
  clear h
  induction ds with
  | nil => simp
  | cons a l ih => rw [List.flatMap_cons, List.length_append, ih, hf, List.length_cons, Nat.succ_mul]; omega
 refine ⟨hl, fun u hu => by obtain ⟨a, _, ha⟩ := flat_mem hu; exact h1 a u ha, ?_⟩
 rcases h with ⟨rfl, rfl⟩ | ⟨ad, c, rfl, _, _, h5, h4⟩
 ·exact .inl ⟨rfl, rfl⟩
 ·refine .inr ⟨ad, c, rfl, fun j u hj => ?_⟩
  obtain ⟨a, ha, hu⟩ := flat_inv hs hf hj
  obtain ⟨cs, _, k2, k3⟩ := h4 _ a ha
  have k4 := hR cs a k2
  subst k4
  have k5 := k3 _ u hu
  have hne : ds ≠ [] := by intro h0; subst h0; simp at ha
  rw [h5 hne, add_mk]
  rw [Nat.add_assoc, Nat.div_add_mod' j sz] at k5; exact k5
/-- a row of one's own, read as a slice of flat things -/
theorem rows_flat {α : Type} {W : World} {B : Nat} {e : TypeId} {sz : Nat} {R : World → List Value → α → Prop} {f : α → List Value} {v : Value} {l : List α} (hf : ∀ a, (f a).length = sz) (hR : ∀ a ∈ l, R W (f a) a) (h : W.ownsRow B e sz v l.length (l.flatMap f)) : Rows W sz R v l := by
 have h0 := h
 obtain ⟨h1, h2⟩ := h
 rcases h2 with ⟨rfl, h2⟩ | ⟨g, cap, cur, rfl, _, hg, hc, hm, hs, ht⟩
 ·exact .inl ⟨rfl, List.eq_nil_of_length_eq_zero h2⟩
 ·refine .inr ⟨⟨g, 0, none⟩, cap, rfl, hc, hm, fun _ => rfl, fun i d hi => ⟨f d, hf d, hR d (List.mem_of_getElem? hi), fun j u hj => ?_⟩⟩
  have h4 := h0.cells (g := g) rfl _ _ (flat_one hf hi hj)
  rw [add_mk] at h4
  rw [Nat.add_assoc]; exact h4
theorem cinf_fld : (Tryz.prog.info? 94).map (fun i => (i.zero, i.size, i.bytes)) = some (some (.agg #[.string ⟨#[]⟩, .int .i64 0]), 2, 24) := by kernel_rfl
theorem clone_fld {W : World} {v : Value} {n : Nat} {xs : List Value} (h : Src W v 2 n xs) (hn : n ≤ 1073741824) : Calls Tryz.prog 47 #[v] W (RowP W 94 2 n xs) := by
 obtain ⟨h1, h2, h3⟩ := h
 rcases h3 with ⟨rfl, rfl⟩ | ⟨ad, c, rfl, h4⟩
 ·obtain rfl : xs = [] := List.eq_nil_of_length_eq_zero (by simpa using h1)
  have e1 : ∀ w, (binOp .eql 23 (.slice none 0 0) (.slice none 0 0)).run Tryz.prog w = .ok (.bool true) w := fun _ => rfl
  go_enter Tryz.func47, Tryz.ntmps47
  go_wp2_with fail
  go_ret
  exact ⟨_, rfl, eR _, World.ownsRow_nil _ _ _ _⟩
 ·have hsrc : Src W (.slice (some ad) n c) 2 n xs := ⟨h1, h2, .inr ⟨ad, c, rfl, h4⟩⟩
  clear h1 h2 h4
  have e1 : ∀ w, (binOp .eql 23 (.slice (some ad) n c) (.slice none 0 0)).run Tryz.prog w = .ok (.bool false) w := fun _ => rfl
  go_enter Tryz.func47, Tryz.ntmps47
  go_wp2_with (at_builtin; refine wpList_append_empty rfl (.tmp 5) (.tmp 6) 23 rfl W.heap.size 94 (.agg #[.string ⟨#[]⟩, .int .i64 0]) 2 24 Tryz.underlying23 cinf_fld (by rfl) (by decide) W.heap.size rfl (heap_alloc_new W _) (Nat.le_refl _) (.slice (some ad) n c) n xs rfl (hsrc.ext grows) (by unfold maxLen; omega) (by omega) ?_)
  intro v2 w2 ho2 x2
  have s2 := Sm x2
  go_wp2_with fail
  go_ret
  exact ⟨_, rfl, grows, ho2⟩
theorem cinf_reg : (Tryz.prog.info? 98).map (fun i => (i.zero, i.size, i.bytes)) = some (some (.agg #[.string ⟨#[]⟩, .int .i64 0, .int .i64 0]), 3, 32) := by kernel_rfl
theorem clone_reg {W : World} {v : Value} {n : Nat} {xs : List Value} (h : Src W v 3 n xs) (hn : n ≤ 1073741824) : Calls Tryz.prog 48 #[v] W (RowP W 98 3 n xs) := by
 obtain ⟨h1, h2, h3⟩ := h
 rcases h3 with ⟨rfl, rfl⟩ | ⟨ad, c, rfl, h4⟩
 ·obtain rfl : xs = [] := List.eq_nil_of_length_eq_zero (by simpa using h1)
  have e1 : ∀ w, (binOp .eql 24 (.slice none 0 0) (.slice none 0 0)).run Tryz.prog w = .ok (.bool true) w := fun _ => rfl
  go_enter Tryz.func48, Tryz.ntmps48
  go_wp2_with fail
  go_ret
  exact ⟨_, rfl, eR _, World.ownsRow_nil _ _ _ _⟩
 ·have hsrc : Src W (.slice (some ad) n c) 3 n xs := ⟨h1, h2, .inr ⟨ad, c, rfl, h4⟩⟩
  clear h1 h2 h4
  have e1 : ∀ w, (binOp .eql 24 (.slice (some ad) n c) (.slice none 0 0)).run Tryz.prog w = .ok (.bool false) w := fun _ => rfl
  go_enter Tryz.func48, Tryz.ntmps48
  go_wp2_with (at_builtin; refine wpList_append_empty rfl (.tmp 5) (.tmp 6) 24 rfl W.heap.size 98 (.agg #[.string ⟨#[]⟩, .int .i64 0, .int .i64 0]) 3 32 Tryz.underlying24 cinf_reg (by rfl) (by decide) W.heap.size rfl (heap_alloc_new W _) (Nat.le_refl _) (.slice (some ad) n c) n xs rfl (hsrc.ext grows) (by unfold maxLen; omega) (by omega) ?_)
  intro v2 w2 ho2 x2
  have s2 := Sm x2
  go_wp2_with fail
  go_ret
  exact ⟨_, rfl, grows, ho2⟩
theorem cinf_tky : (Tryz.prog.info? 186).map (fun i => (i.zero, i.size, i.bytes)) = some (some (.agg #[.int .i64 0, .int .i64 0, .int .i64 0]), 3, 24) := by kernel_rfl
theorem clone_tky {W : World} {v : Value} {n : Nat} {xs : List Value} (h : Src W v 3 n xs) (hn : n ≤ 1073741824) : Calls Tryz.prog 100 #[v] W (RowP W 186 3 n xs) := by
 obtain ⟨h1, h2, h3⟩ := h
 rcases h3 with ⟨rfl, rfl⟩ | ⟨ad, c, rfl, h4⟩
 ·obtain rfl : xs = [] := List.eq_nil_of_length_eq_zero (by simpa using h1)
  have e1 : ∀ w, (binOp .eql 106 (.slice none 0 0) (.slice none 0 0)).run Tryz.prog w = .ok (.bool true) w := fun _ => rfl
  go_enter Tryz.func100, Tryz.ntmps100
  go_wp2_with fail
  go_ret
  exact ⟨_, rfl, eR _, World.ownsRow_nil _ _ _ _⟩
 ·have hsrc : Src W (.slice (some ad) n c) 3 n xs := ⟨h1, h2, .inr ⟨ad, c, rfl, h4⟩⟩
  clear h1 h2 h4
  have e1 : ∀ w, (binOp .eql 106 (.slice (some ad) n c) (.slice none 0 0)).run Tryz.prog w = .ok (.bool false) w := fun _ => rfl
  go_enter Tryz.func100, Tryz.ntmps100
  go_wp2_with (at_builtin; refine wpList_append_empty rfl (.tmp 5) (.tmp 6) 106 rfl W.heap.size 186 (.agg #[.int .i64 0, .int .i64 0, .int .i64 0]) 3 24 Tryz.underlying106 cinf_tky (by rfl) (by decide) W.heap.size rfl (heap_alloc_new W _) (Nat.le_refl _) (.slice (some ad) n c) n xs rfl (hsrc.ext grows) (by unfold maxLen; omega) (by omega) ?_)
  intro v2 w2 ho2 x2
  have s2 := Sm x2
  go_wp2_with fail
  go_ret
  exact ⟨_, rfl, grows, ho2⟩
theorem cinf_int : (Tryz.prog.info? 3).map (fun i => (i.zero, i.size, i.bytes)) = some (some (.int .i64 0), 1, 8) := by kernel_rfl
theorem clone_int {W : World} {v : Value} {n : Nat} {xs : List Value} (h : Src W v 1 n xs) (hn : n ≤ 1073741824) : Calls Tryz.prog 57 #[v] W (RowP W 3 1 n xs) := by
 obtain ⟨h1, h2, h3⟩ := h
 rcases h3 with ⟨rfl, rfl⟩ | ⟨ad, c, rfl, h4⟩
 ·obtain rfl : xs = [] := List.eq_nil_of_length_eq_zero (by simpa using h1)
  have e1 : ∀ w, (binOp .eql 29 (.slice none 0 0) (.slice none 0 0)).run Tryz.prog w = .ok (.bool true) w := fun _ => rfl
  go_enter Tryz.func57, Tryz.ntmps57
  go_wp2_with fail
  go_ret
  exact ⟨_, rfl, eR _, World.ownsRow_nil _ _ _ _⟩
 ·have hsrc : Src W (.slice (some ad) n c) 1 n xs := ⟨h1, h2, .inr ⟨ad, c, rfl, h4⟩⟩
  clear h1 h2 h4
  have e1 : ∀ w, (binOp .eql 29 (.slice (some ad) n c) (.slice none 0 0)).run Tryz.prog w = .ok (.bool false) w := fun _ => rfl
  go_enter Tryz.func57, Tryz.ntmps57
  go_wp2_with (at_builtin; refine wpList_append_empty rfl (.tmp 5) (.tmp 6) 29 rfl W.heap.size 3 (.int .i64 0) 1 8 Tryz.underlying29 cinf_int (by rfl) (by decide) W.heap.size rfl (heap_alloc_new W _) (Nat.le_refl _) (.slice (some ad) n c) n xs rfl (hsrc.ext grows) (by unfold maxLen; omega) (by omega) ?_)
  intro v2 w2 ho2 x2
  have s2 := Sm x2
  go_wp2_with fail
  go_ret
  exact ⟨_, rfl, grows, ho2⟩
theorem cinf_byt : (Tryz.prog.info? 5).map (fun i => (i.zero, i.size, i.bytes)) = some (some (.int .u8 0), 1, 1) := by kernel_rfl
theorem clone_byt {W : World} {v : Value} {n : Nat} {xs : List Value} (h : Src W v 1 n xs) (hn : n ≤ 1073741824) : Calls Tryz.prog 71 #[v] W (RowP W 5 1 n xs) := by
 obtain ⟨h1, h2, h3⟩ := h
 rcases h3 with ⟨rfl, rfl⟩ | ⟨ad, c, rfl, h4⟩
 ·obtain rfl : xs = [] := List.eq_nil_of_length_eq_zero (by simpa using h1)
  have e1 : ∀ w, (binOp .eql 48 (.slice none 0 0) (.slice none 0 0)).run Tryz.prog w = .ok (.bool true) w := fun _ => rfl
  go_enter Tryz.func71, Tryz.ntmps71
  go_wp2_with fail
  go_ret
  exact ⟨_, rfl, eR _, World.ownsRow_nil _ _ _ _⟩
 ·have hsrc : Src W (.slice (some ad) n c) 1 n xs := ⟨h1, h2, .inr ⟨ad, c, rfl, h4⟩⟩
  clear h1 h2 h4
  have e1 : ∀ w, (binOp .eql 48 (.slice (some ad) n c) (.slice none 0 0)).run Tryz.prog w = .ok (.bool false) w := fun _ => rfl
  go_enter Tryz.func71, Tryz.ntmps71
  go_wp2_with (at_builtin; refine wpList_append_empty rfl (.tmp 5) (.tmp 6) 48 rfl W.heap.size 5 (.int .u8 0) 1 1 Tryz.underlying48 cinf_byt (by rfl) (by decide) W.heap.size rfl (heap_alloc_new W _) (Nat.le_refl _) (.slice (some ad) n c) n xs rfl (hsrc.ext grows) (by unfold maxLen; omega) (by omega) ?_)
  intro v2 w2 ho2 x2
  have s2 := Sm x2
  go_wp2_with fail
  go_ret
  exact ⟨_, rfl, grows, ho2⟩
theorem cinf_u32 : (Tryz.prog.info? 118).map (fun i => (i.zero, i.size, i.bytes)) = some (some (.int .u32 0), 1, 4) := by kernel_rfl
theorem clone_u32 {W : World} {v : Value} {n : Nat} {xs : List Value} (h : Src W v 1 n xs) (hn : n ≤ 1073741824) : Calls Tryz.prog 101 #[v] W (RowP W 118 1 n xs) := by
 obtain ⟨h1, h2, h3⟩ := h
 rcases h3 with ⟨rfl, rfl⟩ | ⟨ad, c, rfl, h4⟩
 ·obtain rfl : xs = [] := List.eq_nil_of_length_eq_zero (by simpa using h1)
  have e1 : ∀ w, (binOp .eql 61 (.slice none 0 0) (.slice none 0 0)).run Tryz.prog w = .ok (.bool true) w := fun _ => rfl
  go_enter Tryz.func101, Tryz.ntmps101
  go_wp2_with fail
  go_ret
  exact ⟨_, rfl, eR _, World.ownsRow_nil _ _ _ _⟩
 ·have hsrc : Src W (.slice (some ad) n c) 1 n xs := ⟨h1, h2, .inr ⟨ad, c, rfl, h4⟩⟩
  clear h1 h2 h4
  have e1 : ∀ w, (binOp .eql 61 (.slice (some ad) n c) (.slice none 0 0)).run Tryz.prog w = .ok (.bool false) w := fun _ => rfl
  go_enter Tryz.func101, Tryz.ntmps101
  go_wp2_with (at_builtin; refine wpList_append_empty rfl (.tmp 5) (.tmp 6) 61 rfl W.heap.size 118 (.int .u32 0) 1 4 Tryz.underlying61 cinf_u32 (by rfl) (by decide) W.heap.size rfl (heap_alloc_new W _) (Nat.le_refl _) (.slice (some ad) n c) n xs rfl (hsrc.ext grows) (by unfold maxLen; omega) (by omega) ?_)
  intro v2 w2 ho2 x2
  have s2 := Sm x2
  go_wp2_with fail
  go_ret
  exact ⟨_, rfl, grows, ho2⟩
theorem cinf_sel : (Tryz.prog.info? 190).map (fun i => (i.zero, i.size, i.bytes)) = some (some (.agg #[.int .u32 0, .int .u32 0, .int .i64 0]), 3, 16) := by kernel_rfl
theorem clone_sel {W : World} {v : Value} {n : Nat} {xs : List Value} (h : Src W v 3 n xs) (hn : n ≤ 1073741824) : Calls Tryz.prog 102 #[v] W (RowP W 190 3 n xs) := by
 obtain ⟨h1, h2, h3⟩ := h
 rcases h3 with ⟨rfl, rfl⟩ | ⟨ad, c, rfl, h4⟩
 ·obtain rfl : xs = [] := List.eq_nil_of_length_eq_zero (by simpa using h1)
  have e1 : ∀ w, (binOp .eql 109 (.slice none 0 0) (.slice none 0 0)).run Tryz.prog w = .ok (.bool true) w := fun _ => rfl
  go_enter Tryz.func102, Tryz.ntmps102
  go_wp2_with fail
  go_ret
  exact ⟨_, rfl, eR _, World.ownsRow_nil _ _ _ _⟩
 ·have hsrc : Src W (.slice (some ad) n c) 3 n xs := ⟨h1, h2, .inr ⟨ad, c, rfl, h4⟩⟩
  clear h1 h2 h4
  have e1 : ∀ w, (binOp .eql 109 (.slice (some ad) n c) (.slice none 0 0)).run Tryz.prog w = .ok (.bool false) w := fun _ => rfl
  go_enter Tryz.func102, Tryz.ntmps102
  go_wp2_with (at_builtin; refine wpList_append_empty rfl (.tmp 5) (.tmp 6) 109 rfl W.heap.size 190 (.agg #[.int .u32 0, .int .u32 0, .int .i64 0]) 3 16 Tryz.underlying109 cinf_sel (by rfl) (by decide) W.heap.size rfl (heap_alloc_new W _) (Nat.le_refl _) (.slice (some ad) n c) n xs rfl (hsrc.ext grows) (by unfold maxLen; omega) (by omega) ?_)
  intro v2 w2 ho2 x2
  have s2 := Sm x2
  go_wp2_with fail
  go_ret
  exact ⟨_, rfl, grows, ho2⟩
theorem cinf_exn : (Tryz.prog.info? 100).map (fun i => (i.zero, i.size, i.bytes)) = some (some (.agg #[.int .i64 0, .int .i64 0, .int .i64 0]), 3, 24) := by kernel_rfl
theorem clone_exn {W : World} {v : Value} {n : Nat} {xs : List Value} (h : Src W v 3 n xs) (hn : n ≤ 1073741824) : Calls Tryz.prog 103 #[v] W (RowP W 100 3 n xs) := by
 obtain ⟨h1, h2, h3⟩ := h
 rcases h3 with ⟨rfl, rfl⟩ | ⟨ad, c, rfl, h4⟩
 ·obtain rfl : xs = [] := List.eq_nil_of_length_eq_zero (by simpa using h1)
  have e1 : ∀ w, (binOp .eql 101 (.slice none 0 0) (.slice none 0 0)).run Tryz.prog w = .ok (.bool true) w := fun _ => rfl
  go_enter Tryz.func103, Tryz.ntmps103
  go_wp2_with fail
  go_ret
  exact ⟨_, rfl, eR _, World.ownsRow_nil _ _ _ _⟩
 ·have hsrc : Src W (.slice (some ad) n c) 3 n xs := ⟨h1, h2, .inr ⟨ad, c, rfl, h4⟩⟩
  clear h1 h2 h4
  have e1 : ∀ w, (binOp .eql 101 (.slice (some ad) n c) (.slice none 0 0)).run Tryz.prog w = .ok (.bool false) w := fun _ => rfl
  go_enter Tryz.func103, Tryz.ntmps103
  go_wp2_with (at_builtin; refine wpList_append_empty rfl (.tmp 5) (.tmp 6) 101 rfl W.heap.size 100 (.agg #[.int .i64 0, .int .i64 0, .int .i64 0]) 3 24 Tryz.underlying101 cinf_exn (by rfl) (by decide) W.heap.size rfl (heap_alloc_new W _) (Nat.le_refl _) (.slice (some ad) n c) n xs rfl (hsrc.ext grows) (by unfold maxLen; omega) (by omega) ?_)
  intro v2 w2 ho2 x2
  have s2 := Sm x2
  go_wp2_with fail
  go_ret
  exact ⟨_, rfl, grows, ho2⟩
theorem cinf_kmt : (Tryz.prog.info? 209).map (fun i => (i.zero, i.size, i.bytes)) = some (some (.agg #[.int .u32 0, .int .u32 0]), 2, 8) := by kernel_rfl
theorem clone_kmt {W : World} {v : Value} {n : Nat} {xs : List Value} (h : Src W v 2 n xs) (hn : n ≤ 1073741824) : Calls Tryz.prog 176 #[v] W (RowP W 209 2 n xs) := by
 obtain ⟨h1, h2, h3⟩ := h
 rcases h3 with ⟨rfl, rfl⟩ | ⟨ad, c, rfl, h4⟩
 ·obtain rfl : xs = [] := List.eq_nil_of_length_eq_zero (by simpa using h1)
  have e1 : ∀ w, (binOp .eql 60 (.slice none 0 0) (.slice none 0 0)).run Tryz.prog w = .ok (.bool true) w := fun _ => rfl
  go_enter Tryz.func176, Tryz.ntmps176
  go_wp2_with fail
  go_ret
  exact ⟨_, rfl, eR _, World.ownsRow_nil _ _ _ _⟩
 ·have hsrc : Src W (.slice (some ad) n c) 2 n xs := ⟨h1, h2, .inr ⟨ad, c, rfl, h4⟩⟩
  clear h1 h2 h4
  have e1 : ∀ w, (binOp .eql 60 (.slice (some ad) n c) (.slice none 0 0)).run Tryz.prog w = .ok (.bool false) w := fun _ => rfl
  go_enter Tryz.func176, Tryz.ntmps176
  go_wp2_with (at_builtin; refine wpList_append_empty rfl (.tmp 5) (.tmp 6) 60 rfl W.heap.size 209 (.agg #[.int .u32 0, .int .u32 0]) 2 8 Tryz.underlying60 cinf_kmt (by rfl) (by decide) W.heap.size rfl (heap_alloc_new W _) (Nat.le_refl _) (.slice (some ad) n c) n xs rfl (hsrc.ext grows) (by unfold maxLen; omega) (by omega) ?_)
  intro v2 w2 ho2 x2
  have s2 := Sm x2
  go_wp2_with fail
  go_ret
  exact ⟨_, rfl, grows, ho2⟩
theorem flatten_one {sz : Nat} : ∀ {xss : List (List Value)} {i j : Nat} {cs : List Value} {u : Value}, (∀ x ∈ xss, x.length = sz) → xss[i]? = some cs → cs[j]? = some u → xss.flatten[i * sz + j]? = some u
 | [], _, _, _, _, _, h, _ => by simp at h
 | x :: l, 0, j, cs, u, hs, h, hu => by
  simp only [List.getElem?_cons_zero, Option.some.injEq] at h
  subst h
  rw [List.flatten_cons, Nat.zero_mul, Nat.zero_add, List.getElem?_append_left (List.getElem?_eq_some_iff.1 hu).1]; exact hu
 | x :: l, i + 1, j, cs, u, hs, h, hu => by
  simp only [List.getElem?_cons_succ] at h
  have := flatten_one (fun y hy => hs y (List.mem_cons_of_mem _ hy)) h hu
  have hx := hs x List.mem_cons_self
  rw [List.flatten_cons, List.getElem?_append_right (by rw [hx, Nat.succ_mul]; omega), hx, show (i + 1) * sz + j - sz = i * sz + j by rw [Nat.succ_mul]; omega]
  exact this
theorem row_lt {w : World} {base : Nat} {e : TypeId} {size : Nat} {v : Value} {n : Nat} {xs : List Value} (h : w.ownsRow base e size v n xs) {k : Nat} (hk : v.ownBlock = some k) : k < w.heap.size := (h.lt k hk).2
/-- the first k copies, and the list o that holds them -/
def EachI {α : Type} (W : World) (T : TypeId) (sz : Nat) (R : World → List Value → α → Prop) (ds : List α) (k : Nat) (o : Value) (xss : List (List Value)) (w : World) : Prop :=
 Ext W w ∧ xss.length = k ∧ (∀ x ∈ xss, x.length = sz) ∧ (∀ x ∈ xss, ∀ u ∈ x, u.oneCell' = true) ∧ w.ownsRow W.heap.size T sz o k xss.flatten ∧
  ∀ w', Mod (fun b => b < W.heap.size ∨ o.ownBlock = some b) w w' → ∀ (i : Nat) (d : α) (cs : List Value), ds[i]? = some d → xss[i]? = some cs → R w' cs d
theorem EachI.start {α : Type} (W : World) (T : TypeId) (sz : Nat) (R : World → List Value → α → Prop) (ds : List α) : EachI W T sz R ds 0 (.slice none 0 0) [] W :=
 ⟨eR _, rfl, by simp, by simp, World.ownsRow_nil _ _ _ _, fun _ _ i d cs _ h => by simp at h⟩
theorem EachI.step {α : Type} {W : World} {T : TypeId} {sz : Nat} {R : World → List Value → α → Prop} {ds : List α} {k : Nat} {o o' : Value} {xss : List (List Value)} {w w1 w2 w3 : World} {d : α} {cs : List Value}
 (h : EachI W T sz R ds k o xss w) (hd : ds[k]? = some d) (h1 : Ext w w1) (hR : Own w.heap.size w1 (fun w => R w cs d)) (hl : cs.length = sz) (hc : ∀ u ∈ cs, u.oneCell' = true) (h2 : Ext w1 w2) (hg : w2.grownBy w3 o.ownBlock)
 (ho : w3.ownsRow W.heap.size T sz o' (k + 1) (xss.flatten ++ cs)) (hf : o'.ownBlock = o.ownBlock ∨ ∀ q, o'.ownBlock = some q → w2.heap.size ≤ q) : EachI W T sz R ds (k + 1) o' (xss ++ [cs]) w3 := by
 obtain ⟨g1, g2, g3, g4, g5, g6⟩ := h
 have le1 := h1.le
 have le2 := h2.le
 have hm := grown_mod hg
 refine ⟨(g1.trans (h1.trans h2)).mod hm (fun q hq => row_ge g5 hq.symm), by simp [g2], ?_, ?_, by simpa using ho, fun w' hw i e ys he hy => ?_⟩
 ·intro x hx
  rcases List.mem_append.1 hx with hx | hx
  ·exact g3 x hx
  ·simp at hx; subst hx; exact hl
 ·intro x hx
  rcases List.mem_append.1 hx with hx | hx
  ·exact g4 x hx
  ·simp at hx; subst hx; exact hc
 ·rcases Nat.lt_or_ge i k with hi | hi
  ·rw [List.getElem?_append_left (by omega)] at hy
   refine g6 w' ?_ i e ys he hy
   have m1 : Mod (fun b => (b < W.heap.size ∨ o.ownBlock = some b) ∨ w.heap.size ≤ b) w w' := by
    refine (Mod.of_ext (h1.trans h2)).trans ((hm.mono (fun q _ hq => .inl (.inr hq.symm))).trans (hw.mono (fun q _ hq => ?_)))
    rcases hq with hq | hq
    ·exact .inl (.inl hq)
    ·rcases hf with hf | hf
     ·rw [hf] at hq; exact .inl (.inr hq)
     ·have := hf q hq; exact .inr (by omega)
   exact m1.mono (fun q hq hs => by rcases hs with hs | hs; exact hs; omega)
  ·have hil : i < (xss ++ [cs]).length := (List.getElem?_eq_some_iff.1 hy).1
   simp [g2] at hil
   obtain rfl : i = k := by omega
   rw [List.getElem?_append_right (by omega)] at hy
   simp [g2] at hy
   subst hy
   rw [hd] at he
   simp only [Option.some.injEq] at he
   subst he
   refine hR w' ?_
   have m1 : Mod (fun b => b < w.heap.size ∨ w1.heap.size ≤ b) w1 w' := by
    refine (Mod.of_ext h2).trans ((hm.mono (fun q _ hq => .inl (row_lt g5 hq.symm))).trans (hw.mono (fun q _ hq => ?_)))
    rcases hq with hq | hq
    ·exact .inl (by have := g1.le; omega)
    ·rcases hf with hf | hf
     ·rw [hf] at hq; exact .inl (row_lt g5 hq)
     ·have := hf q hq; exact .inr (by omega)
   exact m1.mono (fun q hq hs => by rcases hs with hs | hs; exact hs; omega)
theorem EachI.done {α : Type} {W : World} {T : TypeId} {sz : Nat} {R : World → List Value → α → Prop} {ds : List α} {k : Nat} {o : Value} {xss : List (List Value)} {w : World} (h : EachI W T sz R ds k o xss w) (hk : k = ds.length) : Own W.heap.size w (fun w => Rows w sz R o ds) := by
 subst hk
 obtain ⟨g1, g2, g3, g4, g5, g6⟩ := h
 intro w' hm
 have h0 := own_mod g5 hm (fun k hk => by have := row_ge g5 hk; omega)
 have g7 := g6 w' (hm.mono (fun _ _ h => .inl h))
 clear g5 g6
 have h9 := h0
 obtain ⟨h1, h2⟩ := h0
 rcases h2 with ⟨rfl, h2⟩ | ⟨g, cap, cur, rfl, _, hg, hc, hm, hs, ht⟩
 ·exact .inl ⟨rfl, List.eq_nil_of_length_eq_zero h2⟩
 ·refine .inr ⟨⟨g, 0, none⟩, cap, rfl, hc, hm, fun _ => rfl, fun i d hi => ?_⟩
  have hlt := (List.getElem?_eq_some_iff.1 hi).1
  obtain ⟨cs, hcs⟩ : ∃ cs, xss[i]? = some cs := ⟨_, gE (by omega)⟩
  refine ⟨cs, g3 cs (List.mem_of_getElem? hcs), g7 i d cs hi hcs, fun j u hj => ?_⟩
  have h4 := h9.cells (g := g) rfl _ _ (flatten_one g3 hcs hj)
  rw [add_mk] at h4
  rw [Nat.add_assoc]; exact h4
theorem src_agg (w : World) (cs : List Value) (t : TypeId) (h : ∀ u ∈ cs, u.oneCell' = true) : Src (w.alloc (.cells cs.toArray t)) (.slice (some ⟨w.heap.size, 0, none⟩) 1 1) cs.length 1 cs :=
 ⟨by simp, h, .inr ⟨_, _, rfl, fun j u hj => by rw [add_mk, Nat.zero_add, cell_of (aH w _)]; simpa using hj⟩⟩
/-- a copy of one thing -/
def CopyP {α : Type} (W : World) (R : World → List Value → α → Prop) (d : α) (e : Ending) (w' : World) : Prop := ∃ cs : List Value, e = .returned (.agg cs.toArray) ∧ Ext W w' ∧ Own W.heap.size w' (fun w => R w cs d)
theorem cinf_Header : (Tryz.prog.info? 96).map (fun i => (i.zero, i.size, i.bytes)) = some (some (.agg #[.string ⟨#[]⟩, .slice none 0 0]), 2, 40) := by kernel_rfl
theorem form_Header {w : World} {cs : List Value} {x : Hd.Hdr} (hR : Hd.HdrR w cs x) : cs.length = 2 ∧ ∀ u ∈ cs, u.oneCell' = true := by
 obtain ⟨v1, rfl, _, f1⟩ := hR
 obtain ⟨fa, fc, rfl, _⟩ := f1.slice
 exact ⟨rfl, fun u hu => by simp only [List.mem_cons, List.not_mem_nil, or_false] at hu; rcases hu with rfl | rfl <;> rfl⟩
theorem eachHeader_any {W : World} {v : Value} {ds : List Hd.Hdr} (h : Rows W 2 Hd.HdrR v ds) (hd : ds.length ≤ 1073741824)
 (hcl : ∀ cs d w, d ∈ ds → Ext W w → Hd.HdrR w cs d → Calls Tryz.prog 46 #[.agg cs.toArray] w (CopyP w Hd.HdrR d)) : Calls Tryz.prog 45 #[v, .func (.func 46) #[] #[]] W (NewP W (fun w v => Rows w 2 Hd.HdrR v ds)) := by
 obtain ⟨oa, c, rfl, hlc, hcm⟩ := h.slice
 unfold maxLen at hcm
 have H := Lh h
 have HCL := Lh hcl
 clear h hcl
 go_enter Tryz.func45, Tryz.ntmps45
 go_wp2_with fail
 go_loopw [5, 10] (fun o q wr => ∃ k : Nat, k ≤ ds.length ∧ q = .int .i64 k ∧ ∃ oo co, o = .slice oo k co ∧ Hid (∃ xss, EachI W 96 2 Hd.HdrR ds k o xss wr)) (fun _ q _ => ds.length - (intOf q).toNat)
 case atStart => exact ⟨0, Nat.zero_le _, rfl, _, _, rfl, Lh ⟨_, EachI.start _ _ _ _ _⟩⟩
 case round =>
  obtain ⟨k, hk, rfl, oo, co, rfl, ⟨xss, HZ0⟩⟩ := hrel
  have HZ := Lh HZ0
  clear HZ0
  have sx : Step W wr := ⟨HZ.out.1⟩
  by_cases hlt : k < ds.length
  ·obtain ⟨x, hx⟩ : ∃ x, ds[k]? = some x := ⟨_, gE hlt⟩
   obtain ⟨b, o, rfl, _, hat⟩ := Rows.at H.out (by omega)
   obtain ⟨cs, _, hR, hc⟩ := hat k x hx
   have HX := Lh hx
   have HM := Lh (List.mem_of_getElem? hx)
   have HCX := Lh (fun (w : World) (hw : Ext W w) => HCL.out cs x w HM.out hw (hR.ext hw))
   obtain ⟨v1, rfl, _, f1⟩ := hR
   obtain ⟨fa, fc, rfl, _⟩ := f1.slice
   have t0 := hc 0 _ rfl
   rw [Nat.add_zero] at t0
   have u0 := alw t0
   clear t0
   have t1 := hc 1 _ rfl
   have u1 := alw t1
   clear t1
   clear hx hc hat f1
   have hle : W.heap.size ≤ wr.heap.size := HZ.out.1.le
   have bx := aH wr (.cells #[.string x.1, .slice fa x.2.length fc] 96)
   have m0 := alw (cQ 0 bx)
   have m1 := alw (cQ 1 bx)
   clear bx
   go_wp2_with fail
   refine (HCX.out _ grows).mono ?_
   rintro e w7 ⟨cs, rfl, x7, hown7⟩
   have HOW := Lh (Own.low hown7 (C := wr.heap.size) (by simp))
   have HF := Lh (form_Header hown7.now)
   have hR := hown7.now
   clear hown7
   obtain ⟨v1, rfl, _, f1⟩ := hR
   obtain ⟨fa, fc, rfl, _⟩ := f1.slice
   clear f1
   have s7 := Sm x7
   have hle7 := x7.le
   simp only [szA] at hle7
   have HS1 := Lh (src_agg w7 [.string x.1, .slice fa x.2.length fc] 96 HF.out.2)
   have HO1 := Lh (own_now HZ.out.2.2.2.2.1 (w := w7.alloc (.cells #[.string x.1, .slice fa x.2.length fc] 96)))
   go_wp2_with (at_builtin; refine wpList_append_fresh rfl (.tmp 14) (.tmp 18) 22 rfl W.heap.size 96 (.agg #[.string ⟨#[]⟩, .slice none 0 0]) 2 40 Tryz.underlying22 cinf_Header rfl (by decide) _ k xss.flatten rfl HO1.out _ 1 [.string x.1, .slice fa x.2.length fc] rfl HS1.out ?d1 ?d2 ?d3 ?_)
   case d1 => unfold maxLen; omega
   case d2 => omega
   case d3 => (try simp); omega
   intro v' w' hown hgr hfr
   obtain ⟨o3, c3, rfl⟩ := own_slice hown
   have HN := Lh (EachI.step HZ.out HX.out (w1 := w7) (grows (a := wr)) HOW.out HF.out.1 HF.out.2 (grows (b := w7.alloc (.cells #[.string x.1, .slice fa x.2.length fc] 96))) hgr hown (by rw [szA]; exact hfr))
   clear hgr hown hfr
   go_wp2_with fail
   go_roundw
   case rel => exact ⟨k + 1, by omega, by go_num, o3, c3, rfl, Lh ⟨_, HN.out⟩⟩
   case measure => simp [intOf]; omega
  ·obtain rfl : k = ds.length := by omega
   go_wp2_with fail
   go_ret
   exact ⟨_, rfl, HZ.out.1, EachI.done HZ.out rfl⟩
theorem cinf_Action : (Tryz.prog.info? 92).map (fun i => (i.zero, i.size, i.bytes)) = some (some (.agg #[.string ⟨#[]⟩, .slice none 0 0, .slice none 0 0]), 3, 64) := by kernel_rfl
theorem form_Action {w : World} {cs : List Value} {x : Tj.Act} (hR : Tj.ActR w cs x) : cs.length = 3 ∧ ∀ u ∈ cs, u.oneCell' = true := by
 obtain ⟨v1, v2, rfl, _, f1, f2⟩ := hR
 obtain ⟨fa, fc, rfl, _⟩ := f1.slice
 obtain ⟨ga, gc, rfl, _⟩ := f2.slice
 exact ⟨rfl, fun u hu => by simp only [List.mem_cons, List.not_mem_nil, or_false] at hu; rcases hu with rfl | rfl | rfl <;> rfl⟩
abbrev Yq8 (x : Tj.Tab) (fa : Option Addr) (fc : Nat) (ga : Option Addr) (gc : Nat) (ha : Option Addr) (hc : Nat) : Array Value := #[.string x.nm, .slice fa x.ks.length fc, .slice ga x.ac.length gc, .int .i64 x.df.a, .slice ha x.df.ar.length hc, .int .i64 x.sz]
abbrev Yq9 (x : Tj.Stm) (fa : Option Addr) (fc : Nat) (ga : Option Addr) (gc : Nat) : Array Value := #[.int .i64 x.k, .int .i64 x.dh, .int .i64 x.df, .int .i64 x.rg, .int .i64 x.hd, .slice fa x.ix.length fc, .slice ga x.va.length gc]
abbrev Yq12 (x : Ps.St) (fa : Option Addr) (fc : Nat) (ga : Option Addr) (gc : Nat) : Array Value := #[.string x.nm, .slice fa x.ex.length fc, .bool x.sel, .int .i64 x.h, .int .i64 x.f, .slice ga x.cs.length gc, .int .i64 x.df]
abbrev Yq13 (x : Tj.NT) (fa : Option Addr) (fc : Nat) (ga : Option Addr) (gc : Nat) (ha : Option Addr) (hc : Nat) : Array Value := #[.int .i64 x.d.k, .int .i64 x.d.t, .slice fa x.d.c.length fc, .slice ga x.d.th gc, .slice ha x.d.el hc]
abbrev Yq14  : Array Value := #[.int .i64 0, .int .i64 0, .int .i64 0, .int .i64 0, .int .i64 0, .slice none 0 0, .slice none 0 0]
abbrev Yq16  : Array Value := #[.int .i64 0, .int .i64 0, .slice none 0 0, .slice none 0 0, .slice none 0 0]
abbrev Yq23 (x : Tj.Act) (fa : Option Addr) (fc : Nat) (ga : Option Addr) (gc : Nat) : Array Value := #[.string x.nm, .slice fa x.ps.length fc, .slice ga x.bd.length gc]
theorem eachAction_any {W : World} {v : Value} {ds : List Tj.Act} (h : Rows W 3 Tj.ActR v ds) (hd : ds.length ≤ 1073741824)
 (hcl : ∀ cs d w, d ∈ ds → Ext W w → Tj.ActR w cs d → Calls Tryz.prog 50 #[.agg cs.toArray] w (CopyP w Tj.ActR d)) : Calls Tryz.prog 49 #[v, .func (.func 50) #[] #[]] W (NewP W (fun w v => Rows w 3 Tj.ActR v ds)) := by
 obtain ⟨oa, c, rfl, hlc, hcm⟩ := h.slice
 unfold maxLen at hcm
 have H := Lh h
 have HCL := Lh hcl
 clear h hcl
 go_enter Tryz.func49, Tryz.ntmps49
 go_wp2_with fail
 go_loopw [5, 10] (fun o q wr => ∃ k : Nat, k ≤ ds.length ∧ q = .int .i64 k ∧ ∃ oo co, o = .slice oo k co ∧ Hid (∃ xss, EachI W 92 3 Tj.ActR ds k o xss wr)) (fun _ q _ => ds.length - (intOf q).toNat)
 case atStart => exact ⟨0, Nat.zero_le _, rfl, _, _, rfl, Lh ⟨_, EachI.start _ _ _ _ _⟩⟩
 case round =>
  obtain ⟨k, hk, rfl, oo, co, rfl, ⟨xss, HZ0⟩⟩ := hrel
  have HZ := Lh HZ0
  clear HZ0
  have sx : Step W wr := ⟨HZ.out.1⟩
  by_cases hlt : k < ds.length
  ·obtain ⟨x, hx⟩ : ∃ x, ds[k]? = some x := ⟨_, gE hlt⟩
   obtain ⟨b, o, rfl, _, hat⟩ := Rows.at H.out (by omega)
   obtain ⟨cs, _, hR, hc⟩ := hat k x hx
   have HX := Lh hx
   have HM := Lh (List.mem_of_getElem? hx)
   have HCX := Lh (fun (w : World) (hw : Ext W w) => HCL.out cs x w HM.out hw (hR.ext hw))
   obtain ⟨v1, v2, rfl, _, f1, f2⟩ := hR
   obtain ⟨fa, fc, rfl, _⟩ := f1.slice
   obtain ⟨ga, gc, rfl, _⟩ := f2.slice
   have t0 := hc 0 _ rfl
   rw [Nat.add_zero] at t0
   have u0 := alw t0
   clear t0
   have t1 := hc 1 _ rfl
   have u1 := alw t1
   clear t1
   have t2 := hc 2 _ rfl
   have u2 := alw t2
   clear t2
   clear hx hc hat f1 f2
   have hle : W.heap.size ≤ wr.heap.size := HZ.out.1.le
   have bx := aH wr (.cells (Yq23 x fa fc ga gc) 92)
   have m0 := alw (cQ 0 bx)
   have m1 := alw (cQ 1 bx)
   have m2 := alw (cQ 2 bx)
   clear bx
   go_wp2_with fail
   refine (HCX.out _ grows).mono ?_
   rintro e w7 ⟨cs, rfl, x7, hown7⟩
   have HOW := Lh (Own.low hown7 (C := wr.heap.size) (by simp))
   have HF := Lh (form_Action hown7.now)
   have hR := hown7.now
   clear hown7
   obtain ⟨v1, v2, rfl, _, f1, f2⟩ := hR
   obtain ⟨fa, fc, rfl, _⟩ := f1.slice
   obtain ⟨ga, gc, rfl, _⟩ := f2.slice
   clear f1 f2
   have s7 := Sm x7
   have hle7 := x7.le
   simp only [szA] at hle7
   have HS1 := Lh (src_agg w7 [.string x.nm, .slice fa x.ps.length fc, .slice ga x.bd.length gc] 92 HF.out.2)
   have HO1 := Lh (own_now HZ.out.2.2.2.2.1 (w := w7.alloc (.cells (Yq23 x fa fc ga gc) 92)))
   go_wp2_with (at_builtin; refine wpList_append_fresh rfl (.tmp 14) (.tmp 18) 25 rfl W.heap.size 92 (.agg #[.string ⟨#[]⟩, .slice none 0 0, .slice none 0 0]) 3 64 Tryz.underlying25 cinf_Action rfl (by decide) _ k xss.flatten rfl HO1.out _ 1 [.string x.nm, .slice fa x.ps.length fc, .slice ga x.bd.length gc] rfl HS1.out ?d1 ?d2 ?d3 ?_)
   case d1 => unfold maxLen; omega
   case d2 => omega
   case d3 => (try simp); omega
   intro v' w' hown hgr hfr
   obtain ⟨o3, c3, rfl⟩ := own_slice hown
   have HN := Lh (EachI.step HZ.out HX.out (w1 := w7) (grows (a := wr)) HOW.out HF.out.1 HF.out.2 (grows (b := w7.alloc (.cells (Yq23 x fa fc ga gc) 92))) hgr hown (by rw [szA]; exact hfr))
   clear hgr hown hfr
   go_wp2_with fail
   go_roundw
   case rel => exact ⟨k + 1, by omega, by go_num, o3, c3, rfl, Lh ⟨_, HN.out⟩⟩
   case measure => simp [intOf]; omega
  ·obtain rfl : k = ds.length := by omega
   go_wp2_with fail
   go_ret
   exact ⟨_, rfl, HZ.out.1, EachI.done HZ.out rfl⟩
theorem cinf_Table : (Tryz.prog.info? 108).map (fun i => (i.zero, i.size, i.bytes)) = some (some (.agg #[.string ⟨#[]⟩, .slice none 0 0, .slice none 0 0, .int .i64 0, .slice none 0 0, .int .i64 0]), 6, 104) := by kernel_rfl
theorem form_Table {w : World} {cs : List Value} {x : Tj.Tab} (hR : Tj.TabR w cs x) : cs.length = 6 ∧ ∀ u ∈ cs, u.oneCell' = true := by
 obtain ⟨v1, v2, v3, rfl, _, _, f1, f2, f3⟩ := hR
 obtain ⟨fa, fc, rfl, _⟩ := f1.slice
 obtain ⟨ga, gc, rfl⟩ := ns_slice f2.1
 obtain ⟨ha, hc, rfl⟩ := ns_slice f3.1
 exact ⟨rfl, fun u hu => by simp only [List.mem_cons, List.not_mem_nil, or_false] at hu; rcases hu with rfl | rfl | rfl | rfl | rfl | rfl <;> rfl⟩
theorem eachTable_any {W : World} {v : Value} {ds : List Tj.Tab} (h : Rows W 6 Tj.TabR v ds) (hd : ds.length ≤ 1073741824)
 (hcl : ∀ cs d w, d ∈ ds → Ext W w → Tj.TabR w cs d → Calls Tryz.prog 52 #[.agg cs.toArray] w (CopyP w Tj.TabR d)) : Calls Tryz.prog 51 #[v, .func (.func 52) #[] #[]] W (NewP W (fun w v => Rows w 6 Tj.TabR v ds)) := by
 obtain ⟨oa, c, rfl, hlc, hcm⟩ := h.slice
 unfold maxLen at hcm
 have H := Lh h
 have HCL := Lh hcl
 clear h hcl
 go_enter Tryz.func51, Tryz.ntmps51
 go_wp2_with fail
 go_loopw [5, 10] (fun o q wr => ∃ k : Nat, k ≤ ds.length ∧ q = .int .i64 k ∧ ∃ oo co, o = .slice oo k co ∧ Hid (∃ xss, EachI W 108 6 Tj.TabR ds k o xss wr)) (fun _ q _ => ds.length - (intOf q).toNat)
 case atStart => exact ⟨0, Nat.zero_le _, rfl, _, _, rfl, Lh ⟨_, EachI.start _ _ _ _ _⟩⟩
 case round =>
  obtain ⟨k, hk, rfl, oo, co, rfl, ⟨xss, HZ0⟩⟩ := hrel
  have HZ := Lh HZ0
  clear HZ0
  have sx : Step W wr := ⟨HZ.out.1⟩
  by_cases hlt : k < ds.length
  ·obtain ⟨x, hx⟩ : ∃ x, ds[k]? = some x := ⟨_, gE hlt⟩
   obtain ⟨b, o, rfl, _, hat⟩ := Rows.at H.out (by omega)
   obtain ⟨cs, _, hR, hc⟩ := hat k x hx
   have HX := Lh hx
   have HM := Lh (List.mem_of_getElem? hx)
   have HCX := Lh (fun (w : World) (hw : Ext W w) => HCL.out cs x w HM.out hw (hR.ext hw))
   obtain ⟨v1, v2, v3, rfl, _, _, f1, f2, f3⟩ := hR
   obtain ⟨fa, fc, rfl, _⟩ := f1.slice
   obtain ⟨ga, gc, rfl⟩ := ns_slice f2.1
   obtain ⟨ha, hc, rfl⟩ := ns_slice f3.1
   have t0 := hc 0 _ rfl
   rw [Nat.add_zero] at t0
   have u0 := alw t0
   clear t0
   have t1 := hc 1 _ rfl
   have u1 := alw t1
   clear t1
   have t2 := hc 2 _ rfl
   have u2 := alw t2
   clear t2
   have t3 := hc 3 _ rfl
   have u3 := alw t3
   clear t3
   have t4 := hc 4 _ rfl
   have u4 := alw t4
   clear t4
   have t5 := hc 5 _ rfl
   have u5 := alw t5
   clear t5
   clear hx hc hat f1 f2 f3
   have hle : W.heap.size ≤ wr.heap.size := HZ.out.1.le
   have bx := aH wr (.cells (Yq8 x fa fc ga gc ha hc) 108)
   have m0 := alw (cQ 0 bx)
   have m1 := alw (cQ 1 bx)
   have m2 := alw (cQ 2 bx)
   have m3 := alw (cQ 3 bx)
   have m4 := alw (cQ 4 bx)
   have m5 := alw (cQ 5 bx)
   clear bx
   go_wp2_with fail
   refine (HCX.out _ grows).mono ?_
   rintro e w7 ⟨cs, rfl, x7, hown7⟩
   have HOW := Lh (Own.low hown7 (C := wr.heap.size) (by simp))
   have HF := Lh (form_Table hown7.now)
   have hR := hown7.now
   clear hown7
   obtain ⟨v1, v2, v3, rfl, _, _, f1, f2, f3⟩ := hR
   obtain ⟨fa, fc, rfl, _⟩ := f1.slice
   obtain ⟨ga, gc, rfl⟩ := ns_slice f2.1
   obtain ⟨ha, hc, rfl⟩ := ns_slice f3.1
   clear f1 f2 f3
   have s7 := Sm x7
   have hle7 := x7.le
   simp only [szA] at hle7
   have HS1 := Lh (src_agg w7 [.string x.nm, .slice fa x.ks.length fc, .slice ga x.ac.length gc, .int .i64 x.df.a, .slice ha x.df.ar.length hc, .int .i64 x.sz] 108 HF.out.2)
   have HO1 := Lh (own_now HZ.out.2.2.2.2.1 (w := w7.alloc (.cells (Yq8 x fa fc ga gc ha hc) 108)))
   go_wp2_with (at_builtin; refine wpList_append_fresh rfl (.tmp 14) (.tmp 18) 26 rfl W.heap.size 108 (.agg #[.string ⟨#[]⟩, .slice none 0 0, .slice none 0 0, .int .i64 0, .slice none 0 0, .int .i64 0]) 6 104 Tryz.underlying26 cinf_Table rfl (by decide) _ k xss.flatten rfl HO1.out _ 1 [.string x.nm, .slice fa x.ks.length fc, .slice ga x.ac.length gc, .int .i64 x.df.a, .slice ha x.df.ar.length hc, .int .i64 x.sz] rfl HS1.out ?d1 ?d2 ?d3 ?_)
   case d1 => unfold maxLen; omega
   case d2 => omega
   case d3 => (try simp); omega
   intro v' w' hown hgr hfr
   obtain ⟨o3, c3, rfl⟩ := own_slice hown
   have HN := Lh (EachI.step HZ.out HX.out (w1 := w7) (grows (a := wr)) HOW.out HF.out.1 HF.out.2 (grows (b := w7.alloc (.cells (Yq8 x fa fc ga gc ha hc) 108))) hgr hown (by rw [szA]; exact hfr))
   clear hgr hown hfr
   go_wp2_with fail
   go_roundw
   case rel => exact ⟨k + 1, by omega, by go_num, o3, c3, rfl, Lh ⟨_, HN.out⟩⟩
   case measure => simp [intOf]; omega
  ·obtain rfl : k = ds.length := by omega
   go_wp2_with fail
   go_ret
   exact ⟨_, rfl, HZ.out.1, EachI.done HZ.out rfl⟩
theorem cinf_ParserState : (Tryz.prog.info? 111).map (fun i => (i.zero, i.size, i.bytes)) = some (some (.agg #[.string ⟨#[]⟩, .slice none 0 0, .bool false, .int .i64 0, .int .i64 0, .slice none 0 0, .int .i64 0]), 7, 96) := by kernel_rfl
theorem form_ParserState {w : World} {cs : List Value} {x : Ps.St} (hR : Ps.StR w cs x) : cs.length = 7 ∧ ∀ u ∈ cs, u.oneCell' = true := by
 obtain ⟨v1, v2, rfl, _, f1, f2⟩ := hR
 obtain ⟨fa, fc, rfl⟩ := ns_slice f1
 obtain ⟨ga, gc, rfl, _⟩ := f2.slice
 exact ⟨rfl, fun u hu => by simp only [List.mem_cons, List.not_mem_nil, or_false] at hu; rcases hu with rfl | rfl | rfl | rfl | rfl | rfl | rfl <;> rfl⟩
theorem eachParserState_any {W : World} {v : Value} {ds : List Ps.St} (h : Rows W 7 Ps.StR v ds) (hd : ds.length ≤ 1073741824)
 (hcl : ∀ cs d w, d ∈ ds → Ext W w → Ps.StR w cs d → Calls Tryz.prog 54 #[.agg cs.toArray] w (CopyP w Ps.StR d)) : Calls Tryz.prog 53 #[v, .func (.func 54) #[] #[]] W (NewP W (fun w v => Rows w 7 Ps.StR v ds)) := by
 obtain ⟨oa, c, rfl, hlc, hcm⟩ := h.slice
 unfold maxLen at hcm
 have H := Lh h
 have HCL := Lh hcl
 clear h hcl
 go_enter Tryz.func53, Tryz.ntmps53
 go_wp2_with fail
 go_loopw [5, 10] (fun o q wr => ∃ k : Nat, k ≤ ds.length ∧ q = .int .i64 k ∧ ∃ oo co, o = .slice oo k co ∧ Hid (∃ xss, EachI W 111 7 Ps.StR ds k o xss wr)) (fun _ q _ => ds.length - (intOf q).toNat)
 case atStart => exact ⟨0, Nat.zero_le _, rfl, _, _, rfl, Lh ⟨_, EachI.start _ _ _ _ _⟩⟩
 case round =>
  obtain ⟨k, hk, rfl, oo, co, rfl, ⟨xss, HZ0⟩⟩ := hrel
  have HZ := Lh HZ0
  clear HZ0
  have sx : Step W wr := ⟨HZ.out.1⟩
  by_cases hlt : k < ds.length
  ·obtain ⟨x, hx⟩ : ∃ x, ds[k]? = some x := ⟨_, gE hlt⟩
   obtain ⟨b, o, rfl, _, hat⟩ := Rows.at H.out (by omega)
   obtain ⟨cs, _, hR, hc⟩ := hat k x hx
   have HX := Lh hx
   have HM := Lh (List.mem_of_getElem? hx)
   have HCX := Lh (fun (w : World) (hw : Ext W w) => HCL.out cs x w HM.out hw (hR.ext hw))
   obtain ⟨v1, v2, rfl, _, f1, f2⟩ := hR
   obtain ⟨fa, fc, rfl⟩ := ns_slice f1
   obtain ⟨ga, gc, rfl, _⟩ := f2.slice
   have t0 := hc 0 _ rfl
   rw [Nat.add_zero] at t0
   have u0 := alw t0
   clear t0
   have t1 := hc 1 _ rfl
   have u1 := alw t1
   clear t1
   have t2 := hc 2 _ rfl
   have u2 := alw t2
   clear t2
   have t3 := hc 3 _ rfl
   have u3 := alw t3
   clear t3
   have t4 := hc 4 _ rfl
   have u4 := alw t4
   clear t4
   have t5 := hc 5 _ rfl
   have u5 := alw t5
   clear t5
   have t6 := hc 6 _ rfl
   have u6 := alw t6
   clear t6
   clear hx hc hat f1 f2
   have hle : W.heap.size ≤ wr.heap.size := HZ.out.1.le
   have bx := aH wr (.cells (Yq12 x fa fc ga gc) 111)
   have m0 := alw (cQ 0 bx)
   have m1 := alw (cQ 1 bx)
   have m2 := alw (cQ 2 bx)
   have m3 := alw (cQ 3 bx)
   have m4 := alw (cQ 4 bx)
   have m5 := alw (cQ 5 bx)
   have m6 := alw (cQ 6 bx)
   clear bx
   go_wp2_with fail
   refine (HCX.out _ grows).mono ?_
   rintro e w7 ⟨cs, rfl, x7, hown7⟩
   have HOW := Lh (Own.low hown7 (C := wr.heap.size) (by simp))
   have HF := Lh (form_ParserState hown7.now)
   have hR := hown7.now
   clear hown7
   obtain ⟨v1, v2, rfl, _, f1, f2⟩ := hR
   obtain ⟨fa, fc, rfl⟩ := ns_slice f1
   obtain ⟨ga, gc, rfl, _⟩ := f2.slice
   clear f1 f2
   have s7 := Sm x7
   have hle7 := x7.le
   simp only [szA] at hle7
   have HS1 := Lh (src_agg w7 [.string x.nm, .slice fa x.ex.length fc, .bool x.sel, .int .i64 x.h, .int .i64 x.f, .slice ga x.cs.length gc, .int .i64 x.df] 111 HF.out.2)
   have HO1 := Lh (own_now HZ.out.2.2.2.2.1 (w := w7.alloc (.cells (Yq12 x fa fc ga gc) 111)))
   go_wp2_with (at_builtin; refine wpList_append_fresh rfl (.tmp 14) (.tmp 18) 27 rfl W.heap.size 111 (.agg #[.string ⟨#[]⟩, .slice none 0 0, .bool false, .int .i64 0, .int .i64 0, .slice none 0 0, .int .i64 0]) 7 96 Tryz.underlying27 cinf_ParserState rfl (by decide) _ k xss.flatten rfl HO1.out _ 1 [.string x.nm, .slice fa x.ex.length fc, .bool x.sel, .int .i64 x.h, .int .i64 x.f, .slice ga x.cs.length gc, .int .i64 x.df] rfl HS1.out ?d1 ?d2 ?d3 ?_)
   case d1 => unfold maxLen; omega
   case d2 => omega
   case d3 => (try simp); omega
   intro v' w' hown hgr hfr
   obtain ⟨o3, c3, rfl⟩ := own_slice hown
   have HN := Lh (EachI.step HZ.out HX.out (w1 := w7) (grows (a := wr)) HOW.out HF.out.1 HF.out.2 (grows (b := w7.alloc (.cells (Yq12 x fa fc ga gc) 111))) hgr hown (by rw [szA]; exact hfr))
   clear hgr hown hfr
   go_wp2_with fail
   go_roundw
   case rel => exact ⟨k + 1, by omega, by go_num, o3, c3, rfl, Lh ⟨_, HN.out⟩⟩
   case measure => simp [intOf]; omega
  ·obtain rfl : k = ds.length := by omega
   go_wp2_with fail
   go_ret
   exact ⟨_, rfl, HZ.out.1, EachI.done HZ.out rfl⟩
theorem cinf_Statement : (Tryz.prog.info? 105).map (fun i => (i.zero, i.size, i.bytes)) = some (some (.agg (Yq14 )), 7, 88) := by kernel_rfl
theorem form_Statement {w : World} {cs : List Value} {x : Tj.Stm} (hR : Tj.StmR w cs x) : cs.length = 7 ∧ ∀ u ∈ cs, u.oneCell' = true := by
 obtain ⟨v1, v2, rfl, _, f1, f2⟩ := hR
 obtain ⟨fa, fc, rfl, _⟩ := f1.slice
 obtain ⟨ga, gc, rfl, _⟩ := f2.slice
 exact ⟨rfl, fun u hu => by simp only [List.mem_cons, List.not_mem_nil, or_false] at hu; rcases hu with rfl | rfl | rfl | rfl | rfl | rfl | rfl <;> rfl⟩
theorem eachStatement_any {W : World} {v : Value} {ds : List Tj.Stm} (h : Rows W 7 Tj.StmR v ds) (hd : ds.length ≤ 1073741824)
 (hcl : ∀ cs d w, d ∈ ds → Ext W w → Tj.StmR w cs d → Calls Tryz.prog 99 #[.agg cs.toArray] w (CopyP w Tj.StmR d)) : Calls Tryz.prog 98 #[v, .func (.func 99) #[] #[]] W (NewP W (fun w v => Rows w 7 Tj.StmR v ds)) := by
 obtain ⟨oa, c, rfl, hlc, hcm⟩ := h.slice
 unfold maxLen at hcm
 have H := Lh h
 have HCL := Lh hcl
 clear h hcl
 go_enter Tryz.func98, Tryz.ntmps98
 go_wp2_with fail
 go_loopw [5, 10] (fun o q wr => ∃ k : Nat, k ≤ ds.length ∧ q = .int .i64 k ∧ ∃ oo co, o = .slice oo k co ∧ Hid (∃ xss, EachI W 105 7 Tj.StmR ds k o xss wr)) (fun _ q _ => ds.length - (intOf q).toNat)
 case atStart => exact ⟨0, Nat.zero_le _, rfl, _, _, rfl, Lh ⟨_, EachI.start _ _ _ _ _⟩⟩
 case round =>
  obtain ⟨k, hk, rfl, oo, co, rfl, ⟨xss, HZ0⟩⟩ := hrel
  have HZ := Lh HZ0
  clear HZ0
  have sx : Step W wr := ⟨HZ.out.1⟩
  by_cases hlt : k < ds.length
  ·obtain ⟨x, hx⟩ : ∃ x, ds[k]? = some x := ⟨_, gE hlt⟩
   obtain ⟨b, o, rfl, _, hat⟩ := Rows.at H.out (by omega)
   obtain ⟨cs, _, hR, hc⟩ := hat k x hx
   have HX := Lh hx
   have HM := Lh (List.mem_of_getElem? hx)
   have HCX := Lh (fun (w : World) (hw : Ext W w) => HCL.out cs x w HM.out hw (hR.ext hw))
   obtain ⟨v1, v2, rfl, _, f1, f2⟩ := hR
   obtain ⟨fa, fc, rfl, _⟩ := f1.slice
   obtain ⟨ga, gc, rfl, _⟩ := f2.slice
   have t0 := hc 0 _ rfl
   rw [Nat.add_zero] at t0
   have u0 := alw t0
   clear t0
   have t1 := hc 1 _ rfl
   have u1 := alw t1
   clear t1
   have t2 := hc 2 _ rfl
   have u2 := alw t2
   clear t2
   have t3 := hc 3 _ rfl
   have u3 := alw t3
   clear t3
   have t4 := hc 4 _ rfl
   have u4 := alw t4
   clear t4
   have t5 := hc 5 _ rfl
   have u5 := alw t5
   clear t5
   have t6 := hc 6 _ rfl
   have u6 := alw t6
   clear t6
   clear hx hc hat f1 f2
   have hle : W.heap.size ≤ wr.heap.size := HZ.out.1.le
   have bx := aH wr (.cells (Yq9 x fa fc ga gc) 105)
   have m0 := alw (cQ 0 bx)
   have m1 := alw (cQ 1 bx)
   have m2 := alw (cQ 2 bx)
   have m3 := alw (cQ 3 bx)
   have m4 := alw (cQ 4 bx)
   have m5 := alw (cQ 5 bx)
   have m6 := alw (cQ 6 bx)
   clear bx
   go_wp2_with fail
   refine (HCX.out _ grows).mono ?_
   rintro e w7 ⟨cs, rfl, x7, hown7⟩
   have HOW := Lh (Own.low hown7 (C := wr.heap.size) (by simp))
   have HF := Lh (form_Statement hown7.now)
   have hR := hown7.now
   clear hown7
   obtain ⟨v1, v2, rfl, _, f1, f2⟩ := hR
   obtain ⟨fa, fc, rfl, _⟩ := f1.slice
   obtain ⟨ga, gc, rfl, _⟩ := f2.slice
   clear f1 f2
   have s7 := Sm x7
   have hle7 := x7.le
   simp only [szA] at hle7
   have HS1 := Lh (src_agg w7 [.int .i64 x.k, .int .i64 x.dh, .int .i64 x.df, .int .i64 x.rg, .int .i64 x.hd, .slice fa x.ix.length fc, .slice ga x.va.length gc] 105 HF.out.2)
   have HO1 := Lh (own_now HZ.out.2.2.2.2.1 (w := w7.alloc (.cells (Yq9 x fa fc ga gc) 105)))
   go_wp2_with (at_builtin; refine wpList_append_fresh rfl (.tmp 14) (.tmp 18) 90 rfl W.heap.size 105 (.agg (Yq14 )) 7 88 Tryz.underlying90 cinf_Statement rfl (by decide) _ k xss.flatten rfl HO1.out _ 1 [.int .i64 x.k, .int .i64 x.dh, .int .i64 x.df, .int .i64 x.rg, .int .i64 x.hd, .slice fa x.ix.length fc, .slice ga x.va.length gc] rfl HS1.out ?d1 ?d2 ?d3 ?_)
   case d1 => unfold maxLen; omega
   case d2 => omega
   case d3 => (try simp); omega
   intro v' w' hown hgr hfr
   obtain ⟨o3, c3, rfl⟩ := own_slice hown
   have HN := Lh (EachI.step HZ.out HX.out (w1 := w7) (grows (a := wr)) HOW.out HF.out.1 HF.out.2 (grows (b := w7.alloc (.cells (Yq9 x fa fc ga gc) 105))) hgr hown (by rw [szA]; exact hfr))
   clear hgr hown hfr
   go_wp2_with fail
   go_roundw
   case rel => exact ⟨k + 1, by omega, by go_num, o3, c3, rfl, Lh ⟨_, HN.out⟩⟩
   case measure => simp [intOf]; omega
  ·obtain rfl : k = ds.length := by omega
   go_wp2_with fail
   go_ret
   exact ⟨_, rfl, HZ.out.1, EachI.done HZ.out rfl⟩
theorem cinf_ControlNode : (Tryz.prog.info? 113).map (fun i => (i.zero, i.size, i.bytes)) = some (some (.agg (Yq16 )), 5, 88) := by kernel_rfl
theorem form_ControlNode {m : Nat} {w : World} {cs : List Value} {x : Tj.NT} (hR : (Tj.NodeR m) w cs x) : cs.length = 5 ∧ ∀ u ∈ cs, u.oneCell' = true := by
 obtain ⟨v1, v2, v3, rfl, _, f1, f2, f3⟩ := hR
 obtain ⟨fa, fc, rfl, _⟩ := f1.slice
 obtain ⟨ga, gc, rfl, _⟩ := f2.slice
 obtain ⟨ha, hc, rfl, _⟩ := f3.slice
 exact ⟨rfl, fun u hu => by simp only [List.mem_cons, List.not_mem_nil, or_false] at hu; rcases hu with rfl | rfl | rfl | rfl | rfl <;> rfl⟩
theorem eachControlNode_any {m : Nat} {W : World} {v : Value} {ds : List Tj.NT} (h : Rows W 5 (Tj.NodeR m) v ds) (hd : ds.length ≤ 1073741824)
 (hcl : ∀ cs d w, d ∈ ds → Ext W w → (Tj.NodeR m) w cs d → Calls Tryz.prog 56 #[.agg cs.toArray] w (CopyP w (Tj.NodeR m) d)) : Calls Tryz.prog 55 #[v, .func (.func 56) #[] #[]] W (NewP W (fun w v => Rows w 5 (Tj.NodeR m) v ds)) := by
 obtain ⟨oa, c, rfl, hlc, hcm⟩ := h.slice
 unfold maxLen at hcm
 have H := Lh h
 have HCL := Lh hcl
 clear h hcl
 go_enter Tryz.func55, Tryz.ntmps55
 go_wp2_with fail
 go_loopw [5, 10] (fun o q wr => ∃ k : Nat, k ≤ ds.length ∧ q = .int .i64 k ∧ ∃ oo co, o = .slice oo k co ∧ Hid (∃ xss, EachI W 113 5 (Tj.NodeR m) ds k o xss wr)) (fun _ q _ => ds.length - (intOf q).toNat)
 case atStart => exact ⟨0, Nat.zero_le _, rfl, _, _, rfl, Lh ⟨_, EachI.start _ _ _ _ _⟩⟩
 case round =>
  obtain ⟨k, hk, rfl, oo, co, rfl, ⟨xss, HZ0⟩⟩ := hrel
  have HZ := Lh HZ0
  clear HZ0
  have sx : Step W wr := ⟨HZ.out.1⟩
  by_cases hlt : k < ds.length
  ·obtain ⟨x, hx⟩ : ∃ x, ds[k]? = some x := ⟨_, gE hlt⟩
   obtain ⟨b, o, rfl, _, hat⟩ := Rows.at H.out (by omega)
   obtain ⟨cs, _, hR, hc⟩ := hat k x hx
   have HX := Lh hx
   have HM := Lh (List.mem_of_getElem? hx)
   have HCX := Lh (fun (w : World) (hw : Ext W w) => HCL.out cs x w HM.out hw (hR.ext hw))
   obtain ⟨v1, v2, v3, rfl, _, f1, f2, f3⟩ := hR
   obtain ⟨fa, fc, rfl, _⟩ := f1.slice
   obtain ⟨ga, gc, rfl, _⟩ := f2.slice
   obtain ⟨ha, hc, rfl, _⟩ := f3.slice
   have t0 := hc 0 _ rfl
   rw [Nat.add_zero] at t0
   have u0 := alw t0
   clear t0
   have t1 := hc 1 _ rfl
   have u1 := alw t1
   clear t1
   have t2 := hc 2 _ rfl
   have u2 := alw t2
   clear t2
   have t3 := hc 3 _ rfl
   have u3 := alw t3
   clear t3
   have t4 := hc 4 _ rfl
   have u4 := alw t4
   clear t4
   clear hx hc hat f1 f2 f3
   have hle : W.heap.size ≤ wr.heap.size := HZ.out.1.le
   have bx := aH wr (.cells (Yq13 x fa fc ga gc ha hc) 113)
   have m0 := alw (cQ 0 bx)
   have m1 := alw (cQ 1 bx)
   have m2 := alw (cQ 2 bx)
   have m3 := alw (cQ 3 bx)
   have m4 := alw (cQ 4 bx)
   clear bx
   go_wp2_with fail
   refine (HCX.out _ grows).mono ?_
   rintro e w7 ⟨cs, rfl, x7, hown7⟩
   have HOW := Lh (Own.low hown7 (C := wr.heap.size) (by simp))
   have HF := Lh (form_ControlNode hown7.now)
   have hR := hown7.now
   clear hown7
   obtain ⟨v1, v2, v3, rfl, _, f1, f2, f3⟩ := hR
   obtain ⟨fa, fc, rfl, _⟩ := f1.slice
   obtain ⟨ga, gc, rfl, _⟩ := f2.slice
   obtain ⟨ha, hc, rfl, _⟩ := f3.slice
   clear f1 f2 f3
   have s7 := Sm x7
   have hle7 := x7.le
   simp only [szA] at hle7
   have HS1 := Lh (src_agg w7 [.int .i64 x.d.k, .int .i64 x.d.t, .slice fa x.d.c.length fc, .slice ga x.d.th gc, .slice ha x.d.el hc] 113 HF.out.2)
   have HO1 := Lh (own_now HZ.out.2.2.2.2.1 (w := w7.alloc (.cells (Yq13 x fa fc ga gc ha hc) 113)))
   go_wp2_with (at_builtin; refine wpList_append_fresh rfl (.tmp 14) (.tmp 18) 28 rfl W.heap.size 113 (.agg (Yq16 )) 5 88 Tryz.underlying28 cinf_ControlNode rfl (by decide) _ k xss.flatten rfl HO1.out _ 1 [.int .i64 x.d.k, .int .i64 x.d.t, .slice fa x.d.c.length fc, .slice ga x.d.th gc, .slice ha x.d.el hc] rfl HS1.out ?d1 ?d2 ?d3 ?_)
   case d1 => unfold maxLen; omega
   case d2 => omega
   case d3 => (try simp); omega
   intro v' w' hown hgr hfr
   obtain ⟨o3, c3, rfl⟩ := own_slice hown
   have HN := Lh (EachI.step HZ.out HX.out (w1 := w7) (grows (a := wr)) HOW.out HF.out.1 HF.out.2 (grows (b := w7.alloc (.cells (Yq13 x fa fc ga gc ha hc) 113))) hgr hown (by rw [szA]; exact hfr))
   clear hgr hown hfr
   go_wp2_with fail
   go_roundw
   case rel => exact ⟨k + 1, by omega, by go_num, o3, c3, rfl, Lh ⟨_, HN.out⟩⟩
   case measure => simp [intOf]; omega
  ·obtain rfl : k = ds.length := by omega
   go_wp2_with fail
   go_ret
   exact ⟨_, rfl, HZ.out.1, EachI.done HZ.out rfl⟩
end Go.Proofs.YthmokhkkdgnbhaaGreat
