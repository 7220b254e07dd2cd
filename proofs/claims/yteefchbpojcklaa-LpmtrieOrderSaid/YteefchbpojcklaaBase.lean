/- Words of our own on worlds: 'Ext w w'': nothing that was there has changed; 'Mod S w w'': w' is w but for new blocks and the blocks in S; a region that draws its order walked over all later worlds. No condition. -/
import Derived.WalkKit
import Derived.Lib.Hide
import Derived.OneCell
import Derived.BigQuiet
namespace Go.Proofs.Yteefchbpojcklaa
open Go.RowKit

/-- Nothing that was there has changed. -/
def Ext (w w' : World) : Prop := Below w.heap.size w w'

theorem Ext.refl (w : World) : Ext w w := Below.refl _ _
theorem Ext.trans {a b c : World} (h : Ext a b) (k : Ext b c) : Ext a c := Below.trans h (k.mono h.size)
theorem Ext.alloc {a w : World} (h : Ext a w) (o : Obj) : Ext a (w.alloc o) := Below.alloc h h.size o
theorem Ext.drew {a w : World} (h : Ext a w) : Ext a w.drew := Below.drew h
theorem Ext.setCell {a w : World} (h : Ext a w) {p : Addr} (hp : a.heap.size ≤ p.block) (u : Value) : Ext a (w.setCell p u) := Below.setCell h hp u
theorem Ext.heap {a w : World} (h : Ext a w) {k : Nat} {o : Obj} (hk : a.heap[k]? = some o) : w.heap[k]? = some o := by
  rw [h.block k (lt_of_block hk)]; exact hk
theorem Ext.le {a w : World} (h : Ext a w) : a.heap.size ≤ w.heap.size := h.size
theorem Ext.cell {a w : World} (h : Ext a w) {p : Addr} {v : Value} (hc : a.cell? p = some v) : w.cell? p = some v := by
  rw [Below.cell h (World.block_lt_of_cell? _ _ hc)]; exact hc

/-- A world in which nothing of W has changed. -/
structure Later (W : World) where
  val : World
  ext : Ext W val

instance (W : World) : Nonempty (Later W) := ⟨⟨W, Ext.refl W⟩⟩
theorem Later.self (W : World) : (⟨W, Ext.refl W⟩ : Later W).val = W := rfl
theorem Later.cell {W : World} {p : Addr} {v : Value} (h : W.cell? p = some v) : ∀ x : Later W, x.val.cell? p = some v := fun x => x.ext.cell h

/-- what a call that only computes leaves: its result, and a later world -/
def Rets (W : World) (v : Value) (e : Ending) (w' : World) : Prop := e = .returned v ∧ Ext W w'
theorem Rets.later {P : Program} {f : FuncId} {args : Array Value} {W : World} {v : Value} (h : ∀ w, Calls P f args w (Rets w v)) (x : Later W) :
    Calls P f args x.val fun e w' => e = .returned v ∧ ∃ y : Later W, w' = y.val :=
  (h x.val).mono fun _ w' ⟨he, hx⟩ => ⟨he, ⟨w', x.ext.trans hx⟩, rfl⟩
theorem Rets.later_at {P : Program} {f : FuncId} {args : Array Value} {W : World} {v : Value} {x : Later W} (h : Calls P f args x.val (Rets x.val v)) :
    Calls P f args x.val fun e w' => e = .returned v ∧ ∃ y : Later W, w' = y.val :=
  h.mono fun _ w' ⟨he, hx⟩ => ⟨he, ⟨w', x.ext.trans hx⟩, rfl⟩

theorem Rets.later_eq {P : Program} {f : FuncId} {args : Array Value} {W : World} {v : Value} {x : Later W} (h : Calls P f args x.val fun e w' => e = .returned v ∧ x.val = w') :
    Calls P f args x.val fun e w' => e = .returned v ∧ ∃ y : Later W, w' = y.val :=
  h.mono fun _ _ ⟨he, hx⟩ => ⟨he, x, hx.symm⟩
theorem Rets.of_eq {P : Program} {f : FuncId} {args : Array Value} {W : World} {v : Value} (h : Calls P f args W fun e w' => e = .returned v ∧ W = w') : Calls P f args W (Rets W v) :=
  h.mono fun _ _ ⟨he, hx⟩ => ⟨he, by subst hx; exact Ext.refl _⟩

/-- A region that draws its order, whose operations only read and whose calls only compute: ONE walk over all later worlds. -/
theorem wp_region_later {P : Program} {id : Nat} {Q : Exit → Act → World → Prop} {a : Act} {w W : World} {l : List Oper} (hm : P.follows .mixedOrders = true) (hB : Region.lexB .any l.toArray = true) (hW : Ext W w)
    (h : wpQuiet P l.toArray (fun w' => ∃ x : Later W, w' = x.val) (fun a' => ∀ w' : World, Ext W w' → Q .normal a' w') l a) : (Code.region id l.toArray true).wp P Q a w :=
  wp_region_quiet (C := fun w' => ∃ x : Later W, w' = x.val) hm hB ⟨⟨_, hW.drew⟩, rfl⟩ (by
    have e : (fun a' => ∀ w' : World, (∃ x : Later W, w' = x.val) → Q .normal a' w') = fun a' => ∀ w' : World, Ext W w' → Q .normal a' w' := by
      funext a'; apply propext
      exact ⟨fun h w' hw => h w' ⟨⟨w', hw⟩, rfl⟩, fun h w' ⟨x, hx⟩ => by subst hx; exact h x.val x.ext⟩
    rw [e]; simpa using h)

/-- w' is w with new blocks, and with changes to the blocks of S alone. -/
structure Mod (S : Nat → Prop) (w w' : World) : Prop where
  os : w'.os = w.os
  tape : w'.tape = w.tape
  output : w'.output = w.output
  size : w.heap.size ≤ w'.heap.size
  block : ∀ k, k < w.heap.size → ¬ S k → w'.heap[k]? = w.heap[k]?

theorem Mod.refl (S : Nat → Prop) (w : World) : Mod S w w := ⟨rfl, rfl, rfl, Nat.le_refl _, fun _ _ _ => rfl⟩
theorem Mod.trans {S : Nat → Prop} {a b c : World} (h : Mod S a b) (k : Mod S b c) : Mod S a c :=
  ⟨k.os.trans h.os, k.tape.trans h.tape, k.output.trans h.output, Nat.le_trans h.size k.size,
    fun i hi hs => (k.block i (Nat.lt_of_lt_of_le hi h.size) hs).trans (h.block i hi hs)⟩
theorem Mod.mono {S T : Nat → Prop} {a b : World} (h : Mod S a b) (hst : ∀ k, k < a.heap.size → S k → T k) : Mod T a b :=
  ⟨h.os, h.tape, h.output, h.size, fun i hi hs => h.block i hi (fun hS => hs (hst i hi hS))⟩
theorem Mod.of_ext {S : Nat → Prop} {a b : World} (h : Ext a b) : Mod S a b := ⟨h.os, h.tape, h.output, h.size, fun i hi _ => h.block i hi⟩
theorem Mod.ext {S : Nat → Prop} {a b : World} (h : Mod S a b) (hs : ∀ k, S k → a.heap.size ≤ k) : Ext a b :=
  ⟨h.os, h.tape, h.output, h.size, fun i hi => h.block i hi (fun hS => by have := hs i hS; omega)⟩
theorem Mod.below {S : Nat → Prop} {B : Nat} {a b : World} (h : Mod S a b) (hB : B ≤ a.heap.size) (hs : ∀ k, S k → B ≤ k) : Below B a b :=
  ⟨h.os, h.tape, h.output, h.size, fun i hi => h.block i (by omega) (fun hS => by have := hs i hS; omega)⟩
theorem Mod.heap {S : Nat → Prop} {a b : World} (h : Mod S a b) {k : Nat} {o : Obj} (hk : a.heap[k]? = some o) (hs : ¬ S k) : b.heap[k]? = some o := by
  rw [h.block k (lt_of_block hk) hs]; exact hk
theorem Mod.alloc {S : Nat → Prop} {a w : World} (h : Mod S a w) (o : Obj) : Mod S a (w.alloc o) :=
  h.trans (Mod.of_ext ((Ext.refl w).alloc o))
theorem Mod.drew {S : Nat → Prop} {a w : World} (h : Mod S a w) : Mod S a w.drew := ⟨h.os, h.tape, h.output, h.size, h.block⟩
theorem Mod.setCell {S : Nat → Prop} {a w : World} (h : Mod S a w) {p : Addr} (hp : S p.block ∨ a.heap.size ≤ p.block) (u : Value) : Mod S a (w.setCell p u) :=
  ⟨h.os, h.tape, h.output, by simpa [World.setCell] using h.size, fun i hi hs => by
    rw [Below.heap_setCell _ _ _ _ (by rcases hp with hp | hp; (· intro e; subst e; exact hs hp); (· omega))]; exact h.block i hi hs⟩

end Go.Proofs.Yteefchbpojcklaa
