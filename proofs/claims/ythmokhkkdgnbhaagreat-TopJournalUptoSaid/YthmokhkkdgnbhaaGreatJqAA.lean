/- Words of our own on worlds: 'Ext w w'': nothing that was there has changed; 'Mod S w w'': w' is w but for new blocks and the blocks in S; a region that draws its order walked over all later worlds. Identifiers: the lexer's test and the reference's, walked. Slices in memory: a source that can be read, a row of one's own, an append; blocks written cell by cell. No program in sight, no condition. A region that draws its order: operations that only read and calls that only compute, ahead of one operation on which all of them bear, and what follows that one in its order. One walk: the head over all later worlds, the tail in the world that the head has left. What is known of a value that came in and can be read as data: its cells, part by part. No program in sight, no condition. Facts that hold in every later world, found by the chain of worlds that the walk has come through; slices of aggregates. No program in sight, no condition. The plain arithmetic of fixed-width unsigned integers: what the functions of layer 1 compute, and the laws between them. No program in sight, no condition. The plain side of layer 2: bits of a list of bytes. No program in sight, no condition. The readers of layer 2, walked. The functions of layer 1 and of its reference, walked: each returns what Bv says. Pack and Unpack, walked. The laws of layer 2: what they share. The rest of layer 1: prefix masks, and the reference's functions. The laws of layer 2, walked: packing again what was unpacked. Headers: their data, and the small functions of package header and of its reference, walked. Headers: Check of the package, walked. Headers: Check of the reference, Bits of both, walked. Headers: the example of the chapter, walked. Programs and environments: their data. No condition. -/
import Derived.BigQuiet
import Derived.Deep.Cut
import Derived.Deep.CutRange
import Derived.Deep.DeepCutAuto
import Derived.Deep.DeepFit
import Derived.Deep.DeepMust
import Derived.Deep.RegionHeld3
import Derived.Handy
import Derived.Laws.AppendOwnNone
import Derived.Lib.Hide
import Derived.OneCell
import Derived.OpenShut
import Derived.ProofKit
import Derived.StillTail
import Derived.Test.YthmokhkkdgnbhaaGreatProg
import Derived.WalkKit
set_option maxRecDepth 8000
set_option maxHeartbeats 16000000
namespace Go.Proofs.YthmokhkkdgnbhaaGreat
open Go.RowKit
/-- Nothing that was there has changed. -/
def Ext (w w' : World) : Prop := Below w.heap.size w w'
theorem Ext.refl (w : World) : Ext w w := Below.refl _ _
theorem Ext.trans {a b c : World} (h : Ext a b) (k : Ext b c) : Ext a c := Below.trans h (k.mono h.size)
theorem Ext.alloc {a w : World} (h : Ext a w) (o : Obj) : Ext a (w.alloc o) := Below.alloc h h.size o
theorem Ext.drew {a w : World} (h : Ext a w) : Ext a w.drew := Below.drew h
theorem Ext.setCell {a w : World} (h : Ext a w) {p : Addr} (hp : a.heap.size ≤ p.block) (u : Value) : Ext a (w.setCell p u) := Below.setCell h hp u
theorem Ext.heap {a w : World} (h : Ext a w) {k : Nat} {o : Obj} (hk : a.heap[k]? = some o) : w.heap[k]? = some o := by
 rw [h.block k (lt_of_block hk)]; exact hk
theorem Ext.le {a w : World} (h : Ext a w) : a.heap.size ≤ w.heap.size := h.size
theorem Ext.cell {a w : World} (h : Ext a w) {p : Addr} {v : Value} (hc : a.cell? p = some v) : w.cell? p = some v := by
 rw [Below.cell h (World.block_lt_of_cell? _ _ hc)]; exact hc
/-- A world in which nothing of W has changed. -/
structure Later (W : World) where
 val : World
 ext : Ext W val
instance (W : World) : Nonempty (Later W) := ⟨⟨W, Ext.refl W⟩⟩
/-- what a call that only computes leaves: its result, and a later world -/
def Rets (W : World) (v : Value) (e : Ending) (w' : World) : Prop := e = .returned v ∧ Ext W w'
theorem Rets.later {P : Program} {f : FuncId} {args : Array Value} {W : World} {v : Value} (h : ∀ w, Calls P f args w (Rets w v)) (x : Later W) :
 Calls P f args x.val fun e w' => e = .returned v ∧ ∃ y : Later W, w' = y.val :=
 (h x.val).mono fun _ w' ⟨he, hx⟩ => ⟨he, ⟨w', x.ext.trans hx⟩, rfl⟩
theorem Rets.later_at {P : Program} {f : FuncId} {args : Array Value} {W : World} {v : Value} {x : Later W} (h : Calls P f args x.val (Rets x.val v)) :
 Calls P f args x.val fun e w' => e = .returned v ∧ ∃ y : Later W, w' = y.val :=
 h.mono fun _ w' ⟨he, hx⟩ => ⟨he, ⟨w', x.ext.trans hx⟩, rfl⟩
theorem Rets.of_eq {P : Program} {f : FuncId} {args : Array Value} {W : World} {v : Value} (h : Calls P f args W fun e w' => e = .returned v ∧ W = w') : Calls P f args W (Rets W v) :=
 h.mono fun _ _ ⟨he, hx⟩ => ⟨he, by subst hx; exact Ext.refl _⟩
/-- A region that draws its order, whose operations only read and whose calls only compute: ONE walk over all later worlds. -/
theorem wp_region_later {P : Program} {id : Nat} {Q : Exit → Act → World → Prop} {a : Act} {w W : World} {l : List Oper} (hm : P.follows .mixedOrders = true) (hB : Region.lexB .any l.toArray = true) (hW : Ext W w)
 (h : wpQuiet P l.toArray (fun w' => ∃ x : Later W, w' = x.val) (fun a' => ∀ w' : World, Ext W w' → Q .normal a' w') l a) : (Code.region id l.toArray true).wp P Q a w :=
 wp_region_quiet (C := fun w' => ∃ x : Later W, w' = x.val) hm hB ⟨⟨_, hW.drew⟩, rfl⟩ (by
  have e : (fun a' => ∀ w' : World, (∃ x : Later W, w' = x.val) → Q .normal a' w') = fun a' => ∀ w' : World, Ext W w' → Q .normal a' w' := by
   funext a'; apply propext
   exact ⟨fun h w' hw => h w' ⟨⟨w', hw⟩, rfl⟩, fun h w' ⟨x, hx⟩ => by subst hx; exact h x.val x.ext⟩
  rw [e]; simpa using h)
/-- w' is w with new blocks, and with changes to the blocks of S alone. -/
structure Mod (S : Nat → Prop) (w w' : World) : Prop where
 os : w'.os = w.os
 tape : w'.tape = w.tape
 output : w'.output = w.output
 size : w.heap.size ≤ w'.heap.size
 block : ∀ k, k < w.heap.size → ¬ S k → w'.heap[k]? = w.heap[k]?
theorem Mod.refl (S : Nat → Prop) (w : World) : Mod S w w := ⟨rfl, rfl, rfl, Nat.le_refl _, fun _ _ _ => rfl⟩
theorem Mod.trans {S : Nat → Prop} {a b c : World} (h : Mod S a b) (k : Mod S b c) : Mod S a c :=
 ⟨k.os.trans h.os, k.tape.trans h.tape, k.output.trans h.output, Nat.le_trans h.size k.size,
  fun i hi hs => (k.block i (Nat.lt_of_lt_of_le hi h.size) hs).trans (h.block i hi hs)⟩
theorem Mod.mono {S T : Nat → Prop} {a b : World} (h : Mod S a b) (hst : ∀ k, k < a.heap.size → S k → T k) : Mod T a b :=
 ⟨h.os, h.tape, h.output, h.size, fun i hi hs => h.block i hi (fun hS => hs (hst i hi hS))⟩
theorem Mod.of_ext {S : Nat → Prop} {a b : World} (h : Ext a b) : Mod S a b := ⟨h.os, h.tape, h.output, h.size, fun i hi _ => h.block i hi⟩
theorem Mod.heap {S : Nat → Prop} {a b : World} (h : Mod S a b) {k : Nat} {o : Obj} (hk : a.heap[k]? = some o) (hs : ¬ S k) : b.heap[k]? = some o := by
 rw [h.block k (lt_of_block hk) hs]; exact hk
theorem Mod.alloc {S : Nat → Prop} {a w : World} (h : Mod S a w) (o : Obj) : Mod S a (w.alloc o) :=
 h.trans (Mod.of_ext ((Ext.refl w).alloc o))
theorem Mod.drew {S : Nat → Prop} {a w : World} (h : Mod S a w) : Mod S a w.drew := ⟨h.os, h.tape, h.output, h.size, h.block⟩
theorem Mod.setCell {S : Nat → Prop} {a w : World} (h : Mod S a w) {p : Addr} (hp : S p.block ∨ a.heap.size ≤ p.block) (u : Value) : Mod S a (w.setCell p u) :=
 ⟨h.os, h.tape, h.output, by simpa [World.setCell] using h.size, fun i hi hs => by
  rw [Below.heap_setCell _ _ _ _ (by rcases hp with hp | hp; (· intro e; subst e; exact hs hp); (· omega))]; exact h.block i hi hs⟩
theorem Lh {p : Prop} (h : p) : Hid p := Lib.hid h
theorem tkS {α : Type} {a : α} {l : List α} {i : Nat} : (a :: l).take (i + 1) = a :: l.take i := List.take_succ_cons
theorem tkZ {α : Type} {l : List α} : l.take 0 = [] := List.take_zero
theorem dpS {α : Type} {a : α} {l : List α} {i : Nat} : (a :: l).drop (i + 1) = l.drop i := List.drop_succ_cons
theorem dpZ {α : Type} {l : List α} : l.drop 0 = l := List.drop_zero
theorem stS {α : Type} {x : α} {xs : List α} {n : Nat} {a : α} : (x :: xs).set (n + 1) a = x :: xs.set n a := List.set_cons_succ
theorem stZ {α : Type} {x : α} {xs : List α} {a : α} : (x :: xs).set 0 a = a :: xs := List.set_cons_zero
theorem stA {α : Type} (l : List α) (i : Nat) (a : α) : l.toArray.setIfInBounds i a = (l.set i a).toArray := List.setIfInBounds_toArray l i a
theorem dF {p : Prop} [Decidable p] (h : ¬ p) : decide p = false := decide_eq_false h
theorem dTt {p : Prop} [Decidable p] (h : p) : decide p = true := decide_eq_true h
theorem bF {a b : Int} (h : a ≠ b) : (a == b) = false := beq_eq_false_iff_ne.2 h
theorem bT {a b : Int} (h : a = b) : (a == b) = true := beq_iff_eq.2 h
theorem nT {a b : Int} (h : a ≠ b) : (a != b) = true := bne_iff_ne.2 h
theorem szA (w : World) (o : Obj) : (w.alloc o).heap.size = w.heap.size + 1 := World.size_alloc w o
theorem eR (w : World) : Ext w w := Ext.refl w
theorem gE {α : Type} {l : List α} {i : Nat} (h : i < l.length) : l[i]? = some l[i] := List.getElem?_eq_getElem h
namespace Id
theorem ret_bool {a b : Bool} (h : a = b) : Ending.returned (.bool a) = .returned (.bool b) := by rw [h]
def isL (c : Int) : Bool := (decide (97 ≤ c) && decide (c ≤ 122)) || (decide (65 ≤ c) && decide (c ≤ 90))
def isD (c : Int) : Bool := decide (48 ≤ c) && decide (c ≤ 57)
def isC (c : Int) : Bool := isL c || isD c || (c == 95)
def ex : List UInt8 → Nat
 | [] => 0
 | c :: l => if isC c.toNat then ex l + 1 else 0
theorem ex_le : ∀ l : List UInt8, ex l ≤ l.length
 | [] => Nat.le_refl _
 | c :: l => by unfold ex; split <;> simp <;> have := ex_le l <;> omega
theorem ex_all : ∀ l : List UInt8, ex l = l.length ↔ l.all (fun c => isC c.toNat) = true
 | [] => by simp [ex]
 | c :: l => by
  have ih := ex_all l
  unfold ex
  by_cases h : isC c.toNat = true
  ·simp [h, ih]
  ·simp [h]
/-- an identifier -/
def ok (s : ByteArray) : Bool := decide (1 ≤ s.size) && decide (s.size ≤ 16) && isL (s.data.toList.head?.getD 0).toNat && s.data.toList.all (fun c => isC c.toNat)
theorem drop_step (s : ByteArray) (k : Nat) (h : k < s.size) : s.data.toList.drop k = s[k] :: s.data.toList.drop (k + 1) := by
 rw [List.drop_eq_getElem_cons (by simpa using h)]; rfl
theorem head_at (s : ByteArray) (h : 0 < s.size) : s.data.toList.head?.getD 0 = s[0] := by
 rw [List.head?_eq_getElem?, gE (by simpa using h)]; rfl
end Id
theorem letter_any (c : Int) (W : World) : Calls Tryz.prog 154 #[.int .u8 c] W fun e W' => e = .returned (.bool (Id.isL c)) ∧ W = W' := by
 by_cases h1 : 97 ≤ c <;> by_cases h2 : c ≤ 122 <;> by_cases h3 : 65 ≤ c <;> by_cases h4 : c ≤ 90 <;> first | omega | skip
 all_goals
  go_enter Tryz.func154, Tryz.ntmps154
  go_wp2
  go_ret
  exact ⟨by simp [Id.isL] <;> omega, rfl⟩
theorem digit_any (c : Int) (W : World) : Calls Tryz.prog 157 #[.int .u8 c] W fun e W' => e = .returned (.bool (Id.isD c)) ∧ W = W' := by
 by_cases h1 : 48 ≤ c <;> by_cases h2 : c ≤ 57 <;> first | omega | skip
 all_goals
  go_enter Tryz.func157, Tryz.ntmps157
  go_wp2
  go_ret
  exact ⟨by simp [Id.isD] <;> omega, rfl⟩
theorem idchar_any (c : Int) (W : World) : Calls Tryz.prog 156 #[.int .u8 c] W fun e W' => e = .returned (.bool (Id.isC c)) ∧ W = W' := by
 cases h1 : Id.isL c <;> cases h2 : Id.isD c
 all_goals
  go_enter Tryz.func156, Tryz.ntmps156
  go_wp2_with (first
   | (go_at_call 154; refine (letter_any _ _).mono ?_; rintro e w1 ⟨rfl, rfl⟩)
   | (go_at_call 157; refine (digit_any _ _).mono ?_; rintro e w1 ⟨rfl, rfl⟩))
  go_ret
  exact ⟨by simp [Id.isC, h1, h2], rfl⟩
theorem extent_any (s : ByteArray) (W : World) (hs : s.size ≤ maxLen) :
 Calls Tryz.prog 155 #[.string s, .func (.func 156) #[] #[]] W fun e W' => e = .returned (.int .i64 (Id.ex s.data.toList)) ∧ W = W' := by
 unfold maxLen at hs
 go_enter Tryz.func155, Tryz.ntmps155
 go_wp2
 go_loop [5] (fun i => ∃ k : Nat, k ≤ s.size ∧ i = .int .i64 k ∧ Hid (k + Id.ex (s.data.toList.drop k) = Id.ex s.data.toList)) (fun i => s.size - (intOf i).toNat)
 case atStart => exact ⟨0, Nat.zero_le _, rfl, Lh (by simp)⟩
 case round =>
  obtain ⟨k, hk, rfl, HE⟩ := hrel
  by_cases hlt : k < s.size
  ·have hd := Id.drop_step s k hlt
   cases hc : Id.isC s[k].toNat
   ·have HF : Hid (Id.ex (s.data.toList.drop k) = 0) := Lh (by rw [hd]; simp [Id.ex, hc])
    clear hd
    go_wp2_with (go_at_call 156; refine (idchar_any _ _).mono ?_; rintro e w1 ⟨rfl, rfl⟩; rw [hc])
    go_ret
    exact ⟨by have := HE.out; rw [HF.out] at this; rw [← this]; rfl, rfl⟩
   ·have HF : Hid (Id.ex (s.data.toList.drop k) = Id.ex (s.data.toList.drop (k + 1)) + 1) := Lh (by rw [hd]; simp [Id.ex, hc])
    clear hd
    go_wp2_with (go_at_call 156; refine (idchar_any _ _).mono ?_; rintro e w1 ⟨rfl, rfl⟩; rw [hc])
    go_round
    case rel => exact ⟨k + 1, by omega, by go_num, Lh (by have := HE.out; rw [HF.out] at this; omega)⟩
    case measure => simp [intOf]; omega
  ·obtain rfl : k = s.size := by omega
   go_wp2
   go_ret
   exact ⟨by have := HE.out; rw [List.drop_eq_nil_of_le (by simp)] at this; rw [← this]; rfl, rfl⟩
theorem ident_any (s : ByteArray) (W : World) (hs : s.size ≤ maxLen) :
 Calls Tryz.prog 124 #[.string s] W fun e W' => e = .returned (.bool (Id.ok s)) ∧ W = W' := by
 have hs2 := hs
 unfold maxLen at hs2
 by_cases h0 : s.size = 0
 ·have e : Id.ok s = false := by simp [Id.ok, h0]
  rw [e]
  go_enter Tryz.func124, Tryz.ntmps124
  go_wp2
  go_ret
  exact ⟨rfl, rfl⟩
 ·by_cases h16 : s.size ≤ 16
  ·have hpos : 0 < s.size := by omega
   have hh := Id.head_at s hpos
   have hne : ¬ (s.size : Int) = 0 := by omega
   have hne2 : ((s.size : Int) == 0) = false := by rw [beq_eq_false_iff_ne]; omega
   cases hL : Id.isL s[0].toNat
   ·have e : Id.ok s = false := by simp [Id.ok, hh, hL]
    rw [e]
    clear hh e
    go_enter Tryz.func124, Tryz.ntmps124
    go_wp2_with (go_at_call 154; refine (letter_any _ _).mono ?_; rintro e w1 ⟨rfl, rfl⟩; rw [hL])
    go_ret
    exact ⟨rfl, rfl⟩
   ·have e : Id.ok s = decide (Id.ex s.data.toList = s.size) := by
     have h1 := Id.ex_all s.data.toList
     have h2 : s.data.toList.length = s.size := by simp
     rw [h2] at h1
     rw [Bool.eq_iff_iff, decide_eq_true_iff, h1]
     simp [Id.ok, hh, hL, h16]; omega
    have HE := Lh e
    clear hh e
    go_enter Tryz.func124, Tryz.ntmps124
    go_wp2_with (first
     | (go_at_call 154; refine (letter_any _ _).mono ?_; rintro e w1 ⟨rfl, rfl⟩; rw [hL])
     | (go_at_call 155; refine (extent_any s _ hs).mono ?_; rintro e w1 ⟨rfl, rfl⟩))
    go_ret
    exact ⟨by rw [HE.out]; exact Id.ret_bool (by by_cases h : Id.ex s.data.toList = s.size <;> simp [h] <;> omega), rfl⟩
  ·have e : Id.ok s = false := by simp [Id.ok, h16]
   rw [e]
   have h17 : 16 < s.size := by omega
   have hne2 : ((s.size : Int) == 0) = false := by rw [beq_eq_false_iff_ne]; omega
   go_enter Tryz.func124, Tryz.ntmps124
   go_wp2
   go_ret
   exact ⟨rfl, rfl⟩
/-- the slice x holds m elements of sz cells, the cells xs -/
def Src (w : World) (x : Value) (sz m : Nat) (xs : List Value) : Prop :=
 xs.length = m * sz ∧ (∀ u ∈ xs, u.oneCell' = true) ∧ ((x = .slice none 0 0 ∧ m = 0) ∨ ∃ ad c, x = .slice (some ad) m c ∧ ∀ j u, xs[j]? = some u → w.cell? (ad.add j) = some u)
theorem Src.ext {w w' : World} {x : Value} {sz m : Nat} {xs : List Value} (h : Src w x sz m xs) (hx : Ext w w') : Src w' x sz m xs := by
 obtain ⟨h1, h2, h3⟩ := h
 refine ⟨h1, h2, ?_⟩
 rcases h3 with h3 | ⟨ad, c, h3, h4⟩
 ·exact .inl h3
 ·exact .inr ⟨ad, c, h3, fun j u hj => hx.cell (h4 j u hj)⟩
theorem grown_mod {w w' : World} {row : Option Nat} (h : w.grownBy w' row) : Mod (fun k => some k = row) w w' :=
 ⟨h.os, h.tape, h.output, h.size, fun k hk hs => h.block k hk hs⟩
/-- append to a row of one's own: the row stays where it is, or the new one lies in a new block -/
theorem run_append_fresh {P : Program} (w : World) (base : Nat) (t ty e : TypeId) (i : TypeInfo) (z : Value) (size bytes : Nat) (ht : P.underlying t = some (.slice e)) (hi : P.info? e = some i) (hz : i.zero = some z)
 (hsize : i.size = size) (hby : i.bytes = bytes) (hzs : z.cells.size = size) (hsz : 0 < size)
 (v : Value) (n : Nat) (xs : List Value) (hown : w.ownsRow base e size v n xs)
 (a : Addr) (m c : Nat) (news : List Value) (hl : news.length = m * size) (hnews : ∀ j u, news[j]? = some u → w.cell? (a.add j) = some u) (h1 : ∀ u ∈ news, u.oneCell' = true)
 (h63 : n + m ≤ maxLen) (hbytes : (n + m) * bytes ≤ 140737488355328) (hbase : base ≤ w.heap.size) :
 ∃ v' w', (Builtin.append_ #[t, t] ty #[v, .slice (some a) m c]).run P w = .ok v' w' ∧ w'.ownsRow base e size v' (n + m) (xs ++ news) ∧ w.grownBy w' v.ownBlock ∧
  (v'.ownBlock = v.ownBlock ∨ ∀ k, v'.ownBlock = some k → w.heap.size ≤ k) := by
 obtain ⟨v', w', hr, h2, h3, _⟩ := run_append_own (P := P) w base t ty e i z size bytes ht hi hz hsize hby hzs hsz v n xs hown a m c news hl hnews h1 h63 hbytes hbase
 refine ⟨v', w', hr, h2, h3, ?_⟩
 rcases hown.2 with ⟨rfl, rfl⟩ | ⟨g, cap, cur, rfl, hbg, hg, hnc, hcm, hcs, htk⟩
 ·right
  have hx : xs = [] := List.eq_nil_of_length_eq_zero (by simpa using hown.1)
  subst hx
  obtain ⟨v2, w2, hr2, k2, _, _⟩ := run_append_own (P := P) w w.heap.size t ty e i z size bytes ht hi hz hsize hby hzs hsz _ 0 [] (World.ownsRow_nil w w.heap.size e size) a m c news hl hnews h1 h63 hbytes (Nat.le_refl _)
  rw [hr] at hr2
  simp only [Result.ok.injEq] at hr2
  obtain ⟨rfl, rfl⟩ := hr2
  exact fun k hk => (k2.lt k hk).1
 ·subst hsize
  subst hby
  by_cases hroom : n + m ≤ cap
  ·left
   have hfit : n * i.size + news.length ≤ cur.size := by rw [hl, hcs, ← Nat.add_mul]; exact Nat.mul_le_mul_right _ hroom
   have hr2 := run_append_room (P := P) w t ty e i ht hi g n cap cur hg a m c news hl hnews h1 hroom hfit
   rw [hr] at hr2
   simp only [Result.ok.injEq] at hr2
   rw [hr2.1]; rfl
  ·right
   have hsmall : n + m ≤ 9223372036854775807 := by simp only [maxLen] at h63; omega
   have hr2 := run_append_grow (P := P) w t ty e i z ht hi hz ⟨g, 0, none⟩ n cap xs hown.1 (hown.cells (g := g) rfl) a m c news hl hnews (by omega) (by omega) (growslice_fits (by omega) hbytes)
   rw [hr] at hr2
   simp only [Result.ok.injEq] at hr2
   rw [hr2.1]
   intro k hk
   simp only [Value.ownBlock, Option.some.injEq] at hk
   omega
theorem wpList_append_fresh {P : Program} {w : World} {ops : Array Oper} {rest : List Oper} {o : Oper} {a : Act} {Q : Exit → Act → World → Prop} (hgd : o.guard = none) (s x : Operand) (t : TypeId)
 (ho : o.op = .call { callee := .builtin .append, args := #[s, x], argTypes := #[t, t] })
 (base : Nat) (e : TypeId) (z : Value) (size bytes : Nat) (ht : P.underlying t = some (.slice e)) (hi : (P.info? e).map (fun i => (i.zero, i.size, i.bytes)) = some (some z, size, bytes))
 (hzs : z.cells.size = size) (hsz : 0 < size)
 (v : Value) (n : Nat) (xs : List Value) (hs : a.eval s = v) (hown : w.ownsRow base e size v n xs)
 (y : Value) (m : Nat) (news : List Value) (hx : a.eval x = y) (hsrc : Src w y size m news)
 (h63 : n + m ≤ maxLen) (hbytes : (n + m) * bytes ≤ 140737488355328) (hbase : base ≤ w.heap.size)
 (h : ∀ v' w', w'.ownsRow base e size v' (n + m) (xs ++ news) → w.grownBy w' v.ownBlock → (v'.ownBlock = v.ownBlock ∨ ∀ k, v'.ownBlock = some k → w.heap.size ≤ k) → wpList P ops Q rest (a.put o.dst v') w') : wpList P ops Q (o :: rest) a w := by
 obtain ⟨i, hi, hz, hs1, hs2⟩ := info_parts hi
 obtain ⟨h1, h2, h3⟩ := hsrc
 rcases h3 with ⟨rfl, rfl⟩ | ⟨ad, c, rfl, h4⟩
 ·obtain rfl : news = [] := List.eq_nil_of_length_eq_zero (by simpa using h1)
  refine wpList_append_own_none hgd s x t ho base e i size ht hi v n xs hs hown hx ?_
  exact h v w (by simpa using hown) ⟨rfl, rfl, rfl, Nat.le_refl _, fun _ _ _ => rfl⟩ (.inl rfl)
 ·refine wpList_plain hgd fun _ hK => ?_
  obtain ⟨v', w', hr, k2, k3, k4⟩ := run_append_fresh (P := P) w base t o.type e i z size bytes ht hi hz hs1 hs2 hzs hsz v n xs hown ad m c news h1 h4 h2 h63 hbytes hbase
  unfold Oper.wp execOp
  simp only [ho, resolve, invoke, builtin, Sem.run_bind, Sem.run_pure, Result.andThen_ok, List.map_toArray, List.map_cons, List.map_nil, hs, hx, hr]
  exact hK _ _ (h v' w' k2 k3 k4)
theorem own_slice {w : World} {base : Nat} {e : TypeId} {size : Nat} {v : Value} {n : Nat} {xs : List Value} (h : w.ownsRow base e size v n xs) : ∃ oa c, v = .slice oa n c := by
 rcases h.2 with ⟨rfl, rfl⟩ | ⟨g, cap, cur, rfl, _⟩
 ·exact ⟨none, 0, rfl⟩
 ·exact ⟨_, _, rfl⟩
theorem own_ext {w w' : World} {base : Nat} {e : TypeId} {size : Nat} {v : Value} {n : Nat} {xs : List Value} (h : w.ownsRow base e size v n xs) (hx : Ext w w') : w'.ownsRow base e size v n xs := by
 obtain ⟨h1, h2⟩ := h
 refine ⟨h1, ?_⟩
 rcases h2 with h2 | ⟨g, cap, cur, rfl, hb, hg, r⟩
 ·exact .inl h2
 ·exact .inr ⟨g, cap, cur, rfl, hb, hx.heap hg, r⟩
theorem own_mod {S : Nat → Prop} {w w' : World} {base : Nat} {e : TypeId} {size : Nat} {v : Value} {n : Nat} {xs : List Value} (h : w.ownsRow base e size v n xs) (hx : Mod S w w') (hs : ∀ k, v.ownBlock = some k → ¬ S k) : w'.ownsRow base e size v n xs := by
 obtain ⟨h1, h2⟩ := h
 refine ⟨h1, ?_⟩
 rcases h2 with h2 | ⟨g, cap, cur, rfl, hb, hg, r⟩
 ·exact .inl h2
 ·exact .inr ⟨g, cap, cur, rfl, hb, hx.heap hg (hs g rfl), r⟩
theorem own_base {w : World} {base base' : Nat} {e : TypeId} {size : Nat} {v : Value} {n : Nat} {xs : List Value} (h : w.ownsRow base e size v n xs) (hb : base' ≤ base) : w.ownsRow base' e size v n xs := by
 obtain ⟨h1, h2⟩ := h
 refine ⟨h1, ?_⟩
 rcases h2 with h2 | ⟨g, cap, cur, rfl, hg, r⟩
 ·exact .inl h2
 ·exact .inr ⟨g, cap, cur, rfl, by omega, r⟩
/-- a row of one's own is a source -/
theorem own_src {w : World} {base : Nat} {e : TypeId} {size : Nat} {v : Value} {n : Nat} {xs : List Value} (h : w.ownsRow base e size v n xs) (h1 : ∀ u ∈ xs, u.oneCell' = true) : Src w v size n xs := by
 refine ⟨h.1, h1, ?_⟩
 rcases h.2 with hn | ⟨g, cap, cur, rfl, hb, hg, r⟩
 ·exact .inl hn
 ·exact .inr ⟨_, _, rfl, fun j u hj => h.cells rfl j u hj⟩
theorem add_mk (b o j : Nat) : (⟨b, o, none⟩ : Addr).add j = ⟨b, o + j, none⟩ := by
 unfold Addr.add; split
 ·rename_i h; subst h; rfl
 ·rfl
theorem setCell_heap {w : World} {p o : Nat} {c : Array Value} {t : TypeId} {f : Nat × Nat} {v : Value} (h : w.heap[p]? = some (.cells c t f)) : (w.setCell ⟨p, o, none⟩ v).heap[p]? = some (.cells (c.setIfInBounds o v) t f) := by
 have hlt := lt_of_block h
 show (w.heap.modify p _)[p]? = _
 have h' : w.heap[p] = .cells c t f := by simpa [Array.getElem?_eq_getElem hlt] using h
 rw [Array.getElem?_eq_getElem (by simpa using hlt), Array.getElem_modify_self, h']
 rfl
theorem cell_of {w : World} {p o : Nat} {c : Array Value} {t : TypeId} {f : Nat × Nat} (h : w.heap[p]? = some (.cells c t f)) : w.cell? ⟨p, o, none⟩ = c[o]? := by simp [World.cell?, h]
theorem free_of {w : World} {p o : Nat} {c : Array Value} {t : TypeId} (h : w.heap[p]? = some (.cells c t (0, 0))) : w.frozen? ⟨p, o, none⟩ = false := by simp [World.frozen?, h]
theorem alloc_heap (w : World) (o : Obj) : (w.alloc o).heap[w.heap.size]? = some o := heap_alloc_new w o
/-- two blocks of different makes are two -/
theorem ne_of_type {w : World} {p q : Nat} {c d : Array Value} {t u : TypeId} {f g : Nat × Nat} (h : w.heap[p]? = some (.cells c t f)) (k : w.heap[q]? = some (.cells d u g)) (hn : t ≠ u) : p ≠ q := by
 intro e; subst e; rw [h] at k; simp at k; exact hn k.2.1
/-- a source that is not empty: where it lies -/
theorem Src.at {w : World} {ad : Addr} {n m c : Nat} {xs : List Value} (h : Src w (.slice (some ad) n c) 1 m xs) (hm : 0 < m) : ad = ⟨ad.block, ad.off, none⟩ ∧ n = m ∧ ∀ j u, xs[j]? = some u → w.cell? ⟨ad.block, ad.off + j, none⟩ = some u := by
 obtain ⟨h1, _, h3⟩ := h
 rcases h3 with ⟨h3, _⟩ | ⟨ad', c', h3, h4⟩
 ·simp at h3
 ·simp only [Value.slice.injEq, Option.some.injEq] at h3
  obtain ⟨rfl, rfl, rfl⟩ := h3
  have h0 := h4 0 (xs[0]'(by omega)) (by simp)
  have e : ad = ⟨ad.block, ad.off, none⟩ := by
   have : ad.spot = none := by simpa [Addr.add] using World.cell?_spot h0
   cases ad; simp_all
  refine ⟨e, rfl, fun j u hj => ?_⟩
  have := h4 j u hj
  rw [e, add_mk] at this
  exact this
theorem Src.slice {w : World} {v : Value} {m : Nat} {xs : List Value} (h : Src w v 1 m xs) : ∃ oa c, v = .slice oa m c ∧ (oa = none → m = 0) := by
 rcases h.2.2 with ⟨rfl, rfl⟩ | ⟨ad, c, rfl, _⟩
 ·exact ⟨none, 0, rfl, fun _ => rfl⟩
 ·exact ⟨some ad, c, rfl, fun h => by cases h⟩
/-- the block that a variadic call lays: one element of one cell -/
theorem src_one (w : World) (u : Value) (t : TypeId) (h : u.oneCell' = true) : Src (w.alloc (.cells #[u] t)) (.slice (some ⟨w.heap.size, 0, none⟩) 1 1) 1 1 [u] :=
 ⟨rfl, fun v hv => by obtain rfl := List.mem_singleton.1 hv; exact h, .inr ⟨_, 1, rfl, fun j v hj => by
  cases j with
  | zero => simp at hj; subst hj; simp [Addr.add]
  | succ j => simp at hj⟩⟩
/-- two changes, the second within the first's blocks -/
theorem Mod.comp {S T : Nat → Prop} {a b c : World} (h : Mod S a b) (k : Mod T b c) (hst : ∀ i, i < a.heap.size → T i → S i) : Mod S a c :=
 ⟨k.os.trans h.os, k.tape.trans h.tape, k.output.trans h.output, Nat.le_trans h.size k.size,
  fun i hi hs => (k.block i (Nat.lt_of_lt_of_le hi h.size) (fun ht => hs (hst i hi ht))).trans (h.block i hi hs)⟩
theorem aH (w : World) (o : Obj) : (w.alloc o).heap[w.heap.size]? = some o := alloc_heap w o
theorem cQ {w : World} {k : Nat} {c : Array Value} {t : TypeId} {f : Nat × Nat} (o : Nat) (h : w.heap[k]? = some (.cells c t f)) : w.cell? ⟨k, o, none⟩ = c[o]? := cell_of (o := o) h
section
variable {P : Program} {ops : Array Oper} {md : Region.Mode} {C : World → Prop}
/-- the head's operations in whatever order, f of them to come, then L -/
def anyHead (P : Program) (md : Region.Mode) (ops : Array Oper) (C : World → Prop) (n : Nat) (L : Array Bool → Act → Prop) : Nat → Array Bool → Act → Prop
 | 0, done, a => L done a
 | f + 1, done, a => Region.ready md ops done ≠ [] ∧ ∀ i ∈ Region.ready md ops done, i < n ∧ qOp P ops C i (anyHead P md ops C n L f (done.setIfInBounds i true)) a
theorem any_of_head {n g : Nat} {L : Array Bool → Act → Prop} {Q' : Exit → Act → World → Prop} (hL : ∀ done a w, C w → L done a → wpAny P md ops Q' g done a w) (f : Nat) :
 ∀ (done : Array Bool) (a : Act) (w : World), C w → anyHead P md ops C n L f done a → wpAny P md ops Q' (f + g) done a w := by
 induction f with
 | zero => intro done a w hw h; rw [Nat.zero_add]; exact hL _ _ _ hw h
 | succ f ih =>
  intro done a w hw h
  rw [show f + 1 + g = (f + g) + 1 by omega]
  exact ⟨fun h0 => absurd h0 h.1, fun i hi => wpOp_of_qOp hw (fun a' w' hw' h' => ih _ a' w' hw' h') (h.2 i hi).2⟩
/-- an operation of the head that may come up now may be taken first -/
theorem head_first {n i : Nat} {oi : Oper} {v : Value} {L : Array Bool → Act → Prop} (hi : ops[i]? = some oi) (hsel : ∀ (j : Nat) (o : Oper) cs b, ops[j]? = some o → o.op ≠ .select cs b)
 (hs : Region.sinkB md ops n = true) (hc : Region.chainB md ops n = true) (hn : n < ops.size) (hin : i < n) (hdone : ∀ done a, L done a → ∀ j ∈ Region.ready md ops done, n ≤ j) (f : Nat) :
 ∀ (done : Array Bool) (a : Act), HeadInv md ops n done →
  (∀ j oj, ops[j]? = some oj → j ≠ i → done.getD j true = false → (∀ e ∈ oj.after, Region.binds md e = true → e.on ≠ i) → oi.apart ops oj = true) →
  i ∈ Region.ready md ops done → YieldsIn P ops C oi v a →
  anyHead P md ops C n L f (done.setIfInBounds i true) (a.put oi.dst v) → anyHead P md ops C n L (f + 1) done a := by
 induction f with
 | zero =>
  intro done a inv _ hr hy H
  have hun := (mem_ready.1 hr).1
  refine ⟨fun h => (by rw [h] at hr; cases hr), fun j hj => ?_⟩
  have hjn : j < n := Nat.lt_of_not_le fun h => absurd hj (tail_waits hs hc hn inv _ i rfl hin hun j h)
  refine ⟨hjn, ?_⟩
  by_cases hji : j = i
  ·subst hji; exact hy.qOp hi H
  ·have := hdone _ _ H j (ready_mono hj hji); omega
 | succ f ih =>
  intro done a inv hfree hr hy H
  have hun := (mem_ready.1 hr).1
  refine ⟨fun h => (by rw [h] at hr; cases hr), fun j hj => ?_⟩
  have hjn : j < n := Nat.lt_of_not_le fun h => absurd hj (tail_waits hs hc hn inv _ i rfl hin hun j h)
  refine ⟨hjn, ?_⟩
  by_cases hji : j = i
  ·subst hji; exact hy.qOp hi H
  ·obtain ⟨hjun, oj, hoj, hall⟩ := mem_ready.1 hj
   have hnot : ∀ e ∈ oj.after, Region.binds md e = true → e.on ≠ i := fun e he hb heq => by
    have h1 := hall e he hb
    rw [heq, getD_both hun] at h1; cases h1
   have h2 := qOp_put hoj (hfree j oj hoj hji hjun hnot) (fun cs b => hsel i oi cs b hi) (fun cs b => hsel j oj cs b hoj) hy (H.2 j (ready_mono hj hji)).2
   refine qOp_mono (fun a' h3 => ih (done.setIfInBounds j true) a' (inv.set hj hjn) (fun k ok hk hki hkun hno => hfree k ok hk hki ?_ hno) (ready_mono hr (Ne.symm hji)) h3.1 ?_) h2
   ·by_cases hjk : j = k
    ·subst hjk; exact hjun
    ·rw [getD_set_ne true hjk] at hkun; exact hkun
   ·rw [Array.setIfInBounds_comm _ _ hji]; exact h3.2
theorem head_lex {n g : Nat} {Lq : Act → Prop} (hsel : Region.noSelect ops = true) (hs : Region.sinkB md ops n = true) (hc : Region.chainB md ops n = true) (hn : n < ops.size) (l : List Oper) :
 ∀ (k : Nat) (done : Array Bool) (a : Act), (∀ j, j < l.length → l[j]? = ops[k + j]?) → k + l.length = n → HeadInv md ops n done →
 Region.lexHead md ops g l.length k done = true → wpQuiet P ops C Lq l a →
 anyHead P md ops C n (fun done' a' => Region.seqB md ops g n done' = true ∧ Lq a') l.length done a := by
 induction l with
 | nil =>
  intro k done a _ hk _ hB h
  obtain rfl : k = n := by simpa using hk
  exact ⟨by simpa [Region.lexHead] using hB, h⟩
 | cons o l ih =>
  intro k done a hl hk inv hB h
  have h0 : ops[k]? = some o := by simpa using (hl 0 (by simp)).symm
  simp only [List.length_cons, Region.lexHead, Bool.and_eq_true] at hB
  obtain ⟨⟨hr, hf⟩, hB'⟩ := hB
  have hkn : k < n := by simp only [List.length_cons] at hk; omega
  have hr' : k ∈ Region.ready md ops done := by simpa using hr
  have hst : qOp P ops C k (wpQuiet P ops C Lq l) a := by unfold qOp; simp only [h0]; exact h
  obtain ⟨v, hy, hK⟩ := yieldsIn_of_qOp h0 hst
  exact head_first h0 (Region.noSelect_spec hsel) hs hc hn hkn (fun _ _ hL => seqB_ready hL.1) l.length done a inv (Region.free_spec h0 hf) hr' hy
   (ih (k + 1) _ _ (fun j hj => by have := hl (j + 1) (by simp; omega); simpa [Nat.add_assoc, Nat.add_comm 1 j] using this) (by simp only [List.length_cons] at hk; omega) (inv.set hr' hkn) hB' hK)
end
/-- The region's wp: the first n operations quietly over all later worlds, the others in order behind them. -/
theorem wp_region_later_tail {P : Program} {id : Nat} {Q : Exit → Act → World → Prop} {a : Act} {w W : World} {l : List Oper} (n : Nat) (hm : P.follows .mixedOrders = true) (hB : Region.lexTailB .any l.toArray n = true) (hW : Ext W w)
 (h : wpQuiet P l.toArray (fun w' => ∃ x : Later W, w' = x.val) (fun a' => ∀ w' : World, Ext W w' → wpList P l.toArray Q (l.drop n) a' w') (l.take n) a) : (Code.region id l.toArray true).wp P Q a w := by
 simp only [Region.lexTailB, Bool.and_eq_true, decide_eq_true_eq] at hB
 obtain ⟨⟨⟨⟨hsel, hn⟩, hs⟩, hc⟩, hlex⟩ := hB
 have hn' : n < l.length := by simpa using hn
 have htl : (l.take n).length = n := by simp; omega
 have hdl : (l.drop n).length = l.toArray.size - n := by simp
 have inv0 : HeadInv .any l.toArray n (Array.replicate l.toArray.size false) :=
  ⟨by simp, fun j oj _ hl => (by rw [getD_replicate_false] at hl; cases hl), fun t _ ht => getD_in (by simpa using ht) (getD_replicate_false _ _)⟩
 have H := head_lex (md := .any) (g := l.toArray.size - n) hsel hs hc hn (l.take n) 0 _ a (fun j hj => by
  rw [htl] at hj; simp [hj]) (by simpa using htl) inv0 (by rw [htl]; exact hlex) h
 refine wp_region_any hm ?_
 have := any_of_head (Q' := Q) (g := l.toArray.size - n) (fun done a' w' hw' hL => by
  obtain ⟨x, rfl⟩ := hw'
  have := wpAny_of_seq (md := .any) (Q' := Q) (l.drop n) n done a' x.val (fun j => by simp [List.getElem?_drop]) (by rw [hdl]; exact hL.1) (hL.2 x.val x.ext)
  rwa [hdl] at this) _ _ _ _ (⟨⟨_, hW.drew⟩, rfl⟩ : ∃ x : Later W, { w with drawn := w.drawn + 1 } = x.val) H
 rw [htl, show n + (l.toArray.size - n) = l.toArray.size by omega] at this
 exact this
/-- the cells cs can be read at type t -/
def Rd (P : Program) (W : World) (t : TypeId) (cs : List Value) : Prop :=
 ∃ (H : Type) (enc : TypeId × Value → H) (spare : Nat → Bool) (held : Bool) (fuel : Nat) (x : DataW H × List MemPlace), DataW.trod enc P W 0 spare held fuel t cs = some x
theorem mapM_get {α β : Type} {f : α → Option β} : ∀ {l : List α} {xs : List β}, l.mapM f = some xs → xs.length = l.length ∧ ∀ (i : Nat) (a : α), l[i]? = some a → f a = xs[i]?
 | [], xs, h => by
  simp only [List.mapM_nil] at h
  obtain rfl := Option.some.inj h.symm
  exact ⟨rfl, fun i a hi => by simp at hi⟩
 | a :: l, xs, h => by
  rw [List.mapM_cons] at h
  cases hf : f a with
  | none => rw [hf] at h; cases h
  | some b =>
   cases hl : l.mapM f with
   | none => rw [hf, hl] at h; cases h
   | some ys =>
    rw [hf, hl] at h
    obtain rfl := Option.some.inj h.symm
    obtain ⟨h1, h2⟩ := mapM_get hl
    refine ⟨by simp [h1], fun i c hi => ?_⟩
    cases i with
    | zero => simp at hi; subst hi; simpa using hf
    | succ i => simpa using h2 i c (by simpa using hi)
section
variable {P : Program} {W : World} {t : TypeId} {cs : List Value}
theorem Rd.int {k : IntKind} (hu : P.underlying t = some (.int k)) (h : Rd P W t cs) : ∃ n : Int, cs = [.int k n] ∧ (Lit.int k n).wf = true := by
 obtain ⟨H, enc, spare, held, fuel, x, hf⟩ := h
 obtain ⟨n, h1, _, h2⟩ := DataW.trod_int hu hf
 exact ⟨n, h1, h2⟩
theorem Rd.bool (hu : P.underlying t = some .bool) (h : Rd P W t cs) : ∃ b : Bool, cs = [.bool b] := by
 obtain ⟨H, enc, spare, held, fuel, x, hf⟩ := h
 cases fuel with
 | zero => simp [DataW.trod] at hf
 | succ n =>
  unfold DataW.trod at hf; rw [hu] at hf
  split at hf <;> simp_all
theorem Rd.string (hu : P.underlying t = some .string) (h : Rd P W t cs) : ∃ s : ByteArray, cs = [.string s] ∧ s.size ≤ maxLen := by
 obtain ⟨H, enc, spare, held, fuel, x, hf⟩ := h
 cases fuel with
 | zero => simp [DataW.trod] at hf
 | succ n =>
  unfold DataW.trod at hf; rw [hu] at hf
  split at hf <;> simp_all
theorem cells_get {W : World} {a : Addr} {n : Nat} {row : List Value} (h : W.cells? 0 a n = some row) : row.length = n ∧ ∀ j, j < n → W.cell? (a.add j) = row[j]? := by
 unfold World.cells? at h
 rw [if_pos (Nat.zero_le _)] at h
 obtain ⟨h1, h2⟩ := mapM_get h
 exact ⟨by simpa using h1, fun j hj => h2 j j (by simp [hj])⟩
theorem ok_struct {fs : Array Field} {base : Nat} {r : Reach} {v : Value} (hu : P.underlying t = some (.struct fs)) (ok : Value.okWide P W r base t v) : ∃ l : List Value, v = .agg l.toArray ∧ l.length = P.cellsOf t := by
 unfold Value.okWide at ok
 rw [hu] at ok
 obtain ⟨cs, rfl, hs, _⟩ := ok
 exact ⟨cs.toList, by simp, by simpa using hs⟩
end
/-- b follows a: nothing that a has was changed -/
class Step (a : outParam World) (b : World) : Prop where
 out : Ext a b
/-- b is reached from a by such steps -/
class Grows (a b : World) : Prop where
 out : Ext a b
instance Grows.same (a : World) : Grows a a := ⟨eR a⟩
instance (priority := low) Grows.step {a b c : World} [h : Step b c] [g : Grows a b] : Grows a c := ⟨g.out.trans h.out⟩
instance Step.alloc (w : World) (o : Obj) : Step w (w.alloc o) := ⟨(eR w).alloc o⟩
instance Step.drew (w : World) : Step w w.drew := ⟨(eR w).drew⟩
instance Step.later {W : World} (x : Later W) : Step W x.val := ⟨x.ext⟩
theorem grows {a b : World} [h : Grows a b] : Ext a b := h.out
theorem grows_le {a b : World} [h : Grows a b] : a.heap.size ≤ b.heap.size := h.out.le
/-- a cell, for good -/
theorem alw {W : World} {p : Addr} {v : Value} (h : W.cell? p = some v) (w : World) [g : Grows W w] : w.cell? p = some v := g.out.cell h
/-- a block, for good -/
theorem alwB {W : World} {k : Nat} {o : Obj} (h : W.heap[k]? = some o) (w : World) [g : Grows W w] : w.heap[k]? = some o := g.out.heap h
theorem own_now {W w : World} {base : Nat} {e : TypeId} {size : Nat} {v : Value} {n : Nat} {xs : List Value} (h : W.ownsRow base e size v n xs) [g : Grows W w] : w.ownsRow base e size v n xs := own_ext h g.out
/-- a slice of m elements of sz cells each; element i's cells stand in the relation R to the datum ds[i] -/
def Rows {α : Type} (w : World) (sz : Nat) (R : World → List Value → α → Prop) (v : Value) (ds : List α) : Prop :=
 (v = .slice none 0 0 ∧ ds = []) ∨ ∃ ad c, v = .slice (some ad) ds.length c ∧ ds.length ≤ c ∧ c ≤ maxLen ∧ (ds ≠ [] → ad = ⟨ad.block, ad.off, none⟩) ∧
  ∀ i d, ds[i]? = some d → ∃ cs : List Value, cs.length = sz ∧ R w cs d ∧ ∀ j u, cs[j]? = some u → w.cell? ⟨ad.block, ad.off + i * sz + j, none⟩ = some u
theorem Rows.ext {α : Type} {w w' : World} {sz : Nat} {R : World → List Value → α → Prop} {v : Value} {ds : List α} (h : Rows w sz R v ds) (hR : ∀ cs d, R w cs d → R w' cs d) (hx : Ext w w') : Rows w' sz R v ds := by
 rcases h with h | ⟨ad, c, h1, h2, h3, h5, h4⟩
 ·exact .inl h
 ·exact .inr ⟨ad, c, h1, h2, h3, h5, fun i d hi => by
   obtain ⟨cs, g1, g2, g3⟩ := h4 i d hi
   exact ⟨cs, g1, hR _ _ g2, fun j u hj => hx.cell (g3 j u hj)⟩⟩
theorem Rows.slice {α : Type} {w : World} {sz : Nat} {R : World → List Value → α → Prop} {v : Value} {ds : List α} (h : Rows w sz R v ds) : ∃ oa c, v = .slice oa ds.length c ∧ ds.length ≤ c ∧ c ≤ maxLen := by
 rcases h with ⟨rfl, rfl⟩ | ⟨ad, c, rfl, h2, h3, h4⟩
 ·exact ⟨none, 0, rfl, Nat.le_refl _, Nat.zero_le _⟩
 ·exact ⟨_, c, rfl, h2, h3⟩
/-- not empty: where it lies -/
theorem Rows.at {α : Type} {w : World} {sz : Nat} {R : World → List Value → α → Prop} {oa : Option Addr} {n c : Nat} {ds : List α} (h : Rows w sz R (.slice oa n c) ds) (hn : 0 < ds.length) : ∃ b o, oa = some ⟨b, o, none⟩ ∧ n = ds.length ∧
 ∀ i d, ds[i]? = some d → ∃ cs : List Value, cs.length = sz ∧ R w cs d ∧ ∀ j u, cs[j]? = some u → w.cell? ⟨b, o + i * sz + j, none⟩ = some u := by
 rcases h with ⟨h, rfl⟩ | ⟨ad, c', h1, h2, h3, h5, h4⟩
 ·simp at hn
 ·simp only [Value.slice.injEq] at h1
  obtain ⟨rfl, rfl, rfl⟩ := h1
  exact ⟨ad.block, ad.off, by rw [← h5 (List.length_pos_iff.1 hn)], rfl, h4⟩
/-- data for each place of a list -/
theorem choose_list {α : Type} {n : Nat} {p : Nat → α → Prop} (h : ∀ i, i < n → ∃ d, p i d) : ∃ ds : List α, ds.length = n ∧ ∀ i d, ds[i]? = some d → p i d := by
 induction n with
 | zero => exact ⟨[], rfl, fun i d hi => by simp at hi⟩
 | succ n ih =>
  obtain ⟨ds, h1, h2⟩ := ih (fun i hi => h i (by omega))
  obtain ⟨d, hd⟩ := h n (by omega)
  refine ⟨ds ++ [d], by simp [h1], fun i e hi => ?_⟩
  rcases Nat.lt_or_ge i n with hl | hl
  ·exact h2 i e (by rw [List.getElem?_append_left (by omega)] at hi; exact hi)
  ·have hlt := (List.getElem?_eq_some_iff.1 hi).1
   simp at hlt
   obtain rfl : i = n := by omega
   rw [List.getElem?_append_right (by omega)] at hi
   simp [h1] at hi
   subst hi; exact hd
theorem via {P : Program} {f : FuncId} {args : Array Value} {W : World} {v : Value} {Q : Ending → World → Prop} (h : Calls P f args W (Rets W v)) (k : ∀ w', Ext W w' → Step W w' → Q (.returned v) w') : Calls P f args W Q := h.mono (by rintro e w' ⟨rfl, x⟩; exact k w' x ⟨x⟩)
theorem Sm {a b : World} (h : Ext a b) : Step a b := ⟨h⟩
namespace Bv
/-- a valid width -/
def ok (w : Int) : Bool := decide (1 ≤ w) && decide (w ≤ 32)
/-- two to the w -/
def pw (w : Int) : Int := 2 ^ w.toNat
def mask (w : Int) : Int := if ok w then pw w - 1 else 0
def fits (v w : Int) : Bool := ok w && decide (v < pw w)
def clampn (n w : Int) : Int := min (max n 0) w
def pmask (n w : Int) : Int := if ok w then pw w - pw (w - clampn n w) else 0
theorem ok_iff {w : Int} : ok w = true ↔ 1 ≤ w ∧ w ≤ 32 := by simp [ok]
theorem ok_of {w : Int} (h1 : 1 ≤ w) (h2 : w ≤ 32) : ok w = true := ok_iff.2 ⟨h1, h2⟩
theorem not_ok {w : Int} (h : ¬ (1 ≤ w ∧ w ≤ 32)) : ok w = false := by
 cases e : ok w
 ·rfl
 ·exact absurd (ok_iff.1 e) h
theorem pw_pos (w : Int) : 0 < pw w := Int.pow_pos (by decide)
theorem pw_ne (w : Int) : pw w ≠ 0 := Int.ne_of_gt (pw_pos w)
theorem pw_add {a b : Int} (ha : 0 ≤ a) (hb : 0 ≤ b) : pw (a + b) = pw a * pw b := by
 unfold pw; rw [Int.toNat_add ha hb, Int.pow_add]
theorem pw_le {a b : Int} (h : a ≤ b) : pw a ≤ pw b := by
 unfold pw
 have h2 : a.toNat ≤ b.toNat := Int.toNat_le_toNat h
 exact_mod_cast Nat.pow_le_pow_right (by decide : 0 < 2) h2
theorem pw_lt {a b : Int} (ha : 0 ≤ a) (h : a < b) : pw a < pw b := by
 unfold pw
 have h2 : a.toNat < b.toNat := by omega
 exact_mod_cast Nat.pow_lt_pow_right (by decide : 1 < 2) h2
theorem pw_32 : pw 32 = 4294967296 := by decide
theorem pw_le32 {w : Int} (h : w ≤ 32) : pw w ≤ 4294967296 := pw_32 ▸ pw_le h
theorem mask_bd (w : Int) : 0 ≤ mask w ∧ mask w < 4294967296 := by
 unfold mask; split
 ·rename_i h; have := pw_pos w; have := pw_le32 (ok_iff.1 h).2; omega
 ·omega
theorem pw_split {a b : Int} (ha : 0 ≤ a) (hab : a ≤ b) : pw b = pw (b - a) * pw a := by rw [← pw_add (by omega) ha]; congr 1; omega
theorem top_div {w : Int} (h1 : 1 ≤ w) (h2 : w ≤ 32) : 4294967295 / 2 ^ (32 - w).toNat = pw w - 1 := by
 show 4294967295 / pw (32 - w) = pw w - 1
 have e := pw_split (show 0 ≤ 32 - w by omega) (show 32 - w ≤ 32 by omega)
 rw [pw_32, show 32 - (32 - w) = w by omega] at e
 have hp := pw_pos (32 - w)
 rw [show (4294967295 : Int) = (pw (32 - w) - 1) + (pw w - 1) * pw (32 - w) by rw [Int.sub_mul, ← e]; omega,
  Int.add_mul_ediv_right _ _ (pw_ne _), Int.ediv_eq_zero_of_lt (by omega) (by omega)]
 omega
theorem toNat_pw_sub (w : Int) : (pw w - 1).toNat = 2 ^ w.toNat - 1 := by
 have : pw w = ((2 ^ w.toNat : Nat) : Int) := by simp [pw]
 rw [this]; have := Nat.two_pow_pos w.toNat; omega
theorem pw_cast (w : Int) : pw w = ((2 ^ w.toNat : Nat) : Int) := by simp [pw]
/-- The two operands of '|' share no bit. -/
theorem or_disj {x y w : Int} (hx0 : 0 ≤ x) (hx : x * pw w < 4294967296) (hy0 : 0 ≤ y) (hy : y < pw w) (hy2 : y < 4294967296) : bits .or .u32 (x * pw w) y = x * pw w + y := by
 have hz : 0 ≤ x * pw w := Int.mul_nonneg hx0 (Int.le_of_lt (pw_pos w))
 rw [u32_or _ _ hz hx hy0 hy2]
 obtain ⟨a, rfl⟩ := Int.eq_ofNat_of_zero_le hx0
 obtain ⟨b, rfl⟩ := Int.eq_ofNat_of_zero_le hy0
 rw [pw_cast] at *
 rw [← Int.natCast_mul, Int.toNat_natCast, Int.toNat_natCast, Nat.mul_comm, ← Nat.two_pow_add_eq_or_of_lt (by omega) a]
 rfl
theorem clampn_bd {n w : Int} (hw : 0 ≤ w) : 0 ≤ clampn n w ∧ clampn n w ≤ w := by unfold clampn; omega
theorem pw_sub_div {w c : Int} (h0 : 0 ≤ c) (h1 : c ≤ w) : (pw w - 1) / pw c = pw (w - c) - 1 := by
 have e := pw_split h0 h1
 have hp := pw_pos c
 rw [show pw w - 1 = (pw c - 1) + (pw (w - c) - 1) * pw c by rw [Int.sub_mul, ← e]; omega,
  Int.add_mul_ediv_right _ _ (pw_ne _), Int.ediv_eq_zero_of_lt (by omega) (by omega)]
 omega
theorem andNot_low {w k : Int} (h1 : k ≤ w) (h2 : w ≤ 32) : bits .andNot .u32 (pw w - 1) (pw k - 1) = pw w - pw k := by
 have pk := pw_pos k
 have pkw := pw_le h1
 have pw32 := pw_le32 h2
 rw [u32_andNot _ _ (by omega) (by omega) (by omega) (by omega), toNat_pw_sub, toNat_pw_sub, Nat.and_comm, Nat.and_two_pow_sub_one_eq_mod]
 have hn : 4294967295 - (2 ^ k.toNat - 1) = 4294967296 - 2 ^ k.toNat := by have := Nat.two_pow_pos k.toNat; omega
 have hk : 2 ^ k.toNat ≤ 2 ^ w.toNat := Nat.pow_le_pow_right (by decide) (by omega)
 have hw : 2 ^ w.toNat ≤ 4294967296 := by have := pw32; rw [pw_cast] at this; omega
 have hd : (4294967296 : Nat) = 2 ^ w.toNat * 2 ^ (32 - w.toNat) := by rw [← Nat.pow_add, show w.toNat + (32 - w.toNat) = 32 by omega]
 rw [hn]
 have hpos := Nat.two_pow_pos k.toNat
 have hq := Nat.two_pow_pos (32 - w.toNat)
 obtain ⟨q, hq'⟩ : ∃ q, 2 ^ (32 - w.toNat) = q + 1 := ⟨2 ^ (32 - w.toNat) - 1, by omega⟩
 rw [hq', Nat.mul_add, Nat.mul_one] at hd
 by_cases hkw : 2 ^ k.toNat = 2 ^ w.toNat
 ·rw [show 4294967296 - 2 ^ k.toNat = 2 ^ w.toNat * q by omega, Nat.mul_mod_right, pw_cast, pw_cast]; omega
 ·rw [show 4294967296 - 2 ^ k.toNat = (2 ^ w.toNat - 2 ^ k.toNat) + 2 ^ w.toNat * q by omega, Nat.add_mul_mod_self_left, Nat.mod_eq_of_lt (by omega), pw_cast, pw_cast]; omega
theorem pmask_of {n w : Int} (h : ok w = true) : pmask n w = pw w - pw (w - clampn n w) := by unfold pmask; rw [if_pos h]
theorem pmask_walk {n w : Int} (h : ok w = true) : bits .andNot .u32 (mask w) (mask w / 2 ^ (clampn n w).toNat) = pmask n w := by
 obtain ⟨w1, w2⟩ := ok_iff.1 h
 have c := clampn_bd (n := n) (show 0 ≤ w by omega)
 have hm : mask w = pw w - 1 := by unfold mask; rw [if_pos h]
 rw [hm]
 show bits .andNot .u32 _ ((pw w - 1) / pw (clampn n w)) = _
 rw [pw_sub_div c.1 c.2, andNot_low (by omega) w2, pmask_of h]
theorem pmask_neg {n w : Int} (h : ok w = true) (h0 : n < 0) : bits .andNot .u32 (mask w) (mask w) = pmask n w := by
 have hp := pmask_walk (n := n) h
 have hw := ok_iff.1 h
 have hc : clampn n w = 0 := by unfold clampn; omega
 rw [hc] at hp; simpa using hp
theorem pmask_mid {n w : Int} (h : ok w = true) (h0 : 0 ≤ n) (h1 : n ≤ w) : bits .andNot .u32 (mask w) (mask w / 2 ^ n.toNat) = pmask n w := by
 have hp := pmask_walk (n := n) h
 have hc : clampn n w = n := by unfold clampn; omega
 rw [hc] at hp; exact hp
theorem pmask_top {n w : Int} (h : ok w = true) (h1 : w < n) : bits .andNot .u32 (mask w) (mask w / 2 ^ w.toNat) = pmask n w := by
 have hp := pmask_walk (n := n) h
 have hw := ok_iff.1 h
 have hc : clampn n w = w := by unfold clampn; omega
 rw [hc] at hp; exact hp
end Bv
namespace Io
/-- all are bytes -/
def Bytes (l : List Int) : Prop := ∀ x ∈ l, 0 ≤ x ∧ x ≤ 255
end Io
def u8s (l : List Int) : List Value := l.map (.int .u8)
theorem u8s_one (l : List Int) : ∀ u ∈ u8s l, u.oneCell' = true := by
 intro u hu; obtain ⟨x, _, rfl⟩ := List.mem_map.1 hu; rfl
theorem u8s_len (l : List Int) : (u8s l).length = l.length := by simp [u8s]
theorem valid_cell (b : Nat) (w : Int) (W : World) (hc : W.cell? ⟨b, 0, none⟩ = some (.int .i64 w)) :
 Calls Tryz.prog 159 #[.slice (some ⟨b, 0, none⟩) 1 1] W fun e W' => e = .returned (.bool (Bv.ok w)) ∧ W = W' := by
 by_cases h1 : w < 1
 ·have hk : Bv.ok w = false := Bv.not_ok (by omega)
  go_enter Tryz.func159, Tryz.ntmps159
  go_wp2
  go_rounds 2
  all_goals (go_ret; exact ⟨by rw [hk]; rfl, rfl⟩)
 ·by_cases h2 : 32 < w
  ·have hk : Bv.ok w = false := Bv.not_ok (by omega)
   go_enter Tryz.func159, Tryz.ntmps159
   go_wp2
   go_rounds 2
   all_goals (go_ret; exact ⟨by rw [hk]; rfl, rfl⟩)
  ·have hk : Bv.ok w = true := Bv.ok_of (by omega) (by omega)
   go_enter Tryz.func159, Tryz.ntmps159
   go_wp2
   go_rounds 2
   all_goals (go_ret; exact ⟨by rw [hk]; rfl, rfl⟩)
theorem mask_any (w : Int) (W : World) : Calls Tryz.prog 128 #[.int .i64 w] W (Rets W (.int .u32 (Bv.mask w))) := by
 cases hk : Bv.ok w
 ·go_enter Tryz.func128, Tryz.ntmps128
  go_wp2_with (go_at_call 159; refine (valid_cell _ w _ (by simp)).mono ?_; rintro e w' ⟨rfl, rfl⟩)
  go_ret
  exact ⟨by simp [Bv.mask, hk], (eR W).alloc _⟩
 ·have hb := Bv.ok_iff.1 hk
  go_enter Tryz.func128, Tryz.ntmps128
  go_wp2_with (go_at_call 159; refine (valid_cell _ w _ (by simp)).mono ?_; rintro e w' ⟨rfl, rfl⟩)
  go_ret
  exact ⟨by simp [Bv.mask, hk, Bv.top_div hb.1 hb.2], (eR W).alloc _⟩
theorem fits_any (v w : Int) (W : World) : Calls Tryz.prog 184 #[.int .u32 v, .int .i64 w] W (Rets W (.bool (Bv.fits v w))) := by
 cases hk : Bv.ok w
 ·go_enter Tryz.func184, Tryz.ntmps184
  go_wp2_with (go_at_call 159; refine (valid_cell _ w _ (by simp)).mono ?_; rintro e w' ⟨rfl, rfl⟩)
  go_ret
  exact ⟨by simp [Bv.fits, hk], (eR W).alloc _⟩
 ·have hm : Bv.mask w = Bv.pw w - 1 := by unfold Bv.mask; rw [if_pos hk]
  have Hm := Lh hm
  clear hm
  go_enter Tryz.func184, Tryz.ntmps184
  go_wp2_with (first
   | (go_at_call 159; refine (valid_cell _ w _ (by simp)).mono ?_; rintro e w' ⟨rfl, rfl⟩)
   | (go_at_call 128; refine (mask_any _ _).mono ?_; rintro e w1 ⟨rfl, hx⟩))
  go_ret
  exact ⟨by simp [Bv.fits, hk, Hm.out, Int.le_sub_one_iff], ((eR W).alloc _).trans hx⟩
def i64s (l : List Int) : List Value := l.map (.int .i64)
theorem i64s_get {l : List Int} {j : Nat} {x : Int} (h : l[j]? = some x) : (i64s l)[j]? = some (.int .i64 x) := by simp [i64s, h]
theorem drop_cons {α : Type} {l : List α} {k : Nat} {x : α} (h : l[k]? = some x) : l.drop k = x :: l.drop (k + 1) := by
 obtain ⟨hk, rfl⟩ := List.getElem?_eq_some_iff.1 h
 exact List.drop_eq_getElem_cons hk
theorem Ext.mod {S : Nat → Prop} {a b c : World} (h : Ext a b) (k : Mod S b c) (hs : ∀ q, S q → a.heap.size ≤ q) : Ext a c :=
 ⟨k.os.trans h.os, k.tape.trans h.tape, k.output.trans h.output, Nat.le_trans h.size k.size,
  fun i hi => (k.block i (Nat.lt_of_lt_of_le hi h.size) (fun hS => by have := hs i hS; omega)).trans (h.block i hi)⟩
theorem info_u32 : (Tryz.prog.info? 118).map (fun i => (i.zero, i.size, i.bytes)) = some (some (.int .u32 0), 1, 4) := by kernel_rfl
theorem own_type {w : World} {base : Nat} {e : TypeId} {size : Nat} {v : Value} {n : Nat} {xs : List Value} (h : w.ownsRow base e size v n xs) {g : Nat} (hg : v.ownBlock = some g) : ∃ cur, w.heap[g]? = some (.cells cur e (0, 0)) := by
 rcases h.2 with ⟨rfl, _⟩ | ⟨g', cap, cur, rfl, _, hh, _⟩
 ·simp [Value.ownBlock] at hg
 ·simp [Value.ownBlock] at hg; subst hg; exact ⟨cur, hh⟩
theorem i64s_one (l : List Int) : ∀ u ∈ i64s l, u.oneCell' = true := by
 intro u hu; obtain ⟨x, _, rfl⟩ := List.mem_map.1 hu; rfl
theorem pmask_any (n w : Int) (W : World) : Calls Tryz.prog 191 #[.int .i64 n, .int .i64 w] W (Rets W (.int .u32 (Bv.pmask n w))) := by
 cases hk : Bv.ok w
 ·go_enter Tryz.func191, Tryz.ntmps191
  go_wp2_with (go_at_call 159; refine (valid_cell _ w _ (by simp)).mono ?_; rintro e w' ⟨rfl, rfl⟩)
  go_ret
  exact ⟨by simp [Bv.pmask, hk], (eR W).alloc _⟩
 ·have hb := Bv.ok_iff.1 hk
  have hx := eR W
  by_cases h0 : n < 0
  ·go_enter Tryz.func191, Tryz.ntmps191
   go_wp2_with (first
    | (go_at_call 159; refine (valid_cell _ w _ (by simp)).mono ?_; rintro e w' ⟨rfl, rfl⟩; replace hx := hx.alloc (.cells #[.int .i64 w] 3))
    | (go_at_call 128; refine (mask_any _ _).mono ?_; rintro e w1 ⟨rfl, hy⟩; replace hx := hx.trans hy; clear hy))
   go_ret
   exact ⟨by simp [Bv.pmask_neg hk h0], hx⟩
  ·by_cases h1 : w < n
   ·go_enter Tryz.func191, Tryz.ntmps191
    go_wp2_with (first
     | (go_at_call 159; refine (valid_cell _ w _ (by simp)).mono ?_; rintro e w' ⟨rfl, rfl⟩; replace hx := hx.alloc (.cells #[.int .i64 w] 3))
     | (go_at_call 128; refine (mask_any _ _).mono ?_; rintro e w1 ⟨rfl, hy⟩; replace hx := hx.trans hy; clear hy))
    go_ret
    exact ⟨by simp [Bv.pmask_top hk h1], hx⟩
   ·go_enter Tryz.func191, Tryz.ntmps191
    go_wp2_with (first
     | (go_at_call 159; refine (valid_cell _ w _ (by simp)).mono ?_; rintro e w' ⟨rfl, rfl⟩; replace hx := hx.alloc (.cells #[.int .i64 w] 3))
     | (go_at_call 128; refine (mask_any _ _).mono ?_; rintro e w1 ⟨rfl, hy⟩; replace hx := hx.trans hy; clear hy))
    go_ret
    exact ⟨by simp [Bv.pmask_mid hk (by omega) (by omega)], hx⟩
/-- the first n for which the mask is m: found -/
theorem plen_hit (m w : Int) (hk : Bv.ok w = true) (n : Nat) (hn : n ≤ w) (hm : Bv.pmask n w = m) (hf : ∀ j : Nat, j < n → Bv.pmask j w ≠ m) (W : World) :
 Calls Tryz.prog 186 #[.int .u32 m, .int .i64 w] W (Rets W (.tuple #[.int .i64 n, .bool true])) := by
 have hb := Bv.ok_iff.1 hk
 have HF := Lh hf
 have HM := Lh hm
 clear hf hm
 go_enter Tryz.func186, Tryz.ntmps186
 go_wp2_with (go_at_call 159; refine (valid_cell _ w _ (by simp)).mono ?_; rintro e w' ⟨rfl, rfl⟩)
 go_loopw [13] (fun i wr => ∃ k : Nat, k ≤ n ∧ i = .int .i64 k ∧ Ext W wr) (fun i _ => (w + 1 - intOf i).toNat)
 case atStart => exact ⟨0, Nat.zero_le _, rfl, (eR W).alloc _⟩
 case round =>
  obtain ⟨k, hkn, rfl, hx⟩ := hrel
  by_cases hlt : k < n
  ·have hne : (Bv.pmask k w == m) = false := by simpa using HF.out k hlt
   go_wp2_with (go_at_call 191; refine (pmask_any _ _ _).mono ?_; rintro e w1 ⟨rfl, hy⟩; replace hx := hx.trans hy; clear hy)
   go_roundw
   case rel => exact ⟨k + 1, by omega, by go_num, hx⟩
   case measure => simp [intOf]; omega
  ·obtain rfl : k = n := by omega
   have hne : (Bv.pmask k w == m) = true := by simpa using HM.out
   go_wp2_with (go_at_call 191; refine (pmask_any _ _ _).mono ?_; rintro e w1 ⟨rfl, hy⟩; replace hx := hx.trans hy; clear hy)
   go_ret2
   exact ⟨rfl, hx⟩
theorem plen_miss (m w : Int) (hf : Bv.ok w = true → ∀ j : Nat, j ≤ w → Bv.pmask j w ≠ m) (W : World) :
 Calls Tryz.prog 186 #[.int .u32 m, .int .i64 w] W (Rets W (.tuple #[.int .i64 0, .bool false])) := by
 cases hk : Bv.ok w
 ·clear hf
  go_enter Tryz.func186, Tryz.ntmps186
  go_wp2_with (go_at_call 159; refine (valid_cell _ w _ (by simp)).mono ?_; rintro e w' ⟨rfl, rfl⟩)
  go_ret2
  exact ⟨rfl, (eR W).alloc _⟩
 ·have hb := Bv.ok_iff.1 hk
  have HF := Lh (hf hk)
  clear hf
  go_enter Tryz.func186, Tryz.ntmps186
  go_wp2_with (go_at_call 159; refine (valid_cell _ w _ (by simp)).mono ?_; rintro e w' ⟨rfl, rfl⟩)
  go_loopw [13] (fun i wr => ∃ k : Nat, k ≤ w + 1 ∧ i = .int .i64 k ∧ Ext W wr) (fun i _ => (w + 1 - intOf i).toNat)
  case atStart => exact ⟨0, by omega, rfl, (eR W).alloc _⟩
  case round =>
   obtain ⟨k, hkn, rfl, hx⟩ := hrel
   by_cases hlt : k < w + 1
   ·have hne : (Bv.pmask k w == m) = false := by simpa using HF.out k (by omega)
    go_wp2_with (go_at_call 191; refine (pmask_any _ _ _).mono ?_; rintro e w1 ⟨rfl, hy⟩; replace hx := hx.trans hy; clear hy)
    go_roundw
    case rel => exact ⟨k + 1, by omega, by go_num, hx⟩
    case measure => simp [intOf]; omega
   ·go_wp2
    go_ret2
    exact ⟨rfl, hx⟩
theorem info_i64 : (Tryz.prog.info? 3).map (fun i => (i.zero, i.size, i.bytes)) = some (some (.int .i64 0), 1, 8) := by kernel_rfl
theorem ret_int {k : IntKind} {a b : Int} (h : a = b) : Ending.returned (.int k a) = .returned (.int k b) := by rw [h]
theorem ret_bool {a b : Bool} (h : a = b) : Ending.returned (.bool a) = .returned (.bool b) := by rw [h]
namespace Hd
abbrev Fld := ByteArray × Int
abbrev Hdr := ByteArray × List Fld
def same (a b : ByteArray) : Bool := a.toList == b.toList
theorem same_iff (a b : ByteArray) : same a b = true ↔ a = b := by
 unfold same
 rw [beq_iff_eq]
 constructor
 ·intro h; rw [ByteArray.toList_eq, ByteArray.toList_eq] at h
  cases a; cases b; congr 1; exact Array.ext' h
 ·intro h; rw [h]
def FieldR (_w : World) (cs : List Value) (d : Fld) : Prop := cs = [.string d.1, .int .i64 d.2] ∧ d.1.size ≤ maxLen ∧ -9223372036854775808 ≤ d.2 ∧ d.2 ≤ 9223372036854775807
/-- the fields of a header: a slice of them -/
abbrev Flds (w : World) (v : Value) (fs : List Fld) : Prop := Rows w 2 FieldR v fs
theorem Flds.ext {w w' : World} {v : Value} {fs : List Fld} (h : Flds w v fs) (hx : Ext w w') : Flds w' v fs := Rows.ext h (fun _ _ h => h) hx
def HdrR (w : World) (cs : List Value) (d : Hdr) : Prop := ∃ v, cs = [.string d.1, v] ∧ d.1.size ≤ maxLen ∧ Flds w v d.2
theorem HdrR.ext {w w' : World} {cs : List Value} {d : Hdr} (h : HdrR w cs d) (hx : Ext w w') : HdrR w' cs d := by
 obtain ⟨v, h1, h2, h3⟩ := h; exact ⟨v, h1, h2, h3.ext hx⟩
def fE : List Fld → List Fld → Int
 | _, [] => 0
 | pre, f :: fs => if Id.ok f.1 then (if f.2 < 1 ∨ 32 < f.2 then 10 else if pre.any (fun g => same g.1 f.1) then 7 else fE (pre ++ [f]) fs) else 6
def tot (ns : List Int) : Int := ns.sum
def wds (fs : List Fld) : List Int := fs.map (·.2)
def chk (h : Hdr) : Int := if Id.ok h.1 then (if h.2.length = 0 then 8 else if 12 < h.2.length then 12 else if fE [] h.2 = 0 then (if tot (wds h.2) % 8 = 0 then 0 else 10) else fE [] h.2) else 6
def Wd (ns : List Int) : Prop := ∀ n ∈ ns, 1 ≤ n ∧ n ≤ 32
theorem tot_snoc (ns : List Int) (n : Int) : tot (ns ++ [n]) = tot ns + n := by simp [tot]
theorem tot_bd {ns : List Int} (h : Wd ns) : 0 ≤ tot ns ∧ tot ns ≤ 32 * ns.length := by
 induction ns with
 | nil => simp [tot]
 | cons n ns ih =>
  have h1 := h n (by simp)
  have h2 := ih (fun m hm => h m (by simp [hm]))
  simp only [tot, List.sum_cons, List.length_cons] at *
  omega
theorem fE_ok : ∀ (fs pre : List Fld), fE pre fs = 0 → Wd (wds fs)
 | [], _, _ => by intro n hn; simp [wds] at hn
 | f :: fs, pre, h => by
  unfold fE at h
  by_cases h1 : Id.ok f.1 = true
  ·rw [if_pos h1] at h
   by_cases h2 : f.2 < 1 ∨ 32 < f.2
   ·rw [if_pos h2] at h; simp at h
   ·rw [if_neg h2] at h
    by_cases h3 : pre.any (fun g => same g.1 f.1) = true
    ·rw [if_pos h3] at h; simp at h
    ·rw [if_neg h3] at h
     have ih := fE_ok fs _ h
     intro n hn
     simp only [wds, List.map_cons, List.mem_cons] at hn
     rcases hn with rfl | hn
     ·omega
     ·exact ih n hn
  ·rw [if_neg h1] at h; simp at h
theorem wds_len (fs : List Fld) : (wds fs).length = fs.length := by simp [wds]
end Hd
/-- the place of an element, in the walk's spelling -/
theorem flds_at {w : World} {b o n c : Nat} {fs : List Hd.Fld} {oa : Option Addr} (h : Hd.Flds w (.slice oa n c) fs) (k : Nat) (nm : ByteArray) (x : Int) (hk : fs[k]? = some (nm, x)) (hoa : oa = some ⟨b, o, none⟩) :
 (∀ w' [Grows w w'], w'.cell? ⟨b, o + k * 2, none⟩ = some (.string nm)) ∧ (∀ w' [Grows w w'], w'.cell? ⟨b, o + k * 2 + 1, none⟩ = some (.int .i64 x)) ∧ nm.size ≤ maxLen ∧ -9223372036854775808 ≤ x ∧ x ≤ 9223372036854775807 := by
 have hlt := (List.getElem?_eq_some_iff.1 hk).1
 obtain ⟨b', o', hb, hn, hc⟩ := Rows.at h (by omega)
 rw [hb] at hoa
 simp only [Option.some.injEq, Addr.mk.injEq, and_true] at hoa
 obtain ⟨rfl, rfl⟩ := hoa
 obtain ⟨cs, _, ⟨rfl, h1, h2, h3⟩, hcs⟩ := hc k _ hk
 exact ⟨alw (hcs 0 _ rfl), alw (hcs 1 _ rfl), h1, h2, h3⟩
theorem sum_any {v : Value} {W : World} (ns : List Int) (hs : Src W v 1 ns.length (i64s ns)) (hn : Hd.Wd ns) (hl : ns.length ≤ 1000) :
 Calls Tryz.prog 125 #[v] W fun e W' => e = .returned (.int .i64 (Hd.tot ns)) ∧ W = W' := by
 obtain ⟨oa, c, rfl, hna⟩ := hs.slice
 have HS := Lh hs
 have HN := Lh hn
 have HNA := Lh hna
 clear hs hn hna
 go_enter Tryz.func125, Tryz.ntmps125
 go_wp2
 go_loop [3, 8] (fun t i => ∃ k : Nat, k ≤ ns.length ∧ i = .int .i64 k ∧ t = .int .i64 (Hd.tot (ns.take k))) (fun _ i => ns.length - (intOf i).toNat)
 case atStart => exact ⟨0, Nat.zero_le _, rfl, rfl⟩
 case round =>
  obtain ⟨k, hk, rfl, rfl⟩ := hrel
  by_cases hlt : k < ns.length
  ·obtain ⟨x, hx⟩ : ∃ x, ns[k]? = some x := ⟨_, gE hlt⟩
   have hxb := HN.out x (List.mem_of_getElem? hx)
   have htb := Hd.tot_bd (ns := ns.take k) (fun n hn => HN.out n (List.mem_of_mem_take hn))
   have hlen : (ns.take k).length = k := by rw [List.length_take]; omega
   rw [hlen] at htb
   have hsn : Hd.tot (ns.take (k + 1)) = Hd.tot (ns.take k) + x := by
    rw [← Hd.tot_snoc]; congr 1; rw [List.take_add_one, hx]; rfl
   have HSN := Lh hsn
   cases oa with
   | none => have := HNA.out rfl; omega
   | some ad =>
   obtain ⟨ea, _, ca⟩ := HS.out.at (by omega)
   obtain ⟨ab, ao, asp⟩ := ad
   simp only [Addr.mk.injEq, true_and] at ea
   subst ea
   dsimp only at ca
   have f1 := ca k _ (i64s_get hx)
   clear ca hx hlen hsn
   go_wp2
   go_round
   case rel => exact ⟨k + 1, by omega, by go_num, by rw [HSN.out]⟩
   case measure => simp [intOf]; omega
  ·obtain rfl : k = ns.length := by omega
   rw [List.take_length]
   go_wp2
   go_ret
   exact ⟨rfl, rfl⟩
theorem widths_any {W : World} (nm : ByteArray) {v : Value} (fs : List Hd.Fld) (hs : Hd.Flds W v fs) (hl : fs.length ≤ 1000) :
 Calls Tryz.prog 126 #[.agg #[.string nm, v]] W fun e W' => ∃ u, e = .returned u ∧ Ext W W' ∧ W'.ownsRow W.heap.size 3 1 u (Hd.wds fs).length (i64s (Hd.wds fs)) := by
 obtain ⟨oa, c, rfl, hlc, hcm⟩ := hs.slice
 unfold maxLen at hcm
 have HS := Lh hs
 clear hs
 have b0 := aH W (.cells #[.string nm, .slice oa fs.length c] 96)
 have c1 := alw (cQ 1 b0)
 clear b0
 go_enter Tryz.func126, Tryz.ntmps126
 go_wp2_with fail
 go_loopw [3, 9] (fun o i wr => ∃ k : Nat, k ≤ fs.length ∧ i = .int .i64 k ∧ Ext (W.alloc (.cells #[.string nm, .slice oa fs.length c] 96)) wr ∧ wr.ownsRow W.heap.size 3 1 o k (i64s (Hd.wds (fs.take k)))) (fun _ i _ => fs.length - (intOf i).toNat)
 case atStart => exact ⟨0, Nat.zero_le _, rfl, eR _, World.ownsRow_nil _ _ _ _⟩
 case round =>
  obtain ⟨k, hk, rfl, hx, ho⟩ := hrel
  obtain ⟨oo, co, rfl⟩ := own_slice ho
  have sx : Step (W.alloc (.cells #[.string nm, .slice oa fs.length c] 96)) wr := ⟨hx⟩
  have HO := Lh ho
  clear ho hx
  by_cases hlt : k < fs.length
  ·obtain ⟨⟨nk, x⟩, hxk⟩ : ∃ x, fs[k]? = some x := ⟨_, gE hlt⟩
   obtain ⟨b, o, hoa, _, _⟩ := Rows.at HS.out (by omega)
   subst hoa
   obtain ⟨f0, f1, hns, hx1, hx2⟩ := flds_at HS.out k nk x hxk rfl
   have hsn : Hd.wds (fs.take (k + 1)) = Hd.wds (fs.take k) ++ [x] := by
    unfold Hd.wds; rw [List.take_add_one, hxk]; simp
   have HSN := Lh hsn
   have hle : W.heap.size ≤ wr.heap.size := grows_le
   have hs1 := src_one (wr.alloc (.cells #[.string nk, .int .i64 x] 94)) (.int .i64 x) 3 rfl
   rw [szA] at hs1
   have HS1 := Lh hs1
   have HO1 := Lh (own_now HO.out (w := (wr.alloc (.cells #[.string nk, .int .i64 x] 94)).alloc (.cells #[.int .i64 x] 3)))
   clear hxk hsn hs1
   go_wp2_with (at_builtin; refine wpList_append_fresh rfl (.tmp 13) (.tmp 16) 29 rfl W.heap.size 3 (.int .i64 0) 1 8 Tryz.underlying29 info_i64 rfl (by decide) _ k (i64s (Hd.wds (fs.take k))) rfl HO1.out _ 1 [.int .i64 x] rfl HS1.out ?d1 ?d2 ?d3 ?_)
   case d1 => unfold maxLen; omega
   case d2 => omega
   case d3 => (try simp); omega
   intro v' w' hown hgr _
   have hx3 : Ext (W.alloc (.cells #[.string nm, .slice (some ⟨b, o, none⟩) fs.length c] 96)) w' := by
    have h1 : Ext (W.alloc (.cells #[.string nm, .slice (some ⟨b, o, none⟩) fs.length c] 96)) ((wr.alloc (.cells #[.string nk, .int .i64 x] 94)).alloc (.cells #[.int .i64 x] 3)) := grows
    refine h1.mod (grown_mod hgr) (fun q hq => ?_)
    obtain ⟨cur, hc⟩ := own_type HO1.out hq.symm
    have h2 := (HO1.out.lt q hq.symm).1
    rcases Nat.lt_or_ge q (W.heap.size + 1) with h3 | h3
    ·obtain rfl : q = W.heap.size := by omega
     have h4 := h1.heap (aH W (.cells #[.string nm, .slice (some ⟨b, o, none⟩) fs.length c] 96))
     exact absurd rfl (ne_of_type hc h4 (by decide))
    ·simpa using h3
   have HX3 := Lh hx3
   have HA3 := Lh hown
   clear hgr hown hx3
   go_wp2
   go_roundw
   case rel => exact ⟨k + 1, by omega, by go_num, HX3.out, by rw [HSN.out]; simpa [i64s] using HA3.out⟩
   case measure => simp [intOf]; omega
  ·obtain rfl : k = fs.length := by omega
   go_wp2
   go_ret
   refine ⟨_, rfl, grows, ?_⟩
   have := HO.out
   rw [List.take_length] at this
   rw [Hd.wds_len]
   exact this
namespace Hd
theorem fE_name {fs : List Fld} {k : Nat} {f : Fld} (hk : fs[k]? = some f) (h1 : Id.ok f.1 = false) (h : fE (fs.take k) (fs.drop k) = fE [] fs) : fE [] fs = 6 := by
 rw [← h, drop_cons hk]; simp [fE, h1]
theorem fE_width {fs : List Fld} {k : Nat} {f : Fld} (hk : fs[k]? = some f) (h1 : Id.ok f.1 = true) (h2 : f.2 < 1 ∨ 32 < f.2) (h : fE (fs.take k) (fs.drop k) = fE [] fs) : fE [] fs = 10 := by
 rw [← h, drop_cons hk]; simp [fE, h1, h2]
theorem fE_dup {fs : List Fld} {k : Nat} {f : Fld} (hk : fs[k]? = some f) (h1 : Id.ok f.1 = true) (h2 : ¬ (f.2 < 1 ∨ 32 < f.2)) (h3 : (fs.take k).any (fun g => same g.1 f.1) = true) (h : fE (fs.take k) (fs.drop k) = fE [] fs) : fE [] fs = 7 := by
 rw [← h, drop_cons hk, fE, if_pos h1, if_neg h2, if_pos h3]
theorem fE_next {fs : List Fld} {k : Nat} {f : Fld} (hk : fs[k]? = some f) (h1 : Id.ok f.1 = true) (h2 : ¬ (f.2 < 1 ∨ 32 < f.2)) (h3 : (fs.take k).any (fun g => same g.1 f.1) = false) (h : fE (fs.take k) (fs.drop k) = fE [] fs) : fE (fs.take (k + 1)) (fs.drop (k + 1)) = fE [] fs := by
 rw [← h, drop_cons hk, fE, if_pos h1, if_neg h2, if_neg (by rw [h3]; decide), List.take_add_one, hk]; rfl
theorem chk_fields {nm : ByteArray} {fs : List Fld} (h1 : Id.ok nm = true) (h2 : fs.length ≠ 0) (h3 : fs.length ≤ 12) (h4 : fE [] fs ≠ 0) : chk (nm, fs) = fE [] fs := by
 unfold chk; rw [if_pos h1, if_neg h2, if_neg (by simpa using h3), if_neg h4]
theorem chk_all {nm : ByteArray} {fs : List Fld} (h1 : Id.ok nm = true) (h2 : fs.length ≠ 0) (h3 : fs.length ≤ 12) (h4 : fE [] fs = 0) : chk (nm, fs) = if tot (wds fs) % 8 = 0 then 0 else 10 := by
 unfold chk; rw [if_pos h1, if_neg h2, if_neg (by simpa using h3), if_pos h4]
end Hd
theorem hcheck_any {W : World} (h : Hd.Hdr) {v : Value} (hs : Hd.Flds W v h.2) (hn : h.1.size ≤ maxLen) :
 Calls Tryz.prog 81 #[.agg #[.string h.1, v]] W (Rets W (.int .i64 (Hd.chk h))) := by
 obtain ⟨nm, fs⟩ := h
 dsimp only at hs hn ⊢
 obtain ⟨oa, c, rfl, hlc, hcm⟩ := hs.slice
 unfold maxLen at hcm
 have HS := Lh hs
 clear hs
 have bb := aH W (.cells #[.string nm, .slice oa fs.length c] 96)
 have c0 := alw (cQ 0 bb)
 have c1 := alw (cQ 1 bb)
 clear bb
 have x1 : Ext W (W.alloc (.cells #[.string nm, .slice oa fs.length c] 96)) := (eR W).alloc _
 cases hok : Id.ok nm
 ·have e : Hd.chk (nm, fs) = 6 := by simp [Hd.chk, hok]
  rw [e]
  clear e
  go_enter Tryz.func81, Tryz.ntmps81
  go_wp2_with (go_at_call 124; refine (ident_any _ _ hn).mono ?_; rintro e w1 ⟨rfl, rfl⟩; rw [hok])
  go_ret
  exact ⟨rfl, x1⟩
 ·by_cases h0 : fs.length = 0
  ·have e : Hd.chk (nm, fs) = 8 := by simp [Hd.chk, hok, h0]
   rw [e]
   clear e
   go_enter Tryz.func81, Tryz.ntmps81
   go_wp2_with (go_at_call 124; refine (ident_any _ _ hn).mono ?_; rintro e w1 ⟨rfl, rfl⟩; rw [hok])
   go_ret
   exact ⟨rfl, (eR W).alloc _⟩
  ·have h0b : ((fs.length : Int) == 0) = false := by rw [beq_eq_false_iff_ne]; omega
   have hpos : 0 < fs.length := by omega
   have H0 := Lh h0
   clear h0
   by_cases h12 : fs.length ≤ 12
   ·go_enter Tryz.func81, Tryz.ntmps81
    go_wp2_with (go_at_call 124; refine (ident_any _ _ hn).mono ?_; rintro e w1 ⟨rfl, rfl⟩; rw [hok])
    go_loopw [25] (fun i wr => ∃ k : Nat, k ≤ fs.length ∧ i = .int .i64 k ∧ Ext (W.alloc (.cells #[.string nm, .slice oa fs.length c] 96)) wr ∧ Hid (Hd.fE (fs.take k) (fs.drop k) = Hd.fE [] fs)) (fun i _ => fs.length - (intOf i).toNat)
    case atStart => exact ⟨0, Nat.zero_le _, rfl, eR _, Lh rfl⟩
    case round =>
     obtain ⟨k, hk, rfl, hx, HI⟩ := hrel
     obtain ⟨wo, rfl⟩ : ∃ wo : World, wo = wr := ⟨_, rfl⟩
     have sx : Step (W.alloc (.cells #[.string nm, .slice oa fs.length c] 96)) wo := ⟨hx⟩
     by_cases hlt : k < fs.length
     ·obtain ⟨⟨nk, x⟩, hxk⟩ : ∃ x, fs[k]? = some x := ⟨_, gE hlt⟩
      obtain ⟨b, o, hoa, _, _⟩ := Rows.at HS.out hpos
      subst hoa
      obtain ⟨f0, f1, hns, hx1, hx2⟩ := flds_at (Hd.Flds.ext HS.out x1) k nk x hxk rfl
      have HK := Lh hxk
      have bf := aH wo (.cells #[.string nk, .int .i64 x] 94)
      have g0 := alw (cQ 0 bf)
      have g1 := alw (cQ 1 bf)
      clear hxk bf
      cases hik : Id.ok nk
      ·go_wp2_with (go_at_call 124; refine (ident_any _ _ hns).mono ?_; rintro e w1 ⟨rfl, rfl⟩; rw [hik])
       go_ret
       exact ⟨ret_int (by rw [Hd.chk_fields hok H0.out h12 (by rw [Hd.fE_name HK.out hik HI.out]; decide), Hd.fE_name HK.out hik HI.out]), x1.trans (hx.alloc _)⟩
      ·by_cases hw : x < 1 ∨ 32 < x
       ·have HWD := Lh hw
        have hw2 : x < 1 ∨ (1 ≤ x ∧ 32 < x) := by omega
        clear hw
        rcases hw2 with hw2 | ⟨hw3, hw2⟩
        all_goals
         go_wp2_with (go_at_call 124; refine (ident_any _ _ hns).mono ?_; rintro e w1 ⟨rfl, rfl⟩; rw [hik])
         go_ret
         exact ⟨ret_int (by rw [Hd.chk_fields hok H0.out h12 (by rw [Hd.fE_width HK.out hik HWD.out HI.out]; decide), Hd.fE_width HK.out hik HWD.out HI.out]), x1.trans (hx.alloc _)⟩
       ·have HWD := Lh hw
        have hw1 : 1 ≤ x := by omega
        have hw2 : x ≤ 32 := by omega
        clear hw
        go_upto_region 14 with (go_at_call 124; refine (ident_any _ _ hns).mono ?_; rintro e w1 ⟨rfl, rfl⟩; rw [hik])
        have WF : Hid (Hd.Flds (wo.alloc (.cells #[.string nk, .int .i64 x] 94)) (.slice (some ⟨b, o, none⟩) fs.length c) fs) := Lh (Hd.Flds.ext HS.out (x1.trans (hx.alloc _)))
        have hkc : (k : Int) ≤ c := by omega
        clear f0 f1
        go_wp2_with fail
        go_loopw [47] (fun i wr => ∃ j : Nat, j ≤ k ∧ i = .int .i64 j ∧ Ext (wo.alloc (.cells #[.string nk, .int .i64 x] 94)) wr ∧ Hid ((fs.take j).any (fun g => Hd.same g.1 nk) = false)) (fun i _ => k - (intOf i).toNat)
        case atStart => exact ⟨0, Nat.zero_le _, rfl, eR _, Lh rfl⟩
        case round =>
         obtain ⟨j, hj, rfl, hq, HJ⟩ := hrel
         have sq : Step (wo.alloc (.cells #[.string nk, .int .i64 x] 94)) wr := ⟨hq⟩
         by_cases hjk : j < k
         ·obtain ⟨⟨nj, y⟩, hxj⟩ : ∃ x, fs[j]? = some x := ⟨_, gE (by omega)⟩
          obtain ⟨p0, p1, hnj, _, _⟩ := flds_at WF.out j nj y hxj rfl
          have HXJ := Lh hxj
          clear hxj
          cases hsm : Hd.same nj nk
          ·have hne : (nj.toList == nk.toList) = false := hsm
           have HN := Lh hsm
           clear hsm
           go_wp2_with fail
           go_roundw
           case rel => exact ⟨j + 1, by omega, by go_num, by exact hq.alloc _, Lh (by rw [List.take_add_one, HXJ.out, List.any_append, HJ.out]; simp [HN.out])⟩
           case measure => simp [intOf]; omega
          ·have hne : (nj.toList == nk.toList) = true := hsm
           have HN := Lh hsm
           clear hsm
           go_wp2_with fail
           go_ret
           have hany : (fs.take k).any (fun g => Hd.same g.1 nk) = true := by
            rw [List.any_eq_true]
            exact ⟨(nj, y), List.mem_of_getElem? (by rw [List.getElem?_take, if_pos hjk]; exact HXJ.out), HN.out⟩
           exact ⟨ret_int (by rw [Hd.chk_fields hok H0.out h12 (by rw [Hd.fE_dup HK.out hik HWD.out hany HI.out]; decide), Hd.fE_dup HK.out hik HWD.out hany HI.out]), x1.trans ((hx.alloc _).trans (hq.alloc _))⟩
         ·obtain rfl : j = k := by omega
          have HNX := Lh (Hd.fE_next HK.out hik HWD.out HJ.out HI.out)
          go_wp2_with fail
          go_roundw
          case rel => exact ⟨j + 1, by omega, by go_num, by exact (hx.alloc _).trans hq, HNX⟩
          case measure => simp [intOf]; omega
     ·obtain rfl : k = fs.length := by omega
      have hz : Hd.fE [] fs = 0 := by have := HI.out; rw [List.drop_length] at this; rw [← this]; simp [Hd.fE]
      have hwd := Hd.fE_ok _ _ hz
      have htb := Hd.tot_bd hwd
      rw [Hd.wds_len] at htb
      have HC := Lh (Hd.chk_all hok H0.out h12 hz)
      have HWD := Lh hwd
      have hfl : Hd.Flds wo _ fs := Hd.Flds.ext HS.out (x1.trans hx)
      have HFL := Lh hfl
      clear hz hwd hfl
      go_wp2_with fail
      refine (widths_any nm fs HFL.out (by omega)).mono ?_
      rintro e w2 ⟨u, rfl, x2, o2⟩
      have S2 := Lh (own_src o2 (i64s_one _))
      have hl2 : (Hd.wds fs).length ≤ 1000 := by rw [Hd.wds_len]; omega
      obtain ⟨oa2, c2, rfl⟩ := own_slice o2
      clear o2
      go_wp2_with fail
      refine (sum_any _ S2.out HWD.out hl2).mono ?_
      rintro e w3 ⟨rfl, rfl⟩
      by_cases h8 : Hd.tot (Hd.wds fs) % 8 = 0
      ·have h9 : (Hd.tot (Hd.wds fs) % 8 != 0) = false := by simp [h8]
       have H8 := Lh h8
       clear h8
       go_wp2_with fail
       go_ret
       exact ⟨ret_int (by rw [HC.out, if_pos H8.out]), (x1.trans hx).trans x2⟩
      ·have h9 : (Hd.tot (Hd.wds fs) % 8 != 0) = true := by simp [h8]
       have H8 := Lh h8
       clear h8
       go_wp2_with fail
       go_ret
       exact ⟨ret_int (by rw [HC.out, if_neg H8.out]), (x1.trans hx).trans x2⟩
   ·have e : Hd.chk (nm, fs) = 12 := by unfold Hd.chk; rw [if_pos hok, if_neg H0.out, if_pos (by simp; omega)]
    rw [e]
    have h13 : 12 < fs.length := by omega
    clear e
    go_enter Tryz.func81, Tryz.ntmps81
    go_wp2_with (go_at_call 124; refine (ident_any _ _ hn).mono ?_; rintro e w1 ⟨rfl, rfl⟩; rw [hok])
    go_ret
    exact ⟨rfl, x1⟩
namespace Hd
theorem same_self (a : ByteArray) : same a a = true := by unfold same; simp
end Hd
theorem flat_get {α β : Type} (g : α → List β) (sz : Nat) (hg : ∀ d, (g d).length = sz) : ∀ (ds : List α) (i : Nat) (d : α), ds[i]? = some d → ∀ j, j < sz → (ds.flatMap g)[i * sz + j]? = (g d)[j]?
 | [], i, d, h, _, _ => by simp at h
 | x :: ds, 0, d, h, j, hj => by
  simp only [List.getElem?_cons_zero, Option.some.injEq] at h
  subst h
  rw [List.flatMap_cons, Nat.zero_mul, Nat.zero_add, List.getElem?_append_left (by rw [hg]; exact hj)]
 | x :: ds, i + 1, d, h, j, hj => by
  simp only [List.getElem?_cons_succ] at h
  rw [List.flatMap_cons, List.getElem?_append_right (by rw [hg, Nat.succ_mul]; omega), hg, ← flat_get g sz hg ds i d h j hj]
  congr 1; rw [Nat.succ_mul]; omega
/-- a block that has just been made holds rows -/
theorem rows_new {α : Type} {w : World} {B c sz : Nat} {t : TypeId} {f : Nat × Nat} {R : World → List Value → α → Prop} (g : α → List Value) (ds : List α) (hg : ∀ d, (g d).length = sz) (hR : ∀ d ∈ ds, R w (g d) d) (hb : w.heap[B]? = some (.cells (ds.flatMap g).toArray t f)) (h1 : ds.length ≤ c) (h2 : c ≤ maxLen) :
 Rows w sz R (.slice (some ⟨B, 0, none⟩) ds.length c) ds :=
 .inr ⟨⟨B, 0, none⟩, c, rfl, h1, h2, fun _ => rfl, fun i d hi => ⟨g d, hg d, hR d (List.mem_of_getElem? hi), fun j u hj => by
  have hjs : j < sz := by rw [← hg d]; exact (List.getElem?_eq_some_iff.1 hj).1
  rw [cell_of hb, Nat.zero_add]
  have := flat_get g sz hg ds i d hi j hjs
  rw [List.getElem?_toArray, this, hj]⟩⟩
namespace Hd
def cellsF (d : Fld) : List Value := [.string d.1, .int .i64 d.2]
theorem flds_new {w : World} {B : Nat} {t : TypeId} {f : Nat × Nat} (fs : List Fld) (hR : ∀ d ∈ fs, d.1.size ≤ maxLen ∧ -9223372036854775808 ≤ d.2 ∧ d.2 ≤ 9223372036854775807) (hb : w.heap[B]? = some (.cells (fs.flatMap cellsF).toArray t f)) (h2 : fs.length ≤ maxLen) : Flds w (.slice (some ⟨B, 0, none⟩) fs.length fs.length) fs :=
 rows_new cellsF fs (fun _ => rfl) (fun d hd => ⟨rfl, hR d hd⟩) hb (Nat.le_refl _) h2
theorem flds_nil (w : World) : Flds w (.slice none 0 0) [] := .inl ⟨rfl, rfl⟩
end Hd
/-- a slice of integers of kind k, and how long it may be -/
def Ns (k : IntKind) (w : World) (v : Value) (l : List Int) : Prop := Src w v 1 l.length (l.map (.int k)) ∧ l.length ≤ maxLen
theorem Ns.ext {k : IntKind} {w w' : World} {v : Value} {l : List Int} (h : Ns k w v l) (hx : Ext w w') : Ns k w' v l := ⟨h.1.ext hx, h.2⟩
def U32 (x : Int) : Prop := 0 ≤ x ∧ x < 4294967296
/-- a row of values: the cell that holds it -/
def RowR (w : World) (cs : List Value) (l : List Int) : Prop := ∃ v, cs = [v] ∧ Ns .u32 w v l ∧ ∀ x ∈ l, U32 x
theorem RowR.ext {w w' : World} {cs : List Value} {l : List Int} (h : RowR w cs l) (hx : Ext w w') : RowR w' cs l := by
 obtain ⟨v, h1, h2, h3⟩ := h; exact ⟨v, h1, h2.ext hx, h3⟩
namespace Pg
structure Prog where
 hs : List Hd.Hdr
 md : List Hd.Fld
 dp : List Int
structure PV where
 c0 : Value
 c1 : Value
 c2 : Value
 c3 : Value
 c4 : Value
 c5 : Value
 c6 : Value
 c7 : Value
 c8 : Value
abbrev PV.val (p : PV) : Value := .agg #[p.c0, p.c1, p.c2, p.c3, p.c4, p.c5, p.c6, p.c7, p.c8]
def Sl (v : Value) : Prop := ∃ a n c, v = .slice a n c
def IsP (w : World) (p : PV) (P : Prog) : Prop := (∃ s, p.c0 = .string s) ∧ Rows w 2 Hd.HdrR p.c1 P.hs ∧ Hd.Flds w p.c2 P.md ∧ Sl p.c3 ∧ Sl p.c4 ∧ Sl p.c5 ∧ Sl p.c6 ∧ Sl p.c7 ∧ Ns .i64 w p.c8 P.dp
theorem IsP.ext {w w' : World} {p : PV} {P : Prog} (h : IsP w p P) (hx : Ext w w') : IsP w' p P := by
 obtain ⟨h0, h1, h2, h3, h4, h5, h6, h7, h8⟩ := h
 exact ⟨h0, h1.ext (fun _ _ h => h.ext hx) hx, h2.ext hx, h3, h4, h5, h6, h7, h8.ext hx⟩
/-- the fields of a header, or the metadata -/
def hdrAt (hs : List Hd.Hdr) (h : Int) : Hd.Hdr := if 0 ≤ h then hs.getD h.toNat (⟨#[]⟩, []) else (⟨#[]⟩, [])
def fldAt (fs : List Hd.Fld) (f : Int) : Hd.Fld := if 0 ≤ f then fs.getD f.toNat (⟨#[]⟩, 0) else (⟨#[]⟩, 0)
def flds (P : Prog) (h : Int) : List Hd.Fld := if h = -1 then P.md else (hdrAt P.hs h).2
def wid (P : Prog) (h f : Int) : Int := if Bv.ok (fldAt (flds P h) f).2 then (fldAt (flds P h) f).2 else 0
theorem all_no {p : Nat → Bool} {n k : Nat} (hk : k < n) (h : p k = false) : (List.range n).all p = false := by
 rw [← Bool.not_eq_true, List.all_eq_true]
 intro ha
 have := ha k (List.mem_range.2 hk)
 rw [h] at this; cases this
theorem all_yes {p : Nat → Bool} {n : Nat} (h : ∀ j, j < n → p j = true) : (List.range n).all p = true :=
 List.all_eq_true.2 fun j hj => h j (List.mem_range.1 hj)
end Pg
end Go.Proofs.YthmokhkkdgnbhaaGreat
