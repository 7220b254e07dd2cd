/- Placement, plainly: the search in depth finds the first valid assignment. No program in sight, no condition. Words of our own on worlds: 'Ext w w'': nothing that was there has changed; 'Mod S w w'': w' is w but for new blocks and the blocks in S; a region that draws its order walked over all later worlds. Identifiers: the lexer's test and the reference's, walked. Slices in memory: a source that can be read, a row of one's own, an append; blocks written cell by cell. No program in sight, no condition. A region that draws its order: operations that only read and calls that only compute, ahead of one operation on which all of them bear, and what follows that one in its order. One walk: the head over all later worlds, the tail in the world that the head has left. What is known of a value that came in and can be read as data: its cells, part by part. No program in sight, no condition. Facts that hold in every later world, found by the chain of worlds that the walk has come through; slices of aggregates. No program in sight, no condition. The plain arithmetic of fixed-width unsigned integers: what the functions of layer 1 compute, and the laws between them. No program in sight, no condition. The functions of layer 1 and of its reference, walked: each returns what Bv says. Pack and Unpack, walked. The laws of layer 2: what they share. The laws of layer 2, walked: packing again what was unpacked. Headers: their data, and the small functions of package header and of its reference, walked. No condition. -/
import Derived.BigQuiet
import Derived.Deep.DeepFit
import Derived.Deep.DeepMust
import Derived.Handy
import Derived.Laws.AppendOwnNone
import Derived.Lib.Hide
import Derived.OneCell
import Derived.OpenShut
import Derived.ProofKit
import Derived.StillTail
import Derived.Test.YtkiafiaodockbaaGreatProg
import Derived.WalkKit
set_option maxRecDepth 8000
set_option maxHeartbeats 16000000
namespace Go.Proofs.YtkiafiaodockbaaGreat
open Go.RowKit
namespace Pl
/-- what the units of a stage use -/
structure Us where
 t : Int
 g : Int
 r : Int
 c : Int
/-- a placement problem: how many units, how many stages, what a unit adds, what is within the limits, how unit j depends on unit i -/
structure Job where
 n : Nat
 S : Int
 ad : Us → Nat → Us
 wi : Us → Bool
 dp : Nat → Nat → Int
 P : Us → Prop
def Us.le (a b : Us) : Prop := a.t ≤ b.t ∧ a.g ≤ b.g ∧ a.r ≤ b.r ∧ a.c ≤ b.c
/-- what is asked of a problem -/
structure Job.Ok (J : Job) : Prop where
 p0 : J.P ⟨0, 0, 0, 0⟩
 up : ∀ u i, J.P u → u.le (J.ad u i) ∧ J.P (J.ad u i)
 mo : ∀ u v i, J.P u → J.P v → u.le v → (J.ad u i).le (J.ad v i)
 wm : ∀ u v, u.le v → J.wi v = true → J.wi u = true
 w0 : J.wi ⟨0, 0, 0, 0⟩ = true
theorem Us.le_refl (u : Us) : u.le u := ⟨Int.le_refl _, Int.le_refl _, Int.le_refl _, Int.le_refl _⟩
theorem Us.le_trans {u v w : Us} (h : u.le v) (k : v.le w) : u.le w := ⟨Int.le_trans h.1 k.1, Int.le_trans h.2.1 k.2.1, Int.le_trans h.2.2.1 k.2.2.1, Int.le_trans h.2.2.2 k.2.2.2⟩
variable (J : Job)
def usI : List Int → Nat → Int → Us → Us
 | [], _, _, u => u
 | x :: l, i, s, u => usI l (i + 1) s (if x = s then J.ad u i else u)
/-- the usage of a stage under an assignment of the first units -/
def us (σ : List Int) (s : Int) : Us := usI J σ 0 s ⟨0, 0, 0, 0⟩
/-- unit k at stage s follows the units ahead of it -/
def folP (σ : List Int) (k : Nat) (s : Int) (i : Nat) : Bool := if J.dp i k = 2 then decide (σ.getD i 0 < s) else if J.dp i k = 1 then decide (σ.getD i 0 ≤ s) else true
def fol (σ : List Int) (k : Nat) (s : Int) : Bool := (List.range k).all (folP J σ k s)
structure Val (σ : List Int) : Prop where
 len : σ.length = J.n
 fo : ∀ j, j < J.n → fol J σ j (σ.getD j 0) = true
 rg : ∀ x ∈ σ, 0 ≤ x ∧ x < J.S
 wi : ∀ s, 0 ≤ s → s < J.S → J.wi (us J σ s) = true
theorem usI_snoc : ∀ (l : List Int) (x : Int) (i : Nat) (s : Int) (u : Us), usI J (l ++ [x]) i s u = if x = s then J.ad (usI J l i s u) (i + l.length) else usI J l i s u
 | [], x, i, s, u => rfl
 | y :: l, x, i, s, u => by
  show usI J (l ++ [x]) (i + 1) s _ = _
  rw [usI_snoc l x (i + 1), List.length_cons, show i + 1 + l.length = i + (l.length + 1) by omega]; rfl
theorem us_snoc (l : List Int) (x s : Int) : us J (l ++ [x]) s = if x = s then J.ad (us J l s) l.length else us J l s := by
 unfold us; rw [usI_snoc, Nat.zero_add]
theorem us_nil (s : Int) : us J [] s = ⟨0, 0, 0, 0⟩ := rfl
variable {J}
theorem us_pos (h : J.Ok) (s : Int) : ∀ (k : Nat) (l : List Int), l.length = k → J.P (us J l s) := by
 intro k
 induction k with
 | zero => intro l hl; obtain rfl := List.eq_nil_of_length_eq_zero hl; exact h.p0
 | succ k ih =>
  intro l hl
  have hne : l ≠ [] := by intro e; subst e; simp at hl
  rw [← List.dropLast_concat_getLast hne, us_snoc]
  have h1 := ih l.dropLast (by rw [List.length_dropLast]; omega)
  split
  ·exact (h.up _ _ h1).2
  ·exact h1
theorem take_snoc {σ : List Int} {k : Nat} (hk : k < σ.length) : σ.take (k + 1) = σ.take k ++ [σ.getD k 0] := by
 rw [List.take_add_one, List.getElem?_eq_getElem hk, List.getD_eq_getElem?_getD, List.getElem?_eq_getElem hk]; rfl
theorem us_step (σ : List Int) (k : Nat) (hk : k < σ.length) (s : Int) : us J (σ.take (k + 1)) s = if σ.getD k 0 = s then J.ad (us J (σ.take k) s) k else us J (σ.take k) s := by
 rw [take_snoc hk, us_snoc, List.length_take, Nat.min_eq_left (Nat.le_of_lt hk)]
theorem us_mono (h : J.Ok) (σ : List Int) (s : Int) : ∀ (d k : Nat), k + d ≤ σ.length → (us J (σ.take k) s).le (us J (σ.take (k + d)) s) := by
 intro d
 induction d with
 | zero => intro k _; exact Us.le_refl _
 | succ d ih =>
  intro k hk
  refine Us.le_trans (ih k (by omega)) ?_
  rw [show k + (d + 1) = k + d + 1 by omega, us_step σ (k + d) (by omega)]
  split
  ·exact (h.up _ _ (us_pos h s _ _ rfl)).1
  ·exact Us.le_refl _
/-- an assignment may be met unit by unit -/
theorem Val.ok (h : J.Ok) {σ : List Int} (hv : Val J σ) {k : Nat} (hk : k < J.n) : J.wi (J.ad (us J (σ.take k) (σ.getD k 0)) k) = true := by
 have hlen := hv.len
 have hkl : k < σ.length := by omega
 have h1 := us_mono h σ (σ.getD k 0) (σ.length - (k + 1)) (k + 1) (by omega)
 rw [show k + 1 + (σ.length - (k + 1)) = σ.length by omega, List.take_length, us_step σ k hkl, if_pos rfl] at h1
 have hm : σ.getD k 0 ∈ σ := by rw [List.getD_eq_getElem?_getD, List.getElem?_eq_getElem hkl]; exact List.getElem_mem hkl
 exact h.wm _ _ h1 (hv.wi _ (hv.rg _ hm).1 (hv.rg _ hm).2)
theorem fol_eq {σ τ : List Int} {k : Nat} {s : Int} (h : ∀ i, i < k → σ.getD i 0 = τ.getD i 0) : fol J σ k s = fol J τ k s := by
 unfold fol
 rw [Bool.eq_iff_iff, List.all_eq_true, List.all_eq_true]
 refine ⟨fun g i hi => ?_, fun g i hi => ?_⟩ <;> have := g i hi <;> unfold folP at this ⊢ <;> rw [h i (List.mem_range.1 hi)] at * <;> exact this
theorem take_eq {σ τ : List Int} {k : Nat} (hs : k ≤ σ.length) (ht : k ≤ τ.length) (h : ∀ i, i < k → σ.getD i 0 = τ.getD i 0) : σ.take k = τ.take k := by
 refine List.ext_getElem? fun i => ?_
 rw [List.getElem?_take, List.getElem?_take]
 by_cases hi : i < k
 ·rw [if_pos hi, if_pos hi]
  have := h i hi
  rw [List.getD_eq_getElem?_getD, List.getD_eq_getElem?_getD] at this
  rw [List.getElem?_eq_getElem (by omega), List.getElem?_eq_getElem (by omega)] at *
  simpa using this
 ·rw [if_neg hi, if_neg hi]
/-- the search's state: the first k units stand; unit k is to be tried at stage s -/
structure Inv (J : Job) (σ : List Int) (k : Nat) (s : Int) : Prop where
 len : σ.length = J.n
 kn : k ≤ J.n
 s0 : 0 ≤ s
 sS : s ≤ J.S
 rg : ∀ i, i < k → 0 ≤ σ.getD i 0 ∧ σ.getD i 0 < J.S
 fo : ∀ j, j < k → fol J σ j (σ.getD j 0) = true
 wi : ∀ s, J.wi (us J (σ.take k) s) = true
 lx : ∀ τ, Val J τ → (∃ i, i < k ∧ (∀ j, j < i → τ.getD j 0 = σ.getD j 0) ∧ σ.getD i 0 < τ.getD i 0) ∨ ((∀ j, j < k → τ.getD j 0 = σ.getD j 0) ∧ (k < J.n → s ≤ τ.getD k 0))
theorem getD_mem {σ : List Int} {k : Nat} (h : k < σ.length) : σ.getD k 0 ∈ σ := by
 rw [List.getD_eq_getElem?_getD, List.getElem?_eq_getElem h]; exact List.getElem_mem h
theorem Inv.start (h : J.Ok) (hS : 0 ≤ J.S) {σ : List Int} (hl : σ.length = J.n) : Inv J σ 0 0 :=
 ⟨hl, Nat.zero_le _, Int.le_refl _, hS, fun i hi => by omega, fun i hi => by omega, fun s => by rw [List.take_zero, us_nil]; exact h.w0, fun τ hv => .inr ⟨fun j hj => by omega, fun hn => (hv.rg _ (getD_mem (by rw [hv.len]; exact hn))).1⟩⟩
/-- a stage that will not do -/
theorem Inv.fail (h : J.Ok) {σ : List Int} {k : Nat} {s : Int} (I : Inv J σ k s) (hk : k < J.n) (hs : s < J.S) (hno : J.wi (J.ad (us J (σ.take k) s) k) = false ∨ fol J σ k s = false) : Inv J σ k (s + 1) := by
 refine ⟨I.len, I.kn, by have := I.s0; omega, by omega, I.rg, I.fo, I.wi, fun τ hv => ?_⟩
 rcases I.lx τ hv with h1 | ⟨h1, h2⟩
 ·exact .inl h1
 ·refine .inr ⟨h1, fun _ => ?_⟩
  have h3 := h2 hk
  rcases Int.lt_or_eq_of_le h3 with h4 | h4
  ·omega
  ·exfalso
   have hlen := I.len
   have hvl := hv.len
   have e1 : τ.take k = σ.take k := take_eq (by omega) (by omega) h1
   have e2 := hv.ok h hk
   rw [e1, ← h4] at e2
   have e3 := hv.fo k hk
   rw [fol_eq (τ := σ) h1, ← h4] at e3
   rcases hno with h5 | h5
   ·rw [h5] at e2; cases e2
   ·rw [h5] at e3; cases e3
theorem getD_set {σ : List Int} {k i : Nat} {s : Int} (hk : k < σ.length) : (σ.set k s).getD i 0 = if i = k then s else σ.getD i 0 := by
 rw [List.getD_eq_getElem?_getD, List.getD_eq_getElem?_getD, List.getElem?_set]
 by_cases h : k = i
 ·subst h; rw [if_pos rfl, if_pos hk, if_pos rfl]; rfl
 ·rw [if_neg h, if_neg (fun e => h e.symm)]
theorem take_set {σ : List Int} {k : Nat} {s : Int} : (σ.set k s).take k = σ.take k := by
 rw [List.take_set_of_le (Nat.le_refl _)]
/-- a stage that will do -/
theorem Inv.put {σ : List Int} {k : Nat} {s : Int} (I : Inv J σ k s) (hk : k < J.n) (hs : s < J.S) (hw : J.wi (J.ad (us J (σ.take k) s) k) = true) (hf : fol J σ k s = true) : Inv J (σ.set k s) (k + 1) 0 := by
 have hlen := I.len
 have hkl : k < σ.length := by omega
 have hg : ∀ i, (σ.set k s).getD i 0 = if i = k then s else σ.getD i 0 := fun i => getD_set hkl
 have hg' : ∀ i, i < k → (σ.set k s).getD i 0 = σ.getD i 0 := fun i hi => by rw [hg, if_neg (by omega)]
 refine ⟨by simp [hlen], hk, Int.le_refl _, Int.le_trans I.s0 I.sS, fun i hi => ?_, fun j hj => ?_, fun x => ?_, fun τ hv => ?_⟩
 ·by_cases e : i = k
  ·subst e; rw [hg, if_pos rfl]; exact ⟨I.s0, hs⟩
  ·rw [hg, if_neg e]; exact I.rg i (by omega)
 ·by_cases e : j = k
  ·subst e
   rw [hg, if_pos rfl, fol_eq (τ := σ) (fun i hi => hg' i hi)]; exact hf
  ·rw [hg, if_neg e, fol_eq (τ := σ) (fun i hi => hg' i (by omega))]; exact I.fo j (by omega)
 ·rw [us_step (σ.set k s) k (by simpa using hkl), hg, if_pos rfl, take_set]
  split
  ·rename_i e; rw [← e]; exact hw
  ·exact I.wi x
 ·rcases I.lx τ hv with ⟨i, h1, h2, h3⟩ | ⟨h1, h2⟩
  ·exact .inl ⟨i, by omega, fun j hj => by rw [hg' j (by omega)]; exact h2 j hj, by rw [hg' i h1]; exact h3⟩
  ·have h3 := h2 hk
   rcases Int.lt_or_eq_of_le h3 with h4 | h4
   ·exact .inl ⟨k, by omega, fun j hj => by rw [hg' j hj]; exact h1 j hj, by rw [hg, if_pos rfl]; exact h4⟩
   ·refine .inr ⟨fun j hj => ?_, fun hn => (hv.rg _ (getD_mem (by rw [hv.len]; exact hn))).1⟩
    by_cases e : j = k
    ·subst e; rw [hg, if_pos rfl]; exact h4.symm
    ·rw [hg, if_neg e]; exact h1 j (by omega)
/-- back to the unit ahead -/
theorem Inv.back (h : J.Ok) {σ : List Int} {k : Nat} (I : Inv J σ (k + 1) J.S) (hk : k + 1 < J.n) : Inv J σ k (σ.getD k 0 + 1) := by
 have hlen := I.len
 have hr := I.rg k (by omega)
 refine ⟨hlen, by omega, by omega, by omega, fun i hi => I.rg i (by omega), fun j hj => I.fo j (by omega), fun s => ?_, fun τ hv => ?_⟩
 ·have h1 := us_mono h σ s 1 k (by omega)
  exact h.wm _ _ h1 (I.wi s)
 ·rcases I.lx τ hv with ⟨i, h1, h2, h3⟩ | ⟨h1, h2⟩
  ·by_cases e : i = k
   ·subst e; exact .inr ⟨h2, fun _ => by omega⟩
   ·exact .inl ⟨i, by omega, h2, h3⟩
  ·exfalso
   have h3 := h2 hk
   have h4 := (hv.rg _ (getD_mem (σ := τ) (k := k + 1) (by rw [hv.len]; exact hk))).2
   omega
/-- no stage is left for the first unit: there is no assignment -/
theorem Inv.none {σ : List Int} (I : Inv J σ 0 J.S) (hn : 0 < J.n) : ∀ τ, ¬ Val J τ := fun τ hv => by
 rcases I.lx τ hv with ⟨i, h1, _⟩ | ⟨_, h2⟩
 ·omega
 ·have h3 := h2 hn
  have h4 := (hv.rg _ (getD_mem (σ := τ) (k := 0) (by rw [hv.len]; exact hn))).2
  omega
/-- all units stand -/
theorem Inv.val {σ : List Int} {s : Int} (I : Inv J σ J.n s) : Val J σ := by
 have hlen := I.len
 refine ⟨hlen, I.fo, fun x hx => ?_, fun s _ _ => ?_⟩
 ·obtain ⟨i, hi, rfl⟩ := List.mem_iff_getElem.1 hx
  have := I.rg i (by omega)
  rwa [List.getD_eq_getElem?_getD, List.getElem?_eq_getElem hi] at this
 ·have := I.wi s
  rwa [← hlen, List.take_length] at this
/-- the first of two that differ decides -/
def prec : List Int → List Int → Bool
 | a :: l, b :: m => if a ≠ b then decide (a < b) else prec l m
 | _, _ => false
theorem prec_false : ∀ {a b : List Int}, (∃ i, i < b.length ∧ (∀ j, j < i → a.getD j 0 = b.getD j 0) ∧ b.getD i 0 < a.getD i 0) → prec a b = false
 | [], _, _ => rfl
 | _ :: _, [], _ => rfl
 | x :: a, y :: b, ⟨0, _, _, h⟩ => by
  have h : y < x := h
  show (if x ≠ y then decide (x < y) else prec a b) = false
  rw [if_pos (by omega)]; exact decide_eq_false (by omega)
 | x :: a, y :: b, ⟨i + 1, h1, h2, h3⟩ => by
  have e : x = y := h2 0 (by omega)
  show (if x ≠ y then decide (x < y) else prec a b) = false
  rw [if_neg (by simp [e])]
  exact prec_false ⟨i, by simpa using h1, fun j hj => h2 (j + 1) (by omega), h3⟩
theorem prec_same : ∀ (a : List Int), prec a a = false
 | [] => rfl
 | x :: a => by show (if x ≠ x then decide (x < x) else prec a a) = false; rw [if_neg (by simp)]; exact prec_same a
theorem Inv.first {σ : List Int} {s : Int} (I : Inv J σ J.n s) {τ : List Int} (hv : Val J τ) : prec τ σ = false := by
 have hlen := I.len
 have hvl := hv.len
 rcases I.lx τ hv with ⟨i, h1, h2, h3⟩ | ⟨h1, _⟩
 ·exact prec_false ⟨i, by omega, h2, h3⟩
 ·have e : τ.take J.n = σ.take J.n := take_eq (by omega) (by omega) h1
  rw [← hlen, List.take_length] at e
  rw [← e, show τ.take σ.length = τ by rw [hlen, ← hvl, List.take_length]]; exact prec_same τ
/-- a unit that alone is too much -/
theorem alone (h : J.Ok) {i : Nat} (hi : i < J.n) (hw : J.wi (J.ad ⟨0, 0, 0, 0⟩ i) = false) : ∀ τ, ¬ Val J τ := fun τ hv => by
 have h1 := hv.ok h hi
 have h2 := us_mono h τ (τ.getD i 0) i 0 (by have := hv.len; omega)
 rw [List.take_zero, us_nil, Nat.zero_add] at h2
 have h3 := h.wm _ _ (h.mo _ _ i h.p0 (us_pos h _ _ _ rfl) h2) h1
 rw [hw] at h3; cases h3
/-- the earliest stages, as they are reckoned -/
def earP (dp : Nat → Nat → Int) (out : List Int) (j : Nat) (x : Int) (i : Nat) : Int := if dp i j = 2 then max x (out.getD i 0 + 1) else if dp i j = 1 then max x (out.getD i 0) else x
def ear (dp : Nat → Nat → Int) : Nat → List Int
 | 0 => []
 | j + 1 => ear dp j ++ [(List.range j).foldl (earP dp (ear dp j) j) 0]
theorem ear_len (dp : Nat → Nat → Int) : ∀ n, (ear dp n).length = n
 | 0 => rfl
 | n + 1 => by show (ear dp n ++ _).length = _; simp [ear_len dp n]
theorem ear_at (dp : Nat → Nat → Int) : ∀ {n i : Nat}, i < n → (ear dp n).getD i 0 = (ear dp (i + 1)).getD i 0
 | n + 1, i, h => by
  by_cases e : i = n
  ·subst e; rfl
  ·rw [show ear dp (n + 1) = ear dp n ++ [(List.range n).foldl (earP dp (ear dp n) n) 0] from rfl, List.getD_eq_getElem?_getD, List.getElem?_append_left (by rw [ear_len]; omega), ← List.getD_eq_getElem?_getD]
   exact ear_at dp (by omega)
theorem foldl_le {f : Int → Nat → Int} {b : Int} : ∀ (l : List Nat) (x : Int), x ≤ b → (∀ i ∈ l, ∀ y, y ≤ b → f y i ≤ b) → l.foldl f x ≤ b
 | [], _, h, _ => h
 | i :: l, x, h, hf => foldl_le l (f x i) (hf i List.mem_cons_self x h) (fun j hj => hf j (List.mem_cons_of_mem _ hj))
theorem ear_le {σ : List Int} (hv : Val J σ) : ∀ (n : Nat), n ≤ J.n → ∀ i, i < n → (ear J.dp n).getD i 0 ≤ σ.getD i 0 := by
 intro n
 induction n with
 | zero => intro _ i hi; omega
 | succ n ih =>
  intro hn i hi
  by_cases e : i = n
  ·subst e
   rw [show ear J.dp (i + 1) = ear J.dp i ++ [(List.range i).foldl (earP J.dp (ear J.dp i) i) 0] from rfl, List.getD_eq_getElem?_getD, List.getElem?_append_right (by rw [ear_len]; exact Nat.le_refl _), ear_len, Nat.sub_self]
   show (List.range i).foldl _ 0 ≤ _
   refine foldl_le _ _ (hv.rg _ (getD_mem (by rw [hv.len]; omega))).1 fun q hq y hy => ?_
   have hq := List.mem_range.1 hq
   have h1 := ih (by omega) q hq
   have h2 := List.all_eq_true.1 (hv.fo i (by omega)) q (List.mem_range.2 hq)
   unfold folP at h2
   unfold earP
   split
   ·rename_i e; rw [if_pos e] at h2; have := of_decide_eq_true h2; omega
   ·rename_i e; rw [if_neg e] at h2
    split
    ·rename_i e2; rw [if_pos e2] at h2; have := of_decide_eq_true h2; omega
    ·exact hy
  ·rw [ear_at J.dp (n := n + 1) (by omega), ← ear_at J.dp (n := n) (by omega)]; exact ih (by omega) i (by omega)
/-- a stage that comes too late -/
theorem late {i : Nat} (hi : i < J.n) (h : J.S ≤ (ear J.dp J.n).getD i 0) : ∀ τ, ¬ Val J τ := fun τ hv => by
 have h1 := ear_le hv J.n (Nat.le_refl _) i hi
 have h2 := (hv.rg _ (getD_mem (σ := τ) (k := i) (by rw [hv.len]; exact hi))).2
 omega
end Pl
/-- Nothing that was there has changed. -/
def Ext (w w' : World) : Prop := Below w.heap.size w w'
theorem Ext.refl (w : World) : Ext w w := Below.refl _ _
theorem Ext.trans {a b c : World} (h : Ext a b) (k : Ext b c) : Ext a c := Below.trans h (k.mono h.size)
theorem Ext.alloc {a w : World} (h : Ext a w) (o : Obj) : Ext a (w.alloc o) := Below.alloc h h.size o
theorem Ext.drew {a w : World} (h : Ext a w) : Ext a w.drew := Below.drew h
theorem Ext.setCell {a w : World} (h : Ext a w) {p : Addr} (hp : a.heap.size ≤ p.block) (u : Value) : Ext a (w.setCell p u) := Below.setCell h hp u
theorem Ext.heap {a w : World} (h : Ext a w) {k : Nat} {o : Obj} (hk : a.heap[k]? = some o) : w.heap[k]? = some o := by
 rw [h.block k (lt_of_block hk)]; exact hk
theorem Ext.le {a w : World} (h : Ext a w) : a.heap.size ≤ w.heap.size := h.size
theorem Ext.cell {a w : World} (h : Ext a w) {p : Addr} {v : Value} (hc : a.cell? p = some v) : w.cell? p = some v := by
 rw [Below.cell h (World.block_lt_of_cell? _ _ hc)]; exact hc
/-- A world in which nothing of W has changed. -/
structure Later (W : World) where
 val : World
 ext : Ext W val
instance (W : World) : Nonempty (Later W) := ⟨⟨W, Ext.refl W⟩⟩
/-- what a call that only computes leaves: its result, and a later world -/
def Rets (W : World) (v : Value) (e : Ending) (w' : World) : Prop := e = .returned v ∧ Ext W w'
theorem Rets.later {P : Program} {f : FuncId} {args : Array Value} {W : World} {v : Value} (h : ∀ w, Calls P f args w (Rets w v)) (x : Later W) :
 Calls P f args x.val fun e w' => e = .returned v ∧ ∃ y : Later W, w' = y.val :=
 (h x.val).mono fun _ w' ⟨he, hx⟩ => ⟨he, ⟨w', x.ext.trans hx⟩, rfl⟩
theorem Rets.later_at {P : Program} {f : FuncId} {args : Array Value} {W : World} {v : Value} {x : Later W} (h : Calls P f args x.val (Rets x.val v)) :
 Calls P f args x.val fun e w' => e = .returned v ∧ ∃ y : Later W, w' = y.val :=
 h.mono fun _ w' ⟨he, hx⟩ => ⟨he, ⟨w', x.ext.trans hx⟩, rfl⟩
theorem Rets.of_eq {P : Program} {f : FuncId} {args : Array Value} {W : World} {v : Value} (h : Calls P f args W fun e w' => e = .returned v ∧ W = w') : Calls P f args W (Rets W v) :=
 h.mono fun _ _ ⟨he, hx⟩ => ⟨he, by subst hx; exact Ext.refl _⟩
/-- A region that draws its order, whose operations only read and whose calls only compute: ONE walk over all later worlds. -/
theorem wp_region_later {P : Program} {id : Nat} {Q : Exit → Act → World → Prop} {a : Act} {w W : World} {l : List Oper} (hm : P.follows .mixedOrders = true) (hB : Region.lexB .any l.toArray = true) (hW : Ext W w)
 (h : wpQuiet P l.toArray (fun w' => ∃ x : Later W, w' = x.val) (fun a' => ∀ w' : World, Ext W w' → Q .normal a' w') l a) : (Code.region id l.toArray true).wp P Q a w :=
 wp_region_quiet (C := fun w' => ∃ x : Later W, w' = x.val) hm hB ⟨⟨_, hW.drew⟩, rfl⟩ (by
  have e : (fun a' => ∀ w' : World, (∃ x : Later W, w' = x.val) → Q .normal a' w') = fun a' => ∀ w' : World, Ext W w' → Q .normal a' w' := by
   funext a'; apply propext
   exact ⟨fun h w' hw => h w' ⟨⟨w', hw⟩, rfl⟩, fun h w' ⟨x, hx⟩ => by subst hx; exact h x.val x.ext⟩
  rw [e]; simpa using h)
/-- w' is w with new blocks, and with changes to the blocks of S alone. -/
structure Mod (S : Nat → Prop) (w w' : World) : Prop where
 os : w'.os = w.os
 tape : w'.tape = w.tape
 output : w'.output = w.output
 size : w.heap.size ≤ w'.heap.size
 block : ∀ k, k < w.heap.size → ¬ S k → w'.heap[k]? = w.heap[k]?
theorem Mod.refl (S : Nat → Prop) (w : World) : Mod S w w := ⟨rfl, rfl, rfl, Nat.le_refl _, fun _ _ _ => rfl⟩
theorem Mod.trans {S : Nat → Prop} {a b c : World} (h : Mod S a b) (k : Mod S b c) : Mod S a c :=
 ⟨k.os.trans h.os, k.tape.trans h.tape, k.output.trans h.output, Nat.le_trans h.size k.size,
  fun i hi hs => (k.block i (Nat.lt_of_lt_of_le hi h.size) hs).trans (h.block i hi hs)⟩
theorem Mod.mono {S T : Nat → Prop} {a b : World} (h : Mod S a b) (hst : ∀ k, k < a.heap.size → S k → T k) : Mod T a b :=
 ⟨h.os, h.tape, h.output, h.size, fun i hi hs => h.block i hi (fun hS => hs (hst i hi hS))⟩
theorem Mod.of_ext {S : Nat → Prop} {a b : World} (h : Ext a b) : Mod S a b := ⟨h.os, h.tape, h.output, h.size, fun i hi _ => h.block i hi⟩
theorem Mod.ext {S : Nat → Prop} {a b : World} (h : Mod S a b) (hs : ∀ k, S k → a.heap.size ≤ k) : Ext a b :=
 ⟨h.os, h.tape, h.output, h.size, fun i hi => h.block i hi (fun hS => by have := hs i hS; omega)⟩
theorem Mod.heap {S : Nat → Prop} {a b : World} (h : Mod S a b) {k : Nat} {o : Obj} (hk : a.heap[k]? = some o) (hs : ¬ S k) : b.heap[k]? = some o := by
 rw [h.block k (lt_of_block hk) hs]; exact hk
theorem Mod.setCell {S : Nat → Prop} {a w : World} (h : Mod S a w) {p : Addr} (hp : S p.block ∨ a.heap.size ≤ p.block) (u : Value) : Mod S a (w.setCell p u) :=
 ⟨h.os, h.tape, h.output, by simpa [World.setCell] using h.size, fun i hi hs => by
  rw [Below.heap_setCell _ _ _ _ (by rcases hp with hp | hp; (· intro e; subst e; exact hs hp); (· omega))]; exact h.block i hi hs⟩
theorem Lh {p : Prop} (h : p) : Hid p := Lib.hid h
theorem tkS {α : Type} {a : α} {l : List α} {i : Nat} : (a :: l).take (i + 1) = a :: l.take i := List.take_succ_cons
theorem tkZ {α : Type} {l : List α} : l.take 0 = [] := List.take_zero
theorem dpS {α : Type} {a : α} {l : List α} {i : Nat} : (a :: l).drop (i + 1) = l.drop i := List.drop_succ_cons
theorem dpZ {α : Type} {l : List α} : l.drop 0 = l := List.drop_zero
theorem stS {α : Type} {x : α} {xs : List α} {n : Nat} {a : α} : (x :: xs).set (n + 1) a = x :: xs.set n a := List.set_cons_succ
theorem stZ {α : Type} {x : α} {xs : List α} {a : α} : (x :: xs).set 0 a = a :: xs := List.set_cons_zero
theorem stA {α : Type} (l : List α) (i : Nat) (a : α) : l.toArray.setIfInBounds i a = (l.set i a).toArray := List.setIfInBounds_toArray l i a
theorem dF {p : Prop} [Decidable p] (h : ¬ p) : decide p = false := decide_eq_false h
theorem dTt {p : Prop} [Decidable p] (h : p) : decide p = true := decide_eq_true h
theorem bF {a b : Int} (h : a ≠ b) : (a == b) = false := beq_eq_false_iff_ne.2 h
theorem bT {a b : Int} (h : a = b) : (a == b) = true := beq_iff_eq.2 h
theorem nT {a b : Int} (h : a ≠ b) : (a != b) = true := bne_iff_ne.2 h
theorem szA (w : World) (o : Obj) : (w.alloc o).heap.size = w.heap.size + 1 := World.size_alloc w o
theorem eR (w : World) : Ext w w := Ext.refl w
theorem gE {α : Type} {l : List α} {i : Nat} (h : i < l.length) : l[i]? = some l[i] := List.getElem?_eq_getElem h
namespace Id
theorem ret_bool {a b : Bool} (h : a = b) : Ending.returned (.bool a) = .returned (.bool b) := by rw [h]
def isL (c : Int) : Bool := (decide (97 ≤ c) && decide (c ≤ 122)) || (decide (65 ≤ c) && decide (c ≤ 90))
def isD (c : Int) : Bool := decide (48 ≤ c) && decide (c ≤ 57)
def isC (c : Int) : Bool := isL c || isD c || (c == 95)
def ex : List UInt8 → Nat
 | [] => 0
 | c :: l => if isC c.toNat then ex l + 1 else 0
theorem ex_le : ∀ l : List UInt8, ex l ≤ l.length
 | [] => Nat.le_refl _
 | c :: l => by unfold ex; split <;> simp <;> have := ex_le l <;> omega
theorem ex_all : ∀ l : List UInt8, ex l = l.length ↔ l.all (fun c => isC c.toNat) = true
 | [] => by simp [ex]
 | c :: l => by
  have ih := ex_all l
  unfold ex
  by_cases h : isC c.toNat = true
  ·simp [h, ih]
  ·simp [h]
/-- an identifier -/
def ok (s : ByteArray) : Bool := decide (1 ≤ s.size) && decide (s.size ≤ 16) && isL (s.data.toList.head?.getD 0).toNat && s.data.toList.all (fun c => isC c.toNat)
theorem drop_step (s : ByteArray) (k : Nat) (h : k < s.size) : s.data.toList.drop k = s[k] :: s.data.toList.drop (k + 1) := by
 rw [List.drop_eq_getElem_cons (by simpa using h)]; rfl
theorem head_at (s : ByteArray) (h : 0 < s.size) : s.data.toList.head?.getD 0 = s[0] := by
 rw [List.head?_eq_getElem?, gE (by simpa using h)]; rfl
end Id
theorem letter_any (c : Int) (W : World) : Calls Tryz.prog 101 #[.int .u8 c] W fun e W' => e = .returned (.bool (Id.isL c)) ∧ W = W' := by
 by_cases h1 : 97 ≤ c <;> by_cases h2 : c ≤ 122 <;> by_cases h3 : 65 ≤ c <;> by_cases h4 : c ≤ 90 <;> first | omega | skip
 all_goals
  go_enter Tryz.func101, Tryz.ntmps101
  go_wp2
  go_ret
  exact ⟨by simp [Id.isL] <;> omega, rfl⟩
theorem digit_any (c : Int) (W : World) : Calls Tryz.prog 104 #[.int .u8 c] W fun e W' => e = .returned (.bool (Id.isD c)) ∧ W = W' := by
 by_cases h1 : 48 ≤ c <;> by_cases h2 : c ≤ 57 <;> first | omega | skip
 all_goals
  go_enter Tryz.func104, Tryz.ntmps104
  go_wp2
  go_ret
  exact ⟨by simp [Id.isD] <;> omega, rfl⟩
theorem idchar_any (c : Int) (W : World) : Calls Tryz.prog 103 #[.int .u8 c] W fun e W' => e = .returned (.bool (Id.isC c)) ∧ W = W' := by
 cases h1 : Id.isL c <;> cases h2 : Id.isD c
 all_goals
  go_enter Tryz.func103, Tryz.ntmps103
  go_wp2_with (first
   | (go_at_call 101; refine (letter_any _ _).mono ?_; rintro e w1 ⟨rfl, rfl⟩)
   | (go_at_call 104; refine (digit_any _ _).mono ?_; rintro e w1 ⟨rfl, rfl⟩))
  go_ret
  exact ⟨by simp [Id.isC, h1, h2], rfl⟩
theorem extent_any (s : ByteArray) (W : World) (hs : s.size ≤ maxLen) :
 Calls Tryz.prog 102 #[.string s, .func (.func 103) #[] #[]] W fun e W' => e = .returned (.int .i64 (Id.ex s.data.toList)) ∧ W = W' := by
 unfold maxLen at hs
 go_enter Tryz.func102, Tryz.ntmps102
 go_wp2
 go_loop [5] (fun i => ∃ k : Nat, k ≤ s.size ∧ i = .int .i64 k ∧ Hid (k + Id.ex (s.data.toList.drop k) = Id.ex s.data.toList)) (fun i => s.size - (intOf i).toNat)
 case atStart => exact ⟨0, Nat.zero_le _, rfl, Lh (by simp)⟩
 case round =>
  obtain ⟨k, hk, rfl, HE⟩ := hrel
  by_cases hlt : k < s.size
  ·have hd := Id.drop_step s k hlt
   cases hc : Id.isC s[k].toNat
   ·have HF : Hid (Id.ex (s.data.toList.drop k) = 0) := Lh (by rw [hd]; simp [Id.ex, hc])
    clear hd
    go_wp2_with (go_at_call 103; refine (idchar_any _ _).mono ?_; rintro e w1 ⟨rfl, rfl⟩; rw [hc])
    go_ret
    exact ⟨by have := HE.out; rw [HF.out] at this; rw [← this]; rfl, rfl⟩
   ·have HF : Hid (Id.ex (s.data.toList.drop k) = Id.ex (s.data.toList.drop (k + 1)) + 1) := Lh (by rw [hd]; simp [Id.ex, hc])
    clear hd
    go_wp2_with (go_at_call 103; refine (idchar_any _ _).mono ?_; rintro e w1 ⟨rfl, rfl⟩; rw [hc])
    go_round
    case rel => exact ⟨k + 1, by omega, by go_num, Lh (by have := HE.out; rw [HF.out] at this; omega)⟩
    case measure => simp [intOf]; omega
  ·obtain rfl : k = s.size := by omega
   go_wp2
   go_ret
   exact ⟨by have := HE.out; rw [List.drop_eq_nil_of_le (by simp)] at this; rw [← this]; rfl, rfl⟩
theorem ident_any (s : ByteArray) (W : World) (hs : s.size ≤ maxLen) :
 Calls Tryz.prog 68 #[.string s] W fun e W' => e = .returned (.bool (Id.ok s)) ∧ W = W' := by
 have hs2 := hs
 unfold maxLen at hs2
 by_cases h0 : s.size = 0
 ·have e : Id.ok s = false := by simp [Id.ok, h0]
  rw [e]
  go_enter Tryz.func68, Tryz.ntmps68
  go_wp2
  go_ret
  exact ⟨rfl, rfl⟩
 ·by_cases h16 : s.size ≤ 16
  ·have hpos : 0 < s.size := by omega
   have hh := Id.head_at s hpos
   have hne : ¬ (s.size : Int) = 0 := by omega
   have hne2 : ((s.size : Int) == 0) = false := by rw [beq_eq_false_iff_ne]; omega
   cases hL : Id.isL s[0].toNat
   ·have e : Id.ok s = false := by simp [Id.ok, hh, hL]
    rw [e]
    clear hh e
    go_enter Tryz.func68, Tryz.ntmps68
    go_wp2_with (go_at_call 101; refine (letter_any _ _).mono ?_; rintro e w1 ⟨rfl, rfl⟩; rw [hL])
    go_ret
    exact ⟨rfl, rfl⟩
   ·have e : Id.ok s = decide (Id.ex s.data.toList = s.size) := by
     have h1 := Id.ex_all s.data.toList
     have h2 : s.data.toList.length = s.size := by simp
     rw [h2] at h1
     rw [Bool.eq_iff_iff, decide_eq_true_iff, h1]
     simp [Id.ok, hh, hL, h16]; omega
    have HE := Lh e
    clear hh e
    go_enter Tryz.func68, Tryz.ntmps68
    go_wp2_with (first
     | (go_at_call 101; refine (letter_any _ _).mono ?_; rintro e w1 ⟨rfl, rfl⟩; rw [hL])
     | (go_at_call 102; refine (extent_any s _ hs).mono ?_; rintro e w1 ⟨rfl, rfl⟩))
    go_ret
    exact ⟨by rw [HE.out]; exact Id.ret_bool (by by_cases h : Id.ex s.data.toList = s.size <;> simp [h] <;> omega), rfl⟩
  ·have e : Id.ok s = false := by simp [Id.ok, h16]
   rw [e]
   have h17 : 16 < s.size := by omega
   have hne2 : ((s.size : Int) == 0) = false := by rw [beq_eq_false_iff_ne]; omega
   go_enter Tryz.func68, Tryz.ntmps68
   go_wp2
   go_ret
   exact ⟨rfl, rfl⟩
/-- the slice x holds m elements of sz cells, the cells xs -/
def Src (w : World) (x : Value) (sz m : Nat) (xs : List Value) : Prop :=
 xs.length = m * sz ∧ (∀ u ∈ xs, u.oneCell' = true) ∧ ((x = .slice none 0 0 ∧ m = 0) ∨ ∃ ad c, x = .slice (some ad) m c ∧ ∀ j u, xs[j]? = some u → w.cell? (ad.add j) = some u)
theorem Src.ext {w w' : World} {x : Value} {sz m : Nat} {xs : List Value} (h : Src w x sz m xs) (hx : Ext w w') : Src w' x sz m xs := by
 obtain ⟨h1, h2, h3⟩ := h
 refine ⟨h1, h2, ?_⟩
 rcases h3 with h3 | ⟨ad, c, h3, h4⟩
 ·exact .inl h3
 ·exact .inr ⟨ad, c, h3, fun j u hj => hx.cell (h4 j u hj)⟩
theorem grown_mod {w w' : World} {row : Option Nat} (h : w.grownBy w' row) : Mod (fun k => some k = row) w w' :=
 ⟨h.os, h.tape, h.output, h.size, fun k hk hs => h.block k hk hs⟩
/-- append to a row of one's own: the row stays where it is, or the new one lies in a new block -/
theorem run_append_fresh {P : Program} (w : World) (base : Nat) (t ty e : TypeId) (i : TypeInfo) (z : Value) (size bytes : Nat) (ht : P.underlying t = some (.slice e)) (hi : P.info? e = some i) (hz : i.zero = some z)
 (hsize : i.size = size) (hby : i.bytes = bytes) (hzs : z.cells.size = size) (hsz : 0 < size)
 (v : Value) (n : Nat) (xs : List Value) (hown : w.ownsRow base e size v n xs)
 (a : Addr) (m c : Nat) (news : List Value) (hl : news.length = m * size) (hnews : ∀ j u, news[j]? = some u → w.cell? (a.add j) = some u) (h1 : ∀ u ∈ news, u.oneCell' = true)
 (h63 : n + m ≤ maxLen) (hbytes : (n + m) * bytes ≤ 140737488355328) (hbase : base ≤ w.heap.size) :
 ∃ v' w', (Builtin.append_ #[t, t] ty #[v, .slice (some a) m c]).run P w = .ok v' w' ∧ w'.ownsRow base e size v' (n + m) (xs ++ news) ∧ w.grownBy w' v.ownBlock ∧
  (v'.ownBlock = v.ownBlock ∨ ∀ k, v'.ownBlock = some k → w.heap.size ≤ k) := by
 obtain ⟨v', w', hr, h2, h3, _⟩ := run_append_own (P := P) w base t ty e i z size bytes ht hi hz hsize hby hzs hsz v n xs hown a m c news hl hnews h1 h63 hbytes hbase
 refine ⟨v', w', hr, h2, h3, ?_⟩
 rcases hown.2 with ⟨rfl, rfl⟩ | ⟨g, cap, cur, rfl, hbg, hg, hnc, hcm, hcs, htk⟩
 ·right
  have hx : xs = [] := List.eq_nil_of_length_eq_zero (by simpa using hown.1)
  subst hx
  obtain ⟨v2, w2, hr2, k2, _, _⟩ := run_append_own (P := P) w w.heap.size t ty e i z size bytes ht hi hz hsize hby hzs hsz _ 0 [] (World.ownsRow_nil w w.heap.size e size) a m c news hl hnews h1 h63 hbytes (Nat.le_refl _)
  rw [hr] at hr2
  simp only [Result.ok.injEq] at hr2
  obtain ⟨rfl, rfl⟩ := hr2
  exact fun k hk => (k2.lt k hk).1
 ·subst hsize
  subst hby
  by_cases hroom : n + m ≤ cap
  ·left
   have hfit : n * i.size + news.length ≤ cur.size := by rw [hl, hcs, ← Nat.add_mul]; exact Nat.mul_le_mul_right _ hroom
   have hr2 := run_append_room (P := P) w t ty e i ht hi g n cap cur hg a m c news hl hnews h1 hroom hfit
   rw [hr] at hr2
   simp only [Result.ok.injEq] at hr2
   rw [hr2.1]; rfl
  ·right
   have hsmall : n + m ≤ 9223372036854775807 := by simp only [maxLen] at h63; omega
   have hr2 := run_append_grow (P := P) w t ty e i z ht hi hz ⟨g, 0, none⟩ n cap xs hown.1 (hown.cells (g := g) rfl) a m c news hl hnews (by omega) (by omega) (growslice_fits (by omega) hbytes)
   rw [hr] at hr2
   simp only [Result.ok.injEq] at hr2
   rw [hr2.1]
   intro k hk
   simp only [Value.ownBlock, Option.some.injEq] at hk
   omega
theorem wpList_append_fresh {P : Program} {w : World} {ops : Array Oper} {rest : List Oper} {o : Oper} {a : Act} {Q : Exit → Act → World → Prop} (hgd : o.guard = none) (s x : Operand) (t : TypeId)
 (ho : o.op = .call { callee := .builtin .append, args := #[s, x], argTypes := #[t, t] })
 (base : Nat) (e : TypeId) (z : Value) (size bytes : Nat) (ht : P.underlying t = some (.slice e)) (hi : (P.info? e).map (fun i => (i.zero, i.size, i.bytes)) = some (some z, size, bytes))
 (hzs : z.cells.size = size) (hsz : 0 < size)
 (v : Value) (n : Nat) (xs : List Value) (hs : a.eval s = v) (hown : w.ownsRow base e size v n xs)
 (y : Value) (m : Nat) (news : List Value) (hx : a.eval x = y) (hsrc : Src w y size m news)
 (h63 : n + m ≤ maxLen) (hbytes : (n + m) * bytes ≤ 140737488355328) (hbase : base ≤ w.heap.size)
 (h : ∀ v' w', w'.ownsRow base e size v' (n + m) (xs ++ news) → w.grownBy w' v.ownBlock → (v'.ownBlock = v.ownBlock ∨ ∀ k, v'.ownBlock = some k → w.heap.size ≤ k) → wpList P ops Q rest (a.put o.dst v') w') : wpList P ops Q (o :: rest) a w := by
 obtain ⟨i, hi, hz, hs1, hs2⟩ := info_parts hi
 obtain ⟨h1, h2, h3⟩ := hsrc
 rcases h3 with ⟨rfl, rfl⟩ | ⟨ad, c, rfl, h4⟩
 ·obtain rfl : news = [] := List.eq_nil_of_length_eq_zero (by simpa using h1)
  refine wpList_append_own_none hgd s x t ho base e i size ht hi v n xs hs hown hx ?_
  exact h v w (by simpa using hown) ⟨rfl, rfl, rfl, Nat.le_refl _, fun _ _ _ => rfl⟩ (.inl rfl)
 ·refine wpList_plain hgd fun _ hK => ?_
  obtain ⟨v', w', hr, k2, k3, k4⟩ := run_append_fresh (P := P) w base t o.type e i z size bytes ht hi hz hs1 hs2 hzs hsz v n xs hown ad m c news h1 h4 h2 h63 hbytes hbase
  unfold Oper.wp execOp
  simp only [ho, resolve, invoke, builtin, Sem.run_bind, Sem.run_pure, Result.andThen_ok, List.map_toArray, List.map_cons, List.map_nil, hs, hx, hr]
  exact hK _ _ (h v' w' k2 k3 k4)
theorem own_slice {w : World} {base : Nat} {e : TypeId} {size : Nat} {v : Value} {n : Nat} {xs : List Value} (h : w.ownsRow base e size v n xs) : ∃ oa c, v = .slice oa n c := by
 rcases h.2 with ⟨rfl, rfl⟩ | ⟨g, cap, cur, rfl, _⟩
 ·exact ⟨none, 0, rfl⟩
 ·exact ⟨_, _, rfl⟩
theorem own_ext {w w' : World} {base : Nat} {e : TypeId} {size : Nat} {v : Value} {n : Nat} {xs : List Value} (h : w.ownsRow base e size v n xs) (hx : Ext w w') : w'.ownsRow base e size v n xs := by
 obtain ⟨h1, h2⟩ := h
 refine ⟨h1, ?_⟩
 rcases h2 with h2 | ⟨g, cap, cur, rfl, hb, hg, r⟩
 ·exact .inl h2
 ·exact .inr ⟨g, cap, cur, rfl, hb, hx.heap hg, r⟩
theorem own_mod {S : Nat → Prop} {w w' : World} {base : Nat} {e : TypeId} {size : Nat} {v : Value} {n : Nat} {xs : List Value} (h : w.ownsRow base e size v n xs) (hx : Mod S w w') (hs : ∀ k, v.ownBlock = some k → ¬ S k) : w'.ownsRow base e size v n xs := by
 obtain ⟨h1, h2⟩ := h
 refine ⟨h1, ?_⟩
 rcases h2 with h2 | ⟨g, cap, cur, rfl, hb, hg, r⟩
 ·exact .inl h2
 ·exact .inr ⟨g, cap, cur, rfl, hb, hx.heap hg (hs g rfl), r⟩
theorem own_base {w : World} {base base' : Nat} {e : TypeId} {size : Nat} {v : Value} {n : Nat} {xs : List Value} (h : w.ownsRow base e size v n xs) (hb : base' ≤ base) : w.ownsRow base' e size v n xs := by
 obtain ⟨h1, h2⟩ := h
 refine ⟨h1, ?_⟩
 rcases h2 with h2 | ⟨g, cap, cur, rfl, hg, r⟩
 ·exact .inl h2
 ·exact .inr ⟨g, cap, cur, rfl, by omega, r⟩
/-- a row of one's own is a source -/
theorem own_src {w : World} {base : Nat} {e : TypeId} {size : Nat} {v : Value} {n : Nat} {xs : List Value} (h : w.ownsRow base e size v n xs) (h1 : ∀ u ∈ xs, u.oneCell' = true) : Src w v size n xs := by
 refine ⟨h.1, h1, ?_⟩
 rcases h.2 with hn | ⟨g, cap, cur, rfl, hb, hg, r⟩
 ·exact .inl hn
 ·exact .inr ⟨_, _, rfl, fun j u hj => h.cells rfl j u hj⟩
theorem add_mk (b o j : Nat) : (⟨b, o, none⟩ : Addr).add j = ⟨b, o + j, none⟩ := by
 unfold Addr.add; split
 ·rename_i h; subst h; rfl
 ·rfl
theorem setCell_heap {w : World} {p o : Nat} {c : Array Value} {t : TypeId} {f : Nat × Nat} {v : Value} (h : w.heap[p]? = some (.cells c t f)) : (w.setCell ⟨p, o, none⟩ v).heap[p]? = some (.cells (c.setIfInBounds o v) t f) := by
 have hlt := lt_of_block h
 show (w.heap.modify p _)[p]? = _
 have h' : w.heap[p] = .cells c t f := by simpa [Array.getElem?_eq_getElem hlt] using h
 rw [Array.getElem?_eq_getElem (by simpa using hlt), Array.getElem_modify_self, h']
 rfl
theorem cell_of {w : World} {p o : Nat} {c : Array Value} {t : TypeId} {f : Nat × Nat} (h : w.heap[p]? = some (.cells c t f)) : w.cell? ⟨p, o, none⟩ = c[o]? := by simp [World.cell?, h]
theorem free_of {w : World} {p o : Nat} {c : Array Value} {t : TypeId} (h : w.heap[p]? = some (.cells c t (0, 0))) : w.frozen? ⟨p, o, none⟩ = false := by simp [World.frozen?, h]
theorem alloc_heap (w : World) (o : Obj) : (w.alloc o).heap[w.heap.size]? = some o := heap_alloc_new w o
/-- two blocks of different makes are two -/
theorem ne_of_type {w : World} {p q : Nat} {c d : Array Value} {t u : TypeId} {f g : Nat × Nat} (h : w.heap[p]? = some (.cells c t f)) (k : w.heap[q]? = some (.cells d u g)) (hn : t ≠ u) : p ≠ q := by
 intro e; subst e; rw [h] at k; simp at k; exact hn k.2.1
/-- a source that is not empty: where it lies -/
theorem Src.at {w : World} {ad : Addr} {n m c : Nat} {xs : List Value} (h : Src w (.slice (some ad) n c) 1 m xs) (hm : 0 < m) : ad = ⟨ad.block, ad.off, none⟩ ∧ n = m ∧ ∀ j u, xs[j]? = some u → w.cell? ⟨ad.block, ad.off + j, none⟩ = some u := by
 obtain ⟨h1, _, h3⟩ := h
 rcases h3 with ⟨h3, _⟩ | ⟨ad', c', h3, h4⟩
 ·simp at h3
 ·simp only [Value.slice.injEq, Option.some.injEq] at h3
  obtain ⟨rfl, rfl, rfl⟩ := h3
  have h0 := h4 0 (xs[0]'(by omega)) (by simp)
  have e : ad = ⟨ad.block, ad.off, none⟩ := by
   have : ad.spot = none := by simpa [Addr.add] using World.cell?_spot h0
   cases ad; simp_all
  refine ⟨e, rfl, fun j u hj => ?_⟩
  have := h4 j u hj
  rw [e, add_mk] at this
  exact this
theorem Src.slice {w : World} {v : Value} {m : Nat} {xs : List Value} (h : Src w v 1 m xs) : ∃ oa c, v = .slice oa m c ∧ (oa = none → m = 0) := by
 rcases h.2.2 with ⟨rfl, rfl⟩ | ⟨ad, c, rfl, _⟩
 ·exact ⟨none, 0, rfl, fun _ => rfl⟩
 ·exact ⟨some ad, c, rfl, fun h => by cases h⟩
/-- the block that a variadic call lays: one element of one cell -/
theorem src_one (w : World) (u : Value) (t : TypeId) (h : u.oneCell' = true) : Src (w.alloc (.cells #[u] t)) (.slice (some ⟨w.heap.size, 0, none⟩) 1 1) 1 1 [u] :=
 ⟨rfl, fun v hv => by obtain rfl := List.mem_singleton.1 hv; exact h, .inr ⟨_, 1, rfl, fun j v hj => by
  cases j with
  | zero => simp at hj; subst hj; simp [Addr.add]
  | succ j => simp at hj⟩⟩
/-- two changes, the second within the first's blocks -/
theorem Mod.comp {S T : Nat → Prop} {a b c : World} (h : Mod S a b) (k : Mod T b c) (hst : ∀ i, i < a.heap.size → T i → S i) : Mod S a c :=
 ⟨k.os.trans h.os, k.tape.trans h.tape, k.output.trans h.output, Nat.le_trans h.size k.size,
  fun i hi hs => (k.block i (Nat.lt_of_lt_of_le hi h.size) (fun ht => hs (hst i hi ht))).trans (h.block i hi hs)⟩
theorem aH (w : World) (o : Obj) : (w.alloc o).heap[w.heap.size]? = some o := alloc_heap w o
theorem cQ {w : World} {k : Nat} {c : Array Value} {t : TypeId} {f : Nat × Nat} (o : Nat) (h : w.heap[k]? = some (.cells c t f)) : w.cell? ⟨k, o, none⟩ = c[o]? := cell_of (o := o) h
section
variable {P : Program} {ops : Array Oper} {md : Region.Mode} {C : World → Prop}
/-- the head's operations in whatever order, f of them to come, then L -/
def anyHead (P : Program) (md : Region.Mode) (ops : Array Oper) (C : World → Prop) (n : Nat) (L : Array Bool → Act → Prop) : Nat → Array Bool → Act → Prop
 | 0, done, a => L done a
 | f + 1, done, a => Region.ready md ops done ≠ [] ∧ ∀ i ∈ Region.ready md ops done, i < n ∧ qOp P ops C i (anyHead P md ops C n L f (done.setIfInBounds i true)) a
theorem any_of_head {n g : Nat} {L : Array Bool → Act → Prop} {Q' : Exit → Act → World → Prop} (hL : ∀ done a w, C w → L done a → wpAny P md ops Q' g done a w) (f : Nat) :
 ∀ (done : Array Bool) (a : Act) (w : World), C w → anyHead P md ops C n L f done a → wpAny P md ops Q' (f + g) done a w := by
 induction f with
 | zero => intro done a w hw h; rw [Nat.zero_add]; exact hL _ _ _ hw h
 | succ f ih =>
  intro done a w hw h
  rw [show f + 1 + g = (f + g) + 1 by omega]
  exact ⟨fun h0 => absurd h0 h.1, fun i hi => wpOp_of_qOp hw (fun a' w' hw' h' => ih _ a' w' hw' h') (h.2 i hi).2⟩
/-- an operation of the head that may come up now may be taken first -/
theorem head_first {n i : Nat} {oi : Oper} {v : Value} {L : Array Bool → Act → Prop} (hi : ops[i]? = some oi) (hsel : ∀ (j : Nat) (o : Oper) cs b, ops[j]? = some o → o.op ≠ .select cs b)
 (hs : Region.sinkB md ops n = true) (hc : Region.chainB md ops n = true) (hn : n < ops.size) (hin : i < n) (hdone : ∀ done a, L done a → ∀ j ∈ Region.ready md ops done, n ≤ j) (f : Nat) :
 ∀ (done : Array Bool) (a : Act), HeadInv md ops n done →
  (∀ j oj, ops[j]? = some oj → j ≠ i → done.getD j true = false → (∀ e ∈ oj.after, Region.binds md e = true → e.on ≠ i) → oi.apart ops oj = true) →
  i ∈ Region.ready md ops done → YieldsIn P ops C oi v a →
  anyHead P md ops C n L f (done.setIfInBounds i true) (a.put oi.dst v) → anyHead P md ops C n L (f + 1) done a := by
 induction f with
 | zero =>
  intro done a inv _ hr hy H
  have hun := (mem_ready.1 hr).1
  refine ⟨fun h => (by rw [h] at hr; cases hr), fun j hj => ?_⟩
  have hjn : j < n := Nat.lt_of_not_le fun h => absurd hj (tail_waits hs hc hn inv _ i rfl hin hun j h)
  refine ⟨hjn, ?_⟩
  by_cases hji : j = i
  ·subst hji; exact hy.qOp hi H
  ·have := hdone _ _ H j (ready_mono hj hji); omega
 | succ f ih =>
  intro done a inv hfree hr hy H
  have hun := (mem_ready.1 hr).1
  refine ⟨fun h => (by rw [h] at hr; cases hr), fun j hj => ?_⟩
  have hjn : j < n := Nat.lt_of_not_le fun h => absurd hj (tail_waits hs hc hn inv _ i rfl hin hun j h)
  refine ⟨hjn, ?_⟩
  by_cases hji : j = i
  ·subst hji; exact hy.qOp hi H
  ·obtain ⟨hjun, oj, hoj, hall⟩ := mem_ready.1 hj
   have hnot : ∀ e ∈ oj.after, Region.binds md e = true → e.on ≠ i := fun e he hb heq => by
    have h1 := hall e he hb
    rw [heq, getD_both hun] at h1; cases h1
   have h2 := qOp_put hoj (hfree j oj hoj hji hjun hnot) (fun cs b => hsel i oi cs b hi) (fun cs b => hsel j oj cs b hoj) hy (H.2 j (ready_mono hj hji)).2
   refine qOp_mono (fun a' h3 => ih (done.setIfInBounds j true) a' (inv.set hj hjn) (fun k ok hk hki hkun hno => hfree k ok hk hki ?_ hno) (ready_mono hr (Ne.symm hji)) h3.1 ?_) h2
   ·by_cases hjk : j = k
    ·subst hjk; exact hjun
    ·rw [getD_set_ne true hjk] at hkun; exact hkun
   ·rw [Array.setIfInBounds_comm _ _ hji]; exact h3.2
theorem head_lex {n g : Nat} {Lq : Act → Prop} (hsel : Region.noSelect ops = true) (hs : Region.sinkB md ops n = true) (hc : Region.chainB md ops n = true) (hn : n < ops.size) (l : List Oper) :
 ∀ (k : Nat) (done : Array Bool) (a : Act), (∀ j, j < l.length → l[j]? = ops[k + j]?) → k + l.length = n → HeadInv md ops n done →
 Region.lexHead md ops g l.length k done = true → wpQuiet P ops C Lq l a →
 anyHead P md ops C n (fun done' a' => Region.seqB md ops g n done' = true ∧ Lq a') l.length done a := by
 induction l with
 | nil =>
  intro k done a _ hk _ hB h
  obtain rfl : k = n := by simpa using hk
  exact ⟨by simpa [Region.lexHead] using hB, h⟩
 | cons o l ih =>
  intro k done a hl hk inv hB h
  have h0 : ops[k]? = some o := by simpa using (hl 0 (by simp)).symm
  simp only [List.length_cons, Region.lexHead, Bool.and_eq_true] at hB
  obtain ⟨⟨hr, hf⟩, hB'⟩ := hB
  have hkn : k < n := by simp only [List.length_cons] at hk; omega
  have hr' : k ∈ Region.ready md ops done := by simpa using hr
  have hst : qOp P ops C k (wpQuiet P ops C Lq l) a := by unfold qOp; simp only [h0]; exact h
  obtain ⟨v, hy, hK⟩ := yieldsIn_of_qOp h0 hst
  exact head_first h0 (Region.noSelect_spec hsel) hs hc hn hkn (fun _ _ hL => seqB_ready hL.1) l.length done a inv (Region.free_spec h0 hf) hr' hy
   (ih (k + 1) _ _ (fun j hj => by have := hl (j + 1) (by simp; omega); simpa [Nat.add_assoc, Nat.add_comm 1 j] using this) (by simp only [List.length_cons] at hk; omega) (inv.set hr' hkn) hB' hK)
end
/-- The region's wp: the first n operations quietly over all later worlds, the others in order behind them. -/
theorem wp_region_later_tail {P : Program} {id : Nat} {Q : Exit → Act → World → Prop} {a : Act} {w W : World} {l : List Oper} (n : Nat) (hm : P.follows .mixedOrders = true) (hB : Region.lexTailB .any l.toArray n = true) (hW : Ext W w)
 (h : wpQuiet P l.toArray (fun w' => ∃ x : Later W, w' = x.val) (fun a' => ∀ w' : World, Ext W w' → wpList P l.toArray Q (l.drop n) a' w') (l.take n) a) : (Code.region id l.toArray true).wp P Q a w := by
 simp only [Region.lexTailB, Bool.and_eq_true, decide_eq_true_eq] at hB
 obtain ⟨⟨⟨⟨hsel, hn⟩, hs⟩, hc⟩, hlex⟩ := hB
 have hn' : n < l.length := by simpa using hn
 have htl : (l.take n).length = n := by simp; omega
 have hdl : (l.drop n).length = l.toArray.size - n := by simp
 have inv0 : HeadInv .any l.toArray n (Array.replicate l.toArray.size false) :=
  ⟨by simp, fun j oj _ hl => (by rw [getD_replicate_false] at hl; cases hl), fun t _ ht => getD_in (by simpa using ht) (getD_replicate_false _ _)⟩
 have H := head_lex (md := .any) (g := l.toArray.size - n) hsel hs hc hn (l.take n) 0 _ a (fun j hj => by
  rw [htl] at hj; simp [hj]) (by simpa using htl) inv0 (by rw [htl]; exact hlex) h
 refine wp_region_any hm ?_
 have := any_of_head (Q' := Q) (g := l.toArray.size - n) (fun done a' w' hw' hL => by
  obtain ⟨x, rfl⟩ := hw'
  have := wpAny_of_seq (md := .any) (Q' := Q) (l.drop n) n done a' x.val (fun j => by simp [List.getElem?_drop]) (by rw [hdl]; exact hL.1) (hL.2 x.val x.ext)
  rwa [hdl] at this) _ _ _ _ (⟨⟨_, hW.drew⟩, rfl⟩ : ∃ x : Later W, { w with drawn := w.drawn + 1 } = x.val) H
 rw [htl, show n + (l.toArray.size - n) = l.toArray.size by omega] at this
 exact this
/-- the cells cs can be read at type t -/
def Rd (P : Program) (W : World) (t : TypeId) (cs : List Value) : Prop :=
 ∃ (H : Type) (enc : TypeId × Value → H) (spare : Nat → Bool) (held : Bool) (fuel : Nat) (x : DataW H × List MemPlace), DataW.trod enc P W 0 spare held fuel t cs = some x
theorem mapM_get {α β : Type} {f : α → Option β} : ∀ {l : List α} {xs : List β}, l.mapM f = some xs → xs.length = l.length ∧ ∀ (i : Nat) (a : α), l[i]? = some a → f a = xs[i]?
 | [], xs, h => by
  simp only [List.mapM_nil] at h
  obtain rfl := Option.some.inj h.symm
  exact ⟨rfl, fun i a hi => by simp at hi⟩
 | a :: l, xs, h => by
  rw [List.mapM_cons] at h
  cases hf : f a with
  | none => rw [hf] at h; cases h
  | some b =>
   cases hl : l.mapM f with
   | none => rw [hf, hl] at h; cases h
   | some ys =>
    rw [hf, hl] at h
    obtain rfl := Option.some.inj h.symm
    obtain ⟨h1, h2⟩ := mapM_get hl
    refine ⟨by simp [h1], fun i c hi => ?_⟩
    cases i with
    | zero => simp at hi; subst hi; simpa using hf
    | succ i => simpa using h2 i c (by simpa using hi)
section
variable {P : Program} {W : World} {t : TypeId} {cs : List Value}
theorem Rd.int {k : IntKind} (hu : P.underlying t = some (.int k)) (h : Rd P W t cs) : ∃ n : Int, cs = [.int k n] ∧ (Lit.int k n).wf = true := by
 obtain ⟨H, enc, spare, held, fuel, x, hf⟩ := h
 obtain ⟨n, h1, _, h2⟩ := DataW.trod_int hu hf
 exact ⟨n, h1, h2⟩
theorem Rd.bool (hu : P.underlying t = some .bool) (h : Rd P W t cs) : ∃ b : Bool, cs = [.bool b] := by
 obtain ⟨H, enc, spare, held, fuel, x, hf⟩ := h
 cases fuel with
 | zero => simp [DataW.trod] at hf
 | succ n =>
  unfold DataW.trod at hf; rw [hu] at hf
  split at hf <;> simp_all
theorem Rd.string (hu : P.underlying t = some .string) (h : Rd P W t cs) : ∃ s : ByteArray, cs = [.string s] ∧ s.size ≤ maxLen := by
 obtain ⟨H, enc, spare, held, fuel, x, hf⟩ := h
 cases fuel with
 | zero => simp [DataW.trod] at hf
 | succ n =>
  unfold DataW.trod at hf; rw [hu] at hf
  split at hf <;> simp_all
theorem cells_get {W : World} {a : Addr} {n : Nat} {row : List Value} (h : W.cells? 0 a n = some row) : row.length = n ∧ ∀ j, j < n → W.cell? (a.add j) = row[j]? := by
 unfold World.cells? at h
 rw [if_pos (Nat.zero_le _)] at h
 obtain ⟨h1, h2⟩ := mapM_get h
 exact ⟨by simpa using h1, fun j hj => h2 j j (by simp [hj])⟩
theorem ok_struct {fs : Array Field} {base : Nat} {r : Reach} {v : Value} (hu : P.underlying t = some (.struct fs)) (ok : Value.okWide P W r base t v) : ∃ l : List Value, v = .agg l.toArray ∧ l.length = P.cellsOf t := by
 unfold Value.okWide at ok
 rw [hu] at ok
 obtain ⟨cs, rfl, hs, _⟩ := ok
 exact ⟨cs.toList, by simp, by simpa using hs⟩
end
/-- b follows a: nothing that a has was changed -/
class Step (a : outParam World) (b : World) : Prop where
 out : Ext a b
/-- b is reached from a by such steps -/
class Grows (a b : World) : Prop where
 out : Ext a b
instance Grows.same (a : World) : Grows a a := ⟨eR a⟩
instance (priority := low) Grows.step {a b c : World} [h : Step b c] [g : Grows a b] : Grows a c := ⟨g.out.trans h.out⟩
instance Step.alloc (w : World) (o : Obj) : Step w (w.alloc o) := ⟨(eR w).alloc o⟩
instance Step.drew (w : World) : Step w w.drew := ⟨(eR w).drew⟩
instance Step.later {W : World} (x : Later W) : Step W x.val := ⟨x.ext⟩
theorem grows {a b : World} [h : Grows a b] : Ext a b := h.out
theorem grows_le {a b : World} [h : Grows a b] : a.heap.size ≤ b.heap.size := h.out.le
/-- a cell, for good -/
theorem alw {W : World} {p : Addr} {v : Value} (h : W.cell? p = some v) (w : World) [g : Grows W w] : w.cell? p = some v := g.out.cell h
/-- a block, for good -/
theorem alwB {W : World} {k : Nat} {o : Obj} (h : W.heap[k]? = some o) (w : World) [g : Grows W w] : w.heap[k]? = some o := g.out.heap h
theorem own_now {W w : World} {base : Nat} {e : TypeId} {size : Nat} {v : Value} {n : Nat} {xs : List Value} (h : W.ownsRow base e size v n xs) [g : Grows W w] : w.ownsRow base e size v n xs := own_ext h g.out
/-- a slice of m elements of sz cells each; element i's cells stand in the relation R to the datum ds[i] -/
def Rows {α : Type} (w : World) (sz : Nat) (R : World → List Value → α → Prop) (v : Value) (ds : List α) : Prop :=
 (v = .slice none 0 0 ∧ ds = []) ∨ ∃ ad c, v = .slice (some ad) ds.length c ∧ ds.length ≤ c ∧ c ≤ maxLen ∧ (ds ≠ [] → ad = ⟨ad.block, ad.off, none⟩) ∧
  ∀ i d, ds[i]? = some d → ∃ cs : List Value, cs.length = sz ∧ R w cs d ∧ ∀ j u, cs[j]? = some u → w.cell? ⟨ad.block, ad.off + i * sz + j, none⟩ = some u
theorem Rows.ext {α : Type} {w w' : World} {sz : Nat} {R : World → List Value → α → Prop} {v : Value} {ds : List α} (h : Rows w sz R v ds) (hR : ∀ cs d, R w cs d → R w' cs d) (hx : Ext w w') : Rows w' sz R v ds := by
 rcases h with h | ⟨ad, c, h1, h2, h3, h5, h4⟩
 ·exact .inl h
 ·exact .inr ⟨ad, c, h1, h2, h3, h5, fun i d hi => by
   obtain ⟨cs, g1, g2, g3⟩ := h4 i d hi
   exact ⟨cs, g1, hR _ _ g2, fun j u hj => hx.cell (g3 j u hj)⟩⟩
theorem Rows.slice {α : Type} {w : World} {sz : Nat} {R : World → List Value → α → Prop} {v : Value} {ds : List α} (h : Rows w sz R v ds) : ∃ oa c, v = .slice oa ds.length c ∧ ds.length ≤ c ∧ c ≤ maxLen := by
 rcases h with ⟨rfl, rfl⟩ | ⟨ad, c, rfl, h2, h3, h4⟩
 ·exact ⟨none, 0, rfl, Nat.le_refl _, Nat.zero_le _⟩
 ·exact ⟨_, c, rfl, h2, h3⟩
/-- not empty: where it lies -/
theorem Rows.at {α : Type} {w : World} {sz : Nat} {R : World → List Value → α → Prop} {oa : Option Addr} {n c : Nat} {ds : List α} (h : Rows w sz R (.slice oa n c) ds) (hn : 0 < ds.length) : ∃ b o, oa = some ⟨b, o, none⟩ ∧ n = ds.length ∧
 ∀ i d, ds[i]? = some d → ∃ cs : List Value, cs.length = sz ∧ R w cs d ∧ ∀ j u, cs[j]? = some u → w.cell? ⟨b, o + i * sz + j, none⟩ = some u := by
 rcases h with ⟨h, rfl⟩ | ⟨ad, c', h1, h2, h3, h5, h4⟩
 ·simp at hn
 ·simp only [Value.slice.injEq] at h1
  obtain ⟨rfl, rfl, rfl⟩ := h1
  exact ⟨ad.block, ad.off, by rw [← h5 (List.length_pos_iff.1 hn)], rfl, h4⟩
/-- data for each place of a list -/
theorem choose_list {α : Type} {n : Nat} {p : Nat → α → Prop} (h : ∀ i, i < n → ∃ d, p i d) : ∃ ds : List α, ds.length = n ∧ ∀ i d, ds[i]? = some d → p i d := by
 induction n with
 | zero => exact ⟨[], rfl, fun i d hi => by simp at hi⟩
 | succ n ih =>
  obtain ⟨ds, h1, h2⟩ := ih (fun i hi => h i (by omega))
  obtain ⟨d, hd⟩ := h n (by omega)
  refine ⟨ds ++ [d], by simp [h1], fun i e hi => ?_⟩
  rcases Nat.lt_or_ge i n with hl | hl
  ·exact h2 i e (by rw [List.getElem?_append_left (by omega)] at hi; exact hi)
  ·have hlt := (List.getElem?_eq_some_iff.1 hi).1
   simp at hlt
   obtain rfl : i = n := by omega
   rw [List.getElem?_append_right (by omega)] at hi
   simp [h1] at hi
   subst hi; exact hd
theorem via {P : Program} {f : FuncId} {args : Array Value} {W : World} {v : Value} {Q : Ending → World → Prop} (h : Calls P f args W (Rets W v)) (k : ∀ w', Ext W w' → Step W w' → Q (.returned v) w') : Calls P f args W Q := h.mono (by rintro e w' ⟨rfl, x⟩; exact k w' x ⟨x⟩)
theorem Sm {a b : World} (h : Ext a b) : Step a b := ⟨h⟩
namespace Bv
/-- a valid width -/
def ok (w : Int) : Bool := decide (1 ≤ w) && decide (w ≤ 32)
/-- two to the w -/
def pw (w : Int) : Int := 2 ^ w.toNat
def mask (w : Int) : Int := if ok w then pw w - 1 else 0
def fits (v w : Int) : Bool := ok w && decide (v < pw w)
theorem ok_iff {w : Int} : ok w = true ↔ 1 ≤ w ∧ w ≤ 32 := by simp [ok]
theorem ok_of {w : Int} (h1 : 1 ≤ w) (h2 : w ≤ 32) : ok w = true := ok_iff.2 ⟨h1, h2⟩
theorem not_ok {w : Int} (h : ¬ (1 ≤ w ∧ w ≤ 32)) : ok w = false := by
 cases e : ok w
 ·rfl
 ·exact absurd (ok_iff.1 e) h
theorem pw_pos (w : Int) : 0 < pw w := Int.pow_pos (by decide)
theorem pw_ne (w : Int) : pw w ≠ 0 := Int.ne_of_gt (pw_pos w)
theorem pw_add {a b : Int} (ha : 0 ≤ a) (hb : 0 ≤ b) : pw (a + b) = pw a * pw b := by
 unfold pw; rw [Int.toNat_add ha hb, Int.pow_add]
theorem pw_le {a b : Int} (h : a ≤ b) : pw a ≤ pw b := by
 unfold pw
 have h2 : a.toNat ≤ b.toNat := Int.toNat_le_toNat h
 exact_mod_cast Nat.pow_le_pow_right (by decide : 0 < 2) h2
theorem pw_lt {a b : Int} (ha : 0 ≤ a) (h : a < b) : pw a < pw b := by
 unfold pw
 have h2 : a.toNat < b.toNat := by omega
 exact_mod_cast Nat.pow_lt_pow_right (by decide : 1 < 2) h2
theorem pw_32 : pw 32 = 4294967296 := by decide
theorem pw_le32 {w : Int} (h : w ≤ 32) : pw w ≤ 4294967296 := pw_32 ▸ pw_le h
theorem mask_bd (w : Int) : 0 ≤ mask w ∧ mask w < 4294967296 := by
 unfold mask; split
 ·rename_i h; have := pw_pos w; have := pw_le32 (ok_iff.1 h).2; omega
 ·omega
theorem pw_split {a b : Int} (ha : 0 ≤ a) (hab : a ≤ b) : pw b = pw (b - a) * pw a := by rw [← pw_add (by omega) ha]; congr 1; omega
theorem top_div {w : Int} (h1 : 1 ≤ w) (h2 : w ≤ 32) : 4294967295 / 2 ^ (32 - w).toNat = pw w - 1 := by
 show 4294967295 / pw (32 - w) = pw w - 1
 have e := pw_split (show 0 ≤ 32 - w by omega) (show 32 - w ≤ 32 by omega)
 rw [pw_32, show 32 - (32 - w) = w by omega] at e
 have hp := pw_pos (32 - w)
 rw [show (4294967295 : Int) = (pw (32 - w) - 1) + (pw w - 1) * pw (32 - w) by rw [Int.sub_mul, ← e]; omega,
  Int.add_mul_ediv_right _ _ (pw_ne _), Int.ediv_eq_zero_of_lt (by omega) (by omega)]
 omega
end Bv
theorem valid_cell (b : Nat) (w : Int) (W : World) (hc : W.cell? ⟨b, 0, none⟩ = some (.int .i64 w)) :
 Calls Tryz.prog 106 #[.slice (some ⟨b, 0, none⟩) 1 1] W fun e W' => e = .returned (.bool (Bv.ok w)) ∧ W = W' := by
 by_cases h1 : w < 1
 ·have hk : Bv.ok w = false := Bv.not_ok (by omega)
  go_enter Tryz.func106, Tryz.ntmps106
  go_wp2
  go_rounds 2
  all_goals (go_ret; exact ⟨by rw [hk]; rfl, rfl⟩)
 ·by_cases h2 : 32 < w
  ·have hk : Bv.ok w = false := Bv.not_ok (by omega)
   go_enter Tryz.func106, Tryz.ntmps106
   go_wp2
   go_rounds 2
   all_goals (go_ret; exact ⟨by rw [hk]; rfl, rfl⟩)
  ·have hk : Bv.ok w = true := Bv.ok_of (by omega) (by omega)
   go_enter Tryz.func106, Tryz.ntmps106
   go_wp2
   go_rounds 2
   all_goals (go_ret; exact ⟨by rw [hk]; rfl, rfl⟩)
theorem mask_any (w : Int) (W : World) : Calls Tryz.prog 72 #[.int .i64 w] W (Rets W (.int .u32 (Bv.mask w))) := by
 cases hk : Bv.ok w
 ·go_enter Tryz.func72, Tryz.ntmps72
  go_wp2_with (go_at_call 106; refine (valid_cell _ w _ (by simp)).mono ?_; rintro e w' ⟨rfl, rfl⟩)
  go_ret
  exact ⟨by simp [Bv.mask, hk], (eR W).alloc _⟩
 ·have hb := Bv.ok_iff.1 hk
  go_enter Tryz.func72, Tryz.ntmps72
  go_wp2_with (go_at_call 106; refine (valid_cell _ w _ (by simp)).mono ?_; rintro e w' ⟨rfl, rfl⟩)
  go_ret
  exact ⟨by simp [Bv.mask, hk, Bv.top_div hb.1 hb.2], (eR W).alloc _⟩
theorem fits_any (v w : Int) (W : World) : Calls Tryz.prog 140 #[.int .u32 v, .int .i64 w] W (Rets W (.bool (Bv.fits v w))) := by
 cases hk : Bv.ok w
 ·go_enter Tryz.func140, Tryz.ntmps140
  go_wp2_with (go_at_call 106; refine (valid_cell _ w _ (by simp)).mono ?_; rintro e w' ⟨rfl, rfl⟩)
  go_ret
  exact ⟨by simp [Bv.fits, hk], (eR W).alloc _⟩
 ·have hm : Bv.mask w = Bv.pw w - 1 := by unfold Bv.mask; rw [if_pos hk]
  have Hm := Lh hm
  clear hm
  go_enter Tryz.func140, Tryz.ntmps140
  go_wp2_with (first
   | (go_at_call 106; refine (valid_cell _ w _ (by simp)).mono ?_; rintro e w' ⟨rfl, rfl⟩)
   | (go_at_call 72; refine (mask_any _ _).mono ?_; rintro e w1 ⟨rfl, hx⟩))
  go_ret
  exact ⟨by simp [Bv.fits, hk, Hm.out, Int.le_sub_one_iff], ((eR W).alloc _).trans hx⟩
def i64s (l : List Int) : List Value := l.map (.int .i64)
theorem i64s_get {l : List Int} {j : Nat} {x : Int} (h : l[j]? = some x) : (i64s l)[j]? = some (.int .i64 x) := by simp [i64s, h]
theorem drop_cons {α : Type} {l : List α} {k : Nat} {x : α} (h : l[k]? = some x) : l.drop k = x :: l.drop (k + 1) := by
 obtain ⟨hk, rfl⟩ := List.getElem?_eq_some_iff.1 h
 exact List.drop_eq_getElem_cons hk
theorem Ext.mod {S : Nat → Prop} {a b c : World} (h : Ext a b) (k : Mod S b c) (hs : ∀ q, S q → a.heap.size ≤ q) : Ext a c :=
 ⟨k.os.trans h.os, k.tape.trans h.tape, k.output.trans h.output, Nat.le_trans h.size k.size,
  fun i hi => (k.block i (Nat.lt_of_lt_of_le hi h.size) (fun hS => by have := hs i hS; omega)).trans (h.block i hi)⟩
theorem own_type {w : World} {base : Nat} {e : TypeId} {size : Nat} {v : Value} {n : Nat} {xs : List Value} (h : w.ownsRow base e size v n xs) {g : Nat} (hg : v.ownBlock = some g) : ∃ cur, w.heap[g]? = some (.cells cur e (0, 0)) := by
 rcases h.2 with ⟨rfl, _⟩ | ⟨g', cap, cur, rfl, _, hh, _⟩
 ·simp [Value.ownBlock] at hg
 ·simp [Value.ownBlock] at hg; subst hg; exact ⟨cur, hh⟩
theorem i64s_one (l : List Int) : ∀ u ∈ i64s l, u.oneCell' = true := by
 intro u hu; obtain ⟨x, _, rfl⟩ := List.mem_map.1 hu; rfl
theorem info_i64 : (Tryz.prog.info? 3).map (fun i => (i.zero, i.size, i.bytes)) = some (some (.int .i64 0), 1, 8) := by kernel_rfl
theorem ret_int {k : IntKind} {a b : Int} (h : a = b) : Ending.returned (.int k a) = .returned (.int k b) := by rw [h]
theorem ret_bool {a b : Bool} (h : a = b) : Ending.returned (.bool a) = .returned (.bool b) := by rw [h]
namespace Hd
abbrev Fld := ByteArray × Int
abbrev Hdr := ByteArray × List Fld
def same (a b : ByteArray) : Bool := a.toList == b.toList
theorem same_iff (a b : ByteArray) : same a b = true ↔ a = b := by
 unfold same
 rw [beq_iff_eq]
 constructor
 ·intro h; rw [ByteArray.toList_eq, ByteArray.toList_eq] at h
  cases a; cases b; congr 1; exact Array.ext' h
 ·intro h; rw [h]
def FieldR (_w : World) (cs : List Value) (d : Fld) : Prop := cs = [.string d.1, .int .i64 d.2] ∧ d.1.size ≤ maxLen ∧ -9223372036854775808 ≤ d.2 ∧ d.2 ≤ 9223372036854775807
/-- the fields of a header: a slice of them -/
abbrev Flds (w : World) (v : Value) (fs : List Fld) : Prop := Rows w 2 FieldR v fs
theorem Flds.ext {w w' : World} {v : Value} {fs : List Fld} (h : Flds w v fs) (hx : Ext w w') : Flds w' v fs := Rows.ext h (fun _ _ h => h) hx
def HdrR (w : World) (cs : List Value) (d : Hdr) : Prop := ∃ v, cs = [.string d.1, v] ∧ d.1.size ≤ maxLen ∧ Flds w v d.2
theorem HdrR.ext {w w' : World} {cs : List Value} {d : Hdr} (h : HdrR w cs d) (hx : Ext w w') : HdrR w' cs d := by
 obtain ⟨v, h1, h2, h3⟩ := h; exact ⟨v, h1, h2, h3.ext hx⟩
def fE : List Fld → List Fld → Int
 | _, [] => 0
 | pre, f :: fs => if Id.ok f.1 then (if f.2 < 1 ∨ 32 < f.2 then 10 else if pre.any (fun g => same g.1 f.1) then 7 else fE (pre ++ [f]) fs) else 6
def tot (ns : List Int) : Int := ns.sum
def wds (fs : List Fld) : List Int := fs.map (·.2)
def chk (h : Hdr) : Int := if Id.ok h.1 then (if h.2.length = 0 then 8 else if 12 < h.2.length then 12 else if fE [] h.2 = 0 then (if tot (wds h.2) % 8 = 0 then 0 else 10) else fE [] h.2) else 6
def Wd (ns : List Int) : Prop := ∀ n ∈ ns, 1 ≤ n ∧ n ≤ 32
theorem tot_snoc (ns : List Int) (n : Int) : tot (ns ++ [n]) = tot ns + n := by simp [tot]
theorem tot_bd {ns : List Int} (h : Wd ns) : 0 ≤ tot ns ∧ tot ns ≤ 32 * ns.length := by
 induction ns with
 | nil => simp [tot]
 | cons n ns ih =>
  have h1 := h n (by simp)
  have h2 := ih (fun m hm => h m (by simp [hm]))
  simp only [tot, List.sum_cons, List.length_cons] at *
  omega
theorem fE_ok : ∀ (fs pre : List Fld), fE pre fs = 0 → Wd (wds fs)
 | [], _, _ => by intro n hn; simp [wds] at hn
 | f :: fs, pre, h => by
  unfold fE at h
  by_cases h1 : Id.ok f.1 = true
  ·rw [if_pos h1] at h
   by_cases h2 : f.2 < 1 ∨ 32 < f.2
   ·rw [if_pos h2] at h; simp at h
   ·rw [if_neg h2] at h
    by_cases h3 : pre.any (fun g => same g.1 f.1) = true
    ·rw [if_pos h3] at h; simp at h
    ·rw [if_neg h3] at h
     have ih := fE_ok fs _ h
     intro n hn
     simp only [wds, List.map_cons, List.mem_cons] at hn
     rcases hn with rfl | hn
     ·omega
     ·exact ih n hn
  ·rw [if_neg h1] at h; simp at h
theorem chk_ok {h : Hdr} (hc : chk h = 0) : Id.ok h.1 = true ∧ 1 ≤ h.2.length ∧ h.2.length ≤ 12 ∧ Wd (wds h.2) ∧ tot (wds h.2) % 8 = 0 := by
 unfold chk at hc
 by_cases h1 : Id.ok h.1 = true
 ·rw [if_pos h1] at hc
  by_cases h2 : h.2.length = 0
  ·rw [if_pos h2] at hc; simp at hc
  ·rw [if_neg h2] at hc
   by_cases h3 : 12 < h.2.length
   ·rw [if_pos h3] at hc; simp at hc
   ·rw [if_neg h3] at hc
    by_cases h4 : fE [] h.2 = 0
    ·rw [if_pos h4] at hc
     by_cases h5 : tot (wds h.2) % 8 = 0
     ·exact ⟨h1, by omega, by omega, fE_ok _ _ h4, h5⟩
     ·rw [if_neg h5] at hc; simp at hc
    ·rw [if_neg h4] at hc; exact absurd hc h4
 ·rw [if_neg h1] at hc; simp at hc
theorem wds_len (fs : List Fld) : (wds fs).length = fs.length := by simp [wds]
end Hd
/-- the place of an element, in the walk's spelling -/
theorem flds_at {w : World} {b o n c : Nat} {fs : List Hd.Fld} {oa : Option Addr} (h : Hd.Flds w (.slice oa n c) fs) (k : Nat) (nm : ByteArray) (x : Int) (hk : fs[k]? = some (nm, x)) (hoa : oa = some ⟨b, o, none⟩) :
 (∀ w' [Grows w w'], w'.cell? ⟨b, o + k * 2, none⟩ = some (.string nm)) ∧ (∀ w' [Grows w w'], w'.cell? ⟨b, o + k * 2 + 1, none⟩ = some (.int .i64 x)) ∧ nm.size ≤ maxLen ∧ -9223372036854775808 ≤ x ∧ x ≤ 9223372036854775807 := by
 have hlt := (List.getElem?_eq_some_iff.1 hk).1
 obtain ⟨b', o', hb, hn, hc⟩ := Rows.at h (by omega)
 rw [hb] at hoa
 simp only [Option.some.injEq, Addr.mk.injEq, and_true] at hoa
 obtain ⟨rfl, rfl⟩ := hoa
 obtain ⟨cs, _, ⟨rfl, h1, h2, h3⟩, hcs⟩ := hc k _ hk
 exact ⟨alw (hcs 0 _ rfl), alw (hcs 1 _ rfl), h1, h2, h3⟩
theorem sum_any {v : Value} {W : World} (ns : List Int) (hs : Src W v 1 ns.length (i64s ns)) (hn : Hd.Wd ns) (hl : ns.length ≤ 1000) :
 Calls Tryz.prog 69 #[v] W fun e W' => e = .returned (.int .i64 (Hd.tot ns)) ∧ W = W' := by
 obtain ⟨oa, c, rfl, hna⟩ := hs.slice
 have HS := Lh hs
 have HN := Lh hn
 have HNA := Lh hna
 clear hs hn hna
 go_enter Tryz.func69, Tryz.ntmps69
 go_wp2
 go_loop [3, 8] (fun t i => ∃ k : Nat, k ≤ ns.length ∧ i = .int .i64 k ∧ t = .int .i64 (Hd.tot (ns.take k))) (fun _ i => ns.length - (intOf i).toNat)
 case atStart => exact ⟨0, Nat.zero_le _, rfl, rfl⟩
 case round =>
  obtain ⟨k, hk, rfl, rfl⟩ := hrel
  by_cases hlt : k < ns.length
  ·obtain ⟨x, hx⟩ : ∃ x, ns[k]? = some x := ⟨_, gE hlt⟩
   have hxb := HN.out x (List.mem_of_getElem? hx)
   have htb := Hd.tot_bd (ns := ns.take k) (fun n hn => HN.out n (List.mem_of_mem_take hn))
   have hlen : (ns.take k).length = k := by rw [List.length_take]; omega
   rw [hlen] at htb
   have hsn : Hd.tot (ns.take (k + 1)) = Hd.tot (ns.take k) + x := by
    rw [← Hd.tot_snoc]; congr 1; rw [List.take_add_one, hx]; rfl
   have HSN := Lh hsn
   cases oa with
   | none => have := HNA.out rfl; omega
   | some ad =>
   obtain ⟨ea, _, ca⟩ := HS.out.at (by omega)
   obtain ⟨ab, ao, asp⟩ := ad
   simp only [Addr.mk.injEq, true_and] at ea
   subst ea
   dsimp only at ca
   have f1 := ca k _ (i64s_get hx)
   clear ca hx hlen hsn
   go_wp2
   go_round
   case rel => exact ⟨k + 1, by omega, by go_num, by rw [HSN.out]⟩
   case measure => simp [intOf]; omega
  ·obtain rfl : k = ns.length := by omega
   rw [List.take_length]
   go_wp2
   go_ret
   exact ⟨rfl, rfl⟩
theorem widths_any {W : World} (nm : ByteArray) {v : Value} (fs : List Hd.Fld) (hs : Hd.Flds W v fs) (hl : fs.length ≤ 1000) :
 Calls Tryz.prog 70 #[.agg #[.string nm, v]] W fun e W' => ∃ u, e = .returned u ∧ Ext W W' ∧ W'.ownsRow W.heap.size 3 1 u (Hd.wds fs).length (i64s (Hd.wds fs)) := by
 obtain ⟨oa, c, rfl, hlc, hcm⟩ := hs.slice
 unfold maxLen at hcm
 have HS := Lh hs
 clear hs
 have b0 := aH W (.cells #[.string nm, .slice oa fs.length c] 81)
 have c1 := alw (cQ 1 b0)
 clear b0
 go_enter Tryz.func70, Tryz.ntmps70
 go_wp2_with fail
 go_loopw [3, 9] (fun o i wr => ∃ k : Nat, k ≤ fs.length ∧ i = .int .i64 k ∧ Ext (W.alloc (.cells #[.string nm, .slice oa fs.length c] 81)) wr ∧ wr.ownsRow W.heap.size 3 1 o k (i64s (Hd.wds (fs.take k)))) (fun _ i _ => fs.length - (intOf i).toNat)
 case atStart => exact ⟨0, Nat.zero_le _, rfl, eR _, World.ownsRow_nil _ _ _ _⟩
 case round =>
  obtain ⟨k, hk, rfl, hx, ho⟩ := hrel
  obtain ⟨oo, co, rfl⟩ := own_slice ho
  have sx : Step (W.alloc (.cells #[.string nm, .slice oa fs.length c] 81)) wr := ⟨hx⟩
  have HO := Lh ho
  clear ho hx
  by_cases hlt : k < fs.length
  ·obtain ⟨⟨nk, x⟩, hxk⟩ : ∃ x, fs[k]? = some x := ⟨_, gE hlt⟩
   obtain ⟨b, o, hoa, _, _⟩ := Rows.at HS.out (by omega)
   subst hoa
   obtain ⟨f0, f1, hns, hx1, hx2⟩ := flds_at HS.out k nk x hxk rfl
   have hsn : Hd.wds (fs.take (k + 1)) = Hd.wds (fs.take k) ++ [x] := by
    unfold Hd.wds; rw [List.take_add_one, hxk]; simp
   have HSN := Lh hsn
   have hle : W.heap.size ≤ wr.heap.size := grows_le
   have hs1 := src_one (wr.alloc (.cells #[.string nk, .int .i64 x] 79)) (.int .i64 x) 3 rfl
   rw [szA] at hs1
   have HS1 := Lh hs1
   have HO1 := Lh (own_now HO.out (w := (wr.alloc (.cells #[.string nk, .int .i64 x] 79)).alloc (.cells #[.int .i64 x] 3)))
   clear hxk hsn hs1
   go_wp2_with (at_builtin; refine wpList_append_fresh rfl (.tmp 13) (.tmp 16) 29 rfl W.heap.size 3 (.int .i64 0) 1 8 Tryz.underlying29 info_i64 rfl (by decide) _ k (i64s (Hd.wds (fs.take k))) rfl HO1.out _ 1 [.int .i64 x] rfl HS1.out ?d1 ?d2 ?d3 ?_)
   case d1 => unfold maxLen; omega
   case d2 => omega
   case d3 => (try simp); omega
   intro v' w' hown hgr _
   have hx3 : Ext (W.alloc (.cells #[.string nm, .slice (some ⟨b, o, none⟩) fs.length c] 81)) w' := by
    have h1 : Ext (W.alloc (.cells #[.string nm, .slice (some ⟨b, o, none⟩) fs.length c] 81)) ((wr.alloc (.cells #[.string nk, .int .i64 x] 79)).alloc (.cells #[.int .i64 x] 3)) := grows
    refine h1.mod (grown_mod hgr) (fun q hq => ?_)
    obtain ⟨cur, hc⟩ := own_type HO1.out hq.symm
    have h2 := (HO1.out.lt q hq.symm).1
    rcases Nat.lt_or_ge q (W.heap.size + 1) with h3 | h3
    ·obtain rfl : q = W.heap.size := by omega
     have h4 := h1.heap (aH W (.cells #[.string nm, .slice (some ⟨b, o, none⟩) fs.length c] 81))
     exact absurd rfl (ne_of_type hc h4 (by decide))
    ·simpa using h3
   have HX3 := Lh hx3
   have HA3 := Lh hown
   clear hgr hown hx3
   go_wp2
   go_roundw
   case rel => exact ⟨k + 1, by omega, by go_num, HX3.out, by rw [HSN.out]; simpa [i64s] using HA3.out⟩
   case measure => simp [intOf]; omega
  ·obtain rfl : k = fs.length := by omega
   go_wp2
   go_ret
   refine ⟨_, rfl, grows, ?_⟩
   have := HO.out
   rw [List.take_length] at this
   rw [Hd.wds_len]
   exact this
end Go.Proofs.YtkiafiaodockbaaGreat
