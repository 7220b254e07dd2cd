/- Tries of prefixes: the iterator of All: the recursive closure, walked against whatever rounds. No condition. -/
import Derived.Test.YteefchbpojcklaaLp7
import Derived.Test.YteefchbpojcklaaHead
import Derived.RangeFuncFrom
import Derived.RangeFuncBound
import Derived.RangeFuncCalls
import Derived.RangeFuncLeaves
import Derived.OwnWalkIn
import Derived.TacticsInMore
namespace Go.Proofs.Yteefchbpojcklaa
open Go.RowKit
attribute [local go_sem] Oper.semAt_some

namespace Lp
theorem halves {w v d : Nat} (hd : d < w) (hv : 2 ^ (w - d) ∣ v) : 2 ^ (w - (d + 1)) ∣ v ∧ 2 ^ (w - (d + 1)) ∣ v + 2 ^ (w - 1 - d) ∧ 2 ^ (w - (d + 1)) ≤ 2 ^ (w - d) ∧ v + 2 ^ (w - 1 - d) + 2 ^ (w - (d + 1)) ≤ v + 2 ^ (w - d) := by
  have e1 : w - d = (w - 1 - d) + 1 := by omega
  have e2 : w - (d + 1) = w - 1 - d := by omega
  rw [e1] at hv ⊢
  rw [e2]
  have hv2 : 2 ^ (w - 1 - d) ∣ v := Nat.dvd_trans ⟨2, by rw [Nat.pow_succ]⟩ hv
  exact ⟨hv2, Nat.dvd_add hv2 (Nat.dvd_refl _), Nat.pow_le_pow_right (by decide) (by omega), by rw [Nat.pow_succ]; omega⟩
theorem or_walk {w v d : Nat} (hw : w ≤ 32) (hd : d < w) (hv : 2 ^ (w - d) ∣ v) (hu : v + 2 ^ (w - d) ≤ 2 ^ w) : Go.bits .or .u32 (v : Int) (2 ^ (w - 1 - d) % 4294967296) = ((v + 2 ^ (w - 1 - d) : Nat) : Int) := by
  have e1 : w - d = (w - 1 - d) + 1 := by omega
  have h32 : 2 ^ w ≤ 4294967296 := Nat.pow_le_pow_right (n := 2) (by decide) hw
  obtain ⟨e, he⟩ : ∃ e, e = w - 1 - d := ⟨_, rfl⟩
  rw [e1, ← he] at hv hu
  rw [← he]
  have hpos : 0 < 2 ^ e := Nat.pos_of_ne_zero (by simp)
  have e3 : (2 : Int) ^ e = ((2 ^ e : Nat) : Int) := by rw [Int.natCast_pow]; rfl
  have e5 : Bv.pw ((e + 1 : Nat) : Int) = ((2 ^ (e + 1) : Nat) : Int) := by unfold Bv.pw; rw [Int.toNat_natCast, Int.natCast_pow]; rfl
  obtain ⟨q, rfl⟩ := hv
  have e4 : ((2 ^ (e + 1) * q : Nat) : Int) = (q : Int) * Bv.pw ((e + 1 : Nat) : Int) := by
    rw [e5, Int.natCast_mul, Int.mul_comm]
  have e6 : 2 ^ (e + 1) = 2 ^ e * 2 := Nat.pow_succ 2 e
  have e7 : 2 ^ (e + 1) * q = 2 ^ e * (2 * q) := by rw [e6, Nat.mul_assoc]
  have h1 : (2 ^ (e + 1) * q : Nat) < 4294967296 := by omega
  obtain ⟨z, hz⟩ : ∃ z, z = 2 ^ e := ⟨_, rfl⟩
  obtain ⟨y, hy⟩ : ∃ y, y = 2 ^ (e + 1) * q := ⟨_, rfl⟩
  rw [e3, ← hz, Int.emod_eq_of_lt (by omega) (by omega), ← hy]
  rw [← hy] at e4 h1 hu
  rw [e4, Bv.or_disj (by omega) (by rw [← e4]; omega) (by omega) (by rw [e5, e6, ← hz]; omega) (by omega), ← e4]
  omega
theorem items_node (w b : Nat) (l r : Tr) (st : Bool) (x : Int) (v d : Nat) : items w (.node b l r st x) v d = (bif st then [(v, d, x)] else []) ++ (if d = w then [] else items w l v (d + 1) ++ items w r (v + 2 ^ (w - 1 - d)) (d + 1)) := rfl
end Lp
theorem YieldAt.anyDepth {m : Nat} (m' : Nat) {P : Program} {l : Nat} {args : Array Value} {W : World} {R : Ending → World → Prop} (h : YieldAt Fence.wide m P l args W R) : YieldAt Fence.wide m' P l args W R := by
  obtain ⟨fn, tmps, assign, body, hy, hR⟩ := h
  exact ⟨fn, tmps, assign, body, hy, hR.1, fun c cs _ => hR.2 c cs (fun d h => by cases h)⟩
/-- the blocks of these types lie as they lay -/
def KTs (t : TypeId) : Bool := t == 61 || t == 66 || t == 82 || t == 26 || t == 83
def KT (A B : World) : Prop := A.heap.size ≤ B.heap.size ∧ ∀ (k : Nat) (c : Array Value) (t : TypeId), KTs t = true → A.heap[k]? = some (.cells c t (0, 0)) → B.heap[k]? = some (.cells c t (0, 0))
theorem KT.refl (A : World) : KT A A := ⟨Nat.le_refl _, fun _ _ _ _ h => h⟩
theorem KT.trans {A B C : World} (h : KT A B) (k : KT B C) : KT A C := ⟨Nat.le_trans h.1 k.1, fun i c t ht hi => k.2 i c t ht (h.2 i c t ht hi)⟩
theorem KT.ext {A B : World} (h : Ext A B) : KT A B := ⟨h.le, fun _ _ _ _ hi => h.heap hi⟩
theorem KT.tr {A B : World} (h : KT A B) : ∀ {t : Lp.Tr}, t.In A → t.In B
  | .nil, _ => trivial
  | .node _ _ _ _ _, ⟨h0, h1, h2⟩ => ⟨h.2 _ _ _ rfl h0, h.tr h1, h.tr h2⟩
/-- what the closure reads besides the tree -/
structure Walks (W : World) (l g w yb tb wb : Nat) (rp : Option Addr) : Prop where
  yy : W.heap[yb]? = some (.cells #[.func (.yield l) #[] #[]] 82 (0, 0))
  tt : W.heap[tb]? = some (.cells #[.pointer (some ⟨g, 0, none⟩)] 26 (0, 0))
  ww : W.heap[wb]? = some (.cells #[.func (.func 37) #[] #[.pointer (some ⟨yb, 0, none⟩), .pointer (some ⟨tb, 0, none⟩), .pointer (some ⟨wb, 0, none⟩)]] 83 (0, 0))
  hh : W.heap[g]? = some (.cells #[.int .i64 w, .pointer rp] 61 (0, 0))
theorem Walks.kt {A B : World} {l g w yb tb wb : Nat} {rp : Option Addr} (h : Walks A l g w yb tb wb rp) (k : KT A B) : Walks B l g w yb tb wb rp :=
  ⟨k.2 _ _ _ rfl h.yy, k.2 _ _ _ rfl h.tt, k.2 _ _ _ rfl h.ww, k.2 _ _ _ rfl h.hh⟩
/-- what yield is handed -/
def encs (w : Nat) (a : Lp.Item) : Array Value := #[.agg #[.int .u32 a.1, .int .u32 (Bv.pmask a.2.1 w)], .int .i64 a.2.2]
/-- what a walk over a subtree leaves -/
def WalkP (J Jx : List Lp.Item → World → Prop) (W : World) (pre is : List Lp.Item) (e : Ending) (W' : World) : Prop :=
  (e = .returned (.bool true) ∧ J (pre ++ is) W' ∧ KT W W') ∨ (e = .returned (.bool false) ∧ ∃ q, q <+: is ∧ Jx (pre ++ q) W')
set_option maxRecDepth 100000 in
set_option maxHeartbeats 4000000 in
theorem walk_in (l g w yb tb wb N : Nat) (rp : Option Addr) (hw2 : w ≤ 32) (J Jx : List Lp.Item → World → Prop) (hJ : ∀ s A B, J s A → Ext A B → J s B) (hJx : ∀ s A B, Jx s A → Ext A B → Jx s B)
    (hY : ∀ m pre x W, J pre W → pre.length < N → YieldAt Fence.wide m Try.prog l (encs w x) W fun e W' => (e = .returned (.bool true) ∧ J (pre ++ [x]) W' ∧ KT W W') ∨ (e = .returned (.bool false) ∧ Jx (pre ++ [x]) W')) (T : Lp.Tr) :
    ∀ (n v d : Nat) (pre : List Lp.Item) (W : World), d ≤ w → 2 ^ (w - d) ∣ v → v + 2 ^ (w - d) ≤ 2 ^ w → Walks W l g w yb tb wb rp → T.In W → J pre W → pre.length + (Lp.items w T v d).length ≤ N →
      CallsIn Fence.wide n Try.prog 37 #[.pointer T.ptr, .int .u32 v, .int .i64 d, .pointer (some ⟨yb, 0, none⟩), .pointer (some ⟨tb, 0, none⟩), .pointer (some ⟨wb, 0, none⟩)] W (WalkP J Jx W pre (Lp.items w T v d)) := by
  induction T with
  | nil =>
    intro n v d pre W _ _ _ _ _ hj _
    simp only [Lp.Tr.ptr_nil]
    refine callsIn_of_wp Try.func37 rfl trivial ?_ rfl
    simp only [Try.ntmps37, List.size_toArray, List.length_cons, List.length_nil, Nat.reduceAdd, Nat.reduceSub, Array.replicate_succ, Array.replicate_zero, List.push_toArray, List.append_toArray, List.nil_append, List.cons_append]
    gi_wp2
    go_ret
    exact .inl ⟨rfl, by simpa [Lp.items] using hj, KT.refl _⟩
  | node b tl tr st x ihl ihr =>
    intro n v d pre W hd hdv hv hW hT hj hN
    simp only [Lp.Tr.ptr_node]
    have HW := Lib.hid hW
    have HT := Lib.hid hT
    have HJ0 := Lib.hid hj
    clear hW hT hj
    refine callsIn_of_wp Try.func37 rfl trivial ?_ rfl
    simp only [Try.ntmps37, List.size_toArray, List.length_cons, List.length_nil, Nat.reduceAdd, Nat.reduceSub, Array.replicate_succ, Array.replicate_zero, List.push_toArray, List.append_toArray, List.nil_append, List.cons_append]
    cases st with
    | false =>
      have y0 := alw (cell_of (o := 0) HW.out.yy)
      have t0 := alw (cell_of (o := 0) HW.out.tt)
      have w0 := alw (cell_of (o := 0) HW.out.ww)
      have h0 := alw (cell_of (o := 0) HW.out.hh)
      have k0 := alw (cell_of (o := 0) HT.out.1)
      have k1 := alw (cell_of (o := 1) HT.out.1)
      have k2 := alw (cell_of (o := 2) HT.out.1)
      have k3 := alw (cell_of (o := 3) HT.out.1)
      gi_wp2
      refine wpIn_wide.2 (wp_region_later (W := W) (by kernel_rfl) (by kernel_rfl) (Ext.refl _) ?_)
      repeat (go_big_quiet_step (fail))
      refine wpQuiet_nil ?_
      intro w2 x2
      have HW2 := Lib.hid (HW.out.kt (KT.ext x2))
      have HT2 := Lib.hid ((KT.ext x2).tr HT.out)
      have hj2 : Hid (J (pre ++ []) w2) := Lib.hid (by rw [List.append_nil]; exact hJ _ _ _ HJ0.out x2)
      have hk2 := Lib.hid (KT.ext x2)
      clear y0 t0 w0 h0 k0 k1 k2 k3 x2 HJ0 HW HT
      have y0 := alw (cell_of (o := 0) HW2.out.yy)
      have t0 := alw (cell_of (o := 0) HW2.out.tt)
      have w0 := alw (cell_of (o := 0) HW2.out.ww)
      have h0 := alw (cell_of (o := 0) HW2.out.hh)
      have k0 := alw (cell_of (o := 0) HT2.out.1)
      have k1 := alw (cell_of (o := 1) HT2.out.1)
      by_cases hdw : d = w
      · have z : ((d : Int) == (w : Int)) = true := beq_iff_eq.2 (by omega)
        have HE : Hid (Lp.items w (.node b tl tr false x) v d = []) := Lib.hid (by rw [Lp.items_node, if_pos hdw, List.append_nil]; rfl)
        clear hdw
        gi_wp2
        go_ret
        refine .inl ⟨rfl, ?_, hk2.out⟩
        rw [HE.out]; exact hj2.out
      · have z : ((d : Int) == (w : Int)) = false := beq_eq_false_iff_ne.2 (by omega)
        have hlt : d < w := by omega
        have HE : Hid (Lp.items w (.node b tl tr false x) v d = [] ++ (Lp.items w tl v (d + 1) ++ Lp.items w tr (v + 2 ^ (w - 1 - d)) (d + 1))) := Lib.hid (by rw [Lp.items_node, if_neg hdw]; rfl)
        have hp := Lp.halves hlt hdv
        rw [HE.out, List.length_append, List.length_append] at hN
        have hIL := fun pre' W' h1 h2 h3 h4 => ihl (n - 1) v (d + 1) pre' W' hlt hp.1 (Nat.le_trans (Nat.add_le_add_left hp.2.2.1 v) hv) h1 h2 h3 h4
        have hIR := fun pre' W' h1 h2 h3 h4 => ihr (n - 1) (v + 2 ^ (w - 1 - d)) (d + 1) pre' W' hlt hp.2.1 (Nat.le_trans hp.2.2.2 hv) h1 h2 h3 h4
        have HOR : Hid (Go.bits .or .u32 (v : Int) (2 ^ (w - 1 - d) % 4294967296) = ((v + 2 ^ (w - 1 - d) : Nat) : Int)) := Lib.hid (Lp.or_walk hw2 hlt hdv hv)
        clear hdw ihl ihr hp
        gi_wp2
        refine wpIn_region_head (W := w2) 9 23 #[true, true, true, true, true, true, true, true, true, false, false, false, false, false, false, false, false, false, false, false, false, false, false, false, false, false, false, false, false, false, false, false] (by kernel_rfl) (by kernel_rfl) rfl (Ext.refl _) ?_
        simp only [List.take_succ_cons, List.take_zero]
        repeat (go_big_quiet_step (fail))
        refine wpQuiet_nil ?_
        intro w3 x3
        have s3 := Step.mk x3
        refine wpAnyIn_ready (rs := [9]) (by kernel_rfl) (by simp) (AllReadyIn.cons rfl (fun K hK => ?_) AllReadyIn.nil)
        go_simp
        refine ⟨trivial, fun h => (by cases h), ?_⟩
        rw [show (d : Int) + 1 = ((d + 1 : Nat) : Int) by omega]
        refine (hIL (pre ++ []) w3 (HW2.out.kt (KT.ext x3)) ((KT.ext x3).tr HT2.out.2.1) (hJ _ _ _ hj2.out x3) (by rw [List.length_append]; omega)).mono ?_
        have X3 := Lib.hid x3
        clear x3 y0 t0 w0 h0 k0 k1 hIL
        rintro e w4 (⟨rfl, hj4, hk4⟩ | ⟨rfl, q, hq, hx4⟩)
        · refine hK _ _ ?_
          clear hK K
          refine wpAnyIn_ready (rs := [10]) (by kernel_rfl) (by simp) (AllReadyIn.cons rfl (fun K hK => ?_) AllReadyIn.nil)
          go_simp
          refine hK _ _ ?_
          clear hK K
          have hk34 := (KT.ext X3.out).trans hk4
          have HW4 := Lib.hid (HW2.out.kt hk34)
          have HT4 := Lib.hid (hk34.tr HT2.out)
          have hk24 := Lib.hid (hk2.out.trans hk34)
          replace hj4 := Lib.hid hj4
          clear hk34 hk4 X3 s3 HW2 HT2 hk2 hj2
          have y0 := alw (cell_of (o := 0) HW4.out.yy)
          have t0 := alw (cell_of (o := 0) HW4.out.tt)
          have w0 := alw (cell_of (o := 0) HW4.out.ww)
          have h0 := alw (cell_of (o := 0) HW4.out.hh)
          have k0 := alw (cell_of (o := 0) HT4.out.1)
          have k1 := alw (cell_of (o := 1) HT4.out.1)
          refine wpAnyIn_head (W := w4) 29 11 3 #[true, true, true, true, true, true, true, true, true, true, true, false, false, false, false, false, false, false, false, false, false, false, false, false, false, false, false, false, false, false, false, false] #[true, true, true, true, true, true, true, true, true, true, true, true, true, true, true, true, true, true, true, true, true, true, true, true, true, true, true, true, true, false, false, false] (by kernel_rfl) (Ext.refl _) ?_
          simp only [List.take_succ_cons, List.take_zero, List.drop_succ_cons, List.drop_zero, Nat.reduceSub]
          repeat (go_big_quiet_step (fail))
          refine wpQuiet_nil ?_
          intro w5 x5
          have s5 := Step.mk x5
          refine wpAnyIn_ready (rs := [29]) (by kernel_rfl) (by simp) (AllReadyIn.cons rfl (fun K hK => ?_) AllReadyIn.nil)
          go_simp
          refine ⟨trivial, fun h => (by cases h), ?_⟩
          rw [show (d : Int) + 1 = ((d + 1 : Nat) : Int) by omega, HOR.out]
          refine (hIR (pre ++ [] ++ Lp.items w tl v (d + 1)) w5 (HW4.out.kt (KT.ext x5)) ((KT.ext x5).tr HT4.out.2.2) (hJ _ _ _ hj4.out x5) (by rw [List.length_append, List.length_append]; omega)).mono ?_
          have X5 := Lib.hid x5
          clear x5 y0 t0 w0 h0 k0 k1 hIR
          rintro e w6 (⟨rfl, hj6, hk6⟩ | ⟨rfl, q, hq, hx6⟩)
          · refine hK _ _ ?_
            clear hK K
            refine wpAnyIn_ready (rs := [30]) (by kernel_rfl) (by simp) (AllReadyIn.cons rfl (fun K hK => ?_) AllReadyIn.nil)
            go_simp
            refine hK _ _ ?_
            clear hK K
            refine wpAnyIn_ready (rs := [31]) (by kernel_rfl) (by simp) (AllReadyIn.cons rfl (fun K hK => ?_) AllReadyIn.nil)
            go_simp
            refine hK _ _ ?_
            clear hK K
            refine wpAnyIn_done (by kernel_rfl) ?_ _
            gi_wp2
            go_ret
            refine .inl ⟨rfl, ?_, (hk24.out.trans (KT.ext X5.out)).trans hk6⟩
            rw [HE.out, ← List.append_assoc, ← List.append_assoc]; exact hj6
          · refine hK _ _ ?_
            clear hK K
            refine wpAnyIn_ready (rs := [30]) (by kernel_rfl) (by simp) (AllReadyIn.cons rfl (fun K hK => ?_) AllReadyIn.nil)
            go_simp
            refine hK _ _ ?_
            clear hK K
            refine wpAnyIn_ready (rs := [31]) (by kernel_rfl) (by simp) (AllReadyIn.cons rfl (fun K hK => ?_) AllReadyIn.nil)
            go_simp
            refine hK _ _ ?_
            clear hK K
            refine wpAnyIn_done (by kernel_rfl) ?_ _
            gi_wp2
            go_ret
            refine .inr ⟨rfl, [] ++ (Lp.items w tl v (d + 1) ++ q), ?_, ?_⟩
            · rw [HE.out]; exact List.prefix_append_right_inj _ |>.2 (List.prefix_append_right_inj _ |>.2 hq)
            · rw [← List.append_assoc, ← List.append_assoc]; exact hx6
        · refine hK _ _ ?_
          clear hK K
          refine wpAnyIn_ready (rs := [10]) (by kernel_rfl) (by simp) (AllReadyIn.cons rfl (fun K hK => ?_) AllReadyIn.nil)
          go_simp
          refine hK _ _ ?_
          clear hK K
          refine wpAnyIn_head (W := w4) 29 11 3 #[true, true, true, true, true, true, true, true, true, true, true, false, false, false, false, false, false, false, false, false, false, false, false, false, false, false, false, false, false, false, false, false] #[true, true, true, true, true, true, true, true, true, true, true, true, true, true, true, true, true, true, true, true, true, true, true, true, true, true, true, true, true, false, false, false] (by kernel_rfl) (Ext.refl _) ?_
          simp only [List.take_succ_cons, List.take_zero, List.drop_succ_cons, List.drop_zero, Nat.reduceSub]
          repeat (go_big_quiet_step (fail))
          refine wpQuiet_nil ?_
          intro w5 x5
          refine wpAnyIn_ready (rs := [29]) (by kernel_rfl) (by simp) (AllReadyIn.cons rfl (fun K hK => ?_) AllReadyIn.nil)
          go_simp
          refine ⟨fun _ _ => trivial, ?_⟩
          refine hK _ _ ?_
          clear hK K
          refine wpAnyIn_ready (rs := [30]) (by kernel_rfl) (by simp) (AllReadyIn.cons rfl (fun K hK => ?_) AllReadyIn.nil)
          go_simp
          refine hK _ _ ?_
          clear hK K
          refine wpAnyIn_ready (rs := [31]) (by kernel_rfl) (by simp) (AllReadyIn.cons rfl (fun K hK => ?_) AllReadyIn.nil)
          go_simp
          refine hK _ _ ?_
          clear hK K
          refine wpAnyIn_done (by kernel_rfl) ?_ _
          gi_wp2
          go_ret
          refine .inr ⟨rfl, [] ++ q, ?_, ?_⟩
          · rw [HE.out]; exact List.prefix_append_right_inj _ |>.2 (hq.trans (List.prefix_append _ _))
          · rw [← List.append_assoc]; exact hJx _ _ _ hx4 x5

    | true =>
      have y0 := alw (cell_of (o := 0) HW.out.yy)
      have t0 := alw (cell_of (o := 0) HW.out.tt)
      have w0 := alw (cell_of (o := 0) HW.out.ww)
      have h0 := alw (cell_of (o := 0) HW.out.hh)
      have k0 := alw (cell_of (o := 0) HT.out.1)
      have k1 := alw (cell_of (o := 1) HT.out.1)
      have k2 := alw (cell_of (o := 2) HT.out.1)
      have k3 := alw (cell_of (o := 3) HT.out.1)
      gi_wp2
      refine wpIn_region_head (W := W) 18 3 #[true, true, true, true, true, true, true, true, true, true, true, true, true, true, true, true, true, true, false, false, false] (by kernel_rfl) (by kernel_rfl) rfl (Ext.refl _) ?_
      simp only [List.take_succ_cons, List.take_zero]
      repeat (go_big_quiet_step ((go_at_call 38; exact Rets.later_at (pmask_any _ _ _))))
      refine wpQuiet_nil ?_
      intro w1 x1
      have hj1 := hJ _ _ _ HJ0.out x1
      obtain ⟨fn, tmps, assign, body, hy, hR⟩ := hY (n - 1) pre (v, d, x) w1 hj1 (by simp only [Lp.items, cond_true, List.cons_append, List.nil_append, List.length_cons] at hN; omega)
      dsimp only [encs] at hy
      refine wpAnyIn_ready (rs := [18]) (by kernel_rfl) (by simp) (AllReadyIn.cons rfl (fun K hK => ?_) AllReadyIn.nil)
      go_simp
      refine ⟨fun h => (by cases h), hR.mono ?_⟩
      have X1 := Lib.hid x1
      clear hR hy hj1 y0 t0 w0 h0 k0 k1 k2 k3 x1
      rintro e w2 (⟨rfl, hj2, hk2⟩ | ⟨rfl, hx2⟩)
      · refine hK _ _ ?_
        clear hK K
        refine wpAnyIn_ready (rs := [19]) (by kernel_rfl) (by simp) (AllReadyIn.cons rfl (fun K hK => ?_) AllReadyIn.nil)
        go_simp
        refine hK _ _ ?_
        clear hK K
        refine wpAnyIn_ready (rs := [20]) (by kernel_rfl) (by simp) (AllReadyIn.cons rfl (fun K hK => ?_) AllReadyIn.nil)
        go_simp
        refine hK _ _ ?_
        clear hK K
        refine wpAnyIn_done (by kernel_rfl) ?_ _
        have hk3 := (KT.ext X1.out).trans hk2
        have HW2 := Lib.hid (HW.out.kt hk3)
        have HT2 := Lib.hid (hk3.tr HT.out)
        replace hj2 := Lib.hid hj2
        replace hk2 := Lib.hid hk3
        clear hk3 X1 HJ0 HW HT
        have y0 := alw (cell_of (o := 0) HW2.out.yy)
        have t0 := alw (cell_of (o := 0) HW2.out.tt)
        have w0 := alw (cell_of (o := 0) HW2.out.ww)
        have h0 := alw (cell_of (o := 0) HW2.out.hh)
        have k0 := alw (cell_of (o := 0) HT2.out.1)
        have k1 := alw (cell_of (o := 1) HT2.out.1)
        by_cases hdw : d = w
        · have z : ((d : Int) == (w : Int)) = true := beq_iff_eq.2 (by omega)
          have HE : Hid (Lp.items w (.node b tl tr true x) v d = [(v, d, x)]) := Lib.hid (by rw [Lp.items_node, if_pos hdw, List.append_nil]; rfl)
          clear hdw
          gi_wp2
          go_ret
          refine .inl ⟨rfl, ?_, hk2.out⟩
          rw [HE.out]; exact hj2.out
        · have z : ((d : Int) == (w : Int)) = false := beq_eq_false_iff_ne.2 (by omega)
          have hlt : d < w := by omega
          have HE : Hid (Lp.items w (.node b tl tr true x) v d = [(v, d, x)] ++ (Lp.items w tl v (d + 1) ++ Lp.items w tr (v + 2 ^ (w - 1 - d)) (d + 1))) := Lib.hid (by rw [Lp.items_node, if_neg hdw]; rfl)
          have hp := Lp.halves hlt hdv
          rw [HE.out, List.length_append, List.length_append] at hN
          have hIL := fun pre' W' h1 h2 h3 h4 => ihl (n - 1) v (d + 1) pre' W' hlt hp.1 (Nat.le_trans (Nat.add_le_add_left hp.2.2.1 v) hv) h1 h2 h3 h4
          have hIR := fun pre' W' h1 h2 h3 h4 => ihr (n - 1) (v + 2 ^ (w - 1 - d)) (d + 1) pre' W' hlt hp.2.1 (Nat.le_trans hp.2.2.2 hv) h1 h2 h3 h4
          have HOR : Hid (Go.bits .or .u32 (v : Int) (2 ^ (w - 1 - d) % 4294967296) = ((v + 2 ^ (w - 1 - d) : Nat) : Int)) := Lib.hid (Lp.or_walk hw2 hlt hdv hv)
          clear hdw ihl ihr hp
          gi_wp2
          refine wpIn_region_head (W := w2) 9 23 #[true, true, true, true, true, true, true, true, true, false, false, false, false, false, false, false, false, false, false, false, false, false, false, false, false, false, false, false, false, false, false, false] (by kernel_rfl) (by kernel_rfl) rfl (Ext.refl _) ?_
          simp only [List.take_succ_cons, List.take_zero]
          repeat (go_big_quiet_step (fail))
          refine wpQuiet_nil ?_
          intro w3 x3
          have s3 := Step.mk x3
          refine wpAnyIn_ready (rs := [9]) (by kernel_rfl) (by simp) (AllReadyIn.cons rfl (fun K hK => ?_) AllReadyIn.nil)
          go_simp
          refine ⟨trivial, fun h => (by cases h), ?_⟩
          rw [show (d : Int) + 1 = ((d + 1 : Nat) : Int) by omega]
          refine (hIL (pre ++ [(v, d, x)]) w3 (HW2.out.kt (KT.ext x3)) ((KT.ext x3).tr HT2.out.2.1) (hJ _ _ _ hj2.out x3) (by rw [List.length_append]; omega)).mono ?_
          have X3 := Lib.hid x3
          clear x3 y0 t0 w0 h0 k0 k1 hIL
          rintro e w4 (⟨rfl, hj4, hk4⟩ | ⟨rfl, q, hq, hx4⟩)
          · refine hK _ _ ?_
            clear hK K
            refine wpAnyIn_ready (rs := [10]) (by kernel_rfl) (by simp) (AllReadyIn.cons rfl (fun K hK => ?_) AllReadyIn.nil)
            go_simp
            refine hK _ _ ?_
            clear hK K
            have hk34 := (KT.ext X3.out).trans hk4
            have HW4 := Lib.hid (HW2.out.kt hk34)
            have HT4 := Lib.hid (hk34.tr HT2.out)
            have hk24 := Lib.hid (hk2.out.trans hk34)
            replace hj4 := Lib.hid hj4
            clear hk34 hk4 X3 s3 HW2 HT2 hk2 hj2
            have y0 := alw (cell_of (o := 0) HW4.out.yy)
            have t0 := alw (cell_of (o := 0) HW4.out.tt)
            have w0 := alw (cell_of (o := 0) HW4.out.ww)
            have h0 := alw (cell_of (o := 0) HW4.out.hh)
            have k0 := alw (cell_of (o := 0) HT4.out.1)
            have k1 := alw (cell_of (o := 1) HT4.out.1)
            refine wpAnyIn_head (W := w4) 29 11 3 #[true, true, true, true, true, true, true, true, true, true, true, false, false, false, false, false, false, false, false, false, false, false, false, false, false, false, false, false, false, false, false, false] #[true, true, true, true, true, true, true, true, true, true, true, true, true, true, true, true, true, true, true, true, true, true, true, true, true, true, true, true, true, false, false, false] (by kernel_rfl) (Ext.refl _) ?_
            simp only [List.take_succ_cons, List.take_zero, List.drop_succ_cons, List.drop_zero, Nat.reduceSub]
            repeat (go_big_quiet_step (fail))
            refine wpQuiet_nil ?_
            intro w5 x5
            have s5 := Step.mk x5
            refine wpAnyIn_ready (rs := [29]) (by kernel_rfl) (by simp) (AllReadyIn.cons rfl (fun K hK => ?_) AllReadyIn.nil)
            go_simp
            refine ⟨trivial, fun h => (by cases h), ?_⟩
            rw [show (d : Int) + 1 = ((d + 1 : Nat) : Int) by omega, HOR.out]
            refine (hIR (pre ++ [(v, d, x)] ++ Lp.items w tl v (d + 1)) w5 (HW4.out.kt (KT.ext x5)) ((KT.ext x5).tr HT4.out.2.2) (hJ _ _ _ hj4.out x5) (by rw [List.length_append, List.length_append]; omega)).mono ?_
            have X5 := Lib.hid x5
            clear x5 y0 t0 w0 h0 k0 k1 hIR
            rintro e w6 (⟨rfl, hj6, hk6⟩ | ⟨rfl, q, hq, hx6⟩)
            · refine hK _ _ ?_
              clear hK K
              refine wpAnyIn_ready (rs := [30]) (by kernel_rfl) (by simp) (AllReadyIn.cons rfl (fun K hK => ?_) AllReadyIn.nil)
              go_simp
              refine hK _ _ ?_
              clear hK K
              refine wpAnyIn_ready (rs := [31]) (by kernel_rfl) (by simp) (AllReadyIn.cons rfl (fun K hK => ?_) AllReadyIn.nil)
              go_simp
              refine hK _ _ ?_
              clear hK K
              refine wpAnyIn_done (by kernel_rfl) ?_ _
              gi_wp2
              go_ret
              refine .inl ⟨rfl, ?_, (hk24.out.trans (KT.ext X5.out)).trans hk6⟩
              rw [HE.out, ← List.append_assoc, ← List.append_assoc]; exact hj6
            · refine hK _ _ ?_
              clear hK K
              refine wpAnyIn_ready (rs := [30]) (by kernel_rfl) (by simp) (AllReadyIn.cons rfl (fun K hK => ?_) AllReadyIn.nil)
              go_simp
              refine hK _ _ ?_
              clear hK K
              refine wpAnyIn_ready (rs := [31]) (by kernel_rfl) (by simp) (AllReadyIn.cons rfl (fun K hK => ?_) AllReadyIn.nil)
              go_simp
              refine hK _ _ ?_
              clear hK K
              refine wpAnyIn_done (by kernel_rfl) ?_ _
              gi_wp2
              go_ret
              refine .inr ⟨rfl, [(v, d, x)] ++ (Lp.items w tl v (d + 1) ++ q), ?_, ?_⟩
              · rw [HE.out]; exact List.prefix_append_right_inj _ |>.2 (List.prefix_append_right_inj _ |>.2 hq)
              · rw [← List.append_assoc, ← List.append_assoc]; exact hx6
          · refine hK _ _ ?_
            clear hK K
            refine wpAnyIn_ready (rs := [10]) (by kernel_rfl) (by simp) (AllReadyIn.cons rfl (fun K hK => ?_) AllReadyIn.nil)
            go_simp
            refine hK _ _ ?_
            clear hK K
            refine wpAnyIn_head (W := w4) 29 11 3 #[true, true, true, true, true, true, true, true, true, true, true, false, false, false, false, false, false, false, false, false, false, false, false, false, false, false, false, false, false, false, false, false] #[true, true, true, true, true, true, true, true, true, true, true, true, true, true, true, true, true, true, true, true, true, true, true, true, true, true, true, true, true, false, false, false] (by kernel_rfl) (Ext.refl _) ?_
            simp only [List.take_succ_cons, List.take_zero, List.drop_succ_cons, List.drop_zero, Nat.reduceSub]
            repeat (go_big_quiet_step (fail))
            refine wpQuiet_nil ?_
            intro w5 x5
            refine wpAnyIn_ready (rs := [29]) (by kernel_rfl) (by simp) (AllReadyIn.cons rfl (fun K hK => ?_) AllReadyIn.nil)
            go_simp
            refine ⟨fun _ _ => trivial, ?_⟩
            refine hK _ _ ?_
            clear hK K
            refine wpAnyIn_ready (rs := [30]) (by kernel_rfl) (by simp) (AllReadyIn.cons rfl (fun K hK => ?_) AllReadyIn.nil)
            go_simp
            refine hK _ _ ?_
            clear hK K
            refine wpAnyIn_ready (rs := [31]) (by kernel_rfl) (by simp) (AllReadyIn.cons rfl (fun K hK => ?_) AllReadyIn.nil)
            go_simp
            refine hK _ _ ?_
            clear hK K
            refine wpAnyIn_done (by kernel_rfl) ?_ _
            gi_wp2
            go_ret
            refine .inr ⟨rfl, [(v, d, x)] ++ q, ?_, ?_⟩
            · rw [HE.out]; exact List.prefix_append_right_inj _ |>.2 (hq.trans (List.prefix_append _ _))
            · rw [← List.append_assoc]; exact hJx _ _ _ hx4 x5

      · refine hK _ _ ?_
        clear hK K
        refine wpAnyIn_ready (rs := [19]) (by kernel_rfl) (by simp) (AllReadyIn.cons rfl (fun K hK => ?_) AllReadyIn.nil)
        go_simp
        refine hK _ _ ?_
        clear hK K
        refine wpAnyIn_ready (rs := [20]) (by kernel_rfl) (by simp) (AllReadyIn.cons rfl (fun K hK => ?_) AllReadyIn.nil)
        go_simp
        refine hK _ _ ?_
        clear hK K
        refine wpAnyIn_done (by kernel_rfl) ?_ _
        gi_wp2
        go_ret
        refine .inr ⟨rfl, [(v, d, x)], ?_, hx2⟩
        simp [Lp.items]

end Go.Proofs.Yteefchbpojcklaa
