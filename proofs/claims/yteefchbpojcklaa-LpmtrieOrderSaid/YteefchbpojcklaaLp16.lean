/- Tries of prefixes: the example of the chapter, walked. No condition. -/
import Derived.Test.YteefchbpojcklaaLp15
namespace Go.Proofs.Yteefchbpojcklaa
open Go.RowKit

/-- what a change of a trie made since W leaves of W -/
theorem Did.since {W0 W W' : World} {g w : Nat} {T T' : Lp.Tr} (h : Did W g w T T' W') (hx : Ext W0 W) (hb : ∀ i ∈ T.blocks, W0.heap.size ≤ i) : Ext W0 W' ∧ ∀ i ∈ T'.blocks, W0.heap.size ≤ i :=
  ⟨hx.mod h.md hb, fun i hi => (h.bl i hi).elim (hb i) (fun h1 => Nat.le_trans hx.le h1)⟩
namespace Lp
theorem con_none_items {w : Nat} {t : Tr} (h : ∀ q, t.con q = none) : items w t 0 0 = [] := items_eq List.Pairwise.nil (fun V N X => by rw [h]; simp)
/-- an insertion, as the list sees it -/
theorem ins_items {w : Nat} {t t' : Tr} {v : Nat} {n : Int} {x : Int} (hE : insE t w v n = 0) (h : ∀ q, t'.con q = bif (decide (insE t w v n = 0) && decide (q = path w v n.toNat)) then some x else t.con q) :
    items w t' 0 0 = ins (items w t 0 0) (trunc w v n.toNat, n.toNat, x) := by
  have hp : pfx w v n = true := by
    cases hp : pfx w v n with
    | true => rfl
    | false => rw [insE_not hp] at hE; cases hE
  obtain ⟨⟨h0, h1⟩, h2⟩ := pfx_iff.1 hp
  have hc : t.con (path w v n.toNat) = none := by
    cases hc : t.con (path w v n.toNat) with
    | none => rfl
    | some y => rw [insE_dup hp hc] at hE; cases hE
  refine ins_law (by omega) h2 hc (fun q => ?_)
  rw [h, hE]
  by_cases hq : q = path w v n.toNat
  · rw [if_pos hq, decide_eq_true hq]; rfl
  · rw [if_neg hq, decide_eq_false hq]; rfl
theorem ins_same {w : Nat} {t t' : Tr} {v : Nat} {n : Int} {x : Int} (hE : insE t w v n ≠ 0) (h : ∀ q, t'.con q = bif (decide (insE t w v n = 0) && decide (q = path w v n.toNat)) then some x else t.con q) : ∀ q, t'.con q = t.con q := fun q => by
  rw [h, decide_eq_false hE]; rfl
theorem insE_get (t : Tr) (w v : Nat) (n : Int) : insE t w v n = bif pfx w v n then (bif (get t w v n).isSome then 7 else 0) else 9 := by
  unfold insE get; cases pfx w v n <;> rfl
theorem insE_list {w : Nat} (t : Tr) (v : Nat) (n : Int) : insE t w v n = bif pfx w v n then (bif (getL (items w t 0 0) w v n).isSome then 7 else 0) else 9 := by
  rw [insE_get, getL_items]
end Lp
set_option maxRecDepth 8000 in
set_option maxHeartbeats 4000000 in
theorem works_any (W : World) : Calls Try.prog 10 #[] W (Rets W (.bool true)) := by
  go_enter Try.func10, Try.ntmps10
  go_wp2_with fail
  refine (new_ok (W := W) 8 (by decide) (by decide)).mono ?_
  rintro e w1 ⟨g, T0, rfl, x1, i0, b0, _, c0⟩
  have n1 := x1.le
  have L0 := Lp.con_none_items (w := 8) c0
  have X1 := Lib.hid x1
  have e1 : Lp.insE T0 8 160 4 = 0 := Lp.insE_ok rfl (c0 _)
  have h1 : Calls Try.prog 12 #[.pointer (some ⟨g, 0, none⟩), .int .u32 160, .int .i64 4, .int .i64 1] w1 (InsP w1 g 8 T0 160 4 1) := insert_any i0 160 (by decide) 4 1
  unfold InsP at h1
  rw [e1] at h1
  clear x1
  go_wp2_with fail
  refine h1.mono ?_
  rintro e w2 ⟨T1, rfl, d1, c1⟩
  have L1 : Lp.items 8 T1 0 0 = [(160, 4, 1)] := by rw [Lp.ins_items e1 (by rw [e1]; exact c1), L0]; rfl
  obtain ⟨x2, b2⟩ := d1.since X1.out b0
  have n2 := x2.le
  have X2 := Lib.hid x2
  have i1 := d1.is
  have e2 : Lp.insE T1 8 175 4 = 7 := by rw [Lp.insE_list, L1]; rfl
  have h2 : Calls Try.prog 12 #[.pointer (some ⟨g, 0, none⟩), .int .u32 175, .int .i64 4, .int .i64 2] w2 (InsP w2 g 8 T1 175 4 2) := insert_any i1 175 (by decide) 4 2
  unfold InsP at h2
  rw [e2] at h2
  clear x2 d1 c1 c0 i0 h1 b0
  go_wp2_with fail
  refine h2.mono ?_
  rintro e w3 ⟨T2, rfl, d2, c2⟩
  have L2 : Lp.items 8 T2 0 0 = [(160, 4, 1)] := by rw [Lp.items_same (w := 8) (t := T1) (t' := T2) (fun q => by simpa using c2 q), L1]
  obtain ⟨x3, b3⟩ := d2.since X2.out b2
  have X3 := Lib.hid x3
  have i2 := d2.is
  have e3 : Lp.insE T2 8 0 0 = 0 := by rw [Lp.insE_list, L2]; rfl
  have h3 : Calls Try.prog 12 #[.pointer (some ⟨g, 0, none⟩), .int .u32 0, .int .i64 0, .int .i64 3] w3 (InsP w3 g 8 T2 0 0 3) := insert_any i2 0 (by decide) 0 3
  unfold InsP at h3
  rw [e3] at h3
  clear x3 d2 c2 i1 h2 b2
  go_wp2_with fail
  refine h3.mono ?_
  rintro e w4 ⟨T3, rfl, d3, c3⟩
  have L3 : Lp.items 8 T3 0 0 = [(0, 0, 3), (160, 4, 1)] := by rw [Lp.ins_items e3 (by rw [e3]; exact c3), L2]; rfl
  obtain ⟨x4, b4⟩ := d3.since X3.out b3
  have i3 := d3.is
  have s4 := Step.mk x4
  have k1 : Lp.look T3 8 165 = some (1, 4) := by rw [← Lp.look_items, L3]; rfl
  have k2 : Lp.look T3 8 5 = some (3, 0) := by rw [← Lp.look_items, L3]; rfl
  have HK1 : Hid (∀ w', Ext w4 w' → Calls Try.prog 19 #[.pointer (some ⟨g, 0, none⟩), .int .u32 165] w' (Rets w' (.tuple #[.int .i64 1, .int .i64 4, .bool true]))) := Lib.hid (fun w' hx => by have h := lookup_any (i3.ext hx) 165 (by decide); rw [k1] at h; exact h)
  have HK2 : Hid (∀ w', Ext w4 w' → Calls Try.prog 19 #[.pointer (some ⟨g, 0, none⟩), .int .u32 5] w' (Rets w' (.tuple #[.int .i64 3, .int .i64 0, .bool true]))) := Lib.hid (fun w' hx => by have h := lookup_any (i3.ext hx) 5 (by decide); rw [k2] at h; exact h)
  have HC : Hid (∀ w', Ext w4 w' → Calls Try.prog 17 #[.pointer (some ⟨g, 0, none⟩), .int .i64 10] w' (fun e W' => ∃ v, e = .returned (.tuple #[v, .bool true]) ∧ Ext w' W' ∧ Rows W' 3 (PairR 8) v [(0, 0, 3), (160, 4, 1)])) := Lib.hid (fun w' hx => by have h := collect_any (i3.ext hx).gives (by rw [L3]; decide) 10 (by decide); rw [L3] at h; exact h)
  have HL : Hid (∀ w', Ext w4 w' → Calls Try.prog 22 #[.pointer (some ⟨g, 0, none⟩)] w' (Rets w' (.int .i64 2))) := Lib.hid (fun w' hx => by have h := len_any (i3.ext hx).gives (by rw [L3]; decide); rw [L3] at h; exact h)
  clear x4 d3 c3 i2 h3 b3 b4 i3 k1 k2 L0 L1 L2 L3 e1 e2 e3
  go_wp2_with fail
  refine (HK1.out _ grows).mono ?_
  rintro e w5 ⟨rfl, x5⟩
  have s5 := Step.mk x5
  clear x5
  go_wp2_with fail
  refine (HK2.out _ grows).mono ?_
  rintro e w6 ⟨rfl, x6⟩
  have s6 := Step.mk x6
  clear x6
  go_wp2_with fail
  refine (HC.out _ grows).mono ?_
  rintro e w7 ⟨v, rfl, x7, r7⟩
  have s7 := Step.mk x7
  clear x7
  obtain ⟨la, lc, rfl, hlc, _⟩ := r7.slice
  obtain ⟨b, o, rfl, _, hat⟩ := r7.at (by decide)
  obtain ⟨cs0, _, rfl, q0⟩ := hat 0 _ rfl
  obtain ⟨cs1, _, rfl, q1⟩ := hat 1 _ rfl
  have u0 : w7.cell? ⟨b, o + 2, none⟩ = some (.int .i64 3) := q0 2 _ rfl
  have u1 : w7.cell? ⟨b, o + 3, none⟩ = some (.int .u32 160) := q1 0 _ rfl
  have u2 : w7.cell? ⟨b, o + 3 + 1, none⟩ = some (.int .u32 240) := q1 1 _ (by show some (Value.int .u32 (Bv.pmask ((4 : Nat) : Int) ((8 : Nat) : Int))) = _; rw [show Bv.pmask ((4 : Nat) : Int) ((8 : Nat) : Int) = 240 by decide])
  rw [show ([(0, 0, 3), (160, 4, 1)] : List Lp.Item).length = 2 from rfl] at hlc ⊢
  clear q0 q1 hat r7
  have u0 := alw u0
  have u1 := alw u1
  have u2 := alw u2
  go_wp2_with fail
  refine (HL.out _ grows).mono ?_
  rintro e w8 ⟨rfl, x8⟩
  have s8 := Step.mk x8
  clear x8
  go_wp2_with fail
  go_ret
  exact ⟨rfl, grows⟩
end Go.Proofs.Yteefchbpojcklaa
