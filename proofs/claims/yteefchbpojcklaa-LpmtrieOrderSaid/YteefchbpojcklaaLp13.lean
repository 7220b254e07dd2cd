/- Tries of prefixes: Insert and Delete of the reference, walked. No condition. -/
import Derived.Test.YteefchbpojcklaaLp12
import Derived.Deep.CutRange
namespace Go.Proofs.Yteefchbpojcklaa
open Go.RowKit

theorem own_ge {w : World} {base : Nat} {e : TypeId} {size : Nat} {v : Value} {n : Nat} {xs : List Value} (h : w.ownsRow base e size v n xs) {k : Nat} (hk : v.ownBlock = some k) : base ≤ k := by
  rcases h.2 with ⟨rfl, _⟩ | ⟨g, cap, cur, rfl, hb, _⟩
  · simp [Value.ownBlock] at hk
  · obtain rfl : g = k := by simpa [Value.ownBlock] using hk
    exact hb
def itemsC (l : List Lp.Item) : List Value := l.flatMap itemC
theorem itemsC_append (l m : List Lp.Item) : itemsC (l ++ m) = itemsC l ++ itemsC m := by simp [itemsC]
theorem itemsC_len : ∀ (l : List Lp.Item), (itemsC l).length = l.length * 3
  | [] => rfl
  | a :: l => by
    have := itemsC_len l
    show (itemC a ++ itemsC l).length = _
    rw [List.length_append, this, List.length_cons, Nat.succ_mul]
    show 3 + _ = _
    omega
theorem itemsC_one (l : List Lp.Item) : ∀ u ∈ itemsC l, u.oneCell' = true := by
  intro u hu
  obtain ⟨a, _, ha⟩ := List.mem_flatMap.1 hu
  simp only [itemC, List.mem_cons, List.not_mem_nil, or_false] at ha
  rcases ha with rfl | rfl | rfl <;> rfl
theorem info_item : (Try.prog.info? 70).map (fun i => (i.zero, i.size, i.bytes)) = some (some (.agg #[.int .u32 0, .int .i64 0, .int .i64 0]), 3, 24) := by kernel_rfl
/-- the reference's list, in a row of its own -/
abbrev OwnI (W : World) (B : Nat) (v : Value) (l : List Lp.Item) : Prop := W.ownsRow B 70 3 v l.length (itemsC l)
theorem OwnI.rows {W : World} {B : Nat} {v : Value} {l : List Lp.Item} (h : OwnI W B v l) : Rows W 3 ItemR v l := rows_of_own (fun _ => rfl) (fun _ => rfl) h
theorem OwnI.take {W : World} {B g n c k : Nat} {l : List Lp.Item} (h : OwnI W B (.slice (some ⟨g, 0, none⟩) n c) l) (hk : k ≤ l.length) : Src W (.slice (some ⟨g, 0, none⟩) k c) 3 k (itemsC (l.take k)) := by
  have hl : (l.take k).length = k := by rw [List.length_take]; omega
  refine ⟨by rw [itemsC_len, hl], itemsC_one _, .inr ⟨_, c, rfl, fun j u hj => h.cells (g := g) rfl _ _ ?_⟩⟩
  rw [← List.take_append_drop k l, itemsC_append, List.getElem?_append_left (List.getElem?_eq_some_iff.1 hj).1]; exact hj
theorem OwnI.drop {W : World} {B g n c k c' : Nat} {l : List Lp.Item} (h : OwnI W B (.slice (some ⟨g, 0, none⟩) n c) l) (hk : k ≤ l.length) : Src W (.slice (some ⟨g, k * 3, none⟩) (l.length - k) c') 3 (l.length - k) (itemsC (l.drop k)) := by
  have hl : (l.take k).length = k := by rw [List.length_take]; omega
  refine ⟨by rw [itemsC_len, List.length_drop], itemsC_one _, .inr ⟨_, c', rfl, fun j u hj => ?_⟩⟩
  have := h.cells (g := g) rfl (k * 3 + j) u (by
    rw [← List.take_append_drop k l, itemsC_append, List.getElem?_append_right (by rw [itemsC_len, hl]; omega), itemsC_len, hl, Nat.add_sub_cancel_left]; exact hj)
  rw [add_mk] at this ⊢
  rw [Nat.zero_add] at this; exact this
theorem OwnI.none {W : World} {g o c k : Nat} {l : List Lp.Item} (h : l.length - k = 0) : Src W (.slice (some ⟨g, o, .none⟩) (l.length - k) c) 3 (l.length - k) (itemsC (l.drop k)) := by
  have e : l.drop k = [] := List.drop_eq_nil_of_le (by omega)
  rw [e, h]
  exact ⟨rfl, by simp [itemsC], .inr ⟨_, c, rfl, fun j u hj => by simp [itemsC] at hj⟩⟩
/-- a row of one's own outlives a change of a block of another type -/
theorem own_mod_at {W W' : World} {B : Nat} {e t : TypeId} {sz : Nat} {v : Value} {n g : Nat} {xs : List Value} {c : Array Value} (h : W.ownsRow B e sz v n xs) (m : Mod (· = g) W W') (hg : W.heap[g]? = some (.cells c t (0, 0))) (hne : e ≠ t) : W'.ownsRow B e sz v n xs := by
  refine ⟨h.1, h.2.imp id ?_⟩
  rintro ⟨q, cap, cur, h1, h2, h3, h4⟩
  refine ⟨q, cap, cur, h1, h2, m.heap h3 (fun e1 => ?_), h4⟩
  rw [e1] at h3
  rw [hg] at h3
  simp only [Option.some.injEq, Obj.cells.injEq] at h3
  exact hne h3.2.1.symm
theorem OwnI.base {W : World} {B B' : Nat} {v : Value} {l : List Lp.Item} (h : OwnI W B v l) (hb : B' ≤ B) : OwnI W B' v l := by
  refine ⟨h.1, h.2.imp id ?_⟩
  rintro ⟨g, cap, cur, h1, h2, h3⟩
  exact ⟨g, cap, cur, h1, Nat.le_trans hb h2, h3⟩
theorem own_lit (w : World) (e : TypeId) (sz : Nat) : (w.alloc (.cells #[] e)).ownsRow w.heap.size e sz (.slice (some ⟨w.heap.size, 0, none⟩) 0 0) 0 [] :=
  ⟨by simp, .inr ⟨_, 0, #[], rfl, Nat.le_refl _, alloc_heap _ _, Nat.le_refl _, Nat.zero_le _, by simp, by simp⟩⟩
theorem set2c {w : World} {g : Nat} {t : TypeId} {a b : Value} (u0 u1 : Value) (h : w.heap[g]? = some (.cells #[a, b] t (0, 0))) : Mod (· = g) w ((w.setCell ⟨g, 0, none⟩ u0).setCell ⟨g, 1, none⟩ u1) ∧ ((w.setCell ⟨g, 0, none⟩ u0).setCell ⟨g, 1, none⟩ u1).heap[g]? = some (.cells #[u0, u1] t (0, 0)) :=
  ⟨mod_set.trans mod_set, setCell_heap (setCell_heap h)⟩
/-- what Delete leaves -/
def delL (L : List Lp.Item) (w v : Nat) (n : Int) : List Lp.Item := if 0 ≤ Lp.fndI L w v n then L.take (Lp.fndI L w v n).toNat ++ L.drop ((Lp.fndI L w v n).toNat + 1) else L
set_option maxRecDepth 8000 in
set_option maxHeartbeats 4000000 in
theorem r9delete_any {W : World} {w B : Nat} (h1 : 1 ≤ w) (h2 : w ≤ 32) {la : Option Addr} {lc : Nat} {L : List Lp.Item} (hr : OwnI W B (.slice la L.length lc) L) (hl : L.length ≤ 1000) (v : Nat) (hv : v < 4294967296) (n : Int) :
    Calls Try.prog 30 #[.agg #[.int .i64 w, .slice la L.length lc], .int .u32 v, .int .i64 n] W (fun e W' => ∃ la' lc', e = .returned (.tuple #[.agg #[.int .i64 w, .slice la' (delL L w v n).length lc'], .bool (decide (0 ≤ Lp.fndI L w v n))]) ∧ Ext W W' ∧ OwnI W' 0 (.slice la' (delL L w v n).length lc') (delL L w v n)) := by
  have HF : Hid (∀ w', Ext W w' → Calls Try.prog 24 #[.agg #[.int .i64 w, .slice la L.length lc], .int .u32 v, .int .i64 n] w' (Rets w' (.int .i64 (Lp.fndI L w v n)))) := Lib.hid (fun w' hx => r9find_any h1 h2 (items_ext hr.rows hx) v hv n)
  have HR := Lib.hid hr
  have bb := alloc_heap W (.cells #[.int .i64 w, .slice la L.length lc] 32)
  have bc := alloc_heap (W.alloc (.cells #[.int .i64 w, .slice la L.length lc] 32)) (.cells #[.int .i64 0, .slice none 0 0] 32)
  rw [World.size_alloc] at bc
  have p0 := alw (cell_of (o := 0) bb)
  have p1 := alw (cell_of (o := 1) bb)
  have c0 := alw (cell_of (o := 0) bc)
  have c1 := alw (cell_of (o := 1) bc)
  have g0 := alwF (o := 0) bc
  have g1 := alwF (o := 1) bc
  have f1 := alwF (o := 1) bb
  have HBB := Lib.hid bb
  have HBC := Lib.hid bc
  clear bb bc
  rcases Lp.fndI_cases (L := L) (w := w) (v := v) (n := n) with ⟨e1, _⟩ | ⟨i, V, N, X, e1, e2, _⟩
  · rw [e1] at HF
    have e0 : delL L w v n = L := by unfold delL; rw [if_neg (by omega)]
    rw [e0, e1]
    clear e1 e0 hr
    go_enter Try.func30, Try.ntmps30
    go_wp2_with fail
    refine (HF.out _ grows).mono ?_
    rintro e w1 ⟨rfl, x1⟩
    have s1 := Step.mk x1
    have X1 := Lib.hid x1
    clear x1
    go_wp2_with fail
    obtain ⟨md, hb⟩ := set2c (.int .i64 w) (.slice la L.length lc) (X1.out.heap HBC.out)
    obtain ⟨w6, h6⟩ : ∃ z, z = ((w1.setCell ⟨W.heap.size + 1, 0, none⟩ (.int .i64 w)).setCell ⟨W.heap.size + 1, 1, none⟩ (.slice la L.length lc)) := ⟨_, rfl⟩
    rw [← h6] at md hb ⊢
    have xw1 : Ext W w1 := grows
    have x6 := xw1.mod md (fun q hq => by rw [hq]; omega)
    have k0 := cell_of (o := 0) hb
    have k1 := cell_of (o := 1) hb
    exact bodyPost_ret (v := .tuple #[.agg #[.int .i64 w, .slice la L.length lc], .bool false]) (by simp [results, Try.results30, go_sem, k0, k1]) rfl ⟨la, lc, rfl, x6, (show OwnI _ B _ _ from own_ext HR.out x6).base (Nat.zero_le _)⟩
  · rw [e1] at HF
    have hil : i < L.length := (List.getElem?_eq_some_iff.1 e2).1
    have e0 : delL L w v n = L.take i ++ L.drop (i + 1) := by unfold delL; rw [e1, if_pos (by omega), Int.toNat_natCast]
    rw [e0, e1, decide_eq_true (show (0 : Int) ≤ (i : Int) by omega)]
    obtain ⟨gl, rfl⟩ : ∃ gl, la = some ⟨gl, 0, none⟩ := by
      rcases HR.out.2 with ⟨h, h0⟩ | ⟨gl, cap, cur, h, _⟩
      · omega
      · simp only [Value.slice.injEq] at h; exact ⟨gl, h.1⟩
    have hlc : L.length ≤ lc := by
      obtain ⟨_, _, he, h1, _⟩ := HR.out.rows.slice
      simp only [Value.slice.injEq, true_and] at he
      rw [he.2]; exact h1
    by_cases hcap : lc = i + 1
    · subst hcap
      have hdr : L.drop (i + 1) = [] := List.drop_eq_nil_of_le (by omega)
      rw [hdr, List.append_nil]
      have hlen : (L.take i).length = i := by rw [List.length_take]; omega
      rw [hlen]
      have HLEN := Lib.hid hlen
      clear hlen e0 e1 e2 hr hdr
      go_enter Try.func30, Try.ntmps30
      go_wp2_with fail
      refine (HF.out _ grows).mono ?_
      rintro e w1 ⟨rfl, x1⟩
      have s1 := Step.mk x1
      have X1 := Lib.hid x1
      have xw1 : Ext W w1 := grows
      have XW1 := Lib.hid xw1
      have hsz := xw1.le
      clear x1 xw1
      have hs1 : Src (w1.alloc (.cells #[] 70)) (.slice (some ⟨gl, 0, none⟩) i (i + 1)) 3 i (itemsC (L.take i)) := OwnI.take (own_ext HR.out (XW1.out.alloc _)) (by omega)
      have ho1 := own_lit w1 70 3
      go_wp2_with (at_builtin; refine wpList_append_src rfl (.tmp 17) (.tmp 21) 30 rfl w1.heap.size 70 _ 3 24 Try.underlying30 info_item rfl (by decide) _ 0 [] rfl ho1 _ i (itemsC (L.take i)) rfl hs1 ?c1 ?c2 ?c3 ?_)
      case c1 => unfold maxLen; omega
      case c2 => omega
      case c3 => rw [World.size_alloc]; omega
      intro v2 w2 ho2 hg2 _
      obtain ⟨oa2, cc2, rfl⟩ := own_slice ho2
      have x12 : Ext w1 w2 := (((Ext.refl w1).alloc _).mod (grown_mod hg2) (fun q hq => own_ge ho1 hq.symm))
      have s2 := Step.mk x12
      have X12 := Lib.hid x12
      have hw12 := x12.le
      have HO2 : Hid (w2.ownsRow w1.heap.size 70 3 (.slice oa2 i cc2) i (itemsC (L.take i))) := Lib.hid (by simpa using ho2)
      clear x12 ho2 hg2 ho1 hs1
      have HR2 := Lib.hid (own_ext HR.out (XW1.out.trans X12.out))
      have hs2 : Src w2 (.slice (some ⟨gl, 0, none⟩) 0 0) 3 0 [] := ⟨rfl, by simp, .inr ⟨_, 0, rfl, fun j u hj => by simp at hj⟩⟩
      go_wp2_with (at_builtin; refine wpList_append_src rfl (.tmp 23) (.tmp 28) 30 rfl w1.heap.size 70 _ 3 24 Try.underlying30 info_item rfl (by decide) _ i (itemsC (L.take i)) rfl HO2.out _ 0 [] rfl hs2 ?c1 ?c2 ?c3 ?_)
      case c1 => unfold maxLen; omega
      case c2 => omega
      case c3 => omega
      intro v3 w3 ho3 hg3 _
      obtain ⟨oa3, cc3, rfl⟩ := own_slice ho3
      have x23 : Ext W w3 := (XW1.out.trans X12.out).mod (grown_mod hg3) (fun q hq => Nat.le_trans hsz (own_ge HO2.out hq.symm))
      have hbb3 : w3.heap[W.heap.size]? = some (.cells #[.int .i64 w, .slice (some ⟨gl, 0, none⟩) L.length (i + 1)] 32 (0, 0)) := by
        have h2' : w2.heap[W.heap.size]? = some (.cells #[.int .i64 w, .slice (some ⟨gl, 0, none⟩) L.length (i + 1)] 32 (0, 0)) := Ext.heap grows HBB.out
        rw [hg3.block _ (lt_of_block h2') (fun e => by have h1' := own_ge HO2.out e.symm; have h3' := lt_of_block HBB.out; have h4' := X1.out.le; simp only [World.size_alloc] at h3' h4'; omega)]
        exact h2'
      have hbc3 : w3.heap[W.heap.size + 1]? = some (.cells #[.int .i64 0, .slice none 0 0] 32 (0, 0)) := by
        have h2' : w2.heap[W.heap.size + 1]? = some (.cells #[.int .i64 0, .slice none 0 0] 32 (0, 0)) := Ext.heap grows HBC.out
        rw [hg3.block _ (lt_of_block h2') (fun e => by have h1' := own_ge HO2.out e.symm; have h4' := X1.out.le; simp only [World.size_alloc] at h4'; omega)]
        exact h2'
      have HO3 : Hid (w3.ownsRow w1.heap.size 70 3 (.slice oa3 i cc3) i (itemsC (L.take i))) := Lib.hid (by simpa using ho3)
      have X23 := Lib.hid x23
      clear ho3 hg3 x23 hs2 s1 s2 p0 p1 c0 c1 g0 g1 f1
      have p0 := cell_of (o := 0) hbb3
      have p1 := cell_of (o := 1) hbb3
      have f1 := free_of (o := 1) hbb3
      have hb4 : (w3.setCell ⟨W.heap.size, 1, none⟩ (.slice oa3 i cc3)).heap[W.heap.size]? = some (.cells #[.int .i64 w, .slice oa3 i cc3] 32 (0, 0)) := setCell_heap hbb3
      have m4 : Mod (· = W.heap.size) w3 (w3.setCell ⟨W.heap.size, 1, none⟩ (.slice oa3 i cc3)) := mod_set
      have hc4 := m4.heap hbc3 (by omega)
      have HB3 := Lib.hid hbb3
      clear hbb3 hbc3
      obtain ⟨w4, h4⟩ : ∃ z, z = w3.setCell ⟨W.heap.size, 1, none⟩ (.slice oa3 i cc3) := ⟨_, rfl⟩
      rw [← h4] at hb4 m4 hc4
      have H4 := Lib.hid h4
      have HO4 := Lib.hid (own_mod_at HO3.out m4 HB3.out (by decide))
      have X4 := Lib.hid (X23.out.mod m4 (fun q hq => by rw [hq]; exact Nat.le_refl _))
      have HB4 := Lib.hid hb4
      have HC4 := Lib.hid hc4
      clear hb4 m4 hc4 h4
      go_upto_region 6 with (fail)
      rw [← H4.out]
      clear p0 p1 f1
      have p0 := cell_of (o := 0) HB4.out
      have p1 := cell_of (o := 1) HB4.out
      have g0 := cell_of (o := 0) HC4.out
      have g1 := cell_of (o := 1) HC4.out
      have f0 := free_of (o := 0) HC4.out
      have f1 := free_of (o := 1) HC4.out
      obtain ⟨md, hb⟩ := set2c (.int .i64 w) (.slice oa3 i cc3) HC4.out
      have HO6 := Lib.hid (own_mod_at HO4.out md HC4.out (by decide))
      have X6 := Lib.hid (X4.out.mod md (fun q hq => by rw [hq]; omega))
      have HB6 := Lib.hid hb
      clear md hb
      go_wp2_with fail
      have hb6 := HB6.out
      have ho6 := HO6.out
      have x6 := X6.out
      obtain ⟨w6, h6⟩ : ∃ z, z = (w4.setCell ⟨W.heap.size + 1, 0, none⟩ (.int .i64 w)).setCell ⟨W.heap.size + 1, 1, none⟩ (.slice oa3 i cc3) := ⟨_, rfl⟩
      rw [← h6] at hb6 ho6 x6 ⊢
      have k0 := cell_of (o := 0) hb6
      have k1 := cell_of (o := 1) hb6
      refine bodyPost_ret (v := .tuple #[.agg #[.int .i64 w, .slice oa3 i cc3], .bool true]) (by simp [results, Try.results30, go_sem, k0, k1]) rfl ⟨oa3, cc3, rfl, x6, ?_⟩
      refine OwnI.base (B := w1.heap.size) ?_ (Nat.zero_le _)
      show w6.ownsRow _ _ _ _ _ _
      rw [HLEN.out]; exact ho6
    · have hlen : (L.take i ++ L.drop (i + 1)).length = i + (L.length - (i + 1)) := by rw [List.length_append, List.length_take, List.length_drop]; omega
      rw [hlen]
      have HLEN := Lib.hid hlen
      clear hlen e0 e1 e2 hr
      go_enter Try.func30, Try.ntmps30
      go_wp2_with fail
      refine (HF.out _ grows).mono ?_
      rintro e w1 ⟨rfl, x1⟩
      have s1 := Step.mk x1
      have X1 := Lib.hid x1
      have xw1 : Ext W w1 := grows
      have XW1 := Lib.hid xw1
      have hsz := xw1.le
      clear x1 xw1
      have hs1 : Src (w1.alloc (.cells #[] 70)) (.slice (some ⟨gl, 0, none⟩) i lc) 3 i (itemsC (L.take i)) := OwnI.take (own_ext HR.out (XW1.out.alloc _)) (by omega)
      have ho1 := own_lit w1 70 3
      go_wp2_with (at_builtin; refine wpList_append_src rfl (.tmp 17) (.tmp 21) 30 rfl w1.heap.size 70 _ 3 24 Try.underlying30 info_item rfl (by decide) _ 0 [] rfl ho1 _ i (itemsC (L.take i)) rfl hs1 ?c1 ?c2 ?c3 ?_)
      case c1 => unfold maxLen; omega
      case c2 => omega
      case c3 => rw [World.size_alloc]; omega
      intro v2 w2 ho2 hg2 _
      obtain ⟨oa2, cc2, rfl⟩ := own_slice ho2
      have x12 : Ext w1 w2 := (((Ext.refl w1).alloc _).mod (grown_mod hg2) (fun q hq => own_ge ho1 hq.symm))
      have s2 := Step.mk x12
      have X12 := Lib.hid x12
      have hw12 := x12.le
      have HO2 : Hid (w2.ownsRow w1.heap.size 70 3 (.slice oa2 i cc2) i (itemsC (L.take i))) := Lib.hid (by simpa using ho2)
      clear x12 ho2 hg2 ho1 hs1
      have HR2 := Lib.hid (own_ext HR.out (XW1.out.trans X12.out))
      have hs2 : Src w2 (.slice (some ⟨gl, (i + 1) * 3, none⟩) (L.length - (i + 1)) (lc - (i + 1))) 3 (L.length - (i + 1)) (itemsC (L.drop (i + 1))) := OwnI.drop HR2.out (by omega)
      have hcz : ¬ lc - (i + 1) = 0 := by omega
      go_wp2_with (at_builtin; refine wpList_append_src rfl (.tmp 23) (.tmp 28) 30 rfl w1.heap.size 70 _ 3 24 Try.underlying30 info_item rfl (by decide) _ i (itemsC (L.take i)) rfl HO2.out _ (L.length - (i + 1)) (itemsC (L.drop (i + 1))) rfl hs2 ?c1 ?c2 ?c3 ?_)
      case c1 => unfold maxLen; omega
      case c2 => omega
      case c3 => omega
      intro v3 w3 ho3 hg3 _
      obtain ⟨oa3, cc3, rfl⟩ := own_slice ho3
      have x23 : Ext W w3 := (XW1.out.trans X12.out).mod (grown_mod hg3) (fun q hq => Nat.le_trans hsz (own_ge HO2.out hq.symm))
      have hbb3 : w3.heap[W.heap.size]? = some (.cells #[.int .i64 w, .slice (some ⟨gl, 0, none⟩) L.length lc] 32 (0, 0)) := by
        have h2' : w2.heap[W.heap.size]? = some (.cells #[.int .i64 w, .slice (some ⟨gl, 0, none⟩) L.length lc] 32 (0, 0)) := Ext.heap grows HBB.out
        rw [hg3.block _ (lt_of_block h2') (fun e => by have h1' := own_ge HO2.out e.symm; have h3' := lt_of_block HBB.out; have h4' := X1.out.le; simp only [World.size_alloc] at h3' h4'; omega)]
        exact h2'
      have hbc3 : w3.heap[W.heap.size + 1]? = some (.cells #[.int .i64 0, .slice none 0 0] 32 (0, 0)) := by
        have h2' : w2.heap[W.heap.size + 1]? = some (.cells #[.int .i64 0, .slice none 0 0] 32 (0, 0)) := Ext.heap grows HBC.out
        rw [hg3.block _ (lt_of_block h2') (fun e => by have h1' := own_ge HO2.out e.symm; have h4' := X1.out.le; simp only [World.size_alloc] at h4'; omega)]
        exact h2'
      have HO3 : Hid (w3.ownsRow w1.heap.size 70 3 (.slice oa3 (i + (L.length - (i + 1))) cc3) (i + (L.length - (i + 1))) (itemsC (L.take i ++ L.drop (i + 1)))) := Lib.hid (by rw [itemsC_append]; exact ho3)
      have X23 := Lib.hid x23
      clear ho3 hg3 x23 hs2 s1 s2 p0 p1 c0 c1 g0 g1 f1
      have p0 := cell_of (o := 0) hbb3
      have p1 := cell_of (o := 1) hbb3
      have f1 := free_of (o := 1) hbb3
      have hb4 : (w3.setCell ⟨W.heap.size, 1, none⟩ (.slice oa3 (i + (L.length - (i + 1))) cc3)).heap[W.heap.size]? = some (.cells #[.int .i64 w, .slice oa3 (i + (L.length - (i + 1))) cc3] 32 (0, 0)) := setCell_heap hbb3
      have m4 : Mod (· = W.heap.size) w3 (w3.setCell ⟨W.heap.size, 1, none⟩ (.slice oa3 (i + (L.length - (i + 1))) cc3)) := mod_set
      have hc4 := m4.heap hbc3 (by omega)
      have HB3 := Lib.hid hbb3
      clear hbb3 hbc3
      obtain ⟨w4, h4⟩ : ∃ z, z = w3.setCell ⟨W.heap.size, 1, none⟩ (.slice oa3 (i + (L.length - (i + 1))) cc3) := ⟨_, rfl⟩
      rw [← h4] at hb4 m4 hc4
      have H4 := Lib.hid h4
      have HO4 := Lib.hid (own_mod_at HO3.out m4 HB3.out (by decide))
      have X4 := Lib.hid (X23.out.mod m4 (fun q hq => by rw [hq]; exact Nat.le_refl _))
      have HB4 := Lib.hid hb4
      have HC4 := Lib.hid hc4
      clear hb4 m4 hc4 h4
      go_upto_region 6 with (fail)
      rw [← H4.out]
      clear p0 p1 f1
      have p0 := cell_of (o := 0) HB4.out
      have p1 := cell_of (o := 1) HB4.out
      have g0 := cell_of (o := 0) HC4.out
      have g1 := cell_of (o := 1) HC4.out
      have f0 := free_of (o := 0) HC4.out
      have f1 := free_of (o := 1) HC4.out
      obtain ⟨md, hb⟩ := set2c (.int .i64 w) (.slice oa3 (i + (L.length - (i + 1))) cc3) HC4.out
      have HO6 := Lib.hid (own_mod_at HO4.out md HC4.out (by decide))
      have X6 := Lib.hid (X4.out.mod md (fun q hq => by rw [hq]; omega))
      have HB6 := Lib.hid hb
      clear md hb
      go_wp2_with fail
      have hb6 := HB6.out
      have ho6 := HO6.out
      have x6 := X6.out
      obtain ⟨w6, h6⟩ : ∃ z, z = (w4.setCell ⟨W.heap.size + 1, 0, none⟩ (.int .i64 w)).setCell ⟨W.heap.size + 1, 1, none⟩ (.slice oa3 (i + (L.length - (i + 1))) cc3) := ⟨_, rfl⟩
      rw [← h6] at hb6 ho6 x6 ⊢
      have k0 := cell_of (o := 0) hb6
      have k1 := cell_of (o := 1) hb6
      refine bodyPost_ret (v := .tuple #[.agg #[.int .i64 w, .slice oa3 (i + (L.length - (i + 1))) cc3], .bool true]) (by simp [results, Try.results30, go_sem, k0, k1]) rfl ⟨oa3, cc3, rfl, x6, ?_⟩
      refine OwnI.base (B := w1.heap.size) ?_ (Nat.zero_le _)
      show w6.ownsRow _ _ _ _ _ _
      rw [HLEN.out]; exact ho6
end Go.Proofs.Yteefchbpojcklaa
