/- Tries of prefixes: Delete and Insert of the package, walked. No condition. -/
import Derived.Test.YteefchbpojcklaaLp5
import Derived.Test.YteefchbpojcklaaIoP
namespace Go.Proofs.Yteefchbpojcklaa
open Go.RowKit

namespace Lp
open Tr
theorem nodup_sub : ∀ (p : List Bool) {t : Tr}, t.blocks.Nodup → (sub t p).blocks.Nodup
  | [], t, h => by simpa using h
  | k :: p, .nil, h => by rw [sub_nil]; exact h
  | k :: p, .node b l r st x, h => by
    simp only [blocks, List.nodup_cons, List.nodup_append] at h
    rw [sub_cons, kid_node]
    cases k
    · exact nodup_sub p h.2.1
    · exact nodup_sub p h.2.2.1
theorem con_kids {b : Nat} {l r l' r' : Tr} {st : Bool} {x : Int} (hl : ∀ q, con l' q = con l q) (hr : ∀ q, con r' q = con r q) : ∀ q, con (.node b l' r' st x) q = con (.node b l r st x) q
  | [] => rfl
  | k :: q => by rw [con_cons, con_cons, kid_node, kid_node]; cases k; exact hl q; exact hr q
theorem con_new (f : Nat) (q : List Bool) : con (.node f .nil .nil false 0) q = con .nil q := by
  rw [con_nil]
  cases q with
  | nil => rfl
  | cons k q => rw [con_cons, kid_node, show (bif k then Tr.nil else Tr.nil) = Tr.nil by cases k <;> rfl, con_nil]
end Lp
theorem alwF {W : World} {p o : Nat} {c : Array Value} {t : TypeId} (h : W.heap[p]? = some (.cells c t (0, 0))) (w : World) [g : Grows W w] : w.frozen? ⟨p, o, none⟩ = false := free_of (g.out.heap h)
theorem mod_set {w : World} {g j : Nat} {x : Value} : Mod (· = g) w (w.setCell ⟨g, j, none⟩ x) := Mod.setCell (S := (· = g)) (Mod.refl _ _) (p := ⟨g, j, none⟩) (.inl rfl) _
/-- what a call that changes a trie leaves -/
structure Did (W : World) (g w : Nat) (T T' : Lp.Tr) (W' : World) : Prop where
  md : Mod (· ∈ T.blocks) W W'
  is : IsT W' g w T'
  bl : ∀ i ∈ T'.blocks, i ∈ T.blocks ∨ W.heap.size ≤ i
theorem Did.of_ext {W W' : World} {g w : Nat} {T : Lp.Tr} (h : IsT W g w T) (hx : Ext W W') : Did W g w T T W' := ⟨Mod.of_ext hx, h.ext hx, fun _ hi => .inl hi⟩
theorem Did.trans {W W1 W2 : World} {g w : Nat} {T T1 T2 : Lp.Tr} (h : Did W g w T T1 W1) (k : Did W1 g w T1 T2 W2) : Did W g w T T2 W2 :=
  ⟨⟨k.md.os.trans h.md.os, k.md.tape.trans h.md.tape, k.md.output.trans h.md.output, Nat.le_trans h.md.size k.md.size, fun i hi hs => (k.md.block i (Nat.lt_of_lt_of_le hi h.md.size) (fun h1 => by
      rcases h.bl i h1 with h2 | h2
      · exact hs h2
      · omega)).trans (h.md.block i hi hs)⟩, k.is, fun i hi => by
    rcases k.bl i hi with h1 | h1
    · exact h.bl i h1
    · exact .inr (Nat.le_trans h.md.size h1)⟩
theorem Did.pre {W0 W W' : World} {g w : Nat} {T T' : Lp.Tr} (h : Did W g w T T' W') (hx : Ext W0 W) : Did W0 g w T T' W' :=
  ⟨(Mod.of_ext hx).trans h.md, h.is, fun i hi => (h.bl i hi).imp id (fun h1 => Nat.le_trans hx.le h1)⟩
/-- the trie's own block is no node -/
theorem IsT.apart {W : World} {g w : Nat} {T : Lp.Tr} (h : IsT W g w T) : ∀ i ∈ T.blocks, i ≠ g := by
  have : ∀ (t : Lp.Tr), t.In W → ∀ i ∈ t.blocks, i ≠ g := by
    intro t
    induction t with
    | nil => intro _ i hi; simp [Lp.Tr.blocks] at hi
    | node b l r st x ihl ihr =>
      intro ⟨h0, hl, hr⟩ i hi
      simp only [Lp.Tr.blocks, List.mem_cons, List.mem_append] at hi
      rcases hi with rfl | hi | hi
      · intro e
        subst e
        rw [h.hd] at h0
        simp at h0
      · exact ihl hl i hi
      · exact ihr hr i hi
  exact this T h.tr
/-- one node is changed, and perhaps a new one hung to it -/
theorem IsT.put {W W' : World} {g w : Nat} {T S : Lp.Tr} {p : List Bool} {b : Nat} {l r : Lp.Tr} {st : Bool} {x : Int} (h : IsT W g w T) (hs : Lp.Tr.sub T p = .node b l r st x) (hm : Mod (· = b) W W')
    (hS : S.In W') (hp : S.ptr = some ⟨b, 0, none⟩) (hn : S.blocks.Nodup) (hf : ∀ i ∈ S.blocks, i ∈ (Lp.Tr.sub T p).blocks ∨ W.heap.size ≤ i) : Did W g w T (Lp.Tr.put T p S) W' := by
  have hb : b ∈ T.blocks := Lp.Tr.blocks_sub p (by rw [hs]; simp [Lp.Tr.blocks])
  have hpp : S.ptr = (Lp.Tr.sub T p).ptr := by rw [hp, hs]; rfl
  have hptr := Lp.Tr.ptr_put p hpp
  refine ⟨⟨hm.os, hm.tape, hm.output, hm.size, fun i hi hni => hm.block i hi (fun e => hni (e ▸ hb))⟩, ⟨?_, ?_, ?_, ?_, h.lo, h.hi⟩, fun i hi => ?_⟩
  · rw [hptr]; exact hm.heap h.hd (fun e => h.apart b hb e.symm)
  · exact Lp.Tr.In.put hS p h.tr h.nd hpp (fun i hi hni => hm.block i (h.tr.lt hi) (fun e => hni (by rw [hs, e]; simp [Lp.Tr.blocks])))
  · exact Lp.Tr.nodup_put hn p h.nd (fun i hi => (hf i hi).imp id (fun h1 h2 => by have := h.tr.lt h2; omega))
  · intro e
    obtain ⟨b', l', r', st', x', rfl⟩ := h.node
    rw [e] at hptr; cases hptr
  · rcases Lp.Tr.mem_put p hi with h1 | h1
    · exact .inl h1
    · exact (hf i h1).imp (Lp.Tr.blocks_sub p) id
/-- one node's own data are changed -/
theorem IsT.set {W W' : World} {g w : Nat} {T : Lp.Tr} {p : List Bool} {b : Nat} {l r : Lp.Tr} {st : Bool} {x : Int} (h : IsT W g w T) (hs : Lp.Tr.sub T p = .node b l r st x) (st' : Bool) (x' : Int) (hm : Mod (· = b) W W')
    (hb : W'.heap[b]? = some (.cells #[.pointer l.ptr, .pointer r.ptr, .bool st', .int .i64 x'] 66 (0, 0))) : Did W g w T (Lp.Tr.put T p (.node b l r st' x')) W' := by
  have hin := h.tr.sub p
  have hnd := Lp.nodup_sub p h.nd
  rw [hs] at hin hnd
  have hnd' := hnd
  simp only [Lp.Tr.blocks, List.nodup_cons, List.mem_append, List.nodup_append] at hnd'
  refine h.put hs hm ⟨hb, hin.2.1.congr (fun i hi => hm.block i (hin.2.1.lt hi) (fun e => hnd'.1 (.inl (e ▸ hi)))), hin.2.2.congr (fun i hi => hm.block i (hin.2.2.lt hi) (fun e => hnd'.1 (.inr (e ▸ hi))))⟩ rfl hnd (fun i hi => .inl (by rw [hs]; exact hi))
/-- a new node is hung to a node -/
theorem IsT.hang {W W' : World} {g w : Nat} {T : Lp.Tr} {p : List Bool} {b f : Nat} {l r : Lp.Tr} {st : Bool} {x : Int} (h : IsT W g w T) (hs : Lp.Tr.sub T p = .node b l r st x) (k : Bool) (hk : (bif k then r else l) = .nil) (hf : W.heap.size ≤ f) (hm : Mod (· = b) W W')
    (hfr : W'.heap[f]? = some (.cells #[.pointer none, .pointer none, .bool false, .int .i64 0] 66 (0, 0)))
    (hb : W'.heap[b]? = some (.cells #[.pointer (bif k then l.ptr else some ⟨f, 0, none⟩), .pointer (bif k then some ⟨f, 0, none⟩ else r.ptr), .bool st, .int .i64 x] 66 (0, 0))) :
    ∃ T', Did W g w T T' W' ∧ (∀ q, T'.con q = T.con q) ∧ Lp.Tr.sub T' p = (bif k then .node b l (.node f .nil .nil false 0) st x else .node b (.node f .nil .nil false 0) r st x) := by
  have hin := h.tr.sub p
  have hnd := Lp.nodup_sub p h.nd
  rw [hs] at hin hnd
  have hnd' := hnd
  simp only [Lp.Tr.blocks, List.nodup_cons, List.mem_append, List.nodup_append] at hnd'
  have hl : l.In W' := hin.2.1.congr (fun i hi => hm.block i (hin.2.1.lt hi) (fun e => hnd'.1 (.inl (e ▸ hi))))
  have hr : r.In W' := hin.2.2.congr (fun i hi => hm.block i (hin.2.2.lt hi) (fun e => hnd'.1 (.inr (e ▸ hi))))
  have hbW : b < W.heap.size := lt_of_block hin.1
  have hne : Lp.Tr.sub T p ≠ .nil := by rw [hs]; simp
  cases k with
  | false =>
    simp only [cond_false] at hk hb ⊢
    subst hk
    have hd := h.put (S := .node b (.node f .nil .nil false 0) r st x) hs hm ⟨hb, ⟨hfr, trivial, trivial⟩, hr⟩ rfl (by
      simp only [Lp.Tr.blocks, List.append_nil, List.cons_append, List.nil_append, List.nodup_cons, List.mem_cons]
      refine ⟨fun h1 => ?_, fun h1 => ?_, hnd'.2.2.1⟩
      · rcases h1 with h1 | h1
        · omega
        · exact hnd'.1 (.inr h1)
      · have := hin.2.2.lt h1; omega) (fun i hi => by
      simp only [Lp.Tr.blocks, List.append_nil, List.cons_append, List.nil_append, List.mem_cons] at hi
      rw [hs]
      rcases hi with rfl | rfl | hi
      · exact .inl (by simp [Lp.Tr.blocks])
      · exact .inr hf
      · exact .inl (by simp [Lp.Tr.blocks, hi]))
    refine ⟨_, hd, Lp.Tr.con_put_same hne (by rw [hs]; exact Lp.con_kids (Lp.con_new f) (fun _ => rfl)), ?_⟩
    have := Lp.Tr.con_put_in (s := .node b (.node f .nil .nil false 0) r st x) p hne []
    rw [List.append_nil] at this; exact this
  | true =>
    simp only [cond_true] at hk hb ⊢
    subst hk
    have hd := h.put (S := .node b l (.node f .nil .nil false 0) st x) hs hm ⟨hb, hl, ⟨hfr, trivial, trivial⟩⟩ rfl (by
      simp only [Lp.Tr.blocks, List.append_nil, List.nodup_cons, List.mem_append, List.mem_singleton, List.nodup_append, List.not_mem_nil, not_false_eq_true, List.nodup_nil, and_true, true_and]
      refine ⟨fun h1 => ?_, hnd'.2.1, fun i hi j hj e => ?_⟩
      · rcases h1 with h1 | h1
        · exact hnd'.1 (.inl h1)
        · omega
      · have := hin.2.1.lt hi
        subst hj e; omega) (fun i hi => by
      simp only [Lp.Tr.blocks, List.append_nil, List.mem_cons, List.mem_append, List.not_mem_nil, or_false] at hi
      rw [hs]
      rcases hi with rfl | hi | rfl
      · exact .inl (by simp [Lp.Tr.blocks])
      · exact .inl (by simp [Lp.Tr.blocks, hi])
      · exact .inr hf)
    refine ⟨_, hd, Lp.Tr.con_put_same hne (by rw [hs]; exact Lp.con_kids (fun _ => rfl) (Lp.con_new f)), ?_⟩
    have := Lp.Tr.con_put_in (s := .node b l (.node f .nil .nil false 0) st x) p hne []
    rw [List.append_nil] at this; exact this
set_option maxRecDepth 8000 in
theorem delete_any {W : World} {g w : Nat} {T : Lp.Tr} (h : IsT W g w T) (v : Nat) (hv : v < 4294967296) (n : Int) :
    Calls Try.prog 14 #[.pointer (some ⟨g, 0, none⟩), .int .u32 v, .int .i64 n] W (fun e W' => ∃ T', e = .returned (.bool (Lp.get T w v n).isSome) ∧ Did W g w T T' W' ∧ ∀ q, T'.con q = bif (Lp.pfx w v n && decide (q = Lp.path w v n.toNat)) then none else T.con q) := by
  have HF : Hid (∀ w', Ext W w' → Calls Try.prog 28 #[.pointer (some ⟨g, 0, none⟩), .int .u32 v, .int .i64 n] w' (Rets w' (.pointer (Lp.at' T w v n).ptr))) := Lib.hid (fun w' hx => find_any (h.ext hx) v hv n)
  have hin : (Lp.at' T w v n).In W := by
    unfold Lp.at'
    cases Lp.pfx w v n
    · trivial
    · exact h.tr.sub _
  rw [Lp.get_at]
  have H0 : Hid (Lp.Tr.val (Lp.at' T w v n) = none → ∀ q, T.con q = bif (Lp.pfx w v n && decide (q = Lp.path w v n.toNat)) then none else T.con q) := Lib.hid (fun h0 q => by
    rw [← Lp.get_at] at h0
    unfold Lp.get at h0
    cases hp : Lp.pfx w v n with
    | false => rfl
    | true =>
      rw [hp] at h0
      by_cases hq : q = Lp.path w v n.toNat
      · subst hq; rw [decide_eq_true rfl]; exact h0
      · rw [decide_eq_false hq]; rfl)
  have HT := Lib.hid h
  cases hs : Lp.at' T w v n with
  | nil =>
    rw [hs] at HF H0
    simp only [Lp.Tr.ptr_nil] at HF
    have e1 : Lp.Tr.val .nil = none := rfl
    rw [e1]
    clear hs hin e1 h
    go_enter Try.func14, Try.ntmps14
    go_wp2_with fail
    refine (HF.out _ grows).mono ?_
    rintro e w1 ⟨rfl, x1⟩
    have s1 := Step.mk x1
    clear x1
    go_wp2_with fail
    go_ret
    exact ⟨T, rfl, Did.of_ext HT.out grows, H0.out rfl⟩
  | node b l r st x =>
    have hpt : Lp.pfx w v n = true := by
      cases hp : Lp.pfx w v n with
      | true => rfl
      | false => unfold Lp.at' at hs; rw [hp] at hs; cases hs
    have hsub : Lp.Tr.sub T (Lp.path w v n.toNat) = .node b l r st x := by unfold Lp.at' at hs; rw [hpt] at hs; exact hs
    have HS := Lib.hid hsub
    have HPT := Lib.hid hpt
    rw [hs] at HF hin H0
    simp only [Lp.Tr.ptr_node] at HF
    have HB := Lib.hid hin.1
    have k2 := alw (cell_of (o := 2) hin.1)
    have k3 := alw (cell_of (o := 3) hin.1)
    have f2 := alwF (o := 2) hin.1
    have f3 := alwF (o := 3) hin.1
    clear hs hin h hsub hpt
    cases st with
    | false =>
      have e1 : Lp.Tr.val (.node b l r false x) = none := rfl
      rw [e1]
      clear e1
      go_enter Try.func14, Try.ntmps14
      go_wp2_with fail
      refine (HF.out _ grows).mono ?_
      rintro e w1 ⟨rfl, x1⟩
      have s1 := Step.mk x1
      clear x1
      go_wp2_with fail
      go_ret
      exact ⟨T, rfl, Did.of_ext HT.out grows, H0.out rfl⟩
    | true =>
      have e1 : Lp.Tr.val (.node b l r true x) = some x := rfl
      rw [e1]
      clear e1
      go_enter Try.func14, Try.ntmps14
      go_wp2_with fail
      refine (HF.out _ grows).mono ?_
      rintro e w1 ⟨rfl, x1⟩
      have X1 := Lib.hid x1
      have s1 := Step.mk x1
      clear x1
      go_wp2_with fail
      go_ret
      refine ⟨_, rfl, Did.pre (IsT.set (HT.out.ext X1.out) HS.out false 0 (mod_set.trans mod_set) (setCell_heap (setCell_heap (X1.out.heap HB.out)))) X1.out, fun q => ?_⟩
      rw [Lp.Tr.con_put_set HS.out, HPT.out]
      by_cases hq : q = Lp.path w v n.toNat
      · rw [if_pos hq, decide_eq_true hq]; rfl
      · rw [if_neg hq, decide_eq_false hq]; rfl
end Go.Proofs.Yteefchbpojcklaa
