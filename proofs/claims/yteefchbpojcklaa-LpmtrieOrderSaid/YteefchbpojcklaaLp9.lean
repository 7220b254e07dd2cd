/- Tries of prefixes: All and what it hands back: an iterator over the items of the tree; Len. No condition. -/
import Derived.Test.YteefchbpojcklaaLp8
import Derived.RangeFuncNested
import Derived.Shelf.Abstract
namespace Go.Proofs.Yteefchbpojcklaa
open Go.RowKit Go.Shelf
attribute [local go_sem] Oper.semAt_some

theorem ext_grown {A B : World} (h : Ext A B) : A.grownBy B none := ⟨h.os, h.tape, h.output, h.size, fun k hk _ => h.block k hk⟩
theorem abides_ext {J : List Lp.Item → World → Prop} {B : Nat} (h : AbidesFrom B J) : ∀ s A C, J s A → Ext A C → J s C := fun s A C hj hx => h s A C none hj (ext_grown hx) (fun r e => by cases e)
theorem all_any {W : World} (p : Option Addr) :
    Calls Try.prog 33 #[.pointer p] W (fun e W' => e = .returned (.func (.func 36) #[] #[.pointer (some ⟨W.heap.size, 0, none⟩)]) ∧ W' = W.alloc (.cells #[.pointer p] 26)) := by
  go_enter Try.func33, Try.ntmps33
  go_wp2_with fail
  go_ret
  exact ⟨rfl, rfl⟩
set_option maxRecDepth 100000 in
set_option maxHeartbeats 4000000 in
theorem all_stops {n : Nat} {W0 : World} {g w tb : Nat} {T : Lp.Tr} (h : IsT W0 g w T) (ht : W0.heap[tb]? = some (.cells #[.pointer (some ⟨g, 0, none⟩)] 26 (0, 0))) :
    SeqStopsK Fence.wide n Try.prog 36 #[.pointer (some ⟨tb, 0, none⟩)] (encs w) KT (fun ys => ys = Lp.items w T 0 0) (fun pre => pre <+: Lp.items w T 0 0) (Lp.items w T 0 0).length W0 := fun l J Jx W hW hJ hJx hY h0 => by
  have HT := Lib.hid (h.ext hW)
  have HB := Lib.hid (Ext.heap hW ht)
  have hJ' := abides_ext hJ
  have hJx' := abides_ext hJx
  have HY : Hid (∀ m pre x W1, J pre W1 → pre.length < (Lp.items w T 0 0).length → YieldAt Fence.wide m Try.prog l (encs w x) W1 fun e W' => (e = .returned (.bool true) ∧ J (pre ++ [x]) W' ∧ KT W1 W') ∨ (e = .returned (.bool false) ∧ Jx (pre ++ [x]) W')) := Lib.hid (fun m pre x W1 h1 h2 => YieldAt.anyDepth m (hY pre x W1 h1 h2))
  have H0 := Lib.hid h0
  have HM : Hid (∀ w', Ext W w' → Calls Try.prog 25 #[.pointer (some ⟨g, 0, none⟩)] w' (Rets w' (.bool true))) := Lib.hid (fun w' hx => made_any (HT.out.ext hx))
  have t0 := alw (cell_of (o := 0) HB.out)
  have h1 := alw (cell_of (o := 1) HT.out.hd)
  have hh := h.hi
  clear h ht hW hJ hJx hY h0
  refine callsIn_of_wp Try.func36 rfl trivial ?_ rfl
  simp only [Try.ntmps36, List.size_toArray, List.length_cons, List.length_nil, Nat.reduceAdd, Nat.reduceSub, Array.replicate_succ, Array.replicate_zero, List.push_toArray, List.append_toArray, List.nil_append, List.cons_append]
  gi_wp2
  refine ⟨trivial, fun h => (by cases h), (callsIn_wide.2 (HM.out _ grows)).mono ?_⟩
  rintro e w2 ⟨rfl, x2⟩
  have X2 := Lib.hid x2
  have s2 := Step.mk x2
  clear x2
  have hn := alloc_heap w2 (.cells #[.nilFunc] 83)
  have hc := cell_of (o := 0) hn
  have hf := free_of (o := 0) hn
  have HN := Lib.hid hn
  have hst := run_store Try.prog (w2.alloc (.cells #[.nilFunc] 83)) ⟨w2.heap.size, 0, none⟩ (.func (.func 37) #[] #[.pointer (some ⟨W.heap.size, 0, none⟩), .pointer (some ⟨tb, 0, none⟩), .pointer (some ⟨w2.heap.size, 0, none⟩)]) .plain rfl
  rw [hc] at hst
  simp only [hf] at hst
  clear hn hc hf
  gi_wp2
  have hw := alloc_heap w2 (.cells #[.func (.func 37) #[] #[.pointer (some ⟨W.heap.size, 0, none⟩), .pointer (some ⟨tb, 0, none⟩), .pointer (some ⟨w2.heap.size, 0, none⟩)]] 83)
  have x23 := (Ext.refl w2).alloc (.cells #[.func (.func 37) #[] #[.pointer (some ⟨W.heap.size, 0, none⟩), .pointer (some ⟨tb, 0, none⟩), .pointer (some ⟨w2.heap.size, 0, none⟩)]] 83)
  have xW2 : Ext W w2 := grows
  have hy := X2.out.heap (alloc_heap W (.cells #[.func (.yield l) #[] #[]] 82))
  obtain ⟨w3, h3⟩ : ∃ z, z = w2.alloc (.cells #[.func (.func 37) #[] #[.pointer (some ⟨W.heap.size, 0, none⟩), .pointer (some ⟨tb, 0, none⟩), .pointer (some ⟨w2.heap.size, 0, none⟩)]] 83) := ⟨_, rfl⟩
  rw [← h3] at hw x23 ⊢
  have xW3 := xW2.trans x23
  have HWK : Hid (Walks w3 l g w W.heap.size tb w2.heap.size T.ptr) := Lib.hid ⟨x23.heap hy, xW3.heap HB.out, hw, xW3.heap HT.out.hd⟩
  have HT3 := Lib.hid (HT.out.tr.ext xW3)
  have HJ3 := Lib.hid (hJ' _ _ _ H0.out xW3)
  clear hst s2 X2 hy h3 x23 xW2 t0 h1
  have w0 := alw (cell_of (o := 0) hw)
  have t0 := alw (cell_of (o := 0) HWK.out.tt)
  have h1 := alw (cell_of (o := 1) HWK.out.hh)
  clear hw xW3
  refine wpIn_region_head (W := w3) 5 1 #[true, true, true, true, true, false] (by kernel_rfl) (by kernel_rfl) rfl (Ext.refl _) ?_
  simp only [List.take_succ_cons, List.take_zero]
  repeat (go_big_quiet_step (fail))
  refine wpQuiet_nil ?_
  intro w4 x4
  refine wpAnyIn_ready (rs := [5]) (by kernel_rfl) (by simp) (AllReadyIn.cons rfl (fun K hK => ?_) AllReadyIn.nil)
  go_simp
  refine ⟨trivial, fun h => (by cases h), ?_⟩
  refine (walk_in l g w W.heap.size tb w2.heap.size (Lp.items w T 0 0).length T.ptr hh J Jx hJ' hJx' HY.out T (n - 1) 0 0 [] w4 (Nat.zero_le _) (Nat.dvd_zero _) (by simp) (HWK.out.kt (KT.ext x4)) (HT3.out.ext x4) (hJ' _ _ _ HJ3.out x4) (by simp)).mono ?_
  rintro e w5 (⟨rfl, hj5, hk5⟩ | ⟨rfl, q, hq, hx5⟩)
  · refine hK _ _ ?_
    clear hK K
    refine wpAnyIn_done (by kernel_rfl) ?_ _
    gi_wp2
    go_end0
    exact ⟨⟨_, rfl⟩, .inl ⟨_, rfl, hj5⟩⟩
  · refine hK _ _ ?_
    clear hK K
    refine wpAnyIn_done (by kernel_rfl) ?_ _
    gi_wp2
    go_end0
    exact ⟨⟨_, rfl⟩, .inr ⟨q, hq, hx5⟩⟩
/-- the iterator of the trie at p yields L -/
def Gives (W : World) (p : Option Addr) (w : Nat) (L : List Lp.Item) : Prop :=
  ∀ (n tb : Nat) (W' : World), Ext W W' → W'.heap[tb]? = some (.cells #[.pointer p] 26 (0, 0)) → SeqStopsK Fence.wide n Try.prog 36 #[.pointer (some ⟨tb, 0, none⟩)] (encs w) KT (fun ys => ys = L) (fun pre => pre <+: L) L.length W'
theorem IsT.gives {W : World} {g w : Nat} {T : Lp.Tr} (h : IsT W g w T) : Gives W (some ⟨g, 0, none⟩) w (Lp.items w T 0 0) := fun _ _ _ hx ht => all_stops (h.ext hx) ht
set_option maxRecDepth 100000 in
/-- a trie that was not made by New -/
theorem gives_none {W : World} {p : Option Addr} (w : Nat) (hm : ∀ w', Ext W w' → Calls Try.prog 25 #[.pointer p] w' (Rets w' (.bool false))) : Gives W p w [] := fun n tb W1 hx1 ht l J Jx W2 hW hJ hJx _ h0 => by
  have hx2 : Ext W1 W2 := hW
  have HM : Hid (∀ w', Ext W2 w' → Calls Try.prog 25 #[.pointer p] w' (Rets w' (.bool false))) := Lib.hid (fun w' hx => hm w' ((hx1.trans hx2).trans hx))
  have t0 := alw (cell_of (o := 0) (hx2.heap ht))
  have hJ' := abides_ext hJ
  have H0 := Lib.hid h0
  clear hm hx1 ht hW hJ hJx h0
  refine callsIn_of_wp Try.func36 rfl trivial ?_ rfl
  simp only [Try.ntmps36, List.size_toArray, List.length_cons, List.length_nil, Nat.reduceAdd, Nat.reduceSub, Array.replicate_succ, Array.replicate_zero, List.push_toArray, List.append_toArray, List.nil_append, List.cons_append]
  gi_wp2
  refine ⟨trivial, fun h => (by cases h), (callsIn_wide.2 (HM.out _ grows)).mono ?_⟩
  rintro e w2 ⟨rfl, x2⟩
  have s2 := Step.mk x2
  clear x2
  gi_wp2
  refine bodyPost_ret (results_none rfl _ _ _) rfl ?_
  exact ⟨⟨_, rfl⟩, .inl ⟨_, rfl, hJ' _ _ _ H0.out grows⟩⟩
theorem kt_b {w : World} (W : World) (l : Nat) (o o' : Obj) (_ : w.heap.size ≤ l) (h : W.heap[l]? = some o) (ho : o.isCells = false) (_ : o.isWalk = false) : KT W (W.putObj l o') := by
  refine ⟨by simp, fun k c t _ hk => ?_⟩
  rw [World.putObj_heap_other]
  · exact hk
  · rintro rfl
    rw [hk] at h
    cases h
    cases ho
theorem kt_set {W : World} {B o : Nat} {c : Array Value} {t : TypeId} (h : W.heap[B]? = some (.cells c t (0, 0))) (ht : KTs t = false) (v : Value) : KT W (W.setCell ⟨B, o, none⟩ v) := by
  refine ⟨by simp, fun k c' t' ht' hk => ?_⟩
  rw [Below.heap_setCell _ _ _ _ (by
    rintro rfl
    rw [h] at hk
    simp only [Option.some.injEq, Obj.cells.injEq] at hk
    rw [hk.2.1, ht'] at ht
    cases ht)]
  exact hk
theorem enter_all : ∀ (args : Array Value) (w : World), (callFunc 36 args).run Try.prog w = .ok (.enter 36 args) w := enters_of Try.func36 (by kernel_rfl) rfl
set_option maxRecDepth 100000 in
set_option maxHeartbeats 4000000 in
theorem len_any {W : World} {p : Option Addr} {w : Nat} {L : List Lp.Item} (h : Gives W p w L) (hl : L.length ≤ 1000) :
    Calls Try.prog 22 #[.pointer p] W (Rets W (.int .i64 L.length)) := by
  refine (callsIn_wide (n := 3)).1 ?_
  refine callsIn_of_wp_marks Try.func22 rfl trivial ?_ rfl
  simp only [Try.ntmps22, List.size_toArray, List.length_cons, List.length_nil, Nat.reduceAdd, Nat.reduceSub, Array.replicate_succ, Array.replicate_zero, List.push_toArray, List.append_toArray, List.nil_append, List.cons_append]
  gi_wp2
  refine ⟨trivial, (callsIn_wide.2 (all_any p)).mono ?_⟩
  rintro e w2 ⟨rfl, rfl⟩
  have hb0 : Boxed (W.alloc (.cells #[.int .i64 0] 3)) W.heap.size 3 (.int .i64 0) := Boxed.new _ _ _
  have ht0 := alloc_heap (W.alloc (.cells #[.int .i64 0] 3)) (.cells #[.pointer p] 26)
  have hx0 : Ext W ((W.alloc (.cells #[.int .i64 0] 3)).alloc (.cells #[.pointer p] 26)) := grows
  have hb1 := hb0.alloc (.cells #[.pointer p] 26)
  rw [World.size_alloc] at ht0
  have hsz : ((W.alloc (.cells #[.int .i64 0] 3)).alloc (.cells #[.pointer p] 26)).heap.size = W.heap.size + 1 + 1 := by rw [World.size_alloc, World.size_alloc]
  have hg := h 2 (W.heap.size + 1) _ hx0 ht0
  clear hb0 ht0 h
  gi_wp2
  obtain ⟨w2, h2⟩ : ∃ z, z = (W.alloc (.cells #[.int .i64 0] 3)).alloc (.cells #[.pointer p] 26) := ⟨_, rfl⟩
  rw [← h2] at hx0 hb1 hsz hg ⊢
  clear h2
  refine wpIn_rangeFunc_ownF rfl (by omega) (gf := 36) (lb := #[.pointer (some ⟨W.heap.size + 1, 0, none⟩)]) rfl trivial enter_all hg (fun h k => h.trans k) kt_b (Below.refl _ _) (fun _ => rfl)
    (fun pre W3 => Boxed W3 W.heap.size 3 (.int .i64 pre.length) ∧ Below W.heap.size W W3) (fun _ _ _ => False)
    (OwnFrom.and (Own.from (boxed_own _ _ _) _) (ownFrom_below (Nat.le_refl _) (by omega))) (fun _ _ _ _ _ hs _ _ => hs) ⟨hb1, hx0⟩
    (fun x => { tmps := #[.pointer p, undef, .int .i64 0, .pointer (some ⟨W.heap.size, 0, none⟩), .pointer p, .func (.func 36) #[] #[.pointer (some ⟨W.heap.size + 1, 0, none⟩)], .agg #[.int .u32 x.1, .int .u32 (Bv.pmask x.2.1 w)], .int .i64 x.2.2, undef, undef, undef], defers := [] }) ?assign ?body ?done ?stop
  case assign =>
    intro l x W3 K hK
    gi_wp2
    simpa [encs] using hK
  case body =>
    rintro l pre x W3 ⟨hb, hx⟩ hlt
    have hc := hb.cell
    have hf := hb.frozen
    gi_wp2
    refine ⟨KeepsOthers.setCell _ _ _, kt_set hb rfl _, ?_, hx.setCell (p := ⟨W.heap.size, 0, none⟩) (Nat.le_refl _) _⟩
    rw [List.length_append, List.length_singleton]
    exact hb.set _
  case done =>
    rintro D ys W3 hD rfl ⟨hb, hx⟩ hK
    have hc := hb.cell
    gi_wp2
    refine ⟨by simp, .inl ⟨_, _, rfl, run_takeDeferred hK, ?_⟩⟩
    exact ⟨_, results_tmp rfl _ _ _, rfl, hx.trans (belowK_b (w := W) (Nat.le_refl _) W3 D _ _ (by omega) hK rfl rfl)⟩
  case stop =>
    rintro D c pre W3 _ _ h _
    exact h.elim
end Go.Proofs.Yteefchbpojcklaa
