/- Tries of prefixes: the law's collect: the first pairs that the iterator yields. No condition. -/
import Derived.Test.YteefchbpojcklaaLp9
namespace Go.Proofs.Yteefchbpojcklaa
open Go.RowKit Go.Shelf
attribute [local go_sem] Oper.semAt_some

theorem kt_grown {A B : World} {base : Nat} {e : TypeId} {sz : Nat} {v : Value} {n : Nat} {xs : List Value} (hg : A.grownBy B v.ownBlock) (ho : A.ownsRow base e sz v n xs) (he : KTs e = false) : KT A B := by
  refine ⟨hg.size, fun k c t ht hk => ?_⟩
  rw [hg.block k (lt_of_block hk) (fun e1 => ?_)]
  · exact hk
  · rcases ho.2 with ⟨rfl, _⟩ | ⟨g, cap, cur, rfl, _, hgb, _⟩
    · simp [Value.ownBlock] at e1
    · obtain rfl : k = g := by simpa [Value.ownBlock] using e1
      rw [hk] at hgb
      simp only [Option.some.injEq, Obj.cells.injEq] at hgb
      rw [← hgb.2.1, ht] at he
      cases he
/-- a pair in memory -/
def pairC (w : Nat) (a : Lp.Item) : List Value := [.int .u32 a.1, .int .u32 (Bv.pmask a.2.1 w), .int .i64 a.2.2]
def PairR (w : Nat) (_ : World) (cs : List Value) (a : Lp.Item) : Prop := cs = pairC w a
def pairsC (w : Nat) (l : List Lp.Item) : List Value := l.flatMap (pairC w)
theorem pairsC_snoc (w : Nat) (l : List Lp.Item) (a : Lp.Item) : pairsC w (l ++ [a]) = pairsC w l ++ pairC w a := by simp [pairsC]
theorem flat_get {α : Type} {f : α → List Value} {sz : Nat} (hf : ∀ a, (f a).length = sz) : ∀ {l : List α} {i j : Nat} {a : α} {u : Value}, l[i]? = some a → (f a)[j]? = some u → (l.flatMap f)[i * sz + j]? = some u
  | [], i, j, a, u, h, _ => by simp at h
  | b :: l, 0, j, a, u, h, hu => by
    simp only [List.getElem?_cons_zero, Option.some.injEq] at h
    subst h
    have hj : j < (f b).length := (List.getElem?_eq_some_iff.1 hu).1
    rw [List.flatMap_cons, Nat.zero_mul, Nat.zero_add, List.getElem?_append_left hj]; exact hu
  | b :: l, i + 1, j, a, u, h, hu => by
    simp only [List.getElem?_cons_succ] at h
    have := flat_get hf h hu
    rw [List.flatMap_cons, List.getElem?_append_right (by rw [hf, Nat.succ_mul]; omega), hf, show (i + 1) * sz + j - sz = i * sz + j by rw [Nat.succ_mul]; omega]
    exact this
/-- a row of one's own, read as a slice of aggregates -/
theorem rows_of_own {α : Type} {W : World} {B : Nat} {e : TypeId} {sz : Nat} {R : World → List Value → α → Prop} {f : α → List Value} {v : Value} {l : List α} (hf : ∀ a, (f a).length = sz) (hR : ∀ a, R W (f a) a) (h : W.ownsRow B e sz v l.length (l.flatMap f)) : Rows W sz R v l := by
  have h0 := h
  obtain ⟨h1, h2⟩ := h
  rcases h2 with ⟨rfl, h2⟩ | ⟨g, cap, cur, rfl, _, hg, hc, hm, hs, ht⟩
  · exact .inl ⟨rfl, List.eq_nil_of_length_eq_zero h2⟩
  · refine .inr ⟨⟨g, 0, none⟩, cap, rfl, hc, hm, fun _ => rfl, fun i d hi => ⟨f d, hf d, hR d, fun j u hj => ?_⟩⟩
    have h4 := h0.cells (g := g) rfl _ _ (flat_get hf hi hj)
    rw [add_mk] at h4
    rw [Nat.add_assoc]; exact h4
theorem info_pair : (Try.prog.info? 53).map (fun i => (i.zero, i.size, i.bytes)) = some (some (.agg #[.int .u32 0, .int .u32 0, .int .i64 0]), 3, 16) := by kernel_rfl
theorem func_eq {w : World} (f : FuncId) (lb : Array Value) : (binOp .eql 78 (.func (.func f) #[] lb) .nilFunc).run Try.prog w = .ok (.bool false) w := by
  rfl
set_option maxRecDepth 100000 in
set_option maxHeartbeats 4000000 in
theorem collect_any {W : World} {p : Option Addr} {w : Nat} {L : List Lp.Item} (h : Gives W p w L) (hl : L.length ≤ 1000) (most : Nat) (hmost : most ≤ 1000000) :
    Calls Try.prog 17 #[.pointer p, .int .i64 most] W (fun e W' => ∃ v, e = .returned (.tuple #[v, .bool true]) ∧ Ext W W' ∧ Rows W' 3 (PairR w) v (L.take most)) := by
  refine (callsIn_wide (n := 3)).1 ?_
  refine callsIn_of_wp_marks Try.func17 rfl trivial ?_ rfl
  simp only [Try.ntmps17, List.size_toArray, List.length_cons, List.length_nil, Nat.reduceAdd, Nat.reduceSub, Array.replicate_succ, Array.replicate_zero, List.push_toArray, List.append_toArray, List.nil_append, List.cons_append]
  gi_wp2
  refine ⟨trivial, (callsIn_wide.2 (all_any p)).mono ?_⟩
  rintro e w2 ⟨rfl, rfl⟩
  have hb3 : Boxed (W.alloc (.cells #[.int .i64 most] 3)) W.heap.size 3 (.int .i64 most) := Boxed.new _ _ _
  have ht0 := alloc_heap (W.alloc (.cells #[.int .i64 most] 3)) (.cells #[.pointer p] 26)
  have hx2 : Ext W ((W.alloc (.cells #[.int .i64 most] 3)).alloc (.cells #[.pointer p] 26)) := grows
  have hb3' := hb3.alloc (.cells #[.pointer p] 26)
  rw [World.size_alloc] at ht0
  have hsz : ((W.alloc (.cells #[.int .i64 most] 3)).alloc (.cells #[.pointer p] 26)).heap.size = W.heap.size + 2 := by rw [World.size_alloc, World.size_alloc]
  have hfe := fun w => func_eq (w := w) 36 #[.pointer (some ⟨W.heap.size + 1, 0, none⟩)]
  have hg := fun n w' hx => h n (W.heap.size + 1) w' hx
  clear hb3 h
  gi_wp2
  have hx3 := hx2.alloc (.cells #[.slice none 0 0] 46)
  have hb33 := hb3'.alloc (.cells #[.slice none 0 0] 46)
  have hb7 := Boxed.new ((W.alloc (.cells #[.int .i64 most] 3)).alloc (.cells #[.pointer p] 26)) 46 (.slice none 0 0)
  have ht3 := ((Ext.refl _).alloc (.cells #[.slice none 0 0] 46)).heap ht0
  have hsz3 : (((W.alloc (.cells #[.int .i64 most] 3)).alloc (.cells #[.pointer p] 26)).alloc (.cells #[.slice none 0 0] 46)).heap.size = W.heap.size + 3 := by rw [World.size_alloc, hsz]
  rw [hsz] at hb7
  have hgv := hg 2 _ hx3 ht3
  obtain ⟨w3, h3⟩ : ∃ z, z = ((W.alloc (.cells #[.int .i64 most] 3)).alloc (.cells #[.pointer p] 26)).alloc (.cells #[.slice none 0 0] 46) := ⟨_, rfl⟩
  rw [← h3] at hx3 hb33 hb7 hsz3 hgv ⊢
  clear h3 hsz hb3' ht0 ht3 hx2 hg hfe
  obtain ⟨i0, hi, hz0, hz1, hz2⟩ := info_parts info_pair
  refine wpIn_rangeFunc_ownH rfl (by omega) (gf := 36) (lb := #[.pointer (some ⟨W.heap.size + 1, 0, none⟩)]) rfl trivial enter_all hgv (fun h k => h.trans k) kt_b (Below.refl _ _) (fun _ => rfl)
    (fun pre W4 => ((∃ v, Boxed W4 (W.heap.size + 2) 46 v ∧ W4.ownsRow W.heap.size 53 3 v pre.length (pairsC w pre) ∧ pre.length ≤ most) ∧ Boxed W4 W.heap.size 3 (.int .i64 most)) ∧ Below W.heap.size W W4)
    (fun c pre W4 => (∃ v, Boxed W4 (W.heap.size + 2) 46 v ∧ W4.ownsRow W.heap.size 53 3 v (pre.take most).length (pairsC w (pre.take most)) ∧ (c = .exit 0 ∧ pre.length = most + 1)) ∧ Below W.heap.size W W4)
    (OwnFrom.and (OwnFrom.and (Own.from (holdsRow_own W.heap.size (W.heap.size + 2) _ 53 3 (fun (pre : List Lp.Item) => pre.length) (fun (pre : List Lp.Item) => pairsC w pre) (fun (pre : List Lp.Item) _ => pre.length ≤ most)) _) (Own.from (boxed_own _ _ _) _)) (ownFrom_below (Nat.le_refl _) (by omega)))
    (fun c => OwnFrom.and (Own.from (holdsRow_own W.heap.size (W.heap.size + 2) _ 53 3 (fun (pre : List Lp.Item) => (pre.take most).length) (fun (pre : List Lp.Item) => pairsC w (pre.take most)) (fun (pre : List Lp.Item) _ => c = .exit 0 ∧ pre.length = most + 1)) _) (ownFrom_below (Nat.le_refl _) (by omega)))
    ⟨⟨⟨_, hb7, World.ownsRow_nil _ _ _ _, Nat.zero_le _⟩, hb33⟩, hx3⟩
    (fun x a' W4 => ∃ Bx, W.heap.size + 2 < Bx ∧ W4.heap[Bx]? = some (.cells #[.int .u32 x.1, .int .u32 (Bv.pmask x.2.1 w)] 51 (0, 0)) ∧ a' = { tmps := #[.pointer p, .int .i64 most, undef, .pointer (some ⟨W.heap.size, 0, none⟩), .slice none 0 0, .bool false, .func (.func 36) #[] #[.pointer (some ⟨W.heap.size + 1, 0, none⟩)], .pointer (some ⟨W.heap.size + 2, 0, none⟩), .pointer (some ⟨Bx, 0, none⟩), .int .i64 x.2.2, .pointer p, .func (.func 36) #[] #[.pointer (some ⟨W.heap.size + 1, 0, none⟩)], .func (.func 36) #[] #[.pointer (some ⟨W.heap.size + 1, 0, none⟩)], .bool false, .func (.func 36) #[] #[.pointer (some ⟨W.heap.size + 1, 0, none⟩)], .agg #[.int .u32 x.1, .int .u32 (Bv.pmask x.2.1 w)], .int .i64 x.2.2, undef, undef, undef, undef, undef, undef, undef, undef, undef, undef, undef], defers := [] })
    ?hAx ?assign ?body ?done ?stop
  case hAx =>
    rintro x a' _ A C row ⟨Bx, h1, h2, h3⟩ hg hr
    refine ⟨Bx, h1, ?_, h3⟩
    rw [hg.block Bx (lt_of_block h2) (fun e => ?_)]
    · exact h2
    · obtain ⟨_, o, ho, hc⟩ := hr Bx e.symm
      rw [h2] at ho; cases ho; cases hc
  case assign =>
    rintro l pre x W4 K ⟨⟨⟨v, hv, hrow, hlm⟩, hm⟩, hx⟩ hK
    simp only [encs]
    gi_wp2
    exact hK _ _ ((KeepsOthers.alloc _ _).from _) (KT.ext ((Ext.refl _).alloc _)) ⟨⟨⟨v, hv.alloc _, hrow.alloc _, hlm⟩, hm.alloc _⟩, Ext.alloc (show Ext W W4 from hx) _⟩ ⟨W4.heap.size, hv.lt, alloc_heap _ _, rfl⟩
  case body =>
    rintro l pre x a' W4 hlw hr ⟨⟨⟨v, hv, hrow, hlm⟩, hm⟩, hx⟩ ⟨Bx, hBx, hk, rfl⟩ hlt
    obtain ⟨oa, cc, rfl⟩ := own_slice hrow
    have c7 := hv.cell
    have f7 := hv.frozen
    have c3 := hm.cell
    have e0 := cell_of (o := 0) hk
    have e1 := cell_of (o := 1) hk
    have hXS := hx.size
    rcases Nat.lt_or_ge pre.length most with hlm2 | hlm2
    · have d1 : decide ((most : Int) ≤ (pre.length : Int)) = false := decide_eq_false (by omega)
      have HR := Lib.hid hrow
      have HV := Lib.hid hv
      have HM := Lib.hid hm
      have HX := Lib.hid hx
      clear hrow hv hm hx hk hr
      gi_wp2_with (gi_at_builtin; refine wpListIn_append_own _ rfl _ _ 46 rfl W.heap.size 53 i0 _ 3 16 Try.underlying46 hi hz0 hz1 hz2 rfl (by decide) _ pre.length (pairsC w pre) rfl (HR.out.alloc _) ⟨W4.heap.size, 0, none⟩ 1 1 (pairC w x) rfl rfl ?hc (by simp [pairC, Value.oneCell']) ?b1 ?b2 ?b3 ?_)
      case hc =>
        intro j u hj
        rw [add_mk, Nat.zero_add, cell_of (alloc_heap _ _)]
        simpa [pairC] using hj
      case b1 => unfold maxLen; omega
      case b2 => omega
      case b3 => rw [World.size_alloc]; omega
      intro v' w1 hown' hgrow _
      obtain ⟨g', cap', rfl⟩ := ownsRow_succ hown'
      obtain ⟨hv1, hv2, hr2, hk2, hb2⟩ := HV.out.appended (by decide) HR.out HX.out.size (Nat.le_add_right _ _) hown' hgrow
      have hc1 := hv1.cell
      have hf1 := hv1.frozen
      have hkt := ((KT.ext ((Ext.refl W4).alloc _)).trans (kt_grown hgrow (HR.out.alloc _) rfl)).trans (kt_set (o := 0) hv1 rfl (.slice (some ⟨g', 0, none⟩) (pre.length + 1) cap'))
      have hmk := ((HM.out.alloc _).kept hgrow (HM.out.not_row (by decide) HR.out)).other (B' := W.heap.size + 2) (by omega) (.slice (some ⟨g', 0, none⟩) (pre.length + 1) cap')
      have HK2 := Lib.hid hk2
      have HB2 := Lib.hid hb2
      have HKT := Lib.hid hkt
      have HMK := Lib.hid hmk
      have HV2 := Lib.hid hv2
      have HR2 := Lib.hid hr2
      clear hown' hgrow hv1 hv2 hr2 hk2 hb2 hkt hmk
      gi_wp2
      refine ⟨HK2.out.from _, HKT.out, ⟨⟨_, HV2.out, ?_, ?_⟩, HMK.out⟩, HX.out.trans HB2.out⟩
      · rw [List.length_append, List.length_singleton, pairsC_snoc]; exact HR2.out
      · rw [List.length_append, List.length_singleton]; omega
    · obtain rfl : pre.length = most := by omega
      have d1 : decide ((pre.length : Int) ≤ (pre.length : Int)) = true := decide_eq_true (by omega)
      have HR := Lib.hid hrow
      have HV := Lib.hid hv
      have HX := Lib.hid hx
      clear hrow hv hm hx hk hr
      gi_wp2
      refine ⟨KeepsFrom.refl _ _, ⟨_, HV.out, ?_, rfl, ?_⟩, HX.out⟩
      · rw [List.take_left']; exact HR.out; rfl
      · rw [List.length_append, List.length_singleton]
  case done =>
    rintro D ys W4 hD rfl ⟨⟨⟨v, hv, hrow, hlm⟩, hm⟩, hx⟩ hK
    obtain ⟨oa, cc, rfl⟩ := own_slice hrow
    have c7 := hv.cell
    have HR := Lib.hid hrow
    clear hrow
    gi_wp2
    refine ⟨by simp, .inl ⟨_, _, rfl, run_takeDeferred hK, ?_⟩⟩
    refine ⟨_, results_tmp2 rfl _ _ _, _, rfl, hx.trans (belowK_b (w := W) (Nat.le_refl _) W4 D _ _ (by omega) hK rfl rfl), ?_⟩
    rw [List.take_of_length_le hlm]
    exact rows_of_own (fun _ => rfl) (fun _ => rfl) (ownsRow_putObj HR.out _ hK rfl)
  case stop =>
    rintro D c pre W4 hD hpre ⟨⟨v, hv, hrow, rfl, hlen⟩, hx⟩ hK
    have hl2 : (pre.take most).length = most := by rw [List.length_take]; omega
    rw [hl2] at hrow
    obtain ⟨oa, cc, rfl⟩ := own_slice hrow
    have c7 := hv.cell
    have HR := Lib.hid hrow
    clear hrow
    gi_wp2
    refine ⟨by simp, .inl ⟨_, _, rfl, run_takeDeferred hK, ?_⟩⟩
    refine ⟨_, results_tmp2 rfl _ _ _, _, rfl, hx.trans (belowK_b (w := W) (Nat.le_refl _) W4 D _ _ (by omega) hK rfl rfl), ?_⟩
    have e1 : L.take most = pre.take most := by
      obtain ⟨q, rfl⟩ := hpre
      rw [List.take_append_of_le_length (by omega)]
    rw [e1]
    refine rows_of_own (fun _ => rfl) (fun _ => rfl) (B := W.heap.size) (e := 53) (f := pairC w) ?_
    rw [hl2]
    exact ownsRow_putObj HR.out _ hK rfl
end Go.Proofs.Yteefchbpojcklaa
