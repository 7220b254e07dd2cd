/- A region that draws its order, inside the wide fence (where a call of yield enters a round): its first operations quietly, over all later worlds; the others in whatever order behind them. No program in sight, no condition. -/
import Derived.Test.YteefchbpojcklaaTail
import Derived.OrdersIn
namespace Go.Proofs.Yteefchbpojcklaa
open Go.RowKit

section
variable {P : Program} {ops : Array Oper} {md : Region.Mode} {C : World → Prop}
def lexD (md : Region.Mode) (ops : Array Oper) (D : Array Bool) : Nat → Nat → Array Bool → Bool
  | 0, _, done => decide (done = D)
  | f + 1, k, done => (Region.ready md ops done).contains k && Region.free md ops done k && lexD md ops D f (k + 1) (done.setIfInBounds k true)
def chain2B (md : Region.Mode) (ops : Array Oper) (n : Nat) : Bool :=
  (List.range ops.size).all fun t => decide (t ≤ n) || (List.range t).any fun s => decide (n ≤ s) && Region.waitsFor md ops t s
theorem tail_waits2 {n : Nat} {listed : Array Bool} (hs : Region.sinkB md ops n = true) (hc : chain2B md ops n = true) (inv : HeadInv md ops n listed) :
    ∀ (d i : Nat), n - i = d → i < n → listed.getD i true = false → ∀ t, n ≤ t → t ∉ Region.ready md ops listed := by
  intro d
  induction d using Nat.strongRecOn with
  | _ d ih =>
    intro i hd hi hun t ht hr
    obtain ⟨_, ot, hot, hall⟩ := mem_ready.1 hr
    have htlt : t < ops.size := (Array.getElem?_eq_some_iff.1 hot).1
    by_cases htn : t = n
    · subst htn
      have h1 := List.all_eq_true.1 hs i (List.mem_range.2 hi)
      obtain ⟨j, hj, hj2⟩ := List.any_eq_true.1 h1
      simp only [Bool.and_eq_true, decide_eq_true_eq] at hj2
      obtain ⟨oj, hoj, e, he, hb, hon⟩ := Region.waitsFor_spec hj2.2
      have hjle : j ≤ t := by have := List.mem_range.1 hj; omega
      by_cases hjt : j = t
      · subst hjt
        obtain rfl : oj = ot := Option.some.inj (hoj.symm.trans hot)
        have h2 := hall e he hb
        rw [hon, getD_both hun] at h2
        cases h2
      · cases hl : listed.getD j false with
        | true =>
          have h2 := inv.closed j oj hoj hl e he hb
          rw [hon, getD_both hun] at h2
          cases h2
        | false =>
          have hjs : j < listed.size := by rw [inv.size]; omega
          exact ih (t - j) (by omega) j rfl (by omega) (getD_in hjs hl) t (Nat.le_refl _) hr
    · have h1 := List.all_eq_true.1 hc t (List.mem_range.2 htlt)
      simp only [Bool.or_eq_true, decide_eq_true_eq] at h1
      rcases h1 with h1 | h1
      · omega
      · obtain ⟨s, hs1, hs2⟩ := List.any_eq_true.1 h1
        simp only [Bool.and_eq_true, decide_eq_true_eq] at hs2
        have hst := List.mem_range.1 hs1
        obtain ⟨o', ho', e, he, hb, hon⟩ := Region.waitsFor_spec hs2.2
        obtain rfl : o' = ot := Option.some.inj (ho'.symm.trans hot)
        have h2 := hall e he hb
        rw [hon, getD_both (inv.tail s hs2.1 (by omega))] at h2
        cases h2
theorem head_first2 {n i : Nat} {oi : Oper} {v : Value} {L : Array Bool → Act → Prop} (hi : ops[i]? = some oi) (hsel : ∀ (j : Nat) (o : Oper) cs b, ops[j]? = some o → o.op ≠ .select cs b)
    (hs : Region.sinkB md ops n = true) (hc : chain2B md ops n = true) (hin : i < n) (hdone : ∀ done a, L done a → ∀ j ∈ Region.ready md ops done, n ≤ j) (f : Nat) :
    ∀ (done : Array Bool) (a : Act), HeadInv md ops n done →
      (∀ j oj, ops[j]? = some oj → j ≠ i → done.getD j true = false → (∀ e ∈ oj.after, Region.binds md e = true → e.on ≠ i) → oi.apart ops oj = true) →
      i ∈ Region.ready md ops done → YieldsIn P ops C oi v a →
      anyHead P md ops C n L f (done.setIfInBounds i true) (a.put oi.dst v) → anyHead P md ops C n L (f + 1) done a := by
  induction f with
  | zero =>
    intro done a inv _ hr hy H
    have hun := (mem_ready.1 hr).1
    refine ⟨fun h => (by rw [h] at hr; cases hr), fun j hj => ?_⟩
    have hjn : j < n := Nat.lt_of_not_le fun h => absurd hj (tail_waits2 hs hc inv _ i rfl hin hun j h)
    refine ⟨hjn, ?_⟩
    by_cases hji : j = i
    · subst hji; exact hy.qOp hi H
    · have := hdone _ _ H j (ready_mono hj hji); omega
  | succ f ih =>
    intro done a inv hfree hr hy H
    have hun := (mem_ready.1 hr).1
    refine ⟨fun h => (by rw [h] at hr; cases hr), fun j hj => ?_⟩
    have hjn : j < n := Nat.lt_of_not_le fun h => absurd hj (tail_waits2 hs hc inv _ i rfl hin hun j h)
    refine ⟨hjn, ?_⟩
    by_cases hji : j = i
    · subst hji; exact hy.qOp hi H
    · obtain ⟨hjun, oj, hoj, hall⟩ := mem_ready.1 hj
      have hnot : ∀ e ∈ oj.after, Region.binds md e = true → e.on ≠ i := fun e he hb heq => by
        have h1 := hall e he hb
        rw [heq, getD_both hun] at h1; cases h1
      have h2 := qOp_put hoj (hfree j oj hoj hji hjun hnot) (fun cs b => hsel i oi cs b hi) (fun cs b => hsel j oj cs b hoj) hy (H.2 j (ready_mono hj hji)).2
      refine qOp_mono (fun a' h3 => ih (done.setIfInBounds j true) a' (inv.set hj hjn) (fun k ok hk hki hkun hno => hfree k ok hk hki ?_ hno) (ready_mono hr (Ne.symm hji)) h3.1 ?_) h2
      · by_cases hjk : j = k
        · subst hjk; exact hjun
        · rw [getD_set_ne true hjk] at hkun; exact hkun
      · rw [Array.setIfInBounds_comm _ _ hji]; exact h3.2
theorem head_lexD {n : Nat} {D : Array Bool} {Lq : Act → Prop} (hsel : Region.noSelect ops = true) (hs : Region.sinkB md ops n = true) (hc : chain2B md ops n = true) (hD : (List.range n).all (fun j => D.getD j true) = true) (l : List Oper) :
    ∀ (k : Nat) (done : Array Bool) (a : Act), (∀ j, j < l.length → l[j]? = ops[k + j]?) → k + l.length = n → HeadInv md ops n done →
    lexD md ops D l.length k done = true → wpQuiet P ops C Lq l a →
    anyHead P md ops C n (fun done' a' => done' = D ∧ Lq a') l.length done a := by
  induction l with
  | nil =>
    intro k done a _ hk _ hB h
    exact ⟨of_decide_eq_true hB, h⟩
  | cons o l ih =>
    intro k done a hl hk inv hB h
    have h0 : ops[k]? = some o := by simpa using (hl 0 (by simp)).symm
    simp only [List.length_cons, lexD, Bool.and_eq_true] at hB
    obtain ⟨⟨hr, hf⟩, hB'⟩ := hB
    have hkn : k < n := by simp only [List.length_cons] at hk; omega
    have hr' : k ∈ Region.ready md ops done := by simpa using hr
    have hst : qOp P ops C k (wpQuiet P ops C Lq l) a := by unfold qOp; simp only [h0]; exact h
    obtain ⟨v, hy, hK⟩ := yieldsIn_of_qOp h0 hst
    refine head_first2 h0 (Region.noSelect_spec hsel) hs hc hkn (fun done' a' hL j hj => ?_) l.length done a inv (Region.free_spec h0 hf) hr' hy
      (ih (k + 1) _ _ (fun j hj => by have := hl (j + 1) (by simp; omega); simpa [Nat.add_assoc, Nat.add_comm 1 j] using this) (by simp only [List.length_cons] at hk; omega) (inv.set hr' hkn) hB' hK)
    obtain ⟨rfl, _⟩ := hL
    rcases Nat.lt_or_ge j n with h1 | h1
    · have h2 := List.all_eq_true.1 hD j (List.mem_range.2 h1)
      have h3 := (mem_ready.1 hj).1
      rw [h3] at h2; cases h2
    · exact h1
def headB (md : Region.Mode) (ops : Array Oper) (n : Nat) (D : Array Bool) : Bool :=
  Region.noSelect ops && decide (n < ops.size) && Region.sinkB md ops n && chain2B md ops n && (List.range n).all (fun j => D.getD j true) && lexD md ops D n 0 (Array.replicate ops.size false)
end
/-- The region's wp: the first n operations quietly over all later worlds, the others in whatever order behind them. -/
theorem wp_region_later_then {P : Program} {id : Nat} {Q : Exit → Act → World → Prop} {a : Act} {w W : World} {l : List Oper} (n g : Nat) (D : Array Bool) (hm : P.follows .mixedOrders = true) (hB : headB .any l.toArray n D = true) (hg : n + g = l.length) (hW : Ext W w)
    (h : wpQuiet P l.toArray (fun w' => ∃ x : Later W, w' = x.val) (fun a' => ∀ w' : World, Ext W w' → wpAny P .any l.toArray Q g D a' w') (l.take n) a) : (Code.region id l.toArray true).wp P Q a w := by
  simp only [headB, Bool.and_eq_true, decide_eq_true_eq] at hB
  obtain ⟨⟨⟨⟨⟨hsel, hn⟩, hs⟩, hc⟩, hD⟩, hlex⟩ := hB
  have hn' : n < l.length := by simpa using hn
  have htl : (l.take n).length = n := by simp; omega
  have inv0 : HeadInv .any l.toArray n (Array.replicate l.toArray.size false) :=
    ⟨by simp, fun j oj _ hl => (by rw [getD_replicate_false] at hl; cases hl), fun t _ ht => getD_in (by simpa using ht) (getD_replicate_false _ _)⟩
  have H := head_lexD (md := .any) hsel hs hc hD (l.take n) 0 _ a (fun j hj => by
    rw [htl] at hj; simp [hj]) (by simpa using htl) inv0 (by rw [htl]; exact hlex) h
  refine wp_region_any hm ?_
  have := any_of_head (Q' := Q) (g := g) (fun done a' w' hw' hL => by
    obtain ⟨x, rfl⟩ := hw'
    obtain ⟨rfl, hL⟩ := hL
    exact hL x.val x.ext) _ _ _ _ (⟨⟨_, hW.drew⟩, rfl⟩ : ∃ x : Later W, { w with drawn := w.drawn + 1 } = x.val) H
  rw [htl, hg, show l.length = l.toArray.size by simp] at this
  exact this

section
variable {n : Nat} {P : Program} {ops : Array Oper} {md : Region.Mode} {C : World → Prop}
theorem wpOpIn_of_qOp {i : Nat} {a : Act} {K : Act → Prop} {K' : Act → World → Prop} {Q' : Exit → Act → World → Prop} {w : World} (hC : C w) (h : ∀ a w', C w' → K a → K' a w') (hh : qOp P ops C i K a) : wpOpIn Fence.wide n P ops Q' i K' a w := by
  unfold qOp at hh
  unfold wpOpIn
  split
  · rename_i ho; simp only [ho] at hh; exact h _ _ hC hh
  · rename_i o ho
    simp only [ho] at hh
    split
    · rename_i hw
      simp only [hw, if_true] at hh
      obtain ⟨v, h1, h2⟩ := hh
      have h3 := h1 w hC
      unfold Oper.quietAt at h3
      unfold Oper.wpIn
      refine ⟨fun _ _ => trivial, ?_⟩
      show Oper.uponIn _ _ _ _ _ _ _ ((o.semAt none a.eval).run P w)
      rw [Oper.semAt_none]
      generalize (execOp a.eval o).run P w = r at *
      cases r with
      | ok x w' =>
        cases x <;> simp only [Oper.quietUpon] at h3 <;> simp only [Oper.uponIn]
        case value u => obtain ⟨e1, e2⟩ := h3; rw [e1, e2]; exact h _ _ hC h2
        case skip => obtain ⟨e1, e2⟩ := h3; rw [e1, ← e2]; exact h _ _ hC h2
        case enter f args =>
          obtain ⟨e1, hc⟩ := h3
          rw [e1]
          exact ⟨fun hd => (by cases hd), (callsIn_wide.2 hc).mono fun e w'' ⟨he, hw''⟩ => by subst he; exact h _ _ hw'' h2⟩
      | halt x w' => simp only [Oper.quietUpon] at h3
    · rename_i hw; simp only [hw] at hh; exact ⟨fun _ _ => trivial, h _ _ hC hh⟩
theorem anyIn_of_head {nh g : Nat} {L : Array Bool → Act → Prop} {Q' : Exit → Act → World → Prop} (hL : ∀ done a w, C w → L done a → wpAnyIn Fence.wide n P md ops Q' g done a w) (f : Nat) :
    ∀ (done : Array Bool) (a : Act) (w : World), C w → anyHead P md ops C nh L f done a → wpAnyIn Fence.wide n P md ops Q' (f + g) done a w := by
  induction f with
  | zero => intro done a w hw h; rw [Nat.zero_add]; exact hL _ _ _ hw h
  | succ f ih =>
    intro done a w hw h
    rw [show f + 1 + g = (f + g) + 1 by omega]
    exact ⟨fun h0 => absurd h0 h.1, fun i hi => wpOpIn_of_qOp hw (fun a' w' hw' h' => ih _ a' w' hw' h') (h.2 i hi).2⟩
def invB (md : Region.Mode) (ops : Array Oper) (n : Nat) (D : Array Bool) : Bool :=
  decide (D.size = ops.size) && (List.range ops.size).all (fun j => !(D.getD j false) || (match ops[j]? with | some o => o.after.toList.all (fun e => !(Region.binds md e) || D.getD e.on false) | none => true)) && (List.range ops.size).all (fun t => decide (t < n) || !(D.getD t true))
theorem inv_of_B {nh : Nat} {D : Array Bool} (h : invB md ops nh D = true) : HeadInv md ops nh D := by
  simp only [invB, Bool.and_eq_true, decide_eq_true_eq] at h
  obtain ⟨⟨h1, h2⟩, h3⟩ := h
  refine ⟨h1, fun j oj hj hl e he hb => ?_, fun t ht hts => ?_⟩
  · have h4 := List.all_eq_true.1 h2 j (List.mem_range.2 (Array.getElem?_eq_some_iff.1 hj).1)
    rw [hl, hj] at h4
    simp only [Bool.not_true, Bool.false_or] at h4
    have h5 := List.all_eq_true.1 h4 e (Array.mem_toList_iff.2 he)
    rw [hb] at h5
    simpa using h5
  · have h4 := List.all_eq_true.1 h3 t (List.mem_range.2 hts)
    simp only [Bool.or_eq_true, decide_eq_true_eq] at h4
    rcases h4 with h4 | h4
    · omega
    · simpa using h4
def head2B (md : Region.Mode) (ops : Array Oper) (n k : Nat) (D0 D : Array Bool) : Bool :=
  Region.noSelect ops && decide (n < ops.size) && decide (k ≤ n) && Region.sinkB md ops n && chain2B md ops n && (List.range n).all (fun j => D.getD j true) && lexD md ops D (n - k) k D0 && invB md ops n D0
/-- Operations k to nh quietly, those ahead of them being over; behind them whatever order. -/
theorem wpAnyIn_head {l : List Oper} {Q : Exit → Act → World → Prop} {a : Act} {w W : World} (nh k g : Nat) (D0 D : Array Bool) (hB : head2B .any l.toArray nh k D0 D = true) (hW : Ext W w)
    (h : wpQuiet P l.toArray (fun w' => ∃ x : Later W, w' = x.val) (fun a' => ∀ w' : World, Ext W w' → wpAnyIn Fence.wide n P .any l.toArray Q g D a' w') ((l.drop k).take (nh - k)) a) :
    wpAnyIn Fence.wide n P .any l.toArray Q (nh - k + g) D0 a w := by
  simp only [head2B, Bool.and_eq_true, decide_eq_true_eq] at hB
  obtain ⟨⟨⟨⟨⟨⟨⟨hsel, hn⟩, hk⟩, hs⟩, hc⟩, hD⟩, hlex⟩, hinv⟩ := hB
  have hn' : nh < l.length := by simpa using hn
  have htl : ((l.drop k).take (nh - k)).length = nh - k := by simp; omega
  have H := head_lexD (md := .any) hsel hs hc hD ((l.drop k).take (nh - k)) k D0 a (fun j hj => by
    rw [htl] at hj; simp [hj]) (by rw [htl]; omega) (inv_of_B hinv) (by rw [htl]; exact hlex) h
  have := anyIn_of_head (n := n) (Q' := Q) (g := g) (fun done a' w' hw' hL => by
    obtain ⟨x, rfl⟩ := hw'
    obtain ⟨rfl, hL⟩ := hL
    exact hL x.val x.ext) _ _ _ _ (⟨⟨w, hW⟩, rfl⟩ : ∃ x : Later W, w = x.val) H
  rw [htl] at this
  exact this
/-- The region: its first nh operations quietly. -/
theorem wpIn_region_head {id : Nat} {Q : Exit → Act → World → Prop} {a : Act} {w W : World} {l : List Oper} (nh g : Nat) (D : Array Bool) (hm : P.follows .mixedOrders = true) (hB : head2B .any l.toArray nh 0 (Array.replicate l.toArray.size false) D = true) (hg : nh + g = l.length) (hW : Ext W w)
    (h : wpQuiet P l.toArray (fun w' => ∃ x : Later W, w' = x.val) (fun a' => ∀ w' : World, Ext W w' → wpAnyIn Fence.wide n P .any l.toArray Q g D a' w') (l.take nh) a) : (Code.region id l.toArray true).wpIn Fence.wide n P Q a w := by
  refine wpIn_region_any hm ?_
  have := wpAnyIn_head (n := n) (W := W) nh 0 g _ D hB (hW.drew) (by simpa using h)
  rw [Nat.sub_zero, hg, show l.length = l.toArray.size by simp] at this
  exact this
end
end Go.Proofs.Yteefchbpojcklaa
