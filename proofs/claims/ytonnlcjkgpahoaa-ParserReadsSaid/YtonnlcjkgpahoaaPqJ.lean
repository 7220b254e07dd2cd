/- Parsers: the run, walked (the reference). No condition. -/
import Derived.Test.YtonnlcjkgpahoaaPqI
import Derived.Test.YtonnlcjkgpahoaaPqH
import Derived.Test.YtonnlcjkgpahoaaIoF2
import Derived.Test.YtonnlcjkgpahoaaPqD
import Derived.RegionTactic
namespace Go.Proofs.Ytonnlcjkgpahoaa
open Go.RowKit

section
variable {P : Program} {ops : Array Oper} {md : Region.Mode} {C : World → Prop}
def lexD (md : Region.Mode) (ops : Array Oper) (D : Array Bool) : Nat → Nat → Array Bool → Bool
  | 0, _, done => decide (done = D)
  | f + 1, k, done => (Region.ready md ops done).contains k && Region.free md ops done k && lexD md ops D f (k + 1) (done.setIfInBounds k true)
def chain2B (md : Region.Mode) (ops : Array Oper) (n : Nat) : Bool :=
  (List.range ops.size).all fun t => decide (t ≤ n) || (List.range t).any fun s => decide (n ≤ s) && Region.waitsFor md ops t s
theorem tail_waits2 {n : Nat} {listed : Array Bool} (hs : Region.sinkB md ops n = true) (hc : chain2B md ops n = true) (inv : HeadInv md ops n listed) :
    ∀ (d i : Nat), n - i = d → i < n → listed.getD i true = false → ∀ t, n ≤ t → t ∉ Region.ready md ops listed := by
  intro d
  induction d using Nat.strongRecOn with
  | _ d ih =>
    intro i hd hi hun t ht hr
    obtain ⟨_, ot, hot, hall⟩ := mem_ready.1 hr
    have htlt : t < ops.size := (Array.getElem?_eq_some_iff.1 hot).1
    by_cases htn : t = n
    · subst htn
      have h1 := List.all_eq_true.1 hs i (List.mem_range.2 hi)
      obtain ⟨j, hj, hj2⟩ := List.any_eq_true.1 h1
      simp only [Bool.and_eq_true, decide_eq_true_eq] at hj2
      obtain ⟨oj, hoj, e, he, hb, hon⟩ := Region.waitsFor_spec hj2.2
      have hjle : j ≤ t := by have := List.mem_range.1 hj; omega
      by_cases hjt : j = t
      · subst hjt
        obtain rfl : oj = ot := Option.some.inj (hoj.symm.trans hot)
        have h2 := hall e he hb
        rw [hon, getD_both hun] at h2
        cases h2
      · cases hl : listed.getD j false with
        | true =>
          have h2 := inv.closed j oj hoj hl e he hb
          rw [hon, getD_both hun] at h2
          cases h2
        | false =>
          have hjs : j < listed.size := by rw [inv.size]; omega
          exact ih (t - j) (by omega) j rfl (by omega) (getD_in hjs hl) t (Nat.le_refl _) hr
    · have h1 := List.all_eq_true.1 hc t (List.mem_range.2 htlt)
      simp only [Bool.or_eq_true, decide_eq_true_eq] at h1
      rcases h1 with h1 | h1
      · omega
      · obtain ⟨s, hs1, hs2⟩ := List.any_eq_true.1 h1
        simp only [Bool.and_eq_true, decide_eq_true_eq] at hs2
        have hst := List.mem_range.1 hs1
        obtain ⟨o', ho', e, he, hb, hon⟩ := Region.waitsFor_spec hs2.2
        obtain rfl : o' = ot := Option.some.inj (ho'.symm.trans hot)
        have h2 := hall e he hb
        rw [hon, getD_both (inv.tail s hs2.1 (by omega))] at h2
        cases h2
theorem head_first2 {n i : Nat} {oi : Oper} {v : Value} {L : Array Bool → Act → Prop} (hi : ops[i]? = some oi) (hsel : ∀ (j : Nat) (o : Oper) cs b, ops[j]? = some o → o.op ≠ .select cs b)
    (hs : Region.sinkB md ops n = true) (hc : chain2B md ops n = true) (hin : i < n) (hdone : ∀ done a, L done a → ∀ j ∈ Region.ready md ops done, n ≤ j) (f : Nat) :
    ∀ (done : Array Bool) (a : Act), HeadInv md ops n done →
      (∀ j oj, ops[j]? = some oj → j ≠ i → done.getD j true = false → (∀ e ∈ oj.after, Region.binds md e = true → e.on ≠ i) → oi.apart ops oj = true) →
      i ∈ Region.ready md ops done → YieldsIn P ops C oi v a →
      anyHead P md ops C n L f (done.setIfInBounds i true) (a.put oi.dst v) → anyHead P md ops C n L (f + 1) done a := by
  induction f with
  | zero =>
    intro done a inv _ hr hy H
    have hun := (mem_ready.1 hr).1
    refine ⟨fun h => (by rw [h] at hr; cases hr), fun j hj => ?_⟩
    have hjn : j < n := Nat.lt_of_not_le fun h => absurd hj (tail_waits2 hs hc inv _ i rfl hin hun j h)
    refine ⟨hjn, ?_⟩
    by_cases hji : j = i
    · subst hji; exact hy.qOp hi H
    · have := hdone _ _ H j (ready_mono hj hji); omega
  | succ f ih =>
    intro done a inv hfree hr hy H
    have hun := (mem_ready.1 hr).1
    refine ⟨fun h => (by rw [h] at hr; cases hr), fun j hj => ?_⟩
    have hjn : j < n := Nat.lt_of_not_le fun h => absurd hj (tail_waits2 hs hc inv _ i rfl hin hun j h)
    refine ⟨hjn, ?_⟩
    by_cases hji : j = i
    · subst hji; exact hy.qOp hi H
    · obtain ⟨hjun, oj, hoj, hall⟩ := mem_ready.1 hj
      have hnot : ∀ e ∈ oj.after, Region.binds md e = true → e.on ≠ i := fun e he hb heq => by
        have h1 := hall e he hb
        rw [heq, getD_both hun] at h1; cases h1
      have h2 := qOp_put hoj (hfree j oj hoj hji hjun hnot) (fun cs b => hsel i oi cs b hi) (fun cs b => hsel j oj cs b hoj) hy (H.2 j (ready_mono hj hji)).2
      refine qOp_mono (fun a' h3 => ih (done.setIfInBounds j true) a' (inv.set hj hjn) (fun k ok hk hki hkun hno => hfree k ok hk hki ?_ hno) (ready_mono hr (Ne.symm hji)) h3.1 ?_) h2
      · by_cases hjk : j = k
        · subst hjk; exact hjun
        · rw [getD_set_ne true hjk] at hkun; exact hkun
      · rw [Array.setIfInBounds_comm _ _ hji]; exact h3.2
theorem head_lexD {n : Nat} {D : Array Bool} {Lq : Act → Prop} (hsel : Region.noSelect ops = true) (hs : Region.sinkB md ops n = true) (hc : chain2B md ops n = true) (hD : (List.range n).all (fun j => D.getD j true) = true) (l : List Oper) :
    ∀ (k : Nat) (done : Array Bool) (a : Act), (∀ j, j < l.length → l[j]? = ops[k + j]?) → k + l.length = n → HeadInv md ops n done →
    lexD md ops D l.length k done = true → wpQuiet P ops C Lq l a →
    anyHead P md ops C n (fun done' a' => done' = D ∧ Lq a') l.length done a := by
  induction l with
  | nil =>
    intro k done a _ hk _ hB h
    exact ⟨of_decide_eq_true hB, h⟩
  | cons o l ih =>
    intro k done a hl hk inv hB h
    have h0 : ops[k]? = some o := by simpa using (hl 0 (by simp)).symm
    simp only [List.length_cons, lexD, Bool.and_eq_true] at hB
    obtain ⟨⟨hr, hf⟩, hB'⟩ := hB
    have hkn : k < n := by simp only [List.length_cons] at hk; omega
    have hr' : k ∈ Region.ready md ops done := by simpa using hr
    have hst : qOp P ops C k (wpQuiet P ops C Lq l) a := by unfold qOp; simp only [h0]; exact h
    obtain ⟨v, hy, hK⟩ := yieldsIn_of_qOp h0 hst
    refine head_first2 h0 (Region.noSelect_spec hsel) hs hc hkn (fun done' a' hL j hj => ?_) l.length done a inv (Region.free_spec h0 hf) hr' hy
      (ih (k + 1) _ _ (fun j hj => by have := hl (j + 1) (by simp; omega); simpa [Nat.add_assoc, Nat.add_comm 1 j] using this) (by simp only [List.length_cons] at hk; omega) (inv.set hr' hkn) hB' hK)
    obtain ⟨rfl, _⟩ := hL
    rcases Nat.lt_or_ge j n with h1 | h1
    · have h2 := List.all_eq_true.1 hD j (List.mem_range.2 h1)
      have h3 := (mem_ready.1 hj).1
      rw [h3] at h2; cases h2
    · exact h1
def headB (md : Region.Mode) (ops : Array Oper) (n : Nat) (D : Array Bool) : Bool :=
  Region.noSelect ops && decide (n < ops.size) && Region.sinkB md ops n && chain2B md ops n && (List.range n).all (fun j => D.getD j true) && lexD md ops D n 0 (Array.replicate ops.size false)
end
/-- The region's wp: the first n operations quietly over all later worlds, the others in whatever order behind them. -/
theorem wp_region_later_then {P : Program} {id : Nat} {Q : Exit → Act → World → Prop} {a : Act} {w W : World} {l : List Oper} (n g : Nat) (D : Array Bool) (hm : P.follows .mixedOrders = true) (hB : headB .any l.toArray n D = true) (hg : n + g = l.length) (hW : Ext W w)
    (h : wpQuiet P l.toArray (fun w' => ∃ x : Later W, w' = x.val) (fun a' => ∀ w' : World, Ext W w' → wpAny P .any l.toArray Q g D a' w') (l.take n) a) : (Code.region id l.toArray true).wp P Q a w := by
  simp only [headB, Bool.and_eq_true, decide_eq_true_eq] at hB
  obtain ⟨⟨⟨⟨⟨hsel, hn⟩, hs⟩, hc⟩, hD⟩, hlex⟩ := hB
  have hn' : n < l.length := by simpa using hn
  have htl : (l.take n).length = n := by simp; omega
  have inv0 : HeadInv .any l.toArray n (Array.replicate l.toArray.size false) :=
    ⟨by simp, fun j oj _ hl => (by rw [getD_replicate_false] at hl; cases hl), fun t _ ht => getD_in (by simpa using ht) (getD_replicate_false _ _)⟩
  have H := head_lexD (md := .any) hsel hs hc hD (l.take n) 0 _ a (fun j hj => by
    rw [htl] at hj; simp [hj]) (by simpa using htl) inv0 (by rw [htl]; exact hlex) h
  refine wp_region_any hm ?_
  have := any_of_head (Q' := Q) (g := g) (fun done a' w' hw' hL => by
    obtain ⟨x, rfl⟩ := hw'
    obtain ⟨rfl, hL⟩ := hL
    exact hL x.val x.ext) _ _ _ _ (⟨⟨_, hW.drew⟩, rfl⟩ : ∃ x : Later W, { w with drawn := w.drawn + 1 } = x.val) H
  rw [htl, hg, show l.length = l.toArray.size by simp] at this
  exact this
set_option maxRecDepth 8000 in
set_option maxHeartbeats 8000000 in
theorem rrun_any {W : World} {p : Pg.PV} {P : Pg.Prog} {ss : List Ps.St} (hq : Ps.IsQ W p P ss) (hcp : En.CapP P) {da : Option Addr} {dc : Nat} {l : List Int} (hsrc : Src W (.slice da l.length dc) 1 l.length (u8s l)) (hby : Io.Bytes l) (hl : l.length ≤ 140737488355328) :
    Calls Try.prog 55 #[p.val, .slice da l.length dc] W (RunP W (Ps.parse P ss l)) := by
  obtain ⟨s, a1, a2, a3, a4, a5, a6, a7, a8, m1, m2, n3, m3, n4, m4, n5, m5, n6, m6, n7, m7, m8, hf⟩ := hq.1.form
  obtain ⟨rfl, hhs, hmd, _, hl1, hl2, _⟩ := hf
  have hss := hq.2
  dsimp only at hss
  obtain ⟨a6', m6', e6, hl6, hc6⟩ := hss.slice
  simp only [Value.slice.injEq] at e6
  obtain ⟨rfl, rfl, rfl⟩ := e6
  unfold maxLen at hc6
  obtain ⟨bd, hbd⟩ : ∃ z, z = Ps.bad P ss l.length := ⟨_, rfl⟩
  obtain ⟨E0, hE0⟩ : ∃ z, z = En.new P := ⟨_, rfl⟩
  obtain ⟨R, hR⟩ : ∃ z, z = Ps.parse P ss l := ⟨_, rfl⟩
  have HSH0 : Hid (Ps.Shp P E0) := Lib.hid (by rw [hE0]; exact Ps.Shp.new hcp)
  rw [← hR]
  have HNEW : Hid (∀ w, Ext W w → Calls Try.prog 32 #[.agg #[.string s, .slice a1 P.hs.length m1, .slice a2 P.md.length m2, .slice a3 n3 m3, .slice a4 n4 m4, .slice a5 n5 m5, .slice a6 ss.length m6, .slice a7 n7 m7, .slice a8 P.dp.length m8]] w (EnvP w E0)) := Lib.hid (fun w hx => by have h := refenew_any (hq.1.ext hx) hcp; rw [← hE0] at h; exact h)
  have HREF : Hid (∀ w, Ext W w → Calls Try.prog 86 #[.agg #[.string s, .slice a1 P.hs.length m1, .slice a2 P.md.length m2, .slice a3 n3 m3, .slice a4 n4 m4, .slice a5 n5 m5, .slice a6 ss.length m6, .slice a7 n7 m7, .slice a8 P.dp.length m8], .slice da l.length dc] w (Rets w (.int .i64 bd))) := Lib.hid (fun w hx => by have h := accepted_any (hq.ext hx) da l.length dc (by omega); rw [← hbd] at h; exact h)
  have HNR : Hid (∀ w, Ext W w → Calls Try.prog 87 #[.slice da l.length dc] w (fun e W' => ∃ oa c, e = .returned (.agg #[.slice oa l.length c, .int .i64 0]) ∧ Ext w W' ∧ W'.ownsRow w.heap.size 5 1 (.slice oa l.length c) l.length (u8s l))) := Lib.hid (fun w hx => rNewReader_any _ l w (hsrc.ext hx) hl)
  have HQ := Lib.hid hq
  have HCP := Lib.hid hcp
  have HSS := Lib.hid hss
  have HBD := Lib.hid hbd
  have HE0 := Lib.hid hE0
  have HRR := Lib.hid hR
  have HBY := Lib.hid hby
  have bx := alloc_heap W (.cells #[.string s, .slice a1 P.hs.length m1, .slice a2 P.md.length m2, .slice a3 n3 m3, .slice a4 n4 m4, .slice a5 n5 m5, .slice a6 ss.length m6, .slice a7 n7 m7, .slice a8 P.dp.length m8] 31)
  have pc0 := alw (cell_of (o := 0) bx)
  have pc1 := alw (cell_of (o := 1) bx)
  have pc2 := alw (cell_of (o := 2) bx)
  have pc3 := alw (cell_of (o := 3) bx)
  have pc4 := alw (cell_of (o := 4) bx)
  have pc5 := alw (cell_of (o := 5) bx)
  have pc6 := alw (cell_of (o := 6) bx)
  have pc7 := alw (cell_of (o := 7) bx)
  have pc8 := alw (cell_of (o := 8) bx)
  have BX0 := Lib.hid (((Ext.refl _).alloc (.cells #[.slice none 0 0, .slice none 0 0, .slice none 0 0, .slice none 0 0] 37)).heap bx)
  clear bx
  have br := alloc_heap (W.alloc (.cells #[.string s, .slice a1 P.hs.length m1, .slice a2 P.md.length m2, .slice a3 n3 m3, .slice a4 n4 m4, .slice a5 n5 m5, .slice a6 ss.length m6, .slice a7 n7 m7, .slice a8 P.dp.length m8] 31)) (.cells #[.slice none 0 0, .slice none 0 0, .slice none 0 0, .slice none 0 0] 37)
  rw [World.size_alloc] at br
  have rc0 := alw (cell_of (o := 0) br)
  have rc1 := alw (cell_of (o := 1) br)
  have rc2 := alw (cell_of (o := 2) br)
  have rc3 := alw (cell_of (o := 3) br)
  have rf0 := alwF (o := 0) br
  have rf1 := alwF (o := 1) br
  have rf2 := alwF (o := 2) br
  have rf3 := alwF (o := 3) br
  have BRX := Lib.hid br
  clear br hq hcp hhs hmd hss hR hbd hE0 hsrc hby
  dsimp only [Pg.PV.val]
  go_enter Try.func55, Try.ntmps55
  go_wp2_with fail
  refine (HREF.out _ grows).mono ?_
  rintro e w1 ⟨rfl, x1⟩
  have hle1 := x1.le
  simp only [World.size_alloc] at hle1
  have s1 := Step.mk x1
  clear x1
  by_cases hb : bd = 0
  · subst hb
    obtain ⟨hgood, _⟩ := Ps.bad_ok HBD.out.symm
    obtain ⟨gp, gle, _, gst⟩ := hgood
    have GST := Lib.hid gst
    have HR1 : Hid (R = Ps.go P ss l (ss.length + 1) 0 E0 0 []) := Lib.hid (by rw [HRR.out, HE0.out]; unfold Ps.parse; rw [if_pos HBD.out.symm])
    obtain ⟨ab, ao, rfl, _, _⟩ := Rows.at HSS.out gp
    clear gst
    go_wp2_with fail
    refine (HNEW.out _ grows).mono ?_
    rintro e w2 ⟨ev, vs, rfl, x2, o2⟩
    obtain ⟨b0, b1, b2, b3, d0, d1, d2, d3, hg⟩ := o2.isE.form
    obtain ⟨rfl, _, _, _, _, _, _, _, _⟩ := hg
    dsimp only [Pg.EV.val]
    have s2 := Step.mk x2
    have hle2 := x2.le
    have O2 : Hid (OwnE W.heap.size w2 ⟨.slice b0 E0.va.length d0, .slice b1 E0.fi.length d1, .slice b2 E0.me.length d2, .slice b3 E0.pl.length d3⟩ vs E0) := Lib.hid (o2.base (by omega))
    have be := alloc_heap w2 (.cells #[.slice b0 E0.va.length d0, .slice b1 E0.fi.length d1, .slice b2 E0.me.length d2, .slice b3 E0.pl.length d3] 37)
    have K8 := Lib.hid be
    clear be x2 o2
    go_wp2_with fail
    refine (HNR.out _ grows).mono ?_
    rintro e w3 ⟨xa, xc, rfl, x3, o3⟩
    have s3 := Step.mk x3
    have hle3 := x3.le
    rw [World.size_alloc] at hle3
    have bn := alloc_heap w3 (.cells #[.slice xa l.length xc, .int .i64 0] 124)
    obtain ⟨base, hbase⟩ : ∃ z, z = (w2.alloc (.cells #[.slice b0 E0.va.length d0, .slice b1 E0.fi.length d1, .slice b2 E0.me.length d2, .slice b3 E0.pl.length d3] 37)).heap.size := ⟨_, rfl⟩
    rw [← hbase] at o3
    have XL : Ext (w2.alloc (.cells #[.slice b0 E0.va.length d0, .slice b1 E0.fi.length d1, .slice b2 E0.me.length d2, .slice b3 E0.pl.length d3] 37)) (w3.alloc (.cells #[.slice xa l.length xc, .int .i64 0] 124)) := grows
    have X4 : Hid (Ext W (w3.alloc (.cells #[.slice xa l.length xc, .int .i64 0] 124))) := Lib.hid grows
    have A0 : Hid ((w3.alloc (.cells #[.slice xa l.length xc, .int .i64 0] 124)).heap[W.heap.size]? = some (.cells #[.string s, .slice a1 P.hs.length m1, .slice a2 P.md.length m2, .slice a3 n3 m3, .slice a4 n4 m4, .slice a5 n5 m5, .slice (some ⟨ab, ao, none⟩) ss.length m6, .slice a7 n7 m7, .slice a8 P.dp.length m8] 31 (0, 0))) := Lib.hid (alwB BX0.out _)
    have A1 : Hid ((w3.alloc (.cells #[.slice xa l.length xc, .int .i64 0] 124)).heap[W.heap.size + 1]? = some (.cells #[.slice none 0 0, .slice none 0 0, .slice none 0 0, .slice none 0 0] 37 (0, 0))) := Lib.hid (alwB BRX.out _)
    have A8 : Hid ((w3.alloc (.cells #[.slice xa l.length xc, .int .i64 0] 124)).heap[w2.heap.size]? = some (.cells #[.slice b0 E0.va.length d0, .slice b1 E0.fi.length d1, .slice b2 E0.me.length d2, .slice b3 E0.pl.length d3] 37 (0, 0))) := Lib.hid (XL.heap K8.out)
    have A9 := Lib.hid bn
    have O4 := Lib.hid (O2.out.ext (((Ext.refl w2).alloc (.cells #[.slice b0 E0.va.length d0, .slice b1 E0.fi.length d1, .slice b2 E0.me.length d2, .slice b3 E0.pl.length d3] 37)).trans XL))
    have R4 : Hid ((w3.alloc (.cells #[.slice xa l.length xc, .int .i64 0] 124)).ownsRow base 5 1 (.slice xa l.length xc) l.length (u8s l)) := Lib.hid (own_ext o3 ((Ext.refl w3).alloc _))
    obtain ⟨g8, hg8⟩ : ∃ z, z = w2.heap.size := ⟨_, rfl⟩
    obtain ⟨g9, hg9⟩ : ∃ z, z = w3.heap.size := ⟨_, rfl⟩
    rw [← hg8] at A8 hle3 hle2
    rw [← hg9] at A9 hle3
    have H89 : Hid (W.heap.size + 1 < g8 ∧ g8 < g9) := Lib.hid (by omega)
    have HG8 := Lib.hid hg8.symm
    have HG9 := Lib.hid hg9.symm
    clear x3 o3 XL hbase bn hg8 hg9 hle1 hle2 hle3
    go_upto_region 7 with (fail)
    rw [HG8.out, HG9.out]
    go_wp2_with fail
    go_loopw [10, 11] (fun sv z wr => ∃ t : Int, z = .int .i64 t ∧ (t = -1 ∨ t = -2 ∨ (0 ≤ t ∧ t < ss.length)) ∧ Hid (∃ (n : Nat) (ev : Pg.EV) (E' : Pg.Env) (pos' : Nat) (vs' : List Value) (ent : List Int), Ext W wr ∧ (wr.heap[W.heap.size]? = some (.cells #[.string s, .slice a1 P.hs.length m1, .slice a2 P.md.length m2, .slice a3 n3 m3, .slice a4 n4 m4, .slice a5 n5 m5, .slice (some ⟨ab, ao, none⟩) ss.length m6, .slice a7 n7 m7, .slice a8 P.dp.length m8] 31 (0, 0)) ∧ wr.heap[W.heap.size + 1]? = some (.cells #[.slice none 0 0, .slice none 0 0, .slice none 0 0, .slice none 0 0] 37 (0, 0)) ∧ wr.heap[g8]? = some (.cells #[ev.c0, ev.c1, ev.c2, ev.c3] 37 (0, 0)) ∧ wr.heap[g9]? = some (.cells #[.slice xa l.length xc, .int .i64 (pos' : Int)] 124 (0, 0))) ∧ OwnE W.heap.size wr ev vs' E' ∧ wr.ownsRow base 5 1 (.slice xa l.length xc) l.length (u8s l) ∧ wr.ownsRow W.heap.size 3 1 sv ent.length (i64s ent) ∧ Ps.Shp P E' ∧ pos' ≤ 8 * l.length ∧ pos' % 8 = 0 ∧ R = Ps.go P ss l n t E' pos' ent ∧ (0 ≤ t → (ss.length : Int) + 1 ≤ n + t) ∧ (t < 0 → 1 ≤ n) ∧ ent.length + n = ss.length + 1)) (fun _ z _ => Ps.left ss.length (intOf z))
    case atStart => exact ⟨0, rfl, .inr (.inr ⟨by omega, by omega⟩), Lib.hid ⟨ss.length + 1, _, E0, 0, vs, [], X4.out, ⟨A0.out, A1.out, A8.out, A9.out⟩, O4.out, R4.out, World.ownsRow_nil _ _ _ _, HSH0.out, by omega, rfl, HR1.out, by omega, by omega, by simp⟩⟩
    case round =>
      obtain ⟨t, rfl, hcs, HI⟩ := hrel
      obtain ⟨n, ev, E', pos', vs', ent, hx, ⟨k0, k1, k8, k9⟩, ho, hrd, hso, hsp, hpl, h8, hres, hn1, hn2, hln⟩ := HI.out
      obtain ⟨wo, rfl⟩ : ∃ wo : World, wo = wr := ⟨_, rfl⟩
      obtain ⟨y0, y1, y2, y3, z0, z1, z2, z3, hgf⟩ := ho.isE.form
      obtain ⟨rfl, _, _, _, _, _, _, _, _⟩ := hgf
      dsimp only at k8
      have sx := Step.mk hx
      have pc0 := alw (cell_of (o := 0) k0)
      have pc1 := alw (cell_of (o := 1) k0)
      have pc2 := alw (cell_of (o := 2) k0)
      have pc3 := alw (cell_of (o := 3) k0)
      have pc4 := alw (cell_of (o := 4) k0)
      have pc5 := alw (cell_of (o := 5) k0)
      have pc6 := alw (cell_of (o := 6) k0)
      have pc7 := alw (cell_of (o := 7) k0)
      have pc8 := alw (cell_of (o := 8) k0)
      have rc0 := alw (cell_of (o := 0) k1)
      have rc1 := alw (cell_of (o := 1) k1)
      have rc2 := alw (cell_of (o := 2) k1)
      have rc3 := alw (cell_of (o := 3) k1)
      have rf0 := alwF (o := 0) k1
      have rf1 := alwF (o := 1) k1
      have rf2 := alwF (o := 2) k1
      have rf3 := alwF (o := 3) k1
      have qc0 := alw (cell_of (o := 0) k8)
      have qc1 := alw (cell_of (o := 1) k8)
      have qc2 := alw (cell_of (o := 2) k8)
      have qc3 := alw (cell_of (o := 3) k8)
      have qf0 := alwF (o := 0) k8
      have qf1 := alwF (o := 1) k8
      have qf2 := alwF (o := 2) k8
      have qf3 := alwF (o := 3) k8
      have nc0 := alw (cell_of (o := 0) k9)
      have nc1 := alw (cell_of (o := 1) k9)
      obtain ⟨oas, csv, rfl⟩ := own_slice hso
      have HX := Lib.hid hx
      have K0 := Lib.hid k0
      have K1 := Lib.hid k1
      have K8 := Lib.hid k8
      have K9 := Lib.hid k9
      have HO := Lib.hid ho
      have HRD := Lib.hid hrd
      have HSO := Lib.hid hso
      have HSP := Lib.hid hsp
      have H8 := Lib.hid h8
      have HRES := Lib.hid hres
      have HPL := Lib.hid hpl
      have HLN := Lib.hid hln
      have HN1 := Lib.hid hn1
      have HN2 := Lib.hid hn2
      clear HI hx k0 k1 k8 k9 ho hrd hso hsp h8 hres hpl
      by_cases hs : 0 ≤ t
      · obtain ⟨k, rfl⟩ := Int.eq_ofNat_of_zero_le hs
        have hk : k < ss.length := by omega
        obtain ⟨n, rfl⟩ : ∃ m, n = m + 1 := ⟨n - 1, by have := hn1 hs; omega⟩
        have hel : ent.length ≤ ss.length := by omega
        clear hn1 hn2 hln hcs hs
        obtain ⟨x, hxk⟩ : ∃ y, ss[k]? = some y := ⟨_, List.getElem?_eq_getElem hk⟩
        obtain ⟨ea, ec, ca, cc, hnm, hex, hcs, hcl, hcm, g0, g1, g2, g3, g4, g5, g6⟩ := st_at HSS.out k x hxk rfl
        have yy0 := alw g0
        have yy1 := alw g1
        have yy2 := alw g2
        have yy3 := alw g3
        have yy4 := alw g4
        have yy5 := alw g5
        have yy6 := alw g6
        have so := GST.out k x hxk
        have SO := Lib.hid so
        have HEX := Lib.hid hex
        have HCS := Lib.hid hcs
        have HXK := Lib.hid hxk
        have hs1 := src_one wo (.int .i64 (k : Int)) 3 rfl
        have HS1 := Lib.hid hs1
        have HO1 := Lib.hid (own_now HSO.out (w := wo.alloc (.cells #[.int .i64 (k : Int)] 3)))
        clear g0 g1 g2 g3 g4 g5 g6 so hex hcs hxk hs1 hnm
        go_wp2_with (at_builtin; refine wpList_append_fresh rfl (.tmp 26) (.tmp 28) 29 rfl W.heap.size 3 (.int .i64 0) 1 8 Try.underlying29 info_i64 rfl (by decide) _ ent.length (i64s ent) rfl HO1.out _ 1 [.int .i64 (k : Int)] rfl HS1.out ?d1 ?d2 ?d3 ?_)
        case d1 => unfold maxLen; omega
        case d2 => omega
        case d3 => have := HX.out.le; (try simp); omega
        intro v' w5 hown hgr _
        obtain ⟨oa5, c5, rfl⟩ := own_slice hown
        have xa5 : Ext wo (wo.alloc (.cells #[.int .i64 (k : Int)] 3)) := grows
        have x5 : Ext W w5 := (HX.out.trans xa5).mod (grown_mod hgr) (fun q hq => own_ge HO1.out hq.symm)
        have kb0 := grown_box hgr HO1.out (xa5.heap K0.out) (by decide)
        have kb1 := grown_box hgr HO1.out (xa5.heap K1.out) (by decide)
        have kb8 := grown_box hgr HO1.out (xa5.heap K8.out) (by decide)
        have kb9 := grown_box hgr HO1.out (xa5.heap K9.out) (by decide)
        have O5 := Lib.hid (OwnE.side (HO.out.ext xa5) HO1.out hgr)
        have R5 := Lib.hid (own_side (own_ext HRD.out xa5) HO1.out hgr (by decide))
        have S5 : Hid (w5.ownsRow W.heap.size 3 1 (.slice oa5 (ent.length + 1) c5) (ent ++ [(k : Int)]).length (i64s (ent ++ [(k : Int)]))) := Lib.hid (by simpa [i64s] using hown)
        have s5 := Step.mk x5
        clear pc0 pc1 pc2 pc3 pc4 pc5 pc6 pc7 pc8 rc0 rc1 rc2 rc3 rf0 rf1 rf2 rf3 qc0 qc1 qc2 qc3 qf0 qf1 qf2 qf3 nc0 nc1
        have pc0 := alw (cell_of (o := 0) kb0)
        have pc1 := alw (cell_of (o := 1) kb0)
        have pc2 := alw (cell_of (o := 2) kb0)
        have pc3 := alw (cell_of (o := 3) kb0)
        have pc4 := alw (cell_of (o := 4) kb0)
        have pc5 := alw (cell_of (o := 5) kb0)
        have pc6 := alw (cell_of (o := 6) kb0)
        have pc7 := alw (cell_of (o := 7) kb0)
        have pc8 := alw (cell_of (o := 8) kb0)
        have qc0 := alw (cell_of (o := 0) kb8)
        have qc1 := alw (cell_of (o := 1) kb8)
        have qc2 := alw (cell_of (o := 2) kb8)
        have qc3 := alw (cell_of (o := 3) kb8)
        have nc0 := alw (cell_of (o := 0) kb9)
        have nc1 := alw (cell_of (o := 1) kb9)
        have X5 := Lib.hid x5
        have KB0 := Lib.hid kb0
        have KB1 := Lib.hid kb1
        have KB8 := Lib.hid kb8
        have KB9 := Lib.hid kb9
        obtain ⟨⟨xe, xE, xp⟩, hxR⟩ : ∃ z, z = Ps.exAll P l x.ex E' pos' := ⟨_, rfl⟩
        have HXT : Hid (∀ w, Ext w5 w → Calls Try.prog 88 #[.agg #[.string s, .slice a1 P.hs.length m1, .slice a2 P.md.length m2, .slice a3 n3 m3, .slice a4 n4 m4, .slice a5 n5 m5, .slice (some ⟨ab, ao, none⟩) ss.length m6, .slice a7 n7 m7, .slice a8 P.dp.length m8], .agg #[.string x.nm, .slice ea x.ex.length ec, .bool x.sel, .int .i64 x.h, .int .i64 x.f, .slice ca x.cs.length cc, .int .i64 x.df], .agg #[.slice y0 E'.va.length z0, .slice y1 E'.fi.length z1, .slice y2 E'.me.length z2, .slice y3 E'.pl.length z3], .agg #[.slice xa l.length xc, .int .i64 (pos' : Int)]] w (fun u w' => ∃ e2 : Pg.EV, u = .returned (.tuple #[e2.val, .agg #[.slice xa l.length xc, .int .i64 ((xp : Nat) : Int)], .int .i64 xe]) ∧ Ext w w' ∧ ∃ vs2, OwnE W.heap.size w' e2 vs2 xE)) := Lib.hid (fun w hx => by
          have h := rextract_any (ca := ca) (cc := cc) (HQ.out.ext (X5.out.trans hx)) HCP.out x (HEX.out.ext (X5.out.trans hx)) SO.out.exl SO.out.ex (O5.out.ext hx) (X5.out.trans hx).le HSP.out (own_ext R5.out hx) HBY.out hl HPL.out
          rw [← hxR] at h; exact h)
        have HXR := Lib.hid hxR
        have HKEEP := Lib.hid (Ps.ex_keep (P := P) (l := l) x.ex E' pos' HSP.out HPL.out H8.out)
        clear hown hgr xa5 x5 kb0 kb1 kb8 kb9 hxR
        go_wp2_with fail
        refine wp_region_later_then (W := w5) 8 8 #[true, true, true, true, true, true, true, true, false, false, false, false, false, false, false, false] (by kernel_rfl) (by kernel_rfl) rfl (Ext.refl _) ?_
        simp only [List.take_succ_cons, List.take_zero]
        repeat (go_big_quiet_step (fail))
        refine wpQuiet_nil ?_
        intro w6 x6
        refine wpAny_ready (rs := [8]) (by kernel_rfl) (by simp) (AllReady.cons rfl (fun K hK => ?_) AllReady.nil)
        go_simp
        refine (HXT.out _ x6).mono ?_
        rintro e w7 ⟨ev2, rfl, x7, vs2, o7⟩
        obtain ⟨j0, j1, j2, j3, k0, k1, k2, k3, hgf⟩ := o7.isE.form
        obtain ⟨rfl, _, _, _, _, _, _, _, _⟩ := hgf
        dsimp only [Pg.EV.val]
        have h8 := x7.heap (x6.heap KB8.out)
        have h9 := x7.heap (x6.heap KB9.out)
        have x57 := x6.trans x7
        have X57 := Lib.hid x57
        have s7 := Step.mk x57
        clear pc0 pc1 pc2 pc3 pc4 pc5 pc6 pc7 pc8 qc0 qc1 qc2 qc3 nc0 nc1
        have qc0 := alw (cell_of (o := 0) h8)
        have qc1 := alw (cell_of (o := 1) h8)
        have qc2 := alw (cell_of (o := 2) h8)
        have qc3 := alw (cell_of (o := 3) h8)
        have qf0 := alwF (o := 0) h8
        have qf1 := alwF (o := 1) h8
        have qf2 := alwF (o := 2) h8
        have qf3 := alwF (o := 3) h8
        have nc0 := alw (cell_of (o := 0) h9)
        have nc1 := alw (cell_of (o := 1) h9)
        have nf0 := alwF (o := 0) h9
        have nf1 := alwF (o := 1) h9
        obtain ⟨tw1, tw2⟩ := tower4 (.slice j0 xE.va.length k0) (.slice j1 xE.fi.length k1) (.slice j2 xE.me.length k2) (.slice j3 xE.pl.length k3) h8
        have ta9 := tw1.heap h9 (by have := H89.out; omega)
        obtain ⟨sy1, sy2⟩ := set2 (a' := .slice xa l.length xc) (b' := .int .i64 ((xp : Nat) : Int)) ta9
        have ta8 := sy2.heap tw2 (by have := H89.out; omega)
        have p90 : (((((w7.setCell ⟨g8, 0, none⟩ (.slice j0 xE.va.length k0)).setCell ⟨g8, 1, none⟩ (.slice j1 xE.fi.length k1)).setCell ⟨g8, 2, none⟩ (.slice j2 xE.me.length k2)).setCell ⟨g8, 3, none⟩ (.slice j3 xE.pl.length k3))).cell? ⟨g9, 0, none⟩ = some (.slice xa l.length xc) := cell_of ta9
        have p91 : (((((w7.setCell ⟨g8, 0, none⟩ (.slice j0 xE.va.length k0)).setCell ⟨g8, 1, none⟩ (.slice j1 xE.fi.length k1)).setCell ⟨g8, 2, none⟩ (.slice j2 xE.me.length k2)).setCell ⟨g8, 3, none⟩ (.slice j3 xE.pl.length k3))).cell? ⟨g9, 1, none⟩ = some (.int .i64 (pos' : Int)) := cell_of ta9
        have p92 : (((((w7.setCell ⟨g8, 0, none⟩ (.slice j0 xE.va.length k0)).setCell ⟨g8, 1, none⟩ (.slice j1 xE.fi.length k1)).setCell ⟨g8, 2, none⟩ (.slice j2 xE.me.length k2)).setCell ⟨g8, 3, none⟩ (.slice j3 xE.pl.length k3))).frozen? ⟨g9, 0, none⟩ = false := free_of ta9
        have p93 : (((((w7.setCell ⟨g8, 0, none⟩ (.slice j0 xE.va.length k0)).setCell ⟨g8, 1, none⟩ (.slice j1 xE.fi.length k1)).setCell ⟨g8, 2, none⟩ (.slice j2 xE.me.length k2)).setCell ⟨g8, 3, none⟩ (.slice j3 xE.pl.length k3))).frozen? ⟨g9, 1, none⟩ = false := free_of ta9
        have o8 := (o7.box tw1 h8).beside sy2 ta9 (by decide) (by decide) (by decide) (by decide)
        have r8 := own_box (own_box (own_ext R5.out x57) tw1 h8 (by decide)) sy2 ta9 (by decide)
        have st8 := own_box (own_box (own_ext S5.out x57) tw1 h8 (by decide)) sy2 ta9 (by decide)
        have kc0 := sy2.heap (tw1.heap (x57.heap KB0.out) (by have := H89.out; omega)) (by have := H89.out; omega)
        have kc1 := sy2.heap (tw1.heap (x57.heap KB1.out) (by have := H89.out; omega)) (by have := H89.out; omega)
        have x8 := ((X5.out.trans x57).mod tw1 (fun q hq => by have := H89.out; rw [hq]; omega)).mod sy2 (fun q hq => by have := H89.out; rw [hq]; omega)
        obtain ⟨wz, hwz⟩ : ∃ z, z = (((((((w7.setCell ⟨g8, 0, none⟩ (.slice j0 xE.va.length k0)).setCell ⟨g8, 1, none⟩ (.slice j1 xE.fi.length k1)).setCell ⟨g8, 2, none⟩ (.slice j2 xE.me.length k2)).setCell ⟨g8, 3, none⟩ (.slice j3 xE.pl.length k3)).setCell ⟨g9, 0, none⟩ (.slice xa l.length xc)).setCell ⟨g9, 1, none⟩ (.int .i64 ((xp : Nat) : Int)))) := ⟨_, rfl⟩
        rw [← hwz] at sy1 ta8 o8 r8 st8 kc0 kc1 x8
        have HWZ := Lib.hid hwz
        have KC0 := Lib.hid kc0
        have KC1 := Lib.hid kc1
        have KC8 := Lib.hid ta8
        have KC9 := Lib.hid sy1
        have X8 := Lib.hid x8
        have O8 := Lib.hid o8
        have R8 := Lib.hid r8
        have S8 := Lib.hid st8
        clear tw1 tw2 ta9 sy1 sy2 ta8 o8 r8 st8 kc0 kc1 x8 hwz h8 h9 x57 x7 o7 x6
        go_wp2_with fail
        refine wpAny_take (i := 9) (v := ?_) rfl (by kernel_rfl) (by kernel_rfl) (by kernel_rfl) (fun _ _ _ h => h) (Or.inl ⟨by rfl, ?_⟩) ?_
        rotate_left 1
        · intro w; go_simp <;> with_reducible rfl
        refine wpAny_take (i := 10) (v := ?_) rfl (by kernel_rfl) (by kernel_rfl) (by kernel_rfl) (fun _ _ _ h => h) (Or.inl ⟨by rfl, ?_⟩) ?_
        rotate_left 1
        · intro w; go_simp <;> with_reducible rfl
        refine wpAny_take (i := 11) (v := ?_) rfl (by kernel_rfl) (by kernel_rfl) (by kernel_rfl) (fun _ _ _ h => h) (Or.inl ⟨by rfl, ?_⟩) ?_
        rotate_left 1
        · intro w; go_simp <;> with_reducible rfl
        refine wpAny_take (i := 12) (v := ?_) rfl (by kernel_rfl) (by kernel_rfl) (by kernel_rfl) (fun _ _ _ h => h) (Or.inl ⟨by rfl, ?_⟩) ?_
        rotate_left 1
        · intro w; go_simp <;> with_reducible rfl
        refine wpAny_ready (rs := [13]) (by kernel_rfl) (by simp) (AllReady.cons rfl (fun K hK => ?_) AllReady.nil)
        go_simp
        refine hK _ _ ?_
        clear hK K
        refine wpAny_ready (rs := [14]) (by kernel_rfl) (by simp) (AllReady.cons rfl (fun K hK => ?_) AllReady.nil)
        go_simp
        refine hK _ _ ?_
        clear hK K
        refine wpAny_ready (rs := [15]) (by kernel_rfl) (by simp) (AllReady.cons rfl (fun K hK => ?_) AllReady.nil)
        go_simp
        refine hK _ _ ?_
        clear hK K
        refine wpAny_done (by kernel_rfl) ?_ _
        rw [← HWZ.out]
        clear qc0 qc1 qc2 qc3 qf0 qf1 qf2 qf3 nc0 nc1 nf0 nf1 s7 p90 p91 p92 p93
        have s8 : Step W wz := Step.mk X8.out
        have kc0 := KC0.out
        have kc1 := KC1.out
        have kc8 := KC8.out
        have kc9 := KC9.out
        have pc0 := alw (cell_of (o := 0) kc0)
        have pc1 := alw (cell_of (o := 1) kc0)
        have pc2 := alw (cell_of (o := 2) kc0)
        have pc3 := alw (cell_of (o := 3) kc0)
        have pc4 := alw (cell_of (o := 4) kc0)
        have pc5 := alw (cell_of (o := 5) kc0)
        have pc6 := alw (cell_of (o := 6) kc0)
        have pc7 := alw (cell_of (o := 7) kc0)
        have pc8 := alw (cell_of (o := 8) kc0)
        have rc0 := alw (cell_of (o := 0) kc1)
        have rc1 := alw (cell_of (o := 1) kc1)
        have rc2 := alw (cell_of (o := 2) kc1)
        have rc3 := alw (cell_of (o := 3) kc1)
        have rf0 := alwF (o := 0) kc1
        have rf1 := alwF (o := 1) kc1
        have rf2 := alwF (o := 2) kc1
        have rf3 := alwF (o := 3) kc1
        have qc0 := alw (cell_of (o := 0) kc8)
        have qc1 := alw (cell_of (o := 1) kc8)
        have qc2 := alw (cell_of (o := 2) kc8)
        have qc3 := alw (cell_of (o := 3) kc8)
        have nc0 := alw (cell_of (o := 0) kc9)
        have nc1 := alw (cell_of (o := 1) kc9)
        clear kc0 kc1 kc8 kc9
        by_cases hz : xe = 0
        · subst hz
          have hne := Ps.StOk.next SO.out (En.get xE x.h x.f)
          obtain ⟨s', hs'⟩ : ∃ z, z = Ps.nxt x (En.get xE x.h x.f) := ⟨_, rfl⟩
          rw [← hs'] at hne
          have HNX : Hid (∀ w, Ext wz w → Calls Try.prog 89 #[.agg #[.string x.nm, .slice ea x.ex.length ec, .bool x.sel, .int .i64 x.h, .int .i64 x.f, .slice ca x.cs.length cc, .int .i64 x.df], .agg #[.slice j0 xE.va.length k0, .slice j1 xE.fi.length k1, .slice j2 xE.me.length k2, .slice j3 xE.pl.length k3]] w (Rets w (.int .i64 s'))) := Lib.hid (fun w hx => by
            have h := rtrans_any (ea := ea) (ec := ec) (O8.out.isE.ext hx) x (Rows.ext HCS.out (fun _ _ h => h) (X8.out.trans hx))
            rw [← hs'] at h; exact h)
          have HNE := Lib.hid hne
          have HS' := Lib.hid hs'
          clear hne hs'
          go_wp2_with fail
          refine wp_region_later (W := wz) (by kernel_rfl) (by kernel_rfl) (Ext.refl _) ?_
          repeat (go_big_quiet_step (first | (go_at_call 89; exact Rets.later_at (HNX.out _ grows)) | fail))
          refine wpQuiet_nil ?_
          intro w9 x9
          go_wp2_with fail
          go_roundw
          case rel =>
            obtain ⟨j1, j2, j3⟩ := HKEEP.out
            rw [← HXR.out] at j1 j2 j3
            have hor := Ps.leads_or HNE.out
            have hln := HLN.out
            refine ⟨s', rfl, ?_, Lib.hid ⟨n, _, xE, xp, vs2, ent ++ [(k : Int)], X8.out.trans x9, ⟨x9.heap KC0.out, x9.heap KC1.out, x9.heap KC8.out, x9.heap KC9.out⟩, O8.out.ext x9, own_ext R8.out x9, ?_, j1, j2, j3, ?_, ?_, ?_, ?_⟩⟩
            · rcases hor with e | e | e
              · exact .inl e
              · exact .inr (.inl e)
              · exact .inr (.inr (by omega))
            · exact own_ext S8.out x9
            · rw [HRES.out, Ps.go_read HXK.out (by rw [← HXR.out]), ← HXR.out, HS'.out]
            · have := HN1.out (by omega); rcases hor with e | e | e <;> omega
            · have := HN1.out (by omega); omega
            · simp; omega
          case measure => exact Ps.left_lt hk HNE.out
        · have z1 : (xe != 0) = true := bne_iff_ne.2 hz
          have HR2 : Hid (R = (E0, ent ++ [(k : Int)], xe)) := Lib.hid (by rw [HRES.out, Ps.go_err HXK.out (by rw [← HXR.out]; exact hz), ← HXR.out, HE0.out])
          clear hz
          go_wp2_with fail
          refine (HNEW.out _ grows).mono ?_
          rintro e w9 ⟨ev9, vs9, rfl, x9, o9⟩
          obtain ⟨y0, y1, y2, y3, z0, z1, z2, z3, hg⟩ := o9.isE.form
          obtain ⟨rfl, _, _, _, _, _, _, _, _⟩ := hg
          dsimp only [Pg.EV.val]
          have s9 := Step.mk x9
          have X9 := Lib.hid x9
          have O9 := Lib.hid (o9.base X8.out.le)
          clear x9 o9
          go_wp2_with fail
          obtain ⟨tz1, tz2⟩ := tower4 (.slice y0 E0.va.length z0) (.slice y1 E0.fi.length z1) (.slice y2 E0.me.length z2) (.slice y3 E0.pl.length z3) (X9.out.heap KC1.out)
          obtain ⟨wz, hwz⟩ : ∃ z, z = ((((w9.setCell ⟨W.heap.size + 1, 0, none⟩ (.slice y0 E0.va.length z0)).setCell ⟨W.heap.size + 1, 1, none⟩ (.slice y1 E0.fi.length z1)).setCell ⟨W.heap.size + 1, 2, none⟩ (.slice y2 E0.me.length z2)).setCell ⟨W.heap.size + 1, 3, none⟩ (.slice y3 E0.pl.length z3)) := ⟨_, rfl⟩
          rw [← hwz] at tz1 tz2 ⊢
          have c0 : wz.cell? ⟨W.heap.size + 1, 0, none⟩ = some (.slice y0 E0.va.length z0) := cell_of tz2
          have c1 : wz.cell? ⟨W.heap.size + 1, 1, none⟩ = some (.slice y1 E0.fi.length z1) := cell_of tz2
          have c2 : wz.cell? ⟨W.heap.size + 1, 2, none⟩ = some (.slice y2 E0.me.length z2) := cell_of tz2
          have c3 : wz.cell? ⟨W.heap.size + 1, 3, none⟩ = some (.slice y3 E0.pl.length z3) := cell_of tz2
          exact bodyPost_ret (v := .tuple #[.agg #[.slice y0 E0.va.length z0, .slice y1 E0.fi.length z1, .slice y2 E0.me.length z2, .slice y3 E0.pl.length z3], .slice oa5 (ent.length + 1) c5, .int .i64 xe]) (by simp [results, Try.results55, go_sem, c0, c1, c2, c3]) rfl (run_ret (ev := ⟨.slice y0 E0.va.length z0, .slice y1 E0.fi.length z1, .slice y2 E0.me.length z2, .slice y3 E0.pl.length z3⟩) (vs := vs9) HR2.out ((X8.out.trans X9.out).mod tz1 (fun q hq => by rw [hq]; omega)) (OwnE.box (O9.out) tz1 (X9.out.heap KC1.out)) (own_box (own_ext S8.out X9.out) tz1 (X9.out.heap KC1.out) (by decide)))
      · have hsn : t < 0 := by omega
        obtain ⟨n, rfl⟩ : ∃ m, n = m + 1 := ⟨n - 1, by have := hn2 hsn; omega⟩
        have hel : ent.length ≤ ss.length + 1 := by omega
        rcases hcs with rfl | rfl | hcs
        · obtain ⟨rl, hrl⟩ : ∃ z, z = l.drop (pos' / 8) := ⟨_, rfl⟩
          have HRL := Lib.hid hrl
          have HREST : Hid (∀ w, Ext wo w → Calls Try.prog 90 #[.agg #[.slice xa l.length xc, .int .i64 (pos' : Int)]] w (fun e w' => ∃ v, e = .returned (.tuple #[v, .int .i64 0]) ∧ Ext w w' ∧ w'.ownsRow w.heap.size 5 1 v rl.length (u8s rl))) := Lib.hid (fun w hx => by
            have h := rRest_any (own_ext HRD.out hx) HPL.out hl
            unfold Io.rsE Io.rsL at h
            rw [if_pos H8.out, if_pos H8.out, ← HRL.out] at h; exact h)
          have HR2 : Hid (R = (⟨E'.va, E'.fi, E'.me, rl⟩, ent, 0)) := Lib.hid (by rw [HRES.out, Ps.go_acc, HRL.out])
          clear hn1 hn2 hln hs hsn hrl
          go_wp2_with fail
          refine (HREST.out _ grows).mono ?_
          rintro e w8 ⟨v, rfl, x8, o8⟩
          obtain ⟨oav, cv, rfl⟩ := own_slice o8
          have s8 := Step.mk x8
          have kd7 := x8.heap K8.out
          have md : Mod (· = g8) w8 (w8.setCell ⟨g8, 3, none⟩ (.slice oav rl.length cv)) := mod_set
          have kd8 := setCell_heap (o := 3) (v := .slice oav rl.length cv) kd7
          obtain ⟨w9, h9⟩ : ∃ z, z = w8.setCell ⟨g8, 3, none⟩ (.slice oav rl.length cv) := ⟨_, rfl⟩
          rw [← h9] at md kd8
          have H9 := Lib.hid h9
          have kd1 := md.heap (x8.heap K1.out) (by have := H89.out; omega)
          have X9 : Hid (Ext W w9) := Lib.hid ((HX.out.trans x8).mod md (fun q hq => by have := H89.out; rw [hq]; omega))
          have O9 := Lib.hid (OwnE.plNew (OwnE.box (HO.out.ext x8) md kd7) (own_base (own_box o8 md kd7 (by decide)) (HX.out.le)) (fun b hb => HBY.out b (List.mem_of_mem_drop (by rw [← HRL.out]; exact hb))))
          have S9 := Lib.hid (own_box (own_ext HSO.out x8) md kd7 (by decide))
          have KD1 := Lib.hid kd1
          have KD8 := Lib.hid kd8
          have s9 : Step W w9 := Step.mk X9.out
          clear x8 o8 md kd1 kd7 kd8 h9
          go_upto_region 17 with (fail)
          rw [← H9.out]
          clear pc0 pc1 pc2 pc3 pc4 pc5 pc6 pc7 pc8 rc0 rc1 rc2 rc3 rf0 rf1 rf2 rf3 qc0 qc1 qc2 qc3 qf0 qf1 qf2 qf3 s8
          have qc0 : w9.cell? ⟨g8, 0, none⟩ = some (.slice y0 E'.va.length z0) := cell_of KD8.out
          have qc1 : w9.cell? ⟨g8, 1, none⟩ = some (.slice y1 E'.fi.length z1) := cell_of KD8.out
          have qc2 : w9.cell? ⟨g8, 2, none⟩ = some (.slice y2 E'.me.length z2) := cell_of KD8.out
          have qc3 : w9.cell? ⟨g8, 3, none⟩ = some (.slice oav rl.length cv) := cell_of KD8.out
          have kd1 := KD1.out
          have rc0 := alw (cell_of (o := 0) kd1)
          have rc1 := alw (cell_of (o := 1) kd1)
          have rc2 := alw (cell_of (o := 2) kd1)
          have rc3 := alw (cell_of (o := 3) kd1)
          have rf0 := alwF (o := 0) kd1
          have rf1 := alwF (o := 1) kd1
          have rf2 := alwF (o := 2) kd1
          have rf3 := alwF (o := 3) kd1
          clear kd1
          go_wp2_with fail
          obtain ⟨tz1, tz2⟩ := tower4 (.slice y0 E'.va.length z0) (.slice y1 E'.fi.length z1) (.slice y2 E'.me.length z2) (.slice oav rl.length cv) (KD1.out)
          obtain ⟨wz, hwz⟩ : ∃ z, z = ((((w9.setCell ⟨W.heap.size + 1, 0, none⟩ (.slice y0 E'.va.length z0)).setCell ⟨W.heap.size + 1, 1, none⟩ (.slice y1 E'.fi.length z1)).setCell ⟨W.heap.size + 1, 2, none⟩ (.slice y2 E'.me.length z2)).setCell ⟨W.heap.size + 1, 3, none⟩ (.slice oav rl.length cv)) := ⟨_, rfl⟩
          rw [← hwz] at tz1 tz2 ⊢
          have c0 : wz.cell? ⟨W.heap.size + 1, 0, none⟩ = some (.slice y0 E'.va.length z0) := cell_of tz2
          have c1 : wz.cell? ⟨W.heap.size + 1, 1, none⟩ = some (.slice y1 E'.fi.length z1) := cell_of tz2
          have c2 : wz.cell? ⟨W.heap.size + 1, 2, none⟩ = some (.slice y2 E'.me.length z2) := cell_of tz2
          have c3 : wz.cell? ⟨W.heap.size + 1, 3, none⟩ = some (.slice oav rl.length cv) := cell_of tz2
          exact bodyPost_ret (v := .tuple #[.agg #[.slice y0 E'.va.length z0, .slice y1 E'.fi.length z1, .slice y2 E'.me.length z2, .slice oav rl.length cv], .slice oas ent.length csv, .int .i64 0]) (by simp [results, Try.results55, go_sem, c0, c1, c2, c3]) rfl (run_ret (ev := ⟨.slice y0 E'.va.length z0, .slice y1 E'.fi.length z1, .slice y2 E'.me.length z2, .slice oav rl.length cv⟩) (vs := vs') HR2.out ((X9.out).mod tz1 (fun q hq => by rw [hq]; omega)) (OwnE.box (O9.out) tz1 (KD1.out)) (own_box S9.out tz1 KD1.out (by decide)))
        · have HR2 : Hid (R = (E0, ent, 15)) := Lib.hid (by rw [HRES.out, Ps.go_rej, HE0.out])
          clear hn1 hn2 hln hs hsn
          go_wp2_with fail
          refine (HNEW.out _ grows).mono ?_
          rintro e w8 ⟨ev8, vs8, rfl, x8, o8⟩
          obtain ⟨u0, u1, u2, u3, z0', z1', z2', z3', hg⟩ := o8.isE.form
          obtain ⟨rfl, _, _, _, _, _, _, _, _⟩ := hg
          dsimp only [Pg.EV.val]
          have s8 := Step.mk x8
          have X8 := Lib.hid x8
          have O8 := Lib.hid (o8.base HX.out.le)
          clear x8 o8
          go_wp2_with fail
          obtain ⟨tz1, tz2⟩ := tower4 (.slice u0 E0.va.length z0') (.slice u1 E0.fi.length z1') (.slice u2 E0.me.length z2') (.slice u3 E0.pl.length z3') (X8.out.heap K1.out)
          obtain ⟨wz, hwz⟩ : ∃ z, z = ((((w8.setCell ⟨W.heap.size + 1, 0, none⟩ (.slice u0 E0.va.length z0')).setCell ⟨W.heap.size + 1, 1, none⟩ (.slice u1 E0.fi.length z1')).setCell ⟨W.heap.size + 1, 2, none⟩ (.slice u2 E0.me.length z2')).setCell ⟨W.heap.size + 1, 3, none⟩ (.slice u3 E0.pl.length z3')) := ⟨_, rfl⟩
          rw [← hwz] at tz1 tz2 ⊢
          have c0 : wz.cell? ⟨W.heap.size + 1, 0, none⟩ = some (.slice u0 E0.va.length z0') := cell_of tz2
          have c1 : wz.cell? ⟨W.heap.size + 1, 1, none⟩ = some (.slice u1 E0.fi.length z1') := cell_of tz2
          have c2 : wz.cell? ⟨W.heap.size + 1, 2, none⟩ = some (.slice u2 E0.me.length z2') := cell_of tz2
          have c3 : wz.cell? ⟨W.heap.size + 1, 3, none⟩ = some (.slice u3 E0.pl.length z3') := cell_of tz2
          exact bodyPost_ret (v := .tuple #[.agg #[.slice u0 E0.va.length z0', .slice u1 E0.fi.length z1', .slice u2 E0.me.length z2', .slice u3 E0.pl.length z3'], .slice oas ent.length csv, .int .i64 15]) (by simp [results, Try.results55, go_sem, c0, c1, c2, c3]) rfl (run_ret (ev := ⟨.slice u0 E0.va.length z0', .slice u1 E0.fi.length z1', .slice u2 E0.me.length z2', .slice u3 E0.pl.length z3'⟩) (vs := vs8) HR2.out ((HX.out.trans X8.out).mod tz1 (fun q hq => by rw [hq]; omega)) (OwnE.box (O8.out) tz1 (X8.out.heap K1.out)) (own_box (own_ext HSO.out X8.out) tz1 (X8.out.heap K1.out) (by decide)))
        · omega
  · have z1 : (bd != 0) = true := bne_iff_ne.2 hb
    have HR2 : Hid (R = (E0, [], bd)) := Lib.hid (by rw [HRR.out]; unfold Ps.parse; rw [← HBD.out, if_neg hb, HE0.out])
    have K1 := Lib.hid (show w1.heap[W.heap.size + 1]? = some (.cells #[.slice none 0 0, .slice none 0 0, .slice none 0 0, .slice none 0 0] 37 (0, 0)) from alwB BRX.out _)
    have X1 : Hid (Ext W w1) := Lib.hid grows
    clear hb
    go_wp2_with fail
    refine (HNEW.out _ grows).mono ?_
    rintro e w8 ⟨ev8, vs8, rfl, x8, o8⟩
    obtain ⟨y0, y1, y2, y3, z0, z1, z2, z3, hg⟩ := o8.isE.form
    obtain ⟨rfl, _, _, _, _, _, _, _, _⟩ := hg
    dsimp only [Pg.EV.val]
    have s8 := Step.mk x8
    have X8 := Lib.hid x8
    have O8 := Lib.hid (o8.base X1.out.le)
    clear x8 o8
    go_wp2_with fail
    obtain ⟨tz1, tz2⟩ := tower4 (.slice y0 E0.va.length z0) (.slice y1 E0.fi.length z1) (.slice y2 E0.me.length z2) (.slice y3 E0.pl.length z3) (X8.out.heap K1.out)
    obtain ⟨wz, hwz⟩ : ∃ z, z = ((((w8.setCell ⟨W.heap.size + 1, 0, none⟩ (.slice y0 E0.va.length z0)).setCell ⟨W.heap.size + 1, 1, none⟩ (.slice y1 E0.fi.length z1)).setCell ⟨W.heap.size + 1, 2, none⟩ (.slice y2 E0.me.length z2)).setCell ⟨W.heap.size + 1, 3, none⟩ (.slice y3 E0.pl.length z3)) := ⟨_, rfl⟩
    rw [← hwz] at tz1 tz2 ⊢
    have c0 : wz.cell? ⟨W.heap.size + 1, 0, none⟩ = some (.slice y0 E0.va.length z0) := cell_of tz2
    have c1 : wz.cell? ⟨W.heap.size + 1, 1, none⟩ = some (.slice y1 E0.fi.length z1) := cell_of tz2
    have c2 : wz.cell? ⟨W.heap.size + 1, 2, none⟩ = some (.slice y2 E0.me.length z2) := cell_of tz2
    have c3 : wz.cell? ⟨W.heap.size + 1, 3, none⟩ = some (.slice y3 E0.pl.length z3) := cell_of tz2
    exact bodyPost_ret (v := .tuple #[.agg #[.slice y0 E0.va.length z0, .slice y1 E0.fi.length z1, .slice y2 E0.me.length z2, .slice y3 E0.pl.length z3], .slice none 0 0, .int .i64 bd]) (by simp [results, Try.results55, go_sem, c0, c1, c2, c3]) rfl (run_ret (ev := ⟨.slice y0 E0.va.length z0, .slice y1 E0.fi.length z1, .slice y2 E0.me.length z2, .slice y3 E0.pl.length z3⟩) (vs := vs8) HR2.out ((X1.out.trans X8.out).mod tz1 (fun q hq => by rw [hq]; omega)) (OwnE.box (O8.out) tz1 (X8.out.heap K1.out)) (World.ownsRow_nil _ _ _ _))
end Go.Proofs.Ytonnlcjkgpahoaa
