/- appendCall, walked. A region that draws its order, walked (XRelD) in an order that the walk names: one operation at a time, what has come up is an array. No program in sight, no condition. appendOp, walked. encodable (of what can be encoded), Encode, walked. What a transaction that succeeds holds can be encoded, plainly. The decoder: number, require, id, walked. No condition. -/
import Derived.Test.YthmokhkkdgnbhaaGreatJqAP
import Derived.BigQuiet
set_option maxRecDepth 8000
set_option maxHeartbeats 16000000
namespace Go.Proofs.YthmokhkkdgnbhaaGreat
open Go.RowKit
theorem Us.at {w : World} {a : Option Addr} {n c : Nat} {l : List Int} (h : Tj.Us w (.slice a n c) l) (hl : 0 < l.length) : ∃ b o, a = some ⟨b, o, none⟩ ∧ ∀ (j : Nat) (x : Int), l[j]? = some x → w.cell? ⟨b, o + j, none⟩ = some (.int .u32 x) := by
 obtain ⟨⟨hs, _⟩, _⟩ := h
 rcases hs.2.2 with ⟨_, h0⟩ | ⟨ad, c2, e2, _⟩
 ·omega
 ·simp only [Value.slice.injEq] at e2
  obtain ⟨rfl, rfl, _⟩ := e2
  obtain ⟨e3, _, h4⟩ := Src.at hs hl
  exact ⟨ad.block, ad.off, by rw [← e3], fun j x hj => h4 j _ (by simp [hj])⟩
theorem acall_any {W w : World} {v : Value} {xs : List Int} (hx : Ext W w) (ho : w.ownsRow W.heap.size 5 1 v xs.length (u8s xs)) (hl : xs.length ≤ 900000) {c : Tj.Call} {ga : Option Addr} {gc : Nat} (hc : Tj.Us W (.slice ga c.ar.length gc) c.ar) (hok : Jn.okC c) :
 Calls Tryz.prog 117 #[v, .agg #[.int .i64 c.a, .slice ga c.ar.length gc]] w (EncP W w (xs ++ Jn.eCall c)) := by
 obtain ⟨⟨hk0, hk1⟩, hk2⟩ := hok
 obtain ⟨wb, hwb⟩ : ∃ z, z = w.alloc (.cells #[.int .i64 c.a, .slice ga c.ar.length gc] 63) := ⟨_, rfl⟩
 have bx := aH w (.cells #[.int .i64 c.a, .slice ga c.ar.length gc] 63)
 rw [← hwb] at bx
 have xb : Ext w wb := by rw [hwb]; exact grows
 have HBX := Lh bx
 have HX := Lh (hx.trans xb)
 have HKB : Hid (Kp JT w wb) := Lh (Kp.ext xb)
 have HA1 : Hid (Calls Tryz.prog 116 #[v, .int .i64 c.a, .int .i64 2] wb (EncP W wb (xs ++ Jn.bn 2 c.a))) := Lh (anum_any (hx.trans xb) (own_ext ho xb) (by omega) 2 (by omega) c.a ⟨hk0, by omega⟩)
 have HC := Lh hc
 have ew : (c.ar.length : Int) % 256 = c.ar.length := by omega
 have k0 := cQ 0 bx
 rw [hwb] at k0
 have k0 := alw k0
 clear hx ho hc bx
 go_enter Tryz.func117, Tryz.ntmps117
 go_wp2_with fail
 rw [← hwb]
 clear hwb
 refine HA1.out.mono ?_
 rintro e w1 ⟨v1, rfl, x1, o1, q1⟩
 obtain ⟨a1, c1, rfl⟩ := own_slice o1
 have b1 := q1 _ _ _ _ (by decide) HBX.out
 have HK1 := Lh (HKB.out.trans q1)
 have HX1 := Lh x1
 have hle1 := x1.le
 have k1 := alw (cQ 1 b1)
 have HB1 := Lh b1
 have hYl : (xs ++ Jn.bn 2 c.a).length ≤ 900002 := by rw [List.length_append, Jn.bn_len]; omega
 obtain ⟨Y, hY⟩ : ∃ z, z = xs ++ Jn.bn 2 c.a := ⟨_, rfl⟩
 rw [← hY] at o1 hYl
 rw [← hY]
 have HO1 := Lh o1
 have HYE := Lh hY
 clear x1 o1 q1 b1 hY
 go_wp2_with (at_builtin; refine wpList_append_fresh rfl (.tmp 11) (.tmp 16) 48 rfl W.heap.size 5 (.int .u8 0) 1 1 Tryz.underlying48 cinf_byt rfl (by decide) (.slice a1 Y.length c1) (Y).length (u8s (Y)) rfl (own_ext HO1.out ((eR w1).alloc _)) _ 1 _ rfl (src_one w1 _ _ rfl) (by unfold maxLen; omega) (by omega) (by simp only [szA]; omega) ?_)
 intro v' w2 hown hgr hfr
 obtain ⟨a2, c2, rfl⟩ := own_slice hown
 have HX2 := Lh (ext_grown HX1.out HO1.out hgr)
 have HK2 := Lh (HK1.out.trans (kp_grown HO1.out hgr))
 have HB2 := Lh ((kp_grown HO1.out hgr) _ _ _ _ (by decide) HB1.out)
 have o2 := own_byte hown
 have hle2 := HX2.out.le
 obtain ⟨Z, hZ⟩ : ∃ z, z = Y ++ [(c.ar.length : Int)] := ⟨_, rfl⟩
 rw [← hZ] at o2
 have hlZ : Z.length = Y.length + 1 := by rw [hZ, List.length_append]; rfl
 rw [← hlZ] at o2
 have HO2 := Lh o2
 have HZ := Lh hZ
 clear hown hgr hfr o2 hZ
 have hZl : Z.length ≤ 900003 := by omega
 rw [← hlZ]
 clear hlZ
 have k1 := alw (cQ 1 HB2.out)
 go_wp2_with fail
 go_loopw [0, 21] (fun q i wr => ∃ k : Nat, k ≤ c.ar.length ∧ i = .int .i64 k ∧ ∃ qa qc, q = .slice qa (Z ++ (c.ar.take k).flatMap (Jn.bn 4)).length qc ∧ Hid (Ext W wr ∧ wr.ownsRow W.heap.size 5 1 (.slice qa (Z ++ (c.ar.take k).flatMap (Jn.bn 4)).length qc) (Z ++ (c.ar.take k).flatMap (Jn.bn 4)).length (u8s (Z ++ (c.ar.take k).flatMap (Jn.bn 4))) ∧ Kp JT w wr)) (fun _ i _ => c.ar.length - (intOf i).toNat)
 case atStart => exact ⟨0, Nat.zero_le _, rfl, a2, c2, by simp, Lh ⟨HX2.out, by simpa using HO2.out, HK2.out⟩⟩
 case round =>
  obtain ⟨k, hk, rfl, qa, qc, rfl, HQ⟩ := hrel
  have hdl : (Z ++ (c.ar.take k).flatMap (Jn.bn 4)).length ≤ 1000000 := by
   have h2 := Jn.flat_len (f := Jn.bn 4) (n := 4) (l := c.ar.take k) (fun x _ => by rw [Jn.bn_len]; omega)
   rw [List.length_take] at h2
   rw [List.length_append]; omega
  obtain ⟨V, hV⟩ : ∃ z, z = Z ++ (c.ar.take k).flatMap (Jn.bn 4) := ⟨_, rfl⟩
  rw [← hV] at hdl HQ
  rw [← hV]
  have HV := Lh hV
  have sQ : Step W wr := Sm HQ.out.1
  clear hV
  by_cases hlt : k < c.ar.length
  ·obtain ⟨x, hx⟩ : ∃ x, c.ar[k]? = some x := ⟨_, gE hlt⟩
   obtain ⟨b, o, rfl, hat⟩ := Us.at (HC.out.ext HQ.out.1) (by omega)
   have y0 := alw (hat k x hx)
   have hxu := HC.out.2 x (List.mem_of_getElem? hx)
   obtain ⟨hu0, hu1⟩ := hxu
   have HTK := Lh (take_succ_get hx)
   have HA : Hid (Calls Tryz.prog 116 #[.slice qa V.length qc, .int .i64 x, .int .i64 4] wr (EncP W wr (V ++ Jn.bn 4 x))) := Lh (anum_any HQ.out.1 HQ.out.2.1 hdl 4 (by omega) x ⟨hu0, by omega⟩)
   clear hx hat
   go_wp2_with fail
   refine HA.out.mono ?_
   rintro e w3 ⟨v3, rfl, x3, o3, q3⟩
   obtain ⟨a3, c3, rfl⟩ := own_slice o3
   have HN : Hid (Ext W w3 ∧ w3.ownsRow W.heap.size 5 1 (.slice a3 (V ++ Jn.bn 4 x).length c3) (V ++ Jn.bn 4 x).length (u8s (V ++ Jn.bn 4 x)) ∧ Kp JT w w3) := Lh ⟨x3, o3, HQ.out.2.2.trans q3⟩
   have HE : Hid (Z ++ (c.ar.take (k + 1)).flatMap (Jn.bn 4) = V ++ Jn.bn 4 x) := Lh (by rw [HTK.out, List.flatMap_append, ← List.append_assoc, ← HV.out]; simp)
   clear x3 o3 q3
   go_wp2_with fail
   go_roundw
   case rel => exact ⟨k + 1, by omega, by go_num, a3, c3, by rw [HE.out, List.length_append], Lh (by rw [HE.out]; exact HN.out)⟩
   case measure => simp [intOf]; omega
  ·obtain rfl : k = c.ar.length := by omega
   go_wp2_with fail
   go_ret
   have hfin : V = xs ++ Jn.eCall c := by
    rw [HV.out, List.take_length, HZ.out, HYE.out]; unfold Jn.eCall; simp
   rw [hfin] at HQ ⊢
   exact ⟨_, rfl, HQ.out.1, HQ.out.2.1, HQ.out.2.2⟩
namespace RelD
section
variable {P : Program} {Q : Exit → Act → World → Prop} {md : Region.Mode} {C : World → Prop} {d : Nat}
/-- operation k may be taken where D has come up, and d waits for it -/
def oneB (md : Region.Mode) (L : List Oper) (d : Nat) (D : Array Bool) (k : Nat) : Bool :=
 Region.noSelect L.toArray && Region.free md L.toArray D k && (Region.ready md L.toArray D).contains k && Region.waitsFor md L.toArray d k && !(D.getD d true) && ((L.drop k).take 1).all Rel.pureB && decide (k < L.length)
theorem takeG {L : List Oper} {k fuel : Nat} {D : Array Bool} {o : Oper} {v : Value} {a : Act} {w : World} (ho : L.toArray[k]? = some o) (hb : oneB md L d D k = true) (hy : YD P L.toArray C o v a) (hC : C w)
 (h : anyD P md L.toArray (calm Q) C d fuel (D.setIfInBounds k true) (a.put o.dst v) w) : anyD P md L.toArray (calm Q) C d (fuel + 1) D a w := by
 simp only [oneB, Bool.and_eq_true, decide_eq_true_eq, Bool.not_eq_true'] at hb
 obtain ⟨⟨⟨⟨⟨⟨hs, h1⟩, h2⟩, h3⟩, h4⟩, _⟩, _⟩ := hb
 obtain ⟨od, hd, e, he, hbi, hon⟩ := Region.waitsFor_spec h3
 exact anyD_first (Q := calm Q) ho (Region.noSelect_spec hs) (fun c a w h => h) hd ⟨e, he, hbi, hon⟩ fuel _ a w (Region.free_spec ho h1) (by simpa using h2) h4 hy hC h
/-- one operation that only reads -/
theorem oneL {L : List Oper} (k : Nat) {fuel' : Nat} (fuel : Nat) {D : Array Bool} {a : Act} {w : World} (hf : fuel' = fuel + 1) (hb : oneB md L d D k = true) (hC : C w)
 (h : wpQuiet P L.toArray (fun w' => ∃ x : Wh C, w' = x.val) (fun a' => anyD P md L.toArray (calm Q) C d fuel (D.setIfInBounds k true) a' w) ((L.drop k).take 1) a) : anyD P md L.toArray (calm Q) C d fuel' D a w := by
 subst hf
 have hb' := hb
 simp only [oneB, Bool.and_eq_true, decide_eq_true_eq] at hb'
 obtain ⟨⟨_, hp⟩, hk⟩ := hb'
 obtain ⟨o, ho⟩ : ∃ o, L[k]? = some o := ⟨_, gE hk⟩
 have e : (L.drop k).take 1 = [o] := by
  rw [List.drop_eq_getElem_cons hk]
  have := (List.getElem?_eq_some_iff.1 ho).2
  rw [this]; rfl
 rw [e] at h hp
 have h0 : L.toArray[k]? = some o := by simpa using ho
 simp only [List.all_cons, List.all_nil, Bool.and_true] at hp
 simp only [wpQuiet] at h
 by_cases hw : Region.wanted o (yielded L.toArray a.tmps) = true
 ·rw [if_pos hw] at h
  obtain ⟨v0, hv, hk⟩ := h
  refine takeG (v := v0) h0 hb (.inl ⟨hw, fun w' hw' => ?_⟩) hC hk
  have h1 := hv w' ⟨⟨w', hw'⟩, rfl⟩
  have hn := fun w'' f args => Rel.no_enter (P := P) (w := w') (w' := w'') (f := f) (args := args) hp (ρ := a.eval)
  unfold Oper.quietAt at h1
  generalize (execOp a.eval o).run P w' = res at h1 hn
  cases res with
  | ok n w2 =>
   cases n <;> simp only [Oper.quietUpon] at h1
   case value x => left; rw [h1.1, h1.2]
   case skip => right; exact ⟨by rw [h1.1], h1.2⟩
   case enter f args => exact absurd rfl (hn w2 f args)
  | halt x w2 => simp only [Oper.quietUpon] at h1
 ·rw [if_neg hw] at h
  exact takeG (v := undef) h0 hb (.inr ⟨by simpa using hw, rfl⟩) hC h
theorem anyD_firstT {ops : Array Oper} {i : Nat} {oi : Oper} {v : Value} (hi : ops[i]? = some oi) (hsel : ∀ (j : Nat) (o : Oper) cs b, ops[j]? = some o → o.op ≠ .select cs b)
 (hQ : ∀ c a w, Q (.panic c) (a.put oi.dst v) w → Q (.panic c) a w) (hid : i ≠ d) :
 ∀ (fuel : Nat) (listed : Array Bool) (a : Act) (w : World),
  (∀ j oj, ops[j]? = some oj → j ≠ i → listed.getD j true = false → (∀ e ∈ oj.after, Region.binds md e = true → e.on ≠ i) → oi.apart ops oj = true) →
  i ∈ Region.ready md ops listed → YD P ops (fun _ => True) oi v a → (listed.getD d true = false → C w) →
  anyD P md ops Q C d fuel (listed.setIfInBounds i true) (a.put oi.dst v) w → anyD P md ops Q C d (fuel + 1) listed a w := by
 intro fuel
 induction fuel with
 | zero =>
  intro listed a w _ hr hy hS H
  refine ⟨fun h => (by rw [h] at hr; cases hr), fun j hj => ?_⟩
  by_cases hji : j = i
  ·subst hji; exact hy.wpOp hi trivial ⟨fun h => hS (by rw [getD_set_ne true hid] at h; exact h), H⟩
  ·have := ready_mono hj hji
   rw [H.1] at this
   cases this
 | succ fuel ih =>
  intro listed a w hfree hr hy hS H
  refine ⟨fun h => (by rw [h] at hr; cases hr), fun j hj => ?_⟩
  by_cases hji : j = i
  ·subst hji; exact hy.wpOp hi trivial ⟨fun h => hS (by rw [getD_set_ne true hid] at h; exact h), H⟩
  ·have h1 := H.2 j (ready_mono hj hji)
   obtain ⟨hjun, oj, hoj, hall⟩ := mem_ready.1 hj
   have hnl : listed.getD i false = true → False := fun h1 => by
    have h0 := (mem_ready.1 hr).1
    rcases Nat.lt_or_ge i listed.size with h' | h'
    ·simp [h'] at h0 h1; rw [h0] at h1; cases h1
    ·simp [Array.getElem?_eq_none h'] at h1
   have hnot : ∀ e ∈ oj.after, Region.binds md e = true → e.on ≠ i := fun e he hb heq => by
    have h1 := hall e he hb
    rw [heq] at h1; exact hnl h1
   have h2 := wpOp_putD hoj (hfree j oj hoj hji hjun hnot) (fun cs b => hsel i oi cs b hi) (fun cs b => hsel j oj cs b hoj) hQ hy h1
   have hfree' : ∀ k ok, ops[k]? = some ok → k ≠ i → (listed.setIfInBounds j true).getD k true = false →
    (∀ e ∈ ok.after, Region.binds md e = true → e.on ≠ i) → oi.apart ops ok = true := fun k ok hk hki hun hno => by
    refine hfree k ok hk hki ?_ hno
    by_cases hjk : j = k
    ·subst hjk; exact hjun
    ·rw [getD_set_ne true hjk] at hun; exact hun
   have hcm : (listed.setIfInBounds i true).setIfInBounds j true = (listed.setIfInBounds j true).setIfInBounds i true := Array.setIfInBounds_comm _ _ (fun e => hji e.symm)
   refine wpOp_mono (fun a' w' h3 => ?_) h2
   obtain ⟨h4, h5, h6⟩ := h3
   rw [hcm] at h5 h6
   have hC' : (listed.setIfInBounds j true).getD d true = false → C w' := fun h => h5 (by rw [getD_set_ne true hid]; exact h)
   exact ⟨hC', ih (listed.setIfInBounds j true) a' w' hfree' (ready_mono hr (Ne.symm hji)) h4 hC' h6⟩
/-- operation k, which reads no memory, may be taken where D has come up -/
def oneTB (md : Region.Mode) (L : List Oper) (d : Nat) (D : Array Bool) (k : Nat) : Bool :=
 Region.noSelect L.toArray && Region.free md L.toArray D k && (Region.ready md L.toArray D).contains k && ((L.drop k).take 1).all Rel.pureB && decide (k < L.length) && decide (k ≠ d)
theorem oneT {L : List Oper} (k : Nat) {fuel' : Nat} (fuel : Nat) {D : Array Bool} {a : Act} {w : World} (hf : fuel' = fuel + 1) (hb : oneTB md L d D k = true) (hC : D.getD d true = false → C w)
 (h : wpQuiet P L.toArray (fun w' => ∃ x : Wh (fun _ => True), w' = x.val) (fun a' => anyD P md L.toArray (calm Q) C d fuel (D.setIfInBounds k true) a' w) ((L.drop k).take 1) a) : anyD P md L.toArray (calm Q) C d fuel' D a w := by
 subst hf
 simp only [oneTB, Bool.and_eq_true, decide_eq_true_eq] at hb
 obtain ⟨⟨⟨⟨⟨hs, h1⟩, h2⟩, hp⟩, hk⟩, hkd⟩ := hb
 obtain ⟨o, ho⟩ : ∃ o, L[k]? = some o := ⟨_, gE hk⟩
 have e : (L.drop k).take 1 = [o] := by
  rw [List.drop_eq_getElem_cons hk]
  have := (List.getElem?_eq_some_iff.1 ho).2
  rw [this]; rfl
 rw [e] at h hp
 have h0 : L.toArray[k]? = some o := by simpa using ho
 simp only [List.all_cons, List.all_nil, Bool.and_true] at hp
 simp only [wpQuiet] at h
 have take : ∀ v, YD P L.toArray (fun _ => True) o v a → anyD P md L.toArray (calm Q) C d fuel (D.setIfInBounds k true) (a.put o.dst v) w → anyD P md L.toArray (calm Q) C d (fuel + 1) D a w := fun v hy h =>
  anyD_firstT (Q := calm Q) h0 (Region.noSelect_spec hs) (fun c a w h => h) hkd fuel _ a w (Region.free_spec h0 h1) (by simpa using h2) hy hC h
 by_cases hw : Region.wanted o (yielded L.toArray a.tmps) = true
 ·rw [if_pos hw] at h
  obtain ⟨v0, hv, hk⟩ := h
  refine take v0 (.inl ⟨hw, fun w' hw' => ?_⟩) hk
  have h1 := hv w' ⟨⟨w', hw'⟩, rfl⟩
  have hn := fun w'' f args => Rel.no_enter (P := P) (w := w') (w' := w'') (f := f) (args := args) hp (ρ := a.eval)
  unfold Oper.quietAt at h1
  generalize (execOp a.eval o).run P w' = res at h1 hn
  cases res with
  | ok n w2 =>
   cases n <;> simp only [Oper.quietUpon] at h1
   case value x => left; rw [h1.1, h1.2]
   case skip => right; exact ⟨by rw [h1.1], h1.2⟩
   case enter f args => exact absurd rfl (hn w2 f args)
  | halt x w2 => simp only [Oper.quietUpon] at h1
 ·rw [if_neg hw] at h
  exact take undef (.inr ⟨by simpa using hw, rfl⟩) h
/-- the checks of an operation that acts -/
def actB (md : Region.Mode) (L : List Oper) (D : Array Bool) (k : Nat) : Bool :=
 decide (k < L.length) && decide (Region.ready md L.toArray D = [k]) && (match L[k]? with | some o => o.guard.isNone | none => false)
/-- an operation that acts: none other may come up -/
theorem actL {L : List Oper} (k : Nat) {fuel' : Nat} (fuel : Nat) {D : Array Bool} {a : Act} {w : World} (hf : fuel' = fuel + 1) (hb : actB md L D k = true)
 (h : wpList P L.toArray (next C (!((D.setIfInBounds k true).getD d true)) (fun a' w' => anyD P md L.toArray (calm Q) C d fuel (D.setIfInBounds k true) a' w')) ((L.drop k).take 1) a w) : anyD P md L.toArray (calm Q) C d fuel' D a w := by
 subst hf
 simp only [actB, Bool.and_eq_true, decide_eq_true_eq] at hb
 obtain ⟨⟨h1, hr⟩, h3⟩ := hb
 obtain ⟨o, ho⟩ : ∃ o, L[k]? = some o := ⟨_, gE h1⟩
 rw [ho] at h3
 have hg : o.guard = none := by simpa using h3
 have e : (L.drop k).take 1 = [o] := by
  rw [List.drop_eq_getElem_cons h1]
  have := (List.getElem?_eq_some_iff.1 ho).2
  rw [this]; rfl
 rw [e] at h
 refine ⟨fun h0 => (by rw [hr] at h0; cases h0), fun i hi => ?_⟩
 rw [hr] at hi
 obtain rfl : i = k := by simpa using hi
 unfold wpOp
 have hw : Region.wanted o (yielded L.toArray a.tmps) = true := by simp [Region.wanted, hg]
 have ho' : L.toArray[i]? = some o := by simpa using ho
 simp only [ho']
 rw [if_pos hw]
 simp only [wpList] at h
 rw [if_pos hw] at h
 rcases h with h | ⟨_, h⟩
 ·left
  unfold Oper.wp at *
  generalize (execOp a.eval o).run P w = r at *
  have fin : ∀ a' w', next C (!((D.setIfInBounds i true).getD d true)) (fun a' w' => anyD P md L.toArray (calm Q) C d fuel (D.setIfInBounds i true) a' w') .normal a' w' →
   (((D.setIfInBounds i true).getD d true = false → C w') ∧ anyD P md L.toArray (calm Q) C d fuel (D.setIfInBounds i true) a' w') := fun a' w' h => ⟨fun hd => h.1 (by rw [hd]; rfl), h.2⟩
  cases r with
  | ok n w' =>
   cases n <;> simp only [Oper.upon] at h ⊢
   case value u => exact fin _ _ h
   case skip => exact fin _ _ h
   case defer d => exact fin _ _ h
   case enter f args =>
    refine Calls.mono h fun e w'' he => ?_
    cases e with
    | returned u => exact fin _ _ he
    | panicked c => exact he.elim
    | outgrown => obtain ⟨_, _, he⟩ := he; exact he.elim
   case row row args => exact Rows.mono h fun u w'' he => fin _ _ he
  | halt x w' =>
   cases x <;> simp only [Oper.upon] at h ⊢
   case panic u => exact h.elim
 ·obtain ⟨_, _, h⟩ := h; exact h.elim
theorem endL {L : List Oper} {fuel : Nat} {D : Array Bool} {a : Act} {w : World} (hr : Region.ready md L.toArray D = []) (h : Q .normal a w) : anyD P md L.toArray (calm Q) C d fuel D a w := by
 cases fuel with
 | zero => exact ⟨hr, h⟩
 | succ n => exact ⟨fun _ => h, by rw [hr]; simp⟩
end
end RelD
abbrev Yq29 (t : Int) (id : Int) (ka : Option Addr) (kc : Nat) (ks_length : Nat) (pr : Int) (ca : Int) (ga : Option Addr) (gc : Nat) (ar_length : Nat) (da : Int) (ha : Option Addr) (hc : Nat) (dr_length : Nat) : Array Value := #[.int .i64 1, .int .i64 t, .int .i64 id, .slice ka ks_length kc, .int .i64 pr, .int .i64 ca, .slice ga ar_length gc, .int .i64 da, .slice ha dr_length hc]
theorem aop_any {W w : World} {v : Value} {xs : List Int} (hx : Ext W w) (ho : w.ownsRow W.heap.size 5 1 v xs.length (u8s xs)) (hl : xs.length ≤ 800000) {cs : List Value} {o : Tj.TOp} (hr : Tj.TOpR W cs o) (hok : Jn.ok o) :
 Calls Tryz.prog 67 #[v, .agg cs.toArray] w (EncP W w (xs ++ Jn.eOp o)) := by
 obtain ⟨ka, kc, ga, gc, ha, hc, rfl, _, hks, har, hdr⟩ := hr
 obtain ⟨KK, t, id, ⟨ks, pr, ⟨ca, ar⟩⟩, ⟨da, dr⟩⟩ := o
 obtain ⟨a0, c0, rfl⟩ := own_slice ho
 obtain ⟨⟨ht0, ht1⟩, hcase⟩ := hok
 simp only at ht0 ht1 hcase hks har hdr
 have HKS := Lh hks
 have HAR := Lh har
 have HDR := Lh hdr
 clear hks har hdr
 rcases hcase with ⟨rfl, ⟨hp0, hp1⟩, hkl, hcl⟩ | ⟨rfl, ⟨hi0, hi1⟩, hcl⟩ | ⟨rfl, hi0, hi1⟩ | ⟨rfl, hcl⟩
 ·have ew : (ks.length : Int) % 256 = ks.length := by omega
  have bx := aH w (.cells (Yq29 t id ka kc ks.length pr ca ga gc ar.length da ha hc dr.length) 67)
  have kx := alw (cQ 0 bx)
  have xb : Ext w (w.alloc (.cells (Yq29 t id ka kc ks.length pr ca ga gc ar.length da ha hc dr.length) 67)) := grows
  have HB0 := Lh bx
  have HX0 := Lh (hx.trans xb)
  have HO0 := Lh (own_ext ho xb)
  have HK0 : Hid (Kp JT w (w.alloc (.cells (Yq29 t id ka kc ks.length pr ca ga gc ar.length da ha hc dr.length) 67))) := Lh (Kp.ext xb)
  have hle0 := HX0.out.le
  have hs0 := src_one (w.alloc (.cells (Yq29 t id ka kc ks.length pr ca ga gc ar.length da ha hc dr.length) 67)) (.int .u8 1) 5 rfl
  rw [szA] at hs0
  have HS0 := Lh hs0
  clear hx ho bx xb hs0
  go_enter Tryz.func67, Tryz.ntmps67
  go_wp2_with (at_builtin; refine wpList_append_fresh rfl (.tmp 7) (.tmp 11) 48 rfl W.heap.size 5 (.int .u8 0) 1 1 Tryz.underlying48 cinf_byt rfl (by decide) (.slice a0 xs.length c0) xs.length (u8s xs) rfl (own_ext HO0.out ((eR (w.alloc (.cells (Yq29 t id ka kc ks.length pr ca ga gc ar.length da ha hc dr.length) 67))).alloc _)) _ 1 _ rfl HS0.out (by unfold maxLen; omega) (by omega) (by simp only [szA] at hle0 ⊢; omega) ?_)
  intro v' w1 hown hgr hfr
  obtain ⟨a1, c1, rfl⟩ := own_slice hown
  have HX1 := Lh (ext_grown HX0.out HO0.out hgr)
  have HK1 := Lh (HK0.out.trans (kp_grown HO0.out hgr))
  have HB1 := Lh ((kp_grown HO0.out hgr) _ _ _ _ (by decide) HB0.out)
  have o1 := own_byte hown
  have hle1 := HX1.out.le
  obtain ⟨Y1, hY1⟩ : ∃ z, z = xs ++ [1] := ⟨_, rfl⟩
  rw [← hY1] at o1
  have hlY1 : Y1.length = xs.length + 1 := by rw [hY1, List.length_append]; rfl
  rw [← hlY1] at o1
  rw [← hlY1]
  have HO1 := Lh o1
  have HY1 := Lh hY1
  have hmY1 : Y1.length ≤ 800001 := by omega
  clear hown hgr hfr o1 hY1 hlY1
  have k1 := alw (cQ 1 HB1.out)
  go_wp2_with fail
  refine (anum_any HX1.out HO1.out (by omega) 2 (by omega) (t) ⟨by omega, by omega⟩).mono ?_
  rintro e w2 ⟨v2, rfl, x2, o2, q2⟩
  obtain ⟨a2, c2, rfl⟩ := own_slice o2
  have HX2 := Lh x2
  have HK2 := Lh (HK1.out.trans q2)
  have HB2 := Lh (q2 _ _ _ _ (by decide) HB1.out)
  have hle2 := x2.le
  obtain ⟨Y2, hY2⟩ : ∃ z, z = Y1 ++ Jn.bn 2 (t) := ⟨_, rfl⟩
  have hmY2 : Y2.length ≤ 800003 := by rw [hY2, List.length_append, Jn.bn_len]; omega
  rw [← hY2] at o2
  rw [← hY2]
  have HO2 := Lh o2
  have HY2 := Lh hY2
  clear x2 o2 q2 hY2
  have k0 := alw (cQ 0 HB2.out)
  have k4 := alw (cQ 4 HB2.out)
  go_wp2_with fail
  refine (anum_any HX2.out HO2.out (by omega) 2 (by omega) (pr) ⟨by omega, by omega⟩).mono ?_
  rintro e w3 ⟨v3, rfl, x3, o3, q3⟩
  obtain ⟨a3, c3, rfl⟩ := own_slice o3
  have HX3 := Lh x3
  have HK3 := Lh (HK2.out.trans q3)
  have HB3 := Lh (q3 _ _ _ _ (by decide) HB2.out)
  have hle3 := x3.le
  obtain ⟨Y3, hY3⟩ : ∃ z, z = Y2 ++ Jn.bn 2 (pr) := ⟨_, rfl⟩
  have hmY3 : Y3.length ≤ 800005 := by rw [hY3, List.length_append, Jn.bn_len]; omega
  rw [← hY3] at o3
  rw [← hY3]
  have HO3 := Lh o3
  have HY3 := Lh hY3
  clear x3 o3 q3 hY3
  have k3 := alw (cQ 3 HB3.out)
  go_wp2_with (at_builtin; refine wpList_append_fresh rfl (.tmp 26) (.tmp 32) 48 rfl W.heap.size 5 (.int .u8 0) 1 1 Tryz.underlying48 cinf_byt rfl (by decide) (.slice a3 Y3.length c3) (Y3).length (u8s (Y3)) rfl (own_ext HO3.out ((eR w3).alloc _)) _ 1 _ rfl (src_one w3 _ _ rfl) (by unfold maxLen; omega) (by omega) (by simp only [szA]; omega) ?_)
  intro v' w4 hown hgr hfr
  obtain ⟨a4, c4, rfl⟩ := own_slice hown
  have HX4 := Lh (ext_grown HX3.out HO3.out hgr)
  have HK4 := Lh (HK3.out.trans (kp_grown HO3.out hgr))
  have HB4 := Lh ((kp_grown HO3.out hgr) _ _ _ _ (by decide) HB3.out)
  have o4 := own_byte hown
  have hle4 := HX4.out.le
  obtain ⟨Y4, hY4⟩ : ∃ z, z = Y3 ++ [(ks.length : Int)] := ⟨_, rfl⟩
  rw [← hY4] at o4
  have hlY4 : Y4.length = Y3.length + 1 := by rw [hY4, List.length_append]; rfl
  rw [← hlY4] at o4
  rw [← hlY4]
  have HO4 := Lh o4
  have HY4 := Lh hY4
  have hmY4 : Y4.length ≤ 800006 := by omega
  clear hown hgr hfr o4 hY4 hlY4
  have k3 := alw (cQ 3 HB4.out)
  go_wp2_with fail
  go_loopw [0, 38] (fun q i wr => ∃ k : Nat, k ≤ ks.length ∧ i = .int .i64 k ∧ ∃ qa qc, q = .slice qa (Y4 ++ (ks.take k).flatMap Jn.eKM).length qc ∧ Hid (Ext W wr ∧ wr.ownsRow W.heap.size 5 1 (.slice qa (Y4 ++ (ks.take k).flatMap Jn.eKM).length qc) (Y4 ++ (ks.take k).flatMap Jn.eKM).length (u8s (Y4 ++ (ks.take k).flatMap Jn.eKM)) ∧ Kp JT w wr ∧ wr.heap[w.heap.size]? = some (.cells (Yq29 t id ka kc ks.length pr ca ga gc ar.length da ha hc dr.length) 67 (0, 0)))) (fun _ i _ => ks.length - (intOf i).toNat)
  case atStart => exact ⟨0, Nat.zero_le _, rfl, a4, c4, by simp, Lh ⟨HX4.out, by simpa using HO4.out, HK4.out, HB4.out⟩⟩
  case round =>
   obtain ⟨k, hk, rfl, qa, qc, rfl, HQ⟩ := hrel
   have hdl : (Y4 ++ (ks.take k).flatMap Jn.eKM).length ≤ 803000 := by
    have h2 := Jn.flat_len (f := Jn.eKM) (n := 8) (l := ks.take k) (fun x _ => by unfold Jn.eKM; rw [List.length_append, Jn.bn_len, Jn.bn_len]; omega)
    rw [List.length_take] at h2
    rw [List.length_append]; omega
   obtain ⟨V, hV⟩ : ∃ z, z = Y4 ++ (ks.take k).flatMap Jn.eKM := ⟨_, rfl⟩
   rw [← hV] at hdl HQ
   rw [← hV]
   have HV := Lh hV
   have sQ : Step W wr := Sm HQ.out.1
   clear hV
   by_cases hlt : k < ks.length
   ·obtain ⟨⟨kv, km⟩, hx⟩ : ∃ x, ks[k]? = some x := ⟨_, gE hlt⟩
    obtain ⟨b, o, rfl, _, hat⟩ := Rows.at (HKS.out.ext HQ.out.1) (by omega)
    obtain ⟨cs, _, ⟨rfl, ⟨hv0, hv1⟩, ⟨hm0, hm1⟩⟩, hcc⟩ := hat k _ hx
    have t0 := hcc 0 _ rfl
    rw [Nat.add_zero] at t0
    have y0 := alw t0
    have y1 := alw (hcc 1 _ rfl)
    simp only at hv0 hv1 hm0 hm1
    have HTK := Lh (take_succ_get hx)
    have bm := aH wr (.cells #[.int .u32 kv, .int .u32 km] 209)
    have xm : Ext wr (wr.alloc (.cells #[.int .u32 kv, .int .u32 km] 209)) := grows
    have HM5 := Lh bm
    have HB5 := Lh (xm.heap HQ.out.2.2.2)
    have HX5 := Lh (HQ.out.1.trans xm)
    have HO5 := Lh (own_ext HQ.out.2.1 xm)
    have HK5 : Hid (Kp JT w (wr.alloc (.cells #[.int .u32 kv, .int .u32 km] 209))) := Lh (HQ.out.2.2.1.trans (Kp.ext xm))
    have km0 := alw (cQ 0 bm)
    clear hx hat hcc t0 bm xm
    go_wp2_with fail
    refine (anum_any HX5.out HO5.out (by omega) 4 (by omega) (kv) ⟨by omega, by omega⟩).mono ?_
    rintro e w6 ⟨v6, rfl, x6, o6, q6⟩
    obtain ⟨a6, c6, rfl⟩ := own_slice o6
    have HX6 := Lh x6
    have HK6 := Lh (HK5.out.trans q6)
    have HB6 := Lh (q6 _ _ _ _ (by decide) HB5.out)
    have HM6 := Lh (q6 _ _ _ _ (by decide) HM5.out)
    have hle6 := x6.le
    obtain ⟨V6, hV6⟩ : ∃ z, z = V ++ Jn.bn 4 (kv) := ⟨_, rfl⟩
    have hmV6 : V6.length ≤ 803004 := by rw [hV6, List.length_append, Jn.bn_len]; omega
    rw [← hV6] at o6
    rw [← hV6]
    have HO6 := Lh o6
    have HV6 := Lh hV6
    clear x6 o6 q6 hV6
    have km1 := alw (cQ 1 HM6.out)
    go_wp2_with fail
    refine (anum_any HX6.out HO6.out (by omega) 4 (by omega) (km) ⟨by omega, by omega⟩).mono ?_
    rintro e w7 ⟨v7, rfl, x7, o7, q7⟩
    obtain ⟨a7, c7, rfl⟩ := own_slice o7
    have HX7 := Lh x7
    have HK7 := Lh (HK6.out.trans q7)
    have HB7 := Lh (q7 _ _ _ _ (by decide) HB6.out)
    have hle7 := x7.le
    obtain ⟨V7, hV7⟩ : ∃ z, z = V6 ++ Jn.bn 4 (km) := ⟨_, rfl⟩
    have hmV7 : V7.length ≤ 803008 := by rw [hV7, List.length_append, Jn.bn_len]; omega
    rw [← hV7] at o7
    rw [← hV7]
    have HO7 := Lh o7
    have HV7 := Lh hV7
    clear x7 o7 q7 hV7
    have HN := Lh (And.intro HX7.out (And.intro HO7.out (And.intro HK7.out HB7.out)))
    have HE : Hid (Y4 ++ (ks.take (k + 1)).flatMap Jn.eKM = V7) := Lh (by rw [HTK.out, List.flatMap_append, ← List.append_assoc, ← HV.out, HV7.out, HV6.out]; simp [Jn.eKM])
    go_wp2_with fail
    go_roundw
    case rel => exact ⟨k + 1, by omega, by go_num, a7, c7, by rw [← HE.out, List.length_append], Lh (by rw [HE.out]; exact HN.out)⟩
    case measure => simp [intOf]; omega
   ·obtain rfl : k = ks.length := by omega
    have k5 := alw (cQ 5 HQ.out.2.2.2)
    have k6 := alw (cQ 6 HQ.out.2.2.2)
    go_wp2_with fail
    refine (acall_any (c := ⟨ca, ar⟩) HQ.out.1 HQ.out.2.1 (by omega) HAR.out hcl).mono ?_
    rintro e w9 ⟨v9, rfl, x9, o9, q9⟩
    have HF : Hid (V ++ Jn.eCall ⟨ca, ar⟩ = xs ++ Jn.eOp ⟨1, t, id, ⟨ks, pr, ⟨ca, ar⟩⟩, ⟨da, dr⟩⟩) := Lh (by
     rw [HV.out, List.take_length, HY4.out, HY3.out, HY2.out, HY1.out]; unfold Jn.eOp; simp)
    rw [HF.out] at o9
    have HN9 : Hid (Ext W w9 ∧ w9.ownsRow W.heap.size 5 1 v9 (xs ++ Jn.eOp ⟨1, t, id, ⟨ks, pr, ⟨ca, ar⟩⟩, ⟨da, dr⟩⟩).length (u8s (xs ++ Jn.eOp ⟨1, t, id, ⟨ks, pr, ⟨ca, ar⟩⟩, ⟨da, dr⟩⟩)) ∧ Kp JT w w9) := Lh ⟨x9, o9, HQ.out.2.2.1.trans q9⟩
    clear x9 o9 q9
    go_wp2_with fail
    go_ret
    exact ⟨_, rfl, HN9.out⟩
 ·have bx := aH w (.cells #[.int .i64 2, .int .i64 t, .int .i64 id, .slice ka ks.length kc, .int .i64 pr, .int .i64 ca, .slice ga ar.length gc, .int .i64 da, .slice ha dr.length hc] 67)
  have kx := alw (cQ 0 bx)
  have xb : Ext w (w.alloc (.cells #[.int .i64 2, .int .i64 t, .int .i64 id, .slice ka ks.length kc, .int .i64 pr, .int .i64 ca, .slice ga ar.length gc, .int .i64 da, .slice ha dr.length hc] 67)) := grows
  have HB0 := Lh bx
  have HX0 := Lh (hx.trans xb)
  have HO0 := Lh (own_ext ho xb)
  have HK0 : Hid (Kp JT w (w.alloc (.cells #[.int .i64 2, .int .i64 t, .int .i64 id, .slice ka ks.length kc, .int .i64 pr, .int .i64 ca, .slice ga ar.length gc, .int .i64 da, .slice ha dr.length hc] 67))) := Lh (Kp.ext xb)
  have hle0 := HX0.out.le
  have hs0 := src_one (w.alloc (.cells #[.int .i64 2, .int .i64 t, .int .i64 id, .slice ka ks.length kc, .int .i64 pr, .int .i64 ca, .slice ga ar.length gc, .int .i64 da, .slice ha dr.length hc] 67)) (.int .u8 2) 5 rfl
  rw [szA] at hs0
  have HS0 := Lh hs0
  clear hx ho bx xb hs0
  go_enter Tryz.func67, Tryz.ntmps67
  go_wp2_with (at_builtin; refine wpList_append_fresh rfl (.tmp 7) (.tmp 11) 48 rfl W.heap.size 5 (.int .u8 0) 1 1 Tryz.underlying48 cinf_byt rfl (by decide) (.slice a0 xs.length c0) xs.length (u8s xs) rfl (own_ext HO0.out ((eR (w.alloc (.cells #[.int .i64 2, .int .i64 t, .int .i64 id, .slice ka ks.length kc, .int .i64 pr, .int .i64 ca, .slice ga ar.length gc, .int .i64 da, .slice ha dr.length hc] 67))).alloc _)) _ 1 _ rfl HS0.out (by unfold maxLen; omega) (by omega) (by simp only [szA] at hle0 ⊢; omega) ?_)
  intro v' w1 hown hgr hfr
  obtain ⟨a1, c1, rfl⟩ := own_slice hown
  have HX1 := Lh (ext_grown HX0.out HO0.out hgr)
  have HK1 := Lh (HK0.out.trans (kp_grown HO0.out hgr))
  have HB1 := Lh ((kp_grown HO0.out hgr) _ _ _ _ (by decide) HB0.out)
  have o1 := own_byte hown
  have hle1 := HX1.out.le
  obtain ⟨Y1, hY1⟩ : ∃ z, z = xs ++ [2] := ⟨_, rfl⟩
  rw [← hY1] at o1
  have hlY1 : Y1.length = xs.length + 1 := by rw [hY1, List.length_append]; rfl
  rw [← hlY1] at o1
  rw [← hlY1]
  have HO1 := Lh o1
  have HY1 := Lh hY1
  have hmY1 : Y1.length ≤ 800001 := by omega
  clear hown hgr hfr o1 hY1 hlY1
  have k1 := alw (cQ 1 HB1.out)
  go_wp2_with fail
  refine (anum_any HX1.out HO1.out (by omega) 2 (by omega) (t) ⟨by omega, by omega⟩).mono ?_
  rintro e w2 ⟨v2, rfl, x2, o2, q2⟩
  obtain ⟨a2, c2, rfl⟩ := own_slice o2
  have HX2 := Lh x2
  have HK2 := Lh (HK1.out.trans q2)
  have HB2 := Lh (q2 _ _ _ _ (by decide) HB1.out)
  have hle2 := x2.le
  obtain ⟨Y2, hY2⟩ : ∃ z, z = Y1 ++ Jn.bn 2 (t) := ⟨_, rfl⟩
  have hmY2 : Y2.length ≤ 800003 := by rw [hY2, List.length_append, Jn.bn_len]; omega
  rw [← hY2] at o2
  rw [← hY2]
  have HO2 := Lh o2
  have HY2 := Lh hY2
  clear x2 o2 q2 hY2
  have k0 := alw (cQ 0 HB2.out)
  have p0 : w2.cell? ⟨w.heap.size, 2, none⟩ = some (.int .i64 id) := cQ 2 HB2.out
  have p1 : w2.cell? ⟨w.heap.size, 7, none⟩ = some (.int .i64 da) := cQ 7 HB2.out
  have p2 : w2.cell? ⟨w.heap.size, 8, none⟩ = some (.slice ha dr.length hc) := cQ 8 HB2.out
  go_wp2_with fail
  obtain ⟨CC, hCC⟩ : ∃ z : World → Prop, z = (fun w' => w'.cell? ⟨w.heap.size, 2, none⟩ = some (.int .i64 id) ∧ w'.cell? ⟨w.heap.size, 7, none⟩ = some (.int .i64 da) ∧ w'.cell? ⟨w.heap.size, 8, none⟩ = some (.slice ha dr.length hc)) := ⟨_, rfl⟩
  have HCC := Lh hCC
  clear hCC
  refine RelD.region CC 7 (by kernel_rfl) ?_
  have cq0 : ∀ y : Wh CC, y.val.cell? ⟨w.heap.size, 2, none⟩ = some (.int .i64 id) := fun y => by have h := Eq.mp (congrFun HCC.out y.val) y.out; exact h.1
  have cq1 : ∀ y : Wh CC, y.val.cell? ⟨w.heap.size, 7, none⟩ = some (.int .i64 da) := fun y => by have h := Eq.mp (congrFun HCC.out y.val) y.out; exact h.2.1
  have cq2 : ∀ y : Wh CC, y.val.cell? ⟨w.heap.size, 8, none⟩ = some (.slice ha dr.length hc) := fun y => by have h := Eq.mp (congrFun HCC.out y.val) y.out; exact h.2.2
  have HC2 : Hid (CC w2.drew) := Lh (by rw [HCC.out]; exact ⟨p0, p1, p2⟩)
  have hNE : Nonempty (Wh CC) := ⟨⟨_, HC2.out⟩⟩
  clear p0 p1 p2
  refine RelD.oneL 0 7 rfl (by kernel_rfl) HC2.out ?_
  simp only [dpZ, tkS, tkZ]
  repeat (go_big_quiet_step (fail))
  refine wpQuiet_nil ?_
  refine RelD.oneL 1 6 rfl (by kernel_rfl) HC2.out ?_
  simp only [dpZ, dpS, tkS, tkZ]
  repeat (go_big_quiet_step (fail))
  refine wpQuiet_nil ?_
  refine RelD.oneL 2 5 rfl (by kernel_rfl) HC2.out ?_
  simp only [dpZ, dpS, tkS, tkZ]
  repeat (go_big_quiet_step (fail))
  refine wpQuiet_nil ?_
  refine RelD.oneL 4 4 rfl (by kernel_rfl) HC2.out ?_
  simp only [dpZ, dpS, tkS, tkZ]
  repeat (go_big_quiet_step (fail))
  refine wpQuiet_nil ?_
  refine RelD.oneL 5 3 rfl (by kernel_rfl) HC2.out ?_
  simp only [dpZ, dpS, tkS, tkZ]
  repeat (go_big_quiet_step (fail))
  refine wpQuiet_nil ?_
  refine RelD.actL 3 2 rfl (by kernel_rfl) ?_
  simp only [dpZ, dpS, tkS, tkZ]
  go_wp2_with fail
  refine (anum_any (HX2.out.trans ((eR w2).drew)) (own_ext HO2.out ((eR w2).drew)) (by omega) 4 (by omega) id ⟨by omega, by omega⟩).mono ?_
  rintro e w3 ⟨v3, rfl, x3, o3, q3⟩
  obtain ⟨a3, c3, rfl⟩ := own_slice o3
  have HB3 := Lh (q3 _ _ _ _ (by decide) (((eR w2).drew).heap HB2.out))
  have HK3 := Lh ((HK2.out.trans (Kp.ext ((eR w2).drew))).trans q3)
  have HX3 := Lh x3
  obtain ⟨Y3, hY3⟩ : ∃ z, z = Y2 ++ Jn.bn 4 id := ⟨_, rfl⟩
  have hmY3 : Y3.length ≤ 800009 := by rw [hY3, List.length_append, Jn.bn_len]; omega
  rw [← hY3] at o3
  rw [← hY3]
  have HO3 := Lh o3
  have HY3 := Lh hY3
  have HC3 : Hid (CC w3) := Lh (by rw [HCC.out]; exact ⟨cQ 2 HB3.out, cQ 7 HB3.out, cQ 8 HB3.out⟩)
  clear x3 o3 q3 hY3
  go_wp2_with fail
  refine RelD.next_mk (fun _ => HC3.out) ?_
  refine RelD.actL 6 1 rfl (by kernel_rfl) ?_
  simp only [dpZ, dpS, tkS, tkZ]
  go_wp2_with fail
  refine (acall_any (c := ⟨da, dr⟩) HX3.out HO3.out (by omega) HDR.out hcl).mono ?_
  rintro e w9 ⟨v9, rfl, x9, o9, q9⟩
  have HB9 := Lh (q9 _ _ _ _ (by decide) HB3.out)
  have HC9 : Hid (CC w9) := Lh (by rw [HCC.out]; exact ⟨cQ 2 HB9.out, cQ 7 HB9.out, cQ 8 HB9.out⟩)
  have HF : Hid (Y3 ++ Jn.eCall ⟨da, dr⟩ = xs ++ Jn.eOp ⟨2, t, id, ⟨ks, pr, ⟨ca, ar⟩⟩, ⟨da, dr⟩⟩) := Lh (by rw [HY3.out, HY2.out, HY1.out]; unfold Jn.eOp; simp)
  rw [HF.out] at o9
  have HN9 : Hid (Ext W w9 ∧ w9.ownsRow W.heap.size 5 1 v9 (xs ++ Jn.eOp ⟨2, t, id, ⟨ks, pr, ⟨ca, ar⟩⟩, ⟨da, dr⟩⟩).length (u8s (xs ++ Jn.eOp ⟨2, t, id, ⟨ks, pr, ⟨ca, ar⟩⟩, ⟨da, dr⟩⟩)) ∧ Kp JT w w9) := Lh ⟨x9, o9, HK3.out.trans q9⟩
  clear x9 o9 q9
  go_wp2_with fail
  refine RelD.next_mk (fun _ => HC9.out) ?_
  refine RelD.actL 7 0 rfl (by kernel_rfl) ?_
  simp only [dpZ, dpS, tkS, tkZ]
  go_wp2_with fail
  refine RelD.next_mk (fun h => absurd h (by decide)) ?_
  refine RelD.endL (by kernel_rfl) ?_
  go_wp2_with fail
  go_ret
  exact ⟨_, rfl, HN9.out⟩
 ·have bx := aH w (.cells #[.int .i64 3, .int .i64 t, .int .i64 id, .slice ka ks.length kc, .int .i64 pr, .int .i64 ca, .slice ga ar.length gc, .int .i64 da, .slice ha dr.length hc] 67)
  have kx := alw (cQ 0 bx)
  have xb : Ext w (w.alloc (.cells #[.int .i64 3, .int .i64 t, .int .i64 id, .slice ka ks.length kc, .int .i64 pr, .int .i64 ca, .slice ga ar.length gc, .int .i64 da, .slice ha dr.length hc] 67)) := grows
  have HB0 := Lh bx
  have HX0 := Lh (hx.trans xb)
  have HO0 := Lh (own_ext ho xb)
  have HK0 : Hid (Kp JT w (w.alloc (.cells #[.int .i64 3, .int .i64 t, .int .i64 id, .slice ka ks.length kc, .int .i64 pr, .int .i64 ca, .slice ga ar.length gc, .int .i64 da, .slice ha dr.length hc] 67))) := Lh (Kp.ext xb)
  have hle0 := HX0.out.le
  have hs0 := src_one (w.alloc (.cells #[.int .i64 3, .int .i64 t, .int .i64 id, .slice ka ks.length kc, .int .i64 pr, .int .i64 ca, .slice ga ar.length gc, .int .i64 da, .slice ha dr.length hc] 67)) (.int .u8 3) 5 rfl
  rw [szA] at hs0
  have HS0 := Lh hs0
  clear hx ho bx xb hs0
  go_enter Tryz.func67, Tryz.ntmps67
  go_wp2_with (at_builtin; refine wpList_append_fresh rfl (.tmp 7) (.tmp 11) 48 rfl W.heap.size 5 (.int .u8 0) 1 1 Tryz.underlying48 cinf_byt rfl (by decide) (.slice a0 xs.length c0) xs.length (u8s xs) rfl (own_ext HO0.out ((eR (w.alloc (.cells #[.int .i64 3, .int .i64 t, .int .i64 id, .slice ka ks.length kc, .int .i64 pr, .int .i64 ca, .slice ga ar.length gc, .int .i64 da, .slice ha dr.length hc] 67))).alloc _)) _ 1 _ rfl HS0.out (by unfold maxLen; omega) (by omega) (by simp only [szA] at hle0 ⊢; omega) ?_)
  intro v' w1 hown hgr hfr
  obtain ⟨a1, c1, rfl⟩ := own_slice hown
  have HX1 := Lh (ext_grown HX0.out HO0.out hgr)
  have HK1 := Lh (HK0.out.trans (kp_grown HO0.out hgr))
  have HB1 := Lh ((kp_grown HO0.out hgr) _ _ _ _ (by decide) HB0.out)
  have o1 := own_byte hown
  have hle1 := HX1.out.le
  obtain ⟨Y1, hY1⟩ : ∃ z, z = xs ++ [3] := ⟨_, rfl⟩
  rw [← hY1] at o1
  have hlY1 : Y1.length = xs.length + 1 := by rw [hY1, List.length_append]; rfl
  rw [← hlY1] at o1
  rw [← hlY1]
  have HO1 := Lh o1
  have HY1 := Lh hY1
  have hmY1 : Y1.length ≤ 800001 := by omega
  clear hown hgr hfr o1 hY1 hlY1
  have k1 := alw (cQ 1 HB1.out)
  go_wp2_with fail
  refine (anum_any HX1.out HO1.out (by omega) 2 (by omega) (t) ⟨by omega, by omega⟩).mono ?_
  rintro e w2 ⟨v2, rfl, x2, o2, q2⟩
  obtain ⟨a2, c2, rfl⟩ := own_slice o2
  have HX2 := Lh x2
  have HK2 := Lh (HK1.out.trans q2)
  have HB2 := Lh (q2 _ _ _ _ (by decide) HB1.out)
  have hle2 := x2.le
  obtain ⟨Y2, hY2⟩ : ∃ z, z = Y1 ++ Jn.bn 2 (t) := ⟨_, rfl⟩
  have hmY2 : Y2.length ≤ 800003 := by rw [hY2, List.length_append, Jn.bn_len]; omega
  rw [← hY2] at o2
  rw [← hY2]
  have HO2 := Lh o2
  have HY2 := Lh hY2
  clear x2 o2 q2 hY2
  have k0 := alw (cQ 0 HB2.out)
  have k2 := alw (cQ 2 HB2.out)
  go_wp2_with fail
  refine (anum_any HX2.out HO2.out (by omega) 4 (by omega) (id) ⟨by omega, by omega⟩).mono ?_
  rintro e w3 ⟨v3, rfl, x3, o3, q3⟩
  obtain ⟨a3, c3, rfl⟩ := own_slice o3
  have HX3 := Lh x3
  have HK3 := Lh (HK2.out.trans q3)
  have HB3 := Lh (q3 _ _ _ _ (by decide) HB2.out)
  have hle3 := x3.le
  obtain ⟨Y3, hY3⟩ : ∃ z, z = Y2 ++ Jn.bn 4 (id) := ⟨_, rfl⟩
  have hmY3 : Y3.length ≤ 800009 := by rw [hY3, List.length_append, Jn.bn_len]; omega
  rw [← hY3] at o3
  rw [← hY3]
  have HO3 := Lh o3
  have HY3 := Lh hY3
  clear x3 o3 q3 hY3
  have HF : Hid (Y3 = xs ++ Jn.eOp ⟨3, t, id, ⟨ks, pr, ⟨ca, ar⟩⟩, ⟨da, dr⟩⟩) := Lh (by rw [HY3.out, HY2.out, HY1.out]; unfold Jn.eOp; simp)
  go_wp2_with fail
  go_ret
  rw [← HF.out]
  exact ⟨_, rfl, HX3.out, HO3.out, HK3.out⟩
 ·have bx := aH w (.cells #[.int .i64 4, .int .i64 t, .int .i64 id, .slice ka ks.length kc, .int .i64 pr, .int .i64 ca, .slice ga ar.length gc, .int .i64 da, .slice ha dr.length hc] 67)
  have kx := alw (cQ 0 bx)
  have xb : Ext w (w.alloc (.cells #[.int .i64 4, .int .i64 t, .int .i64 id, .slice ka ks.length kc, .int .i64 pr, .int .i64 ca, .slice ga ar.length gc, .int .i64 da, .slice ha dr.length hc] 67)) := grows
  have HB0 := Lh bx
  have HX0 := Lh (hx.trans xb)
  have HO0 := Lh (own_ext ho xb)
  have HK0 : Hid (Kp JT w (w.alloc (.cells #[.int .i64 4, .int .i64 t, .int .i64 id, .slice ka ks.length kc, .int .i64 pr, .int .i64 ca, .slice ga ar.length gc, .int .i64 da, .slice ha dr.length hc] 67))) := Lh (Kp.ext xb)
  have hle0 := HX0.out.le
  have hs0 := src_one (w.alloc (.cells #[.int .i64 4, .int .i64 t, .int .i64 id, .slice ka ks.length kc, .int .i64 pr, .int .i64 ca, .slice ga ar.length gc, .int .i64 da, .slice ha dr.length hc] 67)) (.int .u8 4) 5 rfl
  rw [szA] at hs0
  have HS0 := Lh hs0
  clear hx ho bx xb hs0
  go_enter Tryz.func67, Tryz.ntmps67
  go_wp2_with (at_builtin; refine wpList_append_fresh rfl (.tmp 7) (.tmp 11) 48 rfl W.heap.size 5 (.int .u8 0) 1 1 Tryz.underlying48 cinf_byt rfl (by decide) (.slice a0 xs.length c0) xs.length (u8s xs) rfl (own_ext HO0.out ((eR (w.alloc (.cells #[.int .i64 4, .int .i64 t, .int .i64 id, .slice ka ks.length kc, .int .i64 pr, .int .i64 ca, .slice ga ar.length gc, .int .i64 da, .slice ha dr.length hc] 67))).alloc _)) _ 1 _ rfl HS0.out (by unfold maxLen; omega) (by omega) (by simp only [szA] at hle0 ⊢; omega) ?_)
  intro v' w1 hown hgr hfr
  obtain ⟨a1, c1, rfl⟩ := own_slice hown
  have HX1 := Lh (ext_grown HX0.out HO0.out hgr)
  have HK1 := Lh (HK0.out.trans (kp_grown HO0.out hgr))
  have HB1 := Lh ((kp_grown HO0.out hgr) _ _ _ _ (by decide) HB0.out)
  have o1 := own_byte hown
  have hle1 := HX1.out.le
  obtain ⟨Y1, hY1⟩ : ∃ z, z = xs ++ [4] := ⟨_, rfl⟩
  rw [← hY1] at o1
  have hlY1 : Y1.length = xs.length + 1 := by rw [hY1, List.length_append]; rfl
  rw [← hlY1] at o1
  rw [← hlY1]
  have HO1 := Lh o1
  have HY1 := Lh hY1
  have hmY1 : Y1.length ≤ 800001 := by omega
  clear hown hgr hfr o1 hY1 hlY1
  have k1 := alw (cQ 1 HB1.out)
  go_wp2_with fail
  refine (anum_any HX1.out HO1.out (by omega) 2 (by omega) (t) ⟨by omega, by omega⟩).mono ?_
  rintro e w2 ⟨v2, rfl, x2, o2, q2⟩
  obtain ⟨a2, c2, rfl⟩ := own_slice o2
  have HX2 := Lh x2
  have HK2 := Lh (HK1.out.trans q2)
  have HB2 := Lh (q2 _ _ _ _ (by decide) HB1.out)
  have hle2 := x2.le
  obtain ⟨Y2, hY2⟩ : ∃ z, z = Y1 ++ Jn.bn 2 (t) := ⟨_, rfl⟩
  have hmY2 : Y2.length ≤ 800003 := by rw [hY2, List.length_append, Jn.bn_len]; omega
  rw [← hY2] at o2
  rw [← hY2]
  have HO2 := Lh o2
  have HY2 := Lh hY2
  clear x2 o2 q2 hY2
  have k0 := alw (cQ 0 HB2.out)
  have k7 := alw (cQ 7 HB2.out)
  have k8 := alw (cQ 8 HB2.out)
  go_wp2_with fail
  refine (acall_any (c := ⟨da, dr⟩) HX2.out HO2.out (by omega) HDR.out hcl).mono ?_
  rintro e w9 ⟨v9, rfl, x9, o9, q9⟩
  have HF : Hid (Y2 ++ Jn.eCall ⟨da, dr⟩ = xs ++ Jn.eOp ⟨4, t, id, ⟨ks, pr, ⟨ca, ar⟩⟩, ⟨da, dr⟩⟩) := Lh (by rw [HY2.out, HY1.out]; unfold Jn.eOp; simp)
  rw [HF.out] at o9
  have HN9 : Hid (Ext W w9 ∧ w9.ownsRow W.heap.size 5 1 v9 (xs ++ Jn.eOp ⟨4, t, id, ⟨ks, pr, ⟨ca, ar⟩⟩, ⟨da, dr⟩⟩).length (u8s (xs ++ Jn.eOp ⟨4, t, id, ⟨ks, pr, ⟨ca, ar⟩⟩, ⟨da, dr⟩⟩)) ∧ Kp JT w w9) := Lh ⟨x9, o9, HK2.out.trans q9⟩
  clear x9 o9 q9
  go_wp2_with fail
  go_ret
  exact ⟨_, rfl, HN9.out⟩
theorem jshort_any {W : World} {x : Int} (h : Jn.sh x) : Calls Tryz.prog 114 #[.int .i64 x] W (Rets W (.bool true)) := by
 obtain ⟨h0, h1⟩ := h
 have d0 : decide (0 ≤ x) = true := dTt h0
 have d1 : decide (x ≤ 65535) = true := dTt h1
 go_enter Tryz.func114, Tryz.ntmps114
 go_wp2_with fail
 go_ret
 exact ⟨rfl, eR _⟩
theorem jcallE_any {W : World} {ca : Int} {ga : Option Addr} {n gc : Nat} (h : Jn.sh ca) (hn : n ≤ 255) : Calls Tryz.prog 115 #[.agg #[.int .i64 ca, .slice ga n gc]] W (Rets W (.bool true)) := by
 have bx := aH W (.cells #[.int .i64 ca, .slice ga n gc] 63)
 have k0 := alw (cQ 0 bx)
 have k1 := alw (cQ 1 bx)
 clear bx
 have HS : Hid (∀ w, Calls Tryz.prog 114 #[.int .i64 ca] w (Rets w (.bool true))) := Lh (fun w => jshort_any h)
 have d1 : decide ((n : Int) ≤ 255) = true := dTt (by omega)
 clear h
 go_enter Tryz.func115, Tryz.ntmps115
 go_wp2_with fail
 refine via (HS.out _) fun w1 x1 s1 => ?_
 go_wp2_with fail
 go_ret
 exact ⟨rfl, grows⟩
theorem encodable_any {W w : World} {cs : List Value} {o : Tj.TOp} (hr : Tj.TOpR W cs o) (hok : Jn.ok o) : Calls Tryz.prog 66 #[.agg cs.toArray] w (Rets w (.bool true)) := by
 obtain ⟨ka, kc, ga, gc, ha, hc, rfl, _, hks, har, hdr⟩ := hr
 obtain ⟨KK, t, id, ⟨ks, pr, ⟨ca, ar⟩⟩, ⟨da, dr⟩⟩ := o
 obtain ⟨⟨ht0, ht1⟩, hcase⟩ := hok
 simp only at ht0 ht1 hcase hks har hdr
 clear hks har hdr
 have HT : Hid (∀ w, Calls Tryz.prog 114 #[.int .i64 t] w (Rets w (.bool true))) := Lh (fun w => jshort_any ⟨by assumption, by assumption⟩)
 rcases hcase with ⟨rfl, ⟨hp0, hp1⟩, hkl, hcl⟩ | ⟨rfl, ⟨hi0, hi1⟩, hcl⟩ | ⟨rfl, hi0, hi1⟩ | ⟨rfl, hcl⟩
 ·have HP : Hid (∀ w, Calls Tryz.prog 114 #[.int .i64 pr] w (Rets w (.bool true))) := Lh (fun w => jshort_any ⟨by assumption, by assumption⟩)
  have HC : Hid (∀ w, Calls Tryz.prog 115 #[.agg #[.int .i64 ca, .slice ga ar.length gc]] w (Rets w (.bool true))) := Lh (fun w => jcallE_any hcl.1 hcl.2)
  have d1 : decide ((ks.length : Int) ≤ 255) = true := dTt (by omega)
  clear hcl ht0 ht1 hp0 hp1
  have bx := aH w (.cells (Yq29 t id ka kc ks.length pr ca ga gc ar.length da ha hc dr.length) 67)
  have k0 := alw (cQ 0 bx)
  have k1 := alw (cQ 1 bx)
  have k2 := alw (cQ 2 bx)
  have k3 := alw (cQ 3 bx)
  have k4 := alw (cQ 4 bx)
  have k5 := alw (cQ 5 bx)
  have k6 := alw (cQ 6 bx)
  have k7 := alw (cQ 7 bx)
  have k8 := alw (cQ 8 bx)
  clear bx
  by_cases hi0 : 0 ≤ id
  ·have d2 : decide (0 ≤ id) = true := dTt hi0
   go_enter Tryz.func66, Tryz.ntmps66
   go_wp2_with fail
   refine via (HT.out _) fun w1 xw1 sw1 => ?_
   go_wp2_with fail
   refine via (HP.out _) fun w2 xw2 sw2 => ?_
   go_wp2_with fail
   refine via (HC.out _) fun w3 xw3 sw3 => ?_
   go_wp2_with fail
   go_ret
   exact ⟨rfl, grows⟩
  ·have d2 : decide (0 ≤ id) = false := dF hi0
   go_enter Tryz.func66, Tryz.ntmps66
   go_wp2_with fail
   refine via (HT.out _) fun w1 xw1 sw1 => ?_
   go_wp2_with fail
   refine via (HP.out _) fun w2 xw2 sw2 => ?_
   go_wp2_with fail
   refine via (HC.out _) fun w3 xw3 sw3 => ?_
   go_wp2_with fail
   go_ret
   exact ⟨rfl, grows⟩
 ·have HC : Hid (∀ w, Calls Tryz.prog 115 #[.agg #[.int .i64 da, .slice ha dr.length hc]] w (Rets w (.bool true))) := Lh (fun w => jcallE_any hcl.1 hcl.2)
  have d2 : decide (0 ≤ id) = true := dTt hi0
  have d3 : decide (id ≤ 2147483647) = true := dTt hi1
  clear hcl ht0 ht1
  have bx := aH w (.cells #[.int .i64 2, .int .i64 t, .int .i64 id, .slice ka ks.length kc, .int .i64 pr, .int .i64 ca, .slice ga ar.length gc, .int .i64 da, .slice ha dr.length hc] 67)
  have k0 := alw (cQ 0 bx)
  have k1 := alw (cQ 1 bx)
  have k2 := alw (cQ 2 bx)
  have k3 := alw (cQ 3 bx)
  have k4 := alw (cQ 4 bx)
  have k5 := alw (cQ 5 bx)
  have k6 := alw (cQ 6 bx)
  have k7 := alw (cQ 7 bx)
  have k8 := alw (cQ 8 bx)
  clear bx
  go_enter Tryz.func66, Tryz.ntmps66
  go_wp2_with fail
  refine via (HT.out _) fun w1 xw1 sw1 => ?_
  go_wp2_with fail
  refine via (HC.out _) fun w3 xw3 sw3 => ?_
  go_wp2_with fail
  go_ret
  exact ⟨rfl, grows⟩
 ·have d2 : decide (0 ≤ id) = true := dTt hi0
  have d3 : decide (id ≤ 2147483647) = true := dTt hi1
  clear ht0 ht1
  have bx := aH w (.cells #[.int .i64 3, .int .i64 t, .int .i64 id, .slice ka ks.length kc, .int .i64 pr, .int .i64 ca, .slice ga ar.length gc, .int .i64 da, .slice ha dr.length hc] 67)
  have k0 := alw (cQ 0 bx)
  have k1 := alw (cQ 1 bx)
  have k2 := alw (cQ 2 bx)
  have k3 := alw (cQ 3 bx)
  have k4 := alw (cQ 4 bx)
  have k5 := alw (cQ 5 bx)
  have k6 := alw (cQ 6 bx)
  have k7 := alw (cQ 7 bx)
  have k8 := alw (cQ 8 bx)
  clear bx
  go_enter Tryz.func66, Tryz.ntmps66
  go_wp2_with fail
  refine via (HT.out _) fun w1 xw1 sw1 => ?_
  go_wp2_with fail
  go_ret
  exact ⟨rfl, grows⟩
 ·have HC : Hid (∀ w, Calls Tryz.prog 115 #[.agg #[.int .i64 da, .slice ha dr.length hc]] w (Rets w (.bool true))) := Lh (fun w => jcallE_any hcl.1 hcl.2)
  clear hcl ht0 ht1
  have bx := aH w (.cells #[.int .i64 4, .int .i64 t, .int .i64 id, .slice ka ks.length kc, .int .i64 pr, .int .i64 ca, .slice ga ar.length gc, .int .i64 da, .slice ha dr.length hc] 67)
  have k0 := alw (cQ 0 bx)
  have k1 := alw (cQ 1 bx)
  have k2 := alw (cQ 2 bx)
  have k3 := alw (cQ 3 bx)
  have k4 := alw (cQ 4 bx)
  have k5 := alw (cQ 5 bx)
  have k6 := alw (cQ 6 bx)
  have k7 := alw (cQ 7 bx)
  have k8 := alw (cQ 8 bx)
  clear bx
  by_cases hi0 : 0 ≤ id
  ·have d2 : decide (0 ≤ id) = true := dTt hi0
   go_enter Tryz.func66, Tryz.ntmps66
   go_wp2_with fail
   refine via (HT.out _) fun w1 xw1 sw1 => ?_
   go_wp2_with fail
   refine via (HC.out _) fun w3 xw3 sw3 => ?_
   go_wp2_with fail
   go_ret
   exact ⟨rfl, grows⟩
  ·have d2 : decide (0 ≤ id) = false := dF hi0
   go_enter Tryz.func66, Tryz.ntmps66
   go_wp2_with fail
   refine via (HT.out _) fun w1 xw1 sw1 => ?_
   go_wp2_with fail
   refine via (HC.out _) fun w3 xw3 sw3 => ?_
   go_wp2_with fail
   go_ret
   exact ⟨rfl, grows⟩
theorem ow1 (W : World) (x : Int) : (W.alloc (.cells #[.int .u8 x] 5)).ownsRow W.heap.size 5 1 (.slice (some ⟨W.heap.size, 0, none⟩) 1 1) 1 [.int .u8 x] :=
 ⟨rfl, .inr ⟨W.heap.size, 1, _, rfl, Nat.le_refl _, aH _ _, Nat.le_refl _, by unfold maxLen; omega, rfl, rfl⟩⟩
theorem encode_any {W : World} {v : Value} {l : List Tj.TOp} (hl : Rows W 9 Tj.TOpR v l) (h64 : l.length ≤ 64) (hok : ∀ o ∈ l, Jn.ok o) :
 Calls Tryz.prog 24 #[v] W (fun e w' => ∃ ov, e = .returned ov ∧ Ext W w' ∧ w'.ownsRow W.heap.size 5 1 ov (Jn.enc l).length (u8s (Jn.enc l))) := by
 obtain ⟨va, vc, rfl, _⟩ := Rows.slice hl
 have HL := Lh hl
 have HOK := Lh hok
 have d0 : decide (64 < (l.length : Int)) = false := dF (by omega)
 have ew : (l.length : Int) % 256 = l.length := by omega
 clear hl hok
 go_enter Tryz.func24, Tryz.ntmps24
 go_wp2_with fail
 go_loopw [3, 15] (fun q i wr => ∃ k : Nat, k ≤ l.length ∧ i = .int .i64 k ∧ ∃ qa qc, q = .slice qa (((l.length : Int) :: (l.take k).flatMap Jn.eOp)).length qc ∧ Hid (Ext W wr ∧ wr.ownsRow W.heap.size 5 1 (.slice qa ((l.length : Int) :: (l.take k).flatMap Jn.eOp).length qc) ((l.length : Int) :: (l.take k).flatMap Jn.eOp).length (u8s ((l.length : Int) :: (l.take k).flatMap Jn.eOp)))) (fun _ i _ => l.length - (intOf i).toNat)
 case atStart =>
  exact ⟨0, Nat.zero_le _, rfl, some ⟨W.heap.size, 0, none⟩, 1, by simp, Lh ⟨grows, by simpa [u8s] using ow1 W _⟩⟩
 case round =>
  obtain ⟨k, hk, rfl, qa, qc, rfl, HQ⟩ := hrel
  have hdl : (((l.length : Int) :: (l.take k).flatMap Jn.eOp)).length ≤ 300000 := by
   have h2 := Jn.flat_len (f := Jn.eOp) (n := 4096) (l := l.take k) (fun o ho => Jn.eOp_len (HOK.out o (List.mem_of_mem_take ho)))
   rw [List.length_take] at h2
   rw [List.length_cons]; omega
  obtain ⟨V, hV⟩ : ∃ z, z = ((l.length : Int) :: (l.take k).flatMap Jn.eOp) := ⟨_, rfl⟩
  rw [← hV] at hdl HQ
  rw [← hV]
  have HV := Lh hV
  have sQ : Step W wr := Sm HQ.out.1
  clear hV
  by_cases hlt : k < l.length
  ·obtain ⟨o, hx⟩ : ∃ x, l[k]? = some x := ⟨_, gE hlt⟩
   obtain ⟨b, oo, rfl, _, hat⟩ := Rows.at HL.out (by omega)
   obtain ⟨cs, _, hR, hcc⟩ := hat k _ hx
   have HOP := Lh (HOK.out o (List.mem_of_getElem? hx))
   have hR' := hR
   obtain ⟨ka, kc, ga, gc, ha, hc, rfl, _, _, _, _⟩ := hR
   have HR := Lh hR'
   have t0 := hcc 0 _ rfl
   rw [Nat.add_zero] at t0
   have y0 := alw t0
   have y1 := alw (hcc 1 _ rfl)
   have y2 := alw (hcc 2 _ rfl)
   have y3 := alw (hcc 3 _ rfl)
   have y4 := alw (hcc 4 _ rfl)
   have y5 := alw (hcc 5 _ rfl)
   have y6 := alw (hcc 6 _ rfl)
   have y7 := alw (hcc 7 _ rfl)
   have y8 := alw (hcc 8 _ rfl)
   have HTK := Lh (take_succ_get hx)
   have bx := aH wr (.cells (Yq1 o ka kc ga gc ha hc) 67)
   have xm : Ext wr (wr.alloc (.cells (Yq1 o ka kc ga gc ha hc) 67)) := grows
   have k0 := alw (cQ 0 bx)
   have k1 := alw (cQ 1 bx)
   have k2 := alw (cQ 2 bx)
   have k3 := alw (cQ 3 bx)
   have k4 := alw (cQ 4 bx)
   have k5 := alw (cQ 5 bx)
   have k6 := alw (cQ 6 bx)
   have k7 := alw (cQ 7 bx)
   have k8 := alw (cQ 8 bx)
   have HX5 := Lh (HQ.out.1.trans xm)
   have HO5 := Lh (own_ext HQ.out.2 xm)
   have HEN : Hid (Calls Tryz.prog 66 #[.agg (Yq1 o ka kc ga gc ha hc)] (wr.alloc (.cells (Yq1 o ka kc ga gc ha hc) 67)) (Rets (wr.alloc (.cells (Yq1 o ka kc ga gc ha hc) 67)) (.bool true))) := Lh (encodable_any HR.out HOP.out)
   clear hx hat hcc t0 bx xm hR'
   go_wp2_with fail
   refine via (HEN.out) fun w6 xw6 sw6 => ?_
   go_wp2_with fail
   have HA : Hid (Calls Tryz.prog 67 #[.slice qa V.length qc, .agg (Yq1 o ka kc ga gc ha hc)] w6 (EncP W w6 (V ++ Jn.eOp o))) := Lh (aop_any (HX5.out.trans xw6) (own_ext HO5.out xw6) (by omega) HR.out HOP.out)
   refine HA.out.mono ?_
   rintro e w7 ⟨v7, rfl, x7, o7, _⟩
   obtain ⟨a7, c7, rfl⟩ := own_slice o7
   have HN : Hid (Ext W w7 ∧ w7.ownsRow W.heap.size 5 1 (.slice a7 (V ++ Jn.eOp o).length c7) (V ++ Jn.eOp o).length (u8s (V ++ Jn.eOp o))) := Lh ⟨x7, o7⟩
   have HE : Hid (((l.length : Int) :: (l.take (k + 1)).flatMap Jn.eOp) = V ++ Jn.eOp o) := Lh (by rw [HTK.out, List.flatMap_append, HV.out]; simp)
   clear x7 o7
   go_wp2_with fail
   go_roundw
   case rel => exact ⟨k + 1, by omega, by go_num, a7, c7, by rw [HE.out, List.length_append], Lh (by rw [HE.out]; exact HN.out)⟩
   case measure => simp [intOf]; omega
  ·obtain rfl : k = l.length := by omega
   have HF : Hid (V = Jn.enc l) := Lh (by rw [HV.out, List.take_length]; rfl)
   go_wp2_with fail
   go_ret
   rw [← HF.out]
   exact ⟨_, rfl, HQ.out⟩
namespace Jn
open Tj
theorem orE_0 {a b : Int} (h : orE a b = 0) : a = 0 ∧ b = 0 := by
 unfold orE at h
 by_cases h0 : a ≠ 0
 ·rw [if_pos h0] at h; exact absurd h h0
 ·rw [if_neg h0] at h; exact ⟨by omega, h⟩
theorem named_0 {α : Type} {nm : α → ByteArray} {f : α → Int} {l : List α} (h : namedE nm f l = 0) : ∀ x ∈ l, f x = 0 := by
 intro x hx
 obtain ⟨i, hi⟩ := List.getElem?_of_mem hx
 have h1 := firstE_ok h i (List.mem_range.2 (List.getElem?_eq_some_iff.1 hi).1)
 simp only [hi] at h1
 by_cases h0 : f x ≠ 0
 ·rw [if_pos h0] at h1; exact absurd h1 h0
 ·omega
theorem chk_lim {F : FP} (h : chkF F = 0) : F.ac.length ≤ 16 ∧ F.ts.length ≤ 12 ∧ ∀ a ∈ F.ac, a.ps.length ≤ 4 := by
 unfold chkF at h
 obtain ⟨h1, h⟩ := orE_0 h
 obtain ⟨_, h⟩ := orE_0 h
 obtain ⟨_, h⟩ := orE_0 h
 obtain ⟨_, h⟩ := orE_0 h
 obtain ⟨h5, _⟩ := orE_0 h
 obtain ⟨_, _, ha, ht⟩ := limE_ok h1
 refine ⟨ha, ht, fun a hm => ?_⟩
 have h2 := named_0 h5 a hm
 unfold actE at h2
 by_cases h0 : declE a ≠ 0
 ·rw [if_pos h0] at h2; exact absurd h2 h0
 ·have h0 : declE a = 0 := by omega
  unfold declE at h0
  split at h0
  ·split at h0
   ·simp at h0
   ·omega
  ·simp at h0
theorem call_0 {F : FP} (hc : chkF F = 0) {c : Tj.Call} (h : callE F c = 0) : okC c := by
 obtain ⟨h1, _, h3⟩ := chk_lim hc
 unfold callE at h
 cases hx : at? F.ac c.a with
 | none => rw [hx] at h; simp at h
 | some a =>
  rw [hx] at h
  simp only at h
  obtain ⟨g0, g1, g2⟩ := at_get hx
  have h4 := h3 a (List.mem_of_getElem? g2)
  by_cases hl : c.ar.length = a.ps.length
  ·exact ⟨⟨g0, by omega⟩, by omega⟩
  ·rw [if_pos hl] at h; simp at h
theorem tcall_0 {F : FP} (hc : chkF F = 0) {t : Int} {c : Tj.Call} (h : tcallE F t c = 0) : okC c := by
 unfold tcallE at h
 split at h
 ·exact call_0 hc h
 ·simp at h
theorem ent_0 {F : FP} (hc : chkF F = 0) {t : Int} {x : Ent} (h : entE F t x = 0) : sh x.pr ∧ x.ks.length ≤ 255 ∧ okC x.cl := by
 unfold entE at h
 by_cases h1 : tabI F t = 0
 ·have h6 := (tabI_sz h1).2
  rw [if_neg (by simp [h1])] at h
  by_cases h2 : x.ks.length = (tabAt F t).ks.length
  ·rw [if_neg (by simp [h2])] at h
   split at h
   ·rename_i h3; exact absurd h h3
   ·split at h
    ·simp at h
    ·split at h
     ·simp at h
     ·split at h
      ·exact ⟨⟨by omega, by omega⟩, by omega, call_0 hc h⟩
      ·simp at h
  ·rw [if_pos h2] at h; simp at h
 ·rw [if_pos h1] at h; exact absurd h h1
/-- the numbers of the rows -/
structure Ids (C : Cfg) : Prop where
 rw : ∀ rs ∈ C.rows, ∀ r ∈ rs, 0 ≤ r.id ∧ r.id ≤ 2147483647
 nx : ∀ n ∈ C.nx, 0 ≤ n
theorem last_bd : ∀ {l : List Rw} {m n : Int}, lastI m l = some n → m ≤ n ∧ ∀ r ∈ l, m < r.id ∧ r.id ≤ n
 | [], m, n, h => by cases h; exact ⟨Int.le_refl _, fun r hr => by cases hr⟩
 | x :: l, m, n, h => by
  unfold lastI at h
  by_cases h0 : x.id ≤ m
  ·rw [if_pos h0] at h; cases h
  ·rw [if_neg h0] at h
   obtain ⟨h1, h2⟩ := last_bd h
   refine ⟨by omega, fun r hr => ?_⟩
   rcases List.mem_cons.1 hr with rfl | hr
   ·exact ⟨by omega, h1⟩
   ·have := h2 r hr; exact ⟨by omega, this.2⟩
theorem cfg_0 {F : FP} {C : Cfg} (h : cfgE F C = 0) : chkF F = 0 ∧ C.rows.length = F.ts.length ∧ Ids C := by
 unfold cfgE at h
 by_cases h1 : chkF F = 0
 ·rw [if_neg (by simp [h1])] at h
  by_cases h2 : C.rows.length ≠ F.ts.length ∨ C.nx.length ≠ F.ts.length ∨ C.df.length ≠ F.ts.length
  ·rw [if_pos h2] at h; simp at h
  ·rw [if_neg h2] at h
   have e1 : C.rows.length = F.ts.length := by omega
   have e2 : C.nx.length = F.ts.length := by omega
   by_cases h3 : firstE (ctE F C) (List.range F.ts.length) ≠ 0
   ·rw [if_pos h3] at h; exact absurd h h3
   ·have h3 : firstE (ctE F C) (List.range F.ts.length) = 0 := by omega
    have key : ∀ t, t < F.ts.length → (∀ r ∈ C.rows.getD t [], 0 ≤ r.id ∧ r.id ≤ 2147483647) ∧ 0 ≤ C.nx.getD t 0 := by
     intro t ht
     have h4 := firstE_ok h3 t (List.mem_range.2 ht)
     unfold ctE ctabE at h4
     split at h4
     ·simp at h4
     ·split at h4
      ·simp at h4
      ·rename_i n hn
       obtain ⟨h5, h6⟩ := last_bd hn
       split at h4
       ·simp at h4
       ·exact ⟨fun r hr => by have := h6 r hr; omega, by omega⟩
    refine ⟨h1, e1, fun rs hrs r hr => ?_, fun n hn => ?_⟩
    ·obtain ⟨t, ht⟩ := List.getElem?_of_mem hrs
     have hlt := (List.getElem?_eq_some_iff.1 ht).1
     refine (key t (by omega)).1 r ?_
     rw [List.getD_eq_getElem?_getD, ht]; exact hr
    ·obtain ⟨t, ht⟩ := List.getElem?_of_mem hn
     have hlt := (List.getElem?_eq_some_iff.1 ht).1
     have := (key t (by omega)).2
     rw [List.getD_eq_getElem?_getD, ht] at this; exact this
 ·rw [if_pos h1] at h; exact absurd h h1
theorem rows_mem {C : Cfg} {t : Int} {r : Rw} (h : r ∈ rowsAt C t) : ∃ rs ∈ C.rows, r ∈ rs := by
 unfold rowsAt at h
 rw [List.getD_eq_getElem?_getD] at h
 cases hg : C.rows[t.toNat]? with
 | none => rw [hg] at h; cases h
 | some rs => rw [hg] at h; exact ⟨rs, List.mem_of_getElem? hg, h⟩
theorem rowP_0 {C : Cfg} (hi : Ids C) {t id : Int} (h : rowP C t id ≠ none) : ¬ noT C t ∧ 0 ≤ id ∧ id ≤ 2147483647 := by
 unfold rowP at h
 by_cases hT : noT C t
 ·rw [if_pos hT] at h; exact absurd rfl h
 ·rw [if_neg hT] at h
  cases hp : pos (rowsAt C t) id with
  | none => exact absurd hp h
  | some i =>
   obtain ⟨r, h1, h2⟩ := pos_hit hp
   obtain ⟨rs, h3, h4⟩ := rows_mem (List.mem_of_getElem? h1)
   have := hi.rw rs h3 r h4
   rw [h2] at this
   exact ⟨hT, this⟩
theorem noT_0 {C : Cfg} (hl : C.rows.length ≤ 12) {t : Int} (h : ¬ noT C t) : sh t := by
 unfold noT at h
 exact ⟨by omega, by omega⟩
theorem ins_0 {F : FP} {C : Cfg} {t : Int} {x : Ent} (h : insE F C t x = 0) : ¬ noT C t ∧ entE F t x = 0 ∧ nxAt C t < 1073741824 := by
 unfold insE at h
 by_cases h1 : noT C t
 ·rw [if_pos h1] at h; simp at h
 ·rw [if_neg h1] at h
  by_cases h2 : entE F t x ≠ 0
  ·rw [if_pos h2] at h; exact absurd h h2
  ·rw [if_neg h2] at h
   split at h
   ·simp at h
   ·split at h
    ·simp at h
    ·exact ⟨h1, by omega, by omega⟩
theorem ok_of {F : FP} {C : Cfg} {o : TOp} (hc : chkF F = 0) (hl : C.rows.length ≤ 12) (hi : Ids C) (h : opE F C o = 0) : ok o := by
 unfold opE at h
 split at h
 ·rename_i hk
  obtain ⟨h1, h2, _⟩ := ins_0 h
  exact ⟨noT_0 hl h1, .inl ⟨hk, ent_0 hc h2⟩⟩
 ·split at h
  ·rename_i hk
   unfold modE at h
   by_cases h1 : rowP C o.t o.id = none
   ·rw [if_pos h1] at h; simp at h
   ·rw [if_neg h1] at h
    obtain ⟨h2, h3⟩ := rowP_0 hi h1
    exact ⟨noT_0 hl h2, .inr (.inl ⟨hk, h3, tcall_0 hc h⟩)⟩
  ·split at h
   ·rename_i hk
    unfold delE at h
    by_cases h1 : rowP C o.t o.id = none
    ·rw [if_pos h1] at h; simp at h
    ·obtain ⟨h2, h3⟩ := rowP_0 hi h1
     exact ⟨noT_0 hl h2, .inr (.inr (.inl ⟨hk, h3⟩))⟩
   ·split at h
    ·rename_i hk
     unfold sdfE at h
     by_cases h1 : noT C o.t
     ·rw [if_pos h1] at h; simp at h
     ·rw [if_neg h1] at h
      exact ⟨noT_0 hl h1, .inr (.inr (.inr ⟨hk, tcall_0 hc h⟩))⟩
    ·simp at h
theorem ids_set {C : Cfg} (hi : Ids C) {t : Nat} {rs : List Rw} (h : ∀ r ∈ rs, 0 ≤ r.id ∧ r.id ≤ 2147483647) : ∀ rs' ∈ C.rows.set t rs, ∀ r ∈ rs', 0 ≤ r.id ∧ r.id ≤ 2147483647 := fun rs' hrs r hr => by
 rcases List.mem_or_eq_of_mem_set hrs with h1 | rfl
 ·exact hi.rw rs' h1 r hr
 ·exact h r hr
theorem ids_at {C : Cfg} (hi : Ids C) {t : Int} : ∀ r ∈ rowsAt C t, 0 ≤ r.id ∧ r.id ≤ 2147483647 := fun r hr => by
 obtain ⟨rs, h3, h4⟩ := rows_mem hr
 exact hi.rw rs h3 r h4
theorem nx_at {C : Cfg} (hi : Ids C) (t : Int) : 0 ≤ nxAt C t := by
 unfold nxAt
 rw [List.getD_eq_getElem?_getD]
 cases hg : C.nx[t.toNat]? with
 | none => exact Int.le_refl _
 | some n => exact hi.nx n (List.mem_of_getElem? hg)
theorem op_ids {F : FP} {C : Cfg} {o : TOp} (hi : Ids C) (h : opE F C o = 0) : Ids (opC C o) := by
 unfold opE at h
 unfold opC
 split at h
 ·rename_i hk; rw [if_pos hk]
  obtain ⟨h1, h2, h3⟩ := ins_0 h
  have h4 := nx_at hi o.t
  refine ⟨ids_set hi (fun r hr => ?_), fun n hn => ?_⟩
  ·rcases List.mem_append.1 hr with hr | hr
   ·exact ids_at hi r hr
   ·simp only [List.mem_singleton] at hr; subst hr; exact ⟨h4, by show nxAt C o.t ≤ _; omega⟩
  ·rcases List.mem_or_eq_of_mem_set hn with h5 | rfl
   ·exact hi.nx n h5
   ·omega
 ·rename_i hk; rw [if_neg hk]
  split at h
  ·rename_i hk2; rw [if_pos hk2]
   unfold modC
   cases hp : rowP C o.t o.id with
   | none => exact hi
   | some i =>
    refine ⟨ids_set hi (fun r hr => ?_), hi.nx⟩
    obtain ⟨j, hj⟩ := List.getElem?_of_mem hr
    rw [List.getElem?_modify] at hj
    obtain ⟨r0, h1, h2⟩ := Option.map_eq_some_iff.1 hj
    have h3 := ids_at hi r0 (List.mem_of_getElem? h1)
    split at h2
    ·subst h2; exact h3
    ·have h2 : r0 = r := h2
     subst h2; exact h3
  ·rename_i hk2; rw [if_neg hk2]
   split at h
   ·rename_i hk3; rw [if_pos hk3]
    unfold delC
    cases hp : rowP C o.t o.id with
    | none => exact hi
    | some i => exact ⟨ids_set hi (fun r hr => ids_at hi r (List.mem_of_mem_eraseIdx hr)), hi.nx⟩
   ·rename_i hk3; rw [if_neg hk3]
    split at h
    ·rename_i hk4; rw [if_pos hk4]; exact ⟨hi.rw, hi.nx⟩
    ·simp at h
theorem runs_ok {F : FP} (hz : Sz F) (hc : chkF F = 0) : ∀ (l : List TOp) (C : Cfg), Inv F C → Ids C → runsE F C l = 0 → ∀ o ∈ l, ok o
 | [], _, _, _, _, o, ho => by cases ho
 | x :: l, C, hI, hi, h, o, ho => by
  have h0 : runsE F C (x :: l) = if opE F C x ≠ 0 then opE F C x else runsE F (opC C x) l := rfl
  rw [h0] at h
  by_cases hx : opE F C x = 0
  ·rw [if_neg (by simp [hx])] at h
   rcases List.mem_cons.1 ho with rfl | ho
   ·have := (chk_lim hc).2.1
    exact ok_of hc (by rw [hI.nt]; exact this) hi hx
   ·exact runs_ok hz hc l (opC C x) (opC_inv hz hI hx) (op_ids hi hx) h o ho
  ·rw [if_pos hx] at h; exact absurd h hx
theorem txn_ok {F : FP} {C : Cfg} {l : List TOp} (hz : Sz F) (hI : Inv F C) (h : txnE F C l = 0) : cfgE F C = 0 ∧ l.length ≤ 64 ∧ runsE F C l = 0 ∧ ∀ o ∈ l, ok o := by
 unfold txnE at h
 by_cases h1 : cfgE F C = 0
 ·rw [if_neg (by simp [h1])] at h
  by_cases h2 : 64 < l.length
  ·rw [if_pos h2] at h; simp at h
  ·rw [if_neg h2] at h
   obtain ⟨h3, _, h4⟩ := cfg_0 h1
   exact ⟨h1, by omega, h, runs_ok hz h3 l C hI h4 h⟩
 ·rw [if_pos h1] at h; exact absurd h h1
end Jn
/-- a decoder at block g, with the bytes l left, which lie in W -/
def Dc (W w : World) (g : Nat) (l : List Int) : Prop := Ext W w ∧ W.heap.size ≤ g ∧ ∃ v, w.heap[g]? = some (.cells #[v, .int .i64 0] 213 (0, 0)) ∧ Byt W v l
theorem Dc.ext {W w w' : World} {g : Nat} {l : List Int} (h : Dc W w g l) (hx : Ext w w') : Dc W w' g l := by
 obtain ⟨h1, h2, v, h3, h4⟩ := h; exact ⟨h1.trans hx, h2, v, hx.heap h3, h4⟩
theorem Dc.mod {W w w' : World} {S : Nat → Prop} {g : Nat} {l : List Int} (h : Dc W w g l) (hm : Mod S w w') (hs : ∀ k, S k → W.heap.size ≤ k) (hg : ¬ S g) : Dc W w' g l := by
 obtain ⟨h1, h2, v, h3, h4⟩ := h; exact ⟨h1.mod hm hs, h2, v, hm.heap h3 hg, h4⟩
/-- what reading n bytes leaves -/
def NumP (W w : World) (g : Nat) (x : Int) (r : List Int) (e : Ending) (w' : World) : Prop := e = .returned (.int .u32 x) ∧ Mod (· = g) w w' ∧ Dc W w' g r
theorem dnum_any {W w : World} {g : Nat} {l : List Int} (h : Dc W w g l) {n : Nat} (hn : n ≤ l.length) : Calls Tryz.prog 119 #[.pointer (some ⟨g, 0, none⟩), .int .i64 (n : Int)] w (NumP W w g (Cs.nm (l.take n)) (l.drop n)) := by
 obtain ⟨hx, hgW, v, hg, hb⟩ := h
 have hml := hb.len
 obtain ⟨a, c, rfl, hc1, hc2⟩ := hb.pre
 obtain ⟨q1, b1⟩ := hb.lo (t := n) hn
 obtain ⟨o2, q2, b2⟩ := hb.hi (s := n) hn
 have HB1 := Lh b1
 have HB2 := Lh b2
 have HBY := Lh hb.2.2
 have HX := Lh hx
 have HG := Lh hg
 have k0 := alw (cQ 0 hg)
 have k1 := alw (cQ 1 hg)
 have f0 : w.frozen? ⟨g, 0, none⟩ = false := free_of hg
 have d1 : decide ((l.length : Int) < (n : Int)) = false := dF (by omega)
 have hln : (l.take n).length = n := by rw [List.length_take]; omega
 have HLN := Lh hln
 clear hx hg hb b1 b2 hln
 go_enter Tryz.func119, Tryz.ntmps119
 go_wp2_with fail
 go_loopw [5, 37] (fun u q wr => ∃ k : Nat, k ≤ n ∧ q = .int .i64 k ∧ wr = w ∧ ∃ m : Int, u = .int .u32 m ∧ Hid (m = Cs.nm ((l.take n).take k))) (fun _ q _ => n - (intOf q).toNat)
 case atStart => exact ⟨0, Nat.zero_le _, rfl, rfl, 0, rfl, Lh rfl⟩
 case round =>
  obtain ⟨k, hk, rfl, rfl, m, rfl, HZ⟩ := hrel
  by_cases hlt : k < n
  ·obtain ⟨x, hx⟩ : ∃ x, (l.take n)[k]? = some x := ⟨_, gE (by rw [HLN.out]; exact hlt)⟩
   have HB1' : Byt wr (.slice a (l.take n).length c) (l.take n) := by rw [HLN.out]; exact HB1.out.ext HX.out
   obtain ⟨b, o, rfl, _, hat⟩ := HB1'.at (by rw [HLN.out]; omega)
   have y0 := alw (hat k x hx)
   have hxb := HBY.out x (List.mem_of_mem_take (List.mem_of_getElem? hx))
   have hor := Cs.or_byte (v := m) hxb
   have HTK := Lh (take_succ_get hx)
   have HXB := Lh hxb
   clear hx hxb hat HB1'
   go_wp2_with fail
   go_roundw
   case rel => exact ⟨k + 1, by omega, by go_num, trivial, _, rfl, Lh (by rw [HTK.out, Cs.nm_snoc, ← HZ.out])⟩
   case measure => simp [intOf]; omega
  ·obtain rfl : k = n := by omega
   have HE : Hid (m = Cs.nm (l.take k)) := Lh (by rw [HZ.out, List.take_of_length_le (by rw [HLN.out]; exact Nat.le_refl _)])
   go_wp2_with fail
   go_ret
   refine ⟨by rw [← HE.out]; rfl, Mod.setCell (S := fun k => k = g) (p := ⟨g, 0, none⟩) (Mod.refl _ _) (.inl rfl) _, HX.out.setCell hgW _, hgW, _, setCell_heap HG.out, ?_⟩
   exact HB2.out
namespace Jn
theorem nm1 {x : Int} (h : 0 ≤ x ∧ x ≤ 255) : Cs.nm (bn 1 x) = x := by
 simp only [Cs.nm, bn, List.foldl_cons, List.foldl_nil, Cs.nmF]
 omega
theorem nm2 {x : Int} (h : 0 ≤ x ∧ x ≤ 65535) : Cs.nm (bn 2 x) = x := by
 simp only [Cs.nm, bn, List.foldl_cons, List.foldl_nil, Cs.nmF]
 omega
theorem nm4 {x : Int} (h : 0 ≤ x ∧ x ≤ 4294967295) : Cs.nm (bn 4 x) = x := by
 simp only [Cs.nm, bn, List.foldl_cons, List.foldl_nil, Cs.nmF]
 omega
end Jn
theorem dnum_bn {W w : World} {g : Nat} {l : List Int} {n : Nat} {x : Int} (h : Dc W w g (Jn.bn n x ++ l)) (hx : Cs.nm (Jn.bn n x) = x) : Calls Tryz.prog 119 #[.pointer (some ⟨g, 0, none⟩), .int .i64 (n : Int)] w (NumP W w g x l) := by
 have h1 := dnum_any h (n := n) (by rw [List.length_append, Jn.bn_len]; omega)
 rw [show (Jn.bn n x ++ l).take n = Jn.bn n x from List.take_left' (Jn.bn_len n x), show (Jn.bn n x ++ l).drop n = l from List.drop_left' (Jn.bn_len n x), hx] at h1
 exact h1
theorem dnum_1 {W w : World} {g : Nat} {l : List Int} {x : Int} (h : Dc W w g (x :: l)) (hx : 0 ≤ x ∧ x ≤ 255) : Calls Tryz.prog 119 #[.pointer (some ⟨g, 0, none⟩), .int .i64 1] w (NumP W w g x l) :=
 dnum_bn (n := 1) (x := x) (by rw [show Jn.bn 1 x ++ l = x :: l from by simp only [Jn.bn, List.cons_append, List.nil_append]; rw [show x / 256 ^ 0 % 256 = x by omega]]; exact h) (Jn.nm1 hx)
theorem drequire_any {W w : World} {g : Nat} {l : List Int} (h : Dc W w g l) (x : Int) : Calls Tryz.prog 120 #[.pointer (some ⟨g, 0, none⟩), .bool true, .int .i64 x] w (fun e w' => e = .returned (.tuple #[]) ∧ Ext w w') := by
 obtain ⟨hx, hgW, v, hg, hb⟩ := h
 have k1 := alw (cQ 1 hg)
 clear hx hg hb
 go_enter Tryz.func120, Tryz.ntmps120
 go_wp2_with fail
 exact ⟨rfl, .tuple #[], by simp [results, Tryz.results120, go_sem], rfl, eR _⟩
theorem did_any {W w : World} {g : Nat} {l : List Int} {x : Int} (h : Dc W w g (Jn.bn 4 x ++ l)) (hx0 : 0 ≤ x ∧ x ≤ 2147483647) : Calls Tryz.prog 153 #[.pointer (some ⟨g, 0, none⟩)] w (fun e w' => e = .returned (.int .i64 x) ∧ Mod (· = g) w w' ∧ Dc W w' g l) := by
 have HN : Hid (Calls Tryz.prog 119 #[.pointer (some ⟨g, 0, none⟩), .int .i64 4] w (NumP W w g x l)) := Lh (by
  exact dnum_bn (n := 4) h (Jn.nm4 ⟨hx0.1, by omega⟩))
 have d1 : decide (x ≤ 2147483647) = true := dTt hx0.2
 clear h
 go_enter Tryz.func153, Tryz.ntmps153
 go_wp2_with fail
 refine HN.out.mono ?_
 rintro e w1 ⟨rfl, m1, h1⟩
 have HM1 := Lh m1
 have HD1 := Lh h1
 clear m1 h1
 go_wp2_with fail
 refine (drequire_any HD1.out _).mono ?_
 rintro e w2 ⟨rfl, x2⟩
 have HM2 := Lh (HM1.out.trans (Mod.of_ext x2))
 have HD2 := Lh (HD1.out.ext x2)
 clear x2
 go_wp2_with fail
 go_ret
 exact ⟨rfl, HM2.out, HD2.out⟩
end Go.Proofs.YthmokhkkdgnbhaaGreat
