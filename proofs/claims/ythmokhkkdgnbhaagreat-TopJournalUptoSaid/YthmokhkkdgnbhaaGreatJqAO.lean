/- Stores: row, Modify, SetDefault, walked. Stores: slices.Delete, Delete, walked. Transactions: execute; stores: Config, Clone, Load, walked. No condition. -/
import Derived.Test.YthmokhkkdgnbhaaGreatJqAN
import Derived.Deep.DeepAppendRoom
import Derived.Deep.MidRow
set_option maxRecDepth 8000
set_option maxHeartbeats 16000000
namespace Go.Proofs.YthmokhkkdgnbhaaGreat
open Go.RowKit
open Go.Maps
open Go.WideMaps
namespace Tj
theorem modify_at {α : Type} {l : List α} {i : Nat} {r : α} {f : α → α} (h : l[i]? = some r) : l.modify i f = l.set i (f r) := by
 refine List.ext_getElem? fun j => ?_
 rw [List.getElem?_modify, List.getElem?_set]
 by_cases e : i = j
 ·subst e; rw [if_pos rfl, if_pos (List.getElem?_eq_some_iff.1 h).1, h]; simp
 ·simp [e]
theorem RwsO.setCall {w : World} {g n c i : Nat} {rs : List Rw} {r : Rw} {d : Call} {ga : Option Addr} {gc : Nat} (h : RwsO 0 w (.slice (some ⟨g, 0, none⟩) n c) rs) (hi : rs[i]? = some r) (ha : B64 d.a) (hu : UOwn 0 w (.slice ga d.ar.length gc) d.ar) :
 RwsO 0 ((w.setCell ⟨g, i * 5 + 3, none⟩ (.int .i64 d.a)).setCell ⟨g, i * 5 + 3 + 1, none⟩ (.slice ga d.ar.length gc)) (.slice (some ⟨g, 0, none⟩) n c) (rs.set i { r with e := { r.e with cl := d } }) ∧
  Mod (fun k => (Value.slice (some ⟨g, 0, none⟩) n c).ownBlock = some k) w ((w.setCell ⟨g, i * 5 + 3, none⟩ (.int .i64 d.a)).setCell ⟨g, i * 5 + 3 + 1, none⟩ (.slice ga d.ar.length gc)) := by
 obtain ⟨css, h1, h2, h3, h4, h5⟩ := h
 have hil : i < rs.length := (List.getElem?_eq_some_iff.1 hi).1
 obtain ⟨c0, hc0⟩ : ∃ x, css[i]? = some x := ⟨_, gE (by omega)⟩
 obtain ⟨es, e1, b1, ka, kc, oa, oc, e2, b2, hk, _⟩ := h5 i c0 r hc0 hi
 subst e2 e1
 have hnn : n = rs.length := by
  rcases h4.2 with ⟨h1, _⟩ | ⟨_, _, _, h1, _⟩
  ·cases h1
  ·simp only [Value.slice.injEq] at h1; exact h1.2.1
 subst hnn
 obtain ⟨cu, hoc⟩ := own_obj h4
 obtain ⟨wb, hwb⟩ : ∃ z, z = w.setCell ⟨g, i * 5 + 3, none⟩ (.int .i64 d.a) := ⟨_, rfl⟩
 rw [← hwb]
 have m1 : Mod (· = g) w wb := by rw [hwb]; exact Mod.setCell (S := fun k => k = g) (p := ⟨g, i * 5 + 3, none⟩) (Mod.refl _ _) (.inl rfl) _
 have m2 : Mod (· = g) w (wb.setCell ⟨g, i * 5 + 3 + 1, none⟩ (.slice ga d.ar.length gc)) := m1.setCell (.inl rfl) _
 have k2 : Kp Leaf w (wb.setCell ⟨g, i * 5 + 3 + 1, none⟩ (.slice ga d.ar.length gc)) := Kp.box m2 hoc (by decide)
 have hfl := h4.1
 refine ⟨⟨css.set i [.int .i64 r.id, .slice ka r.e.ks.length kc, .int .i64 r.e.pr, .int .i64 d.a, .slice ga d.ar.length gc], by simp [h1], fun x hx => ?_, fun x hx => ?_, ?_, fun j cs e hj he => ?_⟩, m2.mono (fun k _ hk => by simp [Value.ownBlock, hk])⟩
 ·rcases List.mem_or_eq_of_mem_set hx with h | rfl
  ·exact h2 x h
  ·rfl
 ·rcases List.mem_or_eq_of_mem_set hx with h | rfl
  ·exact h3 x h
  ·simp [Value.oneCell']
 ·rw [List.length_set]
  have o1 : wb.ownsRow 0 151 5 (.slice (some ⟨g, 0, none⟩) rs.length c) rs.length (css.set i [.int .i64 r.id, .slice ka r.e.ks.length kc, .int .i64 r.e.pr, .int .i64 d.a, .slice oa r.e.cl.ar.length oc]).flatten := by
   have h := flatten_set (j := 3) (u := .int .i64 d.a) h2 hc0 (by decide)
   simp only [stS, stZ] at h
   rw [← h, hwb]
   exact own_put (j := i * 5 + 3) h4 (by rw [hfl]; omega)
  have hl2 : ∀ x ∈ css.set i [Value.int .i64 r.id, .slice ka r.e.ks.length kc, .int .i64 r.e.pr, .int .i64 d.a, .slice oa r.e.cl.ar.length oc], x.length = 5 := fun x hx => by
   rcases List.mem_or_eq_of_mem_set hx with h | rfl
   ·exact h2 x h
   ·rfl
  have hg2 : (css.set i [Value.int .i64 r.id, .slice ka r.e.ks.length kc, .int .i64 r.e.pr, .int .i64 d.a, .slice oa r.e.cl.ar.length oc])[i]? = some _ := List.getElem?_set_self (by omega)
  have o2 := own_put (j := i * 5 + 3 + 1) (u := .slice ga d.ar.length gc) o1 (by have := o1.1; omega)
  have h := flatten_set (j := 4) (u := .slice ga d.ar.length gc) hl2 hg2 (by decide)
  simp only [stS, stZ, List.set_set] at h
  rw [show i * 5 + 3 + 1 = i * 5 + 4 by omega] at o2
  rw [h] at o2
  rw [show i * 5 + 3 + 1 = i * 5 + 4 by omega]; exact o2
 ·rcases set_get hj with ⟨rfl, rfl⟩ | ⟨hne, hj⟩
  ·rcases set_get he with ⟨_, rfl⟩ | ⟨hne, _⟩
   ·exact ⟨_, rfl, b1, ka, kc, ga, gc, rfl, ⟨b2.1, ha⟩, hk.kp k2, hu.kp k2⟩
   ·exact absurd rfl hne
  ·rcases set_get he with ⟨e1, _⟩ | ⟨_, he⟩
   ·exact absurd e1 hne
   ·exact (h5 j cs e hj he).kp k2
variable {S : Nat → Prop} {lo hi : Nat} {w w' : World} {V : SV} {vs ms : List Value} {F : FP} {C : Cfg} {fs : Nat → Nat × (Int → Option Nat)}
/-- the rows of table t are changed where they lie -/
theorem StO.sameRow (h : StO S lo hi w V vs ms F C fs) {t : Nat} {v : Value} {rs rs' : List Rw} {w1 : World} (hrs : C.rows[t]? = some rs) (hv : vs[t]? = some v)
 (hm : Mod (fun k => v.ownBlock = some k) w w1) (hn : RwsO 0 w1 v rs') (hinv : Inv F { C with rows := C.rows.set t rs' }) :
 StO S lo hi w1 V vs ms F { C with rows := C.rows.set t rs' } fs ∧ Mod S w w1 := by
 have hSt : ∀ k, v.ownBlock = some k → S k := fun k hk => h.sr t v k hv hk
 obtain ⟨⟨⟨r0, rl, r1, rj, ro⟩, nx, df, rg⟩, pr, sp, ix, mm, mj, s0, s1, s2, si, sr, sm, inv, sz⟩ := h
 have htl : t < C.rows.length := (List.getElem?_eq_some_iff.1 hrs).1
 have hvt := r1 t v rs hv hrs
 have hty : ∀ k, v.ownBlock = some k → ∃ cur, w.heap[k]? = some (.cells cur 151 (0, 0)) := fun k hk => by
  obtain ⟨css, _, _, _, h4, _⟩ := hvt; exact row_heap h4 hk
 have k1 : Kp [68, 3, 63, 209, 118, 61, 239] w w1 := Kp.mod hm (fun k cur ty f hk hc => by
  obtain ⟨cu, h2⟩ := hty k hk
  rw [hc] at h2; simp only [Option.some.injEq, Obj.cells.injEq] at h2
  rw [h2.2.1]; decide)
 have q1 : MapsKept w w1 := fun k es cl hk => hm.heap hk (fun e => by obtain ⟨cu, h2⟩ := hty k e; rw [hk] at h2; cases h2)
 have mS : Mod S w w1 := hm.mono (fun k _ hk => hSt k hk)
 refine ⟨⟨⟨⟨?_, by rw [rl, List.length_set], fun i u r hu hr => ?_, rj, fun i u hu => ?_⟩, ⟨own_kp nx.1 k1 (by decide), nx.2⟩, df.kp k1 (by decide) (by decide), rg.kp k1 (by decide) (by decide)⟩, pr.mod mS (fun k hk => sp k hk), sp, ?_, fun i hi => ?_, mj, s0, s1, s2, si, sr, sm, hinv, sz⟩, mS⟩
 ·rw [List.length_set]; exact own_kp r0 k1 (by decide)
 ·rcases set_get hr with ⟨rfl, rfl⟩ | ⟨hne, hr⟩
  ·rw [hv] at hu; simp only [Option.some.injEq] at hu; subst hu; exact hn
  ·exact (r1 i u r hu hr).mod hm (fun k hk hk2 => hne (rj i t u v k hu hv hk hk2)) (k1.sub (by decide))
 ·obtain ⟨r, hr⟩ := ro i u hu
  by_cases e : i = t
  ·subst e; exact ⟨rs', List.getElem?_set_self htl⟩
  ·exact ⟨r, by rw [List.getElem?_set_ne (fun h => e h.symm)]; exact hr⟩
 ·show World.ownsRow _ 0 _ 1 _ (C.rows.set t rs').length ms
  rw [List.length_set]
  exact own_kp ix k1 (by decide)
 ·obtain ⟨b, h1, h2⟩ := mm i (by simpa using hi)
  exact ⟨b, h1, h2.kept q1⟩
end Tj
/-- what looking for a row answers -/
def RowAt (w : World) (o : Option Nat) (e : Ending) (w' : World) : Prop := e = .returned (.tuple #[.int .i64 ((o.getD 0 : Nat) : Int), .int .i64 (if o = none then 8 else 0)]) ∧ Ext w w'
theorem srow_any {S : Nat → Prop} {lo hi sp : Nat} {V : Tj.SV} {w : World} {F : Tj.FP} {C : Tj.Cfg} (h : Tj.St S lo hi sp V w F C) (t id : Int) (hid : Tj.B64 id) :
 Calls Tryz.prog 147 #[.pointer (some ⟨sp, 0, none⟩), .int .i64 t, .int .i64 id] w (RowAt w (Tj.rowP C t id)) := by
 obtain ⟨v0, v1, v2, v3, ixv, q0, q1, q2, q3, q4, q5, q6, q7, q8⟩ := V
 obtain ⟨hbx, hsl, vs, ms, hst⟩ := h
 have HST := Lh hst
 have HSL := Lh hsl
 have HBX := Lh hbx
 obtain ⟨r0, c0, r1, c1, r2, c2, r3, c3, rfl, rfl, rfl, rfl⟩ := hst.cfg.form
 obtain ⟨ia, ic, rfl, _⟩ := own_form hst.ix
 have hwsp : sp < w.heap.size := lt_of_block hbx
 have k0 := alw (cQ 0 hbx)
 have k1 := alw (cQ 1 hbx)
 have k2 := alw (cQ 2 hbx)
 have k3 := alw (cQ 3 hbx)
 have k4 := alw (cQ 4 hbx)
 have k5 := alw (cQ 5 hbx)
 have k6 := alw (cQ 6 hbx)
 have k7 := alw (cQ 7 hbx)
 have k8 := alw (cQ 8 hbx)
 have k9 := alw (cQ 9 hbx)
 have k10 := alw (cQ 10 hbx)
 have k11 := alw (cQ 11 hbx)
 have k12 := alw (cQ 12 hbx)
 have k13 := alw (cQ 13 hbx)
 have k14 := alw (cQ 14 hbx)
 clear hst hsl hbx
 have HTB : Hid (∀ w', Ext w w' → Calls Tryz.prog 177 #[.pointer (some ⟨sp, 0, none⟩), .int .i64 t] w' (Rets w' (.bool (decide (0 ≤ t) && decide (t < C.rows.length))))) := Lh (fun w' hw => stab_any (hw.cell (k0 w)) t)
 have e0 : ∀ w', (binOp .eql 76 (.pointer (some ⟨sp, 0, none⟩)) (.pointer none)).run Tryz.prog w' = .ok (.bool false) w' := fun _ => rfl
 by_cases hT : Tj.noT C t
 ·have hp : Tj.rowP C t id = none := by unfold Tj.rowP; rw [if_pos hT]
  rw [hp]
  have d1 : (decide (0 ≤ t) && decide (t < (C.rows.length : Int))) = false := by
   rcases hT with h | h
   ·rw [dF (by omega)]; rfl
   ·rw [dF (p := t < (C.rows.length : Int)) (by omega), Bool.and_false]
  rw [d1] at HTB
  clear hT d1
  go_enter Tryz.func147, Tryz.ntmps147
  go_wp2_with fail
  refine via (HTB.out _ grows) fun w3 xw3 sw3 => ?_
  go_wp2_with fail
  exact bodyPost_ret (v := .tuple #[.int .i64 0, .int .i64 8]) (by simp [results, Tryz.results147, go_sem]) rfl ⟨rfl, grows⟩
 ·have hp : Tj.rowP C t id = Tj.pos (Tj.rowsAt C t) id := by unfold Tj.rowP; rw [if_neg hT]
  rw [hp]
  obtain ⟨t, rfl⟩ : ∃ n : Nat, t = n := ⟨t.toNat, by unfold Tj.noT at hT; omega⟩
  have htl : t < C.rows.length := by unfold Tj.noT at hT; omega
  have d1 : (decide (0 ≤ (t : Int)) && decide ((t : Int) < (C.rows.length : Int))) = true := by
   rw [dTt (by omega), dTt (by omega)]; rfl
  rw [d1] at HTB
  obtain ⟨rs, hrs⟩ : ∃ z, C.rows[t]? = some z := ⟨_, gE htl⟩
  have hra : Tj.rowsAt C t = rs := by unfold Tj.rowsAt; rw [Int.toNat_natCast, List.getD_eq_getElem?_getD, hrs]; rfl
  rw [hra]
  obtain ⟨b, hmb, him⟩ := HST.out.mm t htl
  rw [Tj.ixs_at hrs] at him
  obtain ⟨gi, ci', hgi, _⟩ := own_cons HST.out.ix (by omega)
  simp only [Value.slice.injEq] at hgi
  obtain ⟨rfl, _, rfl⟩ := hgi
  have gm := alw (own_get HST.out.ix hmb)
  have HIM := Lh him
  have ql0 : ¬ ((C.rows.length : Int) ≤ t) := by omega
  clear hT d1 hp hra hrs hmb him
  go_enter Tryz.func147, Tryz.ntmps147
  go_wp2_with fail
  refine via (HTB.out _ grows) fun w3 x3 s3 => ?_
  have hlk := (HIM.out.kept (MapsKept.ext (grows (a := w) (b := w3)))).look hid
  cases hpo : Tj.pos rs id with
  | none =>
   rw [hpo] at hlk
   simp only [Option.getD_none, Option.isSome_none] at hlk
   go_wp2_with fail
   exact bodyPost_ret (v := .tuple #[.int .i64 0, .int .i64 8]) (by simp [results, Tryz.results147, go_sem]) rfl ⟨by rw [hpo]; rfl, grows⟩
  | some i =>
   rw [hpo] at hlk
   simp only [Option.getD_some, Option.isSome_some] at hlk
   go_wp2_with fail
   exact bodyPost_ret (v := .tuple #[.int .i64 (i : Nat), .int .i64 0]) (by simp [results, Tryz.results147, go_sem]) rfl ⟨by rw [hpo]; rfl, grows⟩
def ModP (S : Nat → Prop) (lo hi sp : Nat) (V : Tj.SV) (w : World) (F : Tj.FP) (c : Int) (C' : Tj.Cfg) (e : Ending) (w' : World) : Prop := e = .returned (.int .i64 c) ∧ Tj.ChP S lo hi sp V w F c C' w'
theorem smod_any {S : Nat → Prop} {lo hi sp : Nat} {V : Tj.SV} {w : World} {F : Tj.FP} {C : Tj.Cfg} (h : Tj.St S lo hi sp V w F C) (t id : Int) (hid : Tj.B64 id) {cv : Value} {c : Tj.Call} (hx : ∀ w', Mod S w w' → ∃ cs : List Value, cv = .agg cs.toArray ∧ Tj.CallR w' cs c) :
 Calls Tryz.prog 110 #[.pointer (some ⟨sp, 0, none⟩), .int .i64 t, .int .i64 id, cv] w (ModP S lo hi sp V w F (Tj.modE F C t id c) (Tj.modC C t id c)) := by
 have HRW : Hid (∀ w', Ext w w' → Calls Tryz.prog 147 #[.pointer (some ⟨sp, 0, none⟩), .int .i64 t, .int .i64 id] w' (RowAt w' (Tj.rowP C t id))) := Lh (fun w' hw => srow_any (h.ext hw) t id hid)
 obtain ⟨v0, v1, v2, v3, ixv, q0, q1, q2, q3, q4, q5, q6, q7, q8⟩ := V
 obtain ⟨hbx, hsl, vs, ms, hst⟩ := h
 have HST := Lh hst
 have HSL := Lh hsl
 have HBX := Lh hbx
 obtain ⟨r0, c0, r1, c1, r2, c2, r3, c3, rfl, rfl, rfl, rfl⟩ := hst.cfg.form
 obtain ⟨ia, ic, rfl, _⟩ := own_form hst.ix
 have hwsp : sp < w.heap.size := lt_of_block hbx
 have k0 := alw (cQ 0 hbx)
 have k1 := alw (cQ 1 hbx)
 have k2 := alw (cQ 2 hbx)
 have k3 := alw (cQ 3 hbx)
 have k4 := alw (cQ 4 hbx)
 have k5 := alw (cQ 5 hbx)
 have k6 := alw (cQ 6 hbx)
 have k7 := alw (cQ 7 hbx)
 have k8 := alw (cQ 8 hbx)
 have k9 := alw (cQ 9 hbx)
 have k10 := alw (cQ 10 hbx)
 have k11 := alw (cQ 11 hbx)
 have k12 := alw (cQ 12 hbx)
 have k13 := alw (cQ 13 hbx)
 have k14 := alw (cQ 14 hbx)
 clear hst hsl hbx
 have hx0 := hx w (Mod.refl _ _)
 obtain ⟨_, rfl, av, rfl, hba, hav⟩ := hx0
 obtain ⟨ya, yc, rfl⟩ := ns_slice hav.1
 have HX := Lh hx
 have HBA := Lh hba
 clear hx hav hba
 obtain ⟨R, hR⟩ : ∃ z, z = Tj.modE F C t id c := ⟨_, rfl⟩
 rw [← hR]
 unfold Tj.modE at hR
 have HTC : Hid (∀ w', Ext w w' → Calls Tryz.prog 144 #[.agg #[q0, q1, q2, q3, q4, q5, q6, q7, q8], .int .i64 t, .agg #[.int .i64 c.a, .slice ya c.ar.length yc]] w' (Rets w' (.int .i64 (Tj.tcallE F t c)))) := Lh (fun w' hw => tcall_any (p := ⟨q0, q1, q2, q3, q4, q5, q6, q7, q8⟩) ((HST.out.pr.now).1.ext hw) t c (by
  obtain ⟨cs, hcs, av, rfl, _, hu⟩ := HX.out w' (Mod.of_ext hw)
  simp only [Value.agg.injEq, Array.mk.injEq, List.cons.injEq, and_true, true_and] at hcs
  subst hcs; exact hu))
 have bx := aH w (.cells #[.int .i64 c.a, .slice ya c.ar.length yc] 63)
 have b0 := alw (cQ 0 bx)
 have b1 := alw (cQ 1 bx)
 clear bx
 cases hpo : Tj.rowP C t id with
 | none =>
  rw [hpo] at HRW hR
  rw [if_pos rfl] at hR
  have HE := Lh hR
  clear hR hpo
  go_enter Tryz.func110, Tryz.ntmps110
  go_wp2_with fail
  refine (HRW.out _ grows).mono ?_
  rintro e w3 ⟨he, x3⟩
  have he : e = .returned (.tuple #[.int .i64 0, .int .i64 8]) := he
  subst he
  have s3 := Sm x3
  go_wp2_with fail
  go_ret
  exact ⟨ret_int (by rw [HE.out]), ChP_bad (by rw [HE.out]; decide) grows⟩
 | some i =>
  rw [hpo] at HRW hR
  rw [if_neg (by simp)] at hR
  have hT : ¬ Tj.noT C t := fun h => by unfold Tj.rowP at hpo; rw [if_pos h] at hpo; cases hpo
  have hpo2 : Tj.pos (Tj.rowsAt C t) id = some i := by unfold Tj.rowP at hpo; rw [if_neg hT] at hpo; exact hpo
  obtain ⟨te, hte⟩ : ∃ z, z = Tj.tcallE F t c := ⟨_, rfl⟩
  rw [← hte] at hR HTC
  have HE := Lh hR
  have HPO := Lh hpo
  have HTE := Lh hte
  clear hR hpo hte
  by_cases hz : te = 0
  ·subst hz
   obtain ⟨t, rfl⟩ : ∃ n : Nat, t = n := ⟨t.toNat, by unfold Tj.noT at hT; omega⟩
   have htl : t < C.rows.length := by unfold Tj.noT at hT; omega
   obtain ⟨rs, hrs⟩ : ∃ z, C.rows[t]? = some z := ⟨_, gE htl⟩
   have hra : Tj.rowsAt C t = rs := by unfold Tj.rowsAt; rw [Int.toNat_natCast, List.getD_eq_getElem?_getD, hrs]; rfl
   rw [hra] at hpo2
   obtain ⟨r, hr, _⟩ := Tj.pos_hit hpo2
   have hil : i < rs.length := (List.getElem?_eq_some_iff.1 hr).1
   have HTC0 : Hid (Tj.tcallE F t c = 0) := Lh HTE.out.symm
   have HCC : Hid (∀ w', Ext w w' → Calls Tryz.prog 59 #[.agg #[.int .i64 c.a, .slice ya c.ar.length yc]] w' (Tj.OwnP w' Tj.CallO c)) := Lh (fun w' hw => by
    obtain ⟨cs, hcs, hR⟩ := HX.out w' (Mod.of_ext hw)
    have h := ccall_own hR (Tj.tcallE_sz HST.out.sz HTC0.out)
    rw [← hcs] at h; exact h)
   obtain ⟨rv, hrv⟩ : ∃ z, vs[t]? = some z := ⟨_, gE (by rw [HST.out.cfg.rows.rl]; exact htl)⟩
   have hrw := HST.out.cfg.rows.r1 t rv rs hrv hrs
   obtain ⟨gb, gbc, rfl, _⟩ := own_cons hrw.choose_spec.2.2.2.1 (by omega)
   obtain ⟨g0, c0', hg0, _⟩ := own_cons HST.out.cfg.rows.r0 (by omega)
   simp only [Value.slice.injEq] at hg0
   obtain ⟨rfl, _, rfl⟩ := hg0
   have gr := alw (own_get HST.out.cfg.rows.r0 hrv)
   have hil0 : ¬ ((rs.length : Int) ≤ i) := by omega
   have ql0 : ¬ ((C.rows.length : Int) ≤ t) := by omega
   have HRS := Lh hrs
   have HRV := Lh hrv
   have HRR := Lh hr
   have HRW5 := Lh hrw
   have HRA := Lh hra
   clear hrs hrv hr hrw hT hra hpo2
   go_enter Tryz.func110, Tryz.ntmps110
   go_wp2_with fail
   refine (HRW.out _ grows).mono ?_
   rintro e w3 ⟨he, x3⟩
   have he : e = .returned (.tuple #[.int .i64 (i : Nat), .int .i64 0]) := he
   subst he
   have s3 := Sm x3
   go_wp2_with fail
   refine wp_region_later (by kernel_rfl) (by kernel_rfl) (eR _) ?_
   repeat (go_big_quiet_step (first | (go_at_call 144; exact Rets.later_at (HTC.out _ grows)) | fail))
   refine wpQuiet_nil ?_
   intro w5 x5
   have s5 := Sm x5
   go_wp2_with fail
   refine Rel.region_tail (W := w5) 12 (Rel.tab [(10, fun v w => ∃ cs : List Value, v = .agg cs.toArray ∧ Tj.CallO w5.heap.size w cs c)]) (Rel.tab_lasts (by intro p hp v w w' hr hx; simp only [List.mem_cons, List.not_mem_nil, or_false] at hp; subst hp; obtain ⟨cs, h1, h2⟩ := hr; exact ⟨cs, h1, h2.ext hx⟩)) (by kernel_rfl) (by kernel_rfl) (eR _) ?_
   simp only [tkS, tkZ]
   refine Rel.chunkT 10 rfl rfl rfl ?_
   simp only [tkS, tkZ, dpS, dpZ, Nat.reduceAdd]
   repeat (go_big_quiet_step (fail))
   refine wpQuiet_nil ?_
   refine Rel.callG _ rfl rfl rfl Tryz.func59 (by nofun) (by decide) #[.agg #[.int .i64 c.a, .slice ya c.ar.length yc]] rfl (fun w hx _ => by refine (HCC.out w (grows.trans hx)).mono ?_; rintro e w9 ⟨cs, h1, h2, h3⟩; exact ⟨_, h1, h2, cs, rfl, h3.low hx.le⟩) ?_
   intro u3 vz3 _ _ r3
   obtain ⟨cs3, rfl, r3⟩ := r3
   obtain ⟨pa, pc, rfl, _, _⟩ := r3
   simp only [Act.put, stA, stS, stZ]
   refine Rel.chunkT 1 rfl rfl rfl ?_
   simp only [tkS, tkZ, dpS, dpZ, Nat.reduceAdd]
   repeat (go_big_quiet_step (fail))
   refine wpQuiet_nil ?_
   refine Rel.fin ?_
   intro w8 x8 hf8
   obtain ⟨cs5, e5, ho5⟩ := (hf8 10).2 rfl
   have e5 := agg_inj e5
   subst e5
   have HO5 := Lh ho5
   have X8 := Lh x8
   have s8 := Sm x8
   clear hf8 ho5 x8
   have XW8 := Lh (grows (a := w) (b := w8))
   have HS8 := Lh (HST.out.ext XW8.out)
   obtain ⟨css8, hol8⟩ := HS8.out.cfg.rows.r1 t _ rs HRV.out HRS.out
   have hth : w8.there gb (i * 5 + 3) 2 := fun j hj => by
    obtain ⟨cu, hcu⟩ := own_obj hol8.2.2.2.1
    have hlt : i * 5 + 3 + j < css8.flatten.length := by rw [hol8.2.2.2.1.1]; omega
    have hc := own_get hol8.2.2.2.1 (gE hlt)
    exact ⟨by rw [hc]; rfl, free_of hcu⟩
   clear hol8
   go_wp2_with (refine wpList_store_mid rfl 63 (.tmp 42) (.tmp 39) rfl gb (i * 5 + 3) #[.int .i64 c.a, .slice pa c.ar.length pc] (by simp [go_sem]) rfl hth (by kernel_rfl) (by simp [Value.oneCell']) ?_)
   have hsc := Tj.RwsO.setCall (HS8.out.cfg.rows.r1 t _ rs HRV.out HRS.out) HRR.out HBA.out (d := c) (ga := pa) (gc := pc) (by
    obtain ⟨_, _, e9, _, h9⟩ := HO5.out
    simp only [List.cons.injEq, Value.slice.injEq, and_true, true_and] at e9
    obtain ⟨rfl, rfl⟩ := e9
    exact h9.low (Nat.zero_le _))
   obtain ⟨w9, hw9⟩ : ∃ z, z = (w8.setCell ⟨gb, i * 5 + 3, none⟩ (.int .i64 c.a)).setCell ⟨gb, i * 5 + 3 + 1, none⟩ (.slice pa c.ar.length pc) := ⟨_, rfl⟩
   rw [show w8.setCells gb (i * 5 + 3) #[Value.int .i64 c.a, .slice pa c.ar.length pc].toList = w9 by rw [hw9]; rfl]
   rw [← hw9] at hsc
   have hle9 := hsc.2.size
   have hbx9 := hsc.2.heap (XW8.out.heap HBX.out) (fun e => (HSL.out sp (HST.out.sr t _ sp HRV.out e)).2 rfl)
   have HSC := Lh hsc
   have HBX9 := Lh hbx9
   clear hsc hw9 hbx9 hth k0 k1 k2 k3 k4 k5 k6 k7 k8 k9 k10 k11 k12 k13 k14 gr b0 b1
   go_wp2_with fail
   go_ret
   have hmc : Tj.modC C t id c = { C with rows := C.rows.set t (rs.set i { r with e := { r.e with cl := c } }) } := by
    unfold Tj.modC
    rw [HPO.out]
    show { C with rows := C.rows.set (t : Int).toNat ((Tj.rowsAt C t).modify i _) } = _
    rw [HRA.out, Tj.modify_at HRR.out, Int.toNat_natCast]
   have hnew := HS8.out.sameRow HRS.out HRV.out HSC.out.2 HSC.out.1 (by
    rw [← hmc]; exact Tj.modC_inv HST.out.inv (Tj.tcallE_sz HST.out.sz HTC0.out))
   have hle8 := XW8.out.le
   refine ⟨ret_int (by rw [HE.out]), Tj.ChP.good HE.out ⟨(Mod.of_ext XW8.out).trans hnew.2, S, fun k hk => .inl hk, HBX9.out, fun k hk => ⟨by have := (HSL.out k hk).1; omega, (HSL.out k hk).2⟩, vs, ms, ?_⟩⟩
   rw [hmc]
   refine hnew.1.fsEq (fun j hj => ?_)
   by_cases e : j = t
   ·subst e
    rw [Tj.ixs_at HRS.out, Tj.ixs_at (rs := rs.set i { r with e := { r.e with cl := c } }) (by show (C.rows.set j _)[j]? = _; rw [List.getElem?_set_self htl]), List.length_set]
    exact congrArg (Prod.mk _) (funext fun s => Tj.pos_set (r' := ⟨r.id, ⟨r.e.ks, r.e.pr, c⟩⟩) HRR.out rfl s)
   ·unfold Tj.ixs
    show ((List.getD (C.rows.set t _) j []).length, _) = _
    rw [List.getD_eq_getElem?_getD, List.getD_eq_getElem?_getD, List.getElem?_set_ne (fun h => e h.symm)]
  ·have HZ := Lh hz
   have z1 : (te == 0) = false := bF hz
   clear hz hT hpo2
   go_enter Tryz.func110, Tryz.ntmps110
   go_wp2_with fail
   refine (HRW.out _ grows).mono ?_
   rintro e w3 ⟨he, x3⟩
   have he : e = .returned (.tuple #[.int .i64 (i : Nat), .int .i64 0]) := he
   subst he
   have s3 := Sm x3
   go_wp2_with fail
   refine wp_region_later (by kernel_rfl) (by kernel_rfl) (eR _) ?_
   repeat (go_big_quiet_step (first | (go_at_call 144; exact Rets.later_at (HTC.out _ grows)) | fail))
   refine wpQuiet_nil ?_
   intro w5 x5
   have s5 := Sm x5
   go_wp2_with fail
   go_ret
   exact ⟨ret_int (by rw [HE.out]), ChP_bad (by rw [HE.out]; exact HZ.out) grows⟩
theorem ssdf_any {S : Nat → Prop} {lo hi sp : Nat} {V : Tj.SV} {w : World} {F : Tj.FP} {C : Tj.Cfg} (h : Tj.St S lo hi sp V w F C) (t : Int) {cv : Value} {c : Tj.Call} (hx : ∀ w', Mod S w w' → ∃ cs : List Value, cv = .agg cs.toArray ∧ Tj.CallR w' cs c) :
 Calls Tryz.prog 150 #[.pointer (some ⟨sp, 0, none⟩), .int .i64 t, cv] w (ModP S lo hi sp V w F (Tj.sdfE F C t c) (Tj.sdfC C t c)) := by
 obtain ⟨v0, v1, v2, v3, ixv, q0, q1, q2, q3, q4, q5, q6, q7, q8⟩ := V
 obtain ⟨hbx, hsl, vs, ms, hst⟩ := h
 have HST := Lh hst
 have HSL := Lh hsl
 have HBX := Lh hbx
 obtain ⟨r0, c0, r1, c1, r2, c2, r3, c3, rfl, rfl, rfl, rfl⟩ := hst.cfg.form
 obtain ⟨ia, ic, rfl, _⟩ := own_form hst.ix
 have hwsp : sp < w.heap.size := lt_of_block hbx
 have k0 := alw (cQ 0 hbx)
 have k1 := alw (cQ 1 hbx)
 have k2 := alw (cQ 2 hbx)
 have k3 := alw (cQ 3 hbx)
 have k4 := alw (cQ 4 hbx)
 have k5 := alw (cQ 5 hbx)
 have k6 := alw (cQ 6 hbx)
 have k7 := alw (cQ 7 hbx)
 have k8 := alw (cQ 8 hbx)
 have k9 := alw (cQ 9 hbx)
 have k10 := alw (cQ 10 hbx)
 have k11 := alw (cQ 11 hbx)
 have k12 := alw (cQ 12 hbx)
 have k13 := alw (cQ 13 hbx)
 have k14 := alw (cQ 14 hbx)
 clear hst hsl hbx
 have hx0 := hx w (Mod.refl _ _)
 obtain ⟨_, rfl, av, rfl, hba, hav⟩ := hx0
 obtain ⟨ya, yc, rfl⟩ := ns_slice hav.1
 have HX := Lh hx
 have HBA := Lh hba
 clear hx hav hba
 have HTB : Hid (∀ w', Ext w w' → Calls Tryz.prog 177 #[.pointer (some ⟨sp, 0, none⟩), .int .i64 t] w' (Rets w' (.bool (decide (0 ≤ t) && decide (t < C.rows.length))))) := Lh (fun w' hw => stab_any (hw.cell (k0 w)) t)
 have e0 : ∀ w', (binOp .eql 76 (.pointer (some ⟨sp, 0, none⟩)) (.pointer none)).run Tryz.prog w' = .ok (.bool false) w' := fun _ => rfl
 obtain ⟨R, hR⟩ : ∃ z, z = Tj.sdfE F C t c := ⟨_, rfl⟩
 rw [← hR]
 unfold Tj.sdfE at hR
 have HTC : Hid (∀ w', Ext w w' → Calls Tryz.prog 144 #[.agg #[q0, q1, q2, q3, q4, q5, q6, q7, q8], .int .i64 t, .agg #[.int .i64 c.a, .slice ya c.ar.length yc]] w' (Rets w' (.int .i64 (Tj.tcallE F t c)))) := Lh (fun w' hw => tcall_any (p := ⟨q0, q1, q2, q3, q4, q5, q6, q7, q8⟩) ((HST.out.pr.now).1.ext hw) t c (by
  obtain ⟨cs, hcs, av, rfl, _, hu⟩ := HX.out w' (Mod.of_ext hw)
  simp only [Value.agg.injEq, Array.mk.injEq, List.cons.injEq, and_true, true_and] at hcs
  subst hcs; exact hu))
 have bx := aH w (.cells #[.int .i64 c.a, .slice ya c.ar.length yc] 63)
 have b0 := alw (cQ 0 bx)
 have b1 := alw (cQ 1 bx)
 clear bx
 by_cases hT : Tj.noT C t
 ·rw [if_pos hT] at hR
  have HE := Lh hR
  have d1 : (decide (0 ≤ t) && decide (t < (C.rows.length : Int))) = false := by
   rcases hT with h | h
   ·rw [dF (by omega)]; rfl
   ·rw [dF (p := t < (C.rows.length : Int)) (by omega), Bool.and_false]
  rw [d1] at HTB
  clear hT d1 hR
  go_enter Tryz.func150, Tryz.ntmps150
  go_wp2_with fail
  refine via (HTB.out _ grows) fun w3 xw3 sw3 => ?_
  go_wp2_with fail
  go_ret
  exact ⟨ret_int (by rw [HE.out]), ChP_bad (by rw [HE.out]; decide) grows⟩
 ·rw [if_neg hT] at hR
  obtain ⟨t, rfl⟩ : ∃ n : Nat, t = n := ⟨t.toNat, by unfold Tj.noT at hT; omega⟩
  have htl : t < C.rows.length := by unfold Tj.noT at hT; omega
  have d1 : (decide (0 ≤ (t : Int)) && decide ((t : Int) < (C.rows.length : Int))) = true := by
   rw [dTt (by omega), dTt (by omega)]; rfl
  rw [d1] at HTB
  obtain ⟨te, hte⟩ : ∃ z, z = Tj.tcallE F t c := ⟨_, rfl⟩
  rw [← hte] at hR HTC
  have HE := Lh hR
  have HTE := Lh hte
  clear hR hte hT d1
  by_cases hz : te = 0
  ·subst hz
   have HTC0 : Hid (Tj.tcallE F t c = 0) := Lh HTE.out.symm
   have HCC : Hid (∀ w', Ext w w' → Calls Tryz.prog 59 #[.agg #[.int .i64 c.a, .slice ya c.ar.length yc]] w' (Tj.OwnP w' Tj.CallO c)) := Lh (fun w' hw => by
    obtain ⟨cs, hcs, hR⟩ := HX.out w' (Mod.of_ext hw)
    have h := ccall_own hR (Tj.tcallE_sz HST.out.sz HTC0.out)
    rw [← hcs] at h; exact h)
   have hdl : t < C.df.length := by have := HST.out.inv; rw [this.nd, ← this.nt]; exact htl
   obtain ⟨g2, c2', hg2, _⟩ := own_cons HST.out.cfg.df.choose_spec.2.2.2.1 (by omega)
   simp only [Value.slice.injEq] at hg2
   obtain ⟨rfl, _, rfl⟩ := hg2
   have ql0 : ¬ ((C.df.length : Int) ≤ t) := by omega
   go_enter Tryz.func150, Tryz.ntmps150
   go_wp2_with fail
   refine via (HTB.out _ grows) fun w3 xw3 sw3 => ?_
   go_wp2_with fail
   refine wp_region_later (by kernel_rfl) (by kernel_rfl) (eR _) ?_
   repeat (go_big_quiet_step (first | (go_at_call 144; exact Rets.later_at (HTC.out _ grows)) | fail))
   refine wpQuiet_nil ?_
   intro w5 x5
   have s5 := Sm x5
   go_wp2_with fail
   refine Rel.region_tail (W := w5) 8 (Rel.tab [(7, fun v w => ∃ cs : List Value, v = .agg cs.toArray ∧ Tj.CallO w5.heap.size w cs c)]) (Rel.tab_lasts (by intro p hp v w w' hr hx; simp only [List.mem_cons, List.not_mem_nil, or_false] at hp; subst hp; obtain ⟨cs, h1, h2⟩ := hr; exact ⟨cs, h1, h2.ext hx⟩)) (by kernel_rfl) (by kernel_rfl) (eR _) ?_
   simp only [tkS, tkZ]
   refine Rel.chunkT 7 rfl rfl rfl ?_
   simp only [tkS, tkZ, dpS, dpZ, Nat.reduceAdd]
   repeat (go_big_quiet_step (fail))
   refine wpQuiet_nil ?_
   refine Rel.callG _ rfl rfl rfl Tryz.func59 (by nofun) (by decide) #[.agg #[.int .i64 c.a, .slice ya c.ar.length yc]] rfl (fun w hx _ => by refine (HCC.out w (grows.trans hx)).mono ?_; rintro e w9 ⟨cs, h1, h2, h3⟩; exact ⟨_, h1, h2, cs, rfl, h3.low hx.le⟩) ?_
   intro u3 vz3 _ _ r3
   obtain ⟨cs3, rfl, r3⟩ := r3
   obtain ⟨pa, pc, rfl, _, _⟩ := r3
   simp only [Act.put, stA, stS, stZ]
   refine Rel.fin ?_
   intro w8 x8 hf8
   obtain ⟨cs5, e5, ho5⟩ := (hf8 7).2 rfl
   have e5 := agg_inj e5
   subst e5
   have HO5 := Lh ho5
   have X8 := Lh x8
   have s8 := Sm x8
   clear hf8 ho5 x8
   have XW8 := Lh (grows (a := w) (b := w8))
   have HS8 := Lh (HST.out.ext XW8.out)
   obtain ⟨css8, hol8⟩ := HS8.out.cfg.df
   have hth : w8.there g2 (t * 2) 2 := fun j hj => by
    obtain ⟨cu, hcu⟩ := own_obj hol8.2.2.2.1
    have hlt : t * 2 + j < css8.flatten.length := by rw [hol8.2.2.2.1.1]; omega
    have hc := own_get hol8.2.2.2.1 (gE hlt)
    exact ⟨by rw [hc]; rfl, free_of hcu⟩
   clear hol8
   go_wp2_with (refine wpList_store_mid rfl 63 (.tmp 40) (.tmp 39) rfl g2 (t * 2) #[.int .i64 c.a, .slice pa c.ar.length pc] (by simp [go_sem]) rfl hth (by kernel_rfl) (by simp [Value.oneCell']) ?_)
   have hsc := HS8.out.setDf (t := t) (d := c) (ga := pa) (gc := pc) rfl hdl HBA.out (by
    obtain ⟨_, _, e9, _, h9⟩ := HO5.out
    simp only [List.cons.injEq, Value.slice.injEq, and_true, true_and] at e9
    obtain ⟨rfl, rfl⟩ := e9
    exact h9.low (Nat.zero_le _)) (Tj.tcallE_sz HST.out.sz HTC0.out)
   obtain ⟨w9, hw9⟩ : ∃ z, z = (w8.setCell ⟨g2, t * 2, none⟩ (.int .i64 c.a)).setCell ⟨g2, t * 2 + 1, none⟩ (.slice pa c.ar.length pc) := ⟨_, rfl⟩
   rw [show w8.setCells g2 (t * 2) #[Value.int .i64 c.a, .slice pa c.ar.length pc].toList = w9 by rw [hw9]; rfl]
   rw [← hw9] at hsc
   have hle9 := hsc.2.size
   have hbx9 := hsc.2.heap (XW8.out.heap HBX.out) (fun e => (HSL.out sp e).2 rfl)
   have HSC := Lh hsc
   have HBX9 := Lh hbx9
   clear hsc hw9 hbx9 hth k0 k1 k2 k3 k4 k5 k6 k7 k8 k9 k10 k11 k12 k13 k14 b0 b1
   go_wp2_with fail
   go_ret
   have hle8 := XW8.out.le
   refine ⟨ret_int (by rw [HE.out]), Tj.ChP.good HE.out ⟨(Mod.of_ext XW8.out).trans HSC.out.2, S, fun k hk => .inl hk, HBX9.out, fun k hk => ⟨by have := (HSL.out k hk).1; omega, (HSL.out k hk).2⟩, vs, ms, ?_⟩⟩
   exact HSC.out.1
  ·have HZ := Lh hz
   have z1 : (te == 0) = false := bF hz
   clear hz
   go_enter Tryz.func150, Tryz.ntmps150
   go_wp2_with fail
   refine via (HTB.out _ grows) fun w3 xw3 sw3 => ?_
   go_wp2_with fail
   refine wp_region_later (by kernel_rfl) (by kernel_rfl) (eR _) ?_
   repeat (go_big_quiet_step (first | (go_at_call 144; exact Rets.later_at (HTC.out _ grows)) | fail))
   refine wpQuiet_nil ?_
   intro w5 x5
   have s5 := Sm x5
   go_wp2_with fail
   go_ret
   exact ⟨ret_int (by rw [HE.out]), ChP_bad (by rw [HE.out]; exact HZ.out) grows⟩
theorem own_take {w : World} {B sz g n c i : Nat} {e : TypeId} {xs : List Value} (h : w.ownsRow B e sz (.slice (some ⟨g, 0, none⟩) n c) n xs) (hi : i ≤ n) : w.ownsRow B e sz (.slice (some ⟨g, 0, none⟩) i c) i (xs.take (i * sz)) := by
 obtain ⟨h1, h2⟩ := h
 have hle : i * sz ≤ n * sz := Nat.mul_le_mul_right _ hi
 refine ⟨by rw [List.length_take, h1]; omega, ?_⟩
 rcases h2 with ⟨h2, _⟩ | ⟨g', cap, cur, h2, hb, hg, hc, hm, hs, ht⟩
 ·cases h2
 ·simp only [Value.slice.injEq, Option.some.injEq, Addr.mk.injEq, and_true, true_and] at h2
  obtain ⟨rfl, rfl⟩ := h2
  exact .inr ⟨g, c, cur, rfl, hb, hg, by omega, hm, hs, by rw [← ht, List.take_take]; congr 1; omega⟩
theorem own_beyond {w : World} {B sz g n c j : Nat} {e : TypeId} {xs : List Value} {u : Value} (h : w.ownsRow B e sz (.slice (some ⟨g, 0, none⟩) n c) n xs) (hj : xs.length ≤ j) : (w.setCell ⟨g, j, none⟩ u).ownsRow B e sz (.slice (some ⟨g, 0, none⟩) n c) n xs := by
 obtain ⟨h1, h2⟩ := h
 refine ⟨h1, ?_⟩
 rcases h2 with ⟨h2, _⟩ | ⟨g', cap, cur, h2, hb, hg, hc, hm, hs, ht⟩
 ·cases h2
 ·simp only [Value.slice.injEq, Option.some.injEq, Addr.mk.injEq, and_true, true_and] at h2
  obtain ⟨rfl, rfl⟩ := h2
  refine .inr ⟨g, c, cur.setIfInBounds j u, rfl, hb, setCell_heap hg, hc, hm, by simpa using hs, ?_⟩
  rw [Array.toList_setIfInBounds, List.take_set, ht, List.set_eq_of_length_le hj]
theorem own_beyonds {B sz g n c : Nat} {e : TypeId} {xs : List Value} : ∀ {us : List Value} {j : Nat} {w : World}, w.ownsRow B e sz (.slice (some ⟨g, 0, none⟩) n c) n xs → xs.length ≤ j → (w.setCells g j us).ownsRow B e sz (.slice (some ⟨g, 0, none⟩) n c) n xs
 | [], _, _, h, _ => h
 | u :: us, j, w, h, hj => own_beyonds (us := us) (own_beyond (u := u) h hj) (by omega)
theorem mod_setCells {g : Nat} : ∀ {us : List Value} {j : Nat} {w : World}, Mod (· = g) w (w.setCells g j us)
 | [], _, w => Mod.refl _ w
 | u :: us, j, w => (Mod.setCell (S := fun k => k = g) (p := ⟨g, j, none⟩) (Mod.refl _ w) (.inl rfl) u).trans (mod_setCells (us := us))
/-- clear of a slice -/
theorem wpList_clearH {P : Program} {ops : Array Oper} {rest : List Oper} {o : Oper} {a : Act} {w : World} {Q : Exit → Act → World → Prop} (hgd : o.guard = none) (x : Operand) (t e : TypeId) (z : Value)
 (ho : o.op = .call { callee := .builtin .clear, args := #[x], argTypes := #[t] }) (ht : P.underlying t = some (.slice e)) (hv : ∀ w, (zeroValue e).run P w = .ok z w)
 (b k n c : Nat) (hx : a.eval x = .slice (some ⟨b, k, none⟩) n c) (hn : 0 < n) (hth : w.there b k (Builtin.zeroCells z.cells n).toList.length) (h1 : ∀ v ∈ (Builtin.zeroCells z.cells n).toList, v.oneCell' = true)
 (h : ∀ w', Hid (w' = w.setCells b k (Builtin.zeroCells z.cells n).toList) → wpList P ops Q rest (a.put o.dst (.tuple #[])) w') : wpList P ops Q (o :: rest) a w :=
 wpList_plain hgd fun _ hK => by
  have hst := run_storeCells_cells (P := P) b k (Builtin.zeroCells z.cells n).toList 0 w (fun j hj => by simpa using (hth j hj).1) (fun j hj => by simpa using (hth j hj).2) h1
  simp only [Nat.add_zero] at hst
  obtain ⟨m, rfl⟩ : ∃ m, n = m + 1 := ⟨n - 1, by omega⟩
  have hr : (Builtin.clear_ #[t] o.type #[.slice (some ⟨b, k, none⟩) (m + 1) c]).run P w = .ok (.tuple #[]) (w.setCells b k (Builtin.zeroCells z.cells (m + 1)).toList) := by
   simp [Builtin.clear_, run_underlying ht, hv, hst]
  unfold Oper.wp execOp
  simp only [ho, resolve, invoke, builtin, Sem.run_bind, Sem.run_pure, Result.andThen_ok, List.map_toArray, List.map_cons, List.map_nil, hx, hr]
  exact hK _ _ (h _ (Lh rfl))
theorem flatten_erase {sz : Nat} : ∀ {xss : List (List Value)} {i : Nat}, (∀ x ∈ xss, x.length = sz) → i < xss.length → xss.flatten.take (i * sz) ++ xss.flatten.drop ((i + 1) * sz) = (xss.eraseIdx i).flatten
 | [], _, _, h => by simp at h
 | x :: l, 0, hl, _ => by
  have hx := hl x (by simp)
  rw [Nat.zero_mul, tkZ, List.nil_append, Nat.zero_add, Nat.one_mul, List.flatten_cons, ← hx, List.drop_left, List.eraseIdx_cons_zero]
 | x :: l, i + 1, hl, h => by
  have hx := hl x (by simp)
  have ih := flatten_erase (xss := l) (i := i) (fun y hy => hl y (List.mem_cons_of_mem _ hy)) (by simpa using h)
  rw [List.flatten_cons, List.eraseIdx_cons_succ, List.flatten_cons, ← ih, List.take_append, List.drop_append, hx, show (i + 1) * sz - sz = i * sz by rw [Nat.succ_mul]; omega, show (i + 1 + 1) * sz - sz = (i + 1) * sz by rw [Nat.succ_mul (i + 1)]; omega, List.take_of_length_le (by rw [hx, Nat.succ_mul]; omega), List.drop_of_length_le (by rw [hx, Nat.succ_mul]; omega), List.nil_append, List.append_assoc]
theorem zero_row (w : World) : (zeroValue 151).run Tryz.prog w = .ok (.agg (Yq18 )) w := by kernel_rfl
theorem zc_one {n : Nat} {zs : Array Value} (h0 : 0 < zs.size) (h : ∀ k, k < zs.size → (zs[k]!).oneCell' = true) : ∀ v ∈ (Builtin.zeroCells zs n).toList, v.oneCell' = true := by
 intro v hv
 simp only [Builtin.zeroCells, Array.toList_map, List.mem_map] at hv
 obtain ⟨k, _, rfl⟩ := hv
 exact h _ (Nat.mod_lt _ h0)
namespace Tj
theorem OLc.erase {α : Type} {B : Nat} {T : TypeId} {sz : Nat} {R : World → List Value → α → Prop} {w w3 : World} {o o' : Value} {l : List α} {css : List (List Value)} {i : Nat} (h : OLc B T sz R w o l css) (hi : i < l.length) (hx : ∀ cs d, R w cs d → R w3 cs d)
 (ho : w3.ownsRow B T sz o' (l.length - 1) (css.eraseIdx i).flatten) : OLc B T sz R w3 o' (l.eraseIdx i) (css.eraseIdx i) := by
 obtain ⟨h1, h2, h3, h4, h5⟩ := h
 refine ⟨by rw [List.length_eraseIdx, List.length_eraseIdx, h1], fun x hx => h2 x (List.mem_of_mem_eraseIdx hx), fun x hx => h3 x (List.mem_of_mem_eraseIdx hx), by rw [List.length_eraseIdx, if_pos hi]; exact ho, fun j cs d hj he => ?_⟩
 rw [List.getElem?_eraseIdx] at hj he
 by_cases e : j < i
 ·rw [if_pos e] at hj he; exact hx _ _ (h5 j cs d hj he)
 ·rw [if_neg e] at hj he; exact hx _ _ (h5 (j + 1) cs d hj he)
end Tj
theorem sldel_any {w : World} {g c i : Nat} {rs : List Tj.Rw} (h : Tj.RwsO 0 w (.slice (some ⟨g, 0, none⟩) rs.length c) rs) (hi : i < rs.length) (hl : rs.length ≤ 1073741824) :
 Calls Tryz.prog 179 #[.slice (some ⟨g, 0, none⟩) rs.length c, .int .i64 i, .int .i64 ((i : Int) + 1)] w (fun e w' => e = .returned (.slice (some ⟨g, 0, none⟩) (rs.length - 1) c) ∧ Mod (· = g) w w' ∧ Tj.RwsO 0 w' (.slice (some ⟨g, 0, none⟩) (rs.length - 1) c) (rs.eraseIdx i)) := by
 obtain ⟨css, hol⟩ := h
 have HOL := Lh hol
 obtain ⟨cu, hcu⟩ := own_obj hol.2.2.2.1
 have HCU := Lh hcu
 have hcc : rs.length ≤ c ∧ c ≤ 9223372036854775807 := by
  obtain ⟨a', c', e, h1, h2⟩ := own_form hol.2.2.2.1
  simp only [Value.slice.injEq] at e
  obtain ⟨_, _, rfl⟩ := e
  unfold maxLen at h2; exact ⟨h1, h2⟩
 have hfl : css.flatten.length = rs.length * 5 := hol.2.2.2.1.1
 obtain ⟨hc1, hc2⟩ := hcc
 clear hol hcu
 have q1 : ¬ ((i : Int) = i + 1) := by omega
 go_enter Tryz.func179, Tryz.ntmps179
 go_wp2_with fail
 refine wp_region_later_tail 6 (by kernel_rfl) (by kernel_rfl) (eR _) ?_
 simp only [tkS, tkZ, dpS, dpZ]
 repeat (go_big_quiet_step (fail))
 refine wpQuiet_nil ?_
 intro w2 x2
 have X2 := Lh x2
 have HO2 := Lh (own_take (own_ext HOL.out.2.2.2.1 x2) (Nat.le_of_lt hi))
 have HN2 : Hid (∀ (j : Nat) (u : Value), (css.flatten.drop ((i + 1) * 5))[j]? = some u → w2.cell? ((⟨g, (i + 1) * 5, none⟩ : Addr).add j) = some u) := Lh (fun j u hj => by
  rw [List.getElem?_drop] at hj
  rw [add_mk]; exact own_get (own_ext HOL.out.2.2.2.1 X2.out) hj)
 clear x2
 have had : (if c = i + 1 then some (⟨g, 0, none⟩ : Addr) else some ⟨g, (i + 1) * 5, none⟩) = some (if c = i + 1 then ⟨g, 0, none⟩ else ⟨g, (i + 1) * 5, none⟩) := by split <;> rfl
 rw [had]
 obtain ⟨ad, had2⟩ : ∃ z : Addr, z = if c = i + 1 then ⟨g, 0, none⟩ else ⟨g, (i + 1) * 5, none⟩ := ⟨_, rfl⟩
 rw [← had2]
 have HNA : Hid (∀ (j : Nat) (u : Value), (css.flatten.drop ((i + 1) * 5))[j]? = some u → w2.cell? (ad.add j) = some u) := Lh (by
  by_cases hc : c = i + 1
  ·have : css.flatten.drop ((i + 1) * 5) = [] := List.drop_eq_nil_of_le (by omega)
   rw [this]; intro j u h; simp at h
  ·rw [had2, if_neg hc]; exact HN2.out)
 have HH1 : Hid (∀ u ∈ css.flatten.drop ((i + 1) * 5), u.oneCell' = true) := Lh (fun u hu => by
  obtain ⟨x, hx, hux⟩ := List.mem_flatten.1 (List.mem_of_mem_drop hu)
  exact HOL.out.2.2.1 x hx u hux)
 have hdl : (css.flatten.drop ((i + 1) * 5)).length = (rs.length - (i + 1)) * 5 := by rw [List.length_drop, hfl]; omega
 have HDL := Lh hdl
 have hroom : i + (rs.length - (i + 1)) ≤ c := by omega
 clear had had2 hdl
 go_wp2_with (at_builtin; refine wpList_append_own_spare _ rfl (.tmp 22) (.tmp 25) 68 rfl 0 151 Tryz.t151 5 Tryz.underlying68 rfl rfl g i c (css.flatten.take (i * 5)) rfl HO2.out ad (rs.length - (i + 1)) (c - (i + 1)) (css.flatten.drop ((i + 1) * 5)) rfl HDL.out HNA.out HH1.out hroom ?_)
 intro w3 hown3 hgr3
 have e1 : i + (rs.length - (i + 1)) = rs.length - 1 := by omega
 rw [e1] at hown3 ⊢
 rw [flatten_erase HOL.out.2.1 (by have := HOL.out.1; omega)] at hown3
 have HO3 := Lh hown3
 have HM3 : Hid (Mod (· = g) w w3) := Lh ((Mod.of_ext X2.out).comp (grown_mod hgr3) (fun i _ h => by simpa using h))
 obtain ⟨cu3, hcu3⟩ := own_obj hown3
 have hsz3 : cu3.size = c * 5 := by
  rcases hown3.2 with ⟨h2, _⟩ | ⟨g', cap, cur, h2, _, hg, _, _, hs, _⟩
  ·cases h2
  ·simp only [Value.slice.injEq, Option.some.injEq, Addr.mk.injEq, and_true, true_and] at h2
   obtain ⟨rfl, rfl⟩ := h2
   rw [hcu3] at hg
   simp only [Option.some.injEq, Obj.cells.injEq] at hg
   rw [hg.1]; exact hs
 have HTH : Hid (∀ n, n ≤ 5 → w3.there g ((rs.length - 1) * 5) n) := Lh (fun n hn j hj => ⟨by rw [cell_of hcu3, Array.getElem?_eq_getElem (by omega)]; rfl, free_of hcu3⟩)
 have hne1 : ¬ (c = rs.length - 1) := by omega
 have hle1 : rs.length - 1 ≤ rs.length := by omega
 clear hown3 hgr3 hcu3 hsz3 e1 HNA HH1 HDL HN2 HO2 hroom
 have e2 : ((rs.length - 1 : Nat) : Int) = (rs.length : Int) - 1 := by omega
 have hln : rs.length - (rs.length - 1) = 1 := by omega
 have HZ1 := Lh (zc_one (n := rs.length - (rs.length - 1)) (zs := (.agg (Yq18 ) : Value).cells) (by decide) (by decide))
 have HTH2 : Hid (w3.there g ((rs.length - 1) * 5) (Builtin.zeroCells (.agg (Yq18 ) : Value).cells (rs.length - (rs.length - 1))).toList.length) := Lh (HTH.out _ (by rw [hln]; simp [Builtin.zeroCells, Value.cells]))
 have hpos : 0 < rs.length - (rs.length - 1) := by omega
 clear HTH hln
 go_wp2_with (refine wpList_clearH rfl (.tmp 31) 68 151 (.agg (Yq18 )) rfl Tryz.underlying68 zero_row g ((rs.length - 1) * 5) (rs.length - (rs.length - 1)) (c - (rs.length - 1)) rfl hpos HTH2.out HZ1.out ?_)
 intro w4 hw4
 have hw4 := hw4.out
 have HM4 : Hid (Mod (· = g) w3 w4) := Lh (by rw [hw4]; exact mod_setCells)
 have HO4 : Hid (w4.ownsRow 0 151 5 (.slice (some ⟨g, 0, none⟩) (rs.length - 1) c) (rs.length - 1) (css.eraseIdx i).flatten) := Lh (by rw [hw4]; exact own_beyonds HO3.out (by rw [HO3.out.1]; omega))
 clear hw4
 go_wp2_with fail
 go_ret
 have hm4 : Mod (· = g) w w4 := HM3.out.comp HM4.out (fun _ _ h => h)
 have hk4 : Kp Tj.Leaf w w4 := Kp.box hm4 HCU.out (by decide)
 exact ⟨rfl, hm4, by
  have h := Tj.OLc.erase HOL.out hi (fun _ _ h => h.kp hk4) HO4.out
  rw [show rs.length - 1 = (rs.eraseIdx i).length by rw [List.length_eraseIdx, if_pos hi]] at h ⊢
  exact ⟨_, h⟩⟩
theorem sdel_any {S : Nat → Prop} {lo hi sp : Nat} {V : Tj.SV} {w : World} {F : Tj.FP} {C : Tj.Cfg} (h : Tj.St S lo hi sp V w F C) (t id : Int) (hid : Tj.B64 id) :
 Calls Tryz.prog 149 #[.pointer (some ⟨sp, 0, none⟩), .int .i64 t, .int .i64 id] w (ModP S lo hi sp V w F (Tj.delE C t id) (Tj.delC C t id)) := by
 have HRW : Hid (∀ w', Ext w w' → Calls Tryz.prog 147 #[.pointer (some ⟨sp, 0, none⟩), .int .i64 t, .int .i64 id] w' (RowAt w' (Tj.rowP C t id))) := Lh (fun w' hw => srow_any (h.ext hw) t id hid)
 obtain ⟨v0, v1, v2, v3, ixv, q0, q1, q2, q3, q4, q5, q6, q7, q8⟩ := V
 obtain ⟨hbx, hsl, vs, ms, hst⟩ := h
 have HST := Lh hst
 have HSL := Lh hsl
 have HBX := Lh hbx
 obtain ⟨r0, c0, r1, c1, r2, c2, r3, c3, rfl, rfl, rfl, rfl⟩ := hst.cfg.form
 obtain ⟨ia, ic, rfl, _⟩ := own_form hst.ix
 have hwsp : sp < w.heap.size := lt_of_block hbx
 have k0 := alw (cQ 0 hbx)
 have k1 := alw (cQ 1 hbx)
 have k2 := alw (cQ 2 hbx)
 have k3 := alw (cQ 3 hbx)
 have k4 := alw (cQ 4 hbx)
 have k5 := alw (cQ 5 hbx)
 have k6 := alw (cQ 6 hbx)
 have k7 := alw (cQ 7 hbx)
 have k8 := alw (cQ 8 hbx)
 have k9 := alw (cQ 9 hbx)
 have k10 := alw (cQ 10 hbx)
 have k11 := alw (cQ 11 hbx)
 have k12 := alw (cQ 12 hbx)
 have k13 := alw (cQ 13 hbx)
 have k14 := alw (cQ 14 hbx)
 clear hst hsl hbx
 obtain ⟨R, hR⟩ : ∃ z, z = Tj.delE C t id := ⟨_, rfl⟩
 rw [← hR]
 unfold Tj.delE at hR
 cases hpo : Tj.rowP C t id with
 | none =>
  rw [hpo] at HRW hR
  rw [if_pos rfl] at hR
  have HE := Lh hR
  clear hR hpo
  go_enter Tryz.func149, Tryz.ntmps149
  go_wp2_with fail
  refine (HRW.out _ grows).mono ?_
  rintro e w3 ⟨he, x3⟩
  have he : e = .returned (.tuple #[.int .i64 0, .int .i64 8]) := he
  subst he
  have s3 := Sm x3
  go_wp2_with fail
  go_ret
  exact ⟨ret_int (by rw [HE.out]), ChP_bad (by rw [HE.out]; decide) grows⟩
 | some i =>
  rw [hpo] at HRW hR
  rw [if_neg (by simp)] at hR
  have hT : ¬ Tj.noT C t := fun h => by unfold Tj.rowP at hpo; rw [if_pos h] at hpo; cases hpo
  have hpo2 : Tj.pos (Tj.rowsAt C t) id = some i := by unfold Tj.rowP at hpo; rw [if_neg hT] at hpo; exact hpo
  have HE := Lh hR
  have HPO := Lh hpo
  clear hR hpo
  obtain ⟨t, rfl⟩ : ∃ n : Nat, t = n := ⟨t.toNat, by unfold Tj.noT at hT; omega⟩
  have htl : t < C.rows.length := by unfold Tj.noT at hT; omega
  obtain ⟨rs, hrs⟩ : ∃ z, C.rows[t]? = some z := ⟨_, gE htl⟩
  have hra : Tj.rowsAt C t = rs := by unfold Tj.rowsAt; rw [Int.toNat_natCast, List.getD_eq_getElem?_getD, hrs]; rfl
  rw [hra] at hpo2
  obtain ⟨r, hr, _⟩ := Tj.pos_hit hpo2
  have hil : i < rs.length := (List.getElem?_eq_some_iff.1 hr).1
  have hrl := (HST.out.inv.cb.r1 rs (List.mem_of_getElem? hrs)).1
  have hnl : C.rows.length ≤ 1073741824 := HST.out.inv.cb.r0
  obtain ⟨rv, hrv⟩ : ∃ z, vs[t]? = some z := ⟨_, gE (by rw [HST.out.cfg.rows.rl]; exact htl)⟩
  have hrw := HST.out.cfg.rows.r1 t rv rs hrv hrs
  obtain ⟨gb, gbc, rfl, _⟩ := own_cons hrw.choose_spec.2.2.2.1 (by omega)
  obtain ⟨g0, c0', hg0, _⟩ := own_cons HST.out.cfg.rows.r0 (by omega)
  simp only [Value.slice.injEq] at hg0
  obtain ⟨rfl, _, rfl⟩ := hg0
  have gr := own_get HST.out.cfg.rows.r0 hrv
  have HRS := Lh hrs
  have HRV := Lh hrv
  have HRA := Lh hra
  have HDL : Hid (∀ w', Ext w w' → Calls Tryz.prog 179 #[.slice (some ⟨gb, 0, none⟩) rs.length gbc, .int .i64 i, .int .i64 ((i : Int) + 1)] w' (fun e w'' => e = .returned (.slice (some ⟨gb, 0, none⟩) (rs.length - 1) gbc) ∧ Mod (· = gb) w' w'' ∧ Tj.RwsO 0 w'' (.slice (some ⟨gb, 0, none⟩) (rs.length - 1) gbc) (rs.eraseIdx i))) := Lh (fun w' hw => sldel_any (hrw.kp (Kp.ext hw)) hil hrl)
  have hSg : S gb := HST.out.sr t _ gb hrv rfl
  have hS0 : S g0 := HST.out.s0 g0 rfl
  have n1 : gb ≠ sp := (HSL.out gb hSg).2
  have n2 : g0 ≠ sp := (HSL.out g0 hS0).2
  obtain ⟨cu0, hcu0⟩ := row_heap HST.out.cfg.rows.r0 (k := g0) rfl
  have HCU := Lh hcu0
  have n3 : gb ≠ g0 := fun e => by
   subst e
   obtain ⟨cu2, h2⟩ := row_heap hrw.choose_spec.2.2.2.1 (k := gb) rfl
   rw [hcu0] at h2; simp only [Option.some.injEq, Obj.cells.injEq] at h2; exact absurd h2.2.1 (by decide)
  have ql0 : ¬ ((C.rows.length : Int) ≤ t) := by omega
  have p0 := k0 w
  have P0 := Lh p0
  have P1 := Lh gr
  clear hrs hrv hr hrw hT hra hpo2 hcu0 p0 gr
  go_enter Tryz.func149, Tryz.ntmps149
  go_wp2_with fail
  refine (HRW.out _ grows).mono ?_
  rintro e w3 ⟨he, x3⟩
  have he : e = .returned (.tuple #[.int .i64 (i : Nat), .int .i64 0]) := he
  subst he
  have s3 := Sm x3
  have X3 := Lh (grows (a := w) (b := w3))
  clear x3
  go_wp2_with fail
  obtain ⟨CC, hCC⟩ : ∃ z : World → Prop, z = (fun w' => w'.cell? ⟨sp, 0, none⟩ = some (.slice (some ⟨g0, 0, none⟩) C.rows.length c0) ∧ w'.cell? ⟨g0, t, none⟩ = some (.slice (some ⟨gb, 0, none⟩) rs.length gbc)) := ⟨_, rfl⟩
  have HCC := Lh hCC
  clear hCC
  refine RelD.region CC 19 (by kernel_rfl) ?_
  have cq0 : ∀ y : Wh CC, y.val.cell? ⟨sp, 0, none⟩ = some (.slice (some ⟨g0, 0, none⟩) C.rows.length c0) := fun y => by have h := Eq.mp (congrFun HCC.out y.val) y.out; exact h.1
  have cq1 : ∀ y : Wh CC, y.val.cell? ⟨g0, t, none⟩ = some (.slice (some ⟨gb, 0, none⟩) rs.length gbc) := fun y => by have h := Eq.mp (congrFun HCC.out y.val) y.out; exact h.2
  have HC3 : Hid (CC w3.drew) := Lh (by rw [HCC.out]; exact ⟨X3.out.cell P0.out, X3.out.cell P1.out⟩)
  have hNE : Nonempty (Wh CC) := ⟨⟨_, HC3.out⟩⟩
  clear k0 k1 k2 k3 k4 k5 k6 k7 k8 k9 k10 k11 k12 k13 k14
  refine RelD.chunkL (k' := 17) 17 3 (by kernel_rfl) rfl (by kernel_rfl) HC3.out ?_
  simp only [dpZ, tkS, tkZ]
  repeat (go_big_quiet_step (fail))
  refine wpQuiet_nil ?_
  refine RelD.realL (k' := 18) 2 (by kernel_rfl) rfl (by kernel_rfl) ?_
  simp only [dpZ, dpS, tkS, tkZ]
  go_wp2_with fail
  refine (HDL.out _ X3.out.drew).mono ?_
  rintro e w5 ⟨rfl, m5, r5⟩
  have M5 : Hid (Mod (· = gb) w3 w5) := Lh ((Mod.of_ext ((eR w3).drew)).trans m5)
  have R5 := Lh r5
  have cm : ∀ (p : Addr) (v : Value), w3.cell? p = some v → p.block ≠ gb → w5.cell? p = some v := fun p v h hn => LaterM.cell h hn ⟨w5, M5.out⟩
  have HC5 : Hid (CC w5) := Lh (by rw [HCC.out]; exact ⟨cm _ _ (X3.out.cell P0.out) (fun e => n1 e.symm), cm _ _ (X3.out.cell P1.out) (fun e => n3 e.symm)⟩)
  have z5 : w5.cell? ⟨g0, t, none⟩ = some (.slice (some ⟨gb, 0, none⟩) rs.length gbc) := cm _ _ (X3.out.cell P1.out) (fun e => n3 e.symm)
  have zf : w5.frozen? ⟨g0, t, none⟩ = false := free_of (M5.out.heap (X3.out.heap HCU.out) (fun e => n3 e.symm))
  have hbx5 := M5.out.heap (X3.out.heap HBX.out) (fun e => n1 e.symm)
  clear m5 r5 cm
  go_wp2_with fail
  refine RelD.next_mk (fun _ => HC5.out) ?_
  refine RelD.chunkL (k' := 19) 1 1 (by kernel_rfl) rfl (by kernel_rfl) HC5.out ?_
  simp only [dpZ, dpS, tkS, tkZ]
  repeat (go_big_quiet_step (fail))
  refine wpQuiet_nil ?_
  refine RelD.realL (k' := 20) 0 (by kernel_rfl) rfl (by kernel_rfl) ?_
  simp only [dpZ, dpS, tkS, tkZ]
  go_wp2_with fail
  refine RelD.next_mk (fun h => absurd h (by decide)) ?_
  refine RelD.doneL (by kernel_rfl) (by kernel_rfl) ?_
  obtain ⟨w6, hw6⟩ : ∃ z, z = w5.setCell ⟨g0, t, none⟩ (.slice (some ⟨gb, 0, none⟩) (rs.length - 1) gbc) := ⟨_, rfl⟩
  rw [← hw6]
  have hdc : Tj.delC C t id = { C with rows := C.rows.set t (rs.eraseIdx i) } := by
   unfold Tj.delC
   rw [HPO.out]
   show { C with rows := C.rows.set (t : Int).toNat ((Tj.rowsAt C t).eraseIdx i) } = _
   rw [HRA.out, Int.toNat_natCast]
  have hset := (HST.out.ext X3.out).setRow (t := t) (g0 := g0) HRS.out HRV.out rfl (M5.out.mono (fun k _ h => by simp [Value.ownBlock, h])) R5.out (fun k hk => .inl hk) (by rw [← hdc]; exact Tj.delC_inv HST.out.inv)
  rw [← hw6] at hset
  have HS6 := Lh hset.1
  have HM6 := Lh hset.2
  have hle6 : w6.heap.size = w5.heap.size := by rw [hw6]; simp
  have hbx6 := Tj.heap_set (g := g0) (o := t) (v := .slice (some ⟨gb, 0, none⟩) (rs.length - 1) gbc) hbx5 (fun e => n2 e.symm)
  rw [← hw6] at hbx6
  have HBX6 := Lh hbx6
  have HDC := Lh hdc
  have htl6 : t < (C.rows.set t (rs.eraseIdx i)).length := by rw [List.length_set]; exact htl
  have HRX : Hid (Calls Tryz.prog 107 #[.pointer (some ⟨sp, 0, none⟩), .int .i64 t] w6 (RixP w6 (.slice ia C.rows.length ic) (C.rows.set t (rs.eraseIdx i)).length t ms (rs.eraseIdx i))) := Lh (
   reindex_any (v0 := .slice (some ⟨g0, 0, none⟩) C.rows.length c0) (q := ⟨q0, q1, q2, q3, q4, q5, q6, q7, q8⟩) hbx6 HS6.out.cfg.rows (List.getElem?_set_self htl) htl6 HS6.out.ix (Nat.le_trans (List.length_eraseIdx_le _ _) hrl) (by rw [List.length_set]; exact hnl))
  clear hset hw6 hbx5 hbx6 hdc z5 zf
  go_wp2_with fail
  refine HRX.out.mono ?_
  intro e w7 hpost
  obtain ⟨rfl, hm7, ms', hs7⟩ := HS6.out.reix htl6 hpost
  have HM7 := Lh hm7
  have HS7 := Lh hs7
  have hix := hpost.2.1
  clear hm7 hs7
  have HBX7 := Lh (hix.heap HBX6.out (fun e => by
   have h1 := HS6.out.si sp e
   rcases h1 with h1 | h1
   ·exact (HSL.out sp h1).2 rfl
   ·have := X3.out.le; omega))
  clear hix hpost
  go_wp2_with fail
  go_ret
  have hle3 := X3.out.le
  have hle5 := M5.out.size
  have hle7 := HM7.out.size
  refine ⟨ret_int (by rw [HE.out]), Tj.ChP.good HE.out ⟨?_, fun k => (S k ∨ (w3.heap.size ≤ k ∧ k < w5.heap.size)) ∨ (w6.heap.size ≤ k ∧ k < w7.heap.size), ?_, HBX7.out, ?_, vs.set t (.slice (some ⟨gb, 0, none⟩) (rs.length - 1) gbc), ms', ?_⟩⟩
  ·refine ((Mod.of_ext X3.out).trans HM6.out).comp HM7.out (fun k hk h => ?_)
   rcases h with h | ⟨h, _⟩
   ·exact h
   ·omega
  ·intro k hk
   rcases hk with (hk | ⟨h1, h2⟩) | ⟨h1, h2⟩
   ·exact .inl hk
   ·exact .inr ⟨by omega, by omega⟩
   ·exact .inr ⟨by omega, by omega⟩
  ·intro k hk
   rcases hk with (hk | ⟨h1, h2⟩) | ⟨h1, h2⟩
   ·have := HSL.out k hk; exact ⟨by omega, this.2⟩
   ·exact ⟨by omega, by omega⟩
   ·exact ⟨by omega, by omega⟩
  ·rw [HDC.out]
   refine HS7.out.fsEq (fun j hj => ?_)
   by_cases e : j = t
   ·subst e
    rw [if_pos rfl, Tj.ixs_at (rs := rs.eraseIdx i) (List.getElem?_set_self htl)]
   ·rw [if_neg e]
    unfold Tj.ixs
    show ((List.getD (C.rows.set t _) j []).length, _) = _
    rw [List.getD_eq_getElem?_getD, List.getD_eq_getElem?_getD, List.getElem?_set_ne (fun h => e h.symm)]
namespace Tj
/-- an operation's cells -/
def TOpR (w : World) (cs : List Value) (o : TOp) : Prop := ∃ ka kc ga gc ha hc, cs = [.int .i64 o.k, .int .i64 o.t, .int .i64 o.id, .slice ka o.e.ks.length kc, .int .i64 o.e.pr, .int .i64 o.e.cl.a, .slice ga o.e.cl.ar.length gc, .int .i64 o.c.a, .slice ha o.c.ar.length hc] ∧ (B64 o.k ∧ B64 o.t ∧ B64 o.id ∧ B64 o.e.pr ∧ B64 o.e.cl.a ∧ B64 o.c.a) ∧
 KMs w (.slice ka o.e.ks.length kc) o.e.ks ∧ Us w (.slice ga o.e.cl.ar.length gc) o.e.cl.ar ∧ Us w (.slice ha o.c.ar.length hc) o.c.ar
theorem TOpR.ext {w w' : World} {cs : List Value} {o : TOp} (h : TOpR w cs o) (hx : Ext w w') : TOpR w' cs o := by
 obtain ⟨ka, kc, ga, gc, ha, hc, h1, h2, h3, h4, h5⟩ := h
 exact ⟨ka, kc, ga, gc, ha, hc, h1, h2, h3.ext hx, h4.ext hx, h5.ext hx⟩
theorem ChP.base {S : Nat → Prop} {lo hi sp : Nat} {V : SV} {w w1 w' : World} {F : FP} {c : Int} {C' : Cfg} (h : ChP S lo hi sp V w1 F c C' w') (hx : Ext w w1) : ChP S lo hi sp V w F c C' w' := by
 obtain ⟨h1, h2⟩ := h
 refine ⟨fun hc => hx.trans (h1 hc), fun hc => ?_⟩
 obtain ⟨m, S', hs, hst⟩ := h2 hc
 have := hx.le
 exact ⟨(Mod.of_ext hx).trans m, S', fun k hk => (hs k hk).imp id (fun h => ⟨by omega, h.2⟩), hst⟩
end Tj
abbrev Yq1 (o : Tj.TOp) (ka : Option Addr) (kc : Nat) (ga : Option Addr) (gc : Nat) (ha : Option Addr) (hc : Nat) : Array Value := #[.int .i64 o.k, .int .i64 o.t, .int .i64 o.id, .slice ka o.e.ks.length kc, .int .i64 o.e.pr, .int .i64 o.e.cl.a, .slice ga o.e.cl.ar.length gc, .int .i64 o.c.a, .slice ha o.c.ar.length hc]
theorem exec_any {S : Nat → Prop} {lo hi sp : Nat} {V : Tj.SV} {w : World} {F : Tj.FP} {C : Tj.Cfg} (h : Tj.St S lo hi sp V w F C) {cs : List Value} {o : Tj.TOp} (hx : ∀ w', Mod S w w' → Tj.TOpR w' cs o) :
 Calls Tryz.prog 112 #[.pointer (some ⟨sp, 0, none⟩), .agg cs.toArray] w (InsP S lo hi sp V w F (Tj.opE F C o) (Tj.opC C o)) := by
 obtain ⟨ka, kc, ga, gc, ha, hc, rfl, ⟨b1, b2, b3, b4, b5, b6⟩, _, _, _⟩ := hx w (Mod.refl _ _)
 have HX : Hid (∀ w', Mod S w w' → Tj.KMs w' (.slice ka o.e.ks.length kc) o.e.ks ∧ Tj.Us w' (.slice ga o.e.cl.ar.length gc) o.e.cl.ar ∧ Tj.Us w' (.slice ha o.c.ar.length hc) o.c.ar) := Lh (fun w' hm => by
  obtain ⟨ka', kc', ga', gc', ha', hc', e, _, h1, h2, h3⟩ := hx w' hm
  simp only [List.cons.injEq, Value.slice.injEq, and_true, true_and] at e
  obtain ⟨⟨rfl, rfl⟩, ⟨rfl, rfl⟩, rfl, rfl⟩ := e
  exact ⟨h1, h2, h3⟩)
 have HI : Hid (Calls Tryz.prog 148 #[.pointer (some ⟨sp, 0, none⟩), .int .i64 o.t, .agg #[.slice ka o.e.ks.length kc, .int .i64 o.e.pr, .int .i64 o.e.cl.a, .slice ga o.e.cl.ar.length gc]] (w.alloc (.cells (Yq1 o ka kc ga gc ha hc) 67)) (InsP S lo hi sp V (w.alloc (.cells (Yq1 o ka kc ga gc ha hc) 67)) F (Tj.insE F C o.t o.e) (Tj.insC C o.t o.e))) := Lh (sinsert_any (h.ext grows) o.t (fun w' hm => by
  have h1 := HX.out w' ((Mod.of_ext (grows (a := w) (b := (w.alloc (.cells (Yq1 o ka kc ga gc ha hc) 67))))).trans hm)
  exact ⟨_, rfl, ka, kc, ga, gc, rfl, ⟨b4, b5⟩, h1.1, h1.2.1⟩))
 have HC : ∀ w', Mod S (w.alloc (.cells (Yq1 o ka kc ga gc ha hc) 67)) w' → ∃ cs : List Value, (.agg #[.int .i64 o.c.a, .slice ha o.c.ar.length hc] : Value) = .agg cs.toArray ∧ Tj.CallR w' cs o.c := fun w' hm =>
  ⟨_, rfl, _, rfl, b6, (HX.out w' ((Mod.of_ext (grows (a := w) (b := (w.alloc (.cells (Yq1 o ka kc ga gc ha hc) 67))))).trans hm)).2.2⟩
 have HM : Hid (Calls Tryz.prog 110 #[.pointer (some ⟨sp, 0, none⟩), .int .i64 o.t, .int .i64 o.id, .agg #[.int .i64 o.c.a, .slice ha o.c.ar.length hc]] (w.alloc (.cells (Yq1 o ka kc ga gc ha hc) 67)) (ModP S lo hi sp V (w.alloc (.cells (Yq1 o ka kc ga gc ha hc) 67)) F (Tj.modE F C o.t o.id o.c) (Tj.modC C o.t o.id o.c))) := Lh (smod_any (h.ext grows) o.t o.id b3 HC)
 have HL : Hid (Calls Tryz.prog 149 #[.pointer (some ⟨sp, 0, none⟩), .int .i64 o.t, .int .i64 o.id] (w.alloc (.cells (Yq1 o ka kc ga gc ha hc) 67)) (ModP S lo hi sp V (w.alloc (.cells (Yq1 o ka kc ga gc ha hc) 67)) F (Tj.delE C o.t o.id) (Tj.delC C o.t o.id))) := Lh (sdel_any (h.ext grows) o.t o.id b3)
 have HS : Hid (Calls Tryz.prog 150 #[.pointer (some ⟨sp, 0, none⟩), .int .i64 o.t, .agg #[.int .i64 o.c.a, .slice ha o.c.ar.length hc]] (w.alloc (.cells (Yq1 o ka kc ga gc ha hc) 67)) (ModP S lo hi sp V (w.alloc (.cells (Yq1 o ka kc ga gc ha hc) 67)) F (Tj.sdfE F C o.t o.c) (Tj.sdfC C o.t o.c))) := Lh (ssdf_any (h.ext grows) o.t HC)
 obtain ⟨R, hR⟩ : ∃ z, z = Tj.opE F C o := ⟨_, rfl⟩
 obtain ⟨D, hD⟩ : ∃ z, z = Tj.opC C o := ⟨_, rfl⟩
 rw [← hR, ← hD]
 unfold Tj.opE at hR
 unfold Tj.opC at hD
 have bx := aH w (.cells (Yq1 o ka kc ga gc ha hc) 67)
 have k0 := alw (cQ 0 bx)
 have k1 := alw (cQ 1 bx)
 have k2 := alw (cQ 2 bx)
 have k3 := alw (cQ 3 bx)
 have k4 := alw (cQ 4 bx)
 have k5 := alw (cQ 5 bx)
 have k6 := alw (cQ 6 bx)
 have k7 := alw (cQ 7 bx)
 have k8 := alw (cQ 8 bx)
 clear bx
 clear hx h HC
 by_cases h1 : o.k = 1
 ·rw [if_pos h1] at hR hD
  rw [← hR, ← hD] at HI
  have e1 : (o.k == 1) = true := bT (by omega)
  clear h1 hR hD
  go_enter Tryz.func112, Tryz.ntmps112
  go_wp2_with fail
  refine (HI.out).mono ?_
  rintro e w3 ⟨id, rfl, hp⟩
  have HP := Lh (hp.base (grows (a := w) (b := (w.alloc (.cells (Yq1 o ka kc ga gc ha hc) 67)))))
  clear hp
  go_wp2_with fail
  exact bodyPost_ret (v := .tuple #[.int .i64 id, .int .i64 R]) (by simp [results, Tryz.results112, go_sem]) rfl ⟨_, rfl, HP.out⟩
 ·rw [if_neg h1] at hR hD
  have e1 : (o.k == 1) = false := bF (by omega)
  by_cases h2 : o.k = 2
  ·rw [if_pos h2] at hR hD
   rw [← hR, ← hD] at HM
   have e2 : (o.k == 2) = true := bT (by omega)
   clear h1 h2 hR hD
   go_enter Tryz.func112, Tryz.ntmps112
   go_wp2_with fail
   refine (HM.out).mono ?_
   rintro e w3 ⟨rfl, hp⟩
   have HP := Lh (hp.base (grows (a := w) (b := (w.alloc (.cells (Yq1 o ka kc ga gc ha hc) 67)))))
   clear hp
   go_wp2_with fail
   exact bodyPost_ret (v := .tuple #[.int .i64 0, .int .i64 R]) (by simp [results, Tryz.results112, go_sem]) rfl ⟨_, rfl, HP.out⟩
  ·rw [if_neg h2] at hR hD
   have e2 : (o.k == 2) = false := bF (by omega)
   by_cases h3 : o.k = 3
   ·rw [if_pos h3] at hR hD
    rw [← hR, ← hD] at HL
    have e3 : (o.k == 3) = true := bT (by omega)
    clear h1 h2 h3 hR hD
    go_enter Tryz.func112, Tryz.ntmps112
    go_wp2_with fail
    refine (HL.out).mono ?_
    rintro e w3 ⟨rfl, hp⟩
    have HP := Lh (hp.base (grows (a := w) (b := (w.alloc (.cells (Yq1 o ka kc ga gc ha hc) 67)))))
    clear hp
    go_wp2_with fail
    exact bodyPost_ret (v := .tuple #[.int .i64 0, .int .i64 R]) (by simp [results, Tryz.results112, go_sem]) rfl ⟨_, rfl, HP.out⟩
   ·rw [if_neg h3] at hR hD
    have e3 : (o.k == 3) = false := bF (by omega)
    by_cases h4 : o.k = 4
    ·rw [if_pos h4] at hR hD
     rw [← hR, ← hD] at HS
     have e4 : (o.k == 4) = true := bT (by omega)
     clear h1 h2 h3 h4 hR hD
     go_enter Tryz.func112, Tryz.ntmps112
     go_wp2_with fail
     refine (HS.out).mono ?_
     rintro e w3 ⟨rfl, hp⟩
     have HP := Lh (hp.base (grows (a := w) (b := (w.alloc (.cells (Yq1 o ka kc ga gc ha hc) 67)))))
     clear hp
     go_wp2_with fail
     exact bodyPost_ret (v := .tuple #[.int .i64 0, .int .i64 R]) (by simp [results, Tryz.results112, go_sem]) rfl ⟨_, rfl, HP.out⟩
    ·rw [if_neg h4] at hR hD
     have e4 : (o.k == 4) = false := bF (by omega)
     have HE := Lh hR
     clear h1 h2 h3 h4 hR hD
     go_enter Tryz.func112, Tryz.ntmps112
     go_wp2_with fail
     have HP : Hid (Tj.ChP S lo hi sp V w F R D (w.alloc (.cells (Yq1 o ka kc ga gc ha hc) 67))) := Lh (ChP_bad (by rw [HE.out]; decide) grows)
     exact bodyPost_ret (v := .tuple #[.int .i64 0, .int .i64 R]) (by simp [results, Tryz.results112, go_sem, HE.out]) rfl ⟨_, rfl, HP.out⟩
/-- a configuration of one's own is handed back -/
def ConfP (w : World) (C : Tj.Cfg) (e : Ending) (w' : World) : Prop := ∃ v0 v1 v2 v3 vs, e = .returned (.agg #[v0, v1, v2, v3]) ∧ Ext w w' ∧ Tj.CfgO w.heap.size w' v0 v1 v2 v3 vs C
theorem sconf_any {S : Nat → Prop} {lo hi sp : Nat} {V : Tj.SV} {w : World} {F : Tj.FP} {C : Tj.Cfg} (h : Tj.St S lo hi sp V w F C) : Calls Tryz.prog 20 #[.pointer (some ⟨sp, 0, none⟩)] w (ConfP w C) := by
 obtain ⟨v0, v1, v2, v3, ixv, q0, q1, q2, q3, q4, q5, q6, q7, q8⟩ := V
 obtain ⟨hbx, hsl, vs, ms, hst⟩ := h
 have HST := Lh hst
 have HSL := Lh hsl
 have HBX := Lh hbx
 obtain ⟨r0, c0, r1, c1, r2, c2, r3, c3, rfl, rfl, rfl, rfl⟩ := hst.cfg.form
 obtain ⟨ia, ic, rfl, _⟩ := own_form hst.ix
 have hwsp : sp < w.heap.size := lt_of_block hbx
 have k0 := alw (cQ 0 hbx)
 have k1 := alw (cQ 1 hbx)
 have k2 := alw (cQ 2 hbx)
 have k3 := alw (cQ 3 hbx)
 have k4 := alw (cQ 4 hbx)
 have k5 := alw (cQ 5 hbx)
 have k6 := alw (cQ 6 hbx)
 have k7 := alw (cQ 7 hbx)
 have k8 := alw (cQ 8 hbx)
 have k9 := alw (cQ 9 hbx)
 have k10 := alw (cQ 10 hbx)
 have k11 := alw (cQ 11 hbx)
 have k12 := alw (cQ 12 hbx)
 have k13 := alw (cQ 13 hbx)
 have k14 := alw (cQ 14 hbx)
 clear hst hsl hbx
 have e0 : ∀ w', (binOp .eql 76 (.pointer (some ⟨sp, 0, none⟩)) (.pointer none)).run Tryz.prog w' = .ok (.bool false) w' := fun _ => rfl
 have HCC : Hid (∀ w', Ext w w' → Calls Tryz.prog 62 #[.agg (Yq7 r0 c0 C r1 c1 r2 c2 r3 c3)] w' (ConfP w' C)) := Lh (fun w' hw => cconfig_any ((HST.out.ext hw).cfg.cfg) HST.out.inv.cb)
 have bx := aH w (.cells (Yq5 ) 45)
 have z0 := alw (cQ 0 bx)
 have z1 := alw (cQ 1 bx)
 have z2 := alw (cQ 2 bx)
 have z3 := alw (cQ 3 bx)
 clear bx
 go_enter Tryz.func20, Tryz.ntmps20
 go_wp2_with fail
 refine (HCC.out _ grows).mono ?_
 rintro e w3 ⟨v0, v1, v2, v3, vs3, rfl, x3, hcf⟩
 obtain ⟨e0, d0, e1, d1, e2, d2, e3, d3, rfl, rfl, rfl, rfl⟩ := hcf.form
 have s3 := Sm x3
 have HCF := Lh hcf
 have hrq := x3.heap (aH w (.cells (Yq5 ) 45))
 have HRQ := Lh hrq
 have hle3 := x3.le
 simp only [szA] at hle3
 have XW := Lh (grows (a := w) (b := w3))
 clear hcf hrq x3
 go_wp2_with (refine wpList_store_box rfl 45 (.tmp 2) (.tmp 17) rfl w.heap.size #[.slice e0 C.rows.length d0, .slice e1 C.nx.length d1, .slice e2 C.df.length d2, .slice e3 C.rg.length d3] rfl rfl 45 (Yq5 ) HRQ.out (by kernel_rfl) rfl (by simp [Value.oneCell']) ?_)
 intro wf hmf hbf
 have HMF := Lh hmf
 have q0 := cQ 0 hbf
 have q1 := cQ 1 hbf
 have q2 := cQ 2 hbf
 have q3 := cQ 3 hbf
 clear hmf hbf
 go_wp2_with fail
 exact bodyPost_ret (v := .agg #[.slice e0 C.rows.length d0, .slice e1 C.nx.length d1, .slice e2 C.df.length d2, .slice e3 C.rg.length d3]) (by simp [results, Tryz.results20, go_sem, q0, q1, q2, q3]) rfl ⟨_, _, _, _, vs3, rfl, XW.out.mod HMF.out (fun q hq => by omega), (HCF.out.low (by simp)).kp (Kp.box HMF.out HRQ.out (by decide))⟩
theorem sclone_any {S : Nat → Prop} {lo hi sp : Nat} {V : Tj.SV} {w : World} {F : Tj.FP} {C : Tj.Cfg} (h : Tj.St S lo hi sp V w F C) : Calls Tryz.prog 109 #[.pointer (some ⟨sp, 0, none⟩)] w (Tj.LoadP w F C) := by
 obtain ⟨v0, v1, v2, v3, ixv, q0, q1, q2, q3, q4, q5, q6, q7, q8⟩ := V
 obtain ⟨hbx, hsl, vs, ms, hst⟩ := h
 have HST := Lh hst
 have HSL := Lh hsl
 have HBX := Lh hbx
 obtain ⟨r0, c0, r1, c1, r2, c2, r3, c3, rfl, rfl, rfl, rfl⟩ := hst.cfg.form
 obtain ⟨ia, ic, rfl, _⟩ := own_form hst.ix
 have hwsp : sp < w.heap.size := lt_of_block hbx
 have k0 := alw (cQ 0 hbx)
 have k1 := alw (cQ 1 hbx)
 have k2 := alw (cQ 2 hbx)
 have k3 := alw (cQ 3 hbx)
 have k4 := alw (cQ 4 hbx)
 have k5 := alw (cQ 5 hbx)
 have k6 := alw (cQ 6 hbx)
 have k7 := alw (cQ 7 hbx)
 have k8 := alw (cQ 8 hbx)
 have k9 := alw (cQ 9 hbx)
 have k10 := alw (cQ 10 hbx)
 have k11 := alw (cQ 11 hbx)
 have k12 := alw (cQ 12 hbx)
 have k13 := alw (cQ 13 hbx)
 have k14 := alw (cQ 14 hbx)
 clear hst hsl hbx
 have e0 : ∀ w', (binOp .eql 76 (.pointer (some ⟨sp, 0, none⟩)) (.pointer none)).run Tryz.prog w' = .ok (.bool false) w' := fun _ => rfl
 have HLD : Hid (∀ w', Ext w w' → Calls Tryz.prog 61 #[.agg #[q0, q1, q2, q3, q4, q5, q6, q7, q8], .agg (Yq7 r0 c0 C r1 c1 r2 c2 r3 c3)] w' (Tj.LoadP w' F C)) := Lh (fun w' hw => load_any (p := ⟨q0, q1, q2, q3, q4, q5, q6, q7, q8⟩) ((HST.out.ext hw).pr.now) HST.out.sz ((HST.out.ext hw).cfg.cfg) HST.out.inv)
 go_enter Tryz.func109, Tryz.ntmps109
 go_wp2_with fail
 refine wp_region_later_tail 8 (by kernel_rfl) (by kernel_rfl) (eR _) ?_
 simp only [tkS, tkZ, dpS, dpZ]
 repeat (go_big_quiet_step (fail))
 refine wpQuiet_nil ?_
 intro w2 x2
 have X2 := Lh x2
 clear x2
 go_wp2_with fail
 refine (HLD.out _ X2.out).mono ?_
 rintro e w3 ⟨bp, rfl, x3, hld⟩
 have X3 := Lh x3
 have HL := Lh hld
 clear x3 hld
 go_wp2_with fail
 go_ret
 have := X2.out.le
 obtain ⟨S', lo', hi', V', h1, h2, h3, h4⟩ := HL.out
 exact ⟨bp, rfl, X2.out.trans X3.out, S', lo', hi', V', by omega, by omega, fun k hk => ⟨by have := h3 k hk; omega, (h3 k hk).2⟩, h4⟩
/-- what Load answers -/
def LdP (W : World) (F : Tj.FP) (C : Tj.Cfg) (e : Ending) (w' : World) : Prop := Ext W w' ∧ ((Tj.cfgE F C ≠ 0 ∧ e = .returned (.tuple #[.pointer none, .int .i64 (Tj.cfgE F C)])) ∨ (Tj.cfgE F C = 0 ∧ ∃ sp, e = .returned (.tuple #[.pointer (some ⟨sp, 0, none⟩), .int .i64 0]) ∧ Tj.Loaded W F C w' sp))
theorem sload_any {W : World} {p : Pg.PV} {F : Tj.FP} (hG : Tj.IsG W p F) (hz : Tj.Sz F) {cv : Value} {C : Tj.Cfg} (hC : Tj.CfgV W cv C) (hI : Tj.Inv F C) : Calls Tryz.prog 19 #[p.val, cv] W (LdP W F C) := by
 have HCK := Lh (fun (w : World) (hx : Ext W w) => scheck_any (hG.ext hx) (hC.ext hx))
 have HLD := Lh (fun (w : World) (hx : Ext W w) => load_any (hG.ext hx) hz (hC.ext hx) hI)
 obtain ⟨hF, _⟩ := hG
 obtain ⟨a1, a2, a3, a4, a5, a6, a7, a8, m1, m2, m3, m4, m5, m6, n7, m7, m8, hf⟩ := hF.form
 obtain ⟨rfl, hnm, hhs, hmd, hrs, has, hts, hss, hct, hdp, l1, l2, l3, l4, l5, l6, l7, l8⟩ := hf
 obtain ⟨r0, c0, r1, c1, r2, c2, r3, c3, rfl, _, _, _, _⟩ := hC.form
 dsimp only [Pg.PV.val] at *
 clear hF hnm hhs hmd hrs has hts hss hct hdp hC hI hz
 obtain ⟨R, hR⟩ : ∃ z, z = Tj.cfgE F C := ⟨_, rfl⟩
 rw [← hR] at HCK
 have bx := aH W (.cells (Yq0 F a1 m1 a2 m2 a3 m3 a4 m4 a5 m5 a6 m6 a7 m7 n7 a8 m8) 31)
 have k0 := alw (cQ 0 bx)
 have k1 := alw (cQ 1 bx)
 have k2 := alw (cQ 2 bx)
 have k3 := alw (cQ 3 bx)
 have k4 := alw (cQ 4 bx)
 have k5 := alw (cQ 5 bx)
 have k6 := alw (cQ 6 bx)
 have k7 := alw (cQ 7 bx)
 have k8 := alw (cQ 8 bx)
 clear bx
 have bx := aH (W.alloc (.cells (Yq0 F a1 m1 a2 m2 a3 m3 a4 m4 a5 m5 a6 m6 a7 m7 n7 a8 m8) 31)) (.cells (Yq7 r0 c0 C r1 c1 r2 c2 r3 c3) 45)
 rw [szA] at bx
 have cc0 := alw (cQ 0 bx)
 have cc1 := alw (cQ 1 bx)
 have cc2 := alw (cQ 2 bx)
 have cc3 := alw (cQ 3 bx)
 clear bx
 by_cases hz : R = 0
 ·subst hz
  have HE := Lh hR
  clear hR
  go_enter Tryz.func19, Tryz.ntmps19
  go_wp2_with fail
  refine via (HCK.out _ grows) fun w3 xw3 sw3 => ?_
  go_wp2_with fail
  refine (HLD.out _ grows).mono ?_
  rintro e w4 ⟨sp, rfl, x4, hld⟩
  have s4 := Sm x4
  have HL := Lh hld
  clear hld
  have hle := grows_le (a := W) (b := w3)
  go_wp2_with fail
  obtain ⟨S', lo', hi', V', h1, h2, h3, h4⟩ := HL.out
  exact bodyPost_ret (v := .tuple #[.pointer (some ⟨sp, 0, none⟩), .int .i64 0]) (by simp [results, Tryz.results19, go_sem]) rfl ⟨grows, .inr ⟨HE.out.symm, sp, rfl, S', lo', hi', V', by omega, by omega, fun k hk => ⟨by have := h3 k hk; omega, (h3 k hk).2⟩, h4⟩⟩
 ·have z1 : (R != 0) = true := nT hz
  have HE := Lh hR
  have HZ := Lh hz
  clear hR hz
  go_enter Tryz.func19, Tryz.ntmps19
  go_wp2_with fail
  refine via (HCK.out _ grows) fun w3 xw3 sw3 => ?_
  go_wp2_with fail
  exact bodyPost_ret (v := .tuple #[.pointer none, .int .i64 R]) (by simp [results, Tryz.results19, go_sem]) rfl ⟨grows, .inl ⟨by rw [← HE.out]; exact HZ.out, by rw [HE.out]⟩⟩
end Go.Proofs.YthmokhkkdgnbhaaGreat
