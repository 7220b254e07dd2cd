/- Registers: the law Operations, walked. No condition. -/
import Derived.Test.YtnmamcplbeiehaaRg13
namespace Go.Proofs.Ytnmamcplbeiehaa
open Go.RowKit

set_option maxRecDepth 100000 in
theorem rd_acc {W : World} {cs : List Value} (hl : cs.length = 3) (h : Rd Try.prog W 84 cs) : ∃ r i x : Int, cs = [.int .i64 r, .int .u32 i, .int .u32 x] ∧ Rg.B64 r ∧ U32 i ∧ U32 x := by
  have z0 : Try.prog.cellsOf 23 = 1 := by kernel_rfl
  have z1 : Try.prog.cellsOf 3 = 1 := by kernel_rfl
  obtain ⟨_, hr⟩ := Rd.struct Try.underlying84 h
  match cs, hl with
  | [c0, c1, c2], _ =>
    have r0 := hr 0 _ rfl
    have r1 := hr 1 _ rfl
    have r2 := hr 2 _ rfl
    simp [z0, z1] at r0 r1 r2
    obtain ⟨s, e0, h0⟩ := Rd.int Try.underlying3 r0
    obtain ⟨a, e1, h1⟩ := Rd.int Try.underlying23 r1
    obtain ⟨b, e2, h2⟩ := Rd.int Try.underlying23 r2
    simp at e0 e1 e2
    subst e0; subst e1; subst e2
    exact ⟨s, a, b, rfl, wf_i64r h0, wf_u32r h1, wf_u32r h2⟩
set_option maxRecDepth 100000 in
theorem acc_take {v : Value} {W : World} {base : Nat} {r : Reach} {H : Type} {enc : TypeId × Value → H} {d : DataW H} {ps : List MemPlace}
    (ok : Value.okWide Try.prog W r base 84 v) (h : DataW.Trod enc Try.prog W 0 (fun _ => true) true 84 v d ps) : ∃ r i x : Int, v = .agg #[.int .i64 r, .int .u32 i, .int .u32 x] ∧ Rg.B64 r ∧ U32 i ∧ U32 x := by
  have hc : Try.prog.cellsOf 84 = 3 := by kernel_rfl
  obtain ⟨l, rfl, hl⟩ := ok_struct Try.underlying84 ok
  rw [hc] at hl
  have hrd := Rd.of h
  simp only [Value.cells, List.toList_toArray] at hrd
  obtain ⟨a, b, c, rfl, h2⟩ := rd_acc hl hrd
  exact ⟨a, b, c, rfl, h2⟩
set_option maxRecDepth 8000 in
set_option maxHeartbeats 4000000 in
theorem registerOperations_walk (v0 v1 v2 : Value) (W : World) {b0 b1 b2 : Nat} {r0 r1 r2 : Reach} {H : Type} {enc : TypeId × Value → H} {d0 d1 d2 : DataW H} {p0 p1 p2 : List MemPlace}
    (ok0 : Value.okWide Try.prog W r0 b0 76 v0) (h0 : DataW.Trod enc Try.prog W 0 (fun _ => true) true 76 v0 d0 p0)
    (ok1 : Value.okWide Try.prog W r1 b1 77 v1) (h1 : DataW.Trod enc Try.prog W 0 (fun _ => true) true 77 v1 d1 p1)
    (ok2 : Value.okWide Try.prog W r2 b2 84 v2) (h2 : DataW.Trod enc Try.prog W 0 (fun _ => true) true 84 v2 d2 p2) :
    Calls Try.prog 10 #[v0, v1, v2] W (Rets W (.bool true)) := by
  obtain ⟨s, a1, n1, m1, a2, n2, m2, a3, m3, a4, n4, m4, a5, n5, m5, a6, n6, m6, a7, n7, m7, a8, n8, m8, rs, rfl, hr⟩ := rprog_take ok0 h0
  obtain ⟨la, hla⟩ := tab_take ok1 h1
  obtain ⟨r, i, x, rfl, hrb, hib, hxb⟩ := acc_take ok2 h2
  obtain ⟨ao, ac, rfl, _, _⟩ := hla.slice
  clear ok0 h0 ok1 h1 ok2 h2 d0 d1 d2
  have HR := Lib.hid hr
  have HA := Lib.hid hla
  have bb := alloc_heap W (.cells #[.string s, .slice a1 n1 m1, .slice a2 n2 m2, .slice a3 rs.length m3, .slice a4 n4 m4, .slice a5 n5 m5, .slice a6 n6 m6, .slice a7 n7 m7, .slice a8 n8 m8] 76)
  have p0 := alw (cell_of (o := 0) bb)
  have p1 := alw (cell_of (o := 1) bb)
  have p2 := alw (cell_of (o := 2) bb)
  have p3 := alw (cell_of (o := 3) bb)
  have p4 := alw (cell_of (o := 4) bb)
  have p5 := alw (cell_of (o := 5) bb)
  have p6 := alw (cell_of (o := 6) bb)
  have p7 := alw (cell_of (o := 7) bb)
  have p8 := alw (cell_of (o := 8) bb)
  clear bb
  have bx := alloc_heap (W.alloc (.cells #[.string s, .slice a1 n1 m1, .slice a2 n2 m2, .slice a3 rs.length m3, .slice a4 n4 m4, .slice a5 n5 m5, .slice a6 n6 m6, .slice a7 n7 m7, .slice a8 n8 m8] 76)) (.cells #[.int .i64 r, .int .u32 i, .int .u32 x] 84)
  rw [World.size_alloc] at bx
  have q0 := alw (cell_of (o := 0) bx)
  have q1 := alw (cell_of (o := 1) bx)
  have q2 := alw (cell_of (o := 2) bx)
  clear bx
  obtain ⟨ta, hta⟩ : ∃ t, t = Rg.tooB rs la := ⟨_, rfl⟩
  have HTA : Hid (∀ w, Ext W w → Calls Try.prog 29 #[.agg #[.string s, .slice a1 n1 m1, .slice a2 n2 m2, .slice a3 rs.length m3, .slice a4 n4 m4, .slice a5 n5 m5, .slice a6 n6 m6, .slice a7 n7 m7, .slice a8 n8 m8], .slice ao la.length ac] w (Rets w (.bool ta))) := Lib.hid (fun w hx => by have h := too_any (s := s) (a1 := a1) (n1 := n1) (m1 := m1) (a2 := a2) (n2 := n2) (m2 := m2) (a4 := a4) (n4 := n4) (m4 := m4) (a5 := a5) (n5 := n5) (m5 := m5) (a6 := a6) (n6 := n6) (m6 := m6) (a7 := a7) (n7 := n7) (m7 := m7) (a8 := a8) (n8 := n8) (m8 := m8) (HR.out.ext (fun _ _ h => h.ext hx) hx) (HA.out.ext (fun _ _ h => h.ext hx) hx); rw [← hta] at h; exact h)
  clear hr hla
  cases ta with
  | true =>
    clear hta
    go_enter Try.func10, Try.ntmps10
    go_wp2_with fail
    refine (HTA.out _ grows).mono ?_
    rintro e w1 ⟨rfl, xw1⟩
    have sw1 := Step.mk xw1
    go_wp2_with fail
    refine (rworks_any _).mono ?_
    rintro e w5 ⟨rfl, x5⟩
    have s5 := Step.mk x5
    go_wp2_with fail
    go_ret
    exact ⟨rfl, grows⟩
  | false =>
    obtain ⟨l1, l2, l3⟩ := Rg.too_len hta.symm
    obtain ⟨y, hy⟩ : ∃ y, y = Rg.read rs la r i := ⟨_, rfl⟩
    obtain ⟨N, hN⟩ : ∃ N, N = Rg.write rs la r i x := ⟨_, rfl⟩
    have HRD : Hid (∀ w, Ext W w → Calls Try.prog 36 #[.agg #[.string s, .slice a1 n1 m1, .slice a2 n2 m2, .slice a3 rs.length m3, .slice a4 n4 m4, .slice a5 n5 m5, .slice a6 n6 m6, .slice a7 n7 m7, .slice a8 n8 m8], .slice ao la.length ac, .int .i64 r, .int .u32 i] w (Rets w (.int .u32 y))) := Lib.hid (fun w hx => by have h := read_any (s := s) (a1 := a1) (n1 := n1) (m1 := m1) (a2 := a2) (n2 := n2) (m2 := m2) (a4 := a4) (n4 := n4) (m4 := m4) (a5 := a5) (n5 := n5) (m5 := m5) (a6 := a6) (n6 := n6) (m6 := m6) (a7 := a7) (n7 := n7) (m7 := m7) (a8 := a8) (n8 := n8) (m8 := m8) (HR.out.ext (fun _ _ h => h.ext hx) hx) (HA.out.ext (fun _ _ h => h.ext hx) hx) r i hib.1 hib.2; rw [← hy] at h; exact h)
    have HRR : Hid (∀ w, Ext W w → Calls Try.prog 37 #[.agg #[.string s, .slice a1 n1 m1, .slice a2 n2 m2, .slice a3 rs.length m3, .slice a4 n4 m4, .slice a5 n5 m5, .slice a6 n6 m6, .slice a7 n7 m7, .slice a8 n8 m8], .slice ao la.length ac, .int .i64 r, .int .u32 i] w (Rets w (.int .u32 y))) := Lib.hid (fun w hx => by have h := refread_any (s := s) (a1 := a1) (n1 := n1) (m1 := m1) (a2 := a2) (n2 := n2) (m2 := m2) (a4 := a4) (n4 := n4) (m4 := m4) (a5 := a5) (n5 := n5) (m5 := m5) (a6 := a6) (n6 := n6) (m6 := m6) (a7 := a7) (n7 := n7) (m7 := m7) (a8 := a8) (n8 := n8) (m8 := m8) (HR.out.ext (fun _ _ h => h.ext hx) hx) (HA.out.ext (fun _ _ h => h.ext hx) hx) r i hib.1 hib.2; rw [← hy] at h; exact h)
    have HWR : Hid (∀ w, Ext W w → Calls Try.prog 38 #[.agg #[.string s, .slice a1 n1 m1, .slice a2 n2 m2, .slice a3 rs.length m3, .slice a4 n4 m4, .slice a5 n5 m5, .slice a6 n6 m6, .slice a7 n7 m7, .slice a8 n8 m8], .slice ao la.length ac, .int .i64 r, .int .u32 i, .int .u32 x] w (TabP w N)) := Lib.hid (fun w hx => by have h := write_any (s := s) (a1 := a1) (n1 := n1) (m1 := m1) (a2 := a2) (n2 := n2) (m2 := m2) (a4 := a4) (n4 := n4) (m4 := m4) (a5 := a5) (n5 := n5) (m5 := m5) (a6 := a6) (n6 := n6) (m6 := m6) (a7 := a7) (n7 := n7) (m7 := m7) (a8 := a8) (n8 := n8) (m8 := m8) (HR.out.ext (fun _ _ h => h.ext hx) hx) (HA.out.ext (fun _ _ h => h.ext hx) hx) l2 l3 r i x hib.1 hib.2 hxb.1 hxb.2; rw [← hN] at h; exact h)
    have HRW : Hid (∀ w, Ext W w → Calls Try.prog 39 #[.agg #[.string s, .slice a1 n1 m1, .slice a2 n2 m2, .slice a3 rs.length m3, .slice a4 n4 m4, .slice a5 n5 m5, .slice a6 n6 m6, .slice a7 n7 m7, .slice a8 n8 m8], .slice ao la.length ac, .int .i64 r, .int .u32 i, .int .u32 x] w (TabP w N)) := Lib.hid (fun w hx => by have h := refwrite_any (s := s) (a1 := a1) (n1 := n1) (m1 := m1) (a2 := a2) (n2 := n2) (m2 := m2) (a4 := a4) (n4 := n4) (m4 := m4) (a5 := a5) (n5 := n5) (m5 := m5) (a6 := a6) (n6 := n6) (m6 := m6) (a7 := a7) (n7 := n7) (m7 := m7) (a8 := a8) (n8 := n8) (m8 := m8) (HR.out.ext (fun _ _ h => h.ext hx) hx) (HA.out.ext (fun _ _ h => h.ext hx) hx) l2 l3 r i x hib.1 hib.2 hxb.1 hxb.2; rw [← hN] at h; exact h)
    clear hta hy hN
    go_enter Try.func10, Try.ntmps10
    go_wp2_with fail
    refine (HTA.out _ grows).mono ?_
    rintro e w1 ⟨rfl, xw1⟩
    have sw1 := Step.mk xw1
    go_wp2_with fail
    refine Rel.region (W := w1) (Rel.tab [(6, fun v _ => v = .int .u32 y), (13, fun v _ => v = .int .u32 y), (24, fun v w => Rows w 1 RowR v N), (33, fun v w => Rows w 1 RowR v N), (34, fun v _ => v = .bool true), (37, fun v _ => v = .bool true)]) (Rel.tab_lasts (by intro p hp v w w' hr hx; simp only [List.mem_cons, List.not_mem_nil, or_false] at hp; rcases hp with rfl | rfl | rfl | rfl | rfl | rfl; (· exact hr); (· exact hr); (· exact Rows.ext hr (fun _ _ h => h.ext hx) hx); (· exact Rows.ext hr (fun _ _ h => h.ext hx) hx); (· exact hr); (· exact hr))) (by kernel_rfl) (by kernel_rfl) (Ext.refl _) ?_
    refine Rel.chunk 6 rfl rfl rfl ?_
    simp only [List.take_succ_cons, List.take_zero, List.drop_succ_cons, List.drop_zero, Nat.reduceAdd]
    repeat (go_big_quiet_step (fail))
    refine wpQuiet_nil ?_
    refine Rel.callG (fun v _ => v = .int .u32 y) rfl rfl rfl Try.func36 (by nofun) (by decide) #[.agg #[.string s, .slice a1 n1 m1, .slice a2 n2 m2, .slice a3 rs.length m3, .slice a4 n4 m4, .slice a5 n5 m5, .slice a6 n6 m6, .slice a7 n7 m7, .slice a8 n8 m8], .slice ao la.length ac, .int .i64 r, .int .u32 i] rfl (fun w hx _ => by refine (HRD.out w ((grows (a := W) (b := w1)).trans hx)).mono ?_; rintro e w9 ⟨he, hx9⟩; exact ⟨_, he, hx9, rfl⟩) ?_
    intro v6 w6 _ _ r6
    subst r6
    simp only [Act.put, List.setIfInBounds_toArray, List.set_cons_succ, List.set_cons_zero]
    refine Rel.chunk 6 rfl rfl rfl ?_
    simp only [List.take_succ_cons, List.take_zero, List.drop_succ_cons, List.drop_zero, Nat.reduceAdd]
    repeat (go_big_quiet_step (fail))
    refine wpQuiet_nil ?_
    refine Rel.callG (fun v _ => v = .int .u32 y) rfl rfl rfl Try.func37 (by nofun) (by decide) #[.agg #[.string s, .slice a1 n1 m1, .slice a2 n2 m2, .slice a3 rs.length m3, .slice a4 n4 m4, .slice a5 n5 m5, .slice a6 n6 m6, .slice a7 n7 m7, .slice a8 n8 m8], .slice ao la.length ac, .int .i64 r, .int .u32 i] rfl (fun w hx _ => by refine (HRR.out w ((grows (a := W) (b := w1)).trans hx)).mono ?_; rintro e w9 ⟨he, hx9⟩; exact ⟨_, he, hx9, rfl⟩) ?_
    intro v13 w13 _ _ r13
    subst r13
    simp only [Act.put, List.setIfInBounds_toArray, List.set_cons_succ, List.set_cons_zero]
    refine Rel.chunk 10 rfl rfl rfl ?_
    simp only [List.take_succ_cons, List.take_zero, List.drop_succ_cons, List.drop_zero, Nat.reduceAdd]
    repeat (go_big_quiet_step (fail))
    refine wpQuiet_nil ?_
    refine Rel.callG (fun v w => Rows w 1 RowR v N) rfl rfl rfl Try.func38 (by nofun) (by decide) #[.agg #[.string s, .slice a1 n1 m1, .slice a2 n2 m2, .slice a3 rs.length m3, .slice a4 n4 m4, .slice a5 n5 m5, .slice a6 n6 m6, .slice a7 n7 m7, .slice a8 n8 m8], .slice ao la.length ac, .int .i64 r, .int .u32 i, .int .u32 x] rfl (fun w hx _ => by refine (HWR.out w ((grows (a := W) (b := w1)).trans hx)).mono ?_; rintro e w9 ⟨u9, vs9, he, hx9, ht9⟩; exact ⟨u9, he, hx9, ht9.rows⟩) ?_
    intro v24 w24 _ _ _
    simp only [Act.put, List.setIfInBounds_toArray, List.set_cons_succ, List.set_cons_zero]
    refine Rel.chunk 8 rfl rfl rfl ?_
    simp only [List.take_succ_cons, List.take_zero, List.drop_succ_cons, List.drop_zero, Nat.reduceAdd]
    repeat (go_big_quiet_step (fail))
    refine wpQuiet_nil ?_
    refine Rel.callG (fun v w => Rows w 1 RowR v N) rfl rfl rfl Try.func39 (by nofun) (by decide) #[.agg #[.string s, .slice a1 n1 m1, .slice a2 n2 m2, .slice a3 rs.length m3, .slice a4 n4 m4, .slice a5 n5 m5, .slice a6 n6 m6, .slice a7 n7 m7, .slice a8 n8 m8], .slice ao la.length ac, .int .i64 r, .int .u32 i, .int .u32 x] rfl (fun w hx _ => by refine (HRW.out w ((grows (a := W) (b := w1)).trans hx)).mono ?_; rintro e w9 ⟨u9, vs9, he, hx9, ht9⟩; exact ⟨u9, he, hx9, ht9.rows⟩) ?_
    intro v33 w33 _ _ _
    simp only [Act.put, List.setIfInBounds_toArray, List.set_cons_succ, List.set_cons_zero]
    refine Rel.callG (fun v _ => v = .bool true) rfl rfl rfl Try.func30 (by nofun) (by decide) #[v24, v33] rfl (fun w hx hf => by have e1 := (hf 24 (by kernel_rfl)).1.2 rfl; have e2 := (hf 33 (by kernel_rfl)).2 rfl; have h := refequal_any e1 e2; rw [decide_eq_true rfl] at h; refine h.mono ?_; rintro e w9 ⟨he, hx9⟩; exact ⟨_, he, hx9, rfl⟩) ?_
    intro v34 w34 _ _ r34
    subst r34
    simp only [Act.put, List.setIfInBounds_toArray, List.set_cons_succ, List.set_cons_zero]
    refine Rel.chunk 2 rfl rfl rfl ?_
    simp only [List.take_succ_cons, List.take_zero, List.drop_succ_cons, List.drop_zero, Nat.reduceAdd]
    repeat (go_big_quiet_step (fail))
    refine wpQuiet_nil ?_
    refine Rel.callG (fun v _ => v = .bool true) rfl rfl rfl Try.func26 (by nofun) (by decide) #[] rfl (fun w hx _ => by refine (rworks_any w).mono ?_; rintro e w9 ⟨he, hx9⟩; exact ⟨_, he, hx9, rfl⟩) ?_
    intro v37 w37 _ _ r37
    subst r37
    simp only [Act.put, List.setIfInBounds_toArray, List.set_cons_succ, List.set_cons_zero]
    refine Rel.chunk 2 rfl rfl rfl ?_
    simp only [List.take_succ_cons, List.take_zero, List.drop_succ_cons, List.drop_zero, Nat.reduceAdd]
    repeat (go_big_quiet_step (fail))
    refine wpQuiet_nil ?_
    refine Rel.fin ?_
    intro w8 hx8 _
    have s8 := Step.mk hx8
    go_wp2_with fail
    go_ret
    exact ⟨rfl, grows⟩
end Go.Proofs.Ytnmamcplbeiehaa
