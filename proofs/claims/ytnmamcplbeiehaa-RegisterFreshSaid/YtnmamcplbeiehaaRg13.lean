/- Registers: the law Contents, walked. No condition. -/
import Derived.Test.YtnmamcplbeiehaaRg12
import Derived.Test.YtnmamcplbeiehaaRel
namespace Go.Proofs.Ytnmamcplbeiehaa
open Go.RowKit

namespace Rg
theorem too_len {rs : List Reg} {ls : List (List Int)} (h : tooB rs ls = false) : rs.length ≤ 8 ∧ ls.length ≤ 8 ∧ ∀ l ∈ ls, l.length ≤ 1000 := by
  unfold tooB at h
  simp only [Bool.or_eq_false_iff, decide_eq_false_iff_not, Bool.not_eq_false'] at h
  obtain ⟨h1, h2, h3⟩ := h
  refine ⟨by omega, by omega, fun l hl => ?_⟩
  obtain ⟨j, hj, rfl⟩ := List.mem_iff_getElem.1 hl
  have := List.all_eq_true.1 h3 j (List.mem_range.2 hj)
  rw [List.getD_eq_getElem?_getD, List.getElem?_eq_getElem hj] at this
  have := of_decide_eq_true this
  simp only [Option.getD_some] at this
  omega
end Rg
set_option maxRecDepth 8000 in
set_option maxHeartbeats 4000000 in
theorem registerContents_walk (v0 v1 v2 : Value) (W : World) {b0 b1 b2 : Nat} {r0 r1 r2 : Reach} {H : Type} {enc : TypeId × Value → H} {d0 d1 d2 : DataW H} {p0 p1 p2 : List MemPlace}
    (ok0 : Value.okWide Try.prog W r0 b0 76 v0) (h0 : DataW.Trod enc Try.prog W 0 (fun _ => true) true 76 v0 d0 p0)
    (ok1 : Value.okWide Try.prog W r1 b1 77 v1) (h1 : DataW.Trod enc Try.prog W 0 (fun _ => true) true 77 v1 d1 p1)
    (ok2 : Value.okWide Try.prog W r2 b2 77 v2) (h2 : DataW.Trod enc Try.prog W 0 (fun _ => true) true 77 v2 d2 p2) :
    Calls Try.prog 9 #[v0, v1, v2] W (Rets W (.bool true)) := by
  obtain ⟨s, a1, n1, m1, a2, n2, m2, a3, m3, a4, n4, m4, a5, n5, m5, a6, n6, m6, a7, n7, m7, a8, n8, m8, rs, rfl, hr⟩ := rprog_take ok0 h0
  obtain ⟨la, hla⟩ := tab_take ok1 h1
  obtain ⟨lb, hlb⟩ := tab_take ok2 h2
  obtain ⟨ao, ac, rfl, _, _⟩ := hla.slice
  obtain ⟨bo, bc, rfl, _, _⟩ := hlb.slice
  clear ok0 h0 ok1 h1 ok2 h2 d0 d1 d2
  have HR := Lib.hid hr
  have HA := Lib.hid hla
  have HB := Lib.hid hlb
  have bb := alloc_heap W (.cells #[.string s, .slice a1 n1 m1, .slice a2 n2 m2, .slice a3 rs.length m3, .slice a4 n4 m4, .slice a5 n5 m5, .slice a6 n6 m6, .slice a7 n7 m7, .slice a8 n8 m8] 76)
  have p0 := alw (cell_of (o := 0) bb)
  have p1 := alw (cell_of (o := 1) bb)
  have p2 := alw (cell_of (o := 2) bb)
  have p3 := alw (cell_of (o := 3) bb)
  have p4 := alw (cell_of (o := 4) bb)
  have p5 := alw (cell_of (o := 5) bb)
  have p6 := alw (cell_of (o := 6) bb)
  have p7 := alw (cell_of (o := 7) bb)
  have p8 := alw (cell_of (o := 8) bb)
  clear bb
  obtain ⟨ta, hta⟩ : ∃ t, t = Rg.tooB rs la := ⟨_, rfl⟩
  obtain ⟨tb, htb⟩ : ∃ t, t = Rg.tooB rs lb := ⟨_, rfl⟩
  have HTA : Hid (∀ w, Ext W w → Calls Try.prog 29 #[.agg #[.string s, .slice a1 n1 m1, .slice a2 n2 m2, .slice a3 rs.length m3, .slice a4 n4 m4, .slice a5 n5 m5, .slice a6 n6 m6, .slice a7 n7 m7, .slice a8 n8 m8], .slice ao la.length ac] w (Rets w (.bool ta))) := Lib.hid (fun w hx => by have h := too_any (s := s) (a1 := a1) (n1 := n1) (m1 := m1) (a2 := a2) (n2 := n2) (m2 := m2) (a4 := a4) (n4 := n4) (m4 := m4) (a5 := a5) (n5 := n5) (m5 := m5) (a6 := a6) (n6 := n6) (m6 := m6) (a7 := a7) (n7 := n7) (m7 := m7) (a8 := a8) (n8 := n8) (m8 := m8) (HR.out.ext (fun _ _ h => h.ext hx) hx) (HA.out.ext (fun _ _ h => h.ext hx) hx); rw [← hta] at h; exact h)
  have HTB : Hid (∀ w, Ext W w → Calls Try.prog 29 #[.agg #[.string s, .slice a1 n1 m1, .slice a2 n2 m2, .slice a3 rs.length m3, .slice a4 n4 m4, .slice a5 n5 m5, .slice a6 n6 m6, .slice a7 n7 m7, .slice a8 n8 m8], .slice bo lb.length bc] w (Rets w (.bool tb))) := Lib.hid (fun w hx => by have h := too_any (s := s) (a1 := a1) (n1 := n1) (m1 := m1) (a2 := a2) (n2 := n2) (m2 := m2) (a4 := a4) (n4 := n4) (m4 := m4) (a5 := a5) (n5 := n5) (m5 := m5) (a6 := a6) (n6 := n6) (m6 := m6) (a7 := a7) (n7 := n7) (m7 := m7) (a8 := a8) (n8 := n8) (m8 := m8) (HR.out.ext (fun _ _ h => h.ext hx) hx) (HB.out.ext (fun _ _ h => h.ext hx) hx); rw [← htb] at h; exact h)
  clear hr hla hlb
  cases ta with
  | true =>
    clear hta htb
    go_enter Try.func9, Try.ntmps9
    go_wp2_with fail
    refine (HTA.out _ grows).mono ?_
    rintro e w1 ⟨rfl, xw1⟩
    have sw1 := Step.mk xw1
    go_wp2_with fail
    refine (rworks_any _).mono ?_
    rintro e w5 ⟨rfl, x5⟩
    have s5 := Step.mk x5
    go_wp2_with fail
    go_ret
    exact ⟨rfl, grows⟩
  | false =>
    cases tb with
    | true =>
      clear hta htb
      go_enter Try.func9, Try.ntmps9
      go_wp2_with fail
      refine (HTA.out _ grows).mono ?_
      rintro e w1 ⟨rfl, xw1⟩
      have sw1 := Step.mk xw1
      go_wp2_with fail
      refine (HTB.out _ grows).mono ?_
      rintro e w2 ⟨rfl, xw2⟩
      have sw2 := Step.mk xw2
      go_wp2_with fail
      refine (rworks_any _).mono ?_
      rintro e w5 ⟨rfl, x5⟩
      have s5 := Step.mk x5
      go_wp2_with fail
      go_ret
      exact ⟨rfl, grows⟩
    | false =>
      obtain ⟨l1, l2, l3⟩ := Rg.too_len hta.symm
      obtain ⟨N, hN⟩ : ∃ N, N = Rg.new rs := ⟨_, rfl⟩
      obtain ⟨C, hC⟩ : ∃ C, C = Rg.cc rs la := ⟨_, rfl⟩
      obtain ⟨q, hq⟩ : ∃ q, q = decide (la = lb) := ⟨_, rfl⟩
      have HNW : Hid (∀ w, Ext W w → Calls Try.prog 31 #[.agg #[.string s, .slice a1 n1 m1, .slice a2 n2 m2, .slice a3 rs.length m3, .slice a4 n4 m4, .slice a5 n5 m5, .slice a6 n6 m6, .slice a7 n7 m7, .slice a8 n8 m8]] w (TabP w N)) := Lib.hid (fun w hx => by have h := new_any (s := s) (a1 := a1) (n1 := n1) (m1 := m1) (a2 := a2) (n2 := n2) (m2 := m2) (a4 := a4) (n4 := n4) (m4 := m4) (a5 := a5) (n5 := n5) (m5 := m5) (a6 := a6) (n6 := n6) (m6 := m6) (a7 := a7) (n7 := n7) (m7 := m7) (a8 := a8) (n8 := n8) (m8 := m8) (HR.out.ext (fun _ _ h => h.ext hx) hx) l1; rw [← hN] at h; exact h)
      have HRN : Hid (∀ w, Ext W w → Calls Try.prog 32 #[.agg #[.string s, .slice a1 n1 m1, .slice a2 n2 m2, .slice a3 rs.length m3, .slice a4 n4 m4, .slice a5 n5 m5, .slice a6 n6 m6, .slice a7 n7 m7, .slice a8 n8 m8]] w (TabP w N)) := Lib.hid (fun w hx => by have h := refnew_any (s := s) (a1 := a1) (n1 := n1) (m1 := m1) (a2 := a2) (n2 := n2) (m2 := m2) (a4 := a4) (n4 := n4) (m4 := m4) (a5 := a5) (n5 := n5) (m5 := m5) (a6 := a6) (n6 := n6) (m6 := m6) (a7 := a7) (n7 := n7) (m7 := m7) (a8 := a8) (n8 := n8) (m8 := m8) (HR.out.ext (fun _ _ h => h.ext hx) hx) l1; rw [← hN] at h; exact h)
      have HCC : Hid (∀ w, Ext W w → Calls Try.prog 33 #[.agg #[.string s, .slice a1 n1 m1, .slice a2 n2 m2, .slice a3 rs.length m3, .slice a4 n4 m4, .slice a5 n5 m5, .slice a6 n6 m6, .slice a7 n7 m7, .slice a8 n8 m8], .slice ao la.length ac] w (Rets w (.int .i64 C))) := Lib.hid (fun w hx => by have h := cc_any (s := s) (a1 := a1) (n1 := n1) (m1 := m1) (a2 := a2) (n2 := n2) (m2 := m2) (a4 := a4) (n4 := n4) (m4 := m4) (a5 := a5) (n5 := n5) (m5 := m5) (a6 := a6) (n6 := n6) (m6 := m6) (a7 := a7) (n7 := n7) (m7 := m7) (a8 := a8) (n8 := n8) (m8 := m8) (HR.out.ext (fun _ _ h => h.ext hx) hx) (HA.out.ext (fun _ _ h => h.ext hx) hx); rw [← hC] at h; exact h)
      have HRC : Hid (∀ w, Ext W w → Calls Try.prog 34 #[.agg #[.string s, .slice a1 n1 m1, .slice a2 n2 m2, .slice a3 rs.length m3, .slice a4 n4 m4, .slice a5 n5 m5, .slice a6 n6 m6, .slice a7 n7 m7, .slice a8 n8 m8], .slice ao la.length ac] w (Rets w (.int .i64 C))) := Lib.hid (fun w hx => by have h := refcc_any (s := s) (a1 := a1) (n1 := n1) (m1 := m1) (a2 := a2) (n2 := n2) (m2 := m2) (a4 := a4) (n4 := n4) (m4 := m4) (a5 := a5) (n5 := n5) (m5 := m5) (a6 := a6) (n6 := n6) (m6 := m6) (a7 := a7) (n7 := n7) (m7 := m7) (a8 := a8) (n8 := n8) (m8 := m8) (HR.out.ext (fun _ _ h => h.ext hx) hx) (HA.out.ext (fun _ _ h => h.ext hx) hx); rw [← hC] at h; exact h)
      have HEQ : Hid (∀ w, Ext W w → Calls Try.prog 35 #[.slice ao la.length ac, .slice bo lb.length bc] w (Rets w (.bool q))) := Lib.hid (fun w hx => by have h := equal_any (HA.out.ext (fun _ _ h => h.ext hx) hx) (HB.out.ext (fun _ _ h => h.ext hx) hx); rw [← hq] at h; exact h)
      have HRQ : Hid (∀ w, Ext W w → Calls Try.prog 30 #[.slice ao la.length ac, .slice bo lb.length bc] w (Rets w (.bool q))) := Lib.hid (fun w hx => by have h := refequal_any (HA.out.ext (fun _ _ h => h.ext hx) hx) (HB.out.ext (fun _ _ h => h.ext hx) hx); rw [← hq] at h; exact h)
      have HSE : Hid (∀ w, Ext W w → Calls Try.prog 35 #[.slice ao la.length ac, .slice ao la.length ac] w (Rets w (.bool true))) := Lib.hid (fun w hx => by have h := equal_any (HA.out.ext (fun _ _ h => h.ext hx) hx) (HA.out.ext (fun _ _ h => h.ext hx) hx); rw [decide_eq_true rfl] at h; exact h)
      clear hta htb hN hC hq
      go_enter Try.func9, Try.ntmps9
      go_wp2_with fail
      refine (HTA.out _ grows).mono ?_
      rintro e w1 ⟨rfl, xw1⟩
      have sw1 := Step.mk xw1
      go_wp2_with fail
      refine (HTB.out _ grows).mono ?_
      rintro e w2 ⟨rfl, xw2⟩
      have sw2 := Step.mk xw2
      go_wp2_with fail
      refine Rel.region (W := w2) (Rel.tab [(1, fun v w => Rows w 1 RowR v N), (3, fun v w => Rows w 1 RowR v N), (4, fun v _ => v = .bool true), (8, fun v _ => v = .int .i64 C), (11, fun v _ => v = .int .i64 C), (17, fun v _ => v = .bool q), (20, fun v _ => v = .bool q), (26, fun v _ => v = .bool true), (29, fun v _ => v = .bool true)]) (Rel.tab_lasts (by intro p hp v w w' hr hx; simp only [List.mem_cons, List.not_mem_nil, or_false] at hp; rcases hp with rfl | rfl | rfl | rfl | rfl | rfl | rfl | rfl | rfl; (· exact Rows.ext hr (fun _ _ h => h.ext hx) hx); (· exact Rows.ext hr (fun _ _ h => h.ext hx) hx); (· exact hr); (· exact hr); (· exact hr); (· exact hr); (· exact hr); (· exact hr); (· exact hr))) (by kernel_rfl) (by kernel_rfl) (Ext.refl _) ?_
      refine Rel.chunk 1 rfl rfl rfl ?_
      simp only [List.take_succ_cons, List.take_zero, List.drop_succ_cons, List.drop_zero, Nat.reduceAdd]
      repeat (go_big_quiet_step (fail))
      refine wpQuiet_nil ?_
      refine Rel.callG (fun v w => Rows w 1 RowR v N) rfl rfl rfl Try.func31 (by nofun) (by decide) #[.agg #[.string s, .slice a1 n1 m1, .slice a2 n2 m2, .slice a3 rs.length m3, .slice a4 n4 m4, .slice a5 n5 m5, .slice a6 n6 m6, .slice a7 n7 m7, .slice a8 n8 m8]] rfl (fun w hx _ => by refine (HNW.out w ((grows (a := W) (b := w2)).trans hx)).mono ?_; rintro e w9 ⟨u9, vs9, he, hx9, ht9⟩; exact ⟨u9, he, hx9, ht9.rows⟩) ?_
      intro v1 w1 _ _ _
      simp only [Act.put, List.setIfInBounds_toArray, List.set_cons_succ, List.set_cons_zero]
      refine Rel.chunk 1 rfl rfl rfl ?_
      simp only [List.take_succ_cons, List.take_zero, List.drop_succ_cons, List.drop_zero, Nat.reduceAdd]
      repeat (go_big_quiet_step (fail))
      refine wpQuiet_nil ?_
      refine Rel.callG (fun v w => Rows w 1 RowR v N) rfl rfl rfl Try.func32 (by nofun) (by decide) #[.agg #[.string s, .slice a1 n1 m1, .slice a2 n2 m2, .slice a3 rs.length m3, .slice a4 n4 m4, .slice a5 n5 m5, .slice a6 n6 m6, .slice a7 n7 m7, .slice a8 n8 m8]] rfl (fun w hx _ => by refine (HRN.out w ((grows (a := W) (b := w2)).trans hx)).mono ?_; rintro e w9 ⟨u9, vs9, he, hx9, ht9⟩; exact ⟨u9, he, hx9, ht9.rows⟩) ?_
      intro v3 w3 _ _ _
      simp only [Act.put, List.setIfInBounds_toArray, List.set_cons_succ, List.set_cons_zero]
      refine Rel.callG (fun v _ => v = .bool true) rfl rfl rfl Try.func30 (by nofun) (by decide) #[v1, v3] rfl (fun w hx hf => by have e1 := (hf 1 (by kernel_rfl)).1.2 rfl; have e2 := (hf 3 (by kernel_rfl)).2 rfl; have h := refequal_any e1 e2; rw [decide_eq_true rfl] at h; refine h.mono ?_; rintro e w9 ⟨he, hx9⟩; exact ⟨_, he, hx9, rfl⟩) ?_
      intro v4 w4 _ _ r4
      subst r4
      simp only [Act.put, List.setIfInBounds_toArray, List.set_cons_succ, List.set_cons_zero]
      refine Rel.chunk 3 rfl rfl rfl ?_
      simp only [List.take_succ_cons, List.take_zero, List.drop_succ_cons, List.drop_zero, Nat.reduceAdd]
      repeat (go_big_quiet_step (fail))
      refine wpQuiet_nil ?_
      refine Rel.callG (fun v _ => v = .int .i64 C) rfl rfl rfl Try.func33 (by nofun) (by decide) #[.agg #[.string s, .slice a1 n1 m1, .slice a2 n2 m2, .slice a3 rs.length m3, .slice a4 n4 m4, .slice a5 n5 m5, .slice a6 n6 m6, .slice a7 n7 m7, .slice a8 n8 m8], .slice ao la.length ac] rfl (fun w hx _ => by refine (HCC.out w ((grows (a := W) (b := w2)).trans hx)).mono ?_; rintro e w9 ⟨he, hx9⟩; exact ⟨_, he, hx9, rfl⟩) ?_
      intro v8 w8 _ _ r8
      subst r8
      simp only [Act.put, List.setIfInBounds_toArray, List.set_cons_succ, List.set_cons_zero]
      refine Rel.chunk 2 rfl rfl rfl ?_
      simp only [List.take_succ_cons, List.take_zero, List.drop_succ_cons, List.drop_zero, Nat.reduceAdd]
      repeat (go_big_quiet_step (fail))
      refine wpQuiet_nil ?_
      refine Rel.callG (fun v _ => v = .int .i64 C) rfl rfl rfl Try.func34 (by nofun) (by decide) #[.agg #[.string s, .slice a1 n1 m1, .slice a2 n2 m2, .slice a3 rs.length m3, .slice a4 n4 m4, .slice a5 n5 m5, .slice a6 n6 m6, .slice a7 n7 m7, .slice a8 n8 m8], .slice ao la.length ac] rfl (fun w hx _ => by refine (HRC.out w ((grows (a := W) (b := w2)).trans hx)).mono ?_; rintro e w9 ⟨he, hx9⟩; exact ⟨_, he, hx9, rfl⟩) ?_
      intro v11 w11 _ _ r11
      subst r11
      simp only [Act.put, List.setIfInBounds_toArray, List.set_cons_succ, List.set_cons_zero]
      refine Rel.chunk 5 rfl rfl rfl ?_
      simp only [List.take_succ_cons, List.take_zero, List.drop_succ_cons, List.drop_zero, Nat.reduceAdd]
      repeat (go_big_quiet_step (fail))
      refine wpQuiet_nil ?_
      refine Rel.callG (fun v _ => v = .bool q) rfl rfl rfl Try.func35 (by nofun) (by decide) #[.slice ao la.length ac, .slice bo lb.length bc] rfl (fun w hx _ => by refine (HEQ.out w ((grows (a := W) (b := w2)).trans hx)).mono ?_; rintro e w9 ⟨he, hx9⟩; exact ⟨_, he, hx9, rfl⟩) ?_
      intro v17 w17 _ _ r17
      subst r17
      simp only [Act.put, List.setIfInBounds_toArray, List.set_cons_succ, List.set_cons_zero]
      refine Rel.chunk 2 rfl rfl rfl ?_
      simp only [List.take_succ_cons, List.take_zero, List.drop_succ_cons, List.drop_zero, Nat.reduceAdd]
      repeat (go_big_quiet_step (fail))
      refine wpQuiet_nil ?_
      refine Rel.callG (fun v _ => v = .bool q) rfl rfl rfl Try.func30 (by nofun) (by decide) #[.slice ao la.length ac, .slice bo lb.length bc] rfl (fun w hx _ => by refine (HRQ.out w ((grows (a := W) (b := w2)).trans hx)).mono ?_; rintro e w9 ⟨he, hx9⟩; exact ⟨_, he, hx9, rfl⟩) ?_
      intro v20 w20 _ _ r20
      subst r20
      simp only [Act.put, List.setIfInBounds_toArray, List.set_cons_succ, List.set_cons_zero]
      refine Rel.chunk 5 rfl rfl rfl ?_
      simp only [List.take_succ_cons, List.take_zero, List.drop_succ_cons, List.drop_zero, Nat.reduceAdd]
      repeat (go_big_quiet_step (fail))
      refine wpQuiet_nil ?_
      refine Rel.callG (fun v _ => v = .bool true) rfl rfl rfl Try.func35 (by nofun) (by decide) #[.slice ao la.length ac, .slice ao la.length ac] rfl (fun w hx _ => by refine (HSE.out w ((grows (a := W) (b := w2)).trans hx)).mono ?_; rintro e w9 ⟨he, hx9⟩; exact ⟨_, he, hx9, rfl⟩) ?_
      intro v26 w26 _ _ r26
      subst r26
      simp only [Act.put, List.setIfInBounds_toArray, List.set_cons_succ, List.set_cons_zero]
      refine Rel.chunk 2 rfl rfl rfl ?_
      simp only [List.take_succ_cons, List.take_zero, List.drop_succ_cons, List.drop_zero, Nat.reduceAdd]
      repeat (go_big_quiet_step (fail))
      refine wpQuiet_nil ?_
      refine Rel.callG (fun v _ => v = .bool true) rfl rfl rfl Try.func26 (by nofun) (by decide) #[] rfl (fun w hx _ => by refine (rworks_any w).mono ?_; rintro e w9 ⟨he, hx9⟩; exact ⟨_, he, hx9, rfl⟩) ?_
      intro v29 w29 _ _ r29
      subst r29
      simp only [Act.put, List.setIfInBounds_toArray, List.set_cons_succ, List.set_cons_zero]
      refine Rel.chunk 2 rfl rfl rfl ?_
      simp only [List.take_succ_cons, List.take_zero, List.drop_succ_cons, List.drop_zero, Nat.reduceAdd]
      repeat (go_big_quiet_step (fail))
      refine wpQuiet_nil ?_
      refine Rel.fin ?_
      intro w8 hx8 _
      have s8 := Step.mk hx8
      go_wp2_with fail
      go_ret
      exact ⟨rfl, grows⟩
end Go.Proofs.Ytnmamcplbeiehaa
